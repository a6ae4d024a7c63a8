/- Shaken copy of a longer text: what one law needs. Its conditions: none. -/
import Derived.Test.YtfleilibjdgcjaaZAiE
set_option linter.unusedSimpArgs false
set_option linter.unusedVariables false
namespace Go.Proofs.Ytfleilibjdgcjaa.O
open Go.AI
structure Name where
 space:List UInt8
 prefix_:List UInt8
 local_:List UInt8
 deriving DecidableEq,Inhabited
def Name.zero:Name:=⟨[],[],[]⟩
def zbN (x:Name):D:= .agg [.str x.space,.str x.prefix_,.str x.local_]
def zIQ:Ty:= .agg [.str,.str,.str]
def Name.ok (x:Name):Prop:=x.space.length≤maxLen∧x.prefix_.length≤maxLen∧x.local_.length≤maxLen
theorem zxw (x:Name):(zbN x).cells.length=3:=Eq.trans rfl rfl
theorem zxx (x:Name):D.sub (zbN x) 0 (some 3)=some (zbN x):=rfl
theorem zqf (x:Name):D.sub (zbN x) 0 none=some (.str x.space):=rfl
theorem zlQ (x:Name):D.sub (zbN x) 1 none=some (.str x.prefix_):=rfl
theorem zoh (x:Name):D.sub (zbN x) 2 none=some (.str x.local_):=rfl
theorem zoi (x y:Name):binV .eql (.agg [.str,.str,.str]) (.d (zbN x)) (.d (zbN y))=some (.d (.bool (decide (x=y)))):=by
 refine zHG ?_
 simp only[eqV,zbN,zaJ,zbr,if_true,Option.bind_some,Option.map_some]
 congr 1
 rw[Bool.eq_iff_iff];rcases x with⟨a1,a2,a3⟩;rcases y with⟨b1,b2,b3⟩;simp[and_assoc]
theorem ztE (x:Name) (y0:List UInt8) (y1:List UInt8) (y2:List UInt8):binV .eql (.agg [.str,.str,.str]) (.d (zbN x)) (.d (.agg [.str y0,.str y1,.str y2]))=some (.d (.bool (decide (x=⟨y0,y1,y2⟩)))):=zoi x ⟨y0,y1,y2⟩
theorem zoj (x y:Name):binV .neq (.agg [.str,.str,.str]) (.d (zbN x)) (.d (zbN y))=some (.d (.bool (!decide (x=y)))):=by
 refine zHH ?_
 simp only[eqV,zbN,zaJ,zbr,if_true,Option.bind_some,Option.map_some]
 congr 1
 rw[Bool.eq_iff_iff];rcases x with⟨a1,a2,a3⟩;rcases y with⟨b1,b2,b3⟩;simp[and_assoc]
theorem ztF (x:Name) (y0:List UInt8) (y1:List UInt8) (y2:List UInt8):binV .neq (.agg [.str,.str,.str]) (.d (zbN x)) (.d (.agg [.str y0,.str y1,.str y2]))=some (.d (.bool (!decide (x=⟨y0,y1,y2⟩)))):=zoj x ⟨y0,y1,y2⟩
attribute [go_sem] zxw zxx zqf zlQ zoh zoi ztE zoj ztF
theorem Name.of {d:D} (h:HasTy zIQ d):∃x:Name,d=zbN x∧Name.ok x:=by
 obtain⟨xs,rfl,hl,hx⟩:=h.agg_inv
 match xs,hl with
 |[x0,x1,x2],_=>
  obtain⟨y0,rfl,k0⟩:=HasTy.str_inv (hx 0 _ _ rfl rfl)
  obtain⟨y1,rfl,k1⟩:=HasTy.str_inv (hx 1 _ _ rfl rfl)
  obtain⟨y2,rfl,k2⟩:=HasTy.str_inv (hx 2 _ _ rfl rfl)
  exact⟨⟨y0,y1,y2⟩,rfl,⟨k0,k1,k2⟩⟩
structure Attr where
 name:Name
 value:List UInt8
 deriving DecidableEq,Inhabited
def Attr.zero:Attr:=⟨Name.zero,[]⟩
def zaN (x:Attr):D:= .agg [.str x.name.space,.str x.name.prefix_,.str x.name.local_,.str x.value]
def zCJ:Ty:= .agg [.str,.str,.str,.str]
def Attr.ok (x:Attr):Prop:=Name.ok x.name∧x.value.length≤maxLen
theorem zxy (x:Attr):(zaN x).cells.length=4:=Eq.trans rfl rfl
theorem zxz (x:Attr):D.sub (zaN x) 0 (some 4)=some (zaN x):=rfl
theorem zok (x:Attr) (cs:List D) (h:cs.length=4):V.upd (.d (.agg cs)) 0 4 (.d (zaN x))=some (.d (zaN x)):=zjJ (by simpa using h) rfl (by decide) rfl
theorem ztG (x:Attr):D.sub (zaN x) 0 (some 3)=some (zbN x.name):=rfl
theorem ziG (x:Attr):D.sub (zaN x) 0 none=some (.str x.name.space):=rfl
theorem zgV (x:Attr):D.sub (zaN x) 1 none=some (.str x.name.prefix_):=rfl
theorem zhH (x:Attr):D.sub (zaN x) 2 none=some (.str x.name.local_):=rfl
theorem zqg (x:Attr):D.sub (zaN x) 3 none=some (.str x.value):=rfl
attribute [go_sem] zxy zxz zok ztG ziG zgV zhH zqg
theorem Attr.of {d:D} (h:HasTy zCJ d):∃x:Attr,d=zaN x∧Attr.ok x:=by
 obtain⟨xs,rfl,hl,hx⟩:=h.agg_inv
 match xs,hl with
 |[x0,x1,x2,x3],_=>
  obtain⟨y0,rfl,k0⟩:=HasTy.str_inv (hx 0 _ _ rfl rfl)
  obtain⟨y1,rfl,k1⟩:=HasTy.str_inv (hx 1 _ _ rfl rfl)
  obtain⟨y2,rfl,k2⟩:=HasTy.str_inv (hx 2 _ _ rfl rfl)
  obtain⟨y3,rfl,k3⟩:=HasTy.str_inv (hx 3 _ _ rfl rfl)
  exact⟨⟨⟨y0,y1,y2⟩,y3⟩,rfl,⟨⟨k0,k1,k2⟩,k3⟩⟩
structure Node where
 kind:Int
 name:Name
 public_:List UInt8
 system:List UInt8
 data:Sl (Int)
 attrs:Sl (Attr)
 parent:Int
 kids:Sl (Int)
 doc:Int
 host:Int
 shadow:Int
 mode:Int
 manual:Bool
 hTML:Bool
 deriving DecidableEq,Inhabited
def Node.zero:Node:=⟨0,Name.zero,[],[],⟨true,[]⟩,⟨true,[]⟩,0,⟨true,[]⟩,0,0,0,0,false,false⟩
def eNode (x:Node):D:= .agg [.int .u8 x.kind,.str x.name.space,.str x.name.prefix_,.str x.name.local_,.str x.public_,.str x.system,.list x.data.n (x.data.l.map (D.int .u16)),.list x.attrs.n (x.attrs.l.map zaN),.int .i64 x.parent,.list x.kids.n (x.kids.l.map (D.int .i64)),.int .i64 x.doc,.int .i64 x.host,.int .i64 x.shadow,.int .u8 x.mode,.bool x.manual,.bool x.hTML]
def zxA:Ty:= .agg [.int .u8,.str,.str,.str,.str,.str,.list (.int .u16),.list (zCJ),.int .i64,.list (.int .i64),.int .i64,.int .i64,.int .i64,.int .u8,.bool,.bool]
def Node.ok (x:Node):Prop:=(IntKind.u8.min≤x.kind∧x.kind≤IntKind.u8.max)∧Name.ok x.name∧x.public_.length≤maxLen∧x.system.length≤maxLen∧Sl.ok (fun y=>(IntKind.u16.min≤y∧y≤IntKind.u16.max)) x.data∧Sl.ok (fun y=>Attr.ok y) x.attrs∧(IntKind.i64.min≤x.parent∧x.parent≤IntKind.i64.max)∧Sl.ok (fun y=>(IntKind.i64.min≤y∧y≤IntKind.i64.max)) x.kids∧(IntKind.i64.min≤x.doc∧x.doc≤IntKind.i64.max)∧(IntKind.i64.min≤x.host∧x.host≤IntKind.i64.max)∧(IntKind.i64.min≤x.shadow∧x.shadow≤IntKind.i64.max)∧(IntKind.u8.min≤x.mode∧x.mode≤IntKind.u8.max)∧True∧True
theorem zxB (x:Node):(eNode x).cells.length=16:=Eq.trans rfl rfl
theorem zxC (x:Node):D.sub (eNode x) 0 (some 16)=some (eNode x):=rfl
theorem zxD (x:Node) (i:Nat) (m:Option Nat):V.fld i m (.d (eNode x))=(D.sub (eNode x) i m).map .d:=zCX _ _ _
theorem zol (x:Node) (cs:List D) (h:cs.length=16):V.upd (.d (.agg cs)) 0 16 (.d (eNode x))=some (.d (eNode x)):=zjJ (by simpa using h) rfl (by decide) rfl
theorem ztH (x:Node):D.sub (eNode x) 0 none=some (.int .u8 x.kind):=rfl
theorem ztI (x:Node):D.sub (eNode x) 1 (some 3)=some (zbN x.name):=rfl
theorem ziH (x:Node):D.sub (eNode x) 1 none=some (.str x.name.space):=rfl
theorem zgW (x:Node):D.sub (eNode x) 2 none=some (.str x.name.prefix_):=rfl
theorem zhI (x:Node):D.sub (eNode x) 3 none=some (.str x.name.local_):=rfl
theorem zlR (x:Node):D.sub (eNode x) 4 none=some (.str x.public_):=rfl
theorem zom (x:Node):D.sub (eNode x) 5 none=some (.str x.system):=rfl
theorem ztJ (x:Node):D.sub (eNode x) 6 none=some (.list x.data.n (x.data.l.map (D.int .u16))):=rfl
theorem zqh (x:Node):D.sub (eNode x) 7 none=some (.list x.attrs.n (x.attrs.l.map zaN)):=rfl
theorem zon (x:Node):D.sub (eNode x) 8 none=some (.int .i64 x.parent):=rfl
theorem ztK (x:Node):D.sub (eNode x) 9 none=some (.list x.kids.n (x.kids.l.map (D.int .i64))):=rfl
theorem zxE (x:Node):D.sub (eNode x) 10 none=some (.int .i64 x.doc):=rfl
theorem ztL (x:Node):D.sub (eNode x) 11 none=some (.int .i64 x.host):=rfl
theorem zoo (x:Node):D.sub (eNode x) 12 none=some (.int .i64 x.shadow):=rfl
theorem ztM (x:Node):D.sub (eNode x) 13 none=some (.int .u8 x.mode):=rfl
theorem zop (x:Node):D.sub (eNode x) 14 none=some (.bool x.manual):=rfl
theorem ztN (x:Node):D.sub (eNode x) 15 none=some (.bool x.hTML):=rfl
attribute [go_sem] zxB zxC zxD zol ztH ztI ziH zgW zhI zlR zom ztJ zqh zon ztK zxE ztL zoo ztM zop ztN
theorem Node.of {d:D} (h:HasTy zxA d):∃x:Node,d=eNode x∧Node.ok x:=by
 obtain⟨xs,rfl,hl,hx⟩:=h.agg_inv
 match xs,hl with
 |[x0,x1,x2,x3,x4,x5,x6,x7,x8,x9,x10,x11,x12,x13,x14,x15],_=>
  obtain⟨y0,rfl,k0⟩:=HasTy.int_inv (hx 0 _ _ rfl rfl)
  obtain⟨y1,rfl,k1⟩:=HasTy.str_inv (hx 1 _ _ rfl rfl)
  obtain⟨y2,rfl,k2⟩:=HasTy.str_inv (hx 2 _ _ rfl rfl)
  obtain⟨y3,rfl,k3⟩:=HasTy.str_inv (hx 3 _ _ rfl rfl)
  obtain⟨y4,rfl,k4⟩:=HasTy.str_inv (hx 4 _ _ rfl rfl)
  obtain⟨y5,rfl,k5⟩:=HasTy.str_inv (hx 5 _ _ rfl rfl)
  obtain⟨y6,rfl,k6⟩:=(HasTy.sl_inv (fun _ h=>HasTy.int_inv h)) (hx 6 _ _ rfl rfl)
  obtain⟨y7,rfl,k7⟩:=(HasTy.sl_inv (fun _ h=>Attr.of h)) (hx 7 _ _ rfl rfl)
  obtain⟨y8,rfl,k8⟩:=HasTy.int_inv (hx 8 _ _ rfl rfl)
  obtain⟨y9,rfl,k9⟩:=(HasTy.sl_inv (fun _ h=>HasTy.int_inv h)) (hx 9 _ _ rfl rfl)
  obtain⟨y10,rfl,k10⟩:=HasTy.int_inv (hx 10 _ _ rfl rfl)
  obtain⟨y11,rfl,k11⟩:=HasTy.int_inv (hx 11 _ _ rfl rfl)
  obtain⟨y12,rfl,k12⟩:=HasTy.int_inv (hx 12 _ _ rfl rfl)
  obtain⟨y13,rfl,k13⟩:=HasTy.int_inv (hx 13 _ _ rfl rfl)
  obtain⟨y14,rfl,k14⟩:=HasTy.bool_inv (hx 14 _ _ rfl rfl)
  obtain⟨y15,rfl,k15⟩:=HasTy.bool_inv (hx 15 _ _ rfl rfl)
  exact⟨⟨y0,⟨y1,y2,y3⟩,y4,y5,y6,y7,y8,y9,y10,y11,y12,y13,y14,y15⟩,rfl,⟨k0,⟨k1,k2,k3⟩,k4,k5,k6,k7,k8,k9,k10,k11,k12,k13,k14,k15⟩⟩
structure Forest where
 nodes:Sl (Node)
 deriving DecidableEq,Inhabited
def Forest.zero:Forest:=⟨⟨true,[]⟩⟩
def eForest (x:Forest):D:= .agg [.list x.nodes.n (x.nodes.l.map eNode)]
def tyForest:Ty:= .agg [.list (zxA)]
def Forest.ok (x:Forest):Prop:=Sl.ok (fun y=>Node.ok y) x.nodes
theorem zqi (x:Forest):(eForest x).cells.length=1:=Eq.trans rfl rfl
theorem zqj (x:Forest):D.sub (eForest x) 0 (some 1)=some (eForest x):=rfl
theorem zlS (x:Forest):D.sub (eForest x) 0 none=some (.list x.nodes.n (x.nodes.l.map eNode)):=rfl
attribute [go_sem] zqi zqj zlS
theorem Forest.of {d:D} (h:HasTy tyForest d):∃x:Forest,d=eForest x∧Forest.ok x:=by
 obtain⟨xs,rfl,hl,hx⟩:=h.agg_inv
 match xs,hl with
 |[x0],_=>
  obtain⟨y0,rfl,k0⟩:=(HasTy.sl_inv (fun _ h=>Node.of h)) (hx 0 _ _ rfl rfl)
  exact⟨⟨y0⟩,rfl,k0⟩
structure Change where
 kind:Int
 node:Int
 parent:Int
 index:Int
 other:Int
 doc:Int
 offset:Int
 count:Int
 data:Sl (Int)
 name:Name
 old:List UInt8
 value:List UInt8
 had:Bool
 has:Bool
 made:Node
 added:Sl (Int)
 removed:Sl (Int)
 prev:Int
 next:Int
 deriving DecidableEq,Inhabited
def Change.zero:Change:=⟨0,0,0,0,0,0,0,0,⟨true,[]⟩,Name.zero,[],[],false,false,Node.zero,⟨true,[]⟩,⟨true,[]⟩,0,0⟩
def zaL (x:Change):D:= .agg [.int .u8 x.kind,.int .i64 x.node,.int .i64 x.parent,.int .i64 x.index,.int .i64 x.other,.int .i64 x.doc,.int .i64 x.offset,.int .i64 x.count,.list x.data.n (x.data.l.map (D.int .u16)),.str x.name.space,.str x.name.prefix_,.str x.name.local_,.str x.old,.str x.value,.bool x.had,.bool x.has,.int .u8 x.made.kind,.str x.made.name.space,.str x.made.name.prefix_,.str x.made.name.local_,.str x.made.public_,.str x.made.system,.list x.made.data.n (x.made.data.l.map (D.int .u16)),.list x.made.attrs.n (x.made.attrs.l.map zaN),.int .i64 x.made.parent,.list x.made.kids.n (x.made.kids.l.map (D.int .i64)),.int .i64 x.made.doc,.int .i64 x.made.host,.int .i64 x.made.shadow,.int .u8 x.made.mode,.bool x.made.manual,.bool x.made.hTML,.list x.added.n (x.added.l.map (D.int .i64)),.list x.removed.n (x.removed.l.map (D.int .i64)),.int .i64 x.prev,.int .i64 x.next]
def Change.ok (x:Change):Prop:=(IntKind.u8.min≤x.kind∧x.kind≤IntKind.u8.max)∧(IntKind.i64.min≤x.node∧x.node≤IntKind.i64.max)∧(IntKind.i64.min≤x.parent∧x.parent≤IntKind.i64.max)∧(IntKind.i64.min≤x.index∧x.index≤IntKind.i64.max)∧(IntKind.i64.min≤x.other∧x.other≤IntKind.i64.max)∧(IntKind.i64.min≤x.doc∧x.doc≤IntKind.i64.max)∧(IntKind.i64.min≤x.offset∧x.offset≤IntKind.i64.max)∧(IntKind.i64.min≤x.count∧x.count≤IntKind.i64.max)∧Sl.ok (fun y=>(IntKind.u16.min≤y∧y≤IntKind.u16.max)) x.data∧Name.ok x.name∧x.old.length≤maxLen∧x.value.length≤maxLen∧True∧True∧Node.ok x.made∧Sl.ok (fun y=>(IntKind.i64.min≤y∧y≤IntKind.i64.max)) x.added∧Sl.ok (fun y=>(IntKind.i64.min≤y∧y≤IntKind.i64.max)) x.removed∧(IntKind.i64.min≤x.prev∧x.prev≤IntKind.i64.max)∧(IntKind.i64.min≤x.next∧x.next≤IntKind.i64.max)
theorem zqk (x:Change):D.sub (zaL x) 0 (some 36)=some (zaL x):=rfl
theorem zoq (x:Change):D.sub (zaL x) 0 none=some (.int .u8 x.kind):=rfl
theorem zor (x:Change):D.sub (zaL x) 1 none=some (.int .i64 x.node):=rfl
theorem zkw (x:Change):D.sub (zaL x) 2 none=some (.int .i64 x.parent):=rfl
theorem zlT (x:Change):D.sub (zaL x) 3 none=some (.int .i64 x.index):=rfl
theorem zlU (x:Change):D.sub (zaL x) 4 none=some (.int .i64 x.other):=rfl
theorem zql (x:Change):D.sub (zaL x) 5 none=some (.int .i64 x.doc):=rfl
theorem zkx (x:Change):D.sub (zaL x) 6 none=some (.int .i64 x.offset):=rfl
theorem zlV (x:Change):D.sub (zaL x) 7 none=some (.int .i64 x.count):=rfl
theorem zos (x:Change):D.sub (zaL x) 8 none=some (.list x.data.n (x.data.l.map (D.int .u16))):=rfl
theorem zot (x:Change):D.sub (zaL x) 9 (some 3)=some (zbN x.name):=rfl
theorem zgX (x:Change):D.sub (zaL x) 9 none=some (.str x.name.space):=rfl
theorem zfV (x:Change):D.sub (zaL x) 10 none=some (.str x.name.prefix_):=rfl
theorem zgv (x:Change):D.sub (zaL x) 11 none=some (.str x.name.local_):=rfl
theorem zqm (x:Change):D.sub (zaL x) 12 none=some (.str x.old):=rfl
theorem zlW (x:Change):D.sub (zaL x) 13 none=some (.str x.value):=rfl
theorem zqn (x:Change):D.sub (zaL x) 14 none=some (.bool x.had):=rfl
theorem zqo (x:Change):D.sub (zaL x) 15 none=some (.bool x.has):=rfl
theorem zou (x:Change):D.sub (zaL x) 16 (some 16)=some (eNode x.made):=rfl
theorem zhJ (x:Change):D.sub (zaL x) 16 none=some (.int .u8 x.made.kind):=rfl
theorem zhK (x:Change):D.sub (zaL x) 17 (some 3)=some (zbN x.made.name):=rfl
theorem zeF (x:Change):D.sub (zaL x) 17 none=some (.str x.made.name.space):=rfl
theorem zdW (x:Change):D.sub (zaL x) 18 none=some (.str x.made.name.prefix_):=rfl
theorem zeh (x:Change):D.sub (zaL x) 19 none=some (.str x.made.name.local_):=rfl
theorem zfW (x:Change):D.sub (zaL x) 20 none=some (.str x.made.public_):=rfl
theorem zgw (x:Change):D.sub (zaL x) 21 none=some (.str x.made.system):=rfl
theorem zhL (x:Change):D.sub (zaL x) 22 none=some (.list x.made.data.n (x.made.data.l.map (D.int .u16))):=rfl
theorem zgY (x:Change):D.sub (zaL x) 23 none=some (.list x.made.attrs.n (x.made.attrs.l.map zaN)):=rfl
theorem zgx (x:Change):D.sub (zaL x) 24 none=some (.int .i64 x.made.parent):=rfl
theorem zhM (x:Change):D.sub (zaL x) 25 none=some (.list x.made.kids.n (x.made.kids.l.map (D.int .i64))):=rfl
theorem ziI (x:Change):D.sub (zaL x) 26 none=some (.int .i64 x.made.doc):=rfl
theorem zhN (x:Change):D.sub (zaL x) 27 none=some (.int .i64 x.made.host):=rfl
theorem zgy (x:Change):D.sub (zaL x) 28 none=some (.int .i64 x.made.shadow):=rfl
theorem zhO (x:Change):D.sub (zaL x) 29 none=some (.int .u8 x.made.mode):=rfl
theorem zgz (x:Change):D.sub (zaL x) 30 none=some (.bool x.made.manual):=rfl
theorem zhP (x:Change):D.sub (zaL x) 31 none=some (.bool x.made.hTML):=rfl
theorem zlX (x:Change):D.sub (zaL x) 32 none=some (.list x.added.n (x.added.l.map (D.int .i64))):=rfl
theorem zkc (x:Change):D.sub (zaL x) 33 none=some (.list x.removed.n (x.removed.l.map (D.int .i64))):=rfl
theorem zov (x:Change):D.sub (zaL x) 34 none=some (.int .i64 x.prev):=rfl
theorem zow (x:Change):D.sub (zaL x) 35 none=some (.int .i64 x.next):=rfl
attribute [go_sem] zqk zoq zor zkw zlT zlU zql zkx zlV zos zot zgX zfV zgv zqm zlW zqn zqo zou zhJ zhK zeF zdW zeh zfW zgw zhL zgY zgx zhM ziI zhN zgy zhO zgz zhP zlX zkc zov zow
structure Bound where
 node:Int
 offset:Int
 deriving DecidableEq,Inhabited
def Bound.zero:Bound:=⟨0,0⟩
def zfb (x:Bound):D:= .agg [.int .i64 x.node,.int .i64 x.offset]
def zFo:Ty:= .agg [.int .i64,.int .i64]
def Bound.ok (x:Bound):Prop:=(IntKind.i64.min≤x.node∧x.node≤IntKind.i64.max)∧(IntKind.i64.min≤x.offset∧x.offset≤IntKind.i64.max)
theorem ztO (x:Bound):D.sub (zfb x) 0 (some 2)=some (zfb x):=rfl
theorem zqp (x:Bound):D.sub (zfb x) 0 none=some (.int .i64 x.node):=rfl
theorem zlY (x:Bound):D.sub (zfb x) 1 none=some (.int .i64 x.offset):=rfl
attribute [go_sem] ztO zqp zlY
theorem Bound.of {d:D} (h:HasTy zFo d):∃x:Bound,d=zfb x∧Bound.ok x:=by
 obtain⟨xs,rfl,hl,hx⟩:=h.agg_inv
 match xs,hl with
 |[x0,x1],_=>
  obtain⟨y0,rfl,k0⟩:=HasTy.int_inv (hx 0 _ _ rfl rfl)
  obtain⟨y1,rfl,k1⟩:=HasTy.int_inv (hx 1 _ _ rfl rfl)
  exact⟨⟨y0,y1⟩,rfl,⟨k0,k1⟩⟩
structure Range where
 start:Bound
 end_:Bound
 deriving DecidableEq,Inhabited
def Range.zero:Range:=⟨Bound.zero,Bound.zero⟩
def zei (x:Range):D:= .agg [.int .i64 x.start.node,.int .i64 x.start.offset,.int .i64 x.end_.node,.int .i64 x.end_.offset]
def zFp:Ty:= .agg [.int .i64,.int .i64,.int .i64,.int .i64]
def Range.ok (x:Range):Prop:=Bound.ok x.start∧Bound.ok x.end_
theorem ztP (x:Range):D.sub (zei x) 0 (some 4)=some (zei x):=rfl
theorem zox (x:Range):D.sub (zei x) 0 (some 2)=some (zfb x.start):=rfl
theorem zhQ (x:Range):D.sub (zei x) 0 none=some (.int .i64 x.start.node):=rfl
theorem zgA (x:Range):D.sub (zei x) 1 none=some (.int .i64 x.start.offset):=rfl
theorem zqq (x:Range):D.sub (zei x) 2 (some 2)=some (zfb x.end_):=rfl
theorem ziJ (x:Range):D.sub (zei x) 2 none=some (.int .i64 x.end_.node):=rfl
theorem zgZ (x:Range):D.sub (zei x) 3 none=some (.int .i64 x.end_.offset):=rfl
attribute [go_sem] ztP zox zhQ zgA zqq ziJ zgZ
theorem Range.of {d:D} (h:HasTy zFp d):∃x:Range,d=zei x∧Range.ok x:=by
 obtain⟨xs,rfl,hl,hx⟩:=h.agg_inv
 match xs,hl with
 |[x0,x1,x2,x3],_=>
  obtain⟨y0,rfl,k0⟩:=HasTy.int_inv (hx 0 _ _ rfl rfl)
  obtain⟨y1,rfl,k1⟩:=HasTy.int_inv (hx 1 _ _ rfl rfl)
  obtain⟨y2,rfl,k2⟩:=HasTy.int_inv (hx 2 _ _ rfl rfl)
  obtain⟨y3,rfl,k3⟩:=HasTy.int_inv (hx 3 _ _ rfl rfl)
  exact⟨⟨⟨y0,y1⟩,⟨y2,y3⟩⟩,rfl,⟨⟨k0,k1⟩,⟨k2,k3⟩⟩⟩
structure valid_ask where
 f:Forest
 parent:Int
 child:Int
 replace:Bool
 deriving DecidableEq,Inhabited
def valid_ask.zero:valid_ask:=⟨Forest.zero,0,0,false⟩
def zbv (x:valid_ask):D:= .agg [.list x.f.nodes.n (x.f.nodes.l.map eNode),.int .i64 x.parent,.int .i64 x.child,.bool x.replace]
def zqr:Ty:= .agg [.list (zxA),.int .i64,.int .i64,.bool]
def valid_ask.ok (x:valid_ask):Prop:=Forest.ok x.f∧(IntKind.i64.min≤x.parent∧x.parent≤IntKind.i64.max)∧(IntKind.i64.min≤x.child∧x.child≤IntKind.i64.max)∧True
theorem zky (x:valid_ask):D.sub (zbv x) 0 (some 4)=some (zbv x):=rfl
theorem zoy (x:valid_ask):D.sub (zbv x) 0 (some 1)=some (eForest x.f):=rfl
theorem zha (x:valid_ask):D.sub (zbv x) 0 none=some (.list x.f.nodes.n (x.f.nodes.l.map eNode)):=rfl
theorem zhR (x:valid_ask):D.sub (zbv x) 1 none=some (.int .i64 x.parent):=rfl
theorem ziK (x:valid_ask):D.sub (zbv x) 2 none=some (.int .i64 x.child):=rfl
theorem zhb (x:valid_ask):D.sub (zbv x) 3 none=some (.bool x.replace):=rfl
attribute [go_sem] zky zoy zha zhR ziK zhb
theorem valid_ask.of {d:D} (h:HasTy zqr d):∃x:valid_ask,d=zbv x∧valid_ask.ok x:=by
 obtain⟨xs,rfl,hl,hx⟩:=h.agg_inv
 match xs,hl with
 |[x0,x1,x2,x3],_=>
  obtain⟨y0,rfl,k0⟩:=(HasTy.sl_inv (fun _ h=>Node.of h)) (hx 0 _ _ rfl rfl)
  obtain⟨y1,rfl,k1⟩:=HasTy.int_inv (hx 1 _ _ rfl rfl)
  obtain⟨y2,rfl,k2⟩:=HasTy.int_inv (hx 2 _ _ rfl rfl)
  obtain⟨y3,rfl,k3⟩:=HasTy.bool_inv (hx 3 _ _ rfl rfl)
  exact⟨⟨⟨y0⟩,y1,y2,y3⟩,rfl,⟨k0,k1,k2,k3⟩⟩
structure forest_trait where
 known:Bool
 data:Bool
 kids:Bool
 hung:Bool
 full:Bool
 local_:Bool
 deriving DecidableEq,Inhabited
def forest_trait.zero:forest_trait:=⟨false,false,false,false,false,false⟩
def zaA (x:forest_trait):D:= .agg [.bool x.known,.bool x.data,.bool x.kids,.bool x.hung,.bool x.full,.bool x.local_]
def zkz:Ty:= .agg [.bool,.bool,.bool,.bool,.bool,.bool]
def forest_trait.ok (x:forest_trait):Prop:=True∧True∧True∧True∧True∧True
theorem zhS (x:forest_trait):(zaA x).cells.length=6:=Eq.trans rfl rfl
theorem zhT (x:forest_trait):D.sub (zaA x) 0 (some 6)=some (zaA x):=rfl
theorem zfX (x:forest_trait) (cs:List D) (h:cs.length=6):V.upd (.d (.agg cs)) 0 6 (.d (zaA x))=some (.d (zaA x)):=zjJ (by simpa using h) rfl (by decide) rfl
theorem zgB (x:forest_trait):D.sub (zaA x) 0 none=some (.bool x.known):=rfl
theorem zhc (x:forest_trait):D.sub (zaA x) 1 none=some (.bool x.data):=rfl
theorem zhd (x:forest_trait):D.sub (zaA x) 2 none=some (.bool x.kids):=rfl
theorem zhe (x:forest_trait):D.sub (zaA x) 3 none=some (.bool x.hung):=rfl
theorem zhf (x:forest_trait):D.sub (zaA x) 4 none=some (.bool x.full):=rfl
theorem zfY (x:forest_trait):D.sub (zaA x) 5 none=some (.bool x.local_):=rfl
attribute [go_sem] zhS zhT zfX zgB zhc zhd zhe zhf zfY
theorem forest_trait.of {d:D} (h:HasTy zkz d):∃x:forest_trait,d=zaA x∧forest_trait.ok x:=by
 obtain⟨xs,rfl,hl,hx⟩:=h.agg_inv
 match xs,hl with
 |[x0,x1,x2,x3,x4,x5],_=>
  obtain⟨y0,rfl,k0⟩:=HasTy.bool_inv (hx 0 _ _ rfl rfl)
  obtain⟨y1,rfl,k1⟩:=HasTy.bool_inv (hx 1 _ _ rfl rfl)
  obtain⟨y2,rfl,k2⟩:=HasTy.bool_inv (hx 2 _ _ rfl rfl)
  obtain⟨y3,rfl,k3⟩:=HasTy.bool_inv (hx 3 _ _ rfl rfl)
  obtain⟨y4,rfl,k4⟩:=HasTy.bool_inv (hx 4 _ _ rfl rfl)
  obtain⟨y5,rfl,k5⟩:=HasTy.bool_inv (hx 5 _ _ rfl rfl)
  exact⟨⟨y0,y1,y2,y3,y4,y5⟩,rfl,⟨k0,k1,k2,k3,k4,k5⟩⟩
structure forest_key where
 space:List UInt8
 local_:List UInt8
 deriving DecidableEq,Inhabited
def forest_key.zero:forest_key:=⟨[],[]⟩
def zah (x:forest_key):D:= .agg [.str x.space,.str x.local_]
def zoz:Ty:= .agg [.str,.str]
def forest_key.ok (x:forest_key):Prop:=x.space.length≤maxLen∧x.local_.length≤maxLen
theorem zkd (x:forest_key):D.sub (zah x) 0 (some 2)=some (zah x):=rfl
theorem zhg (x:forest_key) (cs:List D) (h:cs.length=2):V.upd (.d (.agg cs)) 0 2 (.d (zah x))=some (.d (zah x)):=zjJ (by simpa using h) rfl (by decide) rfl
theorem zhU (x:forest_key):D.sub (zah x) 0 none=some (.str x.space):=rfl
theorem zhh (x:forest_key):D.sub (zah x) 1 none=some (.str x.local_):=rfl
theorem zai:Keyed [.str,.str] zah:=by
 intro x y
 simp only[zet,zah,D.isAgg,D.cells,zaJ,zbr,if_true,Option.bind_some,Option.map_some]
 rw[if_pos ⟨rfl,rfl⟩]
 congr 1
 rw[Bool.eq_iff_iff];rcases x with⟨a1,a2⟩;rcases y with⟨b1,b2⟩;simp[and_assoc]
attribute [go_sem] zkd zhg zhU zhh
theorem forest_key.of {d:D} (h:HasTy zoz d):∃x:forest_key,d=zah x∧forest_key.ok x:=by
 obtain⟨xs,rfl,hl,hx⟩:=h.agg_inv
 match xs,hl with
 |[x0,x1],_=>
  obtain⟨y0,rfl,k0⟩:=HasTy.str_inv (hx 0 _ _ rfl rfl)
  obtain⟨y1,rfl,k1⟩:=HasTy.str_inv (hx 1 _ _ rfl rfl)
  exact⟨⟨y0,y1⟩,rfl,⟨k0,k1⟩⟩
end Go.Proofs.Ytfleilibjdgcjaa.O
