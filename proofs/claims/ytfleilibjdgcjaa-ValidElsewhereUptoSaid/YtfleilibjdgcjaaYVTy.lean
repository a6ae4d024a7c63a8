/- Shaken copy of a longer text: what one law needs. Its conditions: none. -/
import Derived.Test.YtfleilibjdgcjaaYAiE
set_option linter.unusedSimpArgs false
set_option linter.unusedVariables false
namespace Go.Proofs.Ytfleilibjdgcjaa.V
open Go.AI
structure Name where
 space:List UInt8
 prefix_:List UInt8
 local_:List UInt8
 deriving DecidableEq,Inhabited
def Name.zero:Name:=⟨[],[],[]⟩
def zbN (x:Name):D:= .agg [.str x.space,.str x.prefix_,.str x.local_]
def zHk:Ty:= .agg [.str,.str,.str]
def Name.ok (x:Name):Prop:=x.space.length≤maxLen∧x.prefix_.length≤maxLen∧x.local_.length≤maxLen
theorem zww (x:Name):(zbN x).cells.length=3:=Eq.trans rfl rfl
theorem zwx (x:Name):D.sub (zbN x) 0 (some 3)=some (zbN x):=rfl
theorem zpp (x:Name):D.sub (zbN x) 0 none=some (.str x.space):=rfl
theorem zlF (x:Name):D.sub (zbN x) 1 none=some (.str x.prefix_):=rfl
theorem zns (x:Name):D.sub (zbN x) 2 none=some (.str x.local_):=rfl
theorem znt (x y:Name):binV .eql (.agg [.str,.str,.str]) (.d (zbN x)) (.d (zbN y))=some (.d (.bool (decide (x=y)))):=by
 refine zGi ?_
 simp only[eqV,zbN,zaI,zbn,if_true,Option.bind_some,Option.map_some]
 congr 1
 rw[Bool.eq_iff_iff];rcases x with⟨a1,a2,a3⟩;rcases y with⟨b1,b2,b3⟩;simp[and_assoc]
theorem zsH (x:Name) (y0:List UInt8) (y1:List UInt8) (y2:List UInt8):binV .eql (.agg [.str,.str,.str]) (.d (zbN x)) (.d (.agg [.str y0,.str y1,.str y2]))=some (.d (.bool (decide (x=⟨y0,y1,y2⟩)))):=znt x ⟨y0,y1,y2⟩
theorem znu (x y:Name):binV .neq (.agg [.str,.str,.str]) (.d (zbN x)) (.d (zbN y))=some (.d (.bool (!decide (x=y)))):=by
 refine zGj ?_
 simp only[eqV,zbN,zaI,zbn,if_true,Option.bind_some,Option.map_some]
 congr 1
 rw[Bool.eq_iff_iff];rcases x with⟨a1,a2,a3⟩;rcases y with⟨b1,b2,b3⟩;simp[and_assoc]
theorem zsI (x:Name) (y0:List UInt8) (y1:List UInt8) (y2:List UInt8):binV .neq (.agg [.str,.str,.str]) (.d (zbN x)) (.d (.agg [.str y0,.str y1,.str y2]))=some (.d (.bool (!decide (x=⟨y0,y1,y2⟩)))):=znu x ⟨y0,y1,y2⟩
attribute [go_sem] zww zwx zpp zlF zns znt zsH znu zsI
theorem Name.of {d:D} (h:HasTy zHk d):∃x:Name,d=zbN x∧Name.ok x:=by
 obtain⟨xs,rfl,hl,hx⟩:=h.agg_inv
 match xs,hl with
 |[x0,x1,x2],_=>
  obtain⟨y0,rfl,k0⟩:=HasTy.str_inv (hx 0 _ _ rfl rfl)
  obtain⟨y1,rfl,k1⟩:=HasTy.str_inv (hx 1 _ _ rfl rfl)
  obtain⟨y2,rfl,k2⟩:=HasTy.str_inv (hx 2 _ _ rfl rfl)
  exact⟨⟨y0,y1,y2⟩,rfl,⟨k0,k1,k2⟩⟩
structure Attr where
 name:Name
 value:List UInt8
 deriving DecidableEq,Inhabited
def Attr.zero:Attr:=⟨Name.zero,[]⟩
def zaK (x:Attr):D:= .agg [.str x.name.space,.str x.name.prefix_,.str x.name.local_,.str x.value]
def zBl:Ty:= .agg [.str,.str,.str,.str]
def Attr.ok (x:Attr):Prop:=Name.ok x.name∧x.value.length≤maxLen
theorem zwy (x:Attr):(zaK x).cells.length=4:=Eq.trans rfl rfl
theorem zwz (x:Attr):D.sub (zaK x) 0 (some 4)=some (zaK x):=rfl
theorem znv (x:Attr) (cs:List D) (h:cs.length=4):V.upd (.d (.agg cs)) 0 4 (.d (zaK x))=some (.d (zaK x)):=zjv (by simpa using h) rfl (by decide) rfl
theorem zsJ (x:Attr):D.sub (zaK x) 0 (some 3)=some (zbN x.name):=rfl
theorem zio (x:Attr):D.sub (zaK x) 0 none=some (.str x.name.space):=rfl
theorem zgL (x:Attr):D.sub (zaK x) 1 none=some (.str x.name.prefix_):=rfl
theorem zhw (x:Attr):D.sub (zaK x) 2 none=some (.str x.name.local_):=rfl
theorem zpq (x:Attr):D.sub (zaK x) 3 none=some (.str x.value):=rfl
attribute [go_sem] zwy zwz znv zsJ zio zgL zhw zpq
theorem Attr.of {d:D} (h:HasTy zBl d):∃x:Attr,d=zaK x∧Attr.ok x:=by
 obtain⟨xs,rfl,hl,hx⟩:=h.agg_inv
 match xs,hl with
 |[x0,x1,x2,x3],_=>
  obtain⟨y0,rfl,k0⟩:=HasTy.str_inv (hx 0 _ _ rfl rfl)
  obtain⟨y1,rfl,k1⟩:=HasTy.str_inv (hx 1 _ _ rfl rfl)
  obtain⟨y2,rfl,k2⟩:=HasTy.str_inv (hx 2 _ _ rfl rfl)
  obtain⟨y3,rfl,k3⟩:=HasTy.str_inv (hx 3 _ _ rfl rfl)
  exact⟨⟨⟨y0,y1,y2⟩,y3⟩,rfl,⟨⟨k0,k1,k2⟩,k3⟩⟩
structure Node where
 kind:Int
 name:Name
 public_:List UInt8
 system:List UInt8
 data:Sl (Int)
 attrs:Sl (Attr)
 parent:Int
 kids:Sl (Int)
 doc:Int
 host:Int
 shadow:Int
 mode:Int
 manual:Bool
 hTML:Bool
 deriving DecidableEq,Inhabited
def Node.zero:Node:=⟨0,Name.zero,[],[],⟨true,[]⟩,⟨true,[]⟩,0,⟨true,[]⟩,0,0,0,0,false,false⟩
def zah (x:Node):D:= .agg [.int .u8 x.kind,.str x.name.space,.str x.name.prefix_,.str x.name.local_,.str x.public_,.str x.system,.list x.data.n (x.data.l.map (D.int .u16)),.list x.attrs.n (x.attrs.l.map zaK),.int .i64 x.parent,.list x.kids.n (x.kids.l.map (D.int .i64)),.int .i64 x.doc,.int .i64 x.host,.int .i64 x.shadow,.int .u8 x.mode,.bool x.manual,.bool x.hTML]
def zwA:Ty:= .agg [.int .u8,.str,.str,.str,.str,.str,.list (.int .u16),.list (zBl),.int .i64,.list (.int .i64),.int .i64,.int .i64,.int .i64,.int .u8,.bool,.bool]
def Node.ok (x:Node):Prop:=(IntKind.u8.min≤x.kind∧x.kind≤IntKind.u8.max)∧Name.ok x.name∧x.public_.length≤maxLen∧x.system.length≤maxLen∧Sl.ok (fun y=>(IntKind.u16.min≤y∧y≤IntKind.u16.max)) x.data∧Sl.ok (fun y=>Attr.ok y) x.attrs∧(IntKind.i64.min≤x.parent∧x.parent≤IntKind.i64.max)∧Sl.ok (fun y=>(IntKind.i64.min≤y∧y≤IntKind.i64.max)) x.kids∧(IntKind.i64.min≤x.doc∧x.doc≤IntKind.i64.max)∧(IntKind.i64.min≤x.host∧x.host≤IntKind.i64.max)∧(IntKind.i64.min≤x.shadow∧x.shadow≤IntKind.i64.max)∧(IntKind.u8.min≤x.mode∧x.mode≤IntKind.u8.max)∧True∧True
theorem zwB (x:Node):(zah x).cells.length=16:=Eq.trans rfl rfl
theorem zwC (x:Node):D.sub (zah x) 0 (some 16)=some (zah x):=rfl
theorem zwD (x:Node) (i:Nat) (m:Option Nat):V.fld i m (.d (zah x))=(D.sub (zah x) i m).map .d:=zBC _ _ _
theorem znw (x:Node) (cs:List D) (h:cs.length=16):V.upd (.d (.agg cs)) 0 16 (.d (zah x))=some (.d (zah x)):=zjv (by simpa using h) rfl (by decide) rfl
theorem zsK (x:Node):D.sub (zah x) 0 none=some (.int .u8 x.kind):=rfl
theorem zsL (x:Node):D.sub (zah x) 1 (some 3)=some (zbN x.name):=rfl
theorem ziq (x:Node):D.sub (zah x) 1 none=some (.str x.name.space):=rfl
theorem zgM (x:Node):D.sub (zah x) 2 none=some (.str x.name.prefix_):=rfl
theorem zhx (x:Node):D.sub (zah x) 3 none=some (.str x.name.local_):=rfl
theorem zlG (x:Node):D.sub (zah x) 4 none=some (.str x.public_):=rfl
theorem znx (x:Node):D.sub (zah x) 5 none=some (.str x.system):=rfl
theorem zsM (x:Node):D.sub (zah x) 6 none=some (.list x.data.n (x.data.l.map (D.int .u16))):=rfl
theorem zpr (x:Node):D.sub (zah x) 7 none=some (.list x.attrs.n (x.attrs.l.map zaK)):=rfl
theorem zny (x:Node):D.sub (zah x) 8 none=some (.int .i64 x.parent):=rfl
theorem zsN (x:Node):D.sub (zah x) 9 none=some (.list x.kids.n (x.kids.l.map (D.int .i64))):=rfl
theorem zwE (x:Node):D.sub (zah x) 10 none=some (.int .i64 x.doc):=rfl
theorem zsO (x:Node):D.sub (zah x) 11 none=some (.int .i64 x.host):=rfl
theorem znz (x:Node):D.sub (zah x) 12 none=some (.int .i64 x.shadow):=rfl
theorem zsP (x:Node):D.sub (zah x) 13 none=some (.int .u8 x.mode):=rfl
theorem znA (x:Node):D.sub (zah x) 14 none=some (.bool x.manual):=rfl
theorem zsQ (x:Node):D.sub (zah x) 15 none=some (.bool x.hTML):=rfl
attribute [go_sem] zwB zwC zwD znw zsK zsL ziq zgM zhx zlG znx zsM zpr zny zsN zwE zsO znz zsP znA zsQ
theorem Node.of {d:D} (h:HasTy zwA d):∃x:Node,d=zah x∧Node.ok x:=by
 obtain⟨xs,rfl,hl,hx⟩:=h.agg_inv
 match xs,hl with
 |[x0,x1,x2,x3,x4,x5,x6,x7,x8,x9,x10,x11,x12,x13,x14,x15],_=>
  obtain⟨y0,rfl,k0⟩:=HasTy.int_inv (hx 0 _ _ rfl rfl)
  obtain⟨y1,rfl,k1⟩:=HasTy.str_inv (hx 1 _ _ rfl rfl)
  obtain⟨y2,rfl,k2⟩:=HasTy.str_inv (hx 2 _ _ rfl rfl)
  obtain⟨y3,rfl,k3⟩:=HasTy.str_inv (hx 3 _ _ rfl rfl)
  obtain⟨y4,rfl,k4⟩:=HasTy.str_inv (hx 4 _ _ rfl rfl)
  obtain⟨y5,rfl,k5⟩:=HasTy.str_inv (hx 5 _ _ rfl rfl)
  obtain⟨y6,rfl,k6⟩:=(HasTy.sl_inv (fun _ h=>HasTy.int_inv h)) (hx 6 _ _ rfl rfl)
  obtain⟨y7,rfl,k7⟩:=(HasTy.sl_inv (fun _ h=>Attr.of h)) (hx 7 _ _ rfl rfl)
  obtain⟨y8,rfl,k8⟩:=HasTy.int_inv (hx 8 _ _ rfl rfl)
  obtain⟨y9,rfl,k9⟩:=(HasTy.sl_inv (fun _ h=>HasTy.int_inv h)) (hx 9 _ _ rfl rfl)
  obtain⟨y10,rfl,k10⟩:=HasTy.int_inv (hx 10 _ _ rfl rfl)
  obtain⟨y11,rfl,k11⟩:=HasTy.int_inv (hx 11 _ _ rfl rfl)
  obtain⟨y12,rfl,k12⟩:=HasTy.int_inv (hx 12 _ _ rfl rfl)
  obtain⟨y13,rfl,k13⟩:=HasTy.int_inv (hx 13 _ _ rfl rfl)
  obtain⟨y14,rfl,k14⟩:=HasTy.bool_inv (hx 14 _ _ rfl rfl)
  obtain⟨y15,rfl,k15⟩:=HasTy.bool_inv (hx 15 _ _ rfl rfl)
  exact⟨⟨y0,⟨y1,y2,y3⟩,y4,y5,y6,y7,y8,y9,y10,y11,y12,y13,y14,y15⟩,rfl,⟨k0,⟨k1,k2,k3⟩,k4,k5,k6,k7,k8,k9,k10,k11,k12,k13,k14,k15⟩⟩
structure Forest where
 nodes:Sl (Node)
 deriving DecidableEq,Inhabited
def Forest.zero:Forest:=⟨⟨true,[]⟩⟩
def zad (x:Forest):D:= .agg [.list x.nodes.n (x.nodes.l.map zah)]
def tyForest:Ty:= .agg [.list (zwA)]
def Forest.ok (x:Forest):Prop:=Sl.ok (fun y=>Node.ok y) x.nodes
theorem zps (x:Forest):(zad x).cells.length=1:=Eq.trans rfl rfl
theorem zpt (x:Forest):D.sub (zad x) 0 (some 1)=some (zad x):=rfl
theorem znB {cs:List V} {off:Nat} {r:List (Nat×Nat×V)} (x:Forest) (h:off+1≤cs.length):zbP cs ((off,1,.d (zad x))::r)=zbP (splice cs off [.d (.list x.nodes.n (x.nodes.l.map zah))]) r:=zva rfl (by decide) h
theorem zlH (x:Forest):D.sub (zad x) 0 none=some (.list x.nodes.n (x.nodes.l.map zah)):=rfl
attribute [go_sem] znB zps zpt zlH
theorem Forest.of {d:D} (h:HasTy tyForest d):∃x:Forest,d=zad x∧Forest.ok x:=by
 obtain⟨xs,rfl,hl,hx⟩:=h.agg_inv
 match xs,hl with
 |[x0],_=>
  obtain⟨y0,rfl,k0⟩:=(HasTy.sl_inv (fun _ h=>Node.of h)) (hx 0 _ _ rfl rfl)
  exact⟨⟨y0⟩,rfl,k0⟩
structure Change where
 kind:Int
 node:Int
 parent:Int
 index:Int
 other:Int
 doc:Int
 offset:Int
 count:Int
 data:Sl (Int)
 name:Name
 old:List UInt8
 value:List UInt8
 had:Bool
 has:Bool
 made:Node
 added:Sl (Int)
 removed:Sl (Int)
 prev:Int
 next:Int
 deriving DecidableEq,Inhabited
def Change.zero:Change:=⟨0,0,0,0,0,0,0,0,⟨true,[]⟩,Name.zero,[],[],false,false,Node.zero,⟨true,[]⟩,⟨true,[]⟩,0,0⟩
def zaL (x:Change):D:= .agg [.int .u8 x.kind,.int .i64 x.node,.int .i64 x.parent,.int .i64 x.index,.int .i64 x.other,.int .i64 x.doc,.int .i64 x.offset,.int .i64 x.count,.list x.data.n (x.data.l.map (D.int .u16)),.str x.name.space,.str x.name.prefix_,.str x.name.local_,.str x.old,.str x.value,.bool x.had,.bool x.has,.int .u8 x.made.kind,.str x.made.name.space,.str x.made.name.prefix_,.str x.made.name.local_,.str x.made.public_,.str x.made.system,.list x.made.data.n (x.made.data.l.map (D.int .u16)),.list x.made.attrs.n (x.made.attrs.l.map zaK),.int .i64 x.made.parent,.list x.made.kids.n (x.made.kids.l.map (D.int .i64)),.int .i64 x.made.doc,.int .i64 x.made.host,.int .i64 x.made.shadow,.int .u8 x.made.mode,.bool x.made.manual,.bool x.made.hTML,.list x.added.n (x.added.l.map (D.int .i64)),.list x.removed.n (x.removed.l.map (D.int .i64)),.int .i64 x.prev,.int .i64 x.next]
def Change.ok (x:Change):Prop:=(IntKind.u8.min≤x.kind∧x.kind≤IntKind.u8.max)∧(IntKind.i64.min≤x.node∧x.node≤IntKind.i64.max)∧(IntKind.i64.min≤x.parent∧x.parent≤IntKind.i64.max)∧(IntKind.i64.min≤x.index∧x.index≤IntKind.i64.max)∧(IntKind.i64.min≤x.other∧x.other≤IntKind.i64.max)∧(IntKind.i64.min≤x.doc∧x.doc≤IntKind.i64.max)∧(IntKind.i64.min≤x.offset∧x.offset≤IntKind.i64.max)∧(IntKind.i64.min≤x.count∧x.count≤IntKind.i64.max)∧Sl.ok (fun y=>(IntKind.u16.min≤y∧y≤IntKind.u16.max)) x.data∧Name.ok x.name∧x.old.length≤maxLen∧x.value.length≤maxLen∧True∧True∧Node.ok x.made∧Sl.ok (fun y=>(IntKind.i64.min≤y∧y≤IntKind.i64.max)) x.added∧Sl.ok (fun y=>(IntKind.i64.min≤y∧y≤IntKind.i64.max)) x.removed∧(IntKind.i64.min≤x.prev∧x.prev≤IntKind.i64.max)∧(IntKind.i64.min≤x.next∧x.next≤IntKind.i64.max)
theorem zpu (x:Change):D.sub (zaL x) 0 (some 36)=some (zaL x):=rfl
theorem znC (x:Change):D.sub (zaL x) 0 none=some (.int .u8 x.kind):=rfl
theorem znD (x:Change):D.sub (zaL x) 1 none=some (.int .i64 x.node):=rfl
theorem zki (x:Change):D.sub (zaL x) 2 none=some (.int .i64 x.parent):=rfl
theorem zlI (x:Change):D.sub (zaL x) 3 none=some (.int .i64 x.index):=rfl
theorem zlJ (x:Change):D.sub (zaL x) 4 none=some (.int .i64 x.other):=rfl
theorem zpv (x:Change):D.sub (zaL x) 5 none=some (.int .i64 x.doc):=rfl
theorem zkj (x:Change):D.sub (zaL x) 6 none=some (.int .i64 x.offset):=rfl
theorem zlK (x:Change):D.sub (zaL x) 7 none=some (.int .i64 x.count):=rfl
theorem znE (x:Change):D.sub (zaL x) 8 none=some (.list x.data.n (x.data.l.map (D.int .u16))):=rfl
theorem znF (x:Change):D.sub (zaL x) 9 (some 3)=some (zbN x.name):=rfl
theorem zgN (x:Change):D.sub (zaL x) 9 none=some (.str x.name.space):=rfl
theorem zfJ (x:Change):D.sub (zaL x) 10 none=some (.str x.name.prefix_):=rfl
theorem zgj (x:Change):D.sub (zaL x) 11 none=some (.str x.name.local_):=rfl
theorem zpw (x:Change):D.sub (zaL x) 12 none=some (.str x.old):=rfl
theorem zlL (x:Change):D.sub (zaL x) 13 none=some (.str x.value):=rfl
theorem zpx (x:Change):D.sub (zaL x) 14 none=some (.bool x.had):=rfl
theorem zpy (x:Change):D.sub (zaL x) 15 none=some (.bool x.has):=rfl
theorem znG (x:Change):D.sub (zaL x) 16 (some 16)=some (zah x.made):=rfl
theorem zhy (x:Change):D.sub (zaL x) 16 none=some (.int .u8 x.made.kind):=rfl
theorem zhz (x:Change):D.sub (zaL x) 17 (some 3)=some (zbN x.made.name):=rfl
theorem zev (x:Change):D.sub (zaL x) 17 none=some (.str x.made.name.space):=rfl
theorem zdQ (x:Change):D.sub (zaL x) 18 none=some (.str x.made.name.prefix_):=rfl
theorem zed (x:Change):D.sub (zaL x) 19 none=some (.str x.made.name.local_):=rfl
theorem zfK (x:Change):D.sub (zaL x) 20 none=some (.str x.made.public_):=rfl
theorem zgk (x:Change):D.sub (zaL x) 21 none=some (.str x.made.system):=rfl
theorem zhA (x:Change):D.sub (zaL x) 22 none=some (.list x.made.data.n (x.made.data.l.map (D.int .u16))):=rfl
theorem zgO (x:Change):D.sub (zaL x) 23 none=some (.list x.made.attrs.n (x.made.attrs.l.map zaK)):=rfl
theorem zgl (x:Change):D.sub (zaL x) 24 none=some (.int .i64 x.made.parent):=rfl
theorem zhB (x:Change):D.sub (zaL x) 25 none=some (.list x.made.kids.n (x.made.kids.l.map (D.int .i64))):=rfl
theorem zir (x:Change):D.sub (zaL x) 26 none=some (.int .i64 x.made.doc):=rfl
theorem zhC (x:Change):D.sub (zaL x) 27 none=some (.int .i64 x.made.host):=rfl
theorem zgm (x:Change):D.sub (zaL x) 28 none=some (.int .i64 x.made.shadow):=rfl
theorem zhD (x:Change):D.sub (zaL x) 29 none=some (.int .u8 x.made.mode):=rfl
theorem zgn (x:Change):D.sub (zaL x) 30 none=some (.bool x.made.manual):=rfl
theorem zhE (x:Change):D.sub (zaL x) 31 none=some (.bool x.made.hTML):=rfl
theorem zlM (x:Change):D.sub (zaL x) 32 none=some (.list x.added.n (x.added.l.map (D.int .i64))):=rfl
theorem zjM (x:Change):D.sub (zaL x) 33 none=some (.list x.removed.n (x.removed.l.map (D.int .i64))):=rfl
theorem znH (x:Change):D.sub (zaL x) 34 none=some (.int .i64 x.prev):=rfl
theorem znI (x:Change):D.sub (zaL x) 35 none=some (.int .i64 x.next):=rfl
attribute [go_sem] zpu znC znD zki zlI zlJ zpv zkj zlK znE znF zgN zfJ zgj zpw zlL zpx zpy znG zhy zhz zev zdQ zed zfK zgk zhA zgO zgl zhB zir zhC zgm zhD zgn zhE zlM zjM znH znI
structure Bound where
 node:Int
 offset:Int
 deriving DecidableEq,Inhabited
def Bound.zero:Bound:=⟨0,0⟩
def zgP (x:Bound):D:= .agg [.int .i64 x.node,.int .i64 x.offset]
def zDU:Ty:= .agg [.int .i64,.int .i64]
def Bound.ok (x:Bound):Prop:=(IntKind.i64.min≤x.node∧x.node≤IntKind.i64.max)∧(IntKind.i64.min≤x.offset∧x.offset≤IntKind.i64.max)
theorem zsR (x:Bound):D.sub (zgP x) 0 (some 2)=some (zgP x):=rfl
theorem zpz (x:Bound):D.sub (zgP x) 0 none=some (.int .i64 x.node):=rfl
theorem zlN (x:Bound):D.sub (zgP x) 1 none=some (.int .i64 x.offset):=rfl
attribute [go_sem] zsR zpz zlN
theorem Bound.of {d:D} (h:HasTy zDU d):∃x:Bound,d=zgP x∧Bound.ok x:=by
 obtain⟨xs,rfl,hl,hx⟩:=h.agg_inv
 match xs,hl with
 |[x0,x1],_=>
  obtain⟨y0,rfl,k0⟩:=HasTy.int_inv (hx 0 _ _ rfl rfl)
  obtain⟨y1,rfl,k1⟩:=HasTy.int_inv (hx 1 _ _ rfl rfl)
  exact⟨⟨y0,y1⟩,rfl,⟨k0,k1⟩⟩
structure Range where
 start:Bound
 end_:Bound
 deriving DecidableEq,Inhabited
def Range.zero:Range:=⟨Bound.zero,Bound.zero⟩
def zeN (x:Range):D:= .agg [.int .i64 x.start.node,.int .i64 x.start.offset,.int .i64 x.end_.node,.int .i64 x.end_.offset]
def zDV:Ty:= .agg [.int .i64,.int .i64,.int .i64,.int .i64]
def Range.ok (x:Range):Prop:=Bound.ok x.start∧Bound.ok x.end_
theorem zsS (x:Range):D.sub (zeN x) 0 (some 4)=some (zeN x):=rfl
theorem znJ (x:Range):D.sub (zeN x) 0 (some 2)=some (zgP x.start):=rfl
theorem zhF (x:Range):D.sub (zeN x) 0 none=some (.int .i64 x.start.node):=rfl
theorem zgo (x:Range):D.sub (zeN x) 1 none=some (.int .i64 x.start.offset):=rfl
theorem zpA (x:Range):D.sub (zeN x) 2 (some 2)=some (zgP x.end_):=rfl
theorem zis (x:Range):D.sub (zeN x) 2 none=some (.int .i64 x.end_.node):=rfl
theorem zgQ (x:Range):D.sub (zeN x) 3 none=some (.int .i64 x.end_.offset):=rfl
attribute [go_sem] zsS znJ zhF zgo zpA zis zgQ
theorem Range.of {d:D} (h:HasTy zDV d):∃x:Range,d=zeN x∧Range.ok x:=by
 obtain⟨xs,rfl,hl,hx⟩:=h.agg_inv
 match xs,hl with
 |[x0,x1,x2,x3],_=>
  obtain⟨y0,rfl,k0⟩:=HasTy.int_inv (hx 0 _ _ rfl rfl)
  obtain⟨y1,rfl,k1⟩:=HasTy.int_inv (hx 1 _ _ rfl rfl)
  obtain⟨y2,rfl,k2⟩:=HasTy.int_inv (hx 2 _ _ rfl rfl)
  obtain⟨y3,rfl,k3⟩:=HasTy.int_inv (hx 3 _ _ rfl rfl)
  exact⟨⟨⟨y0,y1⟩,⟨y2,y3⟩⟩,rfl,⟨⟨k0,k1⟩,⟨k2,k3⟩⟩⟩
structure valid_ask where
 f:Forest
 parent:Int
 child:Int
 replace:Bool
 deriving DecidableEq,Inhabited
def valid_ask.zero:valid_ask:=⟨Forest.zero,0,0,false⟩
def zaq (x:valid_ask):D:= .agg [.list x.f.nodes.n (x.f.nodes.l.map zah),.int .i64 x.parent,.int .i64 x.child,.bool x.replace]
def zpB:Ty:= .agg [.list (zwA),.int .i64,.int .i64,.bool]
def valid_ask.ok (x:valid_ask):Prop:=Forest.ok x.f∧(IntKind.i64.min≤x.parent∧x.parent≤IntKind.i64.max)∧(IntKind.i64.min≤x.child∧x.child≤IntKind.i64.max)∧True
theorem zkk (x:valid_ask):(zaq x).cells.length=4:=Eq.trans rfl rfl
theorem zkl (x:valid_ask):D.sub (zaq x) 0 (some 4)=some (zaq x):=rfl
theorem znK (x:valid_ask):D.sub (zaq x) 0 (some 1)=some (zad x.f):=rfl
theorem zgR (x:valid_ask):D.sub (zaq x) 0 none=some (.list x.f.nodes.n (x.f.nodes.l.map zah)):=rfl
theorem zhG (x:valid_ask):D.sub (zaq x) 1 none=some (.int .i64 x.parent):=rfl
theorem zit (x:valid_ask):D.sub (zaq x) 2 none=some (.int .i64 x.child):=rfl
theorem zgS (x:valid_ask):D.sub (zaq x) 3 none=some (.bool x.replace):=rfl
attribute [go_sem] zkk zkl znK zgR zhG zit zgS
theorem valid_ask.of {d:D} (h:HasTy zpB d):∃x:valid_ask,d=zaq x∧valid_ask.ok x:=by
 obtain⟨xs,rfl,hl,hx⟩:=h.agg_inv
 match xs,hl with
 |[x0,x1,x2,x3],_=>
  obtain⟨y0,rfl,k0⟩:=(HasTy.sl_inv (fun _ h=>Node.of h)) (hx 0 _ _ rfl rfl)
  obtain⟨y1,rfl,k1⟩:=HasTy.int_inv (hx 1 _ _ rfl rfl)
  obtain⟨y2,rfl,k2⟩:=HasTy.int_inv (hx 2 _ _ rfl rfl)
  obtain⟨y3,rfl,k3⟩:=HasTy.bool_inv (hx 3 _ _ rfl rfl)
  exact⟨⟨⟨y0⟩,y1,y2,y3⟩,rfl,⟨k0,k1,k2,k3⟩⟩
structure forest_trait where
 known:Bool
 data:Bool
 kids:Bool
 hung:Bool
 full:Bool
 local_:Bool
 deriving DecidableEq,Inhabited
def forest_trait.zero:forest_trait:=⟨false,false,false,false,false,false⟩
def zaF (x:forest_trait):D:= .agg [.bool x.known,.bool x.data,.bool x.kids,.bool x.hung,.bool x.full,.bool x.local_]
def zkm:Ty:= .agg [.bool,.bool,.bool,.bool,.bool,.bool]
def forest_trait.ok (x:forest_trait):Prop:=True∧True∧True∧True∧True∧True
theorem zhH (x:forest_trait):(zaF x).cells.length=6:=Eq.trans rfl rfl
theorem zhI (x:forest_trait):D.sub (zaF x) 0 (some 6)=some (zaF x):=rfl
theorem zfL (x:forest_trait) (cs:List D) (h:cs.length=6):V.upd (.d (.agg cs)) 0 6 (.d (zaF x))=some (.d (zaF x)):=zjv (by simpa using h) rfl (by decide) rfl
theorem zgp (x:forest_trait):D.sub (zaF x) 0 none=some (.bool x.known):=rfl
theorem zgT (x:forest_trait):D.sub (zaF x) 1 none=some (.bool x.data):=rfl
theorem zgU (x:forest_trait):D.sub (zaF x) 2 none=some (.bool x.kids):=rfl
theorem zgV (x:forest_trait):D.sub (zaF x) 3 none=some (.bool x.hung):=rfl
theorem zgW (x:forest_trait):D.sub (zaF x) 4 none=some (.bool x.full):=rfl
theorem zfM (x:forest_trait):D.sub (zaF x) 5 none=some (.bool x.local_):=rfl
attribute [go_sem] zhH zhI zfL zgp zgT zgU zgV zgW zfM
theorem forest_trait.of {d:D} (h:HasTy zkm d):∃x:forest_trait,d=zaF x∧forest_trait.ok x:=by
 obtain⟨xs,rfl,hl,hx⟩:=h.agg_inv
 match xs,hl with
 |[x0,x1,x2,x3,x4,x5],_=>
  obtain⟨y0,rfl,k0⟩:=HasTy.bool_inv (hx 0 _ _ rfl rfl)
  obtain⟨y1,rfl,k1⟩:=HasTy.bool_inv (hx 1 _ _ rfl rfl)
  obtain⟨y2,rfl,k2⟩:=HasTy.bool_inv (hx 2 _ _ rfl rfl)
  obtain⟨y3,rfl,k3⟩:=HasTy.bool_inv (hx 3 _ _ rfl rfl)
  obtain⟨y4,rfl,k4⟩:=HasTy.bool_inv (hx 4 _ _ rfl rfl)
  obtain⟨y5,rfl,k5⟩:=HasTy.bool_inv (hx 5 _ _ rfl rfl)
  exact⟨⟨y0,y1,y2,y3,y4,y5⟩,rfl,⟨k0,k1,k2,k3,k4,k5⟩⟩
structure forest_key where
 space:List UInt8
 local_:List UInt8
 deriving DecidableEq,Inhabited
def forest_key.zero:forest_key:=⟨[],[]⟩
def zak (x:forest_key):D:= .agg [.str x.space,.str x.local_]
def znL:Ty:= .agg [.str,.str]
def forest_key.ok (x:forest_key):Prop:=x.space.length≤maxLen∧x.local_.length≤maxLen
theorem zjN (x:forest_key):D.sub (zak x) 0 (some 2)=some (zak x):=rfl
theorem zgX (x:forest_key) (cs:List D) (h:cs.length=2):V.upd (.d (.agg cs)) 0 2 (.d (zak x))=some (.d (zak x)):=zjv (by simpa using h) rfl (by decide) rfl
theorem zhJ (x:forest_key):D.sub (zak x) 0 none=some (.str x.space):=rfl
theorem zgY (x:forest_key):D.sub (zak x) 1 none=some (.str x.local_):=rfl
theorem zai:Keyed [.str,.str] zak:=by
 intro x y
 simp only[zdL,zak,D.isAgg,D.cells,zaI,zbn,if_true,Option.bind_some,Option.map_some]
 rw[if_pos ⟨rfl,rfl⟩]
 congr 1
 rw[Bool.eq_iff_iff];rcases x with⟨a1,a2⟩;rcases y with⟨b1,b2⟩;simp[and_assoc]
attribute [go_sem] zjN zgX zhJ zgY
theorem forest_key.of {d:D} (h:HasTy znL d):∃x:forest_key,d=zak x∧forest_key.ok x:=by
 obtain⟨xs,rfl,hl,hx⟩:=h.agg_inv
 match xs,hl with
 |[x0,x1],_=>
  obtain⟨y0,rfl,k0⟩:=HasTy.str_inv (hx 0 _ _ rfl rfl)
  obtain⟨y1,rfl,k1⟩:=HasTy.str_inv (hx 1 _ _ rfl rfl)
  exact⟨⟨y0,y1⟩,rfl,⟨k0,k1⟩⟩
end Go.Proofs.Ytfleilibjdgcjaa.V
