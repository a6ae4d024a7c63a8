/- Shaken copy of a longer text: what one law needs. Its conditions: none. -/
import Derived.Test.YtfleilibjdgcjaaPAiE
set_option linter.unusedSimpArgs false
set_option linter.unusedVariables false
namespace Go.Proofs.Ytfleilibjdgcjaa.B
open Go.AI
structure Name where
 space:List UInt8
 prefix_:List UInt8
 local_:List UInt8
 deriving DecidableEq,Inhabited
def Name.zero:Name:=⟨[],[],[]⟩
def zbE (x:Name):D:= .agg [.str x.space,.str x.prefix_,.str x.local_]
def zJw:Ty:= .agg [.str,.str,.str]
def Name.ok (x:Name):Prop:=x.space.length≤maxLen∧x.prefix_.length≤maxLen∧x.local_.length≤maxLen
theorem zyi (x:Name):(zbE x).cells.length=3:=Eq.trans rfl rfl
theorem zyj (x:Name):D.sub (zbE x) 0 (some 3)=some (zbE x):=rfl
theorem zql (x:Name):D.sub (zbE x) 0 none=some (.str x.space):=rfl
theorem zmi (x:Name):D.sub (zbE x) 1 none=some (.str x.prefix_):=rfl
theorem zoj (x:Name):D.sub (zbE x) 2 none=some (.str x.local_):=rfl
theorem zok (x y:Name):binV .eql (.agg [.str,.str,.str]) (.d (zbE x)) (.d (zbE y))=some (.d (.bool (decide (x=y)))):=by
 refine zDo ?_
 simp only[eqV,zbE,zaJ,zbn,if_true,Option.bind_some,Option.map_some]
 congr 1
 rw[Bool.eq_iff_iff];rcases x with⟨a1,a2,a3⟩;rcases y with⟨b1,b2,b3⟩;simp[and_assoc]
theorem zuo (x:Name) (y0:List UInt8) (y1:List UInt8) (y2:List UInt8):binV .eql (.agg [.str,.str,.str]) (.d (zbE x)) (.d (.agg [.str y0,.str y1,.str y2]))=some (.d (.bool (decide (x=⟨y0,y1,y2⟩)))):=zok x ⟨y0,y1,y2⟩
theorem zol (x y:Name):binV .neq (.agg [.str,.str,.str]) (.d (zbE x)) (.d (zbE y))=some (.d (.bool (!decide (x=y)))):=by
 refine zwH ?_
 simp only[eqV,zbE,zaJ,zbn,if_true,Option.bind_some,Option.map_some]
 congr 1
 rw[Bool.eq_iff_iff];rcases x with⟨a1,a2,a3⟩;rcases y with⟨b1,b2,b3⟩;simp[and_assoc]
theorem zup (x:Name) (y0:List UInt8) (y1:List UInt8) (y2:List UInt8):binV .neq (.agg [.str,.str,.str]) (.d (zbE x)) (.d (.agg [.str y0,.str y1,.str y2]))=some (.d (.bool (!decide (x=⟨y0,y1,y2⟩)))):=zol x ⟨y0,y1,y2⟩
attribute [go_sem] zyi zyj zql zmi zoj zok zuo zol zup
theorem Name.of {d:D} (h:HasTy zJw d):∃x:Name,d=zbE x∧Name.ok x:=by
 obtain⟨xs,rfl,hl,hx⟩:=h.agg_inv
 match xs,hl with
 |[x0,x1,x2],_=>
  obtain⟨y0,rfl,k0⟩:=HasTy.str_inv (hx 0 _ _ rfl rfl)
  obtain⟨y1,rfl,k1⟩:=HasTy.str_inv (hx 1 _ _ rfl rfl)
  obtain⟨y2,rfl,k2⟩:=HasTy.str_inv (hx 2 _ _ rfl rfl)
  exact⟨⟨y0,y1,y2⟩,rfl,⟨k0,k1,k2⟩⟩
structure Attr where
 name:Name
 value:List UInt8
 deriving DecidableEq,Inhabited
def Attr.zero:Attr:=⟨Name.zero,[]⟩
def zaG (x:Attr):D:= .agg [.str x.name.space,.str x.name.prefix_,.str x.name.local_,.str x.value]
def zDs:Ty:= .agg [.str,.str,.str,.str]
def Attr.ok (x:Attr):Prop:=Name.ok x.name∧x.value.length≤maxLen
theorem zyk (x:Attr):(zaG x).cells.length=4:=Eq.trans rfl rfl
theorem zyl (x:Attr):D.sub (zaG x) 0 (some 4)=some (zaG x):=rfl
theorem zom (x:Attr) (cs:List D) (h:cs.length=4):V.upd (.d (.agg cs)) 0 4 (.d (zaG x))=some (.d (zaG x)):=zgz (by simpa using h) rfl (by decide) rfl
theorem zuq (x:Attr):D.sub (zaG x) 0 (some 3)=some (zbE x.name):=rfl
theorem ziG (x:Attr):D.sub (zaG x) 0 none=some (.str x.name.space):=rfl
theorem zhe (x:Attr):D.sub (zaG x) 1 none=some (.str x.name.prefix_):=rfl
theorem zhO (x:Attr):D.sub (zaG x) 2 none=some (.str x.name.local_):=rfl
theorem zqm (x:Attr):D.sub (zaG x) 3 none=some (.str x.value):=rfl
theorem zym (x y:Attr):binV .neq (.agg [.str,.str,.str,.str]) (.d (zaG x)) (.d (zaG y))=some (.d (.bool (!decide (x=y)))):=by
 refine zwH ?_
 simp only[eqV,zaG,zaJ,zbn,if_true,Option.bind_some,Option.map_some]
 congr 1
 rw[Bool.eq_iff_iff];rcases x with⟨⟨a1,a2,a3⟩,a4⟩;rcases y with⟨⟨b1,b2,b3⟩,b4⟩;simp[and_assoc]
attribute [go_sem] zyk zyl zom zuq ziG zhe zhO zqm zym
theorem Attr.of {d:D} (h:HasTy zDs d):∃x:Attr,d=zaG x∧Attr.ok x:=by
 obtain⟨xs,rfl,hl,hx⟩:=h.agg_inv
 match xs,hl with
 |[x0,x1,x2,x3],_=>
  obtain⟨y0,rfl,k0⟩:=HasTy.str_inv (hx 0 _ _ rfl rfl)
  obtain⟨y1,rfl,k1⟩:=HasTy.str_inv (hx 1 _ _ rfl rfl)
  obtain⟨y2,rfl,k2⟩:=HasTy.str_inv (hx 2 _ _ rfl rfl)
  obtain⟨y3,rfl,k3⟩:=HasTy.str_inv (hx 3 _ _ rfl rfl)
  exact⟨⟨⟨y0,y1,y2⟩,y3⟩,rfl,⟨⟨k0,k1,k2⟩,k3⟩⟩
structure Node where
 kind:Int
 name:Name
 public_:List UInt8
 system:List UInt8
 data:Sl (Int)
 attrs:Sl (Attr)
 parent:Int
 kids:Sl (Int)
 doc:Int
 host:Int
 shadow:Int
 mode:Int
 manual:Bool
 hTML:Bool
 deriving DecidableEq,Inhabited
def Node.zero:Node:=⟨0,Name.zero,[],[],⟨true,[]⟩,⟨true,[]⟩,0,⟨true,[]⟩,0,0,0,0,false,false⟩
def zag (x:Node):D:= .agg [.int .u8 x.kind,.str x.name.space,.str x.name.prefix_,.str x.name.local_,.str x.public_,.str x.system,.list x.data.n (x.data.l.map (D.int .u16)),.list x.attrs.n (x.attrs.l.map zaG),.int .i64 x.parent,.list x.kids.n (x.kids.l.map (D.int .i64)),.int .i64 x.doc,.int .i64 x.host,.int .i64 x.shadow,.int .u8 x.mode,.bool x.manual,.bool x.hTML]
def zyn:Ty:= .agg [.int .u8,.str,.str,.str,.str,.str,.list (.int .u16),.list (zDs),.int .i64,.list (.int .i64),.int .i64,.int .i64,.int .i64,.int .u8,.bool,.bool]
def Node.ok (x:Node):Prop:=(IntKind.u8.min≤x.kind∧x.kind≤IntKind.u8.max)∧Name.ok x.name∧x.public_.length≤maxLen∧x.system.length≤maxLen∧Sl.ok (fun y=>(IntKind.u16.min≤y∧y≤IntKind.u16.max)) x.data∧Sl.ok (fun y=>Attr.ok y) x.attrs∧(IntKind.i64.min≤x.parent∧x.parent≤IntKind.i64.max)∧Sl.ok (fun y=>(IntKind.i64.min≤y∧y≤IntKind.i64.max)) x.kids∧(IntKind.i64.min≤x.doc∧x.doc≤IntKind.i64.max)∧(IntKind.i64.min≤x.host∧x.host≤IntKind.i64.max)∧(IntKind.i64.min≤x.shadow∧x.shadow≤IntKind.i64.max)∧(IntKind.u8.min≤x.mode∧x.mode≤IntKind.u8.max)∧True∧True
theorem zyo (x:Node):(zag x).cells.length=16:=Eq.trans rfl rfl
theorem zur (x:Node):(V.d (zag x)).cells.length=16:=Eq.trans rfl rfl
theorem zyp (x:Node):D.sub (zag x) 0 (some 16)=some (zag x):=rfl
theorem zyq (x:Node) (i:Nat) (m:Option Nat):V.fld i m (.d (zag x))=(D.sub (zag x) i m).map .d:=zDK _ _ _
theorem zon (x:Node) (cs:List D) (h:cs.length=16):V.upd (.d (.agg cs)) 0 16 (.d (zag x))=some (.d (zag x)):=zgz (by simpa using h) rfl (by decide) rfl
theorem zus (x:Node):D.sub (zag x) 0 none=some (.int .u8 x.kind):=rfl
theorem zut (x:Node):D.sub (zag x) 1 (some 3)=some (zbE x.name):=rfl
theorem ziH (x:Node):D.sub (zag x) 1 none=some (.str x.name.space):=rfl
theorem zhf (x:Node):D.sub (zag x) 2 none=some (.str x.name.prefix_):=rfl
theorem zhP (x:Node):D.sub (zag x) 3 none=some (.str x.name.local_):=rfl
theorem zmj (x:Node):D.sub (zag x) 4 none=some (.str x.public_):=rfl
theorem zoo (x:Node):D.sub (zag x) 5 none=some (.str x.system):=rfl
theorem zuu (x:Node):D.sub (zag x) 6 none=some (.list x.data.n (x.data.l.map (D.int .u16))):=rfl
theorem zqn (x:Node):D.sub (zag x) 7 none=some (.list x.attrs.n (x.attrs.l.map zaG)):=rfl
theorem zop (x:Node):D.sub (zag x) 8 none=some (.int .i64 x.parent):=rfl
theorem zuv (x:Node):D.sub (zag x) 9 none=some (.list x.kids.n (x.kids.l.map (D.int .i64))):=rfl
theorem zyr (x:Node):D.sub (zag x) 10 none=some (.int .i64 x.doc):=rfl
theorem zuw (x:Node):D.sub (zag x) 11 none=some (.int .i64 x.host):=rfl
theorem zoq (x:Node):D.sub (zag x) 12 none=some (.int .i64 x.shadow):=rfl
theorem zux (x:Node):D.sub (zag x) 13 none=some (.int .u8 x.mode):=rfl
theorem zor (x:Node):D.sub (zag x) 14 none=some (.bool x.manual):=rfl
theorem zuy (x:Node):D.sub (zag x) 15 none=some (.bool x.hTML):=rfl
attribute [go_sem] zyo zur zyp zyq zon zus zut ziH zhf zhP zmj zoo zuu zqn zop zuv zyr zuw zoq zux zor zuy
theorem Node.of {d:D} (h:HasTy zyn d):∃x:Node,d=zag x∧Node.ok x:=by
 obtain⟨xs,rfl,hl,hx⟩:=h.agg_inv
 match xs,hl with
 |[x0,x1,x2,x3,x4,x5,x6,x7,x8,x9,x10,x11,x12,x13,x14,x15],_=>
  obtain⟨y0,rfl,k0⟩:=HasTy.int_inv (hx 0 _ _ rfl rfl)
  obtain⟨y1,rfl,k1⟩:=HasTy.str_inv (hx 1 _ _ rfl rfl)
  obtain⟨y2,rfl,k2⟩:=HasTy.str_inv (hx 2 _ _ rfl rfl)
  obtain⟨y3,rfl,k3⟩:=HasTy.str_inv (hx 3 _ _ rfl rfl)
  obtain⟨y4,rfl,k4⟩:=HasTy.str_inv (hx 4 _ _ rfl rfl)
  obtain⟨y5,rfl,k5⟩:=HasTy.str_inv (hx 5 _ _ rfl rfl)
  obtain⟨y6,rfl,k6⟩:=(HasTy.sl_inv (fun _ h=>HasTy.int_inv h)) (hx 6 _ _ rfl rfl)
  obtain⟨y7,rfl,k7⟩:=(HasTy.sl_inv (fun _ h=>Attr.of h)) (hx 7 _ _ rfl rfl)
  obtain⟨y8,rfl,k8⟩:=HasTy.int_inv (hx 8 _ _ rfl rfl)
  obtain⟨y9,rfl,k9⟩:=(HasTy.sl_inv (fun _ h=>HasTy.int_inv h)) (hx 9 _ _ rfl rfl)
  obtain⟨y10,rfl,k10⟩:=HasTy.int_inv (hx 10 _ _ rfl rfl)
  obtain⟨y11,rfl,k11⟩:=HasTy.int_inv (hx 11 _ _ rfl rfl)
  obtain⟨y12,rfl,k12⟩:=HasTy.int_inv (hx 12 _ _ rfl rfl)
  obtain⟨y13,rfl,k13⟩:=HasTy.int_inv (hx 13 _ _ rfl rfl)
  obtain⟨y14,rfl,k14⟩:=HasTy.bool_inv (hx 14 _ _ rfl rfl)
  obtain⟨y15,rfl,k15⟩:=HasTy.bool_inv (hx 15 _ _ rfl rfl)
  exact⟨⟨y0,⟨y1,y2,y3⟩,y4,y5,y6,y7,y8,y9,y10,y11,y12,y13,y14,y15⟩,rfl,⟨k0,⟨k1,k2,k3⟩,k4,k5,k6,k7,k8,k9,k10,k11,k12,k13,k14,k15⟩⟩
structure Forest where
 nodes:Sl (Node)
 deriving DecidableEq,Inhabited
def Forest.zero:Forest:=⟨⟨true,[]⟩⟩
def zad (x:Forest):D:= .agg [.list x.nodes.n (x.nodes.l.map zag)]
def tyForest:Ty:= .agg [.list (zyn)]
def Forest.ok (x:Forest):Prop:=Sl.ok (fun y=>Node.ok y) x.nodes
theorem zqo (x:Forest):(zad x).cells.length=1:=Eq.trans rfl rfl
theorem zqp (x:Forest):D.sub (zad x) 0 (some 1)=some (zad x):=rfl
theorem zkJ (x:Forest) (cs:List D) (h:cs.length=1):V.upd (.d (.agg cs)) 0 1 (.d (zad x))=some (.d (zad x)):=zgz (by simpa using h) rfl (by decide) rfl
theorem zmk (x:Forest):D.sub (zad x) 0 none=some (.list x.nodes.n (x.nodes.l.map zag)):=rfl
attribute [go_sem] zqo zqp zkJ zmk
theorem Forest.of {d:D} (h:HasTy tyForest d):∃x:Forest,d=zad x∧Forest.ok x:=by
 obtain⟨xs,rfl,hl,hx⟩:=h.agg_inv
 match xs,hl with
 |[x0],_=>
  obtain⟨y0,rfl,k0⟩:=(HasTy.sl_inv (fun _ h=>Node.of h)) (hx 0 _ _ rfl rfl)
  exact⟨⟨y0⟩,rfl,k0⟩
structure Change where
 kind:Int
 node:Int
 parent:Int
 index:Int
 other:Int
 doc:Int
 offset:Int
 count:Int
 data:Sl (Int)
 name:Name
 old:List UInt8
 value:List UInt8
 had:Bool
 has:Bool
 made:Node
 added:Sl (Int)
 removed:Sl (Int)
 prev:Int
 next:Int
 deriving DecidableEq,Inhabited
def Change.zero:Change:=⟨0,0,0,0,0,0,0,0,⟨true,[]⟩,Name.zero,[],[],false,false,Node.zero,⟨true,[]⟩,⟨true,[]⟩,0,0⟩
def zaL (x:Change):D:= .agg [.int .u8 x.kind,.int .i64 x.node,.int .i64 x.parent,.int .i64 x.index,.int .i64 x.other,.int .i64 x.doc,.int .i64 x.offset,.int .i64 x.count,.list x.data.n (x.data.l.map (D.int .u16)),.str x.name.space,.str x.name.prefix_,.str x.name.local_,.str x.old,.str x.value,.bool x.had,.bool x.has,.int .u8 x.made.kind,.str x.made.name.space,.str x.made.name.prefix_,.str x.made.name.local_,.str x.made.public_,.str x.made.system,.list x.made.data.n (x.made.data.l.map (D.int .u16)),.list x.made.attrs.n (x.made.attrs.l.map zaG),.int .i64 x.made.parent,.list x.made.kids.n (x.made.kids.l.map (D.int .i64)),.int .i64 x.made.doc,.int .i64 x.made.host,.int .i64 x.made.shadow,.int .u8 x.made.mode,.bool x.made.manual,.bool x.made.hTML,.list x.added.n (x.added.l.map (D.int .i64)),.list x.removed.n (x.removed.l.map (D.int .i64)),.int .i64 x.prev,.int .i64 x.next]
def Change.ok (x:Change):Prop:=(IntKind.u8.min≤x.kind∧x.kind≤IntKind.u8.max)∧(IntKind.i64.min≤x.node∧x.node≤IntKind.i64.max)∧(IntKind.i64.min≤x.parent∧x.parent≤IntKind.i64.max)∧(IntKind.i64.min≤x.index∧x.index≤IntKind.i64.max)∧(IntKind.i64.min≤x.other∧x.other≤IntKind.i64.max)∧(IntKind.i64.min≤x.doc∧x.doc≤IntKind.i64.max)∧(IntKind.i64.min≤x.offset∧x.offset≤IntKind.i64.max)∧(IntKind.i64.min≤x.count∧x.count≤IntKind.i64.max)∧Sl.ok (fun y=>(IntKind.u16.min≤y∧y≤IntKind.u16.max)) x.data∧Name.ok x.name∧x.old.length≤maxLen∧x.value.length≤maxLen∧True∧True∧Node.ok x.made∧Sl.ok (fun y=>(IntKind.i64.min≤y∧y≤IntKind.i64.max)) x.added∧Sl.ok (fun y=>(IntKind.i64.min≤y∧y≤IntKind.i64.max)) x.removed∧(IntKind.i64.min≤x.prev∧x.prev≤IntKind.i64.max)∧(IntKind.i64.min≤x.next∧x.next≤IntKind.i64.max)
theorem zqq (x:Change):D.sub (zaL x) 0 (some 36)=some (zaL x):=rfl
theorem zos (x:Change):D.sub (zaL x) 0 none=some (.int .u8 x.kind):=rfl
theorem zot (x:Change):D.sub (zaL x) 1 none=some (.int .i64 x.node):=rfl
theorem zkK (x:Change):D.sub (zaL x) 2 none=some (.int .i64 x.parent):=rfl
theorem zml (x:Change):D.sub (zaL x) 3 none=some (.int .i64 x.index):=rfl
theorem zmm (x:Change):D.sub (zaL x) 4 none=some (.int .i64 x.other):=rfl
theorem zqr (x:Change):D.sub (zaL x) 5 none=some (.int .i64 x.doc):=rfl
theorem zkL (x:Change):D.sub (zaL x) 6 none=some (.int .i64 x.offset):=rfl
theorem zmn (x:Change):D.sub (zaL x) 7 none=some (.int .i64 x.count):=rfl
theorem zou (x:Change):D.sub (zaL x) 8 none=some (.list x.data.n (x.data.l.map (D.int .u16))):=rfl
theorem zov (x:Change):D.sub (zaL x) 9 (some 3)=some (zbE x.name):=rfl
theorem zhg (x:Change):D.sub (zaL x) 9 none=some (.str x.name.space):=rfl
theorem zgf (x:Change):D.sub (zaL x) 10 none=some (.str x.name.prefix_):=rfl
theorem zgD (x:Change):D.sub (zaL x) 11 none=some (.str x.name.local_):=rfl
theorem zqs (x:Change):D.sub (zaL x) 12 none=some (.str x.old):=rfl
theorem zmo (x:Change):D.sub (zaL x) 13 none=some (.str x.value):=rfl
theorem zqt (x:Change):D.sub (zaL x) 14 none=some (.bool x.had):=rfl
theorem zqu (x:Change):D.sub (zaL x) 15 none=some (.bool x.has):=rfl
theorem zow (x:Change):D.sub (zaL x) 16 (some 16)=some (zag x.made):=rfl
theorem zhQ (x:Change):D.sub (zaL x) 16 none=some (.int .u8 x.made.kind):=rfl
theorem zhR (x:Change):D.sub (zaL x) 17 (some 3)=some (zbE x.made.name):=rfl
theorem zeN (x:Change):D.sub (zaL x) 17 none=some (.str x.made.name.space):=rfl
theorem zed (x:Change):D.sub (zaL x) 18 none=some (.str x.made.name.prefix_):=rfl
theorem zep (x:Change):D.sub (zaL x) 19 none=some (.str x.made.name.local_):=rfl
theorem zgg (x:Change):D.sub (zaL x) 20 none=some (.str x.made.public_):=rfl
theorem zgE (x:Change):D.sub (zaL x) 21 none=some (.str x.made.system):=rfl
theorem zhS (x:Change):D.sub (zaL x) 22 none=some (.list x.made.data.n (x.made.data.l.map (D.int .u16))):=rfl
theorem zhh (x:Change):D.sub (zaL x) 23 none=some (.list x.made.attrs.n (x.made.attrs.l.map zaG)):=rfl
theorem zgF (x:Change):D.sub (zaL x) 24 none=some (.int .i64 x.made.parent):=rfl
theorem zhT (x:Change):D.sub (zaL x) 25 none=some (.list x.made.kids.n (x.made.kids.l.map (D.int .i64))):=rfl
theorem ziI (x:Change):D.sub (zaL x) 26 none=some (.int .i64 x.made.doc):=rfl
theorem zhU (x:Change):D.sub (zaL x) 27 none=some (.int .i64 x.made.host):=rfl
theorem zgG (x:Change):D.sub (zaL x) 28 none=some (.int .i64 x.made.shadow):=rfl
theorem zhV (x:Change):D.sub (zaL x) 29 none=some (.int .u8 x.made.mode):=rfl
theorem zgH (x:Change):D.sub (zaL x) 30 none=some (.bool x.made.manual):=rfl
theorem zhW (x:Change):D.sub (zaL x) 31 none=some (.bool x.made.hTML):=rfl
theorem zmp (x:Change):D.sub (zaL x) 32 none=some (.list x.added.n (x.added.l.map (D.int .i64))):=rfl
theorem zkl (x:Change):D.sub (zaL x) 33 none=some (.list x.removed.n (x.removed.l.map (D.int .i64))):=rfl
theorem zox (x:Change):D.sub (zaL x) 34 none=some (.int .i64 x.prev):=rfl
theorem zoy (x:Change):D.sub (zaL x) 35 none=some (.int .i64 x.next):=rfl
attribute [go_sem] zqq zos zot zkK zml zmm zqr zkL zmn zou zov zhg zgf zgD zqs zmo zqt zqu zow zhQ zhR zeN zed zep zgg zgE zhS zhh zgF zhT ziI zhU zgG zhV zgH zhW zmp zkl zox zoy
structure Bound where
 node:Int
 offset:Int
 deriving DecidableEq,Inhabited
def Bound.zero:Bound:=⟨0,0⟩
def zal (x:Bound):D:= .agg [.int .i64 x.node,.int .i64 x.offset]
def tyBound:Ty:= .agg [.int .i64,.int .i64]
def Bound.ok (x:Bound):Prop:=(IntKind.i64.min≤x.node∧x.node≤IntKind.i64.max)∧(IntKind.i64.min≤x.offset∧x.offset≤IntKind.i64.max)
theorem zuz (x:Bound):(zal x).cells.length=2:=Eq.trans rfl rfl
theorem zqv (x:Bound):(V.d (zal x)).cells.length=2:=Eq.trans rfl rfl
theorem zuA (x:Bound):D.sub (zal x) 0 (some 2)=some (zal x):=rfl
theorem zmq (x:Bound) (cs:List D) (h:cs.length=2):V.upd (.d (.agg cs)) 0 2 (.d (zal x))=some (.d (zal x)):=zgz (by simpa using h) rfl (by decide) rfl
theorem zqw (x:Bound):D.sub (zal x) 0 none=some (.int .i64 x.node):=rfl
theorem zmr (x:Bound):D.sub (zal x) 1 none=some (.int .i64 x.offset):=rfl
theorem zuB (x y:Bound):binV .eql (.agg [.int,.int]) (.d (zal x)) (.d (zal y))=some (.d (.bool (decide (x=y)))):=by
 refine zDo ?_
 simp only[eqV,zal,zaJ,zbn,if_true,Option.bind_some,Option.map_some]
 congr 1
 rw[Bool.eq_iff_iff];rcases x with⟨a1,a2⟩;rcases y with⟨b1,b2⟩;simp[and_assoc]
theorem zuC (x y:Bound):binV .neq (.agg [.int,.int]) (.d (zal x)) (.d (zal y))=some (.d (.bool (!decide (x=y)))):=by
 refine zwH ?_
 simp only[eqV,zal,zaJ,zbn,if_true,Option.bind_some,Option.map_some]
 congr 1
 rw[Bool.eq_iff_iff];rcases x with⟨a1,a2⟩;rcases y with⟨b1,b2⟩;simp[and_assoc]
attribute [go_sem] zuz zqv zuA zmq zqw zmr zuB zuC
theorem Bound.of {d:D} (h:HasTy tyBound d):∃x:Bound,d=zal x∧Bound.ok x:=by
 obtain⟨xs,rfl,hl,hx⟩:=h.agg_inv
 match xs,hl with
 |[x0,x1],_=>
  obtain⟨y0,rfl,k0⟩:=HasTy.int_inv (hx 0 _ _ rfl rfl)
  obtain⟨y1,rfl,k1⟩:=HasTy.int_inv (hx 1 _ _ rfl rfl)
  exact⟨⟨y0,y1⟩,rfl,⟨k0,k1⟩⟩
structure Range where
 start:Bound
 end_:Bound
 deriving DecidableEq,Inhabited
def Range.zero:Range:=⟨Bound.zero,Bound.zero⟩
def zdS (x:Range):D:= .agg [.int .i64 x.start.node,.int .i64 x.start.offset,.int .i64 x.end_.node,.int .i64 x.end_.offset]
def zGc:Ty:= .agg [.int .i64,.int .i64,.int .i64,.int .i64]
def Range.ok (x:Range):Prop:=Bound.ok x.start∧Bound.ok x.end_
theorem zuD (x:Range):D.sub (zdS x) 0 (some 4)=some (zdS x):=rfl
theorem zoz (x:Range):D.sub (zdS x) 0 (some 2)=some (zal x.start):=rfl
theorem zhX (x:Range):D.sub (zdS x) 0 none=some (.int .i64 x.start.node):=rfl
theorem zgI (x:Range):D.sub (zdS x) 1 none=some (.int .i64 x.start.offset):=rfl
theorem zqx (x:Range):D.sub (zdS x) 2 (some 2)=some (zal x.end_):=rfl
theorem ziJ (x:Range):D.sub (zdS x) 2 none=some (.int .i64 x.end_.node):=rfl
theorem zhi (x:Range):D.sub (zdS x) 3 none=some (.int .i64 x.end_.offset):=rfl
attribute [go_sem] zuD zoz zhX zgI zqx ziJ zhi
theorem Range.of {d:D} (h:HasTy zGc d):∃x:Range,d=zdS x∧Range.ok x:=by
 obtain⟨xs,rfl,hl,hx⟩:=h.agg_inv
 match xs,hl with
 |[x0,x1,x2,x3],_=>
  obtain⟨y0,rfl,k0⟩:=HasTy.int_inv (hx 0 _ _ rfl rfl)
  obtain⟨y1,rfl,k1⟩:=HasTy.int_inv (hx 1 _ _ rfl rfl)
  obtain⟨y2,rfl,k2⟩:=HasTy.int_inv (hx 2 _ _ rfl rfl)
  obtain⟨y3,rfl,k3⟩:=HasTy.int_inv (hx 3 _ _ rfl rfl)
  exact⟨⟨⟨y0,y1⟩,⟨y2,y3⟩⟩,rfl,⟨⟨k0,k1⟩,⟨k2,k3⟩⟩⟩
structure valid_ask where
 f:Forest
 parent:Int
 child:Int
 replace:Bool
 deriving DecidableEq,Inhabited
def valid_ask.zero:valid_ask:=⟨Forest.zero,0,0,false⟩
def zbp (x:valid_ask):D:= .agg [.list x.f.nodes.n (x.f.nodes.l.map zag),.int .i64 x.parent,.int .i64 x.child,.bool x.replace]
def zqy:Ty:= .agg [.list (zyn),.int .i64,.int .i64,.bool]
def valid_ask.ok (x:valid_ask):Prop:=Forest.ok x.f∧(IntKind.i64.min≤x.parent∧x.parent≤IntKind.i64.max)∧(IntKind.i64.min≤x.child∧x.child≤IntKind.i64.max)∧True
theorem zkM (x:valid_ask):D.sub (zbp x) 0 (some 4)=some (zbp x):=rfl
theorem zoA (x:valid_ask):D.sub (zbp x) 0 (some 1)=some (zad x.f):=rfl
theorem zhj (x:valid_ask):D.sub (zbp x) 0 none=some (.list x.f.nodes.n (x.f.nodes.l.map zag)):=rfl
theorem zhY (x:valid_ask):D.sub (zbp x) 1 none=some (.int .i64 x.parent):=rfl
theorem ziK (x:valid_ask):D.sub (zbp x) 2 none=some (.int .i64 x.child):=rfl
theorem zhk (x:valid_ask):D.sub (zbp x) 3 none=some (.bool x.replace):=rfl
attribute [go_sem] zkM zoA zhj zhY ziK zhk
theorem valid_ask.of {d:D} (h:HasTy zqy d):∃x:valid_ask,d=zbp x∧valid_ask.ok x:=by
 obtain⟨xs,rfl,hl,hx⟩:=h.agg_inv
 match xs,hl with
 |[x0,x1,x2,x3],_=>
  obtain⟨y0,rfl,k0⟩:=(HasTy.sl_inv (fun _ h=>Node.of h)) (hx 0 _ _ rfl rfl)
  obtain⟨y1,rfl,k1⟩:=HasTy.int_inv (hx 1 _ _ rfl rfl)
  obtain⟨y2,rfl,k2⟩:=HasTy.int_inv (hx 2 _ _ rfl rfl)
  obtain⟨y3,rfl,k3⟩:=HasTy.bool_inv (hx 3 _ _ rfl rfl)
  exact⟨⟨⟨y0⟩,y1,y2,y3⟩,rfl,⟨k0,k1,k2,k3⟩⟩
structure forest_trait where
 known:Bool
 data:Bool
 kids:Bool
 hung:Bool
 full:Bool
 local_:Bool
 deriving DecidableEq,Inhabited
def forest_trait.zero:forest_trait:=⟨false,false,false,false,false,false⟩
def zay (x:forest_trait):D:= .agg [.bool x.known,.bool x.data,.bool x.kids,.bool x.hung,.bool x.full,.bool x.local_]
def zkN:Ty:= .agg [.bool,.bool,.bool,.bool,.bool,.bool]
def forest_trait.ok (x:forest_trait):Prop:=True∧True∧True∧True∧True∧True
theorem zhZ (x:forest_trait):(zay x).cells.length=6:=Eq.trans rfl rfl
theorem zia (x:forest_trait):D.sub (zay x) 0 (some 6)=some (zay x):=rfl
theorem zgh (x:forest_trait) (cs:List D) (h:cs.length=6):V.upd (.d (.agg cs)) 0 6 (.d (zay x))=some (.d (zay x)):=zgz (by simpa using h) rfl (by decide) rfl
theorem zgJ (x:forest_trait):D.sub (zay x) 0 none=some (.bool x.known):=rfl
theorem zhl (x:forest_trait):D.sub (zay x) 1 none=some (.bool x.data):=rfl
theorem zhm (x:forest_trait):D.sub (zay x) 2 none=some (.bool x.kids):=rfl
theorem zhn (x:forest_trait):D.sub (zay x) 3 none=some (.bool x.hung):=rfl
theorem zho (x:forest_trait):D.sub (zay x) 4 none=some (.bool x.full):=rfl
theorem zgi (x:forest_trait):D.sub (zay x) 5 none=some (.bool x.local_):=rfl
attribute [go_sem] zhZ zia zgh zgJ zhl zhm zhn zho zgi
theorem forest_trait.of {d:D} (h:HasTy zkN d):∃x:forest_trait,d=zay x∧forest_trait.ok x:=by
 obtain⟨xs,rfl,hl,hx⟩:=h.agg_inv
 match xs,hl with
 |[x0,x1,x2,x3,x4,x5],_=>
  obtain⟨y0,rfl,k0⟩:=HasTy.bool_inv (hx 0 _ _ rfl rfl)
  obtain⟨y1,rfl,k1⟩:=HasTy.bool_inv (hx 1 _ _ rfl rfl)
  obtain⟨y2,rfl,k2⟩:=HasTy.bool_inv (hx 2 _ _ rfl rfl)
  obtain⟨y3,rfl,k3⟩:=HasTy.bool_inv (hx 3 _ _ rfl rfl)
  obtain⟨y4,rfl,k4⟩:=HasTy.bool_inv (hx 4 _ _ rfl rfl)
  obtain⟨y5,rfl,k5⟩:=HasTy.bool_inv (hx 5 _ _ rfl rfl)
  exact⟨⟨y0,y1,y2,y3,y4,y5⟩,rfl,⟨k0,k1,k2,k3,k4,k5⟩⟩
structure forest_key where
 space:List UInt8
 local_:List UInt8
 deriving DecidableEq,Inhabited
def forest_key.zero:forest_key:=⟨[],[]⟩
def zah (x:forest_key):D:= .agg [.str x.space,.str x.local_]
def zoB:Ty:= .agg [.str,.str]
def forest_key.ok (x:forest_key):Prop:=x.space.length≤maxLen∧x.local_.length≤maxLen
theorem zkm (x:forest_key):D.sub (zah x) 0 (some 2)=some (zah x):=rfl
theorem zhp (x:forest_key) (cs:List D) (h:cs.length=2):V.upd (.d (.agg cs)) 0 2 (.d (zah x))=some (.d (zah x)):=zgz (by simpa using h) rfl (by decide) rfl
theorem zib (x:forest_key):D.sub (zah x) 0 none=some (.str x.space):=rfl
theorem zhq (x:forest_key):D.sub (zah x) 1 none=some (.str x.local_):=rfl
theorem zai:Keyed [.str,.str] zah:=by
 intro x y
 simp only[zeA,zah,D.isAgg,D.cells,zaJ,zbn,if_true,Option.bind_some,Option.map_some]
 rw[if_pos ⟨rfl,rfl⟩]
 congr 1
 rw[Bool.eq_iff_iff];rcases x with⟨a1,a2⟩;rcases y with⟨b1,b2⟩;simp[and_assoc]
attribute [go_sem] zkm zhp zib zhq
theorem forest_key.of {d:D} (h:HasTy zoB d):∃x:forest_key,d=zah x∧forest_key.ok x:=by
 obtain⟨xs,rfl,hl,hx⟩:=h.agg_inv
 match xs,hl with
 |[x0,x1],_=>
  obtain⟨y0,rfl,k0⟩:=HasTy.str_inv (hx 0 _ _ rfl rfl)
  obtain⟨y1,rfl,k1⟩:=HasTy.str_inv (hx 1 _ _ rfl rfl)
  exact⟨⟨y0,y1⟩,rfl,⟨k0,k1⟩⟩
end Go.Proofs.Ytfleilibjdgcjaa.B
