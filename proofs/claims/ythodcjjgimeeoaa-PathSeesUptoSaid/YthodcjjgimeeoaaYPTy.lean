/- Shaken copy of a longer text: what one law needs. Its conditions: none. -/
import Derived.Test.YthodcjjgimeeoaaYAiE
set_option linter.unusedSimpArgs false
set_option linter.unusedVariables false
namespace Go.Proofs.Ythodcjjgimeeoaa.P
open Go.AI
structure Name where
 space:List UInt8
 prefix_:List UInt8
 local_:List UInt8
 deriving DecidableEq,Inhabited
def Name.zero:Name:=⟨[],[],[]⟩
def zbR (x:Name):D:= .agg [.str x.space,.str x.prefix_,.str x.local_]
def zGz:Ty:= .agg [.str,.str,.str]
def Name.ok (x:Name):Prop:=x.space.length≤maxLen∧x.prefix_.length≤maxLen∧x.local_.length≤maxLen
theorem zwe (x:Name):(zbR x).cells.length=3:=Eq.trans rfl rfl
theorem zwf (x:Name):D.sub (zbR x) 0 (some 3)=some (zbR x):=rfl
theorem zoF (x:Name):D.sub (zbR x) 0 none=some (.str x.space):=rfl
theorem zkS (x:Name):D.sub (zbR x) 1 none=some (.str x.prefix_):=rfl
theorem zmI (x:Name):D.sub (zbR x) 2 none=some (.str x.local_):=rfl
theorem zmJ (x y:Name):binV .eql (.agg [.str,.str,.str]) (.d (zbR x)) (.d (zbR y))=some (.d (.bool (decide (x=y)))):=by
 refine zFu ?_
 simp only[eqV,zbR,zaI,zbm,if_true,Option.bind_some,Option.map_some]
 congr 1
 rw[Bool.eq_iff_iff];rcases x with⟨a1,a2,a3⟩;rcases y with⟨b1,b2,b3⟩;simp[and_assoc]
theorem zsr (x:Name) (y0:List UInt8) (y1:List UInt8) (y2:List UInt8):binV .eql (.agg [.str,.str,.str]) (.d (zbR x)) (.d (.agg [.str y0,.str y1,.str y2]))=some (.d (.bool (decide (x=⟨y0,y1,y2⟩)))):=zmJ x ⟨y0,y1,y2⟩
theorem zmK (x y:Name):binV .neq (.agg [.str,.str,.str]) (.d (zbR x)) (.d (zbR y))=some (.d (.bool (!decide (x=y)))):=by
 refine zBg ?_
 simp only[eqV,zbR,zaI,zbm,if_true,Option.bind_some,Option.map_some]
 congr 1
 rw[Bool.eq_iff_iff];rcases x with⟨a1,a2,a3⟩;rcases y with⟨b1,b2,b3⟩;simp[and_assoc]
theorem zss (x:Name) (y0:List UInt8) (y1:List UInt8) (y2:List UInt8):binV .neq (.agg [.str,.str,.str]) (.d (zbR x)) (.d (.agg [.str y0,.str y1,.str y2]))=some (.d (.bool (!decide (x=⟨y0,y1,y2⟩)))):=zmK x ⟨y0,y1,y2⟩
attribute [go_sem] zwe zwf zoF zkS zmI zmJ zsr zmK zss
theorem Name.of {d:D} (h:HasTy zGz d):∃x:Name,d=zbR x∧Name.ok x:=by
 obtain⟨xs,rfl,hl,hx⟩:=h.agg_inv
 match xs,hl with
 |[x0,x1,x2],_=>
  obtain⟨y0,rfl,k0⟩:=HasTy.str_inv (hx 0 _ _ rfl rfl)
  obtain⟨y1,rfl,k1⟩:=HasTy.str_inv (hx 1 _ _ rfl rfl)
  obtain⟨y2,rfl,k2⟩:=HasTy.str_inv (hx 2 _ _ rfl rfl)
  exact⟨⟨y0,y1,y2⟩,rfl,⟨k0,k1,k2⟩⟩
structure Attr where
 name:Name
 value:List UInt8
 deriving DecidableEq,Inhabited
def Attr.zero:Attr:=⟨Name.zero,[]⟩
def zaL (x:Attr):D:= .agg [.str x.name.space,.str x.name.prefix_,.str x.name.local_,.str x.value]
def zBj:Ty:= .agg [.str,.str,.str,.str]
def Attr.ok (x:Attr):Prop:=Name.ok x.name∧x.value.length≤maxLen
theorem zwg (x:Attr):(zaL x).cells.length=4:=Eq.trans rfl rfl
theorem zwh (x:Attr):D.sub (zaL x) 0 (some 4)=some (zaL x):=rfl
theorem zmL (x:Attr) (cs:List D) (h:cs.length=4):V.upd (.d (.agg cs)) 0 4 (.d (zaL x))=some (.d (zaL x)):=zgP (by simpa using h) rfl (by decide) rfl
theorem zst (x:Attr):D.sub (zaL x) 0 (some 3)=some (zbR x.name):=rfl
theorem zhT (x:Attr):D.sub (zaL x) 0 none=some (.str x.name.space):=rfl
theorem zgm (x:Attr):D.sub (zaL x) 1 none=some (.str x.name.prefix_):=rfl
theorem zgU (x:Attr):D.sub (zaL x) 2 none=some (.str x.name.local_):=rfl
theorem zoG (x:Attr):D.sub (zaL x) 3 none=some (.str x.value):=rfl
attribute [go_sem] zwg zwh zmL zst zhT zgm zgU zoG
theorem Attr.of {d:D} (h:HasTy zBj d):∃x:Attr,d=zaL x∧Attr.ok x:=by
 obtain⟨xs,rfl,hl,hx⟩:=h.agg_inv
 match xs,hl with
 |[x0,x1,x2,x3],_=>
  obtain⟨y0,rfl,k0⟩:=HasTy.str_inv (hx 0 _ _ rfl rfl)
  obtain⟨y1,rfl,k1⟩:=HasTy.str_inv (hx 1 _ _ rfl rfl)
  obtain⟨y2,rfl,k2⟩:=HasTy.str_inv (hx 2 _ _ rfl rfl)
  obtain⟨y3,rfl,k3⟩:=HasTy.str_inv (hx 3 _ _ rfl rfl)
  exact⟨⟨⟨y0,y1,y2⟩,y3⟩,rfl,⟨⟨k0,k1,k2⟩,k3⟩⟩
structure Node where
 kind:Int
 name:Name
 public_:List UInt8
 system:List UInt8
 data:Sl (Int)
 attrs:Sl (Attr)
 parent:Int
 kids:Sl (Int)
 doc:Int
 host:Int
 shadow:Int
 mode:Int
 manual:Bool
 hTML:Bool
 deriving DecidableEq,Inhabited
def Node.zero:Node:=⟨0,Name.zero,[],[],⟨true,[]⟩,⟨true,[]⟩,0,⟨true,[]⟩,0,0,0,0,false,false⟩
def zaj (x:Node):D:= .agg [.int .u8 x.kind,.str x.name.space,.str x.name.prefix_,.str x.name.local_,.str x.public_,.str x.system,.list x.data.n (x.data.l.map (D.int .u16)),.list x.attrs.n (x.attrs.l.map zaL),.int .i64 x.parent,.list x.kids.n (x.kids.l.map (D.int .i64)),.int .i64 x.doc,.int .i64 x.host,.int .i64 x.shadow,.int .u8 x.mode,.bool x.manual,.bool x.hTML]
def zkh:Ty:= .agg [.int .u8,.str,.str,.str,.str,.str,.list (.int .u16),.list (zBj),.int .i64,.list (.int .i64),.int .i64,.int .i64,.int .i64,.int .u8,.bool,.bool]
def Node.ok (x:Node):Prop:=(IntKind.u8.min≤x.kind∧x.kind≤IntKind.u8.max)∧Name.ok x.name∧x.public_.length≤maxLen∧x.system.length≤maxLen∧Sl.ok (fun y=>(IntKind.u16.min≤y∧y≤IntKind.u16.max)) x.data∧Sl.ok (fun y=>Attr.ok y) x.attrs∧(IntKind.i64.min≤x.parent∧x.parent≤IntKind.i64.max)∧Sl.ok (fun y=>(IntKind.i64.min≤y∧y≤IntKind.i64.max)) x.kids∧(IntKind.i64.min≤x.doc∧x.doc≤IntKind.i64.max)∧(IntKind.i64.min≤x.host∧x.host≤IntKind.i64.max)∧(IntKind.i64.min≤x.shadow∧x.shadow≤IntKind.i64.max)∧(IntKind.u8.min≤x.mode∧x.mode≤IntKind.u8.max)∧True∧True
theorem zwi (x:Node):(zaj x).cells.length=16:=Eq.trans rfl rfl
theorem zwj (x:Node):D.sub (zaj x) 0 (some 16)=some (zaj x):=rfl
theorem zwk (x:Node) (i:Nat) (m:Option Nat):V.fld i m (.d (zaj x))=(D.sub (zaj x) i m).map .d:=zBz _ _ _
theorem zmM (x:Node) (cs:List D) (h:cs.length=16):V.upd (.d (.agg cs)) 0 16 (.d (zaj x))=some (.d (zaj x)):=zgP (by simpa using h) rfl (by decide) rfl
theorem zsu (x:Node):D.sub (zaj x) 0 none=some (.int .u8 x.kind):=rfl
theorem zsv (x:Node):D.sub (zaj x) 1 (some 3)=some (zbR x.name):=rfl
theorem zhU (x:Node):D.sub (zaj x) 1 none=some (.str x.name.space):=rfl
theorem zgn (x:Node):D.sub (zaj x) 2 none=some (.str x.name.prefix_):=rfl
theorem zgV (x:Node):D.sub (zaj x) 3 none=some (.str x.name.local_):=rfl
theorem zkT (x:Node):D.sub (zaj x) 4 none=some (.str x.public_):=rfl
theorem zmN (x:Node):D.sub (zaj x) 5 none=some (.str x.system):=rfl
theorem zsw (x:Node):D.sub (zaj x) 6 none=some (.list x.data.n (x.data.l.map (D.int .u16))):=rfl
theorem zoH (x:Node):D.sub (zaj x) 7 none=some (.list x.attrs.n (x.attrs.l.map zaL)):=rfl
theorem zmO (x:Node):D.sub (zaj x) 8 none=some (.int .i64 x.parent):=rfl
theorem zsx (x:Node):D.sub (zaj x) 9 none=some (.list x.kids.n (x.kids.l.map (D.int .i64))):=rfl
theorem zwl (x:Node):D.sub (zaj x) 10 none=some (.int .i64 x.doc):=rfl
theorem zsy (x:Node):D.sub (zaj x) 11 none=some (.int .i64 x.host):=rfl
theorem zmP (x:Node):D.sub (zaj x) 12 none=some (.int .i64 x.shadow):=rfl
theorem zsz (x:Node):D.sub (zaj x) 13 none=some (.int .u8 x.mode):=rfl
theorem zmQ (x:Node):D.sub (zaj x) 14 none=some (.bool x.manual):=rfl
theorem zsA (x:Node):D.sub (zaj x) 15 none=some (.bool x.hTML):=rfl
attribute [go_sem] zwi zwj zwk zmM zsu zsv zhU zgn zgV zkT zmN zsw zoH zmO zsx zwl zsy zmP zsz zmQ zsA
theorem Node.of {d:D} (h:HasTy zkh d):∃x:Node,d=zaj x∧Node.ok x:=by
 obtain⟨xs,rfl,hl,hx⟩:=h.agg_inv
 match xs,hl with
 |[x0,x1,x2,x3,x4,x5,x6,x7,x8,x9,x10,x11,x12,x13,x14,x15],_=>
  obtain⟨y0,rfl,k0⟩:=HasTy.int_inv (hx 0 _ _ rfl rfl)
  obtain⟨y1,rfl,k1⟩:=HasTy.str_inv (hx 1 _ _ rfl rfl)
  obtain⟨y2,rfl,k2⟩:=HasTy.str_inv (hx 2 _ _ rfl rfl)
  obtain⟨y3,rfl,k3⟩:=HasTy.str_inv (hx 3 _ _ rfl rfl)
  obtain⟨y4,rfl,k4⟩:=HasTy.str_inv (hx 4 _ _ rfl rfl)
  obtain⟨y5,rfl,k5⟩:=HasTy.str_inv (hx 5 _ _ rfl rfl)
  obtain⟨y6,rfl,k6⟩:=(HasTy.sl_inv (fun _ h=>HasTy.int_inv h)) (hx 6 _ _ rfl rfl)
  obtain⟨y7,rfl,k7⟩:=(HasTy.sl_inv (fun _ h=>Attr.of h)) (hx 7 _ _ rfl rfl)
  obtain⟨y8,rfl,k8⟩:=HasTy.int_inv (hx 8 _ _ rfl rfl)
  obtain⟨y9,rfl,k9⟩:=(HasTy.sl_inv (fun _ h=>HasTy.int_inv h)) (hx 9 _ _ rfl rfl)
  obtain⟨y10,rfl,k10⟩:=HasTy.int_inv (hx 10 _ _ rfl rfl)
  obtain⟨y11,rfl,k11⟩:=HasTy.int_inv (hx 11 _ _ rfl rfl)
  obtain⟨y12,rfl,k12⟩:=HasTy.int_inv (hx 12 _ _ rfl rfl)
  obtain⟨y13,rfl,k13⟩:=HasTy.int_inv (hx 13 _ _ rfl rfl)
  obtain⟨y14,rfl,k14⟩:=HasTy.bool_inv (hx 14 _ _ rfl rfl)
  obtain⟨y15,rfl,k15⟩:=HasTy.bool_inv (hx 15 _ _ rfl rfl)
  exact⟨⟨y0,⟨y1,y2,y3⟩,y4,y5,y6,y7,y8,y9,y10,y11,y12,y13,y14,y15⟩,rfl,⟨k0,⟨k1,k2,k3⟩,k4,k5,k6,k7,k8,k9,k10,k11,k12,k13,k14,k15⟩⟩
structure Forest where
 nodes:Sl (Node)
 deriving DecidableEq,Inhabited
def Forest.zero:Forest:=⟨⟨true,[]⟩⟩
def zam (x:Forest):D:= .agg [.list x.nodes.n (x.nodes.l.map zaj)]
def tyForest:Ty:= .agg [.list (zkh)]
def Forest.ok (x:Forest):Prop:=Sl.ok (fun y=>Node.ok y) x.nodes
theorem zoI (x:Forest):(zam x).cells.length=1:=Eq.trans rfl rfl
theorem zoJ (x:Forest):D.sub (zam x) 0 (some 1)=some (zam x):=rfl
theorem zkU (x:Forest):D.sub (zam x) 0 none=some (.list x.nodes.n (x.nodes.l.map zaj)):=rfl
attribute [go_sem] zoI zoJ zkU
theorem Forest.of {d:D} (h:HasTy tyForest d):∃x:Forest,d=zam x∧Forest.ok x:=by
 obtain⟨xs,rfl,hl,hx⟩:=h.agg_inv
 match xs,hl with
 |[x0],_=>
  obtain⟨y0,rfl,k0⟩:=(HasTy.sl_inv (fun _ h=>Node.of h)) (hx 0 _ _ rfl rfl)
  exact⟨⟨y0⟩,rfl,k0⟩
structure Rule where
 kind:Int
 local_:List UInt8
 verdict:Int
 deriving DecidableEq,Inhabited
def Rule.zero:Rule:=⟨0,[],0⟩
def zgo (x:Rule):D:= .agg [.int .u8 x.kind,.str x.local_,.int .u8 x.verdict]
def zqf:Ty:= .agg [.int .u8,.str,.int .u8]
def Rule.ok (x:Rule):Prop:=(IntKind.u8.min≤x.kind∧x.kind≤IntKind.u8.max)∧x.local_.length≤maxLen∧(IntKind.u8.min≤x.verdict∧x.verdict≤IntKind.u8.max)
theorem zwm (x:Rule):D.sub (zgo x) 0 (some 3)=some (zgo x):=rfl
theorem zsB (x:Rule):D.sub (zgo x) 0 none=some (.int .u8 x.kind):=rfl
theorem zmR (x:Rule):D.sub (zgo x) 1 none=some (.str x.local_):=rfl
theorem zkV (x:Rule):D.sub (zgo x) 2 none=some (.int .u8 x.verdict):=rfl
attribute [go_sem] zwm zsB zmR zkV
theorem Rule.of {d:D} (h:HasTy zqf d):∃x:Rule,d=zgo x∧Rule.ok x:=by
 obtain⟨xs,rfl,hl,hx⟩:=h.agg_inv
 match xs,hl with
 |[x0,x1,x2],_=>
  obtain⟨y0,rfl,k0⟩:=HasTy.int_inv (hx 0 _ _ rfl rfl)
  obtain⟨y1,rfl,k1⟩:=HasTy.str_inv (hx 1 _ _ rfl rfl)
  obtain⟨y2,rfl,k2⟩:=HasTy.int_inv (hx 2 _ _ rfl rfl)
  exact⟨⟨y0,y1,y2⟩,rfl,⟨k0,k1,k2⟩⟩
structure Filter where
 show_:Int
 rules:Sl (Rule)
 deriving DecidableEq,Inhabited
def Filter.zero:Filter:=⟨0,⟨true,[]⟩⟩
def zer (x:Filter):D:= .agg [.int .u32 x.show_,.list x.rules.n (x.rules.l.map zgo)]
def zAj:Ty:= .agg [.int .u32,.list (zqf)]
def Filter.ok (x:Filter):Prop:=(IntKind.u32.min≤x.show_∧x.show_≤IntKind.u32.max)∧Sl.ok (fun y=>Rule.ok y) x.rules
theorem zoK (x:Filter):D.sub (zer x) 0 (some 2)=some (zer x):=rfl
theorem zkW (x:Filter):D.sub (zer x) 0 none=some (.int .u32 x.show_):=rfl
theorem zkX (x:Filter):D.sub (zer x) 1 none=some (.list x.rules.n (x.rules.l.map zgo)):=rfl
attribute [go_sem] zoK zkW zkX
theorem Filter.of {d:D} (h:HasTy zAj d):∃x:Filter,d=zer x∧Filter.ok x:=by
 obtain⟨xs,rfl,hl,hx⟩:=h.agg_inv
 match xs,hl with
 |[x0,x1],_=>
  obtain⟨y0,rfl,k0⟩:=HasTy.int_inv (hx 0 _ _ rfl rfl)
  obtain⟨y1,rfl,k1⟩:=(HasTy.sl_inv (fun _ h=>Rule.of h)) (hx 1 _ _ rfl rfl)
  exact⟨⟨y0,y1⟩,rfl,⟨k0,k1⟩⟩
structure Walker where
 root:Int
 current:Int
 filter:Filter
 deriving DecidableEq,Inhabited
def Walker.zero:Walker:=⟨0,0,Filter.zero⟩
def zdr (x:Walker):D:= .agg [.int .i64 x.root,.int .i64 x.current,.int .u32 x.filter.show_,.list x.filter.rules.n (x.filter.rules.l.map zgo)]
def zAk:Ty:= .agg [.int .i64,.int .i64,.int .u32,.list (zqf)]
def Walker.ok (x:Walker):Prop:=(IntKind.i64.min≤x.root∧x.root≤IntKind.i64.max)∧(IntKind.i64.min≤x.current∧x.current≤IntKind.i64.max)∧Filter.ok x.filter
theorem zoL (x:Walker):D.sub (zdr x) 0 (some 4)=some (zdr x):=rfl
theorem zmS (x:Walker):D.sub (zdr x) 0 none=some (.int .i64 x.root):=rfl
theorem zjg (x:Walker):D.sub (zdr x) 1 none=some (.int .i64 x.current):=rfl
theorem zjz (x:Walker):D.sub (zdr x) 2 (some 2)=some (zer x.filter):=rfl
theorem zfo (x:Walker):D.sub (zdr x) 2 none=some (.int .u32 x.filter.show_):=rfl
theorem zfp (x:Walker):D.sub (zdr x) 3 none=some (.list x.filter.rules.n (x.filter.rules.l.map zgo)):=rfl
attribute [go_sem] zoL zmS zjg zjz zfo zfp
theorem Walker.of {d:D} (h:HasTy zAk d):∃x:Walker,d=zdr x∧Walker.ok x:=by
 obtain⟨xs,rfl,hl,hx⟩:=h.agg_inv
 match xs,hl with
 |[x0,x1,x2,x3],_=>
  obtain⟨y0,rfl,k0⟩:=HasTy.int_inv (hx 0 _ _ rfl rfl)
  obtain⟨y1,rfl,k1⟩:=HasTy.int_inv (hx 1 _ _ rfl rfl)
  obtain⟨y2,rfl,k2⟩:=HasTy.int_inv (hx 2 _ _ rfl rfl)
  obtain⟨y3,rfl,k3⟩:=(HasTy.sl_inv (fun _ h=>Rule.of h)) (hx 3 _ _ rfl rfl)
  exact⟨⟨y0,y1,⟨y2,y3⟩⟩,rfl,⟨k0,k1,⟨k2,k3⟩⟩⟩
structure Step where
 item:Int
 inShadow:Bool
 target:Int
 related:Int
 closed:Bool
 slot:Bool
 deriving DecidableEq,Inhabited
def Step.zero:Step:=⟨0,false,0,0,false,false⟩
def zan (x:Step):D:= .agg [.int .i64 x.item,.bool x.inShadow,.int .i64 x.target,.int .i64 x.related,.bool x.closed,.bool x.slot]
def tyStep:Ty:= .agg [.int .i64,.bool,.int .i64,.int .i64,.bool,.bool]
def Step.ok (x:Step):Prop:=(IntKind.i64.min≤x.item∧x.item≤IntKind.i64.max)∧True∧(IntKind.i64.min≤x.target∧x.target≤IntKind.i64.max)∧(IntKind.i64.min≤x.related∧x.related≤IntKind.i64.max)∧True∧True
theorem zwn (x:Step):(zan x).cells.length=6:=Eq.trans rfl rfl
theorem zwo (x:Step):D.sub (zan x) 0 (some 6)=some (zan x):=rfl
theorem zmT (x:Step) (cs:List D) (h:cs.length=6):V.upd (.d (.agg cs)) 0 6 (.d (zan x))=some (.d (zan x)):=zgP (by simpa using h) rfl (by decide) rfl
theorem zsC (x:Step):D.sub (zan x) 0 none=some (.int .i64 x.item):=rfl
theorem zjA (x:Step):D.sub (zan x) 1 none=some (.bool x.inShadow):=rfl
theorem zmU (x:Step):D.sub (zan x) 2 none=some (.int .i64 x.target):=rfl
theorem zkY (x:Step):D.sub (zan x) 3 none=some (.int .i64 x.related):=rfl
theorem zmV (x:Step):D.sub (zan x) 4 none=some (.bool x.closed):=rfl
theorem zsD (x:Step):D.sub (zan x) 5 none=some (.bool x.slot):=rfl
theorem zwp (x y:Step):binV .neq (.agg [.int,.bool,.int,.int,.bool,.bool]) (.d (zan x)) (.d (zan y))=some (.d (.bool (!decide (x=y)))):=by
 refine zBg ?_
 simp only[eqV,zan,zaI,zbm,if_true,Option.bind_some,Option.map_some]
 congr 1
 rw[Bool.eq_iff_iff];rcases x with⟨a1,a2,a3,a4,a5,a6⟩;rcases y with⟨b1,b2,b3,b4,b5,b6⟩;simp[and_assoc]
attribute [go_sem] zwn zwo zmT zsC zjA zmU zkY zmV zsD zwp
theorem Step.of {d:D} (h:HasTy tyStep d):∃x:Step,d=zan x∧Step.ok x:=by
 obtain⟨xs,rfl,hl,hx⟩:=h.agg_inv
 match xs,hl with
 |[x0,x1,x2,x3,x4,x5],_=>
  obtain⟨y0,rfl,k0⟩:=HasTy.int_inv (hx 0 _ _ rfl rfl)
  obtain⟨y1,rfl,k1⟩:=HasTy.bool_inv (hx 1 _ _ rfl rfl)
  obtain⟨y2,rfl,k2⟩:=HasTy.int_inv (hx 2 _ _ rfl rfl)
  obtain⟨y3,rfl,k3⟩:=HasTy.int_inv (hx 3 _ _ rfl rfl)
  obtain⟨y4,rfl,k4⟩:=HasTy.bool_inv (hx 4 _ _ rfl rfl)
  obtain⟨y5,rfl,k5⟩:=HasTy.bool_inv (hx 5 _ _ rfl rfl)
  exact⟨⟨y0,y1,y2,y3,y4,y5⟩,rfl,⟨k0,k1,k2,k3,k4,k5⟩⟩
structure walk_walk where
 f:Forest
 walker:Walker
 deriving DecidableEq,Inhabited
def walk_walk.zero:walk_walk:=⟨Forest.zero,Walker.zero⟩
def zbl (x:walk_walk):D:= .agg [.list x.f.nodes.n (x.f.nodes.l.map zaj),.int .i64 x.walker.root,.int .i64 x.walker.current,.int .u32 x.walker.filter.show_,.list x.walker.filter.rules.n (x.walker.filter.rules.l.map zgo)]
def zoM:Ty:= .agg [.list (zkh),.int .i64,.int .i64,.int .u32,.list (zqf)]
def walk_walk.ok (x:walk_walk):Prop:=Forest.ok x.f∧Walker.ok x.walker
theorem zjB (x:walk_walk):D.sub (zbl x) 0 (some 5)=some (zbl x):=rfl
theorem zmW (x:walk_walk):D.sub (zbl x) 0 (some 1)=some (zam x.f):=rfl
theorem zgp (x:walk_walk):D.sub (zbl x) 0 none=some (.list x.f.nodes.n (x.f.nodes.l.map zaj)):=rfl
theorem zgW (x:walk_walk):D.sub (zbl x) 1 (some 4)=some (zdr x.walker):=rfl
theorem zew (x:walk_walk):D.sub (zbl x) 1 none=some (.int .i64 x.walker.root):=rfl
theorem zdN (x:walk_walk):D.sub (zbl x) 2 none=some (.int .i64 x.walker.current):=rfl
theorem zdY (x:walk_walk):D.sub (zbl x) 3 (some 2)=some (zer x.walker.filter):=rfl
theorem zcM (x:walk_walk):D.sub (zbl x) 3 none=some (.int .u32 x.walker.filter.show_):=rfl
theorem zcN (x:walk_walk):D.sub (zbl x) 4 none=some (.list x.walker.filter.rules.n (x.walker.filter.rules.l.map zgo)):=rfl
attribute [go_sem] zjB zmW zgp zgW zew zdN zdY zcM zcN
theorem walk_walk.of {d:D} (h:HasTy zoM d):∃x:walk_walk,d=zbl x∧walk_walk.ok x:=by
 obtain⟨xs,rfl,hl,hx⟩:=h.agg_inv
 match xs,hl with
 |[x0,x1,x2,x3,x4],_=>
  obtain⟨y0,rfl,k0⟩:=(HasTy.sl_inv (fun _ h=>Node.of h)) (hx 0 _ _ rfl rfl)
  obtain⟨y1,rfl,k1⟩:=HasTy.int_inv (hx 1 _ _ rfl rfl)
  obtain⟨y2,rfl,k2⟩:=HasTy.int_inv (hx 2 _ _ rfl rfl)
  obtain⟨y3,rfl,k3⟩:=HasTy.int_inv (hx 3 _ _ rfl rfl)
  obtain⟨y4,rfl,k4⟩:=(HasTy.sl_inv (fun _ h=>Rule.of h)) (hx 4 _ _ rfl rfl)
  exact⟨⟨⟨y0⟩,⟨y1,y2,⟨y3,y4⟩⟩⟩,rfl,⟨k0,⟨k1,k2,⟨k3,k4⟩⟩⟩⟩
structure path_level where
 current:Int
 least:Int
 deriving DecidableEq,Inhabited
def path_level.zero:path_level:=⟨0,0⟩
def zaJ (x:path_level):D:= .agg [.int .i64 x.current,.int .i64 x.least]
def zmX:Ty:= .agg [.int .i64,.int .i64]
def path_level.ok (x:path_level):Prop:=(IntKind.i64.min≤x.current∧x.current≤IntKind.i64.max)∧(IntKind.i64.min≤x.least∧x.least≤IntKind.i64.max)
theorem zjh (x:path_level):D.sub (zaJ x) 0 (some 2)=some (zaJ x):=rfl
theorem zfS (x:path_level):D.sub (zaJ x) 0 none=some (.int .i64 x.current):=rfl
theorem zes (x:path_level) (v:Int):V.upd (.d (zaJ x)) 0 1 (.d (.int .i64 v))=some (.d (zaJ {x with current:=v})):=zpD rfl rfl rfl rfl rfl rfl
theorem zgX (x:path_level):D.sub (zaJ x) 1 none=some (.int .i64 x.least):=rfl
theorem zeG (x:path_level) (v:Int):V.upd (.d (zaJ x)) 1 1 (.d (.int .i64 v))=some (.d (zaJ {x with least:=v})):=zpD rfl rfl rfl rfl rfl rfl
attribute [go_sem] zjh zfS zes zgX zeG
theorem path_level.of {d:D} (h:HasTy zmX d):∃x:path_level,d=zaJ x∧path_level.ok x:=by
 obtain⟨xs,rfl,hl,hx⟩:=h.agg_inv
 match xs,hl with
 |[x0,x1],_=>
  obtain⟨y0,rfl,k0⟩:=HasTy.int_inv (hx 0 _ _ rfl rfl)
  obtain⟨y1,rfl,k1⟩:=HasTy.int_inv (hx 1 _ _ rfl rfl)
  exact⟨⟨y0,y1⟩,rfl,⟨k0,k1⟩⟩
structure Assign where
 slot:Int
 nodes:Sl (Int)
 deriving DecidableEq,Inhabited
def Assign.zero:Assign:=⟨0,⟨true,[]⟩⟩
def zcC (x:Assign):D:= .agg [.int .i64 x.slot,.list x.nodes.n (x.nodes.l.map (D.int .i64))]
def zii:Ty:= .agg [.int .i64,.list (.int .i64)]
def Assign.ok (x:Assign):Prop:=(IntKind.i64.min≤x.slot∧x.slot≤IntKind.i64.max)∧Sl.ok (fun y=>(IntKind.i64.min≤y∧y≤IntKind.i64.max)) x.nodes
theorem zoN (x:Assign):D.sub (zcC x) 0 (some 2)=some (zcC x):=rfl
theorem zmY (x:Assign):D.sub (zcC x) 0 none=some (.int .i64 x.slot):=rfl
theorem zkZ (x:Assign):D.sub (zcC x) 1 none=some (.list x.nodes.n (x.nodes.l.map (D.int .i64))):=rfl
attribute [go_sem] zoN zmY zkZ
theorem Assign.of {d:D} (h:HasTy zii d):∃x:Assign,d=zcC x∧Assign.ok x:=by
 obtain⟨xs,rfl,hl,hx⟩:=h.agg_inv
 match xs,hl with
 |[x0,x1],_=>
  obtain⟨y0,rfl,k0⟩:=HasTy.int_inv (hx 0 _ _ rfl rfl)
  obtain⟨y1,rfl,k1⟩:=(HasTy.sl_inv (fun _ h=>HasTy.int_inv h)) (hx 1 _ _ rfl rfl)
  exact⟨⟨y0,y1⟩,rfl,⟨k0,k1⟩⟩
structure path_walker where
 f:Forest
 hand:Sl (Assign)
 target:Int
 related:Int
 origin:Int
 composed:Bool
 steps:Sl (Step)
 deriving DecidableEq,Inhabited
def path_walker.zero:path_walker:=⟨Forest.zero,⟨true,[]⟩,0,0,0,false,⟨true,[]⟩⟩
def zaZ (x:path_walker):D:= .agg [.list x.f.nodes.n (x.f.nodes.l.map zaj),.list x.hand.n (x.hand.l.map zcC),.int .i64 x.target,.int .i64 x.related,.int .i64 x.origin,.bool x.composed,.list x.steps.n (x.steps.l.map zan)]
def zla:Ty:= .agg [.list (zkh),.list (zii),.int .i64,.int .i64,.int .i64,.bool,.list (tyStep)]
def path_walker.ok (x:path_walker):Prop:=Forest.ok x.f∧Sl.ok (fun y=>Assign.ok y) x.hand∧(IntKind.i64.min≤x.target∧x.target≤IntKind.i64.max)∧(IntKind.i64.min≤x.related∧x.related≤IntKind.i64.max)∧(IntKind.i64.min≤x.origin∧x.origin≤IntKind.i64.max)∧True∧Sl.ok (fun y=>Step.ok y) x.steps
theorem zhV (x:path_walker):D.sub (zaZ x) 0 (some 7)=some (zaZ x):=rfl
theorem zjC (x:path_walker):D.sub (zaZ x) 0 (some 1)=some (zam x.f):=rfl
theorem zfq (x:path_walker):D.sub (zaZ x) 0 none=some (.list x.f.nodes.n (x.f.nodes.l.map zaj)):=rfl
theorem zgY (x:path_walker):D.sub (zaZ x) 1 none=some (.list x.hand.n (x.hand.l.map zcC)):=rfl
theorem zfT (x:path_walker):D.sub (zaZ x) 2 none=some (.int .i64 x.target):=rfl
theorem zfr (x:path_walker):D.sub (zaZ x) 3 none=some (.int .i64 x.related):=rfl
theorem zfU (x:path_walker):D.sub (zaZ x) 4 none=some (.int .i64 x.origin):=rfl
theorem zeH (x:path_walker):D.sub (zaZ x) 5 none=some (.bool x.composed):=rfl
theorem zgq (x:path_walker):D.sub (zaZ x) 6 none=some (.list x.steps.n (x.steps.l.map zan)):=rfl
attribute [go_sem] zhV zjC zfq zgY zfT zfr zfU zeH zgq
theorem path_walker.of {d:D} (h:HasTy zla d):∃x:path_walker,d=zaZ x∧path_walker.ok x:=by
 obtain⟨xs,rfl,hl,hx⟩:=h.agg_inv
 match xs,hl with
 |[x0,x1,x2,x3,x4,x5,x6],_=>
  obtain⟨y0,rfl,k0⟩:=(HasTy.sl_inv (fun _ h=>Node.of h)) (hx 0 _ _ rfl rfl)
  obtain⟨y1,rfl,k1⟩:=(HasTy.sl_inv (fun _ h=>Assign.of h)) (hx 1 _ _ rfl rfl)
  obtain⟨y2,rfl,k2⟩:=HasTy.int_inv (hx 2 _ _ rfl rfl)
  obtain⟨y3,rfl,k3⟩:=HasTy.int_inv (hx 3 _ _ rfl rfl)
  obtain⟨y4,rfl,k4⟩:=HasTy.int_inv (hx 4 _ _ rfl rfl)
  obtain⟨y5,rfl,k5⟩:=HasTy.bool_inv (hx 5 _ _ rfl rfl)
  obtain⟨y6,rfl,k6⟩:=(HasTy.sl_inv (fun _ h=>Step.of h)) (hx 6 _ _ rfl rfl)
  exact⟨⟨⟨y0⟩,y1,y2,y3,y4,y5,y6⟩,rfl,⟨k0,k1,k2,k3,k4,k5,k6⟩⟩
structure shadow_by where
 f:Forest
 hand:Sl (Assign)
 deriving DecidableEq,Inhabited
def shadow_by.zero:shadow_by:=⟨Forest.zero,⟨true,[]⟩⟩
def zci (x:shadow_by):D:= .agg [.list x.f.nodes.n (x.f.nodes.l.map zaj),.list x.hand.n (x.hand.l.map zcC)]
def zoO:Ty:= .agg [.list (zkh),.list (zii)]
def shadow_by.ok (x:shadow_by):Prop:=Forest.ok x.f∧Sl.ok (fun y=>Assign.ok y) x.hand
theorem zjD (x:shadow_by):D.sub (zci x) 0 (some 2)=some (zci x):=rfl
theorem zmZ (x:shadow_by):D.sub (zci x) 0 (some 1)=some (zam x.f):=rfl
theorem zgr (x:shadow_by):D.sub (zci x) 0 none=some (.list x.f.nodes.n (x.f.nodes.l.map zaj)):=rfl
theorem zji (x:shadow_by):D.sub (zci x) 1 none=some (.list x.hand.n (x.hand.l.map zcC)):=rfl
attribute [go_sem] zjD zmZ zgr zji
theorem shadow_by.of {d:D} (h:HasTy zoO d):∃x:shadow_by,d=zci x∧shadow_by.ok x:=by
 obtain⟨xs,rfl,hl,hx⟩:=h.agg_inv
 match xs,hl with
 |[x0,x1],_=>
  obtain⟨y0,rfl,k0⟩:=(HasTy.sl_inv (fun _ h=>Node.of h)) (hx 0 _ _ rfl rfl)
  obtain⟨y1,rfl,k1⟩:=(HasTy.sl_inv (fun _ h=>Assign.of h)) (hx 1 _ _ rfl rfl)
  exact⟨⟨⟨y0⟩,y1⟩,rfl,⟨k0,k1⟩⟩
structure flat_view where
 f:Forest
 hand:Sl (Assign)
 deriving DecidableEq,Inhabited
def flat_view.zero:flat_view:=⟨Forest.zero,⟨true,[]⟩⟩
def zcj (x:flat_view):D:= .agg [.list x.f.nodes.n (x.f.nodes.l.map zaj),.list x.hand.n (x.hand.l.map zcC)]
def zoP:Ty:= .agg [.list (zkh),.list (zii)]
def flat_view.ok (x:flat_view):Prop:=Forest.ok x.f∧Sl.ok (fun y=>Assign.ok y) x.hand
theorem zjE (x:flat_view):D.sub (zcj x) 0 (some 2)=some (zcj x):=rfl
theorem zna (x:flat_view):D.sub (zcj x) 0 (some 1)=some (zam x.f):=rfl
theorem zgs (x:flat_view):D.sub (zcj x) 0 none=some (.list x.f.nodes.n (x.f.nodes.l.map zaj)):=rfl
theorem zjj (x:flat_view):D.sub (zcj x) 1 none=some (.list x.hand.n (x.hand.l.map zcC)):=rfl
attribute [go_sem] zjE zna zgs zjj
theorem flat_view.of {d:D} (h:HasTy zoP d):∃x:flat_view,d=zcj x∧flat_view.ok x:=by
 obtain⟨xs,rfl,hl,hx⟩:=h.agg_inv
 match xs,hl with
 |[x0,x1],_=>
  obtain⟨y0,rfl,k0⟩:=(HasTy.sl_inv (fun _ h=>Node.of h)) (hx 0 _ _ rfl rfl)
  obtain⟨y1,rfl,k1⟩:=(HasTy.sl_inv (fun _ h=>Assign.of h)) (hx 1 _ _ rfl rfl)
  exact⟨⟨⟨y0⟩,y1⟩,rfl,⟨k0,k1⟩⟩
structure walk_way where
 back:Bool
 deriving DecidableEq,Inhabited
def walk_way.zero:walk_way:=⟨false⟩
def zgt (x:walk_way):D:= .agg [.bool x.back]
def zsE:Ty:= .agg [.bool]
def walk_way.ok (x:walk_way):Prop:=True
theorem zlb (x:walk_way):D.sub (zgt x) 0 (some 1)=some (zgt x):=rfl
theorem zjF (x:walk_way):D.sub (zgt x) 0 none=some (.bool x.back):=rfl
attribute [go_sem] zlb zjF
theorem walk_way.of {d:D} (h:HasTy zsE d):∃x:walk_way,d=zgt x∧walk_way.ok x:=by
 obtain⟨xs,rfl,hl,hx⟩:=h.agg_inv
 match xs,hl with
 |[x0],_=>
  obtain⟨y0,rfl,k0⟩:=HasTy.bool_inv (hx 0 _ _ rfl rfl)
  exact⟨⟨y0⟩,rfl,k0⟩
structure forest_trait where
 known:Bool
 data:Bool
 kids:Bool
 hung:Bool
 full:Bool
 local_:Bool
 deriving DecidableEq,Inhabited
def forest_trait.zero:forest_trait:=⟨false,false,false,false,false,false⟩
def zaG (x:forest_trait):D:= .agg [.bool x.known,.bool x.data,.bool x.kids,.bool x.hung,.bool x.full,.bool x.local_]
def zjG:Ty:= .agg [.bool,.bool,.bool,.bool,.bool,.bool]
def forest_trait.ok (x:forest_trait):Prop:=True∧True∧True∧True∧True∧True
theorem zgZ (x:forest_trait):(zaG x).cells.length=6:=Eq.trans rfl rfl
theorem zha (x:forest_trait):D.sub (zaG x) 0 (some 6)=some (zaG x):=rfl
theorem zfs (x:forest_trait) (cs:List D) (h:cs.length=6):V.upd (.d (.agg cs)) 0 6 (.d (zaG x))=some (.d (zaG x)):=zgP (by simpa using h) rfl (by decide) rfl
theorem zfV (x:forest_trait):D.sub (zaG x) 0 none=some (.bool x.known):=rfl
theorem zgu (x:forest_trait):D.sub (zaG x) 1 none=some (.bool x.data):=rfl
theorem zgv (x:forest_trait):D.sub (zaG x) 2 none=some (.bool x.kids):=rfl
theorem zgw (x:forest_trait):D.sub (zaG x) 3 none=some (.bool x.hung):=rfl
theorem zgx (x:forest_trait):D.sub (zaG x) 4 none=some (.bool x.full):=rfl
theorem zft (x:forest_trait):D.sub (zaG x) 5 none=some (.bool x.local_):=rfl
attribute [go_sem] zgZ zha zfs zfV zgu zgv zgw zgx zft
theorem forest_trait.of {d:D} (h:HasTy zjG d):∃x:forest_trait,d=zaG x∧forest_trait.ok x:=by
 obtain⟨xs,rfl,hl,hx⟩:=h.agg_inv
 match xs,hl with
 |[x0,x1,x2,x3,x4,x5],_=>
  obtain⟨y0,rfl,k0⟩:=HasTy.bool_inv (hx 0 _ _ rfl rfl)
  obtain⟨y1,rfl,k1⟩:=HasTy.bool_inv (hx 1 _ _ rfl rfl)
  obtain⟨y2,rfl,k2⟩:=HasTy.bool_inv (hx 2 _ _ rfl rfl)
  obtain⟨y3,rfl,k3⟩:=HasTy.bool_inv (hx 3 _ _ rfl rfl)
  obtain⟨y4,rfl,k4⟩:=HasTy.bool_inv (hx 4 _ _ rfl rfl)
  obtain⟨y5,rfl,k5⟩:=HasTy.bool_inv (hx 5 _ _ rfl rfl)
  exact⟨⟨y0,y1,y2,y3,y4,y5⟩,rfl,⟨k0,k1,k2,k3,k4,k5⟩⟩
structure forest_key where
 space:List UInt8
 local_:List UInt8
 deriving DecidableEq,Inhabited
def forest_key.zero:forest_key:=⟨[],[]⟩
def zah (x:forest_key):D:= .agg [.str x.space,.str x.local_]
def znb:Ty:= .agg [.str,.str]
def forest_key.ok (x:forest_key):Prop:=x.space.length≤maxLen∧x.local_.length≤maxLen
theorem zjk (x:forest_key):D.sub (zah x) 0 (some 2)=some (zah x):=rfl
theorem zgy (x:forest_key) (cs:List D) (h:cs.length=2):V.upd (.d (.agg cs)) 0 2 (.d (zah x))=some (.d (zah x)):=zgP (by simpa using h) rfl (by decide) rfl
theorem zhb (x:forest_key):D.sub (zah x) 0 none=some (.str x.space):=rfl
theorem zgz (x:forest_key):D.sub (zah x) 1 none=some (.str x.local_):=rfl
theorem zaf:Keyed [.str,.str] zah:=by
 intro x y
 simp only[zed,zah,D.isAgg,D.cells,zaI,zbm,if_true,Option.bind_some,Option.map_some]
 rw[if_pos ⟨rfl,rfl⟩]
 congr 1
 rw[Bool.eq_iff_iff];rcases x with⟨a1,a2⟩;rcases y with⟨b1,b2⟩;simp[and_assoc]
attribute [go_sem] zjk zgy zhb zgz
theorem forest_key.of {d:D} (h:HasTy znb d):∃x:forest_key,d=zah x∧forest_key.ok x:=by
 obtain⟨xs,rfl,hl,hx⟩:=h.agg_inv
 match xs,hl with
 |[x0,x1],_=>
  obtain⟨y0,rfl,k0⟩:=HasTy.str_inv (hx 0 _ _ rfl rfl)
  obtain⟨y1,rfl,k1⟩:=HasTy.str_inv (hx 1 _ _ rfl rfl)
  exact⟨⟨y0,y1⟩,rfl,⟨k0,k1⟩⟩
end Go.Proofs.Ythodcjjgimeeoaa.P
