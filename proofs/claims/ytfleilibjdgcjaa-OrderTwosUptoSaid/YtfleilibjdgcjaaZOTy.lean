/- Shaken copy of a longer text: what one law needs. Its conditions: none. -/
import Derived.Test.YtfleilibjdgcjaaZAiE
set_option linter.unusedSimpArgs false
set_option linter.unusedVariables false
namespace Go.Proofs.Ytfleilibjdgcjaa.O
open Go.AI
structure Name where
 space:List UInt8
 prefix_:List UInt8
 local_:List UInt8
 deriving DecidableEq,Inhabited
def Name.zero:Name:=⟨[],[],[]⟩
def zbH (x:Name):D:= .agg [.str x.space,.str x.prefix_,.str x.local_]
def zGy:Ty:= .agg [.str,.str,.str]
def Name.ok (x:Name):Prop:=x.space.length≤maxLen∧x.prefix_.length≤maxLen∧x.local_.length≤maxLen
theorem zvN (x:Name):(zbH x).cells.length=3:=Eq.trans rfl rfl
theorem zvO (x:Name):D.sub (zbH x) 0 (some 3)=some (zbH x):=rfl
theorem zoI (x:Name):D.sub (zbH x) 0 none=some (.str x.space):=rfl
theorem zkK (x:Name):D.sub (zbH x) 1 none=some (.str x.prefix_):=rfl
theorem zmM (x:Name):D.sub (zbH x) 2 none=some (.str x.local_):=rfl
theorem zmN (x y:Name):binV .eql (.agg [.str,.str,.str]) (.d (zbH x)) (.d (zbH y))=some (.d (.bool (decide (x=y)))):=by
 refine zFq ?_
 simp only[eqV,zbH,zaH,zbm,if_true,Option.bind_some,Option.map_some]
 congr 1
 rw[Bool.eq_iff_iff];rcases x with⟨a1,a2,a3⟩;rcases y with⟨b1,b2,b3⟩;simp[and_assoc]
theorem zse (x:Name) (y0:List UInt8) (y1:List UInt8) (y2:List UInt8):binV .eql (.agg [.str,.str,.str]) (.d (zbH x)) (.d (.agg [.str y0,.str y1,.str y2]))=some (.d (.bool (decide (x=⟨y0,y1,y2⟩)))):=zmN x ⟨y0,y1,y2⟩
theorem zmO (x y:Name):binV .neq (.agg [.str,.str,.str]) (.d (zbH x)) (.d (zbH y))=some (.d (.bool (!decide (x=y)))):=by
 refine zFr ?_
 simp only[eqV,zbH,zaH,zbm,if_true,Option.bind_some,Option.map_some]
 congr 1
 rw[Bool.eq_iff_iff];rcases x with⟨a1,a2,a3⟩;rcases y with⟨b1,b2,b3⟩;simp[and_assoc]
theorem zsf (x:Name) (y0:List UInt8) (y1:List UInt8) (y2:List UInt8):binV .neq (.agg [.str,.str,.str]) (.d (zbH x)) (.d (.agg [.str y0,.str y1,.str y2]))=some (.d (.bool (!decide (x=⟨y0,y1,y2⟩)))):=zmO x ⟨y0,y1,y2⟩
attribute [go_sem] zvN zvO zoI zkK zmM zmN zse zmO zsf
theorem Name.of {d:D} (h:HasTy zGy d):∃x:Name,d=zbH x∧Name.ok x:=by
 obtain⟨xs,rfl,hl,hx⟩:=h.agg_inv
 match xs,hl with
 |[x0,x1,x2],_=>
  obtain⟨y0,rfl,k0⟩:=HasTy.str_inv (hx 0 _ _ rfl rfl)
  obtain⟨y1,rfl,k1⟩:=HasTy.str_inv (hx 1 _ _ rfl rfl)
  obtain⟨y2,rfl,k2⟩:=HasTy.str_inv (hx 2 _ _ rfl rfl)
  exact⟨⟨y0,y1,y2⟩,rfl,⟨k0,k1,k2⟩⟩
structure Attr where
 name:Name
 value:List UInt8
 deriving DecidableEq,Inhabited
def Attr.zero:Attr:=⟨Name.zero,[]⟩
def zaJ (x:Attr):D:= .agg [.str x.name.space,.str x.name.prefix_,.str x.name.local_,.str x.value]
def zAF:Ty:= .agg [.str,.str,.str,.str]
def Attr.ok (x:Attr):Prop:=Name.ok x.name∧x.value.length≤maxLen
theorem zvP (x:Attr):(zaJ x).cells.length=4:=Eq.trans rfl rfl
theorem zvQ (x:Attr):D.sub (zaJ x) 0 (some 4)=some (zaJ x):=rfl
theorem zmP (x:Attr) (cs:List D) (h:cs.length=4):V.upd (.d (.agg cs)) 0 4 (.d (zaJ x))=some (.d (zaJ x)):=ziO (by simpa using h) rfl (by decide) rfl
theorem zsg (x:Attr):D.sub (zaJ x) 0 (some 3)=some (zbH x.name):=rfl
theorem zhK (x:Attr):D.sub (zaJ x) 0 none=some (.str x.name.space):=rfl
theorem zgn (x:Attr):D.sub (zaJ x) 1 none=some (.str x.name.prefix_):=rfl
theorem zgR (x:Attr):D.sub (zaJ x) 2 none=some (.str x.name.local_):=rfl
theorem zoJ (x:Attr):D.sub (zaJ x) 3 none=some (.str x.value):=rfl
attribute [go_sem] zvP zvQ zmP zsg zhK zgn zgR zoJ
theorem Attr.of {d:D} (h:HasTy zAF d):∃x:Attr,d=zaJ x∧Attr.ok x:=by
 obtain⟨xs,rfl,hl,hx⟩:=h.agg_inv
 match xs,hl with
 |[x0,x1,x2,x3],_=>
  obtain⟨y0,rfl,k0⟩:=HasTy.str_inv (hx 0 _ _ rfl rfl)
  obtain⟨y1,rfl,k1⟩:=HasTy.str_inv (hx 1 _ _ rfl rfl)
  obtain⟨y2,rfl,k2⟩:=HasTy.str_inv (hx 2 _ _ rfl rfl)
  obtain⟨y3,rfl,k3⟩:=HasTy.str_inv (hx 3 _ _ rfl rfl)
  exact⟨⟨⟨y0,y1,y2⟩,y3⟩,rfl,⟨⟨k0,k1,k2⟩,k3⟩⟩
structure Node where
 kind:Int
 name:Name
 public_:List UInt8
 system:List UInt8
 data:Sl (Int)
 attrs:Sl (Attr)
 parent:Int
 kids:Sl (Int)
 doc:Int
 host:Int
 shadow:Int
 mode:Int
 manual:Bool
 hTML:Bool
 deriving DecidableEq,Inhabited
def Node.zero:Node:=⟨0,Name.zero,[],[],⟨true,[]⟩,⟨true,[]⟩,0,⟨true,[]⟩,0,0,0,0,false,false⟩
def zai (x:Node):D:= .agg [.int .u8 x.kind,.str x.name.space,.str x.name.prefix_,.str x.name.local_,.str x.public_,.str x.system,.list x.data.n (x.data.l.map (D.int .u16)),.list x.attrs.n (x.attrs.l.map zaJ),.int .i64 x.parent,.list x.kids.n (x.kids.l.map (D.int .i64)),.int .i64 x.doc,.int .i64 x.host,.int .i64 x.shadow,.int .u8 x.mode,.bool x.manual,.bool x.hTML]
def zvR:Ty:= .agg [.int .u8,.str,.str,.str,.str,.str,.list (.int .u16),.list (zAF),.int .i64,.list (.int .i64),.int .i64,.int .i64,.int .i64,.int .u8,.bool,.bool]
def Node.ok (x:Node):Prop:=(IntKind.u8.min≤x.kind∧x.kind≤IntKind.u8.max)∧Name.ok x.name∧x.public_.length≤maxLen∧x.system.length≤maxLen∧Sl.ok (fun y=>(IntKind.u16.min≤y∧y≤IntKind.u16.max)) x.data∧Sl.ok (fun y=>Attr.ok y) x.attrs∧(IntKind.i64.min≤x.parent∧x.parent≤IntKind.i64.max)∧Sl.ok (fun y=>(IntKind.i64.min≤y∧y≤IntKind.i64.max)) x.kids∧(IntKind.i64.min≤x.doc∧x.doc≤IntKind.i64.max)∧(IntKind.i64.min≤x.host∧x.host≤IntKind.i64.max)∧(IntKind.i64.min≤x.shadow∧x.shadow≤IntKind.i64.max)∧(IntKind.u8.min≤x.mode∧x.mode≤IntKind.u8.max)∧True∧True
theorem zvS (x:Node):(zai x).cells.length=16:=Eq.trans rfl rfl
theorem zvT (x:Node):D.sub (zai x) 0 (some 16)=some (zai x):=rfl
theorem zvU (x:Node) (i:Nat) (m:Option Nat):V.fld i m (.d (zai x))=(D.sub (zai x) i m).map .d:=zAT _ _ _
theorem zmQ (x:Node) (cs:List D) (h:cs.length=16):V.upd (.d (.agg cs)) 0 16 (.d (zai x))=some (.d (zai x)):=ziO (by simpa using h) rfl (by decide) rfl
theorem zsh (x:Node):D.sub (zai x) 0 none=some (.int .u8 x.kind):=rfl
theorem zsi (x:Node):D.sub (zai x) 1 (some 3)=some (zbH x.name):=rfl
theorem zhL (x:Node):D.sub (zai x) 1 none=some (.str x.name.space):=rfl
theorem zgo (x:Node):D.sub (zai x) 2 none=some (.str x.name.prefix_):=rfl
theorem zgS (x:Node):D.sub (zai x) 3 none=some (.str x.name.local_):=rfl
theorem zkL (x:Node):D.sub (zai x) 4 none=some (.str x.public_):=rfl
theorem zmR (x:Node):D.sub (zai x) 5 none=some (.str x.system):=rfl
theorem zsj (x:Node):D.sub (zai x) 6 none=some (.list x.data.n (x.data.l.map (D.int .u16))):=rfl
theorem zoK (x:Node):D.sub (zai x) 7 none=some (.list x.attrs.n (x.attrs.l.map zaJ)):=rfl
theorem zmS (x:Node):D.sub (zai x) 8 none=some (.int .i64 x.parent):=rfl
theorem zsk (x:Node):D.sub (zai x) 9 none=some (.list x.kids.n (x.kids.l.map (D.int .i64))):=rfl
theorem zvV (x:Node):D.sub (zai x) 10 none=some (.int .i64 x.doc):=rfl
theorem zsl (x:Node):D.sub (zai x) 11 none=some (.int .i64 x.host):=rfl
theorem zmT (x:Node):D.sub (zai x) 12 none=some (.int .i64 x.shadow):=rfl
theorem zsm (x:Node):D.sub (zai x) 13 none=some (.int .u8 x.mode):=rfl
theorem zmU (x:Node):D.sub (zai x) 14 none=some (.bool x.manual):=rfl
theorem zsn (x:Node):D.sub (zai x) 15 none=some (.bool x.hTML):=rfl
attribute [go_sem] zvS zvT zvU zmQ zsh zsi zhL zgo zgS zkL zmR zsj zoK zmS zsk zvV zsl zmT zsm zmU zsn
theorem Node.of {d:D} (h:HasTy zvR d):∃x:Node,d=zai x∧Node.ok x:=by
 obtain⟨xs,rfl,hl,hx⟩:=h.agg_inv
 match xs,hl with
 |[x0,x1,x2,x3,x4,x5,x6,x7,x8,x9,x10,x11,x12,x13,x14,x15],_=>
  obtain⟨y0,rfl,k0⟩:=HasTy.int_inv (hx 0 _ _ rfl rfl)
  obtain⟨y1,rfl,k1⟩:=HasTy.str_inv (hx 1 _ _ rfl rfl)
  obtain⟨y2,rfl,k2⟩:=HasTy.str_inv (hx 2 _ _ rfl rfl)
  obtain⟨y3,rfl,k3⟩:=HasTy.str_inv (hx 3 _ _ rfl rfl)
  obtain⟨y4,rfl,k4⟩:=HasTy.str_inv (hx 4 _ _ rfl rfl)
  obtain⟨y5,rfl,k5⟩:=HasTy.str_inv (hx 5 _ _ rfl rfl)
  obtain⟨y6,rfl,k6⟩:=(HasTy.sl_inv (fun _ h=>HasTy.int_inv h)) (hx 6 _ _ rfl rfl)
  obtain⟨y7,rfl,k7⟩:=(HasTy.sl_inv (fun _ h=>Attr.of h)) (hx 7 _ _ rfl rfl)
  obtain⟨y8,rfl,k8⟩:=HasTy.int_inv (hx 8 _ _ rfl rfl)
  obtain⟨y9,rfl,k9⟩:=(HasTy.sl_inv (fun _ h=>HasTy.int_inv h)) (hx 9 _ _ rfl rfl)
  obtain⟨y10,rfl,k10⟩:=HasTy.int_inv (hx 10 _ _ rfl rfl)
  obtain⟨y11,rfl,k11⟩:=HasTy.int_inv (hx 11 _ _ rfl rfl)
  obtain⟨y12,rfl,k12⟩:=HasTy.int_inv (hx 12 _ _ rfl rfl)
  obtain⟨y13,rfl,k13⟩:=HasTy.int_inv (hx 13 _ _ rfl rfl)
  obtain⟨y14,rfl,k14⟩:=HasTy.bool_inv (hx 14 _ _ rfl rfl)
  obtain⟨y15,rfl,k15⟩:=HasTy.bool_inv (hx 15 _ _ rfl rfl)
  exact⟨⟨y0,⟨y1,y2,y3⟩,y4,y5,y6,y7,y8,y9,y10,y11,y12,y13,y14,y15⟩,rfl,⟨k0,⟨k1,k2,k3⟩,k4,k5,k6,k7,k8,k9,k10,k11,k12,k13,k14,k15⟩⟩
structure Forest where
 nodes:Sl (Node)
 deriving DecidableEq,Inhabited
def Forest.zero:Forest:=⟨⟨true,[]⟩⟩
def zae (x:Forest):D:= .agg [.list x.nodes.n (x.nodes.l.map zai)]
def tyForest:Ty:= .agg [.list (zvR)]
def Forest.ok (x:Forest):Prop:=Sl.ok (fun y=>Node.ok y) x.nodes
theorem zoL (x:Forest):(zae x).cells.length=1:=Eq.trans rfl rfl
theorem zoM (x:Forest):D.sub (zae x) 0 (some 1)=some (zae x):=rfl
theorem zkM (x:Forest):D.sub (zae x) 0 none=some (.list x.nodes.n (x.nodes.l.map zai)):=rfl
attribute [go_sem] zoL zoM zkM
theorem Forest.of {d:D} (h:HasTy tyForest d):∃x:Forest,d=zae x∧Forest.ok x:=by
 obtain⟨xs,rfl,hl,hx⟩:=h.agg_inv
 match xs,hl with
 |[x0],_=>
  obtain⟨y0,rfl,k0⟩:=(HasTy.sl_inv (fun _ h=>Node.of h)) (hx 0 _ _ rfl rfl)
  exact⟨⟨y0⟩,rfl,k0⟩
structure Change where
 kind:Int
 node:Int
 parent:Int
 index:Int
 other:Int
 doc:Int
 offset:Int
 count:Int
 data:Sl (Int)
 name:Name
 old:List UInt8
 value:List UInt8
 had:Bool
 has:Bool
 made:Node
 added:Sl (Int)
 removed:Sl (Int)
 prev:Int
 next:Int
 deriving DecidableEq,Inhabited
def Change.zero:Change:=⟨0,0,0,0,0,0,0,0,⟨true,[]⟩,Name.zero,[],[],false,false,Node.zero,⟨true,[]⟩,⟨true,[]⟩,0,0⟩
def zaK (x:Change):D:= .agg [.int .u8 x.kind,.int .i64 x.node,.int .i64 x.parent,.int .i64 x.index,.int .i64 x.other,.int .i64 x.doc,.int .i64 x.offset,.int .i64 x.count,.list x.data.n (x.data.l.map (D.int .u16)),.str x.name.space,.str x.name.prefix_,.str x.name.local_,.str x.old,.str x.value,.bool x.had,.bool x.has,.int .u8 x.made.kind,.str x.made.name.space,.str x.made.name.prefix_,.str x.made.name.local_,.str x.made.public_,.str x.made.system,.list x.made.data.n (x.made.data.l.map (D.int .u16)),.list x.made.attrs.n (x.made.attrs.l.map zaJ),.int .i64 x.made.parent,.list x.made.kids.n (x.made.kids.l.map (D.int .i64)),.int .i64 x.made.doc,.int .i64 x.made.host,.int .i64 x.made.shadow,.int .u8 x.made.mode,.bool x.made.manual,.bool x.made.hTML,.list x.added.n (x.added.l.map (D.int .i64)),.list x.removed.n (x.removed.l.map (D.int .i64)),.int .i64 x.prev,.int .i64 x.next]
def Change.ok (x:Change):Prop:=(IntKind.u8.min≤x.kind∧x.kind≤IntKind.u8.max)∧(IntKind.i64.min≤x.node∧x.node≤IntKind.i64.max)∧(IntKind.i64.min≤x.parent∧x.parent≤IntKind.i64.max)∧(IntKind.i64.min≤x.index∧x.index≤IntKind.i64.max)∧(IntKind.i64.min≤x.other∧x.other≤IntKind.i64.max)∧(IntKind.i64.min≤x.doc∧x.doc≤IntKind.i64.max)∧(IntKind.i64.min≤x.offset∧x.offset≤IntKind.i64.max)∧(IntKind.i64.min≤x.count∧x.count≤IntKind.i64.max)∧Sl.ok (fun y=>(IntKind.u16.min≤y∧y≤IntKind.u16.max)) x.data∧Name.ok x.name∧x.old.length≤maxLen∧x.value.length≤maxLen∧True∧True∧Node.ok x.made∧Sl.ok (fun y=>(IntKind.i64.min≤y∧y≤IntKind.i64.max)) x.added∧Sl.ok (fun y=>(IntKind.i64.min≤y∧y≤IntKind.i64.max)) x.removed∧(IntKind.i64.min≤x.prev∧x.prev≤IntKind.i64.max)∧(IntKind.i64.min≤x.next∧x.next≤IntKind.i64.max)
theorem zoN (x:Change):D.sub (zaK x) 0 (some 36)=some (zaK x):=rfl
theorem zmV (x:Change):D.sub (zaK x) 0 none=some (.int .u8 x.kind):=rfl
theorem zmW (x:Change):D.sub (zaK x) 1 none=some (.int .i64 x.node):=rfl
theorem zjy (x:Change):D.sub (zaK x) 2 none=some (.int .i64 x.parent):=rfl
theorem zkN (x:Change):D.sub (zaK x) 3 none=some (.int .i64 x.index):=rfl
theorem zkO (x:Change):D.sub (zaK x) 4 none=some (.int .i64 x.other):=rfl
theorem zoO (x:Change):D.sub (zaK x) 5 none=some (.int .i64 x.doc):=rfl
theorem zjz (x:Change):D.sub (zaK x) 6 none=some (.int .i64 x.offset):=rfl
theorem zkP (x:Change):D.sub (zaK x) 7 none=some (.int .i64 x.count):=rfl
theorem zmX (x:Change):D.sub (zaK x) 8 none=some (.list x.data.n (x.data.l.map (D.int .u16))):=rfl
theorem zmY (x:Change):D.sub (zaK x) 9 (some 3)=some (zbH x.name):=rfl
theorem zgp (x:Change):D.sub (zaK x) 9 none=some (.str x.name.space):=rfl
theorem zfm (x:Change):D.sub (zaK x) 10 none=some (.str x.name.prefix_):=rfl
theorem zfO (x:Change):D.sub (zaK x) 11 none=some (.str x.name.local_):=rfl
theorem zoP (x:Change):D.sub (zaK x) 12 none=some (.str x.old):=rfl
theorem zkQ (x:Change):D.sub (zaK x) 13 none=some (.str x.value):=rfl
theorem zoQ (x:Change):D.sub (zaK x) 14 none=some (.bool x.had):=rfl
theorem zoR (x:Change):D.sub (zaK x) 15 none=some (.bool x.has):=rfl
theorem zmZ (x:Change):D.sub (zaK x) 16 (some 16)=some (zai x.made):=rfl
theorem zgT (x:Change):D.sub (zaK x) 16 none=some (.int .u8 x.made.kind):=rfl
theorem zgU (x:Change):D.sub (zaK x) 17 (some 3)=some (zbH x.made.name):=rfl
theorem zeh (x:Change):D.sub (zaK x) 17 none=some (.str x.made.name.space):=rfl
theorem zdA (x:Change):D.sub (zaK x) 18 none=some (.str x.made.name.prefix_):=rfl
theorem zdM (x:Change):D.sub (zaK x) 19 none=some (.str x.made.name.local_):=rfl
theorem zfn (x:Change):D.sub (zaK x) 20 none=some (.str x.made.public_):=rfl
theorem zfP (x:Change):D.sub (zaK x) 21 none=some (.str x.made.system):=rfl
theorem zgV (x:Change):D.sub (zaK x) 22 none=some (.list x.made.data.n (x.made.data.l.map (D.int .u16))):=rfl
theorem zgq (x:Change):D.sub (zaK x) 23 none=some (.list x.made.attrs.n (x.made.attrs.l.map zaJ)):=rfl
theorem zfQ (x:Change):D.sub (zaK x) 24 none=some (.int .i64 x.made.parent):=rfl
theorem zgW (x:Change):D.sub (zaK x) 25 none=some (.list x.made.kids.n (x.made.kids.l.map (D.int .i64))):=rfl
theorem zhM (x:Change):D.sub (zaK x) 26 none=some (.int .i64 x.made.doc):=rfl
theorem zgX (x:Change):D.sub (zaK x) 27 none=some (.int .i64 x.made.host):=rfl
theorem zfR (x:Change):D.sub (zaK x) 28 none=some (.int .i64 x.made.shadow):=rfl
theorem zgY (x:Change):D.sub (zaK x) 29 none=some (.int .u8 x.made.mode):=rfl
theorem zfS (x:Change):D.sub (zaK x) 30 none=some (.bool x.made.manual):=rfl
theorem zgZ (x:Change):D.sub (zaK x) 31 none=some (.bool x.made.hTML):=rfl
theorem zkR (x:Change):D.sub (zaK x) 32 none=some (.list x.added.n (x.added.l.map (D.int .i64))):=rfl
theorem zjf (x:Change):D.sub (zaK x) 33 none=some (.list x.removed.n (x.removed.l.map (D.int .i64))):=rfl
theorem zna (x:Change):D.sub (zaK x) 34 none=some (.int .i64 x.prev):=rfl
theorem znb (x:Change):D.sub (zaK x) 35 none=some (.int .i64 x.next):=rfl
attribute [go_sem] zoN zmV zmW zjy zkN zkO zoO zjz zkP zmX zmY zgp zfm zfO zoP zkQ zoQ zoR zmZ zgT zgU zeh zdA zdM zfn zfP zgV zgq zfQ zgW zhM zgX zfR zgY zfS zgZ zkR zjf zna znb
structure Bound where
 node:Int
 offset:Int
 deriving DecidableEq,Inhabited
def Bound.zero:Bound:=⟨0,0⟩
def zgr (x:Bound):D:= .agg [.int .i64 x.node,.int .i64 x.offset]
def zCZ:Ty:= .agg [.int .i64,.int .i64]
def Bound.ok (x:Bound):Prop:=(IntKind.i64.min≤x.node∧x.node≤IntKind.i64.max)∧(IntKind.i64.min≤x.offset∧x.offset≤IntKind.i64.max)
theorem zso (x:Bound):D.sub (zgr x) 0 (some 2)=some (zgr x):=rfl
theorem zoS (x:Bound):D.sub (zgr x) 0 none=some (.int .i64 x.node):=rfl
theorem zkS (x:Bound):D.sub (zgr x) 1 none=some (.int .i64 x.offset):=rfl
attribute [go_sem] zso zoS zkS
theorem Bound.of {d:D} (h:HasTy zCZ d):∃x:Bound,d=zgr x∧Bound.ok x:=by
 obtain⟨xs,rfl,hl,hx⟩:=h.agg_inv
 match xs,hl with
 |[x0,x1],_=>
  obtain⟨y0,rfl,k0⟩:=HasTy.int_inv (hx 0 _ _ rfl rfl)
  obtain⟨y1,rfl,k1⟩:=HasTy.int_inv (hx 1 _ _ rfl rfl)
  exact⟨⟨y0,y1⟩,rfl,⟨k0,k1⟩⟩
structure Range where
 start:Bound
 end_:Bound
 deriving DecidableEq,Inhabited
def Range.zero:Range:=⟨Bound.zero,Bound.zero⟩
def zet (x:Range):D:= .agg [.int .i64 x.start.node,.int .i64 x.start.offset,.int .i64 x.end_.node,.int .i64 x.end_.offset]
def zDa:Ty:= .agg [.int .i64,.int .i64,.int .i64,.int .i64]
def Range.ok (x:Range):Prop:=Bound.ok x.start∧Bound.ok x.end_
theorem zsp (x:Range):D.sub (zet x) 0 (some 4)=some (zet x):=rfl
theorem znc (x:Range):D.sub (zet x) 0 (some 2)=some (zgr x.start):=rfl
theorem zha (x:Range):D.sub (zet x) 0 none=some (.int .i64 x.start.node):=rfl
theorem zfT (x:Range):D.sub (zet x) 1 none=some (.int .i64 x.start.offset):=rfl
theorem zoT (x:Range):D.sub (zet x) 2 (some 2)=some (zgr x.end_):=rfl
theorem zhN (x:Range):D.sub (zet x) 2 none=some (.int .i64 x.end_.node):=rfl
theorem zgs (x:Range):D.sub (zet x) 3 none=some (.int .i64 x.end_.offset):=rfl
attribute [go_sem] zsp znc zha zfT zoT zhN zgs
theorem Range.of {d:D} (h:HasTy zDa d):∃x:Range,d=zet x∧Range.ok x:=by
 obtain⟨xs,rfl,hl,hx⟩:=h.agg_inv
 match xs,hl with
 |[x0,x1,x2,x3],_=>
  obtain⟨y0,rfl,k0⟩:=HasTy.int_inv (hx 0 _ _ rfl rfl)
  obtain⟨y1,rfl,k1⟩:=HasTy.int_inv (hx 1 _ _ rfl rfl)
  obtain⟨y2,rfl,k2⟩:=HasTy.int_inv (hx 2 _ _ rfl rfl)
  obtain⟨y3,rfl,k3⟩:=HasTy.int_inv (hx 3 _ _ rfl rfl)
  exact⟨⟨⟨y0,y1⟩,⟨y2,y3⟩⟩,rfl,⟨⟨k0,k1⟩,⟨k2,k3⟩⟩⟩
structure valid_ask where
 f:Forest
 parent:Int
 child:Int
 replace:Bool
 deriving DecidableEq,Inhabited
def valid_ask.zero:valid_ask:=⟨Forest.zero,0,0,false⟩
def zbG (x:valid_ask):D:= .agg [.list x.f.nodes.n (x.f.nodes.l.map zai),.int .i64 x.parent,.int .i64 x.child,.bool x.replace]
def zoU:Ty:= .agg [.list (zvR),.int .i64,.int .i64,.bool]
def valid_ask.ok (x:valid_ask):Prop:=Forest.ok x.f∧(IntKind.i64.min≤x.parent∧x.parent≤IntKind.i64.max)∧(IntKind.i64.min≤x.child∧x.child≤IntKind.i64.max)∧True
theorem zjA (x:valid_ask):D.sub (zbG x) 0 (some 4)=some (zbG x):=rfl
theorem znd (x:valid_ask):D.sub (zbG x) 0 (some 1)=some (zae x.f):=rfl
theorem zgt (x:valid_ask):D.sub (zbG x) 0 none=some (.list x.f.nodes.n (x.f.nodes.l.map zai)):=rfl
theorem zhb (x:valid_ask):D.sub (zbG x) 1 none=some (.int .i64 x.parent):=rfl
theorem zhO (x:valid_ask):D.sub (zbG x) 2 none=some (.int .i64 x.child):=rfl
theorem zgu (x:valid_ask):D.sub (zbG x) 3 none=some (.bool x.replace):=rfl
attribute [go_sem] zjA znd zgt zhb zhO zgu
theorem valid_ask.of {d:D} (h:HasTy zoU d):∃x:valid_ask,d=zbG x∧valid_ask.ok x:=by
 obtain⟨xs,rfl,hl,hx⟩:=h.agg_inv
 match xs,hl with
 |[x0,x1,x2,x3],_=>
  obtain⟨y0,rfl,k0⟩:=(HasTy.sl_inv (fun _ h=>Node.of h)) (hx 0 _ _ rfl rfl)
  obtain⟨y1,rfl,k1⟩:=HasTy.int_inv (hx 1 _ _ rfl rfl)
  obtain⟨y2,rfl,k2⟩:=HasTy.int_inv (hx 2 _ _ rfl rfl)
  obtain⟨y3,rfl,k3⟩:=HasTy.bool_inv (hx 3 _ _ rfl rfl)
  exact⟨⟨⟨y0⟩,y1,y2,y3⟩,rfl,⟨k0,k1,k2,k3⟩⟩
structure forest_trait where
 known:Bool
 data:Bool
 kids:Bool
 hung:Bool
 full:Bool
 local_:Bool
 deriving DecidableEq,Inhabited
def forest_trait.zero:forest_trait:=⟨false,false,false,false,false,false⟩
def zaC (x:forest_trait):D:= .agg [.bool x.known,.bool x.data,.bool x.kids,.bool x.hung,.bool x.full,.bool x.local_]
def zjB:Ty:= .agg [.bool,.bool,.bool,.bool,.bool,.bool]
def forest_trait.ok (x:forest_trait):Prop:=True∧True∧True∧True∧True∧True
theorem zhc (x:forest_trait):(zaC x).cells.length=6:=Eq.trans rfl rfl
theorem zhd (x:forest_trait):D.sub (zaC x) 0 (some 6)=some (zaC x):=rfl
theorem zfo (x:forest_trait) (cs:List D) (h:cs.length=6):V.upd (.d (.agg cs)) 0 6 (.d (zaC x))=some (.d (zaC x)):=ziO (by simpa using h) rfl (by decide) rfl
theorem zfU (x:forest_trait):D.sub (zaC x) 0 none=some (.bool x.known):=rfl
theorem zgv (x:forest_trait):D.sub (zaC x) 1 none=some (.bool x.data):=rfl
theorem zgw (x:forest_trait):D.sub (zaC x) 2 none=some (.bool x.kids):=rfl
theorem zgx (x:forest_trait):D.sub (zaC x) 3 none=some (.bool x.hung):=rfl
theorem zgy (x:forest_trait):D.sub (zaC x) 4 none=some (.bool x.full):=rfl
theorem zfp (x:forest_trait):D.sub (zaC x) 5 none=some (.bool x.local_):=rfl
attribute [go_sem] zhc zhd zfo zfU zgv zgw zgx zgy zfp
theorem forest_trait.of {d:D} (h:HasTy zjB d):∃x:forest_trait,d=zaC x∧forest_trait.ok x:=by
 obtain⟨xs,rfl,hl,hx⟩:=h.agg_inv
 match xs,hl with
 |[x0,x1,x2,x3,x4,x5],_=>
  obtain⟨y0,rfl,k0⟩:=HasTy.bool_inv (hx 0 _ _ rfl rfl)
  obtain⟨y1,rfl,k1⟩:=HasTy.bool_inv (hx 1 _ _ rfl rfl)
  obtain⟨y2,rfl,k2⟩:=HasTy.bool_inv (hx 2 _ _ rfl rfl)
  obtain⟨y3,rfl,k3⟩:=HasTy.bool_inv (hx 3 _ _ rfl rfl)
  obtain⟨y4,rfl,k4⟩:=HasTy.bool_inv (hx 4 _ _ rfl rfl)
  obtain⟨y5,rfl,k5⟩:=HasTy.bool_inv (hx 5 _ _ rfl rfl)
  exact⟨⟨y0,y1,y2,y3,y4,y5⟩,rfl,⟨k0,k1,k2,k3,k4,k5⟩⟩
structure forest_key where
 space:List UInt8
 local_:List UInt8
 deriving DecidableEq,Inhabited
def forest_key.zero:forest_key:=⟨[],[]⟩
def zah (x:forest_key):D:= .agg [.str x.space,.str x.local_]
def zne:Ty:= .agg [.str,.str]
def forest_key.ok (x:forest_key):Prop:=x.space.length≤maxLen∧x.local_.length≤maxLen
theorem zjg (x:forest_key):D.sub (zah x) 0 (some 2)=some (zah x):=rfl
theorem zgz (x:forest_key) (cs:List D) (h:cs.length=2):V.upd (.d (.agg cs)) 0 2 (.d (zah x))=some (.d (zah x)):=ziO (by simpa using h) rfl (by decide) rfl
theorem zhe (x:forest_key):D.sub (zah x) 0 none=some (.str x.space):=rfl
theorem zgA (x:forest_key):D.sub (zah x) 1 none=some (.str x.local_):=rfl
theorem zag:Keyed [.str,.str] zah:=by
 intro x y
 simp only[zdU,zah,D.isAgg,D.cells,zaH,zbm,if_true,Option.bind_some,Option.map_some]
 rw[if_pos ⟨rfl,rfl⟩]
 congr 1
 rw[Bool.eq_iff_iff];rcases x with⟨a1,a2⟩;rcases y with⟨b1,b2⟩;simp[and_assoc]
attribute [go_sem] zjg zgz zhe zgA
theorem forest_key.of {d:D} (h:HasTy zne d):∃x:forest_key,d=zah x∧forest_key.ok x:=by
 obtain⟨xs,rfl,hl,hx⟩:=h.agg_inv
 match xs,hl with
 |[x0,x1],_=>
  obtain⟨y0,rfl,k0⟩:=HasTy.str_inv (hx 0 _ _ rfl rfl)
  obtain⟨y1,rfl,k1⟩:=HasTy.str_inv (hx 1 _ _ rfl rfl)
  exact⟨⟨y0,y1⟩,rfl,⟨k0,k1⟩⟩
end Go.Proofs.Ytfleilibjdgcjaa.O
