/- Shaken copy of a longer text: what one law needs. Its conditions: none. -/
import Derived.Test.YtfleilibjdgcjaaWAiE
set_option linter.unusedSimpArgs false
set_option linter.unusedVariables false
namespace Go.Proofs.Ytfleilibjdgcjaa.B
open Go.AI
structure Name where
 space:List UInt8
 prefix_:List UInt8
 local_:List UInt8
 deriving DecidableEq,Inhabited
def Name.zero:Name:=⟨[],[],[]⟩
def zcg (x:Name):D:= .agg [.str x.space,.str x.prefix_,.str x.local_]
def zGt:Ty:= .agg [.str,.str,.str]
def Name.ok (x:Name):Prop:=x.space.length≤maxLen∧x.prefix_.length≤maxLen∧x.local_.length≤maxLen
theorem zvY (x:Name):(zcg x).cells.length=3:=Eq.trans rfl rfl
theorem zvZ (x:Name):D.sub (zcg x) 0 (some 3)=some (zcg x):=rfl
theorem zoR (x:Name):D.sub (zcg x) 0 none=some (.str x.space):=rfl
theorem zkX (x:Name):D.sub (zcg x) 1 none=some (.str x.prefix_):=rfl
theorem zmT (x:Name):D.sub (zcg x) 2 none=some (.str x.local_):=rfl
theorem zmU (x y:Name):binV .eql (.agg [.str,.str,.str]) (.d (zcg x)) (.d (zcg y))=some (.d (.bool (decide (x=y)))):=by
 refine zAD ?_
 simp only[eqV,zcg,zaG,zbf,if_true,Option.bind_some,Option.map_some]
 congr 1
 rw[Bool.eq_iff_iff];rcases x with⟨a1,a2,a3⟩;rcases y with⟨b1,b2,b3⟩;simp[and_assoc]
theorem zsj (x:Name) (y0:List UInt8) (y1:List UInt8) (y2:List UInt8):binV .eql (.agg [.str,.str,.str]) (.d (zcg x)) (.d (.agg [.str y0,.str y1,.str y2]))=some (.d (.bool (decide (x=⟨y0,y1,y2⟩)))):=zmU x ⟨y0,y1,y2⟩
theorem zmV (x y:Name):binV .neq (.agg [.str,.str,.str]) (.d (zcg x)) (.d (zcg y))=some (.d (.bool (!decide (x=y)))):=by
 refine zFp ?_
 simp only[eqV,zcg,zaG,zbf,if_true,Option.bind_some,Option.map_some]
 congr 1
 rw[Bool.eq_iff_iff];rcases x with⟨a1,a2,a3⟩;rcases y with⟨b1,b2,b3⟩;simp[and_assoc]
theorem zsk (x:Name) (y0:List UInt8) (y1:List UInt8) (y2:List UInt8):binV .neq (.agg [.str,.str,.str]) (.d (zcg x)) (.d (.agg [.str y0,.str y1,.str y2]))=some (.d (.bool (!decide (x=⟨y0,y1,y2⟩)))):=zmV x ⟨y0,y1,y2⟩
attribute [go_sem] zvY zvZ zoR zkX zmT zmU zsj zmV zsk
theorem Name.of {d:D} (h:HasTy zGt d):∃x:Name,d=zcg x∧Name.ok x:=by
 obtain⟨xs,rfl,hl,hx⟩:=h.agg_inv
 match xs,hl with
 |[x0,x1,x2],_=>
  obtain⟨y0,rfl,k0⟩:=HasTy.str_inv (hx 0 _ _ rfl rfl)
  obtain⟨y1,rfl,k1⟩:=HasTy.str_inv (hx 1 _ _ rfl rfl)
  obtain⟨y2,rfl,k2⟩:=HasTy.str_inv (hx 2 _ _ rfl rfl)
  exact⟨⟨y0,y1,y2⟩,rfl,⟨k0,k1,k2⟩⟩
structure Attr where
 name:Name
 value:List UInt8
 deriving DecidableEq,Inhabited
def Attr.zero:Attr:=⟨Name.zero,[]⟩
def zbu (x:Attr):D:= .agg [.str x.name.space,.str x.name.prefix_,.str x.name.local_,.str x.value]
def zAJ:Ty:= .agg [.str,.str,.str,.str]
def Attr.ok (x:Attr):Prop:=Name.ok x.name∧x.value.length≤maxLen
theorem zwa (x:Attr):(zbu x).cells.length=4:=Eq.trans rfl rfl
theorem zwb (x:Attr):D.sub (zbu x) 0 (some 4)=some (zbu x):=rfl
theorem zmW (x:Attr) (cs:List D) (h:cs.length=4):V.upd (.d (.agg cs)) 0 4 (.d (zbu x))=some (.d (zbu x)):=zgL (by simpa using h) rfl (by decide) rfl
theorem zsl (x:Attr):D.sub (zbu x) 0 (some 3)=some (zcg x.name):=rfl
theorem zhK (x:Attr):D.sub (zbu x) 0 none=some (.str x.name.space):=rfl
theorem zgk (x:Attr):D.sub (zbu x) 1 none=some (.str x.name.prefix_):=rfl
theorem zgT (x:Attr):D.sub (zbu x) 2 none=some (.str x.name.local_):=rfl
theorem zoS (x:Attr):D.sub (zbu x) 3 none=some (.str x.value):=rfl
attribute [go_sem] zwa zwb zmW zsl zhK zgk zgT zoS
theorem Attr.of {d:D} (h:HasTy zAJ d):∃x:Attr,d=zbu x∧Attr.ok x:=by
 obtain⟨xs,rfl,hl,hx⟩:=h.agg_inv
 match xs,hl with
 |[x0,x1,x2,x3],_=>
  obtain⟨y0,rfl,k0⟩:=HasTy.str_inv (hx 0 _ _ rfl rfl)
  obtain⟨y1,rfl,k1⟩:=HasTy.str_inv (hx 1 _ _ rfl rfl)
  obtain⟨y2,rfl,k2⟩:=HasTy.str_inv (hx 2 _ _ rfl rfl)
  obtain⟨y3,rfl,k3⟩:=HasTy.str_inv (hx 3 _ _ rfl rfl)
  exact⟨⟨⟨y0,y1,y2⟩,y3⟩,rfl,⟨⟨k0,k1,k2⟩,k3⟩⟩
structure Node where
 kind:Int
 name:Name
 public_:List UInt8
 system:List UInt8
 data:Sl (Int)
 attrs:Sl (Attr)
 parent:Int
 kids:Sl (Int)
 doc:Int
 host:Int
 shadow:Int
 mode:Int
 manual:Bool
 hTML:Bool
 deriving DecidableEq,Inhabited
def Node.zero:Node:=⟨0,Name.zero,[],[],⟨true,[]⟩,⟨true,[]⟩,0,⟨true,[]⟩,0,0,0,0,false,false⟩
def zap (x:Node):D:= .agg [.int .u8 x.kind,.str x.name.space,.str x.name.prefix_,.str x.name.local_,.str x.public_,.str x.system,.list x.data.n (x.data.l.map (D.int .u16)),.list x.attrs.n (x.attrs.l.map zbu),.int .i64 x.parent,.list x.kids.n (x.kids.l.map (D.int .i64)),.int .i64 x.doc,.int .i64 x.host,.int .i64 x.shadow,.int .u8 x.mode,.bool x.manual,.bool x.hTML]
def zwc:Ty:= .agg [.int .u8,.str,.str,.str,.str,.str,.list (.int .u16),.list (zAJ),.int .i64,.list (.int .i64),.int .i64,.int .i64,.int .i64,.int .u8,.bool,.bool]
def Node.ok (x:Node):Prop:=(IntKind.u8.min≤x.kind∧x.kind≤IntKind.u8.max)∧Name.ok x.name∧x.public_.length≤maxLen∧x.system.length≤maxLen∧Sl.ok (fun y=>(IntKind.u16.min≤y∧y≤IntKind.u16.max)) x.data∧Sl.ok (fun y=>Attr.ok y) x.attrs∧(IntKind.i64.min≤x.parent∧x.parent≤IntKind.i64.max)∧Sl.ok (fun y=>(IntKind.i64.min≤y∧y≤IntKind.i64.max)) x.kids∧(IntKind.i64.min≤x.doc∧x.doc≤IntKind.i64.max)∧(IntKind.i64.min≤x.host∧x.host≤IntKind.i64.max)∧(IntKind.i64.min≤x.shadow∧x.shadow≤IntKind.i64.max)∧(IntKind.u8.min≤x.mode∧x.mode≤IntKind.u8.max)∧True∧True
theorem zwd (x:Node):(zap x).cells.length=16:=Eq.trans rfl rfl
theorem zwe (x:Node):D.sub (zap x) 0 (some 16)=some (zap x):=rfl
theorem zwf (x:Node) (i:Nat) (m:Option Nat):V.fld i m (.d (zap x))=(D.sub (zap x) i m).map .d:=zAX _ _ _
theorem zmX (x:Node) (cs:List D) (h:cs.length=16):V.upd (.d (.agg cs)) 0 16 (.d (zap x))=some (.d (zap x)):=zgL (by simpa using h) rfl (by decide) rfl
theorem zsm (x:Node):D.sub (zap x) 0 none=some (.int .u8 x.kind):=rfl
theorem zsn (x:Node):D.sub (zap x) 1 (some 3)=some (zcg x.name):=rfl
theorem zhL (x:Node):D.sub (zap x) 1 none=some (.str x.name.space):=rfl
theorem zgl (x:Node):D.sub (zap x) 2 none=some (.str x.name.prefix_):=rfl
theorem zgU (x:Node):D.sub (zap x) 3 none=some (.str x.name.local_):=rfl
theorem zkY (x:Node):D.sub (zap x) 4 none=some (.str x.public_):=rfl
theorem zmY (x:Node):D.sub (zap x) 5 none=some (.str x.system):=rfl
theorem zso (x:Node):D.sub (zap x) 6 none=some (.list x.data.n (x.data.l.map (D.int .u16))):=rfl
theorem zoT (x:Node):D.sub (zap x) 7 none=some (.list x.attrs.n (x.attrs.l.map zbu)):=rfl
theorem zmZ (x:Node):D.sub (zap x) 8 none=some (.int .i64 x.parent):=rfl
theorem zsp (x:Node):D.sub (zap x) 9 none=some (.list x.kids.n (x.kids.l.map (D.int .i64))):=rfl
theorem zwg (x:Node):D.sub (zap x) 10 none=some (.int .i64 x.doc):=rfl
theorem zsq (x:Node):D.sub (zap x) 11 none=some (.int .i64 x.host):=rfl
theorem zna (x:Node):D.sub (zap x) 12 none=some (.int .i64 x.shadow):=rfl
theorem zsr (x:Node):D.sub (zap x) 13 none=some (.int .u8 x.mode):=rfl
theorem znb (x:Node):D.sub (zap x) 14 none=some (.bool x.manual):=rfl
theorem zss (x:Node):D.sub (zap x) 15 none=some (.bool x.hTML):=rfl
attribute [go_sem] zwd zwe zwf zmX zsm zsn zhL zgl zgU zkY zmY zso zoT zmZ zsp zwg zsq zna zsr znb zss
theorem Node.of {d:D} (h:HasTy zwc d):∃x:Node,d=zap x∧Node.ok x:=by
 obtain⟨xs,rfl,hl,hx⟩:=h.agg_inv
 match xs,hl with
 |[x0,x1,x2,x3,x4,x5,x6,x7,x8,x9,x10,x11,x12,x13,x14,x15],_=>
  obtain⟨y0,rfl,k0⟩:=HasTy.int_inv (hx 0 _ _ rfl rfl)
  obtain⟨y1,rfl,k1⟩:=HasTy.str_inv (hx 1 _ _ rfl rfl)
  obtain⟨y2,rfl,k2⟩:=HasTy.str_inv (hx 2 _ _ rfl rfl)
  obtain⟨y3,rfl,k3⟩:=HasTy.str_inv (hx 3 _ _ rfl rfl)
  obtain⟨y4,rfl,k4⟩:=HasTy.str_inv (hx 4 _ _ rfl rfl)
  obtain⟨y5,rfl,k5⟩:=HasTy.str_inv (hx 5 _ _ rfl rfl)
  obtain⟨y6,rfl,k6⟩:=(HasTy.sl_inv (fun _ h=>HasTy.int_inv h)) (hx 6 _ _ rfl rfl)
  obtain⟨y7,rfl,k7⟩:=(HasTy.sl_inv (fun _ h=>Attr.of h)) (hx 7 _ _ rfl rfl)
  obtain⟨y8,rfl,k8⟩:=HasTy.int_inv (hx 8 _ _ rfl rfl)
  obtain⟨y9,rfl,k9⟩:=(HasTy.sl_inv (fun _ h=>HasTy.int_inv h)) (hx 9 _ _ rfl rfl)
  obtain⟨y10,rfl,k10⟩:=HasTy.int_inv (hx 10 _ _ rfl rfl)
  obtain⟨y11,rfl,k11⟩:=HasTy.int_inv (hx 11 _ _ rfl rfl)
  obtain⟨y12,rfl,k12⟩:=HasTy.int_inv (hx 12 _ _ rfl rfl)
  obtain⟨y13,rfl,k13⟩:=HasTy.int_inv (hx 13 _ _ rfl rfl)
  obtain⟨y14,rfl,k14⟩:=HasTy.bool_inv (hx 14 _ _ rfl rfl)
  obtain⟨y15,rfl,k15⟩:=HasTy.bool_inv (hx 15 _ _ rfl rfl)
  exact⟨⟨y0,⟨y1,y2,y3⟩,y4,y5,y6,y7,y8,y9,y10,y11,y12,y13,y14,y15⟩,rfl,⟨k0,⟨k1,k2,k3⟩,k4,k5,k6,k7,k8,k9,k10,k11,k12,k13,k14,k15⟩⟩
structure Forest where
 nodes:Sl (Node)
 deriving DecidableEq,Inhabited
def Forest.zero:Forest:=⟨⟨true,[]⟩⟩
def zac (x:Forest):D:= .agg [.list x.nodes.n (x.nodes.l.map zap)]
def tyForest:Ty:= .agg [.list (zwc)]
def Forest.ok (x:Forest):Prop:=Sl.ok (fun y=>Node.ok y) x.nodes
theorem zoU (x:Forest):(zac x).cells.length=1:=Eq.trans rfl rfl
theorem zoV (x:Forest):D.sub (zac x) 0 (some 1)=some (zac x):=rfl
theorem zkZ (x:Forest):D.sub (zac x) 0 none=some (.list x.nodes.n (x.nodes.l.map zap)):=rfl
attribute [go_sem] zoU zoV zkZ
theorem Forest.of {d:D} (h:HasTy tyForest d):∃x:Forest,d=zac x∧Forest.ok x:=by
 obtain⟨xs,rfl,hl,hx⟩:=h.agg_inv
 match xs,hl with
 |[x0],_=>
  obtain⟨y0,rfl,k0⟩:=(HasTy.sl_inv (fun _ h=>Node.of h)) (hx 0 _ _ rfl rfl)
  exact⟨⟨y0⟩,rfl,k0⟩
structure Change where
 kind:Int
 node:Int
 parent:Int
 index:Int
 other:Int
 doc:Int
 offset:Int
 count:Int
 data:Sl (Int)
 name:Name
 old:List UInt8
 value:List UInt8
 had:Bool
 has:Bool
 made:Node
 added:Sl (Int)
 removed:Sl (Int)
 prev:Int
 next:Int
 deriving DecidableEq,Inhabited
def Change.zero:Change:=⟨0,0,0,0,0,0,0,0,⟨true,[]⟩,Name.zero,[],[],false,false,Node.zero,⟨true,[]⟩,⟨true,[]⟩,0,0⟩
def zaH (x:Change):D:= .agg [.int .u8 x.kind,.int .i64 x.node,.int .i64 x.parent,.int .i64 x.index,.int .i64 x.other,.int .i64 x.doc,.int .i64 x.offset,.int .i64 x.count,.list x.data.n (x.data.l.map (D.int .u16)),.str x.name.space,.str x.name.prefix_,.str x.name.local_,.str x.old,.str x.value,.bool x.had,.bool x.has,.int .u8 x.made.kind,.str x.made.name.space,.str x.made.name.prefix_,.str x.made.name.local_,.str x.made.public_,.str x.made.system,.list x.made.data.n (x.made.data.l.map (D.int .u16)),.list x.made.attrs.n (x.made.attrs.l.map zbu),.int .i64 x.made.parent,.list x.made.kids.n (x.made.kids.l.map (D.int .i64)),.int .i64 x.made.doc,.int .i64 x.made.host,.int .i64 x.made.shadow,.int .u8 x.made.mode,.bool x.made.manual,.bool x.made.hTML,.list x.added.n (x.added.l.map (D.int .i64)),.list x.removed.n (x.removed.l.map (D.int .i64)),.int .i64 x.prev,.int .i64 x.next]
def Change.ok (x:Change):Prop:=(IntKind.u8.min≤x.kind∧x.kind≤IntKind.u8.max)∧(IntKind.i64.min≤x.node∧x.node≤IntKind.i64.max)∧(IntKind.i64.min≤x.parent∧x.parent≤IntKind.i64.max)∧(IntKind.i64.min≤x.index∧x.index≤IntKind.i64.max)∧(IntKind.i64.min≤x.other∧x.other≤IntKind.i64.max)∧(IntKind.i64.min≤x.doc∧x.doc≤IntKind.i64.max)∧(IntKind.i64.min≤x.offset∧x.offset≤IntKind.i64.max)∧(IntKind.i64.min≤x.count∧x.count≤IntKind.i64.max)∧Sl.ok (fun y=>(IntKind.u16.min≤y∧y≤IntKind.u16.max)) x.data∧Name.ok x.name∧x.old.length≤maxLen∧x.value.length≤maxLen∧True∧True∧Node.ok x.made∧Sl.ok (fun y=>(IntKind.i64.min≤y∧y≤IntKind.i64.max)) x.added∧Sl.ok (fun y=>(IntKind.i64.min≤y∧y≤IntKind.i64.max)) x.removed∧(IntKind.i64.min≤x.prev∧x.prev≤IntKind.i64.max)∧(IntKind.i64.min≤x.next∧x.next≤IntKind.i64.max)
theorem zoW (x:Change):D.sub (zaH x) 0 (some 36)=some (zaH x):=rfl
theorem znc (x:Change):D.sub (zaH x) 0 none=some (.int .u8 x.kind):=rfl
theorem znd (x:Change):D.sub (zaH x) 1 none=some (.int .i64 x.node):=rfl
theorem zjv (x:Change):D.sub (zaH x) 2 none=some (.int .i64 x.parent):=rfl
theorem zla (x:Change):D.sub (zaH x) 3 none=some (.int .i64 x.index):=rfl
theorem zlb (x:Change):D.sub (zaH x) 4 none=some (.int .i64 x.other):=rfl
theorem zoX (x:Change):D.sub (zaH x) 5 none=some (.int .i64 x.doc):=rfl
theorem zjw (x:Change):D.sub (zaH x) 6 none=some (.int .i64 x.offset):=rfl
theorem zlc (x:Change):D.sub (zaH x) 7 none=some (.int .i64 x.count):=rfl
theorem zne (x:Change):D.sub (zaH x) 8 none=some (.list x.data.n (x.data.l.map (D.int .u16))):=rfl
theorem znf (x:Change):D.sub (zaH x) 9 (some 3)=some (zcg x.name):=rfl
theorem zgm (x:Change):D.sub (zaH x) 9 none=some (.str x.name.space):=rfl
theorem zfh (x:Change):D.sub (zaH x) 10 none=some (.str x.name.prefix_):=rfl
theorem zfH (x:Change):D.sub (zaH x) 11 none=some (.str x.name.local_):=rfl
theorem zoY (x:Change):D.sub (zaH x) 12 none=some (.str x.old):=rfl
theorem zld (x:Change):D.sub (zaH x) 13 none=some (.str x.value):=rfl
theorem zoZ (x:Change):D.sub (zaH x) 14 none=some (.bool x.had):=rfl
theorem zpa (x:Change):D.sub (zaH x) 15 none=some (.bool x.has):=rfl
theorem zng (x:Change):D.sub (zaH x) 16 (some 16)=some (zap x.made):=rfl
theorem zgV (x:Change):D.sub (zaH x) 16 none=some (.int .u8 x.made.kind):=rfl
theorem zgW (x:Change):D.sub (zaH x) 17 (some 3)=some (zcg x.made.name):=rfl
theorem zef (x:Change):D.sub (zaH x) 17 none=some (.str x.made.name.space):=rfl
theorem zdB (x:Change):D.sub (zaH x) 18 none=some (.str x.made.name.prefix_):=rfl
theorem zdM (x:Change):D.sub (zaH x) 19 none=some (.str x.made.name.local_):=rfl
theorem zfi (x:Change):D.sub (zaH x) 20 none=some (.str x.made.public_):=rfl
theorem zfI (x:Change):D.sub (zaH x) 21 none=some (.str x.made.system):=rfl
theorem zgX (x:Change):D.sub (zaH x) 22 none=some (.list x.made.data.n (x.made.data.l.map (D.int .u16))):=rfl
theorem zgn (x:Change):D.sub (zaH x) 23 none=some (.list x.made.attrs.n (x.made.attrs.l.map zbu)):=rfl
theorem zfJ (x:Change):D.sub (zaH x) 24 none=some (.int .i64 x.made.parent):=rfl
theorem zgY (x:Change):D.sub (zaH x) 25 none=some (.list x.made.kids.n (x.made.kids.l.map (D.int .i64))):=rfl
theorem zhM (x:Change):D.sub (zaH x) 26 none=some (.int .i64 x.made.doc):=rfl
theorem zgZ (x:Change):D.sub (zaH x) 27 none=some (.int .i64 x.made.host):=rfl
theorem zfK (x:Change):D.sub (zaH x) 28 none=some (.int .i64 x.made.shadow):=rfl
theorem zha (x:Change):D.sub (zaH x) 29 none=some (.int .u8 x.made.mode):=rfl
theorem zfL (x:Change):D.sub (zaH x) 30 none=some (.bool x.made.manual):=rfl
theorem zhb (x:Change):D.sub (zaH x) 31 none=some (.bool x.made.hTML):=rfl
theorem zle (x:Change):D.sub (zaH x) 32 none=some (.list x.added.n (x.added.l.map (D.int .i64))):=rfl
theorem zja (x:Change):D.sub (zaH x) 33 none=some (.list x.removed.n (x.removed.l.map (D.int .i64))):=rfl
theorem znh (x:Change):D.sub (zaH x) 34 none=some (.int .i64 x.prev):=rfl
theorem zni (x:Change):D.sub (zaH x) 35 none=some (.int .i64 x.next):=rfl
attribute [go_sem] zoW znc znd zjv zla zlb zoX zjw zlc zne znf zgm zfh zfH zoY zld zoZ zpa zng zgV zgW zef zdB zdM zfi zfI zgX zgn zfJ zgY zhM zgZ zfK zha zfL zhb zle zja znh zni
structure Bound where
 node:Int
 offset:Int
 deriving DecidableEq,Inhabited
def Bound.zero:Bound:=⟨0,0⟩
def zai (x:Bound):D:= .agg [.int .i64 x.node,.int .i64 x.offset]
def tyBound:Ty:= .agg [.int .i64,.int .i64]
def Bound.ok (x:Bound):Prop:=(IntKind.i64.min≤x.node∧x.node≤IntKind.i64.max)∧(IntKind.i64.min≤x.offset∧x.offset≤IntKind.i64.max)
theorem zst (x:Bound):(zai x).cells.length=2:=Eq.trans rfl rfl
theorem zpb (x:Bound):(V.d (zai x)).cells.length=2:=Eq.trans rfl rfl
theorem zsu (x:Bound):D.sub (zai x) 0 (some 2)=some (zai x):=rfl
theorem zlf (x:Bound) (cs:List D) (h:cs.length=2):V.upd (.d (.agg cs)) 0 2 (.d (zai x))=some (.d (zai x)):=zgL (by simpa using h) rfl (by decide) rfl
theorem znj (x:Bound):sized 2 [V.d (zai x)]=true:=zuL rfl rfl
theorem zpc (x:Bound):D.sub (zai x) 0 none=some (.int .i64 x.node):=rfl
theorem zlg (x:Bound):D.sub (zai x) 1 none=some (.int .i64 x.offset):=rfl
theorem zsv (x y:Bound):binV .eql (.agg [.int,.int]) (.d (zai x)) (.d (zai y))=some (.d (.bool (decide (x=y)))):=by
 refine zAD ?_
 simp only[eqV,zai,zaG,zbf,if_true,Option.bind_some,Option.map_some]
 congr 1
 rw[Bool.eq_iff_iff];rcases x with⟨a1,a2⟩;rcases y with⟨b1,b2⟩;simp[and_assoc]
attribute [go_sem] znj zst zpb zsu zlf zpc zlg zsv
theorem Bound.of {d:D} (h:HasTy tyBound d):∃x:Bound,d=zai x∧Bound.ok x:=by
 obtain⟨xs,rfl,hl,hx⟩:=h.agg_inv
 match xs,hl with
 |[x0,x1],_=>
  obtain⟨y0,rfl,k0⟩:=HasTy.int_inv (hx 0 _ _ rfl rfl)
  obtain⟨y1,rfl,k1⟩:=HasTy.int_inv (hx 1 _ _ rfl rfl)
  exact⟨⟨y0,y1⟩,rfl,⟨k0,k1⟩⟩
structure Range where
 start:Bound
 end_:Bound
 deriving DecidableEq,Inhabited
def Range.zero:Range:=⟨Bound.zero,Bound.zero⟩
def zaP (x:Range):D:= .agg [.int .i64 x.start.node,.int .i64 x.start.offset,.int .i64 x.end_.node,.int .i64 x.end_.offset]
def tyRange:Ty:= .agg [.int .i64,.int .i64,.int .i64,.int .i64]
def Range.ok (x:Range):Prop:=Bound.ok x.start∧Bound.ok x.end_
theorem zsw (x:Range):(zaP x).cells.length=4:=Eq.trans rfl rfl
theorem zsx (x:Range):D.sub (zaP x) 0 (some 4)=some (zaP x):=rfl
theorem znk (x:Range):D.sub (zaP x) 0 (some 2)=some (zai x.start):=rfl
theorem zhc (x:Range):D.sub (zaP x) 0 none=some (.int .i64 x.start.node):=rfl
theorem zfM (x:Range):D.sub (zaP x) 1 none=some (.int .i64 x.start.offset):=rfl
theorem zpd (x:Range):D.sub (zaP x) 2 (some 2)=some (zai x.end_):=rfl
theorem zhN (x:Range):D.sub (zaP x) 2 none=some (.int .i64 x.end_.node):=rfl
theorem zgo (x:Range):D.sub (zaP x) 3 none=some (.int .i64 x.end_.offset):=rfl
attribute [go_sem] zsw zsx znk zhc zfM zpd zhN zgo
theorem Range.of {d:D} (h:HasTy tyRange d):∃x:Range,d=zaP x∧Range.ok x:=by
 obtain⟨xs,rfl,hl,hx⟩:=h.agg_inv
 match xs,hl with
 |[x0,x1,x2,x3],_=>
  obtain⟨y0,rfl,k0⟩:=HasTy.int_inv (hx 0 _ _ rfl rfl)
  obtain⟨y1,rfl,k1⟩:=HasTy.int_inv (hx 1 _ _ rfl rfl)
  obtain⟨y2,rfl,k2⟩:=HasTy.int_inv (hx 2 _ _ rfl rfl)
  obtain⟨y3,rfl,k3⟩:=HasTy.int_inv (hx 3 _ _ rfl rfl)
  exact⟨⟨⟨y0,y1⟩,⟨y2,y3⟩⟩,rfl,⟨⟨k0,k1⟩,⟨k2,k3⟩⟩⟩
structure valid_ask where
 f:Forest
 parent:Int
 child:Int
 replace:Bool
 deriving DecidableEq,Inhabited
def valid_ask.zero:valid_ask:=⟨Forest.zero,0,0,false⟩
def zbH (x:valid_ask):D:= .agg [.list x.f.nodes.n (x.f.nodes.l.map zap),.int .i64 x.parent,.int .i64 x.child,.bool x.replace]
def zpe:Ty:= .agg [.list (zwc),.int .i64,.int .i64,.bool]
def valid_ask.ok (x:valid_ask):Prop:=Forest.ok x.f∧(IntKind.i64.min≤x.parent∧x.parent≤IntKind.i64.max)∧(IntKind.i64.min≤x.child∧x.child≤IntKind.i64.max)∧True
theorem zjx (x:valid_ask):D.sub (zbH x) 0 (some 4)=some (zbH x):=rfl
theorem znl (x:valid_ask):D.sub (zbH x) 0 (some 1)=some (zac x.f):=rfl
theorem zgp (x:valid_ask):D.sub (zbH x) 0 none=some (.list x.f.nodes.n (x.f.nodes.l.map zap)):=rfl
theorem zhd (x:valid_ask):D.sub (zbH x) 1 none=some (.int .i64 x.parent):=rfl
theorem zhO (x:valid_ask):D.sub (zbH x) 2 none=some (.int .i64 x.child):=rfl
theorem zgq (x:valid_ask):D.sub (zbH x) 3 none=some (.bool x.replace):=rfl
attribute [go_sem] zjx znl zgp zhd zhO zgq
theorem valid_ask.of {d:D} (h:HasTy zpe d):∃x:valid_ask,d=zbH x∧valid_ask.ok x:=by
 obtain⟨xs,rfl,hl,hx⟩:=h.agg_inv
 match xs,hl with
 |[x0,x1,x2,x3],_=>
  obtain⟨y0,rfl,k0⟩:=(HasTy.sl_inv (fun _ h=>Node.of h)) (hx 0 _ _ rfl rfl)
  obtain⟨y1,rfl,k1⟩:=HasTy.int_inv (hx 1 _ _ rfl rfl)
  obtain⟨y2,rfl,k2⟩:=HasTy.int_inv (hx 2 _ _ rfl rfl)
  obtain⟨y3,rfl,k3⟩:=HasTy.bool_inv (hx 3 _ _ rfl rfl)
  exact⟨⟨⟨y0⟩,y1,y2,y3⟩,rfl,⟨k0,k1,k2,k3⟩⟩
structure forest_trait where
 known:Bool
 data:Bool
 kids:Bool
 hung:Bool
 full:Bool
 local_:Bool
 deriving DecidableEq,Inhabited
def forest_trait.zero:forest_trait:=⟨false,false,false,false,false,false⟩
def zaD (x:forest_trait):D:= .agg [.bool x.known,.bool x.data,.bool x.kids,.bool x.hung,.bool x.full,.bool x.local_]
def zjy:Ty:= .agg [.bool,.bool,.bool,.bool,.bool,.bool]
def forest_trait.ok (x:forest_trait):Prop:=True∧True∧True∧True∧True∧True
theorem zhe (x:forest_trait):(zaD x).cells.length=6:=Eq.trans rfl rfl
theorem zhf (x:forest_trait):D.sub (zaD x) 0 (some 6)=some (zaD x):=rfl
theorem zfj (x:forest_trait) (cs:List D) (h:cs.length=6):V.upd (.d (.agg cs)) 0 6 (.d (zaD x))=some (.d (zaD x)):=zgL (by simpa using h) rfl (by decide) rfl
theorem zfN (x:forest_trait):D.sub (zaD x) 0 none=some (.bool x.known):=rfl
theorem zgr (x:forest_trait):D.sub (zaD x) 1 none=some (.bool x.data):=rfl
theorem zgs (x:forest_trait):D.sub (zaD x) 2 none=some (.bool x.kids):=rfl
theorem zgt (x:forest_trait):D.sub (zaD x) 3 none=some (.bool x.hung):=rfl
theorem zgu (x:forest_trait):D.sub (zaD x) 4 none=some (.bool x.full):=rfl
theorem zfk (x:forest_trait):D.sub (zaD x) 5 none=some (.bool x.local_):=rfl
attribute [go_sem] zhe zhf zfj zfN zgr zgs zgt zgu zfk
theorem forest_trait.of {d:D} (h:HasTy zjy d):∃x:forest_trait,d=zaD x∧forest_trait.ok x:=by
 obtain⟨xs,rfl,hl,hx⟩:=h.agg_inv
 match xs,hl with
 |[x0,x1,x2,x3,x4,x5],_=>
  obtain⟨y0,rfl,k0⟩:=HasTy.bool_inv (hx 0 _ _ rfl rfl)
  obtain⟨y1,rfl,k1⟩:=HasTy.bool_inv (hx 1 _ _ rfl rfl)
  obtain⟨y2,rfl,k2⟩:=HasTy.bool_inv (hx 2 _ _ rfl rfl)
  obtain⟨y3,rfl,k3⟩:=HasTy.bool_inv (hx 3 _ _ rfl rfl)
  obtain⟨y4,rfl,k4⟩:=HasTy.bool_inv (hx 4 _ _ rfl rfl)
  obtain⟨y5,rfl,k5⟩:=HasTy.bool_inv (hx 5 _ _ rfl rfl)
  exact⟨⟨y0,y1,y2,y3,y4,y5⟩,rfl,⟨k0,k1,k2,k3,k4,k5⟩⟩
structure forest_key where
 space:List UInt8
 local_:List UInt8
 deriving DecidableEq,Inhabited
def forest_key.zero:forest_key:=⟨[],[]⟩
def zag (x:forest_key):D:= .agg [.str x.space,.str x.local_]
def znm:Ty:= .agg [.str,.str]
def forest_key.ok (x:forest_key):Prop:=x.space.length≤maxLen∧x.local_.length≤maxLen
theorem zjb (x:forest_key):D.sub (zag x) 0 (some 2)=some (zag x):=rfl
theorem zgv (x:forest_key) (cs:List D) (h:cs.length=2):V.upd (.d (.agg cs)) 0 2 (.d (zag x))=some (.d (zag x)):=zgL (by simpa using h) rfl (by decide) rfl
theorem zhg (x:forest_key):D.sub (zag x) 0 none=some (.str x.space):=rfl
theorem zgw (x:forest_key):D.sub (zag x) 1 none=some (.str x.local_):=rfl
theorem zaf:Keyed [.str,.str] zag:=by
 intro x y
 simp only[zdS,zag,D.isAgg,D.cells,zaG,zbf,if_true,Option.bind_some,Option.map_some]
 rw[if_pos ⟨rfl,rfl⟩]
 congr 1
 rw[Bool.eq_iff_iff];rcases x with⟨a1,a2⟩;rcases y with⟨b1,b2⟩;simp[and_assoc]
attribute [go_sem] zjb zgv zhg zgw
theorem forest_key.of {d:D} (h:HasTy znm d):∃x:forest_key,d=zag x∧forest_key.ok x:=by
 obtain⟨xs,rfl,hl,hx⟩:=h.agg_inv
 match xs,hl with
 |[x0,x1],_=>
  obtain⟨y0,rfl,k0⟩:=HasTy.str_inv (hx 0 _ _ rfl rfl)
  obtain⟨y1,rfl,k1⟩:=HasTy.str_inv (hx 1 _ _ rfl rfl)
  exact⟨⟨y0,y1⟩,rfl,⟨k0,k1⟩⟩
end Go.Proofs.Ytfleilibjdgcjaa.B
