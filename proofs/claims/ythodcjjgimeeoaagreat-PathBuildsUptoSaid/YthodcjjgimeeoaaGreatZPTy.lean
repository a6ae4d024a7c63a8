/- Shaken copy of a longer text: what one law needs. Its conditions: none. -/
import Derived.Test.YthodcjjgimeeoaaGreatZAiE
set_option linter.unusedSimpArgs false
set_option linter.unusedVariables false
namespace Go.Proofs.YthodcjjgimeeoaaGreat.P
open Go.AI
structure Name where
 space:List UInt8
 prefix_:List UInt8
 local_:List UInt8
 deriving DecidableEq,Inhabited
def Name.zero:Name:=⟨[],[],[]⟩
def zcf (x:Name):D:= .agg [.str x.space,.str x.prefix_,.str x.local_]
def zLh:Ty:= .agg [.str,.str,.str]
def Name.ok (x:Name):Prop:=x.space.length≤maxLen∧x.prefix_.length≤maxLen∧x.local_.length≤maxLen
theorem zzl (x:Name):(zcf x).cells.length=3:=Eq.trans rfl rfl
theorem zzm (x:Name):D.sub (zcf x) 0 (some 3)=some (zcf x):=rfl
theorem zrj (x:Name):D.sub (zcf x) 0 none=some (.str x.space):=rfl
theorem zmO (x:Name):D.sub (zcf x) 1 none=some (.str x.prefix_):=rfl
theorem zoW (x:Name):D.sub (zcf x) 2 none=some (.str x.local_):=rfl
theorem zoX (x y:Name):binV .eql (.agg [.str,.str,.str]) (.d (zcf x)) (.d (zcf y))=some (.d (.bool (decide (x=y)))):=by
 refine zJQ ?_
 simp only[eqV,zcf,zaM,zbt,if_true,Option.bind_some,Option.map_some]
 congr 1
 rw[Bool.eq_iff_iff];rcases x with⟨a1,a2,a3⟩;rcases y with⟨b1,b2,b3⟩;simp[and_assoc]
theorem zve (x:Name) (y0:List UInt8) (y1:List UInt8) (y2:List UInt8):binV .eql (.agg [.str,.str,.str]) (.d (zcf x)) (.d (.agg [.str y0,.str y1,.str y2]))=some (.d (.bool (decide (x=⟨y0,y1,y2⟩)))):=zoX x ⟨y0,y1,y2⟩
theorem zoY (x y:Name):binV .neq (.agg [.str,.str,.str]) (.d (zcf x)) (.d (zcf y))=some (.d (.bool (!decide (x=y)))):=by
 refine zFg ?_
 simp only[eqV,zcf,zaM,zbt,if_true,Option.bind_some,Option.map_some]
 congr 1
 rw[Bool.eq_iff_iff];rcases x with⟨a1,a2,a3⟩;rcases y with⟨b1,b2,b3⟩;simp[and_assoc]
theorem zvf (x:Name) (y0:List UInt8) (y1:List UInt8) (y2:List UInt8):binV .neq (.agg [.str,.str,.str]) (.d (zcf x)) (.d (.agg [.str y0,.str y1,.str y2]))=some (.d (.bool (!decide (x=⟨y0,y1,y2⟩)))):=zoY x ⟨y0,y1,y2⟩
attribute [go_sem] zzl zzm zrj zmO zoW zoX zve zoY zvf
theorem Name.of {d:D} (h:HasTy zLh d):∃x:Name,d=zcf x∧Name.ok x:=by
 obtain⟨xs,rfl,hl,hx⟩:=h.agg_inv
 match xs,hl with
 |[x0,x1,x2],_=>
  obtain⟨y0,rfl,k0⟩:=HasTy.str_inv (hx 0 _ _ rfl rfl)
  obtain⟨y1,rfl,k1⟩:=HasTy.str_inv (hx 1 _ _ rfl rfl)
  obtain⟨y2,rfl,k2⟩:=HasTy.str_inv (hx 2 _ _ rfl rfl)
  exact⟨⟨y0,y1,y2⟩,rfl,⟨k0,k1,k2⟩⟩
structure Attr where
 name:Name
 value:List UInt8
 deriving DecidableEq,Inhabited
def Attr.zero:Attr:=⟨Name.zero,[]⟩
def zbg (x:Attr):D:= .agg [.str x.name.space,.str x.name.prefix_,.str x.name.local_,.str x.value]
def zFi:Ty:= .agg [.str,.str,.str,.str]
def Attr.ok (x:Attr):Prop:=Name.ok x.name∧x.value.length≤maxLen
theorem zzn (x:Attr):(zbg x).cells.length=4:=Eq.trans rfl rfl
theorem zzo (x:Attr):D.sub (zbg x) 0 (some 4)=some (zbg x):=rfl
theorem zoZ (x:Attr) (cs:List D) (h:cs.length=4):V.upd (.d (.agg cs)) 0 4 (.d (zbg x))=some (.d (zbg x)):=zif (by simpa using h) rfl (by decide) rfl
theorem zvg (x:Attr):D.sub (zbg x) 0 (some 3)=some (zcf x.name):=rfl
theorem zjt (x:Attr):D.sub (zbg x) 0 none=some (.str x.name.space):=rfl
theorem zhz (x:Attr):D.sub (zbg x) 1 none=some (.str x.name.prefix_):=rfl
theorem zir (x:Attr):D.sub (zbg x) 2 none=some (.str x.name.local_):=rfl
theorem zrk (x:Attr):D.sub (zbg x) 3 none=some (.str x.value):=rfl
attribute [go_sem] zzn zzo zoZ zvg zjt zhz zir zrk
theorem Attr.of {d:D} (h:HasTy zFi d):∃x:Attr,d=zbg x∧Attr.ok x:=by
 obtain⟨xs,rfl,hl,hx⟩:=h.agg_inv
 match xs,hl with
 |[x0,x1,x2,x3],_=>
  obtain⟨y0,rfl,k0⟩:=HasTy.str_inv (hx 0 _ _ rfl rfl)
  obtain⟨y1,rfl,k1⟩:=HasTy.str_inv (hx 1 _ _ rfl rfl)
  obtain⟨y2,rfl,k2⟩:=HasTy.str_inv (hx 2 _ _ rfl rfl)
  obtain⟨y3,rfl,k3⟩:=HasTy.str_inv (hx 3 _ _ rfl rfl)
  exact⟨⟨⟨y0,y1,y2⟩,y3⟩,rfl,⟨⟨k0,k1,k2⟩,k3⟩⟩
structure Node where
 kind:Int
 name:Name
 public_:List UInt8
 system:List UInt8
 data:Sl (Int)
 attrs:Sl (Attr)
 parent:Int
 kids:Sl (Int)
 doc:Int
 host:Int
 shadow:Int
 mode:Int
 manual:Bool
 hTML:Bool
 deriving DecidableEq,Inhabited
def Node.zero:Node:=⟨0,Name.zero,[],[],⟨true,[]⟩,⟨true,[]⟩,0,⟨true,[]⟩,0,0,0,0,false,false⟩
def zao (x:Node):D:= .agg [.int .u8 x.kind,.str x.name.space,.str x.name.prefix_,.str x.name.local_,.str x.public_,.str x.system,.list x.data.n (x.data.l.map (D.int .u16)),.list x.attrs.n (x.attrs.l.map zbg),.int .i64 x.parent,.list x.kids.n (x.kids.l.map (D.int .i64)),.int .i64 x.doc,.int .i64 x.host,.int .i64 x.shadow,.int .u8 x.mode,.bool x.manual,.bool x.hTML]
def zpa:Ty:= .agg [.int .u8,.str,.str,.str,.str,.str,.list (.int .u16),.list (zFi),.int .i64,.list (.int .i64),.int .i64,.int .i64,.int .i64,.int .u8,.bool,.bool]
def Node.ok (x:Node):Prop:=(IntKind.u8.min≤x.kind∧x.kind≤IntKind.u8.max)∧Name.ok x.name∧x.public_.length≤maxLen∧x.system.length≤maxLen∧Sl.ok (fun y=>(IntKind.u16.min≤y∧y≤IntKind.u16.max)) x.data∧Sl.ok (fun y=>Attr.ok y) x.attrs∧(IntKind.i64.min≤x.parent∧x.parent≤IntKind.i64.max)∧Sl.ok (fun y=>(IntKind.i64.min≤y∧y≤IntKind.i64.max)) x.kids∧(IntKind.i64.min≤x.doc∧x.doc≤IntKind.i64.max)∧(IntKind.i64.min≤x.host∧x.host≤IntKind.i64.max)∧(IntKind.i64.min≤x.shadow∧x.shadow≤IntKind.i64.max)∧(IntKind.u8.min≤x.mode∧x.mode≤IntKind.u8.max)∧True∧True
theorem zzp (x:Node):(zao x).cells.length=16:=Eq.trans rfl rfl
theorem zzq (x:Node):D.sub (zao x) 0 (some 16)=some (zao x):=rfl
theorem zzr (x:Node) (i:Nat) (m:Option Nat):V.fld i m (.d (zao x))=(D.sub (zao x) i m).map .d:=zFx _ _ _
theorem zpb (x:Node) (cs:List D) (h:cs.length=16):V.upd (.d (.agg cs)) 0 16 (.d (zao x))=some (.d (zao x)):=zif (by simpa using h) rfl (by decide) rfl
theorem zvh (x:Node):D.sub (zao x) 0 none=some (.int .u8 x.kind):=rfl
theorem zvi (x:Node):D.sub (zao x) 1 (some 3)=some (zcf x.name):=rfl
theorem zju (x:Node):D.sub (zao x) 1 none=some (.str x.name.space):=rfl
theorem zhA (x:Node):D.sub (zao x) 2 none=some (.str x.name.prefix_):=rfl
theorem zis (x:Node):D.sub (zao x) 3 none=some (.str x.name.local_):=rfl
theorem zmP (x:Node):D.sub (zao x) 4 none=some (.str x.public_):=rfl
theorem zpc (x:Node):D.sub (zao x) 5 none=some (.str x.system):=rfl
theorem zvj (x:Node):D.sub (zao x) 6 none=some (.list x.data.n (x.data.l.map (D.int .u16))):=rfl
theorem zrl (x:Node):D.sub (zao x) 7 none=some (.list x.attrs.n (x.attrs.l.map zbg)):=rfl
theorem zpd (x:Node):D.sub (zao x) 8 none=some (.int .i64 x.parent):=rfl
theorem zvk (x:Node):D.sub (zao x) 9 none=some (.list x.kids.n (x.kids.l.map (D.int .i64))):=rfl
theorem zzs (x:Node):D.sub (zao x) 10 none=some (.int .i64 x.doc):=rfl
theorem zvl (x:Node):D.sub (zao x) 11 none=some (.int .i64 x.host):=rfl
theorem zpe (x:Node):D.sub (zao x) 12 none=some (.int .i64 x.shadow):=rfl
theorem zvm (x:Node):D.sub (zao x) 13 none=some (.int .u8 x.mode):=rfl
theorem zpf (x:Node):D.sub (zao x) 14 none=some (.bool x.manual):=rfl
theorem zvn (x:Node):D.sub (zao x) 15 none=some (.bool x.hTML):=rfl
attribute [go_sem] zzp zzq zzr zpb zvh zvi zju zhA zis zmP zpc zvj zrl zpd zvk zzs zvl zpe zvm zpf zvn
theorem Node.of {d:D} (h:HasTy zpa d):∃x:Node,d=zao x∧Node.ok x:=by
 obtain⟨xs,rfl,hl,hx⟩:=h.agg_inv
 match xs,hl with
 |[x0,x1,x2,x3,x4,x5,x6,x7,x8,x9,x10,x11,x12,x13,x14,x15],_=>
  obtain⟨y0,rfl,k0⟩:=HasTy.int_inv (hx 0 _ _ rfl rfl)
  obtain⟨y1,rfl,k1⟩:=HasTy.str_inv (hx 1 _ _ rfl rfl)
  obtain⟨y2,rfl,k2⟩:=HasTy.str_inv (hx 2 _ _ rfl rfl)
  obtain⟨y3,rfl,k3⟩:=HasTy.str_inv (hx 3 _ _ rfl rfl)
  obtain⟨y4,rfl,k4⟩:=HasTy.str_inv (hx 4 _ _ rfl rfl)
  obtain⟨y5,rfl,k5⟩:=HasTy.str_inv (hx 5 _ _ rfl rfl)
  obtain⟨y6,rfl,k6⟩:=(HasTy.sl_inv (fun _ h=>HasTy.int_inv h)) (hx 6 _ _ rfl rfl)
  obtain⟨y7,rfl,k7⟩:=(HasTy.sl_inv (fun _ h=>Attr.of h)) (hx 7 _ _ rfl rfl)
  obtain⟨y8,rfl,k8⟩:=HasTy.int_inv (hx 8 _ _ rfl rfl)
  obtain⟨y9,rfl,k9⟩:=(HasTy.sl_inv (fun _ h=>HasTy.int_inv h)) (hx 9 _ _ rfl rfl)
  obtain⟨y10,rfl,k10⟩:=HasTy.int_inv (hx 10 _ _ rfl rfl)
  obtain⟨y11,rfl,k11⟩:=HasTy.int_inv (hx 11 _ _ rfl rfl)
  obtain⟨y12,rfl,k12⟩:=HasTy.int_inv (hx 12 _ _ rfl rfl)
  obtain⟨y13,rfl,k13⟩:=HasTy.int_inv (hx 13 _ _ rfl rfl)
  obtain⟨y14,rfl,k14⟩:=HasTy.bool_inv (hx 14 _ _ rfl rfl)
  obtain⟨y15,rfl,k15⟩:=HasTy.bool_inv (hx 15 _ _ rfl rfl)
  exact⟨⟨y0,⟨y1,y2,y3⟩,y4,y5,y6,y7,y8,y9,y10,y11,y12,y13,y14,y15⟩,rfl,⟨k0,⟨k1,k2,k3⟩,k4,k5,k6,k7,k8,k9,k10,k11,k12,k13,k14,k15⟩⟩
structure Forest where
 nodes:Sl (Node)
 deriving DecidableEq,Inhabited
def Forest.zero:Forest:=⟨⟨true,[]⟩⟩
def zaa (x:Forest):D:= .agg [.list x.nodes.n (x.nodes.l.map zao)]
def tyForest:Ty:= .agg [.list (zpa)]
def Forest.ok (x:Forest):Prop:=Sl.ok (fun y=>Node.ok y) x.nodes
theorem zrm (x:Forest):(zaa x).cells.length=1:=Eq.trans rfl rfl
theorem zrn (x:Forest):D.sub (zaa x) 0 (some 1)=some (zaa x):=rfl
theorem zpg {cs:List V} {off:Nat} {r:List (Nat×Nat×V)} (x:Forest) (h:off+1≤cs.length):zca cs ((off,1,.d (zaa x))::r)=zca (splice cs off [.d (.list x.nodes.n (x.nodes.l.map zao))]) r:=zxK rfl (by decide) h
theorem zmQ (x:Forest):D.sub (zaa x) 0 none=some (.list x.nodes.n (x.nodes.l.map zao)):=rfl
attribute [go_sem] zpg zrm zrn zmQ
theorem Forest.of {d:D} (h:HasTy tyForest d):∃x:Forest,d=zaa x∧Forest.ok x:=by
 obtain⟨xs,rfl,hl,hx⟩:=h.agg_inv
 match xs,hl with
 |[x0],_=>
  obtain⟨y0,rfl,k0⟩:=(HasTy.sl_inv (fun _ h=>Node.of h)) (hx 0 _ _ rfl rfl)
  exact⟨⟨y0⟩,rfl,k0⟩
structure Assign where
 slot:Int
 nodes:Sl (Int)
 deriving DecidableEq,Inhabited
def Assign.zero:Assign:=⟨0,⟨true,[]⟩⟩
def zai (x:Assign):D:= .agg [.int .i64 x.slot,.list x.nodes.n (x.nodes.l.map (D.int .i64))]
def tyAssign:Ty:= .agg [.int .i64,.list (.int .i64)]
def Assign.ok (x:Assign):Prop:=(IntKind.i64.min≤x.slot∧x.slot≤IntKind.i64.max)∧Sl.ok (fun y=>(IntKind.i64.min≤y∧y≤IntKind.i64.max)) x.nodes
theorem zro (x:Assign):(zai x).cells.length=2:=Eq.trans rfl rfl
theorem zrp (x:Assign):D.sub (zai x) 0 (some 2)=some (zai x):=rfl
theorem zlm (x:Assign) (cs:List D) (h:cs.length=2):V.upd (.d (.agg cs)) 0 2 (.d (zai x))=some (.d (zai x)):=zif (by simpa using h) rfl (by decide) rfl
theorem zph (x:Assign):D.sub (zai x) 0 none=some (.int .i64 x.slot):=rfl
theorem zmR (x:Assign):D.sub (zai x) 1 none=some (.list x.nodes.n (x.nodes.l.map (D.int .i64))):=rfl
attribute [go_sem] zro zrp zlm zph zmR
theorem Assign.of {d:D} (h:HasTy tyAssign d):∃x:Assign,d=zai x∧Assign.ok x:=by
 obtain⟨xs,rfl,hl,hx⟩:=h.agg_inv
 match xs,hl with
 |[x0,x1],_=>
  obtain⟨y0,rfl,k0⟩:=HasTy.int_inv (hx 0 _ _ rfl rfl)
  obtain⟨y1,rfl,k1⟩:=(HasTy.sl_inv (fun _ h=>HasTy.int_inv h)) (hx 1 _ _ rfl rfl)
  exact⟨⟨y0,y1⟩,rfl,⟨k0,k1⟩⟩
structure Step where
 item:Int
 inShadow:Bool
 target:Int
 related:Int
 closed:Bool
 slot:Bool
 deriving DecidableEq,Inhabited
def Step.zero:Step:=⟨0,false,0,0,false,false⟩
def zaP (x:Step):D:= .agg [.int .i64 x.item,.bool x.inShadow,.int .i64 x.target,.int .i64 x.related,.bool x.closed,.bool x.slot]
def zFj:Ty:= .agg [.int .i64,.bool,.int .i64,.int .i64,.bool,.bool]
def Step.ok (x:Step):Prop:=(IntKind.i64.min≤x.item∧x.item≤IntKind.i64.max)∧True∧(IntKind.i64.min≤x.target∧x.target≤IntKind.i64.max)∧(IntKind.i64.min≤x.related∧x.related≤IntKind.i64.max)∧True∧True
theorem zzt (x:Step):(zaP x).cells.length=6:=Eq.trans rfl rfl
theorem zvo (x:Step):(V.d (zaP x)).cells.length=6:=Eq.trans rfl rfl
theorem zzu (x:Step):D.sub (zaP x) 0 (some 6)=some (zaP x):=rfl
theorem zvp (x:Step):D.sub (zaP x) 0 none=some (.int .i64 x.item):=rfl
theorem zln (x:Step):D.sub (zaP x) 1 none=some (.bool x.inShadow):=rfl
theorem zpi (x:Step):D.sub (zaP x) 2 none=some (.int .i64 x.target):=rfl
theorem zmS (x:Step):D.sub (zaP x) 3 none=some (.int .i64 x.related):=rfl
theorem zpj (x:Step):D.sub (zaP x) 4 none=some (.bool x.closed):=rfl
theorem zvq (x:Step):D.sub (zaP x) 5 none=some (.bool x.slot):=rfl
theorem zzv (x y:Step):binV .neq (.agg [.int,.bool,.int,.int,.bool,.bool]) (.d (zaP x)) (.d (zaP y))=some (.d (.bool (!decide (x=y)))):=by
 refine zFg ?_
 simp only[eqV,zaP,zaM,zbt,if_true,Option.bind_some,Option.map_some]
 congr 1
 rw[Bool.eq_iff_iff];rcases x with⟨a1,a2,a3,a4,a5,a6⟩;rcases y with⟨b1,b2,b3,b4,b5,b6⟩;simp[and_assoc]
attribute [go_sem] zzt zvo zzu zvp zln zpi zmS zpj zvq zzv
theorem Step.of {d:D} (h:HasTy zFj d):∃x:Step,d=zaP x∧Step.ok x:=by
 obtain⟨xs,rfl,hl,hx⟩:=h.agg_inv
 match xs,hl with
 |[x0,x1,x2,x3,x4,x5],_=>
  obtain⟨y0,rfl,k0⟩:=HasTy.int_inv (hx 0 _ _ rfl rfl)
  obtain⟨y1,rfl,k1⟩:=HasTy.bool_inv (hx 1 _ _ rfl rfl)
  obtain⟨y2,rfl,k2⟩:=HasTy.int_inv (hx 2 _ _ rfl rfl)
  obtain⟨y3,rfl,k3⟩:=HasTy.int_inv (hx 3 _ _ rfl rfl)
  obtain⟨y4,rfl,k4⟩:=HasTy.bool_inv (hx 4 _ _ rfl rfl)
  obtain⟨y5,rfl,k5⟩:=HasTy.bool_inv (hx 5 _ _ rfl rfl)
  exact⟨⟨y0,y1,y2,y3,y4,y5⟩,rfl,⟨k0,k1,k2,k3,k4,k5⟩⟩
structure path_walker where
 f:Forest
 hand:Sl (Assign)
 target:Int
 related:Int
 origin:Int
 composed:Bool
 steps:Sl (Step)
 deriving DecidableEq,Inhabited
def path_walker.zero:path_walker:=⟨Forest.zero,⟨true,[]⟩,0,0,0,false,⟨true,[]⟩⟩
def zbf (x:path_walker):D:= .agg [.list x.f.nodes.n (x.f.nodes.l.map zao),.list x.hand.n (x.hand.l.map zai),.int .i64 x.target,.int .i64 x.related,.int .i64 x.origin,.bool x.composed,.list x.steps.n (x.steps.l.map zaP)]
def zmT:Ty:= .agg [.list (zpa),.list (tyAssign),.int .i64,.int .i64,.int .i64,.bool,.list (zFj)]
def path_walker.ok (x:path_walker):Prop:=Forest.ok x.f∧Sl.ok (fun y=>Assign.ok y) x.hand∧(IntKind.i64.min≤x.target∧x.target≤IntKind.i64.max)∧(IntKind.i64.min≤x.related∧x.related≤IntKind.i64.max)∧(IntKind.i64.min≤x.origin∧x.origin≤IntKind.i64.max)∧True∧Sl.ok (fun y=>Step.ok y) x.steps
theorem zjv (x:path_walker):D.sub (zbf x) 0 (some 7)=some (zbf x):=rfl
theorem zlo (x:path_walker):D.sub (zbf x) 0 (some 1)=some (zaa x.f):=rfl
theorem zgx (x:path_walker):D.sub (zbf x) 0 none=some (.list x.f.nodes.n (x.f.nodes.l.map zao)):=rfl
theorem zit (x:path_walker):D.sub (zbf x) 1 none=some (.list x.hand.n (x.hand.l.map zai)):=rfl
theorem zgZ (x:path_walker):D.sub (zbf x) 2 none=some (.int .i64 x.target):=rfl
theorem zgy (x:path_walker):D.sub (zbf x) 3 none=some (.int .i64 x.related):=rfl
theorem zha (x:path_walker):D.sub (zbf x) 4 none=some (.int .i64 x.origin):=rfl
theorem zfD (x:path_walker):D.sub (zbf x) 5 none=some (.bool x.composed):=rfl
theorem zhB (x:path_walker):D.sub (zbf x) 6 none=some (.list x.steps.n (x.steps.l.map zaP)):=rfl
attribute [go_sem] zjv zlo zgx zit zgZ zgy zha zfD zhB
theorem path_walker.of {d:D} (h:HasTy zmT d):∃x:path_walker,d=zbf x∧path_walker.ok x:=by
 obtain⟨xs,rfl,hl,hx⟩:=h.agg_inv
 match xs,hl with
 |[x0,x1,x2,x3,x4,x5,x6],_=>
  obtain⟨y0,rfl,k0⟩:=(HasTy.sl_inv (fun _ h=>Node.of h)) (hx 0 _ _ rfl rfl)
  obtain⟨y1,rfl,k1⟩:=(HasTy.sl_inv (fun _ h=>Assign.of h)) (hx 1 _ _ rfl rfl)
  obtain⟨y2,rfl,k2⟩:=HasTy.int_inv (hx 2 _ _ rfl rfl)
  obtain⟨y3,rfl,k3⟩:=HasTy.int_inv (hx 3 _ _ rfl rfl)
  obtain⟨y4,rfl,k4⟩:=HasTy.int_inv (hx 4 _ _ rfl rfl)
  obtain⟨y5,rfl,k5⟩:=HasTy.bool_inv (hx 5 _ _ rfl rfl)
  obtain⟨y6,rfl,k6⟩:=(HasTy.sl_inv (fun _ h=>Step.of h)) (hx 6 _ _ rfl rfl)
  exact⟨⟨⟨y0⟩,y1,y2,y3,y4,y5,y6⟩,rfl,⟨k0,k1,k2,k3,k4,k5,k6⟩⟩
structure flat_view where
 f:Forest
 hand:Sl (Assign)
 deriving DecidableEq,Inhabited
def flat_view.zero:flat_view:=⟨Forest.zero,⟨true,[]⟩⟩
def zcw (x:flat_view):D:= .agg [.list x.f.nodes.n (x.f.nodes.l.map zao),.list x.hand.n (x.hand.l.map zai)]
def zrq:Ty:= .agg [.list (zpa),.list (tyAssign)]
def flat_view.ok (x:flat_view):Prop:=Forest.ok x.f∧Sl.ok (fun y=>Assign.ok y) x.hand
theorem zlp (x:flat_view):D.sub (zcw x) 0 (some 2)=some (zcw x):=rfl
theorem zpk (x:flat_view):D.sub (zcw x) 0 (some 1)=some (zaa x.f):=rfl
theorem zhC (x:flat_view):D.sub (zcw x) 0 none=some (.list x.f.nodes.n (x.f.nodes.l.map zao)):=rfl
theorem zkN (x:flat_view):D.sub (zcw x) 1 none=some (.list x.hand.n (x.hand.l.map zai)):=rfl
attribute [go_sem] zlp zpk zhC zkN
theorem flat_view.of {d:D} (h:HasTy zrq d):∃x:flat_view,d=zcw x∧flat_view.ok x:=by
 obtain⟨xs,rfl,hl,hx⟩:=h.agg_inv
 match xs,hl with
 |[x0,x1],_=>
  obtain⟨y0,rfl,k0⟩:=(HasTy.sl_inv (fun _ h=>Node.of h)) (hx 0 _ _ rfl rfl)
  obtain⟨y1,rfl,k1⟩:=(HasTy.sl_inv (fun _ h=>Assign.of h)) (hx 1 _ _ rfl rfl)
  exact⟨⟨⟨y0⟩,y1⟩,rfl,⟨k0,k1⟩⟩
structure path_level where
 current:Int
 least:Int
 deriving DecidableEq,Inhabited
def path_level.zero:path_level:=⟨0,0⟩
def zcp (x:path_level):D:= .agg [.int .i64 x.current,.int .i64 x.least]
def zpl:Ty:= .agg [.int .i64,.int .i64]
def path_level.ok (x:path_level):Prop:=(IntKind.i64.min≤x.current∧x.current≤IntKind.i64.max)∧(IntKind.i64.min≤x.least∧x.least≤IntKind.i64.max)
theorem zkO (x:path_level):D.sub (zcp x) 0 (some 2)=some (zcp x):=rfl
theorem zhb (x:path_level):D.sub (zcp x) 0 none=some (.int .i64 x.current):=rfl
theorem ziu (x:path_level):D.sub (zcp x) 1 none=some (.int .i64 x.least):=rfl
attribute [go_sem] zkO zhb ziu
theorem path_level.of {d:D} (h:HasTy zpl d):∃x:path_level,d=zcp x∧path_level.ok x:=by
 obtain⟨xs,rfl,hl,hx⟩:=h.agg_inv
 match xs,hl with
 |[x0,x1],_=>
  obtain⟨y0,rfl,k0⟩:=HasTy.int_inv (hx 0 _ _ rfl rfl)
  obtain⟨y1,rfl,k1⟩:=HasTy.int_inv (hx 1 _ _ rfl rfl)
  exact⟨⟨y0,y1⟩,rfl,⟨k0,k1⟩⟩
structure shadow_by where
 f:Forest
 hand:Sl (Assign)
 deriving DecidableEq,Inhabited
def shadow_by.zero:shadow_by:=⟨Forest.zero,⟨true,[]⟩⟩
def zaW (x:shadow_by):D:= .agg [.list x.f.nodes.n (x.f.nodes.l.map zao),.list x.hand.n (x.hand.l.map zai)]
def zrr:Ty:= .agg [.list (zpa),.list (tyAssign)]
def shadow_by.ok (x:shadow_by):Prop:=Forest.ok x.f∧Sl.ok (fun y=>Assign.ok y) x.hand
theorem zlq (x:shadow_by):(zaW x).cells.length=2:=Eq.trans rfl rfl
theorem zlr (x:shadow_by):D.sub (zaW x) 0 (some 2)=some (zaW x):=rfl
theorem zpm (x:shadow_by):D.sub (zaW x) 0 (some 1)=some (zaa x.f):=rfl
theorem zhD (x:shadow_by):D.sub (zaW x) 0 none=some (.list x.f.nodes.n (x.f.nodes.l.map zao)):=rfl
theorem zkP (x:shadow_by):D.sub (zaW x) 1 none=some (.list x.hand.n (x.hand.l.map zai)):=rfl
attribute [go_sem] zlq zlr zpm zhD zkP
theorem shadow_by.of {d:D} (h:HasTy zrr d):∃x:shadow_by,d=zaW x∧shadow_by.ok x:=by
 obtain⟨xs,rfl,hl,hx⟩:=h.agg_inv
 match xs,hl with
 |[x0,x1],_=>
  obtain⟨y0,rfl,k0⟩:=(HasTy.sl_inv (fun _ h=>Node.of h)) (hx 0 _ _ rfl rfl)
  obtain⟨y1,rfl,k1⟩:=(HasTy.sl_inv (fun _ h=>Assign.of h)) (hx 1 _ _ rfl rfl)
  exact⟨⟨⟨y0⟩,y1⟩,rfl,⟨k0,k1⟩⟩
structure forest_trait where
 known:Bool
 data:Bool
 kids:Bool
 hung:Bool
 full:Bool
 local_:Bool
 deriving DecidableEq,Inhabited
def forest_trait.zero:forest_trait:=⟨false,false,false,false,false,false⟩
def zaH (x:forest_trait):D:= .agg [.bool x.known,.bool x.data,.bool x.kids,.bool x.hung,.bool x.full,.bool x.local_]
def zls:Ty:= .agg [.bool,.bool,.bool,.bool,.bool,.bool]
def forest_trait.ok (x:forest_trait):Prop:=True∧True∧True∧True∧True∧True
theorem ziv (x:forest_trait):(zaH x).cells.length=6:=Eq.trans rfl rfl
theorem ziw (x:forest_trait):D.sub (zaH x) 0 (some 6)=some (zaH x):=rfl
theorem zgz (x:forest_trait) (cs:List D) (h:cs.length=6):V.upd (.d (.agg cs)) 0 6 (.d (zaH x))=some (.d (zaH x)):=zif (by simpa using h) rfl (by decide) rfl
theorem zhc (x:forest_trait):D.sub (zaH x) 0 none=some (.bool x.known):=rfl
theorem zhE (x:forest_trait):D.sub (zaH x) 1 none=some (.bool x.data):=rfl
theorem zhF (x:forest_trait):D.sub (zaH x) 2 none=some (.bool x.kids):=rfl
theorem zhG (x:forest_trait):D.sub (zaH x) 3 none=some (.bool x.hung):=rfl
theorem zhH (x:forest_trait):D.sub (zaH x) 4 none=some (.bool x.full):=rfl
theorem zgA (x:forest_trait):D.sub (zaH x) 5 none=some (.bool x.local_):=rfl
attribute [go_sem] ziv ziw zgz zhc zhE zhF zhG zhH zgA
theorem forest_trait.of {d:D} (h:HasTy zls d):∃x:forest_trait,d=zaH x∧forest_trait.ok x:=by
 obtain⟨xs,rfl,hl,hx⟩:=h.agg_inv
 match xs,hl with
 |[x0,x1,x2,x3,x4,x5],_=>
  obtain⟨y0,rfl,k0⟩:=HasTy.bool_inv (hx 0 _ _ rfl rfl)
  obtain⟨y1,rfl,k1⟩:=HasTy.bool_inv (hx 1 _ _ rfl rfl)
  obtain⟨y2,rfl,k2⟩:=HasTy.bool_inv (hx 2 _ _ rfl rfl)
  obtain⟨y3,rfl,k3⟩:=HasTy.bool_inv (hx 3 _ _ rfl rfl)
  obtain⟨y4,rfl,k4⟩:=HasTy.bool_inv (hx 4 _ _ rfl rfl)
  obtain⟨y5,rfl,k5⟩:=HasTy.bool_inv (hx 5 _ _ rfl rfl)
  exact⟨⟨y0,y1,y2,y3,y4,y5⟩,rfl,⟨k0,k1,k2,k3,k4,k5⟩⟩
structure forest_key where
 space:List UInt8
 local_:List UInt8
 deriving DecidableEq,Inhabited
def forest_key.zero:forest_key:=⟨[],[]⟩
def zaq (x:forest_key):D:= .agg [.str x.space,.str x.local_]
def zpn:Ty:= .agg [.str,.str]
def forest_key.ok (x:forest_key):Prop:=x.space.length≤maxLen∧x.local_.length≤maxLen
theorem zkQ (x:forest_key):D.sub (zaq x) 0 (some 2)=some (zaq x):=rfl
theorem zhI (x:forest_key) (cs:List D) (h:cs.length=2):V.upd (.d (.agg cs)) 0 2 (.d (zaq x))=some (.d (zaq x)):=zif (by simpa using h) rfl (by decide) rfl
theorem zix (x:forest_key):D.sub (zaq x) 0 none=some (.str x.space):=rfl
theorem zhJ (x:forest_key):D.sub (zaq x) 1 none=some (.str x.local_):=rfl
theorem zat:Keyed [.str,.str] zaq:=by
 intro x y
 simp only[zeV,zaq,D.isAgg,D.cells,zaM,zbt,if_true,Option.bind_some,Option.map_some]
 rw[if_pos ⟨rfl,rfl⟩]
 congr 1
 rw[Bool.eq_iff_iff];rcases x with⟨a1,a2⟩;rcases y with⟨b1,b2⟩;simp[and_assoc]
attribute [go_sem] zkQ zhI zix zhJ
theorem forest_key.of {d:D} (h:HasTy zpn d):∃x:forest_key,d=zaq x∧forest_key.ok x:=by
 obtain⟨xs,rfl,hl,hx⟩:=h.agg_inv
 match xs,hl with
 |[x0,x1],_=>
  obtain⟨y0,rfl,k0⟩:=HasTy.str_inv (hx 0 _ _ rfl rfl)
  obtain⟨y1,rfl,k1⟩:=HasTy.str_inv (hx 1 _ _ rfl rfl)
  exact⟨⟨y0,y1⟩,rfl,⟨k0,k1⟩⟩
end Go.Proofs.YthodcjjgimeeoaaGreat.P
