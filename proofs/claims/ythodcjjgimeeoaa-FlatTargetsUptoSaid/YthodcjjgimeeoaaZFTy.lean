/- Shaken copy of a longer text: what one law needs. Its conditions: none. -/
import Derived.Test.YthodcjjgimeeoaaZAiE
set_option linter.unusedSimpArgs false
set_option linter.unusedVariables false
namespace Go.Proofs.Ythodcjjgimeeoaa.F
open Go.AI
structure Name where
 space:List UInt8
 prefix_:List UInt8
 local_:List UInt8
 deriving DecidableEq,Inhabited
def Name.zero:Name:=⟨[],[],[]⟩
def zbL (x:Name):D:= .agg [.str x.space,.str x.prefix_,.str x.local_]
def zFz:Ty:= .agg [.str,.str,.str]
def Name.ok (x:Name):Prop:=x.space.length≤maxLen∧x.prefix_.length≤maxLen∧x.local_.length≤maxLen
theorem zvd (x:Name):(zbL x).cells.length=3:=Eq.trans rfl rfl
theorem zve (x:Name):D.sub (zbL x) 0 (some 3)=some (zbL x):=rfl
theorem znW (x:Name):D.sub (zbL x) 0 none=some (.str x.space):=rfl
theorem zkz (x:Name):D.sub (zbL x) 1 none=some (.str x.prefix_):=rfl
theorem zmh (x:Name):D.sub (zbL x) 2 none=some (.str x.local_):=rfl
theorem zmi (x y:Name):binV .eql (.agg [.str,.str,.str]) (.d (zbL x)) (.d (zbL y))=some (.d (.bool (decide (x=y)))):=by
 refine zEt ?_
 simp only[eqV,zbL,zaE,zbh,if_true,Option.bind_some,Option.map_some]
 congr 1
 rw[Bool.eq_iff_iff];rcases x with⟨a1,a2,a3⟩;rcases y with⟨b1,b2,b3⟩;simp[and_assoc]
theorem zrs (x:Name) (y0:List UInt8) (y1:List UInt8) (y2:List UInt8):binV .eql (.agg [.str,.str,.str]) (.d (zbL x)) (.d (.agg [.str y0,.str y1,.str y2]))=some (.d (.bool (decide (x=⟨y0,y1,y2⟩)))):=zmi x ⟨y0,y1,y2⟩
theorem zmj (x y:Name):binV .neq (.agg [.str,.str,.str]) (.d (zbL x)) (.d (zbL y))=some (.d (.bool (!decide (x=y)))):=by
 refine zEu ?_
 simp only[eqV,zbL,zaE,zbh,if_true,Option.bind_some,Option.map_some]
 congr 1
 rw[Bool.eq_iff_iff];rcases x with⟨a1,a2,a3⟩;rcases y with⟨b1,b2,b3⟩;simp[and_assoc]
theorem zrt (x:Name) (y0:List UInt8) (y1:List UInt8) (y2:List UInt8):binV .neq (.agg [.str,.str,.str]) (.d (zbL x)) (.d (.agg [.str y0,.str y1,.str y2]))=some (.d (.bool (!decide (x=⟨y0,y1,y2⟩)))):=zmj x ⟨y0,y1,y2⟩
attribute [go_sem] zvd zve znW zkz zmh zmi zrs zmj zrt
theorem Name.of {d:D} (h:HasTy zFz d):∃x:Name,d=zbL x∧Name.ok x:=by
 obtain⟨xs,rfl,hl,hx⟩:=h.agg_inv
 match xs,hl with
 |[x0,x1,x2],_=>
  obtain⟨y0,rfl,k0⟩:=HasTy.str_inv (hx 0 _ _ rfl rfl)
  obtain⟨y1,rfl,k1⟩:=HasTy.str_inv (hx 1 _ _ rfl rfl)
  obtain⟨y2,rfl,k2⟩:=HasTy.str_inv (hx 2 _ _ rfl rfl)
  exact⟨⟨y0,y1,y2⟩,rfl,⟨k0,k1,k2⟩⟩
structure Attr where
 name:Name
 value:List UInt8
 deriving DecidableEq,Inhabited
def Attr.zero:Attr:=⟨Name.zero,[]⟩
def zaH (x:Attr):D:= .agg [.str x.name.space,.str x.name.prefix_,.str x.name.local_,.str x.value]
def zzM:Ty:= .agg [.str,.str,.str,.str]
def Attr.ok (x:Attr):Prop:=Name.ok x.name∧x.value.length≤maxLen
theorem zvf (x:Attr):(zaH x).cells.length=4:=Eq.trans rfl rfl
theorem zvg (x:Attr):D.sub (zaH x) 0 (some 4)=some (zaH x):=rfl
theorem zmk (x:Attr) (cs:List D) (h:cs.length=4):V.upd (.d (.agg cs)) 0 4 (.d (zaH x))=some (.d (zaH x)):=ziw (by simpa using h) rfl (by decide) rfl
theorem zru (x:Attr):D.sub (zaH x) 0 (some 3)=some (zbL x.name):=rfl
theorem zhx (x:Attr):D.sub (zaH x) 0 none=some (.str x.name.space):=rfl
theorem zfW (x:Attr):D.sub (zaH x) 1 none=some (.str x.name.prefix_):=rfl
theorem zgH (x:Attr):D.sub (zaH x) 2 none=some (.str x.name.local_):=rfl
theorem znX (x:Attr):D.sub (zaH x) 3 none=some (.str x.value):=rfl
attribute [go_sem] zvf zvg zmk zru zhx zfW zgH znX
theorem Attr.of {d:D} (h:HasTy zzM d):∃x:Attr,d=zaH x∧Attr.ok x:=by
 obtain⟨xs,rfl,hl,hx⟩:=h.agg_inv
 match xs,hl with
 |[x0,x1,x2,x3],_=>
  obtain⟨y0,rfl,k0⟩:=HasTy.str_inv (hx 0 _ _ rfl rfl)
  obtain⟨y1,rfl,k1⟩:=HasTy.str_inv (hx 1 _ _ rfl rfl)
  obtain⟨y2,rfl,k2⟩:=HasTy.str_inv (hx 2 _ _ rfl rfl)
  obtain⟨y3,rfl,k3⟩:=HasTy.str_inv (hx 3 _ _ rfl rfl)
  exact⟨⟨⟨y0,y1,y2⟩,y3⟩,rfl,⟨⟨k0,k1,k2⟩,k3⟩⟩
structure Node where
 kind:Int
 name:Name
 public_:List UInt8
 system:List UInt8
 data:Sl (Int)
 attrs:Sl (Attr)
 parent:Int
 kids:Sl (Int)
 doc:Int
 host:Int
 shadow:Int
 mode:Int
 manual:Bool
 hTML:Bool
 deriving DecidableEq,Inhabited
def Node.zero:Node:=⟨0,Name.zero,[],[],⟨true,[]⟩,⟨true,[]⟩,0,⟨true,[]⟩,0,0,0,0,false,false⟩
def zah (x:Node):D:= .agg [.int .u8 x.kind,.str x.name.space,.str x.name.prefix_,.str x.name.local_,.str x.public_,.str x.system,.list x.data.n (x.data.l.map (D.int .u16)),.list x.attrs.n (x.attrs.l.map zaH),.int .i64 x.parent,.list x.kids.n (x.kids.l.map (D.int .i64)),.int .i64 x.doc,.int .i64 x.host,.int .i64 x.shadow,.int .u8 x.mode,.bool x.manual,.bool x.hTML]
def zjO:Ty:= .agg [.int .u8,.str,.str,.str,.str,.str,.list (.int .u16),.list (zzM),.int .i64,.list (.int .i64),.int .i64,.int .i64,.int .i64,.int .u8,.bool,.bool]
def Node.ok (x:Node):Prop:=(IntKind.u8.min≤x.kind∧x.kind≤IntKind.u8.max)∧Name.ok x.name∧x.public_.length≤maxLen∧x.system.length≤maxLen∧Sl.ok (fun y=>(IntKind.u16.min≤y∧y≤IntKind.u16.max)) x.data∧Sl.ok (fun y=>Attr.ok y) x.attrs∧(IntKind.i64.min≤x.parent∧x.parent≤IntKind.i64.max)∧Sl.ok (fun y=>(IntKind.i64.min≤y∧y≤IntKind.i64.max)) x.kids∧(IntKind.i64.min≤x.doc∧x.doc≤IntKind.i64.max)∧(IntKind.i64.min≤x.host∧x.host≤IntKind.i64.max)∧(IntKind.i64.min≤x.shadow∧x.shadow≤IntKind.i64.max)∧(IntKind.u8.min≤x.mode∧x.mode≤IntKind.u8.max)∧True∧True
theorem zvh (x:Node):(zah x).cells.length=16:=Eq.trans rfl rfl
theorem zvi (x:Node):D.sub (zah x) 0 (some 16)=some (zah x):=rfl
theorem zvj (x:Node) (i:Nat) (m:Option Nat):V.fld i m (.d (zah x))=(D.sub (zah x) i m).map .d:=zAa _ _ _
theorem zml (x:Node) (cs:List D) (h:cs.length=16):V.upd (.d (.agg cs)) 0 16 (.d (zah x))=some (.d (zah x)):=ziw (by simpa using h) rfl (by decide) rfl
theorem zrv (x:Node):D.sub (zah x) 0 none=some (.int .u8 x.kind):=rfl
theorem zrw (x:Node):D.sub (zah x) 1 (some 3)=some (zbL x.name):=rfl
theorem zhy (x:Node):D.sub (zah x) 1 none=some (.str x.name.space):=rfl
theorem zfX (x:Node):D.sub (zah x) 2 none=some (.str x.name.prefix_):=rfl
theorem zgI (x:Node):D.sub (zah x) 3 none=some (.str x.name.local_):=rfl
theorem zkA (x:Node):D.sub (zah x) 4 none=some (.str x.public_):=rfl
theorem zmm (x:Node):D.sub (zah x) 5 none=some (.str x.system):=rfl
theorem zrx (x:Node):D.sub (zah x) 6 none=some (.list x.data.n (x.data.l.map (D.int .u16))):=rfl
theorem znY (x:Node):D.sub (zah x) 7 none=some (.list x.attrs.n (x.attrs.l.map zaH)):=rfl
theorem zmn (x:Node):D.sub (zah x) 8 none=some (.int .i64 x.parent):=rfl
theorem zry (x:Node):D.sub (zah x) 9 none=some (.list x.kids.n (x.kids.l.map (D.int .i64))):=rfl
theorem zvk (x:Node):D.sub (zah x) 10 none=some (.int .i64 x.doc):=rfl
theorem zrz (x:Node):D.sub (zah x) 11 none=some (.int .i64 x.host):=rfl
theorem zmo (x:Node):D.sub (zah x) 12 none=some (.int .i64 x.shadow):=rfl
theorem zrA (x:Node):D.sub (zah x) 13 none=some (.int .u8 x.mode):=rfl
theorem zmp (x:Node):D.sub (zah x) 14 none=some (.bool x.manual):=rfl
theorem zrB (x:Node):D.sub (zah x) 15 none=some (.bool x.hTML):=rfl
attribute [go_sem] zvh zvi zvj zml zrv zrw zhy zfX zgI zkA zmm zrx znY zmn zry zvk zrz zmo zrA zmp zrB
theorem Node.of {d:D} (h:HasTy zjO d):∃x:Node,d=zah x∧Node.ok x:=by
 obtain⟨xs,rfl,hl,hx⟩:=h.agg_inv
 match xs,hl with
 |[x0,x1,x2,x3,x4,x5,x6,x7,x8,x9,x10,x11,x12,x13,x14,x15],_=>
  obtain⟨y0,rfl,k0⟩:=HasTy.int_inv (hx 0 _ _ rfl rfl)
  obtain⟨y1,rfl,k1⟩:=HasTy.str_inv (hx 1 _ _ rfl rfl)
  obtain⟨y2,rfl,k2⟩:=HasTy.str_inv (hx 2 _ _ rfl rfl)
  obtain⟨y3,rfl,k3⟩:=HasTy.str_inv (hx 3 _ _ rfl rfl)
  obtain⟨y4,rfl,k4⟩:=HasTy.str_inv (hx 4 _ _ rfl rfl)
  obtain⟨y5,rfl,k5⟩:=HasTy.str_inv (hx 5 _ _ rfl rfl)
  obtain⟨y6,rfl,k6⟩:=(HasTy.sl_inv (fun _ h=>HasTy.int_inv h)) (hx 6 _ _ rfl rfl)
  obtain⟨y7,rfl,k7⟩:=(HasTy.sl_inv (fun _ h=>Attr.of h)) (hx 7 _ _ rfl rfl)
  obtain⟨y8,rfl,k8⟩:=HasTy.int_inv (hx 8 _ _ rfl rfl)
  obtain⟨y9,rfl,k9⟩:=(HasTy.sl_inv (fun _ h=>HasTy.int_inv h)) (hx 9 _ _ rfl rfl)
  obtain⟨y10,rfl,k10⟩:=HasTy.int_inv (hx 10 _ _ rfl rfl)
  obtain⟨y11,rfl,k11⟩:=HasTy.int_inv (hx 11 _ _ rfl rfl)
  obtain⟨y12,rfl,k12⟩:=HasTy.int_inv (hx 12 _ _ rfl rfl)
  obtain⟨y13,rfl,k13⟩:=HasTy.int_inv (hx 13 _ _ rfl rfl)
  obtain⟨y14,rfl,k14⟩:=HasTy.bool_inv (hx 14 _ _ rfl rfl)
  obtain⟨y15,rfl,k15⟩:=HasTy.bool_inv (hx 15 _ _ rfl rfl)
  exact⟨⟨y0,⟨y1,y2,y3⟩,y4,y5,y6,y7,y8,y9,y10,y11,y12,y13,y14,y15⟩,rfl,⟨k0,⟨k1,k2,k3⟩,k4,k5,k6,k7,k8,k9,k10,k11,k12,k13,k14,k15⟩⟩
structure Forest where
 nodes:Sl (Node)
 deriving DecidableEq,Inhabited
def Forest.zero:Forest:=⟨⟨true,[]⟩⟩
def zai (x:Forest):D:= .agg [.list x.nodes.n (x.nodes.l.map zah)]
def tyForest:Ty:= .agg [.list (zjO)]
def Forest.ok (x:Forest):Prop:=Sl.ok (fun y=>Node.ok y) x.nodes
theorem znZ (x:Forest):(zai x).cells.length=1:=Eq.trans rfl rfl
theorem zoa (x:Forest):D.sub (zai x) 0 (some 1)=some (zai x):=rfl
theorem zkB (x:Forest):D.sub (zai x) 0 none=some (.list x.nodes.n (x.nodes.l.map zah)):=rfl
attribute [go_sem] znZ zoa zkB
theorem Forest.of {d:D} (h:HasTy tyForest d):∃x:Forest,d=zai x∧Forest.ok x:=by
 obtain⟨xs,rfl,hl,hx⟩:=h.agg_inv
 match xs,hl with
 |[x0],_=>
  obtain⟨y0,rfl,k0⟩:=(HasTy.sl_inv (fun _ h=>Node.of h)) (hx 0 _ _ rfl rfl)
  exact⟨⟨y0⟩,rfl,k0⟩
structure Rule where
 kind:Int
 local_:List UInt8
 verdict:Int
 deriving DecidableEq,Inhabited
def Rule.zero:Rule:=⟨0,[],0⟩
def zfY (x:Rule):D:= .agg [.int .u8 x.kind,.str x.local_,.int .u8 x.verdict]
def zpr:Ty:= .agg [.int .u8,.str,.int .u8]
def Rule.ok (x:Rule):Prop:=(IntKind.u8.min≤x.kind∧x.kind≤IntKind.u8.max)∧x.local_.length≤maxLen∧(IntKind.u8.min≤x.verdict∧x.verdict≤IntKind.u8.max)
theorem zvl (x:Rule):D.sub (zfY x) 0 (some 3)=some (zfY x):=rfl
theorem zrC (x:Rule):D.sub (zfY x) 0 none=some (.int .u8 x.kind):=rfl
theorem zmq (x:Rule):D.sub (zfY x) 1 none=some (.str x.local_):=rfl
theorem zkC (x:Rule):D.sub (zfY x) 2 none=some (.int .u8 x.verdict):=rfl
attribute [go_sem] zvl zrC zmq zkC
theorem Rule.of {d:D} (h:HasTy zpr d):∃x:Rule,d=zfY x∧Rule.ok x:=by
 obtain⟨xs,rfl,hl,hx⟩:=h.agg_inv
 match xs,hl with
 |[x0,x1,x2],_=>
  obtain⟨y0,rfl,k0⟩:=HasTy.int_inv (hx 0 _ _ rfl rfl)
  obtain⟨y1,rfl,k1⟩:=HasTy.str_inv (hx 1 _ _ rfl rfl)
  obtain⟨y2,rfl,k2⟩:=HasTy.int_inv (hx 2 _ _ rfl rfl)
  exact⟨⟨y0,y1,y2⟩,rfl,⟨k0,k1,k2⟩⟩
structure Filter where
 show_:Int
 rules:Sl (Rule)
 deriving DecidableEq,Inhabited
def Filter.zero:Filter:=⟨0,⟨true,[]⟩⟩
def zdZ (x:Filter):D:= .agg [.int .u32 x.show_,.list x.rules.n (x.rules.l.map zfY)]
def zyY:Ty:= .agg [.int .u32,.list (zpr)]
def Filter.ok (x:Filter):Prop:=(IntKind.u32.min≤x.show_∧x.show_≤IntKind.u32.max)∧Sl.ok (fun y=>Rule.ok y) x.rules
theorem zob (x:Filter):D.sub (zdZ x) 0 (some 2)=some (zdZ x):=rfl
theorem zkD (x:Filter):D.sub (zdZ x) 0 none=some (.int .u32 x.show_):=rfl
theorem zkE (x:Filter):D.sub (zdZ x) 1 none=some (.list x.rules.n (x.rules.l.map zfY)):=rfl
attribute [go_sem] zob zkD zkE
theorem Filter.of {d:D} (h:HasTy zyY d):∃x:Filter,d=zdZ x∧Filter.ok x:=by
 obtain⟨xs,rfl,hl,hx⟩:=h.agg_inv
 match xs,hl with
 |[x0,x1],_=>
  obtain⟨y0,rfl,k0⟩:=HasTy.int_inv (hx 0 _ _ rfl rfl)
  obtain⟨y1,rfl,k1⟩:=(HasTy.sl_inv (fun _ h=>Rule.of h)) (hx 1 _ _ rfl rfl)
  exact⟨⟨y0,y1⟩,rfl,⟨k0,k1⟩⟩
structure Walker where
 root:Int
 current:Int
 filter:Filter
 deriving DecidableEq,Inhabited
def Walker.zero:Walker:=⟨0,0,Filter.zero⟩
def zcY (x:Walker):D:= .agg [.int .i64 x.root,.int .i64 x.current,.int .u32 x.filter.show_,.list x.filter.rules.n (x.filter.rules.l.map zfY)]
def zyZ:Ty:= .agg [.int .i64,.int .i64,.int .u32,.list (zpr)]
def Walker.ok (x:Walker):Prop:=(IntKind.i64.min≤x.root∧x.root≤IntKind.i64.max)∧(IntKind.i64.min≤x.current∧x.current≤IntKind.i64.max)∧Filter.ok x.filter
theorem zoc (x:Walker):D.sub (zcY x) 0 (some 4)=some (zcY x):=rfl
theorem zmr (x:Walker):D.sub (zcY x) 0 none=some (.int .i64 x.root):=rfl
theorem ziK (x:Walker):D.sub (zcY x) 1 none=some (.int .i64 x.current):=rfl
theorem zjf (x:Walker):D.sub (zcY x) 2 (some 2)=some (zdZ x.filter):=rfl
theorem zeW (x:Walker):D.sub (zcY x) 2 none=some (.int .u32 x.filter.show_):=rfl
theorem zeX (x:Walker):D.sub (zcY x) 3 none=some (.list x.filter.rules.n (x.filter.rules.l.map zfY)):=rfl
attribute [go_sem] zoc zmr ziK zjf zeW zeX
theorem Walker.of {d:D} (h:HasTy zyZ d):∃x:Walker,d=zcY x∧Walker.ok x:=by
 obtain⟨xs,rfl,hl,hx⟩:=h.agg_inv
 match xs,hl with
 |[x0,x1,x2,x3],_=>
  obtain⟨y0,rfl,k0⟩:=HasTy.int_inv (hx 0 _ _ rfl rfl)
  obtain⟨y1,rfl,k1⟩:=HasTy.int_inv (hx 1 _ _ rfl rfl)
  obtain⟨y2,rfl,k2⟩:=HasTy.int_inv (hx 2 _ _ rfl rfl)
  obtain⟨y3,rfl,k3⟩:=(HasTy.sl_inv (fun _ h=>Rule.of h)) (hx 3 _ _ rfl rfl)
  exact⟨⟨y0,y1,⟨y2,y3⟩⟩,rfl,⟨k0,k1,⟨k2,k3⟩⟩⟩
structure Step where
 item:Int
 inShadow:Bool
 target:Int
 related:Int
 closed:Bool
 slot:Bool
 deriving DecidableEq,Inhabited
def Step.zero:Step:=⟨0,false,0,0,false,false⟩
def zgJ (x:Step):D:= .agg [.int .i64 x.item,.bool x.inShadow,.int .i64 x.target,.int .i64 x.related,.bool x.closed,.bool x.slot]
def zzN:Ty:= .agg [.int .i64,.bool,.int .i64,.int .i64,.bool,.bool]
def Step.ok (x:Step):Prop:=(IntKind.i64.min≤x.item∧x.item≤IntKind.i64.max)∧True∧(IntKind.i64.min≤x.target∧x.target≤IntKind.i64.max)∧(IntKind.i64.min≤x.related∧x.related≤IntKind.i64.max)∧True∧True
theorem zvm (x:Step):D.sub (zgJ x) 0 (some 6)=some (zgJ x):=rfl
theorem zrD (x:Step):D.sub (zgJ x) 0 none=some (.int .i64 x.item):=rfl
theorem zjg (x:Step):D.sub (zgJ x) 1 none=some (.bool x.inShadow):=rfl
theorem zms (x:Step):D.sub (zgJ x) 2 none=some (.int .i64 x.target):=rfl
theorem zkF (x:Step):D.sub (zgJ x) 3 none=some (.int .i64 x.related):=rfl
theorem zmt (x:Step):D.sub (zgJ x) 4 none=some (.bool x.closed):=rfl
theorem zrE (x:Step):D.sub (zgJ x) 5 none=some (.bool x.slot):=rfl
attribute [go_sem] zvm zrD zjg zms zkF zmt zrE
theorem Step.of {d:D} (h:HasTy zzN d):∃x:Step,d=zgJ x∧Step.ok x:=by
 obtain⟨xs,rfl,hl,hx⟩:=h.agg_inv
 match xs,hl with
 |[x0,x1,x2,x3,x4,x5],_=>
  obtain⟨y0,rfl,k0⟩:=HasTy.int_inv (hx 0 _ _ rfl rfl)
  obtain⟨y1,rfl,k1⟩:=HasTy.bool_inv (hx 1 _ _ rfl rfl)
  obtain⟨y2,rfl,k2⟩:=HasTy.int_inv (hx 2 _ _ rfl rfl)
  obtain⟨y3,rfl,k3⟩:=HasTy.int_inv (hx 3 _ _ rfl rfl)
  obtain⟨y4,rfl,k4⟩:=HasTy.bool_inv (hx 4 _ _ rfl rfl)
  obtain⟨y5,rfl,k5⟩:=HasTy.bool_inv (hx 5 _ _ rfl rfl)
  exact⟨⟨y0,y1,y2,y3,y4,y5⟩,rfl,⟨k0,k1,k2,k3,k4,k5⟩⟩
structure walk_walk where
 f:Forest
 walker:Walker
 deriving DecidableEq,Inhabited
def walk_walk.zero:walk_walk:=⟨Forest.zero,Walker.zero⟩
def zbf (x:walk_walk):D:= .agg [.list x.f.nodes.n (x.f.nodes.l.map zah),.int .i64 x.walker.root,.int .i64 x.walker.current,.int .u32 x.walker.filter.show_,.list x.walker.filter.rules.n (x.walker.filter.rules.l.map zfY)]
def zod:Ty:= .agg [.list (zjO),.int .i64,.int .i64,.int .u32,.list (zpr)]
def walk_walk.ok (x:walk_walk):Prop:=Forest.ok x.f∧Walker.ok x.walker
theorem zjh (x:walk_walk):D.sub (zbf x) 0 (some 5)=some (zbf x):=rfl
theorem zmu (x:walk_walk):D.sub (zbf x) 0 (some 1)=some (zai x.f):=rfl
theorem zfZ (x:walk_walk):D.sub (zbf x) 0 none=some (.list x.f.nodes.n (x.f.nodes.l.map zah)):=rfl
theorem zgK (x:walk_walk):D.sub (zbf x) 1 (some 4)=some (zcY x.walker):=rfl
theorem zed (x:walk_walk):D.sub (zbf x) 1 none=some (.int .i64 x.walker.root):=rfl
theorem zdw (x:walk_walk):D.sub (zbf x) 2 none=some (.int .i64 x.walker.current):=rfl
theorem zdH (x:walk_walk):D.sub (zbf x) 3 (some 2)=some (zdZ x.walker.filter):=rfl
theorem zcy (x:walk_walk):D.sub (zbf x) 3 none=some (.int .u32 x.walker.filter.show_):=rfl
theorem zcz (x:walk_walk):D.sub (zbf x) 4 none=some (.list x.walker.filter.rules.n (x.walker.filter.rules.l.map zfY)):=rfl
attribute [go_sem] zjh zmu zfZ zgK zed zdw zdH zcy zcz
theorem walk_walk.of {d:D} (h:HasTy zod d):∃x:walk_walk,d=zbf x∧walk_walk.ok x:=by
 obtain⟨xs,rfl,hl,hx⟩:=h.agg_inv
 match xs,hl with
 |[x0,x1,x2,x3,x4],_=>
  obtain⟨y0,rfl,k0⟩:=(HasTy.sl_inv (fun _ h=>Node.of h)) (hx 0 _ _ rfl rfl)
  obtain⟨y1,rfl,k1⟩:=HasTy.int_inv (hx 1 _ _ rfl rfl)
  obtain⟨y2,rfl,k2⟩:=HasTy.int_inv (hx 2 _ _ rfl rfl)
  obtain⟨y3,rfl,k3⟩:=HasTy.int_inv (hx 3 _ _ rfl rfl)
  obtain⟨y4,rfl,k4⟩:=(HasTy.sl_inv (fun _ h=>Rule.of h)) (hx 4 _ _ rfl rfl)
  exact⟨⟨⟨y0⟩,⟨y1,y2,⟨y3,y4⟩⟩⟩,rfl,⟨k0,⟨k1,k2,⟨k3,k4⟩⟩⟩⟩
structure path_level where
 current:Int
 least:Int
 deriving DecidableEq,Inhabited
def path_level.zero:path_level:=⟨0,0⟩
def zbW (x:path_level):D:= .agg [.int .i64 x.current,.int .i64 x.least]
def zmv:Ty:= .agg [.int .i64,.int .i64]
def path_level.ok (x:path_level):Prop:=(IntKind.i64.min≤x.current∧x.current≤IntKind.i64.max)∧(IntKind.i64.min≤x.least∧x.least≤IntKind.i64.max)
theorem ziL (x:path_level):D.sub (zbW x) 0 (some 2)=some (zbW x):=rfl
theorem zfx (x:path_level):D.sub (zbW x) 0 none=some (.int .i64 x.current):=rfl
theorem zgL (x:path_level):D.sub (zbW x) 1 none=some (.int .i64 x.least):=rfl
attribute [go_sem] ziL zfx zgL
theorem path_level.of {d:D} (h:HasTy zmv d):∃x:path_level,d=zbW x∧path_level.ok x:=by
 obtain⟨xs,rfl,hl,hx⟩:=h.agg_inv
 match xs,hl with
 |[x0,x1],_=>
  obtain⟨y0,rfl,k0⟩:=HasTy.int_inv (hx 0 _ _ rfl rfl)
  obtain⟨y1,rfl,k1⟩:=HasTy.int_inv (hx 1 _ _ rfl rfl)
  exact⟨⟨y0,y1⟩,rfl,⟨k0,k1⟩⟩
structure Assign where
 slot:Int
 nodes:Sl (Int)
 deriving DecidableEq,Inhabited
def Assign.zero:Assign:=⟨0,⟨true,[]⟩⟩
def zcs (x:Assign):D:= .agg [.int .i64 x.slot,.list x.nodes.n (x.nodes.l.map (D.int .i64))]
def zhM:Ty:= .agg [.int .i64,.list (.int .i64)]
def Assign.ok (x:Assign):Prop:=(IntKind.i64.min≤x.slot∧x.slot≤IntKind.i64.max)∧Sl.ok (fun y=>(IntKind.i64.min≤y∧y≤IntKind.i64.max)) x.nodes
theorem zoe (x:Assign):D.sub (zcs x) 0 (some 2)=some (zcs x):=rfl
theorem zmw (x:Assign):D.sub (zcs x) 0 none=some (.int .i64 x.slot):=rfl
theorem zkG (x:Assign):D.sub (zcs x) 1 none=some (.list x.nodes.n (x.nodes.l.map (D.int .i64))):=rfl
attribute [go_sem] zoe zmw zkG
theorem Assign.of {d:D} (h:HasTy zhM d):∃x:Assign,d=zcs x∧Assign.ok x:=by
 obtain⟨xs,rfl,hl,hx⟩:=h.agg_inv
 match xs,hl with
 |[x0,x1],_=>
  obtain⟨y0,rfl,k0⟩:=HasTy.int_inv (hx 0 _ _ rfl rfl)
  obtain⟨y1,rfl,k1⟩:=(HasTy.sl_inv (fun _ h=>HasTy.int_inv h)) (hx 1 _ _ rfl rfl)
  exact⟨⟨y0,y1⟩,rfl,⟨k0,k1⟩⟩
structure path_walker where
 f:Forest
 hand:Sl (Assign)
 target:Int
 related:Int
 origin:Int
 composed:Bool
 steps:Sl (Step)
 deriving DecidableEq,Inhabited
def path_walker.zero:path_walker:=⟨Forest.zero,⟨true,[]⟩,0,0,0,false,⟨true,[]⟩⟩
def zaQ (x:path_walker):D:= .agg [.list x.f.nodes.n (x.f.nodes.l.map zah),.list x.hand.n (x.hand.l.map zcs),.int .i64 x.target,.int .i64 x.related,.int .i64 x.origin,.bool x.composed,.list x.steps.n (x.steps.l.map zgJ)]
def zkH:Ty:= .agg [.list (zjO),.list (zhM),.int .i64,.int .i64,.int .i64,.bool,.list (zzN)]
def path_walker.ok (x:path_walker):Prop:=Forest.ok x.f∧Sl.ok (fun y=>Assign.ok y) x.hand∧(IntKind.i64.min≤x.target∧x.target≤IntKind.i64.max)∧(IntKind.i64.min≤x.related∧x.related≤IntKind.i64.max)∧(IntKind.i64.min≤x.origin∧x.origin≤IntKind.i64.max)∧True∧Sl.ok (fun y=>Step.ok y) x.steps
theorem zhz (x:path_walker):D.sub (zaQ x) 0 (some 7)=some (zaQ x):=rfl
theorem zji (x:path_walker):D.sub (zaQ x) 0 (some 1)=some (zai x.f):=rfl
theorem zeY (x:path_walker):D.sub (zaQ x) 0 none=some (.list x.f.nodes.n (x.f.nodes.l.map zah)):=rfl
theorem zgM (x:path_walker):D.sub (zaQ x) 1 none=some (.list x.hand.n (x.hand.l.map zcs)):=rfl
theorem zfy (x:path_walker):D.sub (zaQ x) 2 none=some (.int .i64 x.target):=rfl
theorem zeZ (x:path_walker):D.sub (zaQ x) 3 none=some (.int .i64 x.related):=rfl
theorem zfz (x:path_walker):D.sub (zaQ x) 4 none=some (.int .i64 x.origin):=rfl
theorem zen (x:path_walker):D.sub (zaQ x) 5 none=some (.bool x.composed):=rfl
theorem zga (x:path_walker):D.sub (zaQ x) 6 none=some (.list x.steps.n (x.steps.l.map zgJ)):=rfl
attribute [go_sem] zhz zji zeY zgM zfy zeZ zfz zen zga
theorem path_walker.of {d:D} (h:HasTy zkH d):∃x:path_walker,d=zaQ x∧path_walker.ok x:=by
 obtain⟨xs,rfl,hl,hx⟩:=h.agg_inv
 match xs,hl with
 |[x0,x1,x2,x3,x4,x5,x6],_=>
  obtain⟨y0,rfl,k0⟩:=(HasTy.sl_inv (fun _ h=>Node.of h)) (hx 0 _ _ rfl rfl)
  obtain⟨y1,rfl,k1⟩:=(HasTy.sl_inv (fun _ h=>Assign.of h)) (hx 1 _ _ rfl rfl)
  obtain⟨y2,rfl,k2⟩:=HasTy.int_inv (hx 2 _ _ rfl rfl)
  obtain⟨y3,rfl,k3⟩:=HasTy.int_inv (hx 3 _ _ rfl rfl)
  obtain⟨y4,rfl,k4⟩:=HasTy.int_inv (hx 4 _ _ rfl rfl)
  obtain⟨y5,rfl,k5⟩:=HasTy.bool_inv (hx 5 _ _ rfl rfl)
  obtain⟨y6,rfl,k6⟩:=(HasTy.sl_inv (fun _ h=>Step.of h)) (hx 6 _ _ rfl rfl)
  exact⟨⟨⟨y0⟩,y1,y2,y3,y4,y5,y6⟩,rfl,⟨k0,k1,k2,k3,k4,k5,k6⟩⟩
structure shadow_by where
 f:Forest
 hand:Sl (Assign)
 deriving DecidableEq,Inhabited
def shadow_by.zero:shadow_by:=⟨Forest.zero,⟨true,[]⟩⟩
def zca (x:shadow_by):D:= .agg [.list x.f.nodes.n (x.f.nodes.l.map zah),.list x.hand.n (x.hand.l.map zcs)]
def zof:Ty:= .agg [.list (zjO),.list (zhM)]
def shadow_by.ok (x:shadow_by):Prop:=Forest.ok x.f∧Sl.ok (fun y=>Assign.ok y) x.hand
theorem zjj (x:shadow_by):D.sub (zca x) 0 (some 2)=some (zca x):=rfl
theorem zmx (x:shadow_by):D.sub (zca x) 0 (some 1)=some (zai x.f):=rfl
theorem zgb (x:shadow_by):D.sub (zca x) 0 none=some (.list x.f.nodes.n (x.f.nodes.l.map zah)):=rfl
theorem ziM (x:shadow_by):D.sub (zca x) 1 none=some (.list x.hand.n (x.hand.l.map zcs)):=rfl
attribute [go_sem] zjj zmx zgb ziM
theorem shadow_by.of {d:D} (h:HasTy zof d):∃x:shadow_by,d=zca x∧shadow_by.ok x:=by
 obtain⟨xs,rfl,hl,hx⟩:=h.agg_inv
 match xs,hl with
 |[x0,x1],_=>
  obtain⟨y0,rfl,k0⟩:=(HasTy.sl_inv (fun _ h=>Node.of h)) (hx 0 _ _ rfl rfl)
  obtain⟨y1,rfl,k1⟩:=(HasTy.sl_inv (fun _ h=>Assign.of h)) (hx 1 _ _ rfl rfl)
  exact⟨⟨⟨y0⟩,y1⟩,rfl,⟨k0,k1⟩⟩
structure flat_view where
 f:Forest
 hand:Sl (Assign)
 deriving DecidableEq,Inhabited
def flat_view.zero:flat_view:=⟨Forest.zero,⟨true,[]⟩⟩
def zcb (x:flat_view):D:= .agg [.list x.f.nodes.n (x.f.nodes.l.map zah),.list x.hand.n (x.hand.l.map zcs)]
def zog:Ty:= .agg [.list (zjO),.list (zhM)]
def flat_view.ok (x:flat_view):Prop:=Forest.ok x.f∧Sl.ok (fun y=>Assign.ok y) x.hand
theorem zjk (x:flat_view):D.sub (zcb x) 0 (some 2)=some (zcb x):=rfl
theorem zmy (x:flat_view):D.sub (zcb x) 0 (some 1)=some (zai x.f):=rfl
theorem zgc (x:flat_view):D.sub (zcb x) 0 none=some (.list x.f.nodes.n (x.f.nodes.l.map zah)):=rfl
theorem ziN (x:flat_view):D.sub (zcb x) 1 none=some (.list x.hand.n (x.hand.l.map zcs)):=rfl
attribute [go_sem] zjk zmy zgc ziN
theorem flat_view.of {d:D} (h:HasTy zog d):∃x:flat_view,d=zcb x∧flat_view.ok x:=by
 obtain⟨xs,rfl,hl,hx⟩:=h.agg_inv
 match xs,hl with
 |[x0,x1],_=>
  obtain⟨y0,rfl,k0⟩:=(HasTy.sl_inv (fun _ h=>Node.of h)) (hx 0 _ _ rfl rfl)
  obtain⟨y1,rfl,k1⟩:=(HasTy.sl_inv (fun _ h=>Assign.of h)) (hx 1 _ _ rfl rfl)
  exact⟨⟨⟨y0⟩,y1⟩,rfl,⟨k0,k1⟩⟩
structure walk_way where
 back:Bool
 deriving DecidableEq,Inhabited
def walk_way.zero:walk_way:=⟨false⟩
def zgd (x:walk_way):D:= .agg [.bool x.back]
def zrF:Ty:= .agg [.bool]
def walk_way.ok (x:walk_way):Prop:=True
theorem zkI (x:walk_way):D.sub (zgd x) 0 (some 1)=some (zgd x):=rfl
theorem zjl (x:walk_way):D.sub (zgd x) 0 none=some (.bool x.back):=rfl
attribute [go_sem] zkI zjl
theorem walk_way.of {d:D} (h:HasTy zrF d):∃x:walk_way,d=zgd x∧walk_way.ok x:=by
 obtain⟨xs,rfl,hl,hx⟩:=h.agg_inv
 match xs,hl with
 |[x0],_=>
  obtain⟨y0,rfl,k0⟩:=HasTy.bool_inv (hx 0 _ _ rfl rfl)
  exact⟨⟨y0⟩,rfl,k0⟩
structure forest_trait where
 known:Bool
 data:Bool
 kids:Bool
 hung:Bool
 full:Bool
 local_:Bool
 deriving DecidableEq,Inhabited
def forest_trait.zero:forest_trait:=⟨false,false,false,false,false,false⟩
def zaB (x:forest_trait):D:= .agg [.bool x.known,.bool x.data,.bool x.kids,.bool x.hung,.bool x.full,.bool x.local_]
def zjm:Ty:= .agg [.bool,.bool,.bool,.bool,.bool,.bool]
def forest_trait.ok (x:forest_trait):Prop:=True∧True∧True∧True∧True∧True
theorem zgN (x:forest_trait):(zaB x).cells.length=6:=Eq.trans rfl rfl
theorem zgO (x:forest_trait):D.sub (zaB x) 0 (some 6)=some (zaB x):=rfl
theorem zfa (x:forest_trait) (cs:List D) (h:cs.length=6):V.upd (.d (.agg cs)) 0 6 (.d (zaB x))=some (.d (zaB x)):=ziw (by simpa using h) rfl (by decide) rfl
theorem zfA (x:forest_trait):D.sub (zaB x) 0 none=some (.bool x.known):=rfl
theorem zge (x:forest_trait):D.sub (zaB x) 1 none=some (.bool x.data):=rfl
theorem zgf (x:forest_trait):D.sub (zaB x) 2 none=some (.bool x.kids):=rfl
theorem zgg (x:forest_trait):D.sub (zaB x) 3 none=some (.bool x.hung):=rfl
theorem zgh (x:forest_trait):D.sub (zaB x) 4 none=some (.bool x.full):=rfl
theorem zfb (x:forest_trait):D.sub (zaB x) 5 none=some (.bool x.local_):=rfl
attribute [go_sem] zgN zgO zfa zfA zge zgf zgg zgh zfb
theorem forest_trait.of {d:D} (h:HasTy zjm d):∃x:forest_trait,d=zaB x∧forest_trait.ok x:=by
 obtain⟨xs,rfl,hl,hx⟩:=h.agg_inv
 match xs,hl with
 |[x0,x1,x2,x3,x4,x5],_=>
  obtain⟨y0,rfl,k0⟩:=HasTy.bool_inv (hx 0 _ _ rfl rfl)
  obtain⟨y1,rfl,k1⟩:=HasTy.bool_inv (hx 1 _ _ rfl rfl)
  obtain⟨y2,rfl,k2⟩:=HasTy.bool_inv (hx 2 _ _ rfl rfl)
  obtain⟨y3,rfl,k3⟩:=HasTy.bool_inv (hx 3 _ _ rfl rfl)
  obtain⟨y4,rfl,k4⟩:=HasTy.bool_inv (hx 4 _ _ rfl rfl)
  obtain⟨y5,rfl,k5⟩:=HasTy.bool_inv (hx 5 _ _ rfl rfl)
  exact⟨⟨y0,y1,y2,y3,y4,y5⟩,rfl,⟨k0,k1,k2,k3,k4,k5⟩⟩
structure forest_key where
 space:List UInt8
 local_:List UInt8
 deriving DecidableEq,Inhabited
def forest_key.zero:forest_key:=⟨[],[]⟩
def zag (x:forest_key):D:= .agg [.str x.space,.str x.local_]
def zmz:Ty:= .agg [.str,.str]
def forest_key.ok (x:forest_key):Prop:=x.space.length≤maxLen∧x.local_.length≤maxLen
theorem ziO (x:forest_key):D.sub (zag x) 0 (some 2)=some (zag x):=rfl
theorem zgi (x:forest_key) (cs:List D) (h:cs.length=2):V.upd (.d (.agg cs)) 0 2 (.d (zag x))=some (.d (zag x)):=ziw (by simpa using h) rfl (by decide) rfl
theorem zgP (x:forest_key):D.sub (zag x) 0 none=some (.str x.space):=rfl
theorem zgj (x:forest_key):D.sub (zag x) 1 none=some (.str x.local_):=rfl
theorem zaf:Keyed [.str,.str] zag:=by
 intro x y
 simp only[zdM,zag,D.isAgg,D.cells,zaE,zbh,if_true,Option.bind_some,Option.map_some]
 rw[if_pos ⟨rfl,rfl⟩]
 congr 1
 rw[Bool.eq_iff_iff];rcases x with⟨a1,a2⟩;rcases y with⟨b1,b2⟩;simp[and_assoc]
attribute [go_sem] ziO zgi zgP zgj
theorem forest_key.of {d:D} (h:HasTy zmz d):∃x:forest_key,d=zag x∧forest_key.ok x:=by
 obtain⟨xs,rfl,hl,hx⟩:=h.agg_inv
 match xs,hl with
 |[x0,x1],_=>
  obtain⟨y0,rfl,k0⟩:=HasTy.str_inv (hx 0 _ _ rfl rfl)
  obtain⟨y1,rfl,k1⟩:=HasTy.str_inv (hx 1 _ _ rfl rfl)
  exact⟨⟨y0,y1⟩,rfl,⟨k0,k1⟩⟩
end Go.Proofs.Ythodcjjgimeeoaa.F
