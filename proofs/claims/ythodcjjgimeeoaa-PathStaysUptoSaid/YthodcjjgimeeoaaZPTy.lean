/- Shaken copy of a longer text: what one law needs. Its conditions: none. -/
import Derived.Test.YthodcjjgimeeoaaZAiE
set_option linter.unusedSimpArgs false
set_option linter.unusedVariables false
namespace Go.Proofs.Ythodcjjgimeeoaa.P
open Go.AI
structure Name where
 space:List UInt8
 prefix_:List UInt8
 local_:List UInt8
 deriving DecidableEq,Inhabited
def Name.zero:Name:=⟨[],[],[]⟩
def zdf (x:Name):D:= .agg [.str x.space,.str x.prefix_,.str x.local_]
def zHZ:Ty:= .agg [.str,.str,.str]
def Name.ok (x:Name):Prop:=x.space.length≤maxLen∧x.prefix_.length≤maxLen∧x.local_.length≤maxLen
theorem zxx (x:Name):(zdf x).cells.length=3:=Eq.trans rfl rfl
theorem zxy (x:Name):D.sub (zdf x) 0 (some 3)=some (zdf x):=rfl
theorem zpK (x:Name):D.sub (zdf x) 0 none=some (.str x.space):=rfl
theorem zlx (x:Name):D.sub (zdf x) 1 none=some (.str x.prefix_):=rfl
theorem znF (x:Name):D.sub (zdf x) 2 none=some (.str x.local_):=rfl
theorem znG (x y:Name):binV .eql (.agg [.str,.str,.str]) (.d (zdf x)) (.d (zdf y))=some (.d (.bool (decide (x=y)))):=by
 refine zGZ ?_
 simp only[eqV,zdf,zaJ,zbr,if_true,Option.bind_some,Option.map_some]
 congr 1
 rw[Bool.eq_iff_iff];rcases x with⟨a1,a2,a3⟩;rcases y with⟨b1,b2,b3⟩;simp[and_assoc]
theorem ztx (x:Name) (y0:List UInt8) (y1:List UInt8) (y2:List UInt8):binV .eql (.agg [.str,.str,.str]) (.d (zdf x)) (.d (.agg [.str y0,.str y1,.str y2]))=some (.d (.bool (decide (x=⟨y0,y1,y2⟩)))):=znG x ⟨y0,y1,y2⟩
attribute [go_sem] zxx zxy zpK zlx znF znG ztx
theorem Name.of {d:D} (h:HasTy zHZ d):∃x:Name,d=zdf x∧Name.ok x:=by
 obtain⟨xs,rfl,hl,hx⟩:=h.agg_inv
 match xs,hl with
 |[x0,x1,x2],_=>
  obtain⟨y0,rfl,k0⟩:=HasTy.str_inv (hx 0 _ _ rfl rfl)
  obtain⟨y1,rfl,k1⟩:=HasTy.str_inv (hx 1 _ _ rfl rfl)
  obtain⟨y2,rfl,k2⟩:=HasTy.str_inv (hx 2 _ _ rfl rfl)
  exact⟨⟨y0,y1,y2⟩,rfl,⟨k0,k1,k2⟩⟩
structure Attr where
 name:Name
 value:List UInt8
 deriving DecidableEq,Inhabited
def Attr.zero:Attr:=⟨Name.zero,[]⟩
def zbm (x:Attr):D:= .agg [.str x.name.space,.str x.name.prefix_,.str x.name.local_,.str x.value]
def zCE:Ty:= .agg [.str,.str,.str,.str]
def Attr.ok (x:Attr):Prop:=Name.ok x.name∧x.value.length≤maxLen
theorem zxz (x:Attr):(zbm x).cells.length=4:=Eq.trans rfl rfl
theorem zxA (x:Attr):D.sub (zbm x) 0 (some 4)=some (zbm x):=rfl
theorem znH (x:Attr) (cs:List D) (h:cs.length=4):V.upd (.d (.agg cs)) 0 4 (.d (zbm x))=some (.d (zbm x)):=zhk (by simpa using h) rfl (by decide) rfl
theorem zty (x:Attr):D.sub (zbm x) 0 (some 3)=some (zdf x.name):=rfl
theorem zin (x:Attr):D.sub (zbm x) 0 none=some (.str x.name.space):=rfl
theorem zgD (x:Attr):D.sub (zbm x) 1 none=some (.str x.name.prefix_):=rfl
theorem zhu (x:Attr):D.sub (zbm x) 2 none=some (.str x.name.local_):=rfl
theorem zpL (x:Attr):D.sub (zbm x) 3 none=some (.str x.value):=rfl
attribute [go_sem] zxz zxA znH zty zin zgD zhu zpL
theorem Attr.of {d:D} (h:HasTy zCE d):∃x:Attr,d=zbm x∧Attr.ok x:=by
 obtain⟨xs,rfl,hl,hx⟩:=h.agg_inv
 match xs,hl with
 |[x0,x1,x2,x3],_=>
  obtain⟨y0,rfl,k0⟩:=HasTy.str_inv (hx 0 _ _ rfl rfl)
  obtain⟨y1,rfl,k1⟩:=HasTy.str_inv (hx 1 _ _ rfl rfl)
  obtain⟨y2,rfl,k2⟩:=HasTy.str_inv (hx 2 _ _ rfl rfl)
  obtain⟨y3,rfl,k3⟩:=HasTy.str_inv (hx 3 _ _ rfl rfl)
  exact⟨⟨⟨y0,y1,y2⟩,y3⟩,rfl,⟨⟨k0,k1,k2⟩,k3⟩⟩
structure Node where
 kind:Int
 name:Name
 public_:List UInt8
 system:List UInt8
 data:Sl (Int)
 attrs:Sl (Attr)
 parent:Int
 kids:Sl (Int)
 doc:Int
 host:Int
 shadow:Int
 mode:Int
 manual:Bool
 hTML:Bool
 deriving DecidableEq,Inhabited
def Node.zero:Node:=⟨0,Name.zero,[],[],⟨true,[]⟩,⟨true,[]⟩,0,⟨true,[]⟩,0,0,0,0,false,false⟩
def zam (x:Node):D:= .agg [.int .u8 x.kind,.str x.name.space,.str x.name.prefix_,.str x.name.local_,.str x.public_,.str x.system,.list x.data.n (x.data.l.map (D.int .u16)),.list x.attrs.n (x.attrs.l.map zbm),.int .i64 x.parent,.list x.kids.n (x.kids.l.map (D.int .i64)),.int .i64 x.doc,.int .i64 x.host,.int .i64 x.shadow,.int .u8 x.mode,.bool x.manual,.bool x.hTML]
def zkF:Ty:= .agg [.int .u8,.str,.str,.str,.str,.str,.list (.int .u16),.list (zCE),.int .i64,.list (.int .i64),.int .i64,.int .i64,.int .i64,.int .u8,.bool,.bool]
def Node.ok (x:Node):Prop:=(IntKind.u8.min≤x.kind∧x.kind≤IntKind.u8.max)∧Name.ok x.name∧x.public_.length≤maxLen∧x.system.length≤maxLen∧Sl.ok (fun y=>(IntKind.u16.min≤y∧y≤IntKind.u16.max)) x.data∧Sl.ok (fun y=>Attr.ok y) x.attrs∧(IntKind.i64.min≤x.parent∧x.parent≤IntKind.i64.max)∧Sl.ok (fun y=>(IntKind.i64.min≤y∧y≤IntKind.i64.max)) x.kids∧(IntKind.i64.min≤x.doc∧x.doc≤IntKind.i64.max)∧(IntKind.i64.min≤x.host∧x.host≤IntKind.i64.max)∧(IntKind.i64.min≤x.shadow∧x.shadow≤IntKind.i64.max)∧(IntKind.u8.min≤x.mode∧x.mode≤IntKind.u8.max)∧True∧True
theorem zxB (x:Node):(zam x).cells.length=16:=Eq.trans rfl rfl
theorem zxC (x:Node):D.sub (zam x) 0 (some 16)=some (zam x):=rfl
theorem zxD (x:Node) (i:Nat) (m:Option Nat):V.fld i m (.d (zam x))=(D.sub (zam x) i m).map .d:=zCV _ _ _
theorem znI (x:Node) (cs:List D) (h:cs.length=16):V.upd (.d (.agg cs)) 0 16 (.d (zam x))=some (.d (zam x)):=zhk (by simpa using h) rfl (by decide) rfl
theorem ztz (x:Node):D.sub (zam x) 0 none=some (.int .u8 x.kind):=rfl
theorem ztA (x:Node):D.sub (zam x) 1 (some 3)=some (zdf x.name):=rfl
theorem zio (x:Node):D.sub (zam x) 1 none=some (.str x.name.space):=rfl
theorem zgE (x:Node):D.sub (zam x) 2 none=some (.str x.name.prefix_):=rfl
theorem zhv (x:Node):D.sub (zam x) 3 none=some (.str x.name.local_):=rfl
theorem zly (x:Node):D.sub (zam x) 4 none=some (.str x.public_):=rfl
theorem znJ (x:Node):D.sub (zam x) 5 none=some (.str x.system):=rfl
theorem ztB (x:Node):D.sub (zam x) 6 none=some (.list x.data.n (x.data.l.map (D.int .u16))):=rfl
theorem zpM (x:Node):D.sub (zam x) 7 none=some (.list x.attrs.n (x.attrs.l.map zbm)):=rfl
theorem znK (x:Node):D.sub (zam x) 8 none=some (.int .i64 x.parent):=rfl
theorem ztC (x:Node):D.sub (zam x) 9 none=some (.list x.kids.n (x.kids.l.map (D.int .i64))):=rfl
theorem zxE (x:Node):D.sub (zam x) 10 none=some (.int .i64 x.doc):=rfl
theorem ztD (x:Node):D.sub (zam x) 11 none=some (.int .i64 x.host):=rfl
theorem znL (x:Node):D.sub (zam x) 12 none=some (.int .i64 x.shadow):=rfl
theorem ztE (x:Node):D.sub (zam x) 13 none=some (.int .u8 x.mode):=rfl
theorem znM (x:Node):D.sub (zam x) 14 none=some (.bool x.manual):=rfl
theorem ztF (x:Node):D.sub (zam x) 15 none=some (.bool x.hTML):=rfl
attribute [go_sem] zxB zxC zxD znI ztz ztA zio zgE zhv zly znJ ztB zpM znK ztC zxE ztD znL ztE znM ztF
theorem Node.of {d:D} (h:HasTy zkF d):∃x:Node,d=zam x∧Node.ok x:=by
 obtain⟨xs,rfl,hl,hx⟩:=h.agg_inv
 match xs,hl with
 |[x0,x1,x2,x3,x4,x5,x6,x7,x8,x9,x10,x11,x12,x13,x14,x15],_=>
  obtain⟨y0,rfl,k0⟩:=HasTy.int_inv (hx 0 _ _ rfl rfl)
  obtain⟨y1,rfl,k1⟩:=HasTy.str_inv (hx 1 _ _ rfl rfl)
  obtain⟨y2,rfl,k2⟩:=HasTy.str_inv (hx 2 _ _ rfl rfl)
  obtain⟨y3,rfl,k3⟩:=HasTy.str_inv (hx 3 _ _ rfl rfl)
  obtain⟨y4,rfl,k4⟩:=HasTy.str_inv (hx 4 _ _ rfl rfl)
  obtain⟨y5,rfl,k5⟩:=HasTy.str_inv (hx 5 _ _ rfl rfl)
  obtain⟨y6,rfl,k6⟩:=(HasTy.sl_inv (fun _ h=>HasTy.int_inv h)) (hx 6 _ _ rfl rfl)
  obtain⟨y7,rfl,k7⟩:=(HasTy.sl_inv (fun _ h=>Attr.of h)) (hx 7 _ _ rfl rfl)
  obtain⟨y8,rfl,k8⟩:=HasTy.int_inv (hx 8 _ _ rfl rfl)
  obtain⟨y9,rfl,k9⟩:=(HasTy.sl_inv (fun _ h=>HasTy.int_inv h)) (hx 9 _ _ rfl rfl)
  obtain⟨y10,rfl,k10⟩:=HasTy.int_inv (hx 10 _ _ rfl rfl)
  obtain⟨y11,rfl,k11⟩:=HasTy.int_inv (hx 11 _ _ rfl rfl)
  obtain⟨y12,rfl,k12⟩:=HasTy.int_inv (hx 12 _ _ rfl rfl)
  obtain⟨y13,rfl,k13⟩:=HasTy.int_inv (hx 13 _ _ rfl rfl)
  obtain⟨y14,rfl,k14⟩:=HasTy.bool_inv (hx 14 _ _ rfl rfl)
  obtain⟨y15,rfl,k15⟩:=HasTy.bool_inv (hx 15 _ _ rfl rfl)
  exact⟨⟨y0,⟨y1,y2,y3⟩,y4,y5,y6,y7,y8,y9,y10,y11,y12,y13,y14,y15⟩,rfl,⟨k0,⟨k1,k2,k3⟩,k4,k5,k6,k7,k8,k9,k10,k11,k12,k13,k14,k15⟩⟩
structure Forest where
 nodes:Sl (Node)
 deriving DecidableEq,Inhabited
def Forest.zero:Forest:=⟨⟨true,[]⟩⟩
def zae (x:Forest):D:= .agg [.list x.nodes.n (x.nodes.l.map zam)]
def tyForest:Ty:= .agg [.list (zkF)]
def Forest.ok (x:Forest):Prop:=Sl.ok (fun y=>Node.ok y) x.nodes
theorem zpN (x:Forest):(zae x).cells.length=1:=Eq.trans rfl rfl
theorem zpO (x:Forest):D.sub (zae x) 0 (some 1)=some (zae x):=rfl
theorem znN {cs:List V} {off:Nat} {r:List (Nat×Nat×V)} (x:Forest) (h:off+1≤cs.length):zbW cs ((off,1,.d (zae x))::r)=zbW (splice cs off [.d (.list x.nodes.n (x.nodes.l.map zam))]) r:=zvW rfl (by decide) h
theorem zlz (x:Forest):D.sub (zae x) 0 none=some (.list x.nodes.n (x.nodes.l.map zam)):=rfl
attribute [go_sem] znN zpN zpO zlz
theorem Forest.of {d:D} (h:HasTy tyForest d):∃x:Forest,d=zae x∧Forest.ok x:=by
 obtain⟨xs,rfl,hl,hx⟩:=h.agg_inv
 match xs,hl with
 |[x0],_=>
  obtain⟨y0,rfl,k0⟩:=(HasTy.sl_inv (fun _ h=>Node.of h)) (hx 0 _ _ rfl rfl)
  exact⟨⟨y0⟩,rfl,k0⟩
structure Rule where
 kind:Int
 local_:List UInt8
 verdict:Int
 deriving DecidableEq,Inhabited
def Rule.zero:Rule:=⟨0,[],0⟩
def zgF (x:Rule):D:= .agg [.int .u8 x.kind,.str x.local_,.int .u8 x.verdict]
def zrj:Ty:= .agg [.int .u8,.str,.int .u8]
def Rule.ok (x:Rule):Prop:=(IntKind.u8.min≤x.kind∧x.kind≤IntKind.u8.max)∧x.local_.length≤maxLen∧(IntKind.u8.min≤x.verdict∧x.verdict≤IntKind.u8.max)
theorem zxF (x:Rule):D.sub (zgF x) 0 (some 3)=some (zgF x):=rfl
theorem ztG (x:Rule):D.sub (zgF x) 0 none=some (.int .u8 x.kind):=rfl
theorem znO (x:Rule):D.sub (zgF x) 1 none=some (.str x.local_):=rfl
theorem zlA (x:Rule):D.sub (zgF x) 2 none=some (.int .u8 x.verdict):=rfl
attribute [go_sem] zxF ztG znO zlA
theorem Rule.of {d:D} (h:HasTy zrj d):∃x:Rule,d=zgF x∧Rule.ok x:=by
 obtain⟨xs,rfl,hl,hx⟩:=h.agg_inv
 match xs,hl with
 |[x0,x1,x2],_=>
  obtain⟨y0,rfl,k0⟩:=HasTy.int_inv (hx 0 _ _ rfl rfl)
  obtain⟨y1,rfl,k1⟩:=HasTy.str_inv (hx 1 _ _ rfl rfl)
  obtain⟨y2,rfl,k2⟩:=HasTy.int_inv (hx 2 _ _ rfl rfl)
  exact⟨⟨y0,y1,y2⟩,rfl,⟨k0,k1,k2⟩⟩
structure Filter where
 show_:Int
 rules:Sl (Rule)
 deriving DecidableEq,Inhabited
def Filter.zero:Filter:=⟨0,⟨true,[]⟩⟩
def zeE (x:Filter):D:= .agg [.int .u32 x.show_,.list x.rules.n (x.rules.l.map zgF)]
def zBB:Ty:= .agg [.int .u32,.list (zrj)]
def Filter.ok (x:Filter):Prop:=(IntKind.u32.min≤x.show_∧x.show_≤IntKind.u32.max)∧Sl.ok (fun y=>Rule.ok y) x.rules
theorem zpP (x:Filter):D.sub (zeE x) 0 (some 2)=some (zeE x):=rfl
theorem zlB (x:Filter):D.sub (zeE x) 0 none=some (.int .u32 x.show_):=rfl
theorem zlC (x:Filter):D.sub (zeE x) 1 none=some (.list x.rules.n (x.rules.l.map zgF)):=rfl
attribute [go_sem] zpP zlB zlC
theorem Filter.of {d:D} (h:HasTy zBB d):∃x:Filter,d=zeE x∧Filter.ok x:=by
 obtain⟨xs,rfl,hl,hx⟩:=h.agg_inv
 match xs,hl with
 |[x0,x1],_=>
  obtain⟨y0,rfl,k0⟩:=HasTy.int_inv (hx 0 _ _ rfl rfl)
  obtain⟨y1,rfl,k1⟩:=(HasTy.sl_inv (fun _ h=>Rule.of h)) (hx 1 _ _ rfl rfl)
  exact⟨⟨y0,y1⟩,rfl,⟨k0,k1⟩⟩
structure Walker where
 root:Int
 current:Int
 filter:Filter
 deriving DecidableEq,Inhabited
def Walker.zero:Walker:=⟨0,0,Filter.zero⟩
def zdA (x:Walker):D:= .agg [.int .i64 x.root,.int .i64 x.current,.int .u32 x.filter.show_,.list x.filter.rules.n (x.filter.rules.l.map zgF)]
def zBC:Ty:= .agg [.int .i64,.int .i64,.int .u32,.list (zrj)]
def Walker.ok (x:Walker):Prop:=(IntKind.i64.min≤x.root∧x.root≤IntKind.i64.max)∧(IntKind.i64.min≤x.current∧x.current≤IntKind.i64.max)∧Filter.ok x.filter
theorem zpQ (x:Walker):D.sub (zdA x) 0 (some 4)=some (zdA x):=rfl
theorem znP (x:Walker):D.sub (zdA x) 0 none=some (.int .i64 x.root):=rfl
theorem zjA (x:Walker):D.sub (zdA x) 1 none=some (.int .i64 x.current):=rfl
theorem zjY (x:Walker):D.sub (zdA x) 2 (some 2)=some (zeE x.filter):=rfl
theorem zfJ (x:Walker):D.sub (zdA x) 2 none=some (.int .u32 x.filter.show_):=rfl
theorem zfK (x:Walker):D.sub (zdA x) 3 none=some (.list x.filter.rules.n (x.filter.rules.l.map zgF)):=rfl
attribute [go_sem] zpQ znP zjA zjY zfJ zfK
theorem Walker.of {d:D} (h:HasTy zBC d):∃x:Walker,d=zdA x∧Walker.ok x:=by
 obtain⟨xs,rfl,hl,hx⟩:=h.agg_inv
 match xs,hl with
 |[x0,x1,x2,x3],_=>
  obtain⟨y0,rfl,k0⟩:=HasTy.int_inv (hx 0 _ _ rfl rfl)
  obtain⟨y1,rfl,k1⟩:=HasTy.int_inv (hx 1 _ _ rfl rfl)
  obtain⟨y2,rfl,k2⟩:=HasTy.int_inv (hx 2 _ _ rfl rfl)
  obtain⟨y3,rfl,k3⟩:=(HasTy.sl_inv (fun _ h=>Rule.of h)) (hx 3 _ _ rfl rfl)
  exact⟨⟨y0,y1,⟨y2,y3⟩⟩,rfl,⟨k0,k1,⟨k2,k3⟩⟩⟩
structure Step where
 item:Int
 inShadow:Bool
 target:Int
 related:Int
 closed:Bool
 slot:Bool
 deriving DecidableEq,Inhabited
def Step.zero:Step:=⟨0,false,0,0,false,false⟩
def zau (x:Step):D:= .agg [.int .i64 x.item,.bool x.inShadow,.int .i64 x.target,.int .i64 x.related,.bool x.closed,.bool x.slot]
def zCF:Ty:= .agg [.int .i64,.bool,.int .i64,.int .i64,.bool,.bool]
def Step.ok (x:Step):Prop:=(IntKind.i64.min≤x.item∧x.item≤IntKind.i64.max)∧True∧(IntKind.i64.min≤x.target∧x.target≤IntKind.i64.max)∧(IntKind.i64.min≤x.related∧x.related≤IntKind.i64.max)∧True∧True
theorem zxG (x:Step):(zau x).cells.length=6:=Eq.trans rfl rfl
theorem zxH (x:Step):D.sub (zau x) 0 (some 6)=some (zau x):=rfl
theorem ztH (x:Step):D.sub (zau x) 0 none=some (.int .i64 x.item):=rfl
theorem zjZ (x:Step):D.sub (zau x) 1 none=some (.bool x.inShadow):=rfl
theorem znQ (x:Step):D.sub (zau x) 2 none=some (.int .i64 x.target):=rfl
theorem zlD (x:Step):D.sub (zau x) 3 none=some (.int .i64 x.related):=rfl
theorem znR (x:Step):D.sub (zau x) 4 none=some (.bool x.closed):=rfl
theorem ztI (x:Step):D.sub (zau x) 5 none=some (.bool x.slot):=rfl
theorem zxI (x y:Step):binV .neq (.agg [.int,.bool,.int,.int,.bool,.bool]) (.d (zau x)) (.d (zau y))=some (.d (.bool (!decide (x=y)))):=by
 refine zHa ?_
 simp only[eqV,zau,zaJ,zbr,if_true,Option.bind_some,Option.map_some]
 congr 1
 rw[Bool.eq_iff_iff];rcases x with⟨a1,a2,a3,a4,a5,a6⟩;rcases y with⟨b1,b2,b3,b4,b5,b6⟩;simp[and_assoc]
attribute [go_sem] zxG zxH ztH zjZ znQ zlD znR ztI zxI
theorem Step.of {d:D} (h:HasTy zCF d):∃x:Step,d=zau x∧Step.ok x:=by
 obtain⟨xs,rfl,hl,hx⟩:=h.agg_inv
 match xs,hl with
 |[x0,x1,x2,x3,x4,x5],_=>
  obtain⟨y0,rfl,k0⟩:=HasTy.int_inv (hx 0 _ _ rfl rfl)
  obtain⟨y1,rfl,k1⟩:=HasTy.bool_inv (hx 1 _ _ rfl rfl)
  obtain⟨y2,rfl,k2⟩:=HasTy.int_inv (hx 2 _ _ rfl rfl)
  obtain⟨y3,rfl,k3⟩:=HasTy.int_inv (hx 3 _ _ rfl rfl)
  obtain⟨y4,rfl,k4⟩:=HasTy.bool_inv (hx 4 _ _ rfl rfl)
  obtain⟨y5,rfl,k5⟩:=HasTy.bool_inv (hx 5 _ _ rfl rfl)
  exact⟨⟨y0,y1,y2,y3,y4,y5⟩,rfl,⟨k0,k1,k2,k3,k4,k5⟩⟩
structure walk_walk where
 f:Forest
 walker:Walker
 deriving DecidableEq,Inhabited
def walk_walk.zero:walk_walk:=⟨Forest.zero,Walker.zero⟩
def zbo (x:walk_walk):D:= .agg [.list x.f.nodes.n (x.f.nodes.l.map zam),.int .i64 x.walker.root,.int .i64 x.walker.current,.int .u32 x.walker.filter.show_,.list x.walker.filter.rules.n (x.walker.filter.rules.l.map zgF)]
def zpR:Ty:= .agg [.list (zkF),.int .i64,.int .i64,.int .u32,.list (zrj)]
def walk_walk.ok (x:walk_walk):Prop:=Forest.ok x.f∧Walker.ok x.walker
theorem zka (x:walk_walk):D.sub (zbo x) 0 (some 5)=some (zbo x):=rfl
theorem znS (x:walk_walk):D.sub (zbo x) 0 (some 1)=some (zae x.f):=rfl
theorem zgG (x:walk_walk):D.sub (zbo x) 0 none=some (.list x.f.nodes.n (x.f.nodes.l.map zam)):=rfl
theorem zhw (x:walk_walk):D.sub (zbo x) 1 (some 4)=some (zdA x.walker):=rfl
theorem zeK (x:walk_walk):D.sub (zbo x) 1 none=some (.int .i64 x.walker.root):=rfl
theorem zea (x:walk_walk):D.sub (zbo x) 2 none=some (.int .i64 x.walker.current):=rfl
theorem zem (x:walk_walk):D.sub (zbo x) 3 (some 2)=some (zeE x.walker.filter):=rfl
theorem zcT (x:walk_walk):D.sub (zbo x) 3 none=some (.int .u32 x.walker.filter.show_):=rfl
theorem zcU (x:walk_walk):D.sub (zbo x) 4 none=some (.list x.walker.filter.rules.n (x.walker.filter.rules.l.map zgF)):=rfl
attribute [go_sem] zka znS zgG zhw zeK zea zem zcT zcU
theorem walk_walk.of {d:D} (h:HasTy zpR d):∃x:walk_walk,d=zbo x∧walk_walk.ok x:=by
 obtain⟨xs,rfl,hl,hx⟩:=h.agg_inv
 match xs,hl with
 |[x0,x1,x2,x3,x4],_=>
  obtain⟨y0,rfl,k0⟩:=(HasTy.sl_inv (fun _ h=>Node.of h)) (hx 0 _ _ rfl rfl)
  obtain⟨y1,rfl,k1⟩:=HasTy.int_inv (hx 1 _ _ rfl rfl)
  obtain⟨y2,rfl,k2⟩:=HasTy.int_inv (hx 2 _ _ rfl rfl)
  obtain⟨y3,rfl,k3⟩:=HasTy.int_inv (hx 3 _ _ rfl rfl)
  obtain⟨y4,rfl,k4⟩:=(HasTy.sl_inv (fun _ h=>Rule.of h)) (hx 4 _ _ rfl rfl)
  exact⟨⟨⟨y0⟩,⟨y1,y2,⟨y3,y4⟩⟩⟩,rfl,⟨k0,⟨k1,k2,⟨k3,k4⟩⟩⟩⟩
structure path_level where
 current:Int
 least:Int
 deriving DecidableEq,Inhabited
def path_level.zero:path_level:=⟨0,0⟩
def zcn (x:path_level):D:= .agg [.int .i64 x.current,.int .i64 x.least]
def znT:Ty:= .agg [.int .i64,.int .i64]
def path_level.ok (x:path_level):Prop:=(IntKind.i64.min≤x.current∧x.current≤IntKind.i64.max)∧(IntKind.i64.min≤x.least∧x.least≤IntKind.i64.max)
theorem zjB (x:path_level):D.sub (zcn x) 0 (some 2)=some (zcn x):=rfl
theorem zgj (x:path_level):D.sub (zcn x) 0 none=some (.int .i64 x.current):=rfl
theorem zhx (x:path_level):D.sub (zcn x) 1 none=some (.int .i64 x.least):=rfl
attribute [go_sem] zjB zgj zhx
theorem path_level.of {d:D} (h:HasTy znT d):∃x:path_level,d=zcn x∧path_level.ok x:=by
 obtain⟨xs,rfl,hl,hx⟩:=h.agg_inv
 match xs,hl with
 |[x0,x1],_=>
  obtain⟨y0,rfl,k0⟩:=HasTy.int_inv (hx 0 _ _ rfl rfl)
  obtain⟨y1,rfl,k1⟩:=HasTy.int_inv (hx 1 _ _ rfl rfl)
  exact⟨⟨y0,y1⟩,rfl,⟨k0,k1⟩⟩
structure Assign where
 slot:Int
 nodes:Sl (Int)
 deriving DecidableEq,Inhabited
def Assign.zero:Assign:=⟨0,⟨true,[]⟩⟩
def zap (x:Assign):D:= .agg [.int .i64 x.slot,.list x.nodes.n (x.nodes.l.map (D.int .i64))]
def tyAssign:Ty:= .agg [.int .i64,.list (.int .i64)]
def Assign.ok (x:Assign):Prop:=(IntKind.i64.min≤x.slot∧x.slot≤IntKind.i64.max)∧Sl.ok (fun y=>(IntKind.i64.min≤y∧y≤IntKind.i64.max)) x.nodes
theorem zpS (x:Assign):(zap x).cells.length=2:=Eq.trans rfl rfl
theorem zpT (x:Assign):D.sub (zap x) 0 (some 2)=some (zap x):=rfl
theorem zkb (x:Assign) (cs:List D) (h:cs.length=2):V.upd (.d (.agg cs)) 0 2 (.d (zap x))=some (.d (zap x)):=zhk (by simpa using h) rfl (by decide) rfl
theorem znU (x:Assign):D.sub (zap x) 0 none=some (.int .i64 x.slot):=rfl
theorem zlE (x:Assign):D.sub (zap x) 1 none=some (.list x.nodes.n (x.nodes.l.map (D.int .i64))):=rfl
attribute [go_sem] zpS zpT zkb znU zlE
theorem Assign.of {d:D} (h:HasTy tyAssign d):∃x:Assign,d=zap x∧Assign.ok x:=by
 obtain⟨xs,rfl,hl,hx⟩:=h.agg_inv
 match xs,hl with
 |[x0,x1],_=>
  obtain⟨y0,rfl,k0⟩:=HasTy.int_inv (hx 0 _ _ rfl rfl)
  obtain⟨y1,rfl,k1⟩:=(HasTy.sl_inv (fun _ h=>HasTy.int_inv h)) (hx 1 _ _ rfl rfl)
  exact⟨⟨y0,y1⟩,rfl,⟨k0,k1⟩⟩
structure path_walker where
 f:Forest
 hand:Sl (Assign)
 target:Int
 related:Int
 origin:Int
 composed:Bool
 steps:Sl (Step)
 deriving DecidableEq,Inhabited
def path_walker.zero:path_walker:=⟨Forest.zero,⟨true,[]⟩,0,0,0,false,⟨true,[]⟩⟩
def zaZ (x:path_walker):D:= .agg [.list x.f.nodes.n (x.f.nodes.l.map zam),.list x.hand.n (x.hand.l.map zap),.int .i64 x.target,.int .i64 x.related,.int .i64 x.origin,.bool x.composed,.list x.steps.n (x.steps.l.map zau)]
def zlF:Ty:= .agg [.list (zkF),.list (tyAssign),.int .i64,.int .i64,.int .i64,.bool,.list (zCF)]
def path_walker.ok (x:path_walker):Prop:=Forest.ok x.f∧Sl.ok (fun y=>Assign.ok y) x.hand∧(IntKind.i64.min≤x.target∧x.target≤IntKind.i64.max)∧(IntKind.i64.min≤x.related∧x.related≤IntKind.i64.max)∧(IntKind.i64.min≤x.origin∧x.origin≤IntKind.i64.max)∧True∧Sl.ok (fun y=>Step.ok y) x.steps
theorem ziq (x:path_walker):D.sub (zaZ x) 0 (some 7)=some (zaZ x):=rfl
theorem zkc (x:path_walker):D.sub (zaZ x) 0 (some 1)=some (zae x.f):=rfl
theorem zfL (x:path_walker):D.sub (zaZ x) 0 none=some (.list x.f.nodes.n (x.f.nodes.l.map zam)):=rfl
theorem zhy (x:path_walker):D.sub (zaZ x) 1 none=some (.list x.hand.n (x.hand.l.map zap)):=rfl
theorem zgk (x:path_walker):D.sub (zaZ x) 2 none=some (.int .i64 x.target):=rfl
theorem zfM (x:path_walker):D.sub (zaZ x) 3 none=some (.int .i64 x.related):=rfl
theorem zgl (x:path_walker):D.sub (zaZ x) 4 none=some (.int .i64 x.origin):=rfl
theorem zeW (x:path_walker):D.sub (zaZ x) 5 none=some (.bool x.composed):=rfl
theorem zgH (x:path_walker):D.sub (zaZ x) 6 none=some (.list x.steps.n (x.steps.l.map zau)):=rfl
attribute [go_sem] ziq zkc zfL zhy zgk zfM zgl zeW zgH
theorem path_walker.of {d:D} (h:HasTy zlF d):∃x:path_walker,d=zaZ x∧path_walker.ok x:=by
 obtain⟨xs,rfl,hl,hx⟩:=h.agg_inv
 match xs,hl with
 |[x0,x1,x2,x3,x4,x5,x6],_=>
  obtain⟨y0,rfl,k0⟩:=(HasTy.sl_inv (fun _ h=>Node.of h)) (hx 0 _ _ rfl rfl)
  obtain⟨y1,rfl,k1⟩:=(HasTy.sl_inv (fun _ h=>Assign.of h)) (hx 1 _ _ rfl rfl)
  obtain⟨y2,rfl,k2⟩:=HasTy.int_inv (hx 2 _ _ rfl rfl)
  obtain⟨y3,rfl,k3⟩:=HasTy.int_inv (hx 3 _ _ rfl rfl)
  obtain⟨y4,rfl,k4⟩:=HasTy.int_inv (hx 4 _ _ rfl rfl)
  obtain⟨y5,rfl,k5⟩:=HasTy.bool_inv (hx 5 _ _ rfl rfl)
  obtain⟨y6,rfl,k6⟩:=(HasTy.sl_inv (fun _ h=>Step.of h)) (hx 6 _ _ rfl rfl)
  exact⟨⟨⟨y0⟩,y1,y2,y3,y4,y5,y6⟩,rfl,⟨k0,k1,k2,k3,k4,k5,k6⟩⟩
structure shadow_by where
 f:Forest
 hand:Sl (Assign)
 deriving DecidableEq,Inhabited
def shadow_by.zero:shadow_by:=⟨Forest.zero,⟨true,[]⟩⟩
def zaQ (x:shadow_by):D:= .agg [.list x.f.nodes.n (x.f.nodes.l.map zam),.list x.hand.n (x.hand.l.map zap)]
def zpU:Ty:= .agg [.list (zkF),.list (tyAssign)]
def shadow_by.ok (x:shadow_by):Prop:=Forest.ok x.f∧Sl.ok (fun y=>Assign.ok y) x.hand
theorem zkd (x:shadow_by):(zaQ x).cells.length=2:=Eq.trans rfl rfl
theorem zke (x:shadow_by):D.sub (zaQ x) 0 (some 2)=some (zaQ x):=rfl
theorem znV (x:shadow_by):D.sub (zaQ x) 0 (some 1)=some (zae x.f):=rfl
theorem zgI (x:shadow_by):D.sub (zaQ x) 0 none=some (.list x.f.nodes.n (x.f.nodes.l.map zam)):=rfl
theorem zjC (x:shadow_by):D.sub (zaQ x) 1 none=some (.list x.hand.n (x.hand.l.map zap)):=rfl
attribute [go_sem] zkd zke znV zgI zjC
theorem shadow_by.of {d:D} (h:HasTy zpU d):∃x:shadow_by,d=zaQ x∧shadow_by.ok x:=by
 obtain⟨xs,rfl,hl,hx⟩:=h.agg_inv
 match xs,hl with
 |[x0,x1],_=>
  obtain⟨y0,rfl,k0⟩:=(HasTy.sl_inv (fun _ h=>Node.of h)) (hx 0 _ _ rfl rfl)
  obtain⟨y1,rfl,k1⟩:=(HasTy.sl_inv (fun _ h=>Assign.of h)) (hx 1 _ _ rfl rfl)
  exact⟨⟨⟨y0⟩,y1⟩,rfl,⟨k0,k1⟩⟩
structure flat_view where
 f:Forest
 hand:Sl (Assign)
 deriving DecidableEq,Inhabited
def flat_view.zero:flat_view:=⟨Forest.zero,⟨true,[]⟩⟩
def zcs (x:flat_view):D:= .agg [.list x.f.nodes.n (x.f.nodes.l.map zam),.list x.hand.n (x.hand.l.map zap)]
def zpV:Ty:= .agg [.list (zkF),.list (tyAssign)]
def flat_view.ok (x:flat_view):Prop:=Forest.ok x.f∧Sl.ok (fun y=>Assign.ok y) x.hand
theorem zkf (x:flat_view):D.sub (zcs x) 0 (some 2)=some (zcs x):=rfl
theorem znW (x:flat_view):D.sub (zcs x) 0 (some 1)=some (zae x.f):=rfl
theorem zgJ (x:flat_view):D.sub (zcs x) 0 none=some (.list x.f.nodes.n (x.f.nodes.l.map zam)):=rfl
theorem zjD (x:flat_view):D.sub (zcs x) 1 none=some (.list x.hand.n (x.hand.l.map zap)):=rfl
attribute [go_sem] zkf znW zgJ zjD
theorem flat_view.of {d:D} (h:HasTy zpV d):∃x:flat_view,d=zcs x∧flat_view.ok x:=by
 obtain⟨xs,rfl,hl,hx⟩:=h.agg_inv
 match xs,hl with
 |[x0,x1],_=>
  obtain⟨y0,rfl,k0⟩:=(HasTy.sl_inv (fun _ h=>Node.of h)) (hx 0 _ _ rfl rfl)
  obtain⟨y1,rfl,k1⟩:=(HasTy.sl_inv (fun _ h=>Assign.of h)) (hx 1 _ _ rfl rfl)
  exact⟨⟨⟨y0⟩,y1⟩,rfl,⟨k0,k1⟩⟩
structure walk_way where
 back:Bool
 deriving DecidableEq,Inhabited
def walk_way.zero:walk_way:=⟨false⟩
def zgK (x:walk_way):D:= .agg [.bool x.back]
def ztJ:Ty:= .agg [.bool]
def walk_way.ok (x:walk_way):Prop:=True
theorem zlG (x:walk_way):D.sub (zgK x) 0 (some 1)=some (zgK x):=rfl
theorem zkg (x:walk_way):D.sub (zgK x) 0 none=some (.bool x.back):=rfl
attribute [go_sem] zlG zkg
theorem walk_way.of {d:D} (h:HasTy ztJ d):∃x:walk_way,d=zgK x∧walk_way.ok x:=by
 obtain⟨xs,rfl,hl,hx⟩:=h.agg_inv
 match xs,hl with
 |[x0],_=>
  obtain⟨y0,rfl,k0⟩:=HasTy.bool_inv (hx 0 _ _ rfl rfl)
  exact⟨⟨y0⟩,rfl,k0⟩
structure forest_trait where
 known:Bool
 data:Bool
 kids:Bool
 hung:Bool
 full:Bool
 local_:Bool
 deriving DecidableEq,Inhabited
def forest_trait.zero:forest_trait:=⟨false,false,false,false,false,false⟩
def zaF (x:forest_trait):D:= .agg [.bool x.known,.bool x.data,.bool x.kids,.bool x.hung,.bool x.full,.bool x.local_]
def zkh:Ty:= .agg [.bool,.bool,.bool,.bool,.bool,.bool]
def forest_trait.ok (x:forest_trait):Prop:=True∧True∧True∧True∧True∧True
theorem zhz (x:forest_trait):(zaF x).cells.length=6:=Eq.trans rfl rfl
theorem zhA (x:forest_trait):D.sub (zaF x) 0 (some 6)=some (zaF x):=rfl
theorem zfN (x:forest_trait) (cs:List D) (h:cs.length=6):V.upd (.d (.agg cs)) 0 6 (.d (zaF x))=some (.d (zaF x)):=zhk (by simpa using h) rfl (by decide) rfl
theorem zgm (x:forest_trait):D.sub (zaF x) 0 none=some (.bool x.known):=rfl
theorem zgL (x:forest_trait):D.sub (zaF x) 1 none=some (.bool x.data):=rfl
theorem zgM (x:forest_trait):D.sub (zaF x) 2 none=some (.bool x.kids):=rfl
theorem zgN (x:forest_trait):D.sub (zaF x) 3 none=some (.bool x.hung):=rfl
theorem zgO (x:forest_trait):D.sub (zaF x) 4 none=some (.bool x.full):=rfl
theorem zfO (x:forest_trait):D.sub (zaF x) 5 none=some (.bool x.local_):=rfl
attribute [go_sem] zhz zhA zfN zgm zgL zgM zgN zgO zfO
theorem forest_trait.of {d:D} (h:HasTy zkh d):∃x:forest_trait,d=zaF x∧forest_trait.ok x:=by
 obtain⟨xs,rfl,hl,hx⟩:=h.agg_inv
 match xs,hl with
 |[x0,x1,x2,x3,x4,x5],_=>
  obtain⟨y0,rfl,k0⟩:=HasTy.bool_inv (hx 0 _ _ rfl rfl)
  obtain⟨y1,rfl,k1⟩:=HasTy.bool_inv (hx 1 _ _ rfl rfl)
  obtain⟨y2,rfl,k2⟩:=HasTy.bool_inv (hx 2 _ _ rfl rfl)
  obtain⟨y3,rfl,k3⟩:=HasTy.bool_inv (hx 3 _ _ rfl rfl)
  obtain⟨y4,rfl,k4⟩:=HasTy.bool_inv (hx 4 _ _ rfl rfl)
  obtain⟨y5,rfl,k5⟩:=HasTy.bool_inv (hx 5 _ _ rfl rfl)
  exact⟨⟨y0,y1,y2,y3,y4,y5⟩,rfl,⟨k0,k1,k2,k3,k4,k5⟩⟩
structure forest_key where
 space:List UInt8
 local_:List UInt8
 deriving DecidableEq,Inhabited
def forest_key.zero:forest_key:=⟨[],[]⟩
def zai (x:forest_key):D:= .agg [.str x.space,.str x.local_]
def znX:Ty:= .agg [.str,.str]
def forest_key.ok (x:forest_key):Prop:=x.space.length≤maxLen∧x.local_.length≤maxLen
theorem zjE (x:forest_key):D.sub (zai x) 0 (some 2)=some (zai x):=rfl
theorem zgP (x:forest_key) (cs:List D) (h:cs.length=2):V.upd (.d (.agg cs)) 0 2 (.d (zai x))=some (.d (zai x)):=zhk (by simpa using h) rfl (by decide) rfl
theorem zhB (x:forest_key):D.sub (zai x) 0 none=some (.str x.space):=rfl
theorem zgQ (x:forest_key):D.sub (zai x) 1 none=some (.str x.local_):=rfl
theorem zah:Keyed [.str,.str] zai:=by
 intro x y
 simp only[zes,zai,D.isAgg,D.cells,zaJ,zbr,if_true,Option.bind_some,Option.map_some]
 rw[if_pos ⟨rfl,rfl⟩]
 congr 1
 rw[Bool.eq_iff_iff];rcases x with⟨a1,a2⟩;rcases y with⟨b1,b2⟩;simp[and_assoc]
attribute [go_sem] zjE zgP zhB zgQ
theorem forest_key.of {d:D} (h:HasTy znX d):∃x:forest_key,d=zai x∧forest_key.ok x:=by
 obtain⟨xs,rfl,hl,hx⟩:=h.agg_inv
 match xs,hl with
 |[x0,x1],_=>
  obtain⟨y0,rfl,k0⟩:=HasTy.str_inv (hx 0 _ _ rfl rfl)
  obtain⟨y1,rfl,k1⟩:=HasTy.str_inv (hx 1 _ _ rfl rfl)
  exact⟨⟨y0,y1⟩,rfl,⟨k0,k1⟩⟩
end Go.Proofs.Ythodcjjgimeeoaa.P
