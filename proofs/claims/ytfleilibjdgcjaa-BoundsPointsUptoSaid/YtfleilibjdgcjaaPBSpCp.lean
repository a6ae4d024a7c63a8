/- Shaken copy of a longer text: what one law needs. Its conditions: none. -/
import Derived.Test.YtfleilibjdgcjaaPBSpBr
set_option linter.unusedSimpArgs false
set_option linter.unusedVariables false
set_option linter.unusedSimpArgs false
set_option linter.unusedVariables false
set_option linter.unusedSectionVars false
set_option linter.unnecessarySimpa false
namespace Go.Proofs.Ytfleilibjdgcjaa.B
open Go.AI
def cpN (n:Node):Node:={n with data:=⟨false,n.data.l⟩,attrs:=⟨false,n.attrs.l⟩,kids:=⟨false,n.kids.l⟩}
def cpL (f:List Node):List Node:=f.map cpN
theorem zeU (f:List Node):(cpL f).length=f.length:=List.length_map _
theorem zsq (f:List Node) (h:Int):zbG (cpL f) h=(zbG f h).map cpN:=by
 unfold zbG cpL
 split
 ·rw[List.getElem?_map]
 ·rfl
theorem zgp {α:Type} (φ:Node→α) (hφ:∀n,φ (cpN n)=φ n) (f:List Node) (h:Int):φ (nodeD (cpL f) h)=φ (nodeD f h):=by
 unfold nodeD
 rw[zsq]
 cases zbG f h with
 |none=>rfl
 |some n=>exact hφ n
theorem zzI (f:List Node):isN (cpL f)=isN f:=by funext h;unfold isN;rw[zeU]
theorem zqN (f:List Node):kidsL (cpL f)=kidsL f:=by funext h;exact zgp (fun n=>n.kids.l) (fun _=>rfl) f h
theorem zDy (f:List Node):par (cpL f)=par f:=by funext h;exact zgp (fun n=>n.parent) (fun _=>rfl) f h
theorem zOj (f:List Node):nx (cpL f)=nx f:=by funext h;exact zgp zkn (fun _=>rfl) f h
theorem zmW (f:List Node) (h:Int):(nodeD (cpL f) h).kind=(nodeD f h).kind:=zgp (fun n=>n.kind) (fun _=>rfl) f h
theorem zqO (f:List Node):zey (cpL f)=zey f:=by
 funext h
 unfold zey
 rw[zmW,zqN,show(nodeD (cpL f) h).data.l.length=(nodeD f h).data.l.length from zgp (fun n=>n.data.l.length) (fun _=>rfl) f h]
theorem zDz (f:List Node):∀k h,itr (cpL f) k h=itr f k h
 |0,_=>rfl
 |k+1,h=>by unfold itr;rw[zOj,zDz f k]
theorem zsr (f:List Node) (h:Int):zeP (cpL f) h↔zeP f h:=by unfold zeP;simp only[zDz,zzI]
theorem zJF (f:List Node) (k:Int) (l:List Int):famB (cpL f) k l=famB f k l:=by unfold famB;simp only[zmW]
theorem zzJ (f:List Node) (h:Int):(zbG (cpL f) h).isSome=(zbG f h).isSome:=by rw[zsq];cases zbG f h<;>rfl
theorem zss (f:List Node) (h:Int) (n:Node):zet (cpL f) h (cpN n)=zet f h n:=by
 have e1:∀y,(nodeD (cpL f) y).parent=(nodeD f y).parent:=fun y=>zgp (fun n=>n.parent) (fun _=>rfl) f y
 have e2:∀y,(nodeD (cpL f) y).doc=(nodeD f y).doc:=fun y=>zgp (fun n=>n.doc) (fun _=>rfl) f y
 have e3:∀y,(nodeD (cpL f) y).host=(nodeD f y).host:=fun y=>zgp (fun n=>n.host) (fun _=>rfl) f y
 have e4:∀y,(nodeD (cpL f) y).shadow=(nodeD f y).shadow:=fun y=>zgp (fun n=>n.shadow) (fun _=>rfl) f y
 have e5:∀y,(nodeD (cpL f) y).kids.l=(nodeD f y).kids.l:=fun y=>zgp (fun n=>n.kids.l) (fun _=>rfl) f y
 unfold zet
 have ek:zgK (cpL f) h (cpN n)=zgK f h n:=by
  funext y
  unfold zgK
  rw[zzJ,e1,e2];rfl
 rw[ek]
 simp only[zzJ,zmW,e1,e2,e3,e4,e5,zJF]
 rfl
theorem zCZ (f:List Node):zaQ (cpL f)↔zaQ f:=by
 unfold zaQ
 constructor
 ·rintro⟨h1,h2⟩
  refine⟨by rw[zeU]at h1;exact h1,fun k hk=> ?_⟩
  obtain⟨a,b,c⟩:=h2 k (by rw[zeU];exact hk)
  have e:(cpL f)[k]'(by rw[zeU];exact hk)=cpN f[k]:=List.getElem_map _
  rw[e]at a b
  exact⟨a,by rw[←zss];exact b,fun h=>c ((zsr f _).2 h)⟩
 ·rintro⟨h1,h2⟩
  refine⟨by rw[zeU];exact h1,fun k hk'=> ?_⟩
  have hk:k<f.length:=by rw[zeU]at hk';exact hk'
  obtain⟨a,b,c⟩:=h2 k hk
  have e:(cpL f)[k]=cpN f[k]:=List.getElem_map _
  rw[e]
  exact⟨a,by rw[zss];exact b,fun h=>c ((zsr f _).1 h)⟩
theorem zmX (f:List Node) (l:List Int):zbj (cpL f) l=zbj f l:=by
 unfold zbj
 have:zfj (cpL f)=zfj f:=by rw[Bool.eq_iff_iff,zev,zev];exact zCZ f
 rw[this]
 simp only[zzI]
theorem zDA (f:List Node):anc (cpL f)=anc f:=by
 have h:∀n h,zuR (cpL f) n h=zuR f n h:=by
  intro n
  induction n with
  |zero=>intro h;rfl
  |succ n ih=>intro h;unfold zuR;simp only[zzI,zDy,ih]
 funext x
 unfold anc
 rw[zeU,h]
theorem zGw (f:List Node):root (cpL f)=root f:=by funext h;unfold root;rw[zDA]
theorem zJG (f:List Node):plc (cpL f)=plc f:=by funext h;unfold plc;rw[zqN,zDy]
theorem zJH (f:List Node):way (cpL f)=way f:=by funext h;unfold way;rw[zDA,zJG]
theorem zJI (f:List Node):key (cpL f)=key f:=by funext b;unfold key;rw[zJH]
theorem zJJ (f:List Node):zdN (cpL f)=zdN f:=by
 have h:∀n h,ptP (cpL f) n h=ptP f n h:=by
  intro n
  induction n with
  |zero=>intro h;rfl
  |succ n ih=>
   intro h
   show(List.range (zey (cpL f) h+1)).flatMap (pce (cpL f) (ptP (cpL f) n) h)=(List.range (zey f h+1)).flatMap (pce f (ptP f n) h)
   rw[zqO,funext ih]
   congr 1
   funext i
   unfold pce zuL
   rw[zmW,zqN]
 funext x
 unfold zdN
 rw[zeU,h]
theorem zJK (f:List Node) (l:List Bound) (ns:List Int):bfR (cpL f) l ns=bfR f l ns:=by
 have:zlB (cpL f)=zlB f:=by funext b;unfold zlB;rw[zqO]
 unfold bfR
 rw[zmX,this]
theorem zGx (f:List Node) (a b:Bound):zuS (cpL f) a b=zuS f a b:=by unfold zuS;rw[zJK,zGw,zJI]
theorem zGy (f:List Node) (h:Int):zeR (cpL f) h=zeR f h:=by unfold zeR;rw[zmX,zJJ]
theorem zJL {f:List Node} (hf:Fit f):Fit (cpL f):=by
 refine⟨by rw[zeU];exact hf.1,fun n hn=> ?_⟩
 obtain⟨m,hm,rfl⟩:=List.mem_map.1 hn
 exact hf.2 m hm
end Go.Proofs.Ytfleilibjdgcjaa.B
