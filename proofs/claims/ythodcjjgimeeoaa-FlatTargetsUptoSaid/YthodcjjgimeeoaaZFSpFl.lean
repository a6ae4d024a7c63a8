/- Shaken copy of a longer text: what one law needs. Its conditions: none. -/
import Derived.Test.YthodcjjgimeeoaaZFSpUp
set_option linter.unusedSimpArgs false
set_option linter.unusedVariables false
set_option linter.unusedSimpArgs false
set_option linter.unusedVariables false
set_option linter.unusedSectionVars false
set_option linter.unnecessarySimpa false
namespace Go.Proofs.Ythodcjjgimeeoaa.F
open Go.AI
theorem zja:pc prog 50 []=some (.bool true):=zDQ 60 (by kernel_rfl)
theorem zjW (f:Forest) (h:Int) (hf:Fit f.nodes.l):pc prog 141 [zai f,.int .i64 h]=some (zah (nodeD f.nodes.l h)):=by
 refine zHI f h _ ?_
 unfold zHH
 rw[zeQ f h hf.1,zav (e:=eT2 zah D.bool),Option.bind_some]
theorem zpJ {f:List Node} (hr:zaU f) {a:Int} (ha:isN f a):root f a∈upc f a:=
 have h:=zpE hr a ha
 (zzv hr h.2.2).1 ((zzw hr _ h.2.2).subset ((zCi hr h.2.2).2 h.1))
theorem zop {f:List Node} {r:Int} (hk:(nodeD f r).kind=12):nx f r=(nodeD f r).host:=by unfold nx zeb;rw[if_pos (by simp[hk])]
theorem zwf (f:Forest) (b:Int) (hf:Fit f.nodes.l) (hr:zaU f.nodes.l) (hb:isN f.nodes.l b):∀n a,dA f.nodes.l a≤n→isN f.nodes.l a→∃x,zaR (zcc f b) a=some (x,0)∧pc prog 98 [zai f,.int .i64 a,.int .i64 b]=some (.int .i64 x)∧zaR (zcc f b) x=some (x,0)∧isN f.nodes.l x∧(root f.nodes.l a=root f.nodes.l b→x=a)∧(x=a∨((nodeD f.nodes.l x).shadow≠0∧x∈upc f.nodes.l a)):=by
 intro n
 induction n with
 |zero=>
  intro a hd ha
  have:=zfE hr ha;omega
 |succ n ih=>
  intro a hd ha
  obtain⟨hm,hp,hR⟩:=zpE hr a ha
  have hfl:zbP f.nodes.l [root f.nodes.l a,b]=0:=zdL.2 ⟨hr,ziZ.2 ⟨hR,hb⟩⟩
  have hstep:zcc f b a=if(nodeD f.nodes.l (root f.nodes.l a)).kind=12∧root f.nodes.l a∉upc f.nodes.l b then some (.inl (nodeD f.nodes.l (root f.nodes.l a)).host)else some (.inr (a,0)):=by
   simp only[zcc]
   rw[zzs f a hf hr ha,zav (e:=D.int .i64),Option.bind_some,zwc f _ hf.1,zav (e:=zah),Option.bind_some,zrO f _ b hf,if_pos hfl,zav (e:=eT2 D.bool (D.int .i64)),Option.bind_some]
   by_cases hk:(nodeD f.nodes.l (root f.nodes.l a)).kind=12
   ·by_cases hu:root f.nodes.l a∈upc f.nodes.l b
    ·rw[if_neg (by simp[hk]),if_pos (by simp[hu]),if_neg (by simp[hu])]
    ·rw[if_neg (by simp[hk]),if_neg (by simp[hu]),if_pos ⟨hk,hu⟩]
   ·rw[if_pos (by simpa using hk),if_neg (by simp[hk])]
  by_cases hc:(nodeD f.nodes.l (root f.nodes.l a)).kind=12∧root f.nodes.l a∉upc f.nodes.l b
  case neg=>
   rw[if_neg hc]at hstep
   have hl:=zaG hstep
   refine⟨a,hl,?_,hl,ha,fun _=>rfl,.inl rfl⟩
   refine zJG f a b _ ?_
   unfold P98
   rw[zeT f a hf hr ha,zav (e:=D.int .i64),Option.bind_some,zjW f _ hf,zav (e:=zah),Option.bind_some]
   by_cases hk:(nodeD f.nodes.l (root f.nodes.l a)).kind=12
   ·have hu:root f.nodes.l a∈upc f.nodes.l b:=Classical.byContradiction fun h=>hc ⟨hk,h⟩
    rw[if_pos (by simpa using hk),zhe f _ b hf hr hR hb,zav (e:=D.bool),Option.bind_some,if_pos (by simpa using hu)]
   ·rw[if_neg (by simpa using hk)]
  obtain⟨hk,hu⟩:=hc
  rw[if_pos ⟨hk,hu⟩]at hstep
  have L:=(zeS hr hR).host hk
  have hh:=zfE hr hR
  rw[zop hk]at hh
  have hle:=zwa hr a hm
  obtain⟨x,h1,h2,h3,h4,_,h6⟩:=ih (nodeD f.nodes.l (root f.nodes.l a)).host (by omega) L.1
  have hup:(nodeD f.nodes.l (root f.nodes.l a)).host∈upc f.nodes.l a:=zop hk▸zwd hr (by rw[zop hk];exact L.1) a (zpJ hr ha)
  refine⟨x,by rw[zaT hstep];exact h1,?_,h3,h4,fun e=> ?_,.inr ?_⟩
  ·refine zJG f a b _ ?_
   unfold P98
   rw[zeT f a hf hr ha,zav (e:=D.int .i64),Option.bind_some,zjW f _ hf,zav (e:=zah),Option.bind_some,if_pos (by simpa using hk),zhe f _ b hf hr hR hb,zav (e:=D.bool),Option.bind_some,if_neg (by simpa using hu),h2,zav (e:=D.int .i64),Option.bind_some]
  ·exact absurd (e▸zpJ hr hb) hu
  ·rcases h6 with rfl|⟨h6,h7⟩
   ·exact⟨by rw[L.2.2.1];unfold isN at hR;omega,hup⟩
   ·exact⟨h6,zwe hr h7 _ hup⟩
theorem zoq {f:Forest} {a b x:Int} (hf:Fit f.nodes.l) (h0:zbP f.nodes.l [a,b]=0) (hl:zaR (zcc f b) a=some (x,0)):pc prog 47 [zai f,.int .i64 a,.int .i64 b]=some (eT2 (D.int .i64) (D.int .i64) (x,0)):=by
 refine zJD f a b _ ?_
 unfold P47
 rw[zgr f a b hf,zav (e:=D.int .i64),Option.bind_some,if_neg (by simp[h0]),hl,Option.bind_some]
theorem zwg {f:Forest} {a b:Int} (hf:Fit f.nodes.l) (h0:zbP f.nodes.l [a,b]≠0):pc prog 47 [zai f,.int .i64 a,.int .i64 b]=some (eT2 (D.int .i64) (D.int .i64) (0,zbP f.nodes.l [a,b])):=by
 refine zJD f a b _ ?_
 unfold P47
 rw[zgr f a b hf,zav (e:=D.int .i64),Option.bind_some,if_pos (by simp[h0])]
theorem zor {f:Forest} {a b x w:Int} (h:pc prog 47 [zai f,.int .i64 a,.int .i64 b]=some (eT2 (D.int .i64) (D.int .i64) (x,w))):pc prog 49 [zai f,.int .i64 a,.int .i64 b]=some (eT2 D.bool (D.int .i64) (bif (x==a)then(w==0)else false,w)):=by
 refine zJP f a b _ ?_
 unfold P49
 rw[h,zav (e:=eT2 (D.int .i64) (D.int .i64)),Option.bind_some]
theorem zjq (f:Forest) (a b:Int) (_:Forest.ok f) (_:IntKind.i64.min≤a∧a≤IntKind.i64.max) (_:IntKind.i64.min≤b∧b≤IntKind.i64.max) (hb:D.bulkAll [zai f,.int .i64 a,.int .i64 b]≤1048576):pc prog 15 [zai f,.int .i64 a,.int .i64 b]=some (.bool true):=by
 have hf:Fit f.nodes.l:=zpI hb
 refine zJM f a b _ ?_
 unfold P15
 by_cases h0:zbP f.nodes.l [a,b]=0
 ·obtain⟨hr,hab⟩:=zdL.1 h0
  obtain⟨ha,hbN⟩:=ziZ.1 hab
  obtain⟨x,h1,h2,h3,h4,h5,h6⟩:=zwf f b hf hr hbN _ a (Nat.le_refl _) ha
  have hp:=zoq hf h0 h1
  have hq:pc prog 48 [zai f,.int .i64 a,.int .i64 b]=some (eT2 (D.int .i64) (D.int .i64) (x,0)):=by
   refine zJE f a b _ ?_
   unfold P48
   rw[zgs f a b hf,zav (e:=D.int .i64),Option.bind_some,if_neg (by simp[h0]),h2,zav (e:=D.int .i64),Option.bind_some]
  rw[hp,hq,zor hp,zja]
  simp only[zav (e:=eT2 (D.int .i64) (D.int .i64)),zav (e:=eT2 D.bool (D.int .i64)),zav (e:=D.bool),Option.bind_some]
  simp
 ·have hp:=zwg hf h0
  have hq:pc prog 48 [zai f,.int .i64 a,.int .i64 b]=some (eT2 (D.int .i64) (D.int .i64) (0,zbP f.nodes.l [a,b])):=by
   refine zJE f a b _ ?_
   unfold P48
   rw[zgs f a b hf,zav (e:=D.int .i64),Option.bind_some,if_pos (by simp[h0])]
  rw[hp,hq,zor hp,zja]
  simp only[zav (e:=eT2 (D.int .i64) (D.int .i64)),zav (e:=eT2 D.bool (D.int .i64)),zav (e:=D.bool),Option.bind_some]
  have h9:(zbP f.nodes.l [a,b]==0)=false:=by simpa using h0
  simp[h9]
theorem zos (f:Forest) (a b:Int) (_:Forest.ok f) (_:IntKind.i64.min≤a∧a≤IntKind.i64.max) (_:IntKind.i64.min≤b∧b≤IntKind.i64.max) (hb:D.bulkAll [zai f,.int .i64 a,.int .i64 b]≤1048576):pc prog 16 [zai f,.int .i64 a,.int .i64 b]=some (.bool true):=by
 have hf:Fit f.nodes.l:=zpI hb
 refine zJN f a b _ ?_
 unfold P16
 rw[zja,zav (e:=D.bool),Option.bind_some,if_neg (by simp)]
 by_cases h0:zbP f.nodes.l [a,b]=0
 case neg=>
  rw[zwg hf h0,zav (e:=eT2 (D.int .i64) (D.int .i64)),Option.bind_some,if_pos (by simp[h0])];simp
 obtain⟨hr,hab⟩:=zdL.1 h0
 obtain⟨ha,hbN⟩:=ziZ.1 hab
 obtain⟨x,h1,h2,h3,h4,h5,h6⟩:=zwf f b hf hr hbN _ a (Nat.le_refl _) ha
 have hx0:zbP f.nodes.l [x,b]=0:=zdL.2 ⟨hr,ziZ.2 ⟨h4,hbN⟩⟩
 have hrd:rd f.nodes.l (IntKind.wrap .i64 (x-1))=some (nodeD f.nodes.l x):=by
  have h4':=h4
  unfold isN at h4'
  obtain⟨n,hn⟩:=zgl h4'.1 h4'.2
  rw[w64 (by omega) (by have:=hf.1;omega),zfB hn]
  unfold nodeD
  rw[hn];rfl
 have c1:decide (x<1)=false:=by unfold isN at h4;simp;omega
 have c2:decide ((f.nodes.l.length:Int)<x)=false:=by unfold isN at h4;simp;omega
 rw[zoq hf h0 h1,zav (e:=eT2 (D.int .i64) (D.int .i64)),Option.bind_some,if_neg (by simp),zor (zoq hf hx0 h3),zav (e:=eT2 D.bool (D.int .i64)),Option.bind_some]
 rw[if_pos (by dsimp only;rw[c1,c2];simp),zeT f a hf hr ha,zeT f b hf hr hbN]
 simp only[zav (e:=D.int .i64),Option.bind_some]
 rw[if_neg (by
  by_cases e:root f.nodes.l a=root f.nodes.l b
  ·simp[h5 e]
  ·simp[e])]
 by_cases hxa:x=a
 ·rw[if_neg (by simp[hxa])]
 ·rcases h6 with h6|⟨h6,h7⟩
  ·exact absurd h6 hxa
  rw[if_pos (by simp[hxa]),hrd,Option.bind_some,if_pos (by simpa using h6),zhe f x a hf hr h4 ha,zav (e:=D.bool),Option.bind_some,decide_eq_true h7]
end Go.Proofs.Ythodcjjgimeeoaa.F
