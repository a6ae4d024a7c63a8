/- Shaken copy of a longer text: what one law needs. Its conditions: none. -/
import Derived.Test.YtfleilibjdgcjaaZOSpFoG
import Derived.Test.YtfleilibjdgcjaaZOSpFoE
set_option linter.unusedSimpArgs false
set_option linter.unusedVariables false
set_option linter.unusedSimpArgs false
set_option linter.unusedVariables false
set_option linter.unusedSectionVars false
set_option linter.unnecessarySimpa false
namespace Go.Proofs.Ytfleilibjdgcjaa.O
open Go.AI
theorem zrX {α:Type} {x y:α} {l d:List α} (h:(x::l).Sublist (y::d)):(x=y∧l.Sublist d)∨(x::l).Sublist d:=by
 cases h with
 |cons _ h=>exact .inr h
 |cons_cons _ h=>exact .inl ⟨rfl,h⟩
theorem zCr {step:Int×Int→Option ((Int×Int)⊕Int)} {l d:List Int} (h1:∀i j (hi:i<l.length) (hj:j<d.length),step ((i:Int),(j:Int))=some (.inl (if d[j]=l[i]then((i+1:Nat):Int)else(i:Int),((j+1:Nat):Int)))) (h2:∀i j,i=l.length∨j=d.length→i≤l.length→j≤d.length→step ((i:Int),(j:Int))=some (.inr (i:Int))):
 ∀m j,j+m=d.length→∀i,i≤l.length→(l.drop i).Sublist (d.drop j)→zaQ step ((i:Int),(j:Int))=some (l.length:Int):=by
 intro m
 induction m with
 |zero=>
  intro j hj i hi hs
  obtain rfl:j=d.length:=by omega
  rw[List.drop_length]at hs
  have:l.length≤i:=List.drop_eq_nil_iff.1 (List.sublist_nil.1 hs)
  obtain rfl:i=l.length:=by omega
  exact zaz (h2 _ _ (.inl rfl) (Nat.le_refl _) (Nat.le_refl _))
 |succ m ih=>
  intro j hj i hi hs
  by_cases hl:i=l.length
  ·subst hl;exact zaz (h2 _ _ (.inl rfl) (Nat.le_refl _) (by omega))
  ·have hi':i<l.length:=by omega
   have hj':j<d.length:=by omega
   rw[zaM (h1 i j hi' hj')]
   rw[List.drop_eq_getElem_cons hi',List.drop_eq_getElem_cons hj']at hs
   by_cases e:d[j]=l[i]
   ·rw[if_pos e]
    refine ih (j+1) (by omega) (i+1) hi' ?_
    rcases zrX hs with h|h
    ·exact h.2
    ·exact(List.sublist_cons_self _ _).trans h
   ·rw[if_neg e]
    refine ih (j+1) (by omega) i hi ?_
    rw[List.drop_eq_getElem_cons hi']
    rcases zrX hs with h|h
    ·exact absurd h.1.symm e
    ·exact h
theorem zkq (f:Forest) (a b c:Int) (_:Forest.ok f) (_:IntKind.i64.min≤a∧a≤IntKind.i64.max) (_:IntKind.i64.min≤b∧b≤IntKind.i64.max) (_:IntKind.i64.min≤c∧c≤IntKind.i64.max) (hb:D.bulkAll [eForest f,.int .i64 a,.int .i64 b,.int .i64 c]≤1048576):pc prog 13 [eForest f,.int .i64 a,.int .i64 b,.int .i64 c]=some (.bool true):=by
 have hf:=zjk hb
 refine zNM f a b c _ ?_
 unfold P13
 rw[zeK,zap (e:=D.bool),Option.bind_some,if_neg (by simp),zmL f a hf,zrW f a hf,zqD f a hf]
 simp only[zap (e:=eT2 (eSl (D.int .i64)) (D.int .i64)),zap (e:=eT2 (D.int .i64) (D.int .i64)),Option.bind_some]
 by_cases h0:zaI f.nodes.l [a]=0
 case neg=>rw[if_neg h0,if_neg h0,if_neg h0,if_pos (by simp[h0])];simp
 obtain⟨hr,hh⟩:=zaG.1 h0
 have ha:isN f.nodes.l a:=hh a (by simp)
 have hl40:(zbG f.nodes.l a).length≤2^40:=by have:=zmF hr ha;have:=hr.1;omega
 have hd40:(zbh f.nodes.l a).length≤2^40:=by have:=zjm hr ha;have:=hr.1;omega
 rw[if_pos h0,if_pos h0,if_pos h0,if_neg (by simp)]
 dsimp only
 have hloop:=zCr (step:=zdf f a b c (⟨false,zbG f.nodes.l a⟩,0) (⟨false,zbh f.nodes.l a⟩,0) (zmU f.nodes.l a,0)) (l:=zbG f.nodes.l a) (d:=zbh f.nodes.l a) (fun i j hi hj=>by
  have hw1:=zaT (show i<2^62 by omega)
  have hw2:=zaT (show j<2^62 by omega)
  simp only[zdf,zby hi,zby hj,Option.bind_some,hw1,hw2]
  rw[if_pos (by rw[zms];simp;omega)]
  by_cases e:(zbh f.nodes.l a)[j]=(zbG f.nodes.l a)[i]
  ·rw[if_pos (by simp[e]),if_pos e];rfl
  ·rw[if_neg (by simp[e]),if_neg e];rfl) (fun i j hij hi hj=>by
  simp only[zdf]
  rw[if_neg (by rw[zms];simp;omega)]) (zbh f.nodes.l a).length 0 (by omega) 0 (by omega) (by rw[List.drop_zero,List.drop_zero];exact zCo hr a ha)
 rw[show((0:Nat):Int)=0 from rfl]at hloop
 rw[hloop,Option.bind_some,zes f a b hf,zes f b c hf,zes f a c hf]
 simp only[zap (e:=eT2 D.bool (D.int .i64)),Option.bind_some]
 by_cases h1:zaI f.nodes.l [a,b]=0
 case neg=>rw[if_neg h1,if_pos (by simp[h1])];simp
 by_cases h2:zaI f.nodes.l [b,c]=0
 case neg=>rw[if_neg h2,if_pos (by simp[h2])];simp
 have hbN:isN f.nodes.l b:=(zaG.1 h1).2 b (by simp)
 have hcN:isN f.nodes.l c:=(zaG.1 h2).2 c (by simp)
 have h3:zaI f.nodes.l [a,c]=0:=zaG.2 ⟨hr,by simpa using⟨ha,hcN⟩⟩
 obtain⟨t1,t2,t3⟩:=zyR hr a ha
 have h4:zaI f.nodes.l [zmU f.nodes.l a,a]=0:=zaG.2 ⟨hr,by simpa using⟨t3,ha⟩⟩
 have h5:zaI f.nodes.l [zmU f.nodes.l a]=0:=zaG.2 ⟨hr,by simpa using t3⟩
 rw[if_pos h1,if_pos h2,if_pos h3,if_neg (by simp),zes f _ a hf,zqD f _ hf,if_pos h4,if_pos h5]
 simp only[zap (e:=eT2 D.bool (D.int .i64)),zap (e:=eT2 (D.int .i64) (D.int .i64)),Option.bind_some]
 rw[zcS ⟨false,zbh f.nodes.l a⟩ b hd40,zap (e:=D.int .i64),Option.bind_some,if_pos (by simp),zmO hr t3 t2,decide_eq_true t1]
 have e1:decide (0≤idx (zbh f.nodes.l a) b)=decide (a∈upc f.nodes.l b):=by rw[decide_eq_decide,zkm];exact zrV hr ha
 dsimp only
 rw[e1,if_pos (by simp)]
 by_cases k1:a∈upc f.nodes.l b
 ·by_cases k2:b∈upc f.nodes.l c
  ·rw[decide_eq_true (zyO hr k1 _ k2)];simp
  ·rw[decide_eq_false k2];simp
 ·rw[decide_eq_false k1];simp
end Go.Proofs.Ytfleilibjdgcjaa.O
