/- Shaken copy of a longer text: what one law needs. Its conditions: none. -/
import Derived.Test.YtfleilibjdgcjaaZOSpFoE
set_option linter.unusedSimpArgs false
set_option linter.unusedVariables false
set_option linter.unusedSimpArgs false
set_option linter.unusedVariables false
set_option linter.unusedSectionVars false
set_option linter.unnecessarySimpa false
namespace Go.Proofs.Ytfleilibjdgcjaa.O
open Go.AI
theorem zFA {l r:List Int} {x:Int} (h:x∉l):idx (l++x::r) x=l.length:=by
 refine zyC (List.findIdx?_eq_some_iff_getElem.2 ⟨by simp,by simp,fun j hj=> ?_⟩)
 rw[List.getElem_append_left (by omega)]
 simp only[beq_iff_eq]
 intro e
 exact h (e▸List.getElem_mem _)
theorem zeN {f:List Node} {a b:Int}:zaI f [a,b]=0↔zaI f [a]=0∧zaI f [b]=0:=by
 rw[zaG,zaG,zaG]
 simp only[List.mem_cons,List.mem_singleton,List.not_mem_nil,or_false,forall_eq_or_imp,forall_eq]
 exact⟨fun⟨h1,h2,h3⟩=>⟨⟨h1,h2⟩,h1,h3⟩,fun⟨⟨h1,h2⟩,_,h3⟩=>⟨h1,h2,h3⟩⟩
theorem total {f:List Node} {a b c:Int} (hr:zaO f) (ha:isN f a) (hb:isN f b) (hc:isN f c):
 ((zeJ f a b).2=true→(zeJ f b c).2=true→(zeJ f a c).2=true∧¬((zeJ f a b).1≤0∧(zeJ f b c).1≤0∧0<(zeJ f a c).1))∧(-1≤(zeJ f a b).1∧(zeJ f a b).1≤1)∧
 ((zeJ f a b).2=true→((zeJ f a b).1=0↔a=b))∧((zeJ f a b).2=false→(zeJ f a b).1=0)∧
 ((zeJ f a b).2=decide (0≤idx (zbG f (root f a)) b))∧((zeJ f a b).2=true→(zeJ f a b).1=sgn (idx (zbG f (root f a)) a-idx (zbG f (root f a)) b)):=by
 obtain⟨g1,g2,g3⟩:=zeI hr a ha
 have hma:a∈zbG f (root f a):=(zmB hr g3).2 g1
 have hx:∀y,isN f y→(root f a=root f y↔y∈zbG f (root f a)):=fun y hy=>(mem_root hr ha hy).symm
 have cm:∀x y,x∈zbG f (root f a)→y∈zbG f (root f a)→cmpL (way f x) (way f y)=zoR (idx (zbG f (root f a)) x) (idx (zbG f (root f a)) y):=fun x y h1 h2=>zFx hr g3 h1 h2
 have ab:(zeJ f a b).2=decide (root f a=root f b):=by
  unfold zeJ;by_cases h:root f a=root f b
  ·rw[if_pos h,decide_eq_true h]
  ·rw[if_neg h,decide_eq_false h]
 have e1:root f a=root f b→zeJ f a b=(zoR (idx (zbG f (root f a)) a) (idx (zbG f (root f a)) b),true):=fun h=>by
  unfold zeJ;rw[if_pos h,cm a b hma ((hx b hb).1 h)]
 refine⟨fun h1 h2=> ?_,?_,fun h1=> ?_,fun h1=> ?_,?_,fun h1=> ?_⟩
 ·rw[ab,decide_eq_true_eq]at h1
  have h2':root f b=root f c:=by
   unfold zeJ at h2;by_cases h:root f b=root f c
   ·exact h
   ·rw[if_neg h]at h2;cases h2
  have h3:=h1.trans h2'
  have mb:=(hx b hb).1 h1
  have mc:=(hx c hc).1 h3
  have e2:zeJ f b c=(zoR (idx (zbG f (root f a)) b) (idx (zbG f (root f a)) c),true):=by unfold zeJ;rw[if_pos h2',cm b c mb mc]
  have e3:zeJ f a c=(zoR (idx (zbG f (root f a)) a) (idx (zbG f (root f a)) c),true):=by unfold zeJ;rw[if_pos h3,cm a c hma mc]
  rw[e1 h1,e2,e3]
  refine⟨rfl,?_⟩
  unfold zoR
  dsimp only
  rintro⟨k1,k2,k3⟩
  split at k1<;>split at k2<;>split at k3<;>(try split at k1)<;>(try split at k2)<;>(try split at k3)<;>omega
 ·by_cases h:root f a=root f b
  ·rw[e1 h];unfold zoR;dsimp only;constructor<;>(split;omega;split<;>omega)
  ·unfold zeJ;rw[if_neg h];simp
 ·rw[ab,decide_eq_true_eq]at h1
  rw[e1 h1]
  have mb:=(hx b hb).1 h1
  obtain⟨i,hi,e1,e2⟩:=zil hma
  obtain⟨j,hj,e3,e4⟩:=zil mb
  dsimp only
  rw[e2,e4]
  unfold zoR
  constructor
  ·intro h
   split at h
   ·cases h
   ·split at h
    ·cases h
    ·have:i=j:=by omega
     subst this;exact e1.symm.trans e3
  ·intro h
   subst h
   rw[e2]at e4
   rw[if_neg (by omega),if_neg (by omega)]
 ·rw[ab,decide_eq_false_iff_not]at h1
  unfold zeJ;rw[if_neg h1]
 ·rw[ab,decide_eq_decide,zkm];exact hx b hb
 ·rw[ab,decide_eq_true_eq]at h1
  rw[e1 h1]
  dsimp only
  unfold zoR sgn
  split
  ·rw[if_pos (by omega)]
  ·split
   ·rw[if_neg (by omega),if_pos (by omega)]
   ·rw[if_neg (by omega),if_neg (by omega)]
theorem zmM (f:Forest) (a b c:Int) (_:Forest.ok f) (_:IntKind.i64.min≤a∧a≤IntKind.i64.max) (_:IntKind.i64.min≤b∧b≤IntKind.i64.max) (_:IntKind.i64.min≤c∧c≤IntKind.i64.max) (hb:D.bulkAll [eForest f,.int .i64 a,.int .i64 b,.int .i64 c]≤1048576):pc prog 14 [eForest f,.int .i64 a,.int .i64 b,.int .i64 c]=some (.bool true):=by
 have hf:=zjk hb
 refine zNN f a b c _ ?_
 unfold P14
 rw[zeK,zap (e:=D.bool),Option.bind_some,if_neg (by simp),zko f a b hf,zko f b c hf,zko f a c hf]
 simp only[zap (e:=eT3 (D.int .i64) D.bool (D.int .i64)),Option.bind_some]
 by_cases h1:zaI f.nodes.l [a,b]=0
 case neg=>rw[if_neg h1,if_pos (by simp[h1])]
 by_cases h2:zaI f.nodes.l [b,c]=0
 case neg=>rw[if_neg h2,if_pos (by simp[h2])]
 have h3:zaI f.nodes.l [a,c]=0:=zeN.2 ⟨(zeN.1 h1).1,(zeN.1 h2).2⟩
 have ha0:=(zeN.1 h1).1
 obtain⟨hr,hab⟩:=zaG.1 h1
 obtain⟨ha,hbN⟩:=zfg.1 hab
 have hc:isN f.nodes.l c:=(zaG.1 h2).2 c (by simp)
 obtain⟨t1,t2,t3,t4,t5,t6⟩:=total hr ha hbN hc
 obtain⟨g1,g2,g3⟩:=zeI hr a ha
 have hr0:zaI f.nodes.l [root f.nodes.l a]=0:=zaG.2 ⟨hr,by simpa using g3⟩
 obtain⟨pre,post,n1,n2⟩:=zCm f a hf ha0
 have hlen:(zbG f.nodes.l (root f.nodes.l a)).length≤2^40:=by have:=zmF hr g3;have:=hr.1;omega
 have hnd:=zoQ hr g3
 have hapre:a∉pre:=by
  rw[n1]at hnd
  intro h
  exact(List.nodup_append.1 hnd).2.2 a h a (by simp) rfl
 have hapost:a∉post:=by
  rw[n1]at hnd
  exact(List.nodup_cons.1 (List.nodup_append.1 hnd).2.1).1
 have hia:idx (zbG f.nodes.l (root f.nodes.l a)) a=pre.length:=by rw[n1];exact zFA hapre
 have hll:(zbG f.nodes.l (root f.nodes.l a)).length=pre.length+(post.length+1):=by rw[n1];simp
 rw[if_pos h1,if_pos h2,if_pos h3]
 dsimp only
 rw[if_neg (by simp)]
 generalize (zeJ f.nodes.l a b).1=m at*
 generalize (zeJ f.nodes.l a b).2=s at*
 generalize (zeJ f.nodes.l b c).1=n at*
 generalize (zeJ f.nodes.l b c).2=t at*
 generalize (zeJ f.nodes.l a c).1=k at*
 generalize (zeJ f.nodes.l a c).2=u at*
 have hcut:cut (zbG f.nodes.l (root f.nodes.l a)) ((pre.length:Int)+1) ((zbG f.nodes.l (root f.nodes.l a)).length:Int)=some post:=by
  unfold cut
  rw[if_pos (by omega),hll,show((pre.length:Int)+1).toNat=(pre++[a]).length by simp,n1,show pre++a::post=(pre++[a])++post by simp,List.drop_left]
  rw[List.take_of_length_le (by simp;omega)]
 have hmb:decide (m< -1)=false:=by rw[decide_eq_false_iff_not];omega
 have hmc:decide (1<m)=false:=by rw[decide_eq_false_iff_not];omega
 by_cases hst:(bif s then t else false)=true
 ·rw[if_pos hst]
  obtain⟨rfl,rfl⟩:=zaq hst
  obtain⟨rfl,t7⟩:=t1 rfl rfl
  have hz:(bif (bif (decide (m≤0))then(decide (n≤0))else false)then(decide (0<k))else false)=false:=by
   rw[zms,zms]
   cases hh:(decide (m≤0)&&decide (n≤0)&&decide (0<k))with
   |false=>rfl
   |true=>simp only[Bool.and_eq_true,decide_eq_true_eq]at hh;exact(t7 ⟨hh.1.1,hh.1.2,hh.2⟩).elim
  have hq:((m==0)==(a==b))=true:=by
   have:=t3 rfl
   by_cases hm:m=0
   ·rw[show(a==b)=true by simpa using this.1 hm,hm];rfl
   ·rw[show(m==0)=false by simpa using hm,show(a==b)=false by simpa using fun e=>hm (this.2 e)];rfl
  rw[hz,hmb,hmc,hq]
  simp only[cond_true,cond_false,Bool.not_true,Bool.not_false,if_true,if_false,Bool.false_eq_true,Option.bind_some]
  rw[zhr f a hf,if_pos ha0,zap (e:=eT2 (D.int .i64) (D.int .i64)),Option.bind_some]
  dsimp only
  rw[zmL f _ hf,if_pos hr0,zap (e:=eT2 (eSl (D.int .i64)) (D.int .i64)),Option.bind_some,n2,zap (e:=eT2 (D.int .i64) (D.int .i64)),Option.bind_some]
  dsimp only
  rw[zcS ⟨false,zbG f.nodes.l (root f.nodes.l a)⟩ a hlen,zap (e:=D.int .i64),Option.bind_some,zcS ⟨false,zbG f.nodes.l (root f.nodes.l a)⟩ b hlen]
  simp only[zap (e:=D.int .i64),Option.bind_some]
  rw[hia,show IntKind.wrap .i64 ((pre.length:Int)+1)=(pre.length:Int)+1 from w64 (by omega) (by omega),hcut,Option.bind_some,zcS ⟨false,post⟩ a (by dsimp only;omega),zap (e:=D.int .i64),Option.bind_some]
  dsimp only
  rw[zmC hapost,if_pos (by simp),Option.bind_some,if_neg (by simp),if_pos (by rw[←t5];simp)]
  have hib:=zyD (l:=zbG f.nodes.l (root f.nodes.l a)) (x:=b)
  have hib':=zyE (l:=zbG f.nodes.l (root f.nodes.l a)) (x:=b)
  rw[show IntKind.wrap .i64 ((pre.length:Int)-idx (zbG f.nodes.l (root f.nodes.l a)) b)=(pre.length:Int)-idx (zbG f.nodes.l (root f.nodes.l a)) b from w64 (by omega) (by omega),zrU,zap (e:=D.int .i64),Option.bind_some,←hia,←t6 rfl,if_neg (by simp),hia]
  rcases hp:post with _|⟨y,post'⟩
  ·rw[hp]at hll
   rw[if_neg (by rw[hll];simp),hll];simp
  ·rw[hp]at hll
   have hrd:rd (zbG f.nodes.l (root f.nodes.l a)) ((pre.length:Int)+1)=some y:=by
    unfold rd
    rw[if_pos (by omega),show((pre.length:Int)+1).toNat=pre.length+1 by omega,n1,hp]
    simp
   rw[if_pos (by rw[hll];simp;omega),hrd,Option.bind_some];simp
 ·rw[if_neg hst,hmb,hmc]
  have hq:(if(!(bif s then(!((m==0)==(a==b)))else false))=true then some (bif (!s)then(!(m==0))else false)else some true)=some false:=by
   cases s with
   |false=>rw[show m=0 from t4 rfl];rfl
   |true=>
    have:=t3 rfl
    by_cases hm:m=0
    ·rw[show(a==b)=true by simpa using this.1 hm,hm];rfl
    ·rw[show(m==0)=false by simpa using hm,show(a==b)=false by simpa using fun e=>hm (this.2 e)];rfl
  rw[hq,if_pos (show(!(bif false then true else false))=true from rfl),Option.bind_some,if_neg (by simp)]
  rw[zhr f a hf,if_pos ha0,zap (e:=eT2 (D.int .i64) (D.int .i64)),Option.bind_some]
  dsimp only
  rw[zmL f _ hf,if_pos hr0,zap (e:=eT2 (eSl (D.int .i64)) (D.int .i64)),Option.bind_some,n2,zap (e:=eT2 (D.int .i64) (D.int .i64)),Option.bind_some]
  dsimp only
  rw[zcS ⟨false,zbG f.nodes.l (root f.nodes.l a)⟩ a hlen,zap (e:=D.int .i64),Option.bind_some,zcS ⟨false,zbG f.nodes.l (root f.nodes.l a)⟩ b hlen]
  simp only[zap (e:=D.int .i64),Option.bind_some]
  rw[hia,show IntKind.wrap .i64 ((pre.length:Int)+1)=(pre.length:Int)+1 from w64 (by omega) (by omega),hcut,Option.bind_some,zcS ⟨false,post⟩ a (by dsimp only;omega),zap (e:=D.int .i64),Option.bind_some]
  dsimp only
  rw[zmC hapost,if_pos (by simp),Option.bind_some,if_neg (by simp),if_pos (by rw[←t5];simp)]
  by_cases hs:s=true
  ·subst hs
   rw[if_pos rfl]
   have hib:=zyD (l:=zbG f.nodes.l (root f.nodes.l a)) (x:=b)
   have hib':=zyE (l:=zbG f.nodes.l (root f.nodes.l a)) (x:=b)
   rw[show IntKind.wrap .i64 ((pre.length:Int)-idx (zbG f.nodes.l (root f.nodes.l a)) b)=(pre.length:Int)-idx (zbG f.nodes.l (root f.nodes.l a)) b from w64 (by omega) (by omega),zrU,zap (e:=D.int .i64),Option.bind_some,←hia,←t6 rfl,if_neg (by simp),hia]
   rcases hp:post with _|⟨y,post'⟩
   ·rw[hp]at hll
    rw[if_neg (by rw[hll];simp),hll];simp
   ·rw[hp]at hll
    have hrd:rd (zbG f.nodes.l (root f.nodes.l a)) ((pre.length:Int)+1)=some y:=by
     unfold rd
     rw[if_pos (by omega),show((pre.length:Int)+1).toNat=pre.length+1 by omega,n1,hp]
     simp
    rw[if_pos (by rw[hll];simp;omega),hrd,Option.bind_some];simp
  ·rw[if_neg hs]
   rcases hp:post with _|⟨y,post'⟩
   ·rw[hp]at hll
    rw[if_neg (by rw[hll];simp),hll];simp
   ·rw[hp]at hll
    have hrd:rd (zbG f.nodes.l (root f.nodes.l a)) ((pre.length:Int)+1)=some y:=by
     unfold rd
     rw[if_pos (by omega),show((pre.length:Int)+1).toNat=pre.length+1 by omega,n1,hp]
     simp
    rw[if_pos (by rw[hll];simp;omega),hrd,Option.bind_some];simp
end Go.Proofs.Ytfleilibjdgcjaa.O
