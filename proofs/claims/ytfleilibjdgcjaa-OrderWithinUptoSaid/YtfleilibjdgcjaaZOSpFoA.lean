/- Shaken copy of a longer text: what one law needs. Its conditions: none. -/
import Derived.Test.YtfleilibjdgcjaaZOSpFo9
set_option linter.unusedSimpArgs false
set_option linter.unusedVariables false
set_option linter.unusedSimpArgs false
set_option linter.unusedVariables false
set_option linter.unusedSectionVars false
set_option linter.unnecessarySimpa false
namespace Go.Proofs.Ytfleilibjdgcjaa.O
open Go.AI
theorem zCh {step:List Int×Int×Int→Option ((List Int×Int×Int)⊕List Int)} {l:List Int} (hl:l.length≤2^40)
 (h:∀(i j:Nat) (c:List Int) (hi:i<c.length) (hj:j<c.length),c.length=l.length→i<j→step (c,(i:Int),(j:Int))=some (.inl ((c.set i c[j]).set j c[i],((i+1:Nat):Int),(j:Int)-1)))
 (he:∀(i j:Int) (c:List Int),j≤i→step (c,i,j)=some (.inr c)):zaQ step (l,0,(l.length:Int)-1)=some l.reverse:=by
 have key:∀m (i:Nat) (c:List Int),l.length≤2*i+m→c.length=l.length→(∀k,k<l.length→c[k]? =if k<i∨l.length-1-i<k then l[l.length-1-k]? else l[k]?)→zaQ step (c,(i:Int),(l.length:Int)-1-i)=some l.reverse:=by
  intro m
  induction m using Nat.strongRecOn with
  |_ m ih=>
   intro i c hm hc hk
   by_cases hij:(i:Int)<(l.length:Int)-1-i
   ·have hj:l.length-1-i<c.length:=by omega
    have hi:i<c.length:=by omega
    have hs:=h i (l.length-1-i) c hi hj hc (by omega)
    rw[show((l.length-1-i:Nat):Int)=(l.length:Int)-1-i by omega]at hs
    rw[zaM hs,show(l.length:Int)-1-i-1=(l.length:Int)-1-((i+1:Nat):Int) by omega]
    refine ih (m-1) (by omega) (i+1) _ (by omega) (by rw[List.length_set,List.length_set];exact hc) fun k hkl=> ?_
    have e1:c[i]? =l[i]? :=by rw[hk i (by omega),if_neg (by omega)]
    have e2:c[l.length-1-i]? =l[l.length-1-i]? :=by rw[hk _ (by omega),if_neg (by omega)]
    rw[List.getElem?_set,List.length_set]
    by_cases k1:l.length-1-i=k
    ·rw[if_pos k1,if_pos (by omega),if_pos (by omega),←List.getElem?_eq_getElem hi,e1,show l.length-1-k=i by omega]
    ·rw[if_neg k1,List.getElem?_set]
     by_cases k2:i=k
     ·rw[if_pos k2,if_pos (by omega),if_pos (by omega),←List.getElem?_eq_getElem hj,e2,show l.length-1-k=l.length-1-i by omega]
     ·rw[if_neg k2,hk k hkl]
      by_cases k3:k<i∨l.length-1-i<k
      ·rw[if_pos k3,if_pos (by omega)]
      ·rw[if_neg k3,if_neg (by omega)]
   ·rw[zaz (he _ _ c (by omega))]
    congr 1
    refine List.ext_getElem? fun k=> ?_
    rcases Nat.lt_or_ge k l.length with hkl|hkl
    ·rw[List.getElem?_reverse hkl,hk k hkl]
     split
     ·rfl
     ·rw[show l.length-1-k=k by omega]
    ·rw[List.getElem?_eq_none (by omega),List.getElem?_eq_none (by rw[List.length_reverse];exact hkl)]
 have:=key l.length 0 l (by omega) rfl (fun k hk=>by rw[if_neg (by omega)])
 rw[show(l.length:Int)-1-((0:Nat):Int)=(l.length:Int)-1 by omega]at this
 exact this
theorem zyI (f:Forest) (h:Int) (hf:Fit f.nodes.l) (hr:zaO f.nodes.l) (hh:isN f.nodes.l h):pc prog 123 [eForest f,.int .i64 h]=some (eSl (D.int .i64) ⟨false,way f.nodes.l h⟩):=by
 have hroom:AI.roomBytes=2^46:=rfl
 refine zLz f h _ ?_
 unfold zLy
 have hne:(!(h==0))=true:=by unfold isN at hh;simp;omega
 have key:∀h,(h=0∨isN f.nodes.l h)→∀acc:List Int,acc.length+(anc f.nodes.l h).length≤2^40→zaQ (zcJ f) (acc,h)=some (0,acc++(anc f.nodes.l h).map (plc f.nodes.l)):=by
  refine zcM hr (fun h hh hk acc hl=> ?_) fun h hh ih _ acc hl=> ?_
  ·obtain rfl:=hk.resolve_right hh
   rw[zcN zbB]
   exact zaz (by simp only[zcJ,List.map_nil,List.append_nil];rfl)
  ·have hne:(!(h==0))=true:=by unfold isN at hh;simp;omega
   rw[zcn hr hh,List.length_cons]at hl
   rw[zaM (y:=(acc++[plc f.nodes.l h],par f.nodes.l h))]
   ·rw[ih (zyH hr h) _ (by simp only[List.length_append,List.length_singleton];omega),zcn hr hh,List.append_assoc];rfl
   ·simp only[zcJ,zoT f _ hf,zdC f _ hf.1,zap (e:=D.int .i64),zap (e:=eNode),Option.bind_some]
    rw[if_pos hne,if_pos (by rw[hroom];omega)];rfl
 have hL:=zyy f.nodes.l (par f.nodes.l h)
 have h40:=hr.1
 rw[if_pos hne,zoT f _ hf,zdC f _ hf.1,zap (e:=D.int .i64),zap (e:=eNode),Option.bind_some,if_pos (by rw[hroom];omega),Option.bind_some,show(nodeD f.nodes.l h).parent=par f.nodes.l h from rfl,key _ (zyH hr h) _ (by simp only[List.length_singleton];omega),Option.bind_some]
 dsimp only
 have hway:way f.nodes.l h=([plc f.nodes.l h]++(anc f.nodes.l (par f.nodes.l h)).map (plc f.nodes.l)).reverse:=by
  unfold way;rw[zcn hr hh];rfl
 rw[hway]
 have hlen:([plc f.nodes.l h]++(anc f.nodes.l (par f.nodes.l h)).map (plc f.nodes.l)).length≤2^40:=by simp;omega
 generalize [plc f.nodes.l h]++(anc f.nodes.l (par f.nodes.l h)).map (plc f.nodes.l)=l at hlen
 rw[show IntKind.wrap .i64 (((l.length:Nat):Int)-1)=(l.length:Int)-1 from w64 (by omega) (by omega),zCh (l:=l) hlen ?_ ?_,Option.bind_some,if_pos (by simp)]
 ·intro i j c hi hj hc hij
  have hw:=zaT (show i<2^62 by omega)
  simp only[zdp,hw,w64 (show-9223372036854775808≤(j:Int)-1 by omega) (by omega)]
  rw[if_pos (decide_eq_true (by omega)),←hc,zmx hj,Option.bind_some,zmx hi,Option.bind_some,Int.toNat_natCast,Int.toNat_natCast]
  have hz:∃z,rdA (c.set i c[j]) c.length (j:Int)=some z:=⟨_,by
   unfold rdA
   rw[if_pos ⟨by omega,by omega⟩,Int.toNat_natCast]
   exact List.getElem?_eq_getElem (by rw[List.length_set];exact hj)⟩
  obtain⟨z,hz⟩:=hz
  rw[hz]
  rfl
 ·intro i j c hij
  simp only[zdp]
  rw[if_neg (by simp;omega)]
theorem zyJ (a b:Int):pc prog 180 [.int .i64 a,.int .i64 b]=some (.int .i64 (zoR a b)):=by
 have hn:∀a,pc prog 213 [.int .i64 a]=some (.bool false):=fun a=>zMz a _ (by unfold zMy;simp)
 refine zLT a b _ ?_
 unfold zLS zoR
 rw[hn,hn,zap (e:=D.bool),Option.bind_some,Option.bind_some,if_neg (by simp),if_neg (by simp)]
 by_cases h1:a<b
 ·rw[if_pos (by simpa using h1),if_pos h1]
 ·rw[if_neg (by simpa using h1),if_neg h1]
  by_cases h2:b<a
  ·rw[if_pos (by simpa using h2),if_pos h2]
  ·rw[if_neg (by simpa using h2),if_neg h2]
theorem zyK (a b:Int) (x y:List Int):cmpL (a::x) (b::y)=if zoR a b≠0 then zoR a b else cmpL x y:=by
 show(if a<b then-1 else if b<a then 1 else cmpL x y)=_
 unfold zoR
 by_cases h1:a<b
 ·rw[if_pos h1,if_pos h1,if_pos (by omega)]
 ·rw[if_neg h1,if_neg h1]
  by_cases h2:b<a
  ·rw[if_pos h2,if_pos h2,if_pos (by omega)]
  ·rw[if_neg h2,if_neg h2,if_neg (by omega)]
theorem zmH (a b:Sl Int) (ha:a.l.length≤2^40):pc prog 122 [.list a.n (a.l.map (D.int .i64)),.list b.n (b.l.map (D.int .i64))]=some (.int .i64 (cmpL a.l b.l)):=by
 refine zLx a b _ ?_
 unfold zLw
 have key:∀m k,k+m=a.l.length→k≤b.l.length→∃r,zaQ (zbO a b) (k:Int)=some r∧(match r with| .inl ()=>(if a.l.length<b.l.length then(-1:Int)else 0)| .inr q=>q)=cmpL (a.l.drop k) (b.l.drop k):=by
  intro m
  induction m with
  |zero=>
   intro k hk hb
   obtain rfl:k=a.l.length:=by omega
   refine⟨.inl (),zaz ?_,?_⟩
   ·simp only[zbO]
    rw[if_neg (by simp)]
   ·rw[List.drop_length]
    dsimp only
    by_cases h:a.l.length<b.l.length
    ·rw[if_pos h,List.drop_eq_getElem_cons h];rfl
    ·rw[if_neg h,List.drop_eq_nil_of_le (by omega)];rfl
  |succ m ih=>
   intro k hk hb
   have hlt:k<a.l.length:=by omega
   have hw:=zaT (show k<2^62 by omega)
   rw[List.drop_eq_getElem_cons hlt]
   by_cases hbl:k<b.l.length
   ·rw[List.drop_eq_getElem_cons hbl,zyK]
    by_cases h0:zoR a.l[k] b.l[k]=0
    ·obtain⟨r,h1,h2⟩:=ih (k+1) (by omega) (by omega)
     refine⟨r,?_,?_⟩
     ·rw[←h1]
      refine zaM ?_
      simp only[zbO,zby hlt,zby hbl,Option.bind_some,zyJ,zap (e:=D.int .i64),hw]
      rw[if_pos (decide_eq_true (by omega)),if_neg (by simp;omega),if_neg (by simpa using h0)]
     ·rw[h2,if_neg (by simpa using h0)]
    ·refine⟨.inr (zoR a.l[k] b.l[k]),zaz ?_,?_⟩
     ·simp only[zbO,zby hlt,zby hbl,Option.bind_some,zyJ,zap (e:=D.int .i64),hw]
      rw[if_pos (decide_eq_true (by omega)),if_neg (by simp;omega),if_pos (by simpa using h0)]
     ·rw[if_pos h0]
   ·refine⟨.inr 1,zaz ?_,?_⟩
    ·simp only[zbO,zby hlt,Option.bind_some]
     rw[if_pos (decide_eq_true (by omega)),if_pos (by simp;omega)]
    ·have hd:b.l.drop k=[]:=List.drop_eq_nil_of_le (by omega)
     rw[hd];rfl
 obtain⟨r,h1,h2⟩:=key a.l.length 0 (by omega) (by omega)
 rw[show zaQ (zbO a b) 0=some r from h1,Option.bind_some]
 rw[List.drop_zero,List.drop_zero]at h2
 rcases r with u|q
 ·dsimp only at h2⊢
  rw[←h2]
  by_cases h:a.l.length<b.l.length
  ·rw[if_pos h,if_pos (decide_eq_true (by omega))]
  ·rw[if_neg h,if_neg (by simp;omega)]
 ·dsimp only at h2⊢
  rw[h2]
theorem zFy (f:List Node) (h:Int):(way f h).length≤f.length+1:=by
 unfold way;rw[List.length_reverse,List.length_map];exact zyy f h
def zeJ (f:List Node) (a b:Int):Int×Bool:=if root f a=root f b then(cmpL (way f a) (way f b),true)else(0,false)
theorem zfg {f:List Node} {a b:Int}:(∀h∈[a,b],isN f h)↔isN f a∧isN f b:=by simp
theorem zko (f:Forest) (a b:Int) (hf:Fit f.nodes.l):pc prog 54 [eForest f,.int .i64 a,.int .i64 b]=some (eT3 (D.int .i64) D.bool (D.int .i64) (if zaI f.nodes.l [a,b]=0 then((zeJ f.nodes.l a b).1,(zeJ f.nodes.l a b).2,0)else(0,false,zaI f.nodes.l [a,b]))):=by
 refine zNy f a b _ ?_
 unfold P54
 have hfa:=zkj f ⟨false,[a,b]⟩ hf (by simp)
 dsimp only at hfa
 rw[hfa,zap (e:=D.int .i64),Option.bind_some]
 by_cases h0:zaI f.nodes.l [a,b]=0
 ·obtain⟨hr,hab⟩:=zaG.1 h0
  obtain⟨ha,hb⟩:=zfg.1 hab
  have h40:=hr.1
  rw[if_neg (by simp[h0]),if_pos h0,zmE f a hf hr ha,zmE f b hf hr hb,zap (e:=D.int .i64),zap (e:=D.int .i64),Option.bind_some,Option.bind_some]
  unfold zeJ
  by_cases he:root f.nodes.l a=root f.nodes.l b
  ·have hl:=zFy f.nodes.l a
   rw[if_neg (by simp[he]),if_pos he,zyI f a hf hr ha,zyI f b hf hr hb,zap (e:=eSl (D.int .i64)),zap (e:=eSl (D.int .i64)),Option.bind_some,Option.bind_some,zmH _ _ (by dsimp only;omega),zap (e:=D.int .i64)];rfl
  ·rw[if_pos (by simp[he]),if_neg he]
 ·rw[if_pos (by simp[h0]),if_neg h0]
def zIW (f:List Node) (a b:Int):Int:=
 if a=b then 0 else if(zeJ f a b).2=false then(if b<a then 35 else 37)else if b∈anc f a then 10 else if a∈anc f b then 20 else if 0<(zeJ f a b).1 then 2 else 4
theorem zqy (f:Forest) (a b:Int) (hf:Fit f.nodes.l):pc prog 20 [eForest f,.int .i64 a,.int .i64 b]=some (eT2 (D.int .i64) (D.int .i64) (if zaI f.nodes.l [a,b]=0 then(zIW f.nodes.l a b,0)else(0,zaI f.nodes.l [a,b]))):=by
 refine zNq f a b _ ?_
 unfold P20
 rw[zko f a b hf,zap (e:=eT3 (D.int .i64) D.bool (D.int .i64)),Option.bind_some]
 by_cases h0:zaI f.nodes.l [a,b]=0
 ·obtain⟨hr,hab⟩:=zaG.1 h0
  obtain⟨ha,hb⟩:=zfg.1 hab
  rw[if_pos h0,if_pos h0]
  dsimp only
  unfold zIW
  rw[if_neg (by simp)]
  by_cases he:a=b
  ·rw[if_pos (by simp[he]),if_pos he]
  ·rw[if_neg (by simpa using he),if_neg he]
   rcases hc:(zeJ f.nodes.l a b).2 with _|_
   ·rw[if_pos rfl]
    by_cases hl:b<a
    ·rw[if_pos (by simp[hl]),if_pos hl]
    ·rw[if_neg (by simp[hl]),if_pos (by simp),if_neg hl]
   ·simp only[Bool.not_true,cond_false,Bool.false_eq_true,if_false,Bool.true_eq_false]
    rw[zff f b a hf hr (.inr ha),zff f a b hf hr (.inr hb),zap (e:=D.bool),zap (e:=D.bool),Option.bind_some,Option.bind_some]
    by_cases k1:b∈anc f.nodes.l a
    ·rw[if_pos (by simpa using k1),if_pos k1]
    ·rw[if_neg (by simpa using k1),if_neg k1]
     by_cases k2:a∈anc f.nodes.l b
     ·rw[if_pos (by simpa using k2),if_pos k2]
     ·rw[if_neg (by simpa using k2),if_neg k2]
      by_cases k3:0<(zeJ f.nodes.l a b).1
      ·rw[if_pos (by simpa using k3),if_pos k3]
      ·rw[if_neg (by simpa using k3),if_neg k3]
 ·rw[if_neg h0,if_neg h0,if_pos (by simpa using h0)]
end Go.Proofs.Ytfleilibjdgcjaa.O
