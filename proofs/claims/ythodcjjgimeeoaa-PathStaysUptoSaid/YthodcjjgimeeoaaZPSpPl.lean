/- Shaken copy of a longer text: what one law needs. Its conditions: none. -/
import Derived.Test.YthodcjjgimeeoaaZPSpPp
set_option linter.unusedSimpArgs false
set_option linter.unusedVariables false
set_option linter.unusedSimpArgs false
set_option linter.unusedVariables false
set_option linter.unusedSectionVars false
set_option linter.unnecessarySimpa false
namespace Go.Proofs.Ythodcjjgimeeoaa.P
open Go.AI
theorem zfc:pc prog 41 []=some (.bool true):=zGw 60 (by kernel_rfl)
theorem zms {hand:Sl Assign} {l:List D} (hm:eSl zap hand∈l) (hb:D.bulkAll l≤1048576):zry hand.l:=by
 have h1:=ziO hm
 simp only[eSl,D.bulk]at h1
 have h0:=zcM (hand.l.map zap)
 simp only[List.length_map]at h0
 refine⟨by omega,fun x hx=> ?_⟩
 have h2:=ziO (List.mem_map_of_mem (f:=zap) hx)
 have h3:=zcM (x.nodes.l.map (D.int .i64))
 simp only[List.length_map]at h3
 simp only[zap,D.bulkAll,D.bulk]at h2
 omega
theorem zmt {f:List Node} {hand:List Assign} {t rel:Int} {comp:Bool} (hr:zaK f) (ht:isN f t):(zec f hand t rel comp).length≤f.length:=by
 obtain⟨h1,-,-,h4⟩:=zmd (hand:=hand) (rel:=rel) (comp:=comp) hr ht
 have hn:((zec f hand t rel comp).map (·.item)).Nodup:=by
  rw[List.nodup_iff_pairwise_ne,List.pairwise_map]
  exact h4.imp fun{a b} h e=>by rw[e]at h;omega
 have hs:(zec f hand t rel comp).map (·.item)⊆(List.range f.length).map fun k:Nat=>((k:Int)+1):=by
  intro x hx
  obtain⟨y,hy,rfl⟩:=List.mem_map.1 hx
  have:=(h1 y hy).1
  unfold isN at this
  rw[List.mem_map]
  exact⟨(y.item-1).toNat,List.mem_range.2 (by omega),by omega⟩
 have:=hn.length_le_of_subset hs
 simpa using this
theorem zeG (f:List Node) (hand:List Assign) (t rel:Int) (comp:Bool):((zcG f hand t rel comp).2≠0∧(zcG f hand t rel comp).1.l=[])∨(zqi f hand=0∧isN f t∧(rel=0∨isN f rel)∧(zcG f hand t rel comp).2=0∧(zcG f hand t rel comp).1.l=zec f hand t rel comp):=by
 unfold zcG
 by_cases h0:zqi f hand=0
 ·rw[if_pos h0]
  by_cases ht:isN f t
  ·rw[if_pos ht]
   by_cases hrel:rel=0∨isN f rel
   ·rw[if_pos hrel];exact .inr ⟨h0,ht,hrel,rfl,rfl⟩
   ·rw[if_neg hrel];exact .inl ⟨by simp,rfl⟩
  ·rw[if_neg ht];exact .inl ⟨by simp,rfl⟩
 ·rw[if_neg h0];exact .inl ⟨h0,rfl⟩
theorem zqk (f:Forest) (hand:Sl Assign) (target related:Int) (composed:Bool) (_:Forest.ok f) (_:Sl.ok (fun y=>Assign.ok y) hand) (_:IntKind.i64.min≤target∧target≤IntKind.i64.max) (_:IntKind.i64.min≤related∧related≤IntKind.i64.max) (_:True) (hb:D.bulkAll [zae f,eSl zap hand,.int .i64 target,.int .i64 related,.bool composed]≤1048576):pc prog 11 [zae f,eSl zap hand,.int .i64 target,.int .i64 related,.bool composed]=some (.bool true):=by
 have hf:Fit f.nodes.l:=zmj hb
 have hh:zry hand.l:=zms (by simp) hb
 refine zMm f hand target related composed _ ?_
 unfold P11
 rw[zfc,zaA (e:=D.bool),Option.bind_some,if_neg (by simp),ziQ f hand target related composed hf hh,zaA (e:=eT2 (eSl zau) (D.int .i64)),Option.bind_some]
 rcases zeG f.nodes.l hand.l target related composed with⟨h1,h2⟩|⟨h0,ht,hrel,h1,h2⟩
 ·rw[if_pos (by simpa using h1),h2];rfl
 rw[if_neg (by simp[h1])]
 generalize zcG f.nodes.l hand.l target related composed=r at*
 have hr:=zdN h0
 obtain⟨p1,p2,p3,p4⟩:=zmd (hand:=hand.l) (rel:=related) (comp:=composed) hr ht
 have hlen:=zmt (hand:=hand.l) (rel:=related) (comp:=composed) hr ht
 have h40:=hr.1
 rw[←h2]at p1 p2 p3 p4 hlen
 have hinner:∀(i:Nat) (hi:i<r.1.l.length) (n:Node×Bool),∀m k,k+m=i→zaU (zdl f hand target r (i:Int) n) (k:Int)=some (.inl ()):=by
  intro i hi n m
  induction m with
  |zero=>
   intro k hk
   obtain rfl:k=i:=by omega
   refine zaH ?_
   simp only[zdl]
   rw[if_neg (by simp)]
  |succ m ih=>
   intro k hk
   have hw:=zba (show k<2^62 by omega)
   have hne:=List.pairwise_iff_getElem.1 p4 k i (by omega) hi (by omega)
   rw[zaP (y:=((k+1:Nat):Int))]
   ·exact ih (k+1) (by omega)
   ·simp only[zdl,zbU hi,zbU (show k<r.1.l.length by omega),Option.bind_some,hw]
    rw[if_pos (decide_eq_true (by omega)),if_neg (by
     intro e
     simp only[beq_iff_eq]at e
     rw[e]at hne;omega)]
 have key:∀m k,k+m=r.1.l.length→zaU (zdm f hand target r) (k:Int)=some (.inl ()):=by
  intro m
  induction m with
  |zero=>
   intro k hk
   obtain rfl:k=r.1.l.length:=by omega
   refine zaH ?_
   simp only[zdm]
   rw[if_neg (by simp)]
  |succ m ih=>
   intro k hk
   have hl:k<r.1.l.length:=by omega
   have hw:=zba (show k<2^62 by omega)
   have hN:=(p1 _ (List.getElem_mem hl)).1
   have hin:=hinner k hl (nodeD f.nodes.l r.1.l[k].item,true) k 0 (by omega)
   have hfirst:(if((k:Int)==0)=true then(if(r.1.l[k].item==target)=true then some (!(r.1.l[k].target==target))else some true)else some false)=some false:=by
    by_cases hk0:k=0
    ·subst hk0
     have:=p2 r.1.l[0] (by simp[hl])
     rw[if_pos (by simp),if_pos (by simp[this.1])]
     simp[this.2]
    ·rw[if_neg (by simp;omega)]
   rw[zaP (y:=((k+1:Nat):Int))]
   ·exact ih (k+1) (by omega)
   ·simp only[zdm,zbU hl,Option.bind_some,hw,zlS f _ hf.1,zaA (e:=eT2 zam D.bool),ziH,decide_eq_true hN,hfirst]
    rw[show((0:Nat):Int)=0 from rfl]at hin
    rw[if_pos (decide_eq_true (by omega)),if_pos trivial,if_neg (by simp),hin,Option.bind_some]
    by_cases he:k+1=r.1.l.length
    ·rw[if_pos (by rw[←he];simp)]
    ·have hl2:k+1<r.1.l.length:=by omega
     have hnx:=p3 k r.1.l[k] r.1.l[k+1] (by simp[hl]) (by simp[hl2])
     have hN2:=(p1 _ (List.getElem_mem hl2)).1
     have hS:zfb f.nodes.l hand.l r.1.l[k].item=((zcd f.nodes.l hand.l r.1.l[k].item).1,0):=by unfold zfb;rw[if_pos h0,if_pos hN]
     rw[if_neg (by simp;omega),zhQ f hand _ hf hh,zaA (e:=eT2 (D.int .i64) (D.int .i64)),Option.bind_some,hS,if_neg (by simp)]
     dsimp only
     have hz:(zaM f.nodes.l hand.l target composed r.1.l[k].item).1≠0:=fun e=>zbe (e▸hnx▸hN2)
     rw[zbU hl2]
     simp only[Option.bind_some]
     rw[hnx]
     unfold zaM at hz⊢
     by_cases a1:(nodeD f.nodes.l r.1.l[k].item).kind=9
     ·rw[if_pos a1]at hz;exact absurd rfl hz
     ·rw[if_neg a1]at hz⊢
      by_cases a2:(nodeD f.nodes.l r.1.l[k].item).kind=12
      ·rw[if_pos a2]at hz⊢
       by_cases a3:composed=false∧r.1.l[k].item=root f.nodes.l target
       ·rw[if_pos a3]at hz;exact absurd rfl hz
       ·rw[if_neg a3]
        have:((nodeD f.nodes.l r.1.l[k].item).kind==12)=true:=by simpa using a2
        by_cases a4:(zcd f.nodes.l hand.l r.1.l[k].item).1=0<;>simp[a4,this]
      ·rw[if_neg a2]
       have b2:((nodeD f.nodes.l r.1.l[k].item).kind==12)=false:=by simpa using a2
       by_cases a4:(zcd f.nodes.l hand.l r.1.l[k].item).1=0
       ·simp[a4,b2,par]
       ·simp[a4,b2]
 have:=key r.1.l.length 0 (by omega)
 rw[show((0:Nat):Int)=0 from rfl]at this
 rw[this,Option.bind_some]
theorem zjT (f:Forest) (a:Int) (hf:Fit f.nodes.l) (hr:zaK f.nodes.l) (ha:isN f.nodes.l a):pc prog 46 [zae f,.int .i64 a]=some (eT2 (D.int .i64) (D.int .i64) (root f.nodes.l a,0)):=by
 refine zMr f a _ ?_
 unfold P46
 rw[zgY f a hf,zaA (e:=D.int .i64),Option.bind_some,zyE hr,if_pos ha,if_neg (by decide),zfz f a hf hr ha,zaA (e:=D.int .i64),Option.bind_some]
theorem zCL (f:Forest) (a b:Int) (hf:Fit f.nodes.l) (hr:zaK f.nodes.l) (ha:isN f.nodes.l a) (hb:isN f.nodes.l b):pc prog 45 [zae f,.int .i64 a,.int .i64 b]=some (.bool (decide (root f.nodes.l a∈upc f.nodes.l b)|| !((nodeD f.nodes.l (root f.nodes.l a)).kind==12))):=by
 refine zMq f a b _ ?_
 unfold P45
 have hR:=(zgV hr a ha).2.2
 rw[zjT f a hf hr ha,zaA (e:=eT2 (D.int .i64) (D.int .i64)),Option.bind_some,zlS f _ hf.1,zaA (e:=eT2 zam D.bool),Option.bind_some,zkR f _ b hf,if_pos (zfy.2 ⟨hr,zqh.2 ⟨hR,hb⟩⟩),zaA (e:=eT2 D.bool (D.int .i64)),Option.bind_some,ziH,decide_eq_true hR]
 rw[if_pos (by rfl)]
 dsimp only
 rw[bor]
theorem zov (f:Forest) (hand:Sl Assign) (target related:Int) (composed:Bool) (_:Forest.ok f) (_:Sl.ok (fun y=>Assign.ok y) hand) (_:IntKind.i64.min≤target∧target≤IntKind.i64.max) (_:IntKind.i64.min≤related∧related≤IntKind.i64.max) (_:True) (hb:D.bulkAll [zae f,eSl zap hand,.int .i64 target,.int .i64 related,.bool composed]≤1048576):pc prog 13 [zae f,eSl zap hand,.int .i64 target,.int .i64 related,.bool composed]=some (.bool true):=by
 have hf:Fit f.nodes.l:=zmj hb
 have hh:zry hand.l:=zms (by simp) hb
 refine zMn f hand target related composed _ ?_
 unfold P13
 rw[zfc,zaA (e:=D.bool),Option.bind_some,if_neg (by simp),ziQ f hand target related composed hf hh,zaA (e:=eT2 (eSl zau) (D.int .i64)),Option.bind_some]
 rcases zeG f.nodes.l hand.l target related composed with⟨h1,h2⟩|⟨h0,ht,hrel,h1,h2⟩
 ·rw[if_pos (by simpa using h1),h2];rfl
 rw[if_neg (by simp[h1])]
 generalize zcG f.nodes.l hand.l target related composed=r at*
 have hr:=zdN h0
 obtain⟨p1,-,-,-⟩:=zmd (hand:=hand.l) (rel:=related) (comp:=composed) hr ht
 have hlen:=zmt (hand:=hand.l) (rel:=related) (comp:=composed) hr ht
 have hH:=ztW (hand:=hand.l) (rel:=related) (comp:=composed) hr ht hrel 0
 have h40:=hr.1
 rw[←h2]at p1 hlen hH
 have key:∀m k,k+m=r.1.l.length→∀t,zqe f.nodes.l related t (r.1.l.drop k)→zaU (zdn f related r) (t,(k:Int))=some (.inl ()):=by
  intro m
  induction m with
  |zero=>
   intro k hk t _
   obtain rfl:k=r.1.l.length:=by omega
   refine zaH ?_
   simp only[zdn]
   rw[if_neg (by simp)]
  |succ m ih=>
   intro k hk t hH
   have hl:k<r.1.l.length:=by omega
   have hw:=zba (show k<2^62 by omega)
   have hN:=(p1 _ (List.getElem_mem hl)).1
   rw[List.drop_eq_getElem_cons hl]at hH
   obtain⟨⟨g1,g2⟩,g3,g4,g5⟩:=hH
   have e1:(if(!(r.1.l[k].target==0))=true then some r.1.l[k].target else some t)=some (if r.1.l[k].target≠0 then r.1.l[k].target else t):=by
    by_cases h:r.1.l[k].target=0
    ·rw[if_neg (by simp[h]),if_neg (by simp[h])]
    ·rw[if_pos (by simpa using h),if_pos h]
   have hab:(!((r.1.l[k].related==0)==(related==0)))=false:=by
    by_cases h:r.1.l[k].related=0
    ·have h':=g3.1 h;simp[h,h']
    ·have h':related≠0:=fun e=>h (g3.2 e)
     have e1:(r.1.l[k].related==0)=false:=by simpa using h
     have e2:(related==0)=false:=by simpa using h'
     rw[e1,e2];rfl
   rw[zaP (y:=(if r.1.l[k].target≠0 then r.1.l[k].target else t,((k+1:Nat):Int)))]
   ·exact ih (k+1) (by omega) _ g5
   ·simp only[zdn,zbU hl,Option.bind_some,hw,e1,zCL f _ _ hf hr g1 hN,zaA (e:=D.bool),hab]
    rw[if_pos (decide_eq_true (by omega)),if_pos (by rw[decide_eq_true g2];rfl)]
    by_cases h:r.1.l[k].related=0
    ·rw[if_neg (by simp[h]),if_neg (by simp)]
    ·obtain⟨k1,k2⟩:=g4 h
     rw[if_pos (by simpa using h),zCL f _ _ hf hr k1 hN,zaA (e:=D.bool),Option.bind_some,if_pos (by
      by_cases hk:(nodeD f.nodes.l (root f.nodes.l r.1.l[k].related)).kind=12
      ·rw[decide_eq_true (k2 hk)];rfl
      ·have:((nodeD f.nodes.l (root f.nodes.l r.1.l[k].related)).kind==12)=false:=by simpa using hk
       rw[this];simp),if_neg (by simp)]
 have:=key r.1.l.length 0 (by omega) 0 (by rw[List.drop_zero];exact hH)
 rw[show((0:Nat):Int)=0 from rfl]at this
 rw[this,Option.bind_some]
theorem zow (f:Forest) (hand:Sl Assign) (target related:Int) (_:Forest.ok f) (_:Sl.ok (fun y=>Assign.ok y) hand) (_:IntKind.i64.min≤target∧target≤IntKind.i64.max) (_:IntKind.i64.min≤related∧related≤IntKind.i64.max) (hb:D.bulkAll [zae f,eSl zap hand,.int .i64 target,.int .i64 related]≤1048576):pc prog 14 [zae f,eSl zap hand,.int .i64 target,.int .i64 related]=some (.bool true):=by
 have hf:Fit f.nodes.l:=zmj hb
 have hh:zry hand.l:=zms (by simp) hb
 refine zMo f hand target related _ ?_
 unfold P14
 rw[zfc,zaA (e:=D.bool),Option.bind_some,if_neg (by simp),ziQ f hand target related false hf hh,zaA (e:=eT2 (eSl zau) (D.int .i64)),Option.bind_some]
 rcases zeG f.nodes.l hand.l target related false with⟨h1,h2⟩|⟨h0,ht,hrel,h1,h2⟩
 ·rw[if_pos (by simpa using h1),h2];rfl
 have hr:=zdN h0
 have ha:(zcG f.nodes.l hand.l target related true).2=0∧(zcG f.nodes.l hand.l target related true).1.l=zec f.nodes.l hand.l target related true:=by
  unfold zcG
  rw[if_pos h0,if_pos ht,if_pos hrel];exact⟨rfl,rfl⟩
 rw[if_neg (by simp[h1]),zjT f target hf hr ht,zaA (e:=eT2 (D.int .i64) (D.int .i64)),Option.bind_some,if_neg (by simp),ziQ f hand target related true hf hh,zaA (e:=eT2 (eSl zau) (D.int .i64))]
 generalize zcG f.nodes.l hand.l target related false=r at*
 generalize zcG f.nodes.l hand.l target related true=r2 at*
 obtain⟨p1,-,-,-⟩:=zmd (hand:=hand.l) (rel:=related) (comp:=false) hr ht
 have hlen:=zmt (hand:=hand.l) (rel:=related) (comp:=false) hr ht
 obtain⟨hP,hE⟩:=ztX (hand:=hand.l) (rel:=related) hr ht
 have h40:=hr.1
 rw[←h2]at p1 hlen hE hP
 rw[←ha.2]at hP
 have key:∀m k,k+m=r.1.l.length→zaU (zdo f hand target related r (root f.nodes.l target,0)) (k:Int)=some (.inl ()):=by
  intro m
  induction m with
  |zero=>
   intro k hk
   obtain rfl:k=r.1.l.length:=by omega
   refine zaH ?_
   simp only[zdo]
   rw[if_neg (by simp)]
  |succ m ih=>
   intro k hk
   have hl:k<r.1.l.length:=by omega
   have hw:=zba (show k<2^62 by omega)
   have hN:=(p1 _ (List.getElem_mem hl)).1
   rw[zaP (y:=((k+1:Nat):Int))]
   ·exact ih (k+1) (by omega)
   ·simp only[zdo,zbU hl,Option.bind_some,hw,zlS f _ hf.1,zaA (e:=eT2 zam D.bool),ziH,decide_eq_true hN]
    rw[if_pos (decide_eq_true (by omega)),if_pos trivial,if_neg]
    intro e
    rcases c1:(r.1.l[k].item==root f.nodes.l target)with _|_
    ·rw[c1]at e;cases e
    ·rcases c2:((nodeD f.nodes.l r.1.l[k].item).kind==12)with _|_
     ·rw[c1,c2]at e;cases e
     ·rw[c1,c2]at e
      have e:decide (((k+1:Nat):Int)<(r.1.l.length:Int))=true:=e
      have hl2:k+1<r.1.l.length:=by have:=of_decide_eq_true e;omega
      exact hE k r.1.l[k] r.1.l[k+1] (by simp[hl]) (by simp[hl2]) ⟨by simpa using c1,by simpa using c2⟩
 have key2:∀m k,k+m=r.1.l.length→zaU (zdp r r2) (k:Int)=some (.inl ()):=by
  obtain⟨tl,hT⟩:=hP
  intro m
  induction m with
  |zero=>
   intro k hk
   obtain rfl:k=r.1.l.length:=by omega
   refine zaH ?_
   simp only[zdp]
   rw[if_neg (by simp)]
  |succ m ih=>
   intro k hk
   have hl:k<r.1.l.length:=by omega
   have hw:=zba (show k<2^62 by omega)
   have hl2:k<r2.1.l.length:=by rw[←hT,List.length_append];omega
   have he:r2.1.l[k]=r.1.l[k]:=by
    have:r2.1.l[k]? =r.1.l[k]? :=by rw[←hT,List.getElem?_append_left hl]
    rw[List.getElem?_eq_getElem hl,List.getElem?_eq_getElem hl2]at this
    exact Option.some.inj this
   rw[zaP (y:=((k+1:Nat):Int))]
   ·exact ih (k+1) (by omega)
   ·simp only[zdp,zbU hl,zbU hl2,Option.bind_some,hw,he]
    rw[if_pos (decide_eq_true (by omega)),if_neg (by simp)]
 have t1:=key r.1.l.length 0 (by omega)
 have t2:=key2 r.1.l.length 0 (by omega)
 rw[show((0:Nat):Int)=0 from rfl]at t1 t2
 have hle:=hP.length_le
 rw[t1,Option.bind_some]
 dsimp only
 rw[Option.bind_some,if_neg (by simp[ha.1];omega),t2,Option.bind_some]
end Go.Proofs.Ythodcjjgimeeoaa.P
