/- Shaken copy of a longer text: what one law needs. Its conditions: none. -/
import Derived.Test.YtfleilibjdgcjaaZOSpDp
set_option linter.unusedSimpArgs false
set_option linter.unusedVariables false
set_option linter.unusedSimpArgs false
set_option linter.unusedVariables false
set_option linter.unusedSectionVars false
set_option linter.unnecessarySimpa false
namespace Go.Proofs.Ytfleilibjdgcjaa.O
open Go.AI
abbrev encL (l:List Int):List V:=l.map fun z=>V.d (D.int .i64 z)
def Out (K:Heap) (v:V) (acc:List Int):Prop:=(v= .d (.list true [])∧acc=[])∨∃c,v= .sl c 0 acc.length∧K.get c=some (.els 1 (encL acc) 0)∧c<K.next
def notIn (v:V) (b:Nat):Prop:=∀i n,v≠.sl b i n
structure Grown (K K':Heap) (v v':V) (acc':List Int):Prop where
 nx:K.next≤K'.next
 old:∀b,b<K.next→notIn v b→K'.get b=K.get b
 out:∃c,v'= .sl c 0 acc'.length∧K'.get c=some (.els 1 (encL acc') 0)∧K.next≤c∧c<K'.next
def zJM (f:Forest) (h:Int):Prop:=∀K v acc,Out K v acc→acc.length+(zbh f.nodes.l h).length≤2^40→∃v' K',ans prog (.d (.fn 130)) [.d (eForest f),.d (.int .i64 h),v] K=some (v',K')∧Grown K K' v v' (acc++zbh f.nodes.l h)
theorem zGR {H:Heap} {v:V} {acc:List Int} {s fr:Nat} {h:Int} (hO:(v= .d (.list true [])∧acc=[])∨∃c,v= .sl c 0 acc.length∧H.get c=some (.els 1 (encL acc) 0)) (hs:H.get s=some (.els 1 [.d (.int .i64 h)] 0)) (hlen:acc.length+1≤2^40):
 ∃H2,zkE H fr 1 8 v (.sl s 0 1)=some (.sl fr 0 (acc.length+1),H2)∧H2.get fr=some (.els 1 (encL (acc++[h])) 0)∧H2.next=H.next∧∀b,b≠fr→notIn v b→H2.get b=H.get b:=by
 have hroom:AI.roomBytes=2^46:=rfl
 have he:zbw H (.sl s 0 1)=some [.d (.int .i64 h)]:=by rw[zcO,hs];rfl
 have hz:sized 1 [V.d (.int .i64 h)]=true:=rfl
 rcases hO with⟨rfl,rfl⟩|⟨c,rfl,hc⟩
 ·refine⟨H.put fr (.els 1 [.d (.int .i64 h)] 0),?_,Heap.put_eq ..,rfl,fun b hb _=>Heap.put_ne _ _ hb⟩
  rw[zgq,he,zjP (by simp) hz]
  simp only[zAI]
  rw[if_pos (by rw[hroom];simp)];rfl
 ·refine⟨(H.del c).put fr (.els 1 (encL acc++[.d (.int .i64 h)]) 0),?_,by rw[Heap.put_eq];simp[encL],rfl,fun b hb hv=> ?_⟩
  ·rw[zgq,he,zjP (by simp) hz,zlK,hc,zjO (by simp[encL]) (by rw[hroom];simp;omega)];rfl
  ·rw[Heap.put_ne _ _ hb]
   have:b≠c:=fun e=>hv 0 acc.length (by rw[e])
   show(H.set c none).get b=_
   rw[Heap.set_at,if_neg this]
structure DI (f:Forest) (h:Int) (K:Heap) (v:V) (c0 c7:Nat) (Kc:Heap) (vc:V) (acc:List Int):Prop where
 nx:K.next≤Kc.next
 old:∀b,b<K.next→notIn v b→Kc.get b=K.get b
 b0:Kc.get c0=some (.els 1 [.d (eForest f)] 0)
 b7:Kc.get c7=some (.els 16 [.d (eNode (nodeD f.nodes.l h))] 0)
 l0:K.next≤c0∧c0<Kc.next
 l7:K.next≤c7∧c7<Kc.next
 out:∃c,vc= .sl c 0 acc.length∧Kc.get c=some (.els 1 (encL acc) 0)∧K.next≤c∧c<Kc.next∧c≠c0∧c≠c7
theorem DI.bump {f:Forest} {h:Int} {K Kc:Heap} {v vc:V} {c0 c7:Nat} {acc:List Int} (I:DI f h K v c0 c7 Kc vc acc) (m:Nat):DI f h K v c0 c7 (Kc.bump m) vc acc where
 nx:=Nat.le_trans I.nx (Nat.le_add_right _ _)
 old:=I.old
 b0:=I.b0
 b7:=I.b7
 l0:=⟨I.l0.1,Nat.lt_of_lt_of_le I.l0.2 (Nat.le_add_right _ _)⟩
 l7:=⟨I.l7.1,Nat.lt_of_lt_of_le I.l7.2 (Nat.le_add_right _ _)⟩
 out:=let⟨c,h1,h2,h3,h4,h5⟩:=I.out;⟨c,h1,h2,h3,Nat.lt_of_lt_of_le h4 (Nat.le_add_right _ _),h5⟩
theorem DI.isOut {f:Forest} {h:Int} {K Kc:Heap} {v vc:V} {c0 c7:Nat} {acc:List Int} (I:DI f h K v c0 c7 Kc vc acc):Out Kc vc acc:=let⟨c,h1,h2,h3,h4,h5⟩:=I.out; .inr ⟨c,h1,h2,h4⟩
theorem DI.call {f:Forest} {h:Int} {K Kc K':Heap} {v vc v':V} {c0 c7:Nat} {acc acc':List Int} (I:DI f h K v c0 c7 Kc vc acc) (G:Grown Kc K' vc v' acc'):DI f h K v c0 c7 K' v' acc':=by
 obtain⟨c,h1,h2,h3,h4,h5,h6⟩:=I.out
 have ne:∀{b},b≠c→notIn vc b:=fun hb i n e=>by rw[h1]at e;cases e;exact hb rfl
 obtain⟨c',g1,g2,g3,g4⟩:=G.out
 have:=I.l0;have:=I.l7;have:=G.nx;have:=I.nx
 exact⟨by omega,fun b hb hv=>by rw[G.old b (by omega) (ne (by omega)),I.old b hb hv],by rw[G.old c0 (by omega) (ne (fun e=>h5 e.symm))];exact I.b0,by rw[G.old c7 (by omega) (ne (fun e=>h6 e.symm))];exact I.b7,by omega,by omega,c',g1,g2,by omega,g4,by omega,by omega⟩
theorem DI.grown {f:Forest} {h:Int} {K Kc:Heap} {v vc:V} {c0 c7:Nat} {acc:List Int} (I:DI f h K v c0 c7 Kc vc acc):Grown K Kc v vc acc:=⟨I.nx,I.old,let⟨c,h1,h2,h3,h4,h5⟩:=I.out;⟨c,h1,h2,h3,h4⟩⟩
theorem zyS {f:Forest} (hf:Fit f.nodes.l) (hr:zaO f.nodes.l) {h:Int} (hh:isN f.nodes.l h) (ih:∀k∈kidsL f.nodes.l h,zJM f k) {K:Heap} {v:V} {c0 c7:Nat} {acc0:List Int} {Q:Ex→St→Prop} (hlen:acc0.length+((kidsL f.nodes.l h).flatMap (zbh f.nodes.l)).length≤2^40)
 (hQ:∀r Kc vc,r 2=vc→DI f h K v c0 c7 Kc vc (acc0++(kidsL f.nodes.l h).flatMap (zbh f.nodes.l))→Q (.exit 0) ⟨r,Kc⟩):
 ∀m k,k+m=(kidsL f.nodes.l h).length→∀(Kc:Heap) (vc:V) (r:Regs),r 2=vc→r 3= .ptr c0 0 0→r 7= .ptr c7 0 0→r 26= .d (.int .i64 ((kidsL f.nodes.l h).length:Int))→r 27= .d (.int .i64 (k:Int))→DI f h K v c0 c7 Kc vc (acc0++((kidsL f.nodes.l h).take k).flatMap (zbh f.nodes.l))→Wp prog (.loop ziB) ⟨r,Kc⟩ Q:=by
 intro m
 induction m with
 |zero=>
  intro k hk Kc vc r r2 r3 r7 r26 r27 I
  obtain rfl:k=(kidsL f.nodes.l h).length:=by omega
  rw[List.take_length]at I
  refine Wp.peel ?_
  obtain⟨Q1,hQ1⟩:∃Q1,Q1=Ex.seq prog (.loop ziB) Q:=⟨_,rfl⟩
  rw[←hQ1]
  delta ziB
  simp only[go_sem,r26,r27]
  rw[show decide (((kidsL f.nodes.l h).length:Int)<((kidsL f.nodes.l h).length:Int))=false by simp]
  simp only[go_sem]
  rw[hQ1]
  exact hQ _ _ vc (by simp only[go_sem,r2]) (I.bump 1)
 |succ m ihm=>
  intro k hk Kc vc r r2 r3 r7 r26 r27 I
  have hlt:k<(kidsL f.nodes.l h).length:=by omega
  have hmem:(kidsL f.nodes.l h)[k]∈kidsL f.nodes.l h:=List.getElem_mem hlt
  have hw:=zaT (show k<2^62 by have:=zdN hf h;unfold kidsL at hlt;omega)
  have hget:((nodeD f.nodes.l h).kids.l.map (D.int .i64))[k]? =some (.int .i64 (kidsL f.nodes.l h)[k]):=by unfold kidsL;unfold kidsL at hlt;simp[hlt]
  have hle:=zIV (g:=zbh f.nodes.l) (kidsL f.nodes.l h) (k+1)
  rw[zmG hlt,List.length_append]at hle
  refine Wp.peel ?_
  obtain⟨Q1,hQ1⟩:∃Q1,Q1=Ex.seq prog (.loop ziB) Q:=⟨_,rfl⟩
  rw[←hQ1]
  delta ziB
  simp only[go_sem,r26,r27]
  rw[show decide ((k:Int)<((kidsL f.nodes.l h).length:Int))=true from decide_eq_true (by omega)]
  simp only[go_sem,r2,r3,r7,r26,r27,I.b0,I.b7,hget]
  have I2:=((I.bump 1).bump 2).bump 9
  obtain⟨v',K',e1,G⟩:=ih _ hmem _ vc _ I2.isOut (by simp only[List.length_append];omega)
  refine zeU e1 ?_
  simp only[go_sem,r27,hw]
  rw[hQ1]
  refine ihm (k+1) (by omega) _ v' _ ?_ ?_ ?_ ?_ ?_ ?_
  ·simp only[go_sem]
  ·simp only[go_sem,r3]
  ·simp only[go_sem,r7]
  ·simp only[go_sem,r26]
  ·simp only[go_sem,hw]
  ·rw[zmG hlt,←List.append_assoc]
   exact(I2.call G).bump 2
theorem zCp (f:Forest) (hf:Fit f.nodes.l) (hr:zaO f.nodes.l):∀h,isN f.nodes.l h→zJM f h:=by
 refine zfS hr fun h hh ih K v acc hO hlen=> ?_
 refine zqJ rfl rfl ?_
 delta zLq
 simp only[go_sem]
 refine zaj (zdC f h hf.1) ?_
 simp only[go_sem]
 rw[zcx hr hh]at hlen
 simp only[List.length_cons,List.length_append]at hlen
 obtain⟨H,hH⟩:∃H,H=(((((((K.bump 2).put K.next (Blk.els 1 [V.d (eForest f)] 0)).bump 5).put (K.next+5) (Blk.els 16 [V.d (D.agg [D.int IntKind.u8 0,D.str [],D.str [],D.str [],D.str [],D.str [],D.list true [],D.list true [],D.int IntKind.i64 0,D.list true [],D.int IntKind.i64 0,D.int IntKind.i64 0,D.int IntKind.i64 0,D.int IntKind.u8 0,D.bool false,D.bool false])] 0)).put (K.next+5) (Blk.els 16 [V.d (eNode (nodeD f.nodes.l h))] 0)).bump 5).put (K.next+9) (Blk.els 1 [V.d (D.int IntKind.i64 h)] 0)):=⟨_,rfl⟩
 rw[←hH]
 have hHn:H.next=K.next+12:=by rw[hH];rfl
 have hold:∀b,b<K.next→H.get b=K.get b:=fun b hb=>by
  rw[hH,Heap.put_ne _ _ (by omega)]
  show Heap.get (Heap.put _ _ _) b=_
  rw[Heap.put_ne _ _ (by omega),Heap.put_ne _ _ (by omega)]
  show Heap.get (Heap.put _ _ _) b=_
  rw[Heap.put_ne _ _ (by omega)];rfl
 have hb9:H.get (K.next+9)=some (.els 1 [.d (.int .i64 h)] 0):=by rw[hH,Heap.put_eq]
 have hb7:H.get (K.next+5)=some (.els 16 [.d (eNode (nodeD f.nodes.l h))] 0):=by
  rw[hH,Heap.put_ne _ _ (by omega)]
  show Heap.get (Heap.put _ _ _) _=_
  rw[Heap.put_eq]
 have hb0:H.get K.next=some (.els 1 [.d (eForest f)] 0):=by
  rw[hH,Heap.put_ne _ _ (by omega)]
  show Heap.get (Heap.put _ _ _) _=_
  rw[Heap.put_ne _ _ (by omega),Heap.put_ne _ _ (by omega)]
  show Heap.get (Heap.put _ _ _) _=_
  rw[Heap.put_eq]
 have hvn:∀b,K.next≤b→notIn v b:=fun b hb i n e=>by
  rcases hO with⟨rfl,_⟩|⟨c,rfl,_,hc⟩
  ·cases e
  ·cases e;omega
 obtain⟨H2,a1,a2,a3,a4⟩:=zGR (H:=H) (v:=v) (acc:=acc) (s:=K.next+9) (fr:=K.next+10) (h:=h) (by
  rcases hO with h1|⟨c,h1,h2,h3⟩
  ·exact .inl h1
  ·exact .inr ⟨c,h1,by rw[hold c h3];exact h2⟩) hb9 (by omega)
 refine zeU a1 ?_
 have I0:DI f h K v K.next (K.next+5) H2 (.sl (K.next+10) 0 (acc++[h]).length) (acc++[h]):=⟨by omega,fun b hb hv=>by rw[a4 b (by omega) hv,hold b hb],by rw[a4 _ (by omega) (hvn _ (by omega))];exact hb0,by rw[a4 _ (by omega) (hvn _ (by omega))];exact hb7,by omega,by omega,K.next+10,rfl,a2,by omega,by omega,by omega,by omega⟩
 have hl1:acc.length+1=(acc++[h]).length:=by simp
 rw[hl1]
 simp only[go_sem,I0.b0,I0.b7]
 have fin:∀(Kc:Heap) (vc:V) (acc1:List Int) (r:Regs),DI f h K v K.next (K.next+5) Kc vc acc1→acc1++(kidsL f.nodes.l h).flatMap (zbh f.nodes.l)=acc++zbh f.nodes.l h→r 2=vc→r 3= .ptr K.next 0 0→r 7= .ptr (K.next+5) 0 0→acc1.length+((kidsL f.nodes.l h).flatMap (zbh f.nodes.l)).length≤2^40→
  Wp prog ((((C.region [(SOp.faddr 9 (Opd.r 7),none),(SOp.load none (Opd.l 0),none),(SOp.len LK.sl (Opd.l 1),none),(SOp.move (Opd.k (D.int IntKind.i64 0)),none)] [(26,2),(27,3)] []).seq (C.block 0 ziB.loop)).seq ((C.region [(SOp.move (Opd.r 2),none),(SOp.move (Opd.l 0),none)] [(6,1)] []).seq C.ret))) ⟨r,Kc⟩ (zcd [RV.reg 6] fun v' K'=>Grown K K' v v' (acc++zbh f.nodes.l h)):=by
  intro Kc vc acc1 r I e r2 r3 r7 hl
  simp only[go_sem,r7,I.b7]
  refine zyS hf hr hh (fun k hk=>ih k (zca hr hk).2.1 (zca hr hk).2.2.2) (K:=K) (v:=v) (c0:=K.next) (c7:=K.next+5) (acc0:=acc1) hl ?_ (kidsL f.nodes.l h).length 0 (by omega) _ vc _ ?_ ?_ ?_ ?_ ?_ ?_
  ·intro r K3 v3 g2 I3
   simp only[go_sem,g2]
   rw[e]at I3
   exact(I3.bump 2).grown
  ·simp only[go_sem,r2]
  ·simp only[go_sem,r3]
  ·simp only[go_sem,r7]
  ·first|(simp only[go_sem];done)|(simp only[go_sem];rfl)
  ·first|(simp only[go_sem];done)|(simp only[go_sem];rfl)
  ·rw[List.take_zero,List.flatMap_nil,List.append_nil];exact I.bump 4
 have hd:zbh f.nodes.l h=h::((if(nodeD f.nodes.l h).shadow=0 then[]else zbh f.nodes.l (nodeD f.nodes.l h).shadow)++(kidsL f.nodes.l h).flatMap (zbh f.nodes.l)):=zcx hr hh
 obtain⟨Q1,hQ1⟩:∃Q1,Q1=Ex.seq prog ((((C.region [(SOp.faddr 9 (Opd.r 7),none),(SOp.load none (Opd.l 0),none),(SOp.len LK.sl (Opd.l 1),none),(SOp.move (Opd.k (D.int IntKind.i64 0)),none)] [(26,2),(27,3)] []).seq (C.block 0 ziB.loop)).seq ((C.region [(SOp.move (Opd.r 2),none),(SOp.move (Opd.l 0),none)] [(6,1)] []).seq C.ret))) (zcd [RV.reg 6] fun v' K'=>Grown K K' v v' (acc++zbh f.nodes.l h)):=⟨_,rfl⟩
 rw[←hQ1]
 by_cases hs:(nodeD f.nodes.l h).shadow=0
 ·rw[show(!((nodeD f.nodes.l h).shadow==0))=false by simp[hs]]
  simp only[go_sem]
  rw[hQ1]
  refine fin _ (.sl (K.next+10) 0 (acc++[h]).length) (acc++[h]) _ (I0.bump 3) ?_ ?_ ?_ ?_ ?_
  ·rw[hd,if_pos hs];simp
  ·simp only[go_sem]
  ·simp only[go_sem]
  ·simp only[go_sem]
  ·rw[if_pos hs]at hlen;simp only[List.length_append,List.length_singleton];simp only[List.length_nil]at hlen;omega
 ·obtain⟨s1,s2,s3⟩:=zcw hr hs
  rw[show(!((nodeD f.nodes.l h).shadow==0))=true by simp[hs]]
  simp only[go_sem,I0.b0,I0.b7]
  rw[if_neg hs]at hlen hd
  have I2:=(I0.bump 3).bump 6
  obtain⟨v',K',e1,G⟩:=ih _ s2 s3 _ _ _ I2.isOut (by simp only[List.length_append,List.length_singleton];omega)
  refine zeU e1 ?_
  simp only[go_sem]
  rw[hQ1]
  refine fin _ v' (acc++[h]++zbh f.nodes.l (nodeD f.nodes.l h).shadow) _ (I2.call G) ?_ ?_ ?_ ?_ ?_
  ·rw[hd];simp
  ·simp only[go_sem]
  ·simp only[go_sem]
  ·simp only[go_sem]
  ·simp only[List.length_append,List.length_singleton];omega
end Go.Proofs.Ytfleilibjdgcjaa.O
