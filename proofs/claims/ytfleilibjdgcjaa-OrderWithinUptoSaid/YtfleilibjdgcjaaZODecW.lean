/- Shaken copy of a longer text: what one law needs. Its conditions: none. -/
import Derived.Test.YtfleilibjdgcjaaZODec0
import Derived.Test.YtfleilibjdgcjaaZOSpIt
set_option linter.unusedSimpArgs false
set_option linter.unusedVariables false
set_option maxHeartbeats 1000000
namespace Go.Proofs.Ytfleilibjdgcjaa.O
open Go.AI
def zeL (a0:Forest) (a1:Int) (x0:List (Int)):Heap:=(((((((Heap.at 24).set 0 (some (.els 1 [.d (eForest a0)] 0))).set 7 (some (.els 1 [.d (eForest a0)] 0))).set 8 (some (.els 1 [.d (.int .i64 a1)] 0))).set 16 (some (.els 1 [mb 18 (x0.map fun z=>V.d ((D.int .i64) z))] 0))).set 18 (mbB 1 x0.length (x0.map fun z=>V.d ((D.int .i64) z)))).set 19 (some (.loop ⟨(Regs.none.set 2 (.ptr 16 0 0)),[7],zry,zrz,.ready,none⟩)))
def zmK (a0:Forest) (a1:Int):(Empty)→Heap:=fun r=>r.elim
noncomputable def zeM (a0:Forest) (a1:Int) (x0:List (Int)) (v0:Int):Option ((List (Int))⊕(Empty)):=
 if(x0.length+1)*8≤AI.roomBytes then
  some (.inl (x0++[v0]))
 else none
theorem zyL (a0:Forest) (a1:Int):Yl prog (24,[18]) 19 (D.int .i64) (zeL a0 a1) (zmK a0 a1) (zeM a0 a1):=by
 refine⟨by decide,fun x0=> ?_,fun r=> ?_,fun x0 v0 o h=> ?_⟩
 ·show LocH 24 _;delta zeL;repeat(first|exact LocH.at|refine LocH.set (by decide) ?_ ?_|refine zGU.some ?_|exact zGU.mb|refine zrh.els ?_|refine zrh.loop ?_|exact zrh.it|exact zhG.nil|refine zhG.cons ?_ ?_|exact zhG.map|exact zdL.d|exact zdL.undef|exact zdL.rp|exact zdL.ptr (by decide)|exact zdL.sl (by decide)|exact zdL.mb (by decide)|exact zdL.map (by decide)|exact zdL.yld (by decide)|exact zdL.it (by decide)|exact zCG.none|refine zCG.set ?_ ?_|refine zdL.clo ?_ ?_|refine zdL.ofCells ?_|refine zdL.agg ?_|refine zdL.tuple ?_)
 ·exact r.elim
 ·unfold zeM at h
  delta zeL
  refine zxs (L:=⟨(Regs.none.set 2 (.ptr 16 0 0)),[7],zry,zrz,.ready,none⟩) (by simp only[go_sem]) rfl ?_
  delta zry
  try simp only[go_sem]
  delta zrz
  try simp only[go_sem]
  obtain⟨hm1,h⟩:=zcP h
  refine znU (l:=x0.map fun z=>V.d ((D.int .i64) z)) (new:=[V.d (.int .i64 v0)]) (sz:=1) (fz:=x0.length) (by simp only[go_sem,List.map_append,List.map_cons,List.map_nil]) (by intro h;simpa using h) (by simp only[go_sem,zcO,zdI,zdb,zcc,zku]) (by simp) (by simp only[go_sem]) (by simpa using hm1) ?_
  try simp only[go_sem,hm1]
  cases h
  refine⟨rfl,Up.of (N:=24) (N':=30) [(18,28)] rfl rfl (by decide) ?_ ?_⟩
  ·exact zal.none
  ·refine zan.set (show zar _ _ (Heap.get _ 19)from ?_) (zan.set (show zar _ _ (Heap.get _ 28)from ?_) (zan.set (show zar _ _ (Heap.get _ 16)from ?_) (zan.set (show zar _ _ (Heap.get _ 8)from ?_) (zan.set (show zar _ _ (Heap.get _ 7)from ?_) (zan.set (show zar _ _ (Heap.get _ 0)from ?_) (zan.at))))))
   all_goals (try simp only[go_sem,List.map_append,List.map_cons,List.map_nil,hm1])
   all_goals (first|((repeat' first|trivial|exact zar.refl_d|exact zar.map_d|exact zar.map_0|exact zar.it|exact BR.map .nil|refine zar.els (by simp) ?_|refine zar.mb_els (by simp) ?_|refine zar.mb (by simp) ?_|refine zar.loop ?_ rfl rfl|exact zal.none|refine zal.set ?_ ?_|exact VR.d _|exact VR.ptr' rfl|exact VR.mb rfl|exact VR.sl'' rfl (by simp)|exact VR.mb_sl (by simp) rfl (by simp)|exact VR.undef _|refine VR.clo' ?_ ?_|exact VRL.nil|exact VRL.refl_d _ _|refine VRL.append ?_ ?_|refine VRL.cons ?_ ?_|refine VRL.ofC ?_|refine VRL.ofCa ?_ rfl|refine VRL.ofCells ?_|refine VRL.tuple ?_|refine VRL.agg ?_);done)|(simp only[eForest,zbN,eNode,zaL,zfb,zei,zbv,zaN,zaA,zah];exact zar.refl_d))
noncomputable def zMX (a0:Forest) (a1:Int):Option (Sl (Int)):=
 (zhp a0 a1).bind fun l2=>
 (foldI (zeM a0 a1) ([]) l2).bind fun r4=>
 match r4 with
 | .inl q6=>
  some (⟨q6.isEmpty,q6⟩)
 | .inr q0=>
  q0.elim
theorem zMY (a0:Forest) (a1:Int) (r:Sl (Int)) (h:zMX a0 a1=some r):pc prog 107 [eForest a0,.int .i64 a1]=some ((eSl (D.int .i64)) r):=by
 unfold zMX at h
 refine zaV (fn:=zJW) rfl rfl ?_
 delta zJW
 try simp only[go_sem]
 refine zbj (fn:=zKj) rfl rfl ?_
 delta zKj
 try simp only[go_sem]
 refine zbj (fn:=zKp) rfl rfl ?_
 delta zKp
 try simp only[go_sem]
 refine zbj (fn:=zKH) rfl rfl ?_
 delta zKH
 try simp only[go_sem]
 refine Wp.rfuncC (k:=186) (fn:=zKu) (first:=[]) (cap:=[.ptr 7 0 0,.ptr 8 0 0]) (by simp only[go_sem]) rfl rfl ?_
 delta zKu
 try simp only[go_sem]
 obtain⟨l2,hl3,h⟩:=Option.bind_eq_some_iff.1 h
 obtain⟨r4,hl5,h⟩:=Option.bind_eq_some_iff.1 h
 refine zxt zbc (n:=(24,[18])) (n':=(20,[18])) (S:=zeL a0 a1) (F:=zmK a0 a1) (zoV hl3) (zyL a0 a1) (fun _=>Nat.le_refl _) (fun r=>r.elim) hl5 ?_ rfl rfl rfl ?_ ?_ (show Fx.spans _ 20 4=true from by decide) (by decide) (by(repeat(first|refine Clo.block ?_|refine Clo.seq zbc rfl ?_));refine Clo.rf (n':=(16,[18])) ?_ (by decide) (by decide) ?_;((repeat(first|exact zaH.no|exact zaH.none|refine zaH.set ?_ ?_|refine zaH.args ?_|exact zaX.nil|refine zaX.cons ?_ ?_|exact zaF.d|exact zaF.undef|exact zaF.rp|exact zaF.ptr (by decide)|exact zaF.sl (by decide)|exact zaF.mb (by decide)|exact zaF.map (by decide)|exact zaF.yld (by decide)|exact zaF.it (by decide)|refine zaF.clo ?_ ?_|refine zaF.ofCells ?_|refine zaF.agg ?_|refine zaF.tuple ?_|refine zaF.bif ?_ ?_)));(repeat(first|refine Clo.block ?_|refine Clo.seq zbc rfl ?_));refine Clo.inl zbc (n':=(12,[18])) rfl rfl rfl ?_ ?_ (show Fx.spans _ 13 3=true from by decide) (by decide) ?_;((repeat(first|exact zaH.no|exact zaH.none|refine zaH.set ?_ ?_|refine zaH.args ?_|exact zaX.nil|refine zaX.cons ?_ ?_|exact zaF.d|exact zaF.undef|exact zaF.rp|exact zaF.ptr (by decide)|exact zaF.sl (by decide)|exact zaF.mb (by decide)|exact zaF.map (by decide)|exact zaF.yld (by decide)|exact zaF.it (by decide)|refine zaF.clo ?_ ?_|refine zaF.ofCells ?_|refine zaF.agg ?_|refine zaF.tuple ?_|refine zaF.bif ?_ ?_));(repeat(first|exact zaH.no|exact zaH.none|refine zaH.set ?_ ?_|refine zaH.args ?_|exact zaX.nil|refine zaX.cons ?_ ?_|exact zaF.d|exact zaF.undef|exact zaF.rp|exact zaF.ptr (by decide)|exact zaF.sl (by decide)|exact zaF.mb (by decide)|exact zaF.map (by decide)|exact zaF.yld (by decide)|exact zaF.it (by decide)|refine zaF.clo ?_ ?_|refine zaF.ofCells ?_|refine zaF.agg ?_|refine zaF.tuple ?_|refine zaF.bif ?_ ?_)));(repeat(first|refine Clo.block ?_|refine Clo.seq zbc rfl ?_));refine Clo.inl zbc (n':=(0,[18])) rfl rfl rfl ?_ ?_ (show Fx.spans _ 2 5=true from by decide) (by decide) ?_;((repeat(first|exact zaH.no|exact zaH.none|refine zaH.set ?_ ?_|refine zaH.args ?_|exact zaX.nil|refine zaX.cons ?_ ?_|exact zaF.d|exact zaF.undef|exact zaF.rp|exact zaF.ptr (by decide)|exact zaF.sl (by decide)|exact zaF.mb (by decide)|exact zaF.map (by decide)|exact zaF.yld (by decide)|exact zaF.it (by decide)|refine zaF.clo ?_ ?_|refine zaF.ofCells ?_|refine zaF.agg ?_|refine zaF.tuple ?_|refine zaF.bif ?_ ?_));(repeat(first|exact zaH.no|exact zaH.none|refine zaH.set ?_ ?_|refine zaH.args ?_|exact zaX.nil|refine zaX.cons ?_ ?_|exact zaF.d|exact zaF.undef|exact zaF.rp|exact zaF.ptr (by decide)|exact zaF.sl (by decide)|exact zaF.mb (by decide)|exact zaF.map (by decide)|exact zaF.yld (by decide)|exact zaF.it (by decide)|refine zaF.clo ?_ ?_|refine zaF.ofCells ?_|refine zaF.agg ?_|refine zaF.tuple ?_|refine zaF.bif ?_ ?_)));(repeat(first|refine Clo.block ?_|refine Clo.seq zbc rfl ?_));(first|exact Clo.ret|exact Clo.lpost (by decide)|exact Clo.cpost (by decide)|exact Clo.zpost (by decide) (by decide))) rfl ?_
 ·show Up (24,[18]) ⟨Regs.none,zeL a0 a1 ([])⟩ _
  delta zeL
  refine Up.of (N:=24) (N':=24) [] rfl rfl (by decide) ?_ ?_
  ·exact zal.none
  ·refine zan.set (show zar _ _ (Heap.get _ 19)from ?_) (zan.set (show zar _ _ (Heap.get _ 18)from ?_) (zan.set (show zar _ _ (Heap.get _ 16)from ?_) (zan.set (show zar _ _ (Heap.get _ 8)from ?_) (zan.set (show zar _ _ (Heap.get _ 7)from ?_) (zan.set (show zar _ _ (Heap.get _ 0)from ?_) (zan.at))))))
   all_goals (try simp only[go_sem,List.map_append,List.map_cons,List.map_nil])
   all_goals (first|((repeat' first|trivial|exact zar.refl_d|exact zar.map_d|exact zar.map_0|exact zar.it|exact BR.map .nil|refine zar.els (by simp) ?_|refine zar.mb_els (by simp) ?_|refine zar.mb (by simp) ?_|refine zar.loop ?_ rfl rfl|exact zal.none|refine zal.set ?_ ?_|exact VR.d _|exact VR.ptr' rfl|exact VR.mb rfl|exact VR.sl'' rfl (by simp)|exact VR.mb_sl (by simp) rfl (by simp)|exact VR.undef _|refine VR.clo' ?_ ?_|exact VRL.nil|exact VRL.refl_d _ _|refine VRL.append ?_ ?_|refine VRL.cons ?_ ?_|refine VRL.ofC ?_|refine VRL.ofCa ?_ rfl|refine VRL.ofCells ?_|refine VRL.tuple ?_|refine VRL.agg ?_);done)|(simp only[eForest,zbN,eNode,zaL,zfb,zei,zbv,zaN,zaA,zah];exact zar.refl_d))
 ·repeat(first|exact zaH.no|exact zaH.none|refine zaH.set ?_ ?_|refine zaH.args ?_|exact zaX.nil|refine zaX.cons ?_ ?_|exact zaF.d|exact zaF.undef|exact zaF.rp|exact zaF.ptr (by decide)|exact zaF.sl (by decide)|exact zaF.mb (by decide)|exact zaF.map (by decide)|exact zaF.yld (by decide)|exact zaF.it (by decide)|refine zaF.clo ?_ ?_|refine zaF.ofCells ?_|refine zaF.agg ?_|refine zaF.tuple ?_|refine zaF.bif ?_ ?_)
 ·repeat(first|exact zaH.no|exact zaH.none|refine zaH.set ?_ ?_|refine zaH.args ?_|exact zaX.nil|refine zaX.cons ?_ ?_|exact zaF.d|exact zaF.undef|exact zaF.rp|exact zaF.ptr (by decide)|exact zaF.sl (by decide)|exact zaF.mb (by decide)|exact zaF.map (by decide)|exact zaF.yld (by decide)|exact zaF.it (by decide)|refine zaF.clo ?_ ?_|refine zaF.ofCells ?_|refine zaF.agg ?_|refine zaF.tuple ?_|refine zaF.bif ?_ ?_)
 ·rcases r4 with(q6|q0)
  ·dsimp only at h
   simp only[zCH,zCI,zla,zlb]
   dsimp only[zeL,zmK]
   try simp only[go_sem]
   cases h
   refine Reads.ofv (v':=mb 18 (q6.map fun z=>V.d ((D.int .i64) z))) (by first|rfl|simp only[go_sem,List.map_append,List.map_cons,List.map_nil]) (Rd.mb (e:=(D.int .i64)) (l:=q6) (sz:=1) (fz:=q6.length) (by simp only[go_sem,List.map_append,List.map_cons,List.map_nil])) rfl
  ·exact q0.elim
end Go.Proofs.Ytfleilibjdgcjaa.O
