/- Shaken copy of a longer text: what one law needs. Its conditions: none. -/
import Derived.Test.YtfleilibjdgcjaaZODec0
set_option linter.unusedSimpArgs false
set_option linter.unusedVariables false
set_option maxHeartbeats 1000000
namespace Go.Proofs.Ytfleilibjdgcjaa.O
open Go.AI
noncomputable def P20 (a0:Forest) (a1:Int) (a2:Int):Option (Int×Int):=
 (dec (eT3 (D.int .i64) D.bool (D.int .i64)) (pc prog 54 [eForest a0,.int .i64 a1,.int .i64 a2])).bind fun r1=>
 if(!(r1.2.2==0))=true then
  some (0,r1.2.2)
 else
  if(a1==a2)=true then
   some (0,0)
  else
   if(bif (!r1.2.1)then(decide (a2<a1))else false)=true then
    some (35,0)
   else
    if(!r1.2.1)=true then
     some (37,0)
    else
     (dec D.bool (pc prog 86 [eForest a0,.int .i64 a2,.int .i64 a1])).bind fun r11=>
     if r11=true then
      some (10,0)
     else
      (dec D.bool (pc prog 86 [eForest a0,.int .i64 a1,.int .i64 a2])).bind fun r15=>
      if r15=true then
       some (20,0)
      else
       if(decide (0<r1.1))=true then
        some (2,0)
       else
        some (4,0)
theorem zNq (a0:Forest) (a1:Int) (a2:Int) (r:Int×Int) (h:P20 a0 a1 a2=some r):pc prog 20 [eForest a0,.int .i64 a1,.int .i64 a2]=some ((eT2 (D.int .i64) (D.int .i64)) r):=by
 unfold P20 at h
 refine zaV (fn:=c20) rfl rfl ?_
 delta c20
 try simp only[go_sem]
 obtain⟨r1,hr2,h⟩:=bs h
 replace hr2:=zag hr2
 refine zaj hr2 ?_
 try simp only[go_sem]
 refine zav (fun hc3=> ?_) (fun hc4=> ?_)
 ·rw[if_pos (show(!(r1.2.2==0))=true by(rw[hc3];rfl))]at h
  try simp only[go_sem]
  cases h
  rfl
 rw[if_neg (ffn hc4)]at h
 try simp only[go_sem]
 refine zaf (fun hc5=> ?_) (fun hc6=> ?_)
 ·rw[if_pos hc5]at h
  try simp only[go_sem]
  cases h
  rfl
 rw[if_neg (ff hc6)]at h
 try simp only[go_sem]
 refine zaa (v:= .d (.int .i64 a2)) (fun hb23=>by simp only[go_sem,hc4,hc6,hb23]) ?_
 try simp only[go_sem]
 refine zaa (v:= .d (.int .i64 a1)) (fun hb22=>by simp only[go_sem,hc4,hc6,hb22]) ?_
 try simp only[go_sem]
 refine zaa (v:= .d (.bool (decide (a2<a1)))) (fun hb21=>by simp only[go_sem,hc4,hc6,hb21]) ?_
 try simp only[go_sem]
 refine zaf (fun hc7=> ?_) (fun hc8=> ?_)
 ·rw[if_pos hc7]at h
  try simp only[go_sem]
  cases h
  rfl
 rw[if_neg (ff hc8)]at h
 try simp only[go_sem]
 refine zav (fun hc9=> ?_) (fun hc10=> ?_)
 ·rw[if_pos (show(!r1.2.1)=true by(rw[hc9];rfl))]at h
  try simp only[go_sem]
  cases h
  rfl
 rw[if_neg (ffn hc10)]at h
 try simp only[go_sem]
 obtain⟨r11,hr12,h⟩:=bs h
 replace hr12:=zag hr12
 refine zaj hr12 ?_
 try simp only[go_sem]
 refine zaf (fun hc13=> ?_) (fun hc14=> ?_)
 ·rw[if_pos hc13]at h
  try simp only[go_sem]
  cases h
  rfl
 rw[if_neg (ff hc14)]at h
 try simp only[go_sem]
 obtain⟨r15,hr16,h⟩:=bs h
 replace hr16:=zag hr16
 refine zaj hr16 ?_
 try simp only[go_sem]
 refine zaf (fun hc17=> ?_) (fun hc18=> ?_)
 ·rw[if_pos hc17]at h
  try simp only[go_sem]
  cases h
  rfl
 rw[if_neg (ff hc18)]at h
 try simp only[go_sem]
 refine zaf (fun hc19=> ?_) (fun hc20=> ?_)
 ·rw[if_pos hc19]at h
  try simp only[go_sem]
  cases h
  rfl
 rw[if_neg (ff hc20)]at h
 try simp only[go_sem]
 cases h
 rfl
noncomputable def P28 (a0:Forest):Option (Bool):=
 (dec (eT2 (D.int .i64) (D.int .i64)) (pc prog 93 [eForest a0])).bind fun r1=>
 some (r1.1==0)
theorem zNr (a0:Forest) (r:Bool) (h:P28 a0=some r):pc prog 28 [eForest a0]=some (D.bool r):=by
 unfold P28 at h
 refine zaV (fn:=c28) rfl rfl ?_
 delta c28
 try simp only[go_sem]
 obtain⟨r1,hr2,h⟩:=bs h
 replace hr2:=zag hr2
 refine zaj hr2 ?_
 try simp only[go_sem]
 cases h
 rfl
noncomputable def P31 (a0:Forest) (a1:Int):Option (Node×Bool):=
 if(bif (decide (a1<1))then true else(decide ((a0.nodes.l.length:Int)<a1)))=true then
  some ((⟨0,⟨[],[],[]⟩,[],[],⟨true,[]⟩,⟨true,[]⟩,0,⟨true,[]⟩,0,0,0,0,false,false⟩:Node),false)
 else
  (rd a0.nodes.l (IntKind.wrap .i64 (a1-1))).bind fun y3=>
  some (y3,true)
theorem zNs (a0:Forest) (a1:Int) (r:Node×Bool) (h:P31 a0 a1=some r):pc prog 31 [eForest a0,.int .i64 a1]=some ((eT2 eNode D.bool) r):=by
 unfold P31 at h
 refine zaV (fn:=c31) rfl rfl ?_
 delta c31
 try simp only[go_sem]
 refine zaa (v:= .d (.int .i64 a1)) (fun hb9=>by simp only[go_sem,hb9]) ?_
 try simp only[go_sem]
 refine zaa (v:= .ptr 0 0 0) (fun hb8=>by simp only[go_sem,hb8]) ?_
 try simp only[go_sem]
 refine zaa (v:= .d (.list a0.nodes.n (a0.nodes.l.map eNode))) (fun hb7=>by simp only[go_sem,hb7]) ?_
 try simp only[go_sem]
 refine zaa (v:= .d (.int .i64 (a0.nodes.l.length:Int))) (fun hb6=>by simp only[go_sem,hb6]) ?_
 try simp only[go_sem]
 refine zaa (v:= .d (.bool (decide ((a0.nodes.l.length:Int)<a1)))) (fun hb5=>by simp only[go_sem,hb5]) ?_
 try simp only[go_sem]
 refine zaf (fun hc1=> ?_) (fun hc2=> ?_)
 ·rw[if_pos hc1]at h
  try simp only[go_sem]
  cases h
  rfl
 rw[if_neg (ff hc2)]at h
 try simp only[go_sem]
 obtain⟨y3,hy4,h⟩:=bs h
 try simp only[go_sem,zab hy4,zad hy4,zac eNode hy4]
 cases h
 rfl
noncomputable def P35 (a0:Forest) (a1:Int) (a2:Int):Option (Bool×Int):=
 (dec (D.int .i64) (pc prog 87 [eForest a0,.list false (([a1,a2]).map (D.int .i64))])).bind fun r1=>
 if(!(r1==0))=true then
  some (false,r1)
 else
  (dec D.bool (pc prog 86 [eForest a0,.int .i64 a1,.int .i64 a2])).bind fun r5=>
  some (r5,0)
theorem zNt (a0:Forest) (a1:Int) (a2:Int) (r:Bool×Int) (h:P35 a0 a1 a2=some r):pc prog 35 [eForest a0,.int .i64 a1,.int .i64 a2]=some ((eT2 D.bool (D.int .i64)) r):=by
 unfold P35 at h
 refine zaV (fn:=c35) rfl rfl ?_
 delta c35
 try simp only[go_sem]
 refine zbj (fn:=c98) rfl rfl ?_
 delta c98
 try simp only[go_sem]
 obtain⟨r1,hr2,h⟩:=bs h
 replace hr2:=zag hr2
 refine zaj hr2 ?_
 try simp only[go_sem]
 refine zav (fun hc3=> ?_) (fun hc4=> ?_)
 ·rw[if_pos (show(!(r1==0))=true by(rw[hc3];rfl))]at h
  try simp only[go_sem]
  cases h
  rfl
 rw[if_neg (ffn hc4)]at h
 try simp only[go_sem]
 refine zcv (fn:=c99) rfl rfl ?_
 delta c99
 try simp only[go_sem]
 obtain⟨r5,hr6,h⟩:=bs h
 replace hr6:=zag hr6
 refine zaj hr6 ?_
 try simp only[go_sem]
 cases h
 rfl
def zhV (a0:Forest) (a1:Int) (a2:Int) (x0:Int):St:=⟨(((Regs.none.set 0 (.yld 38)).set 1 (.ptr 34 0 0)).set 2 (.ptr 33 0 0)),((((((((((Heap.at 39).set 0 (some (.els 1 [.d (eForest a0)] 0))).set 1 (some (.els 1 [.d (.int .i64 a1)] 0))).set 2 (some (.els 1 [.d (.int .i64 a2)] 0))).set 9 (some (.els 1 [.d (.int .i64 a1),.d (.int .i64 a2)] 2))).set 15 (some (.els 1 [.d (eForest a0)] 0))).set 29 (some (.els 1 [.d (.int .i64 (0))] 0))).set 33 (some (.els 1 [.d (eForest a0)] 0))).set 34 (some (.els 1 [.d (.int .i64 x0)] 0))).set 38 (some (.loop ⟨(((Regs.none.set 0 (.ptr 0 0 0)).set 2 (.ptr 2 0 0)).set 3 (.ptr 29 0 0)),[8],znZ,zoa,.ready,none⟩)))⟩
def zlZ (a0:Forest) (a1:Int) (a2:Int):((Int)⊕(Int×Int))→Ex×St:=fun r=>match r with
 |(.inl r)=>(.exit 0,⟨Regs.none,((((((((((Heap.at 39).set 0 (some (.els 1 [.d (eForest a0)] 0))).set 1 (some (.els 1 [.d (.int .i64 a1)] 0))).set 2 (some (.els 1 [.d (.int .i64 a2)] 0))).set 9 (some (.els 1 [.d (.int .i64 a1),.d (.int .i64 a2)] 2))).set 15 (some (.els 1 [.d (eForest a0)] 0))).set 29 (some (.els 1 [.d (.int .i64 (0))] 0))).set 33 (some (.els 1 [.d (eForest a0)] 0))).set 34 (some (.els 1 [.d (.int .i64 r)] 0))).set 38 (some (.loop ⟨(((Regs.none.set 0 (.ptr 0 0 0)).set 2 (.ptr 2 0 0)).set 3 (.ptr 29 0 0)),[8],znZ,zoa,.ready,none⟩)))⟩)
 |(.inr r)=>(.ret,⟨Regs.none,((((((((((Heap.at 39).set 0 (some (.els 1 [.d (eForest a0)] 0))).set 1 (some (.els 1 [.d (.int .i64 a1)] 0))).set 2 (some (.els 1 [.d (.int .i64 a2)] 0))).set 9 (some (.els 1 [.d (.int .i64 a1),.d (.int .i64 a2)] 2))).set 15 (some (.els 1 [.d (eForest a0)] 0))).set 29 (some (.els 1 [.d (.int .i64 r.1)] 0))).set 33 (some (.els 1 [.d (eForest a0)] 0))).set 34 (some (.els 1 [.d (.int .i64 r.2)] 0))).set 38 (some (.loop ⟨(((Regs.none.set 0 (.ptr 0 0 0)).set 2 (.ptr 2 0 0)).set 3 (.ptr 29 0 0)),[8],znZ,zoa,.done,(some .ret)⟩)))⟩)
noncomputable def zcD (a0:Forest) (a1:Int) (a2:Int) (x0:Int):Option ((Int)⊕((Int)⊕(Int×Int))):=
 if(!(x0==0))=true then
  (dec D.bool (pc prog 86 [eForest a0,.int .i64 x0,.int .i64 a2])).bind fun r7=>
  if r7=true then
   some (.inr (.inr (x0,x0)))
  else
   (dec eNode (pc prog 91 [eForest a0,.int .i64 x0])).bind fun r11=>
   some (.inl r11.parent)
 else
  some (.inr (.inl x0))
theorem zBO (a0:Forest) (a1:Int) (a2:Int) (x0:Int) (o:(Int)⊕((Int)⊕(Int×Int))) (h:zcD a0 a1 a2 x0=some o):Wp prog zcR (zhV a0 a1 a2 x0) (zbF (39,[]) (zhV a0 a1 a2) (zlZ a0 a1 a2) o):=by
 unfold zcD at h
 delta zcR zhV
 try simp only[go_sem]
 refine zav (fun hc5=> ?_) (fun hc6=> ?_)
 ·rw[if_pos (show(!(x0==0))=true by(rw[hc5];rfl))]at h
  try simp only[go_sem]
  refine zdJ (by simp only[go_sem];rfl) rfl ?_
  delta znZ
  try simp only[go_sem]
  delta zoa
  try simp only[go_sem]
  obtain⟨r7,hr8,h⟩:=bs h
  replace hr8:=zag hr8
  refine zaj hr8 ?_
  try simp only[go_sem]
  refine zaf (fun hc9=> ?_) (fun hc10=> ?_)
  ·rw[if_pos hc9]at h
   try simp only[go_sem]
   cases h
   exact⟨rfl,by simp,Up.of (N:=39) (N':=52) [] rfl rfl (by decide) zal.none (.set (zar.loop (.set (.ptr' rfl) (.set (.ptr' rfl) (.set (.ptr' rfl) zal.none))) rfl rfl) (.set zar.refl_d (.set zar.refl_d (.set zar.refl_d (.set zar.refl_d (.set (zar.els (Nat.le_refl _) (.cons (.d _) (.cons (.d _) .nil))) (.set zar.refl_d (.set zar.refl_d (.set zar.refl_d zan.at)))))))))⟩
  rw[if_neg (ff hc10)]at h
  try simp only[go_sem]
  obtain⟨r11,hr12,h⟩:=bs h
  replace hr12:=zag hr12
  refine zaj hr12 ?_
  try simp only[go_sem]
  cases h
  exact⟨rfl,Up.of (N:=39) (N':=55) [] rfl rfl (by decide) (.set (.ptr' rfl) (.set (.ptr' rfl) (.set (.yld' rfl) zal.none))) (.set (zar.loop (.set (.ptr' rfl) (.set (.ptr' rfl) (.set (.ptr' rfl) zal.none))) rfl rfl) (.set zar.refl_d (.set zar.refl_d (.set zar.refl_d (.set zar.refl_d (.set (zar.els (Nat.le_refl _) (.cons (.d _) (.cons (.d _) .nil))) (.set zar.refl_d (.set zar.refl_d (.set zar.refl_d zan.at)))))))))⟩
 rw[if_neg (ffn hc6)]at h
 try simp only[go_sem]
 cases h
 exact⟨rfl,by simp,Up.of (N:=39) (N':=41) [] rfl rfl (by decide) zal.none (.set (zar.loop (.set (.ptr' rfl) (.set (.ptr' rfl) (.set (.ptr' rfl) zal.none))) rfl rfl) (.set zar.refl_d (.set zar.refl_d (.set zar.refl_d (.set zar.refl_d (.set (zar.els (Nat.le_refl _) (.cons (.d _) (.cons (.d _) .nil))) (.set zar.refl_d (.set zar.refl_d (.set zar.refl_d zan.at)))))))))⟩
noncomputable def P36 (a0:Forest) (a1:Int) (a2:Int):Option (Int×Int):=
 (dec (D.int .i64) (pc prog 87 [eForest a0,.list false (([a1,a2]).map (D.int .i64))])).bind fun r1=>
 if(!(r1==0))=true then
  some (0,r1)
 else
  (zaQ (zcD a0 a1 a2) a1).bind fun r13=>
  match r13 with
  |(.inl q15)=>
   some (0,0)
  |(.inr q16)=>
   some (q16.1,0)
theorem zNu (a0:Forest) (a1:Int) (a2:Int) (r:Int×Int) (h:P36 a0 a1 a2=some r):pc prog 36 [eForest a0,.int .i64 a1,.int .i64 a2]=some ((eT2 (D.int .i64) (D.int .i64)) r):=by
 unfold P36 at h
 refine zaV (fn:=c36) rfl rfl ?_
 delta c36
 try simp only[go_sem]
 refine zbj (fn:=zyZ) rfl rfl ?_
 delta zyZ
 try simp only[go_sem]
 obtain⟨r1,hr2,h⟩:=bs h
 replace hr2:=zag hr2
 refine zaj hr2 ?_
 try simp only[go_sem]
 refine zav (fun hc3=> ?_) (fun hc4=> ?_)
 ·rw[if_pos (show(!(r1==0))=true by(rw[hc3];rfl))]at h
  try simp only[go_sem]
  cases h
  rfl
 rw[if_neg (ffn hc4)]at h
 try simp only[go_sem]
 refine zcv (fn:=zJS) rfl rfl ?_
 delta zJS
 try simp only[go_sem]
 refine zbj (fn:=zug) rfl rfl ?_
 delta zug
 try simp only[go_sem]
 refine Wp.rfuncC (k:=173) (fn:=zuh) (first:=[]) (cap:=[.ptr 34 0 0,.ptr 33 0 0]) (by simp only[go_sem]) rfl rfl ?_
 delta zuh
 try simp only[go_sem]
 obtain⟨r13,hl14,h⟩:=bs h
 refine Wp.loopR zbc (n:=(39,[])) (a:=zcR) rfl (zhV a0 a1 a2) (zlZ a0 a1 a2) (zBO a0 a1 a2) hl14 ?_ (by(repeat(refine Clo.block ?_));refine Clo.rf (n':=(29,[])) ?_ (by decide) (by decide) ?_;((repeat(first|refine zaH.set ?_ ?_|refine zaH.args ?_|exact zaX.nil|refine zaX.cons ?_ ?_|exact zaF.ptr (by decide)|refine zaF.clo ?_ ?_)));(repeat(first|refine Clo.block ?_|refine Clo.seq zbc rfl ?_));refine Clo.inl zbc (n':=(15,[])) rfl rfl rfl ?_ ?_ (show Fx.spans _ 25 4=true from by decide) (by decide) ?_;((repeat(first|exact zaH.no|refine zaH.set ?_ ?_|refine zaH.args ?_|exact zaX.nil|refine zaX.cons ?_ ?_|exact zaF.d|exact zaF.ptr (by decide)|exact zaF.sl (by decide)|refine zaF.clo ?_ ?_));(repeat(first|exact zaH.no|exact zaH.none|refine zaH.set ?_ ?_|refine zaH.args ?_|exact zaX.nil|refine zaX.cons ?_ ?_|exact zaF.d|exact zaF.undef|exact zaF.rp|exact zaF.ptr (by decide)|exact zaF.sl (by decide)|exact zaF.mb (by decide)|exact zaF.map (by decide)|exact zaF.yld (by decide)|exact zaF.it (by decide)|refine zaF.clo ?_ ?_|refine zaF.ofCells ?_|refine zaF.agg ?_|refine zaF.tuple ?_|refine zaF.bif ?_ ?_)));(repeat(refine Clo.seq zbc rfl ?_));refine Clo.inl zbc (n':=(0,[])) rfl rfl rfl ?_ ?_ (show Fx.spans _ 5 10=true from by decide) (by decide) ?_;((repeat(first|exact zaH.no|refine zaH.set ?_ ?_|refine zaH.args ?_|exact zaX.nil|refine zaX.cons ?_ ?_|exact zaF.d|exact zaF.ptr (by decide)|exact zaF.sl (by decide)|refine zaF.clo ?_ ?_));(repeat(first|exact zaH.no|exact zaH.none|refine zaH.set ?_ ?_|refine zaH.args ?_|exact zaX.nil|refine zaX.cons ?_ ?_|exact zaF.d|exact zaF.undef|exact zaF.rp|exact zaF.ptr (by decide)|exact zaF.sl (by decide)|exact zaF.mb (by decide)|exact zaF.map (by decide)|exact zaF.yld (by decide)|exact zaF.it (by decide)|refine zaF.clo ?_ ?_|refine zaF.ofCells ?_|refine zaF.agg ?_|refine zaF.tuple ?_|refine zaF.bif ?_ ?_)));(repeat(refine Clo.seq zbc rfl ?_));(exact Clo.ret)) ?_
 ·show Up (39,[]) (zhV a0 a1 a2 a1) _
  delta zhV
  exact Up.of (N:=39) (N':=39) [] rfl rfl (by decide) (.set (.ptr' rfl) (.set (.ptr' rfl) (.set (.yld' rfl) zal.none))) (.set (zar.loop (.set (.ptr' rfl) (.set (.ptr' rfl) (.set (.ptr' rfl) zal.none))) rfl rfl) (.set zar.refl_d (.set zar.refl_d (.set zar.refl_d (.set zar.refl_d (.set (zar.els (Nat.le_refl _) (.cons (.d _) (.cons (.d _) .nil))) (.set zar.refl_d (.set zar.refl_d (.set zar.refl_d zan.at)))))))))
 rcases r13 with(q15|q16)
 ·dsimp only at h
  dsimp only[zlZ]
  try simp only[go_sem]
  cases h
  rfl
 dsimp only at h
 dsimp only[zlZ]
 try simp only[go_sem]
 cases h
 rfl
noncomputable def P37 (a0:Forest) (a1:Int):Option (Int×Int):=
 (dec (D.int .i64) (pc prog 87 [eForest a0,.list false (([a1]).map (D.int .i64))])).bind fun r1=>
 if(!(r1==0))=true then
  some (0,r1)
 else
  (dec (D.int .i64) (pc prog 104 [eForest a0,.int .i64 a1])).bind fun r5=>
  some (r5,0)
theorem zNv (a0:Forest) (a1:Int) (r:Int×Int) (h:P37 a0 a1=some r):pc prog 37 [eForest a0,.int .i64 a1]=some ((eT2 (D.int .i64) (D.int .i64)) r):=by
 unfold P37 at h
 refine zaV (fn:=c37) rfl rfl ?_
 delta c37
 try simp only[go_sem]
 refine zbj (fn:=zyZ) rfl rfl ?_
 delta zyZ
 try simp only[go_sem]
 obtain⟨r1,hr2,h⟩:=bs h
 replace hr2:=zag hr2
 refine zaj hr2 ?_
 try simp only[go_sem]
 refine zav (fun hc3=> ?_) (fun hc4=> ?_)
 ·rw[if_pos (show(!(r1==0))=true by(rw[hc3];rfl))]at h
  try simp only[go_sem]
  cases h
  rfl
 rw[if_neg (ffn hc4)]at h
 try simp only[go_sem]
 refine zcv (fn:=zJT) rfl rfl ?_
 delta zJT
 try simp only[go_sem]
 obtain⟨r5,hr6,h⟩:=bs h
 replace hr6:=zag hr6
 refine zaj hr6 ?_
 try simp only[go_sem]
 cases h
 rfl
noncomputable def P38 (a0:Forest) (a1:Int):Option (Sl (Int)×Int):=
 (dec (D.int .i64) (pc prog 87 [eForest a0,.list false (([a1]).map (D.int .i64))])).bind fun r1=>
 if(!(r1==0))=true then
  some (⟨true,[]⟩,r1)
 else
  (dec (eSl (D.int .i64)) (pc prog 107 [eForest a0,.int .i64 a1])).bind fun r5=>
  some (r5,0)
theorem zNw (a0:Forest) (a1:Int) (r:Sl (Int)×Int) (h:P38 a0 a1=some r):pc prog 38 [eForest a0,.int .i64 a1]=some ((eT2 (eSl (D.int .i64)) (D.int .i64)) r):=by
 unfold P38 at h
 refine zaV (fn:=c38) rfl rfl ?_
 delta c38
 try simp only[go_sem]
 refine zbj (fn:=zGV) rfl rfl ?_
 delta zGV
 try simp only[go_sem]
 obtain⟨r1,hr2,h⟩:=bs h
 replace hr2:=zag hr2
 refine zaj hr2 ?_
 try simp only[go_sem]
 refine zav (fun hc3=> ?_) (fun hc4=> ?_)
 ·rw[if_pos (show(!(r1==0))=true by(rw[hc3];rfl))]at h
  try simp only[go_sem]
  cases h
  rfl
 rw[if_neg (ffn hc4)]at h
 try simp only[go_sem]
 refine zcv (fn:=zJV) rfl rfl ?_
 delta zJV
 try simp only[go_sem]
 obtain⟨r5,hr6,h⟩:=bs h
 replace hr6:=zag hr6
 refine zaj hr6 ?_
 try simp only[go_sem]
 cases h
 rfl
def zhW (a0:Forest) (a1:Sl (Int)) (x0:Int):St:=⟨(((Regs.none.set 1 (.d (.list a1.n (a1.l.map (D.int .i64))))).set 2 (.ptr 0 0 0)).set 5 (.d (.int .i64 x0))),((Heap.at 6).set 0 (some (.els 1 [.d (eForest a0)] 0)))⟩
def zma (a0:Forest) (a1:Sl (Int)):((Unit)⊕(Unit))→Ex×St:=fun r=>match r with
 |(.inl r)=>(.exit 0,⟨Regs.none,(Heap.at 6)⟩)
 |(.inr r)=>(.ret,⟨(Regs.none.set 4 (.d (.int .i64 (2)))),(Heap.at 6)⟩)
noncomputable def zej (a0:Forest) (a1:Sl (Int)) (x0:Int):Option ((Int)⊕((Unit)⊕(Unit))):=
 if(decide (x0<(a1.l.length:Int)))=true then
  (rd a1.l x0).bind fun y7=>
  if(!(decide (y7<1)))=true then
   if(decide ((a0.nodes.l.length:Int)<y7))=true then
    some (.inr (.inr ()))
   else
    some (.inl (IntKind.wrap .i64 (x0+1)))
  else
   some (.inr (.inr ()))
 else
  some (.inr (.inl ()))
theorem zBP (a0:Forest) (a1:Sl (Int)) (x0:Int) (o:(Int)⊕((Unit)⊕(Unit))) (h:zej a0 a1 x0=some o):Wp prog zBH (zhW a0 a1 x0) (zbF (0,[]) (zhW a0 a1) (zma a0 a1) o):=by
 unfold zej at h
 delta zBH zhW
 try simp only[go_sem]
 refine zaf (fun hc5=> ?_) (fun hc6=> ?_)
 ·rw[if_pos hc5]at h
  try simp only[go_sem]
  obtain⟨y7,hy8,h⟩:=bs h
  try simp only[go_sem,zab hy8,zad hy8,zac (D.int .i64) hy8]
  refine zaa (v:= .d (.list a1.n (a1.l.map (D.int .i64)))) (fun hb14=>by simp only[go_sem,zab hy8,zad hy8,zac (D.int .i64) hy8,hc5,hb14]) ?_
  try simp only[go_sem,zab hy8,zad hy8,zac (D.int .i64) hy8]
  refine zaa (v:= .d (.int .i64 x0)) (fun hb13=>by simp only[go_sem,zab hy8,zad hy8,zac (D.int .i64) hy8,hc5,hb13]) ?_
  try simp only[go_sem,zab hy8,zad hy8,zac (D.int .i64) hy8]
  refine zau (fun hc9=> ?_) (fun hc10=> ?_)
  ·rw[if_pos (show(!(decide (y7<1)))=true by(rw[hc9];rfl))]at h
   try simp only[go_sem,zab hy8,zad hy8,zac (D.int .i64) hy8,hc9]
   refine zaf (fun hc11=> ?_) (fun hc12=> ?_)
   ·rw[if_pos hc11]at h
    try simp only[go_sem,zab hy8,zad hy8,zac (D.int .i64) hy8]
    cases h
    exact⟨rfl,by simp,Up.of (N:=6) (N':=26) [] rfl rfl (by decide) (.set (.d _) zal.none) zan.at⟩
   rw[if_neg (ff hc12)]at h
   try simp only[go_sem,zab hy8,zad hy8,zac (D.int .i64) hy8]
   cases h
   exact⟨rfl,Up.of (N:=6) (N':=28) [] rfl rfl (by decide) (.set (.d _) (.set (.ptr' rfl) (.set (.d _) zal.none))) (.set zar.refl_d zan.at)⟩
  rw[if_neg (ffn hc10)]at h
  try simp only[go_sem,zab hy8,zad hy8,zac (D.int .i64) hy8,hc10]
  cases h
  exact⟨rfl,by simp,Up.of (N:=6) (N':=26) [] rfl rfl (by decide) (.set (.d _) zal.none) zan.at⟩
 rw[if_neg (ff hc6)]at h
 try simp only[go_sem]
 cases h
 exact⟨rfl,by simp,Up.of (N:=6) (N':=10) [] rfl rfl (by decide) zal.none zan.at⟩
noncomputable def P45 (a0:Forest) (a1:Sl (Int)):Option (Int):=
 (dec D.bool (pc prog 28 [eForest a0])).bind fun r1=>
 if(!r1)=true then
  some (5)
 else
  (zaQ (zej a0 a1) 0).bind fun r15=>
  match r15 with
  |(.inl q17)=>
   some (0)
  |(.inr q18)=>
   some (2)
theorem zNx (a0:Forest) (a1:Sl (Int)) (r:Int) (h:P45 a0 a1=some r):pc prog 45 [eForest a0,.list a1.n (a1.l.map (D.int .i64))]=some ((D.int .i64) r):=by
 unfold P45 at h
 refine zaV (fn:=c45) rfl rfl ?_
 delta c45
 try simp only[go_sem]
 obtain⟨r1,hr2,h⟩:=bs h
 replace hr2:=zag hr2
 refine zaj hr2 ?_
 try simp only[go_sem]
 refine zav (fun hc3=> ?_) (fun hc4=> ?_)
 ·rw[if_pos (show(!r1)=true by(rw[hc3];rfl))]at h
  try simp only[go_sem]
  cases h
  rfl
 rw[if_neg (ffn hc4)]at h
 try simp only[go_sem]
 obtain⟨r15,hl16,h⟩:=bs h
 refine Wp.loopR zbc (n:=(0,[])) (a:=zBH) rfl (zhW a0 a1) (zma a0 a1) (zBP a0 a1) hl16 ?_ (by(repeat(first|refine Clo.block ?_|refine Clo.seq zbc rfl ?_));(exact Clo.ret)) ?_
 ·show Up (0,[]) (zhW a0 a1 0) _
  delta zhW
  exact Up.of (N:=6) (N':=6) [] rfl rfl (by decide) (.set (.d _) (.set (.ptr' rfl) (.set (.d _) zal.none))) (.set zar.refl_d zan.at)
 rcases r15 with(q17|q18)
 ·dsimp only at h
  dsimp only[zma]
  try simp only[go_sem]
  cases h
  rfl
 dsimp only at h
 dsimp only[zma]
 try simp only[go_sem]
 cases h
 rfl
noncomputable def P54 (a0:Forest) (a1:Int) (a2:Int):Option (Int×Bool×Int):=
 (dec (D.int .i64) (pc prog 87 [eForest a0,.list false (([a1,a2]).map (D.int .i64))])).bind fun r1=>
 if(!(r1==0))=true then
  some (0,false,r1)
 else
  (dec (D.int .i64) (pc prog 104 [eForest a0,.int .i64 a1])).bind fun r5=>
  (dec (D.int .i64) (pc prog 104 [eForest a0,.int .i64 a2])).bind fun r7=>
  if(!(r5==r7))=true then
   some (0,false,0)
  else
   (dec (eSl (D.int .i64)) (pc prog 123 [eForest a0,.int .i64 a1])).bind fun r11=>
   (dec (eSl (D.int .i64)) (pc prog 123 [eForest a0,.int .i64 a2])).bind fun r13=>
   (dec (D.int .i64) (pc prog 122 [.list r11.n (r11.l.map (D.int .i64)),.list r13.n (r13.l.map (D.int .i64))])).bind fun r15=>
   some (r15,true,0)
theorem zNy (a0:Forest) (a1:Int) (a2:Int) (r:Int×Bool×Int) (h:P54 a0 a1 a2=some r):pc prog 54 [eForest a0,.int .i64 a1,.int .i64 a2]=some ((eT3 (D.int .i64) D.bool (D.int .i64)) r):=by
 unfold P54 at h
 refine zaV (fn:=c54) rfl rfl ?_
 delta c54
 try simp only[go_sem]
 obtain⟨r1,hr2,h⟩:=bs h
 replace hr2:=zag hr2
 refine zaj hr2 ?_
 try simp only[go_sem]
 refine zav (fun hc3=> ?_) (fun hc4=> ?_)
 ·rw[if_pos (show(!(r1==0))=true by(rw[hc3];rfl))]at h
  try simp only[go_sem]
  cases h
  rfl
 rw[if_neg (ffn hc4)]at h
 try simp only[go_sem]
 obtain⟨r5,hr6,h⟩:=bs h
 replace hr6:=zag hr6
 refine zaj hr6 ?_
 try simp only[go_sem]
 obtain⟨r7,hr8,h⟩:=bs h
 replace hr8:=zag hr8
 refine zaj hr8 ?_
 try simp only[go_sem]
 refine zav (fun hc9=> ?_) (fun hc10=> ?_)
 ·rw[if_pos (show(!(r5==r7))=true by(rw[hc9];rfl))]at h
  try simp only[go_sem]
  cases h
  rfl
 rw[if_neg (ffn hc10)]at h
 try simp only[go_sem]
 obtain⟨r11,hr12,h⟩:=bs h
 replace hr12:=zag hr12
 refine zaj hr12 ?_
 try simp only[go_sem]
 obtain⟨r13,hr14,h⟩:=bs h
 replace hr14:=zag hr14
 refine zaj hr14 ?_
 try simp only[go_sem]
 obtain⟨r15,hr16,h⟩:=bs h
 replace hr16:=zag hr16
 refine zaj hr16 ?_
 try simp only[go_sem]
 cases h
 rfl
noncomputable def P60 (a0:Forest) (a1:Int):Option (Int×Int):=
 (dec (D.int .i64) (pc prog 87 [eForest a0,.list false (([a1]).map (D.int .i64))])).bind fun r1=>
 if(!(r1==0))=true then
  some (0,r1)
 else
  (dec (D.int .i64) (pc prog 132 [eForest a0,.int .i64 a1])).bind fun r5=>
  some (r5,0)
theorem zNz (a0:Forest) (a1:Int) (r:Int×Int) (h:P60 a0 a1=some r):pc prog 60 [eForest a0,.int .i64 a1]=some ((eT2 (D.int .i64) (D.int .i64)) r):=by
 unfold P60 at h
 refine zaV (fn:=c60) rfl rfl ?_
 delta c60
 try simp only[go_sem]
 refine zbj (fn:=zyZ) rfl rfl ?_
 delta zyZ
 try simp only[go_sem]
 obtain⟨r1,hr2,h⟩:=bs h
 replace hr2:=zag hr2
 refine zaj hr2 ?_
 try simp only[go_sem]
 refine zav (fun hc3=> ?_) (fun hc4=> ?_)
 ·rw[if_pos (show(!(r1==0))=true by(rw[hc3];rfl))]at h
  try simp only[go_sem]
  cases h
  rfl
 rw[if_neg (ffn hc4)]at h
 try simp only[go_sem]
 refine zcv (fn:=zKc) rfl rfl ?_
 delta zKc
 try simp only[go_sem]
 obtain⟨r5,hr6,h⟩:=bs h
 replace hr6:=zag hr6
 refine zaj hr6 ?_
 try simp only[go_sem]
 cases h
 rfl
def zhX (a0:Forest) (a1:Int) (a2:Int) (x0:Int):St:=⟨(((Regs.none.set 0 (.yld 38)).set 1 (.ptr 34 0 0)).set 2 (.ptr 33 0 0)),((((((((((Heap.at 39).set 0 (some (.els 1 [.d (eForest a0)] 0))).set 1 (some (.els 1 [.d (.int .i64 a1)] 0))).set 2 (some (.els 1 [.d (.int .i64 a2)] 0))).set 9 (some (.els 1 [.d (.int .i64 a1),.d (.int .i64 a2)] 2))).set 15 (some (.els 1 [.d (eForest a0)] 0))).set 29 (some (.els 1 [.d (.bool false)] 0))).set 33 (some (.els 1 [.d (eForest a0)] 0))).set 34 (some (.els 1 [.d (.int .i64 x0)] 0))).set 38 (some (.loop ⟨((Regs.none.set 2 (.ptr 1 0 0)).set 3 (.ptr 29 0 0)),[8],zod,zoe,.ready,none⟩)))⟩
def zmb (a0:Forest) (a1:Int) (a2:Int):((Int)⊕(Int))→Ex×St:=fun r=>match r with
 |(.inl r)=>(.exit 0,⟨Regs.none,((((((((((Heap.at 39).set 0 (some (.els 1 [.d (eForest a0)] 0))).set 1 (some (.els 1 [.d (.int .i64 a1)] 0))).set 2 (some (.els 1 [.d (.int .i64 a2)] 0))).set 9 (some (.els 1 [.d (.int .i64 a1),.d (.int .i64 a2)] 2))).set 15 (some (.els 1 [.d (eForest a0)] 0))).set 29 (some (.els 1 [.d (.bool false)] 0))).set 33 (some (.els 1 [.d (eForest a0)] 0))).set 34 (some (.els 1 [.d (.int .i64 r)] 0))).set 38 (some (.loop ⟨((Regs.none.set 2 (.ptr 1 0 0)).set 3 (.ptr 29 0 0)),[8],zod,zoe,.ready,none⟩)))⟩)
 |(.inr r)=>(.ret,⟨Regs.none,((((((((((Heap.at 39).set 0 (some (.els 1 [.d (eForest a0)] 0))).set 1 (some (.els 1 [.d (.int .i64 a1)] 0))).set 2 (some (.els 1 [.d (.int .i64 a2)] 0))).set 9 (some (.els 1 [.d (.int .i64 a1),.d (.int .i64 a2)] 2))).set 15 (some (.els 1 [.d (eForest a0)] 0))).set 29 (some (.els 1 [.d (.bool true)] 0))).set 33 (some (.els 1 [.d (eForest a0)] 0))).set 34 (some (.els 1 [.d (.int .i64 r)] 0))).set 38 (some (.loop ⟨((Regs.none.set 2 (.ptr 1 0 0)).set 3 (.ptr 29 0 0)),[8],zod,zoe,.done,(some .ret)⟩)))⟩)
noncomputable def zcE (a0:Forest) (a1:Int) (a2:Int) (x0:Int):Option ((Int)⊕((Int)⊕(Int))):=
 if(!(x0==0))=true then
  if(x0==a1)=true then
   some (.inr (.inr x0))
  else
   (dec (D.int .i64) (pc prog 183 [eForest a0,.int .i64 x0])).bind fun r9=>
   some (.inl r9)
 else
  some (.inr (.inl x0))
theorem zBQ (a0:Forest) (a1:Int) (a2:Int) (x0:Int) (o:(Int)⊕((Int)⊕(Int))) (h:zcE a0 a1 a2 x0=some o):Wp prog zka (zhX a0 a1 a2 x0) (zbF (39,[]) (zhX a0 a1 a2) (zmb a0 a1 a2) o):=by
 unfold zcE at h
 delta zka zhX
 try simp only[go_sem]
 refine zav (fun hc5=> ?_) (fun hc6=> ?_)
 ·rw[if_pos (show(!(x0==0))=true by(rw[hc5];rfl))]at h
  try simp only[go_sem]
  refine zdJ (by simp only[go_sem];rfl) rfl ?_
  delta zod
  try simp only[go_sem]
  delta zoe
  try simp only[go_sem]
  refine zaf (fun hc7=> ?_) (fun hc8=> ?_)
  ·rw[if_pos hc7]at h
   try simp only[go_sem]
   cases h
   exact⟨rfl,by simp,Up.of (N:=39) (N':=50) [] rfl rfl (by decide) zal.none (.set (zar.loop (.set (.ptr' rfl) (.set (.ptr' rfl) zal.none)) rfl rfl) (.set zar.refl_d (.set zar.refl_d (.set zar.refl_d (.set zar.refl_d (.set (zar.els (Nat.le_refl _) (.cons (.d _) (.cons (.d _) .nil))) (.set zar.refl_d (.set zar.refl_d (.set zar.refl_d zan.at)))))))))⟩
  rw[if_neg (ff hc8)]at h
  try simp only[go_sem]
  obtain⟨r9,hr10,h⟩:=bs h
  replace hr10:=zag hr10
  refine zaj hr10 ?_
  try simp only[go_sem]
  cases h
  exact⟨rfl,Up.of (N:=39) (N':=53) [] rfl rfl (by decide) (.set (.ptr' rfl) (.set (.ptr' rfl) (.set (.yld' rfl) zal.none))) (.set (zar.loop (.set (.ptr' rfl) (.set (.ptr' rfl) zal.none)) rfl rfl) (.set zar.refl_d (.set zar.refl_d (.set zar.refl_d (.set zar.refl_d (.set (zar.els (Nat.le_refl _) (.cons (.d _) (.cons (.d _) .nil))) (.set zar.refl_d (.set zar.refl_d (.set zar.refl_d zan.at)))))))))⟩
 rw[if_neg (ffn hc6)]at h
 try simp only[go_sem]
 cases h
 exact⟨rfl,by simp,Up.of (N:=39) (N':=41) [] rfl rfl (by decide) zal.none (.set (zar.loop (.set (.ptr' rfl) (.set (.ptr' rfl) zal.none)) rfl rfl) (.set zar.refl_d (.set zar.refl_d (.set zar.refl_d (.set zar.refl_d (.set (zar.els (Nat.le_refl _) (.cons (.d _) (.cons (.d _) .nil))) (.set zar.refl_d (.set zar.refl_d (.set zar.refl_d zan.at)))))))))⟩
noncomputable def P61 (a0:Forest) (a1:Int) (a2:Int):Option (Bool×Int):=
 (dec (D.int .i64) (pc prog 87 [eForest a0,.list false (([a1,a2]).map (D.int .i64))])).bind fun r1=>
 if(!(r1==0))=true then
  some (false,r1)
 else
  (zaQ (zcE a0 a1 a2) a2).bind fun r11=>
  match r11 with
  |(.inl q13)=>
   some (false,0)
  |(.inr q14)=>
   some (true,0)
theorem zNk (a0:Forest) (a1:Int) (a2:Int) (r:Bool×Int) (h:P61 a0 a1 a2=some r):pc prog 61 [eForest a0,.int .i64 a1,.int .i64 a2]=some ((eT2 D.bool (D.int .i64)) r):=by
 unfold P61 at h
 refine zaV (fn:=c61) rfl rfl ?_
 delta c61
 try simp only[go_sem]
 refine zbj (fn:=c98) rfl rfl ?_
 delta c98
 try simp only[go_sem]
 obtain⟨r1,hr2,h⟩:=bs h
 replace hr2:=zag hr2
 refine zaj hr2 ?_
 try simp only[go_sem]
 refine zav (fun hc3=> ?_) (fun hc4=> ?_)
 ·rw[if_pos (show(!(r1==0))=true by(rw[hc3];rfl))]at h
  try simp only[go_sem]
  cases h
  rfl
 rw[if_neg (ffn hc4)]at h
 try simp only[go_sem]
 refine zcv (fn:=zKe) rfl rfl ?_
 delta zKe
 try simp only[go_sem]
 refine zbj (fn:=zGW) rfl rfl ?_
 delta zGW
 try simp only[go_sem]
 refine Wp.rfuncC (k:=182) (fn:=zGY) (first:=[]) (cap:=[.ptr 34 0 0,.ptr 33 0 0]) (by simp only[go_sem]) rfl rfl ?_
 delta zGY
 try simp only[go_sem]
 obtain⟨r11,hl12,h⟩:=bs h
 refine Wp.loopR zbc (n:=(39,[])) (a:=zka) rfl (zhX a0 a1 a2) (zmb a0 a1 a2) (zBQ a0 a1 a2) hl12 ?_ (by(repeat(refine Clo.block ?_));refine Clo.rf (n':=(29,[])) ?_ (by decide) (by decide) ?_;((repeat(first|refine zaH.set ?_ ?_|refine zaH.args ?_|exact zaX.nil|refine zaX.cons ?_ ?_|exact zaF.ptr (by decide)|refine zaF.clo ?_ ?_)));(repeat(first|refine Clo.block ?_|refine Clo.seq zbc rfl ?_));refine Clo.inl zbc (n':=(15,[])) rfl rfl rfl ?_ ?_ (show Fx.spans _ 25 4=true from by decide) (by decide) ?_;((repeat(first|exact zaH.no|refine zaH.set ?_ ?_|refine zaH.args ?_|exact zaX.nil|refine zaX.cons ?_ ?_|exact zaF.d|exact zaF.ptr (by decide)|exact zaF.sl (by decide)|refine zaF.clo ?_ ?_));(repeat(first|exact zaH.no|exact zaH.none|refine zaH.set ?_ ?_|refine zaH.args ?_|exact zaX.nil|refine zaX.cons ?_ ?_|exact zaF.d|exact zaF.undef|exact zaF.rp|exact zaF.ptr (by decide)|exact zaF.sl (by decide)|exact zaF.mb (by decide)|exact zaF.map (by decide)|exact zaF.yld (by decide)|exact zaF.it (by decide)|refine zaF.clo ?_ ?_|refine zaF.ofCells ?_|refine zaF.agg ?_|refine zaF.tuple ?_|refine zaF.bif ?_ ?_)));(repeat(refine Clo.seq zbc rfl ?_));refine Clo.inl zbc (n':=(0,[])) rfl rfl rfl ?_ ?_ (show Fx.spans _ 5 10=true from by decide) (by decide) ?_;((repeat(first|exact zaH.no|refine zaH.set ?_ ?_|refine zaH.args ?_|exact zaX.nil|refine zaX.cons ?_ ?_|exact zaF.d|exact zaF.ptr (by decide)|exact zaF.sl (by decide)|refine zaF.clo ?_ ?_));(repeat(first|exact zaH.no|exact zaH.none|refine zaH.set ?_ ?_|refine zaH.args ?_|exact zaX.nil|refine zaX.cons ?_ ?_|exact zaF.d|exact zaF.undef|exact zaF.rp|exact zaF.ptr (by decide)|exact zaF.sl (by decide)|exact zaF.mb (by decide)|exact zaF.map (by decide)|exact zaF.yld (by decide)|exact zaF.it (by decide)|refine zaF.clo ?_ ?_|refine zaF.ofCells ?_|refine zaF.agg ?_|refine zaF.tuple ?_|refine zaF.bif ?_ ?_)));(repeat(refine Clo.seq zbc rfl ?_));(exact Clo.ret)) ?_
 ·show Up (39,[]) (zhX a0 a1 a2 a2) _
  delta zhX
  exact Up.of (N:=39) (N':=39) [] rfl rfl (by decide) (.set (.ptr' rfl) (.set (.ptr' rfl) (.set (.yld' rfl) zal.none))) (.set (zar.loop (.set (.ptr' rfl) (.set (.ptr' rfl) zal.none)) rfl rfl) (.set zar.refl_d (.set zar.refl_d (.set zar.refl_d (.set zar.refl_d (.set (zar.els (Nat.le_refl _) (.cons (.d _) (.cons (.d _) .nil))) (.set zar.refl_d (.set zar.refl_d (.set zar.refl_d zan.at)))))))))
 rcases r11 with(q13|q14)
 ·dsimp only at h
  dsimp only[zmb]
  try simp only[go_sem]
  cases h
  rfl
 dsimp only at h
 dsimp only[zmb]
 try simp only[go_sem]
 cases h
 rfl
noncomputable def P62 (a0:Forest) (a1:Int):Option (Int×Int):=
 (dec (D.int .i64) (pc prog 87 [eForest a0,.list false (([a1]).map (D.int .i64))])).bind fun r1=>
 if(!(r1==0))=true then
  some (0,r1)
 else
  (dec (D.int .i64) (pc prog 136 [eForest a0,.int .i64 a1])).bind fun r5=>
  some (r5,0)
theorem zNA (a0:Forest) (a1:Int) (r:Int×Int) (h:P62 a0 a1=some r):pc prog 62 [eForest a0,.int .i64 a1]=some ((eT2 (D.int .i64) (D.int .i64)) r):=by
 unfold P62 at h
 refine zaV (fn:=c62) rfl rfl ?_
 delta c62
 try simp only[go_sem]
 refine zbj (fn:=zyZ) rfl rfl ?_
 delta zyZ
 try simp only[go_sem]
 obtain⟨r1,hr2,h⟩:=bs h
 replace hr2:=zag hr2
 refine zaj hr2 ?_
 try simp only[go_sem]
 refine zav (fun hc3=> ?_) (fun hc4=> ?_)
 ·rw[if_pos (show(!(r1==0))=true by(rw[hc3];rfl))]at h
  try simp only[go_sem]
  cases h
  rfl
 rw[if_neg (ffn hc4)]at h
 try simp only[go_sem]
 refine zcv (fn:=zKf) rfl rfl ?_
 delta zKf
 try simp only[go_sem]
 obtain⟨r5,hr6,h⟩:=bs h
 replace hr6:=zag hr6
 refine zaj hr6 ?_
 try simp only[go_sem]
 cases h
 rfl
noncomputable def P64 (a0:Forest) (a1:Int):Option (Bool×Int):=
 (dec (D.int .i64) (pc prog 87 [eForest a0,.list false (([a1]).map (D.int .i64))])).bind fun r1=>
 if(!(r1==0))=true then
  some (false,r1)
 else
  (dec (D.int .i64) (pc prog 132 [eForest a0,.int .i64 a1])).bind fun r5=>
  (dec eNode (pc prog 91 [eForest a0,.int .i64 r5])).bind fun r7=>
  some ((r7.kind==9),0)
theorem zNB (a0:Forest) (a1:Int) (r:Bool×Int) (h:P64 a0 a1=some r):pc prog 64 [eForest a0,.int .i64 a1]=some ((eT2 D.bool (D.int .i64)) r):=by
 unfold P64 at h
 refine zaV (fn:=c64) rfl rfl ?_
 delta c64
 try simp only[go_sem]
 refine zbj (fn:=c98) rfl rfl ?_
 delta c98
 try simp only[go_sem]
 obtain⟨r1,hr2,h⟩:=bs h
 replace hr2:=zag hr2
 refine zaj hr2 ?_
 try simp only[go_sem]
 refine zav (fun hc3=> ?_) (fun hc4=> ?_)
 ·rw[if_pos (show(!(r1==0))=true by(rw[hc3];rfl))]at h
  try simp only[go_sem]
  cases h
  rfl
 rw[if_neg (ffn hc4)]at h
 try simp only[go_sem]
 refine zcv (fn:=zKh) rfl rfl ?_
 delta zKh
 try simp only[go_sem]
 obtain⟨r5,hr6,h⟩:=bs h
 replace hr6:=zag hr6
 refine zaj hr6 ?_
 try simp only[go_sem]
 obtain⟨r7,hr8,h⟩:=bs h
 replace hr8:=zag hr8
 refine zaj hr8 ?_
 try simp only[go_sem]
 cases h
 rfl
def zhY (a0:Forest) (x0:Int):St:=⟨((Regs.none.set 1 (.d (.int .i64 x0))).set 2 (.ptr 0 0 0)),((Heap.at 2).set 0 (some (.els 1 [.d (eForest a0)] 0)))⟩
def zqs (a0:Forest):((Int))→Ex×St:=fun r=>(.exit 0,⟨(Regs.none.set 1 (.d (.int .i64 r))),(Heap.at 2)⟩)
noncomputable def zde (a0:Forest) (x0:Int):Option ((Int)⊕((Int))):=
 (dec (D.int .i64) (pc prog 138 [eForest a0,.int .i64 x0])).bind fun r1=>
 if(!(r1==0))=true then
  (dec (D.int .i64) (pc prog 138 [eForest a0,.int .i64 x0])).bind fun r5=>
  some (.inl r5)
 else
  some (.inr x0)
theorem zBR (a0:Forest) (x0:Int) (o:(Int)⊕((Int))) (h:zde a0 x0=some o):Wp prog zBI (zhY a0 x0) (zbF (0,[]) (zhY a0) (zqs a0) o):=by
 unfold zde at h
 delta zBI zhY
 try simp only[go_sem]
 obtain⟨r1,hr2,h⟩:=bs h
 replace hr2:=zag hr2
 refine zaj hr2 ?_
 try simp only[go_sem]
 refine zav (fun hc3=> ?_) (fun hc4=> ?_)
 ·rw[if_pos (show(!(r1==0))=true by(rw[hc3];rfl))]at h
  try simp only[go_sem]
  obtain⟨r5,hr6,h⟩:=bs h
  replace hr6:=zag hr6
  refine zaj hr6 ?_
  try simp only[go_sem]
  cases h
  exact⟨rfl,Up.of (N:=2) (N':=10) [] rfl rfl (by decide) (.set (.ptr' rfl) (.set (.d _) zal.none)) (.set zar.refl_d zan.at)⟩
 rw[if_neg (ffn hc4)]at h
 try simp only[go_sem]
 cases h
 exact⟨rfl,by simp,Up.of (N:=2) (N':=6) [] rfl rfl (by decide) (.set (.d _) zal.none) zan.at⟩
noncomputable def P65 (a0:Forest) (a1:Int):Option (Int):=
 (zaQ (zde a0) a1).bind fun r7=>
 some r7
theorem zNC (a0:Forest) (a1:Int) (r:Int) (h:P65 a0 a1=some r):pc prog 65 [eForest a0,.int .i64 a1]=some ((D.int .i64) r):=by
 unfold P65 at h
 refine zaV (fn:=c65) rfl rfl ?_
 delta c65
 try simp only[go_sem]
 obtain⟨r7,hl8,h⟩:=bs h
 refine Wp.loopR zbc (n:=(0,[])) (a:=zBI) rfl (zhY a0) (zqs a0) (zBR a0) hl8 ?_ (by(repeat(first|refine Clo.block ?_|refine Clo.seq zbc rfl ?_));(exact Clo.ret)) ?_
 ·show Up (0,[]) (zhY a0 a1) _
  delta zhY
  exact Up.of (N:=2) (N':=2) [] rfl rfl (by decide) (.set (.ptr' rfl) (.set (.d _) zal.none)) (.set zar.refl_d zan.at)
 dsimp only[zqs]
 try simp only[go_sem]
 cases h
 rfl
def zhZ (a0:Sl (Int)) (a1:Sl (Int)) (x0:Int):St:=⟨(((Regs.none.set 0 (.d (.list a0.n (a0.l.map (D.int .i64))))).set 1 (.d (.list a1.n (a1.l.map (D.int .i64))))).set 5 (.d (.int .i64 x0))),(Heap.at 7)⟩
def zmc (a0:Sl (Int)) (a1:Sl (Int)):((Unit)⊕(Unit))→Ex×St:=fun r=>match r with
 |(.inl r)=>(.exit 0,⟨Regs.none,(Heap.at 7)⟩)
 |(.inr r)=>(.ret,⟨(Regs.none.set 4 (.d (.bool false))),(Heap.at 7)⟩)
noncomputable def zcF (a0:Sl (Int)) (a1:Sl (Int)) (x0:Int):Option ((Int)⊕((Unit)⊕(Unit))):=
 if(decide (x0<(a0.l.length:Int)))=true then
  (rd a0.l x0).bind fun y5=>
  (rd a1.l x0).bind fun y7=>
  if(!(y5==y7))=true then
   some (.inr (.inr ()))
  else
   some (.inl (IntKind.wrap .i64 (x0+1)))
 else
  some (.inr (.inl ()))
theorem zBS (a0:Sl (Int)) (a1:Sl (Int)) (x0:Int) (o:(Int)⊕((Unit)⊕(Unit))) (h:zcF a0 a1 x0=some o):Wp prog zBJ (zhZ a0 a1 x0) (zbF (0,[]) (zhZ a0 a1) (zmc a0 a1) o):=by
 unfold zcF at h
 delta zBJ zhZ
 try simp only[go_sem]
 refine zaf (fun hc3=> ?_) (fun hc4=> ?_)
 ·rw[if_pos hc3]at h
  try simp only[go_sem]
  obtain⟨y5,hy6,h⟩:=bs h
  try simp only[go_sem,zab hy6,zad hy6,zac (D.int .i64) hy6]
  obtain⟨y7,hy8,h⟩:=bs h
  try simp only[go_sem,zab hy6,zad hy6,zac (D.int .i64) hy6,zab hy8,zad hy8,zac (D.int .i64) hy8]
  refine zav (fun hc9=> ?_) (fun hc10=> ?_)
  ·rw[if_pos (show(!(y5==y7))=true by(rw[hc9];rfl))]at h
   try simp only[go_sem,zab hy6,zad hy6,zac (D.int .i64) hy6,zab hy8,zad hy8,zac (D.int .i64) hy8]
   cases h
   exact⟨rfl,by simp,Up.of (N:=7) (N':=21) [] rfl rfl (by decide) (.set (.d _) zal.none) zan.at⟩
  rw[if_neg (ffn hc10)]at h
  try simp only[go_sem,zab hy6,zad hy6,zac (D.int .i64) hy6,zab hy8,zad hy8,zac (D.int .i64) hy8]
  cases h
  exact⟨rfl,Up.of (N:=7) (N':=23) [] rfl rfl (by decide) (.set (.d _) (.set (.d _) (.set (.d _) zal.none))) zan.at⟩
 rw[if_neg (ff hc4)]at h
 try simp only[go_sem]
 cases h
 exact⟨rfl,by simp,Up.of (N:=7) (N':=11) [] rfl rfl (by decide) zal.none zan.at⟩
noncomputable def P66 (a0:Sl (Int)) (a1:Sl (Int)):Option (Bool):=
 if(!((a0.l.length:Int)==(a1.l.length:Int)))=true then
  some false
 else
  (zaQ (zcF a0 a1) 0).bind fun r11=>
  match r11 with
  |(.inl q13)=>
   some true
  |(.inr q14)=>
   some false
theorem zND (a0:Sl (Int)) (a1:Sl (Int)) (r:Bool) (h:P66 a0 a1=some r):pc prog 66 [.list a0.n (a0.l.map (D.int .i64)),.list a1.n (a1.l.map (D.int .i64))]=some (D.bool r):=by
 unfold P66 at h
 refine zaV (fn:=c66) rfl rfl ?_
 delta c66
 try simp only[go_sem]
 refine zav (fun hc1=> ?_) (fun hc2=> ?_)
 ·rw[if_pos (show(!((a0.l.length:Int)==(a1.l.length:Int)))=true by(rw[hc1];rfl))]at h
  try simp only[go_sem]
  cases h
  rfl
 rw[if_neg (ffn hc2)]at h
 try simp only[go_sem]
 obtain⟨r11,hl12,h⟩:=bs h
 refine Wp.loopR zbc (n:=(0,[])) (a:=zBJ) rfl (zhZ a0 a1) (zmc a0 a1) (zBS a0 a1) hl12 ?_ (by(repeat(first|refine Clo.block ?_|refine Clo.seq zbc rfl ?_));(exact Clo.ret)) ?_
 ·show Up (0,[]) (zhZ a0 a1 0) _
  delta zhZ
  exact Up.of (N:=7) (N':=7) [] rfl rfl (by decide) (.set (.d _) (.set (.d _) (.set (.d _) zal.none))) zan.at
 rcases r11 with(q13|q14)
 ·dsimp only at h
  dsimp only[zmc]
  try simp only[go_sem]
  cases h
  rfl
 dsimp only at h
 dsimp only[zmc]
 try simp only[go_sem]
 cases h
 rfl
def zia (a0:Forest) (r1:Node) (x0:List (Int)×Int):St:=⟨((((Regs.none.set 2 (.ptr 0 0 0)).set 5 (.sl 12 0 x0.1.length)).set 6 (.ptr 8 0 0)).set 7 (.d (.int .i64 x0.2))),((((Heap.at 14).set 0 (some (.els 1 [.d (eForest a0)] 0))).set 8 (some (.els 16 [.d (eNode r1)] 0))).set 12 (some (.els 1 (x0.1.map fun z=>V.d ((D.int .i64) z)) x0.1.length)))⟩
def zqt (a0:Forest) (r1:Node):((List (Int)))→Ex×St:=fun r=>(.exit 0,⟨(Regs.none.set 5 (.sl 13 0 r.length)),((Heap.at 14).set 13 (some (.els 1 (r.map fun z=>V.d ((D.int .i64) z)) r.length)))⟩)
noncomputable def zcG (a0:Forest) (r1:Node) (x0:List (Int)×Int):Option ((List (Int)×Int)⊕((List (Int)))):=
 if(decide (x0.2<(r1.kids.l.length:Int)))=true then
  (rd r1.kids.l x0.2).bind fun y14=>
  (dec (eSl (D.int .i64)) (pc prog 67 [eForest a0,.int .i64 y14])).bind fun r16=>
  if r16.l=[]then
   some (.inl (x0.1,(IntKind.wrap .i64 (x0.2+1))))
  else
   if(x0.1.length+r16.l.length)*8≤AI.roomBytes then
    some (.inl ((x0.1++r16.l),(IntKind.wrap .i64 (x0.2+1))))
   else none
 else
  some (.inr x0.1)
theorem zBT (a0:Forest) (r1:Node) (x0:List (Int)×Int) (o:(List (Int)×Int)⊕((List (Int)))) (h:zcG a0 r1 x0=some o):Wp prog zBK (zia a0 r1 x0) (zbF (0,[]) (zia a0 r1) (zqt a0 r1) o):=by
 unfold zcG at h
 delta zBK zia
 try simp only[go_sem]
 refine zaf (fun hc12=> ?_) (fun hc13=> ?_)
 ·rw[if_pos hc12]at h
  try simp only[go_sem]
  obtain⟨y14,hy15,h⟩:=bs h
  try simp only[go_sem,zab hy15,zad hy15,zac (D.int .i64) hy15]
  obtain⟨r16,hr17,h⟩:=bs h
  replace hr17:=zag hr17
  refine zaj hr17 ?_
  try simp only[go_sem,zab hy15,zad hy15,zac (D.int .i64) hy15]
  by_cases hz18:r16.l=[]
  ·rw[if_pos hz18]at h
   refine znW (by simp only[go_sem,zcO,zdI,zdb,zcc,zku,List.map_nil,hz18]) (by rfl) ?_
   try simp only[go_sem,zab hy15,zad hy15,zac (D.int .i64) hy15]
   cases h
   exact⟨rfl,Up.of (N:=14) (N':=32) [] rfl rfl (by decide) (.set (.d _) (.set (.ptr' rfl) (.set (.sl'' rfl (by rfl)) (.set (.ptr' rfl) zal.none)))) (.set (zar.arr (e:=(D.int .i64)) (l:=x0.1) (by rfl) (by exact Nat.le_refl _)) (.set zar.refl_d (.set zar.refl_d zan.at)))⟩
  have hz19:=hz18;rw[if_neg hz19]at h
  obtain⟨hm20,h⟩:=zcP h
  refine zjV (l:=x0.1.map fun z=>V.d ((D.int .i64) z)) (fz:=x0.1.length) (new:=r16.l.map fun z=>V.d ((D.int .i64) z)) (by simp only[go_sem,List.map_append,List.map_cons,List.map_nil,zab hy15,zad hy15,zac (D.int .i64) hy15]) (by simp only[go_sem,zcO,zdI,zdb,zcc,zku]) (by simpa using hz19) (by rw[←zku];exact zkY (e:=(D.int .i64)) (fun _=>rfl) (fun _=>rfl) _) (by simp) (by simpa using hm20) ?_
  try simp only[go_sem,zab hy15,zad hy15,zac (D.int .i64) hy15,hm20]
  cases h
  exact⟨rfl,Up.of (N:=14) (N':=32) [(12,27)] rfl rfl (by decide) (.set (.d _) (.set (.ptr' rfl) (.set (.sl'' rfl (by(simp;done))) (.set (.ptr' rfl) zal.none)))) (.set (zar.arr (e:=(D.int .i64)) (l:=(x0.1++r16.l)) (by simp) (by simp)) (.set zar.refl_d (.set zar.refl_d zan.at)))⟩
 rw[if_neg (ff hc13)]at h
 try simp only[go_sem]
 cases h
 exact⟨rfl,by simp,Up.of (N:=14) (N':=19) [(12,13),(13,12)] rfl rfl (by decide) (.set (.sl'' rfl (by rfl)) zal.none) (.set (zar.arr (e:=(D.int .i64)) (l:=x0.1) (by rfl) (by exact Nat.le_refl _)) zan.at)⟩
noncomputable def P67 (a0:Forest) (a1:Int):Option (Sl (Int)):=
 (dec eNode (pc prog 128 [eForest a0,.int .i64 a1])).bind fun r1=>
 (if(!(r1.shadow==0))=true then
  (dec (eSl (D.int .i64)) (pc prog 67 [eForest a0,.int .i64 r1.shadow])).bind fun r5=>
  if r5.l=[]then
   some [a1]
  else
   if(([a1]).length+r5.l.length)*8≤AI.roomBytes then
    some ([a1]++r5.l)
   else none
 else
  some [a1]:Option ((List (Int)))).bind fun r10=>
 (zaQ (zcG a0 r1) (r10,0)).bind fun r21=>
 some (⟨false,r21⟩)
theorem zNE (a0:Forest) (a1:Int) (r:Sl (Int)) (h:P67 a0 a1=some r):pc prog 67 [eForest a0,.int .i64 a1]=some ((eSl (D.int .i64)) r):=by
 unfold P67 at h
 refine zaV (fn:=c67) rfl rfl ?_
 delta c67
 try simp only[go_sem]
 obtain⟨r1,hr2,h⟩:=bs h
 replace hr2:=zag hr2
 refine zaj hr2 ?_
 try simp only[go_sem]
 obtain⟨r10,hl11,h⟩:=bs h
 refine WBr.cut (n:=(0,[])) .normal ⟨(((Regs.none.set 2 (.ptr 0 0 0)).set 5 (.sl 12 0 r10.length)).set 6 (.ptr 8 0 0)),((((Heap.at 13).set 0 (some (.els 1 [.d (eForest a0)] 0))).set 8 (some (.els 16 [.d (eNode r1)] 0))).set 12 (some (.els 1 (r10.map fun z=>V.d ((D.int .i64) z)) r10.length)))⟩ ?_ (by(repeat(refine Clo.seq zbc rfl ?_));(exact Clo.ret)) ?_
 ·replace h:=hl11
  refine zav (fun hc3=> ?_) (fun hc4=> ?_)
  ·rw[if_pos (show(!(r1.shadow==0))=true by(rw[hc3];rfl))]at h
   try simp only[go_sem]
   obtain⟨r5,hr6,h⟩:=bs h
   replace hr6:=zag hr6
   refine zaj hr6 ?_
   try simp only[go_sem]
   by_cases hz7:r5.l=[]
   ·rw[if_pos hz7]at h
    refine znW (by simp only[go_sem,zcO,zdI,zdb,zcc,zku,List.map_nil,hz7]) (by rfl) ?_
    try simp only[go_sem]
    cases h
    refine⟨rfl,Up.of (N:=13) (N':=20) [(3,12),(12,3)] rfl rfl (by decide) ?_ ?_⟩
    ·refine zal.set ?_ (zal.set ?_ (zal.set ?_ zal.none))
     all_goals (try simp only[go_sem,List.map_append,List.map_cons,List.map_nil])
     all_goals (first|exact VR.ptr' rfl|exact VR.sl'' rfl (by simp))
    refine zan.set (show zar _ _ (Heap.get _ 3)from ?_) (zan.set (show zar _ _ (Heap.get _ 8)from ?_) (zan.set (show zar _ _ (Heap.get _ 0)from ?_) (zan.at)))
    all_goals (try simp only[go_sem,List.map_append,List.map_cons,List.map_nil])
    all_goals (((repeat' first|exact zar.refl_d|refine zar.els (by simp) ?_|exact VR.d _|exact VRL.nil|refine VRL.cons ?_ ?_);done))
   have hz8:=hz7;rw[if_neg hz8]at h
   obtain⟨hm9,h⟩:=zcP h
   refine zjV (l:=([a1]).map fun z=>V.d ((D.int .i64) z)) (fz:=0) (new:=r5.l.map fun z=>V.d ((D.int .i64) z)) (by simp only[go_sem,List.map_append,List.map_cons,List.map_nil]) (by simp only[go_sem,zcO,zdI,zdb,zcc,zku]) (by simpa using hz8) (by rw[←zku];exact zkY (e:=(D.int .i64)) (fun _=>rfl) (fun _=>rfl) _) (by simp) (by simpa using hm9) ?_
   try simp only[go_sem,hm9]
   cases h
   exact⟨rfl,Up.of (N:=13) (N':=20) [(12,18)] rfl rfl (by decide) (.set (.ptr' rfl) (.set (.sl'' rfl (by(simp;omega))) (.set (.ptr' rfl) zal.none))) (.set (zar.arr (e:=(D.int .i64)) (l:=([a1]++r5.l)) (by rfl) (by simp)) (.set zar.refl_d (.set zar.refl_d zan.at)))⟩
  rw[if_neg (ffn hc4)]at h
  try simp only[go_sem]
  cases h
  refine⟨rfl,Up.of (N:=13) (N':=13) [(3,12),(12,3)] rfl rfl (by decide) ?_ ?_⟩
  ·refine zal.set ?_ (zal.set ?_ (zal.set ?_ zal.none))
   all_goals (try simp only[go_sem,List.map_append,List.map_cons,List.map_nil])
   all_goals (first|exact VR.ptr' rfl|exact VR.sl'' rfl (by simp))
  refine zan.set (show zar _ _ (Heap.get _ 3)from ?_) (zan.set (show zar _ _ (Heap.get _ 8)from ?_) (zan.set (show zar _ _ (Heap.get _ 0)from ?_) (zan.at)))
  all_goals (try simp only[go_sem,List.map_append,List.map_cons,List.map_nil])
  all_goals (((repeat' first|exact zar.refl_d|refine zar.els (by simp) ?_|exact VR.d _|exact VRL.nil|refine VRL.cons ?_ ?_);done))
 try simp only[go_sem]
 obtain⟨r21,hl22,h⟩:=bs h
 refine Wp.loopR zbc (n:=(0,[])) (a:=zBK) rfl (zia a0 r1) (zqt a0 r1) (zBT a0 r1) hl22 ?_ (by(repeat(first|refine Clo.block ?_|refine Clo.seq zbc rfl ?_));(exact Clo.ret)) ?_
 ·show Up (0,[]) (zia a0 r1 (r10,0)) _
  delta zia
  exact Up.of (N:=14) (N':=14) [] rfl rfl (by decide) (.set (.d _) (.set (.ptr' rfl) (.set (.sl'' rfl (by rfl)) (.set (.ptr' rfl) zal.none)))) (.set (zar.arr (e:=(D.int .i64)) (l:=r10) (by rfl) (by exact Nat.le_refl _)) (.set zar.refl_d (.set zar.refl_d zan.at)))
 dsimp only[zqt]
 try simp only[go_sem]
 cases h
 refine Reads.ofv (v':= .sl 13 0 r21.length) (by rfl) (Rd.sl (e:=(D.int .i64)) (l:=r21) (sz:=1) (fz:=r21.length) (m:=r21.map fun z=>V.d ((D.int .i64) z)) (by simp only[go_sem,List.map_append,List.map_cons,List.map_nil]) rfl (by simp)) rfl
def zib (a0:Forest) (a1:Int) (x0:Int):St:=⟨(((Regs.none.set 1 (.d (.int .i64 a1))).set 2 (.d (.int .i64 x0))).set 3 (.ptr 0 0 0)),((Heap.at 2).set 0 (some (.els 1 [.d (eForest a0)] 0)))⟩
def zqu (a0:Forest) (a1:Int):((Int))→Ex×St:=fun r=>(.exit 0,⟨((Regs.none.set 1 (.d (.int .i64 a1))).set 2 (.d (.int .i64 r))),(Heap.at 2)⟩)
noncomputable def zcH (a0:Forest) (a1:Int) (x0:Int):Option ((Int)⊕((Int))):=
 if(bif (!(x0==0))then(!(x0==a1))else false)=true then
  (dec (D.int .i64) (pc prog 138 [eForest a0,.int .i64 x0])).bind fun r3=>
  some (.inl r3)
 else
  some (.inr x0)
theorem zBU (a0:Forest) (a1:Int) (x0:Int) (o:(Int)⊕((Int))) (h:zcH a0 a1 x0=some o):Wp prog zBL (zib a0 a1 x0) (zbF (0,[]) (zib a0 a1) (zqu a0 a1) o):=by
 unfold zcH at h
 delta zBL zib
 try simp only[go_sem]
 refine zaa (v:= .d (.int .i64 x0)) (fun hb7=>by simp only[go_sem,hb7]) ?_
 try simp only[go_sem]
 refine zaa (v:= .d (.int .i64 a1)) (fun hb6=>by simp only[go_sem,hb6]) ?_
 try simp only[go_sem]
 refine zaa (v:= .d (.bool (!(x0==a1)))) (fun hb5=>by simp only[go_sem,hb5]) ?_
 try simp only[go_sem]
 refine zaf (fun hc1=> ?_) (fun hc2=> ?_)
 ·rw[if_pos hc1]at h
  try simp only[go_sem]
  obtain⟨r3,hr4,h⟩:=bs h
  replace hr4:=zag hr4
  refine zaj hr4 ?_
  try simp only[go_sem]
  cases h
  exact⟨rfl,Up.of (N:=2) (N':=13) [] rfl rfl (by decide) (.set (.ptr' rfl) (.set (.d _) (.set (.d _) zal.none))) (.set zar.refl_d zan.at)⟩
 rw[if_neg (ff hc2)]at h
 try simp only[go_sem]
 cases h
 exact⟨rfl,by simp,Up.of (N:=2) (N':=9) [] rfl rfl (by decide) (.set (.d _) (.set (.d _) zal.none)) zan.at⟩
noncomputable def P68 (a0:Forest) (a1:Int) (a2:Int):Option (Bool):=
 (zaQ (zcH a0 a1) a2).bind fun r8=>
 some (r8==a1)
theorem zNF (a0:Forest) (a1:Int) (a2:Int) (r:Bool) (h:P68 a0 a1 a2=some r):pc prog 68 [eForest a0,.int .i64 a1,.int .i64 a2]=some (D.bool r):=by
 unfold P68 at h
 refine zaV (fn:=c68) rfl rfl ?_
 delta c68
 try simp only[go_sem]
 obtain⟨r8,hl9,h⟩:=bs h
 refine Wp.loopR zbc (n:=(0,[])) (a:=zBL) rfl (zib a0 a1) (zqu a0 a1) (zBU a0 a1) hl9 ?_ (by(repeat(first|refine Clo.block ?_|refine Clo.seq zbc rfl ?_));(exact Clo.ret)) ?_
 ·show Up (0,[]) (zib a0 a1 a2) _
  delta zib
  exact Up.of (N:=2) (N':=2) [] rfl rfl (by decide) (.set (.ptr' rfl) (.set (.d _) (.set (.d _) zal.none))) (.set zar.refl_d zan.at)
 dsimp only[zqu]
 try simp only[go_sem]
 cases h
 rfl
noncomputable def P69 (a0:Forest) (a1:Int):Option (Bool):=
 (dec (D.int .i64) (pc prog 65 [eForest a0,.int .i64 a1])).bind fun r1=>
 (dec eNode (pc prog 128 [eForest a0,.int .i64 r1])).bind fun r3=>
 some (r3.kind==9)
theorem zNG (a0:Forest) (a1:Int) (r:Bool) (h:P69 a0 a1=some r):pc prog 69 [eForest a0,.int .i64 a1]=some (D.bool r):=by
 unfold P69 at h
 refine zaV (fn:=c69) rfl rfl ?_
 delta c69
 try simp only[go_sem]
 obtain⟨r1,hr2,h⟩:=bs h
 replace hr2:=zag hr2
 refine zaj hr2 ?_
 try simp only[go_sem]
 obtain⟨r3,hr4,h⟩:=bs h
 replace hr4:=zag hr4
 refine zaj hr4 ?_
 try simp only[go_sem]
 cases h
 rfl
noncomputable def P73 (a0:Int):Option (Bool):=
 some (bif (bif (bif (a0==1)then true else(a0==9))then true else(a0==11))then true else(a0==12))
theorem zNH (a0:Int) (r:Bool) (h:P73 a0=some r):pc prog 73 [.int .u8 a0]=some (D.bool r):=by
 unfold P73 at h
 refine zaV (fn:=c73) rfl rfl ?_
 delta c73
 try simp only[go_sem]
 refine zaa (v:= .d (.int .u8 a0)) (fun hb6=>by simp only[go_sem,hb6]) ?_
 try simp only[go_sem]
 refine zaa (v:= .d (.bool (a0==9))) (fun hb5=>by simp only[go_sem,hb5]) ?_
 try simp only[go_sem]
 refine zaa (v:= .d (.int .u8 a0)) (fun hb4=>by simp only[go_sem,hb4]) ?_
 try simp only[go_sem]
 refine zaa (v:= .d (.bool (a0==11))) (fun hb3=>by simp only[go_sem,hb3]) ?_
 try simp only[go_sem]
 refine zaa (v:= .d (.int .u8 a0)) (fun hb2=>by simp only[go_sem,hb2]) ?_
 try simp only[go_sem]
 refine zaa (v:= .d (.bool (a0==12))) (fun hb1=>by simp only[go_sem,hb1]) ?_
 try simp only[go_sem]
 cases h
 rfl
def zic (a0:Forest) (a1:Int) (x0:Int):St:=⟨(((Regs.none.set 0 (.yld 11)).set 1 (.ptr 7 0 0)).set 2 (.ptr 6 0 0)),(((((((Heap.at 12).set 0 (some (.els 1 [.d (eForest a0)] 0))).set 1 (some (.els 1 [.d (.int .i64 a1)] 0))).set 2 (some (.els 1 [.d (.bool false)] 0))).set 6 (some (.els 1 [.d (eForest a0)] 0))).set 7 (some (.els 1 [.d (.int .i64 x0)] 0))).set 11 (some (.loop ⟨((Regs.none.set 4 (.ptr 1 0 0)).set 6 (.ptr 2 0 0)),[11],zxu,zxv,.ready,none⟩)))⟩
def zmd (a0:Forest) (a1:Int):((Int)⊕(Int))→Ex×St:=fun r=>match r with
 |(.inl r)=>(.exit 0,⟨Regs.none,(((((((Heap.at 12).set 0 (some (.els 1 [.d (eForest a0)] 0))).set 1 (some (.els 1 [.d (.int .i64 a1)] 0))).set 2 (some (.els 1 [.d (.bool false)] 0))).set 6 (some (.els 1 [.d (eForest a0)] 0))).set 7 (some (.els 1 [.d (.int .i64 r)] 0))).set 11 (some (.loop ⟨((Regs.none.set 4 (.ptr 1 0 0)).set 6 (.ptr 2 0 0)),[11],zxu,zxv,.ready,none⟩)))⟩)
 |(.inr r)=>(.ret,⟨Regs.none,(((((((Heap.at 12).set 0 (some (.els 1 [.d (eForest a0)] 0))).set 1 (some (.els 1 [.d (.int .i64 a1)] 0))).set 2 (some (.els 1 [.d (.bool true)] 0))).set 6 (some (.els 1 [.d (eForest a0)] 0))).set 7 (some (.els 1 [.d (.int .i64 r)] 0))).set 11 (some (.loop ⟨((Regs.none.set 4 (.ptr 1 0 0)).set 6 (.ptr 2 0 0)),[11],zxu,zxv,.done,(some .ret)⟩)))⟩)
noncomputable def zcl (a0:Forest) (a1:Int) (x0:Int):Option ((Int)⊕((Int)⊕(Int))):=
 if(!(x0==0))=true then
  if(x0==a1)=true then
   some (.inr (.inr x0))
  else
   (dec eNode (pc prog 91 [eForest a0,.int .i64 x0])).bind fun r5=>
   some (.inl r5.parent)
 else
  some (.inr (.inl x0))
theorem zBV (a0:Forest) (a1:Int) (x0:Int) (o:(Int)⊕((Int)⊕(Int))) (h:zcl a0 a1 x0=some o):Wp prog zcR (zic a0 a1 x0) (zbF (12,[]) (zic a0 a1) (zmd a0 a1) o):=by
 unfold zcl at h
 delta zcR zic
 try simp only[go_sem]
 refine zav (fun hc1=> ?_) (fun hc2=> ?_)
 ·rw[if_pos (show(!(x0==0))=true by(rw[hc1];rfl))]at h
  try simp only[go_sem]
  refine zdJ (by simp only[go_sem];rfl) rfl ?_
  delta zxu
  try simp only[go_sem]
  delta zxv
  try simp only[go_sem]
  refine zaf (fun hc3=> ?_) (fun hc4=> ?_)
  ·rw[if_pos hc3]at h
   try simp only[go_sem]
   cases h
   exact⟨rfl,by simp,Up.of (N:=12) (N':=23) [] rfl rfl (by decide) zal.none (.set (zar.loop (.set (.ptr' rfl) (.set (.ptr' rfl) zal.none)) rfl rfl) (.set zar.refl_d (.set zar.refl_d (.set zar.refl_d (.set zar.refl_d (.set zar.refl_d zan.at))))))⟩
  rw[if_neg (ff hc4)]at h
  try simp only[go_sem]
  obtain⟨r5,hr6,h⟩:=bs h
  replace hr6:=zag hr6
  refine zaj hr6 ?_
  try simp only[go_sem]
  cases h
  exact⟨rfl,Up.of (N:=12) (N':=27) [] rfl rfl (by decide) (.set (.ptr' rfl) (.set (.ptr' rfl) (.set (.yld' rfl) zal.none))) (.set (zar.loop (.set (.ptr' rfl) (.set (.ptr' rfl) zal.none)) rfl rfl) (.set zar.refl_d (.set zar.refl_d (.set zar.refl_d (.set zar.refl_d (.set zar.refl_d zan.at))))))⟩
 rw[if_neg (ffn hc2)]at h
 try simp only[go_sem]
 cases h
 exact⟨rfl,by simp,Up.of (N:=12) (N':=14) [] rfl rfl (by decide) zal.none (.set (zar.loop (.set (.ptr' rfl) (.set (.ptr' rfl) zal.none)) rfl rfl) (.set zar.refl_d (.set zar.refl_d (.set zar.refl_d (.set zar.refl_d (.set zar.refl_d zan.at))))))⟩
noncomputable def P86 (a0:Forest) (a1:Int) (a2:Int):Option (Bool):=
 (zaQ (zcl a0 a1) a2).bind fun r7=>
 match r7 with
 |(.inl q9)=>
  some false
 |(.inr q10)=>
  some true
theorem zNI (a0:Forest) (a1:Int) (a2:Int) (r:Bool) (h:P86 a0 a1 a2=some r):pc prog 86 [eForest a0,.int .i64 a1,.int .i64 a2]=some (D.bool r):=by
 unfold P86 at h
 refine zaV (fn:=c86) rfl rfl ?_
 delta c86
 try simp only[go_sem]
 refine zbj (fn:=zug) rfl rfl ?_
 delta zug
 try simp only[go_sem]
 refine Wp.rfuncC (k:=173) (fn:=zuh) (first:=[]) (cap:=[.ptr 7 0 0,.ptr 6 0 0]) (by simp only[go_sem]) rfl rfl ?_
 delta zuh
 try simp only[go_sem]
 obtain⟨r7,hl8,h⟩:=bs h
 refine Wp.loopR zbc (n:=(12,[])) (a:=zcR) rfl (zic a0 a1) (zmd a0 a1) (zBV a0 a1) hl8 ?_ (by(repeat(refine Clo.block ?_));refine Clo.rf (n':=(0,[])) ?_ (by decide) (by decide) ?_;((repeat(first|refine zaH.set ?_ ?_|refine zaH.args ?_|exact zaX.nil|refine zaX.cons ?_ ?_|exact zaF.d|exact zaF.ptr (by decide)|refine zaF.clo ?_ ?_)));(repeat(first|refine Clo.block ?_|refine Clo.seq zbc rfl ?_));(exact Clo.ret)) ?_
 ·show Up (12,[]) (zic a0 a1 a2) _
  delta zic
  exact Up.of (N:=12) (N':=12) [] rfl rfl (by decide) (.set (.ptr' rfl) (.set (.ptr' rfl) (.set (.yld' rfl) zal.none))) (.set (zar.loop (.set (.ptr' rfl) (.set (.ptr' rfl) zal.none)) rfl rfl) (.set zar.refl_d (.set zar.refl_d (.set zar.refl_d (.set zar.refl_d (.set zar.refl_d zan.at))))))
 rcases r7 with(q9|q10)
 ·dsimp only at h
  dsimp only[zmd]
  try simp only[go_sem]
  cases h
  rfl
 dsimp only at h
 dsimp only[zmd]
 try simp only[go_sem]
 cases h
 rfl
def zid (a0:Forest) (a1:Sl (Int)) (x0:Int):St:=⟨((((Regs.none.set 2 (.ptr 0 0 0)).set 17 (.d (.list a1.n (a1.l.map (D.int .i64))))).set 18 (.d (.int .i64 (a1.l.length:Int)))).set 19 (.d (.int .i64 x0))),((Heap.at 14).set 0 (some (.els 1 [.d (eForest a0)] 0)))⟩
def zme (a0:Forest) (a1:Sl (Int)):((Unit)⊕(Unit))→Ex×St:=fun r=>match r with
 |(.inl r)=>(.exit 0,⟨Regs.none,(Heap.at 14)⟩)
 |(.inr r)=>(.ret,⟨(Regs.none.set 4 (.d (.int .i64 (2)))),(Heap.at 14)⟩)
noncomputable def zek (a0:Forest) (a1:Sl (Int)) (x0:Int):Option ((Int)⊕((Unit)⊕(Unit))):=
 if(decide (x0<(a1.l.length:Int)))=true then
  (rd a1.l x0).bind fun y7=>
  if(bif (decide (y7<1))then true else(decide ((a0.nodes.l.length:Int)<y7)))=true then
   some (.inr (.inr ()))
  else
   some (.inl (IntKind.wrap .i64 (x0+1)))
 else
  some (.inr (.inl ()))
theorem zBW (a0:Forest) (a1:Sl (Int)) (x0:Int) (o:(Int)⊕((Unit)⊕(Unit))) (h:zek a0 a1 x0=some o):Wp prog zBM (zid a0 a1 x0) (zbF (0,[]) (zid a0 a1) (zme a0 a1) o):=by
 unfold zek at h
 delta zBM zid
 try simp only[go_sem]
 refine zaf (fun hc5=> ?_) (fun hc6=> ?_)
 ·rw[if_pos hc5]at h
  try simp only[go_sem]
  obtain⟨y7,hy8,h⟩:=bs h
  try simp only[go_sem,zab hy8,zad hy8,zac (D.int .i64) hy8]
  refine zaa (v:= .d (.int .i64 y7)) (fun hb15=>by simp only[go_sem,zab hy8,zad hy8,zac (D.int .i64) hy8,hc5,hb15]) ?_
  try simp only[go_sem,zab hy8,zad hy8,zac (D.int .i64) hy8]
  refine zaa (v:= .ptr 0 0 0) (fun hb14=>by simp only[go_sem,zab hy8,zad hy8,zac (D.int .i64) hy8,hc5,hb14]) ?_
  try simp only[go_sem,zab hy8,zad hy8,zac (D.int .i64) hy8]
  refine zaa (v:= .d (.list a0.nodes.n (a0.nodes.l.map eNode))) (fun hb13=>by simp only[go_sem,zab hy8,zad hy8,zac (D.int .i64) hy8,hc5,hb13]) ?_
  try simp only[go_sem,zab hy8,zad hy8,zac (D.int .i64) hy8]
  refine zaa (v:= .d (.int .i64 (a0.nodes.l.length:Int))) (fun hb12=>by simp only[go_sem,zab hy8,zad hy8,zac (D.int .i64) hy8,hc5,hb12]) ?_
  try simp only[go_sem,zab hy8,zad hy8,zac (D.int .i64) hy8]
  refine zaa (v:= .d (.bool (decide ((a0.nodes.l.length:Int)<y7)))) (fun hb11=>by simp only[go_sem,zab hy8,zad hy8,zac (D.int .i64) hy8,hc5,hb11]) ?_
  try simp only[go_sem,zab hy8,zad hy8,zac (D.int .i64) hy8]
  refine zaf (fun hc9=> ?_) (fun hc10=> ?_)
  ·rw[if_pos hc9]at h
   try simp only[go_sem,zab hy8,zad hy8,zac (D.int .i64) hy8]
   cases h
   exact⟨rfl,by simp,Up.of (N:=14) (N':=28) [] rfl rfl (by decide) (.set (.d _) zal.none) zan.at⟩
  rw[if_neg (ff hc10)]at h
  try simp only[go_sem,zab hy8,zad hy8,zac (D.int .i64) hy8]
  cases h
  exact⟨rfl,Up.of (N:=14) (N':=29) [] rfl rfl (by decide) (.set (.d _) (.set (.d _) (.set (.d _) (.set (.ptr' rfl) zal.none)))) (.set zar.refl_d zan.at)⟩
 rw[if_neg (ff hc6)]at h
 try simp only[go_sem]
 cases h
 exact⟨rfl,by simp,Up.of (N:=14) (N':=15) [] rfl rfl (by decide) zal.none zan.at⟩
noncomputable def P87 (a0:Forest) (a1:Sl (Int)):Option (Int):=
 (dec (eT2 (D.int .i64) (D.int .i64)) (pc prog 157 [eForest a0])).bind fun r1=>
 if(!(r1.1==0))=true then
  some r1.1
 else
  (zaQ (zek a0 a1) 0).bind fun r16=>
  match r16 with
  |(.inl q18)=>
   some (0)
  |(.inr q19)=>
   some (2)
theorem zNJ (a0:Forest) (a1:Sl (Int)) (r:Int) (h:P87 a0 a1=some r):pc prog 87 [eForest a0,.list a1.n (a1.l.map (D.int .i64))]=some ((D.int .i64) r):=by
 unfold P87 at h
 refine zaV (fn:=c87) rfl rfl ?_
 delta c87
 try simp only[go_sem]
 obtain⟨r1,hr2,h⟩:=bs h
 replace hr2:=zag hr2
 refine zaj hr2 ?_
 try simp only[go_sem]
 refine zav (fun hc3=> ?_) (fun hc4=> ?_)
 ·rw[if_pos (show(!(r1.1==0))=true by(rw[hc3];rfl))]at h
  try simp only[go_sem]
  cases h
  rfl
 rw[if_neg (ffn hc4)]at h
 try simp only[go_sem]
 obtain⟨r16,hl17,h⟩:=bs h
 refine Wp.loopR zbc (n:=(0,[])) (a:=zBM) rfl (zid a0 a1) (zme a0 a1) (zBW a0 a1) hl17 ?_ (by(repeat(first|refine Clo.block ?_|refine Clo.seq zbc rfl ?_));(exact Clo.ret)) ?_
 ·show Up (0,[]) (zid a0 a1 0) _
  delta zid
  exact Up.of (N:=14) (N':=14) [] rfl rfl (by decide) (.set (.d _) (.set (.d _) (.set (.d _) (.set (.ptr' rfl) zal.none)))) (.set zar.refl_d zan.at)
 rcases r16 with(q18|q19)
 ·dsimp only at h
  dsimp only[zme]
  try simp only[go_sem]
  cases h
  rfl
 dsimp only at h
 dsimp only[zme]
 try simp only[go_sem]
 cases h
 rfl
noncomputable def P91 (a0:Forest) (a1:Int):Option (Node):=
 if(bif (decide (a1<1))then true else(decide ((a0.nodes.l.length:Int)<a1)))=true then
  some (⟨0,⟨[],[],[]⟩,[],[],⟨true,[]⟩,⟨true,[]⟩,0,⟨true,[]⟩,0,0,0,0,false,false⟩:Node)
 else
  (rd a0.nodes.l (IntKind.wrap .i64 (a1-1))).bind fun y3=>
  some y3
theorem zNK (a0:Forest) (a1:Int) (r:Node) (h:P91 a0 a1=some r):pc prog 91 [eForest a0,.int .i64 a1]=some (eNode r):=by
 unfold P91 at h
 refine zaV (fn:=c91) rfl rfl ?_
 delta c91
 try simp only[go_sem]
 refine zaa (v:= .d (.int .i64 a1)) (fun hb9=>by simp only[go_sem,hb9]) ?_
 try simp only[go_sem]
 refine zaa (v:= .ptr 0 0 0) (fun hb8=>by simp only[go_sem,hb8]) ?_
 try simp only[go_sem]
 refine zaa (v:= .d (.list a0.nodes.n (a0.nodes.l.map eNode))) (fun hb7=>by simp only[go_sem,hb7]) ?_
 try simp only[go_sem]
 refine zaa (v:= .d (.int .i64 (a0.nodes.l.length:Int))) (fun hb6=>by simp only[go_sem,hb6]) ?_
 try simp only[go_sem]
 refine zaa (v:= .d (.bool (decide ((a0.nodes.l.length:Int)<a1)))) (fun hb5=>by simp only[go_sem,hb5]) ?_
 try simp only[go_sem]
 refine zaf (fun hc1=> ?_) (fun hc2=> ?_)
 ·rw[if_pos hc1]at h
  try simp only[go_sem]
  cases h
  rfl
 rw[if_neg (ff hc2)]at h
 try simp only[go_sem]
 obtain⟨y3,hy4,h⟩:=bs h
 try simp only[go_sem,zab hy4,zad hy4,zac eNode hy4]
 cases h
 rfl
def zie (a0:Forest) (x0:Int):St:=⟨((((Regs.none.set 1 (.ptr 0 0 0)).set 11 (.d (.list a0.nodes.n (a0.nodes.l.map eNode)))).set 12 (.d (.int .i64 (a0.nodes.l.length:Int)))).set 13 (.d (.int .i64 x0))),((Heap.at 11).set 0 (some (.els 1 [.d (eForest a0)] 0)))⟩
def zmf (a0:Forest):((Unit)⊕(Int))→Ex×St:=fun r=>match r with
 |(.inl r)=>(.exit 0,⟨Regs.none,(Heap.at 11)⟩)
 |(.inr r)=>(.ret,⟨((Regs.none.set 2 (.d (.int .i64 (5)))).set 3 (.d (.int .i64 r))),(Heap.at 11)⟩)
noncomputable def zel (a0:Forest) (x0:Int):Option ((Int)⊕((Unit)⊕(Int))):=
 if(decide (x0<(a0.nodes.l.length:Int)))=true then
  (rd a0.nodes.l x0).bind fun y5=>
  (dec D.bool (pc prog 162 [eNode y5])).bind fun r7=>
  if r7=true then
   (dec D.bool (pc prog 163 [eForest a0,.int .i64 (IntKind.wrap .i64 (x0+1))])).bind fun r11=>
   if r11=true then
    (dec D.bool (pc prog 164 [eForest a0,.int .i64 (IntKind.wrap .i64 (x0+1))])).bind fun r15=>
    if r15=true then
     some (.inr (.inr (IntKind.wrap .i64 (x0+1))))
    else
     some (.inl (IntKind.wrap .i64 (x0+1)))
   else
    some (.inr (.inr (IntKind.wrap .i64 (x0+1))))
  else
   some (.inr (.inr (IntKind.wrap .i64 (x0+1))))
 else
  some (.inr (.inl ()))
theorem zBX (a0:Forest) (x0:Int) (o:(Int)⊕((Unit)⊕(Int))) (h:zel a0 x0=some o):Wp prog zBN (zie a0 x0) (zbF (0,[]) (zie a0) (zmf a0) o):=by
 unfold zel at h
 delta zBN zie
 try simp only[go_sem]
 refine zaf (fun hc3=> ?_) (fun hc4=> ?_)
 ·rw[if_pos hc3]at h
  try simp only[go_sem]
  obtain⟨y5,hy6,h⟩:=bs h
  try simp only[go_sem,zab hy6,zad hy6,zac eNode hy6]
  obtain⟨r7,hr8,h⟩:=bs h
  replace hr8:=zag hr8
  refine zaj hr8 ?_
  try simp only[go_sem,zab hy6,zad hy6,zac eNode hy6]
  refine zaa (v:= .d (eForest a0)) (fun hb24=>by simp only[go_sem,zab hy6,zad hy6,zac eNode hy6,hc3,hb24]) ?_
  try simp only[go_sem,zab hy6,zad hy6,zac eNode hy6]
  refine zaa (v:= .d (.int .i64 x0)) (fun hb23=>by simp only[go_sem,zab hy6,zad hy6,zac eNode hy6,hc3,hb23]) ?_
  try simp only[go_sem,zab hy6,zad hy6,zac eNode hy6]
  refine zaa (v:= .d (.int .i64 (IntKind.wrap .i64 (x0+1)))) (fun hb22=>by simp only[go_sem,zab hy6,zad hy6,zac eNode hy6,hc3,hb22]) ?_
  try simp only[go_sem,zab hy6,zad hy6,zac eNode hy6]
  refine zay (fun hc9=> ?_) (fun hc10=> ?_)
  ·rw[if_pos hc9]at h
   try simp only[go_sem,zab hy6,zad hy6,zac eNode hy6,hc9]
   obtain⟨r11,hr12,h⟩:=bs h
   replace hr12:=zag hr12
   refine zaj hr12 ?_
   try simp only[go_sem,zab hy6,zad hy6,zac eNode hy6]
   refine zaa (v:= .d (eForest a0)) (fun hb21=>by simp only[go_sem,zab hy6,zad hy6,zac eNode hy6,hc3,hc9,hb21]) ?_
   try simp only[go_sem,zab hy6,zad hy6,zac eNode hy6]
   refine zaa (v:= .d (.int .i64 x0)) (fun hb20=>by simp only[go_sem,zab hy6,zad hy6,zac eNode hy6,hc3,hc9,hb20]) ?_
   try simp only[go_sem,zab hy6,zad hy6,zac eNode hy6]
   refine zaa (v:= .d (.int .i64 (IntKind.wrap .i64 (x0+1)))) (fun hb19=>by simp only[go_sem,zab hy6,zad hy6,zac eNode hy6,hc3,hc9,hb19]) ?_
   try simp only[go_sem,zab hy6,zad hy6,zac eNode hy6]
   refine zay (fun hc13=> ?_) (fun hc14=> ?_)
   ·rw[if_pos hc13]at h
    try simp only[go_sem,zab hy6,zad hy6,zac eNode hy6,hc13]
    obtain⟨r15,hr16,h⟩:=bs h
    replace hr16:=zag hr16
    refine zaj hr16 ?_
    try simp only[go_sem,zab hy6,zad hy6,zac eNode hy6]
    refine zaf (fun hc17=> ?_) (fun hc18=> ?_)
    ·rw[if_pos hc17]at h
     try simp only[go_sem,zab hy6,zad hy6,zac eNode hy6]
     cases h
     exact⟨rfl,by simp,Up.of (N:=11) (N':=38) [] rfl rfl (by decide) (.set (.d _) (.set (.d _) zal.none)) zan.at⟩
    rw[if_neg (ff hc18)]at h
    try simp only[go_sem,zab hy6,zad hy6,zac eNode hy6]
    cases h
    exact⟨rfl,Up.of (N:=11) (N':=36) [] rfl rfl (by decide) (.set (.d _) (.set (.d _) (.set (.d _) (.set (.ptr' rfl) zal.none)))) (.set zar.refl_d zan.at)⟩
   rw[if_neg (ff hc14)]at h
   try simp only[go_sem,zab hy6,zad hy6,zac eNode hy6,hc14]
   cases h
   exact⟨rfl,by simp,Up.of (N:=11) (N':=38) [] rfl rfl (by decide) (.set (.d _) (.set (.d _) zal.none)) zan.at⟩
  rw[if_neg (ff hc10)]at h
  try simp only[go_sem,zab hy6,zad hy6,zac eNode hy6,hc10]
  cases h
  exact⟨rfl,by simp,Up.of (N:=11) (N':=38) [] rfl rfl (by decide) (.set (.d _) (.set (.d _) zal.none)) zan.at⟩
 rw[if_neg (ff hc4)]at h
 try simp only[go_sem]
 cases h
 exact⟨rfl,by simp,Up.of (N:=11) (N':=12) [] rfl rfl (by decide) zal.none zan.at⟩
noncomputable def P93 (a0:Forest):Option (Int×Int):=
 if(decide (4096<(a0.nodes.l.length:Int)))=true then
  some (5,0)
 else
  (zaQ (zel a0) 0).bind fun r25=>
  match r25 with
  |(.inl q27)=>
   some (0,0)
  |(.inr q28)=>
   some (5,q28)
theorem zNL (a0:Forest) (r:Int×Int) (h:P93 a0=some r):pc prog 93 [eForest a0]=some ((eT2 (D.int .i64) (D.int .i64)) r):=by
 unfold P93 at h
 refine zaV (fn:=c93) rfl rfl ?_
 delta c93
 try simp only[go_sem]
 refine zaf (fun hc1=> ?_) (fun hc2=> ?_)
 ·rw[if_pos hc1]at h
  try simp only[go_sem]
  cases h
  rfl
 rw[if_neg (ff hc2)]at h
 try simp only[go_sem]
 obtain⟨r25,hl26,h⟩:=bs h
 refine Wp.loopR zbc (n:=(0,[])) (a:=zBN) rfl (zie a0) (zmf a0) (zBX a0) hl26 ?_ (by(repeat(first|refine Clo.block ?_|refine Clo.seq zbc rfl ?_));(exact Clo.ret)) ?_
 ·show Up (0,[]) (zie a0 0) _
  delta zie
  exact Up.of (N:=11) (N':=11) [] rfl rfl (by decide) (.set (.d _) (.set (.d _) (.set (.d _) (.set (.ptr' rfl) zal.none)))) (.set zar.refl_d zan.at)
 rcases r25 with(q27|q28)
 ·dsimp only at h
  dsimp only[zmf]
  try simp only[go_sem]
  cases h
  rfl
 dsimp only at h
 dsimp only[zmf]
 try simp only[go_sem]
 cases h
 rfl
def zfs (a0:Forest) (x0:Int×Int):St:=⟨(((Regs.none.set 0 (.yld 13)).set 1 (.ptr 9 0 0)).set 2 (.ptr 8 0 0)),((((((Heap.at 14).set 0 (some (.els 1 [.d (eForest a0)] 0))).set 3 (some (.els 1 [.d (.int .i64 x0.1)] 0))).set 8 (some (.els 1 [.d (eForest a0)] 0))).set 9 (some (.els 1 [.d (.int .i64 x0.2)] 0))).set 13 (some (.loop ⟨(Regs.none.set 5 (.ptr 3 0 0)),[11],zri,zrj,.ready,none⟩)))⟩
def zmg (a0:Forest):((Int×Int))→Ex×St:=fun r=>(.exit 0,⟨Regs.none,((((((Heap.at 14).set 0 (some (.els 1 [.d (eForest a0)] 0))).set 3 (some (.els 1 [.d (.int .i64 r.1)] 0))).set 8 (some (.els 1 [.d (eForest a0)] 0))).set 9 (some (.els 1 [.d (.int .i64 r.2)] 0))).set 13 (some (.loop ⟨(Regs.none.set 5 (.ptr 3 0 0)),[11],zri,zrj,.ready,none⟩)))⟩)
noncomputable def zcI (a0:Forest) (x0:Int×Int):Option ((Int×Int)⊕((Int×Int))):=
 if(!(x0.2==0))=true then
  (dec eNode (pc prog 91 [eForest a0,.int .i64 x0.2])).bind fun r3=>
  some (.inl (x0.2,r3.parent))
 else
  some (.inr (x0.1,x0.2))
theorem zxF (a0:Forest) (x0:Int×Int) (o:(Int×Int)⊕((Int×Int))) (h:zcI a0 x0=some o):Wp prog zcR (zfs a0 x0) (zbF (14,[]) (zfs a0) (zmg a0) o):=by
 unfold zcI at h
 delta zcR zfs
 try simp only[go_sem]
 refine zav (fun hc1=> ?_) (fun hc2=> ?_)
 ·rw[if_pos (show(!(x0.2==0))=true by(rw[hc1];rfl))]at h
  try simp only[go_sem]
  refine zdJ (by simp only[go_sem];rfl) rfl ?_
  delta zri
  try simp only[go_sem]
  delta zrj
  try simp only[go_sem]
  obtain⟨r3,hr4,h⟩:=bs h
  replace hr4:=zag hr4
  refine zaj hr4 ?_
  try simp only[go_sem]
  cases h
  exact⟨rfl,Up.of (N:=14) (N':=28) [] rfl rfl (by decide) (.set (.ptr' rfl) (.set (.ptr' rfl) (.set (.yld' rfl) zal.none))) (.set (zar.loop (.set (.ptr' rfl) zal.none) rfl rfl) (.set zar.refl_d (.set zar.refl_d (.set zar.refl_d (.set zar.refl_d zan.at)))))⟩
 rw[if_neg (ffn hc2)]at h
 try simp only[go_sem]
 cases h
 exact⟨rfl,by simp,Up.of (N:=14) (N':=16) [] rfl rfl (by decide) zal.none (.set (zar.loop (.set (.ptr' rfl) zal.none) rfl rfl) (.set zar.refl_d (.set zar.refl_d (.set zar.refl_d (.set zar.refl_d zan.at)))))⟩
noncomputable def zLs (a0:Forest) (a1:Int):Option (Int):=
 (zaQ (zcI a0) (a1,a1)).bind fun r5=>
 some r5.1
theorem zLt (a0:Forest) (a1:Int) (r:Int) (h:zLs a0 a1=some r):pc prog 104 [eForest a0,.int .i64 a1]=some ((D.int .i64) r):=by
 unfold zLs at h
 refine zaV (fn:=zJU) rfl rfl ?_
 delta zJU
 try simp only[go_sem]
 refine zbj (fn:=zug) rfl rfl ?_
 delta zug
 try simp only[go_sem]
 refine Wp.rfuncC (k:=173) (fn:=zuh) (first:=[]) (cap:=[.ptr 9 0 0,.ptr 8 0 0]) (by simp only[go_sem]) rfl rfl ?_
 delta zuh
 try simp only[go_sem]
 obtain⟨r5,hl6,h⟩:=bs h
 refine Wp.loopR zbc (n:=(14,[])) (a:=zcR) rfl (zfs a0) (zmg a0) (zxF a0) hl6 ?_ (by(repeat(refine Clo.block ?_));refine Clo.rf (n':=(0,[])) ?_ (by decide) (by decide) ?_;((repeat(first|refine zaH.set ?_ ?_|refine zaH.args ?_|exact zaX.nil|refine zaX.cons ?_ ?_|exact zaF.d|exact zaF.ptr (by decide)|refine zaF.clo ?_ ?_)));(repeat(first|refine Clo.block ?_|refine Clo.seq zbc rfl ?_));(exact Clo.ret)) ?_
 ·show Up (14,[]) (zfs a0 (a1,a1)) _
  delta zfs
  exact Up.of (N:=14) (N':=14) [] rfl rfl (by decide) (.set (.ptr' rfl) (.set (.ptr' rfl) (.set (.yld' rfl) zal.none))) (.set (zar.loop (.set (.ptr' rfl) zal.none) rfl rfl) (.set zar.refl_d (.set zar.refl_d (.set zar.refl_d (.set zar.refl_d zan.at)))))
 dsimp only[zmg]
 try simp only[go_sem]
 cases h
 rfl
noncomputable def zLu (a0:Int):Option (Bool):=
 some (bif (bif (bif (a0==3)then true else(a0==4))then true else(a0==7))then true else(a0==8))
theorem zLv (a0:Int) (r:Bool) (h:zLu a0=some r):pc prog 115 [.int .u8 a0]=some (D.bool r):=by
 unfold zLu at h
 refine zaV (fn:=zJX) rfl rfl ?_
 delta zJX
 try simp only[go_sem]
 refine zaa (v:= .d (.int .u8 a0)) (fun hb6=>by simp only[go_sem,hb6]) ?_
 try simp only[go_sem]
 refine zaa (v:= .d (.bool (a0==4))) (fun hb5=>by simp only[go_sem,hb5]) ?_
 try simp only[go_sem]
 refine zaa (v:= .d (.int .u8 a0)) (fun hb4=>by simp only[go_sem,hb4]) ?_
 try simp only[go_sem]
 refine zaa (v:= .d (.bool (a0==7))) (fun hb3=>by simp only[go_sem,hb3]) ?_
 try simp only[go_sem]
 refine zaa (v:= .d (.int .u8 a0)) (fun hb2=>by simp only[go_sem,hb2]) ?_
 try simp only[go_sem]
 refine zaa (v:= .d (.bool (a0==8))) (fun hb1=>by simp only[go_sem,hb1]) ?_
 try simp only[go_sem]
 cases h
 rfl
def zft (a0:Sl (Int)) (a1:Sl (Int)) (x0:Int):St:=⟨(((((Regs.none.set 0 (.d (.list a0.n (a0.l.map (D.int .i64))))).set 1 (.d (.list a1.n (a1.l.map (D.int .i64))))).set 9 (.d (.list a0.n (a0.l.map (D.int .i64))))).set 10 (.d (.int .i64 (a0.l.length:Int)))).set 11 (.d (.int .i64 x0))),(Heap.at 4)⟩
def ziV (a0:Sl (Int)) (a1:Sl (Int)):((Unit)⊕(Int))→Ex×St:=fun r=>match r with
 |(.inl r)=>(.exit 0,⟨((Regs.none.set 0 (.d (.list a0.n (a0.l.map (D.int .i64))))).set 1 (.d (.list a1.n (a1.l.map (D.int .i64))))),(Heap.at 4)⟩)
 |(.inr r)=>(.ret,⟨(Regs.none.set 4 (.d (.int .i64 r))),(Heap.at 4)⟩)
noncomputable def zbO (a0:Sl (Int)) (a1:Sl (Int)) (x0:Int):Option ((Int)⊕((Unit)⊕(Int))):=
 if(decide (x0<(a0.l.length:Int)))=true then
  (rd a0.l x0).bind fun y3=>
  if(decide ((a1.l.length:Int)≤x0))=true then
   some (.inr (.inr 1))
  else
   (rd a1.l x0).bind fun y7=>
   (dec (D.int .i64) (pc prog 180 [.int .i64 y3,.int .i64 y7])).bind fun r9=>
   if(!(r9==0))=true then
    some (.inr (.inr r9))
   else
    some (.inl (IntKind.wrap .i64 (x0+1)))
 else
  some (.inr (.inl ()))
theorem zxG (a0:Sl (Int)) (a1:Sl (Int)) (x0:Int) (o:(Int)⊕((Unit)⊕(Int))) (h:zbO a0 a1 x0=some o):Wp prog zrk (zft a0 a1 x0) (zbF (0,[]) (zft a0 a1) (ziV a0 a1) o):=by
 unfold zbO at h
 delta zrk zft
 try simp only[go_sem]
 refine zaf (fun hc1=> ?_) (fun hc2=> ?_)
 ·rw[if_pos hc1]at h
  try simp only[go_sem]
  obtain⟨y3,hy4,h⟩:=bs h
  try simp only[go_sem,zab hy4,zad hy4,zac (D.int .i64) hy4]
  refine zaf (fun hc5=> ?_) (fun hc6=> ?_)
  ·rw[if_pos hc5]at h
   try simp only[go_sem,zab hy4,zad hy4,zac (D.int .i64) hy4]
   cases h
   exact⟨rfl,by simp,Up.of (N:=4) (N':=15) [] rfl rfl (by decide) (.set (.d _) zal.none) zan.at⟩
  rw[if_neg (ff hc6)]at h
  try simp only[go_sem,zab hy4,zad hy4,zac (D.int .i64) hy4]
  obtain⟨y7,hy8,h⟩:=bs h
  try simp only[go_sem,zab hy4,zad hy4,zac (D.int .i64) hy4,zab hy8,zad hy8,zac (D.int .i64) hy8]
  obtain⟨r9,hr10,h⟩:=bs h
  replace hr10:=zag hr10
  refine zaj hr10 ?_
  try simp only[go_sem,zab hy4,zad hy4,zac (D.int .i64) hy4,zab hy8,zad hy8,zac (D.int .i64) hy8]
  refine zav (fun hc11=> ?_) (fun hc12=> ?_)
  ·rw[if_pos (show(!(r9==0))=true by(rw[hc11];rfl))]at h
   try simp only[go_sem,zab hy4,zad hy4,zac (D.int .i64) hy4,zab hy8,zad hy8,zac (D.int .i64) hy8]
   cases h
   exact⟨rfl,by simp,Up.of (N:=4) (N':=27) [] rfl rfl (by decide) (.set (.d _) zal.none) zan.at⟩
  rw[if_neg (ffn hc12)]at h
  try simp only[go_sem,zab hy4,zad hy4,zac (D.int .i64) hy4,zab hy8,zad hy8,zac (D.int .i64) hy8]
  cases h
  exact⟨rfl,Up.of (N:=4) (N':=27) [] rfl rfl (by decide) (.set (.d _) (.set (.d _) (.set (.d _) (.set (.d _) (.set (.d _) zal.none))))) zan.at⟩
 rw[if_neg (ff hc2)]at h
 try simp only[go_sem]
 cases h
 exact⟨rfl,by simp,Up.of (N:=4) (N':=5) [] rfl rfl (by decide) (.set (.d _) (.set (.d _) zal.none)) zan.at⟩
noncomputable def zLw (a0:Sl (Int)) (a1:Sl (Int)):Option (Int):=
 (zaQ (zbO a0 a1) 0).bind fun r13=>
 match r13 with
 |(.inl q15)=>
  if(decide ((a0.l.length:Int)<(a1.l.length:Int)))=true then
   some (-1)
  else
   some (0)
 |(.inr q18)=>
  some q18
theorem zLx (a0:Sl (Int)) (a1:Sl (Int)) (r:Int) (h:zLw a0 a1=some r):pc prog 122 [.list a0.n (a0.l.map (D.int .i64)),.list a1.n (a1.l.map (D.int .i64))]=some ((D.int .i64) r):=by
 unfold zLw at h
 refine zaV (fn:=zJY) rfl rfl ?_
 delta zJY
 try simp only[go_sem]
 obtain⟨r13,hl14,h⟩:=bs h
 refine Wp.loopR zbc (n:=(0,[])) (a:=zrk) rfl (zft a0 a1) (ziV a0 a1) (zxG a0 a1) hl14 ?_ (by(repeat(first|refine Clo.block ?_|refine Clo.seq zbc rfl ?_));(exact Clo.ret)) ?_
 ·show Up (0,[]) (zft a0 a1 0) _
  delta zft
  exact Up.of (N:=4) (N':=4) [] rfl rfl (by decide) (.set (.d _) (.set (.d _) (.set (.d _) (.set (.d _) (.set (.d _) zal.none))))) zan.at
 rcases r13 with(q15|q18)
 ·dsimp only at h
  dsimp only[ziV]
  try simp only[go_sem]
  refine zaf (fun hc16=> ?_) (fun hc17=> ?_)
  ·rw[if_pos hc16]at h
   try simp only[go_sem]
   cases h
   rfl
  rw[if_neg (ff hc17)]at h
  try simp only[go_sem]
  cases h
  rfl
 dsimp only at h
 dsimp only[ziV]
 try simp only[go_sem]
 cases h
 rfl
def zfu (a0:Forest) (x0:List (Int)×Int):St:=⟨(((Regs.none.set 0 (.yld 11)).set 1 (.ptr 7 0 0)).set 2 (.ptr 6 0 0)),(((((((Heap.at 31).set 0 (some (.els 1 [.d (eForest a0)] 0))).set 2 (some (.els 1 [.sl 24 0 x0.1.length] 0))).set 6 (some (.els 1 [.d (eForest a0)] 0))).set 7 (some (.els 1 [.d (.int .i64 x0.2)] 0))).set 11 (some (.loop ⟨((Regs.none.set 2 (.ptr 0 0 0)).set 5 (.ptr 2 0 0)),[10],zob,zoc,.ready,none⟩))).set 24 (some (.els 1 (x0.1.map fun z=>V.d ((D.int .i64) z)) (0))))⟩
def zmh (a0:Forest):((Int×List (Int)))→Ex×St:=fun r=>(.exit 0,⟨Regs.none,(((((((Heap.at 31).set 0 (some (.els 1 [.d (eForest a0)] 0))).set 2 (some (.els 1 [.sl 30 0 r.2.length] 0))).set 6 (some (.els 1 [.d (eForest a0)] 0))).set 7 (some (.els 1 [.d (.int .i64 r.1)] 0))).set 11 (some (.loop ⟨((Regs.none.set 2 (.ptr 0 0 0)).set 5 (.ptr 2 0 0)),[10],zob,zoc,.ready,none⟩))).set 30 (some (.els 1 (r.2.map fun z=>V.d ((D.int .i64) z)) (0))))⟩)
noncomputable def zcJ (a0:Forest) (x0:List (Int)×Int):Option ((List (Int)×Int)⊕((Int×List (Int)))):=
 if(!(x0.2==0))=true then
  (dec (D.int .i64) (pc prog 146 [eForest a0,.int .i64 x0.2])).bind fun r10=>
  if(x0.1.length+1)*8≤AI.roomBytes then
   (dec eNode (pc prog 91 [eForest a0,.int .i64 x0.2])).bind fun r13=>
   some (.inl ((x0.1++[r10]),r13.parent))
  else none
 else
  some (.inr (x0.2,x0.1))
theorem zxH (a0:Forest) (x0:List (Int)×Int) (o:(List (Int)×Int)⊕((Int×List (Int)))) (h:zcJ a0 x0=some o):Wp prog zcR (zfu a0 x0) (zbF (12,[]) (zfu a0) (zmh a0) o):=by
 unfold zcJ at h
 delta zcR zfu
 try simp only[go_sem]
 refine zav (fun hc8=> ?_) (fun hc9=> ?_)
 ·rw[if_pos (show(!(x0.2==0))=true by(rw[hc8];rfl))]at h
  try simp only[go_sem]
  refine zdJ (by simp only[go_sem];rfl) rfl ?_
  delta zob
  try simp only[go_sem]
  delta zoc
  try simp only[go_sem]
  obtain⟨r10,hr11,h⟩:=bs h
  replace hr11:=zag hr11
  refine zaj hr11 ?_
  try simp only[go_sem]
  obtain⟨hm12,h⟩:=zcP h
  refine zjV (l:=x0.1.map fun z=>V.d ((D.int .i64) z)) (fz:=0) (new:=[V.d (.int .i64 r10)]) (by simp only[go_sem,List.map_append,List.map_cons,List.map_nil]) (by simp only[go_sem,zcO,zdI,zdb,zcc,zku]) (by simp) (by simp only[go_sem]) (by simp) (by simpa using hm12) ?_
  try simp only[go_sem,hm12]
  obtain⟨r13,hr14,h⟩:=bs h
  replace hr14:=zag hr14
  refine zaj hr14 ?_
  try simp only[go_sem,hm12]
  cases h
  exact⟨rfl,Up.of (N:=31) (N':=50) [(24,43)] rfl rfl (by decide) (.set (.ptr' rfl) (.set (.ptr' rfl) (.set (.yld' rfl) zal.none))) (.set (zar.arr (e:=(D.int .i64)) (l:=(x0.1++[r10])) (by simp) (by exact Nat.le_refl _)) (.set (zar.loop (.set (.ptr' rfl) (.set (.ptr' rfl) zal.none)) rfl rfl) (.set zar.refl_d (.set zar.refl_d (.set (zar.els (Nat.le_refl _) (.cons (.sl'' rfl (by(simp;done))) .nil)) (.set zar.refl_d zan.at))))))⟩
 rw[if_neg (ffn hc9)]at h
 try simp only[go_sem]
 cases h
 exact⟨rfl,by simp,Up.of (N:=31) (N':=33) [(24,30),(30,24)] rfl rfl (by decide) zal.none (.set (zar.arr (e:=(D.int .i64)) (l:=x0.1) (by rfl) (by exact Nat.le_refl _)) (.set (zar.loop (.set (.ptr' rfl) (.set (.ptr' rfl) zal.none)) rfl rfl) (.set zar.refl_d (.set zar.refl_d (.set (zar.els (Nat.le_refl _) (.cons (.sl'' rfl (by rfl)) .nil)) (.set zar.refl_d zan.at))))))⟩
def zfv (a0:Forest) (r15:Int×List (Int)) (x1:List (Int)×Int×Int):St:=⟨(((Regs.none.set 0 (.sl 30 0 r15.2.length)).set 2 (.d (.int .i64 x1.2.1))).set 3 (.d (.int .i64 x1.2.2))),((((((Heap.at 38).set 0 (some (.els 1 [.d (eForest a0)] 0))).set 2 (some (.els 1 [.sl 30 0 r15.2.length] 0))).set 6 (some (.els 1 [.d (eForest a0)] 0))).set 7 (some (.els 1 [.d (.int .i64 r15.1)] 0))).set 30 (some (.els 1 (x1.1.map fun z=>V.d ((D.int .i64) z)) (0))))⟩
def zmi (a0:Forest) (r15:Int×List (Int)):((List (Int)))→Ex×St:=fun r=>(.exit 0,⟨Regs.none,((((((Heap.at 38).set 0 (some (.els 1 [.d (eForest a0)] 0))).set 2 (some (.els 1 [.sl 30 0 r15.2.length] 0))).set 6 (some (.els 1 [.d (eForest a0)] 0))).set 7 (some (.els 1 [.d (.int .i64 r15.1)] 0))).set 30 (some (.els 1 (r.map fun z=>V.d ((D.int .i64) z)) (0))))⟩)
noncomputable def zdp (a0:Forest) (r15:Int×List (Int)) (x1:List (Int)×Int×Int):Option ((List (Int)×Int×Int)⊕((List (Int)))):=
 if(decide (x1.2.1<x1.2.2))=true then
  (rdA x1.1 r15.2.length x1.2.2).bind fun y19=>
  (rdA x1.1 r15.2.length x1.2.1).bind fun y21=>
  (rdA (x1.1.set (x1.2.1).toNat y19) r15.2.length x1.2.2).bind fun y23=>
  some (.inl (((x1.1.set (x1.2.1).toNat y19).set (x1.2.2).toNat y21),(IntKind.wrap .i64 (x1.2.1+1)),(IntKind.wrap .i64 (x1.2.2-1))))
 else
  some (.inr x1.1)
theorem zxI (a0:Forest) (r15:Int×List (Int)) (x1:List (Int)×Int×Int) (o:(List (Int)×Int×Int)⊕((List (Int)))) (h:zdp a0 r15 x1=some o):Wp prog zjZ (zfv a0 r15 x1) (zbF (33,[]) (zfv a0 r15) (zmi a0 r15) o):=by
 unfold zdp at h
 delta zjZ zfv
 try simp only[go_sem]
 refine zaf (fun hc17=> ?_) (fun hc18=> ?_)
 ·rw[if_pos hc17]at h
  try simp only[go_sem]
  obtain⟨y19,hy20,h⟩:=bs h
  try simp only[go_sem,zaZ hy20,zbn hy20,zbp hy20,zaK hy20,zba (D.int .i64) hy20]
  obtain⟨y21,hy22,h⟩:=bs h
  try simp only[go_sem,zaZ hy20,zbn hy20,zbp hy20,zaK hy20,zba (D.int .i64) hy20,zaZ hy22,zbn hy22,zbp hy22,zaK hy22,zba (D.int .i64) hy22]
  obtain⟨y23,hy24,h⟩:=bs h
  try simp only[go_sem,zaZ hy20,zbn hy20,zbp hy20,zaK hy20,zba (D.int .i64) hy20,zaZ hy22,zbn hy22,zbp hy22,zaK hy22,zba (D.int .i64) hy22,zgu (x:=y19) (D.int .i64) (zaK hy22),zgt (x:=y19) (zaK hy22),zaZ hy24,zbn hy24,zbp hy24,zaK hy24,zba (D.int .i64) hy24]
  cases h
  exact⟨rfl,Up.of (N:=38) (N':=63) [] rfl rfl (by decide) (.set (.d _) (.set (.d _) (.set (.sl'' rfl (by rfl)) zal.none))) (.set (zar.arr (e:=(D.int .i64)) (l:=((x1.1.set (x1.2.1).toNat y19).set (x1.2.2).toNat y21)) (by rfl) (by exact Nat.le_refl _)) (.set zar.refl_d (.set zar.refl_d (.set (zar.els (Nat.le_refl _) (.cons (.sl'' rfl (by rfl)) .nil)) (.set zar.refl_d zan.at)))))⟩
 rw[if_neg (ff hc18)]at h
 try simp only[go_sem]
 cases h
 exact⟨rfl,by simp,Up.of (N:=38) (N':=41) [] rfl rfl (by decide) zal.none (.set (zar.arr (e:=(D.int .i64)) (l:=x1.1) (by rfl) (by exact Nat.le_refl _)) (.set zar.refl_d (.set zar.refl_d (.set (zar.els (Nat.le_refl _) (.cons (.sl'' rfl (by rfl)) .nil)) (.set zar.refl_d zan.at)))))⟩
def zfw (a0:Forest) (a1:Int) (x2:Unit):St:=⟨(((Regs.none.set 0 (.d (.list true []))).set 2 (.d (.int .i64 (0)))).set 3 (.d (.int .i64 (IntKind.wrap .i64 (0-1))))),(((((Heap.at 21).set 0 (some (.els 1 [.d (eForest a0)] 0))).set 2 (some (.els 1 [.d (.list true [])] 0))).set 6 (some (.els 1 [.d (eForest a0)] 0))).set 7 (some (.els 1 [.d (.int .i64 a1)] 0)))⟩
def zmj (a0:Forest) (a1:Int):((Unit))→Ex×St:=fun r=>(.exit 0,⟨Regs.none,(((((Heap.at 21).set 0 (some (.els 1 [.d (eForest a0)] 0))).set 2 (some (.els 1 [.d (.list true [])] 0))).set 6 (some (.els 1 [.d (eForest a0)] 0))).set 7 (some (.els 1 [.d (.int .i64 a1)] 0)))⟩)
noncomputable def zgC (a0:Forest) (a1:Int) (x2:Unit):Option ((Unit)⊕((Unit))):=
 if(decide (0<(IntKind.wrap .i64 (0-1))))=true then
  none
 else
  some (.inr ())
theorem zxJ (a0:Forest) (a1:Int) (x2:Unit) (o:(Unit)⊕((Unit))) (h:zgC a0 a1 x2=some o):Wp prog zjZ (zfw a0 a1 x2) (zbF (16,[]) (zfw a0 a1) (zmj a0 a1) o):=by
 unfold zgC at h
 delta zjZ zfw
 try simp only[go_sem]
 refine zaf (fun hc28=> ?_) (fun hc29=> ?_)
 ·rw[if_pos (show(decide (0<(IntKind.wrap .i64 (0-1))))=true by exact hc28)]at h
  try simp only[go_sem]
  cases h
 rw[if_neg (show ¬(decide (0<(IntKind.wrap .i64 (0-1))))=true by simpa using hc29)]at h
 try simp only[go_sem]
 cases h
 exact⟨rfl,by simp,Up.of (N:=21) (N':=24) [] rfl rfl (by decide) zal.none (.set zar.refl_d (.set zar.refl_d (.set zar.refl_d (.set zar.refl_d zan.at))))⟩
noncomputable def zLy (a0:Forest) (a1:Int):Option (Sl (Int)):=
 if(!(a1==0))=true then
  (dec (D.int .i64) (pc prog 146 [eForest a0,.int .i64 a1])).bind fun r3=>
  if 1*8≤AI.roomBytes then
   (dec eNode (pc prog 91 [eForest a0,.int .i64 a1])).bind fun r6=>
   (zaQ (zcJ a0) ([r3],r6.parent)).bind fun r15=>
   (zaQ (zdp a0 r15) (r15.2,0,(IntKind.wrap .i64 (((r15.2.length:Nat):Int)-1)))).bind fun r25=>
   if r25.length=r15.2.length then
    some (⟨false,r25⟩)
   else none
  else none
 else
  (zaQ (zgC a0 a1) ()).bind fun r30=>
  some (⟨true,[]⟩)
theorem zLz (a0:Forest) (a1:Int) (r:Sl (Int)) (h:zLy a0 a1=some r):pc prog 123 [eForest a0,.int .i64 a1]=some ((eSl (D.int .i64)) r):=by
 unfold zLy at h
 refine zaV (fn:=zJZ) rfl rfl ?_
 delta zJZ
 try simp only[go_sem]
 refine zbj (fn:=zug) rfl rfl ?_
 delta zug
 try simp only[go_sem]
 refine Wp.rfuncC (k:=173) (fn:=zuh) (first:=[]) (cap:=[.ptr 7 0 0,.ptr 6 0 0]) (by simp only[go_sem]) rfl rfl ?_
 delta zuh
 try simp only[go_sem]
 refine Wp.peel ?_
 delta zcR
 try simp only[go_sem]
 refine zav (fun hc1=> ?_) (fun hc2=> ?_)
 ·rw[if_pos (show(!(a1==0))=true by(rw[hc1];rfl))]at h
  try simp only[go_sem]
  refine zdJ (by simp only[go_sem];rfl) rfl ?_
  delta zob
  try simp only[go_sem]
  delta zoc
  try simp only[go_sem]
  obtain⟨r3,hr4,h⟩:=bs h
  replace hr4:=zag hr4
  refine zaj hr4 ?_
  try simp only[go_sem]
  obtain⟨hm5,h⟩:=zcP h
  refine zwx (new:=[V.d (.int .i64 r3)]) (by simp only[go_sem,zcO,zdI,zdb,zcc,zku]) (by simp) (by simp only[go_sem]) (by simpa using hm5) ?_
  try simp only[go_sem,hm5]
  obtain⟨r6,hr7,h⟩:=bs h
  replace hr7:=zag hr7
  refine zaj hr7 ?_
  try simp only[go_sem,hm5]
  obtain⟨r15,hl16,h⟩:=bs h
  refine Wp.loopR zbc (n:=(12,[])) (a:=zcR) rfl (zfu a0) (zmh a0) (zxH a0) hl16 ?_ (by(repeat(refine Clo.block ?_));refine Clo.rf (n':=(0,[])) ?_ (by decide) (by decide) ?_;((repeat(first|refine zaH.set ?_ ?_|refine zaH.args ?_|exact zaX.nil|refine zaX.cons ?_ ?_|exact zaF.d|exact zaF.ptr (by decide)|refine zaF.clo ?_ ?_)));(repeat(first|refine Clo.block ?_|refine Clo.seq zbc rfl ?_));(exact Clo.ret)) ?_
  ·show Up (12,[]) (zfu a0 ([r3],r6.parent)) _
   delta zfu
   exact Up.of (N:=31) (N':=31) [] rfl rfl (by decide) (.set (.ptr' rfl) (.set (.ptr' rfl) (.set (.yld' rfl) zal.none))) (.set (zar.arr (e:=(D.int .i64)) (l:=([r3])) (by rfl) (by exact Nat.le_refl _)) (.set (zar.loop (.set (.ptr' rfl) (.set (.ptr' rfl) zal.none)) rfl rfl) (.set zar.refl_d (.set zar.refl_d (.set (zar.els (Nat.le_refl _) (.cons (.sl'' rfl (by rfl)) .nil)) (.set zar.refl_d zan.at))))))
  dsimp only[zmh]
  try simp only[go_sem,hm5]
  refine zbj (fn:=zGX) rfl rfl ?_
  delta zGX
  try simp only[go_sem,hm5]
  obtain⟨r25,hl26,h⟩:=bs h
  refine Wp.loopR zbc (n:=(33,[])) (a:=zjZ) rfl (zfv a0 r15) (zmi a0 r15) (zxI a0 r15) hl26 ?_ (by(repeat(refine Clo.block ?_));refine Clo.inl zbc (n':=(0,[])) rfl rfl rfl ?_ ?_ (show Fx.spans _ 31 2=true from by decide) (by decide) ?_;((repeat(first|exact zaH.no|refine zaH.set ?_ ?_|refine zaH.args ?_|exact zaX.nil|refine zaX.cons ?_ ?_|exact zaF.d|exact zaF.ptr (by decide)|exact zaF.sl (by decide)|refine zaF.clo ?_ ?_));(repeat(first|exact zaH.no|exact zaH.none|refine zaH.set ?_ ?_|refine zaH.args ?_|exact zaX.nil|refine zaX.cons ?_ ?_|exact zaF.d|exact zaF.undef|exact zaF.rp|exact zaF.ptr (by decide)|exact zaF.sl (by decide)|exact zaF.mb (by decide)|exact zaF.map (by decide)|exact zaF.yld (by decide)|exact zaF.it (by decide)|refine zaF.clo ?_ ?_|refine zaF.ofCells ?_|refine zaF.agg ?_|refine zaF.tuple ?_|refine zaF.bif ?_ ?_)));(repeat(refine Clo.seq zbc rfl ?_));(exact Clo.ret)) ?_
  ·show Up (33,[]) (zfv a0 r15 (r15.2,0,(IntKind.wrap .i64 (((r15.2.length:Nat):Int)-1)))) _
   delta zfv
   exact Up.of (N:=38) (N':=38) [] rfl rfl (by decide) (.set (.d _) (.set (.d _) (.set (.sl'' rfl (by rfl)) zal.none))) (.set (zar.arr (e:=(D.int .i64)) (l:=r15.2) (by rfl) (by exact Nat.le_refl _)) (.set zar.refl_d (.set zar.refl_d (.set (zar.els (Nat.le_refl _) (.cons (.sl'' rfl (by rfl)) .nil)) (.set zar.refl_d zan.at)))))
  dsimp only[zmi]
  try simp only[go_sem,hm5]
  obtain⟨hq27,h⟩:=zcP h
  cases h
  refine Reads.ofv (v':= .sl 30 0 r15.2.length) (by rfl) (Rd.sl (e:=(D.int .i64)) (l:=r25) (sz:=1) (fz:=0) (m:=r25.map fun z=>V.d ((D.int .i64) z)) (by simp only[go_sem,List.map_append,List.map_cons,List.map_nil,hm5,hq27]) rfl (by exact hq27)) rfl
 rw[if_neg (ffn hc2)]at h
 try simp only[go_sem]
 refine zbj (fn:=zGX) rfl rfl ?_
 delta zGX
 try simp only[go_sem]
 obtain⟨r30,hl31,h⟩:=bs h
 refine Wp.loopR zbc (n:=(16,[])) (a:=zjZ) rfl (zfw a0 a1) (zmj a0 a1) (zxJ a0 a1) hl31 ?_ (by(repeat(refine Clo.block ?_));refine Clo.inl zbc (n':=(0,[])) rfl rfl rfl ?_ ?_ (show Fx.spans _ 14 2=true from by decide) (by decide) ?_;((repeat(first|exact zaH.no|refine zaH.set ?_ ?_|refine zaH.args ?_|exact zaX.nil|refine zaX.cons ?_ ?_|exact zaF.d|exact zaF.ptr (by decide)|refine zaF.clo ?_ ?_));(repeat(first|exact zaH.no|exact zaH.none|refine zaH.set ?_ ?_|refine zaH.args ?_|exact zaX.nil|refine zaX.cons ?_ ?_|exact zaF.d|exact zaF.undef|exact zaF.rp|exact zaF.ptr (by decide)|exact zaF.sl (by decide)|exact zaF.mb (by decide)|exact zaF.map (by decide)|exact zaF.yld (by decide)|exact zaF.it (by decide)|refine zaF.clo ?_ ?_|refine zaF.ofCells ?_|refine zaF.agg ?_|refine zaF.tuple ?_|refine zaF.bif ?_ ?_)));(repeat(refine Clo.seq zbc rfl ?_));(exact Clo.ret)) ?_
 ·show Up (16,[]) (zfw a0 a1 ()) _
  delta zfw
  exact Up.of (N:=21) (N':=21) [] rfl rfl (by decide) (.set (.d _) (.set (.d _) (.set (.d _) zal.none))) (.set zar.refl_d (.set zar.refl_d (.set zar.refl_d (.set zar.refl_d zan.at))))
 dsimp only[zmj]
 try simp only[go_sem]
 cases h
 rfl
noncomputable def zLA (a0:Forest) (a1:Int):Option (Node):=
 (rd a0.nodes.l (IntKind.wrap .i64 (a1-1))).bind fun y1=>
 some y1
theorem zLB (a0:Forest) (a1:Int) (r:Node) (h:zLA a0 a1=some r):pc prog 128 [eForest a0,.int .i64 a1]=some (eNode r):=by
 unfold zLA at h
 refine zaV (fn:=zKa) rfl rfl ?_
 delta zKa
 try simp only[go_sem]
 obtain⟨y1,hy2,h⟩:=bs h
 try simp only[go_sem,zab hy2,zad hy2,zac eNode hy2]
 cases h
 rfl
def zfx (a0:Forest) (x0:Int×Int):St:=⟨(((Regs.none.set 0 (.yld 13)).set 1 (.ptr 9 0 0)).set 2 (.ptr 8 0 0)),((((((Heap.at 14).set 0 (some (.els 1 [.d (eForest a0)] 0))).set 3 (some (.els 1 [.d (.int .i64 x0.1)] 0))).set 8 (some (.els 1 [.d (eForest a0)] 0))).set 9 (some (.els 1 [.d (.int .i64 x0.2)] 0))).set 13 (some (.loop ⟨(Regs.none.set 5 (.ptr 3 0 0)),[11],zrl,zrm,.ready,none⟩)))⟩
def zmk (a0:Forest):((Int×Int))→Ex×St:=fun r=>(.exit 0,⟨Regs.none,((((((Heap.at 14).set 0 (some (.els 1 [.d (eForest a0)] 0))).set 3 (some (.els 1 [.d (.int .i64 r.1)] 0))).set 8 (some (.els 1 [.d (eForest a0)] 0))).set 9 (some (.els 1 [.d (.int .i64 r.2)] 0))).set 13 (some (.loop ⟨(Regs.none.set 5 (.ptr 3 0 0)),[11],zrl,zrm,.ready,none⟩)))⟩)
noncomputable def zcK (a0:Forest) (x0:Int×Int):Option ((Int×Int)⊕((Int×Int))):=
 if(!(x0.2==0))=true then
  (dec (D.int .i64) (pc prog 183 [eForest a0,.int .i64 x0.2])).bind fun r3=>
  some (.inl (x0.2,r3))
 else
  some (.inr (x0.1,x0.2))
theorem zxK (a0:Forest) (x0:Int×Int) (o:(Int×Int)⊕((Int×Int))) (h:zcK a0 x0=some o):Wp prog zka (zfx a0 x0) (zbF (14,[]) (zfx a0) (zmk a0) o):=by
 unfold zcK at h
 delta zka zfx
 try simp only[go_sem]
 refine zav (fun hc1=> ?_) (fun hc2=> ?_)
 ·rw[if_pos (show(!(x0.2==0))=true by(rw[hc1];rfl))]at h
  try simp only[go_sem]
  refine zdJ (by simp only[go_sem];rfl) rfl ?_
  delta zrl
  try simp only[go_sem]
  delta zrm
  try simp only[go_sem]
  obtain⟨r3,hr4,h⟩:=bs h
  replace hr4:=zag hr4
  refine zaj hr4 ?_
  try simp only[go_sem]
  cases h
  exact⟨rfl,Up.of (N:=14) (N':=27) [] rfl rfl (by decide) (.set (.ptr' rfl) (.set (.ptr' rfl) (.set (.yld' rfl) zal.none))) (.set (zar.loop (.set (.ptr' rfl) zal.none) rfl rfl) (.set zar.refl_d (.set zar.refl_d (.set zar.refl_d (.set zar.refl_d zan.at)))))⟩
 rw[if_neg (ffn hc2)]at h
 try simp only[go_sem]
 cases h
 exact⟨rfl,by simp,Up.of (N:=14) (N':=16) [] rfl rfl (by decide) zal.none (.set (zar.loop (.set (.ptr' rfl) zal.none) rfl rfl) (.set zar.refl_d (.set zar.refl_d (.set zar.refl_d (.set zar.refl_d zan.at)))))⟩
noncomputable def zLC (a0:Forest) (a1:Int):Option (Int):=
 (zaQ (zcK a0) (a1,a1)).bind fun r5=>
 some r5.1
theorem zLD (a0:Forest) (a1:Int) (r:Int) (h:zLC a0 a1=some r):pc prog 132 [eForest a0,.int .i64 a1]=some ((D.int .i64) r):=by
 unfold zLC at h
 refine zaV (fn:=zKd) rfl rfl ?_
 delta zKd
 try simp only[go_sem]
 refine zbj (fn:=zGW) rfl rfl ?_
 delta zGW
 try simp only[go_sem]
 refine Wp.rfuncC (k:=182) (fn:=zGY) (first:=[]) (cap:=[.ptr 9 0 0,.ptr 8 0 0]) (by simp only[go_sem]) rfl rfl ?_
 delta zGY
 try simp only[go_sem]
 obtain⟨r5,hl6,h⟩:=bs h
 refine Wp.loopR zbc (n:=(14,[])) (a:=zka) rfl (zfx a0) (zmk a0) (zxK a0) hl6 ?_ (by(repeat(refine Clo.block ?_));refine Clo.rf (n':=(0,[])) ?_ (by decide) (by decide) ?_;((repeat(first|refine zaH.set ?_ ?_|refine zaH.args ?_|exact zaX.nil|refine zaX.cons ?_ ?_|exact zaF.d|exact zaF.ptr (by decide)|refine zaF.clo ?_ ?_)));(repeat(first|refine Clo.block ?_|refine Clo.seq zbc rfl ?_));(exact Clo.ret)) ?_
 ·show Up (14,[]) (zfx a0 (a1,a1)) _
  delta zfx
  exact Up.of (N:=14) (N':=14) [] rfl rfl (by decide) (.set (.ptr' rfl) (.set (.ptr' rfl) (.set (.yld' rfl) zal.none))) (.set (zar.loop (.set (.ptr' rfl) zal.none) rfl rfl) (.set zar.refl_d (.set zar.refl_d (.set zar.refl_d (.set zar.refl_d zan.at)))))
 dsimp only[zmk]
 try simp only[go_sem]
 cases h
 rfl
def zfy (a0:Forest) (x0:Int):St:=⟨(((Regs.none.set 0 (.yld 16)).set 1 (.ptr 12 0 0)).set 2 (.ptr 11 0 0)),((((((Heap.at 17).set 0 (some (.els 1 [.d (eForest a0)] 0))).set 1 (some (.els 1 [.d (.int .i64 (0))] 0))).set 11 (some (.els 1 [.d (eForest a0)] 0))).set 12 (some (.els 1 [.d (.int .i64 x0)] 0))).set 16 (some (.loop ⟨((Regs.none.set 2 (.ptr 0 0 0)).set 4 (.ptr 1 0 0)),[17],zof,zog,.ready,none⟩)))⟩
def ziW (a0:Forest):((Int)⊕(Int×Int))→Ex×St:=fun r=>match r with
 |(.inl r)=>(.exit 0,⟨Regs.none,((((((Heap.at 17).set 0 (some (.els 1 [.d (eForest a0)] 0))).set 1 (some (.els 1 [.d (.int .i64 (0))] 0))).set 11 (some (.els 1 [.d (eForest a0)] 0))).set 12 (some (.els 1 [.d (.int .i64 r)] 0))).set 16 (some (.loop ⟨((Regs.none.set 2 (.ptr 0 0 0)).set 4 (.ptr 1 0 0)),[17],zof,zog,.ready,none⟩)))⟩)
 |(.inr r)=>(.ret,⟨Regs.none,((((((Heap.at 17).set 0 (some (.els 1 [.d (eForest a0)] 0))).set 1 (some (.els 1 [.d (.int .i64 r.1)] 0))).set 11 (some (.els 1 [.d (eForest a0)] 0))).set 12 (some (.els 1 [.d (.int .i64 r.2)] 0))).set 16 (some (.loop ⟨((Regs.none.set 2 (.ptr 0 0 0)).set 4 (.ptr 1 0 0)),[17],zof,zog,.done,(some .ret)⟩)))⟩)
noncomputable def zbX (a0:Forest) (x0:Int):Option ((Int)⊕((Int)⊕(Int×Int))):=
 if(!(x0==0))=true then
  (dec (D.int .i64) (pc prog 185 [eForest a0,.int .i64 x0,.int .i64 (1)])).bind fun r7=>
  if(!(r7==0))=true then
   some (.inr (.inr (r7,x0)))
  else
   (dec eNode (pc prog 91 [eForest a0,.int .i64 x0])).bind fun r11=>
   some (.inl r11.parent)
 else
  some (.inr (.inl x0))
theorem zxL (a0:Forest) (x0:Int) (o:(Int)⊕((Int)⊕(Int×Int))) (h:zbX a0 x0=some o):Wp prog zcR (zfy a0 x0) (zbF (17,[]) (zfy a0) (ziW a0) o):=by
 unfold zbX at h
 delta zcR zfy
 try simp only[go_sem]
 refine zav (fun hc5=> ?_) (fun hc6=> ?_)
 ·rw[if_pos (show(!(x0==0))=true by(rw[hc5];rfl))]at h
  try simp only[go_sem]
  refine zdJ (by simp only[go_sem];rfl) rfl ?_
  delta zof
  try simp only[go_sem]
  delta zog
  try simp only[go_sem]
  obtain⟨r7,hr8,h⟩:=bs h
  replace hr8:=zag hr8
  refine zaj hr8 ?_
  try simp only[go_sem]
  refine zav (fun hc9=> ?_) (fun hc10=> ?_)
  ·rw[if_pos (show(!(r7==0))=true by(rw[hc9];rfl))]at h
   try simp only[go_sem]
   cases h
   exact⟨rfl,by simp,Up.of (N:=17) (N':=32) [] rfl rfl (by decide) zal.none (.set (zar.loop (.set (.ptr' rfl) (.set (.ptr' rfl) zal.none)) rfl rfl) (.set zar.refl_d (.set zar.refl_d (.set zar.refl_d (.set zar.refl_d zan.at)))))⟩
  rw[if_neg (ffn hc10)]at h
  try simp only[go_sem]
  obtain⟨r11,hr12,h⟩:=bs h
  replace hr12:=zag hr12
  refine zaj hr12 ?_
  try simp only[go_sem]
  cases h
  exact⟨rfl,Up.of (N:=17) (N':=35) [] rfl rfl (by decide) (.set (.ptr' rfl) (.set (.ptr' rfl) (.set (.yld' rfl) zal.none))) (.set (zar.loop (.set (.ptr' rfl) (.set (.ptr' rfl) zal.none)) rfl rfl) (.set zar.refl_d (.set zar.refl_d (.set zar.refl_d (.set zar.refl_d zan.at)))))⟩
 rw[if_neg (ffn hc6)]at h
 try simp only[go_sem]
 cases h
 exact⟨rfl,by simp,Up.of (N:=17) (N':=19) [] rfl rfl (by decide) zal.none (.set (zar.loop (.set (.ptr' rfl) (.set (.ptr' rfl) zal.none)) rfl rfl) (.set zar.refl_d (.set zar.refl_d (.set zar.refl_d (.set zar.refl_d zan.at)))))⟩
noncomputable def zLE (a0:Forest) (a1:Int):Option (Int):=
 (dec (D.int .i64) (pc prog 184 [eForest a0,.int .i64 a1,.bool false])).bind fun r1=>
 if(!(r1==0))=true then
  some r1
 else
  (zaQ (zbX a0) a1).bind fun r13=>
  match r13 with
  |(.inl q15)=>
   some (0)
  |(.inr q16)=>
   some q16.1
theorem zLF (a0:Forest) (a1:Int) (r:Int) (h:zLE a0 a1=some r):pc prog 136 [eForest a0,.int .i64 a1]=some ((D.int .i64) r):=by
 unfold zLE at h
 refine zaV (fn:=zKg) rfl rfl ?_
 delta zKg
 try simp only[go_sem]
 obtain⟨r1,hr2,h⟩:=bs h
 replace hr2:=zag hr2
 refine zaj hr2 ?_
 try simp only[go_sem]
 refine zav (fun hc3=> ?_) (fun hc4=> ?_)
 ·rw[if_pos (show(!(r1==0))=true by(rw[hc3];rfl))]at h
  try simp only[go_sem]
  cases h
  rfl
 rw[if_neg (ffn hc4)]at h
 try simp only[go_sem]
 refine zbj (fn:=zug) rfl rfl ?_
 delta zug
 try simp only[go_sem]
 refine Wp.rfuncC (k:=173) (fn:=zuh) (first:=[]) (cap:=[.ptr 12 0 0,.ptr 11 0 0]) (by simp only[go_sem]) rfl rfl ?_
 delta zuh
 try simp only[go_sem]
 obtain⟨r13,hl14,h⟩:=bs h
 refine Wp.loopR zbc (n:=(17,[])) (a:=zcR) rfl (zfy a0) (ziW a0) (zxL a0) hl14 ?_ (by(repeat(refine Clo.block ?_));refine Clo.rf (n':=(0,[])) ?_ (by decide) (by decide) ?_;((repeat(first|refine zaH.set ?_ ?_|refine zaH.args ?_|exact zaX.nil|refine zaX.cons ?_ ?_|exact zaF.d|exact zaF.ptr (by decide)|refine zaF.clo ?_ ?_)));(repeat(first|refine Clo.block ?_|refine Clo.seq zbc rfl ?_));(exact Clo.ret)) ?_
 ·show Up (17,[]) (zfy a0 a1) _
  delta zfy
  exact Up.of (N:=17) (N':=17) [] rfl rfl (by decide) (.set (.ptr' rfl) (.set (.ptr' rfl) (.set (.yld' rfl) zal.none))) (.set (zar.loop (.set (.ptr' rfl) (.set (.ptr' rfl) zal.none)) rfl rfl) (.set zar.refl_d (.set zar.refl_d (.set zar.refl_d (.set zar.refl_d zan.at)))))
 rcases r13 with(q15|q16)
 ·dsimp only at h
  dsimp only[ziW]
  try simp only[go_sem]
  cases h
  rfl
 dsimp only at h
 dsimp only[ziW]
 try simp only[go_sem]
 cases h
 rfl
noncomputable def zLG (a0:Forest) (a1:Int):Option (Int):=
 (dec eNode (pc prog 128 [eForest a0,.int .i64 a1])).bind fun r1=>
 if(r1.kind==12)=true then
  (dec eNode (pc prog 128 [eForest a0,.int .i64 a1])).bind fun r5=>
  some r5.host
 else
  (dec eNode (pc prog 128 [eForest a0,.int .i64 a1])).bind fun r7=>
  some r7.parent
theorem zLH (a0:Forest) (a1:Int) (r:Int) (h:zLG a0 a1=some r):pc prog 138 [eForest a0,.int .i64 a1]=some ((D.int .i64) r):=by
 unfold zLG at h
 refine zaV (fn:=zKi) rfl rfl ?_
 delta zKi
 try simp only[go_sem]
 obtain⟨r1,hr2,h⟩:=bs h
 replace hr2:=zag hr2
 refine zaj hr2 ?_
 try simp only[go_sem]
 refine zaf (fun hc3=> ?_) (fun hc4=> ?_)
 ·rw[if_pos hc3]at h
  try simp only[go_sem]
  obtain⟨r5,hr6,h⟩:=bs h
  replace hr6:=zag hr6
  refine zaj hr6 ?_
  try simp only[go_sem]
  cases h
  rfl
 rw[if_neg (ff hc4)]at h
 try simp only[go_sem]
 obtain⟨r7,hr8,h⟩:=bs h
 replace hr8:=zag hr8
 refine zaj hr8 ?_
 try simp only[go_sem]
 cases h
 rfl
noncomputable def zLI (a0:Forest) (a1:Int):Option (Int):=
 (dec eNode (pc prog 91 [eForest a0,.int .i64 a1])).bind fun r1=>
 (dec eNode (pc prog 91 [eForest a0,.int .i64 r1.parent])).bind fun r3=>
 (dec (D.int .i64) (pc prog 188 [.list r3.kids.n (r3.kids.l.map (D.int .i64)),.int .i64 a1])).bind fun r5=>
 some (max r5 (0))
theorem zLJ (a0:Forest) (a1:Int) (r:Int) (h:zLI a0 a1=some r):pc prog 146 [eForest a0,.int .i64 a1]=some ((D.int .i64) r):=by
 unfold zLI at h
 refine zaV (fn:=zKk) rfl rfl ?_
 delta zKk
 try simp only[go_sem]
 obtain⟨r1,hr2,h⟩:=bs h
 replace hr2:=zag hr2
 refine zaj hr2 ?_
 try simp only[go_sem]
 obtain⟨r3,hr4,h⟩:=bs h
 replace hr4:=zag hr4
 refine zaj hr4 ?_
 try simp only[go_sem]
 obtain⟨r5,hr6,h⟩:=bs h
 replace hr6:=zag hr6
 refine zaj hr6 ?_
 try simp only[go_sem]
 cases h
 rfl
def zfz (a0:Forest) (r3:Sl (Bool)) (x0:Int):St:=⟨(((((Regs.none.set 1 (.ptr 0 0 0)).set 4 (.d (.list r3.n (r3.l.map D.bool)))).set 14 (.d (.list a0.nodes.n (a0.nodes.l.map eNode)))).set 15 (.d (.int .i64 (a0.nodes.l.length:Int)))).set 16 (.d (.int .i64 x0))),((Heap.at 14).set 0 (some (.els 1 [.d (eForest a0)] 0)))⟩
def ziX (a0:Forest) (r3:Sl (Bool)):((Unit)⊕(Int))→Ex×St:=fun r=>match r with
 |(.inl r)=>(.exit 0,⟨Regs.none,(Heap.at 14)⟩)
 |(.inr r)=>(.ret,⟨((Regs.none.set 2 (.d (.int .i64 (5)))).set 3 (.d (.int .i64 r))),(Heap.at 14)⟩)
noncomputable def zdq (a0:Forest) (r3:Sl (Bool)) (x0:Int):Option ((Int)⊕((Unit)⊕(Int))):=
 if(decide (x0<(a0.nodes.l.length:Int)))=true then
  (rd a0.nodes.l x0).bind fun y7=>
  (dec D.bool (pc prog 192 [eNode y7])).bind fun r9=>
  if r9=true then
   (dec D.bool (pc prog 193 [eForest a0,.int .i64 (IntKind.wrap .i64 (x0+1))])).bind fun r13=>
   if r13=true then
    (rd r3.l (IntKind.wrap .i64 (x0+1))).bind fun y17=>
    if(!y17)=true then
     some (.inr (.inr (IntKind.wrap .i64 (x0+1))))
    else
     some (.inl (IntKind.wrap .i64 (x0+1)))
   else
    some (.inr (.inr (IntKind.wrap .i64 (x0+1))))
  else
   some (.inr (.inr (IntKind.wrap .i64 (x0+1))))
 else
  some (.inr (.inl ()))
theorem zxM (a0:Forest) (r3:Sl (Bool)) (x0:Int) (o:(Int)⊕((Unit)⊕(Int))) (h:zdq a0 r3 x0=some o):Wp prog zrn (zfz a0 r3 x0) (zbF (0,[]) (zfz a0 r3) (ziX a0 r3) o):=by
 unfold zdq at h
 delta zrn zfz
 try simp only[go_sem]
 refine zaf (fun hc5=> ?_) (fun hc6=> ?_)
 ·rw[if_pos hc5]at h
  try simp only[go_sem]
  obtain⟨y7,hy8,h⟩:=bs h
  try simp only[go_sem,zab hy8,zad hy8,zac eNode hy8]
  obtain⟨r9,hr10,h⟩:=bs h
  replace hr10:=zag hr10
  refine zaj hr10 ?_
  try simp only[go_sem,zab hy8,zad hy8,zac eNode hy8]
  refine zaa (v:= .d (eForest a0)) (fun hb26=>by simp only[go_sem,zab hy8,zad hy8,zac eNode hy8,hc5,hb26]) ?_
  try simp only[go_sem,zab hy8,zad hy8,zac eNode hy8]
  refine zaa (v:= .d (.int .i64 x0)) (fun hb25=>by simp only[go_sem,zab hy8,zad hy8,zac eNode hy8,hc5,hb25]) ?_
  try simp only[go_sem,zab hy8,zad hy8,zac eNode hy8]
  refine zaa (v:= .d (.int .i64 (IntKind.wrap .i64 (x0+1)))) (fun hb24=>by simp only[go_sem,zab hy8,zad hy8,zac eNode hy8,hc5,hb24]) ?_
  try simp only[go_sem,zab hy8,zad hy8,zac eNode hy8]
  refine zay (fun hc11=> ?_) (fun hc12=> ?_)
  ·rw[if_pos hc11]at h
   try simp only[go_sem,zab hy8,zad hy8,zac eNode hy8,hc11]
   obtain⟨r13,hr14,h⟩:=bs h
   replace hr14:=zag hr14
   refine zaj hr14 ?_
   try simp only[go_sem,zab hy8,zad hy8,zac eNode hy8]
   refine zaa (v:= .d (.list r3.n (r3.l.map D.bool))) (fun hb23=>by simp only[go_sem,zab hy8,zad hy8,zac eNode hy8,hc5,hc11,hb23]) ?_
   try simp only[go_sem,zab hy8,zad hy8,zac eNode hy8]
   refine zaa (v:= .d (.int .i64 x0)) (fun hb22=>by simp only[go_sem,zab hy8,zad hy8,zac eNode hy8,hc5,hc11,hb22]) ?_
   try simp only[go_sem,zab hy8,zad hy8,zac eNode hy8]
   refine zaa (v:= .d (.int .i64 (IntKind.wrap .i64 (x0+1)))) (fun hb21=>by simp only[go_sem,zab hy8,zad hy8,zac eNode hy8,hc5,hc11,hb21]) ?_
   try simp only[go_sem,zab hy8,zad hy8,zac eNode hy8]
   refine zay (fun hc15=> ?_) (fun hc16=> ?_)
   ·rw[if_pos hc15]at h
    try simp only[go_sem,zab hy8,zad hy8,zac eNode hy8,hc15]
    obtain⟨y17,hy18,h⟩:=bs h
    try simp only[go_sem,zab hy8,zad hy8,zac eNode hy8,zab hy18,zad hy18,zac D.bool hy18]
    refine zav (fun hc19=> ?_) (fun hc20=> ?_)
    ·rw[if_pos (show(!y17)=true by(rw[hc19];rfl))]at h
     try simp only[go_sem,zab hy8,zad hy8,zac eNode hy8,zab hy18,zad hy18,zac D.bool hy18]
     cases h
     exact⟨rfl,by simp,Up.of (N:=14) (N':=43) [] rfl rfl (by decide) (.set (.d _) (.set (.d _) zal.none)) zan.at⟩
    rw[if_neg (ffn hc20)]at h
    try simp only[go_sem,zab hy8,zad hy8,zac eNode hy8,zab hy18,zad hy18,zac D.bool hy18]
    cases h
    exact⟨rfl,Up.of (N:=14) (N':=41) [] rfl rfl (by decide) (.set (.d _) (.set (.d _) (.set (.d _) (.set (.d _) (.set (.ptr' rfl) zal.none))))) (.set zar.refl_d zan.at)⟩
   rw[if_neg (ff hc16)]at h
   try simp only[go_sem,zab hy8,zad hy8,zac eNode hy8,hc16]
   cases h
   exact⟨rfl,by simp,Up.of (N:=14) (N':=43) [] rfl rfl (by decide) (.set (.d _) (.set (.d _) zal.none)) zan.at⟩
  rw[if_neg (ff hc12)]at h
  try simp only[go_sem,zab hy8,zad hy8,zac eNode hy8,hc12]
  cases h
  exact⟨rfl,by simp,Up.of (N:=14) (N':=43) [] rfl rfl (by decide) (.set (.d _) (.set (.d _) zal.none)) zan.at⟩
 rw[if_neg (ff hc6)]at h
 try simp only[go_sem]
 cases h
 exact⟨rfl,by simp,Up.of (N:=14) (N':=15) [] rfl rfl (by decide) zal.none zan.at⟩
noncomputable def zLK (a0:Forest):Option (Int×Int):=
 if(decide (4096<(a0.nodes.l.length:Int)))=true then
  some (5,0)
 else
  (dec (eSl D.bool) (pc prog 191 [eForest a0])).bind fun r3=>
  (zaQ (zdq a0 r3) 0).bind fun r27=>
  match r27 with
  |(.inl q29)=>
   some (0,0)
  |(.inr q30)=>
   some (5,q30)
theorem zLL (a0:Forest) (r:Int×Int) (h:zLK a0=some r):pc prog 157 [eForest a0]=some ((eT2 (D.int .i64) (D.int .i64)) r):=by
 unfold zLK at h
 refine zaV (fn:=zKl) rfl rfl ?_
 delta zKl
 try simp only[go_sem]
 refine zaf (fun hc1=> ?_) (fun hc2=> ?_)
 ·rw[if_pos hc1]at h
  try simp only[go_sem]
  cases h
  rfl
 rw[if_neg (ff hc2)]at h
 try simp only[go_sem]
 obtain⟨r3,hr4,h⟩:=bs h
 replace hr4:=zag hr4
 refine zaj hr4 ?_
 try simp only[go_sem]
 obtain⟨r27,hl28,h⟩:=bs h
 refine Wp.loopR zbc (n:=(0,[])) (a:=zrn) rfl (zfz a0 r3) (ziX a0 r3) (zxM a0 r3) hl28 ?_ (by(repeat(first|refine Clo.block ?_|refine Clo.seq zbc rfl ?_));(exact Clo.ret)) ?_
 ·show Up (0,[]) (zfz a0 r3 0) _
  delta zfz
  exact Up.of (N:=14) (N':=14) [] rfl rfl (by decide) (.set (.d _) (.set (.d _) (.set (.d _) (.set (.d _) (.set (.ptr' rfl) zal.none))))) (.set zar.refl_d zan.at)
 rcases r27 with(q29|q30)
 ·dsimp only at h
  dsimp only[ziX]
  try simp only[go_sem]
  cases h
  rfl
 dsimp only at h
 dsimp only[ziX]
 try simp only[go_sem]
 cases h
 rfl
noncomputable def zLM (a0:Node):Option (Bool):=
 (dec D.bool (pc prog 202 [.int .u8 a0.kind])).bind fun r1=>
 (if(!(bif (bif (bif (!r1)then true else(decide (1024<(a0.public_.length:Int))))then true else(decide (1024<(a0.system.length:Int))))then true else(decide (16384<(a0.data.l.length:Int)))))=true then
  (dec D.bool (pc prog 203 [.list a0.attrs.n (a0.attrs.l.map zaN)])).bind fun r5=>
  some (!r5)
 else
  some true:Option ((Bool))).bind fun r7=>
 if r7=true then
  some false
 else
  (if(a0.kind==1)=true then
   (dec D.bool (pc prog 204 [zbN a0.name])).bind fun r13=>
   if(!r13)=true then
    some (.inr ())
   else
    some (.inl ())
  else
   (if(bif (a0.kind==10)then true else(a0.kind==7))=true then
    if(bif (bif (!(decide (a0.name=(⟨[],[],a0.name.local_⟩:Name))))then true else(a0.name.local_==[]))then true else(decide (1024<(a0.name.local_.length:Int))))=true then
     some (.inr ())
    else
     some (.inl ())
   else
    if(!(decide (a0.name=(⟨[],[],[]⟩:Name))))=true then
     some (.inr ())
    else
     some (.inl ()):Option ((Unit)⊕(Unit))).bind fun r32=>
   match r32 with
   |(.inl q34)=>
    some (.inl ())
   |(.inr q35)=>
    some (.inr ()):Option ((Unit)⊕(Unit))).bind fun r38=>
  match r38 with
  |(.inl q40)=>
   (if(!(a0.kind==10))=true then
    if(!(bif (!(a0.public_==[]))then true else(!(a0.system==[]))))=true then
     (dec D.bool (pc prog 115 [.int .u8 a0.kind])).bind fun r45=>
     if(!(bif (!r45)then(decide (0<(a0.data.l.length:Int)))else false))=true then
      (dec D.bool (pc prog 73 [.int .u8 a0.kind])).bind fun r49=>
      some (bif (!r49)then(decide (0<(a0.kids.l.length:Int)))else false)
     else
      some true
    else
     some true
   else
    (dec D.bool (pc prog 115 [.int .u8 a0.kind])).bind fun r61=>
    if(!(bif (!r61)then(decide (0<(a0.data.l.length:Int)))else false))=true then
     (dec D.bool (pc prog 73 [.int .u8 a0.kind])).bind fun r65=>
     some (bif (!r65)then(decide (0<(a0.kids.l.length:Int)))else false)
    else
     some true:Option ((Bool))).bind fun r76=>
   if r76=true then
    some false
   else
    (if(!(a0.kind==1))=true then
     if(!(bif (decide (0<(a0.attrs.l.length:Int)))then true else(!(a0.shadow==0))))=true then
      some (bif (!(a0.kind==9))then a0.hTML else false)
     else
      some true
    else
     some (bif (!(a0.kind==9))then a0.hTML else false):Option ((Bool))).bind fun r95=>
    if r95=true then
     some false
    else
     (if(a0.kind==12)=true then
      if(bif (!(a0.mode==1))then(!(a0.mode==2))else false)=true then
       some (.inr ())
      else
       some (.inl ())
     else
      if(bif (bif (!(a0.mode==0))then true else a0.manual)then true else(!(a0.host==0)))=true then
       some (.inr ())
      else
       some (.inl ()):Option ((Unit)⊕(Unit))).bind fun r113=>
     match r113 with
     |(.inl q115)=>
      if(!(a0.parent==0))=true then
       some (bif (bif (!(a0.kind==9))then(!(a0.kind==11))else false)then(!(a0.kind==12))else false)
      else
       some true
     |(.inr q129)=>
      some false
  |(.inr q157)=>
   some false
theorem zLN (a0:Node) (r:Bool) (h:zLM a0=some r):pc prog 162 [eNode a0]=some (D.bool r):=by
 unfold zLM at h
 refine zaV (fn:=zKm) rfl rfl ?_
 delta zKm
 try simp only[go_sem]
 obtain⟨r1,hr2,h⟩:=bs h
 replace hr2:=zag hr2
 refine zaj hr2 ?_
 try simp only[go_sem]
 refine zaa (v:= .ptr 0 0 4) (fun hb171=>by simp only[go_sem,hb171]) ?_
 try simp only[go_sem]
 refine zaa (v:= .d (.str a0.public_)) (fun hb170=>by simp only[go_sem,hb170]) ?_
 try simp only[go_sem]
 refine zaa (v:= .d (.int .i64 (a0.public_.length:Int))) (fun hb169=>by simp only[go_sem,hb169]) ?_
 try simp only[go_sem]
 refine zaa (v:= .d (.bool (decide (1024<(a0.public_.length:Int))))) (fun hb168=>by simp only[go_sem,hb168]) ?_
 try simp only[go_sem]
 refine zaa (v:= .ptr 0 0 5) (fun hb167=>by simp only[go_sem,hb167]) ?_
 try simp only[go_sem]
 refine zaa (v:= .d (.str a0.system)) (fun hb166=>by simp only[go_sem,hb166]) ?_
 try simp only[go_sem]
 refine zaa (v:= .d (.int .i64 (a0.system.length:Int))) (fun hb165=>by simp only[go_sem,hb165]) ?_
 try simp only[go_sem]
 refine zaa (v:= .d (.bool (decide (1024<(a0.system.length:Int))))) (fun hb164=>by simp only[go_sem,hb164]) ?_
 try simp only[go_sem]
 refine zaa (v:= .ptr 0 0 6) (fun hb163=>by simp only[go_sem,hb163]) ?_
 try simp only[go_sem]
 refine zaa (v:= .d (.list a0.data.n (a0.data.l.map (D.int .u16)))) (fun hb162=>by simp only[go_sem,hb162]) ?_
 try simp only[go_sem]
 refine zaa (v:= .d (.int .i64 (a0.data.l.length:Int))) (fun hb161=>by simp only[go_sem,hb161]) ?_
 try simp only[go_sem]
 refine zaa (v:= .d (.bool (decide (16384<(a0.data.l.length:Int))))) (fun hb160=>by simp only[go_sem,hb160]) ?_
 try simp only[go_sem]
 refine zaa (v:= .ptr 0 0 7) (fun hb159=>by simp only[go_sem,hb159]) ?_
 try simp only[go_sem]
 refine zaa (v:= .d (.list a0.attrs.n (a0.attrs.l.map zaN))) (fun hb158=>by simp only[go_sem,hb158]) ?_
 try simp only[go_sem]
 obtain⟨r7,hl8,h⟩:=bs h
 refine zbH.cut (n:=(0,[])) .normal ⟨(((Regs.none.set 1 (.ptr 0 0 0)).set 3 (.d (.int .u8 a0.kind))).set 32 (.d (.bool r7))),((Heap.at 32).set 0 (some (.els 16 [.d (eNode a0)] 0)))⟩ ?_ (by(repeat(refine Clo.seq zbc rfl ?_));(exact Clo.ret)) ?_
 ·replace h:=hl8
  refine zau (fun hc3=> ?_) (fun hc4=> ?_)
  ·rw[if_pos (show(!(bif (bif (bif (!r1)then true else(decide (1024<(a0.public_.length:Int))))then true else(decide (1024<(a0.system.length:Int))))then true else(decide (16384<(a0.data.l.length:Int)))))=true by(rw[hc3];rfl))]at h
   try simp only[go_sem,hc3]
   obtain⟨r5,hr6,h⟩:=bs h
   replace hr6:=zag hr6
   refine zaj hr6 ?_
   try simp only[go_sem]
   cases h
   exact⟨rfl,Up.of (N:=32) (N':=32) [] rfl rfl (by decide) (.set (.d _) (.set (.d _) (.set (.ptr' rfl) zal.none))) (.set zar.refl_d zan.at)⟩
  rw[if_neg (ffn hc4)]at h
  try simp only[go_sem,hc4]
  cases h
  exact⟨rfl,Up.of (N:=32) (N':=32) [] rfl rfl (by decide) (.set (.d _) (.set (.d _) (.set (.ptr' rfl) zal.none))) (.set zar.refl_d zan.at)⟩
 try simp only[go_sem]
 refine zaf (fun hc9=> ?_) (fun hc10=> ?_)
 ·rw[if_pos hc9]at h
  try simp only[go_sem]
  cases h
  rfl
 rw[if_neg (ff hc10)]at h
 try simp only[go_sem]
 obtain⟨r38,hl39,h⟩:=bs h
 refine WBr.cut (n:=(0,[])) ((fun r=>match r with|(.inl r)=>(.normal,⟨((Regs.none.set 1 (.ptr 0 0 0)).set 3 (.d (.int .u8 a0.kind))),((Heap.at 35).set 0 (some (.els 16 [.d (eNode a0)] 0)))⟩)|(.inr r)=>(.ret,⟨(Regs.none.set 2 (.d (.bool false))),(Heap.at 35)⟩):((Unit)⊕(Unit))→Ex×St) r38).1 ((fun r=>match r with|(.inl r)=>(.normal,⟨((Regs.none.set 1 (.ptr 0 0 0)).set 3 (.d (.int .u8 a0.kind))),((Heap.at 35).set 0 (some (.els 16 [.d (eNode a0)] 0)))⟩)|(.inr r)=>(.ret,⟨(Regs.none.set 2 (.d (.bool false))),(Heap.at 35)⟩):((Unit)⊕(Unit))→Ex×St) r38).2 ?_ (by(repeat(first|refine Clo.block ?_|refine Clo.seq zbc rfl ?_));(exact Clo.ret)) ?_
 ·replace h:=hl39
  refine zaf (fun hc11=> ?_) (fun hc12=> ?_)
  ·rw[if_pos hc11]at h
   try simp only[go_sem]
   obtain⟨r13,hr14,h⟩:=bs h
   replace hr14:=zag hr14
   refine zaj hr14 ?_
   try simp only[go_sem]
   refine zav (fun hc15=> ?_) (fun hc16=> ?_)
   ·rw[if_pos (show(!r13)=true by(rw[hc15];rfl))]at h
    try simp only[go_sem]
    cases h
    exact⟨rfl,Up.of (N:=35) (N':=40) [] rfl rfl (by decide) (.set (.d _) zal.none) zan.at⟩
   rw[if_neg (ffn hc16)]at h
   try simp only[go_sem]
   cases h
   exact⟨rfl,Up.of (N:=35) (N':=39) [] rfl rfl (by decide) (.set (.d _) (.set (.ptr' rfl) zal.none)) (.set zar.refl_d zan.at)⟩
  rw[if_neg (ff hc12)]at h
  try simp only[go_sem]
  refine zaa (v:= .d (.int .u8 a0.kind)) (fun hb37=>by simp only[go_sem,hc10,hc12,hb37]) ?_
  try simp only[go_sem]
  refine zaa (v:= .d (.bool (a0.kind==7))) (fun hb36=>by simp only[go_sem,hc10,hc12,hb36]) ?_
  try simp only[go_sem]
  obtain⟨r32,hl33,h⟩:=bs h
  refine WBr.cut (n:=(0,[])) ((fun r=>match r with|(.inl r)=>(.normal,⟨((Regs.none.set 1 (.ptr 0 0 0)).set 3 (.d (.int .u8 a0.kind))),((Heap.at 42).set 0 (some (.els 16 [.d (eNode a0)] 0)))⟩)|(.inr r)=>(.ret,⟨(Regs.none.set 2 (.d (.bool false))),(Heap.at 42)⟩):((Unit)⊕(Unit))→Ex×St) r32).1 ((fun r=>match r with|(.inl r)=>(.normal,⟨((Regs.none.set 1 (.ptr 0 0 0)).set 3 (.d (.int .u8 a0.kind))),((Heap.at 42).set 0 (some (.els 16 [.d (eNode a0)] 0)))⟩)|(.inr r)=>(.ret,⟨(Regs.none.set 2 (.d (.bool false))),(Heap.at 42)⟩):((Unit)⊕(Unit))→Ex×St) r32).2 ?_ (by(repeat(first|refine Clo.block ?_|refine Clo.seq zbc rfl ?_));(exact Clo.cpost (by decide))) ?_
  ·replace h:=hl33
   refine zaf (fun hc17=> ?_) (fun hc18=> ?_)
   ·rw[if_pos hc17]at h
    try simp only[go_sem]
    refine zaa (v:= .ptr 0 0 1) (fun hb29=>by simp only[go_sem,hc10,hc12,hc17,hb29]) ?_
    try simp only[go_sem]
    refine zaa (v:= .ptr 0 0 3) (fun hb28=>by simp only[go_sem,hc10,hc12,hc17,hb28]) ?_
    try simp only[go_sem]
    refine zaa (v:= .d (.str a0.name.local_)) (fun hb27=>by simp only[go_sem,hc10,hc12,hc17,hb27]) ?_
    try simp only[go_sem]
    refine zaa (v:= .d (.bool (a0.name.local_==[]))) (fun hb26=>by simp only[go_sem,hc10,hc12,hc17,hb26]) ?_
    try simp only[go_sem]
    refine zaa (v:= .ptr 0 0 1) (fun hb25=>by simp only[go_sem,hc10,hc12,hc17,hb25]) ?_
    try simp only[go_sem]
    refine zaa (v:= .ptr 0 0 3) (fun hb24=>by simp only[go_sem,hc10,hc12,hc17,hb24]) ?_
    try simp only[go_sem]
    refine zaa (v:= .d (.str a0.name.local_)) (fun hb23=>by simp only[go_sem,hc10,hc12,hc17,hb23]) ?_
    try simp only[go_sem]
    refine zaa (v:= .d (.int .i64 (a0.name.local_.length:Int))) (fun hb22=>by simp only[go_sem,hc10,hc12,hc17,hb22]) ?_
    try simp only[go_sem]
    refine zaa (v:= .d (.bool (decide (1024<(a0.name.local_.length:Int))))) (fun hb21=>by simp only[go_sem,hc10,hc12,hc17,hb21]) ?_
    try simp only[go_sem]
    refine zaf (fun hc19=> ?_) (fun hc20=> ?_)
    ·rw[if_pos hc19]at h
     try simp only[go_sem]
     cases h
     exact⟨rfl,Up.of (N:=42) (N':=63) [] rfl rfl (by decide) (.set (.d _) zal.none) zan.at⟩
    rw[if_neg (ff hc20)]at h
    try simp only[go_sem]
    cases h
    exact⟨rfl,Up.of (N:=42) (N':=62) [] rfl rfl (by decide) (.set (.d _) (.set (.ptr' rfl) zal.none)) (.set zar.refl_d zan.at)⟩
   rw[if_neg (ff hc18)]at h
   try simp only[go_sem]
   refine zav (fun hc30=> ?_) (fun hc31=> ?_)
   ·rw[if_pos (show(!(decide (a0.name=(⟨[],[],[]⟩:Name))))=true by(rw[hc30];rfl))]at h
    try simp only[go_sem]
    cases h
    exact⟨rfl,Up.of (N:=42) (N':=48) [] rfl rfl (by decide) (.set (.d _) zal.none) zan.at⟩
   rw[if_neg (ffn hc31)]at h
   try simp only[go_sem]
   cases h
   exact⟨rfl,Up.of (N:=42) (N':=47) [] rfl rfl (by decide) (.set (.d _) (.set (.ptr' rfl) zal.none)) (.set zar.refl_d zan.at)⟩
  rcases r32 with(q34|q35)
  ·dsimp only at h⊢
   cases h
   exact⟨rfl,Up.of (N:=35) (N':=42) [] rfl rfl (by decide) (.set (.d _) (.set (.ptr' rfl) zal.none)) (.set zar.refl_d zan.at)⟩
  dsimp only at h⊢
  cases h
  exact⟨rfl,Up.of (N:=35) (N':=42) [] rfl rfl (by decide) (.set (.d _) zal.none) zan.at⟩
 rcases r38 with(q40|q157)
 ·dsimp only at h⊢
  try simp only[go_sem]
  refine zaa (v:= .ptr 0 0 4) (fun hb156=>by simp only[go_sem,hc10,hb156]) ?_
  try simp only[go_sem]
  refine zaa (v:= .d (.str a0.public_)) (fun hb155=>by simp only[go_sem,hc10,hb155]) ?_
  try simp only[go_sem]
  refine zaa (v:= .d (.bool (!(a0.public_==[])))) (fun hb154=>by simp only[go_sem,hc10,hb154]) ?_
  try simp only[go_sem]
  refine zaa (v:= .d (.bool (!(a0.public_==[])))) (fun hb153=>by simp only[go_sem,hc10,hb153]) ?_
  try simp only[go_sem]
  refine zaa (v:= .ptr 0 0 5) (fun hb150=>by((obtain⟨hb151,hb152⟩:=zaq hb150));simp only[go_sem,hc10,hb152,hb151]) ?_
  try simp only[go_sem]
  refine zaa (v:= .d (.str a0.system)) (fun hb147=>by((obtain⟨hb148,hb149⟩:=zaq hb147));simp only[go_sem,hc10,hb149,hb148]) ?_
  try simp only[go_sem]
  refine zaa (v:= .d (.bool (!(a0.system==[])))) (fun hb144=>by((obtain⟨hb145,hb146⟩:=zaq hb144));simp only[go_sem,hc10,hb146,hb145]) ?_
  try simp only[go_sem]
  obtain⟨r76,hl77,h⟩:=bs h
  refine zbH.cut (n:=(0,[])) .normal ⟨(((Regs.none.set 1 (.ptr 0 0 0)).set 3 (.d (.int .u8 a0.kind))).set 105 (.d (.bool r76))),((Heap.at 69).set 0 (some (.els 16 [.d (eNode a0)] 0)))⟩ ?_ (by(repeat(refine Clo.seq zbc rfl ?_));(exact Clo.ret)) ?_
  ·replace h:=hl77
   refine zau (fun hc41=> ?_) (fun hc42=> ?_)
   ·rw[if_pos (show(!(a0.kind==10))=true by(rw[hc41];rfl))]at h
    try simp only[go_sem,hc41]
    refine zaa (v:= .d (.int .u8 a0.kind)) (fun hb60=>by simp only[go_sem,hc10,hc41,hb60]) ?_
    try simp only[go_sem]
    refine zau (fun hc43=> ?_) (fun hc44=> ?_)
    ·rw[if_pos (show(!(bif (!(a0.public_==[]))then true else(!(a0.system==[]))))=true by(rw[hc43];rfl))]at h
     try simp only[go_sem,hc43]
     obtain⟨r45,hr46,h⟩:=bs h
     replace hr46:=zag hr46
     refine zaj hr46 ?_
     try simp only[go_sem]
     refine zaa (v:= .ptr 0 0 6) (fun hb59=>by simp only[go_sem,hc10,hc41,hc43,hb59]) ?_
     try simp only[go_sem]
     refine zaa (v:= .d (.list a0.data.n (a0.data.l.map (D.int .u16)))) (fun hb58=>by simp only[go_sem,hc10,hc41,hc43,hb58]) ?_
     try simp only[go_sem]
     refine zaa (v:= .d (.int .i64 (a0.data.l.length:Int))) (fun hb57=>by simp only[go_sem,hc10,hc41,hc43,hb57]) ?_
     try simp only[go_sem]
     refine zaa (v:= .d (.bool (decide (0<(a0.data.l.length:Int))))) (fun hb56=>by simp only[go_sem,hc10,hc41,hc43,hb56]) ?_
     try simp only[go_sem]
     refine zaa (v:= .d (.int .u8 a0.kind)) (fun hb55=>by simp only[go_sem,hc10,hc41,hc43,hb55]) ?_
     try simp only[go_sem]
     refine zau (fun hc47=> ?_) (fun hc48=> ?_)
     ·rw[if_pos (show(!(bif (!r45)then(decide (0<(a0.data.l.length:Int)))else false))=true by(rw[hc47];rfl))]at h
      try simp only[go_sem,hc47]
      obtain⟨r49,hr50,h⟩:=bs h
      replace hr50:=zag hr50
      refine zaj hr50 ?_
      try simp only[go_sem]
      refine zaa (v:= .ptr 0 0 9) (fun hb54=>by simp only[go_sem,hc10,hc41,hc43,hc47,hb54]) ?_
      try simp only[go_sem]
      refine zaa (v:= .d (.list a0.kids.n (a0.kids.l.map (D.int .i64)))) (fun hb53=>by simp only[go_sem,hc10,hc41,hc43,hc47,hb53]) ?_
      try simp only[go_sem]
      refine zaa (v:= .d (.int .i64 (a0.kids.l.length:Int))) (fun hb52=>by simp only[go_sem,hc10,hc41,hc43,hc47,hb52]) ?_
      try simp only[go_sem]
      refine zaa (v:= .d (.bool (decide (0<(a0.kids.l.length:Int))))) (fun hb51=>by simp only[go_sem,hc10,hc41,hc43,hc47,hb51]) ?_
      try simp only[go_sem]
      cases h
      exact⟨rfl,Up.of (N:=69) (N':=69) [] rfl rfl (by decide) (.set (.d _) (.set (.d _) (.set (.ptr' rfl) zal.none))) (.set zar.refl_d zan.at)⟩
     rw[if_neg (ffn hc48)]at h
     try simp only[go_sem,hc48]
     cases h
     exact⟨rfl,Up.of (N:=69) (N':=69) [] rfl rfl (by decide) (.set (.d _) (.set (.d _) (.set (.ptr' rfl) zal.none))) (.set zar.refl_d zan.at)⟩
    rw[if_neg (ffn hc44)]at h
    try simp only[go_sem,hc44]
    cases h
    exact⟨rfl,Up.of (N:=69) (N':=69) [] rfl rfl (by decide) (.set (.d _) (.set (.d _) (.set (.ptr' rfl) zal.none))) (.set zar.refl_d zan.at)⟩
   rw[if_neg (ffn hc42)]at h
   try simp only[go_sem,hc42]
   obtain⟨r61,hr62,h⟩:=bs h
   replace hr62:=zag hr62
   refine zaj hr62 ?_
   try simp only[go_sem]
   refine zaa (v:= .ptr 0 0 6) (fun hb75=>by simp only[go_sem,hc10,hc42,hb75]) ?_
   try simp only[go_sem]
   refine zaa (v:= .d (.list a0.data.n (a0.data.l.map (D.int .u16)))) (fun hb74=>by simp only[go_sem,hc10,hc42,hb74]) ?_
   try simp only[go_sem]
   refine zaa (v:= .d (.int .i64 (a0.data.l.length:Int))) (fun hb73=>by simp only[go_sem,hc10,hc42,hb73]) ?_
   try simp only[go_sem]
   refine zaa (v:= .d (.bool (decide (0<(a0.data.l.length:Int))))) (fun hb72=>by simp only[go_sem,hc10,hc42,hb72]) ?_
   try simp only[go_sem]
   refine zaa (v:= .d (.int .u8 a0.kind)) (fun hb71=>by simp only[go_sem,hc10,hc42,hb71]) ?_
   try simp only[go_sem]
   refine zau (fun hc63=> ?_) (fun hc64=> ?_)
   ·rw[if_pos (show(!(bif (!r61)then(decide (0<(a0.data.l.length:Int)))else false))=true by(rw[hc63];rfl))]at h
    try simp only[go_sem,hc63]
    obtain⟨r65,hr66,h⟩:=bs h
    replace hr66:=zag hr66
    refine zaj hr66 ?_
    try simp only[go_sem]
    refine zaa (v:= .ptr 0 0 9) (fun hb70=>by simp only[go_sem,hc10,hc42,hc63,hb70]) ?_
    try simp only[go_sem]
    refine zaa (v:= .d (.list a0.kids.n (a0.kids.l.map (D.int .i64)))) (fun hb69=>by simp only[go_sem,hc10,hc42,hc63,hb69]) ?_
    try simp only[go_sem]
    refine zaa (v:= .d (.int .i64 (a0.kids.l.length:Int))) (fun hb68=>by simp only[go_sem,hc10,hc42,hc63,hb68]) ?_
    try simp only[go_sem]
    refine zaa (v:= .d (.bool (decide (0<(a0.kids.l.length:Int))))) (fun hb67=>by simp only[go_sem,hc10,hc42,hc63,hb67]) ?_
    try simp only[go_sem]
    cases h
    exact⟨rfl,Up.of (N:=69) (N':=69) [] rfl rfl (by decide) (.set (.d _) (.set (.d _) (.set (.ptr' rfl) zal.none))) (.set zar.refl_d zan.at)⟩
   rw[if_neg (ffn hc64)]at h
   try simp only[go_sem,hc64]
   cases h
   exact⟨rfl,Up.of (N:=69) (N':=69) [] rfl rfl (by decide) (.set (.d _) (.set (.d _) (.set (.ptr' rfl) zal.none))) (.set zar.refl_d zan.at)⟩
  try simp only[go_sem]
  refine zaf (fun hc78=> ?_) (fun hc79=> ?_)
  ·rw[if_pos hc78]at h
   try simp only[go_sem]
   cases h
   rfl
  rw[if_neg (ff hc79)]at h
  try simp only[go_sem]
  refine zaa (v:= .ptr 0 0 7) (fun hb143=>by simp only[go_sem,hc10,hc79,hb143]) ?_
  try simp only[go_sem]
  refine zaa (v:= .d (.list a0.attrs.n (a0.attrs.l.map zaN))) (fun hb142=>by simp only[go_sem,hc10,hc79,hb142]) ?_
  try simp only[go_sem]
  refine zaa (v:= .d (.int .i64 (a0.attrs.l.length:Int))) (fun hb141=>by simp only[go_sem,hc10,hc79,hb141]) ?_
  try simp only[go_sem]
  refine zaa (v:= .d (.bool (decide (0<(a0.attrs.l.length:Int))))) (fun hb140=>by simp only[go_sem,hc10,hc79,hb140]) ?_
  try simp only[go_sem]
  refine zaa (v:= .d (.bool (decide (0<(a0.attrs.l.length:Int))))) (fun hb139=>by simp only[go_sem,hc10,hc79,hb139]) ?_
  try simp only[go_sem]
  refine zaa (v:= .ptr 0 0 12) (fun hb136=>by((obtain⟨hb137,hb138⟩:=zaq hb136));simp only[go_sem,hc10,hc79,hb138,hb137]) ?_
  try simp only[go_sem]
  refine zaa (v:= .d (.int .i64 a0.shadow)) (fun hb133=>by((obtain⟨hb134,hb135⟩:=zaq hb133));simp only[go_sem,hc10,hc79,hb135,hb134]) ?_
  try simp only[go_sem]
  refine zaa (v:= .d (.bool (!(a0.shadow==0)))) (fun hb130=>by((obtain⟨hb131,hb132⟩:=zaq hb130));simp only[go_sem,hc10,hc79,hb132,hb131]) ?_
  try simp only[go_sem]
  obtain⟨r95,hl96,h⟩:=bs h
  refine zbH.cut (n:=(0,[])) .normal ⟨(((Regs.none.set 1 (.ptr 0 0 0)).set 3 (.d (.int .u8 a0.kind))).set 126 (.d (.bool r95))),((Heap.at 90).set 0 (some (.els 16 [.d (eNode a0)] 0)))⟩ ?_ (by(repeat(refine Clo.seq zbc rfl ?_));(exact Clo.ret)) ?_
  ·replace h:=hl96
   refine zau (fun hc80=> ?_) (fun hc81=> ?_)
   ·rw[if_pos (show(!(a0.kind==1))=true by(rw[hc80];rfl))]at h
    try simp only[go_sem,hc80]
    refine zaa (v:= .d (.int .u8 a0.kind)) (fun hb92=>by simp only[go_sem,hc10,hc79,hc80,hb92]) ?_
    try simp only[go_sem]
    refine zaa (v:= .d (.bool (!(a0.kind==9)))) (fun hb91=>by simp only[go_sem,hc10,hc79,hc80,hb91]) ?_
    try simp only[go_sem]
    refine zaa (v:= .d (.bool (!(a0.kind==9)))) (fun hb90=>by simp only[go_sem,hc10,hc79,hc80,hb90]) ?_
    try simp only[go_sem]
    refine zaa (v:= .ptr 0 0 15) (fun hb87=>by((obtain⟨hb88,hb89⟩:=zaq hb87));simp only[go_sem,hc10,hc79,hc80,hb89,hb88]) ?_
    try simp only[go_sem]
    refine zaa (v:= .d (.bool a0.hTML)) (fun hb84=>by((obtain⟨hb85,hb86⟩:=zaq hb84));simp only[go_sem,hc10,hc79,hc80,hb86,hb85]) ?_
    try simp only[go_sem]
    refine zau (fun hc82=> ?_) (fun hc83=> ?_)
    ·rw[if_pos (show(!(bif (decide (0<(a0.attrs.l.length:Int)))then true else(!(a0.shadow==0))))=true by(rw[hc82];rfl))]at h
     try simp only[go_sem,hc82]
     cases h
     exact⟨rfl,Up.of (N:=90) (N':=90) [] rfl rfl (by decide) (.set (.d _) (.set (.d _) (.set (.ptr' rfl) zal.none))) (.set zar.refl_d zan.at)⟩
    rw[if_neg (ffn hc83)]at h
    try simp only[go_sem,hc83]
    cases h
    exact⟨rfl,Up.of (N:=90) (N':=90) [] rfl rfl (by decide) (.set (.d _) (.set (.d _) (.set (.ptr' rfl) zal.none))) (.set zar.refl_d zan.at)⟩
   rw[if_neg (ffn hc81)]at h
   try simp only[go_sem,hc81]
   refine zaa (v:= .ptr 0 0 15) (fun hb94=>by simp only[go_sem,hc10,hc79,hc81,hb94]) ?_
   try simp only[go_sem]
   refine zaa (v:= .d (.bool a0.hTML)) (fun hb93=>by simp only[go_sem,hc10,hc79,hc81,hb93]) ?_
   try simp only[go_sem]
   cases h
   exact⟨rfl,Up.of (N:=90) (N':=90) [] rfl rfl (by decide) (.set (.d _) (.set (.d _) (.set (.ptr' rfl) zal.none))) (.set zar.refl_d zan.at)⟩
  try simp only[go_sem]
  refine zaf (fun hc97=> ?_) (fun hc98=> ?_)
  ·rw[if_pos hc97]at h
   try simp only[go_sem]
   cases h
   rfl
  rw[if_neg (ff hc98)]at h
  try simp only[go_sem]
  obtain⟨r113,hl114,h⟩:=bs h
  refine WBr.cut (n:=(0,[])) ((fun r=>match r with|(.inl r)=>(.normal,⟨((Regs.none.set 1 (.ptr 0 0 0)).set 3 (.d (.int .u8 a0.kind))),((Heap.at 92).set 0 (some (.els 16 [.d (eNode a0)] 0)))⟩)|(.inr r)=>(.ret,⟨(Regs.none.set 2 (.d (.bool false))),(Heap.at 92)⟩):((Unit)⊕(Unit))→Ex×St) r113).1 ((fun r=>match r with|(.inl r)=>(.normal,⟨((Regs.none.set 1 (.ptr 0 0 0)).set 3 (.d (.int .u8 a0.kind))),((Heap.at 92).set 0 (some (.els 16 [.d (eNode a0)] 0)))⟩)|(.inr r)=>(.ret,⟨(Regs.none.set 2 (.d (.bool false))),(Heap.at 92)⟩):((Unit)⊕(Unit))→Ex×St) r113).2 ?_ (by(repeat(refine Clo.seq zbc rfl ?_));(exact Clo.ret)) ?_
  ·replace h:=hl114
   refine zaf (fun hc99=> ?_) (fun hc100=> ?_)
   ·rw[if_pos hc99]at h
    try simp only[go_sem]
    refine zaa (v:= .ptr 0 0 13) (fun hb105=>by simp only[go_sem,hc10,hc79,hc98,hc99,hb105]) ?_
    try simp only[go_sem]
    refine zaa (v:= .d (.int .u8 a0.mode)) (fun hb104=>by simp only[go_sem,hc10,hc79,hc98,hc99,hb104]) ?_
    try simp only[go_sem]
    refine zaa (v:= .d (.bool (!(a0.mode==2)))) (fun hb103=>by simp only[go_sem,hc10,hc79,hc98,hc99,hb103]) ?_
    try simp only[go_sem]
    refine zaf (fun hc101=> ?_) (fun hc102=> ?_)
    ·rw[if_pos hc101]at h
     try simp only[go_sem]
     cases h
     exact⟨rfl,Up.of (N:=92) (N':=101) [] rfl rfl (by decide) (.set (.d _) zal.none) zan.at⟩
    rw[if_neg (ff hc102)]at h
    try simp only[go_sem]
    cases h
    exact⟨rfl,Up.of (N:=92) (N':=100) [] rfl rfl (by decide) (.set (.d _) (.set (.ptr' rfl) zal.none)) (.set zar.refl_d zan.at)⟩
   rw[if_neg (ff hc100)]at h
   try simp only[go_sem]
   refine zaa (v:= .ptr 0 0 14) (fun hb112=>by simp only[go_sem,hc10,hc79,hc98,hc100,hb112]) ?_
   try simp only[go_sem]
   refine zaa (v:= .d (.bool a0.manual)) (fun hb111=>by simp only[go_sem,hc10,hc79,hc98,hc100,hb111]) ?_
   try simp only[go_sem]
   refine zaa (v:= .ptr 0 0 11) (fun hb110=>by simp only[go_sem,hc10,hc79,hc98,hc100,hb110]) ?_
   try simp only[go_sem]
   refine zaa (v:= .d (.int .i64 a0.host)) (fun hb109=>by simp only[go_sem,hc10,hc79,hc98,hc100,hb109]) ?_
   try simp only[go_sem]
   refine zaa (v:= .d (.bool (!(a0.host==0)))) (fun hb108=>by simp only[go_sem,hc10,hc79,hc98,hc100,hb108]) ?_
   try simp only[go_sem]
   refine zaf (fun hc106=> ?_) (fun hc107=> ?_)
   ·rw[if_pos hc106]at h
    try simp only[go_sem]
    cases h
    exact⟨rfl,Up.of (N:=92) (N':=105) [] rfl rfl (by decide) (.set (.d _) zal.none) zan.at⟩
   rw[if_neg (ff hc107)]at h
   try simp only[go_sem]
   cases h
   exact⟨rfl,Up.of (N:=92) (N':=104) [] rfl rfl (by decide) (.set (.d _) (.set (.ptr' rfl) zal.none)) (.set zar.refl_d zan.at)⟩
  rcases r113 with(q115|q129)
  ·dsimp only at h⊢
   try simp only[go_sem]
   refine zaa (v:= .d (.int .u8 a0.kind)) (fun hb128=>by simp only[go_sem,hc10,hc79,hc98,hb128]) ?_
   try simp only[go_sem]
   refine zaa (v:= .d (.bool (!(a0.kind==9)))) (fun hb127=>by simp only[go_sem,hc10,hc79,hc98,hb127]) ?_
   try simp only[go_sem]
   refine zaa (v:= .d (.bool (!(a0.kind==9)))) (fun hb126=>by simp only[go_sem,hc10,hc79,hc98,hb126]) ?_
   try simp only[go_sem]
   refine zaa (v:= .d (.int .u8 a0.kind)) (fun hb123=>by((obtain⟨hb124,hb125⟩:=zaq hb123));simp only[go_sem,hc10,hc79,hc98,hb125,hb124]) ?_
   try simp only[go_sem]
   refine zaa (v:= .d (.bool (!(a0.kind==11)))) (fun hb120=>by((obtain⟨hb121,hb122⟩:=zaq hb120));simp only[go_sem,hc10,hc79,hc98,hb122,hb121]) ?_
   try simp only[go_sem]
   refine zau (fun hc116=> ?_) (fun hc117=> ?_)
   ·rw[if_pos (show(!(a0.parent==0))=true by(rw[hc116];rfl))]at h
    try simp only[go_sem,hc116]
    refine zaa (v:= .d (.int .u8 a0.kind)) (fun hb119=>by simp only[go_sem,hc10,hc79,hc98,hc116,hb119]) ?_
    try simp only[go_sem]
    refine zaa (v:= .d (.bool (!(a0.kind==12)))) (fun hb118=>by simp only[go_sem,hc10,hc79,hc98,hc116,hb118]) ?_
    try simp only[go_sem]
    cases h
    rfl
   rw[if_neg (ffn hc117)]at h
   try simp only[go_sem,hc117]
   cases h
   rfl
  dsimp only at h⊢
  try simp only[go_sem]
  cases h
  rfl
 dsimp only at h⊢
 try simp only[go_sem]
 cases h
 rfl
def zfA (a0:Forest) (a1:Int) (y1:Node) (x0:Int):St:=⟨((((((Regs.none.set 1 (.d (.int .i64 a1))).set 2 (.ptr 0 0 0)).set 5 (.ptr 8 0 0)).set 23 (.d (.list y1.kids.n (y1.kids.l.map (D.int .i64))))).set 24 (.d (.int .i64 (y1.kids.l.length:Int)))).set 25 (.d (.int .i64 x0))),(((Heap.at 14).set 0 (some (.els 1 [.d (eForest a0)] 0))).set 8 (some (.els 16 [.d (eNode y1)] 0)))⟩
def ziY (a0:Forest) (a1:Int) (y1:Node):((Unit)⊕(Unit))→Ex×St:=fun r=>match r with
 |(.inl r)=>(.exit 0,⟨(((Regs.none.set 1 (.d (.int .i64 a1))).set 2 (.ptr 0 0 0)).set 5 (.ptr 8 0 0)),(((Heap.at 14).set 0 (some (.els 1 [.d (eForest a0)] 0))).set 8 (some (.els 16 [.d (eNode y1)] 0)))⟩)
 |(.inr r)=>(.ret,⟨(Regs.none.set 4 (.d (.bool false))),(Heap.at 14)⟩)
noncomputable def zdr (a0:Forest) (a1:Int) (y1:Node) (x0:Int):Option ((Int)⊕((Unit)⊕(Unit))):=
 if(decide (x0<(y1.kids.l.length:Int)))=true then
  (rd y1.kids.l x0).bind fun y5=>
  (dec (eT2 eNode D.bool) (pc prog 31 [eForest a0,.int .i64 y5])).bind fun r7=>
  if(!(bif (!r7.2)then true else(!(r7.1.parent==a1))))=true then
   (dec (D.int .i64) (pc prog 205 [.list y1.kids.n (y1.kids.l.map (D.int .i64)),.int .i64 y5])).bind fun r11=>
   if(bif (!(r11==1))then true else(!(r7.1.doc==y1.doc)))=true then
    some (.inr (.inr ()))
   else
    some (.inl (IntKind.wrap .i64 (x0+1)))
  else
   some (.inr (.inr ()))
 else
  some (.inr (.inl ()))
theorem zxN (a0:Forest) (a1:Int) (y1:Node) (x0:Int) (o:(Int)⊕((Unit)⊕(Unit))) (h:zdr a0 a1 y1 x0=some o):Wp prog zro (zfA a0 a1 y1 x0) (zbF (0,[]) (zfA a0 a1 y1) (ziY a0 a1 y1) o):=by
 unfold zdr at h
 delta zro zfA
 try simp only[go_sem]
 refine zaf (fun hc3=> ?_) (fun hc4=> ?_)
 ·rw[if_pos hc3]at h
  try simp only[go_sem]
  obtain⟨y5,hy6,h⟩:=bs h
  try simp only[go_sem,zab hy6,zad hy6,zac (D.int .i64) hy6]
  obtain⟨r7,hr8,h⟩:=bs h
  replace hr8:=zag hr8
  refine zaj hr8 ?_
  try simp only[go_sem,zab hy6,zad hy6,zac (D.int .i64) hy6]
  refine zaa (v:= .ptr 24 0 8) (fun hb26=>by simp only[go_sem,zab hy6,zad hy6,zac (D.int .i64) hy6,hc3,hb26]) ?_
  try simp only[go_sem,zab hy6,zad hy6,zac (D.int .i64) hy6]
  refine zaa (v:= .d (.int .i64 r7.1.parent)) (fun hb25=>by simp only[go_sem,zab hy6,zad hy6,zac (D.int .i64) hy6,hc3,hb25]) ?_
  try simp only[go_sem,zab hy6,zad hy6,zac (D.int .i64) hy6]
  refine zaa (v:= .d (.int .i64 a1)) (fun hb24=>by simp only[go_sem,zab hy6,zad hy6,zac (D.int .i64) hy6,hc3,hb24]) ?_
  try simp only[go_sem,zab hy6,zad hy6,zac (D.int .i64) hy6]
  refine zaa (v:= .d (.bool (!(r7.1.parent==a1)))) (fun hb23=>by simp only[go_sem,zab hy6,zad hy6,zac (D.int .i64) hy6,hc3,hb23]) ?_
  try simp only[go_sem,zab hy6,zad hy6,zac (D.int .i64) hy6]
  refine zaa (v:= .ptr 8 0 9) (fun hb22=>by simp only[go_sem,zab hy6,zad hy6,zac (D.int .i64) hy6,hc3,hb22]) ?_
  try simp only[go_sem,zab hy6,zad hy6,zac (D.int .i64) hy6]
  refine zaa (v:= .d (.list y1.kids.n (y1.kids.l.map (D.int .i64)))) (fun hb21=>by simp only[go_sem,zab hy6,zad hy6,zac (D.int .i64) hy6,hc3,hb21]) ?_
  try simp only[go_sem,zab hy6,zad hy6,zac (D.int .i64) hy6]
  refine zaa (v:= .d (.int .i64 y5)) (fun hb20=>by simp only[go_sem,zab hy6,zad hy6,zac (D.int .i64) hy6,hc3,hb20]) ?_
  try simp only[go_sem,zab hy6,zad hy6,zac (D.int .i64) hy6]
  refine zau (fun hc9=> ?_) (fun hc10=> ?_)
  ·rw[if_pos (show(!(bif (!r7.2)then true else(!(r7.1.parent==a1))))=true by(rw[hc9];rfl))]at h
   try simp only[go_sem,zab hy6,zad hy6,zac (D.int .i64) hy6,hc9]
   obtain⟨r11,hr12,h⟩:=bs h
   replace hr12:=zag hr12
   refine zaj hr12 ?_
   try simp only[go_sem,zab hy6,zad hy6,zac (D.int .i64) hy6]
   refine zaa (v:= .ptr 24 0 10) (fun hb19=>by simp only[go_sem,zab hy6,zad hy6,zac (D.int .i64) hy6,hc3,hc9,hb19]) ?_
   try simp only[go_sem,zab hy6,zad hy6,zac (D.int .i64) hy6]
   refine zaa (v:= .d (.int .i64 r7.1.doc)) (fun hb18=>by simp only[go_sem,zab hy6,zad hy6,zac (D.int .i64) hy6,hc3,hc9,hb18]) ?_
   try simp only[go_sem,zab hy6,zad hy6,zac (D.int .i64) hy6]
   refine zaa (v:= .ptr 8 0 10) (fun hb17=>by simp only[go_sem,zab hy6,zad hy6,zac (D.int .i64) hy6,hc3,hc9,hb17]) ?_
   try simp only[go_sem,zab hy6,zad hy6,zac (D.int .i64) hy6]
   refine zaa (v:= .d (.int .i64 y1.doc)) (fun hb16=>by simp only[go_sem,zab hy6,zad hy6,zac (D.int .i64) hy6,hc3,hc9,hb16]) ?_
   try simp only[go_sem,zab hy6,zad hy6,zac (D.int .i64) hy6]
   refine zaa (v:= .d (.bool (!(r7.1.doc==y1.doc)))) (fun hb15=>by simp only[go_sem,zab hy6,zad hy6,zac (D.int .i64) hy6,hc3,hc9,hb15]) ?_
   try simp only[go_sem,zab hy6,zad hy6,zac (D.int .i64) hy6]
   refine zaf (fun hc13=> ?_) (fun hc14=> ?_)
   ·rw[if_pos hc13]at h
    try simp only[go_sem,zab hy6,zad hy6,zac (D.int .i64) hy6]
    cases h
    exact⟨rfl,by simp,Up.of (N:=14) (N':=50) [] rfl rfl (by decide) (.set (.d _) zal.none) zan.at⟩
   rw[if_neg (ff hc14)]at h
   try simp only[go_sem,zab hy6,zad hy6,zac (D.int .i64) hy6]
   cases h
   exact⟨rfl,Up.of (N:=14) (N':=51) [] rfl rfl (by decide) (.set (.d _) (.set (.d _) (.set (.d _) (.set (.ptr' rfl) (.set (.ptr' rfl) (.set (.d _) zal.none)))))) (.set zar.refl_d (.set zar.refl_d zan.at))⟩
  rw[if_neg (ffn hc10)]at h
  try simp only[go_sem,zab hy6,zad hy6,zac (D.int .i64) hy6,hc10]
  cases h
  exact⟨rfl,by simp,Up.of (N:=14) (N':=50) [] rfl rfl (by decide) (.set (.d _) zal.none) zan.at⟩
 rw[if_neg (ff hc4)]at h
 try simp only[go_sem]
 cases h
 exact⟨rfl,by simp,Up.of (N:=14) (N':=15) [] rfl rfl (by decide) (.set (.ptr' rfl) (.set (.ptr' rfl) (.set (.d _) zal.none))) (.set zar.refl_d (.set zar.refl_d zan.at))⟩
noncomputable def zLO (a0:Forest) (a1:Int):Option (Bool):=
 (rd a0.nodes.l (IntKind.wrap .i64 (a1-1))).bind fun y1=>
 (zaQ (zdr a0 a1 y1) 0).bind fun r27=>
 match r27 with
 |(.inl q29)=>
  (if(!(y1.parent==0))=true then
   (dec (eT2 eNode D.bool) (pc prog 31 [eForest a0,.int .i64 y1.parent])).bind fun r32=>
   (if r32.2=true then
    (dec (D.int .i64) (pc prog 205 [.list r32.1.kids.n (r32.1.kids.l.map (D.int .i64)),.int .i64 a1])).bind fun r36=>
    some (!(r36==1))
   else
    some true:Option ((Bool))).bind fun r38=>
   if r38=true then
    some (.inr ())
   else
    some (.inl ())
  else
   some (.inl ()):Option ((Unit)⊕(Unit))).bind fun r45=>
  match r45 with
  |(.inl q47)=>
   (dec (D.int .u8) (pc prog 206 [eForest a0,.int .i64 y1.doc])).bind fun r48=>
   (if(r48==9)=true then
    some (bif (y1.kind==9)then(!(y1.doc==a1))else false)
   else
    some true:Option ((Bool))).bind fun r52=>
   if r52=true then
    some false
   else
    (if(!(y1.shadow==0))=true then
     (dec (eT2 eNode D.bool) (pc prog 31 [eForest a0,.int .i64 y1.shadow])).bind fun r58=>
     if(bif (bif (!r58.2)then true else(!(r58.1.kind==12)))then true else(!(r58.1.host==a1)))=true then
      some (.inr ())
     else
      some (.inl ())
    else
     some (.inl ()):Option ((Unit)⊕(Unit))).bind fun r69=>
    match r69 with
    |(.inl q71)=>
     if(y1.kind==12)=true then
      (dec (eT2 eNode D.bool) (pc prog 31 [eForest a0,.int .i64 y1.host])).bind fun r74=>
      if(bif (bif (bif (!r74.2)then true else(!(r74.1.kind==1)))then true else(!(r74.1.shadow==a1)))then true else(!(r74.1.doc==y1.doc)))=true then
       some false
      else
       (dec D.bool (pc prog 207 [eForest a0,.int .u8 y1.kind,.list y1.kids.n (y1.kids.l.map (D.int .i64))])).bind fun r78=>
       some r78
     else
      (dec D.bool (pc prog 207 [eForest a0,.int .u8 y1.kind,.list y1.kids.n (y1.kids.l.map (D.int .i64))])).bind fun r92=>
      some r92
    |(.inr q94)=>
     some false
  |(.inr q111)=>
   some false
 |(.inr q112)=>
  some false
theorem zLP (a0:Forest) (a1:Int) (r:Bool) (h:zLO a0 a1=some r):pc prog 163 [eForest a0,.int .i64 a1]=some (D.bool r):=by
 unfold zLO at h
 refine zaV (fn:=zKn) rfl rfl ?_
 delta zKn
 try simp only[go_sem]
 obtain⟨y1,hy2,h⟩:=bs h
 try simp only[go_sem,zab hy2,zad hy2,zac eNode hy2]
 obtain⟨r27,hl28,h⟩:=bs h
 refine Wp.loopR zbc (n:=(0,[])) (a:=zro) rfl (zfA a0 a1 y1) (ziY a0 a1 y1) (zxN a0 a1 y1) hl28 ?_ (by(repeat(first|refine Clo.block ?_|refine Clo.seq zbc rfl ?_));(exact Clo.ret)) ?_
 ·show Up (0,[]) (zfA a0 a1 y1 0) _
  delta zfA
  exact Up.of (N:=14) (N':=14) [] rfl rfl (by decide) (.set (.d _) (.set (.d _) (.set (.d _) (.set (.ptr' rfl) (.set (.ptr' rfl) (.set (.d _) zal.none)))))) (.set zar.refl_d (.set zar.refl_d zan.at))
 rcases r27 with(q29|q112)
 ·dsimp only at h
  dsimp only[ziY]
  try simp only[go_sem,zab hy2,zad hy2,zac eNode hy2]
  obtain⟨r45,hl46,h⟩:=bs h
  refine WBr.cut (n:=(0,[])) ((fun r=>match r with|(.inl r)=>(.normal,⟨(((Regs.none.set 1 (.d (.int .i64 a1))).set 2 (.ptr 0 0 0)).set 5 (.ptr 8 0 0)),(((Heap.at 17).set 0 (some (.els 1 [.d (eForest a0)] 0))).set 8 (some (.els 16 [.d (eNode y1)] 0)))⟩)|(.inr r)=>(.ret,⟨(Regs.none.set 4 (.d (.bool false))),(Heap.at 17)⟩):((Unit)⊕(Unit))→Ex×St) r45).1 ((fun r=>match r with|(.inl r)=>(.normal,⟨(((Regs.none.set 1 (.d (.int .i64 a1))).set 2 (.ptr 0 0 0)).set 5 (.ptr 8 0 0)),(((Heap.at 17).set 0 (some (.els 1 [.d (eForest a0)] 0))).set 8 (some (.els 16 [.d (eNode y1)] 0)))⟩)|(.inr r)=>(.ret,⟨(Regs.none.set 4 (.d (.bool false))),(Heap.at 17)⟩):((Unit)⊕(Unit))→Ex×St) r45).2 ?_ (by(repeat(refine Clo.seq zbc rfl ?_));(exact Clo.ret)) ?_
  ·replace h:=hl46
   refine zav (fun hc30=> ?_) (fun hc31=> ?_)
   ·rw[if_pos (show(!(y1.parent==0))=true by(rw[hc30];rfl))]at h
    try simp only[go_sem,zab hy2,zad hy2,zac eNode hy2]
    obtain⟨r32,hr33,h⟩:=bs h
    replace hr33:=zag hr33
    refine zaj hr33 ?_
    try simp only[go_sem,zab hy2,zad hy2,zac eNode hy2]
    refine zaa (v:= .ptr 24 0 9) (fun hb44=>by simp only[go_sem,zab hy2,zad hy2,zac eNode hy2,hc30,hb44]) ?_
    try simp only[go_sem,zab hy2,zad hy2,zac eNode hy2]
    refine zaa (v:= .d (.list r32.1.kids.n (r32.1.kids.l.map (D.int .i64)))) (fun hb43=>by simp only[go_sem,zab hy2,zad hy2,zac eNode hy2,hc30,hb43]) ?_
    try simp only[go_sem,zab hy2,zad hy2,zac eNode hy2]
    refine zaa (v:= .d (.int .i64 a1)) (fun hb42=>by simp only[go_sem,zab hy2,zad hy2,zac eNode hy2,hc30,hb42]) ?_
    try simp only[go_sem,zab hy2,zad hy2,zac eNode hy2]
    obtain⟨r38,hl39,h⟩:=bs h
    refine zbH.cut (n:=(0,[])) .normal ⟨((((Regs.none.set 1 (.d (.int .i64 a1))).set 2 (.ptr 0 0 0)).set 5 (.ptr 8 0 0)).set 76 (.d (.bool r38))),(((Heap.at 36).set 0 (some (.els 1 [.d (eForest a0)] 0))).set 8 (some (.els 16 [.d (eNode y1)] 0)))⟩ ?_ (by(repeat(refine Clo.seq zbc rfl ?_));(exact Clo.cpost (by decide))) ?_
    ·replace h:=hl39
     refine zay (fun hc34=> ?_) (fun hc35=> ?_)
     ·rw[if_pos hc34]at h
      try simp only[go_sem,zab hy2,zad hy2,zac eNode hy2,hc34]
      obtain⟨r36,hr37,h⟩:=bs h
      replace hr37:=zag hr37
      refine zaj hr37 ?_
      try simp only[go_sem,zab hy2,zad hy2,zac eNode hy2]
      cases h
      exact⟨rfl,Up.of (N:=36) (N':=36) [] rfl rfl (by decide) (.set (.d _) (.set (.ptr' rfl) (.set (.ptr' rfl) (.set (.d _) zal.none)))) (.set zar.refl_d (.set zar.refl_d zan.at))⟩
     rw[if_neg (ff hc35)]at h
     try simp only[go_sem,zab hy2,zad hy2,zac eNode hy2,hc35]
     cases h
     exact⟨rfl,Up.of (N:=36) (N':=36) [] rfl rfl (by decide) (.set (.d _) (.set (.ptr' rfl) (.set (.ptr' rfl) (.set (.d _) zal.none)))) (.set zar.refl_d (.set zar.refl_d zan.at))⟩
    try simp only[go_sem,zab hy2,zad hy2,zac eNode hy2]
    refine zaf (fun hc40=> ?_) (fun hc41=> ?_)
    ·rw[if_pos hc40]at h
     try simp only[go_sem,zab hy2,zad hy2,zac eNode hy2]
     cases h
     exact⟨rfl,Up.of (N:=17) (N':=37) [] rfl rfl (by decide) (.set (.d _) zal.none) zan.at⟩
    rw[if_neg (ff hc41)]at h
    try simp only[go_sem,zab hy2,zad hy2,zac eNode hy2]
    cases h
    exact⟨rfl,Up.of (N:=17) (N':=36) [] rfl rfl (by decide) (.set (.ptr' rfl) (.set (.ptr' rfl) (.set (.d _) zal.none))) (.set zar.refl_d (.set zar.refl_d zan.at))⟩
   rw[if_neg (ffn hc31)]at h
   try simp only[go_sem,zab hy2,zad hy2,zac eNode hy2]
   cases h
   exact⟨rfl,Up.of (N:=17) (N':=17) [] rfl rfl (by decide) (.set (.ptr' rfl) (.set (.ptr' rfl) (.set (.d _) zal.none))) (.set zar.refl_d (.set zar.refl_d zan.at))⟩
  rcases r45 with(q47|q111)
  ·dsimp only at h⊢
   try simp only[go_sem,zab hy2,zad hy2,zac eNode hy2]
   obtain⟨r48,hr49,h⟩:=bs h
   replace hr49:=zag hr49
   refine zaj hr49 ?_
   try simp only[go_sem,zab hy2,zad hy2,zac eNode hy2]
   refine zaa (v:= .ptr 8 0 0) (fun hb110=>by simp only[go_sem,zab hy2,zad hy2,zac eNode hy2,hb110]) ?_
   try simp only[go_sem,zab hy2,zad hy2,zac eNode hy2]
   refine zaa (v:= .d (.int .u8 y1.kind)) (fun hb109=>by simp only[go_sem,zab hy2,zad hy2,zac eNode hy2,hb109]) ?_
   try simp only[go_sem,zab hy2,zad hy2,zac eNode hy2]
   refine zaa (v:= .d (.bool (y1.kind==9))) (fun hb108=>by simp only[go_sem,zab hy2,zad hy2,zac eNode hy2,hb108]) ?_
   try simp only[go_sem,zab hy2,zad hy2,zac eNode hy2]
   refine zaa (v:= .d (.bool (y1.kind==9))) (fun hb107=>by simp only[go_sem,zab hy2,zad hy2,zac eNode hy2,hb107]) ?_
   try simp only[go_sem,zab hy2,zad hy2,zac eNode hy2]
   refine zaa (v:= .ptr 8 0 10) (fun hb104=>by((obtain⟨hb105,hb106⟩:=zaq hb104));simp only[go_sem,zab hy2,zad hy2,zac eNode hy2,hb106,hb105]) ?_
   try simp only[go_sem,zab hy2,zad hy2,zac eNode hy2]
   refine zaa (v:= .d (.int .i64 y1.doc)) (fun hb101=>by((obtain⟨hb102,hb103⟩:=zaq hb101));simp only[go_sem,zab hy2,zad hy2,zac eNode hy2,hb103,hb102]) ?_
   try simp only[go_sem,zab hy2,zad hy2,zac eNode hy2]
   refine zaa (v:= .d (.int .i64 a1)) (fun hb98=>by((obtain⟨hb99,hb100⟩:=zaq hb98));simp only[go_sem,zab hy2,zad hy2,zac eNode hy2,hb100,hb99]) ?_
   try simp only[go_sem,zab hy2,zad hy2,zac eNode hy2]
   refine zaa (v:= .d (.bool (!(y1.doc==a1)))) (fun hb95=>by((obtain⟨hb96,hb97⟩:=zaq hb95));simp only[go_sem,zab hy2,zad hy2,zac eNode hy2,hb97,hb96]) ?_
   try simp only[go_sem,zab hy2,zad hy2,zac eNode hy2]
   obtain⟨r52,hl53,h⟩:=bs h
   refine zbH.cut (n:=(0,[])) .normal ⟨((((Regs.none.set 1 (.d (.int .i64 a1))).set 2 (.ptr 0 0 0)).set 5 (.ptr 8 0 0)).set 92 (.d (.bool r52))),(((Heap.at 33).set 0 (some (.els 1 [.d (eForest a0)] 0))).set 8 (some (.els 16 [.d (eNode y1)] 0)))⟩ ?_ (by(repeat(refine Clo.seq zbc rfl ?_));(exact Clo.ret)) ?_
   ·replace h:=hl53
    refine zay (fun hc50=> ?_) (fun hc51=> ?_)
    ·rw[if_pos hc50]at h
     try simp only[go_sem,zab hy2,zad hy2,zac eNode hy2,hc50]
     cases h
     exact⟨rfl,Up.of (N:=33) (N':=33) [] rfl rfl (by decide) (.set (.d _) (.set (.ptr' rfl) (.set (.ptr' rfl) (.set (.d _) zal.none)))) (.set zar.refl_d (.set zar.refl_d zan.at))⟩
    rw[if_neg (ff hc51)]at h
    try simp only[go_sem,zab hy2,zad hy2,zac eNode hy2,hc51]
    cases h
    exact⟨rfl,Up.of (N:=33) (N':=33) [] rfl rfl (by decide) (.set (.d _) (.set (.ptr' rfl) (.set (.ptr' rfl) (.set (.d _) zal.none)))) (.set zar.refl_d (.set zar.refl_d zan.at))⟩
   try simp only[go_sem,zab hy2,zad hy2,zac eNode hy2]
   refine zaf (fun hc54=> ?_) (fun hc55=> ?_)
   ·rw[if_pos hc54]at h
    try simp only[go_sem,zab hy2,zad hy2,zac eNode hy2]
    cases h
    rfl
   rw[if_neg (ff hc55)]at h
   try simp only[go_sem,zab hy2,zad hy2,zac eNode hy2]
   obtain⟨r69,hl70,h⟩:=bs h
   refine WBr.cut (n:=(0,[])) ((fun r=>match r with|(.inl r)=>(.normal,⟨(((Regs.none.set 1 (.d (.int .i64 a1))).set 2 (.ptr 0 0 0)).set 5 (.ptr 8 0 0)),(((Heap.at 36).set 0 (some (.els 1 [.d (eForest a0)] 0))).set 8 (some (.els 16 [.d (eNode y1)] 0)))⟩)|(.inr r)=>(.ret,⟨(Regs.none.set 4 (.d (.bool false))),(Heap.at 36)⟩):((Unit)⊕(Unit))→Ex×St) r69).1 ((fun r=>match r with|(.inl r)=>(.normal,⟨(((Regs.none.set 1 (.d (.int .i64 a1))).set 2 (.ptr 0 0 0)).set 5 (.ptr 8 0 0)),(((Heap.at 36).set 0 (some (.els 1 [.d (eForest a0)] 0))).set 8 (some (.els 16 [.d (eNode y1)] 0)))⟩)|(.inr r)=>(.ret,⟨(Regs.none.set 4 (.d (.bool false))),(Heap.at 36)⟩):((Unit)⊕(Unit))→Ex×St) r69).2 ?_ (by(repeat(refine Clo.seq zbc rfl ?_));(exact Clo.ret)) ?_
   ·replace h:=hl70
    refine zav (fun hc56=> ?_) (fun hc57=> ?_)
    ·rw[if_pos (show(!(y1.shadow==0))=true by(rw[hc56];rfl))]at h
     try simp only[go_sem,zab hy2,zad hy2,zac eNode hy2]
     obtain⟨r58,hr59,h⟩:=bs h
     replace hr59:=zag hr59
     refine zaj hr59 ?_
     try simp only[go_sem,zab hy2,zad hy2,zac eNode hy2]
     refine zaa (v:= .ptr 43 0 0) (fun hb68=>by simp only[go_sem,zab hy2,zad hy2,zac eNode hy2,hc55,hc56,hb68]) ?_
     try simp only[go_sem,zab hy2,zad hy2,zac eNode hy2]
     refine zaa (v:= .d (.int .u8 r58.1.kind)) (fun hb67=>by simp only[go_sem,zab hy2,zad hy2,zac eNode hy2,hc55,hc56,hb67]) ?_
     try simp only[go_sem,zab hy2,zad hy2,zac eNode hy2]
     refine zaa (v:= .d (.bool (!(r58.1.kind==12)))) (fun hb66=>by simp only[go_sem,zab hy2,zad hy2,zac eNode hy2,hc55,hc56,hb66]) ?_
     try simp only[go_sem,zab hy2,zad hy2,zac eNode hy2]
     refine zaa (v:= .ptr 43 0 11) (fun hb65=>by simp only[go_sem,zab hy2,zad hy2,zac eNode hy2,hc55,hc56,hb65]) ?_
     try simp only[go_sem,zab hy2,zad hy2,zac eNode hy2]
     refine zaa (v:= .d (.int .i64 r58.1.host)) (fun hb64=>by simp only[go_sem,zab hy2,zad hy2,zac eNode hy2,hc55,hc56,hb64]) ?_
     try simp only[go_sem,zab hy2,zad hy2,zac eNode hy2]
     refine zaa (v:= .d (.int .i64 a1)) (fun hb63=>by simp only[go_sem,zab hy2,zad hy2,zac eNode hy2,hc55,hc56,hb63]) ?_
     try simp only[go_sem,zab hy2,zad hy2,zac eNode hy2]
     refine zaa (v:= .d (.bool (!(r58.1.host==a1)))) (fun hb62=>by simp only[go_sem,zab hy2,zad hy2,zac eNode hy2,hc55,hc56,hb62]) ?_
     try simp only[go_sem,zab hy2,zad hy2,zac eNode hy2]
     refine zaf (fun hc60=> ?_) (fun hc61=> ?_)
     ·rw[if_pos hc60]at h
      try simp only[go_sem,zab hy2,zad hy2,zac eNode hy2]
      cases h
      exact⟨rfl,Up.of (N:=36) (N':=60) [] rfl rfl (by decide) (.set (.d _) zal.none) zan.at⟩
     rw[if_neg (ff hc61)]at h
     try simp only[go_sem,zab hy2,zad hy2,zac eNode hy2]
     cases h
     exact⟨rfl,Up.of (N:=36) (N':=59) [] rfl rfl (by decide) (.set (.ptr' rfl) (.set (.ptr' rfl) (.set (.d _) zal.none))) (.set zar.refl_d (.set zar.refl_d zan.at))⟩
    rw[if_neg (ffn hc57)]at h
    try simp only[go_sem,zab hy2,zad hy2,zac eNode hy2]
    cases h
    exact⟨rfl,Up.of (N:=36) (N':=36) [] rfl rfl (by decide) (.set (.ptr' rfl) (.set (.ptr' rfl) (.set (.d _) zal.none))) (.set zar.refl_d (.set zar.refl_d zan.at))⟩
   rcases r69 with(q71|q94)
   ·dsimp only at h⊢
    try simp only[go_sem,zab hy2,zad hy2,zac eNode hy2]
    refine zaf (fun hc72=> ?_) (fun hc73=> ?_)
    ·rw[if_pos hc72]at h
     try simp only[go_sem,zab hy2,zad hy2,zac eNode hy2]
     obtain⟨r74,hr75,h⟩:=bs h
     replace hr75:=zag hr75
     refine zaj hr75 ?_
     try simp only[go_sem,zab hy2,zad hy2,zac eNode hy2]
     refine zaa (v:= .ptr 46 0 0) (fun hb91=>by simp only[go_sem,zab hy2,zad hy2,zac eNode hy2,hc55,hc72,hb91]) ?_
     try simp only[go_sem,zab hy2,zad hy2,zac eNode hy2]
     refine zaa (v:= .d (.int .u8 r74.1.kind)) (fun hb90=>by simp only[go_sem,zab hy2,zad hy2,zac eNode hy2,hc55,hc72,hb90]) ?_
     try simp only[go_sem,zab hy2,zad hy2,zac eNode hy2]
     refine zaa (v:= .d (.bool (!(r74.1.kind==1)))) (fun hb89=>by simp only[go_sem,zab hy2,zad hy2,zac eNode hy2,hc55,hc72,hb89]) ?_
     try simp only[go_sem,zab hy2,zad hy2,zac eNode hy2]
     refine zaa (v:= .ptr 46 0 12) (fun hb88=>by simp only[go_sem,zab hy2,zad hy2,zac eNode hy2,hc55,hc72,hb88]) ?_
     try simp only[go_sem,zab hy2,zad hy2,zac eNode hy2]
     refine zaa (v:= .d (.int .i64 r74.1.shadow)) (fun hb87=>by simp only[go_sem,zab hy2,zad hy2,zac eNode hy2,hc55,hc72,hb87]) ?_
     try simp only[go_sem,zab hy2,zad hy2,zac eNode hy2]
     refine zaa (v:= .d (.int .i64 a1)) (fun hb86=>by simp only[go_sem,zab hy2,zad hy2,zac eNode hy2,hc55,hc72,hb86]) ?_
     try simp only[go_sem,zab hy2,zad hy2,zac eNode hy2]
     refine zaa (v:= .d (.bool (!(r74.1.shadow==a1)))) (fun hb85=>by simp only[go_sem,zab hy2,zad hy2,zac eNode hy2,hc55,hc72,hb85]) ?_
     try simp only[go_sem,zab hy2,zad hy2,zac eNode hy2]
     refine zaa (v:= .ptr 46 0 10) (fun hb84=>by simp only[go_sem,zab hy2,zad hy2,zac eNode hy2,hc55,hc72,hb84]) ?_
     try simp only[go_sem,zab hy2,zad hy2,zac eNode hy2]
     refine zaa (v:= .d (.int .i64 r74.1.doc)) (fun hb83=>by simp only[go_sem,zab hy2,zad hy2,zac eNode hy2,hc55,hc72,hb83]) ?_
     try simp only[go_sem,zab hy2,zad hy2,zac eNode hy2]
     refine zaa (v:= .ptr 8 0 10) (fun hb82=>by simp only[go_sem,zab hy2,zad hy2,zac eNode hy2,hc55,hc72,hb82]) ?_
     try simp only[go_sem,zab hy2,zad hy2,zac eNode hy2]
     refine zaa (v:= .d (.int .i64 y1.doc)) (fun hb81=>by simp only[go_sem,zab hy2,zad hy2,zac eNode hy2,hc55,hc72,hb81]) ?_
     try simp only[go_sem,zab hy2,zad hy2,zac eNode hy2]
     refine zaa (v:= .d (.bool (!(r74.1.doc==y1.doc)))) (fun hb80=>by simp only[go_sem,zab hy2,zad hy2,zac eNode hy2,hc55,hc72,hb80]) ?_
     try simp only[go_sem,zab hy2,zad hy2,zac eNode hy2]
     refine zaf (fun hc76=> ?_) (fun hc77=> ?_)
     ·rw[if_pos hc76]at h
      try simp only[go_sem,zab hy2,zad hy2,zac eNode hy2]
      cases h
      rfl
     rw[if_neg (ff hc77)]at h
     try simp only[go_sem,zab hy2,zad hy2,zac eNode hy2]
     obtain⟨r78,hr79,h⟩:=bs h
     replace hr79:=zag hr79
     refine zaj hr79 ?_
     try simp only[go_sem,zab hy2,zad hy2,zac eNode hy2]
     cases h
     rfl
    rw[if_neg (ff hc73)]at h
    try simp only[go_sem,zab hy2,zad hy2,zac eNode hy2]
    obtain⟨r92,hr93,h⟩:=bs h
    replace hr93:=zag hr93
    refine zaj hr93 ?_
    try simp only[go_sem,zab hy2,zad hy2,zac eNode hy2]
    cases h
    rfl
   dsimp only at h⊢
   try simp only[go_sem,zab hy2,zad hy2,zac eNode hy2]
   cases h
   rfl
  dsimp only at h⊢
  try simp only[go_sem,zab hy2,zad hy2,zac eNode hy2]
  cases h
  rfl
 dsimp only at h
 dsimp only[ziY]
 try simp only[go_sem,zab hy2,zad hy2,zac eNode hy2]
 cases h
 rfl
def zfB (a0:Forest) (x0:Int×Int):St:=⟨(((Regs.none.set 2 (.ptr 0 0 0)).set 5 (.d (.int .i64 x0.1))).set 6 (.d (.int .i64 x0.2))),((Heap.at 5).set 0 (some (.els 1 [.d (eForest a0)] 0)))⟩
def ziZ (a0:Forest):((Unit)⊕(Unit))→Ex×St:=fun r=>match r with
 |(.inl r)=>(.exit 0,⟨Regs.none,(Heap.at 5)⟩)
 |(.inr r)=>(.ret,⟨(Regs.none.set 4 (.d (.bool false))),(Heap.at 5)⟩)
noncomputable def zci (a0:Forest) (x0:Int×Int):Option ((Int×Int)⊕((Unit)⊕(Unit))):=
 if(decide (x0.2≤(a0.nodes.l.length:Int)))=true then
  (dec (eT2 eNode D.bool) (pc prog 31 [eForest a0,.int .i64 x0.1])).bind fun r3=>
  if(!r3.2)=true then
   some (.inr (.inr ()))
  else
   (dec (D.int .i64) (pc prog 208 [eNode r3.1])).bind fun r7=>
   some (.inl (r7,(IntKind.wrap .i64 (x0.2+1))))
 else
  some (.inr (.inl ()))
theorem zxO (a0:Forest) (x0:Int×Int) (o:(Int×Int)⊕((Unit)⊕(Unit))) (h:zci a0 x0=some o):Wp prog zrp (zfB a0 x0) (zbF (0,[]) (zfB a0) (ziZ a0) o):=by
 unfold zci at h
 delta zrp zfB
 try simp only[go_sem]
 refine zaf (fun hc1=> ?_) (fun hc2=> ?_)
 ·rw[if_pos hc1]at h
  try simp only[go_sem]
  obtain⟨r3,hr4,h⟩:=bs h
  replace hr4:=zag hr4
  refine zaj hr4 ?_
  try simp only[go_sem]
  refine zav (fun hc5=> ?_) (fun hc6=> ?_)
  ·rw[if_pos (show(!r3.2)=true by(rw[hc5];rfl))]at h
   try simp only[go_sem]
   cases h
   exact⟨rfl,by simp,Up.of (N:=5) (N':=22) [] rfl rfl (by decide) (.set (.d _) zal.none) zan.at⟩
  rw[if_neg (ffn hc6)]at h
  try simp only[go_sem]
  obtain⟨r7,hr8,h⟩:=bs h
  replace hr8:=zag hr8
  refine zaj hr8 ?_
  try simp only[go_sem]
  cases h
  exact⟨rfl,Up.of (N:=5) (N':=27) [] rfl rfl (by decide) (.set (.d _) (.set (.d _) (.set (.ptr' rfl) zal.none))) (.set zar.refl_d zan.at)⟩
 rw[if_neg (ff hc2)]at h
 try simp only[go_sem]
 cases h
 exact⟨rfl,by simp,Up.of (N:=5) (N':=10) [] rfl rfl (by decide) zal.none zan.at⟩
noncomputable def zLQ (a0:Forest) (a1:Int):Option (Bool):=
 (zaQ (zci a0) (a1,0)).bind fun r9=>
 match r9 with
 |(.inl q11)=>
  some true
 |(.inr q12)=>
  some false
theorem zLR (a0:Forest) (a1:Int) (r:Bool) (h:zLQ a0 a1=some r):pc prog 164 [eForest a0,.int .i64 a1]=some (D.bool r):=by
 unfold zLQ at h
 refine zaV (fn:=zKo) rfl rfl ?_
 delta zKo
 try simp only[go_sem]
 obtain⟨r9,hl10,h⟩:=bs h
 refine Wp.loopR zbc (n:=(0,[])) (a:=zrp) rfl (zfB a0) (ziZ a0) (zxO a0) hl10 ?_ (by(repeat(first|refine Clo.block ?_|refine Clo.seq zbc rfl ?_));(exact Clo.ret)) ?_
 ·show Up (0,[]) (zfB a0 (a1,0)) _
  delta zfB
  exact Up.of (N:=5) (N':=5) [] rfl rfl (by decide) (.set (.d _) (.set (.d _) (.set (.ptr' rfl) zal.none))) (.set zar.refl_d zan.at)
 rcases r9 with(q11|q12)
 ·dsimp only at h
  dsimp only[ziZ]
  try simp only[go_sem]
  cases h
  rfl
 dsimp only at h
 dsimp only[ziZ]
 try simp only[go_sem]
 cases h
 rfl
noncomputable def zLS (a0:Int) (a1:Int):Option (Int):=
 (dec D.bool (pc prog 213 [.int .i64 a0])).bind fun r1=>
 (dec D.bool (pc prog 213 [.int .i64 a1])).bind fun r3=>
 if r1=true then
  if r3=true then
   some (0)
  else
   some (-1)
 else
  if r3=true then
   some (1)
  else
   if(decide (a0<a1))=true then
    some (-1)
   else
    if(decide (a1<a0))=true then
     some (1)
    else
     some (0)
theorem zLT (a0:Int) (a1:Int) (r:Int) (h:zLS a0 a1=some r):pc prog 180 [.int .i64 a0,.int .i64 a1]=some ((D.int .i64) r):=by
 unfold zLS at h
 refine zaV (fn:=zKq) rfl rfl ?_
 delta zKq
 try simp only[go_sem]
 obtain⟨r1,hr2,h⟩:=bs h
 replace hr2:=zag hr2
 refine zaj hr2 ?_
 try simp only[go_sem]
 obtain⟨r3,hr4,h⟩:=bs h
 replace hr4:=zag hr4
 refine zaj hr4 ?_
 try simp only[go_sem]
 refine zaf (fun hc5=> ?_) (fun hc6=> ?_)
 ·rw[if_pos hc5]at h
  try simp only[go_sem]
  refine zaf (fun hc7=> ?_) (fun hc8=> ?_)
  ·rw[if_pos hc7]at h
   try simp only[go_sem]
   cases h
   rfl
  rw[if_neg (ff hc8)]at h
  try simp only[go_sem]
  cases h
  rfl
 rw[if_neg (ff hc6)]at h
 try simp only[go_sem]
 refine zaf (fun hc9=> ?_) (fun hc10=> ?_)
 ·rw[if_pos hc9]at h
  try simp only[go_sem]
  cases h
  rfl
 rw[if_neg (ff hc10)]at h
 try simp only[go_sem]
 refine zaf (fun hc11=> ?_) (fun hc12=> ?_)
 ·rw[if_pos hc11]at h
  try simp only[go_sem]
  cases h
  rfl
 rw[if_neg (ff hc12)]at h
 try simp only[go_sem]
 refine zaf (fun hc13=> ?_) (fun hc14=> ?_)
 ·rw[if_pos hc13]at h
  try simp only[go_sem]
  cases h
  rfl
 rw[if_neg (ff hc14)]at h
 try simp only[go_sem]
 cases h
 rfl
noncomputable def zLU (a0:Forest) (a1:Int):Option (Int):=
 (dec eNode (pc prog 91 [eForest a0,.int .i64 a1])).bind fun r1=>
 if(r1.kind==12)=true then
  some r1.host
 else
  some r1.parent
theorem zLV (a0:Forest) (a1:Int) (r:Int) (h:zLU a0 a1=some r):pc prog 183 [eForest a0,.int .i64 a1]=some ((D.int .i64) r):=by
 unfold zLU at h
 refine zaV (fn:=zKr) rfl rfl ?_
 delta zKr
 try simp only[go_sem]
 obtain⟨r1,hr2,h⟩:=bs h
 replace hr2:=zag hr2
 refine zaj hr2 ?_
 try simp only[go_sem]
 refine zaf (fun hc3=> ?_) (fun hc4=> ?_)
 ·rw[if_pos hc3]at h
  try simp only[go_sem]
  cases h
  rfl
 rw[if_neg (ff hc4)]at h
 try simp only[go_sem]
 cases h
 rfl
noncomputable def zLW (a0:Forest) (a1:Int) (a2:Bool):Option (Int):=
 (dec eNode (pc prog 91 [eForest a0,.int .i64 a1])).bind fun r1=>
 if((r1.kids.l.length:Int)==0)=true then
  some (0)
 else
  if a2=true then
   (rd r1.kids.l (IntKind.wrap .i64 ((r1.kids.l.length:Int)-1))).bind fun y7=>
   some y7
  else
   (rd r1.kids.l (0)).bind fun y9=>
   some y9
theorem zLX (a0:Forest) (a1:Int) (a2:Bool) (r:Int) (h:zLW a0 a1 a2=some r):pc prog 184 [eForest a0,.int .i64 a1,.bool a2]=some ((D.int .i64) r):=by
 unfold zLW at h
 refine zaV (fn:=zKs) rfl rfl ?_
 delta zKs
 try simp only[go_sem]
 obtain⟨r1,hr2,h⟩:=bs h
 replace hr2:=zag hr2
 refine zaj hr2 ?_
 try simp only[go_sem]
 refine zaf (fun hc3=> ?_) (fun hc4=> ?_)
 ·rw[if_pos hc3]at h
  try simp only[go_sem]
  cases h
  rfl
 rw[if_neg (ff hc4)]at h
 try simp only[go_sem]
 refine zaf (fun hc5=> ?_) (fun hc6=> ?_)
 ·rw[if_pos hc5]at h
  try simp only[go_sem]
  obtain⟨y7,hy8,h⟩:=bs h
  try simp only[go_sem,zab hy8,zad hy8,zac (D.int .i64) hy8]
  cases h
  rfl
 rw[if_neg (ff hc6)]at h
 try simp only[go_sem]
 obtain⟨y9,hy10,h⟩:=bs h
 try simp only[go_sem,(show(r1.kids.l.map (D.int .i64))[0]? =some ((D.int .i64) y9)from zac (D.int .i64) hy10)]
 cases h
 rfl
noncomputable def zLY (a0:Forest) (a1:Int) (a2:Int):Option (Int):=
 (dec eNode (pc prog 91 [eForest a0,.int .i64 a1])).bind fun r1=>
 if(r1.parent==0)=true then
  some (0)
 else
  (dec eNode (pc prog 91 [eForest a0,.int .i64 r1.parent])).bind fun r5=>
  (dec (D.int .i64) (pc prog 188 [.list r5.kids.n (r5.kids.l.map (D.int .i64)),.int .i64 a1])).bind fun r7=>
  if(bif (decide ((IntKind.wrap .i64 (r7+a2))<0))then true else(decide ((r5.kids.l.length:Int)≤(IntKind.wrap .i64 (r7+a2)))))=true then
   some (0)
  else
   (rd r5.kids.l (IntKind.wrap .i64 (r7+a2))).bind fun y11=>
   some y11
theorem zLZ (a0:Forest) (a1:Int) (a2:Int) (r:Int) (h:zLY a0 a1 a2=some r):pc prog 185 [eForest a0,.int .i64 a1,.int .i64 a2]=some ((D.int .i64) r):=by
 unfold zLY at h
 refine zaV (fn:=zKt) rfl rfl ?_
 delta zKt
 try simp only[go_sem]
 obtain⟨r1,hr2,h⟩:=bs h
 replace hr2:=zag hr2
 refine zaj hr2 ?_
 try simp only[go_sem]
 refine zaf (fun hc3=> ?_) (fun hc4=> ?_)
 ·rw[if_pos hc3]at h
  try simp only[go_sem]
  cases h
  rfl
 rw[if_neg (ff hc4)]at h
 try simp only[go_sem]
 obtain⟨r5,hr6,h⟩:=bs h
 replace hr6:=zag hr6
 refine zaj hr6 ?_
 try simp only[go_sem]
 obtain⟨r7,hr8,h⟩:=bs h
 replace hr8:=zag hr8
 refine zaj hr8 ?_
 try simp only[go_sem]
 refine zaa (v:= .d (.int .i64 (IntKind.wrap .i64 (r7+a2)))) (fun hb16=>by simp only[go_sem,hc4,hb16]) ?_
 try simp only[go_sem]
 refine zaa (v:= .d (.list r5.kids.n (r5.kids.l.map (D.int .i64)))) (fun hb15=>by simp only[go_sem,hc4,hb15]) ?_
 try simp only[go_sem]
 refine zaa (v:= .d (.int .i64 (r5.kids.l.length:Int))) (fun hb14=>by simp only[go_sem,hc4,hb14]) ?_
 try simp only[go_sem]
 refine zaa (v:= .d (.bool (decide ((r5.kids.l.length:Int)≤(IntKind.wrap .i64 (r7+a2)))))) (fun hb13=>by simp only[go_sem,hc4,hb13]) ?_
 try simp only[go_sem]
 refine zaf (fun hc9=> ?_) (fun hc10=> ?_)
 ·rw[if_pos hc9]at h
  try simp only[go_sem]
  cases h
  rfl
 rw[if_neg (ff hc10)]at h
 try simp only[go_sem]
 obtain⟨y11,hy12,h⟩:=bs h
 try simp only[go_sem,zab hy12,zad hy12,zac (D.int .i64) hy12]
 cases h
 rfl
def zfC (a0:Sl (Int)) (a1:Int) (x0:Int):St:=⟨((((Regs.none.set 0 (.d (.list a0.n (a0.l.map (D.int .i64))))).set 1 (.d (.int .i64 a1))).set 7 (.d (.int .i64 (a0.l.length:Int)))).set 8 (.d (.int .i64 x0))),(Heap.at 4)⟩
def zja (a0:Sl (Int)) (a1:Int):((Unit)⊕(Int))→Ex×St:=fun r=>match r with
 |(.inl r)=>(.exit 0,⟨Regs.none,(Heap.at 4)⟩)
 |(.inr r)=>(.ret,⟨(Regs.none.set 4 (.d (.int .i64 r))),(Heap.at 4)⟩)
noncomputable def zds (a0:Sl (Int)) (a1:Int) (x0:Int):Option ((Int)⊕((Unit)⊕(Int))):=
 if(decide (x0<(a0.l.length:Int)))=true then
  (rd a0.l x0).bind fun y3=>
  if(a1==y3)=true then
   some (.inr (.inr x0))
  else
   some (.inl (IntKind.wrap .i64 (x0+1)))
 else
  some (.inr (.inl ()))
theorem zxP (a0:Sl (Int)) (a1:Int) (x0:Int) (o:(Int)⊕((Unit)⊕(Int))) (h:zds a0 a1 x0=some o):Wp prog zrq (zfC a0 a1 x0) (zbF (0,[]) (zfC a0 a1) (zja a0 a1) o):=by
 unfold zds at h
 delta zrq zfC
 try simp only[go_sem]
 refine zaf (fun hc1=> ?_) (fun hc2=> ?_)
 ·rw[if_pos hc1]at h
  try simp only[go_sem]
  obtain⟨y3,hy4,h⟩:=bs h
  try simp only[go_sem,zab hy4,zad hy4,zac (D.int .i64) hy4]
  refine zaf (fun hc5=> ?_) (fun hc6=> ?_)
  ·rw[if_pos hc5]at h
   try simp only[go_sem,zab hy4,zad hy4,zac (D.int .i64) hy4]
   cases h
   exact⟨rfl,by simp,Up.of (N:=4) (N':=15) [] rfl rfl (by decide) (.set (.d _) zal.none) zan.at⟩
  rw[if_neg (ff hc6)]at h
  try simp only[go_sem,zab hy4,zad hy4,zac (D.int .i64) hy4]
  cases h
  exact⟨rfl,Up.of (N:=4) (N':=15) [] rfl rfl (by decide) (.set (.d _) (.set (.d _) (.set (.d _) (.set (.d _) zal.none)))) zan.at⟩
 rw[if_neg (ff hc2)]at h
 try simp only[go_sem]
 cases h
 exact⟨rfl,by simp,Up.of (N:=4) (N':=5) [] rfl rfl (by decide) zal.none zan.at⟩
noncomputable def zMa (a0:Sl (Int)) (a1:Int):Option (Int):=
 (zaQ (zds a0 a1) 0).bind fun r7=>
 match r7 with
 |(.inl q9)=>
  some (-1)
 |(.inr q10)=>
  some q10
theorem zMb (a0:Sl (Int)) (a1:Int) (r:Int) (h:zMa a0 a1=some r):pc prog 188 [.list a0.n (a0.l.map (D.int .i64)),.int .i64 a1]=some ((D.int .i64) r):=by
 unfold zMa at h
 refine zaV (fn:=zKv) rfl rfl ?_
 delta zKv
 try simp only[go_sem]
 obtain⟨r7,hl8,h⟩:=bs h
 refine Wp.loopR zbc (n:=(0,[])) (a:=zrq) rfl (zfC a0 a1) (zja a0 a1) (zxP a0 a1) hl8 ?_ (by(repeat(first|refine Clo.block ?_|refine Clo.seq zbc rfl ?_));(exact Clo.ret)) ?_
 ·show Up (0,[]) (zfC a0 a1 0) _
  delta zfC
  exact Up.of (N:=4) (N':=4) [] rfl rfl (by decide) (.set (.d _) (.set (.d _) (.set (.d _) (.set (.d _) zal.none)))) zan.at
 rcases r7 with(q9|q10)
 ·dsimp only at h
  dsimp only[zja]
  try simp only[go_sem]
  cases h
  rfl
 dsimp only at h
 dsimp only[zja]
 try simp only[go_sem]
 cases h
 rfl
def zfD (a0:Forest) (x0:List (Int)×Int) (x1:List (Int)×List (Int)×Int):St:=⟨((((((Regs.none.set 1 (.ptr 0 0 0)).set 3 (.sl 6 0 (((IntKind.wrap .i64 ((a0.nodes.l.length:Int)+1))).toNat))).set 5 (mb 18 (x1.2.1.map fun z=>V.d ((D.int .i64) z)))).set 6 (.d (.int .i64 x1.2.2))).set 19 (.d (.int .i64 (a0.nodes.l.length:Int)))).set 20 (.d (.int .i64 x0.2))),((((Heap.at 19).set 0 (some (.els 1 [.d (eForest a0)] 0))).set 6 (some (.els 1 (x1.1.map fun z=>V.d ((D.int .i64) z)) (0)))).set 18 (mbB 1 x1.2.1.length (x1.2.1.map fun z=>V.d ((D.int .i64) z))))⟩
def zml (a0:Forest) (x0:List (Int)×Int):((List (Int)×Int×List (Int)))→Ex×St:=fun r=>(.exit 2,⟨((((((Regs.none.set 1 (.ptr 0 0 0)).set 3 (.sl 6 0 (((IntKind.wrap .i64 ((a0.nodes.l.length:Int)+1))).toNat))).set 5 (mb 18 (r.1.map fun z=>V.d ((D.int .i64) z)))).set 6 (.d (.int .i64 r.2.1))).set 19 (.d (.int .i64 (a0.nodes.l.length:Int)))).set 20 (.d (.int .i64 x0.2))),((((Heap.at 19).set 0 (some (.els 1 [.d (eForest a0)] 0))).set 6 (some (.els 1 (r.2.2.map fun z=>V.d ((D.int .i64) z)) (0)))).set 18 (mbB 1 r.1.length (r.1.map fun z=>V.d ((D.int .i64) z))))⟩)
noncomputable def zbP (a0:Forest) (x0:List (Int)×Int) (x1:List (Int)×List (Int)×Int):Option ((List (Int)×List (Int)×Int)⊕((List (Int)×Int×List (Int)))):=
 if(bif (decide (1≤x1.2.2))then(decide (x1.2.2≤(a0.nodes.l.length:Int)))else false)=true then
  (rdA x1.1 (((IntKind.wrap .i64 ((a0.nodes.l.length:Int)+1))).toNat) x1.2.2).bind fun y6=>
  if(y6==0)=true then
   if(x1.2.1.length+1)*8≤AI.roomBytes then
    (rd a0.nodes.l (IntKind.wrap .i64 (x1.2.2-1))).bind fun y11=>
    (dec (D.int .i64) (pc prog 214 [eNode y11])).bind fun r13=>
    some (.inl ((x1.1.set (x1.2.2).toNat (1)),(x1.2.1++[x1.2.2]),r13))
   else none
  else
   some (.inr (x1.2.1,x1.2.2,x1.1))
 else
  some (.inr (x1.2.1,x1.2.2,x1.1))
theorem zxQ (a0:Forest) (x0:List (Int)×Int) (x1:List (Int)×List (Int)×Int) (o:(List (Int)×List (Int)×Int)⊕((List (Int)×Int×List (Int)))) (h:zbP a0 x0 x1=some o):Wp prog zrr (zfD a0 x0 x1) (zbF (0,[]) (zfD a0 x0) (zml a0 x0) o):=by
 unfold zbP at h
 delta zrr zfD
 try simp only[go_sem]
 refine zaa (v:= .d (.int .i64 x1.2.2)) (fun hb19=>by simp only[go_sem,hb19]) ?_
 try simp only[go_sem]
 refine zaa (v:= .ptr 0 0 0) (fun hb18=>by simp only[go_sem,hb18]) ?_
 try simp only[go_sem]
 refine zaa (v:= .d (.list a0.nodes.n (a0.nodes.l.map eNode))) (fun hb17=>by simp only[go_sem,hb17]) ?_
 try simp only[go_sem]
 refine zaa (v:= .d (.int .i64 (a0.nodes.l.length:Int))) (fun hb16=>by simp only[go_sem,hb16]) ?_
 try simp only[go_sem]
 refine zaa (v:= .d (.bool (decide (x1.2.2≤(a0.nodes.l.length:Int))))) (fun hb15=>by simp only[go_sem,hb15]) ?_
 try simp only[go_sem]
 refine zay (fun hc4=> ?_) (fun hc5=> ?_)
 ·rw[if_pos hc4]at h
  try simp only[go_sem,hc4]
  obtain⟨y6,hy7,h⟩:=bs h
  try simp only[go_sem,zaZ hy7,zbn hy7,zbp hy7,zaK hy7,zba (D.int .i64) hy7]
  refine zaf (fun hc8=> ?_) (fun hc9=> ?_)
  ·rw[if_pos hc8]at h
   try simp only[go_sem,zaZ hy7,zbn hy7,zbp hy7,zaK hy7,zba (D.int .i64) hy7]
   obtain⟨hm10,h⟩:=zcP h
   refine znU (l:=x1.2.1.map fun z=>V.d ((D.int .i64) z)) (new:=[V.d (.int .i64 x1.2.2)]) (sz:=1) (fz:=x1.2.1.length) (by simp only[go_sem,List.map_append,List.map_cons,List.map_nil,zaZ hy7,zbn hy7,zbp hy7,zaK hy7,zba (D.int .i64) hy7,zgu (x:=1) (D.int .i64) (zaK hy7),zgt (x:=1) (zaK hy7)]) (by intro h;simpa using h) (by simp only[go_sem,zcO,zdI,zdb,zcc,zku]) (by simp) (by simp only[go_sem]) (by simpa using hm10) ?_
   try simp only[go_sem,zaZ hy7,zbn hy7,zbp hy7,zaK hy7,zba (D.int .i64) hy7,zgu (x:=1) (D.int .i64) (zaK hy7),zgt (x:=1) (zaK hy7),hm10]
   obtain⟨y11,hy12,h⟩:=bs h
   try simp only[go_sem,zaZ hy7,zbn hy7,zbp hy7,zaK hy7,zba (D.int .i64) hy7,zgu (x:=1) (D.int .i64) (zaK hy7),zgt (x:=1) (zaK hy7),hm10,zab hy12,zad hy12,zac eNode hy12]
   obtain⟨r13,hr14,h⟩:=bs h
   replace hr14:=zag hr14
   refine zaj hr14 ?_
   try simp only[go_sem,zaZ hy7,zbn hy7,zbp hy7,zaK hy7,zba (D.int .i64) hy7,zgu (x:=1) (D.int .i64) (zaK hy7),zgt (x:=1) (zaK hy7),hm10,zab hy12,zad hy12,zac eNode hy12]
   cases h
   refine⟨rfl,Up.of (N:=19) (N':=52) [(18,42)] rfl rfl (by decide) ?_ ?_⟩
   ·refine zal.set ?_ (zal.set ?_ (zal.set ?_ (zal.set ?_ (zal.set ?_ (zal.set ?_ zal.none)))))
    all_goals (try simp only[go_sem,List.map_append,List.map_cons,List.map_nil,zaZ hy7,zbn hy7,zbp hy7,zaK hy7,zba (D.int .i64) hy7,zgu (x:=1) (D.int .i64) (zaK hy7),zgt (x:=1) (zaK hy7),hm10,zab hy12,zad hy12,zac eNode hy12])
    all_goals (first|exact VR.d _|exact VR.mb_sl (by simp) rfl (by simp)|exact VR.ptr' rfl|exact VR.sl'' rfl (by simp))
   refine zan.set (show zar _ _ (Heap.get _ 42)from ?_) (zan.set (show zar _ _ (Heap.get _ 6)from ?_) (zan.set (show zar _ _ (Heap.get _ 0)from ?_) (zan.at)))
   all_goals (try simp only[go_sem,List.map_append,List.map_cons,List.map_nil,zaZ hy7,zbn hy7,zbp hy7,zaK hy7,zba (D.int .i64) hy7,zgu (x:=1) (D.int .i64) (zaK hy7),zgt (x:=1) (zaK hy7),hm10,zab hy12,zad hy12,zac eNode hy12])
   all_goals (((repeat' first|exact zar.refl_d|refine zar.els (by simp) ?_|refine zar.mb_els (by simp) ?_|exact VR.d _|exact VRL.nil|exact VRL.refl_d _ _|refine VRL.append ?_ ?_|refine VRL.cons ?_ ?_);done))
  rw[if_neg (ff hc9)]at h
  try simp only[go_sem,zaZ hy7,zbn hy7,zbp hy7,zaK hy7,zba (D.int .i64) hy7]
  cases h
  refine⟨rfl,by simp,Up.of (N:=19) (N':=35) [] rfl rfl (by decide) ?_ ?_⟩
  ·refine zal.set ?_ (zal.set ?_ (zal.set ?_ (zal.set ?_ (zal.set ?_ (zal.set ?_ zal.none)))))
   all_goals (try simp only[go_sem,List.map_append,List.map_cons,List.map_nil,zaZ hy7,zbn hy7,zbp hy7,zaK hy7,zba (D.int .i64) hy7])
   all_goals (first|exact VR.d _|exact VR.mb rfl|exact VR.ptr' rfl|exact VR.sl'' rfl (by simp))
  refine zan.set (show zar _ _ (Heap.get _ 18)from ?_) (zan.set (show zar _ _ (Heap.get _ 6)from ?_) (zan.set (show zar _ _ (Heap.get _ 0)from ?_) (zan.at)))
  all_goals (try simp only[go_sem,List.map_append,List.map_cons,List.map_nil,zaZ hy7,zbn hy7,zbp hy7,zaK hy7,zba (D.int .i64) hy7])
  all_goals (((repeat' first|exact zar.refl_d|refine zar.els (by simp) ?_|refine zar.mb (by simp) ?_|exact VRL.refl_d _ _);done))
 rw[if_neg (ff hc5)]at h
 try simp only[go_sem,hc5]
 cases h
 refine⟨rfl,by simp,Up.of (N:=19) (N':=35) [] rfl rfl (by decide) ?_ ?_⟩
 ·refine zal.set ?_ (zal.set ?_ (zal.set ?_ (zal.set ?_ (zal.set ?_ (zal.set ?_ zal.none)))))
  all_goals (try simp only[go_sem,List.map_append,List.map_cons,List.map_nil])
  all_goals (first|exact VR.d _|exact VR.mb rfl|exact VR.ptr' rfl|exact VR.sl'' rfl (by simp))
 refine zan.set (show zar _ _ (Heap.get _ 18)from ?_) (zan.set (show zar _ _ (Heap.get _ 6)from ?_) (zan.set (show zar _ _ (Heap.get _ 0)from ?_) (zan.at)))
 all_goals (try simp only[go_sem,List.map_append,List.map_cons,List.map_nil])
 all_goals (((repeat' first|exact zar.refl_d|refine zar.els (by simp) ?_|refine zar.mb (by simp) ?_|exact VRL.refl_d _ _);done))
def zfE (a0:Forest) (x0:List (Int)×Int) (r20:List (Int)×Int×List (Int)) (r28:Int) (x2:List (Int)×Int):St:=⟨((((((((Regs.none.set 1 (.ptr 0 0 0)).set 3 (.sl 6 0 (((IntKind.wrap .i64 ((a0.nodes.l.length:Int)+1))).toNat))).set 7 (.d (.int .i64 r28))).set 19 (.d (.int .i64 (a0.nodes.l.length:Int)))).set 20 (.d (.int .i64 x0.2))).set 71 (mb 18 (r20.1.map fun z=>V.d ((D.int .i64) z)))).set 72 (.d (.int .i64 (r20.1.length:Int)))).set 73 (.d (.int .i64 x2.2))),((((Heap.at 39).set 0 (some (.els 1 [.d (eForest a0)] 0))).set 6 (some (.els 1 (x2.1.map fun z=>V.d ((D.int .i64) z)) (0)))).set 18 (mbB 1 r20.1.length (r20.1.map fun z=>V.d ((D.int .i64) z))))⟩
def zmm (a0:Forest) (x0:List (Int)×Int) (r20:List (Int)×Int×List (Int)) (r28:Int):((List (Int)))→Ex×St:=fun r=>(.exit 4,⟨((((Regs.none.set 1 (.ptr 0 0 0)).set 3 (.sl 6 0 (((IntKind.wrap .i64 ((a0.nodes.l.length:Int)+1))).toNat))).set 19 (.d (.int .i64 (a0.nodes.l.length:Int)))).set 20 (.d (.int .i64 x0.2))),(((Heap.at 39).set 0 (some (.els 1 [.d (eForest a0)] 0))).set 6 (some (.els 1 (r.map fun z=>V.d ((D.int .i64) z)) (0))))⟩)
noncomputable def zbY (a0:Forest) (x0:List (Int)×Int) (r20:List (Int)×Int×List (Int)) (r28:Int) (x2:List (Int)×Int):Option ((List (Int)×Int)⊕((List (Int)))):=
 if(decide (x2.2<(r20.1.length:Int)))=true then
  (rdA r20.1 r20.1.length x2.2).bind fun y32=>
  (rdA x2.1 (((IntKind.wrap .i64 ((a0.nodes.l.length:Int)+1))).toNat) y32).bind fun y34=>
  some (.inl ((x2.1.set (y32).toNat r28),(IntKind.wrap .i64 (x2.2+1))))
 else
  some (.inr x2.1)
theorem zxR (a0:Forest) (x0:List (Int)×Int) (r20:List (Int)×Int×List (Int)) (r28:Int) (x2:List (Int)×Int) (o:(List (Int)×Int)⊕((List (Int)))) (h:zbY a0 x0 r20 r28 x2=some o):Wp prog zkb (zfE a0 x0 r20 r28 x2) (zbF (0,[]) (zfE a0 x0 r20 r28) (zmm a0 x0 r20 r28) o):=by
 unfold zbY at h
 delta zkb zfE
 try simp only[go_sem]
 refine zaf (fun hc30=> ?_) (fun hc31=> ?_)
 ·rw[if_pos hc30]at h
  try simp only[go_sem]
  obtain⟨y32,hy33,h⟩:=bs h
  have hne_hy33:=zgf hy33
  try simp only[go_sem,zaZ hy33,zbn hy33,zbp hy33,zaK hy33,zba (D.int .i64) hy33,zBC (zgf hy33),zrf (zgf hy33)]
  obtain⟨y34,hy35,h⟩:=bs h
  try simp only[go_sem,zaZ hy33,zbn hy33,zbp hy33,zaK hy33,zba (D.int .i64) hy33,zBC (zgf hy33),zrf (zgf hy33),zaZ hy35,zbn hy35,zbp hy35,zaK hy35,zba (D.int .i64) hy35]
  cases h
  exact⟨rfl,Up.of (N:=39) (N':=50) [] rfl rfl (by decide) (.set (.d _) (.set (.d _) (.set (by exact VR.sl'' rfl (by rfl)) (.set (.d _) (.set (.d _) (.set (.d _) (.set (.sl'' rfl (by rfl)) (.set (.ptr' rfl) zal.none)))))))) (.set (by exact zar.arr (e:=(D.int .i64)) (l:=r20.1) (by rfl) (Nat.le_refl _)) (.set (zar.arr (e:=(D.int .i64)) (l:=(x2.1.set (y32).toNat r28)) (by rfl) (by exact Nat.le_refl _)) (.set zar.refl_d zan.at)))⟩
 rw[if_neg (ff hc31)]at h
 try simp only[go_sem]
 cases h
 exact⟨rfl,by simp,Up.of (N:=39) (N':=40) [] rfl rfl (by decide) (.set (.d _) (.set (.d _) (.set (.sl'' rfl (by rfl)) (.set (.ptr' rfl) zal.none)))) (.set (zar.arr (e:=(D.int .i64)) (l:=x2.1) (by rfl) (by exact Nat.le_refl _)) (.set zar.refl_d zan.at))⟩
def zfF (a0:Forest) (x0:List (Int)×Int) (r20:List (Int)×Int×List (Int)) (x3:List (Int)×Int):St:=⟨((((((((Regs.none.set 1 (.ptr 0 0 0)).set 3 (.sl 6 0 (((IntKind.wrap .i64 ((a0.nodes.l.length:Int)+1))).toNat))).set 7 (.d (.int .i64 (2)))).set 19 (.d (.int .i64 (a0.nodes.l.length:Int)))).set 20 (.d (.int .i64 x0.2))).set 71 (mb 18 (r20.1.map fun z=>V.d ((D.int .i64) z)))).set 72 (.d (.int .i64 (r20.1.length:Int)))).set 73 (.d (.int .i64 x3.2))),((((Heap.at 39).set 0 (some (.els 1 [.d (eForest a0)] 0))).set 6 (some (.els 1 (x3.1.map fun z=>V.d ((D.int .i64) z)) (0)))).set 18 (mbB 1 r20.1.length (r20.1.map fun z=>V.d ((D.int .i64) z))))⟩
def zmn (a0:Forest) (x0:List (Int)×Int) (r20:List (Int)×Int×List (Int)):((List (Int)))→Ex×St:=fun r=>(.exit 4,⟨((((Regs.none.set 1 (.ptr 0 0 0)).set 3 (.sl 6 0 (((IntKind.wrap .i64 ((a0.nodes.l.length:Int)+1))).toNat))).set 19 (.d (.int .i64 (a0.nodes.l.length:Int)))).set 20 (.d (.int .i64 x0.2))),(((Heap.at 39).set 0 (some (.els 1 [.d (eForest a0)] 0))).set 6 (some (.els 1 (r.map fun z=>V.d ((D.int .i64) z)) (0))))⟩)
noncomputable def zbZ (a0:Forest) (x0:List (Int)×Int) (r20:List (Int)×Int×List (Int)) (x3:List (Int)×Int):Option ((List (Int)×Int)⊕((List (Int)))):=
 if(decide (x3.2<(r20.1.length:Int)))=true then
  (rdA r20.1 r20.1.length x3.2).bind fun y40=>
  (rdA x3.1 (((IntKind.wrap .i64 ((a0.nodes.l.length:Int)+1))).toNat) y40).bind fun y42=>
  some (.inl ((x3.1.set (y40).toNat (2)),(IntKind.wrap .i64 (x3.2+1))))
 else
  some (.inr x3.1)
theorem zxS (a0:Forest) (x0:List (Int)×Int) (r20:List (Int)×Int×List (Int)) (x3:List (Int)×Int) (o:(List (Int)×Int)⊕((List (Int)))) (h:zbZ a0 x0 r20 x3=some o):Wp prog zkb (zfF a0 x0 r20 x3) (zbF (0,[]) (zfF a0 x0 r20) (zmn a0 x0 r20) o):=by
 unfold zbZ at h
 delta zkb zfF
 try simp only[go_sem]
 refine zaf (fun hc38=> ?_) (fun hc39=> ?_)
 ·rw[if_pos hc38]at h
  try simp only[go_sem]
  obtain⟨y40,hy41,h⟩:=bs h
  have hne_hy41:=zgf hy41
  try simp only[go_sem,zaZ hy41,zbn hy41,zbp hy41,zaK hy41,zba (D.int .i64) hy41,zBC (zgf hy41),zrf (zgf hy41)]
  obtain⟨y42,hy43,h⟩:=bs h
  try simp only[go_sem,zaZ hy41,zbn hy41,zbp hy41,zaK hy41,zba (D.int .i64) hy41,zBC (zgf hy41),zrf (zgf hy41),zaZ hy43,zbn hy43,zbp hy43,zaK hy43,zba (D.int .i64) hy43]
  cases h
  exact⟨rfl,Up.of (N:=39) (N':=50) [] rfl rfl (by decide) (.set (.d _) (.set (.d _) (.set (by exact VR.sl'' rfl (by rfl)) (.set (.d _) (.set (.d _) (.set (.d _) (.set (.sl'' rfl (by rfl)) (.set (.ptr' rfl) zal.none)))))))) (.set (by exact zar.arr (e:=(D.int .i64)) (l:=r20.1) (by rfl) (Nat.le_refl _)) (.set (zar.arr (e:=(D.int .i64)) (l:=(x3.1.set (y40).toNat (2))) (by rfl) (by exact Nat.le_refl _)) (.set zar.refl_d zan.at)))⟩
 rw[if_neg (ff hc39)]at h
 try simp only[go_sem]
 cases h
 exact⟨rfl,by simp,Up.of (N:=39) (N':=40) [] rfl rfl (by decide) (.set (.d _) (.set (.d _) (.set (.sl'' rfl (by rfl)) (.set (.ptr' rfl) zal.none)))) (.set (zar.arr (e:=(D.int .i64)) (l:=x3.1) (by rfl) (by exact Nat.le_refl _)) (.set zar.refl_d zan.at))⟩
def zfG (a0:Forest) (x0:List (Int)×Int):St:=⟨((((Regs.none.set 1 (.ptr 0 0 0)).set 3 (.sl 6 0 (((IntKind.wrap .i64 ((a0.nodes.l.length:Int)+1))).toNat))).set 19 (.d (.int .i64 (a0.nodes.l.length:Int)))).set 20 (.d (.int .i64 x0.2))),(((Heap.at 12).set 0 (some (.els 1 [.d (eForest a0)] 0))).set 6 (some (.els 1 (x0.1.map fun z=>V.d ((D.int .i64) z)) (0))))⟩
def zmo (a0:Forest):((List (Int)))→Ex×St:=fun r=>(.exit 0,⟨(Regs.none.set 3 (.sl 6 0 (((IntKind.wrap .i64 ((a0.nodes.l.length:Int)+1))).toNat))),((Heap.at 12).set 6 (some (.els 1 (r.map fun z=>V.d ((D.int .i64) z)) (0))))⟩)
noncomputable def zcj (a0:Forest) (x0:List (Int)×Int):Option ((List (Int)×Int)⊕((List (Int)))):=
 if(decide (x0.2<(a0.nodes.l.length:Int)))=true then
  (zaQ (zbP a0 x0) (x0.1,[],(IntKind.wrap .i64 (x0.2+1)))).bind fun r20=>
  if(bif (decide (1≤r20.2.1))then(decide (r20.2.1≤(a0.nodes.l.length:Int)))else false)=true then
   (rdA r20.2.2 (((IntKind.wrap .i64 ((a0.nodes.l.length:Int)+1))).toNat) r20.2.1).bind fun y24=>
   (if(!(y24==2))=true then
    some 3
   else
    some 2:Option ((Int))).bind fun r28=>
   (zaQ (zbY a0 x0 r20 r28) (r20.2.2,0)).bind fun r36=>
   some (.inl (r36,(IntKind.wrap .i64 (x0.2+1))))
  else
   (zaQ (zbZ a0 x0 r20) (r20.2.2,0)).bind fun r44=>
   some (.inl (r44,(IntKind.wrap .i64 (x0.2+1))))
 else
  some (.inr x0.1)
theorem zxT (a0:Forest) (x0:List (Int)×Int) (o:(List (Int)×Int)⊕((List (Int)))) (h:zcj a0 x0=some o):Wp prog zrs (zfG a0 x0) (zbF (0,[]) (zfG a0) (zmo a0) o):=by
 unfold zcj at h
 delta zrs zfG
 try simp only[go_sem]
 refine zaf (fun hc2=> ?_) (fun hc3=> ?_)
 ·rw[if_pos hc2]at h
  try simp only[go_sem]
  obtain⟨r20,hl21,h⟩:=bs h
  refine Wp.loopR zbc (n:=(0,[])) (a:=zrr) rfl (zfD a0 x0) (zml a0 x0) (zxQ a0 x0) hl21 ?_ (by(repeat(first|refine Clo.block ?_|refine Clo.seq zbc rfl ?_));(exact Clo.lpost (by decide))) ?_
  ·show Up (0,[]) (zfD a0 x0 (x0.1,[],(IntKind.wrap .i64 (x0.2+1)))) _
   delta zfD
   refine Up.of (N:=19) (N':=19) [] rfl rfl (by decide) ?_ ?_
   ·refine zal.set ?_ (zal.set ?_ (zal.set ?_ (zal.set ?_ (zal.set ?_ (zal.set ?_ zal.none)))))
    all_goals (try simp only[go_sem,List.map_append,List.map_cons,List.map_nil])
    all_goals (first|exact VR.d _|exact VR.ptr' rfl|exact VR.sl'' rfl (by simp))
   refine zan.set (show zar _ _ (Heap.get _ 18)from ?_) (zan.set (show zar _ _ (Heap.get _ 6)from ?_) (zan.set (show zar _ _ (Heap.get _ 0)from ?_) (zan.at)))
   all_goals (try simp only[go_sem,List.map_append,List.map_cons,List.map_nil])
   all_goals (((repeat' first|trivial|exact zar.refl_d|refine zar.els (by simp) ?_|exact VRL.refl_d _ _);done))
  dsimp only[zml]
  try simp only[go_sem]
  refine zaa (v:= .d (.int .i64 r20.2.1)) (fun hb50=>by simp only[go_sem,hc2,hb50]) ?_
  try simp only[go_sem]
  refine zaa (v:= .ptr 0 0 0) (fun hb49=>by simp only[go_sem,hc2,hb49]) ?_
  try simp only[go_sem]
  refine zaa (v:= .d (.list a0.nodes.n (a0.nodes.l.map eNode))) (fun hb48=>by simp only[go_sem,hc2,hb48]) ?_
  try simp only[go_sem]
  refine zaa (v:= .d (.int .i64 (a0.nodes.l.length:Int))) (fun hb47=>by simp only[go_sem,hc2,hb47]) ?_
  try simp only[go_sem]
  refine zaa (v:= .d (.bool (decide (r20.2.1≤(a0.nodes.l.length:Int))))) (fun hb46=>by simp only[go_sem,hc2,hb46]) ?_
  try simp only[go_sem]
  refine zay (fun hc22=> ?_) (fun hc23=> ?_)
  ·rw[if_pos hc22]at h
   try simp only[go_sem,hc22]
   obtain⟨y24,hy25,h⟩:=bs h
   try simp only[go_sem,zaZ hy25,zbn hy25,zbp hy25,zaK hy25,zba (D.int .i64) hy25]
   obtain⟨r28,hl29,h⟩:=bs h
   refine WBr.cut (n:=(0,[])) .normal ⟨((((((Regs.none.set 1 (.ptr 0 0 0)).set 3 (.sl 6 0 (((IntKind.wrap .i64 ((a0.nodes.l.length:Int)+1))).toNat))).set 5 (mb 18 (r20.1.map fun z=>V.d ((D.int .i64) z)))).set 7 (.d (.int .i64 r28))).set 19 (.d (.int .i64 (a0.nodes.l.length:Int)))).set 20 (.d (.int .i64 x0.2))),((((Heap.at 36).set 0 (some (.els 1 [.d (eForest a0)] 0))).set 6 (some (.els 1 (r20.2.2.map fun z=>V.d ((D.int .i64) z)) (0)))).set 18 (mbB 1 r20.1.length (r20.1.map fun z=>V.d ((D.int .i64) z))))⟩ ?_ (by(repeat(first|refine Clo.block ?_|refine Clo.seq zbc rfl ?_));(exact Clo.lpost (by decide))) ?_
   ·replace h:=hl29
    refine zav (fun hc26=> ?_) (fun hc27=> ?_)
    ·rw[if_pos (show(!(y24==2))=true by(rw[hc26];rfl))]at h
     try simp only[go_sem,zaZ hy25,zbn hy25,zbp hy25,zaK hy25,zba (D.int .i64) hy25]
     cases h
     exact⟨rfl,Up.of (N:=36) (N':=37) [] rfl rfl (by decide) (.set (.d _) (.set (.d _) (.set (.d _) (.set (.mb rfl) (.set (.sl'' rfl (by rfl)) (.set (.ptr' rfl) zal.none)))))) (.set (zar.mb (Nat.le_refl _) (VRL.refl_d _ _)) (.set (zar.arr (e:=(D.int .i64)) (l:=r20.2.2) (by rfl) (by exact Nat.le_refl _)) (.set zar.refl_d zan.at)))⟩
    rw[if_neg (ffn hc27)]at h
    try simp only[go_sem,zaZ hy25,zbn hy25,zbp hy25,zaK hy25,zba (D.int .i64) hy25]
    cases h
    exact⟨rfl,Up.of (N:=36) (N':=36) [] rfl rfl (by decide) (.set (.d _) (.set (.d _) (.set (.d _) (.set (.mb rfl) (.set (.sl'' rfl (by rfl)) (.set (.ptr' rfl) zal.none)))))) (.set (zar.mb (Nat.le_refl _) (VRL.refl_d _ _)) (.set (zar.arr (e:=(D.int .i64)) (l:=r20.2.2) (by rfl) (by exact Nat.le_refl _)) (.set zar.refl_d zan.at)))⟩
   try simp only[go_sem,zaZ hy25,zbn hy25,zbp hy25,zaK hy25,zba (D.int .i64) hy25]
   obtain⟨r36,hl37,h⟩:=bs h
   refine Wp.loopR zbc (n:=(0,[])) (a:=zkb) rfl (zfE a0 x0 r20 r28) (zmm a0 x0 r20 r28) (zxR a0 x0 r20 r28) hl37 ?_ (by(repeat(first|refine Clo.block ?_|refine Clo.seq zbc rfl ?_));(exact Clo.lpost (by decide))) ?_
   ·show Up (0,[]) (zfE a0 x0 r20 r28 (r20.2.2,0)) _
    delta zfE
    exact Up.of (N:=39) (N':=39) [] rfl rfl (by decide) (.set (.d _) (.set (.d _) (.set (.mb rfl) (.set (.d _) (.set (.d _) (.set (.d _) (.set (.sl'' rfl (by rfl)) (.set (.ptr' rfl) zal.none)))))))) (.set (zar.mb (Nat.le_refl _) (VRL.refl_d _ _)) (.set (zar.arr (e:=(D.int .i64)) (l:=r20.2.2) (by rfl) (by exact Nat.le_refl _)) (.set zar.refl_d zan.at)))
   dsimp only[zmm]
   try simp only[go_sem,zaZ hy25,zbn hy25,zbp hy25,zaK hy25,zba (D.int .i64) hy25]
   cases h
   exact⟨rfl,Up.of (N:=12) (N':=41) [] rfl rfl (by decide) (.set (.d _) (.set (.d _) (.set (.sl'' rfl (by rfl)) (.set (.ptr' rfl) zal.none)))) (.set (zar.arr (e:=(D.int .i64)) (l:=r36) (by rfl) (by exact Nat.le_refl _)) (.set zar.refl_d zan.at))⟩
  rw[if_neg (ff hc23)]at h
  try simp only[go_sem,hc23]
  obtain⟨r44,hl45,h⟩:=bs h
  refine Wp.loopR zbc (n:=(0,[])) (a:=zkb) rfl (zfF a0 x0 r20) (zmn a0 x0 r20) (zxS a0 x0 r20) hl45 ?_ (by(repeat(first|refine Clo.block ?_|refine Clo.seq zbc rfl ?_));(exact Clo.lpost (by decide))) ?_
  ·show Up (0,[]) (zfF a0 x0 r20 (r20.2.2,0)) _
   delta zfF
   exact Up.of (N:=39) (N':=39) [] rfl rfl (by decide) (.set (.d _) (.set (.d _) (.set (.mb rfl) (.set (.d _) (.set (.d _) (.set (.d _) (.set (.sl'' rfl (by rfl)) (.set (.ptr' rfl) zal.none)))))))) (.set (zar.mb (Nat.le_refl _) (VRL.refl_d _ _)) (.set (zar.arr (e:=(D.int .i64)) (l:=r20.2.2) (by rfl) (by exact Nat.le_refl _)) (.set zar.refl_d zan.at)))
  dsimp only[zmn]
  try simp only[go_sem]
  cases h
  exact⟨rfl,Up.of (N:=12) (N':=41) [] rfl rfl (by decide) (.set (.d _) (.set (.d _) (.set (.sl'' rfl (by rfl)) (.set (.ptr' rfl) zal.none)))) (.set (zar.arr (e:=(D.int .i64)) (l:=r44) (by rfl) (by exact Nat.le_refl _)) (.set zar.refl_d zan.at))⟩
 rw[if_neg (ff hc3)]at h
 try simp only[go_sem]
 cases h
 exact⟨rfl,by simp,Up.of (N:=12) (N':=13) [] rfl rfl (by decide) (.set (.sl'' rfl (by rfl)) zal.none) (.set (zar.arr (e:=(D.int .i64)) (l:=x0.1) (by rfl) (by exact Nat.le_refl _)) zan.at)⟩
def zfH (a0:Forest) (r51:List (Int)) (x4:List (Bool)×Int):St:=⟨((((Regs.none.set 3 (.sl 6 0 (((IntKind.wrap .i64 ((a0.nodes.l.length:Int)+1))).toNat))).set 10 (.sl 14 0 (((IntKind.wrap .i64 ((a0.nodes.l.length:Int)+1))).toNat))).set 87 (.d (.int .i64 (((((IntKind.wrap .i64 ((a0.nodes.l.length:Int)+1))).toNat):Nat):Int)))).set 88 (.d (.int .i64 x4.2))),(((Heap.at 19).set 6 (some (.els 1 (r51.map fun z=>V.d ((D.int .i64) z)) (0)))).set 14 (some (.els 1 (x4.1.map fun z=>V.d (D.bool z)) (0))))⟩
def zmp (a0:Forest) (r51:List (Int)):((List (Bool)))→Ex×St:=fun r=>(.exit 6,⟨(Regs.none.set 10 (.sl 14 0 (((IntKind.wrap .i64 ((a0.nodes.l.length:Int)+1))).toNat))),((Heap.at 19).set 14 (some (.els 1 (r.map fun z=>V.d (D.bool z)) (0))))⟩)
noncomputable def zcL (a0:Forest) (r51:List (Int)) (x4:List (Bool)×Int):Option ((List (Bool)×Int)⊕((List (Bool)))):=
 if(decide (x4.2<(((((IntKind.wrap .i64 ((a0.nodes.l.length:Int)+1))).toNat):Nat):Int)))=true then
  (rdA r51 (((IntKind.wrap .i64 ((a0.nodes.l.length:Int)+1))).toNat) x4.2).bind fun y56=>
  (rdA x4.1 (((IntKind.wrap .i64 ((a0.nodes.l.length:Int)+1))).toNat) x4.2).bind fun y58=>
  some (.inl ((x4.1.set (x4.2).toNat (y56==2)),(IntKind.wrap .i64 (x4.2+1))))
 else
  some (.inr x4.1)
theorem zxU (a0:Forest) (r51:List (Int)) (x4:List (Bool)×Int) (o:(List (Bool)×Int)⊕((List (Bool)))) (h:zcL a0 r51 x4=some o):Wp prog zrt (zfH a0 r51 x4) (zbF (0,[]) (zfH a0 r51) (zmp a0 r51) o):=by
 unfold zcL at h
 delta zrt zfH
 try simp only[go_sem]
 refine zaf (fun hc54=> ?_) (fun hc55=> ?_)
 ·rw[if_pos hc54]at h
  try simp only[go_sem]
  obtain⟨y56,hy57,h⟩:=bs h
  try simp only[go_sem,zaZ hy57,zbn hy57,zbp hy57,zaK hy57,zba (D.int .i64) hy57]
  obtain⟨y58,hy59,h⟩:=bs h
  try simp only[go_sem,zaZ hy57,zbn hy57,zbp hy57,zaK hy57,zba (D.int .i64) hy57,zaZ hy59,zbn hy59,zbp hy59,zaK hy59,zba D.bool hy59]
  cases h
  exact⟨rfl,Up.of (N:=19) (N':=33) [] rfl rfl (by decide) (.set (.d _) (.set (.d _) (.set (.sl'' rfl (by rfl)) (.set (.sl'' rfl (by rfl)) zal.none)))) (.set (zar.arr (e:=D.bool) (l:=(x4.1.set (x4.2).toNat (y56==2))) (by rfl) (by exact Nat.le_refl _)) (.set (zar.arr (e:=(D.int .i64)) (l:=r51) (by rfl) (by exact Nat.le_refl _)) zan.at))⟩
 rw[if_neg (ff hc55)]at h
 try simp only[go_sem]
 cases h
 exact⟨rfl,by simp,Up.of (N:=19) (N':=20) [] rfl rfl (by decide) (.set (.sl'' rfl (by rfl)) zal.none) (.set (zar.arr (e:=D.bool) (l:=x4.1) (by rfl) (by exact Nat.le_refl _)) zan.at)⟩
noncomputable def zMc (a0:Forest):Option (Sl (Bool)):=
 if 0≤(IntKind.wrap .i64 ((a0.nodes.l.length:Int)+1))∧((IntKind.wrap .i64 ((a0.nodes.l.length:Int)+1))).toNat*8≤AI.roomBytes then
  (zaQ (zcj a0) ((List.replicate ((IntKind.wrap .i64 ((a0.nodes.l.length:Int)+1))).toNat 0),0)).bind fun r51=>
  if 0≤((((IntKind.wrap .i64 ((a0.nodes.l.length:Int)+1))).toNat:Nat):Int)∧(((IntKind.wrap .i64 ((a0.nodes.l.length:Int)+1))).toNat)*1≤AI.roomBytes then
   (zaQ (zcL a0 r51) ((List.replicate (((IntKind.wrap .i64 ((a0.nodes.l.length:Int)+1))).toNat) false),0)).bind fun r60=>
   if r60.length=(((IntKind.wrap .i64 ((a0.nodes.l.length:Int)+1))).toNat)then
    some (⟨false,r60⟩)
   else none
  else none
 else none
theorem zMd (a0:Forest) (r:Sl (Bool)) (h:zMc a0=some r):pc prog 191 [eForest a0]=some ((eSl D.bool) r):=by
 unfold zMc at h
 refine zaV (fn:=zKw) rfl rfl ?_
 delta zKw
 try simp only[go_sem]
 obtain⟨hm1,h⟩:=zcP h
 simp only[go_sem,zjr,zjt,hm1.1,hm1.2,Nat.le_refl,and_self,if_true,Option.bind_some,zxo,zrg,zxp]
 obtain⟨r51,hl52,h⟩:=bs h
 refine Wp.loopR zbc (n:=(0,[])) (a:=zrs) rfl (zfG a0) (zmo a0) (zxT a0) hl52 ?_ (by(repeat(first|refine Clo.block ?_|refine Clo.seq zbc rfl ?_));(exact Clo.ret)) ?_
 ·show Up (0,[]) (zfG a0 ((List.replicate ((IntKind.wrap .i64 ((a0.nodes.l.length:Int)+1))).toNat 0),0)) _
  delta zfG
  exact Up.of (N:=12) (N':=12) [] rfl rfl (by decide) (.set (.d _) (.set (.d _) (.set (.sl'' rfl (by rfl)) (.set (.ptr' rfl) zal.none)))) (.set (zar.arr (e:=(D.int .i64)) (l:=(List.replicate ((IntKind.wrap .i64 ((a0.nodes.l.length:Int)+1))).toNat 0)) (by rfl) (by exact Nat.le_refl _)) (.set zar.refl_d zan.at))
 dsimp only[zmo]
 try simp only[go_sem,hm1.1,hm1.2]
 obtain⟨hm53,h⟩:=zcP h
 simp only[go_sem,hm1.1,hm1.2,zjr,zjt,hm53.1,hm53.2,Nat.le_refl,and_self,if_true,Option.bind_some,zxo,zrg,zxp]
 obtain⟨r60,hl61,h⟩:=bs h
 refine Wp.loopR zbc (n:=(0,[])) (a:=zrt) rfl (zfH a0 r51) (zmp a0 r51) (zxU a0 r51) hl61 ?_ (by(repeat(first|refine Clo.block ?_|refine Clo.seq zbc rfl ?_));(exact Clo.ret)) ?_
 ·show Up (0,[]) (zfH a0 r51 ((List.replicate (((IntKind.wrap .i64 ((a0.nodes.l.length:Int)+1))).toNat) false),0)) _
  delta zfH
  exact Up.of (N:=19) (N':=19) [] rfl rfl (by decide) (.set (.d _) (.set (.d _) (.set (.sl'' rfl (by rfl)) (.set (.sl'' rfl (by rfl)) zal.none)))) (.set (zar.arr (e:=D.bool) (l:=(List.replicate (((IntKind.wrap .i64 ((a0.nodes.l.length:Int)+1))).toNat) false)) (by rfl) (by exact Nat.le_refl _)) (.set (zar.arr (e:=(D.int .i64)) (l:=r51) (by rfl) (by exact Nat.le_refl _)) zan.at))
 dsimp only[zmp]
 try simp only[go_sem,hm1.1,hm1.2,hm53.1,hm53.2]
 obtain⟨hq62,h⟩:=zcP h
 cases h
 refine Reads.ofv (v':= .sl 14 0 (((IntKind.wrap .i64 ((a0.nodes.l.length:Int)+1))).toNat)) (by rfl) (Rd.sl (e:=D.bool) (l:=r60) (sz:=1) (fz:=0) (m:=r60.map fun z=>V.d (D.bool z)) (by simp only[go_sem,List.map_append,List.map_cons,List.map_nil,hm1.1,hm1.2,hm53.1,hm53.2,hq62]) rfl (by exact hq62)) rfl
noncomputable def zMe (a0:Node):Option (Bool):=
 (dec zaA (pc prog 215 [.int .u8 a0.kind])).bind fun r1=>
 (if r1.known=true then
  (dec D.bool (pc prog 216 [eNode a0,zaA r1])).bind fun r5=>
  if r5=true then
   (dec D.bool (pc prog 217 [.list a0.attrs.n (a0.attrs.l.map zaN)])).bind fun r9=>
   some (!r9)
  else
   some true
 else
  some true:Option ((Bool))).bind fun r13=>
 if r13=true then
  some false
 else
  (dec D.bool (pc prog 218 [.list false (([a0.public_,a0.system]).map D.str)])).bind fun r17=>
  if r17=true then
   (if(!(a0.kind==10))=true then
    some (bif (!(a0.public_==[]))then true else(!(a0.system==[])))
   else
    some false:Option ((Bool))).bind fun r23=>
   if r23=true then
    some false
   else
    (if(!(decide (16384<(a0.data.l.length:Int))))=true then
     if(!(bif (!r1.data)then(decide (0<(a0.data.l.length:Int)))else false))=true then
      some (bif (!r1.kids)then(decide (0<(a0.kids.l.length:Int)))else false)
     else
      some true
    else
     some true:Option ((Bool))).bind fun r47=>
    (if r47=true then
     some (.inr ())
    else
     if(!(a0.kind==1))=true then
      if(!(bif (decide (0<(a0.attrs.l.length:Int)))then true else(!(a0.shadow==0))))=true then
       if(bif (!(a0.kind==9))then a0.hTML else false)=true then
        some (.inr ())
       else
        if(bif (!r1.hung)then(!(a0.parent==0))else false)=true then
         some (.inr ())
        else
         some (.inl ())
      else
       some (.inr ())
     else
      if(bif (!(a0.kind==9))then a0.hTML else false)=true then
       some (.inr ())
      else
       if(bif (!r1.hung)then(!(a0.parent==0))else false)=true then
        some (.inr ())
       else
        some (.inl ()):Option ((Unit)⊕(Unit))).bind fun r95=>
    match r95 with
    |(.inl q97)=>
     if(a0.kind==12)=true then
      some (bif (a0.mode==1)then true else(a0.mode==2))
     else
      some (bif (bif (a0.mode==0)then(!a0.manual)else false)then(a0.host==0)else false)
    |(.inr q109)=>
     some false
  else
   some false
theorem zMf (a0:Node) (r:Bool) (h:zMe a0=some r):pc prog 192 [eNode a0]=some (D.bool r):=by
 unfold zMe at h
 refine zaV (fn:=zKx) rfl rfl ?_
 delta zKx
 try simp only[go_sem]
 obtain⟨r1,hr2,h⟩:=bs h
 replace hr2:=zag hr2
 refine zaj hr2 ?_
 try simp only[go_sem]
 refine zaa (v:= .d (eNode a0)) (fun hb158=>by simp only[go_sem,hb158]) ?_
 try simp only[go_sem]
 refine zaa (v:= .d (zaA r1)) (fun hb157=>by simp only[go_sem,hb157]) ?_
 try simp only[go_sem]
 obtain⟨r13,hl14,h⟩:=bs h
 refine zbH.cut (n:=(0,[])) .normal ⟨((((Regs.none.set 1 (.ptr 0 0 0)).set 3 (.ptr 5 0 0)).set 4 (.d (.bool (a0.kind==1)))).set 11 (.d (.bool r13))),(((Heap.at 27).set 0 (some (.els 16 [.d (eNode a0)] 0))).set 5 (some (.els 6 [.d (zaA r1)] 0)))⟩ ?_ (by(repeat(first|refine Clo.block ?_|refine Clo.seq zbc rfl ?_));(exact Clo.ret)) ?_
 ·replace h:=hl14
  refine zay (fun hc3=> ?_) (fun hc4=> ?_)
  ·rw[if_pos hc3]at h
   try simp only[go_sem,hc3]
   obtain⟨r5,hr6,h⟩:=bs h
   replace hr6:=zag hr6
   refine zaj hr6 ?_
   try simp only[go_sem]
   refine zaa (v:= .ptr 0 0 7) (fun hb12=>by simp only[go_sem,hc3,hb12]) ?_
   try simp only[go_sem]
   refine zaa (v:= .d (.list a0.attrs.n (a0.attrs.l.map zaN))) (fun hb11=>by simp only[go_sem,hc3,hb11]) ?_
   try simp only[go_sem]
   refine zay (fun hc7=> ?_) (fun hc8=> ?_)
   ·rw[if_pos hc7]at h
    try simp only[go_sem,hc7]
    obtain⟨r9,hr10,h⟩:=bs h
    replace hr10:=zag hr10
    refine zaj hr10 ?_
    try simp only[go_sem]
    cases h
    exact⟨rfl,Up.of (N:=27) (N':=27) [] rfl rfl (by decide) (.set (.d _) (.set (.d _) (.set (.ptr' rfl) (.set (.ptr' rfl) zal.none)))) (.set zar.refl_d (.set zar.refl_d zan.at))⟩
   rw[if_neg (ff hc8)]at h
   try simp only[go_sem,hc8]
   cases h
   exact⟨rfl,Up.of (N:=27) (N':=27) [] rfl rfl (by decide) (.set (.d _) (.set (.d _) (.set (.ptr' rfl) (.set (.ptr' rfl) zal.none)))) (.set zar.refl_d (.set zar.refl_d zan.at))⟩
  rw[if_neg (ff hc4)]at h
  try simp only[go_sem,hc4]
  cases h
  exact⟨rfl,Up.of (N:=27) (N':=27) [] rfl rfl (by decide) (.set (.d _) (.set (.d _) (.set (.ptr' rfl) (.set (.ptr' rfl) zal.none)))) (.set zar.refl_d (.set zar.refl_d zan.at))⟩
 try simp only[go_sem]
 refine zaf (fun hc15=> ?_) (fun hc16=> ?_)
 ·rw[if_pos hc15]at h
  try simp only[go_sem]
  cases h
  rfl
 rw[if_neg (ff hc16)]at h
 try simp only[go_sem]
 obtain⟨r17,hr18,h⟩:=bs h
 replace hr18:=zag hr18
 refine zaj hr18 ?_
 try simp only[go_sem]
 refine zaa (v:= .ptr 0 0 0) (fun hb156=>by simp only[go_sem,hc16,hb156]) ?_
 try simp only[go_sem]
 refine zaa (v:= .d (.int .u8 a0.kind)) (fun hb155=>by simp only[go_sem,hc16,hb155]) ?_
 try simp only[go_sem]
 refine zaa (v:= .d (.bool (!(a0.kind==10)))) (fun hb154=>by simp only[go_sem,hc16,hb154]) ?_
 try simp only[go_sem]
 refine zaa (v:= .d (.bool (!(a0.kind==10)))) (fun hb153=>by simp only[go_sem,hc16,hb153]) ?_
 try simp only[go_sem]
 refine zaa (v:= .ptr 0 0 4) (fun hb150=>by((obtain⟨hb151,hb152⟩:=zaq hb150));simp only[go_sem,hc16,hb152,hb151]) ?_
 try simp only[go_sem]
 refine zaa (v:= .d (.str a0.public_)) (fun hb147=>by((obtain⟨hb148,hb149⟩:=zaq hb147));simp only[go_sem,hc16,hb149,hb148]) ?_
 try simp only[go_sem]
 refine zaa (v:= .d (.bool (!(a0.public_==[])))) (fun hb144=>by((obtain⟨hb145,hb146⟩:=zaq hb144));simp only[go_sem,hc16,hb146,hb145]) ?_
 try simp only[go_sem]
 refine zaa (v:= .d (.bool (!(a0.public_==[])))) (fun hb141=>by((obtain⟨hb142,hb143⟩:=zaq hb141));simp only[go_sem,hc16,hb143,hb142]) ?_
 try simp only[go_sem]
 refine zaa (v:= .ptr 0 0 5) (fun hb136=>by((obtain⟨hb137,hb138⟩:=zaq hb136);(obtain⟨hb139,hb140⟩:=zaq hb137));simp only[go_sem,hc16,hb138,hb140,hb139]) ?_
 try simp only[go_sem]
 refine zaa (v:= .d (.str a0.system)) (fun hb131=>by((obtain⟨hb132,hb133⟩:=zaq hb131);(obtain⟨hb134,hb135⟩:=zaq hb132));simp only[go_sem,hc16,hb133,hb135,hb134]) ?_
 try simp only[go_sem]
 refine zaa (v:= .d (.bool (!(a0.system==[])))) (fun hb126=>by((obtain⟨hb127,hb128⟩:=zaq hb126);(obtain⟨hb129,hb130⟩:=zaq hb127));simp only[go_sem,hc16,hb128,hb130,hb129]) ?_
 try simp only[go_sem]
 rcases Bool.eq_false_or_eq_true (r17)with hc19|hc20
 ·rw[if_pos hc19]at h
  try simp only[go_sem,hc19]
  obtain⟨r23,hl24,h⟩:=bs h
  refine zbH.cut (n:=(0,[])) .normal ⟨((((Regs.none.set 1 (.ptr 0 0 0)).set 3 (.ptr 5 0 0)).set 4 (.d (.bool (a0.kind==1)))).set 27 (.d (.bool r23))),(((Heap.at 50).set 0 (some (.els 16 [.d (eNode a0)] 0))).set 5 (some (.els 6 [.d (zaA r1)] 0)))⟩ ?_ (by(repeat(first|refine Clo.block ?_|refine Clo.seq zbc rfl ?_));(exact Clo.ret)) ?_
  ·replace h:=hl24
   refine zau (fun hc21=> ?_) (fun hc22=> ?_)
   ·rw[if_pos (show(!(a0.kind==10))=true by(rw[hc21];rfl))]at h
    try simp only[go_sem,hc21]
    try simp only[go_sem,hc16,hc19,hc21]
    cases h
    exact⟨rfl,Up.of (N:=50) (N':=50) [] rfl rfl (by decide) (.set (.d _) (.set (.d _) (.set (.ptr' rfl) (.set (.ptr' rfl) zal.none)))) (.set zar.refl_d (.set zar.refl_d zan.at))⟩
   rw[if_neg (ffn hc22)]at h
   try simp only[go_sem,hc22]
   try simp only[go_sem,hc16,hc19,hc22]
   cases h
   exact⟨rfl,Up.of (N:=50) (N':=50) [] rfl rfl (by decide) (.set (.d _) (.set (.d _) (.set (.ptr' rfl) (.set (.ptr' rfl) zal.none)))) (.set zar.refl_d (.set zar.refl_d zan.at))⟩
  try simp only[go_sem]
  refine zaf (fun hc25=> ?_) (fun hc26=> ?_)
  ·rw[if_pos hc25]at h
   try simp only[go_sem]
   cases h
   rfl
  rw[if_neg (ff hc26)]at h
  try simp only[go_sem]
  refine zaa (v:= .ptr 5 0 1) (fun hb125=>by simp only[go_sem,hc16,hc19,hc26,hb125]) ?_
  try simp only[go_sem]
  refine zaa (v:= .d (.bool r1.data)) (fun hb124=>by simp only[go_sem,hc16,hc19,hc26,hb124]) ?_
  try simp only[go_sem]
  refine zaa (v:= .d (.bool (!r1.data))) (fun hb123=>by simp only[go_sem,hc16,hc19,hc26,hb123]) ?_
  try simp only[go_sem]
  refine zaa (v:= .d (.bool (!r1.data))) (fun hb122=>by simp only[go_sem,hc16,hc19,hc26,hb122]) ?_
  try simp only[go_sem]
  refine zaa (v:= .ptr 0 0 6) (fun hb119=>by((obtain⟨hb120,hb121⟩:=zaq hb119));simp only[go_sem,hc16,hc19,hc26,hb121,hb120]) ?_
  try simp only[go_sem]
  refine zaa (v:= .d (.list a0.data.n (a0.data.l.map (D.int .u16)))) (fun hb116=>by((obtain⟨hb117,hb118⟩:=zaq hb116));simp only[go_sem,hc16,hc19,hc26,hb118,hb117]) ?_
  try simp only[go_sem]
  refine zaa (v:= .d (.int .i64 (a0.data.l.length:Int))) (fun hb113=>by((obtain⟨hb114,hb115⟩:=zaq hb113));simp only[go_sem,hc16,hc19,hc26,hb115,hb114]) ?_
  try simp only[go_sem]
  refine zaa (v:= .d (.bool (decide (0<(a0.data.l.length:Int))))) (fun hb110=>by((obtain⟨hb111,hb112⟩:=zaq hb110));simp only[go_sem,hc16,hc19,hc26,hb112,hb111]) ?_
  try simp only[go_sem]
  obtain⟨r47,hl48,h⟩:=bs h
  refine zbH.cut (n:=(0,[])) .normal ⟨((((Regs.none.set 1 (.ptr 0 0 0)).set 3 (.ptr 5 0 0)).set 4 (.d (.bool (a0.kind==1)))).set 50 (.d (.bool r47))),(((Heap.at 77).set 0 (some (.els 16 [.d (eNode a0)] 0))).set 5 (some (.els 6 [.d (zaA r1)] 0)))⟩ ?_ (by(repeat(first|refine Clo.block ?_|refine Clo.seq zbc rfl ?_));(exact Clo.ret)) ?_
  ·replace h:=hl48
   refine zau (fun hc27=> ?_) (fun hc28=> ?_)
   ·rw[if_pos (show(!(decide (16384<(a0.data.l.length:Int))))=true by(rw[hc27];rfl))]at h
    try simp only[go_sem,hc27]
    refine zaa (v:= .ptr 5 0 2) (fun hb46=>by simp only[go_sem,hc16,hc19,hc26,hc27,hb46]) ?_
    try simp only[go_sem]
    refine zaa (v:= .d (.bool r1.kids)) (fun hb45=>by simp only[go_sem,hc16,hc19,hc26,hc27,hb45]) ?_
    try simp only[go_sem]
    refine zaa (v:= .d (.bool (!r1.kids))) (fun hb44=>by simp only[go_sem,hc16,hc19,hc26,hc27,hb44]) ?_
    try simp only[go_sem]
    refine zaa (v:= .d (.bool (!r1.kids))) (fun hb43=>by simp only[go_sem,hc16,hc19,hc26,hc27,hb43]) ?_
    try simp only[go_sem]
    refine zaa (v:= .ptr 0 0 9) (fun hb40=>by((obtain⟨hb41,hb42⟩:=zaq hb40));simp only[go_sem,hc16,hc19,hc26,hc27,hb42,hb41]) ?_
    try simp only[go_sem]
    refine zaa (v:= .d (.list a0.kids.n (a0.kids.l.map (D.int .i64)))) (fun hb37=>by((obtain⟨hb38,hb39⟩:=zaq hb37));simp only[go_sem,hc16,hc19,hc26,hc27,hb39,hb38]) ?_
    try simp only[go_sem]
    refine zaa (v:= .d (.int .i64 (a0.kids.l.length:Int))) (fun hb34=>by((obtain⟨hb35,hb36⟩:=zaq hb34));simp only[go_sem,hc16,hc19,hc26,hc27,hb36,hb35]) ?_
    try simp only[go_sem]
    refine zaa (v:= .d (.bool (decide (0<(a0.kids.l.length:Int))))) (fun hb31=>by((obtain⟨hb32,hb33⟩:=zaq hb31));simp only[go_sem,hc16,hc19,hc26,hc27,hb33,hb32]) ?_
    try simp only[go_sem]
    refine zau (fun hc29=> ?_) (fun hc30=> ?_)
    ·rw[if_pos (show(!(bif (!r1.data)then(decide (0<(a0.data.l.length:Int)))else false))=true by(rw[hc29];rfl))]at h
     try simp only[go_sem,hc29]
     cases h
     exact⟨rfl,Up.of (N:=77) (N':=77) [] rfl rfl (by decide) (.set (.d _) (.set (.d _) (.set (.ptr' rfl) (.set (.ptr' rfl) zal.none)))) (.set zar.refl_d (.set zar.refl_d zan.at))⟩
    rw[if_neg (ffn hc30)]at h
    try simp only[go_sem,hc30]
    cases h
    exact⟨rfl,Up.of (N:=77) (N':=77) [] rfl rfl (by decide) (.set (.d _) (.set (.d _) (.set (.ptr' rfl) (.set (.ptr' rfl) zal.none)))) (.set zar.refl_d (.set zar.refl_d zan.at))⟩
   rw[if_neg (ffn hc28)]at h
   try simp only[go_sem,hc28]
   cases h
   exact⟨rfl,Up.of (N:=77) (N':=77) [] rfl rfl (by decide) (.set (.d _) (.set (.d _) (.set (.ptr' rfl) (.set (.ptr' rfl) zal.none)))) (.set zar.refl_d (.set zar.refl_d zan.at))⟩
  try simp only[go_sem]
  obtain⟨r95,hl96,h⟩:=bs h
  refine WBr.cut (n:=(0,[])) ((fun r=>match r with|(.inl r)=>(.normal,⟨(Regs.none.set 1 (.ptr 0 0 0)),((Heap.at 77).set 0 (some (.els 16 [.d (eNode a0)] 0)))⟩)|(.inr r)=>(.ret,⟨(Regs.none.set 2 (.d (.bool false))),(Heap.at 77)⟩):((Unit)⊕(Unit))→Ex×St) r95).1 ((fun r=>match r with|(.inl r)=>(.normal,⟨(Regs.none.set 1 (.ptr 0 0 0)),((Heap.at 77).set 0 (some (.els 16 [.d (eNode a0)] 0)))⟩)|(.inr r)=>(.ret,⟨(Regs.none.set 2 (.d (.bool false))),(Heap.at 77)⟩):((Unit)⊕(Unit))→Ex×St) r95).2 ?_ (by(repeat(first|refine Clo.block ?_|refine Clo.seq zbc rfl ?_));(exact Clo.ret)) ?_
  ·replace h:=hl96
   refine zaf (fun hc49=> ?_) (fun hc50=> ?_)
   ·rw[if_pos hc49]at h
    try simp only[go_sem]
    cases h
    exact⟨rfl,Up.of (N:=77) (N':=78) [] rfl rfl (by decide) (.set (.d _) zal.none) zan.at⟩
   rw[if_neg (ff hc50)]at h
   try simp only[go_sem]
   refine zaa (v:= .ptr 0 0 7) (fun hb94=>by simp only[go_sem,hc16,hc19,hc26,hc50,hb94]) ?_
   try simp only[go_sem]
   refine zaa (v:= .d (.list a0.attrs.n (a0.attrs.l.map zaN))) (fun hb93=>by simp only[go_sem,hc16,hc19,hc26,hc50,hb93]) ?_
   try simp only[go_sem]
   refine zaa (v:= .d (.int .i64 (a0.attrs.l.length:Int))) (fun hb92=>by simp only[go_sem,hc16,hc19,hc26,hc50,hb92]) ?_
   try simp only[go_sem]
   refine zaa (v:= .d (.bool (decide (0<(a0.attrs.l.length:Int))))) (fun hb91=>by simp only[go_sem,hc16,hc19,hc26,hc50,hb91]) ?_
   try simp only[go_sem]
   refine zaa (v:= .d (.bool (decide (0<(a0.attrs.l.length:Int))))) (fun hb90=>by simp only[go_sem,hc16,hc19,hc26,hc50,hb90]) ?_
   try simp only[go_sem]
   refine zaa (v:= .ptr 0 0 12) (fun hb87=>by((obtain⟨hb88,hb89⟩:=zaq hb87));simp only[go_sem,hc16,hc19,hc26,hc50,hb89,hb88]) ?_
   try simp only[go_sem]
   refine zaa (v:= .d (.int .i64 a0.shadow)) (fun hb84=>by((obtain⟨hb85,hb86⟩:=zaq hb84));simp only[go_sem,hc16,hc19,hc26,hc50,hb86,hb85]) ?_
   try simp only[go_sem]
   refine zaa (v:= .d (.bool (!(a0.shadow==0)))) (fun hb81=>by((obtain⟨hb82,hb83⟩:=zaq hb81));simp only[go_sem,hc16,hc19,hc26,hc50,hb83,hb82]) ?_
   try simp only[go_sem]
   refine zau (fun hc51=> ?_) (fun hc52=> ?_)
   ·rw[if_pos (show(!(a0.kind==1))=true by(rw[hc51];rfl))]at h
    try simp only[go_sem,hc51]
    refine zaa (v:= .ptr 0 0 0) (fun hb71=>by simp only[go_sem,hc16,hc19,hc26,hc50,hc51,hb71]) ?_
    try simp only[go_sem]
    refine zaa (v:= .d (.int .u8 a0.kind)) (fun hb70=>by simp only[go_sem,hc16,hc19,hc26,hc50,hc51,hb70]) ?_
    try simp only[go_sem]
    refine zaa (v:= .d (.bool (!(a0.kind==9)))) (fun hb69=>by simp only[go_sem,hc16,hc19,hc26,hc50,hc51,hb69]) ?_
    try simp only[go_sem]
    refine zaa (v:= .d (.bool (!(a0.kind==9)))) (fun hb68=>by simp only[go_sem,hc16,hc19,hc26,hc50,hc51,hb68]) ?_
    try simp only[go_sem]
    refine zaa (v:= .ptr 0 0 15) (fun hb65=>by((obtain⟨hb66,hb67⟩:=zaq hb65));simp only[go_sem,hc16,hc19,hc26,hc50,hc51,hb67,hb66]) ?_
    try simp only[go_sem]
    refine zaa (v:= .d (.bool a0.hTML)) (fun hb62=>by((obtain⟨hb63,hb64⟩:=zaq hb62));simp only[go_sem,hc16,hc19,hc26,hc50,hc51,hb64,hb63]) ?_
    try simp only[go_sem]
    refine zau (fun hc53=> ?_) (fun hc54=> ?_)
    ·rw[if_pos (show(!(bif (decide (0<(a0.attrs.l.length:Int)))then true else(!(a0.shadow==0))))=true by(rw[hc53];rfl))]at h
     try simp only[go_sem,hc53]
     refine zaf (fun hc55=> ?_) (fun hc56=> ?_)
     ·rw[if_pos hc55]at h
      try simp only[go_sem]
      cases h
      exact⟨rfl,Up.of (N:=77) (N':=101) [] rfl rfl (by decide) (.set (.d _) zal.none) zan.at⟩
     rw[if_neg (ff hc56)]at h
     try simp only[go_sem]
     refine zaa (v:= .ptr 0 0 8) (fun hb61=>by simp only[go_sem,hc16,hc19,hc26,hc50,hc51,hc53,hc56,hb61]) ?_
     try simp only[go_sem]
     refine zaa (v:= .d (.int .i64 a0.parent)) (fun hb60=>by simp only[go_sem,hc16,hc19,hc26,hc50,hc51,hc53,hc56,hb60]) ?_
     try simp only[go_sem]
     refine zaa (v:= .d (.bool (!(a0.parent==0)))) (fun hb59=>by simp only[go_sem,hc16,hc19,hc26,hc50,hc51,hc53,hc56,hb59]) ?_
     try simp only[go_sem]
     refine zaf (fun hc57=> ?_) (fun hc58=> ?_)
     ·rw[if_pos hc57]at h
      try simp only[go_sem]
      cases h
      exact⟨rfl,Up.of (N:=77) (N':=110) [] rfl rfl (by decide) (.set (.d _) zal.none) zan.at⟩
     rw[if_neg (ff hc58)]at h
     try simp only[go_sem]
     cases h
     exact⟨rfl,Up.of (N:=77) (N':=109) [] rfl rfl (by decide) (.set (.ptr' rfl) zal.none) (.set zar.refl_d zan.at)⟩
    rw[if_neg (ffn hc54)]at h
    try simp only[go_sem,hc54]
    cases h
    exact⟨rfl,Up.of (N:=77) (N':=101) [] rfl rfl (by decide) (.set (.d _) zal.none) zan.at⟩
   rw[if_neg (ffn hc52)]at h
   try simp only[go_sem,hc52]
   refine zaa (v:= .ptr 0 0 15) (fun hb80=>by simp only[go_sem,hc16,hc19,hc26,hc50,hc52,hb80]) ?_
   try simp only[go_sem]
   refine zaa (v:= .d (.bool a0.hTML)) (fun hb79=>by simp only[go_sem,hc16,hc19,hc26,hc50,hc52,hb79]) ?_
   try simp only[go_sem]
   refine zaf (fun hc72=> ?_) (fun hc73=> ?_)
   ·rw[if_pos hc72]at h
    try simp only[go_sem]
    cases h
    exact⟨rfl,Up.of (N:=77) (N':=101) [] rfl rfl (by decide) (.set (.d _) zal.none) zan.at⟩
   rw[if_neg (ff hc73)]at h
   try simp only[go_sem]
   refine zaa (v:= .ptr 0 0 8) (fun hb78=>by simp only[go_sem,hc16,hc19,hc26,hc50,hc52,hc73,hb78]) ?_
   try simp only[go_sem]
   refine zaa (v:= .d (.int .i64 a0.parent)) (fun hb77=>by simp only[go_sem,hc16,hc19,hc26,hc50,hc52,hc73,hb77]) ?_
   try simp only[go_sem]
   refine zaa (v:= .d (.bool (!(a0.parent==0)))) (fun hb76=>by simp only[go_sem,hc16,hc19,hc26,hc50,hc52,hc73,hb76]) ?_
   try simp only[go_sem]
   refine zaf (fun hc74=> ?_) (fun hc75=> ?_)
   ·rw[if_pos hc74]at h
    try simp only[go_sem]
    cases h
    exact⟨rfl,Up.of (N:=77) (N':=110) [] rfl rfl (by decide) (.set (.d _) zal.none) zan.at⟩
   rw[if_neg (ff hc75)]at h
   try simp only[go_sem]
   cases h
   exact⟨rfl,Up.of (N:=77) (N':=109) [] rfl rfl (by decide) (.set (.ptr' rfl) zal.none) (.set zar.refl_d zan.at)⟩
  rcases r95 with(q97|q109)
  ·dsimp only at h⊢
   try simp only[go_sem]
   refine zaf (fun hc98=> ?_) (fun hc99=> ?_)
   ·rw[if_pos hc98]at h
    try simp only[go_sem]
    refine zaa (v:= .ptr 0 0 13) (fun hb102=>by simp only[go_sem,hc16,hc19,hc26,hc98,hb102]) ?_
    try simp only[go_sem]
    refine zaa (v:= .d (.int .u8 a0.mode)) (fun hb101=>by simp only[go_sem,hc16,hc19,hc26,hc98,hb101]) ?_
    try simp only[go_sem]
    refine zaa (v:= .d (.bool (a0.mode==2))) (fun hb100=>by simp only[go_sem,hc16,hc19,hc26,hc98,hb100]) ?_
    try simp only[go_sem]
    cases h
    rfl
   rw[if_neg (ff hc99)]at h
   try simp only[go_sem]
   refine zaa (v:= .ptr 0 0 14) (fun hb108=>by simp only[go_sem,hc16,hc19,hc26,hc99,hb108]) ?_
   try simp only[go_sem]
   refine zaa (v:= .d (.bool a0.manual)) (fun hb107=>by simp only[go_sem,hc16,hc19,hc26,hc99,hb107]) ?_
   try simp only[go_sem]
   refine zaa (v:= .d (.bool (!a0.manual))) (fun hb106=>by simp only[go_sem,hc16,hc19,hc26,hc99,hb106]) ?_
   try simp only[go_sem]
   refine zaa (v:= .ptr 0 0 11) (fun hb105=>by simp only[go_sem,hc16,hc19,hc26,hc99,hb105]) ?_
   try simp only[go_sem]
   refine zaa (v:= .d (.int .i64 a0.host)) (fun hb104=>by simp only[go_sem,hc16,hc19,hc26,hc99,hb104]) ?_
   try simp only[go_sem]
   refine zaa (v:= .d (.bool (a0.host==0))) (fun hb103=>by simp only[go_sem,hc16,hc19,hc26,hc99,hb103]) ?_
   try simp only[go_sem]
   cases h
   rfl
  dsimp only at h⊢
  try simp only[go_sem]
  cases h
  rfl
 rw[if_neg (ff hc20)]at h
 try simp only[go_sem,hc20]
 cases h
 rfl
noncomputable def zMg (a0:Forest) (a1:Int):Option (Bool):=
 (rd a0.nodes.l (IntKind.wrap .i64 (a1-1))).bind fun y1=>
 (if(!(y1.parent==0))=true then
  (dec (eT2 eNode D.bool) (pc prog 219 [eForest a0,.int .i64 y1.parent])).bind fun r5=>
  (if r5.2=true then
   (dec D.bool (pc prog 220 [.list r5.1.kids.n (r5.1.kids.l.map (D.int .i64)),.int .i64 a1])).bind fun r9=>
   some (!r9)
  else
   some true:Option ((Bool))).bind fun r11=>
  if r11=true then
   some (.inr ())
  else
   some (.inl ())
 else
  some (.inl ()):Option ((Unit)⊕(Unit))).bind fun r18=>
 match r18 with
 |(.inl q20)=>
  (dec (D.int .u8) (pc prog 221 [eForest a0,.int .i64 y1.doc])).bind fun r21=>
  (if(r21==9)=true then
   some (bif (y1.kind==9)then(!(y1.doc==a1))else false)
  else
   some true:Option ((Bool))).bind fun r25=>
  if r25=true then
   some false
  else
   (if(!(y1.shadow==0))=true then
    (dec (eT2 eNode D.bool) (pc prog 219 [eForest a0,.int .i64 y1.shadow])).bind fun r31=>
    if(bif (bif (!r31.2)then true else(!(r31.1.kind==12)))then true else(!(r31.1.host==a1)))=true then
     some (.inr ())
    else
     some (.inl ())
   else
    some (.inl ()):Option ((Unit)⊕(Unit))).bind fun r42=>
   match r42 with
   |(.inl q44)=>
    if(y1.kind==12)=true then
     (dec (eT2 eNode D.bool) (pc prog 219 [eForest a0,.int .i64 y1.host])).bind fun r47=>
     if(bif (bif (bif (!r47.2)then true else(!(r47.1.kind==1)))then true else(!(r47.1.shadow==a1)))then true else(!(r47.1.doc==y1.doc)))=true then
      some false
     else
      (dec D.bool (pc prog 222 [eForest a0,.int .i64 a1,eNode y1])).bind fun r51=>
      some r51
    else
     (dec D.bool (pc prog 222 [eForest a0,.int .i64 a1,eNode y1])).bind fun r65=>
     some r65
   |(.inr q67)=>
    some false
 |(.inr q84)=>
  some false
theorem zMh (a0:Forest) (a1:Int) (r:Bool) (h:zMg a0 a1=some r):pc prog 193 [eForest a0,.int .i64 a1]=some (D.bool r):=by
 unfold zMg at h
 refine zaV (fn:=zKy) rfl rfl ?_
 delta zKy
 try simp only[go_sem]
 obtain⟨y1,hy2,h⟩:=bs h
 try simp only[go_sem,zab hy2,zad hy2,zac eNode hy2]
 obtain⟨r18,hl19,h⟩:=bs h
 refine WBr.cut (n:=(0,[])) ((fun r=>match r with|(.inl r)=>(.normal,⟨(((Regs.none.set 1 (.d (.int .i64 a1))).set 2 (.ptr 0 0 0)).set 5 (.ptr 8 0 0)),(((Heap.at 13).set 0 (some (.els 1 [.d (eForest a0)] 0))).set 8 (some (.els 16 [.d (eNode y1)] 0)))⟩)|(.inr r)=>(.ret,⟨(Regs.none.set 4 (.d (.bool false))),(Heap.at 13)⟩):((Unit)⊕(Unit))→Ex×St) r18).1 ((fun r=>match r with|(.inl r)=>(.normal,⟨(((Regs.none.set 1 (.d (.int .i64 a1))).set 2 (.ptr 0 0 0)).set 5 (.ptr 8 0 0)),(((Heap.at 13).set 0 (some (.els 1 [.d (eForest a0)] 0))).set 8 (some (.els 16 [.d (eNode y1)] 0)))⟩)|(.inr r)=>(.ret,⟨(Regs.none.set 4 (.d (.bool false))),(Heap.at 13)⟩):((Unit)⊕(Unit))→Ex×St) r18).2 ?_ (by(repeat(refine Clo.seq zbc rfl ?_));(exact Clo.ret)) ?_
 ·replace h:=hl19
  refine zav (fun hc3=> ?_) (fun hc4=> ?_)
  ·rw[if_pos (show(!(y1.parent==0))=true by(rw[hc3];rfl))]at h
   try simp only[go_sem,zab hy2,zad hy2,zac eNode hy2]
   obtain⟨r5,hr6,h⟩:=bs h
   replace hr6:=zag hr6
   refine zaj hr6 ?_
   try simp only[go_sem,zab hy2,zad hy2,zac eNode hy2]
   refine zaa (v:= .ptr 20 0 9) (fun hb17=>by simp only[go_sem,zab hy2,zad hy2,zac eNode hy2,hc3,hb17]) ?_
   try simp only[go_sem,zab hy2,zad hy2,zac eNode hy2]
   refine zaa (v:= .d (.list r5.1.kids.n (r5.1.kids.l.map (D.int .i64)))) (fun hb16=>by simp only[go_sem,zab hy2,zad hy2,zac eNode hy2,hc3,hb16]) ?_
   try simp only[go_sem,zab hy2,zad hy2,zac eNode hy2]
   refine zaa (v:= .d (.int .i64 a1)) (fun hb15=>by simp only[go_sem,zab hy2,zad hy2,zac eNode hy2,hc3,hb15]) ?_
   try simp only[go_sem,zab hy2,zad hy2,zac eNode hy2]
   obtain⟨r11,hl12,h⟩:=bs h
   refine zbH.cut (n:=(0,[])) .normal ⟨((((Regs.none.set 1 (.d (.int .i64 a1))).set 2 (.ptr 0 0 0)).set 5 (.ptr 8 0 0)).set 36 (.d (.bool r11))),(((Heap.at 32).set 0 (some (.els 1 [.d (eForest a0)] 0))).set 8 (some (.els 16 [.d (eNode y1)] 0)))⟩ ?_ (by(repeat(refine Clo.seq zbc rfl ?_));(exact Clo.cpost (by decide))) ?_
   ·replace h:=hl12
    refine zay (fun hc7=> ?_) (fun hc8=> ?_)
    ·rw[if_pos hc7]at h
     try simp only[go_sem,zab hy2,zad hy2,zac eNode hy2,hc7]
     obtain⟨r9,hr10,h⟩:=bs h
     replace hr10:=zag hr10
     refine zaj hr10 ?_
     try simp only[go_sem,zab hy2,zad hy2,zac eNode hy2]
     cases h
     exact⟨rfl,Up.of (N:=32) (N':=32) [] rfl rfl (by decide) (.set (.d _) (.set (.ptr' rfl) (.set (.ptr' rfl) (.set (.d _) zal.none)))) (.set zar.refl_d (.set zar.refl_d zan.at))⟩
    rw[if_neg (ff hc8)]at h
    try simp only[go_sem,zab hy2,zad hy2,zac eNode hy2,hc8]
    cases h
    exact⟨rfl,Up.of (N:=32) (N':=32) [] rfl rfl (by decide) (.set (.d _) (.set (.ptr' rfl) (.set (.ptr' rfl) (.set (.d _) zal.none)))) (.set zar.refl_d (.set zar.refl_d zan.at))⟩
   try simp only[go_sem,zab hy2,zad hy2,zac eNode hy2]
   refine zaf (fun hc13=> ?_) (fun hc14=> ?_)
   ·rw[if_pos hc13]at h
    try simp only[go_sem,zab hy2,zad hy2,zac eNode hy2]
    cases h
    exact⟨rfl,Up.of (N:=13) (N':=33) [] rfl rfl (by decide) (.set (.d _) zal.none) zan.at⟩
   rw[if_neg (ff hc14)]at h
   try simp only[go_sem,zab hy2,zad hy2,zac eNode hy2]
   cases h
   exact⟨rfl,Up.of (N:=13) (N':=32) [] rfl rfl (by decide) (.set (.ptr' rfl) (.set (.ptr' rfl) (.set (.d _) zal.none))) (.set zar.refl_d (.set zar.refl_d zan.at))⟩
  rw[if_neg (ffn hc4)]at h
  try simp only[go_sem,zab hy2,zad hy2,zac eNode hy2]
  cases h
  exact⟨rfl,Up.of (N:=13) (N':=13) [] rfl rfl (by decide) (.set (.ptr' rfl) (.set (.ptr' rfl) (.set (.d _) zal.none))) (.set zar.refl_d (.set zar.refl_d zan.at))⟩
 rcases r18 with(q20|q84)
 ·dsimp only at h⊢
  try simp only[go_sem,zab hy2,zad hy2,zac eNode hy2]
  obtain⟨r21,hr22,h⟩:=bs h
  replace hr22:=zag hr22
  refine zaj hr22 ?_
  try simp only[go_sem,zab hy2,zad hy2,zac eNode hy2]
  refine zaa (v:= .ptr 8 0 0) (fun hb83=>by simp only[go_sem,zab hy2,zad hy2,zac eNode hy2,hb83]) ?_
  try simp only[go_sem,zab hy2,zad hy2,zac eNode hy2]
  refine zaa (v:= .d (.int .u8 y1.kind)) (fun hb82=>by simp only[go_sem,zab hy2,zad hy2,zac eNode hy2,hb82]) ?_
  try simp only[go_sem,zab hy2,zad hy2,zac eNode hy2]
  refine zaa (v:= .d (.bool (y1.kind==9))) (fun hb81=>by simp only[go_sem,zab hy2,zad hy2,zac eNode hy2,hb81]) ?_
  try simp only[go_sem,zab hy2,zad hy2,zac eNode hy2]
  refine zaa (v:= .d (.bool (y1.kind==9))) (fun hb80=>by simp only[go_sem,zab hy2,zad hy2,zac eNode hy2,hb80]) ?_
  try simp only[go_sem,zab hy2,zad hy2,zac eNode hy2]
  refine zaa (v:= .ptr 8 0 10) (fun hb77=>by((obtain⟨hb78,hb79⟩:=zaq hb77));simp only[go_sem,zab hy2,zad hy2,zac eNode hy2,hb79,hb78]) ?_
  try simp only[go_sem,zab hy2,zad hy2,zac eNode hy2]
  refine zaa (v:= .d (.int .i64 y1.doc)) (fun hb74=>by((obtain⟨hb75,hb76⟩:=zaq hb74));simp only[go_sem,zab hy2,zad hy2,zac eNode hy2,hb76,hb75]) ?_
  try simp only[go_sem,zab hy2,zad hy2,zac eNode hy2]
  refine zaa (v:= .d (.int .i64 a1)) (fun hb71=>by((obtain⟨hb72,hb73⟩:=zaq hb71));simp only[go_sem,zab hy2,zad hy2,zac eNode hy2,hb73,hb72]) ?_
  try simp only[go_sem,zab hy2,zad hy2,zac eNode hy2]
  refine zaa (v:= .d (.bool (!(y1.doc==a1)))) (fun hb68=>by((obtain⟨hb69,hb70⟩:=zaq hb68));simp only[go_sem,zab hy2,zad hy2,zac eNode hy2,hb70,hb69]) ?_
  try simp only[go_sem,zab hy2,zad hy2,zac eNode hy2]
  obtain⟨r25,hl26,h⟩:=bs h
  refine zbH.cut (n:=(0,[])) .normal ⟨((((Regs.none.set 1 (.d (.int .i64 a1))).set 2 (.ptr 0 0 0)).set 5 (.ptr 8 0 0)).set 52 (.d (.bool r25))),(((Heap.at 29).set 0 (some (.els 1 [.d (eForest a0)] 0))).set 8 (some (.els 16 [.d (eNode y1)] 0)))⟩ ?_ (by(repeat(refine Clo.seq zbc rfl ?_));(exact Clo.ret)) ?_
  ·replace h:=hl26
   refine zay (fun hc23=> ?_) (fun hc24=> ?_)
   ·rw[if_pos hc23]at h
    try simp only[go_sem,zab hy2,zad hy2,zac eNode hy2,hc23]
    cases h
    exact⟨rfl,Up.of (N:=29) (N':=29) [] rfl rfl (by decide) (.set (.d _) (.set (.ptr' rfl) (.set (.ptr' rfl) (.set (.d _) zal.none)))) (.set zar.refl_d (.set zar.refl_d zan.at))⟩
   rw[if_neg (ff hc24)]at h
   try simp only[go_sem,zab hy2,zad hy2,zac eNode hy2,hc24]
   cases h
   exact⟨rfl,Up.of (N:=29) (N':=29) [] rfl rfl (by decide) (.set (.d _) (.set (.ptr' rfl) (.set (.ptr' rfl) (.set (.d _) zal.none)))) (.set zar.refl_d (.set zar.refl_d zan.at))⟩
  try simp only[go_sem,zab hy2,zad hy2,zac eNode hy2]
  refine zaf (fun hc27=> ?_) (fun hc28=> ?_)
  ·rw[if_pos hc27]at h
   try simp only[go_sem,zab hy2,zad hy2,zac eNode hy2]
   cases h
   rfl
  rw[if_neg (ff hc28)]at h
  try simp only[go_sem,zab hy2,zad hy2,zac eNode hy2]
  obtain⟨r42,hl43,h⟩:=bs h
  refine WBr.cut (n:=(0,[])) ((fun r=>match r with|(.inl r)=>(.normal,⟨(((Regs.none.set 1 (.d (.int .i64 a1))).set 2 (.ptr 0 0 0)).set 5 (.ptr 8 0 0)),(((Heap.at 32).set 0 (some (.els 1 [.d (eForest a0)] 0))).set 8 (some (.els 16 [.d (eNode y1)] 0)))⟩)|(.inr r)=>(.ret,⟨(Regs.none.set 4 (.d (.bool false))),(Heap.at 32)⟩):((Unit)⊕(Unit))→Ex×St) r42).1 ((fun r=>match r with|(.inl r)=>(.normal,⟨(((Regs.none.set 1 (.d (.int .i64 a1))).set 2 (.ptr 0 0 0)).set 5 (.ptr 8 0 0)),(((Heap.at 32).set 0 (some (.els 1 [.d (eForest a0)] 0))).set 8 (some (.els 16 [.d (eNode y1)] 0)))⟩)|(.inr r)=>(.ret,⟨(Regs.none.set 4 (.d (.bool false))),(Heap.at 32)⟩):((Unit)⊕(Unit))→Ex×St) r42).2 ?_ (by(repeat(refine Clo.seq zbc rfl ?_));(exact Clo.ret)) ?_
  ·replace h:=hl43
   refine zav (fun hc29=> ?_) (fun hc30=> ?_)
   ·rw[if_pos (show(!(y1.shadow==0))=true by(rw[hc29];rfl))]at h
    try simp only[go_sem,zab hy2,zad hy2,zac eNode hy2]
    obtain⟨r31,hr32,h⟩:=bs h
    replace hr32:=zag hr32
    refine zaj hr32 ?_
    try simp only[go_sem,zab hy2,zad hy2,zac eNode hy2]
    refine zaa (v:= .ptr 39 0 0) (fun hb41=>by simp only[go_sem,zab hy2,zad hy2,zac eNode hy2,hc28,hc29,hb41]) ?_
    try simp only[go_sem,zab hy2,zad hy2,zac eNode hy2]
    refine zaa (v:= .d (.int .u8 r31.1.kind)) (fun hb40=>by simp only[go_sem,zab hy2,zad hy2,zac eNode hy2,hc28,hc29,hb40]) ?_
    try simp only[go_sem,zab hy2,zad hy2,zac eNode hy2]
    refine zaa (v:= .d (.bool (!(r31.1.kind==12)))) (fun hb39=>by simp only[go_sem,zab hy2,zad hy2,zac eNode hy2,hc28,hc29,hb39]) ?_
    try simp only[go_sem,zab hy2,zad hy2,zac eNode hy2]
    refine zaa (v:= .ptr 39 0 11) (fun hb38=>by simp only[go_sem,zab hy2,zad hy2,zac eNode hy2,hc28,hc29,hb38]) ?_
    try simp only[go_sem,zab hy2,zad hy2,zac eNode hy2]
    refine zaa (v:= .d (.int .i64 r31.1.host)) (fun hb37=>by simp only[go_sem,zab hy2,zad hy2,zac eNode hy2,hc28,hc29,hb37]) ?_
    try simp only[go_sem,zab hy2,zad hy2,zac eNode hy2]
    refine zaa (v:= .d (.int .i64 a1)) (fun hb36=>by simp only[go_sem,zab hy2,zad hy2,zac eNode hy2,hc28,hc29,hb36]) ?_
    try simp only[go_sem,zab hy2,zad hy2,zac eNode hy2]
    refine zaa (v:= .d (.bool (!(r31.1.host==a1)))) (fun hb35=>by simp only[go_sem,zab hy2,zad hy2,zac eNode hy2,hc28,hc29,hb35]) ?_
    try simp only[go_sem,zab hy2,zad hy2,zac eNode hy2]
    refine zaf (fun hc33=> ?_) (fun hc34=> ?_)
    ·rw[if_pos hc33]at h
     try simp only[go_sem,zab hy2,zad hy2,zac eNode hy2]
     cases h
     exact⟨rfl,Up.of (N:=32) (N':=56) [] rfl rfl (by decide) (.set (.d _) zal.none) zan.at⟩
    rw[if_neg (ff hc34)]at h
    try simp only[go_sem,zab hy2,zad hy2,zac eNode hy2]
    cases h
    exact⟨rfl,Up.of (N:=32) (N':=55) [] rfl rfl (by decide) (.set (.ptr' rfl) (.set (.ptr' rfl) (.set (.d _) zal.none))) (.set zar.refl_d (.set zar.refl_d zan.at))⟩
   rw[if_neg (ffn hc30)]at h
   try simp only[go_sem,zab hy2,zad hy2,zac eNode hy2]
   cases h
   exact⟨rfl,Up.of (N:=32) (N':=32) [] rfl rfl (by decide) (.set (.ptr' rfl) (.set (.ptr' rfl) (.set (.d _) zal.none))) (.set zar.refl_d (.set zar.refl_d zan.at))⟩
  rcases r42 with(q44|q67)
  ·dsimp only at h⊢
   try simp only[go_sem,zab hy2,zad hy2,zac eNode hy2]
   refine zaf (fun hc45=> ?_) (fun hc46=> ?_)
   ·rw[if_pos hc45]at h
    try simp only[go_sem,zab hy2,zad hy2,zac eNode hy2]
    obtain⟨r47,hr48,h⟩:=bs h
    replace hr48:=zag hr48
    refine zaj hr48 ?_
    try simp only[go_sem,zab hy2,zad hy2,zac eNode hy2]
    refine zaa (v:= .ptr 42 0 0) (fun hb64=>by simp only[go_sem,zab hy2,zad hy2,zac eNode hy2,hc28,hc45,hb64]) ?_
    try simp only[go_sem,zab hy2,zad hy2,zac eNode hy2]
    refine zaa (v:= .d (.int .u8 r47.1.kind)) (fun hb63=>by simp only[go_sem,zab hy2,zad hy2,zac eNode hy2,hc28,hc45,hb63]) ?_
    try simp only[go_sem,zab hy2,zad hy2,zac eNode hy2]
    refine zaa (v:= .d (.bool (!(r47.1.kind==1)))) (fun hb62=>by simp only[go_sem,zab hy2,zad hy2,zac eNode hy2,hc28,hc45,hb62]) ?_
    try simp only[go_sem,zab hy2,zad hy2,zac eNode hy2]
    refine zaa (v:= .ptr 42 0 12) (fun hb61=>by simp only[go_sem,zab hy2,zad hy2,zac eNode hy2,hc28,hc45,hb61]) ?_
    try simp only[go_sem,zab hy2,zad hy2,zac eNode hy2]
    refine zaa (v:= .d (.int .i64 r47.1.shadow)) (fun hb60=>by simp only[go_sem,zab hy2,zad hy2,zac eNode hy2,hc28,hc45,hb60]) ?_
    try simp only[go_sem,zab hy2,zad hy2,zac eNode hy2]
    refine zaa (v:= .d (.int .i64 a1)) (fun hb59=>by simp only[go_sem,zab hy2,zad hy2,zac eNode hy2,hc28,hc45,hb59]) ?_
    try simp only[go_sem,zab hy2,zad hy2,zac eNode hy2]
    refine zaa (v:= .d (.bool (!(r47.1.shadow==a1)))) (fun hb58=>by simp only[go_sem,zab hy2,zad hy2,zac eNode hy2,hc28,hc45,hb58]) ?_
    try simp only[go_sem,zab hy2,zad hy2,zac eNode hy2]
    refine zaa (v:= .ptr 42 0 10) (fun hb57=>by simp only[go_sem,zab hy2,zad hy2,zac eNode hy2,hc28,hc45,hb57]) ?_
    try simp only[go_sem,zab hy2,zad hy2,zac eNode hy2]
    refine zaa (v:= .d (.int .i64 r47.1.doc)) (fun hb56=>by simp only[go_sem,zab hy2,zad hy2,zac eNode hy2,hc28,hc45,hb56]) ?_
    try simp only[go_sem,zab hy2,zad hy2,zac eNode hy2]
    refine zaa (v:= .ptr 8 0 10) (fun hb55=>by simp only[go_sem,zab hy2,zad hy2,zac eNode hy2,hc28,hc45,hb55]) ?_
    try simp only[go_sem,zab hy2,zad hy2,zac eNode hy2]
    refine zaa (v:= .d (.int .i64 y1.doc)) (fun hb54=>by simp only[go_sem,zab hy2,zad hy2,zac eNode hy2,hc28,hc45,hb54]) ?_
    try simp only[go_sem,zab hy2,zad hy2,zac eNode hy2]
    refine zaa (v:= .d (.bool (!(r47.1.doc==y1.doc)))) (fun hb53=>by simp only[go_sem,zab hy2,zad hy2,zac eNode hy2,hc28,hc45,hb53]) ?_
    try simp only[go_sem,zab hy2,zad hy2,zac eNode hy2]
    refine zaf (fun hc49=> ?_) (fun hc50=> ?_)
    ·rw[if_pos hc49]at h
     try simp only[go_sem,zab hy2,zad hy2,zac eNode hy2]
     cases h
     rfl
    rw[if_neg (ff hc50)]at h
    try simp only[go_sem,zab hy2,zad hy2,zac eNode hy2]
    obtain⟨r51,hr52,h⟩:=bs h
    replace hr52:=zag hr52
    refine zaj hr52 ?_
    try simp only[go_sem,zab hy2,zad hy2,zac eNode hy2]
    cases h
    rfl
   rw[if_neg (ff hc46)]at h
   try simp only[go_sem,zab hy2,zad hy2,zac eNode hy2]
   obtain⟨r65,hr66,h⟩:=bs h
   replace hr66:=zag hr66
   refine zaj hr66 ?_
   try simp only[go_sem,zab hy2,zad hy2,zac eNode hy2]
   cases h
   rfl
  dsimp only at h⊢
  try simp only[go_sem,zab hy2,zad hy2,zac eNode hy2]
  cases h
  rfl
 dsimp only at h⊢
 try simp only[go_sem,zab hy2,zad hy2,zac eNode hy2]
 cases h
 rfl
noncomputable def zMi (a0:Int):Option (Bool):=
 (dec D.bool (pc prog 115 [.int .u8 a0])).bind fun r1=>
 if(!r1)=true then
  (dec D.bool (pc prog 73 [.int .u8 a0])).bind fun r5=>
  some (bif r5 then true else(a0==10))
 else
  some true
theorem zMj (a0:Int) (r:Bool) (h:zMi a0=some r):pc prog 202 [.int .u8 a0]=some (D.bool r):=by
 unfold zMi at h
 refine zaV (fn:=zKz) rfl rfl ?_
 delta zKz
 try simp only[go_sem]
 obtain⟨r1,hr2,h⟩:=bs h
 replace hr2:=zag hr2
 refine zaj hr2 ?_
 try simp only[go_sem]
 refine zaa (v:= .d (.int .u8 a0)) (fun hb9=>by simp only[go_sem,hb9]) ?_
 try simp only[go_sem]
 refine zau (fun hc3=> ?_) (fun hc4=> ?_)
 ·rw[if_pos (show(!r1)=true by(rw[hc3];rfl))]at h
  try simp only[go_sem,hc3]
  obtain⟨r5,hr6,h⟩:=bs h
  replace hr6:=zag hr6
  refine zaj hr6 ?_
  try simp only[go_sem]
  refine zaa (v:= .d (.int .u8 a0)) (fun hb8=>by simp only[go_sem,hc3,hb8]) ?_
  try simp only[go_sem]
  refine zaa (v:= .d (.bool (a0==10))) (fun hb7=>by simp only[go_sem,hc3,hb7]) ?_
  try simp only[go_sem]
  cases h
  rfl
 rw[if_neg (ffn hc4)]at h
 try simp only[go_sem,hc4]
 cases h
 rfl
def zfI (a0:Sl (Attr)) (x0:Int):St:=⟨((((Regs.none.set 0 (.d (.list a0.n (a0.l.map zaN)))).set 8 (.d (.list a0.n (a0.l.map zaN)))).set 9 (.d (.int .i64 (a0.l.length:Int)))).set 10 (.d (.int .i64 x0))),(Heap.at 7)⟩
def zjb (a0:Sl (Attr)):((Unit)⊕(Unit))→Ex×St:=fun r=>match r with
 |(.inl r)=>(.exit 0,⟨Regs.none,(Heap.at 7)⟩)
 |(.inr r)=>(.ret,⟨(Regs.none.set 2 (.d (.bool false))),(Heap.at 7)⟩)
noncomputable def zdt (a0:Sl (Attr)) (x0:Int):Option ((Int)⊕((Unit)⊕(Unit))):=
 if(decide (x0<(a0.l.length:Int)))=true then
  (rd a0.l x0).bind fun y5=>
  (dec D.bool (pc prog 204 [zbN y5.name])).bind fun r7=>
  if(!(bif (!r7)then true else(decide (4096<(y5.value.length:Int)))))=true then
   (cut a0.l (0) x0).bind fun y11=>
   (dec (D.int .i64) (pc prog 211 [.list a0.n (y11.map zaN),zbN y5.name])).bind fun r13=>
   if(decide (0≤r13))=true then
    some (.inr (.inr ()))
   else
    some (.inl (IntKind.wrap .i64 (x0+1)))
  else
   some (.inr (.inr ()))
 else
  some (.inr (.inl ()))
theorem zxV (a0:Sl (Attr)) (x0:Int) (o:(Int)⊕((Unit)⊕(Unit))) (h:zdt a0 x0=some o):Wp prog zru (zfI a0 x0) (zbF (0,[]) (zfI a0) (zjb a0) o):=by
 unfold zdt at h
 delta zru zfI
 try simp only[go_sem]
 refine zaf (fun hc3=> ?_) (fun hc4=> ?_)
 ·rw[if_pos hc3]at h
  try simp only[go_sem]
  obtain⟨y5,hy6,h⟩:=bs h
  try simp only[go_sem,zab hy6,zad hy6,zac zaN hy6]
  obtain⟨r7,hr8,h⟩:=bs h
  replace hr8:=zag hr8
  refine zaj hr8 ?_
  try simp only[go_sem,zab hy6,zad hy6,zac zaN hy6]
  refine zaa (v:= .ptr 11 0 3) (fun hb22=>by simp only[go_sem,zab hy6,zad hy6,zac zaN hy6,hc3,hb22]) ?_
  try simp only[go_sem,zab hy6,zad hy6,zac zaN hy6]
  refine zaa (v:= .d (.str y5.value)) (fun hb21=>by simp only[go_sem,zab hy6,zad hy6,zac zaN hy6,hc3,hb21]) ?_
  try simp only[go_sem,zab hy6,zad hy6,zac zaN hy6]
  refine zaa (v:= .d (.int .i64 (y5.value.length:Int))) (fun hb20=>by simp only[go_sem,zab hy6,zad hy6,zac zaN hy6,hc3,hb20]) ?_
  try simp only[go_sem,zab hy6,zad hy6,zac zaN hy6]
  refine zaa (v:= .d (.bool (decide (4096<(y5.value.length:Int))))) (fun hb19=>by simp only[go_sem,zab hy6,zad hy6,zac zaN hy6,hc3,hb19]) ?_
  try simp only[go_sem,zab hy6,zad hy6,zac zaN hy6]
  refine zaa (v:= .d (.list a0.n (a0.l.map zaN))) (fun hb18=>by simp only[go_sem,zab hy6,zad hy6,zac zaN hy6,hc3,hb18]) ?_
  try simp only[go_sem,zab hy6,zad hy6,zac zaN hy6]
  refine zaa (v:= .d (.int .i64 x0)) (fun hb17=>by simp only[go_sem,zab hy6,zad hy6,zac zaN hy6,hc3,hb17]) ?_
  try simp only[go_sem,zab hy6,zad hy6,zac zaN hy6]
  refine zau (fun hc9=> ?_) (fun hc10=> ?_)
  ·rw[if_pos (show(!(bif (!r7)then true else(decide (4096<(y5.value.length:Int)))))=true by(rw[hc9];rfl))]at h
   try simp only[go_sem,zab hy6,zad hy6,zac zaN hy6,hc9]
   obtain⟨y11,hy12,h⟩:=bs h
   refine zhE (e:=zaN) (n:=a0.n) (l:=a0.l) (sz:=4) (lo:=none) (hi:=(some x0)) (by simp only[go_sem,zab hy6,zad hy6,zac zaN hy6,zwG];done) (by decide) (fun _=>rfl) hy12 ?_
   try simp only[go_sem,zab hy6,zad hy6,zac zaN hy6]
   obtain⟨r13,hr14,h⟩:=bs h
   replace hr14:=zag hr14
   refine zaj hr14 ?_
   try simp only[go_sem,zab hy6,zad hy6,zac zaN hy6]
   refine zaf (fun hc15=> ?_) (fun hc16=> ?_)
   ·rw[if_pos hc15]at h
    try simp only[go_sem,zab hy6,zad hy6,zac zaN hy6]
    cases h
    exact⟨rfl,by simp,Up.of (N:=7) (N':=34) [] rfl rfl (by decide) (.set (.d _) zal.none) zan.at⟩
   rw[if_neg (ff hc16)]at h
   try simp only[go_sem,zab hy6,zad hy6,zac zaN hy6]
   cases h
   exact⟨rfl,Up.of (N:=7) (N':=35) [] rfl rfl (by decide) (.set (.d _) (.set (.d _) (.set (.d _) (.set (.d _) zal.none)))) zan.at⟩
  rw[if_neg (ffn hc10)]at h
  try simp only[go_sem,zab hy6,zad hy6,zac zaN hy6,hc10]
  cases h
  exact⟨rfl,by simp,Up.of (N:=7) (N':=34) [] rfl rfl (by decide) (.set (.d _) zal.none) zan.at⟩
 rw[if_neg (ff hc4)]at h
 try simp only[go_sem]
 cases h
 exact⟨rfl,by simp,Up.of (N:=7) (N':=8) [] rfl rfl (by decide) zal.none zan.at⟩
noncomputable def zMk (a0:Sl (Attr)):Option (Bool):=
 if(decide (64<(a0.l.length:Int)))=true then
  some false
 else
  (zaQ (zdt a0) 0).bind fun r23=>
  match r23 with
  |(.inl q25)=>
   some true
  |(.inr q26)=>
   some false
theorem zMl (a0:Sl (Attr)) (r:Bool) (h:zMk a0=some r):pc prog 203 [.list a0.n (a0.l.map zaN)]=some (D.bool r):=by
 unfold zMk at h
 refine zaV (fn:=zKA) rfl rfl ?_
 delta zKA
 try simp only[go_sem]
 refine zaf (fun hc1=> ?_) (fun hc2=> ?_)
 ·rw[if_pos hc1]at h
  try simp only[go_sem]
  cases h
  rfl
 rw[if_neg (ff hc2)]at h
 try simp only[go_sem]
 obtain⟨r23,hl24,h⟩:=bs h
 refine Wp.loopR zbc (n:=(0,[])) (a:=zru) rfl (zfI a0) (zjb a0) (zxV a0) hl24 ?_ (by(repeat(first|refine Clo.block ?_|refine Clo.seq zbc rfl ?_));(exact Clo.ret)) ?_
 ·show Up (0,[]) (zfI a0 0) _
  delta zfI
  exact Up.of (N:=7) (N':=7) [] rfl rfl (by decide) (.set (.d _) (.set (.d _) (.set (.d _) (.set (.d _) zal.none)))) zan.at
 rcases r23 with(q25|q26)
 ·dsimp only at h
  dsimp only[zjb]
  try simp only[go_sem]
  cases h
  rfl
 dsimp only at h
 dsimp only[zjb]
 try simp only[go_sem]
 cases h
 rfl
noncomputable def zMm (a0:Name):Option (Bool):=
 if(bif (bif (bif (!(a0.local_==[]))then(decide ((a0.space.length:Int)≤1024))else false)then(decide ((a0.prefix_.length:Int)≤1024))else false)then(decide ((a0.local_.length:Int)≤1024))else false)=true then
  some (bif (a0.prefix_==[])then true else(!(a0.space==[])))
 else
  some false
theorem zMn (a0:Name) (r:Bool) (h:zMm a0=some r):pc prog 204 [zbN a0]=some (D.bool r):=by
 unfold zMm at h
 refine zaV (fn:=zKB) rfl rfl ?_
 delta zKB
 try simp only[go_sem]
 refine zaa (v:= .ptr 0 0 0) (fun hb27=>by simp only[go_sem,hb27]) ?_
 try simp only[go_sem]
 refine zaa (v:= .d (.str a0.space)) (fun hb26=>by simp only[go_sem,hb26]) ?_
 try simp only[go_sem]
 refine zaa (v:= .d (.int .i64 (a0.space.length:Int))) (fun hb25=>by simp only[go_sem,hb25]) ?_
 try simp only[go_sem]
 refine zaa (v:= .d (.bool (decide ((a0.space.length:Int)≤1024)))) (fun hb24=>by simp only[go_sem,hb24]) ?_
 try simp only[go_sem]
 refine zaa (v:= .ptr 0 0 1) (fun hb23=>by simp only[go_sem,hb23]) ?_
 try simp only[go_sem]
 refine zaa (v:= .d (.str a0.prefix_)) (fun hb22=>by simp only[go_sem,hb22]) ?_
 try simp only[go_sem]
 refine zaa (v:= .d (.int .i64 (a0.prefix_.length:Int))) (fun hb21=>by simp only[go_sem,hb21]) ?_
 try simp only[go_sem]
 refine zaa (v:= .d (.bool (decide ((a0.prefix_.length:Int)≤1024)))) (fun hb20=>by simp only[go_sem,hb20]) ?_
 try simp only[go_sem]
 refine zaa (v:= .ptr 0 0 2) (fun hb19=>by simp only[go_sem,hb19]) ?_
 try simp only[go_sem]
 refine zaa (v:= .d (.str a0.local_)) (fun hb18=>by simp only[go_sem,hb18]) ?_
 try simp only[go_sem]
 refine zaa (v:= .d (.int .i64 (a0.local_.length:Int))) (fun hb17=>by simp only[go_sem,hb17]) ?_
 try simp only[go_sem]
 refine zaa (v:= .d (.bool (decide ((a0.local_.length:Int)≤1024)))) (fun hb16=>by simp only[go_sem,hb16]) ?_
 try simp only[go_sem]
 refine zaa (v:= .ptr 0 0 1) (fun hb15=>by simp only[go_sem,hb15]) ?_
 try simp only[go_sem]
 refine zaa (v:= .d (.str a0.prefix_)) (fun hb14=>by simp only[go_sem,hb14]) ?_
 try simp only[go_sem]
 refine zaa (v:= .d (.bool (a0.prefix_==[]))) (fun hb13=>by simp only[go_sem,hb13]) ?_
 try simp only[go_sem]
 refine zaa (v:= .d (.bool (a0.prefix_==[]))) (fun hb12=>by simp only[go_sem,hb12]) ?_
 try simp only[go_sem]
 refine zaa (v:= .ptr 0 0 0) (fun hb9=>by((obtain⟨hb10,hb11⟩:=zaq hb9));simp only[go_sem,hb11,hb10]) ?_
 try simp only[go_sem]
 refine zaa (v:= .d (.str a0.space)) (fun hb6=>by((obtain⟨hb7,hb8⟩:=zaq hb6));simp only[go_sem,hb8,hb7]) ?_
 try simp only[go_sem]
 refine zaa (v:= .d (.bool (!(a0.space==[])))) (fun hb3=>by((obtain⟨hb4,hb5⟩:=zaq hb3));simp only[go_sem,hb5,hb4]) ?_
 try simp only[go_sem]
 refine zay (fun hc1=> ?_) (fun hc2=> ?_)
 ·rw[if_pos hc1]at h
  try simp only[go_sem,hc1]
  cases h
  rfl
 rw[if_neg (ff hc2)]at h
 try simp only[go_sem,hc2]
 cases h
 rfl
def zfJ (a0:Sl (Int)) (a1:Int) (x0:Int×Int):St:=⟨(((((Regs.none.set 1 (.d (.int .i64 a1))).set 5 (.d (.int .i64 x0.2))).set 8 (.d (.list a0.n (a0.l.map (D.int .i64))))).set 9 (.d (.int .i64 (a0.l.length:Int)))).set 10 (.d (.int .i64 x0.1))),(Heap.at 5)⟩
def zmq (a0:Sl (Int)) (a1:Int):((Int))→Ex×St:=fun r=>(.exit 0,⟨(Regs.none.set 5 (.d (.int .i64 r))),(Heap.at 5)⟩)
noncomputable def zdu (a0:Sl (Int)) (a1:Int) (x0:Int×Int):Option ((Int×Int)⊕((Int))):=
 if(decide (x0.1<(a0.l.length:Int)))=true then
  (rd a0.l x0.1).bind fun y3=>
  if(y3==a1)=true then
   some (.inl ((IntKind.wrap .i64 (x0.1+1)),(IntKind.wrap .i64 (x0.2+1))))
  else
   some (.inl ((IntKind.wrap .i64 (x0.1+1)),x0.2))
 else
  some (.inr x0.2)
theorem zxW (a0:Sl (Int)) (a1:Int) (x0:Int×Int) (o:(Int×Int)⊕((Int))) (h:zdu a0 a1 x0=some o):Wp prog zrv (zfJ a0 a1 x0) (zbF (0,[]) (zfJ a0 a1) (zmq a0 a1) o):=by
 unfold zdu at h
 delta zrv zfJ
 try simp only[go_sem]
 refine zaf (fun hc1=> ?_) (fun hc2=> ?_)
 ·rw[if_pos hc1]at h
  try simp only[go_sem]
  obtain⟨y3,hy4,h⟩:=bs h
  try simp only[go_sem,zab hy4,zad hy4,zac (D.int .i64) hy4]
  refine zaf (fun hc5=> ?_) (fun hc6=> ?_)
  ·rw[if_pos hc5]at h
   try simp only[go_sem,zab hy4,zad hy4,zac (D.int .i64) hy4]
   cases h
   exact⟨rfl,Up.of (N:=5) (N':=17) [] rfl rfl (by decide) (.set (.d _) (.set (.d _) (.set (.d _) (.set (.d _) (.set (.d _) zal.none))))) zan.at⟩
  rw[if_neg (ff hc6)]at h
  try simp only[go_sem,zab hy4,zad hy4,zac (D.int .i64) hy4]
  cases h
  exact⟨rfl,Up.of (N:=5) (N':=14) [] rfl rfl (by decide) (.set (.d _) (.set (.d _) (.set (.d _) (.set (.d _) (.set (.d _) zal.none))))) zan.at⟩
 rw[if_neg (ff hc2)]at h
 try simp only[go_sem]
 cases h
 exact⟨rfl,by simp,Up.of (N:=5) (N':=6) [] rfl rfl (by decide) (.set (.d _) zal.none) zan.at⟩
noncomputable def zMo (a0:Sl (Int)) (a1:Int):Option (Int):=
 (zaQ (zdu a0 a1) (0,0)).bind fun r7=>
 some r7
theorem zMp (a0:Sl (Int)) (a1:Int) (r:Int) (h:zMo a0 a1=some r):pc prog 205 [.list a0.n (a0.l.map (D.int .i64)),.int .i64 a1]=some ((D.int .i64) r):=by
 unfold zMo at h
 refine zaV (fn:=zKC) rfl rfl ?_
 delta zKC
 try simp only[go_sem]
 obtain⟨r7,hl8,h⟩:=bs h
 refine Wp.loopR zbc (n:=(0,[])) (a:=zrv) rfl (zfJ a0 a1) (zmq a0 a1) (zxW a0 a1) hl8 ?_ (by(repeat(first|refine Clo.block ?_|refine Clo.seq zbc rfl ?_));(exact Clo.ret)) ?_
 ·show Up (0,[]) (zfJ a0 a1 (0,0)) _
  delta zfJ
  exact Up.of (N:=5) (N':=5) [] rfl rfl (by decide) (.set (.d _) (.set (.d _) (.set (.d _) (.set (.d _) (.set (.d _) zal.none))))) zan.at
 dsimp only[zmq]
 try simp only[go_sem]
 cases h
 rfl
noncomputable def zMq (a0:Forest) (a1:Int):Option (Int):=
 (dec (eT2 eNode D.bool) (pc prog 31 [eForest a0,.int .i64 a1])).bind fun r1=>
 some r1.1.kind
theorem zMr (a0:Forest) (a1:Int) (r:Int) (h:zMq a0 a1=some r):pc prog 206 [eForest a0,.int .i64 a1]=some ((D.int .u8) r):=by
 unfold zMq at h
 refine zaV (fn:=zKD) rfl rfl ?_
 delta zKD
 try simp only[go_sem]
 obtain⟨r1,hr2,h⟩:=bs h
 replace hr2:=zag hr2
 refine zaj hr2 ?_
 try simp only[go_sem]
 cases h
 rfl
def zfK (a0:Forest) (a1:Int) (a2:Sl (Int)) (x0:Int×Int×Int):St:=⟨(((((((Regs.none.set 1 (.d (.int .u8 a1))).set 3 (.ptr 0 0 0)).set 7 (.d (.int .i64 x0.2.1))).set 8 (.d (.int .i64 x0.2.2))).set 11 (.d (.list a2.n (a2.l.map (D.int .i64))))).set 12 (.d (.int .i64 (a2.l.length:Int)))).set 13 (.d (.int .i64 x0.1))),((Heap.at 7).set 0 (some (.els 1 [.d (eForest a0)] 0)))⟩
def zjc (a0:Forest) (a1:Int) (a2:Sl (Int)):((Int×Int)⊕(Unit))→Ex×St:=fun r=>match r with
 |(.inl r)=>(.exit 0,⟨(((Regs.none.set 1 (.d (.int .u8 a1))).set 7 (.d (.int .i64 r.1))).set 8 (.d (.int .i64 r.2))),(Heap.at 7)⟩)
 |(.inr r)=>(.ret,⟨(Regs.none.set 6 (.d (.bool false))),(Heap.at 7)⟩)
noncomputable def zdv (a0:Forest) (a1:Int) (a2:Sl (Int)) (x0:Int×Int×Int):Option ((Int×Int×Int)⊕((Int×Int)⊕(Unit))):=
 if(decide (x0.1<(a2.l.length:Int)))=true then
  (rd a2.l x0.1).bind fun y3=>
  (dec (D.int .u8) (pc prog 206 [eForest a0,.int .i64 y3])).bind fun r5=>
  if(r5==1)=true then
   some (.inl ((IntKind.wrap .i64 (x0.1+1)),(IntKind.wrap .i64 (x0.2.1+1)),x0.2.2))
  else
   (if(r5==3)=true then
    some (r5==3)
   else
    some (r5==4):Option ((Bool))).bind fun r11=>
   if r11=true then
    if(a1==9)=true then
     some (.inr (.inr ()))
    else
     some (.inl ((IntKind.wrap .i64 (x0.1+1)),x0.2.1,x0.2.2))
   else
    (if(r5==8)=true then
     some (r5==8)
    else
     some (r5==7):Option ((Bool))).bind fun r19=>
    if r19=true then
     some (.inl ((IntKind.wrap .i64 (x0.1+1)),x0.2.1,x0.2.2))
    else
     if(r5==10)=true then
      if(bif (!(a1==9))then true else(decide (0<x0.2.1)))=true then
       some (.inr (.inr ()))
      else
       some (.inl ((IntKind.wrap .i64 (x0.1+1)),x0.2.1,(IntKind.wrap .i64 (x0.2.2+1))))
     else
      some (.inr (.inr ()))
 else
  some (.inr (.inl (x0.2.1,x0.2.2)))
theorem zxX (a0:Forest) (a1:Int) (a2:Sl (Int)) (x0:Int×Int×Int) (o:(Int×Int×Int)⊕((Int×Int)⊕(Unit))) (h:zdv a0 a1 a2 x0=some o):Wp prog zrw (zfK a0 a1 a2 x0) (zbF (0,[]) (zfK a0 a1 a2) (zjc a0 a1 a2) o):=by
 unfold zdv at h
 delta zrw zfK
 try simp only[go_sem]
 refine zaf (fun hc1=> ?_) (fun hc2=> ?_)
 ·rw[if_pos hc1]at h
  try simp only[go_sem]
  obtain⟨y3,hy4,h⟩:=bs h
  try simp only[go_sem,zab hy4,zad hy4,zac (D.int .i64) hy4]
  obtain⟨r5,hr6,h⟩:=bs h
  replace hr6:=zag hr6
  refine zaj hr6 ?_
  try simp only[go_sem,zab hy4,zad hy4,zac (D.int .i64) hy4]
  refine zaf (fun hc7=> ?_) (fun hc8=> ?_)
  ·rw[if_pos hc7]at h
   try simp only[go_sem,zab hy4,zad hy4,zac (D.int .i64) hy4]
   cases h
   exact⟨rfl,Up.of (N:=7) (N':=21) [] rfl rfl (by decide) (.set (.d _) (.set (.d _) (.set (.d _) (.set (.d _) (.set (.d _) (.set (.ptr' rfl) (.set (.d _) zal.none))))))) (.set zar.refl_d zan.at)⟩
  rw[if_neg (ff hc8)]at h
  try simp only[go_sem,zab hy4,zad hy4,zac (D.int .i64) hy4]
  obtain⟨r11,hl12,h⟩:=bs h
  refine WBr.cut (n:=(0,[])) .normal ⟨(((((((((Regs.none.set 1 (.d (.int .u8 a1))).set 3 (.ptr 0 0 0)).set 7 (.d (.int .i64 x0.2.1))).set 8 (.d (.int .i64 x0.2.2))).set 11 (.d (.list a2.n (a2.l.map (D.int .i64))))).set 12 (.d (.int .i64 (a2.l.length:Int)))).set 13 (.d (.int .i64 x0.1))).set 19 (.d (.int .u8 r5))).set 24 (.d (.bool r11))),((Heap.at 18).set 0 (some (.els 1 [.d (eForest a0)] 0)))⟩ ?_ (by(repeat(first|refine Clo.block ?_|refine Clo.seq zbc rfl ?_));(exact Clo.lpost (by decide))) ?_
  ·replace h:=hl12
   refine zaf (fun hc9=> ?_) (fun hc10=> ?_)
   ·rw[if_pos hc9]at h
    try simp only[go_sem,zab hy4,zad hy4,zac (D.int .i64) hy4]
    cases h
    exact⟨rfl,Up.of (N:=18) (N':=18) [] rfl rfl (by decide) (.set (.d _) (.set (.d _) (.set (.d _) (.set (.d _) (.set (.d _) (.set (.d _) (.set (.d _) (.set (.ptr' rfl) (.set (.d _) zal.none))))))))) (.set zar.refl_d zan.at)⟩
   rw[if_neg (ff hc10)]at h
   try simp only[go_sem,zab hy4,zad hy4,zac (D.int .i64) hy4]
   cases h
   exact⟨rfl,Up.of (N:=18) (N':=20) [] rfl rfl (by decide) (.set (.d _) (.set (.d _) (.set (.d _) (.set (.d _) (.set (.d _) (.set (.d _) (.set (.d _) (.set (.ptr' rfl) (.set (.d _) zal.none))))))))) (.set zar.refl_d zan.at)⟩
  try simp only[go_sem,zab hy4,zad hy4,zac (D.int .i64) hy4]
  refine zaf (fun hc13=> ?_) (fun hc14=> ?_)
  ·rw[if_pos hc13]at h
   try simp only[go_sem,zab hy4,zad hy4,zac (D.int .i64) hy4]
   refine zaf (fun hc15=> ?_) (fun hc16=> ?_)
   ·rw[if_pos hc15]at h
    try simp only[go_sem,zab hy4,zad hy4,zac (D.int .i64) hy4]
    cases h
    exact⟨rfl,by simp,Up.of (N:=7) (N':=21) [] rfl rfl (by decide) (.set (.d _) zal.none) zan.at⟩
   rw[if_neg (ff hc16)]at h
   try simp only[go_sem,zab hy4,zad hy4,zac (D.int .i64) hy4]
   cases h
   exact⟨rfl,Up.of (N:=7) (N':=22) [] rfl rfl (by decide) (.set (.d _) (.set (.d _) (.set (.d _) (.set (.d _) (.set (.d _) (.set (.ptr' rfl) (.set (.d _) zal.none))))))) (.set zar.refl_d zan.at)⟩
  rw[if_neg (ff hc14)]at h
  try simp only[go_sem,zab hy4,zad hy4,zac (D.int .i64) hy4]
  obtain⟨r19,hl20,h⟩:=bs h
  refine WBr.cut (n:=(0,[])) .normal ⟨(((((((((Regs.none.set 1 (.d (.int .u8 a1))).set 3 (.ptr 0 0 0)).set 7 (.d (.int .i64 x0.2.1))).set 8 (.d (.int .i64 x0.2.2))).set 11 (.d (.list a2.n (a2.l.map (D.int .i64))))).set 12 (.d (.int .i64 (a2.l.length:Int)))).set 13 (.d (.int .i64 x0.1))).set 19 (.d (.int .u8 r5))).set 29 (.d (.bool r19))),((Heap.at 20).set 0 (some (.els 1 [.d (eForest a0)] 0)))⟩ ?_ (by(repeat(first|refine Clo.block ?_|refine Clo.seq zbc rfl ?_));(exact Clo.lpost (by decide))) ?_
  ·replace h:=hl20
   refine zaf (fun hc17=> ?_) (fun hc18=> ?_)
   ·rw[if_pos hc17]at h
    try simp only[go_sem,zab hy4,zad hy4,zac (D.int .i64) hy4]
    cases h
    exact⟨rfl,Up.of (N:=20) (N':=20) [] rfl rfl (by decide) (.set (.d _) (.set (.d _) (.set (.d _) (.set (.d _) (.set (.d _) (.set (.d _) (.set (.d _) (.set (.ptr' rfl) (.set (.d _) zal.none))))))))) (.set zar.refl_d zan.at)⟩
   rw[if_neg (ff hc18)]at h
   try simp only[go_sem,zab hy4,zad hy4,zac (D.int .i64) hy4]
   cases h
   exact⟨rfl,Up.of (N:=20) (N':=22) [] rfl rfl (by decide) (.set (.d _) (.set (.d _) (.set (.d _) (.set (.d _) (.set (.d _) (.set (.d _) (.set (.d _) (.set (.ptr' rfl) (.set (.d _) zal.none))))))))) (.set zar.refl_d zan.at)⟩
  try simp only[go_sem,zab hy4,zad hy4,zac (D.int .i64) hy4]
  refine zaf (fun hc21=> ?_) (fun hc22=> ?_)
  ·rw[if_pos hc21]at h
   try simp only[go_sem,zab hy4,zad hy4,zac (D.int .i64) hy4]
   cases h
   exact⟨rfl,Up.of (N:=7) (N':=22) [] rfl rfl (by decide) (.set (.d _) (.set (.d _) (.set (.d _) (.set (.d _) (.set (.d _) (.set (.ptr' rfl) (.set (.d _) zal.none))))))) (.set zar.refl_d zan.at)⟩
  rw[if_neg (ff hc22)]at h
  try simp only[go_sem,zab hy4,zad hy4,zac (D.int .i64) hy4]
  refine zaf (fun hc23=> ?_) (fun hc24=> ?_)
  ·rw[if_pos hc23]at h
   try simp only[go_sem,zab hy4,zad hy4,zac (D.int .i64) hy4]
   refine zaa (v:= .d (.int .i64 x0.2.1)) (fun hb28=>by simp only[go_sem,zab hy4,zad hy4,zac (D.int .i64) hy4,hc1,hc8,hc14,hc22,hc23,hb28]) ?_
   try simp only[go_sem,zab hy4,zad hy4,zac (D.int .i64) hy4]
   refine zaa (v:= .d (.bool (decide (0<x0.2.1)))) (fun hb27=>by simp only[go_sem,zab hy4,zad hy4,zac (D.int .i64) hy4,hc1,hc8,hc14,hc22,hc23,hb27]) ?_
   try simp only[go_sem,zab hy4,zad hy4,zac (D.int .i64) hy4]
   refine zaf (fun hc25=> ?_) (fun hc26=> ?_)
   ·rw[if_pos hc25]at h
    try simp only[go_sem,zab hy4,zad hy4,zac (D.int .i64) hy4]
    cases h
    exact⟨rfl,by simp,Up.of (N:=7) (N':=32) [] rfl rfl (by decide) (.set (.d _) zal.none) zan.at⟩
   rw[if_neg (ff hc26)]at h
   try simp only[go_sem,zab hy4,zad hy4,zac (D.int .i64) hy4]
   cases h
   exact⟨rfl,Up.of (N:=7) (N':=33) [] rfl rfl (by decide) (.set (.d _) (.set (.d _) (.set (.d _) (.set (.d _) (.set (.d _) (.set (.ptr' rfl) (.set (.d _) zal.none))))))) (.set zar.refl_d zan.at)⟩
  rw[if_neg (ff hc24)]at h
  try simp only[go_sem,zab hy4,zad hy4,zac (D.int .i64) hy4]
  cases h
  exact⟨rfl,by simp,Up.of (N:=7) (N':=23) [] rfl rfl (by decide) (.set (.d _) zal.none) zan.at⟩
 rw[if_neg (ff hc2)]at h
 try simp only[go_sem]
 cases h
 exact⟨rfl,by simp,Up.of (N:=7) (N':=8) [] rfl rfl (by decide) (.set (.d _) (.set (.d _) (.set (.d _) zal.none))) zan.at⟩
noncomputable def zMs (a0:Forest) (a1:Int) (a2:Sl (Int)):Option (Bool):=
 (zaQ (zdv a0 a1 a2) (0,0,0)).bind fun r29=>
 match r29 with
 |(.inl q31)=>
  if(a1==9)=true then
   some (bif (decide (q31.1≤1))then(decide (q31.2≤1))else false)
  else
   some true
 |(.inr q43)=>
  some false
theorem zMt (a0:Forest) (a1:Int) (a2:Sl (Int)) (r:Bool) (h:zMs a0 a1 a2=some r):pc prog 207 [eForest a0,.int .u8 a1,.list a2.n (a2.l.map (D.int .i64))]=some (D.bool r):=by
 unfold zMs at h
 refine zaV (fn:=zKE) rfl rfl ?_
 delta zKE
 try simp only[go_sem]
 obtain⟨r29,hl30,h⟩:=bs h
 refine Wp.loopR zbc (n:=(0,[])) (a:=zrw) rfl (zfK a0 a1 a2) (zjc a0 a1 a2) (zxX a0 a1 a2) hl30 ?_ (by(repeat(first|refine Clo.block ?_|refine Clo.seq zbc rfl ?_));(exact Clo.ret)) ?_
 ·show Up (0,[]) (zfK a0 a1 a2 (0,0,0)) _
  delta zfK
  exact Up.of (N:=7) (N':=7) [] rfl rfl (by decide) (.set (.d _) (.set (.d _) (.set (.d _) (.set (.d _) (.set (.d _) (.set (.ptr' rfl) (.set (.d _) zal.none))))))) (.set zar.refl_d zan.at)
 rcases r29 with(q31|q43)
 ·dsimp only at h
  dsimp only[zjc]
  try simp only[go_sem]
  refine zaa (v:= .d (.int .i64 q31.1)) (fun hb42=>by simp only[go_sem,hb42]) ?_
  try simp only[go_sem]
  refine zaa (v:= .d (.bool (decide (q31.1≤1)))) (fun hb41=>by simp only[go_sem,hb41]) ?_
  try simp only[go_sem]
  refine zaa (v:= .d (.bool (decide (q31.1≤1)))) (fun hb40=>by simp only[go_sem,hb40]) ?_
  try simp only[go_sem]
  refine zaa (v:= .d (.int .i64 q31.2)) (fun hb37=>by((obtain⟨hb38,hb39⟩:=zaq hb37));simp only[go_sem,hb39,hb38]) ?_
  try simp only[go_sem]
  refine zaa (v:= .d (.bool (decide (q31.2≤1)))) (fun hb34=>by((obtain⟨hb35,hb36⟩:=zaq hb34));simp only[go_sem,hb36,hb35]) ?_
  try simp only[go_sem]
  refine zay (fun hc32=> ?_) (fun hc33=> ?_)
  ·rw[if_pos hc32]at h
   try simp only[go_sem,hc32]
   cases h
   rfl
  rw[if_neg (ff hc33)]at h
  try simp only[go_sem,hc33]
  cases h
  rfl
 dsimp only at h
 dsimp only[zjc]
 try simp only[go_sem]
 cases h
 rfl
noncomputable def zMu (a0:Node):Option (Int):=
 if(a0.kind==12)=true then
  some a0.host
 else
  some a0.parent
theorem zMv (a0:Node) (r:Int) (h:zMu a0=some r):pc prog 208 [eNode a0]=some ((D.int .i64) r):=by
 unfold zMu at h
 refine zaV (fn:=zKF) rfl rfl ?_
 delta zKF
 try simp only[go_sem]
 refine zaf (fun hc1=> ?_) (fun hc2=> ?_)
 ·rw[if_pos hc1]at h
  try simp only[go_sem]
  cases h
  rfl
 rw[if_neg (ff hc2)]at h
 try simp only[go_sem]
 cases h
 rfl
def zfL (a0:Sl (Attr)) (a1:Name) (x0:Int):St:=⟨((((Regs.none.set 3 (.ptr 0 0 0)).set 7 (.d (.list a0.n (a0.l.map zaN)))).set 8 (.d (.int .i64 (a0.l.length:Int)))).set 9 (.d (.int .i64 x0))),((Heap.at 5).set 0 (some (.els 3 [.d (zbN a1)] 0)))⟩
def zjd (a0:Sl (Attr)) (a1:Name):((Unit)⊕(Int))→Ex×St:=fun r=>match r with
 |(.inl r)=>(.exit 0,⟨Regs.none,(Heap.at 5)⟩)
 |(.inr r)=>(.ret,⟨(Regs.none.set 4 (.d (.int .i64 r))),(Heap.at 5)⟩)
noncomputable def zdw (a0:Sl (Attr)) (a1:Name) (x0:Int):Option ((Int)⊕((Unit)⊕(Int))):=
 if(decide (x0<(a0.l.length:Int)))=true then
  (rd a0.l x0).bind fun y3=>
  if(bif (y3.name.space==a1.space)then(y3.name.local_==a1.local_)else false)=true then
   some (.inr (.inr x0))
  else
   some (.inl (IntKind.wrap .i64 (x0+1)))
 else
  some (.inr (.inl ()))
theorem zxY (a0:Sl (Attr)) (a1:Name) (x0:Int) (o:(Int)⊕((Unit)⊕(Int))) (h:zdw a0 a1 x0=some o):Wp prog zrx (zfL a0 a1 x0) (zbF (0,[]) (zfL a0 a1) (zjd a0 a1) o):=by
 unfold zdw at h
 delta zrx zfL
 try simp only[go_sem]
 refine zaf (fun hc1=> ?_) (fun hc2=> ?_)
 ·rw[if_pos hc1]at h
  try simp only[go_sem]
  obtain⟨y3,hy4,h⟩:=bs h
  try simp only[go_sem,zab hy4,zad hy4,zac zaN hy4]
  refine zaa (v:= .ptr 9 0 0) (fun hb12=>by simp only[go_sem,zab hy4,zad hy4,zac zaN hy4,hc1,hb12]) ?_
  try simp only[go_sem,zab hy4,zad hy4,zac zaN hy4]
  refine zaa (v:= .ptr 9 0 2) (fun hb11=>by simp only[go_sem,zab hy4,zad hy4,zac zaN hy4,hc1,hb11]) ?_
  try simp only[go_sem,zab hy4,zad hy4,zac zaN hy4]
  refine zaa (v:= .d (.str y3.name.local_)) (fun hb10=>by simp only[go_sem,zab hy4,zad hy4,zac zaN hy4,hc1,hb10]) ?_
  try simp only[go_sem,zab hy4,zad hy4,zac zaN hy4]
  refine zaa (v:= .ptr 0 0 2) (fun hb9=>by simp only[go_sem,zab hy4,zad hy4,zac zaN hy4,hc1,hb9]) ?_
  try simp only[go_sem,zab hy4,zad hy4,zac zaN hy4]
  refine zaa (v:= .d (.str a1.local_)) (fun hb8=>by simp only[go_sem,zab hy4,zad hy4,zac zaN hy4,hc1,hb8]) ?_
  try simp only[go_sem,zab hy4,zad hy4,zac zaN hy4]
  refine zaa (v:= .d (.bool (y3.name.local_==a1.local_))) (fun hb7=>by simp only[go_sem,zab hy4,zad hy4,zac zaN hy4,hc1,hb7]) ?_
  try simp only[go_sem,zab hy4,zad hy4,zac zaN hy4]
  refine zaf (fun hc5=> ?_) (fun hc6=> ?_)
  ·rw[if_pos hc5]at h
   try simp only[go_sem,zab hy4,zad hy4,zac zaN hy4]
   cases h
   exact⟨rfl,by simp,Up.of (N:=5) (N':=28) [] rfl rfl (by decide) (.set (.d _) zal.none) zan.at⟩
  rw[if_neg (ff hc6)]at h
  try simp only[go_sem,zab hy4,zad hy4,zac zaN hy4]
  cases h
  exact⟨rfl,Up.of (N:=5) (N':=28) [] rfl rfl (by decide) (.set (.d _) (.set (.d _) (.set (.d _) (.set (.ptr' rfl) zal.none)))) (.set zar.refl_d zan.at)⟩
 rw[if_neg (ff hc2)]at h
 try simp only[go_sem]
 cases h
 exact⟨rfl,by simp,Up.of (N:=5) (N':=6) [] rfl rfl (by decide) zal.none zan.at⟩
noncomputable def zMw (a0:Sl (Attr)) (a1:Name):Option (Int):=
 (zaQ (zdw a0 a1) 0).bind fun r13=>
 match r13 with
 |(.inl q15)=>
  some (-1)
 |(.inr q16)=>
  some q16
theorem zMx (a0:Sl (Attr)) (a1:Name) (r:Int) (h:zMw a0 a1=some r):pc prog 211 [.list a0.n (a0.l.map zaN),zbN a1]=some ((D.int .i64) r):=by
 unfold zMw at h
 refine zaV (fn:=zKG) rfl rfl ?_
 delta zKG
 try simp only[go_sem]
 obtain⟨r13,hl14,h⟩:=bs h
 refine Wp.loopR zbc (n:=(0,[])) (a:=zrx) rfl (zfL a0 a1) (zjd a0 a1) (zxY a0 a1) hl14 ?_ (by(repeat(first|refine Clo.block ?_|refine Clo.seq zbc rfl ?_));(exact Clo.ret)) ?_
 ·show Up (0,[]) (zfL a0 a1 0) _
  delta zfL
  exact Up.of (N:=5) (N':=5) [] rfl rfl (by decide) (.set (.d _) (.set (.d _) (.set (.d _) (.set (.ptr' rfl) zal.none)))) (.set zar.refl_d zan.at)
 rcases r13 with(q15|q16)
 ·dsimp only at h
  dsimp only[zjd]
  try simp only[go_sem]
  cases h
  rfl
 dsimp only at h
 dsimp only[zjd]
 try simp only[go_sem]
 cases h
 rfl
noncomputable def zMy (a0:Int):Option (Bool):=
 some (!(a0==a0))
theorem zMz (a0:Int) (r:Bool) (h:zMy a0=some r):pc prog 213 [.int .i64 a0]=some (D.bool r):=by
 unfold zMy at h
 refine zaV (fn:=zKI) rfl rfl ?_
 delta zKI
 try simp only[go_sem]
 cases h
 rfl
noncomputable def zMA (a0:Node):Option (Int):=
 if(a0.kind==12)=true then
  some a0.host
 else
  some a0.parent
theorem zMB (a0:Node) (r:Int) (h:zMA a0=some r):pc prog 214 [eNode a0]=some ((D.int .i64) r):=by
 unfold zMA at h
 refine zaV (fn:=zKJ) rfl rfl ?_
 delta zKJ
 try simp only[go_sem]
 refine zaf (fun hc1=> ?_) (fun hc2=> ?_)
 ·rw[if_pos hc1]at h
  try simp only[go_sem]
  cases h
  rfl
 rw[if_neg (ff hc2)]at h
 try simp only[go_sem]
 cases h
 rfl
noncomputable def zMC (a0:Int):Option (forest_trait):=
 if(a0==1)=true then
  some (⟨true,false,true,true,true,false⟩:forest_trait)
 else
  (if(a0==3)=true then
   some (a0==3)
  else
   (if(a0==4)=true then
    some (a0==4)
   else
    some (a0==8):Option ((Bool))).bind fun r7=>
   some r7:Option ((Bool))).bind fun r9=>
  if r9=true then
   some (⟨true,true,false,true,false,false⟩:forest_trait)
  else
   if(a0==7)=true then
    some (⟨true,true,false,true,false,true⟩:forest_trait)
   else
    if(a0==10)=true then
     some (⟨true,false,false,true,false,true⟩:forest_trait)
    else
     if(a0==9)=true then
      some (⟨true,false,true,false,false,false⟩:forest_trait)
     else
      if(a0==11)=true then
       some (⟨true,false,true,false,false,false⟩:forest_trait)
      else
       if(a0==12)=true then
        some (⟨true,false,true,false,false,false⟩:forest_trait)
       else
        some (⟨false,false,false,false,false,false⟩:forest_trait)
theorem zMD (a0:Int) (r:forest_trait) (h:zMC a0=some r):pc prog 215 [.int .u8 a0]=some (zaA r):=by
 unfold zMC at h
 refine zaV (fn:=zKK) rfl rfl ?_
 delta zKK
 try simp only[go_sem]
 refine zaf (fun hc1=> ?_) (fun hc2=> ?_)
 ·rw[if_pos hc1]at h
  try simp only[go_sem]
  cases h
  rfl
 rw[if_neg (ff hc2)]at h
 try simp only[go_sem]
 obtain⟨r9,hl10,h⟩:=bs h
 refine WBr.cut (n:=(0,[])) .normal ⟨(((Regs.none.set 2 (.ptr 0 0 0)).set 3 (.d (.int .u8 a0))).set 7 (.d (.bool r9))),((Heap.at 6).set 0 (some (.els 6 [.d (.agg [.bool false,.bool false,.bool false,.bool false,.bool false,.bool false])] 0)))⟩ ?_ (by(repeat(first|refine Clo.block ?_|refine Clo.seq zbc rfl ?_));(exact Clo.ret)) ?_
 ·replace h:=hl10
  refine zaf (fun hc3=> ?_) (fun hc4=> ?_)
  ·rw[if_pos hc3]at h
   try simp only[go_sem]
   cases h
   exact⟨rfl,Up.of (N:=6) (N':=6) [] rfl rfl (by decide) (.set (.d _) (.set (.d _) (.set (.ptr' rfl) zal.none))) (.set zar.refl_d zan.at)⟩
  rw[if_neg (ff hc4)]at h
  try simp only[go_sem]
  obtain⟨r7,hl8,h⟩:=bs h
  refine WBr.cut (n:=(0,[])) .normal ⟨(((Regs.none.set 2 (.ptr 0 0 0)).set 3 (.d (.int .u8 a0))).set 7 (.d (.bool r7))),((Heap.at 8).set 0 (some (.els 6 [.d (.agg [.bool false,.bool false,.bool false,.bool false,.bool false,.bool false])] 0)))⟩ ?_ (by(repeat(first|refine Clo.block ?_|refine Clo.seq zbc rfl ?_));(exact Clo.cpost (by decide))) ?_
  ·replace h:=hl8
   refine zaf (fun hc5=> ?_) (fun hc6=> ?_)
   ·rw[if_pos hc5]at h
    try simp only[go_sem]
    cases h
    exact⟨rfl,Up.of (N:=8) (N':=8) [] rfl rfl (by decide) (.set (.d _) (.set (.d _) (.set (.ptr' rfl) zal.none))) (.set zar.refl_d zan.at)⟩
   rw[if_neg (ff hc6)]at h
   try simp only[go_sem]
   cases h
   exact⟨rfl,Up.of (N:=8) (N':=10) [] rfl rfl (by decide) (.set (.d _) (.set (.d _) (.set (.ptr' rfl) zal.none))) (.set zar.refl_d zan.at)⟩
  skip
  cases h
  exact⟨rfl,Up.of (N:=6) (N':=8) [] rfl rfl (by decide) (.set (.d _) (.set (.d _) (.set (.ptr' rfl) zal.none))) (.set zar.refl_d zan.at)⟩
 try simp only[go_sem]
 refine zaf (fun hc11=> ?_) (fun hc12=> ?_)
 ·rw[if_pos hc11]at h
  try simp only[go_sem]
  cases h
  rfl
 rw[if_neg (ff hc12)]at h
 try simp only[go_sem]
 refine zaf (fun hc13=> ?_) (fun hc14=> ?_)
 ·rw[if_pos hc13]at h
  try simp only[go_sem]
  cases h
  rfl
 rw[if_neg (ff hc14)]at h
 try simp only[go_sem]
 refine zaf (fun hc15=> ?_) (fun hc16=> ?_)
 ·rw[if_pos hc15]at h
  try simp only[go_sem]
  cases h
  rfl
 rw[if_neg (ff hc16)]at h
 try simp only[go_sem]
 refine zaf (fun hc17=> ?_) (fun hc18=> ?_)
 ·rw[if_pos hc17]at h
  try simp only[go_sem]
  try simp only[go_sem,hc2,hc12,hc14,hc16,hc17]
  cases h
  rfl
 rw[if_neg (ff hc18)]at h
 try simp only[go_sem]
 refine zaf (fun hc19=> ?_) (fun hc20=> ?_)
 ·rw[if_pos hc19]at h
  try simp only[go_sem]
  try simp only[go_sem,hc2,hc12,hc14,hc16,hc18,hc19]
  cases h
  rfl
 rw[if_neg (ff hc20)]at h
 try simp only[go_sem]
 refine zaf (fun hc21=> ?_) (fun hc22=> ?_)
 ·rw[if_pos hc21]at h
  try simp only[go_sem]
  cases h
  rfl
 rw[if_neg (ff hc22)]at h
 try simp only[go_sem]
 cases h
 rfl
noncomputable def zME (a0:Node) (a1:forest_trait):Option (Bool):=
 if a1.full=true then
  (dec D.bool (pc prog 229 [zbN a0.name])).bind fun r3=>
  some r3
 else
  if a1.local_=true then
   if(!(a0.name.local_==[]))=true then
    (dec D.bool (pc prog 218 [.list false (([a0.name.local_]).map D.str)])).bind fun r9=>
    if r9=true then
     some (decide (a0.name=(⟨[],[],a0.name.local_⟩:Name)))
    else
     some false
   else
    some false
  else
   some (decide (a0.name=(⟨[],[],[]⟩:Name)))
theorem zMF (a0:Node) (a1:forest_trait) (r:Bool) (h:zME a0 a1=some r):pc prog 216 [eNode a0,zaA a1]=some (D.bool r):=by
 unfold zME at h
 refine zaV (fn:=zKL) rfl rfl ?_
 delta zKL
 try simp only[go_sem]
 refine zaf (fun hc1=> ?_) (fun hc2=> ?_)
 ·rw[if_pos hc1]at h
  try simp only[go_sem]
  obtain⟨r3,hr4,h⟩:=bs h
  replace hr4:=zag hr4
  refine zaj hr4 ?_
  try simp only[go_sem]
  cases h
  rfl
 rw[if_neg (ff hc2)]at h
 try simp only[go_sem]
 refine zaf (fun hc5=> ?_) (fun hc6=> ?_)
 ·rw[if_pos hc5]at h
  try simp only[go_sem]
  refine zaa (v:= .ptr 0 0 1) (fun hb20=>by simp only[go_sem,hc2,hc5,hb20]) ?_
  try simp only[go_sem]
  refine zaa (v:= .ptr 0 0 3) (fun hb19=>by simp only[go_sem,hc2,hc5,hb19]) ?_
  try simp only[go_sem]
  refine zaa (v:= .d (.str a0.name.local_)) (fun hb18=>by simp only[go_sem,hc2,hc5,hb18]) ?_
  try simp only[go_sem]
  refine zau (fun hc7=> ?_) (fun hc8=> ?_)
  ·rw[if_pos (show(!(a0.name.local_==[]))=true by(rw[hc7];rfl))]at h
   try simp only[go_sem,hc7]
   obtain⟨r9,hr10,h⟩:=bs h
   replace hr10:=zag hr10
   refine zaj hr10 ?_
   try simp only[go_sem]
   refine zaa (v:= .ptr 0 0 1) (fun hb17=>by simp only[go_sem,hc2,hc5,hc7,hb17]) ?_
   try simp only[go_sem]
   refine zaa (v:= .d (zbN a0.name)) (fun hb16=>by simp only[go_sem,hc2,hc5,hc7,hb16]) ?_
   try simp only[go_sem]
   refine zaa (v:= .ptr 0 0 1) (fun hb15=>by simp only[go_sem,hc2,hc5,hc7,hb15]) ?_
   try simp only[go_sem]
   refine zaa (v:= .ptr 0 0 3) (fun hb14=>by simp only[go_sem,hc2,hc5,hc7,hb14]) ?_
   try simp only[go_sem]
   refine zaa (v:= .d (.str a0.name.local_)) (fun hb13=>by simp only[go_sem,hc2,hc5,hc7,hb13]) ?_
   try simp only[go_sem]
   refine zay (fun hc11=> ?_) (fun hc12=> ?_)
   ·rw[if_pos hc11]at h
    try simp only[go_sem,hc11]
    cases h
    rfl
   rw[if_neg (ff hc12)]at h
   try simp only[go_sem,hc12]
   cases h
   rfl
  rw[if_neg (ffn hc8)]at h
  try simp only[go_sem,hc8]
  cases h
  rfl
 rw[if_neg (ff hc6)]at h
 try simp only[go_sem]
 cases h
 rfl
def zfM (a0:Sl (Attr)) (x0:List (forest_key×Int)×Int):St:=⟨((((Regs.none.set 3 (.map 4)).set 11 (.d (.list a0.n (a0.l.map zaN)))).set 12 (.d (.int .i64 (a0.l.length:Int)))).set 13 (.d (.int .i64 x0.2))),((Heap.at 9).set 4 (some (.map (ents zah (fun z=>V.d ((D.int .i64) z)) x0.1 0) x0.1.length)))⟩
def zje (a0:Sl (Attr)):((Unit)⊕(Unit))→Ex×St:=fun r=>match r with
 |(.inl r)=>(.exit 0,⟨Regs.none,(Heap.at 9)⟩)
 |(.inr r)=>(.ret,⟨(Regs.none.set 2 (.d (.bool false))),(Heap.at 9)⟩)
noncomputable def zdx (a0:Sl (Attr)) (x0:List (forest_key×Int)×Int):Option ((List (forest_key×Int)×Int)⊕((Unit)⊕(Unit))):=
 if(decide (x0.2<(a0.l.length:Int)))=true then
  (rd a0.l x0.2).bind fun y5=>
  (dec zah (pc prog 230 [zbN y5.name])).bind fun r7=>
  (dec D.bool (pc prog 229 [zbN y5.name])).bind fun r9=>
  if(!(bif (!r9)then true else(decide (4096<(y5.value.length:Int)))))=true then
   if(decide (0<(zjY r7 x0.1 (0))))=true then
    some (.inr (.inr ()))
   else
    some (.inl ((ziy r7 (IntKind.wrap .i64 ((zjY r7 x0.1 (0))+1)) x0.1),(IntKind.wrap .i64 (x0.2+1))))
  else
   some (.inr (.inr ()))
 else
  some (.inr (.inl ()))
theorem zxZ (a0:Sl (Attr)) (x0:List (forest_key×Int)×Int) (o:(List (forest_key×Int)×Int)⊕((Unit)⊕(Unit))) (h:zdx a0 x0=some o):Wp prog zrA (zfM a0 x0) (zbF (0,[]) (zfM a0) (zje a0) o):=by
 unfold zdx at h
 delta zrA zfM
 try simp only[go_sem]
 refine zaf (fun hc3=> ?_) (fun hc4=> ?_)
 ·rw[if_pos hc3]at h
  try simp only[go_sem,zaB (e:=zah) (ev:=(D.int .i64)) zai,zaC (e:=zah) (ev:=(D.int .i64)) zai,zaw (e:=zah) (ev:=(D.int .i64)) zai,zaD (e:=zah) (ev:=(D.int .i64)) zai,zaE (e:=zah) (ev:=(D.int .i64))]
  obtain⟨y5,hy6,h⟩:=bs h
  try simp only[go_sem,zaB (e:=zah) (ev:=(D.int .i64)) zai,zaC (e:=zah) (ev:=(D.int .i64)) zai,zaw (e:=zah) (ev:=(D.int .i64)) zai,zaD (e:=zah) (ev:=(D.int .i64)) zai,zaE (e:=zah) (ev:=(D.int .i64)),zab hy6,zad hy6,zac zaN hy6]
  obtain⟨r7,hr8,h⟩:=bs h
  replace hr8:=zag hr8
  refine zaj hr8 ?_
  try simp only[go_sem,zaB (e:=zah) (ev:=(D.int .i64)) zai,zaC (e:=zah) (ev:=(D.int .i64)) zai,zaw (e:=zah) (ev:=(D.int .i64)) zai,zaD (e:=zah) (ev:=(D.int .i64)) zai,zaE (e:=zah) (ev:=(D.int .i64)),zab hy6,zad hy6,zac zaN hy6]
  obtain⟨r9,hr10,h⟩:=bs h
  replace hr10:=zag hr10
  refine zaj hr10 ?_
  try simp only[go_sem,zaB (e:=zah) (ev:=(D.int .i64)) zai,zaC (e:=zah) (ev:=(D.int .i64)) zai,zaw (e:=zah) (ev:=(D.int .i64)) zai,zaD (e:=zah) (ev:=(D.int .i64)) zai,zaE (e:=zah) (ev:=(D.int .i64)),zab hy6,zad hy6,zac zaN hy6]
  refine zaa (v:= .ptr 12 0 3) (fun hb18=>by simp only[go_sem,zaB (e:=zah) (ev:=(D.int .i64)) zai,zaC (e:=zah) (ev:=(D.int .i64)) zai,zaw (e:=zah) (ev:=(D.int .i64)) zai,zaD (e:=zah) (ev:=(D.int .i64)) zai,zaE (e:=zah) (ev:=(D.int .i64)),zab hy6,zad hy6,zac zaN hy6,hc3,hb18]) ?_
  try simp only[go_sem,zaB (e:=zah) (ev:=(D.int .i64)) zai,zaC (e:=zah) (ev:=(D.int .i64)) zai,zaw (e:=zah) (ev:=(D.int .i64)) zai,zaD (e:=zah) (ev:=(D.int .i64)) zai,zaE (e:=zah) (ev:=(D.int .i64)),zab hy6,zad hy6,zac zaN hy6]
  refine zaa (v:= .d (.str y5.value)) (fun hb17=>by simp only[go_sem,zaB (e:=zah) (ev:=(D.int .i64)) zai,zaC (e:=zah) (ev:=(D.int .i64)) zai,zaw (e:=zah) (ev:=(D.int .i64)) zai,zaD (e:=zah) (ev:=(D.int .i64)) zai,zaE (e:=zah) (ev:=(D.int .i64)),zab hy6,zad hy6,zac zaN hy6,hc3,hb17]) ?_
  try simp only[go_sem,zaB (e:=zah) (ev:=(D.int .i64)) zai,zaC (e:=zah) (ev:=(D.int .i64)) zai,zaw (e:=zah) (ev:=(D.int .i64)) zai,zaD (e:=zah) (ev:=(D.int .i64)) zai,zaE (e:=zah) (ev:=(D.int .i64)),zab hy6,zad hy6,zac zaN hy6]
  refine zaa (v:= .d (.int .i64 (y5.value.length:Int))) (fun hb16=>by simp only[go_sem,zaB (e:=zah) (ev:=(D.int .i64)) zai,zaC (e:=zah) (ev:=(D.int .i64)) zai,zaw (e:=zah) (ev:=(D.int .i64)) zai,zaD (e:=zah) (ev:=(D.int .i64)) zai,zaE (e:=zah) (ev:=(D.int .i64)),zab hy6,zad hy6,zac zaN hy6,hc3,hb16]) ?_
  try simp only[go_sem,zaB (e:=zah) (ev:=(D.int .i64)) zai,zaC (e:=zah) (ev:=(D.int .i64)) zai,zaw (e:=zah) (ev:=(D.int .i64)) zai,zaD (e:=zah) (ev:=(D.int .i64)) zai,zaE (e:=zah) (ev:=(D.int .i64)),zab hy6,zad hy6,zac zaN hy6]
  refine zaa (v:= .d (.bool (decide (4096<(y5.value.length:Int))))) (fun hb15=>by simp only[go_sem,zaB (e:=zah) (ev:=(D.int .i64)) zai,zaC (e:=zah) (ev:=(D.int .i64)) zai,zaw (e:=zah) (ev:=(D.int .i64)) zai,zaD (e:=zah) (ev:=(D.int .i64)) zai,zaE (e:=zah) (ev:=(D.int .i64)),zab hy6,zad hy6,zac zaN hy6,hc3,hb15]) ?_
  try simp only[go_sem,zaB (e:=zah) (ev:=(D.int .i64)) zai,zaC (e:=zah) (ev:=(D.int .i64)) zai,zaw (e:=zah) (ev:=(D.int .i64)) zai,zaD (e:=zah) (ev:=(D.int .i64)) zai,zaE (e:=zah) (ev:=(D.int .i64)),zab hy6,zad hy6,zac zaN hy6]
  refine zau (fun hc11=> ?_) (fun hc12=> ?_)
  ·rw[if_pos (show(!(bif (!r9)then true else(decide (4096<(y5.value.length:Int)))))=true by(rw[hc11];rfl))]at h
   try simp only[go_sem,zaB (e:=zah) (ev:=(D.int .i64)) zai,zaC (e:=zah) (ev:=(D.int .i64)) zai,zaw (e:=zah) (ev:=(D.int .i64)) zai,zaD (e:=zah) (ev:=(D.int .i64)) zai,zaE (e:=zah) (ev:=(D.int .i64)),zab hy6,zad hy6,zac zaN hy6,hc11]
   refine zaf (fun hc13=> ?_) (fun hc14=> ?_)
   ·rw[if_pos hc13]at h
    try simp only[go_sem,zaB (e:=zah) (ev:=(D.int .i64)) zai,zaC (e:=zah) (ev:=(D.int .i64)) zai,zaw (e:=zah) (ev:=(D.int .i64)) zai,zaD (e:=zah) (ev:=(D.int .i64)) zai,zaE (e:=zah) (ev:=(D.int .i64)),zab hy6,zad hy6,zac zaN hy6]
    cases h
    exact⟨rfl,by simp,Up.of (N:=9) (N':=36) [] rfl rfl (by decide) (.set (.d _) zal.none) zan.at⟩
   rw[if_neg (ff hc14)]at h
   try simp only[go_sem,zaB (e:=zah) (ev:=(D.int .i64)) zai,zaC (e:=zah) (ev:=(D.int .i64)) zai,zaw (e:=zah) (ev:=(D.int .i64)) zai,zaD (e:=zah) (ev:=(D.int .i64)) zai,zaE (e:=zah) (ev:=(D.int .i64)),zab hy6,zad hy6,zac zaN hy6]
   cases h
   exact⟨rfl,Up.of (N:=9) (N':=44) [] rfl rfl (by decide) (.set (.d _) (.set (.d _) (.set (.d _) (.set (.map' rfl) zal.none)))) (.set zar.map_d zan.at)⟩
  rw[if_neg (ffn hc12)]at h
  try simp only[go_sem,zaB (e:=zah) (ev:=(D.int .i64)) zai,zaC (e:=zah) (ev:=(D.int .i64)) zai,zaw (e:=zah) (ev:=(D.int .i64)) zai,zaD (e:=zah) (ev:=(D.int .i64)) zai,zaE (e:=zah) (ev:=(D.int .i64)),zab hy6,zad hy6,zac zaN hy6,hc12]
  cases h
  exact⟨rfl,by simp,Up.of (N:=9) (N':=36) [] rfl rfl (by decide) (.set (.d _) zal.none) zan.at⟩
 rw[if_neg (ff hc4)]at h
 try simp only[go_sem,zaB (e:=zah) (ev:=(D.int .i64)) zai,zaC (e:=zah) (ev:=(D.int .i64)) zai,zaw (e:=zah) (ev:=(D.int .i64)) zai,zaD (e:=zah) (ev:=(D.int .i64)) zai,zaE (e:=zah) (ev:=(D.int .i64))]
 cases h
 exact⟨rfl,by simp,Up.of (N:=9) (N':=10) [] rfl rfl (by decide) zal.none zan.at⟩
noncomputable def zMG (a0:Sl (Attr)):Option (Bool):=
 if(decide (64<(a0.l.length:Int)))=true then
  some false
 else
  (zaQ (zdx a0) ([],0)).bind fun r19=>
  match r19 with
  |(.inl q21)=>
   some true
  |(.inr q22)=>
   some false
theorem zMH (a0:Sl (Attr)) (r:Bool) (h:zMG a0=some r):pc prog 217 [.list a0.n (a0.l.map zaN)]=some (D.bool r):=by
 unfold zMG at h
 refine zaV (fn:=zKM) rfl rfl ?_
 delta zKM
 try simp only[go_sem]
 refine zaf (fun hc1=> ?_) (fun hc2=> ?_)
 ·rw[if_pos hc1]at h
  try simp only[go_sem]
  cases h
  rfl
 rw[if_neg (ff hc2)]at h
 try simp only[go_sem]
 obtain⟨r19,hl20,h⟩:=bs h
 refine Wp.loopR zbc (n:=(0,[])) (a:=zrA) rfl (zfM a0) (zje a0) (zxZ a0) hl20 ?_ (by(repeat(first|refine Clo.block ?_|refine Clo.seq zbc rfl ?_));(exact Clo.ret)) ?_
 ·show Up (0,[]) (zfM a0 ([],0)) _
  delta zfM
  exact Up.of (N:=9) (N':=9) [] rfl rfl (by decide) (.set (.d _) (.set (.d _) (.set (.d _) (.set (.map' rfl) zal.none)))) (.set zar.map_d zan.at)
 rcases r19 with(q21|q22)
 ·dsimp only at h
  dsimp only[zje]
  try simp only[go_sem]
  cases h
  rfl
 dsimp only at h
 dsimp only[zje]
 try simp only[go_sem]
 cases h
 rfl
def zfN (a0:Sl (List UInt8)) (x0:Int):St:=⟨(((Regs.none.set 5 (.d (.list a0.n (a0.l.map D.str)))).set 6 (.d (.int .i64 (a0.l.length:Int)))).set 7 (.d (.int .i64 x0))),(Heap.at 4)⟩
def zjf (a0:Sl (List UInt8)):((Unit)⊕(Unit))→Ex×St:=fun r=>match r with
 |(.inl r)=>(.exit 0,⟨Regs.none,(Heap.at 4)⟩)
 |(.inr r)=>(.ret,⟨(Regs.none.set 2 (.d (.bool false))),(Heap.at 4)⟩)
noncomputable def zdy (a0:Sl (List UInt8)) (x0:Int):Option ((Int)⊕((Unit)⊕(Unit))):=
 if(decide (x0<(a0.l.length:Int)))=true then
  (rd a0.l x0).bind fun y3=>
  if(decide (1024<(y3.length:Int)))=true then
   some (.inr (.inr ()))
  else
   some (.inl (IntKind.wrap .i64 (x0+1)))
 else
  some (.inr (.inl ()))
theorem zya (a0:Sl (List UInt8)) (x0:Int) (o:(Int)⊕((Unit)⊕(Unit))) (h:zdy a0 x0=some o):Wp prog zrB (zfN a0 x0) (zbF (0,[]) (zfN a0) (zjf a0) o):=by
 unfold zdy at h
 delta zrB zfN
 try simp only[go_sem]
 refine zaf (fun hc1=> ?_) (fun hc2=> ?_)
 ·rw[if_pos hc1]at h
  try simp only[go_sem]
  obtain⟨y3,hy4,h⟩:=bs h
  try simp only[go_sem,zab hy4,zad hy4,zac D.str hy4]
  refine zaf (fun hc5=> ?_) (fun hc6=> ?_)
  ·rw[if_pos hc5]at h
   try simp only[go_sem,zab hy4,zad hy4,zac D.str hy4]
   cases h
   exact⟨rfl,by simp,Up.of (N:=4) (N':=12) [] rfl rfl (by decide) (.set (.d _) zal.none) zan.at⟩
  rw[if_neg (ff hc6)]at h
  try simp only[go_sem,zab hy4,zad hy4,zac D.str hy4]
  cases h
  exact⟨rfl,Up.of (N:=4) (N':=13) [] rfl rfl (by decide) (.set (.d _) (.set (.d _) (.set (.d _) zal.none))) zan.at⟩
 rw[if_neg (ff hc2)]at h
 try simp only[go_sem]
 cases h
 exact⟨rfl,by simp,Up.of (N:=4) (N':=5) [] rfl rfl (by decide) zal.none zan.at⟩
noncomputable def zMI (a0:Sl (List UInt8)):Option (Bool):=
 (zaQ (zdy a0) 0).bind fun r7=>
 match r7 with
 |(.inl q9)=>
  some true
 |(.inr q10)=>
  some false
theorem zMJ (a0:Sl (List UInt8)) (r:Bool) (h:zMI a0=some r):pc prog 218 [.list a0.n (a0.l.map D.str)]=some (D.bool r):=by
 unfold zMI at h
 refine zaV (fn:=zKN) rfl rfl ?_
 delta zKN
 try simp only[go_sem]
 obtain⟨r7,hl8,h⟩:=bs h
 refine Wp.loopR zbc (n:=(0,[])) (a:=zrB) rfl (zfN a0) (zjf a0) (zya a0) hl8 ?_ (by(repeat(first|refine Clo.block ?_|refine Clo.seq zbc rfl ?_));(exact Clo.ret)) ?_
 ·show Up (0,[]) (zfN a0 0) _
  delta zfN
  exact Up.of (N:=4) (N':=4) [] rfl rfl (by decide) (.set (.d _) (.set (.d _) (.set (.d _) zal.none))) zan.at
 rcases r7 with(q9|q10)
 ·dsimp only at h
  dsimp only[zjf]
  try simp only[go_sem]
  cases h
  rfl
 dsimp only at h
 dsimp only[zjf]
 try simp only[go_sem]
 cases h
 rfl
noncomputable def zMK (a0:Forest) (a1:Int):Option (Node×Bool):=
 if(bif (decide (a1<1))then true else(decide ((a0.nodes.l.length:Int)<a1)))=true then
  some ((⟨0,⟨[],[],[]⟩,[],[],⟨true,[]⟩,⟨true,[]⟩,0,⟨true,[]⟩,0,0,0,0,false,false⟩:Node),false)
 else
  (rd a0.nodes.l (IntKind.wrap .i64 (a1-1))).bind fun y3=>
  some (y3,true)
theorem zML (a0:Forest) (a1:Int) (r:Node×Bool) (h:zMK a0 a1=some r):pc prog 219 [eForest a0,.int .i64 a1]=some ((eT2 eNode D.bool) r):=by
 unfold zMK at h
 refine zaV (fn:=zKO) rfl rfl ?_
 delta zKO
 try simp only[go_sem]
 refine zaa (v:= .d (.int .i64 a1)) (fun hb9=>by simp only[go_sem,hb9]) ?_
 try simp only[go_sem]
 refine zaa (v:= .ptr 0 0 0) (fun hb8=>by simp only[go_sem,hb8]) ?_
 try simp only[go_sem]
 refine zaa (v:= .d (.list a0.nodes.n (a0.nodes.l.map eNode))) (fun hb7=>by simp only[go_sem,hb7]) ?_
 try simp only[go_sem]
 refine zaa (v:= .d (.int .i64 (a0.nodes.l.length:Int))) (fun hb6=>by simp only[go_sem,hb6]) ?_
 try simp only[go_sem]
 refine zaa (v:= .d (.bool (decide ((a0.nodes.l.length:Int)<a1)))) (fun hb5=>by simp only[go_sem,hb5]) ?_
 try simp only[go_sem]
 refine zaf (fun hc1=> ?_) (fun hc2=> ?_)
 ·rw[if_pos hc1]at h
  try simp only[go_sem]
  cases h
  rfl
 rw[if_neg (ff hc2)]at h
 try simp only[go_sem]
 obtain⟨y3,hy4,h⟩:=bs h
 try simp only[go_sem,zab hy4,zad hy4,zac eNode hy4]
 cases h
 rfl
def zfO (a0:Sl (Int)) (a1:Int) (x0:Int×Int):St:=⟨(((((Regs.none.set 1 (.d (.int .i64 a1))).set 5 (.d (.int .i64 x0.2))).set 8 (.d (.list a0.n (a0.l.map (D.int .i64))))).set 9 (.d (.int .i64 (a0.l.length:Int)))).set 10 (.d (.int .i64 x0.1))),(Heap.at 5)⟩
def zmr (a0:Sl (Int)) (a1:Int):((Int))→Ex×St:=fun r=>(.exit 0,⟨(Regs.none.set 5 (.d (.int .i64 r))),(Heap.at 5)⟩)
noncomputable def zdz (a0:Sl (Int)) (a1:Int) (x0:Int×Int):Option ((Int×Int)⊕((Int))):=
 if(decide (x0.1<(a0.l.length:Int)))=true then
  (rd a0.l x0.1).bind fun y3=>
  if(y3==a1)=true then
   some (.inl ((IntKind.wrap .i64 (x0.1+1)),(IntKind.wrap .i64 (x0.2+1))))
  else
   some (.inl ((IntKind.wrap .i64 (x0.1+1)),x0.2))
 else
  some (.inr x0.2)
theorem zyb (a0:Sl (Int)) (a1:Int) (x0:Int×Int) (o:(Int×Int)⊕((Int))) (h:zdz a0 a1 x0=some o):Wp prog zrC (zfO a0 a1 x0) (zbF (0,[]) (zfO a0 a1) (zmr a0 a1) o):=by
 unfold zdz at h
 delta zrC zfO
 try simp only[go_sem]
 refine zaf (fun hc1=> ?_) (fun hc2=> ?_)
 ·rw[if_pos hc1]at h
  try simp only[go_sem]
  obtain⟨y3,hy4,h⟩:=bs h
  try simp only[go_sem,zab hy4,zad hy4,zac (D.int .i64) hy4]
  refine zaf (fun hc5=> ?_) (fun hc6=> ?_)
  ·rw[if_pos hc5]at h
   try simp only[go_sem,zab hy4,zad hy4,zac (D.int .i64) hy4]
   cases h
   exact⟨rfl,Up.of (N:=5) (N':=17) [] rfl rfl (by decide) (.set (.d _) (.set (.d _) (.set (.d _) (.set (.d _) (.set (.d _) zal.none))))) zan.at⟩
  rw[if_neg (ff hc6)]at h
  try simp only[go_sem,zab hy4,zad hy4,zac (D.int .i64) hy4]
  cases h
  exact⟨rfl,Up.of (N:=5) (N':=14) [] rfl rfl (by decide) (.set (.d _) (.set (.d _) (.set (.d _) (.set (.d _) (.set (.d _) zal.none))))) zan.at⟩
 rw[if_neg (ff hc2)]at h
 try simp only[go_sem]
 cases h
 exact⟨rfl,by simp,Up.of (N:=5) (N':=6) [] rfl rfl (by decide) (.set (.d _) zal.none) zan.at⟩
noncomputable def zMM (a0:Sl (Int)) (a1:Int):Option (Bool):=
 (zaQ (zdz a0 a1) (0,0)).bind fun r7=>
 some (r7==1)
theorem zMN (a0:Sl (Int)) (a1:Int) (r:Bool) (h:zMM a0 a1=some r):pc prog 220 [.list a0.n (a0.l.map (D.int .i64)),.int .i64 a1]=some (D.bool r):=by
 unfold zMM at h
 refine zaV (fn:=zKP) rfl rfl ?_
 delta zKP
 try simp only[go_sem]
 obtain⟨r7,hl8,h⟩:=bs h
 refine Wp.loopR zbc (n:=(0,[])) (a:=zrC) rfl (zfO a0 a1) (zmr a0 a1) (zyb a0 a1) hl8 ?_ (by(repeat(first|refine Clo.block ?_|refine Clo.seq zbc rfl ?_));(exact Clo.ret)) ?_
 ·show Up (0,[]) (zfO a0 a1 (0,0)) _
  delta zfO
  exact Up.of (N:=5) (N':=5) [] rfl rfl (by decide) (.set (.d _) (.set (.d _) (.set (.d _) (.set (.d _) (.set (.d _) zal.none))))) zan.at
 dsimp only[zmr]
 try simp only[go_sem]
 cases h
 rfl
noncomputable def zMO (a0:Forest) (a1:Int):Option (Int):=
 (dec (eT2 eNode D.bool) (pc prog 219 [eForest a0,.int .i64 a1])).bind fun r1=>
 some r1.1.kind
theorem zMP (a0:Forest) (a1:Int) (r:Int) (h:zMO a0 a1=some r):pc prog 221 [eForest a0,.int .i64 a1]=some ((D.int .u8) r):=by
 unfold zMO at h
 refine zaV (fn:=zKQ) rfl rfl ?_
 delta zKQ
 try simp only[go_sem]
 obtain⟨r1,hr2,h⟩:=bs h
 replace hr2:=zag hr2
 refine zaj hr2 ?_
 try simp only[go_sem]
 cases h
 rfl
def zfP (a0:Forest) (a1:Int) (a2:Node) (x0:List (Int×Int)×Int):St:=⟨(((((((Regs.none.set 1 (.d (.int .i64 a1))).set 3 (.ptr 0 0 0)).set 5 (.ptr 1 0 0)).set 7 (.map 3)).set 14 (.d (.list a2.kids.n (a2.kids.l.map (D.int .i64))))).set 15 (.d (.int .i64 (a2.kids.l.length:Int)))).set 16 (.d (.int .i64 x0.2))),((((Heap.at 9).set 0 (some (.els 1 [.d (eForest a0)] 0))).set 1 (some (.els 16 [.d (eNode a2)] 0))).set 3 (some (.map (ents (D.int .i64) (fun z=>V.d ((D.int .i64) z)) x0.1 0) x0.1.length)))⟩
def zjg (a0:Forest) (a1:Int) (a2:Node):((Unit)⊕(Unit))→Ex×St:=fun r=>match r with
 |(.inl r)=>(.exit 0,⟨((Regs.none.set 3 (.ptr 0 0 0)).set 5 (.ptr 1 0 0)),(((Heap.at 9).set 0 (some (.els 1 [.d (eForest a0)] 0))).set 1 (some (.els 16 [.d (eNode a2)] 0)))⟩)
 |(.inr r)=>(.ret,⟨(Regs.none.set 6 (.d (.bool false))),(Heap.at 9)⟩)
noncomputable def zdA (a0:Forest) (a1:Int) (a2:Node) (x0:List (Int×Int)×Int):Option ((List (Int×Int)×Int)⊕((Unit)⊕(Unit))):=
 if(decide (x0.2<(a2.kids.l.length:Int)))=true then
  (rd a2.kids.l x0.2).bind fun y3=>
  (dec (eT2 eNode D.bool) (pc prog 219 [eForest a0,.int .i64 y3])).bind fun r5=>
  if r5.2=true then
   if(bif (bif (decide (0<(zjY y3 x0.1 (0))))then true else(!(r5.1.parent==a1)))then true else(!(r5.1.doc==a2.doc)))=true then
    some (.inr (.inr ()))
   else
    some (.inl ((ziy y3 (IntKind.wrap .i64 ((zjY y3 x0.1 (0))+1)) x0.1),(IntKind.wrap .i64 (x0.2+1))))
  else
   some (.inr (.inr ()))
 else
  some (.inr (.inl ()))
theorem zyc (a0:Forest) (a1:Int) (a2:Node) (x0:List (Int×Int)×Int) (o:(List (Int×Int)×Int)⊕((Unit)⊕(Unit))) (h:zdA a0 a1 a2 x0=some o):Wp prog zrD (zfP a0 a1 a2 x0) (zbF (0,[]) (zfP a0 a1 a2) (zjg a0 a1 a2) o):=by
 unfold zdA at h
 delta zrD zfP
 try simp only[go_sem]
 refine zaf (fun hc1=> ?_) (fun hc2=> ?_)
 ·rw[if_pos hc1]at h
  try simp only[go_sem,zaB (e:=(D.int .i64)) (ev:=(D.int .i64)) zam,zaC (e:=(D.int .i64)) (ev:=(D.int .i64)) zam,zaw (e:=(D.int .i64)) (ev:=(D.int .i64)) zam,zaD (e:=(D.int .i64)) (ev:=(D.int .i64)) zam,zaE (e:=(D.int .i64)) (ev:=(D.int .i64))]
  obtain⟨y3,hy4,h⟩:=bs h
  try simp only[go_sem,zaB (e:=(D.int .i64)) (ev:=(D.int .i64)) zam,zaC (e:=(D.int .i64)) (ev:=(D.int .i64)) zam,zaw (e:=(D.int .i64)) (ev:=(D.int .i64)) zam,zaD (e:=(D.int .i64)) (ev:=(D.int .i64)) zam,zaE (e:=(D.int .i64)) (ev:=(D.int .i64)),zab hy4,zad hy4,zac (D.int .i64) hy4]
  obtain⟨r5,hr6,h⟩:=bs h
  replace hr6:=zag hr6
  refine zaj hr6 ?_
  try simp only[go_sem,zaB (e:=(D.int .i64)) (ev:=(D.int .i64)) zam,zaC (e:=(D.int .i64)) (ev:=(D.int .i64)) zam,zaw (e:=(D.int .i64)) (ev:=(D.int .i64)) zam,zaD (e:=(D.int .i64)) (ev:=(D.int .i64)) zam,zaE (e:=(D.int .i64)) (ev:=(D.int .i64)),zab hy4,zad hy4,zac (D.int .i64) hy4]
  refine zay (fun hc7=> ?_) (fun hc8=> ?_)
  ·rw[if_pos hc7]at h
   try simp only[go_sem,zaB (e:=(D.int .i64)) (ev:=(D.int .i64)) zam,zaC (e:=(D.int .i64)) (ev:=(D.int .i64)) zam,zaw (e:=(D.int .i64)) (ev:=(D.int .i64)) zam,zaD (e:=(D.int .i64)) (ev:=(D.int .i64)) zam,zaE (e:=(D.int .i64)) (ev:=(D.int .i64)),zab hy4,zad hy4,zac (D.int .i64) hy4,hc7]
   refine zaa (v:= .ptr 19 0 8) (fun hb19=>by simp only[go_sem,zaB (e:=(D.int .i64)) (ev:=(D.int .i64)) zam,zaC (e:=(D.int .i64)) (ev:=(D.int .i64)) zam,zaw (e:=(D.int .i64)) (ev:=(D.int .i64)) zam,zaD (e:=(D.int .i64)) (ev:=(D.int .i64)) zam,zaE (e:=(D.int .i64)) (ev:=(D.int .i64)),zab hy4,zad hy4,zac (D.int .i64) hy4,hc1,hc7,hb19]) ?_
   try simp only[go_sem,zaB (e:=(D.int .i64)) (ev:=(D.int .i64)) zam,zaC (e:=(D.int .i64)) (ev:=(D.int .i64)) zam,zaw (e:=(D.int .i64)) (ev:=(D.int .i64)) zam,zaD (e:=(D.int .i64)) (ev:=(D.int .i64)) zam,zaE (e:=(D.int .i64)) (ev:=(D.int .i64)),zab hy4,zad hy4,zac (D.int .i64) hy4]
   refine zaa (v:= .d (.int .i64 r5.1.parent)) (fun hb18=>by simp only[go_sem,zaB (e:=(D.int .i64)) (ev:=(D.int .i64)) zam,zaC (e:=(D.int .i64)) (ev:=(D.int .i64)) zam,zaw (e:=(D.int .i64)) (ev:=(D.int .i64)) zam,zaD (e:=(D.int .i64)) (ev:=(D.int .i64)) zam,zaE (e:=(D.int .i64)) (ev:=(D.int .i64)),zab hy4,zad hy4,zac (D.int .i64) hy4,hc1,hc7,hb18]) ?_
   try simp only[go_sem,zaB (e:=(D.int .i64)) (ev:=(D.int .i64)) zam,zaC (e:=(D.int .i64)) (ev:=(D.int .i64)) zam,zaw (e:=(D.int .i64)) (ev:=(D.int .i64)) zam,zaD (e:=(D.int .i64)) (ev:=(D.int .i64)) zam,zaE (e:=(D.int .i64)) (ev:=(D.int .i64)),zab hy4,zad hy4,zac (D.int .i64) hy4]
   refine zaa (v:= .d (.int .i64 a1)) (fun hb17=>by simp only[go_sem,zaB (e:=(D.int .i64)) (ev:=(D.int .i64)) zam,zaC (e:=(D.int .i64)) (ev:=(D.int .i64)) zam,zaw (e:=(D.int .i64)) (ev:=(D.int .i64)) zam,zaD (e:=(D.int .i64)) (ev:=(D.int .i64)) zam,zaE (e:=(D.int .i64)) (ev:=(D.int .i64)),zab hy4,zad hy4,zac (D.int .i64) hy4,hc1,hc7,hb17]) ?_
   try simp only[go_sem,zaB (e:=(D.int .i64)) (ev:=(D.int .i64)) zam,zaC (e:=(D.int .i64)) (ev:=(D.int .i64)) zam,zaw (e:=(D.int .i64)) (ev:=(D.int .i64)) zam,zaD (e:=(D.int .i64)) (ev:=(D.int .i64)) zam,zaE (e:=(D.int .i64)) (ev:=(D.int .i64)),zab hy4,zad hy4,zac (D.int .i64) hy4]
   refine zaa (v:= .d (.bool (!(r5.1.parent==a1)))) (fun hb16=>by simp only[go_sem,zaB (e:=(D.int .i64)) (ev:=(D.int .i64)) zam,zaC (e:=(D.int .i64)) (ev:=(D.int .i64)) zam,zaw (e:=(D.int .i64)) (ev:=(D.int .i64)) zam,zaD (e:=(D.int .i64)) (ev:=(D.int .i64)) zam,zaE (e:=(D.int .i64)) (ev:=(D.int .i64)),zab hy4,zad hy4,zac (D.int .i64) hy4,hc1,hc7,hb16]) ?_
   try simp only[go_sem,zaB (e:=(D.int .i64)) (ev:=(D.int .i64)) zam,zaC (e:=(D.int .i64)) (ev:=(D.int .i64)) zam,zaw (e:=(D.int .i64)) (ev:=(D.int .i64)) zam,zaD (e:=(D.int .i64)) (ev:=(D.int .i64)) zam,zaE (e:=(D.int .i64)) (ev:=(D.int .i64)),zab hy4,zad hy4,zac (D.int .i64) hy4]
   refine zaa (v:= .ptr 19 0 10) (fun hb15=>by simp only[go_sem,zaB (e:=(D.int .i64)) (ev:=(D.int .i64)) zam,zaC (e:=(D.int .i64)) (ev:=(D.int .i64)) zam,zaw (e:=(D.int .i64)) (ev:=(D.int .i64)) zam,zaD (e:=(D.int .i64)) (ev:=(D.int .i64)) zam,zaE (e:=(D.int .i64)) (ev:=(D.int .i64)),zab hy4,zad hy4,zac (D.int .i64) hy4,hc1,hc7,hb15]) ?_
   try simp only[go_sem,zaB (e:=(D.int .i64)) (ev:=(D.int .i64)) zam,zaC (e:=(D.int .i64)) (ev:=(D.int .i64)) zam,zaw (e:=(D.int .i64)) (ev:=(D.int .i64)) zam,zaD (e:=(D.int .i64)) (ev:=(D.int .i64)) zam,zaE (e:=(D.int .i64)) (ev:=(D.int .i64)),zab hy4,zad hy4,zac (D.int .i64) hy4]
   refine zaa (v:= .d (.int .i64 r5.1.doc)) (fun hb14=>by simp only[go_sem,zaB (e:=(D.int .i64)) (ev:=(D.int .i64)) zam,zaC (e:=(D.int .i64)) (ev:=(D.int .i64)) zam,zaw (e:=(D.int .i64)) (ev:=(D.int .i64)) zam,zaD (e:=(D.int .i64)) (ev:=(D.int .i64)) zam,zaE (e:=(D.int .i64)) (ev:=(D.int .i64)),zab hy4,zad hy4,zac (D.int .i64) hy4,hc1,hc7,hb14]) ?_
   try simp only[go_sem,zaB (e:=(D.int .i64)) (ev:=(D.int .i64)) zam,zaC (e:=(D.int .i64)) (ev:=(D.int .i64)) zam,zaw (e:=(D.int .i64)) (ev:=(D.int .i64)) zam,zaD (e:=(D.int .i64)) (ev:=(D.int .i64)) zam,zaE (e:=(D.int .i64)) (ev:=(D.int .i64)),zab hy4,zad hy4,zac (D.int .i64) hy4]
   refine zaa (v:= .ptr 1 0 10) (fun hb13=>by simp only[go_sem,zaB (e:=(D.int .i64)) (ev:=(D.int .i64)) zam,zaC (e:=(D.int .i64)) (ev:=(D.int .i64)) zam,zaw (e:=(D.int .i64)) (ev:=(D.int .i64)) zam,zaD (e:=(D.int .i64)) (ev:=(D.int .i64)) zam,zaE (e:=(D.int .i64)) (ev:=(D.int .i64)),zab hy4,zad hy4,zac (D.int .i64) hy4,hc1,hc7,hb13]) ?_
   try simp only[go_sem,zaB (e:=(D.int .i64)) (ev:=(D.int .i64)) zam,zaC (e:=(D.int .i64)) (ev:=(D.int .i64)) zam,zaw (e:=(D.int .i64)) (ev:=(D.int .i64)) zam,zaD (e:=(D.int .i64)) (ev:=(D.int .i64)) zam,zaE (e:=(D.int .i64)) (ev:=(D.int .i64)),zab hy4,zad hy4,zac (D.int .i64) hy4]
   refine zaa (v:= .d (.int .i64 a2.doc)) (fun hb12=>by simp only[go_sem,zaB (e:=(D.int .i64)) (ev:=(D.int .i64)) zam,zaC (e:=(D.int .i64)) (ev:=(D.int .i64)) zam,zaw (e:=(D.int .i64)) (ev:=(D.int .i64)) zam,zaD (e:=(D.int .i64)) (ev:=(D.int .i64)) zam,zaE (e:=(D.int .i64)) (ev:=(D.int .i64)),zab hy4,zad hy4,zac (D.int .i64) hy4,hc1,hc7,hb12]) ?_
   try simp only[go_sem,zaB (e:=(D.int .i64)) (ev:=(D.int .i64)) zam,zaC (e:=(D.int .i64)) (ev:=(D.int .i64)) zam,zaw (e:=(D.int .i64)) (ev:=(D.int .i64)) zam,zaD (e:=(D.int .i64)) (ev:=(D.int .i64)) zam,zaE (e:=(D.int .i64)) (ev:=(D.int .i64)),zab hy4,zad hy4,zac (D.int .i64) hy4]
   refine zaa (v:= .d (.bool (!(r5.1.doc==a2.doc)))) (fun hb11=>by simp only[go_sem,zaB (e:=(D.int .i64)) (ev:=(D.int .i64)) zam,zaC (e:=(D.int .i64)) (ev:=(D.int .i64)) zam,zaw (e:=(D.int .i64)) (ev:=(D.int .i64)) zam,zaD (e:=(D.int .i64)) (ev:=(D.int .i64)) zam,zaE (e:=(D.int .i64)) (ev:=(D.int .i64)),zab hy4,zad hy4,zac (D.int .i64) hy4,hc1,hc7,hb11]) ?_
   try simp only[go_sem,zaB (e:=(D.int .i64)) (ev:=(D.int .i64)) zam,zaC (e:=(D.int .i64)) (ev:=(D.int .i64)) zam,zaw (e:=(D.int .i64)) (ev:=(D.int .i64)) zam,zaD (e:=(D.int .i64)) (ev:=(D.int .i64)) zam,zaE (e:=(D.int .i64)) (ev:=(D.int .i64)),zab hy4,zad hy4,zac (D.int .i64) hy4]
   refine zaf (fun hc9=> ?_) (fun hc10=> ?_)
   ·rw[if_pos hc9]at h
    try simp only[go_sem,zaB (e:=(D.int .i64)) (ev:=(D.int .i64)) zam,zaC (e:=(D.int .i64)) (ev:=(D.int .i64)) zam,zaw (e:=(D.int .i64)) (ev:=(D.int .i64)) zam,zaD (e:=(D.int .i64)) (ev:=(D.int .i64)) zam,zaE (e:=(D.int .i64)) (ev:=(D.int .i64)),zab hy4,zad hy4,zac (D.int .i64) hy4]
    cases h
    exact⟨rfl,by simp,Up.of (N:=9) (N':=44) [] rfl rfl (by decide) (.set (.d _) zal.none) zan.at⟩
   rw[if_neg (ff hc10)]at h
   try simp only[go_sem,zaB (e:=(D.int .i64)) (ev:=(D.int .i64)) zam,zaC (e:=(D.int .i64)) (ev:=(D.int .i64)) zam,zaw (e:=(D.int .i64)) (ev:=(D.int .i64)) zam,zaD (e:=(D.int .i64)) (ev:=(D.int .i64)) zam,zaE (e:=(D.int .i64)) (ev:=(D.int .i64)),zab hy4,zad hy4,zac (D.int .i64) hy4]
   cases h
   exact⟨rfl,Up.of (N:=9) (N':=50) [] rfl rfl (by decide) (.set (.d _) (.set (.d _) (.set (.d _) (.set (.map' rfl) (.set (.ptr' rfl) (.set (.ptr' rfl) (.set (.d _) zal.none))))))) (.set zar.map_d (.set zar.refl_d (.set zar.refl_d zan.at)))⟩
  rw[if_neg (ff hc8)]at h
  try simp only[go_sem,zaB (e:=(D.int .i64)) (ev:=(D.int .i64)) zam,zaC (e:=(D.int .i64)) (ev:=(D.int .i64)) zam,zaw (e:=(D.int .i64)) (ev:=(D.int .i64)) zam,zaD (e:=(D.int .i64)) (ev:=(D.int .i64)) zam,zaE (e:=(D.int .i64)) (ev:=(D.int .i64)),zab hy4,zad hy4,zac (D.int .i64) hy4,hc8]
  cases h
  exact⟨rfl,by simp,Up.of (N:=9) (N':=44) [] rfl rfl (by decide) (.set (.d _) zal.none) zan.at⟩
 rw[if_neg (ff hc2)]at h
 try simp only[go_sem,zaB (e:=(D.int .i64)) (ev:=(D.int .i64)) zam,zaC (e:=(D.int .i64)) (ev:=(D.int .i64)) zam,zaw (e:=(D.int .i64)) (ev:=(D.int .i64)) zam,zaD (e:=(D.int .i64)) (ev:=(D.int .i64)) zam,zaE (e:=(D.int .i64)) (ev:=(D.int .i64))]
 cases h
 exact⟨rfl,by simp,Up.of (N:=9) (N':=10) [] rfl rfl (by decide) (.set (.ptr' rfl) (.set (.ptr' rfl) zal.none)) (.set zar.refl_d (.set zar.refl_d zan.at))⟩
noncomputable def zMQ (a0:Forest) (a1:Int) (a2:Node):Option (Bool):=
 (zaQ (zdA a0 a1 a2) ([],0)).bind fun r20=>
 match r20 with
 |(.inl q22)=>
  (dec D.bool (pc prog 231 [eForest a0,eNode a2])).bind fun r23=>
  some r23
 |(.inr q25)=>
  some false
theorem zMR (a0:Forest) (a1:Int) (a2:Node) (r:Bool) (h:zMQ a0 a1 a2=some r):pc prog 222 [eForest a0,.int .i64 a1,eNode a2]=some (D.bool r):=by
 unfold zMQ at h
 refine zaV (fn:=zKR) rfl rfl ?_
 delta zKR
 try simp only[go_sem]
 obtain⟨r20,hl21,h⟩:=bs h
 refine Wp.loopR zbc (n:=(0,[])) (a:=zrD) rfl (zfP a0 a1 a2) (zjg a0 a1 a2) (zyc a0 a1 a2) hl21 ?_ (by(repeat(first|refine Clo.block ?_|refine Clo.seq zbc rfl ?_));(exact Clo.ret)) ?_
 ·show Up (0,[]) (zfP a0 a1 a2 ([],0)) _
  delta zfP
  exact Up.of (N:=9) (N':=9) [] rfl rfl (by decide) (.set (.d _) (.set (.d _) (.set (.d _) (.set (.map' rfl) (.set (.ptr' rfl) (.set (.ptr' rfl) (.set (.d _) zal.none))))))) (.set zar.map_d (.set zar.refl_d (.set zar.refl_d zan.at)))
 rcases r20 with(q22|q25)
 ·dsimp only at h
  dsimp only[zjg]
  try simp only[go_sem]
  obtain⟨r23,hr24,h⟩:=bs h
  replace hr24:=zag hr24
  refine zaj hr24 ?_
  try simp only[go_sem]
  cases h
  rfl
 dsimp only at h
 dsimp only[zjg]
 try simp only[go_sem]
 cases h
 rfl
noncomputable def zMS (a0:Name):Option (Bool):=
 if(!(a0.local_==[]))=true then
  (dec D.bool (pc prog 218 [.list false (([a0.space,a0.prefix_,a0.local_]).map D.str)])).bind fun r3=>
  if r3=true then
   some (bif (a0.prefix_==[])then true else(!(a0.space==[])))
  else
   some false
 else
  some false
theorem zMT (a0:Name) (r:Bool) (h:zMS a0=some r):pc prog 229 [zbN a0]=some (D.bool r):=by
 unfold zMS at h
 refine zaV (fn:=zKS) rfl rfl ?_
 delta zKS
 try simp only[go_sem]
 refine zaa (v:= .ptr 0 0 0) (fun hb25=>by simp only[go_sem,hb25]) ?_
 try simp only[go_sem]
 refine zaa (v:= .d (.str a0.space)) (fun hb24=>by simp only[go_sem,hb24]) ?_
 try simp only[go_sem]
 refine zaa (v:= .ptr 0 0 1) (fun hb23=>by simp only[go_sem,hb23]) ?_
 try simp only[go_sem]
 refine zaa (v:= .d (.str a0.prefix_)) (fun hb22=>by simp only[go_sem,hb22]) ?_
 try simp only[go_sem]
 refine zaa (v:= .ptr 0 0 2) (fun hb21=>by simp only[go_sem,hb21]) ?_
 try simp only[go_sem]
 refine zaa (v:= .d (.str a0.local_)) (fun hb20=>by simp only[go_sem,hb20]) ?_
 try simp only[go_sem]
 refine zau (fun hc1=> ?_) (fun hc2=> ?_)
 ·rw[if_pos (show(!(a0.local_==[]))=true by(rw[hc1];rfl))]at h
  try simp only[go_sem,hc1]
  obtain⟨r3,hr4,h⟩:=bs h
  replace hr4:=zag hr4
  refine zaj hr4 ?_
  try simp only[go_sem]
  refine zaa (v:= .ptr 0 0 1) (fun hb19=>by simp only[go_sem,hc1,hb19]) ?_
  try simp only[go_sem]
  refine zaa (v:= .d (.str a0.prefix_)) (fun hb18=>by simp only[go_sem,hc1,hb18]) ?_
  try simp only[go_sem]
  refine zaa (v:= .d (.bool (a0.prefix_==[]))) (fun hb17=>by simp only[go_sem,hc1,hb17]) ?_
  try simp only[go_sem]
  refine zaa (v:= .d (.bool (a0.prefix_==[]))) (fun hb16=>by simp only[go_sem,hc1,hb16]) ?_
  try simp only[go_sem]
  refine zaa (v:= .ptr 0 0 0) (fun hb13=>by((obtain⟨hb14,hb15⟩:=zaq hb13));simp only[go_sem,hc1,hb15,hb14]) ?_
  try simp only[go_sem]
  refine zaa (v:= .d (.str a0.space)) (fun hb10=>by((obtain⟨hb11,hb12⟩:=zaq hb10));simp only[go_sem,hc1,hb12,hb11]) ?_
  try simp only[go_sem]
  refine zaa (v:= .d (.bool (!(a0.space==[])))) (fun hb7=>by((obtain⟨hb8,hb9⟩:=zaq hb7));simp only[go_sem,hc1,hb9,hb8]) ?_
  try simp only[go_sem]
  refine zay (fun hc5=> ?_) (fun hc6=> ?_)
  ·rw[if_pos hc5]at h
   try simp only[go_sem,hc5]
   cases h
   rfl
  rw[if_neg (ff hc6)]at h
  try simp only[go_sem,hc6]
  cases h
  rfl
 rw[if_neg (ffn hc2)]at h
 try simp only[go_sem,hc2]
 cases h
 rfl
noncomputable def zNl (a0:Name):Option (forest_key):=
 some (⟨a0.space,a0.local_⟩:forest_key)
theorem zMU (a0:Name) (r:forest_key) (h:zNl a0=some r):pc prog 230 [zbN a0]=some (zah r):=by
 unfold zNl at h
 refine zaV (fn:=zKT) rfl rfl ?_
 delta zKT
 try simp only[go_sem]
 cases h
 rfl
def zfQ (a0:Forest) (a1:Node) (x0:Int×Int×Int):St:=⟨(((((((Regs.none.set 2 (.ptr 0 0 0)).set 5 (.d (.bool (a1.kind==9)))).set 6 (.d (.int .i64 x0.2.1))).set 7 (.d (.int .i64 x0.2.2))).set 14 (.d (.list a1.kids.n (a1.kids.l.map (D.int .i64))))).set 15 (.d (.int .i64 (a1.kids.l.length:Int)))).set 16 (.d (.int .i64 x0.1))),((Heap.at 13).set 0 (some (.els 1 [.d (eForest a0)] 0)))⟩
def zjh (a0:Forest) (a1:Node):((Int×Int)⊕(Unit))→Ex×St:=fun r=>match r with
 |(.inl r)=>(.exit 0,⟨(((Regs.none.set 5 (.d (.bool (a1.kind==9)))).set 6 (.d (.int .i64 r.1))).set 7 (.d (.int .i64 r.2))),(Heap.at 13)⟩)
 |(.inr r)=>(.ret,⟨(Regs.none.set 4 (.d (.bool false))),(Heap.at 13)⟩)
noncomputable def zdB (a0:Forest) (a1:Node) (x0:Int×Int×Int):Option ((Int×Int×Int)⊕((Int×Int)⊕(Unit))):=
 if(decide (x0.1<(a1.kids.l.length:Int)))=true then
  (rd a1.kids.l x0.1).bind fun y3=>
  (dec (D.int .u8) (pc prog 221 [eForest a0,.int .i64 y3])).bind fun r5=>
  if(r5==1)=true then
   some (.inl ((IntKind.wrap .i64 (x0.1+1)),(IntKind.wrap .i64 (x0.2.1+1)),x0.2.2))
  else
   if(r5==10)=true then
    if(bif (!(a1.kind==9))then true else(decide (0<x0.2.1)))=true then
     some (.inr (.inr ()))
    else
     some (.inl ((IntKind.wrap .i64 (x0.1+1)),x0.2.1,(IntKind.wrap .i64 (x0.2.2+1))))
   else
    if(r5==3)=true then
     if(a1.kind==9)=true then
      some (.inr (.inr ()))
     else
      some (.inl ((IntKind.wrap .i64 (x0.1+1)),x0.2.1,x0.2.2))
    else
     if(r5==4)=true then
      if(a1.kind==9)=true then
       some (.inr (.inr ()))
      else
       some (.inl ((IntKind.wrap .i64 (x0.1+1)),x0.2.1,x0.2.2))
     else
      if(r5==8)=true then
       some (.inl ((IntKind.wrap .i64 (x0.1+1)),x0.2.1,x0.2.2))
      else
       if(r5==7)=true then
        some (.inl ((IntKind.wrap .i64 (x0.1+1)),x0.2.1,x0.2.2))
       else
        some (.inr (.inr ()))
 else
  some (.inr (.inl (x0.2.1,x0.2.2)))
theorem zyd (a0:Forest) (a1:Node) (x0:Int×Int×Int) (o:(Int×Int×Int)⊕((Int×Int)⊕(Unit))) (h:zdB a0 a1 x0=some o):Wp prog zrE (zfQ a0 a1 x0) (zbF (0,[]) (zfQ a0 a1) (zjh a0 a1) o):=by
 unfold zdB at h
 delta zrE zfQ
 try simp only[go_sem]
 refine zaf (fun hc1=> ?_) (fun hc2=> ?_)
 ·rw[if_pos hc1]at h
  try simp only[go_sem]
  obtain⟨y3,hy4,h⟩:=bs h
  try simp only[go_sem,zab hy4,zad hy4,zac (D.int .i64) hy4]
  obtain⟨r5,hr6,h⟩:=bs h
  replace hr6:=zag hr6
  refine zaj hr6 ?_
  try simp only[go_sem,zab hy4,zad hy4,zac (D.int .i64) hy4]
  refine zaf (fun hc7=> ?_) (fun hc8=> ?_)
  ·rw[if_pos hc7]at h
   try simp only[go_sem,zab hy4,zad hy4,zac (D.int .i64) hy4]
   cases h
   exact⟨rfl,Up.of (N:=13) (N':=27) [] rfl rfl (by decide) (.set (.d _) (.set (.d _) (.set (.d _) (.set (.d _) (.set (.d _) (.set (.d _) (.set (.ptr' rfl) zal.none))))))) (.set zar.refl_d zan.at)⟩
  rw[if_neg (ff hc8)]at h
  try simp only[go_sem,zab hy4,zad hy4,zac (D.int .i64) hy4]
  refine zaf (fun hc9=> ?_) (fun hc10=> ?_)
  ·rw[if_pos hc9]at h
   try simp only[go_sem,zab hy4,zad hy4,zac (D.int .i64) hy4]
   refine zaa (v:= .d (.int .i64 x0.2.1)) (fun hb14=>by simp only[go_sem,zab hy4,zad hy4,zac (D.int .i64) hy4,hc1,hc8,hc9,hb14]) ?_
   try simp only[go_sem,zab hy4,zad hy4,zac (D.int .i64) hy4]
   refine zaa (v:= .d (.bool (decide (0<x0.2.1)))) (fun hb13=>by simp only[go_sem,zab hy4,zad hy4,zac (D.int .i64) hy4,hc1,hc8,hc9,hb13]) ?_
   try simp only[go_sem,zab hy4,zad hy4,zac (D.int .i64) hy4]
   refine zaf (fun hc11=> ?_) (fun hc12=> ?_)
   ·rw[if_pos hc11]at h
    try simp only[go_sem,zab hy4,zad hy4,zac (D.int .i64) hy4]
    cases h
    exact⟨rfl,by simp,Up.of (N:=13) (N':=31) [] rfl rfl (by decide) (.set (.d _) zal.none) zan.at⟩
   rw[if_neg (ff hc12)]at h
   try simp only[go_sem,zab hy4,zad hy4,zac (D.int .i64) hy4]
   cases h
   exact⟨rfl,Up.of (N:=13) (N':=35) [] rfl rfl (by decide) (.set (.d _) (.set (.d _) (.set (.d _) (.set (.d _) (.set (.d _) (.set (.d _) (.set (.ptr' rfl) zal.none))))))) (.set zar.refl_d zan.at)⟩
  rw[if_neg (ff hc10)]at h
  try simp only[go_sem,zab hy4,zad hy4,zac (D.int .i64) hy4]
  refine zaf (fun hc15=> ?_) (fun hc16=> ?_)
  ·rw[if_pos hc15]at h
   try simp only[go_sem,zab hy4,zad hy4,zac (D.int .i64) hy4]
   try simp only[go_sem,zab hy4,zad hy4,zac (D.int .i64) hy4,hc1,hc8,hc10,hc15]
   refine zaf (fun hc17=> ?_) (fun hc18=> ?_)
   ·rw[if_pos hc17]at h
    try simp only[go_sem,zab hy4,zad hy4,zac (D.int .i64) hy4]
    cases h
    exact⟨rfl,by simp,Up.of (N:=13) (N':=28) [] rfl rfl (by decide) (.set (.d _) zal.none) zan.at⟩
   rw[if_neg (ff hc18)]at h
   try simp only[go_sem,zab hy4,zad hy4,zac (D.int .i64) hy4]
   cases h
   exact⟨rfl,Up.of (N:=13) (N':=29) [] rfl rfl (by decide) (.set (.d _) (.set (.d _) (.set (.d _) (.set (.d _) (.set (.d _) (.set (.d _) (.set (.ptr' rfl) zal.none))))))) (.set zar.refl_d zan.at)⟩
  rw[if_neg (ff hc16)]at h
  try simp only[go_sem,zab hy4,zad hy4,zac (D.int .i64) hy4]
  refine zaf (fun hc19=> ?_) (fun hc20=> ?_)
  ·rw[if_pos hc19]at h
   try simp only[go_sem,zab hy4,zad hy4,zac (D.int .i64) hy4]
   refine zaf (fun hc21=> ?_) (fun hc22=> ?_)
   ·rw[if_pos hc21]at h
    try simp only[go_sem,zab hy4,zad hy4,zac (D.int .i64) hy4]
    cases h
    exact⟨rfl,by simp,Up.of (N:=13) (N':=30) [] rfl rfl (by decide) (.set (.d _) zal.none) zan.at⟩
   rw[if_neg (ff hc22)]at h
   try simp only[go_sem,zab hy4,zad hy4,zac (D.int .i64) hy4]
   cases h
   exact⟨rfl,Up.of (N:=13) (N':=31) [] rfl rfl (by decide) (.set (.d _) (.set (.d _) (.set (.d _) (.set (.d _) (.set (.d _) (.set (.d _) (.set (.ptr' rfl) zal.none))))))) (.set zar.refl_d zan.at)⟩
  rw[if_neg (ff hc20)]at h
  try simp only[go_sem,zab hy4,zad hy4,zac (D.int .i64) hy4]
  refine zaf (fun hc23=> ?_) (fun hc24=> ?_)
  ·rw[if_pos hc23]at h
   try simp only[go_sem,zab hy4,zad hy4,zac (D.int .i64) hy4]
   try simp only[go_sem,zab hy4,zad hy4,zac (D.int .i64) hy4,hc1,hc8,hc10,hc16,hc20,hc23]
   cases h
   exact⟨rfl,Up.of (N:=13) (N':=32) [] rfl rfl (by decide) (.set (.d _) (.set (.d _) (.set (.d _) (.set (.d _) (.set (.d _) (.set (.d _) (.set (.ptr' rfl) zal.none))))))) (.set zar.refl_d zan.at)⟩
  rw[if_neg (ff hc24)]at h
  try simp only[go_sem,zab hy4,zad hy4,zac (D.int .i64) hy4]
  refine zaf (fun hc25=> ?_) (fun hc26=> ?_)
  ·rw[if_pos hc25]at h
   try simp only[go_sem,zab hy4,zad hy4,zac (D.int .i64) hy4]
   cases h
   exact⟨rfl,Up.of (N:=13) (N':=34) [] rfl rfl (by decide) (.set (.d _) (.set (.d _) (.set (.d _) (.set (.d _) (.set (.d _) (.set (.d _) (.set (.ptr' rfl) zal.none))))))) (.set zar.refl_d zan.at)⟩
  rw[if_neg (ff hc26)]at h
  try simp only[go_sem,zab hy4,zad hy4,zac (D.int .i64) hy4]
  cases h
  exact⟨rfl,by simp,Up.of (N:=13) (N':=33) [] rfl rfl (by decide) (.set (.d _) zal.none) zan.at⟩
 rw[if_neg (ff hc2)]at h
 try simp only[go_sem]
 cases h
 exact⟨rfl,by simp,Up.of (N:=13) (N':=14) [] rfl rfl (by decide) (.set (.d _) (.set (.d _) (.set (.d _) zal.none))) zan.at⟩
noncomputable def zMV (a0:Forest) (a1:Node):Option (Bool):=
 (zaQ (zdB a0 a1) (0,0,0)).bind fun r27=>
 match r27 with
 |(.inl q29)=>
  if(a1.kind==9)=true then
   some (bif (decide (q29.1<2))then(decide (q29.2<2))else false)
  else
   some true
 |(.inr q41)=>
  some false
theorem zMW (a0:Forest) (a1:Node) (r:Bool) (h:zMV a0 a1=some r):pc prog 231 [eForest a0,eNode a1]=some (D.bool r):=by
 unfold zMV at h
 refine zaV (fn:=zKU) rfl rfl ?_
 delta zKU
 try simp only[go_sem]
 obtain⟨r27,hl28,h⟩:=bs h
 refine Wp.loopR zbc (n:=(0,[])) (a:=zrE) rfl (zfQ a0 a1) (zjh a0 a1) (zyd a0 a1) hl28 ?_ (by(repeat(first|refine Clo.block ?_|refine Clo.seq zbc rfl ?_));(exact Clo.ret)) ?_
 ·show Up (0,[]) (zfQ a0 a1 (0,0,0)) _
  delta zfQ
  exact Up.of (N:=13) (N':=13) [] rfl rfl (by decide) (.set (.d _) (.set (.d _) (.set (.d _) (.set (.d _) (.set (.d _) (.set (.d _) (.set (.ptr' rfl) zal.none))))))) (.set zar.refl_d zan.at)
 rcases r27 with(q29|q41)
 ·dsimp only at h
  dsimp only[zjh]
  try simp only[go_sem]
  refine zaa (v:= .d (.int .i64 q29.1)) (fun hb40=>by simp only[go_sem,hb40]) ?_
  try simp only[go_sem]
  refine zaa (v:= .d (.bool (decide (q29.1<2)))) (fun hb39=>by simp only[go_sem,hb39]) ?_
  try simp only[go_sem]
  refine zaa (v:= .d (.bool (decide (q29.1<2)))) (fun hb38=>by simp only[go_sem,hb38]) ?_
  try simp only[go_sem]
  refine zaa (v:= .d (.int .i64 q29.2)) (fun hb35=>by((obtain⟨hb36,hb37⟩:=zaq hb35));simp only[go_sem,hb37,hb36]) ?_
  try simp only[go_sem]
  refine zaa (v:= .d (.bool (decide (q29.2<2)))) (fun hb32=>by((obtain⟨hb33,hb34⟩:=zaq hb32));simp only[go_sem,hb34,hb33]) ?_
  try simp only[go_sem]
  refine zay (fun hc30=> ?_) (fun hc31=> ?_)
  ·rw[if_pos hc30]at h
   try simp only[go_sem,hc30]
   cases h
   rfl
  rw[if_neg (ff hc31)]at h
  try simp only[go_sem,hc31]
  cases h
  rfl
 dsimp only at h
 dsimp only[zjh]
 try simp only[go_sem]
 cases h
 rfl
end Go.Proofs.Ytfleilibjdgcjaa.O
