/- Shaken copy of a longer text: what one law needs. Its conditions: none. -/
import Derived.Test.YtfleilibjdgcjaaPBDec0
import Derived.Test.YtfleilibjdgcjaaPBSpIp
set_option linter.unusedSimpArgs false
set_option linter.unusedVariables false
set_option maxHeartbeats 1000000
namespace Go.Proofs.Ytfleilibjdgcjaa.B
open Go.AI
noncomputable def P41 (a0:Forest) (a1:Bound) (a2:Bound):Option (Int×Int):=
 (dec (D.int .i64) (pc prog 109 [zad a0,.list false (([a1,a2]).map zal),.list true []])).bind fun r1=>
 if(!(r1==0))=true then
  some (0,r1)
 else
  (dec D.bool (pc prog 110 [zad a0,.int .i64 a1.node,.int .i64 a2.node])).bind fun r5=>
  if(!r5)=true then
   some (0,18)
  else
   (dec (D.int .i64) (pc prog 111 [zad a0,zal a1,zal a2])).bind fun r9=>
   some (r9,0)
theorem zOP (a0:Forest) (a1:Bound) (a2:Bound) (r:Int×Int) (h:P41 a0 a1 a2=some r):pc prog 41 [zad a0,zal a1,zal a2]=some ((eT2 (D.int .i64) (D.int .i64)) r):=by
 unfold P41 at h
 refine zaY (fn:=c41) rfl rfl ?_
 delta c41
 try simp only[go_sem]
 obtain⟨r1,hr2,h⟩:=bs h
 replace hr2:=zap hr2
 refine zar hr2 ?_
 try simp only[go_sem]
 refine zaF (fun hc3=> ?_) (fun hc4=> ?_)
 ·rw[if_pos (show(!(r1==0))=true by(rw[hc3];rfl))]at h
  try simp only[go_sem]
  cases h
  rfl
 rw[if_neg (ffn hc4)]at h
 try simp only[go_sem]
 obtain⟨r5,hr6,h⟩:=bs h
 replace hr6:=zap hr6
 refine zar hr6 ?_
 try simp only[go_sem]
 refine zaF (fun hc7=> ?_) (fun hc8=> ?_)
 ·rw[if_pos (show(!r5)=true by(rw[hc7];rfl))]at h
  try simp only[go_sem]
  cases h
  rfl
 rw[if_neg (ffn hc8)]at h
 try simp only[go_sem]
 obtain⟨r9,hr10,h⟩:=bs h
 replace hr10:=zap hr10
 refine zar hr10 ?_
 try simp only[go_sem]
 cases h
 rfl
def zgO (a0:Forest) (a1:Int) (x0:List (Bound)):Heap:=(((((((Heap.at 24).set 0 (some (.els 1 [.d (zad a0)] 0))).set 10 (some (.els 1 [mb 18 (x0.map fun z=>V.d (zal z))] 0))).set 14 (some (.els 1 [.d (zad a0)] 0))).set 15 (some (.els 1 [.d (.int .i64 a1)] 0))).set 18 (mbB 2 x0.length (x0.map fun z=>V.d (zal z)))).set 19 (some (.loop ⟨(Regs.none.set 7 (.ptr 10 0 0)),[19],zCq,zCr,.ready,none⟩)))
def zqG (a0:Forest) (a1:Int):(Empty)→Heap:=fun r=>r.elim
noncomputable def zez (a0:Forest) (a1:Int) (x0:List (Bound)) (v0:Bound):Option ((List (Bound))⊕(Empty)):=
 if(x0.length+1)*16≤AI.roomBytes then
  some (.inl (x0++[v0]))
 else none
theorem zCQ (a0:Forest) (a1:Int):Yl prog (24,[18]) 19 zal (zgO a0 a1) (zqG a0 a1) (zez a0 a1):=by
 refine⟨by decide,fun x0=> ?_,fun r=> ?_,fun x0 v0 o h=> ?_⟩
 ·show LocH 24 _;delta zgO;repeat(first|exact LocH.at|refine LocH.set (by decide) ?_ ?_|refine zDr.some ?_|exact zDr.mb|refine zod.els ?_|refine zod.loop ?_|exact zgP.nil|refine zgP.cons ?_ ?_|exact zeS.d|exact zeS.ptr (by decide)|exact zeS.mb (by decide)|exact zuQ.none|refine zuQ.set ?_ ?_)
 ·exact r.elim
 unfold zez at h
 delta zgO
 refine zof (L:=⟨(Regs.none.set 7 (.ptr 10 0 0)),[19],zCq,zCr,.ready,none⟩) (by simp only[go_sem]) rfl ?_
 delta zCq
 try simp only[go_sem]
 delta zCr
 try simp only[go_sem]
 obtain⟨hm5,h⟩:=zbh h
 refine zdw (l:=x0.map fun z=>V.d (zal z)) (new:=[V.d (zal v0)]) (sz:=2) (fz:=x0.length) (by simp only[go_sem,List.map_append,List.map_cons,List.map_nil]) (by intro h;simpa using h) (by simp only[go_sem,zaT,zaX,zaU,zaI,zbP]) (by simp) (by rfl) (by simpa using hm5) ?_
 try simp only[go_sem,hm5]
 cases h
 refine⟨rfl,Up.of (N:=24) (N':=31) [(18,29)] rfl rfl (by decide) ?_ ?_⟩
 ·exact zak.none
 refine zan.set (show zau _ _ (Heap.get _ 19)from ?_) (zan.set (show zau _ _ (Heap.get _ 29)from ?_) (zan.set (show zau _ _ (Heap.get _ 15)from ?_) (zan.set (show zau _ _ (Heap.get _ 14)from ?_) (zan.set (show zau _ _ (Heap.get _ 10)from ?_) (zan.set (show zau _ _ (Heap.get _ 0)from ?_) (zan.at))))))
 all_goals (try simp only[go_sem,List.map_append,List.map_cons,List.map_nil,hm5])
 all_goals (((repeat' first|exact zau.refl_d|refine zau.els (by simp) ?_|refine zau.mb_els (by simp) ?_|refine zau.loop ?_ rfl rfl|exact zak.none|refine zak.set ?_ ?_|exact VR.d _|exact VR.ptr' rfl|exact VR.mb_sl (by(simp;done)) rfl (by simp)|exact VRL.nil|exact VRL.refl_d _ _|refine VRL.append ?_ ?_|refine VRL.cons ?_ ?_);done))
noncomputable def P42 (a0:Forest) (a1:Int):Option (Sl (Bound)×Int):=
 (dec (D.int .i64) (pc prog 87 [zad a0,.list false (([a1]).map (D.int .i64))])).bind fun r1=>
 if(!(r1==0))=true then
  some (⟨true,[]⟩,r1)
 else
  (zhx a0 a1).bind fun l6=>
  (foldI (zez a0 a1) ([]) l6).bind fun r8=>
  match r8 with
  | .inl q10=>
   some (⟨q10.isEmpty,q10⟩,0)
  | .inr q0=>
   q0.elim
theorem zOQ (a0:Forest) (a1:Int) (r:Sl (Bound)×Int) (h:P42 a0 a1=some r):pc prog 42 [zad a0,.int .i64 a1]=some ((eT2 (eSl zal) (D.int .i64)) r):=by
 unfold P42 at h
 refine zaY (fn:=c42) rfl rfl ?_
 delta c42
 try simp only[go_sem]
 obtain⟨r1,hr2,h⟩:=bs h
 replace hr2:=zap hr2
 refine zar hr2 ?_
 try simp only[go_sem]
 refine zaF (fun hc3=> ?_) (fun hc4=> ?_)
 ·rw[if_pos (show(!(r1==0))=true by(rw[hc3];rfl))]at h
  try simp only[go_sem]
  cases h
  rfl
 rw[if_neg (ffn hc4)]at h
 try simp only[go_sem]
 refine ziU (fn:=zKO) rfl rfl ?_
 delta zKO
 try simp only[go_sem]
 refine Wp.rfuncC (k:=178) (fn:=zLm) (first:=[]) (cap:=[.ptr 14 0 0,.ptr 15 0 0]) (by simp only[go_sem]) rfl rfl ?_
 delta zLm
 try simp only[go_sem]
 obtain⟨l6,hl7,h⟩:=bs h
 obtain⟨r8,hl9,h⟩:=bs h
 refine zog zbe (n:=(24,[18])) (n':=(20,[18])) (S:=zgO a0 a1) (F:=zqG a0 a1) (zoU hl7) (zCQ a0 a1) (fun _=>Nat.le_refl _) (fun r=>r.elim) hl9 ?_ rfl rfl rfl ?_ ?_ (show Fx.spans _ 20 4=true from by decide) (by decide) (by(repeat(first|refine Clo.block ?_|refine Clo.seq zbe rfl ?_));refine Clo.rf (n':=(0,[18])) ?_ (by decide) (by decide) ?_;((repeat(first|refine zce.set ?_ ?_|refine zce.args ?_|exact zct.nil|refine zct.cons ?_ ?_|exact zcH.d|exact zcH.ptr (by decide)|refine zcH.clo ?_ ?_)));(repeat(first|refine Clo.block ?_|refine Clo.seq zbe rfl ?_));(exact Clo.ret)) rfl ?_
 ·show Up (24,[18]) ⟨Regs.none,zgO a0 a1 ([])⟩ _
  delta zgO
  refine Up.of (N:=24) (N':=24) [] rfl rfl (by decide) ?_ ?_
  ·exact zak.none
  refine zan.set (show zau _ _ (Heap.get _ 19)from ?_) (zan.set (show zau _ _ (Heap.get _ 18)from ?_) (zan.set (show zau _ _ (Heap.get _ 15)from ?_) (zan.set (show zau _ _ (Heap.get _ 14)from ?_) (zan.set (show zau _ _ (Heap.get _ 10)from ?_) (zan.set (show zau _ _ (Heap.get _ 0)from ?_) (zan.at))))))
  all_goals (try simp only[go_sem,List.map_append,List.map_cons,List.map_nil])
  all_goals (((repeat' first|trivial|exact zau.refl_d|refine zau.loop ?_ rfl rfl|exact zak.none|refine zak.set ?_ ?_|exact VR.ptr' rfl);done))
 ·repeat(first|exact zce.no|refine zce.set ?_ ?_|exact zcH.d|exact zcH.yld (by decide))
 ·repeat(first|refine zce.args ?_|exact zct.nil|refine zct.cons ?_ ?_|exact zcH.ptr (by decide)|exact zcH.yld (by decide))
 rcases r8 with(q10|q0)
 ·dsimp only at h
  simp only[zry,zrz,zfs,zft]
  dsimp only[zgO,zqG]
  try simp only[go_sem]
  cases h
  refine Reads.ofv (v':=V.ofTuple [mb 18 (q10.map fun z=>V.d (zal z)),.d (.int .i64 (0))]) (by rfl) (Rd.tuple (RdL.cons (Rd.mb (e:=zal) (l:=q10) (sz:=2) (fz:=q10.length) (by simp only[go_sem,List.map_append,List.map_cons,List.map_nil])) (RdL.cons Rd.d RdL.nil))) rfl
 exact q0.elim
def zfR (a0:Forest) (a1:Sl (Bound)) (a2:Sl (Int)) (x0:Int×List (Int)):St:=⟨(((((((Regs.none.set 1 (.d (.list a1.n (a1.l.map zal)))).set 2 (.d (.list a2.n (a2.l.map (D.int .i64))))).set 3 (.ptr 0 0 0)).set 7 (mb 5 (x0.2.map fun z=>V.d ((D.int .i64) z)))).set 13 (.d (.list a1.n (a1.l.map zal)))).set 14 (.d (.int .i64 (a1.l.length:Int)))).set 15 (.d (.int .i64 x0.1))),(((Heap.at 6).set 0 (some (.els 1 [.d (zad a0)] 0))).set 5 (mbB 1 x0.2.length (x0.2.map fun z=>V.d ((D.int .i64) z))))⟩
def zmM (a0:Forest) (a1:Sl (Bound)) (a2:Sl (Int)):((List (Int)))→Ex×St:=fun r=>(.exit 0,⟨((((Regs.none.set 1 (.d (.list a1.n (a1.l.map zal)))).set 2 (.d (.list a2.n (a2.l.map (D.int .i64))))).set 3 (.ptr 0 0 0)).set 7 (mb 5 (r.map fun z=>V.d ((D.int .i64) z)))),(((Heap.at 6).set 0 (some (.els 1 [.d (zad a0)] 0))).set 5 (mbB 1 r.length (r.map fun z=>V.d ((D.int .i64) z))))⟩)
noncomputable def zcl (a0:Forest) (a1:Sl (Bound)) (a2:Sl (Int)) (x0:Int×List (Int)):Option ((Int×List (Int))⊕((List (Int)))):=
 if(decide (x0.1<(a1.l.length:Int)))=true then
  (rd a1.l x0.1).bind fun y3=>
  if(x0.2.length+1)*8≤AI.roomBytes then
   some (.inl ((IntKind.wrap .i64 (x0.1+1)),(x0.2++[y3.node])))
  else none
 else
  some (.inr x0.2)
theorem zzr (a0:Forest) (a1:Sl (Bound)) (a2:Sl (Int)) (x0:Int×List (Int)) (o:(Int×List (Int))⊕((List (Int)))) (h:zcl a0 a1 a2 x0=some o):Wp prog zrC (zfR a0 a1 a2 x0) (zbH (0,[]) (zfR a0 a1 a2) (zmM a0 a1 a2) o):=by
 unfold zcl at h
 delta zrC zfR
 try simp only[go_sem]
 refine zaj (fun hc1=> ?_) (fun hc2=> ?_)
 ·rw[if_pos hc1]at h
  try simp only[go_sem]
  obtain⟨y3,hy4,h⟩:=bs h
  try simp only[go_sem,zab hy4,zae hy4,zac zal hy4]
  obtain⟨hm5,h⟩:=zbh h
  refine zdw (l:=x0.2.map fun z=>V.d ((D.int .i64) z)) (new:=[V.d (.int .i64 y3.node)]) (sz:=1) (fz:=x0.2.length) (by simp only[go_sem,List.map_append,List.map_cons,List.map_nil,zab hy4,zae hy4,zac zal hy4]) (by intro h;simpa using h) (by simp only[go_sem,zaT,zaX,zaU,zaI,zbP]) (by simp) (by rfl) (by simpa using hm5) ?_
  try simp only[go_sem,zab hy4,zae hy4,zac zal hy4,hm5]
  cases h
  refine⟨rfl,Up.of (N:=6) (N':=19) [(5,15)] rfl rfl (by decide) ?_ ?_⟩
  ·refine zak.set ?_ (zak.set ?_ (zak.set ?_ (zak.set ?_ (zak.set ?_ (zak.set ?_ (zak.set ?_ zak.none))))))
   all_goals (try simp only[go_sem,List.map_append,List.map_cons,List.map_nil,zab hy4,zae hy4,zac zal hy4,hm5])
   all_goals (first|exact VR.d _|exact VR.mb_sl (by(simp;done)) rfl (by simp)|exact VR.ptr' rfl)
  refine zan.set (show zau _ _ (Heap.get _ 15)from ?_) (zan.set (show zau _ _ (Heap.get _ 0)from ?_) (zan.at))
  all_goals (try simp only[go_sem,List.map_append,List.map_cons,List.map_nil,zab hy4,zae hy4,zac zal hy4,hm5])
  all_goals (((repeat' first|exact zau.refl_d|refine zau.mb_els (by simp) ?_|exact VR.d _|exact VRL.nil|exact VRL.refl_d _ _|refine VRL.append ?_ ?_|refine VRL.cons ?_ ?_);done))
 rw[if_neg (ff hc2)]at h
 try simp only[go_sem]
 cases h
 refine⟨rfl,by simp,Up.of (N:=6) (N':=7) [] rfl rfl (by decide) ?_ ?_⟩
 ·refine zak.set ?_ (zak.set ?_ (zak.set ?_ (zak.set ?_ zak.none)))
  all_goals (try simp only[go_sem,List.map_append,List.map_cons,List.map_nil])
  all_goals (first|exact VR.d _|exact VR.mb rfl|exact VR.ptr' rfl)
 refine zan.set (show zau _ _ (Heap.get _ 5)from ?_) (zan.set (show zau _ _ (Heap.get _ 0)from ?_) (zan.at))
 all_goals (try simp only[go_sem,List.map_append,List.map_cons,List.map_nil])
 all_goals (((repeat' first|exact zau.refl_d|refine zau.mb (by simp) ?_|exact VRL.refl_d _ _);done))
def zfS (a0:Forest) (a1:Sl (Bound)) (x1:Int):St:=⟨((((Regs.none.set 3 (.ptr 0 0 0)).set 33 (.d (.list a1.n (a1.l.map zal)))).set 34 (.d (.int .i64 (a1.l.length:Int)))).set 35 (.d (.int .i64 x1))),((Heap.at 17).set 0 (some (.els 1 [.d (zad a0)] 0)))⟩
def zjn (a0:Forest) (a1:Sl (Bound)):((Unit)⊕(Unit))→Ex×St:=fun r=>match r with
 |(.inl r)=>(.exit 2,⟨Regs.none,(Heap.at 17)⟩)
 |(.inr r)=>(.ret,⟨(Regs.none.set 6 (.d (.int .i64 (14)))),(Heap.at 17)⟩)
noncomputable def zcL (a0:Forest) (a1:Sl (Bound)) (x1:Int):Option ((Int)⊕((Unit)⊕(Unit))):=
 if(decide (x1<(a1.l.length:Int)))=true then
  (rd a1.l x1).bind fun y16=>
  if(!(decide (y16.offset<0)))=true then
   (dec (D.int .i64) (pc prog 114 [zad a0,.int .i64 y16.node])).bind fun r20=>
   if(decide (r20<y16.offset))=true then
    some (.inr (.inr ()))
   else
    some (.inl (IntKind.wrap .i64 (x1+1)))
  else
   some (.inr (.inr ()))
 else
  some (.inr (.inl ()))
theorem zzs (a0:Forest) (a1:Sl (Bound)) (x1:Int) (o:(Int)⊕((Unit)⊕(Unit))) (h:zcL a0 a1 x1=some o):Wp prog zkh (zfS a0 a1 x1) (zbH (0,[]) (zfS a0 a1) (zjn a0 a1) o):=by
 unfold zcL at h
 delta zkh zfS
 try simp only[go_sem]
 refine zaj (fun hc14=> ?_) (fun hc15=> ?_)
 ·rw[if_pos hc14]at h
  try simp only[go_sem]
  obtain⟨y16,hy17,h⟩:=bs h
  try simp only[go_sem,zab hy17,zae hy17,zac zal hy17]
  refine zaa (v:= .ptr 20 0 1) (fun hb28=>by simp only[go_sem,zab hy17,zae hy17,zac zal hy17,hc14,hb28]) ?_
  try simp only[go_sem,zab hy17,zae hy17,zac zal hy17]
  refine zaa (v:= .d (.int .i64 y16.offset)) (fun hb27=>by simp only[go_sem,zab hy17,zae hy17,zac zal hy17,hc14,hb27]) ?_
  try simp only[go_sem,zab hy17,zae hy17,zac zal hy17]
  refine zaa (v:= .d (zad a0)) (fun hb26=>by simp only[go_sem,zab hy17,zae hy17,zac zal hy17,hc14,hb26]) ?_
  try simp only[go_sem,zab hy17,zae hy17,zac zal hy17]
  refine zaa (v:= .ptr 20 0 0) (fun hb25=>by simp only[go_sem,zab hy17,zae hy17,zac zal hy17,hc14,hb25]) ?_
  try simp only[go_sem,zab hy17,zae hy17,zac zal hy17]
  refine zaa (v:= .d (.int .i64 y16.node)) (fun hb24=>by simp only[go_sem,zab hy17,zae hy17,zac zal hy17,hc14,hb24]) ?_
  try simp only[go_sem,zab hy17,zae hy17,zac zal hy17]
  refine zaD (fun hc18=> ?_) (fun hc19=> ?_)
  ·rw[if_pos (show(!(decide (y16.offset<0)))=true by(rw[hc18];rfl))]at h
   try simp only[go_sem,zab hy17,zae hy17,zac zal hy17,hc18]
   obtain⟨r20,hr21,h⟩:=bs h
   replace hr21:=zap hr21
   refine zar hr21 ?_
   try simp only[go_sem,zab hy17,zae hy17,zac zal hy17]
   refine zaj (fun hc22=> ?_) (fun hc23=> ?_)
   ·rw[if_pos hc22]at h
    try simp only[go_sem,zab hy17,zae hy17,zac zal hy17]
    cases h
    refine⟨rfl,by simp,Up.of (N:=17) (N':=35) [] rfl (by rfl) (by decide) ?_ ?_⟩
    ·refine zak.set ?_ zak.none
     all_goals (try simp only[go_sem,List.map_append,List.map_cons,List.map_nil,zab hy17,zae hy17,zac zal hy17])
     all_goals (exact VR.d _)
    exact zan.at
   rw[if_neg (ff hc23)]at h
   try simp only[go_sem,zab hy17,zae hy17,zac zal hy17]
   cases h
   refine⟨rfl,Up.of (N:=17) (N':=36) [] rfl (by rfl) (by decide) ?_ ?_⟩
   ·refine zak.set ?_ (zak.set ?_ (zak.set ?_ (zak.set ?_ zak.none)))
    all_goals (try simp only[go_sem,List.map_append,List.map_cons,List.map_nil,zab hy17,zae hy17,zac zal hy17])
    all_goals (first|exact VR.d _|exact VR.ptr' rfl)
   refine zan.set (show zau _ _ (Heap.get _ 0)from ?_) (zan.at)
   all_goals (try simp only[go_sem,List.map_append,List.map_cons,List.map_nil,zab hy17,zae hy17,zac zal hy17])
   all_goals (exact zau.refl_d)
  rw[if_neg (ffn hc19)]at h
  try simp only[go_sem,zab hy17,zae hy17,zac zal hy17,hc19]
  cases h
  refine⟨rfl,by simp,Up.of (N:=17) (N':=35) [] rfl (by rfl) (by decide) ?_ ?_⟩
  ·refine zak.set ?_ zak.none
   all_goals (try simp only[go_sem,List.map_append,List.map_cons,List.map_nil,zab hy17,zae hy17,zac zal hy17])
   all_goals (exact VR.d _)
  exact zan.at
 rw[if_neg (ff hc15)]at h
 try simp only[go_sem]
 cases h
 refine⟨rfl,by simp,Up.of (N:=17) (N':=18) [] rfl (by rfl) (by decide) ?_ ?_⟩
 ·exact zak.none
 exact zan.at
def zfT (a0:Forest) (a1:Sl (Bound)) (x2:Int):St:=⟨((((Regs.none.set 3 (.ptr 0 0 0)).set 33 (.d (.list a1.n (a1.l.map zal)))).set 34 (.d (.int .i64 (a1.l.length:Int)))).set 35 (.d (.int .i64 x2))),((Heap.at 17).set 0 (some (.els 1 [.d (zad a0)] 0)))⟩
def zjo (a0:Forest) (a1:Sl (Bound)):((Unit)⊕(Unit))→Ex×St:=fun r=>match r with
 |(.inl r)=>(.exit 2,⟨Regs.none,(Heap.at 17)⟩)
 |(.inr r)=>(.ret,⟨(Regs.none.set 6 (.d (.int .i64 (14)))),(Heap.at 17)⟩)
noncomputable def zcM (a0:Forest) (a1:Sl (Bound)) (x2:Int):Option ((Int)⊕((Unit)⊕(Unit))):=
 if(decide (x2<(a1.l.length:Int)))=true then
  (rd a1.l x2).bind fun y40=>
  if(!(decide (y40.offset<0)))=true then
   (dec (D.int .i64) (pc prog 114 [zad a0,.int .i64 y40.node])).bind fun r44=>
   if(decide (r44<y40.offset))=true then
    some (.inr (.inr ()))
   else
    some (.inl (IntKind.wrap .i64 (x2+1)))
  else
   some (.inr (.inr ()))
 else
  some (.inr (.inl ()))
theorem zzt (a0:Forest) (a1:Sl (Bound)) (x2:Int) (o:(Int)⊕((Unit)⊕(Unit))) (h:zcM a0 a1 x2=some o):Wp prog zkh (zfT a0 a1 x2) (zbH (0,[]) (zfT a0 a1) (zjo a0 a1) o):=by
 unfold zcM at h
 delta zkh zfT
 try simp only[go_sem]
 refine zaj (fun hc38=> ?_) (fun hc39=> ?_)
 ·rw[if_pos hc38]at h
  try simp only[go_sem]
  obtain⟨y40,hy41,h⟩:=bs h
  try simp only[go_sem,zab hy41,zae hy41,zac zal hy41]
  refine zaa (v:= .ptr 20 0 1) (fun hb52=>by simp only[go_sem,zab hy41,zae hy41,zac zal hy41,hc38,hb52]) ?_
  try simp only[go_sem,zab hy41,zae hy41,zac zal hy41]
  refine zaa (v:= .d (.int .i64 y40.offset)) (fun hb51=>by simp only[go_sem,zab hy41,zae hy41,zac zal hy41,hc38,hb51]) ?_
  try simp only[go_sem,zab hy41,zae hy41,zac zal hy41]
  refine zaa (v:= .d (zad a0)) (fun hb50=>by simp only[go_sem,zab hy41,zae hy41,zac zal hy41,hc38,hb50]) ?_
  try simp only[go_sem,zab hy41,zae hy41,zac zal hy41]
  refine zaa (v:= .ptr 20 0 0) (fun hb49=>by simp only[go_sem,zab hy41,zae hy41,zac zal hy41,hc38,hb49]) ?_
  try simp only[go_sem,zab hy41,zae hy41,zac zal hy41]
  refine zaa (v:= .d (.int .i64 y40.node)) (fun hb48=>by simp only[go_sem,zab hy41,zae hy41,zac zal hy41,hc38,hb48]) ?_
  try simp only[go_sem,zab hy41,zae hy41,zac zal hy41]
  refine zaD (fun hc42=> ?_) (fun hc43=> ?_)
  ·rw[if_pos (show(!(decide (y40.offset<0)))=true by(rw[hc42];rfl))]at h
   try simp only[go_sem,zab hy41,zae hy41,zac zal hy41,hc42]
   obtain⟨r44,hr45,h⟩:=bs h
   replace hr45:=zap hr45
   refine zar hr45 ?_
   try simp only[go_sem,zab hy41,zae hy41,zac zal hy41]
   refine zaj (fun hc46=> ?_) (fun hc47=> ?_)
   ·rw[if_pos hc46]at h
    try simp only[go_sem,zab hy41,zae hy41,zac zal hy41]
    cases h
    refine⟨rfl,by simp,Up.of (N:=17) (N':=35) [] rfl (by rfl) (by decide) ?_ ?_⟩
    ·refine zak.set ?_ zak.none
     all_goals (try simp only[go_sem,List.map_append,List.map_cons,List.map_nil,zab hy41,zae hy41,zac zal hy41])
     all_goals (exact VR.d _)
    exact zan.at
   rw[if_neg (ff hc47)]at h
   try simp only[go_sem,zab hy41,zae hy41,zac zal hy41]
   cases h
   refine⟨rfl,Up.of (N:=17) (N':=36) [] rfl (by rfl) (by decide) ?_ ?_⟩
   ·refine zak.set ?_ (zak.set ?_ (zak.set ?_ (zak.set ?_ zak.none)))
    all_goals (try simp only[go_sem,List.map_append,List.map_cons,List.map_nil,zab hy41,zae hy41,zac zal hy41])
    all_goals (first|exact VR.d _|exact VR.ptr' rfl)
   refine zan.set (show zau _ _ (Heap.get _ 0)from ?_) (zan.at)
   all_goals (try simp only[go_sem,List.map_append,List.map_cons,List.map_nil,zab hy41,zae hy41,zac zal hy41])
   all_goals (exact zau.refl_d)
  rw[if_neg (ffn hc43)]at h
  try simp only[go_sem,zab hy41,zae hy41,zac zal hy41,hc43]
  cases h
  refine⟨rfl,by simp,Up.of (N:=17) (N':=35) [] rfl (by rfl) (by decide) ?_ ?_⟩
  ·refine zak.set ?_ zak.none
   all_goals (try simp only[go_sem,List.map_append,List.map_cons,List.map_nil,zab hy41,zae hy41,zac zal hy41])
   all_goals (exact VR.d _)
  exact zan.at
 rw[if_neg (ff hc39)]at h
 try simp only[go_sem]
 cases h
 refine⟨rfl,by simp,Up.of (N:=17) (N':=18) [] rfl (by rfl) (by decide) ?_ ?_⟩
 ·exact zak.none
 exact zan.at
noncomputable def zNL (a0:Forest) (a1:Sl (Bound)) (a2:Sl (Int)):Option (Int):=
 (zaO (zcl a0 a1 a2) (0,[])).bind fun r6=>
 if a2.l=[]then
  (dec (D.int .i64) (pc prog 87 [zad a0,.list r6.isEmpty (r6.map (D.int .i64))])).bind fun r10=>
  if(!(r10==0))=true then
   some r10
  else
   (zaO (zcL a0 a1) 0).bind fun r29=>
   match r29 with
   |(.inl q31)=>
    some (0)
   |(.inr q32)=>
    some (14)
 else
  if(r6.length+a2.l.length)*8≤AI.roomBytes then
   (dec (D.int .i64) (pc prog 87 [zad a0,.list false ((r6++a2.l).map (D.int .i64))])).bind fun r34=>
   if(!(r34==0))=true then
    some r34
   else
    (zaO (zcM a0 a1) 0).bind fun r53=>
    match r53 with
    |(.inl q55)=>
     some (0)
    |(.inr q56)=>
     some (14)
  else none
theorem zNM (a0:Forest) (a1:Sl (Bound)) (a2:Sl (Int)) (r:Int) (h:zNL a0 a1 a2=some r):pc prog 109 [zad a0,.list a1.n (a1.l.map zal),.list a2.n (a2.l.map (D.int .i64))]=some ((D.int .i64) r):=by
 unfold zNL at h
 refine zaY (fn:=zKL) rfl rfl ?_
 delta zKL
 try simp only[go_sem]
 obtain⟨r6,hl7,h⟩:=bs h
 refine Wp.loopR zbe (n:=(0,[])) (a:=zrC) rfl (zfR a0 a1 a2) (zmM a0 a1 a2) (zzr a0 a1 a2) hl7 ?_ (by(repeat(first|refine Clo.block ?_|refine Clo.seq zbe rfl ?_));(exact Clo.ret)) ?_
 ·show Up (0,[]) (zfR a0 a1 a2 (0,[])) _
  delta zfR
  refine Up.of (N:=6) (N':=6) [] rfl rfl (by decide) ?_ ?_
  ·refine zak.set ?_ (zak.set ?_ (zak.set ?_ (zak.set ?_ (zak.set ?_ (zak.set ?_ (zak.set ?_ zak.none))))))
   all_goals (try simp only[go_sem,List.map_append,List.map_cons,List.map_nil])
   all_goals (first|exact VR.d _|exact VR.ptr' rfl)
  refine zan.set (show zau _ _ (Heap.get _ 5)from ?_) (zan.set (show zau _ _ (Heap.get _ 0)from ?_) (zan.at))
  all_goals (try simp only[go_sem,List.map_append,List.map_cons,List.map_nil])
  all_goals (((repeat' first|trivial|exact zau.refl_d);done))
 dsimp only[zmM]
 try simp only[go_sem]
 by_cases hz8:a2.l=[]
 ·rw[if_pos hz8]at h
  refine zcd (by simp only[go_sem,zaT,zaX,zaU,zaI,zbP,List.map_nil,hz8]) (by exact zqf) ?_
  try simp only[go_sem]
  obtain⟨r10,hr11,h⟩:=bs h
  replace hr11:=zap hr11
  refine zar hr11 ?_
  try simp only[go_sem]
  refine zaF (fun hc12=> ?_) (fun hc13=> ?_)
  ·rw[if_pos (show(!(r10==0))=true by(rw[hc12];rfl))]at h
   try simp only[go_sem]
   cases h
   rfl
  rw[if_neg (ffn hc13)]at h
  try simp only[go_sem]
  obtain⟨r29,hl30,h⟩:=bs h
  refine Wp.loopR zbe (n:=(0,[])) (a:=zkh) rfl (zfS a0 a1) (zjn a0 a1) (zzs a0 a1) hl30 ?_ (by(repeat(first|refine Clo.block ?_|refine Clo.seq zbe rfl ?_));(exact Clo.ret)) ?_
  ·show Up (0,[]) (zfS a0 a1 0) _
   delta zfS
   refine Up.of (N:=17) (N':=17) [] rfl (by(simp only[go_sem];done)) (by decide) ?_ ?_
   ·refine zak.set ?_ (zak.set ?_ (zak.set ?_ (zak.set ?_ zak.none)))
    all_goals (try simp only[go_sem,List.map_append,List.map_cons,List.map_nil])
    all_goals (first|exact VR.d _|exact VR.ptr' rfl)
   refine zan.set (show zau _ _ (Heap.get _ 0)from ?_) (zan.at)
   all_goals (try simp only[go_sem,List.map_append,List.map_cons,List.map_nil])
   all_goals (exact zau.refl_d)
  rcases r29 with(q31|q32)
  ·dsimp only at h
   dsimp only[zjn]
   try simp only[go_sem]
   cases h
   rfl
  dsimp only at h
  dsimp only[zjn]
  try simp only[go_sem]
  cases h
  rfl
 have hz9:=hz8;rw[if_neg hz9]at h
 obtain⟨hm33,h⟩:=zbh h
 refine zdw (l:=r6.map fun z=>V.d ((D.int .i64) z)) (new:=a2.l.map fun z=>V.d ((D.int .i64) z)) (sz:=1) (fz:=r6.length) (by simp only[go_sem,List.map_append,List.map_cons,List.map_nil]) (by intro h;simpa using h) (by simp only[go_sem,zaT,zaX,zaU,zaI,zbP]) (by simpa using hz9) (by rw[←zbP];exact zbS (e:=(D.int .i64)) (fun _=>rfl) (fun _=>rfl) _) (by simpa using hm33) ?_
 try simp only[go_sem,hm33]
 obtain⟨r34,hr35,h⟩:=bs h
 replace hr35:=zap hr35
 refine zar hr35 ?_
 try simp only[go_sem,hm33]
 refine zaF (fun hc36=> ?_) (fun hc37=> ?_)
 ·rw[if_pos (show(!(r34==0))=true by(rw[hc36];rfl))]at h
  try simp only[go_sem,hm33]
  cases h
  rfl
 rw[if_neg (ffn hc37)]at h
 try simp only[go_sem,hm33]
 obtain⟨r53,hl54,h⟩:=bs h
 refine Wp.loopR zbe (n:=(0,[])) (a:=zkh) rfl (zfT a0 a1) (zjo a0 a1) (zzt a0 a1) hl54 ?_ (by(repeat(first|refine Clo.block ?_|refine Clo.seq zbe rfl ?_));(exact Clo.ret)) ?_
 ·show Up (0,[]) (zfT a0 a1 0) _
  delta zfT
  refine Up.of (N:=17) (N':=17) [] rfl (by(simp only[go_sem];done)) (by decide) ?_ ?_
  ·refine zak.set ?_ (zak.set ?_ (zak.set ?_ (zak.set ?_ zak.none)))
   all_goals (try simp only[go_sem,List.map_append,List.map_cons,List.map_nil,hm33])
   all_goals (first|exact VR.d _|exact VR.ptr' rfl)
  refine zan.set (show zau _ _ (Heap.get _ 0)from ?_) (zan.at)
  all_goals (try simp only[go_sem,List.map_append,List.map_cons,List.map_nil,hm33])
  all_goals (exact zau.refl_d)
 rcases r53 with(q55|q56)
 ·dsimp only at h
  dsimp only[zjo]
  try simp only[go_sem,hm33]
  cases h
  rfl
 dsimp only at h
 dsimp only[zjo]
 try simp only[go_sem,hm33]
 cases h
 rfl
noncomputable def zNN (a0:Forest) (a1:Int) (a2:Int):Option (Bool):=
 (dec (D.int .i64) (pc prog 104 [zad a0,.int .i64 a1])).bind fun r1=>
 (dec (D.int .i64) (pc prog 104 [zad a0,.int .i64 a2])).bind fun r3=>
 some (r1==r3)
theorem zNO (a0:Forest) (a1:Int) (a2:Int) (r:Bool) (h:zNN a0 a1 a2=some r):pc prog 110 [zad a0,.int .i64 a1,.int .i64 a2]=some (D.bool r):=by
 unfold zNN at h
 refine zaY (fn:=zKM) rfl rfl ?_
 delta zKM
 try simp only[go_sem]
 obtain⟨r1,hr2,h⟩:=bs h
 replace hr2:=zap hr2
 refine zar hr2 ?_
 try simp only[go_sem]
 obtain⟨r3,hr4,h⟩:=bs h
 replace hr4:=zap hr4
 refine zar hr4 ?_
 try simp only[go_sem]
 cases h
 rfl
noncomputable def zHS (a0:Forest) (a1:Bound) (a2:Bound):Option (Int):=
 if(decide (a1=a2))=true then
  some (0)
 else
  if(bif (a1.node==a2.node)then(decide (a1.offset<a2.offset))else false)=true then
   some (-1)
  else
   if(a1.node==a2.node)=true then
    some (1)
   else
    (dec D.bool (pc prog 176 [zad a0,.int .i64 a1.node,.int .i64 a2.node])).bind fun r7=>
    if r7=true then
     (dec (D.int .i64) (pc prog 111 [zad a0,zal a2,zal a1])).bind fun r11=>
     some (IntKind.wrap .i64 (0-r11))
    else
     (dec (D.int .i64) (pc prog 177 [zad a0,.int .i64 a1.node,.int .i64 a2.node])).bind fun r13=>
     if(!(r13==0))=true then
      (dec (D.int .i64) (pc prog 146 [zad a0,.int .i64 r13])).bind fun r17=>
      if(decide (r17<a1.offset))=true then
       some (1)
      else
       some (-1)
     else
      some (-1)
theorem zCR (a0:Forest) (a1:Bound) (a2:Bound) (r:Int) (h:zHS a0 a1 a2=some r):pc prog 111 [zad a0,zal a1,zal a2]=some ((D.int .i64) r):=by
 unfold zHS at h
 refine zaY (fn:=zKN) rfl rfl ?_
 delta zKN
 try simp only[go_sem]
 refine zaj (fun hc1=> ?_) (fun hc2=> ?_)
 ·rw[if_pos hc1]at h
  try simp only[go_sem]
  cases h
  rfl
 rw[if_neg (ff hc2)]at h
 try simp only[go_sem]
 refine zaa (v:= .ptr 1 0 1) (fun hb27=>by simp only[go_sem,hc2,hb27]) ?_
 try simp only[go_sem]
 refine zaa (v:= .d (.int .i64 a1.offset)) (fun hb26=>by simp only[go_sem,hc2,hb26]) ?_
 try simp only[go_sem]
 refine zaa (v:= .ptr 2 0 1) (fun hb25=>by simp only[go_sem,hc2,hb25]) ?_
 try simp only[go_sem]
 refine zaa (v:= .d (.int .i64 a2.offset)) (fun hb24=>by simp only[go_sem,hc2,hb24]) ?_
 try simp only[go_sem]
 refine zaa (v:= .d (.bool (decide (a1.offset<a2.offset)))) (fun hb23=>by simp only[go_sem,hc2,hb23]) ?_
 try simp only[go_sem]
 refine zaj (fun hc3=> ?_) (fun hc4=> ?_)
 ·rw[if_pos hc3]at h
  try simp only[go_sem]
  cases h
  rfl
 rw[if_neg (ff hc4)]at h
 try simp only[go_sem]
 refine zaj (fun hc5=> ?_) (fun hc6=> ?_)
 ·rw[if_pos hc5]at h
  try simp only[go_sem]
  cases h
  rfl
 rw[if_neg (ff hc6)]at h
 try simp only[go_sem]
 obtain⟨r7,hr8,h⟩:=bs h
 replace hr8:=zap hr8
 refine zar hr8 ?_
 try simp only[go_sem]
 refine zaj (fun hc9=> ?_) (fun hc10=> ?_)
 ·rw[if_pos hc9]at h
  try simp only[go_sem]
  obtain⟨r11,hr12,h⟩:=bs h
  replace hr12:=zap hr12
  refine zar hr12 ?_
  try simp only[go_sem]
  cases h
  rfl
 rw[if_neg (ff hc10)]at h
 try simp only[go_sem]
 obtain⟨r13,hr14,h⟩:=bs h
 replace hr14:=zap hr14
 refine zar hr14 ?_
 try simp only[go_sem]
 refine zaa (v:= .d (zad a0)) (fun hb22=>by simp only[go_sem,hc2,hc4,hc6,hc10,hb22]) ?_
 try simp only[go_sem]
 refine zaa (v:= .d (.int .i64 r13)) (fun hb21=>by simp only[go_sem,hc2,hc4,hc6,hc10,hb21]) ?_
 try simp only[go_sem]
 refine zaD (fun hc15=> ?_) (fun hc16=> ?_)
 ·rw[if_pos (show(!(r13==0))=true by(rw[hc15];rfl))]at h
  try simp only[go_sem,hc15]
  obtain⟨r17,hr18,h⟩:=bs h
  replace hr18:=zap hr18
  refine zar hr18 ?_
  try simp only[go_sem]
  refine zaj (fun hc19=> ?_) (fun hc20=> ?_)
  ·rw[if_pos hc19]at h
   try simp only[go_sem]
   cases h
   rfl
  rw[if_neg (ff hc20)]at h
  try simp only[go_sem]
  cases h
  rfl
 rw[if_neg (ffn hc16)]at h
 try simp only[go_sem,hc16]
 cases h
 rfl
def zdX (a0:Forest) (a1:Int) (a2:Int) (r1:Int) (x0:Unit):Heap:=((((((((Heap.at 19).set 0 (some (.els 1 [.d (zad a0)] 0))).set 1 (some (.els 1 [.d (.int .i64 a1)] 0))).set 2 (some (.els 1 [.d (.int .i64 a2)] 0))).set 3 (some (.els 1 [.d (.bool false)] 0))).set 9 (some (.els 1 [.d (zad a0)] 0))).set 10 (some (.els 1 [.d (.int .i64 r1)] 0))).set 14 (some (.loop ⟨(((Regs.none.set 4 (.ptr 1 0 0)).set 5 (.ptr 2 0 0)).set 6 (.ptr 3 0 0)),[13],zlm,zln,.ready,none⟩)))
def zjp (a0:Forest) (a1:Int) (a2:Int) (r1:Int):((Bool))→Heap:=fun r=>((((((((Heap.at 19).set 0 (some (.els 1 [.d (zad a0)] 0))).set 1 (some (.els 1 [.d (.int .i64 a1)] 0))).set 2 (some (.els 1 [.d (.int .i64 a2)] 0))).set 3 (some (.els 1 [.d (.bool r)] 0))).set 9 (some (.els 1 [.d (zad a0)] 0))).set 10 (some (.els 1 [.d (.int .i64 r1)] 0))).set 14 (some (.loop ⟨(((Regs.none.set 4 (.ptr 1 0 0)).set 5 (.ptr 2 0 0)).set 6 (.ptr 3 0 0)),[13],zlm,zln,.done,(some .ret)⟩)))
noncomputable def zcm (a0:Forest) (a1:Int) (a2:Int) (r1:Int) (x0:Unit) (v0:Int):Option ((Unit)⊕((Bool))):=
 if(v0==a1)=true then
  some (.inr false)
 else
  if(v0==a2)=true then
   some (.inr true)
  else
   some (.inl ())
theorem zzu (a0:Forest) (a1:Int) (a2:Int) (r1:Int):Yl prog (19,[]) 14 (D.int .i64) (zdX a0 a1 a2 r1) (zjp a0 a1 a2 r1) (zcm a0 a1 a2 r1):=by
 refine⟨by decide,fun x0=> ?_,fun r=> ?_,fun x0 v0 o h=> ?_⟩
 ·show LocH 19 _;delta zdX;repeat(first|exact LocH.at|refine LocH.set (by decide) ?_ ?_|refine zDr.some ?_|refine zod.els ?_|refine zod.loop ?_|exact zgP.nil|refine zgP.cons ?_ ?_|exact zeS.d|exact zeS.ptr (by decide)|exact zuQ.none|refine zuQ.set ?_ ?_)
 ·show LocH 19 (((((((((Heap.at 19).set 0 (some (.els 1 [.d (zad a0)] 0))).set 1 (some (.els 1 [.d (.int .i64 a1)] 0))).set 2 (some (.els 1 [.d (.int .i64 a2)] 0))).set 3 (some (.els 1 [.d (.bool r)] 0))).set 9 (some (.els 1 [.d (zad a0)] 0))).set 10 (some (.els 1 [.d (.int .i64 r1)] 0))).set 14 (some (.loop ⟨(((Regs.none.set 4 (.ptr 1 0 0)).set 5 (.ptr 2 0 0)).set 6 (.ptr 3 0 0)),[13],zlm,zln,.done,(some .ret)⟩))));repeat(first|exact LocH.at|refine LocH.set (by decide) ?_ ?_|refine zDr.some ?_|refine zod.els ?_|refine zod.loop ?_|exact zgP.nil|refine zgP.cons ?_ ?_|exact zeS.d|exact zeS.ptr (by decide)|exact zuQ.none|refine zuQ.set ?_ ?_)
 unfold zcm at h
 delta zdX
 refine zof (L:=⟨(((Regs.none.set 4 (.ptr 1 0 0)).set 5 (.ptr 2 0 0)).set 6 (.ptr 3 0 0)),[13],zlm,zln,.ready,none⟩) (by simp only[go_sem]) rfl ?_
 delta zlm
 try simp only[go_sem]
 delta zln
 try simp only[go_sem]
 refine zaj (fun hc3=> ?_) (fun hc4=> ?_)
 ·rw[if_pos hc3]at h
  try simp only[go_sem]
  cases h
  exact⟨rfl,Up.of (N:=19) (N':=25) [] rfl rfl (by decide) zak.none (.set (zau.loop (.set (.ptr' rfl) (.set (.ptr' rfl) (.set (.ptr' rfl) zak.none))) rfl rfl) (.set zau.refl_d (.set zau.refl_d (.set zau.refl_d (.set zau.refl_d (.set zau.refl_d (.set zau.refl_d zan.at)))))))⟩
 rw[if_neg (ff hc4)]at h
 try simp only[go_sem]
 refine zaj (fun hc5=> ?_) (fun hc6=> ?_)
 ·rw[if_pos hc5]at h
  try simp only[go_sem]
  cases h
  exact⟨rfl,Up.of (N:=19) (N':=28) [] rfl rfl (by decide) zak.none (.set (zau.loop (.set (.ptr' rfl) (.set (.ptr' rfl) (.set (.ptr' rfl) zak.none))) rfl rfl) (.set zau.refl_d (.set zau.refl_d (.set zau.refl_d (.set zau.refl_d (.set zau.refl_d (.set zau.refl_d zan.at)))))))⟩
 rw[if_neg (ff hc6)]at h
 try simp only[go_sem]
 cases h
 exact⟨rfl,Up.of (N:=19) (N':=27) [] rfl rfl (by decide) zak.none (.set (zau.loop (.set (.ptr' rfl) (.set (.ptr' rfl) (.set (.ptr' rfl) zak.none))) rfl rfl) (.set zau.refl_d (.set zau.refl_d (.set zau.refl_d (.set zau.refl_d (.set zau.refl_d (.set zau.refl_d zan.at)))))))⟩
noncomputable def zNP (a0:Forest) (a1:Int) (a2:Int):Option (Bool):=
 (dec (D.int .i64) (pc prog 104 [zad a0,.int .i64 a1])).bind fun r1=>
 (zhw a0 r1).bind fun l7=>
 (foldI (zcm a0 a1 a2 r1) () l7).bind fun r9=>
 match r9 with
 | .inl q11=>
  some false
 | .inr q12=>
  some q12
theorem zNQ (a0:Forest) (a1:Int) (a2:Int) (r:Bool) (h:zNP a0 a1 a2=some r):pc prog 176 [zad a0,.int .i64 a1,.int .i64 a2]=some (D.bool r):=by
 unfold zNP at h
 refine zaY (fn:=zLk) rfl rfl ?_
 delta zLk
 try simp only[go_sem]
 obtain⟨r1,hr2,h⟩:=bs h
 replace hr2:=zap hr2
 refine zar hr2 ?_
 try simp only[go_sem]
 refine ziU (fn:=zLb) rfl rfl ?_
 delta zLb
 try simp only[go_sem]
 refine Wp.rfuncC (k:=186) (fn:=zLn) (first:=[]) (cap:=[.ptr 9 0 0,.ptr 10 0 0]) (by simp only[go_sem]) rfl rfl ?_
 delta zLn
 try simp only[go_sem]
 obtain⟨l7,hl8,h⟩:=bs h
 obtain⟨r9,hl10,h⟩:=bs h
 refine zog zbe (n:=(19,[])) (n':=(15,[])) (S:=zdX a0 a1 a2 r1) (F:=zjp a0 a1 a2 r1) (zoR hl8) (zzu a0 a1 a2 r1) (fun _=>Nat.le_refl _) (fun r=>Nat.le_refl _) hl10 ?_ rfl rfl rfl ?_ ?_ (show Fx.spans _ 15 4=true from by decide) (by decide) (by(repeat(first|refine Clo.block ?_|refine Clo.seq zbe rfl ?_));refine Clo.rf (n':=(0,[])) ?_ (by decide) (by decide) ?_;((repeat(first|refine zce.set ?_ ?_|refine zce.args ?_|exact zct.nil|refine zct.cons ?_ ?_|exact zcH.d|exact zcH.ptr (by decide)|refine zcH.clo ?_ ?_)));(repeat(first|refine Clo.block ?_|refine Clo.seq zbe rfl ?_));(exact Clo.ret)) rfl ?_
 ·show Up (19,[]) ⟨Regs.none,zdX a0 a1 a2 r1 ()⟩ _
  delta zdX
  exact Up.of (N:=19) (N':=19) [] rfl rfl (by decide) zak.none (.set (zau.loop (.set (.ptr' rfl) (.set (.ptr' rfl) (.set (.ptr' rfl) zak.none))) rfl rfl) (.set zau.refl_d (.set zau.refl_d (.set zau.refl_d (.set zau.refl_d (.set zau.refl_d (.set zau.refl_d zan.at)))))))
 ·repeat(first|exact zce.no|refine zce.set ?_ ?_|exact zcH.d|exact zcH.yld (by decide))
 ·repeat(first|refine zce.args ?_|exact zct.nil|refine zct.cons ?_ ?_|exact zcH.ptr (by decide)|exact zcH.yld (by decide))
 rcases r9 with(q11|q12)
 ·dsimp only at h
  simp only[zry,zrz,zfs,zft]
  dsimp only[zdX,zjp]
  try simp only[go_sem]
  cases h
  rfl
 dsimp only at h
 simp only[zry,zrz,zfs,zft]
 dsimp only[zdX,zjp]
 try simp only[go_sem]
 cases h
 rfl
def zfU (a0:Forest) (a1:Int) (x0:Int×Int):St:=⟨(((Regs.none.set 0 (.yld 13)).set 1 (.ptr 9 0 0)).set 2 (.ptr 8 0 0)),((((((((Heap.at 14).set 0 (some (.els 1 [.d (zad a0)] 0))).set 1 (some (.els 1 [.d (.int .i64 a1)] 0))).set 2 (some (.els 1 [.d (.int .i64 (0))] 0))).set 3 (some (.els 1 [.d (.int .i64 x0.1)] 0))).set 8 (some (.els 1 [.d (zad a0)] 0))).set 9 (some (.els 1 [.d (.int .i64 x0.2)] 0))).set 13 (some (.loop ⟨(((Regs.none.set 4 (.ptr 1 0 0)).set 6 (.ptr 2 0 0)).set 7 (.ptr 3 0 0)),[12],zoh,zoi,.ready,none⟩)))⟩
def zjq (a0:Forest) (a1:Int):((Int×Int)⊕(Int×Int×Int))→Ex×St:=fun r=>match r with
 |(.inl r)=>(.exit 0,⟨Regs.none,((((((((Heap.at 14).set 0 (some (.els 1 [.d (zad a0)] 0))).set 1 (some (.els 1 [.d (.int .i64 a1)] 0))).set 2 (some (.els 1 [.d (.int .i64 (0))] 0))).set 3 (some (.els 1 [.d (.int .i64 r.1)] 0))).set 8 (some (.els 1 [.d (zad a0)] 0))).set 9 (some (.els 1 [.d (.int .i64 r.2)] 0))).set 13 (some (.loop ⟨(((Regs.none.set 4 (.ptr 1 0 0)).set 6 (.ptr 2 0 0)).set 7 (.ptr 3 0 0)),[12],zoh,zoi,.ready,none⟩)))⟩)
 |(.inr r)=>(.ret,⟨Regs.none,((((((((Heap.at 14).set 0 (some (.els 1 [.d (zad a0)] 0))).set 1 (some (.els 1 [.d (.int .i64 a1)] 0))).set 2 (some (.els 1 [.d (.int .i64 r.1)] 0))).set 3 (some (.els 1 [.d (.int .i64 r.2.1)] 0))).set 8 (some (.els 1 [.d (zad a0)] 0))).set 9 (some (.els 1 [.d (.int .i64 r.2.2)] 0))).set 13 (some (.loop ⟨(((Regs.none.set 4 (.ptr 1 0 0)).set 6 (.ptr 2 0 0)).set 7 (.ptr 3 0 0)),[12],zoh,zoi,.done,(some .ret)⟩)))⟩)
noncomputable def zbB (a0:Forest) (a1:Int) (x0:Int×Int):Option ((Int×Int)⊕((Int×Int)⊕(Int×Int×Int))):=
 if(!(x0.2==0))=true then
  if(x0.2==a1)=true then
   some (.inr (.inr (x0.1,x0.1,x0.2)))
  else
   (dec zag (pc prog 91 [zad a0,.int .i64 x0.2])).bind fun r5=>
   some (.inl (x0.2,r5.parent))
 else
  some (.inr (.inl (x0.1,x0.2)))
theorem zzv (a0:Forest) (a1:Int) (x0:Int×Int) (o:(Int×Int)⊕((Int×Int)⊕(Int×Int×Int))) (h:zbB a0 a1 x0=some o):Wp prog zkj (zfU a0 a1 x0) (zbH (14,[]) (zfU a0 a1) (zjq a0 a1) o):=by
 unfold zbB at h
 delta zkj zfU
 try simp only[go_sem]
 refine zaF (fun hc1=> ?_) (fun hc2=> ?_)
 ·rw[if_pos (show(!(x0.2==0))=true by(rw[hc1];rfl))]at h
  try simp only[go_sem]
  refine zrt (by simp only[go_sem];rfl) rfl ?_
  delta zoh
  try simp only[go_sem]
  delta zoi
  try simp only[go_sem]
  refine zaj (fun hc3=> ?_) (fun hc4=> ?_)
  ·rw[if_pos hc3]at h
   try simp only[go_sem]
   cases h
   exact⟨rfl,by simp,Up.of (N:=14) (N':=26) [] rfl rfl (by decide) zak.none (.set (zau.loop (.set (.ptr' rfl) (.set (.ptr' rfl) (.set (.ptr' rfl) zak.none))) rfl rfl) (.set zau.refl_d (.set zau.refl_d (.set zau.refl_d (.set zau.refl_d (.set zau.refl_d (.set zau.refl_d zan.at)))))))⟩
  rw[if_neg (ff hc4)]at h
  try simp only[go_sem]
  obtain⟨r5,hr6,h⟩:=bs h
  replace hr6:=zap hr6
  refine zar hr6 ?_
  try simp only[go_sem]
  cases h
  exact⟨rfl,Up.of (N:=14) (N':=31) [] rfl rfl (by decide) (.set (.ptr' rfl) (.set (.ptr' rfl) (.set (.yld' rfl) zak.none))) (.set (zau.loop (.set (.ptr' rfl) (.set (.ptr' rfl) (.set (.ptr' rfl) zak.none))) rfl rfl) (.set zau.refl_d (.set zau.refl_d (.set zau.refl_d (.set zau.refl_d (.set zau.refl_d (.set zau.refl_d zan.at)))))))⟩
 rw[if_neg (ffn hc2)]at h
 try simp only[go_sem]
 cases h
 exact⟨rfl,by simp,Up.of (N:=14) (N':=16) [] rfl rfl (by decide) zak.none (.set (zau.loop (.set (.ptr' rfl) (.set (.ptr' rfl) (.set (.ptr' rfl) zak.none))) rfl rfl) (.set zau.refl_d (.set zau.refl_d (.set zau.refl_d (.set zau.refl_d (.set zau.refl_d (.set zau.refl_d zan.at)))))))⟩
noncomputable def zLN (a0:Forest) (a1:Int) (a2:Int):Option (Int):=
 (zaO (zbB a0 a1) (0,a2)).bind fun r7=>
 match r7 with
 |(.inl q9)=>
  some (0)
 |(.inr q10)=>
  some q10.1
theorem zJE (a0:Forest) (a1:Int) (a2:Int) (r:Int) (h:zLN a0 a1 a2=some r):pc prog 177 [zad a0,.int .i64 a1,.int .i64 a2]=some ((D.int .i64) r):=by
 unfold zLN at h
 refine zaY (fn:=zLl) rfl rfl ?_
 delta zLl
 try simp only[go_sem]
 refine ziU (fn:=zHP) rfl rfl ?_
 delta zHP
 try simp only[go_sem]
 refine Wp.rfuncC (k:=173) (fn:=zHQ) (first:=[]) (cap:=[.ptr 9 0 0,.ptr 8 0 0]) (by simp only[go_sem]) rfl rfl ?_
 delta zHQ
 try simp only[go_sem]
 obtain⟨r7,hl8,h⟩:=bs h
 refine Wp.loopR zbe (n:=(14,[])) (a:=zkj) rfl (zfU a0 a1) (zjq a0 a1) (zzv a0 a1) hl8 ?_ (by(repeat(refine Clo.block ?_));refine Clo.rf (n':=(0,[])) ?_ (by decide) (by decide) ?_;((repeat(first|refine zce.set ?_ ?_|refine zce.args ?_|exact zct.nil|refine zct.cons ?_ ?_|exact zcH.d|exact zcH.ptr (by decide)|refine zcH.clo ?_ ?_)));(repeat(first|refine Clo.block ?_|refine Clo.seq zbe rfl ?_));(exact Clo.ret)) ?_
 ·show Up (14,[]) (zfU a0 a1 (0,a2)) _
  delta zfU
  exact Up.of (N:=14) (N':=14) [] rfl rfl (by decide) (.set (.ptr' rfl) (.set (.ptr' rfl) (.set (.yld' rfl) zak.none))) (.set (zau.loop (.set (.ptr' rfl) (.set (.ptr' rfl) (.set (.ptr' rfl) zak.none))) rfl rfl) (.set zau.refl_d (.set zau.refl_d (.set zau.refl_d (.set zau.refl_d (.set zau.refl_d (.set zau.refl_d zan.at)))))))
 rcases r7 with(q9|q10)
 ·dsimp only at h
  dsimp only[zjq]
  try simp only[go_sem]
  cases h
  rfl
 dsimp only at h
 dsimp only[zjq]
 try simp only[go_sem]
 cases h
 rfl
end Go.Proofs.Ytfleilibjdgcjaa.B
