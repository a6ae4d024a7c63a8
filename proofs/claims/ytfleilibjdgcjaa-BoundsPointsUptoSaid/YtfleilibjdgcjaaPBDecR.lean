/- Shaken copy of a longer text: what one law needs. Its conditions: none. -/
import Derived.Test.YtfleilibjdgcjaaPBDec0
import Derived.Test.YtfleilibjdgcjaaPBSpIp
set_option linter.unusedSimpArgs false
set_option linter.unusedVariables false
set_option maxHeartbeats 1000000
namespace Go.Proofs.Ytfleilibjdgcjaa.B
open Go.AI
noncomputable def P11 (a0:Forest) (a1:Bound) (a2:Bound):Option (Bool):=
 (dec zad (pc prog 43 [zad a0])).bind fun r1=>
 (dec (eT2 (D.int .i64) (D.int .i64)) (pc prog 44 [zad r1,.int .i64 a1.node])).bind fun r3=>
 (dec (D.int .i64) (pc prog 45 [zad a0,.list false (([a1.node]).map (D.int .i64))])).bind fun r5=>
 (if(r5==0)=true then
  (dec (D.int .i64) (pc prog 46 [zad a0,.int .i64 a1.node])).bind fun r9=>
  some r9
 else
  some 0:Option ((Int))).bind fun r11=>
 (dec (eT2 (D.int .i64) (D.int .i64)) (pc prog 41 [zad r1,zal a1,zal a2])).bind fun r13=>
 (dec (eT2 (D.int .i64) (D.int .i64)) (pc prog 47 [zad a0,zal a1,zal a2])).bind fun r15=>
 (dec (eT2 (eSl zal) (D.int .i64)) (pc prog 42 [zad r1,.int .i64 a1.node])).bind fun r17=>
 (dec (eT2 (eSl zal) (D.int .i64)) (pc prog 48 [zad a0,.int .i64 a1.node])).bind fun r19=>
 (dec D.bool (pc prog 40 [])).bind fun r21=>
 if(bif (bif (bif (bif r21 then(r3.1==r11)else false)then(r3.2==r5)else false)then(r13.1==r15.1)else false)then(r13.2==r15.2)else false)=true then
  (dec D.bool (pc prog 49 [.list r17.1.n (r17.1.l.map zal),.list r19.1.n (r19.1.l.map zal)])).bind fun r25=>
  if(bif r25 then(r17.2==r19.2)else false)=true then
   (dec (D.int .i64) (pc prog 50 [zad r1,zal a1])).bind fun r29=>
   (dec (D.int .i64) (pc prog 51 [zad a0,zal a1])).bind fun r31=>
   if(r29==r31)=true then
    (dec D.bool (pc prog 52 [zad r1,zad a0])).bind fun r35=>
    some r35
   else
    some false
  else
   some false
 else
  some false
theorem zOR (a0:Forest) (a1:Bound) (a2:Bound) (r:Bool) (h:P11 a0 a1 a2=some r):pc prog 11 [zad a0,zal a1,zal a2]=some (D.bool r):=by
 unfold P11 at h
 refine zaY (fn:=c11) rfl rfl ?_
 delta c11
 try simp only[go_sem]
 obtain⟨r1,hr2,h⟩:=bs h
 replace hr2:=zap hr2
 refine zar hr2 ?_
 try simp only[go_sem]
 obtain⟨r3,hr4,h⟩:=bs h
 replace hr4:=zap hr4
 refine zar hr4 ?_
 try simp only[go_sem]
 obtain⟨r5,hr6,h⟩:=bs h
 replace hr6:=zap hr6
 refine zar hr6 ?_
 try simp only[go_sem]
 obtain⟨r11,hl12,h⟩:=bs h
 refine WBr.cut (n:=(0,[])) .normal ⟨((((((((Regs.none.set 3 (.ptr 0 0 0)).set 4 (.ptr 1 0 0)).set 5 (.ptr 2 0 0)).set 7 (.ptr 6 0 0)).set 8 (.d (.int .i64 r3.1))).set 9 (.d (.int .i64 r3.2))).set 10 (.d (.int .i64 r11))).set 11 (.d (.int .i64 r5))),(((((Heap.at 26).set 0 (some (.els 1 [.d (zad a0)] 0))).set 1 (some (.els 2 [.d (zal a1)] 0))).set 2 (some (.els 2 [.d (zal a2)] 0))).set 6 (some (.els 1 [.d (zad r1)] 0)))⟩ ?_ (by(repeat(refine Clo.seq zbe rfl ?_));(exact Clo.ret)) ?_
 ·replace h:=hl12
  refine zaj (fun hc7=> ?_) (fun hc8=> ?_)
  ·rw[if_pos hc7]at h
   try simp only[go_sem]
   obtain⟨r9,hr10,h⟩:=bs h
   replace hr10:=zap hr10
   refine zar hr10 ?_
   try simp only[go_sem]
   cases h
   exact⟨rfl,Up.of (N:=26) (N':=31) [] rfl rfl (by decide) (.set (.d _) (.set (.d _) (.set (.d _) (.set (.d _) (.set (.ptr' rfl) (.set (.ptr' rfl) (.set (.ptr' rfl) (.set (.ptr' rfl) zak.none)))))))) (.set zau.refl_d (.set zau.refl_d (.set zau.refl_d (.set zau.refl_d zan.at))))⟩
  rw[if_neg (ff hc8)]at h
  try simp only[go_sem]
  cases h
  exact⟨rfl,Up.of (N:=26) (N':=26) [] rfl rfl (by decide) (.set (.d _) (.set (.d _) (.set (.d _) (.set (.d _) (.set (.ptr' rfl) (.set (.ptr' rfl) (.set (.ptr' rfl) (.set (.ptr' rfl) zak.none)))))))) (.set zau.refl_d (.set zau.refl_d (.set zau.refl_d (.set zau.refl_d zan.at))))⟩
 try simp only[go_sem]
 obtain⟨r13,hr14,h⟩:=bs h
 replace hr14:=zap hr14
 refine zar hr14 ?_
 try simp only[go_sem]
 obtain⟨r15,hr16,h⟩:=bs h
 replace hr16:=zap hr16
 refine zar hr16 ?_
 try simp only[go_sem]
 obtain⟨r17,hr18,h⟩:=bs h
 replace hr18:=zap hr18
 refine zar hr18 ?_
 try simp only[go_sem]
 obtain⟨r19,hr20,h⟩:=bs h
 replace hr20:=zap hr20
 refine zar hr20 ?_
 try simp only[go_sem]
 obtain⟨r21,hr22,h⟩:=bs h
 replace hr22:=zap hr22
 refine zar hr22 ?_
 try simp only[go_sem]
 refine zaa (v:= .d (.int .i64 r3.1)) (fun hb57=>by simp only[go_sem,hb57]) ?_
 try simp only[go_sem]
 refine zaa (v:= .d (.int .i64 r11)) (fun hb56=>by simp only[go_sem,hb56]) ?_
 try simp only[go_sem]
 refine zaa (v:= .d (.bool (r3.1==r11))) (fun hb55=>by simp only[go_sem,hb55]) ?_
 try simp only[go_sem]
 refine zaa (v:= .d (.int .i64 r3.2)) (fun hb54=>by simp only[go_sem,hb54]) ?_
 try simp only[go_sem]
 refine zaa (v:= .d (.int .i64 r5)) (fun hb53=>by simp only[go_sem,hb53]) ?_
 try simp only[go_sem]
 refine zaa (v:= .d (.bool (r3.2==r5))) (fun hb52=>by simp only[go_sem,hb52]) ?_
 try simp only[go_sem]
 refine zaa (v:= .d (.int .i64 r13.1)) (fun hb51=>by simp only[go_sem,hb51]) ?_
 try simp only[go_sem]
 refine zaa (v:= .d (.int .i64 r15.1)) (fun hb50=>by simp only[go_sem,hb50]) ?_
 try simp only[go_sem]
 refine zaa (v:= .d (.bool (r13.1==r15.1))) (fun hb49=>by simp only[go_sem,hb49]) ?_
 try simp only[go_sem]
 refine zaa (v:= .d (.int .i64 r13.2)) (fun hb48=>by simp only[go_sem,hb48]) ?_
 try simp only[go_sem]
 refine zaa (v:= .d (.int .i64 r15.2)) (fun hb47=>by simp only[go_sem,hb47]) ?_
 try simp only[go_sem]
 refine zaa (v:= .d (.bool (r13.2==r15.2))) (fun hb46=>by simp only[go_sem,hb46]) ?_
 try simp only[go_sem]
 refine zaa (v:= .d (.list r17.1.n (r17.1.l.map zal))) (fun hb45=>by simp only[go_sem,hb45]) ?_
 try simp only[go_sem]
 refine zaa (v:= .d (.list r19.1.n (r19.1.l.map zal))) (fun hb44=>by simp only[go_sem,hb44]) ?_
 try simp only[go_sem]
 refine zaH (fun hc23=> ?_) (fun hc24=> ?_)
 ·rw[if_pos hc23]at h
  try simp only[go_sem,hc23]
  obtain⟨r25,hr26,h⟩:=bs h
  replace hr26:=zap hr26
  refine zar hr26 ?_
  try simp only[go_sem]
  refine zaa (v:= .d (.int .i64 r17.2)) (fun hb43=>by simp only[go_sem,hc23,hb43]) ?_
  try simp only[go_sem]
  refine zaa (v:= .d (.int .i64 r19.2)) (fun hb42=>by simp only[go_sem,hc23,hb42]) ?_
  try simp only[go_sem]
  refine zaa (v:= .d (.bool (r17.2==r19.2))) (fun hb41=>by simp only[go_sem,hc23,hb41]) ?_
  try simp only[go_sem]
  refine zaa (v:= .d (zad r1)) (fun hb40=>by simp only[go_sem,hc23,hb40]) ?_
  try simp only[go_sem]
  refine zaa (v:= .d (zal a1)) (fun hb39=>by simp only[go_sem,hc23,hb39]) ?_
  try simp only[go_sem]
  refine zaH (fun hc27=> ?_) (fun hc28=> ?_)
  ·rw[if_pos hc27]at h
   try simp only[go_sem,hc27]
   obtain⟨r29,hr30,h⟩:=bs h
   replace hr30:=zap hr30
   refine zar hr30 ?_
   try simp only[go_sem]
   obtain⟨r31,hr32,h⟩:=bs h
   replace hr32:=zap hr32
   refine zar hr32 ?_
   try simp only[go_sem]
   refine zaa (v:= .d (zad r1)) (fun hb38=>by simp only[go_sem,hc23,hc27,hb38]) ?_
   try simp only[go_sem]
   refine zaa (v:= .d (zad a0)) (fun hb37=>by simp only[go_sem,hc23,hc27,hb37]) ?_
   try simp only[go_sem]
   refine zaH (fun hc33=> ?_) (fun hc34=> ?_)
   ·rw[if_pos hc33]at h
    try simp only[go_sem,hc33]
    obtain⟨r35,hr36,h⟩:=bs h
    replace hr36:=zap hr36
    refine zar hr36 ?_
    try simp only[go_sem]
    cases h
    rfl
   rw[if_neg (ff hc34)]at h
   try simp only[go_sem,hc34]
   cases h
   rfl
  rw[if_neg (ff hc28)]at h
  try simp only[go_sem,hc28]
  cases h
  rfl
 rw[if_neg (ff hc24)]at h
 try simp only[go_sem,hc24]
 cases h
 rfl
def zio (a0:Forest) (x0:List (Node)×Int):St:=⟨(((((Regs.none.set 2 (.ptr 1 0 0)).set 3 (.ptr 3 0 0)).set 8 (.d (.list a0.nodes.n (a0.nodes.l.map zag)))).set 9 (.d (.int .i64 (a0.nodes.l.length:Int)))).set 10 (.d (.int .i64 x0.2))),((((Heap.at 9).set 1 (some (.els 1 [.d (.agg [.list true []])] 0))).set 3 (some (.els 1 [V.ofCells [mb 8 (x0.1.map fun z=>V.d (zag z))]] 0))).set 8 (mbB 16 x0.1.length (x0.1.map fun z=>V.d (zag z))))⟩
def zqI (a0:Forest):((List (Node)))→Ex×St:=fun r=>(.exit 0,⟨((Regs.none.set 2 (.ptr 1 0 0)).set 3 (.ptr 3 0 0)),((((Heap.at 9).set 1 (some (.els 1 [.d (.agg [.list true []])] 0))).set 3 (some (.els 1 [V.ofCells [mb 8 (r.map fun z=>V.d (zag z))]] 0))).set 8 (mbB 16 r.length (r.map fun z=>V.d (zag z))))⟩)
noncomputable def zdk (a0:Forest) (x0:List (Node)×Int):Option ((List (Node)×Int)⊕((List (Node)))):=
 if(decide (x0.2<(a0.nodes.l.length:Int)))=true then
  (rd a0.nodes.l x0.2).bind fun y3=>
  (dec zag (pc prog 113 [zag y3])).bind fun r5=>
  if(x0.1.length+1)*200≤AI.roomBytes then
   some (.inl ((x0.1++[r5]),(IntKind.wrap .i64 (x0.2+1))))
  else none
 else
  some (.inr x0.1)
theorem zCV (a0:Forest) (x0:List (Node)×Int) (o:(List (Node)×Int)⊕((List (Node)))) (h:zdk a0 x0=some o):Wp prog zCs (zio a0 x0) (zbH (0,[]) (zio a0) (zqI a0) o):=by
 unfold zdk at h
 delta zCs zio
 try simp only[go_sem]
 refine zaj (fun hc1=> ?_) (fun hc2=> ?_)
 ·rw[if_pos hc1]at h
  try simp only[go_sem]
  obtain⟨y3,hy4,h⟩:=bs h
  try simp only[go_sem,zab hy4,zae hy4,zac zag hy4]
  obtain⟨r5,hr6,h⟩:=bs h
  replace hr6:=zap hr6
  refine zar hr6 ?_
  try simp only[go_sem,zab hy4,zae hy4,zac zag hy4]
  obtain⟨hm7,h⟩:=zbh h
  refine zdw (l:=x0.1.map fun z=>V.d (zag z)) (new:=[V.d (zag r5)]) (sz:=16) (fz:=x0.1.length) (by simp only[go_sem,List.map_append,List.map_cons,List.map_nil,zab hy4,zae hy4,zac zag hy4]) (by intro h;simpa using h) (by simp only[go_sem,zaT,zaX,zaU,zaI,zbP]) (by simp) (by rfl) (by simpa using hm7) ?_
  try simp only[go_sem,zab hy4,zae hy4,zac zag hy4,hm7]
  cases h
  refine⟨rfl,Up.of (N:=9) (N':=24) [(8,19)] rfl rfl (by decide) ?_ ?_⟩
  ·refine zak.set ?_ (zak.set ?_ (zak.set ?_ (zak.set ?_ (zak.set ?_ zak.none))))
   all_goals (try simp only[go_sem,List.map_append,List.map_cons,List.map_nil,zab hy4,zae hy4,zac zag hy4,hm7])
   all_goals (first|exact VR.d _|exact VR.ptr' rfl)
  refine zan.set (show zau _ _ (Heap.get _ 19)from ?_) (zan.set (show zau _ _ (Heap.get _ 3)from ?_) (zan.set (show zau _ _ (Heap.get _ 1)from ?_) (zan.at)))
  all_goals (try simp only[go_sem,List.map_append,List.map_cons,List.map_nil,zab hy4,zae hy4,zac zag hy4,hm7])
  all_goals (((repeat' first|exact zau.refl_d|refine zau.els (by simp) ?_|refine zau.mb_els (by simp) ?_|exact VR.d _|exact VR.mb_sl (by(simp;done)) rfl (by simp)|exact VRL.nil|exact VRL.refl_d _ _|refine VRL.append ?_ ?_|refine VRL.cons ?_ ?_|refine VRL.ofCa ?_ rfl);done))
 rw[if_neg (ff hc2)]at h
 try simp only[go_sem]
 cases h
 refine⟨rfl,by simp,Up.of (N:=9) (N':=10) [] rfl rfl (by decide) ?_ ?_⟩
 ·refine zak.set ?_ (zak.set ?_ zak.none)
  all_goals (try simp only[go_sem,List.map_append,List.map_cons,List.map_nil])
  all_goals (exact VR.ptr' rfl)
 refine zan.set (show zau _ _ (Heap.get _ 8)from ?_) (zan.set (show zau _ _ (Heap.get _ 3)from ?_) (zan.set (show zau _ _ (Heap.get _ 1)from ?_) (zan.at)))
 all_goals (try simp only[go_sem,List.map_append,List.map_cons,List.map_nil])
 all_goals (((repeat' first|exact zau.refl_d|refine zau.els (by simp) ?_|refine zau.mb (by simp) ?_|exact VR.mb rfl|exact VRL.nil|exact VRL.refl_d _ _|refine VRL.cons ?_ ?_|refine VRL.ofC ?_);done))
noncomputable def P43 (a0:Forest):Option (Forest):=
 (zaO (zdk a0) ([],0)).bind fun r8=>
 some (⟨⟨r8.isEmpty,r8⟩⟩:Forest)
theorem zOS (a0:Forest) (r:Forest) (h:P43 a0=some r):pc prog 43 [zad a0]=some (zad r):=by
 unfold P43 at h
 refine zaY (fn:=c43) rfl rfl ?_
 delta c43
 try simp only[go_sem]
 obtain⟨r8,hl9,h⟩:=bs h
 refine Wp.loopR zbe (n:=(0,[])) (a:=zCs) rfl (zio a0) (zqI a0) (zCV a0) hl9 ?_ (by(repeat(first|refine Clo.block ?_|refine Clo.seq zbe rfl ?_));(exact Clo.ret)) ?_
 ·show Up (0,[]) (zio a0 ([],0)) _
  delta zio
  refine Up.of (N:=9) (N':=9) [] rfl rfl (by decide) ?_ ?_
  ·refine zak.set ?_ (zak.set ?_ (zak.set ?_ (zak.set ?_ (zak.set ?_ zak.none))))
   all_goals (try simp only[go_sem,List.map_append,List.map_cons,List.map_nil])
   all_goals (first|exact VR.d _|exact VR.ptr' rfl)
  refine zan.set (show zau _ _ (Heap.get _ 8)from ?_) (zan.set (show zau _ _ (Heap.get _ 3)from ?_) (zan.set (show zau _ _ (Heap.get _ 1)from ?_) (zan.at)))
  all_goals (try simp only[go_sem,List.map_append,List.map_cons,List.map_nil])
  all_goals (((repeat' first|trivial|exact zau.refl_d);done))
 dsimp only[zqI]
 try simp only[go_sem]
 cases h
 refine Reads.ofv (v':=V.ofCells [mb 8 (r8.map fun z=>V.d (zag z))]) (by rfl) (Rd.agg (RdL.cons (Rd.mb (e:=zag) (l:=r8) (sz:=16) (fz:=r8.length) (by simp only[go_sem,List.map_append,List.map_cons,List.map_nil])) RdL.nil)) rfl
noncomputable def P44 (a0:Forest) (a1:Int):Option (Int×Int):=
 (dec (D.int .i64) (pc prog 87 [zad a0,.list false (([a1]).map (D.int .i64))])).bind fun r1=>
 if(!(r1==0))=true then
  some (0,r1)
 else
  (dec (D.int .i64) (pc prog 114 [zad a0,.int .i64 a1])).bind fun r5=>
  some (r5,0)
theorem zOT (a0:Forest) (a1:Int) (r:Int×Int) (h:P44 a0 a1=some r):pc prog 44 [zad a0,.int .i64 a1]=some ((eT2 (D.int .i64) (D.int .i64)) r):=by
 unfold P44 at h
 refine zaY (fn:=c44) rfl rfl ?_
 delta c44
 try simp only[go_sem]
 obtain⟨r1,hr2,h⟩:=bs h
 replace hr2:=zap hr2
 refine zar hr2 ?_
 try simp only[go_sem]
 refine zaF (fun hc3=> ?_) (fun hc4=> ?_)
 ·rw[if_pos (show(!(r1==0))=true by(rw[hc3];rfl))]at h
  try simp only[go_sem]
  cases h
  rfl
 rw[if_neg (ffn hc4)]at h
 try simp only[go_sem]
 obtain⟨r5,hr6,h⟩:=bs h
 replace hr6:=zap hr6
 refine zar hr6 ?_
 try simp only[go_sem]
 cases h
 rfl
noncomputable def P46 (a0:Forest) (a1:Int):Option (Int):=
 (dec (eT2 zag D.bool) (pc prog 31 [zad a0,.int .i64 a1])).bind fun r1=>
 (dec D.bool (pc prog 115 [.int .u8 r1.1.kind])).bind fun r3=>
 if r3=true then
  some (r1.1.data.l.length:Int)
 else
  some (r1.1.kids.l.length:Int)
theorem zOU (a0:Forest) (a1:Int) (r:Int) (h:P46 a0 a1=some r):pc prog 46 [zad a0,.int .i64 a1]=some ((D.int .i64) r):=by
 unfold P46 at h
 refine zaY (fn:=c46) rfl rfl ?_
 delta c46
 try simp only[go_sem]
 obtain⟨r1,hr2,h⟩:=bs h
 replace hr2:=zap hr2
 refine zar hr2 ?_
 try simp only[go_sem]
 obtain⟨r3,hr4,h⟩:=bs h
 replace hr4:=zap hr4
 refine zar hr4 ?_
 try simp only[go_sem]
 refine zaj (fun hc5=> ?_) (fun hc6=> ?_)
 ·rw[if_pos hc5]at h
  try simp only[go_sem]
  cases h
  rfl
 rw[if_neg (ff hc6)]at h
 try simp only[go_sem]
 cases h
 rfl
noncomputable def P47 (a0:Forest) (a1:Bound) (a2:Bound):Option (Int×Int):=
 (dec (D.int .i64) (pc prog 116 [zad a0,.list false (([a1,a2]).map zal),.list true []])).bind fun r1=>
 if(r1==0)=true then
  (dec D.bool (pc prog 117 [zad a0,.int .i64 a1.node,.int .i64 a2.node])).bind fun r5=>
  if(!r5)=true then
   some (0,18)
  else
   (dec (D.int .i64) (pc prog 118 [zad a0,zal a1,zal a2])).bind fun r9=>
   some (r9,0)
 else
  some (0,r1)
theorem zOV (a0:Forest) (a1:Bound) (a2:Bound) (r:Int×Int) (h:P47 a0 a1 a2=some r):pc prog 47 [zad a0,zal a1,zal a2]=some ((eT2 (D.int .i64) (D.int .i64)) r):=by
 unfold P47 at h
 refine zaY (fn:=c47) rfl rfl ?_
 delta c47
 try simp only[go_sem]
 obtain⟨r1,hr2,h⟩:=bs h
 replace hr2:=zap hr2
 refine zar hr2 ?_
 try simp only[go_sem]
 refine zaa (v:= .d (zad a0)) (fun hb15=>by simp only[go_sem,hb15]) ?_
 try simp only[go_sem]
 refine zaa (v:= .ptr 1 0 0) (fun hb14=>by simp only[go_sem,hb14]) ?_
 try simp only[go_sem]
 refine zaa (v:= .d (.int .i64 a1.node)) (fun hb13=>by simp only[go_sem,hb13]) ?_
 try simp only[go_sem]
 refine zaa (v:= .ptr 2 0 0) (fun hb12=>by simp only[go_sem,hb12]) ?_
 try simp only[go_sem]
 refine zaa (v:= .d (.int .i64 a2.node)) (fun hb11=>by simp only[go_sem,hb11]) ?_
 try simp only[go_sem]
 refine zaH (fun hc3=> ?_) (fun hc4=> ?_)
 ·rw[if_pos hc3]at h
  try simp only[go_sem,hc3]
  obtain⟨r5,hr6,h⟩:=bs h
  replace hr6:=zap hr6
  refine zar hr6 ?_
  try simp only[go_sem]
  refine zaF (fun hc7=> ?_) (fun hc8=> ?_)
  ·rw[if_pos (show(!r5)=true by(rw[hc7];rfl))]at h
   try simp only[go_sem]
   cases h
   rfl
  rw[if_neg (ffn hc8)]at h
  try simp only[go_sem]
  try simp only[go_sem,hc3,hc8]
  obtain⟨r9,hr10,h⟩:=bs h
  replace hr10:=zap hr10
  refine zar hr10 ?_
  try simp only[go_sem]
  cases h
  rfl
 rw[if_neg (ff hc4)]at h
 try simp only[go_sem,hc4]
 cases h
 rfl
noncomputable def P48 (a0:Forest) (a1:Int):Option (Sl (Bound)×Int):=
 (dec (D.int .i64) (pc prog 119 [zad a0,.int .i64 a1])).bind fun r1=>
 if(!(r1==0))=true then
  some (⟨true,[]⟩,r1)
 else
  (dec (eSl zal) (pc prog 120 [zad a0,.int .i64 a1])).bind fun r5=>
  some (r5,0)
theorem zOW (a0:Forest) (a1:Int) (r:Sl (Bound)×Int) (h:P48 a0 a1=some r):pc prog 48 [zad a0,.int .i64 a1]=some ((eT2 (eSl zal) (D.int .i64)) r):=by
 unfold P48 at h
 refine zaY (fn:=c48) rfl rfl ?_
 delta c48
 try simp only[go_sem]
 obtain⟨r1,hr2,h⟩:=bs h
 replace hr2:=zap hr2
 refine zar hr2 ?_
 try simp only[go_sem]
 refine zaF (fun hc3=> ?_) (fun hc4=> ?_)
 ·rw[if_pos (show(!(r1==0))=true by(rw[hc3];rfl))]at h
  try simp only[go_sem]
  cases h
  rfl
 rw[if_neg (ffn hc4)]at h
 try simp only[go_sem]
 obtain⟨r5,hr6,h⟩:=bs h
 replace hr6:=zap hr6
 refine zar hr6 ?_
 try simp only[go_sem]
 cases h
 rfl
def ziq (a0:Sl (Bound)) (a1:Sl (Bound)) (x0:Int):St:=⟨((((Regs.none.set 0 (.d (.list a0.n (a0.l.map zal)))).set 1 (.d (.list a1.n (a1.l.map zal)))).set 12 (.d (.int .i64 (a0.l.length:Int)))).set 13 (.d (.int .i64 x0))),(Heap.at 9)⟩
def zmR (a0:Sl (Bound)) (a1:Sl (Bound)):((Unit)⊕(Unit))→Ex×St:=fun r=>match r with
 |(.inl r)=>(.exit 0,⟨Regs.none,(Heap.at 9)⟩)
 |(.inr r)=>(.ret,⟨(Regs.none.set 4 (.d (.bool false))),(Heap.at 9)⟩)
noncomputable def zdl (a0:Sl (Bound)) (a1:Sl (Bound)) (x0:Int):Option ((Int)⊕((Unit)⊕(Unit))):=
 if(decide (x0<(a0.l.length:Int)))=true then
  (rd a0.l x0).bind fun y5=>
  (rd a1.l x0).bind fun y7=>
  if(!(decide (y5=y7)))=true then
   some (.inr (.inr ()))
  else
   some (.inl (IntKind.wrap .i64 (x0+1)))
 else
  some (.inr (.inl ()))
theorem zCW (a0:Sl (Bound)) (a1:Sl (Bound)) (x0:Int) (o:(Int)⊕((Unit)⊕(Unit))) (h:zdl a0 a1 x0=some o):Wp prog zCu (ziq a0 a1 x0) (zbH (0,[]) (ziq a0 a1) (zmR a0 a1) o):=by
 unfold zdl at h
 delta zCu ziq
 try simp only[go_sem]
 refine zaj (fun hc3=> ?_) (fun hc4=> ?_)
 ·rw[if_pos hc3]at h
  try simp only[go_sem]
  obtain⟨y5,hy6,h⟩:=bs h
  try simp only[go_sem,zab hy6,zae hy6,zac zal hy6]
  obtain⟨y7,hy8,h⟩:=bs h
  try simp only[go_sem,zab hy6,zae hy6,zac zal hy6,zab hy8,zae hy8,zac zal hy8]
  refine zaF (fun hc9=> ?_) (fun hc10=> ?_)
  ·rw[if_pos (show(!(decide (y5=y7)))=true by(rw[hc9];rfl))]at h
   try simp only[go_sem,zab hy6,zae hy6,zac zal hy6,zab hy8,zae hy8,zac zal hy8]
   cases h
   exact⟨rfl,by simp,Up.of (N:=9) (N':=22) [] rfl rfl (by decide) (.set (.d _) zak.none) zan.at⟩
  rw[if_neg (ffn hc10)]at h
  try simp only[go_sem,zab hy6,zae hy6,zac zal hy6,zab hy8,zae hy8,zac zal hy8]
  cases h
  exact⟨rfl,Up.of (N:=9) (N':=23) [] rfl rfl (by decide) (.set (.d _) (.set (.d _) (.set (.d _) (.set (.d _) zak.none)))) zan.at⟩
 rw[if_neg (ff hc4)]at h
 try simp only[go_sem]
 cases h
 exact⟨rfl,by simp,Up.of (N:=9) (N':=10) [] rfl rfl (by decide) zak.none zan.at⟩
noncomputable def P49 (a0:Sl (Bound)) (a1:Sl (Bound)):Option (Bool):=
 if(!((a0.l.length:Int)==(a1.l.length:Int)))=true then
  some false
 else
  (zaO (zdl a0 a1) 0).bind fun r11=>
  match r11 with
  |(.inl q13)=>
   some true
  |(.inr q14)=>
   some false
theorem zOX (a0:Sl (Bound)) (a1:Sl (Bound)) (r:Bool) (h:P49 a0 a1=some r):pc prog 49 [.list a0.n (a0.l.map zal),.list a1.n (a1.l.map zal)]=some (D.bool r):=by
 unfold P49 at h
 refine zaY (fn:=c49) rfl rfl ?_
 delta c49
 try simp only[go_sem]
 refine zaF (fun hc1=> ?_) (fun hc2=> ?_)
 ·rw[if_pos (show(!((a0.l.length:Int)==(a1.l.length:Int)))=true by(rw[hc1];rfl))]at h
  try simp only[go_sem]
  cases h
  rfl
 rw[if_neg (ffn hc2)]at h
 try simp only[go_sem]
 obtain⟨r11,hl12,h⟩:=bs h
 refine Wp.loopR zbe (n:=(0,[])) (a:=zCu) rfl (ziq a0 a1) (zmR a0 a1) (zCW a0 a1) hl12 ?_ (by(repeat(first|refine Clo.block ?_|refine Clo.seq zbe rfl ?_));(exact Clo.ret)) ?_
 ·show Up (0,[]) (ziq a0 a1 0) _
  delta ziq
  exact Up.of (N:=9) (N':=9) [] rfl rfl (by decide) (.set (.d _) (.set (.d _) (.set (.d _) (.set (.d _) zak.none)))) zan.at
 rcases r11 with(q13|q14)
 ·dsimp only at h
  dsimp only[zmR]
  try simp only[go_sem]
  cases h
  rfl
 dsimp only at h
 dsimp only[zmR]
 try simp only[go_sem]
 cases h
 rfl
noncomputable def P50 (a0:Forest) (a1:Bound):Option (Int):=
 (dec (D.int .i64) (pc prog 109 [zad a0,.list false (([a1]).map zal),.list true []])).bind fun r1=>
 some r1
theorem zOY (a0:Forest) (a1:Bound) (r:Int) (h:P50 a0 a1=some r):pc prog 50 [zad a0,zal a1]=some ((D.int .i64) r):=by
 unfold P50 at h
 refine zaY (fn:=c50) rfl rfl ?_
 delta c50
 try simp only[go_sem]
 obtain⟨r1,hr2,h⟩:=bs h
 replace hr2:=zap hr2
 refine zar hr2 ?_
 try simp only[go_sem]
 cases h
 rfl
noncomputable def P51 (a0:Forest) (a1:Bound):Option (Int):=
 (dec (D.int .i64) (pc prog 116 [zad a0,.list false (([a1]).map zal),.list true []])).bind fun r1=>
 some r1
theorem zOZ (a0:Forest) (a1:Bound) (r:Int) (h:P51 a0 a1=some r):pc prog 51 [zad a0,zal a1]=some ((D.int .i64) r):=by
 unfold P51 at h
 refine zaY (fn:=c51) rfl rfl ?_
 delta c51
 try simp only[go_sem]
 obtain⟨r1,hr2,h⟩:=bs h
 replace hr2:=zap hr2
 refine zar hr2 ?_
 try simp only[go_sem]
 cases h
 rfl
def zir (a0:Forest) (a1:Forest) (x0:Int):St:=⟨((((Regs.none.set 2 (.ptr 0 0 0)).set 3 (.ptr 1 0 0)).set 15 (.d (.int .i64 (a0.nodes.l.length:Int)))).set 16 (.d (.int .i64 x0))),(((Heap.at 14).set 0 (some (.els 1 [.d (zad a0)] 0))).set 1 (some (.els 1 [.d (zad a1)] 0)))⟩
def zmS (a0:Forest) (a1:Forest):((Unit)⊕(Unit))→Ex×St:=fun r=>match r with
 |(.inl r)=>(.exit 0,⟨Regs.none,(Heap.at 14)⟩)
 |(.inr r)=>(.ret,⟨(Regs.none.set 4 (.d (.bool false))),(Heap.at 14)⟩)
noncomputable def zdm (a0:Forest) (a1:Forest) (x0:Int):Option ((Int)⊕((Unit)⊕(Unit))):=
 if(decide (x0<(a0.nodes.l.length:Int)))=true then
  (rd a0.nodes.l x0).bind fun y5=>
  (rd a1.nodes.l x0).bind fun y7=>
  (dec D.bool (pc prog 121 [zag y5,zag y7])).bind fun r9=>
  if(!r9)=true then
   some (.inr (.inr ()))
  else
   some (.inl (IntKind.wrap .i64 (x0+1)))
 else
  some (.inr (.inl ()))
theorem zCX (a0:Forest) (a1:Forest) (x0:Int) (o:(Int)⊕((Unit)⊕(Unit))) (h:zdm a0 a1 x0=some o):Wp prog zCv (zir a0 a1 x0) (zbH (0,[]) (zir a0 a1) (zmS a0 a1) o):=by
 unfold zdm at h
 delta zCv zir
 try simp only[go_sem]
 refine zaj (fun hc3=> ?_) (fun hc4=> ?_)
 ·rw[if_pos hc3]at h
  try simp only[go_sem]
  obtain⟨y5,hy6,h⟩:=bs h
  try simp only[go_sem,zab hy6,zae hy6,zac zag hy6]
  obtain⟨y7,hy8,h⟩:=bs h
  try simp only[go_sem,zab hy6,zae hy6,zac zag hy6,zab hy8,zae hy8,zac zag hy8]
  obtain⟨r9,hr10,h⟩:=bs h
  replace hr10:=zap hr10
  refine zar hr10 ?_
  try simp only[go_sem,zab hy6,zae hy6,zac zag hy6,zab hy8,zae hy8,zac zag hy8]
  refine zaF (fun hc11=> ?_) (fun hc12=> ?_)
  ·rw[if_pos (show(!r9)=true by(rw[hc11];rfl))]at h
   try simp only[go_sem,zab hy6,zae hy6,zac zag hy6,zab hy8,zae hy8,zac zag hy8]
   cases h
   exact⟨rfl,by simp,Up.of (N:=14) (N':=30) [] rfl rfl (by decide) (.set (.d _) zak.none) zan.at⟩
  rw[if_neg (ffn hc12)]at h
  try simp only[go_sem,zab hy6,zae hy6,zac zag hy6,zab hy8,zae hy8,zac zag hy8]
  cases h
  exact⟨rfl,Up.of (N:=14) (N':=31) [] rfl rfl (by decide) (.set (.d _) (.set (.d _) (.set (.ptr' rfl) (.set (.ptr' rfl) zak.none)))) (.set zau.refl_d (.set zau.refl_d zan.at))⟩
 rw[if_neg (ff hc4)]at h
 try simp only[go_sem]
 cases h
 exact⟨rfl,by simp,Up.of (N:=14) (N':=15) [] rfl rfl (by decide) zak.none zan.at⟩
noncomputable def P52 (a0:Forest) (a1:Forest):Option (Bool):=
 if(!((a0.nodes.l.length:Int)==(a1.nodes.l.length:Int)))=true then
  some false
 else
  (zaO (zdm a0 a1) 0).bind fun r13=>
  match r13 with
  |(.inl q15)=>
   some true
  |(.inr q16)=>
   some false
theorem zPa (a0:Forest) (a1:Forest) (r:Bool) (h:P52 a0 a1=some r):pc prog 52 [zad a0,zad a1]=some (D.bool r):=by
 unfold P52 at h
 refine zaY (fn:=c52) rfl rfl ?_
 delta c52
 try simp only[go_sem]
 refine zaF (fun hc1=> ?_) (fun hc2=> ?_)
 ·rw[if_pos (show(!((a0.nodes.l.length:Int)==(a1.nodes.l.length:Int)))=true by(rw[hc1];rfl))]at h
  try simp only[go_sem]
  cases h
  rfl
 rw[if_neg (ffn hc2)]at h
 try simp only[go_sem]
 obtain⟨r13,hl14,h⟩:=bs h
 refine Wp.loopR zbe (n:=(0,[])) (a:=zCv) rfl (zir a0 a1) (zmS a0 a1) (zCX a0 a1) hl14 ?_ (by(repeat(first|refine Clo.block ?_|refine Clo.seq zbe rfl ?_));(exact Clo.ret)) ?_
 ·show Up (0,[]) (zir a0 a1 0) _
  delta zir
  exact Up.of (N:=14) (N':=14) [] rfl rfl (by decide) (.set (.d _) (.set (.d _) (.set (.ptr' rfl) (.set (.ptr' rfl) zak.none)))) (.set zau.refl_d (.set zau.refl_d zan.at))
 rcases r13 with(q15|q16)
 ·dsimp only at h
  dsimp only[zmS]
  try simp only[go_sem]
  cases h
  rfl
 dsimp only at h
 dsimp only[zmS]
 try simp only[go_sem]
 cases h
 rfl
noncomputable def zNR (a0:Node):Option (Node):=
 if a0.data.l=[]then
  if a0.attrs.l=[]then
   if a0.kids.l=[]then
    some (⟨a0.kind,⟨a0.name.space,a0.name.prefix_,a0.name.local_⟩,a0.public_,a0.system,⟨false,[]⟩,⟨false,[]⟩,a0.parent,⟨false,[]⟩,a0.doc,a0.host,a0.shadow,a0.mode,a0.manual,a0.hTML⟩:Node)
   else
    if a0.kids.l.length*8≤AI.roomBytes then
     some (⟨a0.kind,⟨a0.name.space,a0.name.prefix_,a0.name.local_⟩,a0.public_,a0.system,⟨false,[]⟩,⟨false,[]⟩,a0.parent,⟨false,a0.kids.l⟩,a0.doc,a0.host,a0.shadow,a0.mode,a0.manual,a0.hTML⟩:Node)
    else none
  else
   if a0.attrs.l.length*64≤AI.roomBytes then
    if a0.kids.l=[]then
     some (⟨a0.kind,⟨a0.name.space,a0.name.prefix_,a0.name.local_⟩,a0.public_,a0.system,⟨false,[]⟩,⟨false,a0.attrs.l⟩,a0.parent,⟨false,[]⟩,a0.doc,a0.host,a0.shadow,a0.mode,a0.manual,a0.hTML⟩:Node)
    else
     if a0.kids.l.length*8≤AI.roomBytes then
      some (⟨a0.kind,⟨a0.name.space,a0.name.prefix_,a0.name.local_⟩,a0.public_,a0.system,⟨false,[]⟩,⟨false,a0.attrs.l⟩,a0.parent,⟨false,a0.kids.l⟩,a0.doc,a0.host,a0.shadow,a0.mode,a0.manual,a0.hTML⟩:Node)
     else none
   else none
 else
  if a0.data.l.length*2≤AI.roomBytes then
   if a0.attrs.l=[]then
    if a0.kids.l=[]then
     some (⟨a0.kind,⟨a0.name.space,a0.name.prefix_,a0.name.local_⟩,a0.public_,a0.system,⟨false,a0.data.l⟩,⟨false,[]⟩,a0.parent,⟨false,[]⟩,a0.doc,a0.host,a0.shadow,a0.mode,a0.manual,a0.hTML⟩:Node)
    else
     if a0.kids.l.length*8≤AI.roomBytes then
      some (⟨a0.kind,⟨a0.name.space,a0.name.prefix_,a0.name.local_⟩,a0.public_,a0.system,⟨false,a0.data.l⟩,⟨false,[]⟩,a0.parent,⟨false,a0.kids.l⟩,a0.doc,a0.host,a0.shadow,a0.mode,a0.manual,a0.hTML⟩:Node)
     else none
   else
    if a0.attrs.l.length*64≤AI.roomBytes then
     if a0.kids.l=[]then
      some (⟨a0.kind,⟨a0.name.space,a0.name.prefix_,a0.name.local_⟩,a0.public_,a0.system,⟨false,a0.data.l⟩,⟨false,a0.attrs.l⟩,a0.parent,⟨false,[]⟩,a0.doc,a0.host,a0.shadow,a0.mode,a0.manual,a0.hTML⟩:Node)
     else
      if a0.kids.l.length*8≤AI.roomBytes then
       some (⟨a0.kind,⟨a0.name.space,a0.name.prefix_,a0.name.local_⟩,a0.public_,a0.system,⟨false,a0.data.l⟩,⟨false,a0.attrs.l⟩,a0.parent,⟨false,a0.kids.l⟩,a0.doc,a0.host,a0.shadow,a0.mode,a0.manual,a0.hTML⟩:Node)
      else none
    else none
  else none
theorem zNS (a0:Node) (r:Node) (h:zNR a0=some r):pc prog 113 [zag a0]=some (zag r):=by
 unfold zNR at h
 refine zaY (fn:=zKP) rfl rfl ?_
 delta zKP
 try simp only[go_sem]
 by_cases hz1:a0.data.l=[]
 ·rw[if_pos hz1]at h
  refine zcd (by simp only[go_sem,zaT,zaX,zaU,zaI,zbP,List.map_nil,hz1]) (by rfl) ?_
  try simp only[go_sem]
  try simp only[go_sem,zag]
  by_cases hz3:a0.attrs.l=[]
  ·rw[if_pos hz3]at h
   refine zcd (by simp only[go_sem,zaT,zaX,zaU,zaI,zbP,List.map_nil,hz3]) (by rfl) ?_
   try simp only[go_sem,zag]
   by_cases hz5:a0.kids.l=[]
   ·rw[if_pos hz5]at h
    refine zcd (by simp only[go_sem,zaT,zaX,zaU,zaI,zbP,List.map_nil,hz5]) (by rfl) ?_
    try simp only[go_sem,zag]
    cases h
    refine Reads.ofv (v':=V.ofCells [.d (.int .u8 a0.kind),.d (.str a0.name.space),.d (.str a0.name.prefix_),.d (.str a0.name.local_),.d (.str a0.public_),.d (.str a0.system),.sl 2 0 (0),.sl 8 0 (0),.d (.int .i64 a0.parent),.sl 14 0 (0),.d (.int .i64 a0.doc),.d (.int .i64 a0.host),.d (.int .i64 a0.shadow),.d (.int .u8 a0.mode),.d (.bool a0.manual),.d (.bool a0.hTML)]) (by rfl) (Rd.agg (RdL.cons Rd.d (RdL.cons Rd.d (RdL.cons Rd.d (RdL.cons Rd.d (RdL.cons Rd.d (RdL.cons Rd.d (RdL.cons (Rd.sl (e:=(D.int .i64)) (l:=[]) (sz:=1) (fz:=0) (m:=[]) (by simp only[go_sem]) rfl (by simp)) (RdL.cons (Rd.sl (e:=(D.int .i64)) (l:=[]) (sz:=4) (fz:=0) (m:=[]) (by simp only[go_sem]) rfl (by simp)) (RdL.cons Rd.d (RdL.cons (Rd.sl (e:=(D.int .i64)) (l:=[]) (sz:=1) (fz:=0) (m:=[]) (by simp only[go_sem]) rfl (by simp)) (RdL.cons Rd.d (RdL.cons Rd.d (RdL.cons Rd.d (RdL.cons Rd.d (RdL.cons Rd.d (RdL.cons Rd.d RdL.nil))))))))))))))))) rfl
   have hz6:=hz5;rw[if_neg hz6]at h
   obtain⟨hm7,h⟩:=zbh h
   refine zbY (l:=[]) (fz:=0) (new:=a0.kids.l.map fun z=>V.d ((D.int .i64) z)) (by simp only[go_sem,List.map_append,List.map_cons,List.map_nil,zag]) (by simp only[go_sem,zaT,zaX,zaU,zaI,zbP]) (by simpa using hz6) (by rw[←zbP];exact zbS (e:=(D.int .i64)) (fun _=>rfl) (fun _=>rfl) _) (by simp) (by simpa using hm7) ?_
   try rw[←List.map_append]
   try simp only[go_sem,zag,hm7]
   cases h
   refine Reads.ofv (v':=V.ofCells [.d (.int .u8 a0.kind),.d (.str a0.name.space),.d (.str a0.name.prefix_),.d (.str a0.name.local_),.d (.str a0.public_),.d (.str a0.system),.sl 2 0 (0),.sl 8 0 (0),.d (.int .i64 a0.parent),.sl 17 0 a0.kids.l.length,.d (.int .i64 a0.doc),.d (.int .i64 a0.host),.d (.int .i64 a0.shadow),.d (.int .u8 a0.mode),.d (.bool a0.manual),.d (.bool a0.hTML)]) (by rfl) (Rd.agg (RdL.cons Rd.d (RdL.cons Rd.d (RdL.cons Rd.d (RdL.cons Rd.d (RdL.cons Rd.d (RdL.cons Rd.d (RdL.cons (Rd.sl (e:=(D.int .i64)) (l:=[]) (sz:=1) (fz:=0) (m:=[]) (by simp only[go_sem]) rfl (by simp)) (RdL.cons (Rd.sl (e:=(D.int .i64)) (l:=[]) (sz:=4) (fz:=0) (m:=[]) (by simp only[go_sem]) rfl (by simp)) (RdL.cons Rd.d (RdL.cons (Rd.sl (e:=(D.int .i64)) (l:=a0.kids.l) (sz:=1) (fz:=0) (m:=a0.kids.l.map fun z=>V.d ((D.int .i64) z)) (by simp only[go_sem,List.map_append,List.map_cons,List.map_nil,zag,hm7]) rfl (by simp)) (RdL.cons Rd.d (RdL.cons Rd.d (RdL.cons Rd.d (RdL.cons Rd.d (RdL.cons Rd.d (RdL.cons Rd.d RdL.nil))))))))))))))))) rfl
  have hz4:=hz3;rw[if_neg hz4]at h
  obtain⟨hm8,h⟩:=zbh h
  refine zbY (l:=[]) (fz:=0) (new:=a0.attrs.l.map fun z=>V.d (zaG z)) (by simp only[go_sem,List.map_append,List.map_cons,List.map_nil,zag]) (by simp only[go_sem,zaT,zaX,zaU,zaI,zbP]) (by simpa using hz4) (by rw[←zbP];exact zbS (e:=zaG) (fun _=>rfl) (fun _=>rfl) _) (by simp) (by simpa using hm8) ?_
  try rw[←List.map_append]
  try simp only[go_sem,zag,hm8]
  by_cases hz9:a0.kids.l=[]
  ·rw[if_pos hz9]at h
   refine zcd (by simp only[go_sem,zaT,zaX,zaU,zaI,zbP,List.map_nil,hz9]) (by rfl) ?_
   try simp only[go_sem,zag,hm8]
   cases h
   refine Reads.ofv (v':=V.ofCells [.d (.int .u8 a0.kind),.d (.str a0.name.space),.d (.str a0.name.prefix_),.d (.str a0.name.local_),.d (.str a0.public_),.d (.str a0.system),.sl 2 0 (0),.sl 11 0 a0.attrs.l.length,.d (.int .i64 a0.parent),.sl 14 0 (0),.d (.int .i64 a0.doc),.d (.int .i64 a0.host),.d (.int .i64 a0.shadow),.d (.int .u8 a0.mode),.d (.bool a0.manual),.d (.bool a0.hTML)]) (by rfl) (Rd.agg (RdL.cons Rd.d (RdL.cons Rd.d (RdL.cons Rd.d (RdL.cons Rd.d (RdL.cons Rd.d (RdL.cons Rd.d (RdL.cons (Rd.sl (e:=(D.int .i64)) (l:=[]) (sz:=1) (fz:=0) (m:=[]) (by simp only[go_sem]) rfl (by simp)) (RdL.cons (Rd.sl (e:=zaG) (l:=a0.attrs.l) (sz:=4) (fz:=0) (m:=a0.attrs.l.map fun z=>V.d (zaG z)) (by simp only[go_sem,List.map_append,List.map_cons,List.map_nil,zag,hm8]) rfl (by simp)) (RdL.cons Rd.d (RdL.cons (Rd.sl (e:=(D.int .i64)) (l:=[]) (sz:=1) (fz:=0) (m:=[]) (by simp only[go_sem]) rfl (by simp)) (RdL.cons Rd.d (RdL.cons Rd.d (RdL.cons Rd.d (RdL.cons Rd.d (RdL.cons Rd.d (RdL.cons Rd.d RdL.nil))))))))))))))))) rfl
  have hz10:=hz9;rw[if_neg hz10]at h
  obtain⟨hm11,h⟩:=zbh h
  refine zbY (l:=[]) (fz:=0) (new:=a0.kids.l.map fun z=>V.d ((D.int .i64) z)) (by simp only[go_sem,List.map_append,List.map_cons,List.map_nil,zag,hm8]) (by simp only[go_sem,zaT,zaX,zaU,zaI,zbP]) (by simpa using hz10) (by rw[←zbP];exact zbS (e:=(D.int .i64)) (fun _=>rfl) (fun _=>rfl) _) (by simp) (by simpa using hm11) ?_
  try rw[←List.map_append]
  try simp only[go_sem,zag,hm8,hm11]
  cases h
  refine Reads.ofv (v':=V.ofCells [.d (.int .u8 a0.kind),.d (.str a0.name.space),.d (.str a0.name.prefix_),.d (.str a0.name.local_),.d (.str a0.public_),.d (.str a0.system),.sl 2 0 (0),.sl 11 0 a0.attrs.l.length,.d (.int .i64 a0.parent),.sl 17 0 a0.kids.l.length,.d (.int .i64 a0.doc),.d (.int .i64 a0.host),.d (.int .i64 a0.shadow),.d (.int .u8 a0.mode),.d (.bool a0.manual),.d (.bool a0.hTML)]) (by rfl) (Rd.agg (RdL.cons Rd.d (RdL.cons Rd.d (RdL.cons Rd.d (RdL.cons Rd.d (RdL.cons Rd.d (RdL.cons Rd.d (RdL.cons (Rd.sl (e:=(D.int .i64)) (l:=[]) (sz:=1) (fz:=0) (m:=[]) (by simp only[go_sem]) rfl (by simp)) (RdL.cons (Rd.sl (e:=zaG) (l:=a0.attrs.l) (sz:=4) (fz:=0) (m:=a0.attrs.l.map fun z=>V.d (zaG z)) (by simp only[go_sem,List.map_append,List.map_cons,List.map_nil,zag,hm8,hm11]) rfl (by simp)) (RdL.cons Rd.d (RdL.cons (Rd.sl (e:=(D.int .i64)) (l:=a0.kids.l) (sz:=1) (fz:=0) (m:=a0.kids.l.map fun z=>V.d ((D.int .i64) z)) (by simp only[go_sem,List.map_append,List.map_cons,List.map_nil,zag,hm8,hm11]) rfl (by simp)) (RdL.cons Rd.d (RdL.cons Rd.d (RdL.cons Rd.d (RdL.cons Rd.d (RdL.cons Rd.d (RdL.cons Rd.d RdL.nil))))))))))))))))) rfl
 have hz2:=hz1;rw[if_neg hz2]at h
 obtain⟨hm12,h⟩:=zbh h
 refine zbY (l:=[]) (fz:=0) (new:=a0.data.l.map fun z=>V.d ((D.int .u16) z)) (by simp only[go_sem,List.map_append,List.map_cons,List.map_nil]) (by simp only[go_sem,zaT,zaX,zaU,zaI,zbP]) (by simpa using hz2) (by rw[←zbP];exact zbS (e:=(D.int .u16)) (fun _=>rfl) (fun _=>rfl) _) (by simp) (by simpa using hm12) ?_
 try rw[←List.map_append]
 try simp only[go_sem,hm12]
 try simp only[go_sem,hm12,zag]
 by_cases hz13:a0.attrs.l=[]
 ·rw[if_pos hz13]at h
  refine zcd (by simp only[go_sem,zaT,zaX,zaU,zaI,zbP,List.map_nil,hz13]) (by rfl) ?_
  try simp only[go_sem,hm12,zag]
  by_cases hz15:a0.kids.l=[]
  ·rw[if_pos hz15]at h
   refine zcd (by simp only[go_sem,zaT,zaX,zaU,zaI,zbP,List.map_nil,hz15]) (by rfl) ?_
   try simp only[go_sem,hm12,zag]
   cases h
   refine Reads.ofv (v':=V.ofCells [.d (.int .u8 a0.kind),.d (.str a0.name.space),.d (.str a0.name.prefix_),.d (.str a0.name.local_),.d (.str a0.public_),.d (.str a0.system),.sl 5 0 a0.data.l.length,.sl 8 0 (0),.d (.int .i64 a0.parent),.sl 14 0 (0),.d (.int .i64 a0.doc),.d (.int .i64 a0.host),.d (.int .i64 a0.shadow),.d (.int .u8 a0.mode),.d (.bool a0.manual),.d (.bool a0.hTML)]) (by rfl) (Rd.agg (RdL.cons Rd.d (RdL.cons Rd.d (RdL.cons Rd.d (RdL.cons Rd.d (RdL.cons Rd.d (RdL.cons Rd.d (RdL.cons (Rd.sl (e:=(D.int .u16)) (l:=a0.data.l) (sz:=1) (fz:=0) (m:=a0.data.l.map fun z=>V.d ((D.int .u16) z)) (by simp only[go_sem,List.map_append,List.map_cons,List.map_nil,hm12,zag]) rfl (by simp)) (RdL.cons (Rd.sl (e:=(D.int .i64)) (l:=[]) (sz:=4) (fz:=0) (m:=[]) (by simp only[go_sem]) rfl (by simp)) (RdL.cons Rd.d (RdL.cons (Rd.sl (e:=(D.int .i64)) (l:=[]) (sz:=1) (fz:=0) (m:=[]) (by simp only[go_sem]) rfl (by simp)) (RdL.cons Rd.d (RdL.cons Rd.d (RdL.cons Rd.d (RdL.cons Rd.d (RdL.cons Rd.d (RdL.cons Rd.d RdL.nil))))))))))))))))) rfl
  have hz16:=hz15;rw[if_neg hz16]at h
  obtain⟨hm17,h⟩:=zbh h
  refine zbY (l:=[]) (fz:=0) (new:=a0.kids.l.map fun z=>V.d ((D.int .i64) z)) (by simp only[go_sem,List.map_append,List.map_cons,List.map_nil,hm12,zag]) (by simp only[go_sem,zaT,zaX,zaU,zaI,zbP]) (by simpa using hz16) (by rw[←zbP];exact zbS (e:=(D.int .i64)) (fun _=>rfl) (fun _=>rfl) _) (by simp) (by simpa using hm17) ?_
  try rw[←List.map_append]
  try simp only[go_sem,hm12,zag,hm17]
  cases h
  refine Reads.ofv (v':=V.ofCells [.d (.int .u8 a0.kind),.d (.str a0.name.space),.d (.str a0.name.prefix_),.d (.str a0.name.local_),.d (.str a0.public_),.d (.str a0.system),.sl 5 0 a0.data.l.length,.sl 8 0 (0),.d (.int .i64 a0.parent),.sl 17 0 a0.kids.l.length,.d (.int .i64 a0.doc),.d (.int .i64 a0.host),.d (.int .i64 a0.shadow),.d (.int .u8 a0.mode),.d (.bool a0.manual),.d (.bool a0.hTML)]) (by rfl) (Rd.agg (RdL.cons Rd.d (RdL.cons Rd.d (RdL.cons Rd.d (RdL.cons Rd.d (RdL.cons Rd.d (RdL.cons Rd.d (RdL.cons (Rd.sl (e:=(D.int .u16)) (l:=a0.data.l) (sz:=1) (fz:=0) (m:=a0.data.l.map fun z=>V.d ((D.int .u16) z)) (by simp only[go_sem,List.map_append,List.map_cons,List.map_nil,hm12,zag,hm17]) rfl (by simp)) (RdL.cons (Rd.sl (e:=(D.int .i64)) (l:=[]) (sz:=4) (fz:=0) (m:=[]) (by simp only[go_sem]) rfl (by simp)) (RdL.cons Rd.d (RdL.cons (Rd.sl (e:=(D.int .i64)) (l:=a0.kids.l) (sz:=1) (fz:=0) (m:=a0.kids.l.map fun z=>V.d ((D.int .i64) z)) (by simp only[go_sem,List.map_append,List.map_cons,List.map_nil,hm12,zag,hm17]) rfl (by simp)) (RdL.cons Rd.d (RdL.cons Rd.d (RdL.cons Rd.d (RdL.cons Rd.d (RdL.cons Rd.d (RdL.cons Rd.d RdL.nil))))))))))))))))) rfl
 have hz14:=hz13;rw[if_neg hz14]at h
 obtain⟨hm18,h⟩:=zbh h
 refine zbY (l:=[]) (fz:=0) (new:=a0.attrs.l.map fun z=>V.d (zaG z)) (by simp only[go_sem,List.map_append,List.map_cons,List.map_nil,hm12,zag]) (by simp only[go_sem,zaT,zaX,zaU,zaI,zbP]) (by simpa using hz14) (by rw[←zbP];exact zbS (e:=zaG) (fun _=>rfl) (fun _=>rfl) _) (by simp) (by simpa using hm18) ?_
 try rw[←List.map_append]
 try simp only[go_sem,hm12,zag,hm18]
 by_cases hz19:a0.kids.l=[]
 ·rw[if_pos hz19]at h
  refine zcd (by simp only[go_sem,zaT,zaX,zaU,zaI,zbP,List.map_nil,hz19]) (by rfl) ?_
  try simp only[go_sem,hm12,zag,hm18]
  cases h
  refine Reads.ofv (v':=V.ofCells [.d (.int .u8 a0.kind),.d (.str a0.name.space),.d (.str a0.name.prefix_),.d (.str a0.name.local_),.d (.str a0.public_),.d (.str a0.system),.sl 5 0 a0.data.l.length,.sl 11 0 a0.attrs.l.length,.d (.int .i64 a0.parent),.sl 14 0 (0),.d (.int .i64 a0.doc),.d (.int .i64 a0.host),.d (.int .i64 a0.shadow),.d (.int .u8 a0.mode),.d (.bool a0.manual),.d (.bool a0.hTML)]) (by rfl) (Rd.agg (RdL.cons Rd.d (RdL.cons Rd.d (RdL.cons Rd.d (RdL.cons Rd.d (RdL.cons Rd.d (RdL.cons Rd.d (RdL.cons (Rd.sl (e:=(D.int .u16)) (l:=a0.data.l) (sz:=1) (fz:=0) (m:=a0.data.l.map fun z=>V.d ((D.int .u16) z)) (by simp only[go_sem,List.map_append,List.map_cons,List.map_nil,hm12,zag,hm18]) rfl (by simp)) (RdL.cons (Rd.sl (e:=zaG) (l:=a0.attrs.l) (sz:=4) (fz:=0) (m:=a0.attrs.l.map fun z=>V.d (zaG z)) (by simp only[go_sem,List.map_append,List.map_cons,List.map_nil,hm12,zag,hm18]) rfl (by simp)) (RdL.cons Rd.d (RdL.cons (Rd.sl (e:=(D.int .i64)) (l:=[]) (sz:=1) (fz:=0) (m:=[]) (by simp only[go_sem]) rfl (by simp)) (RdL.cons Rd.d (RdL.cons Rd.d (RdL.cons Rd.d (RdL.cons Rd.d (RdL.cons Rd.d (RdL.cons Rd.d RdL.nil))))))))))))))))) rfl
 have hz20:=hz19;rw[if_neg hz20]at h
 obtain⟨hm21,h⟩:=zbh h
 refine zbY (l:=[]) (fz:=0) (new:=a0.kids.l.map fun z=>V.d ((D.int .i64) z)) (by simp only[go_sem,List.map_append,List.map_cons,List.map_nil,hm12,zag,hm18]) (by simp only[go_sem,zaT,zaX,zaU,zaI,zbP]) (by simpa using hz20) (by rw[←zbP];exact zbS (e:=(D.int .i64)) (fun _=>rfl) (fun _=>rfl) _) (by simp) (by simpa using hm21) ?_
 try rw[←List.map_append]
 try simp only[go_sem,hm12,zag,hm18,hm21]
 cases h
 refine Reads.ofv (v':=V.ofCells [.d (.int .u8 a0.kind),.d (.str a0.name.space),.d (.str a0.name.prefix_),.d (.str a0.name.local_),.d (.str a0.public_),.d (.str a0.system),.sl 5 0 a0.data.l.length,.sl 11 0 a0.attrs.l.length,.d (.int .i64 a0.parent),.sl 17 0 a0.kids.l.length,.d (.int .i64 a0.doc),.d (.int .i64 a0.host),.d (.int .i64 a0.shadow),.d (.int .u8 a0.mode),.d (.bool a0.manual),.d (.bool a0.hTML)]) (by rfl) (Rd.agg (RdL.cons Rd.d (RdL.cons Rd.d (RdL.cons Rd.d (RdL.cons Rd.d (RdL.cons Rd.d (RdL.cons Rd.d (RdL.cons (Rd.sl (e:=(D.int .u16)) (l:=a0.data.l) (sz:=1) (fz:=0) (m:=a0.data.l.map fun z=>V.d ((D.int .u16) z)) (by simp only[go_sem,List.map_append,List.map_cons,List.map_nil,hm12,zag,hm18,hm21]) rfl (by simp)) (RdL.cons (Rd.sl (e:=zaG) (l:=a0.attrs.l) (sz:=4) (fz:=0) (m:=a0.attrs.l.map fun z=>V.d (zaG z)) (by simp only[go_sem,List.map_append,List.map_cons,List.map_nil,hm12,zag,hm18,hm21]) rfl (by simp)) (RdL.cons Rd.d (RdL.cons (Rd.sl (e:=(D.int .i64)) (l:=a0.kids.l) (sz:=1) (fz:=0) (m:=a0.kids.l.map fun z=>V.d ((D.int .i64) z)) (by simp only[go_sem,List.map_append,List.map_cons,List.map_nil,hm12,zag,hm18,hm21]) rfl (by simp)) (RdL.cons Rd.d (RdL.cons Rd.d (RdL.cons Rd.d (RdL.cons Rd.d (RdL.cons Rd.d (RdL.cons Rd.d RdL.nil))))))))))))))))) rfl
def zfV (a0:Forest) (a1:Sl (Bound)) (a2:Sl (Int)) (x0:Int×List (Int)):St:=⟨(((((((Regs.none.set 1 (.d (.list a1.n (a1.l.map zal)))).set 2 (.d (.list a2.n (a2.l.map (D.int .i64))))).set 3 (.ptr 0 0 0)).set 7 (mb 5 (x0.2.map fun z=>V.d ((D.int .i64) z)))).set 13 (.d (.list a1.n (a1.l.map zal)))).set 14 (.d (.int .i64 (a1.l.length:Int)))).set 15 (.d (.int .i64 x0.1))),(((Heap.at 6).set 0 (some (.els 1 [.d (zad a0)] 0))).set 5 (mbB 1 x0.2.length (x0.2.map fun z=>V.d ((D.int .i64) z))))⟩
def zmT (a0:Forest) (a1:Sl (Bound)) (a2:Sl (Int)):((List (Int)))→Ex×St:=fun r=>(.exit 0,⟨((((Regs.none.set 1 (.d (.list a1.n (a1.l.map zal)))).set 2 (.d (.list a2.n (a2.l.map (D.int .i64))))).set 3 (.ptr 0 0 0)).set 7 (mb 5 (r.map fun z=>V.d ((D.int .i64) z)))),(((Heap.at 6).set 0 (some (.els 1 [.d (zad a0)] 0))).set 5 (mbB 1 r.length (r.map fun z=>V.d ((D.int .i64) z))))⟩)
noncomputable def zcn (a0:Forest) (a1:Sl (Bound)) (a2:Sl (Int)) (x0:Int×List (Int)):Option ((Int×List (Int))⊕((List (Int)))):=
 if(decide (x0.1<(a1.l.length:Int)))=true then
  (rd a1.l x0.1).bind fun y3=>
  if(x0.2.length+1)*8≤AI.roomBytes then
   some (.inl ((IntKind.wrap .i64 (x0.1+1)),(x0.2++[y3.node])))
  else none
 else
  some (.inr x0.2)
theorem zzz (a0:Forest) (a1:Sl (Bound)) (a2:Sl (Int)) (x0:Int×List (Int)) (o:(Int×List (Int))⊕((List (Int)))) (h:zcn a0 a1 a2 x0=some o):Wp prog zrD (zfV a0 a1 a2 x0) (zbH (0,[]) (zfV a0 a1 a2) (zmT a0 a1 a2) o):=by
 unfold zcn at h
 delta zrD zfV
 try simp only[go_sem]
 refine zaj (fun hc1=> ?_) (fun hc2=> ?_)
 ·rw[if_pos hc1]at h
  try simp only[go_sem]
  obtain⟨y3,hy4,h⟩:=bs h
  try simp only[go_sem,zab hy4,zae hy4,zac zal hy4]
  obtain⟨hm5,h⟩:=zbh h
  refine zdw (l:=x0.2.map fun z=>V.d ((D.int .i64) z)) (new:=[V.d (.int .i64 y3.node)]) (sz:=1) (fz:=x0.2.length) (by simp only[go_sem,List.map_append,List.map_cons,List.map_nil,zab hy4,zae hy4,zac zal hy4]) (by intro h;simpa using h) (by simp only[go_sem,zaT,zaX,zaU,zaI,zbP]) (by simp) (by rfl) (by simpa using hm5) ?_
  try simp only[go_sem,zab hy4,zae hy4,zac zal hy4,hm5]
  cases h
  refine⟨rfl,Up.of (N:=6) (N':=19) [(5,15)] rfl rfl (by decide) ?_ ?_⟩
  ·refine zak.set ?_ (zak.set ?_ (zak.set ?_ (zak.set ?_ (zak.set ?_ (zak.set ?_ (zak.set ?_ zak.none))))))
   all_goals (try simp only[go_sem,List.map_append,List.map_cons,List.map_nil,zab hy4,zae hy4,zac zal hy4,hm5])
   all_goals (first|exact VR.d _|exact VR.mb_sl (by(simp;done)) rfl (by simp)|exact VR.ptr' rfl)
  refine zan.set (show zau _ _ (Heap.get _ 15)from ?_) (zan.set (show zau _ _ (Heap.get _ 0)from ?_) (zan.at))
  all_goals (try simp only[go_sem,List.map_append,List.map_cons,List.map_nil,zab hy4,zae hy4,zac zal hy4,hm5])
  all_goals (((repeat' first|exact zau.refl_d|refine zau.mb_els (by simp) ?_|exact VR.d _|exact VRL.nil|exact VRL.refl_d _ _|refine VRL.append ?_ ?_|refine VRL.cons ?_ ?_);done))
 rw[if_neg (ff hc2)]at h
 try simp only[go_sem]
 cases h
 refine⟨rfl,by simp,Up.of (N:=6) (N':=7) [] rfl rfl (by decide) ?_ ?_⟩
 ·refine zak.set ?_ (zak.set ?_ (zak.set ?_ (zak.set ?_ zak.none)))
  all_goals (try simp only[go_sem,List.map_append,List.map_cons,List.map_nil])
  all_goals (first|exact VR.d _|exact VR.mb rfl|exact VR.ptr' rfl)
 refine zan.set (show zau _ _ (Heap.get _ 5)from ?_) (zan.set (show zau _ _ (Heap.get _ 0)from ?_) (zan.at))
 all_goals (try simp only[go_sem,List.map_append,List.map_cons,List.map_nil])
 all_goals (((repeat' first|exact zau.refl_d|refine zau.mb (by simp) ?_|exact VRL.refl_d _ _);done))
def zfW (a0:Forest) (a1:Sl (Bound)) (x1:Int):St:=⟨((((Regs.none.set 3 (.ptr 0 0 0)).set 33 (.d (.list a1.n (a1.l.map zal)))).set 34 (.d (.int .i64 (a1.l.length:Int)))).set 35 (.d (.int .i64 x1))),((Heap.at 17).set 0 (some (.els 1 [.d (zad a0)] 0)))⟩
def zjr (a0:Forest) (a1:Sl (Bound)):((Unit)⊕(Unit))→Ex×St:=fun r=>match r with
 |(.inl r)=>(.exit 2,⟨Regs.none,(Heap.at 17)⟩)
 |(.inr r)=>(.ret,⟨(Regs.none.set 6 (.d (.int .i64 (14)))),(Heap.at 17)⟩)
noncomputable def zcN (a0:Forest) (a1:Sl (Bound)) (x1:Int):Option ((Int)⊕((Unit)⊕(Unit))):=
 if(decide (x1<(a1.l.length:Int)))=true then
  (rd a1.l x1).bind fun y16=>
  if(!(decide (y16.offset<0)))=true then
   (dec (D.int .i64) (pc prog 46 [zad a0,.int .i64 y16.node])).bind fun r20=>
   if(decide (r20<y16.offset))=true then
    some (.inr (.inr ()))
   else
    some (.inl (IntKind.wrap .i64 (x1+1)))
  else
   some (.inr (.inr ()))
 else
  some (.inr (.inl ()))
theorem zzA (a0:Forest) (a1:Sl (Bound)) (x1:Int) (o:(Int)⊕((Unit)⊕(Unit))) (h:zcN a0 a1 x1=some o):Wp prog zki (zfW a0 a1 x1) (zbH (0,[]) (zfW a0 a1) (zjr a0 a1) o):=by
 unfold zcN at h
 delta zki zfW
 try simp only[go_sem]
 refine zaj (fun hc14=> ?_) (fun hc15=> ?_)
 ·rw[if_pos hc14]at h
  try simp only[go_sem]
  obtain⟨y16,hy17,h⟩:=bs h
  try simp only[go_sem,zab hy17,zae hy17,zac zal hy17]
  refine zaa (v:= .ptr 20 0 1) (fun hb28=>by simp only[go_sem,zab hy17,zae hy17,zac zal hy17,hc14,hb28]) ?_
  try simp only[go_sem,zab hy17,zae hy17,zac zal hy17]
  refine zaa (v:= .d (.int .i64 y16.offset)) (fun hb27=>by simp only[go_sem,zab hy17,zae hy17,zac zal hy17,hc14,hb27]) ?_
  try simp only[go_sem,zab hy17,zae hy17,zac zal hy17]
  refine zaa (v:= .d (zad a0)) (fun hb26=>by simp only[go_sem,zab hy17,zae hy17,zac zal hy17,hc14,hb26]) ?_
  try simp only[go_sem,zab hy17,zae hy17,zac zal hy17]
  refine zaa (v:= .ptr 20 0 0) (fun hb25=>by simp only[go_sem,zab hy17,zae hy17,zac zal hy17,hc14,hb25]) ?_
  try simp only[go_sem,zab hy17,zae hy17,zac zal hy17]
  refine zaa (v:= .d (.int .i64 y16.node)) (fun hb24=>by simp only[go_sem,zab hy17,zae hy17,zac zal hy17,hc14,hb24]) ?_
  try simp only[go_sem,zab hy17,zae hy17,zac zal hy17]
  refine zaD (fun hc18=> ?_) (fun hc19=> ?_)
  ·rw[if_pos (show(!(decide (y16.offset<0)))=true by(rw[hc18];rfl))]at h
   try simp only[go_sem,zab hy17,zae hy17,zac zal hy17,hc18]
   obtain⟨r20,hr21,h⟩:=bs h
   replace hr21:=zap hr21
   refine zar hr21 ?_
   try simp only[go_sem,zab hy17,zae hy17,zac zal hy17]
   refine zaj (fun hc22=> ?_) (fun hc23=> ?_)
   ·rw[if_pos hc22]at h
    try simp only[go_sem,zab hy17,zae hy17,zac zal hy17]
    cases h
    refine⟨rfl,by simp,Up.of (N:=17) (N':=35) [] rfl (by rfl) (by decide) ?_ ?_⟩
    ·refine zak.set ?_ zak.none
     all_goals (try simp only[go_sem,List.map_append,List.map_cons,List.map_nil,zab hy17,zae hy17,zac zal hy17])
     all_goals (exact VR.d _)
    exact zan.at
   rw[if_neg (ff hc23)]at h
   try simp only[go_sem,zab hy17,zae hy17,zac zal hy17]
   cases h
   refine⟨rfl,Up.of (N:=17) (N':=36) [] rfl (by rfl) (by decide) ?_ ?_⟩
   ·refine zak.set ?_ (zak.set ?_ (zak.set ?_ (zak.set ?_ zak.none)))
    all_goals (try simp only[go_sem,List.map_append,List.map_cons,List.map_nil,zab hy17,zae hy17,zac zal hy17])
    all_goals (first|exact VR.d _|exact VR.ptr' rfl)
   refine zan.set (show zau _ _ (Heap.get _ 0)from ?_) (zan.at)
   all_goals (try simp only[go_sem,List.map_append,List.map_cons,List.map_nil,zab hy17,zae hy17,zac zal hy17])
   all_goals (exact zau.refl_d)
  rw[if_neg (ffn hc19)]at h
  try simp only[go_sem,zab hy17,zae hy17,zac zal hy17,hc19]
  cases h
  refine⟨rfl,by simp,Up.of (N:=17) (N':=35) [] rfl (by rfl) (by decide) ?_ ?_⟩
  ·refine zak.set ?_ zak.none
   all_goals (try simp only[go_sem,List.map_append,List.map_cons,List.map_nil,zab hy17,zae hy17,zac zal hy17])
   all_goals (exact VR.d _)
  exact zan.at
 rw[if_neg (ff hc15)]at h
 try simp only[go_sem]
 cases h
 refine⟨rfl,by simp,Up.of (N:=17) (N':=18) [] rfl (by rfl) (by decide) ?_ ?_⟩
 ·exact zak.none
 exact zan.at
def zfX (a0:Forest) (a1:Sl (Bound)) (x2:Int):St:=⟨((((Regs.none.set 3 (.ptr 0 0 0)).set 33 (.d (.list a1.n (a1.l.map zal)))).set 34 (.d (.int .i64 (a1.l.length:Int)))).set 35 (.d (.int .i64 x2))),((Heap.at 17).set 0 (some (.els 1 [.d (zad a0)] 0)))⟩
def zjs (a0:Forest) (a1:Sl (Bound)):((Unit)⊕(Unit))→Ex×St:=fun r=>match r with
 |(.inl r)=>(.exit 2,⟨Regs.none,(Heap.at 17)⟩)
 |(.inr r)=>(.ret,⟨(Regs.none.set 6 (.d (.int .i64 (14)))),(Heap.at 17)⟩)
noncomputable def zcO (a0:Forest) (a1:Sl (Bound)) (x2:Int):Option ((Int)⊕((Unit)⊕(Unit))):=
 if(decide (x2<(a1.l.length:Int)))=true then
  (rd a1.l x2).bind fun y40=>
  if(!(decide (y40.offset<0)))=true then
   (dec (D.int .i64) (pc prog 46 [zad a0,.int .i64 y40.node])).bind fun r44=>
   if(decide (r44<y40.offset))=true then
    some (.inr (.inr ()))
   else
    some (.inl (IntKind.wrap .i64 (x2+1)))
  else
   some (.inr (.inr ()))
 else
  some (.inr (.inl ()))
theorem zzB (a0:Forest) (a1:Sl (Bound)) (x2:Int) (o:(Int)⊕((Unit)⊕(Unit))) (h:zcO a0 a1 x2=some o):Wp prog zki (zfX a0 a1 x2) (zbH (0,[]) (zfX a0 a1) (zjs a0 a1) o):=by
 unfold zcO at h
 delta zki zfX
 try simp only[go_sem]
 refine zaj (fun hc38=> ?_) (fun hc39=> ?_)
 ·rw[if_pos hc38]at h
  try simp only[go_sem]
  obtain⟨y40,hy41,h⟩:=bs h
  try simp only[go_sem,zab hy41,zae hy41,zac zal hy41]
  refine zaa (v:= .ptr 20 0 1) (fun hb52=>by simp only[go_sem,zab hy41,zae hy41,zac zal hy41,hc38,hb52]) ?_
  try simp only[go_sem,zab hy41,zae hy41,zac zal hy41]
  refine zaa (v:= .d (.int .i64 y40.offset)) (fun hb51=>by simp only[go_sem,zab hy41,zae hy41,zac zal hy41,hc38,hb51]) ?_
  try simp only[go_sem,zab hy41,zae hy41,zac zal hy41]
  refine zaa (v:= .d (zad a0)) (fun hb50=>by simp only[go_sem,zab hy41,zae hy41,zac zal hy41,hc38,hb50]) ?_
  try simp only[go_sem,zab hy41,zae hy41,zac zal hy41]
  refine zaa (v:= .ptr 20 0 0) (fun hb49=>by simp only[go_sem,zab hy41,zae hy41,zac zal hy41,hc38,hb49]) ?_
  try simp only[go_sem,zab hy41,zae hy41,zac zal hy41]
  refine zaa (v:= .d (.int .i64 y40.node)) (fun hb48=>by simp only[go_sem,zab hy41,zae hy41,zac zal hy41,hc38,hb48]) ?_
  try simp only[go_sem,zab hy41,zae hy41,zac zal hy41]
  refine zaD (fun hc42=> ?_) (fun hc43=> ?_)
  ·rw[if_pos (show(!(decide (y40.offset<0)))=true by(rw[hc42];rfl))]at h
   try simp only[go_sem,zab hy41,zae hy41,zac zal hy41,hc42]
   obtain⟨r44,hr45,h⟩:=bs h
   replace hr45:=zap hr45
   refine zar hr45 ?_
   try simp only[go_sem,zab hy41,zae hy41,zac zal hy41]
   refine zaj (fun hc46=> ?_) (fun hc47=> ?_)
   ·rw[if_pos hc46]at h
    try simp only[go_sem,zab hy41,zae hy41,zac zal hy41]
    cases h
    refine⟨rfl,by simp,Up.of (N:=17) (N':=35) [] rfl (by rfl) (by decide) ?_ ?_⟩
    ·refine zak.set ?_ zak.none
     all_goals (try simp only[go_sem,List.map_append,List.map_cons,List.map_nil,zab hy41,zae hy41,zac zal hy41])
     all_goals (exact VR.d _)
    exact zan.at
   rw[if_neg (ff hc47)]at h
   try simp only[go_sem,zab hy41,zae hy41,zac zal hy41]
   cases h
   refine⟨rfl,Up.of (N:=17) (N':=36) [] rfl (by rfl) (by decide) ?_ ?_⟩
   ·refine zak.set ?_ (zak.set ?_ (zak.set ?_ (zak.set ?_ zak.none)))
    all_goals (try simp only[go_sem,List.map_append,List.map_cons,List.map_nil,zab hy41,zae hy41,zac zal hy41])
    all_goals (first|exact VR.d _|exact VR.ptr' rfl)
   refine zan.set (show zau _ _ (Heap.get _ 0)from ?_) (zan.at)
   all_goals (try simp only[go_sem,List.map_append,List.map_cons,List.map_nil,zab hy41,zae hy41,zac zal hy41])
   all_goals (exact zau.refl_d)
  rw[if_neg (ffn hc43)]at h
  try simp only[go_sem,zab hy41,zae hy41,zac zal hy41,hc43]
  cases h
  refine⟨rfl,by simp,Up.of (N:=17) (N':=35) [] rfl (by rfl) (by decide) ?_ ?_⟩
  ·refine zak.set ?_ zak.none
   all_goals (try simp only[go_sem,List.map_append,List.map_cons,List.map_nil,zab hy41,zae hy41,zac zal hy41])
   all_goals (exact VR.d _)
  exact zan.at
 rw[if_neg (ff hc39)]at h
 try simp only[go_sem]
 cases h
 refine⟨rfl,by simp,Up.of (N:=17) (N':=18) [] rfl (by rfl) (by decide) ?_ ?_⟩
 ·exact zak.none
 exact zan.at
noncomputable def zNT (a0:Forest) (a1:Sl (Bound)) (a2:Sl (Int)):Option (Int):=
 (zaO (zcn a0 a1 a2) (0,[])).bind fun r6=>
 if a2.l=[]then
  (dec (D.int .i64) (pc prog 45 [zad a0,.list r6.isEmpty (r6.map (D.int .i64))])).bind fun r10=>
  if(!(r10==0))=true then
   some r10
  else
   (zaO (zcN a0 a1) 0).bind fun r29=>
   match r29 with
   |(.inl q31)=>
    some (0)
   |(.inr q32)=>
    some (14)
 else
  if(r6.length+a2.l.length)*8≤AI.roomBytes then
   (dec (D.int .i64) (pc prog 45 [zad a0,.list false ((r6++a2.l).map (D.int .i64))])).bind fun r34=>
   if(!(r34==0))=true then
    some r34
   else
    (zaO (zcO a0 a1) 0).bind fun r53=>
    match r53 with
    |(.inl q55)=>
     some (0)
    |(.inr q56)=>
     some (14)
  else none
theorem zNU (a0:Forest) (a1:Sl (Bound)) (a2:Sl (Int)) (r:Int) (h:zNT a0 a1 a2=some r):pc prog 116 [zad a0,.list a1.n (a1.l.map zal),.list a2.n (a2.l.map (D.int .i64))]=some ((D.int .i64) r):=by
 unfold zNT at h
 refine zaY (fn:=zKS) rfl rfl ?_
 delta zKS
 try simp only[go_sem]
 obtain⟨r6,hl7,h⟩:=bs h
 refine Wp.loopR zbe (n:=(0,[])) (a:=zrD) rfl (zfV a0 a1 a2) (zmT a0 a1 a2) (zzz a0 a1 a2) hl7 ?_ (by(repeat(first|refine Clo.block ?_|refine Clo.seq zbe rfl ?_));(exact Clo.ret)) ?_
 ·show Up (0,[]) (zfV a0 a1 a2 (0,[])) _
  delta zfV
  refine Up.of (N:=6) (N':=6) [] rfl rfl (by decide) ?_ ?_
  ·refine zak.set ?_ (zak.set ?_ (zak.set ?_ (zak.set ?_ (zak.set ?_ (zak.set ?_ (zak.set ?_ zak.none))))))
   all_goals (try simp only[go_sem,List.map_append,List.map_cons,List.map_nil])
   all_goals (first|exact VR.d _|exact VR.ptr' rfl)
  refine zan.set (show zau _ _ (Heap.get _ 5)from ?_) (zan.set (show zau _ _ (Heap.get _ 0)from ?_) (zan.at))
  all_goals (try simp only[go_sem,List.map_append,List.map_cons,List.map_nil])
  all_goals (((repeat' first|trivial|exact zau.refl_d);done))
 dsimp only[zmT]
 try simp only[go_sem]
 by_cases hz8:a2.l=[]
 ·rw[if_pos hz8]at h
  refine zcd (by simp only[go_sem,zaT,zaX,zaU,zaI,zbP,List.map_nil,hz8]) (by exact zqf) ?_
  try simp only[go_sem]
  obtain⟨r10,hr11,h⟩:=bs h
  replace hr11:=zap hr11
  refine zar hr11 ?_
  try simp only[go_sem]
  refine zaF (fun hc12=> ?_) (fun hc13=> ?_)
  ·rw[if_pos (show(!(r10==0))=true by(rw[hc12];rfl))]at h
   try simp only[go_sem]
   cases h
   rfl
  rw[if_neg (ffn hc13)]at h
  try simp only[go_sem]
  obtain⟨r29,hl30,h⟩:=bs h
  refine Wp.loopR zbe (n:=(0,[])) (a:=zki) rfl (zfW a0 a1) (zjr a0 a1) (zzA a0 a1) hl30 ?_ (by(repeat(first|refine Clo.block ?_|refine Clo.seq zbe rfl ?_));(exact Clo.ret)) ?_
  ·show Up (0,[]) (zfW a0 a1 0) _
   delta zfW
   refine Up.of (N:=17) (N':=17) [] rfl (by(simp only[go_sem];done)) (by decide) ?_ ?_
   ·refine zak.set ?_ (zak.set ?_ (zak.set ?_ (zak.set ?_ zak.none)))
    all_goals (try simp only[go_sem,List.map_append,List.map_cons,List.map_nil])
    all_goals (first|exact VR.d _|exact VR.ptr' rfl)
   refine zan.set (show zau _ _ (Heap.get _ 0)from ?_) (zan.at)
   all_goals (try simp only[go_sem,List.map_append,List.map_cons,List.map_nil])
   all_goals (exact zau.refl_d)
  rcases r29 with(q31|q32)
  ·dsimp only at h
   dsimp only[zjr]
   try simp only[go_sem]
   cases h
   rfl
  dsimp only at h
  dsimp only[zjr]
  try simp only[go_sem]
  cases h
  rfl
 have hz9:=hz8;rw[if_neg hz9]at h
 obtain⟨hm33,h⟩:=zbh h
 refine zdw (l:=r6.map fun z=>V.d ((D.int .i64) z)) (new:=a2.l.map fun z=>V.d ((D.int .i64) z)) (sz:=1) (fz:=r6.length) (by simp only[go_sem,List.map_append,List.map_cons,List.map_nil]) (by intro h;simpa using h) (by simp only[go_sem,zaT,zaX,zaU,zaI,zbP]) (by simpa using hz9) (by rw[←zbP];exact zbS (e:=(D.int .i64)) (fun _=>rfl) (fun _=>rfl) _) (by simpa using hm33) ?_
 try simp only[go_sem,hm33]
 obtain⟨r34,hr35,h⟩:=bs h
 replace hr35:=zap hr35
 refine zar hr35 ?_
 try simp only[go_sem,hm33]
 refine zaF (fun hc36=> ?_) (fun hc37=> ?_)
 ·rw[if_pos (show(!(r34==0))=true by(rw[hc36];rfl))]at h
  try simp only[go_sem,hm33]
  cases h
  rfl
 rw[if_neg (ffn hc37)]at h
 try simp only[go_sem,hm33]
 obtain⟨r53,hl54,h⟩:=bs h
 refine Wp.loopR zbe (n:=(0,[])) (a:=zki) rfl (zfX a0 a1) (zjs a0 a1) (zzB a0 a1) hl54 ?_ (by(repeat(first|refine Clo.block ?_|refine Clo.seq zbe rfl ?_));(exact Clo.ret)) ?_
 ·show Up (0,[]) (zfX a0 a1 0) _
  delta zfX
  refine Up.of (N:=17) (N':=17) [] rfl (by(simp only[go_sem];done)) (by decide) ?_ ?_
  ·refine zak.set ?_ (zak.set ?_ (zak.set ?_ (zak.set ?_ zak.none)))
   all_goals (try simp only[go_sem,List.map_append,List.map_cons,List.map_nil,hm33])
   all_goals (first|exact VR.d _|exact VR.ptr' rfl)
  refine zan.set (show zau _ _ (Heap.get _ 0)from ?_) (zan.at)
  all_goals (try simp only[go_sem,List.map_append,List.map_cons,List.map_nil,hm33])
  all_goals (exact zau.refl_d)
 rcases r53 with(q55|q56)
 ·dsimp only at h
  dsimp only[zjs]
  try simp only[go_sem,hm33]
  cases h
  rfl
 dsimp only at h
 dsimp only[zjs]
 try simp only[go_sem,hm33]
 cases h
 rfl
noncomputable def zNV (a0:Forest) (a1:Int) (a2:Int):Option (Bool):=
 (dec (D.int .i64) (pc prog 125 [zad a0,.int .i64 a1])).bind fun r1=>
 (dec (D.int .i64) (pc prog 125 [zad a0,.int .i64 a2])).bind fun r3=>
 some (r1==r3)
theorem zNW (a0:Forest) (a1:Int) (a2:Int) (r:Bool) (h:zNV a0 a1 a2=some r):pc prog 117 [zad a0,.int .i64 a1,.int .i64 a2]=some (D.bool r):=by
 unfold zNV at h
 refine zaY (fn:=zKT) rfl rfl ?_
 delta zKT
 try simp only[go_sem]
 obtain⟨r1,hr2,h⟩:=bs h
 replace hr2:=zap hr2
 refine zar hr2 ?_
 try simp only[go_sem]
 obtain⟨r3,hr4,h⟩:=bs h
 replace hr4:=zap hr4
 refine zar hr4 ?_
 try simp only[go_sem]
 cases h
 rfl
def zfY (a1:Bound) (a2:Bound) (r5:Sl (Bound)) (x0:Int):St:=⟨(((((Regs.none.set 4 (.ptr 1 0 0)).set 5 (.ptr 2 0 0)).set 17 (.d (.list r5.n (r5.l.map zal)))).set 18 (.d (.int .i64 (r5.l.length:Int)))).set 19 (.d (.int .i64 x0))),(((Heap.at 15).set 1 (some (.els 2 [.d (zal a1)] 0))).set 2 (some (.els 2 [.d (zal a2)] 0)))⟩
def zjt (a1:Bound) (a2:Bound) (r5:Sl (Bound)):((Unit)⊕(Int))→Ex×St:=fun r=>match r with
 |(.inl r)=>(.exit 0,⟨Regs.none,(Heap.at 15)⟩)
 |(.inr r)=>(.ret,⟨(Regs.none.set 6 (.d (.int .i64 r))),(Heap.at 15)⟩)
noncomputable def zco (a1:Bound) (a2:Bound) (r5:Sl (Bound)) (x0:Int):Option ((Int)⊕((Unit)⊕(Int))):=
 if(decide (x0<(r5.l.length:Int)))=true then
  (rd r5.l x0).bind fun y9=>
  if(decide (y9=a1))=true then
   some (.inr (.inr (-1)))
  else
   if(decide (y9=a2))=true then
    some (.inr (.inr 1))
   else
    some (.inl (IntKind.wrap .i64 (x0+1)))
 else
  some (.inr (.inl ()))
theorem zzC (a1:Bound) (a2:Bound) (r5:Sl (Bound)) (x0:Int) (o:(Int)⊕((Unit)⊕(Int))) (h:zco a1 a2 r5 x0=some o):Wp prog zrE (zfY a1 a2 r5 x0) (zbH (0,[]) (zfY a1 a2 r5) (zjt a1 a2 r5) o):=by
 unfold zco at h
 delta zrE zfY
 try simp only[go_sem]
 refine zaj (fun hc7=> ?_) (fun hc8=> ?_)
 ·rw[if_pos hc7]at h
  try simp only[go_sem]
  obtain⟨y9,hy10,h⟩:=bs h
  try simp only[go_sem,zab hy10,zae hy10,zac zal hy10]
  refine zaj (fun hc11=> ?_) (fun hc12=> ?_)
  ·rw[if_pos hc11]at h
   try simp only[go_sem,zab hy10,zae hy10,zac zal hy10]
   cases h
   exact⟨rfl,by simp,Up.of (N:=15) (N':=24) [] rfl rfl (by decide) (.set (.d _) zak.none) zan.at⟩
  rw[if_neg (ff hc12)]at h
  try simp only[go_sem,zab hy10,zae hy10,zac zal hy10]
  refine zaj (fun hc13=> ?_) (fun hc14=> ?_)
  ·rw[if_pos hc13]at h
   try simp only[go_sem,zab hy10,zae hy10,zac zal hy10]
   cases h
   exact⟨rfl,by simp,Up.of (N:=15) (N':=27) [] rfl rfl (by decide) (.set (.d _) zak.none) zan.at⟩
  rw[if_neg (ff hc14)]at h
  try simp only[go_sem,zab hy10,zae hy10,zac zal hy10]
  cases h
  exact⟨rfl,Up.of (N:=15) (N':=28) [] rfl rfl (by decide) (.set (.d _) (.set (.d _) (.set (.d _) (.set (.ptr' rfl) (.set (.ptr' rfl) zak.none))))) (.set zau.refl_d (.set zau.refl_d zan.at))⟩
 rw[if_neg (ff hc8)]at h
 try simp only[go_sem]
 cases h
 exact⟨rfl,by simp,Up.of (N:=15) (N':=16) [] rfl rfl (by decide) zak.none zan.at⟩
noncomputable def zNX (a0:Forest) (a1:Bound) (a2:Bound):Option (Int):=
 if(decide (a1=a2))=true then
  some (0)
 else
  (dec (D.int .i64) (pc prog 125 [zad a0,.int .i64 a1.node])).bind fun r3=>
  (dec (eSl zal) (pc prog 120 [zad a0,.int .i64 r3])).bind fun r5=>
  (zaO (zco a1 a2 r5) 0).bind fun r15=>
  match r15 with
  |(.inl q17)=>
   some (0)
  |(.inr q18)=>
   some q18
theorem zNY (a0:Forest) (a1:Bound) (a2:Bound) (r:Int) (h:zNX a0 a1 a2=some r):pc prog 118 [zad a0,zal a1,zal a2]=some ((D.int .i64) r):=by
 unfold zNX at h
 refine zaY (fn:=zKU) rfl rfl ?_
 delta zKU
 try simp only[go_sem]
 refine zaj (fun hc1=> ?_) (fun hc2=> ?_)
 ·rw[if_pos hc1]at h
  try simp only[go_sem]
  cases h
  rfl
 rw[if_neg (ff hc2)]at h
 try simp only[go_sem]
 obtain⟨r3,hr4,h⟩:=bs h
 replace hr4:=zap hr4
 refine zar hr4 ?_
 try simp only[go_sem]
 obtain⟨r5,hr6,h⟩:=bs h
 replace hr6:=zap hr6
 refine zar hr6 ?_
 try simp only[go_sem]
 obtain⟨r15,hl16,h⟩:=bs h
 refine Wp.loopR zbe (n:=(0,[])) (a:=zrE) rfl (zfY a1 a2 r5) (zjt a1 a2 r5) (zzC a1 a2 r5) hl16 ?_ (by(repeat(first|refine Clo.block ?_|refine Clo.seq zbe rfl ?_));(exact Clo.ret)) ?_
 ·show Up (0,[]) (zfY a1 a2 r5 0) _
  delta zfY
  exact Up.of (N:=15) (N':=15) [] rfl rfl (by decide) (.set (.d _) (.set (.d _) (.set (.d _) (.set (.ptr' rfl) (.set (.ptr' rfl) zak.none))))) (.set zau.refl_d (.set zau.refl_d zan.at))
 rcases r15 with(q17|q18)
 ·dsimp only at h
  dsimp only[zjt]
  try simp only[go_sem]
  cases h
  rfl
 dsimp only at h
 dsimp only[zjt]
 try simp only[go_sem]
 cases h
 rfl
noncomputable def zNZ (a0:Forest) (a1:Int):Option (Int):=
 (dec D.bool (pc prog 28 [zad a0])).bind fun r1=>
 if(!r1)=true then
  some (5)
 else
  (dec (eT2 zag D.bool) (pc prog 31 [zad a0,.int .i64 a1])).bind fun r5=>
  if(!r5.2)=true then
   some (2)
  else
   some (0)
theorem zOa (a0:Forest) (a1:Int) (r:Int) (h:zNZ a0 a1=some r):pc prog 119 [zad a0,.int .i64 a1]=some ((D.int .i64) r):=by
 unfold zNZ at h
 refine zaY (fn:=zKV) rfl rfl ?_
 delta zKV
 try simp only[go_sem]
 obtain⟨r1,hr2,h⟩:=bs h
 replace hr2:=zap hr2
 refine zar hr2 ?_
 try simp only[go_sem]
 refine zaF (fun hc3=> ?_) (fun hc4=> ?_)
 ·rw[if_pos (show(!r1)=true by(rw[hc3];rfl))]at h
  try simp only[go_sem]
  cases h
  rfl
 rw[if_neg (ffn hc4)]at h
 try simp only[go_sem]
 obtain⟨r5,hr6,h⟩:=bs h
 replace hr6:=zap hr6
 refine zar hr6 ?_
 try simp only[go_sem]
 refine zaF (fun hc7=> ?_) (fun hc8=> ?_)
 ·rw[if_pos (show(!r5.2)=true by(rw[hc7];rfl))]at h
  try simp only[go_sem]
  cases h
  rfl
 rw[if_neg (ffn hc8)]at h
 try simp only[go_sem]
 cases h
 rfl
def zfZ (a0:Forest) (a1:Int) (r1:Node×Bool) (x0:List (Bound)×Int):St:=⟨(((((Regs.none.set 1 (.d (.int .i64 a1))).set 2 (.ptr 0 0 0)).set 5 (.ptr 8 0 0)).set 7 (.sl 13 0 x0.1.length)).set 8 (.d (.int .i64 x0.2))),((((Heap.at 16).set 0 (some (.els 1 [.d (zad a0)] 0))).set 8 (some (.els 16 [.d (zag r1.1)] 0))).set 13 (some (.els 2 (x0.1.map fun z=>V.d (zal z)) x0.1.length)))⟩
def zmU (a0:Forest) (a1:Int) (r1:Node×Bool):((List (Bound)))→Ex×St:=fun r=>(.exit 0,⟨(Regs.none.set 7 (.sl 15 0 r.length)),((Heap.at 16).set 15 (some (.els 2 (r.map fun z=>V.d (zal z)) r.length)))⟩)
noncomputable def zcP (a0:Forest) (a1:Int) (r1:Node×Bool) (x0:List (Bound)×Int):Option ((List (Bound)×Int)⊕((List (Bound)))):=
 (dec (D.int .i64) (pc prog 46 [zad a0,.int .i64 a1])).bind fun r3=>
 if(decide (x0.2≤r3))=true then
  (dec D.bool (pc prog 115 [.int .u8 r1.1.kind])).bind fun r7=>
  if(!r7)=true then
   (rd r1.1.kids.l (IntKind.wrap .i64 (x0.2-1))).bind fun y11=>
   (dec (eSl zal) (pc prog 120 [zad a0,.int .i64 y11])).bind fun r13=>
   if r13.l=[]then
    if(x0.1.length+1)*16≤AI.roomBytes then
     some (.inl ((x0.1++[(⟨a1,x0.2⟩:Bound)]),(IntKind.wrap .i64 (x0.2+1))))
    else none
   else
    if(x0.1.length+r13.l.length)*16≤AI.roomBytes then
     if((x0.1++r13.l).length+1)*16≤AI.roomBytes then
      some (.inl (((x0.1++r13.l)++[(⟨a1,x0.2⟩:Bound)]),(IntKind.wrap .i64 (x0.2+1))))
     else none
    else none
  else
   if(x0.1.length+1)*16≤AI.roomBytes then
    some (.inl ((x0.1++[(⟨a1,x0.2⟩:Bound)]),(IntKind.wrap .i64 (x0.2+1))))
   else none
 else
  some (.inr x0.1)
theorem zzD (a0:Forest) (a1:Int) (r1:Node×Bool) (x0:List (Bound)×Int) (o:(List (Bound)×Int)⊕((List (Bound)))) (h:zcP a0 a1 r1 x0=some o):Wp prog zrF (zfZ a0 a1 r1 x0) (zbH (0,[]) (zfZ a0 a1 r1) (zmU a0 a1 r1) o):=by
 unfold zcP at h
 delta zrF zfZ
 try simp only[go_sem]
 obtain⟨r3,hr4,h⟩:=bs h
 replace hr4:=zap hr4
 refine zar hr4 ?_
 try simp only[go_sem]
 refine zaj (fun hc5=> ?_) (fun hc6=> ?_)
 ·rw[if_pos hc5]at h
  try simp only[go_sem]
  obtain⟨r7,hr8,h⟩:=bs h
  replace hr8:=zap hr8
  refine zar hr8 ?_
  try simp only[go_sem]
  refine zaF (fun hc9=> ?_) (fun hc10=> ?_)
  ·rw[if_pos (show(!r7)=true by(rw[hc9];rfl))]at h
   try simp only[go_sem]
   obtain⟨y11,hy12,h⟩:=bs h
   try simp only[go_sem,zab hy12,zae hy12,zac (D.int .i64) hy12]
   obtain⟨r13,hr14,h⟩:=bs h
   replace hr14:=zap hr14
   refine zar hr14 ?_
   try simp only[go_sem,zab hy12,zae hy12,zac (D.int .i64) hy12]
   by_cases hz15:r13.l=[]
   ·rw[if_pos hz15]at h
    refine zcd (by simp only[go_sem,zaT,zaX,zaU,zaI,zbP,List.map_nil,hz15]) (by rfl) ?_
    try simp only[go_sem,zab hy12,zae hy12,zac (D.int .i64) hy12]
    obtain⟨hm17,h⟩:=zbh h
    refine zbY (l:=x0.1.map fun z=>V.d (zal z)) (fz:=x0.1.length) (new:=[V.d (.agg [.int .i64 a1,.int .i64 x0.2])]) (by simp only[go_sem,List.map_append,List.map_cons,List.map_nil,zab hy12,zae hy12,zac (D.int .i64) hy12]) (by simp only[go_sem,zaT,zaX,zaU,zaI,zbP]) (by simp) (by rfl) (by simp) (by simpa using hm17) ?_
    try simp only[go_sem,zab hy12,zae hy12,zac (D.int .i64) hy12,hm17]
    cases h
    exact⟨rfl,Up.of (N:=16) (N':=46) [(13,41)] rfl rfl (by decide) (.set (.d _) (.set (.sl'' rfl (by(simp;done))) (.set (.ptr' rfl) (.set (.ptr' rfl) (.set (.d _) zak.none))))) (.set (zau.arr (e:=zal) (l:=(x0.1++[(⟨a1,x0.2⟩:Bound)])) (by(simp[zad,zbE,zag,zaL,zal,zdS,zbp,zaG,zay,zah];done)) (by simp)) (.set zau.refl_d (.set zau.refl_d zan.at)))⟩
   have hz16:=hz15;rw[if_neg hz16]at h
   obtain⟨hm18,h⟩:=zbh h
   refine zbY (l:=x0.1.map fun z=>V.d (zal z)) (fz:=x0.1.length) (new:=r13.l.map fun z=>V.d (zal z)) (by simp only[go_sem,List.map_append,List.map_cons,List.map_nil,zab hy12,zae hy12,zac (D.int .i64) hy12]) (by simp only[go_sem,zaT,zaX,zaU,zaI,zbP]) (by simpa using hz16) (by rw[←zbP];exact zbS (e:=zal) (fun _=>rfl) (fun _=>rfl) _) (by simp) (by simpa using hm18) ?_
   try rw[←List.map_append]
   try simp only[go_sem,zab hy12,zae hy12,zac (D.int .i64) hy12,hm18]
   obtain⟨hm19,h⟩:=zbh h
   refine zbY (l:=(x0.1++r13.l).map fun z=>V.d (zal z)) (fz:=x0.1.length) (new:=[V.d (.agg [.int .i64 a1,.int .i64 x0.2])]) (by simp only[go_sem,List.map_append,List.map_cons,List.map_nil,zab hy12,zae hy12,zac (D.int .i64) hy12,hm18]) (by simp only[go_sem,zaT,zaX,zaU,zaI,zbP]) (by simp) (by rfl) (by simp) (by simpa using hm19) ?_
   try simp only[go_sem,zab hy12,zae hy12,zac (D.int .i64) hy12,hm18,hm19]
   cases h
   exact⟨rfl,Up.of (N:=16) (N':=46) [(13,41)] rfl rfl (by decide) (.set (.d _) (.set (.sl'' rfl (by(simp;done))) (.set (.ptr' rfl) (.set (.ptr' rfl) (.set (.d _) zak.none))))) (.set (zau.arr (e:=zal) (l:=((x0.1++r13.l)++[(⟨a1,x0.2⟩:Bound)])) (by(simp[zad,zbE,zag,zaL,zal,zdS,zbp,zaG,zay,zah];done)) (by simp)) (.set zau.refl_d (.set zau.refl_d zan.at)))⟩
  rw[if_neg (ffn hc10)]at h
  try simp only[go_sem]
  obtain⟨hm20,h⟩:=zbh h
  refine zbY (l:=x0.1.map fun z=>V.d (zal z)) (fz:=x0.1.length) (new:=[V.d (.agg [.int .i64 a1,.int .i64 x0.2])]) (by simp only[go_sem,List.map_append,List.map_cons,List.map_nil]) (by simp only[go_sem,zaT,zaX,zaU,zaI,zbP]) (by simp) (by rfl) (by simp) (by simpa using hm20) ?_
  try simp only[go_sem,hm20]
  cases h
  exact⟨rfl,Up.of (N:=16) (N':=35) [(13,30)] rfl rfl (by decide) (.set (.d _) (.set (.sl'' rfl (by(simp;done))) (.set (.ptr' rfl) (.set (.ptr' rfl) (.set (.d _) zak.none))))) (.set (zau.arr (e:=zal) (l:=(x0.1++[(⟨a1,x0.2⟩:Bound)])) (by(simp[zad,zbE,zag,zaL,zal,zdS,zbp,zaG,zay,zah];done)) (by simp)) (.set zau.refl_d (.set zau.refl_d zan.at)))⟩
 rw[if_neg (ff hc6)]at h
 try simp only[go_sem]
 cases h
 exact⟨rfl,by simp,Up.of (N:=16) (N':=21) [(13,15),(15,13)] rfl rfl (by decide) (.set (.sl'' rfl (by rfl)) zak.none) (.set (zau.arr (e:=zal) (l:=x0.1) (by rfl) (by exact Nat.le_refl _)) zan.at)⟩
noncomputable def zOb (a0:Forest) (a1:Int):Option (Sl (Bound)):=
 (dec (eT2 zag D.bool) (pc prog 31 [zad a0,.int .i64 a1])).bind fun r1=>
 (zaO (zcP a0 a1 r1) ([(⟨a1,0⟩:Bound)],1)).bind fun r21=>
 some (⟨false,r21⟩)
theorem zOc (a0:Forest) (a1:Int) (r:Sl (Bound)) (h:zOb a0 a1=some r):pc prog 120 [zad a0,.int .i64 a1]=some ((eSl zal) r):=by
 unfold zOb at h
 refine zaY (fn:=zKW) rfl rfl ?_
 delta zKW
 try simp only[go_sem]
 obtain⟨r1,hr2,h⟩:=bs h
 replace hr2:=zap hr2
 refine zar hr2 ?_
 try simp only[go_sem]
 obtain⟨r21,hl22,h⟩:=bs h
 refine Wp.loopR zbe (n:=(0,[])) (a:=zrF) rfl (zfZ a0 a1 r1) (zmU a0 a1 r1) (zzD a0 a1 r1) hl22 ?_ (by(repeat(first|refine Clo.block ?_|refine Clo.seq zbe rfl ?_));(exact Clo.ret)) ?_
 ·show Up (0,[]) (zfZ a0 a1 r1 ([(⟨a1,0⟩:Bound)],1)) _
  delta zfZ
  refine Up.of (N:=16) (N':=16) [] rfl rfl (by decide) ?_ ?_
  ·refine zak.set ?_ (zak.set ?_ (zak.set ?_ (zak.set ?_ (zak.set ?_ zak.none))))
   all_goals (try simp only[go_sem,List.map_append,List.map_cons,List.map_nil])
   all_goals (first|exact VR.d _|exact VR.ptr' rfl|exact VR.sl'' rfl (by simp))
  refine zan.set (show zau _ _ (Heap.get _ 13)from ?_) (zan.set (show zau _ _ (Heap.get _ 8)from ?_) (zan.set (show zau _ _ (Heap.get _ 0)from ?_) (zan.at)))
  all_goals (try simp only[go_sem,List.map_append,List.map_cons,List.map_nil])
  all_goals (((repeat' first|exact zau.refl_d|refine zau.els (by simp) ?_|exact VR.d _|exact VRL.nil|refine VRL.cons ?_ ?_);done))
 dsimp only[zmU]
 try simp only[go_sem]
 cases h
 refine Reads.ofv (v':= .sl 15 0 r21.length) (by rfl) (Rd.sl (e:=zal) (l:=r21) (sz:=2) (fz:=r21.length) (m:=r21.map fun z=>V.d (zal z)) (by simp only[go_sem,List.map_append,List.map_cons,List.map_nil]) rfl (by simp)) rfl
def zga (a0:Node) (a1:Node) (x0:Int):St:=⟨((((Regs.none.set 2 (.ptr 0 0 0)).set 3 (.ptr 1 0 0)).set 31 (.d (.int .i64 (a0.attrs.l.length:Int)))).set 32 (.d (.int .i64 x0))),(((Heap.at 30).set 0 (some (.els 16 [.d (zag a0)] 0))).set 1 (some (.els 16 [.d (zag a1)] 0)))⟩
def zju (a0:Node) (a1:Node):((Unit)⊕(Unit))→Ex×St:=fun r=>match r with
 |(.inl r)=>(.exit 0,⟨((Regs.none.set 2 (.ptr 0 0 0)).set 3 (.ptr 1 0 0)),(((Heap.at 30).set 0 (some (.els 16 [.d (zag a0)] 0))).set 1 (some (.els 16 [.d (zag a1)] 0)))⟩)
 |(.inr r)=>(.ret,⟨(Regs.none.set 4 (.d (.bool false))),(Heap.at 30)⟩)
noncomputable def zcQ (a0:Node) (a1:Node) (x0:Int):Option ((Int)⊕((Unit)⊕(Unit))):=
 if(decide (x0<(a0.attrs.l.length:Int)))=true then
  (rd a0.attrs.l x0).bind fun y19=>
  (rd a1.attrs.l x0).bind fun y21=>
  if(!(decide (y19=y21)))=true then
   some (.inr (.inr ()))
  else
   some (.inl (IntKind.wrap .i64 (x0+1)))
 else
  some (.inr (.inl ()))
theorem zzE (a0:Node) (a1:Node) (x0:Int) (o:(Int)⊕((Unit)⊕(Unit))) (h:zcQ a0 a1 x0=some o):Wp prog zrG (zga a0 a1 x0) (zbH (0,[]) (zga a0 a1) (zju a0 a1) o):=by
 unfold zcQ at h
 delta zrG zga
 try simp only[go_sem]
 refine zaj (fun hc17=> ?_) (fun hc18=> ?_)
 ·rw[if_pos hc17]at h
  try simp only[go_sem]
  obtain⟨y19,hy20,h⟩:=bs h
  try simp only[go_sem,zab hy20,zae hy20,zac zaG hy20]
  obtain⟨y21,hy22,h⟩:=bs h
  try simp only[go_sem,zab hy20,zae hy20,zac zaG hy20,zab hy22,zae hy22,zac zaG hy22]
  refine zaF (fun hc23=> ?_) (fun hc24=> ?_)
  ·rw[if_pos (show(!(decide (y19=y21)))=true by(rw[hc23];rfl))]at h
   try simp only[go_sem,zab hy20,zae hy20,zac zaG hy20,zab hy22,zae hy22,zac zaG hy22]
   cases h
   exact⟨rfl,by simp,Up.of (N:=30) (N':=45) [] rfl rfl (by decide) (.set (.d _) zak.none) zan.at⟩
  rw[if_neg (ffn hc24)]at h
  try simp only[go_sem,zab hy20,zae hy20,zac zaG hy20,zab hy22,zae hy22,zac zaG hy22]
  cases h
  exact⟨rfl,Up.of (N:=30) (N':=46) [] rfl rfl (by decide) (.set (.d _) (.set (.d _) (.set (.ptr' rfl) (.set (.ptr' rfl) zak.none)))) (.set zau.refl_d (.set zau.refl_d zan.at))⟩
 rw[if_neg (ff hc18)]at h
 try simp only[go_sem]
 cases h
 exact⟨rfl,by simp,Up.of (N:=30) (N':=31) [] rfl rfl (by decide) (.set (.ptr' rfl) (.set (.ptr' rfl) zak.none)) (.set zau.refl_d (.set zau.refl_d zan.at))⟩
noncomputable def zOd (a0:Node) (a1:Node):Option (Bool):=
 (if((a0.attrs.l.length:Int)==(a1.attrs.l.length:Int))=true then
  (dec D.bool (pc prog 165 [.list a0.data.n (a0.data.l.map (D.int .u16)),.list a1.data.n (a1.data.l.map (D.int .u16))])).bind fun r3=>
  if r3=true then
   (dec D.bool (pc prog 166 [.list a0.kids.n (a0.kids.l.map (D.int .i64)),.list a1.kids.n (a1.kids.l.map (D.int .i64))])).bind fun r7=>
   some (!r7)
  else
   some true
 else
  some true:Option ((Bool))).bind fun r13=>
 if r13=true then
  some false
 else
  (zaO (zcQ a0 a1) 0).bind fun r25=>
  match r25 with
  |(.inl q27)=>
   if(bif (bif (bif (bif (bif (!(a0.kind==a1.kind))then true else(!(decide (a0.name=a1.name))))then true else(!(a0.public_==a1.public_)))then true else(!(a0.system==a1.system)))then true else(!(a0.parent==a1.parent)))then true else(!(a0.doc==a1.doc)))=true then
    some false
   else
    some (bif (bif (bif (bif (a0.host==a1.host)then(a0.shadow==a1.shadow)else false)then(a0.mode==a1.mode)else false)then(a0.manual==a1.manual)else false)then(a0.hTML==a1.hTML)else false)
  |(.inr q75)=>
   some false
theorem zOe (a0:Node) (a1:Node) (r:Bool) (h:zOd a0 a1=some r):pc prog 121 [zag a0,zag a1]=some (D.bool r):=by
 unfold zOd at h
 refine zaY (fn:=zKX) rfl rfl ?_
 delta zKX
 try simp only[go_sem]
 refine zaa (v:= .ptr 0 0 6) (fun hb79=>by simp only[go_sem,hb79]) ?_
 try simp only[go_sem]
 refine zaa (v:= .d (.list a0.data.n (a0.data.l.map (D.int .u16)))) (fun hb78=>by simp only[go_sem,hb78]) ?_
 try simp only[go_sem]
 refine zaa (v:= .ptr 1 0 6) (fun hb77=>by simp only[go_sem,hb77]) ?_
 try simp only[go_sem]
 refine zaa (v:= .d (.list a1.data.n (a1.data.l.map (D.int .u16)))) (fun hb76=>by simp only[go_sem,hb76]) ?_
 try simp only[go_sem]
 obtain⟨r13,hl14,h⟩:=bs h
 refine zcb.cut (n:=(0,[])) .normal ⟨(((Regs.none.set 2 (.ptr 0 0 0)).set 3 (.ptr 1 0 0)).set 28 (.d (.bool r13))),(((Heap.at 26).set 0 (some (.els 16 [.d (zag a0)] 0))).set 1 (some (.els 16 [.d (zag a1)] 0)))⟩ ?_ (by(repeat(refine Clo.seq zbe rfl ?_));(exact Clo.ret)) ?_
 ·replace h:=hl14
  refine zaH (fun hc1=> ?_) (fun hc2=> ?_)
  ·rw[if_pos hc1]at h
   try simp only[go_sem,hc1]
   obtain⟨r3,hr4,h⟩:=bs h
   replace hr4:=zap hr4
   refine zar hr4 ?_
   try simp only[go_sem]
   refine zaa (v:= .ptr 0 0 9) (fun hb12=>by simp only[go_sem,hc1,hb12]) ?_
   try simp only[go_sem]
   refine zaa (v:= .d (.list a0.kids.n (a0.kids.l.map (D.int .i64)))) (fun hb11=>by simp only[go_sem,hc1,hb11]) ?_
   try simp only[go_sem]
   refine zaa (v:= .ptr 1 0 9) (fun hb10=>by simp only[go_sem,hc1,hb10]) ?_
   try simp only[go_sem]
   refine zaa (v:= .d (.list a1.kids.n (a1.kids.l.map (D.int .i64)))) (fun hb9=>by simp only[go_sem,hc1,hb9]) ?_
   try simp only[go_sem]
   refine zaH (fun hc5=> ?_) (fun hc6=> ?_)
   ·rw[if_pos hc5]at h
    try simp only[go_sem,hc5]
    obtain⟨r7,hr8,h⟩:=bs h
    replace hr8:=zap hr8
    refine zar hr8 ?_
    try simp only[go_sem]
    cases h
    exact⟨rfl,Up.of (N:=26) (N':=26) [] rfl rfl (by decide) (.set (.d _) (.set (.ptr' rfl) (.set (.ptr' rfl) zak.none))) (.set zau.refl_d (.set zau.refl_d zan.at))⟩
   rw[if_neg (ff hc6)]at h
   try simp only[go_sem,hc6]
   cases h
   exact⟨rfl,Up.of (N:=26) (N':=26) [] rfl rfl (by decide) (.set (.d _) (.set (.ptr' rfl) (.set (.ptr' rfl) zak.none))) (.set zau.refl_d (.set zau.refl_d zan.at))⟩
  rw[if_neg (ff hc2)]at h
  try simp only[go_sem,hc2]
  cases h
  exact⟨rfl,Up.of (N:=26) (N':=26) [] rfl rfl (by decide) (.set (.d _) (.set (.ptr' rfl) (.set (.ptr' rfl) zak.none))) (.set zau.refl_d (.set zau.refl_d zan.at))⟩
 try simp only[go_sem]
 refine zaj (fun hc15=> ?_) (fun hc16=> ?_)
 ·rw[if_pos hc15]at h
  try simp only[go_sem]
  cases h
  rfl
 rw[if_neg (ff hc16)]at h
 try simp only[go_sem]
 obtain⟨r25,hl26,h⟩:=bs h
 refine Wp.loopR zbe (n:=(0,[])) (a:=zrG) rfl (zga a0 a1) (zju a0 a1) (zzE a0 a1) hl26 ?_ (by(repeat(first|refine Clo.block ?_|refine Clo.seq zbe rfl ?_));(exact Clo.ret)) ?_
 ·show Up (0,[]) (zga a0 a1 0) _
  delta zga
  exact Up.of (N:=30) (N':=30) [] rfl rfl (by decide) (.set (.d _) (.set (.d _) (.set (.ptr' rfl) (.set (.ptr' rfl) zak.none)))) (.set zau.refl_d (.set zau.refl_d zan.at))
 rcases r25 with(q27|q75)
 ·dsimp only at h
  dsimp only[zju]
  try simp only[go_sem]
  refine zaa (v:= .ptr 0 0 1) (fun hb74=>by simp only[go_sem,hc16,hb74]) ?_
  try simp only[go_sem]
  refine zaa (v:= .d (zbE a0.name)) (fun hb73=>by simp only[go_sem,hc16,hb73]) ?_
  try simp only[go_sem]
  refine zaa (v:= .ptr 1 0 1) (fun hb72=>by simp only[go_sem,hc16,hb72]) ?_
  try simp only[go_sem]
  refine zaa (v:= .d (zbE a1.name)) (fun hb71=>by simp only[go_sem,hc16,hb71]) ?_
  try simp only[go_sem]
  refine zaa (v:= .d (.bool (!(decide (a0.name=a1.name))))) (fun hb70=>by simp only[go_sem,hc16,hb70]) ?_
  try simp only[go_sem]
  refine zaa (v:= .ptr 0 0 4) (fun hb69=>by simp only[go_sem,hc16,hb69]) ?_
  try simp only[go_sem]
  refine zaa (v:= .d (.str a0.public_)) (fun hb68=>by simp only[go_sem,hc16,hb68]) ?_
  try simp only[go_sem]
  refine zaa (v:= .ptr 1 0 4) (fun hb67=>by simp only[go_sem,hc16,hb67]) ?_
  try simp only[go_sem]
  refine zaa (v:= .d (.str a1.public_)) (fun hb66=>by simp only[go_sem,hc16,hb66]) ?_
  try simp only[go_sem]
  refine zaa (v:= .d (.bool (!(a0.public_==a1.public_)))) (fun hb65=>by simp only[go_sem,hc16,hb65]) ?_
  try simp only[go_sem]
  refine zaa (v:= .ptr 0 0 5) (fun hb64=>by simp only[go_sem,hc16,hb64]) ?_
  try simp only[go_sem]
  refine zaa (v:= .d (.str a0.system)) (fun hb63=>by simp only[go_sem,hc16,hb63]) ?_
  try simp only[go_sem]
  refine zaa (v:= .ptr 1 0 5) (fun hb62=>by simp only[go_sem,hc16,hb62]) ?_
  try simp only[go_sem]
  refine zaa (v:= .d (.str a1.system)) (fun hb61=>by simp only[go_sem,hc16,hb61]) ?_
  try simp only[go_sem]
  refine zaa (v:= .d (.bool (!(a0.system==a1.system)))) (fun hb60=>by simp only[go_sem,hc16,hb60]) ?_
  try simp only[go_sem]
  refine zaa (v:= .ptr 0 0 8) (fun hb59=>by simp only[go_sem,hc16,hb59]) ?_
  try simp only[go_sem]
  refine zaa (v:= .d (.int .i64 a0.parent)) (fun hb58=>by simp only[go_sem,hc16,hb58]) ?_
  try simp only[go_sem]
  refine zaa (v:= .ptr 1 0 8) (fun hb57=>by simp only[go_sem,hc16,hb57]) ?_
  try simp only[go_sem]
  refine zaa (v:= .d (.int .i64 a1.parent)) (fun hb56=>by simp only[go_sem,hc16,hb56]) ?_
  try simp only[go_sem]
  refine zaa (v:= .d (.bool (!(a0.parent==a1.parent)))) (fun hb55=>by simp only[go_sem,hc16,hb55]) ?_
  try simp only[go_sem]
  refine zaa (v:= .ptr 0 0 10) (fun hb54=>by simp only[go_sem,hc16,hb54]) ?_
  try simp only[go_sem]
  refine zaa (v:= .d (.int .i64 a0.doc)) (fun hb53=>by simp only[go_sem,hc16,hb53]) ?_
  try simp only[go_sem]
  refine zaa (v:= .ptr 1 0 10) (fun hb52=>by simp only[go_sem,hc16,hb52]) ?_
  try simp only[go_sem]
  refine zaa (v:= .d (.int .i64 a1.doc)) (fun hb51=>by simp only[go_sem,hc16,hb51]) ?_
  try simp only[go_sem]
  refine zaa (v:= .d (.bool (!(a0.doc==a1.doc)))) (fun hb50=>by simp only[go_sem,hc16,hb50]) ?_
  try simp only[go_sem]
  refine zaj (fun hc28=> ?_) (fun hc29=> ?_)
  ·rw[if_pos hc28]at h
   try simp only[go_sem]
   cases h
   rfl
  rw[if_neg (ff hc29)]at h
  try simp only[go_sem]
  refine zaa (v:= .ptr 0 0 12) (fun hb49=>by simp only[go_sem,hc16,hc29,hb49]) ?_
  try simp only[go_sem]
  refine zaa (v:= .d (.int .i64 a0.shadow)) (fun hb48=>by simp only[go_sem,hc16,hc29,hb48]) ?_
  try simp only[go_sem]
  refine zaa (v:= .ptr 1 0 12) (fun hb47=>by simp only[go_sem,hc16,hc29,hb47]) ?_
  try simp only[go_sem]
  refine zaa (v:= .d (.int .i64 a1.shadow)) (fun hb46=>by simp only[go_sem,hc16,hc29,hb46]) ?_
  try simp only[go_sem]
  refine zaa (v:= .d (.bool (a0.shadow==a1.shadow))) (fun hb45=>by simp only[go_sem,hc16,hc29,hb45]) ?_
  try simp only[go_sem]
  refine zaa (v:= .ptr 0 0 13) (fun hb44=>by simp only[go_sem,hc16,hc29,hb44]) ?_
  try simp only[go_sem]
  refine zaa (v:= .d (.int .u8 a0.mode)) (fun hb43=>by simp only[go_sem,hc16,hc29,hb43]) ?_
  try simp only[go_sem]
  refine zaa (v:= .ptr 1 0 13) (fun hb42=>by simp only[go_sem,hc16,hc29,hb42]) ?_
  try simp only[go_sem]
  refine zaa (v:= .d (.int .u8 a1.mode)) (fun hb41=>by simp only[go_sem,hc16,hc29,hb41]) ?_
  try simp only[go_sem]
  refine zaa (v:= .d (.bool (a0.mode==a1.mode))) (fun hb40=>by simp only[go_sem,hc16,hc29,hb40]) ?_
  try simp only[go_sem]
  refine zaa (v:= .ptr 0 0 14) (fun hb39=>by simp only[go_sem,hc16,hc29,hb39]) ?_
  try simp only[go_sem]
  refine zaa (v:= .d (.bool a0.manual)) (fun hb38=>by simp only[go_sem,hc16,hc29,hb38]) ?_
  try simp only[go_sem]
  refine zaa (v:= .ptr 1 0 14) (fun hb37=>by simp only[go_sem,hc16,hc29,hb37]) ?_
  try simp only[go_sem]
  refine zaa (v:= .d (.bool a1.manual)) (fun hb36=>by simp only[go_sem,hc16,hc29,hb36]) ?_
  try simp only[go_sem]
  refine zaa (v:= .d (.bool (a0.manual==a1.manual))) (fun hb35=>by simp only[go_sem,hc16,hc29,hb35]) ?_
  try simp only[go_sem]
  refine zaa (v:= .ptr 0 0 15) (fun hb34=>by simp only[go_sem,hc16,hc29,hb34]) ?_
  try simp only[go_sem]
  refine zaa (v:= .d (.bool a0.hTML)) (fun hb33=>by simp only[go_sem,hc16,hc29,hb33]) ?_
  try simp only[go_sem]
  refine zaa (v:= .ptr 1 0 15) (fun hb32=>by simp only[go_sem,hc16,hc29,hb32]) ?_
  try simp only[go_sem]
  refine zaa (v:= .d (.bool a1.hTML)) (fun hb31=>by simp only[go_sem,hc16,hc29,hb31]) ?_
  try simp only[go_sem]
  refine zaa (v:= .d (.bool (a0.hTML==a1.hTML))) (fun hb30=>by simp only[go_sem,hc16,hc29,hb30]) ?_
  try simp only[go_sem]
  cases h
  rfl
 dsimp only at h
 dsimp only[zju]
 try simp only[go_sem]
 cases h
 rfl
def zgb (a0:Sl (Int)) (a1:Sl (Int)) (x0:Int):St:=⟨((((Regs.none.set 0 (.d (.list a0.n (a0.l.map (D.int .u16))))).set 1 (.d (.list a1.n (a1.l.map (D.int .u16))))).set 12 (.d (.int .i64 (a0.l.length:Int)))).set 13 (.d (.int .i64 x0))),(Heap.at 9)⟩
def zjv (a0:Sl (Int)) (a1:Sl (Int)):((Unit)⊕(Unit))→Ex×St:=fun r=>match r with
 |(.inl r)=>(.exit 0,⟨Regs.none,(Heap.at 9)⟩)
 |(.inr r)=>(.ret,⟨(Regs.none.set 4 (.d (.bool false))),(Heap.at 9)⟩)
noncomputable def zcR (a0:Sl (Int)) (a1:Sl (Int)) (x0:Int):Option ((Int)⊕((Unit)⊕(Unit))):=
 if(decide (x0<(a0.l.length:Int)))=true then
  (rd a0.l x0).bind fun y5=>
  (rd a1.l x0).bind fun y7=>
  if(!(y5==y7))=true then
   some (.inr (.inr ()))
  else
   some (.inl (IntKind.wrap .i64 (x0+1)))
 else
  some (.inr (.inl ()))
theorem zzF (a0:Sl (Int)) (a1:Sl (Int)) (x0:Int) (o:(Int)⊕((Unit)⊕(Unit))) (h:zcR a0 a1 x0=some o):Wp prog zrL (zgb a0 a1 x0) (zbH (0,[]) (zgb a0 a1) (zjv a0 a1) o):=by
 unfold zcR at h
 delta zrL zgb
 try simp only[go_sem]
 refine zaj (fun hc3=> ?_) (fun hc4=> ?_)
 ·rw[if_pos hc3]at h
  try simp only[go_sem]
  obtain⟨y5,hy6,h⟩:=bs h
  try simp only[go_sem,zab hy6,zae hy6,zac (D.int .u16) hy6]
  obtain⟨y7,hy8,h⟩:=bs h
  try simp only[go_sem,zab hy6,zae hy6,zac (D.int .u16) hy6,zab hy8,zae hy8,zac (D.int .u16) hy8]
  refine zaF (fun hc9=> ?_) (fun hc10=> ?_)
  ·rw[if_pos (show(!(y5==y7))=true by(rw[hc9];rfl))]at h
   try simp only[go_sem,zab hy6,zae hy6,zac (D.int .u16) hy6,zab hy8,zae hy8,zac (D.int .u16) hy8]
   cases h
   exact⟨rfl,by simp,Up.of (N:=9) (N':=22) [] rfl rfl (by decide) (.set (.d _) zak.none) zan.at⟩
  rw[if_neg (ffn hc10)]at h
  try simp only[go_sem,zab hy6,zae hy6,zac (D.int .u16) hy6,zab hy8,zae hy8,zac (D.int .u16) hy8]
  cases h
  exact⟨rfl,Up.of (N:=9) (N':=23) [] rfl rfl (by decide) (.set (.d _) (.set (.d _) (.set (.d _) (.set (.d _) zak.none)))) zan.at⟩
 rw[if_neg (ff hc4)]at h
 try simp only[go_sem]
 cases h
 exact⟨rfl,by simp,Up.of (N:=9) (N':=10) [] rfl rfl (by decide) zak.none zan.at⟩
noncomputable def zOf (a0:Sl (Int)) (a1:Sl (Int)):Option (Bool):=
 if(!((a0.l.length:Int)==(a1.l.length:Int)))=true then
  some false
 else
  (zaO (zcR a0 a1) 0).bind fun r11=>
  match r11 with
  |(.inl q13)=>
   some true
  |(.inr q14)=>
   some false
theorem zOg (a0:Sl (Int)) (a1:Sl (Int)) (r:Bool) (h:zOf a0 a1=some r):pc prog 165 [.list a0.n (a0.l.map (D.int .u16)),.list a1.n (a1.l.map (D.int .u16))]=some (D.bool r):=by
 unfold zOf at h
 refine zaY (fn:=zLi) rfl rfl ?_
 delta zLi
 try simp only[go_sem]
 refine zaF (fun hc1=> ?_) (fun hc2=> ?_)
 ·rw[if_pos (show(!((a0.l.length:Int)==(a1.l.length:Int)))=true by(rw[hc1];rfl))]at h
  try simp only[go_sem]
  cases h
  rfl
 rw[if_neg (ffn hc2)]at h
 try simp only[go_sem]
 obtain⟨r11,hl12,h⟩:=bs h
 refine Wp.loopR zbe (n:=(0,[])) (a:=zrL) rfl (zgb a0 a1) (zjv a0 a1) (zzF a0 a1) hl12 ?_ (by(repeat(first|refine Clo.block ?_|refine Clo.seq zbe rfl ?_));(exact Clo.ret)) ?_
 ·show Up (0,[]) (zgb a0 a1 0) _
  delta zgb
  exact Up.of (N:=9) (N':=9) [] rfl rfl (by decide) (.set (.d _) (.set (.d _) (.set (.d _) (.set (.d _) zak.none)))) zan.at
 rcases r11 with(q13|q14)
 ·dsimp only at h
  dsimp only[zjv]
  try simp only[go_sem]
  cases h
  rfl
 dsimp only at h
 dsimp only[zjv]
 try simp only[go_sem]
 cases h
 rfl
def zgc (a0:Sl (Int)) (a1:Sl (Int)) (x0:Int):St:=⟨((((Regs.none.set 0 (.d (.list a0.n (a0.l.map (D.int .i64))))).set 1 (.d (.list a1.n (a1.l.map (D.int .i64))))).set 12 (.d (.int .i64 (a0.l.length:Int)))).set 13 (.d (.int .i64 x0))),(Heap.at 9)⟩
def zjw (a0:Sl (Int)) (a1:Sl (Int)):((Unit)⊕(Unit))→Ex×St:=fun r=>match r with
 |(.inl r)=>(.exit 0,⟨Regs.none,(Heap.at 9)⟩)
 |(.inr r)=>(.ret,⟨(Regs.none.set 4 (.d (.bool false))),(Heap.at 9)⟩)
noncomputable def zcS (a0:Sl (Int)) (a1:Sl (Int)) (x0:Int):Option ((Int)⊕((Unit)⊕(Unit))):=
 if(decide (x0<(a0.l.length:Int)))=true then
  (rd a0.l x0).bind fun y5=>
  (rd a1.l x0).bind fun y7=>
  if(!(y5==y7))=true then
   some (.inr (.inr ()))
  else
   some (.inl (IntKind.wrap .i64 (x0+1)))
 else
  some (.inr (.inl ()))
theorem zzG (a0:Sl (Int)) (a1:Sl (Int)) (x0:Int) (o:(Int)⊕((Unit)⊕(Unit))) (h:zcS a0 a1 x0=some o):Wp prog zrM (zgc a0 a1 x0) (zbH (0,[]) (zgc a0 a1) (zjw a0 a1) o):=by
 unfold zcS at h
 delta zrM zgc
 try simp only[go_sem]
 refine zaj (fun hc3=> ?_) (fun hc4=> ?_)
 ·rw[if_pos hc3]at h
  try simp only[go_sem]
  obtain⟨y5,hy6,h⟩:=bs h
  try simp only[go_sem,zab hy6,zae hy6,zac (D.int .i64) hy6]
  obtain⟨y7,hy8,h⟩:=bs h
  try simp only[go_sem,zab hy6,zae hy6,zac (D.int .i64) hy6,zab hy8,zae hy8,zac (D.int .i64) hy8]
  refine zaF (fun hc9=> ?_) (fun hc10=> ?_)
  ·rw[if_pos (show(!(y5==y7))=true by(rw[hc9];rfl))]at h
   try simp only[go_sem,zab hy6,zae hy6,zac (D.int .i64) hy6,zab hy8,zae hy8,zac (D.int .i64) hy8]
   cases h
   exact⟨rfl,by simp,Up.of (N:=9) (N':=22) [] rfl rfl (by decide) (.set (.d _) zak.none) zan.at⟩
  rw[if_neg (ffn hc10)]at h
  try simp only[go_sem,zab hy6,zae hy6,zac (D.int .i64) hy6,zab hy8,zae hy8,zac (D.int .i64) hy8]
  cases h
  exact⟨rfl,Up.of (N:=9) (N':=23) [] rfl rfl (by decide) (.set (.d _) (.set (.d _) (.set (.d _) (.set (.d _) zak.none)))) zan.at⟩
 rw[if_neg (ff hc4)]at h
 try simp only[go_sem]
 cases h
 exact⟨rfl,by simp,Up.of (N:=9) (N':=10) [] rfl rfl (by decide) zak.none zan.at⟩
noncomputable def zOh (a0:Sl (Int)) (a1:Sl (Int)):Option (Bool):=
 if(!((a0.l.length:Int)==(a1.l.length:Int)))=true then
  some false
 else
  (zaO (zcS a0 a1) 0).bind fun r11=>
  match r11 with
  |(.inl q13)=>
   some true
  |(.inr q14)=>
   some false
theorem zOi (a0:Sl (Int)) (a1:Sl (Int)) (r:Bool) (h:zOh a0 a1=some r):pc prog 166 [.list a0.n (a0.l.map (D.int .i64)),.list a1.n (a1.l.map (D.int .i64))]=some (D.bool r):=by
 unfold zOh at h
 refine zaY (fn:=zLj) rfl rfl ?_
 delta zLj
 try simp only[go_sem]
 refine zaF (fun hc1=> ?_) (fun hc2=> ?_)
 ·rw[if_pos (show(!((a0.l.length:Int)==(a1.l.length:Int)))=true by(rw[hc1];rfl))]at h
  try simp only[go_sem]
  cases h
  rfl
 rw[if_neg (ffn hc2)]at h
 try simp only[go_sem]
 obtain⟨r11,hl12,h⟩:=bs h
 refine Wp.loopR zbe (n:=(0,[])) (a:=zrM) rfl (zgc a0 a1) (zjw a0 a1) (zzG a0 a1) hl12 ?_ (by(repeat(first|refine Clo.block ?_|refine Clo.seq zbe rfl ?_));(exact Clo.ret)) ?_
 ·show Up (0,[]) (zgc a0 a1 0) _
  delta zgc
  exact Up.of (N:=9) (N':=9) [] rfl rfl (by decide) (.set (.d _) (.set (.d _) (.set (.d _) (.set (.d _) zak.none)))) zan.at
 rcases r11 with(q13|q14)
 ·dsimp only at h
  dsimp only[zjw]
  try simp only[go_sem]
  cases h
  rfl
 dsimp only at h
 dsimp only[zjw]
 try simp only[go_sem]
 cases h
 rfl
end Go.Proofs.Ytfleilibjdgcjaa.B
