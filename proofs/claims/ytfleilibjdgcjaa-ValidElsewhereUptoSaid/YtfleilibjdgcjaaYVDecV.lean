/- Shaken copy of a longer text: what one law needs. Its conditions: none. -/
import Derived.Test.YtfleilibjdgcjaaYVDec0
import Derived.Test.YtfleilibjdgcjaaYVSpRu
set_option linter.unusedSimpArgs false
set_option linter.unusedVariables false
set_option maxHeartbeats 1000000
namespace Go.Proofs.Ytfleilibjdgcjaa.V
open Go.AI
noncomputable def P4 (a0:Forest) (a1:Int) (a2:Int) (a3:Int):Option (Bool):=
 (dec (D.int .i64) (pc prog 21 [zad a0,.int .i64 a2,.int .i64 a1,.int .i64 a3])).bind fun r1=>
 (dec (D.int .i64) (pc prog 22 [zad a0,.int .i64 a2,.int .i64 a1,.int .i64 a3])).bind fun r3=>
 if(r1==r3)=true then
  (dec (D.int .i64) (pc prog 21 [zad a0,.int .i64 a2,.int .i64 a1,.int .i64 (0)])).bind fun r7=>
  (dec (D.int .i64) (pc prog 22 [zad a0,.int .i64 a2,.int .i64 a1,.int .i64 (0)])).bind fun r9=>
  if(r7==r9)=true then
   (dec D.bool (pc prog 23 [])).bind fun r13=>
   some r13
  else
   some false
 else
  some false
theorem ok4 (a0:Forest) (a1:Int) (a2:Int) (a3:Int) (r:Bool) (h:P4 a0 a1 a2 a3=some r):pc prog 4 [zad a0,.int .i64 a1,.int .i64 a2,.int .i64 a3]=some (D.bool r):=by
 unfold P4 at h
 refine zaR (fn:=c4) rfl rfl ?_
 delta c4
 try simp only[go_sem]
 obtain⟨r1,hr2,h⟩:=bs h
 replace hr2:=zaj hr2
 refine zam hr2 ?_
 try simp only[go_sem]
 obtain⟨r3,hr4,h⟩:=bs h
 replace hr4:=zaj hr4
 refine zam hr4 ?_
 try simp only[go_sem]
 refine zaa (v:= .d (zad a0)) (fun hb17=>by simp only[go_sem,hb17]) ?_
 try simp only[go_sem]
 refine zaa (v:= .d (.int .i64 a2)) (fun hb16=>by simp only[go_sem,hb16]) ?_
 try simp only[go_sem]
 refine zaa (v:= .d (.int .i64 a1)) (fun hb15=>by simp only[go_sem,hb15]) ?_
 try simp only[go_sem]
 refine zav (fun hc5=> ?_) (fun hc6=> ?_)
 ·rw[if_pos hc5]at h
  try simp only[go_sem,hc5]
  obtain⟨r7,hr8,h⟩:=bs h
  replace hr8:=zaj hr8
  refine zam hr8 ?_
  try simp only[go_sem]
  obtain⟨r9,hr10,h⟩:=bs h
  replace hr10:=zaj hr10
  refine zam hr10 ?_
  try simp only[go_sem]
  refine zav (fun hc11=> ?_) (fun hc12=> ?_)
  ·rw[if_pos hc11]at h
   try simp only[go_sem,hc11]
   obtain⟨r13,hr14,h⟩:=bs h
   replace hr14:=zaj hr14
   refine zam hr14 ?_
   try simp only[go_sem]
   cases h
   rfl
  rw[if_neg (ff hc12)]at h
  try simp only[go_sem,hc12]
  cases h
  rfl
 rw[if_neg (ff hc6)]at h
 try simp only[go_sem,hc6]
 cases h
 rfl
noncomputable def P5 (a0:Forest) (a1:Int) (a2:Int) (a3:Int):Option (Bool):=
 (dec (D.int .i64) (pc prog 24 [zad a0,.int .i64 a2,.int .i64 a1,.int .i64 a3])).bind fun r1=>
 (dec (D.int .i64) (pc prog 25 [zad a0,.int .i64 a2,.int .i64 a1,.int .i64 a3])).bind fun r3=>
 if(r1==r3)=true then
  (dec (D.int .i64) (pc prog 26 [zad a0,.int .i64 a2])).bind fun r7=>
  (dec (D.int .i64) (pc prog 27 [zad a0,.int .i64 a2])).bind fun r9=>
  if(r7==r9)=true then
   (dec D.bool (pc prog 23 [])).bind fun r13=>
   some r13
  else
   some false
 else
  some false
theorem ok5 (a0:Forest) (a1:Int) (a2:Int) (a3:Int) (r:Bool) (h:P5 a0 a1 a2 a3=some r):pc prog 5 [zad a0,.int .i64 a1,.int .i64 a2,.int .i64 a3]=some (D.bool r):=by
 unfold P5 at h
 refine zaR (fn:=c5) rfl rfl ?_
 delta c5
 try simp only[go_sem]
 obtain⟨r1,hr2,h⟩:=bs h
 replace hr2:=zaj hr2
 refine zam hr2 ?_
 try simp only[go_sem]
 obtain⟨r3,hr4,h⟩:=bs h
 replace hr4:=zaj hr4
 refine zam hr4 ?_
 try simp only[go_sem]
 refine zaa (v:= .d (zad a0)) (fun hb16=>by simp only[go_sem,hb16]) ?_
 try simp only[go_sem]
 refine zaa (v:= .d (.int .i64 a2)) (fun hb15=>by simp only[go_sem,hb15]) ?_
 try simp only[go_sem]
 refine zav (fun hc5=> ?_) (fun hc6=> ?_)
 ·rw[if_pos hc5]at h
  try simp only[go_sem,hc5]
  obtain⟨r7,hr8,h⟩:=bs h
  replace hr8:=zaj hr8
  refine zam hr8 ?_
  try simp only[go_sem]
  obtain⟨r9,hr10,h⟩:=bs h
  replace hr10:=zaj hr10
  refine zam hr10 ?_
  try simp only[go_sem]
  refine zav (fun hc11=> ?_) (fun hc12=> ?_)
  ·rw[if_pos hc11]at h
   try simp only[go_sem,hc11]
   obtain⟨r13,hr14,h⟩:=bs h
   replace hr14:=zaj hr14
   refine zam hr14 ?_
   try simp only[go_sem]
   cases h
   rfl
  rw[if_neg (ff hc12)]at h
  try simp only[go_sem,hc12]
  cases h
  rfl
 rw[if_neg (ff hc6)]at h
 try simp only[go_sem,hc6]
 cases h
 rfl
def zkV (a0:Forest) (a1:Int) (a2:Int) (a3:Int) (r19:Sl (Int)) (x0:Bool×Int):St:=⟨(((((((Regs.none.set 1 (.d (.int .i64 a1))).set 2 (.d (.int .i64 a2))).set 3 (.d (.int .i64 a3))).set 4 (.ptr 0 0 0)).set 9 (.d (.list r19.n (r19.l.map (D.int .i64))))).set 10 (.d (.bool x0.1))).set 11 (.d (.int .i64 x0.2))),((Heap.at 37).set 0 (some (.els 1 [.d (zad a0)] 0)))⟩
def zxv (a0:Forest) (a1:Int) (a2:Int) (a3:Int) (r19:Sl (Int)):((Bool))→Ex×St:=fun r=>(.exit 0,⟨(((((Regs.none.set 1 (.d (.int .i64 a1))).set 2 (.d (.int .i64 a2))).set 3 (.d (.int .i64 a3))).set 4 (.ptr 0 0 0)).set 10 (.d (.bool r))),((Heap.at 37).set 0 (some (.els 1 [.d (zad a0)] 0)))⟩)
noncomputable def zdA (a0:Forest) (a1:Int) (a2:Int) (a3:Int) (r19:Sl (Int)) (x0:Bool×Int):Option ((Bool×Int)⊕((Bool))):=
 if(decide (x0.2<(r19.l.length:Int)))=true then
  if(!x0.1)=true then
   (rd r19.l x0.2).bind fun y25=>
   some (.inl ((y25==a1),(IntKind.wrap .i64 (x0.2+1))))
  else
   some (.inl (true,(IntKind.wrap .i64 (x0.2+1))))
 else
  some (.inr x0.1)
theorem zEe (a0:Forest) (a1:Int) (a2:Int) (a3:Int) (r19:Sl (Int)) (x0:Bool×Int) (o:(Bool×Int)⊕((Bool))) (h:zdA a0 a1 a2 a3 r19 x0=some o):Wp prog zId (zkV a0 a1 a2 a3 r19 x0) (zbW (0,[]) (zkV a0 a1 a2 a3 r19) (zxv a0 a1 a2 a3 r19) o):=by
 unfold zdA at h
 delta zId zkV
 try simp only[go_sem]
 refine zag (fun hc21=> ?_) (fun hc22=> ?_)
 ·rw[if_pos hc21]at h
  try simp only[go_sem]
  refine zaa (v:= .d (.list r19.n (r19.l.map (D.int .i64)))) (fun hb28=>by simp only[go_sem,hc21,hb28]) ?_
  try simp only[go_sem]
  refine zaa (v:= .d (.int .i64 x0.2)) (fun hb27=>by simp only[go_sem,hc21,hb27]) ?_
  try simp only[go_sem]
  refine zax (fun hc23=> ?_) (fun hc24=> ?_)
  ·rw[if_pos (show(!x0.1)=true by(rw[hc23];rfl))]at h
   try simp only[go_sem,hc23]
   obtain⟨y25,hy26,h⟩:=bs h
   try simp only[go_sem,zab hy26,zaf hy26,zac (D.int .i64) hy26]
   cases h
   exact⟨rfl,Up.of (N:=37) (N':=54) [] rfl rfl (by decide) (.set (.d _) (.set (.d _) (.set (.d _) (.set (.ptr' rfl) (.set (.d _) (.set (.d _) (.set (.d _) zao.none))))))) (.set zaw.refl_d zar.at)⟩
  rw[if_neg (ffn hc24)]at h
  try simp only[go_sem,hc24]
  cases h
  exact⟨rfl,Up.of (N:=37) (N':=54) [] rfl rfl (by decide) (.set (.d _) (.set (.d _) (.set (.d _) (.set (.ptr' rfl) (.set (.d _) (.set (.d _) (.set (.d _) zao.none))))))) (.set zaw.refl_d zar.at)⟩
 rw[if_neg (ff hc22)]at h
 try simp only[go_sem]
 cases h
 exact⟨rfl,by simp,Up.of (N:=37) (N':=41) [] rfl rfl (by decide) (.set (.d _) (.set (.ptr' rfl) (.set (.d _) (.set (.d _) (.set (.d _) zao.none))))) (.set zaw.refl_d zar.at)⟩
noncomputable def P7 (a0:Forest) (a1:Int) (a2:Int) (a3:Int):Option (Bool):=
 (dec D.bool (pc prog 23 [])).bind fun r1=>
 if(!r1)=true then
  some false
 else
  (dec D.bool (pc prog 28 [zad a0])).bind fun r5=>
  if(bif (bif (!r5)then true else(decide (a1<1)))then true else(decide ((a0.nodes.l.length:Int)<a1)))=true then
   some true
  else
   (dec (D.int .i64) (pc prog 21 [zad a0,.int .i64 a1,.int .i64 a1,.int .i64 (0)])).bind fun r9=>
   (if(!(r9==0))=true then
    (dec (D.int .i64) (pc prog 24 [zad a0,.int .i64 a1,.int .i64 a1,.int .i64 a3])).bind fun r13=>
    some (r13==0)
   else
    some true:Option ((Bool))).bind fun r15=>
   if r15=true then
    some false
   else
    (dec (eSl (D.int .i64)) (pc prog 34 [zad a0,.int .i64 a2])).bind fun r19=>
    (zaU (zdA a0 a1 a2 a3 r19) (false,0)).bind fun r29=>
    if r29=true then
     (dec (D.int .i64) (pc prog 21 [zad a0,.int .i64 a2,.int .i64 a1,.int .i64 a3])).bind fun r33=>
     if(!(r33==0))=true then
      (dec (D.int .i64) (pc prog 24 [zad a0,.int .i64 a2,.int .i64 a1,.int .i64 a3])).bind fun r37=>
      some (!(r37==0))
     else
      some false
    else
     some true
theorem ok7 (a0:Forest) (a1:Int) (a2:Int) (a3:Int) (r:Bool) (h:P7 a0 a1 a2 a3=some r):pc prog 7 [zad a0,.int .i64 a1,.int .i64 a2,.int .i64 a3]=some (D.bool r):=by
 unfold P7 at h
 refine zaR (fn:=c7) rfl rfl ?_
 delta c7
 try simp only[go_sem]
 obtain⟨r1,hr2,h⟩:=bs h
 replace hr2:=zaj hr2
 refine zam hr2 ?_
 try simp only[go_sem]
 refine zaG (fun hc3=> ?_) (fun hc4=> ?_)
 ·rw[if_pos (show(!r1)=true by(rw[hc3];rfl))]at h
  try simp only[go_sem]
  cases h
  rfl
 rw[if_neg (ffn hc4)]at h
 try simp only[go_sem]
 obtain⟨r5,hr6,h⟩:=bs h
 replace hr6:=zaj hr6
 refine zam hr6 ?_
 try simp only[go_sem]
 refine zaa (v:= .d (.int .i64 a1)) (fun hb57=>by simp only[go_sem,hc4,hb57]) ?_
 try simp only[go_sem]
 refine zaa (v:= .d (.bool (decide (a1<1)))) (fun hb56=>by simp only[go_sem,hc4,hb56]) ?_
 try simp only[go_sem]
 refine zaa (v:= .d (.int .i64 a1)) (fun hb55=>by simp only[go_sem,hc4,hb55]) ?_
 try simp only[go_sem]
 refine zaa (v:= .ptr 0 0 0) (fun hb54=>by simp only[go_sem,hc4,hb54]) ?_
 try simp only[go_sem]
 refine zaa (v:= .d (.list a0.nodes.n (a0.nodes.l.map zah))) (fun hb53=>by simp only[go_sem,hc4,hb53]) ?_
 try simp only[go_sem]
 refine zaa (v:= .d (.int .i64 (a0.nodes.l.length:Int))) (fun hb52=>by simp only[go_sem,hc4,hb52]) ?_
 try simp only[go_sem]
 refine zaa (v:= .d (.bool (decide ((a0.nodes.l.length:Int)<a1)))) (fun hb51=>by simp only[go_sem,hc4,hb51]) ?_
 try simp only[go_sem]
 refine zag (fun hc7=> ?_) (fun hc8=> ?_)
 ·rw[if_pos hc7]at h
  try simp only[go_sem]
  cases h
  rfl
 rw[if_neg (ff hc8)]at h
 try simp only[go_sem]
 obtain⟨r9,hr10,h⟩:=bs h
 replace hr10:=zaj hr10
 refine zam hr10 ?_
 try simp only[go_sem]
 refine zaa (v:= .d (zad a0)) (fun hb50=>by simp only[go_sem,hc4,hc8,hb50]) ?_
 try simp only[go_sem]
 refine zaa (v:= .d (.int .i64 a1)) (fun hb49=>by simp only[go_sem,hc4,hc8,hb49]) ?_
 try simp only[go_sem]
 refine zaa (v:= .d (.int .i64 a1)) (fun hb48=>by simp only[go_sem,hc4,hc8,hb48]) ?_
 try simp only[go_sem]
 refine zaa (v:= .d (.int .i64 a3)) (fun hb47=>by simp only[go_sem,hc4,hc8,hb47]) ?_
 try simp only[go_sem]
 obtain⟨r15,hl16,h⟩:=bs h
 refine zbI.cut (n:=(0,[])) .normal ⟨(((((Regs.none.set 1 (.d (.int .i64 a1))).set 2 (.d (.int .i64 a2))).set 3 (.d (.int .i64 a3))).set 4 (.ptr 0 0 0)).set 40 (.d (.bool r15))),((Heap.at 31).set 0 (some (.els 1 [.d (zad a0)] 0)))⟩ ?_ (by(repeat(refine Clo.seq zbb rfl ?_));(exact Clo.ret)) ?_
 ·replace h:=hl16
  refine zax (fun hc11=> ?_) (fun hc12=> ?_)
  ·rw[if_pos (show(!(r9==0))=true by(rw[hc11];rfl))]at h
   try simp only[go_sem,hc11]
   obtain⟨r13,hr14,h⟩:=bs h
   replace hr14:=zaj hr14
   refine zam hr14 ?_
   try simp only[go_sem]
   cases h
   exact⟨rfl,Up.of (N:=31) (N':=31) [] rfl rfl (by decide) (.set (.d _) (.set (.ptr' rfl) (.set (.d _) (.set (.d _) (.set (.d _) zao.none))))) (.set zaw.refl_d zar.at)⟩
  rw[if_neg (ffn hc12)]at h
  try simp only[go_sem,hc12]
  cases h
  exact⟨rfl,Up.of (N:=31) (N':=31) [] rfl rfl (by decide) (.set (.d _) (.set (.ptr' rfl) (.set (.d _) (.set (.d _) (.set (.d _) zao.none))))) (.set zaw.refl_d zar.at)⟩
 try simp only[go_sem]
 refine zag (fun hc17=> ?_) (fun hc18=> ?_)
 ·rw[if_pos hc17]at h
  try simp only[go_sem]
  cases h
  rfl
 rw[if_neg (ff hc18)]at h
 try simp only[go_sem]
 obtain⟨r19,hr20,h⟩:=bs h
 replace hr20:=zaj hr20
 refine zam hr20 ?_
 try simp only[go_sem]
 obtain⟨r29,hl30,h⟩:=bs h
 refine Wp.loopR zbb (n:=(0,[])) (a:=zId) rfl (zkV a0 a1 a2 a3 r19) (zxv a0 a1 a2 a3 r19) (zEe a0 a1 a2 a3 r19) hl30 ?_ (by(repeat(first|refine Clo.block ?_|refine Clo.seq zbb rfl ?_));(exact Clo.ret)) ?_
 ·show Up (0,[]) (zkV a0 a1 a2 a3 r19 (false,0)) _
  delta zkV
  exact Up.of (N:=37) (N':=37) [] rfl rfl (by decide) (.set (.d _) (.set (.d _) (.set (.d _) (.set (.ptr' rfl) (.set (.d _) (.set (.d _) (.set (.d _) zao.none))))))) (.set zaw.refl_d zar.at)
 dsimp only[zxv]
 try simp only[go_sem]
 refine zaa (v:= .d (zad a0)) (fun hb46=>by simp only[go_sem,hc4,hc8,hc18,hb46]) ?_
 try simp only[go_sem]
 refine zaa (v:= .d (.int .i64 a2)) (fun hb45=>by simp only[go_sem,hc4,hc8,hc18,hb45]) ?_
 try simp only[go_sem]
 refine zaa (v:= .d (.int .i64 a1)) (fun hb44=>by simp only[go_sem,hc4,hc8,hc18,hb44]) ?_
 try simp only[go_sem]
 refine zaa (v:= .d (.int .i64 a3)) (fun hb43=>by simp only[go_sem,hc4,hc8,hc18,hb43]) ?_
 try simp only[go_sem]
 refine zav (fun hc31=> ?_) (fun hc32=> ?_)
 ·rw[if_pos hc31]at h
  try simp only[go_sem,hc31]
  obtain⟨r33,hr34,h⟩:=bs h
  replace hr34:=zaj hr34
  refine zam hr34 ?_
  try simp only[go_sem]
  refine zaa (v:= .d (zad a0)) (fun hb42=>by simp only[go_sem,hc4,hc8,hc18,hc31,hb42]) ?_
  try simp only[go_sem]
  refine zaa (v:= .d (.int .i64 a2)) (fun hb41=>by simp only[go_sem,hc4,hc8,hc18,hc31,hb41]) ?_
  try simp only[go_sem]
  refine zaa (v:= .d (.int .i64 a1)) (fun hb40=>by simp only[go_sem,hc4,hc8,hc18,hc31,hb40]) ?_
  try simp only[go_sem]
  refine zaa (v:= .d (.int .i64 a3)) (fun hb39=>by simp only[go_sem,hc4,hc8,hc18,hc31,hb39]) ?_
  try simp only[go_sem]
  refine zax (fun hc35=> ?_) (fun hc36=> ?_)
  ·rw[if_pos (show(!(r33==0))=true by(rw[hc35];rfl))]at h
   try simp only[go_sem,hc35]
   obtain⟨r37,hr38,h⟩:=bs h
   replace hr38:=zaj hr38
   refine zam hr38 ?_
   try simp only[go_sem]
   cases h
   rfl
  rw[if_neg (ffn hc36)]at h
  try simp only[go_sem,hc36]
  cases h
  rfl
 rw[if_neg (ff hc32)]at h
 try simp only[go_sem,hc32]
 cases h
 rfl
def zkW (a0:Forest) (a1:Int) (a2:Int) (r5:Node×Bool) (r19:Sl (Int)) (x0:Int):St:=⟨((((((Regs.none.set 1 (.d (.int .i64 a1))).set 2 (.d (.int .i64 a2))).set 3 (.ptr 0 0 0)).set 7 (.ptr 10 0 0)).set 11 (.d (.list r19.n (r19.l.map (D.int .i64))))).set 12 (.d (.int .i64 x0))),(((Heap.at 66).set 0 (some (.els 1 [.d (zad a0)] 0))).set 10 (some (.els 16 [.d (zah r5.1)] 0)))⟩
def zqV (a0:Forest) (a1:Int) (a2:Int) (r5:Node×Bool) (r19:Sl (Int)):((Unit)⊕(Unit))→Ex×St:=fun r=>match r with
 |(.inl r)=>(.exit 0,⟨((((Regs.none.set 1 (.d (.int .i64 a1))).set 2 (.d (.int .i64 a2))).set 3 (.ptr 0 0 0)).set 7 (.ptr 10 0 0)),(((Heap.at 66).set 0 (some (.els 1 [.d (zad a0)] 0))).set 10 (some (.els 16 [.d (zah r5.1)] 0)))⟩)
 |(.inr r)=>(.ret,⟨(Regs.none.set 6 (.d (.bool true))),(Heap.at 66)⟩)
noncomputable def zej (a0:Forest) (a1:Int) (a2:Int) (r5:Node×Bool) (r19:Sl (Int)) (x0:Int):Option ((Int)⊕((Unit)⊕(Unit))):=
 if(decide (x0<(r19.l.length:Int)))=true then
  (rd r19.l x0).bind fun y23=>
  if(y23==a1)=true then
   some (.inr (.inr ()))
  else
   some (.inl (IntKind.wrap .i64 (x0+1)))
 else
  some (.inr (.inl ()))
theorem zEf (a0:Forest) (a1:Int) (a2:Int) (r5:Node×Bool) (r19:Sl (Int)) (x0:Int) (o:(Int)⊕((Unit)⊕(Unit))) (h:zej a0 a1 a2 r5 r19 x0=some o):Wp prog zIe (zkW a0 a1 a2 r5 r19 x0) (zbW (0,[]) (zkW a0 a1 a2 r5 r19) (zqV a0 a1 a2 r5 r19) o):=by
 unfold zej at h
 delta zIe zkW
 try simp only[go_sem]
 refine zag (fun hc21=> ?_) (fun hc22=> ?_)
 ·rw[if_pos hc21]at h
  try simp only[go_sem]
  obtain⟨y23,hy24,h⟩:=bs h
  try simp only[go_sem,zab hy24,zaf hy24,zac (D.int .i64) hy24]
  refine zag (fun hc25=> ?_) (fun hc26=> ?_)
  ·rw[if_pos hc25]at h
   try simp only[go_sem,zab hy24,zaf hy24,zac (D.int .i64) hy24]
   cases h
   exact⟨rfl,by simp,Up.of (N:=66) (N':=77) [] rfl rfl (by decide) (.set (.d _) zao.none) zar.at⟩
  rw[if_neg (ff hc26)]at h
  try simp only[go_sem,zab hy24,zaf hy24,zac (D.int .i64) hy24]
  cases h
  exact⟨rfl,Up.of (N:=66) (N':=79) [] rfl rfl (by decide) (.set (.d _) (.set (.d _) (.set (.ptr' rfl) (.set (.ptr' rfl) (.set (.d _) (.set (.d _) zao.none)))))) (.set zaw.refl_d (.set zaw.refl_d zar.at))⟩
 rw[if_neg (ff hc22)]at h
 try simp only[go_sem]
 cases h
 exact⟨rfl,by simp,Up.of (N:=66) (N':=70) [] rfl rfl (by decide) (.set (.ptr' rfl) (.set (.ptr' rfl) (.set (.d _) (.set (.d _) zao.none)))) (.set zaw.refl_d (.set zaw.refl_d zar.at))⟩
def zkX (a0:Forest) (a1:Int) (a2:Int) (r5:Node×Bool) (x1:Int):St:=⟨(((((Regs.none.set 1 (.d (.int .i64 a1))).set 2 (.d (.int .i64 a2))).set 3 (.ptr 0 0 0)).set 7 (.ptr 10 0 0)).set 13 (.d (.int .i64 x1))),(((Heap.at 67).set 0 (some (.els 1 [.d (zad a0)] 0))).set 10 (some (.els 16 [.d (zah r5.1)] 0)))⟩
def zqW (a0:Forest) (a1:Int) (a2:Int) (r5:Node×Bool):((Unit)⊕(Unit))→Ex×St:=fun r=>match r with
 |(.inl r)=>(.exit 2,⟨(((Regs.none.set 1 (.d (.int .i64 a1))).set 2 (.d (.int .i64 a2))).set 3 (.ptr 0 0 0)),((Heap.at 67).set 0 (some (.els 1 [.d (zad a0)] 0)))⟩)
 |(.inr r)=>(.ret,⟨(Regs.none.set 6 (.d (.bool false))),(Heap.at 67)⟩)
noncomputable def zek (a0:Forest) (a1:Int) (a2:Int) (r5:Node×Bool) (x1:Int):Option ((Int)⊕((Unit)⊕(Unit))):=
 if(decide (x1<(r5.1.kids.l.length:Int)))=true then
  (rd r5.1.kids.l x1).bind fun y32=>
  (dec (D.int .i64) (pc prog 21 [zad a0,.int .i64 a2,.int .i64 a1,.int .i64 y32])).bind fun r34=>
  if(r34==0)=true then
   (dec (D.int .i64) (pc prog 24 [zad a0,.int .i64 a2,.int .i64 a1,.int .i64 y32])).bind fun r38=>
   if(!(r38==0))=true then
    some (.inr (.inr ()))
   else
    some (.inl (IntKind.wrap .i64 (x1+1)))
  else
   some (.inr (.inr ()))
 else
  some (.inr (.inl ()))
theorem zEg (a0:Forest) (a1:Int) (a2:Int) (r5:Node×Bool) (x1:Int) (o:(Int)⊕((Unit)⊕(Unit))) (h:zek a0 a1 a2 r5 x1=some o):Wp prog zIf (zkX a0 a1 a2 r5 x1) (zbW (0,[]) (zkX a0 a1 a2 r5) (zqW a0 a1 a2 r5) o):=by
 unfold zek at h
 delta zIf zkX
 try simp only[go_sem]
 refine zag (fun hc30=> ?_) (fun hc31=> ?_)
 ·rw[if_pos hc30]at h
  try simp only[go_sem]
  obtain⟨y32,hy33,h⟩:=bs h
  try simp only[go_sem,zab hy33,zaf hy33,zac (D.int .i64) hy33]
  obtain⟨r34,hr35,h⟩:=bs h
  replace hr35:=zaj hr35
  refine zam hr35 ?_
  try simp only[go_sem,zab hy33,zaf hy33,zac (D.int .i64) hy33]
  refine zaa (v:= .d (zad a0)) (fun hb47=>by simp only[go_sem,zab hy33,zaf hy33,zac (D.int .i64) hy33,hc30,hb47]) ?_
  try simp only[go_sem,zab hy33,zaf hy33,zac (D.int .i64) hy33]
  refine zaa (v:= .d (.int .i64 a2)) (fun hb46=>by simp only[go_sem,zab hy33,zaf hy33,zac (D.int .i64) hy33,hc30,hb46]) ?_
  try simp only[go_sem,zab hy33,zaf hy33,zac (D.int .i64) hy33]
  refine zaa (v:= .d (.int .i64 a1)) (fun hb45=>by simp only[go_sem,zab hy33,zaf hy33,zac (D.int .i64) hy33,hc30,hb45]) ?_
  try simp only[go_sem,zab hy33,zaf hy33,zac (D.int .i64) hy33]
  refine zaa (v:= .ptr 10 0 9) (fun hb44=>by simp only[go_sem,zab hy33,zaf hy33,zac (D.int .i64) hy33,hc30,hb44]) ?_
  try simp only[go_sem,zab hy33,zaf hy33,zac (D.int .i64) hy33]
  refine zaa (v:= .d (.list r5.1.kids.n (r5.1.kids.l.map (D.int .i64)))) (fun hb43=>by simp only[go_sem,zab hy33,zaf hy33,zac (D.int .i64) hy33,hc30,hb43]) ?_
  try simp only[go_sem,zab hy33,zaf hy33,zac (D.int .i64) hy33]
  refine zaa (v:= .d (.int .i64 x1)) (fun hb42=>by simp only[go_sem,zab hy33,zaf hy33,zac (D.int .i64) hy33,hc30,hb42]) ?_
  try simp only[go_sem,zab hy33,zaf hy33,zac (D.int .i64) hy33]
  refine zav (fun hc36=> ?_) (fun hc37=> ?_)
  ·rw[if_pos hc36]at h
   try simp only[go_sem,zab hy33,zaf hy33,zac (D.int .i64) hy33,hc36]
   obtain⟨r38,hr39,h⟩:=bs h
   replace hr39:=zaj hr39
   refine zam hr39 ?_
   try simp only[go_sem,zab hy33,zaf hy33,zac (D.int .i64) hy33]
   refine zaG (fun hc40=> ?_) (fun hc41=> ?_)
   ·rw[if_pos (show(!(r38==0))=true by(rw[hc40];rfl))]at h
    try simp only[go_sem,zab hy33,zaf hy33,zac (D.int .i64) hy33]
    cases h
    exact⟨rfl,by simp,Up.of (N:=67) (N':=95) [] rfl rfl (by decide) (.set (.d _) zao.none) zar.at⟩
   rw[if_neg (ffn hc41)]at h
   try simp only[go_sem,zab hy33,zaf hy33,zac (D.int .i64) hy33]
   cases h
   exact⟨rfl,Up.of (N:=67) (N':=97) [] rfl rfl (by decide) (.set (.d _) (.set (.ptr' rfl) (.set (.ptr' rfl) (.set (.d _) (.set (.d _) zao.none))))) (.set zaw.refl_d (.set zaw.refl_d zar.at))⟩
  rw[if_neg (ff hc37)]at h
  try simp only[go_sem,zab hy33,zaf hy33,zac (D.int .i64) hy33,hc37]
  cases h
  exact⟨rfl,by simp,Up.of (N:=67) (N':=95) [] rfl rfl (by decide) (.set (.d _) zao.none) zar.at⟩
 rw[if_neg (ff hc31)]at h
 try simp only[go_sem]
 cases h
 exact⟨rfl,by simp,Up.of (N:=67) (N':=72) [] rfl rfl (by decide) (.set (.ptr' rfl) (.set (.d _) (.set (.d _) zao.none))) (.set zaw.refl_d zar.at)⟩
noncomputable def P8 (a0:Forest) (a1:Int) (a2:Int):Option (Bool):=
 (dec D.bool (pc prog 23 [])).bind fun r1=>
 if(!r1)=true then
  some false
 else
  (dec (eT2 zah D.bool) (pc prog 31 [zad a0,.int .i64 a1])).bind fun r5=>
  (dec (eT2 zah D.bool) (pc prog 31 [zad a0,.int .i64 a2])).bind fun r7=>
  (if(!(bif (!r5.2)then true else(!r7.2)))=true then
   (dec D.bool (pc prog 28 [zad a0])).bind fun r11=>
   some (!r11)
  else
   some true:Option ((Bool))).bind fun r13=>
  if r13=true then
   some true
  else
   if(bif (bif (bif (bif (bif (!(r5.1.kind==1))then(!(r5.1.kind==11))else false)then(!(r5.1.kind==12))else false)then true else(r7.1.kind==9))then true else(r7.1.kind==12))then true else(r7.1.kind==10))=true then
    some true
   else
    (dec (eSl (D.int .i64)) (pc prog 34 [zad a0,.int .i64 a2])).bind fun r19=>
    (zaU (zej a0 a1 a2 r5 r19) 0).bind fun r27=>
    match r27 with
    |(.inl q29)=>
     (zaU (zek a0 a1 a2 r5) 0).bind fun r48=>
     match r48 with
     |(.inl q50)=>
      (dec (D.int .i64) (pc prog 21 [zad a0,.int .i64 a2,.int .i64 a1,.int .i64 (0)])).bind fun r51=>
      some (r51==0)
     |(.inr q53)=>
      some false
    |(.inr q54)=>
     some true
theorem ok8 (a0:Forest) (a1:Int) (a2:Int) (r:Bool) (h:P8 a0 a1 a2=some r):pc prog 8 [zad a0,.int .i64 a1,.int .i64 a2]=some (D.bool r):=by
 unfold P8 at h
 refine zaR (fn:=c8) rfl rfl ?_
 delta c8
 try simp only[go_sem]
 obtain⟨r1,hr2,h⟩:=bs h
 replace hr2:=zaj hr2
 refine zam hr2 ?_
 try simp only[go_sem]
 refine zaG (fun hc3=> ?_) (fun hc4=> ?_)
 ·rw[if_pos (show(!r1)=true by(rw[hc3];rfl))]at h
  try simp only[go_sem]
  cases h
  rfl
 rw[if_neg (ffn hc4)]at h
 try simp only[go_sem]
 obtain⟨r5,hr6,h⟩:=bs h
 replace hr6:=zaj hr6
 refine zam hr6 ?_
 try simp only[go_sem]
 obtain⟨r7,hr8,h⟩:=bs h
 replace hr8:=zaj hr8
 refine zam hr8 ?_
 try simp only[go_sem]
 refine zaa (v:= .d (.bool r7.2)) (fun hb72=>by simp only[go_sem,hc4,hb72]) ?_
 try simp only[go_sem]
 refine zaa (v:= .d (.bool (!r7.2))) (fun hb71=>by simp only[go_sem,hc4,hb71]) ?_
 try simp only[go_sem]
 refine zaa (v:= .d (zad a0)) (fun hb70=>by simp only[go_sem,hc4,hb70]) ?_
 try simp only[go_sem]
 obtain⟨r13,hl14,h⟩:=bs h
 refine zbI.cut (n:=(0,[])) .normal ⟨((((((Regs.none.set 1 (.d (.int .i64 a1))).set 2 (.d (.int .i64 a2))).set 3 (.ptr 0 0 0)).set 7 (.ptr 10 0 0)).set 9 (.ptr 19 0 0)).set 38 (.d (.bool r13))),((((Heap.at 33).set 0 (some (.els 1 [.d (zad a0)] 0))).set 10 (some (.els 16 [.d (zah r5.1)] 0))).set 19 (some (.els 16 [.d (zah r7.1)] 0)))⟩ ?_ (by(repeat(refine Clo.seq zbb rfl ?_));(exact Clo.ret)) ?_
 ·replace h:=hl14
  refine zax (fun hc9=> ?_) (fun hc10=> ?_)
  ·rw[if_pos (show(!(bif (!r5.2)then true else(!r7.2)))=true by(rw[hc9];rfl))]at h
   try simp only[go_sem,hc9]
   obtain⟨r11,hr12,h⟩:=bs h
   replace hr12:=zaj hr12
   refine zam hr12 ?_
   try simp only[go_sem]
   cases h
   exact⟨rfl,Up.of (N:=33) (N':=33) [] rfl rfl (by decide) (.set (.d _) (.set (.ptr' rfl) (.set (.ptr' rfl) (.set (.ptr' rfl) (.set (.d _) (.set (.d _) zao.none)))))) (.set zaw.refl_d (.set zaw.refl_d (.set zaw.refl_d zar.at)))⟩
  rw[if_neg (ffn hc10)]at h
  try simp only[go_sem,hc10]
  cases h
  exact⟨rfl,Up.of (N:=33) (N':=33) [] rfl rfl (by decide) (.set (.d _) (.set (.ptr' rfl) (.set (.ptr' rfl) (.set (.ptr' rfl) (.set (.d _) (.set (.d _) zao.none)))))) (.set zaw.refl_d (.set zaw.refl_d (.set zaw.refl_d zar.at)))⟩
 try simp only[go_sem]
 refine zag (fun hc15=> ?_) (fun hc16=> ?_)
 ·rw[if_pos hc15]at h
  try simp only[go_sem]
  cases h
  rfl
 rw[if_neg (ff hc16)]at h
 try simp only[go_sem]
 refine zaa (v:= .ptr 10 0 0) (fun hb69=>by simp only[go_sem,hc4,hc16,hb69]) ?_
 try simp only[go_sem]
 refine zaa (v:= .d (.int .u8 r5.1.kind)) (fun hb68=>by simp only[go_sem,hc4,hc16,hb68]) ?_
 try simp only[go_sem]
 refine zaa (v:= .d (.bool (!(r5.1.kind==11)))) (fun hb67=>by simp only[go_sem,hc4,hc16,hb67]) ?_
 try simp only[go_sem]
 refine zaa (v:= .ptr 10 0 0) (fun hb66=>by simp only[go_sem,hc4,hc16,hb66]) ?_
 try simp only[go_sem]
 refine zaa (v:= .d (.int .u8 r5.1.kind)) (fun hb65=>by simp only[go_sem,hc4,hc16,hb65]) ?_
 try simp only[go_sem]
 refine zaa (v:= .d (.bool (!(r5.1.kind==12)))) (fun hb64=>by simp only[go_sem,hc4,hc16,hb64]) ?_
 try simp only[go_sem]
 refine zaa (v:= .ptr 19 0 0) (fun hb63=>by simp only[go_sem,hc4,hc16,hb63]) ?_
 try simp only[go_sem]
 refine zaa (v:= .d (.int .u8 r7.1.kind)) (fun hb62=>by simp only[go_sem,hc4,hc16,hb62]) ?_
 try simp only[go_sem]
 refine zaa (v:= .d (.bool (r7.1.kind==9))) (fun hb61=>by simp only[go_sem,hc4,hc16,hb61]) ?_
 try simp only[go_sem]
 refine zaa (v:= .ptr 19 0 0) (fun hb60=>by simp only[go_sem,hc4,hc16,hb60]) ?_
 try simp only[go_sem]
 refine zaa (v:= .d (.int .u8 r7.1.kind)) (fun hb59=>by simp only[go_sem,hc4,hc16,hb59]) ?_
 try simp only[go_sem]
 refine zaa (v:= .d (.bool (r7.1.kind==12))) (fun hb58=>by simp only[go_sem,hc4,hc16,hb58]) ?_
 try simp only[go_sem]
 refine zaa (v:= .ptr 19 0 0) (fun hb57=>by simp only[go_sem,hc4,hc16,hb57]) ?_
 try simp only[go_sem]
 refine zaa (v:= .d (.int .u8 r7.1.kind)) (fun hb56=>by simp only[go_sem,hc4,hc16,hb56]) ?_
 try simp only[go_sem]
 refine zaa (v:= .d (.bool (r7.1.kind==10))) (fun hb55=>by simp only[go_sem,hc4,hc16,hb55]) ?_
 try simp only[go_sem]
 refine zag (fun hc17=> ?_) (fun hc18=> ?_)
 ·rw[if_pos hc17]at h
  try simp only[go_sem]
  cases h
  rfl
 rw[if_neg (ff hc18)]at h
 try simp only[go_sem]
 obtain⟨r19,hr20,h⟩:=bs h
 replace hr20:=zaj hr20
 refine zam hr20 ?_
 try simp only[go_sem]
 obtain⟨r27,hl28,h⟩:=bs h
 refine Wp.loopR zbb (n:=(0,[])) (a:=zIe) rfl (zkW a0 a1 a2 r5 r19) (zqV a0 a1 a2 r5 r19) (zEf a0 a1 a2 r5 r19) hl28 ?_ (by(repeat(first|refine Clo.block ?_|refine Clo.seq zbb rfl ?_));(exact Clo.ret)) ?_
 ·show Up (0,[]) (zkW a0 a1 a2 r5 r19 0) _
  delta zkW
  exact Up.of (N:=66) (N':=66) [] rfl rfl (by decide) (.set (.d _) (.set (.d _) (.set (.ptr' rfl) (.set (.ptr' rfl) (.set (.d _) (.set (.d _) zao.none)))))) (.set zaw.refl_d (.set zaw.refl_d zar.at))
 rcases r27 with(q29|q54)
 ·dsimp only at h
  dsimp only[zqV]
  try simp only[go_sem]
  obtain⟨r48,hl49,h⟩:=bs h
  refine Wp.loopR zbb (n:=(0,[])) (a:=zIf) rfl (zkX a0 a1 a2 r5) (zqW a0 a1 a2 r5) (zEg a0 a1 a2 r5) hl49 ?_ (by(repeat(first|refine Clo.block ?_|refine Clo.seq zbb rfl ?_));(exact Clo.ret)) ?_
  ·show Up (0,[]) (zkX a0 a1 a2 r5 0) _
   delta zkX
   exact Up.of (N:=67) (N':=67) [] rfl rfl (by decide) (.set (.d _) (.set (.ptr' rfl) (.set (.ptr' rfl) (.set (.d _) (.set (.d _) zao.none))))) (.set zaw.refl_d (.set zaw.refl_d zar.at))
  rcases r48 with(q50|q53)
  ·dsimp only at h
   dsimp only[zqW]
   try simp only[go_sem]
   obtain⟨r51,hr52,h⟩:=bs h
   replace hr52:=zaj hr52
   refine zam hr52 ?_
   try simp only[go_sem]
   cases h
   rfl
  dsimp only at h
  dsimp only[zqW]
  try simp only[go_sem]
  cases h
  rfl
 dsimp only at h
 dsimp only[zqV]
 try simp only[go_sem]
 cases h
 rfl
noncomputable def P21 (a0:Forest) (a1:Int) (a2:Int) (a3:Int):Option (Int):=
 (if(!(a3==0))=true then
  if(([a2,a1]).length+1)*8≤AI.roomBytes then
   some ([a2,a1]++[a3])
  else none
 else
  some [a2,a1]:Option ((List (Int)))).bind fun r4=>
 (dec (D.int .i64) (pc prog 87 [zad a0,.list false (r4.map (D.int .i64))])).bind fun r6=>
 if(!(r6==0))=true then
  some r6
 else
  (dec (D.int .i64) (pc prog 88 [zaq (⟨⟨a0.nodes⟩,a2,a3,false⟩:valid_ask),.int .i64 a1])).bind fun r10=>
  some r10
theorem zMo (a0:Forest) (a1:Int) (a2:Int) (a3:Int) (r:Int) (h:P21 a0 a1 a2 a3=some r):pc prog 21 [zad a0,.int .i64 a1,.int .i64 a2,.int .i64 a3]=some ((D.int .i64) r):=by
 unfold P21 at h
 refine zaR (fn:=c21) rfl rfl ?_
 delta c21
 try simp only[go_sem]
 obtain⟨r4,hl5,h⟩:=bs h
 refine WBr.cut (n:=(0,[])) .normal ⟨(((((Regs.none.set 1 (.d (.int .i64 a1))).set 2 (.d (.int .i64 a2))).set 3 (.d (.int .i64 a3))).set 4 (.ptr 0 0 0)).set 9 (.sl 7 0 r4.length)),(((Heap.at 8).set 0 (some (.els 1 [.d (zad a0)] 0))).set 7 (some (.els 1 (r4.map fun z=>V.d ((D.int .i64) z)) r4.length)))⟩ ?_ (by(repeat(refine Clo.seq zbb rfl ?_));(exact Clo.ret)) ?_
 ·replace h:=hl5
  refine zaG (fun hc1=> ?_) (fun hc2=> ?_)
  ·rw[if_pos (show(!(a3==0))=true by(rw[hc1];rfl))]at h
   try simp only[go_sem]
   obtain⟨hm3,h⟩:=zcV h
   refine zgH (l:=([a2,a1]).map fun z=>V.d ((D.int .i64) z)) (fz:=0) (new:=[V.d (.int .i64 a3)]) (by simp only[go_sem,List.map_append,List.map_cons,List.map_nil]) (by simp only[go_sem,zcS,zdG,zcT,zbM,zkg]) (by simp) (by simp only[go_sem]) (by simp) (by simpa using hm3) ?_
   try simp only[go_sem,hm3]
   cases h
   exact⟨rfl,Up.of (N:=8) (N':=13) [(7,11)] rfl rfl (by decide) (.set (.sl'' rfl (by rfl)) (.set (.ptr' rfl) (.set (.d _) (.set (.d _) (.set (.d _) zao.none))))) (.set (zaw.arr (e:=(D.int .i64)) (l:=([a2,a1]++[a3])) (by rfl) (by simp)) (.set zaw.refl_d zar.at))⟩
  rw[if_neg (ffn hc2)]at h
  try simp only[go_sem]
  cases h
  refine⟨rfl,Up.of (N:=8) (N':=8) [(4,7),(7,4)] rfl rfl (by decide) ?_ ?_⟩
  ·refine zao.set ?_ (zao.set ?_ (zao.set ?_ (zao.set ?_ (zao.set ?_ zao.none))))
   all_goals (try simp only[go_sem,List.map_append,List.map_cons,List.map_nil])
   all_goals (first|exact VR.d _|exact VR.ptr' rfl|exact VR.sl'' rfl (by simp))
  refine zar.set (show zaw _ _ (Heap.get _ 4)from ?_) (zar.set (show zaw _ _ (Heap.get _ 0)from ?_) (zar.at))
  all_goals (try simp only[go_sem,List.map_append,List.map_cons,List.map_nil])
  all_goals (((repeat' first|exact zaw.refl_d|refine zaw.els (by simp) ?_|exact VR.d _|exact VRL.nil|refine VRL.cons ?_ ?_);done))
 try simp only[go_sem]
 obtain⟨r6,hr7,h⟩:=bs h
 replace hr7:=zaj hr7
 refine zam hr7 ?_
 try simp only[go_sem]
 refine zaG (fun hc8=> ?_) (fun hc9=> ?_)
 ·rw[if_pos (show(!(r6==0))=true by(rw[hc8];rfl))]at h
  try simp only[go_sem]
  cases h
  rfl
 rw[if_neg (ffn hc9)]at h
 try simp only[go_sem]
 obtain⟨r10,hr11,h⟩:=bs h
 replace hr11:=zaj hr11
 refine zam hr11 ?_
 try simp only[go_sem]
 cases h
 rfl
noncomputable def P22 (a0:Forest) (a1:Int) (a2:Int) (a3:Int):Option (Int):=
 (if(!(a3==0))=true then
  if(([a1,a2]).length+1)*8≤AI.roomBytes then
   some ([a1,a2]++[a3])
  else none
 else
  some [a1,a2]:Option ((List (Int)))).bind fun r4=>
 (dec (D.int .i64) (pc prog 45 [zad a0,.list false (r4.map (D.int .i64))])).bind fun r6=>
 if(!(r6==0))=true then
  some r6
 else
  (dec (D.int .i64) (pc prog 89 [zad a0,.int .i64 a2,.int .i64 a1,.int .i64 a3,.bool false])).bind fun r10=>
  some r10
theorem zMp (a0:Forest) (a1:Int) (a2:Int) (a3:Int) (r:Int) (h:P22 a0 a1 a2 a3=some r):pc prog 22 [zad a0,.int .i64 a1,.int .i64 a2,.int .i64 a3]=some ((D.int .i64) r):=by
 unfold P22 at h
 refine zaR (fn:=c22) rfl rfl ?_
 delta c22
 try simp only[go_sem]
 obtain⟨r4,hl5,h⟩:=bs h
 refine WBr.cut (n:=(0,[])) .normal ⟨(((((Regs.none.set 1 (.d (.int .i64 a1))).set 2 (.d (.int .i64 a2))).set 3 (.d (.int .i64 a3))).set 4 (.ptr 0 0 0)).set 9 (.sl 7 0 r4.length)),(((Heap.at 8).set 0 (some (.els 1 [.d (zad a0)] 0))).set 7 (some (.els 1 (r4.map fun z=>V.d ((D.int .i64) z)) r4.length)))⟩ ?_ (by(repeat(refine Clo.seq zbb rfl ?_));(exact Clo.ret)) ?_
 ·replace h:=hl5
  refine zaG (fun hc1=> ?_) (fun hc2=> ?_)
  ·rw[if_pos (show(!(a3==0))=true by(rw[hc1];rfl))]at h
   try simp only[go_sem]
   obtain⟨hm3,h⟩:=zcV h
   refine zgH (l:=([a1,a2]).map fun z=>V.d ((D.int .i64) z)) (fz:=0) (new:=[V.d (.int .i64 a3)]) (by simp only[go_sem,List.map_append,List.map_cons,List.map_nil]) (by simp only[go_sem,zcS,zdG,zcT,zbM,zkg]) (by simp) (by simp only[go_sem]) (by simp) (by simpa using hm3) ?_
   try simp only[go_sem,hm3]
   cases h
   exact⟨rfl,Up.of (N:=8) (N':=13) [(7,11)] rfl rfl (by decide) (.set (.sl'' rfl (by rfl)) (.set (.ptr' rfl) (.set (.d _) (.set (.d _) (.set (.d _) zao.none))))) (.set (zaw.arr (e:=(D.int .i64)) (l:=([a1,a2]++[a3])) (by rfl) (by simp)) (.set zaw.refl_d zar.at))⟩
  rw[if_neg (ffn hc2)]at h
  try simp only[go_sem]
  cases h
  refine⟨rfl,Up.of (N:=8) (N':=8) [(4,7),(7,4)] rfl rfl (by decide) ?_ ?_⟩
  ·refine zao.set ?_ (zao.set ?_ (zao.set ?_ (zao.set ?_ (zao.set ?_ zao.none))))
   all_goals (try simp only[go_sem,List.map_append,List.map_cons,List.map_nil])
   all_goals (first|exact VR.d _|exact VR.ptr' rfl|exact VR.sl'' rfl (by simp))
  refine zar.set (show zaw _ _ (Heap.get _ 4)from ?_) (zar.set (show zaw _ _ (Heap.get _ 0)from ?_) (zar.at))
  all_goals (try simp only[go_sem,List.map_append,List.map_cons,List.map_nil])
  all_goals (((repeat' first|exact zaw.refl_d|refine zaw.els (by simp) ?_|exact VR.d _|exact VRL.nil|refine VRL.cons ?_ ?_);done))
 try simp only[go_sem]
 obtain⟨r6,hr7,h⟩:=bs h
 replace hr7:=zaj hr7
 refine zam hr7 ?_
 try simp only[go_sem]
 refine zaG (fun hc8=> ?_) (fun hc9=> ?_)
 ·rw[if_pos (show(!(r6==0))=true by(rw[hc8];rfl))]at h
  try simp only[go_sem]
  cases h
  rfl
 rw[if_neg (ffn hc9)]at h
 try simp only[go_sem]
 obtain⟨r10,hr11,h⟩:=bs h
 replace hr11:=zaj hr11
 refine zam hr11 ?_
 try simp only[go_sem]
 cases h
 rfl
noncomputable def P24 (a0:Forest) (a1:Int) (a2:Int) (a3:Int):Option (Int):=
 (dec (D.int .i64) (pc prog 87 [zad a0,.list false (([a2,a1,a3]).map (D.int .i64))])).bind fun r1=>
 if(!(r1==0))=true then
  some r1
 else
  (dec (D.int .i64) (pc prog 88 [zaq (⟨⟨a0.nodes⟩,a2,a3,true⟩:valid_ask),.int .i64 a1])).bind fun r5=>
  some r5
theorem zMq (a0:Forest) (a1:Int) (a2:Int) (a3:Int) (r:Int) (h:P24 a0 a1 a2 a3=some r):pc prog 24 [zad a0,.int .i64 a1,.int .i64 a2,.int .i64 a3]=some ((D.int .i64) r):=by
 unfold P24 at h
 refine zaR (fn:=c24) rfl rfl ?_
 delta c24
 try simp only[go_sem]
 obtain⟨r1,hr2,h⟩:=bs h
 replace hr2:=zaj hr2
 refine zam hr2 ?_
 try simp only[go_sem]
 refine zaG (fun hc3=> ?_) (fun hc4=> ?_)
 ·rw[if_pos (show(!(r1==0))=true by(rw[hc3];rfl))]at h
  try simp only[go_sem]
  cases h
  rfl
 rw[if_neg (ffn hc4)]at h
 try simp only[go_sem]
 obtain⟨r5,hr6,h⟩:=bs h
 replace hr6:=zaj hr6
 refine zam hr6 ?_
 try simp only[go_sem]
 cases h
 rfl
noncomputable def P25 (a0:Forest) (a1:Int) (a2:Int) (a3:Int):Option (Int):=
 (dec (D.int .i64) (pc prog 45 [zad a0,.list false (([a1,a2,a3]).map (D.int .i64))])).bind fun r1=>
 if(!(r1==0))=true then
  some r1
 else
  (dec (D.int .i64) (pc prog 89 [zad a0,.int .i64 a2,.int .i64 a1,.int .i64 a3,.bool true])).bind fun r5=>
  some r5
theorem zMr (a0:Forest) (a1:Int) (a2:Int) (a3:Int) (r:Int) (h:P25 a0 a1 a2 a3=some r):pc prog 25 [zad a0,.int .i64 a1,.int .i64 a2,.int .i64 a3]=some ((D.int .i64) r):=by
 unfold P25 at h
 refine zaR (fn:=c25) rfl rfl ?_
 delta c25
 try simp only[go_sem]
 obtain⟨r1,hr2,h⟩:=bs h
 replace hr2:=zaj hr2
 refine zam hr2 ?_
 try simp only[go_sem]
 refine zaG (fun hc3=> ?_) (fun hc4=> ?_)
 ·rw[if_pos (show(!(r1==0))=true by(rw[hc3];rfl))]at h
  try simp only[go_sem]
  cases h
  rfl
 rw[if_neg (ffn hc4)]at h
 try simp only[go_sem]
 obtain⟨r5,hr6,h⟩:=bs h
 replace hr6:=zaj hr6
 refine zam hr6 ?_
 try simp only[go_sem]
 cases h
 rfl
noncomputable def P26 (a0:Forest) (a1:Int):Option (Int):=
 (dec (D.int .i64) (pc prog 87 [zad a0,.list false (([a1]).map (D.int .i64))])).bind fun r1=>
 (dec zah (pc prog 91 [zad a0,.int .i64 a1])).bind fun r3=>
 if(!(r1==0))=true then
  some r1
 else
  if(r3.kind==9)=true then
   some (17)
  else
   if(r3.kind==12)=true then
    some (10)
   else
    some (0)
theorem zMs (a0:Forest) (a1:Int) (r:Int) (h:P26 a0 a1=some r):pc prog 26 [zad a0,.int .i64 a1]=some ((D.int .i64) r):=by
 unfold P26 at h
 refine zaR (fn:=c26) rfl rfl ?_
 delta c26
 try simp only[go_sem]
 obtain⟨r1,hr2,h⟩:=bs h
 replace hr2:=zaj hr2
 refine zam hr2 ?_
 try simp only[go_sem]
 obtain⟨r3,hr4,h⟩:=bs h
 replace hr4:=zaj hr4
 refine zam hr4 ?_
 try simp only[go_sem]
 refine zaG (fun hc5=> ?_) (fun hc6=> ?_)
 ·rw[if_pos (show(!(r1==0))=true by(rw[hc5];rfl))]at h
  try simp only[go_sem]
  cases h
  rfl
 rw[if_neg (ffn hc6)]at h
 try simp only[go_sem]
 refine zag (fun hc7=> ?_) (fun hc8=> ?_)
 ·rw[if_pos hc7]at h
  try simp only[go_sem]
  cases h
  rfl
 rw[if_neg (ff hc8)]at h
 try simp only[go_sem]
 refine zag (fun hc9=> ?_) (fun hc10=> ?_)
 ·rw[if_pos hc9]at h
  try simp only[go_sem]
  cases h
  rfl
 rw[if_neg (ff hc10)]at h
 try simp only[go_sem]
 cases h
 rfl
noncomputable def P27 (a0:Forest) (a1:Int):Option (Int):=
 (dec (D.int .i64) (pc prog 45 [zad a0,.list false (([a1]).map (D.int .i64))])).bind fun r1=>
 if(!(r1==0))=true then
  some r1
 else
  (dec (D.int .u8) (pc prog 92 [zad a0,.int .i64 a1])).bind fun r5=>
  if(r5==9)=true then
   some (17)
  else
   if(r5==12)=true then
    some (10)
   else
    some (0)
theorem zMt (a0:Forest) (a1:Int) (r:Int) (h:P27 a0 a1=some r):pc prog 27 [zad a0,.int .i64 a1]=some ((D.int .i64) r):=by
 unfold P27 at h
 refine zaR (fn:=c27) rfl rfl ?_
 delta c27
 try simp only[go_sem]
 obtain⟨r1,hr2,h⟩:=bs h
 replace hr2:=zaj hr2
 refine zam hr2 ?_
 try simp only[go_sem]
 refine zaG (fun hc3=> ?_) (fun hc4=> ?_)
 ·rw[if_pos (show(!(r1==0))=true by(rw[hc3];rfl))]at h
  try simp only[go_sem]
  cases h
  rfl
 rw[if_neg (ffn hc4)]at h
 try simp only[go_sem]
 obtain⟨r5,hr6,h⟩:=bs h
 replace hr6:=zaj hr6
 refine zam hr6 ?_
 try simp only[go_sem]
 refine zag (fun hc7=> ?_) (fun hc8=> ?_)
 ·rw[if_pos hc7]at h
  try simp only[go_sem]
  cases h
  rfl
 rw[if_neg (ff hc8)]at h
 try simp only[go_sem]
 refine zag (fun hc9=> ?_) (fun hc10=> ?_)
 ·rw[if_pos hc9]at h
  try simp only[go_sem]
  cases h
  rfl
 rw[if_neg (ff hc10)]at h
 try simp only[go_sem]
 cases h
 rfl
def zhU (a0:Forest) (r1:Node×Bool) (x0:Int×List (Int)):St:=⟨(((((Regs.none.set 2 (.ptr 0 0 0)).set 7 (.sl 18 0 x0.2.length)).set 30 (.d (.list r1.1.kids.n (r1.1.kids.l.map (D.int .i64))))).set 31 (.d (.int .i64 (r1.1.kids.l.length:Int)))).set 32 (.d (.int .i64 x0.1))),(((Heap.at 23).set 0 (some (.els 1 [.d (zad a0)] 0))).set 18 (some (.els 1 (x0.2.map fun z=>V.d ((D.int .i64) z)) x0.2.length)))⟩
def zpG (a0:Forest) (r1:Node×Bool):((List (Int)))→Ex×St:=fun r=>(.exit 0,⟨(Regs.none.set 7 (.sl 22 0 r.length)),((Heap.at 23).set 22 (some (.els 1 (r.map fun z=>V.d ((D.int .i64) z)) r.length)))⟩)
noncomputable def zcG (a0:Forest) (r1:Node×Bool) (x0:Int×List (Int)):Option ((Int×List (Int))⊕((List (Int)))):=
 if(decide (x0.1<(r1.1.kids.l.length:Int)))=true then
  (rd r1.1.kids.l x0.1).bind fun y16=>
  (dec (eSl (D.int .i64)) (pc prog 34 [zad a0,.int .i64 y16])).bind fun r18=>
  if r18.l=[]then
   some (.inl ((IntKind.wrap .i64 (x0.1+1)),x0.2))
  else
   if(x0.2.length+r18.l.length)*8≤AI.roomBytes then
    some (.inl ((IntKind.wrap .i64 (x0.1+1)),(x0.2++r18.l)))
   else none
 else
  some (.inr x0.2)
theorem zAS (a0:Forest) (r1:Node×Bool) (x0:Int×List (Int)) (o:(Int×List (Int))⊕((List (Int)))) (h:zcG a0 r1 x0=some o):Wp prog zAx (zhU a0 r1 x0) (zbW (0,[]) (zhU a0 r1) (zpG a0 r1) o):=by
 unfold zcG at h
 delta zAx zhU
 try simp only[go_sem]
 refine zag (fun hc14=> ?_) (fun hc15=> ?_)
 ·rw[if_pos hc14]at h
  try simp only[go_sem]
  obtain⟨y16,hy17,h⟩:=bs h
  try simp only[go_sem,zab hy17,zaf hy17,zac (D.int .i64) hy17]
  obtain⟨r18,hr19,h⟩:=bs h
  replace hr19:=zaj hr19
  refine zam hr19 ?_
  try simp only[go_sem,zab hy17,zaf hy17,zac (D.int .i64) hy17]
  by_cases hz20:r18.l=[]
  ·rw[if_pos hz20]at h
   refine zjH (by simp only[go_sem,zcS,zdG,zcT,zbM,zkg,List.map_nil,hz20]) (by rfl) ?_
   try simp only[go_sem,zab hy17,zaf hy17,zac (D.int .i64) hy17]
   cases h
   exact⟨rfl,Up.of (N:=23) (N':=35) [] rfl rfl (by decide) (.set (.d _) (.set (.d _) (.set (.d _) (.set (.sl'' rfl (by rfl)) (.set (.ptr' rfl) zao.none))))) (.set (zaw.arr (e:=(D.int .i64)) (l:=x0.2) (by rfl) (by exact Nat.le_refl _)) (.set zaw.refl_d zar.at))⟩
  have hz21:=hz20;rw[if_neg hz21]at h
  obtain⟨hm22,h⟩:=zcV h
  refine zgH (l:=x0.2.map fun z=>V.d ((D.int .i64) z)) (fz:=x0.2.length) (new:=r18.l.map fun z=>V.d ((D.int .i64) z)) (by simp only[go_sem,List.map_append,List.map_cons,List.map_nil,zab hy17,zaf hy17,zac (D.int .i64) hy17]) (by simp only[go_sem,zcS,zdG,zcT,zbM,zkg]) (by simpa using hz21) (by rw[←zkg];exact zhs (e:=(D.int .i64)) (fun _=>rfl) (fun _=>rfl) _) (by simp) (by simpa using hm22) ?_
  try simp only[go_sem,zab hy17,zaf hy17,zac (D.int .i64) hy17,hm22]
  cases h
  exact⟨rfl,Up.of (N:=23) (N':=35) [(18,31)] rfl rfl (by decide) (.set (.d _) (.set (.d _) (.set (.d _) (.set (.sl'' rfl (by(simp;done))) (.set (.ptr' rfl) zao.none))))) (.set (zaw.arr (e:=(D.int .i64)) (l:=(x0.2++r18.l)) (by simp) (by simp)) (.set zaw.refl_d zar.at))⟩
 rw[if_neg (ff hc15)]at h
 try simp only[go_sem]
 cases h
 exact⟨rfl,by simp,Up.of (N:=23) (N':=24) [(18,22),(22,18)] rfl rfl (by decide) (.set (.sl'' rfl (by rfl)) zao.none) (.set (zaw.arr (e:=(D.int .i64)) (l:=x0.2) (by rfl) (by exact Nat.le_refl _)) zar.at)⟩
noncomputable def P34 (a0:Forest) (a1:Int):Option (Sl (Int)):=
 (dec (eT2 zah D.bool) (pc prog 31 [zad a0,.int .i64 a1])).bind fun r1=>
 if(!r1.2)=true then
  some (⟨true,[]⟩)
 else
  (if(!(r1.1.shadow==0))=true then
   (dec (eSl (D.int .i64)) (pc prog 34 [zad a0,.int .i64 r1.1.shadow])).bind fun r7=>
   if r7.l=[]then
    some [a1]
   else
    if(([a1]).length+r7.l.length)*8≤AI.roomBytes then
     some ([a1]++r7.l)
    else none
  else
   some [a1]:Option ((List (Int)))).bind fun r12=>
  (zaU (zcG a0 r1) (0,r12)).bind fun r23=>
  some (⟨false,r23⟩)
theorem zLW (a0:Forest) (a1:Int) (r:Sl (Int)) (h:P34 a0 a1=some r):pc prog 34 [zad a0,.int .i64 a1]=some ((eSl (D.int .i64)) r):=by
 unfold P34 at h
 refine zaR (fn:=c34) rfl rfl ?_
 delta c34
 try simp only[go_sem]
 obtain⟨r1,hr2,h⟩:=bs h
 replace hr2:=zaj hr2
 refine zam hr2 ?_
 try simp only[go_sem]
 refine zaG (fun hc3=> ?_) (fun hc4=> ?_)
 ·rw[if_pos (show(!r1.2)=true by(rw[hc3];rfl))]at h
  try simp only[go_sem]
  cases h
  rfl
 rw[if_neg (ffn hc4)]at h
 try simp only[go_sem]
 obtain⟨r12,hl13,h⟩:=bs h
 refine WBr.cut (n:=(0,[])) .normal ⟨(((Regs.none.set 2 (.ptr 0 0 0)).set 5 (.ptr 8 0 0)).set 7 (.sl 18 0 r12.length)),((((Heap.at 19).set 0 (some (.els 1 [.d (zad a0)] 0))).set 8 (some (.els 16 [.d (zah r1.1)] 0))).set 18 (some (.els 1 (r12.map fun z=>V.d ((D.int .i64) z)) r12.length)))⟩ ?_ (by(repeat(refine Clo.seq zbb rfl ?_));(exact Clo.ret)) ?_
 ·replace h:=hl13
  refine zaG (fun hc5=> ?_) (fun hc6=> ?_)
  ·rw[if_pos (show(!(r1.1.shadow==0))=true by(rw[hc5];rfl))]at h
   try simp only[go_sem]
   obtain⟨r7,hr8,h⟩:=bs h
   replace hr8:=zaj hr8
   refine zam hr8 ?_
   try simp only[go_sem]
   by_cases hz9:r7.l=[]
   ·rw[if_pos hz9]at h
    refine zjH (by simp only[go_sem,zcS,zdG,zcT,zbM,zkg,List.map_nil,hz9]) (by rfl) ?_
    try simp only[go_sem]
    cases h
    refine⟨rfl,Up.of (N:=19) (N':=26) [(14,18),(18,14)] rfl rfl (by decide) ?_ ?_⟩
    ·refine zao.set ?_ (zao.set ?_ (zao.set ?_ zao.none))
     all_goals (try simp only[go_sem,List.map_append,List.map_cons,List.map_nil])
     all_goals (first|exact VR.ptr' rfl|exact VR.sl'' rfl (by simp))
    refine zar.set (show zaw _ _ (Heap.get _ 14)from ?_) (zar.set (show zaw _ _ (Heap.get _ 8)from ?_) (zar.set (show zaw _ _ (Heap.get _ 0)from ?_) (zar.at)))
    all_goals (try simp only[go_sem,List.map_append,List.map_cons,List.map_nil])
    all_goals (((repeat' first|exact zaw.refl_d|refine zaw.els (by simp) ?_|exact VR.d _|exact VRL.nil|refine VRL.cons ?_ ?_);done))
   have hz10:=hz9;rw[if_neg hz10]at h
   obtain⟨hm11,h⟩:=zcV h
   refine zgH (l:=([a1]).map fun z=>V.d ((D.int .i64) z)) (fz:=0) (new:=r7.l.map fun z=>V.d ((D.int .i64) z)) (by simp only[go_sem,List.map_append,List.map_cons,List.map_nil]) (by simp only[go_sem,zcS,zdG,zcT,zbM,zkg]) (by simpa using hz10) (by rw[←zkg];exact zhs (e:=(D.int .i64)) (fun _=>rfl) (fun _=>rfl) _) (by simp) (by simpa using hm11) ?_
   try simp only[go_sem,hm11]
   cases h
   exact⟨rfl,Up.of (N:=19) (N':=26) [(18,24)] rfl rfl (by decide) (.set (.sl'' rfl (by(simp;omega))) (.set (.ptr' rfl) (.set (.ptr' rfl) zao.none))) (.set (zaw.arr (e:=(D.int .i64)) (l:=([a1]++r7.l)) (by rfl) (by simp)) (.set zaw.refl_d (.set zaw.refl_d zar.at)))⟩
  rw[if_neg (ffn hc6)]at h
  try simp only[go_sem]
  cases h
  refine⟨rfl,Up.of (N:=19) (N':=19) [(14,18),(18,14)] rfl rfl (by decide) ?_ ?_⟩
  ·refine zao.set ?_ (zao.set ?_ (zao.set ?_ zao.none))
   all_goals (try simp only[go_sem,List.map_append,List.map_cons,List.map_nil])
   all_goals (first|exact VR.ptr' rfl|exact VR.sl'' rfl (by simp))
  refine zar.set (show zaw _ _ (Heap.get _ 14)from ?_) (zar.set (show zaw _ _ (Heap.get _ 8)from ?_) (zar.set (show zaw _ _ (Heap.get _ 0)from ?_) (zar.at)))
  all_goals (try simp only[go_sem,List.map_append,List.map_cons,List.map_nil])
  all_goals (((repeat' first|exact zaw.refl_d|refine zaw.els (by simp) ?_|exact VR.d _|exact VRL.nil|refine VRL.cons ?_ ?_);done))
 try simp only[go_sem]
 obtain⟨r23,hl24,h⟩:=bs h
 refine Wp.loopR zbb (n:=(0,[])) (a:=zAx) rfl (zhU a0 r1) (zpG a0 r1) (zAS a0 r1) hl24 ?_ (by(repeat(first|refine Clo.block ?_|refine Clo.seq zbb rfl ?_));(exact Clo.ret)) ?_
 ·show Up (0,[]) (zhU a0 r1 (0,r12)) _
  delta zhU
  exact Up.of (N:=23) (N':=23) [] rfl rfl (by decide) (.set (.d _) (.set (.d _) (.set (.d _) (.set (.sl'' rfl (by rfl)) (.set (.ptr' rfl) zao.none))))) (.set (zaw.arr (e:=(D.int .i64)) (l:=r12) (by rfl) (by exact Nat.le_refl _)) (.set zaw.refl_d zar.at))
 dsimp only[zpG]
 try simp only[go_sem]
 cases h
 refine Reads.ofv (v':= .sl 22 0 r23.length) (by rfl) (Rd.sl (e:=(D.int .i64)) (l:=r23) (sz:=1) (fz:=r23.length) (m:=r23.map fun z=>V.d ((D.int .i64) z)) (by simp only[go_sem,List.map_append,List.map_cons,List.map_nil]) rfl (by simp)) rfl
noncomputable def P88 (a0:valid_ask) (a1:Int):Option (Int):=
 (dec zah (pc prog 91 [zad a0.f,.int .i64 a0.parent])).bind fun r1=>
 (dec zah (pc prog 91 [zad a0.f,.int .i64 a1])).bind fun r3=>
 (dec (eT2 D.bool (D.int .i64)) (pc prog 61 [zad a0.f,.int .i64 a1,.int .i64 a0.parent])).bind fun r5=>
 (dec D.bool (pc prog 158 [.int .u8 r1.kind])).bind fun r7=>
 if(bif (!r7)then true else r5.1)=true then
  some (10)
 else
  (if(!(a0.child==0))=true then
   (dec zah (pc prog 91 [zad a0.f,.int .i64 a0.child])).bind fun r13=>
   some (!(r13.parent==a0.parent))
  else
   some false:Option ((Bool))).bind fun r15=>
  if r15=true then
   some (11)
  else
   if(bif (r3.kind==9)then true else(r3.kind==12))=true then
    some (10)
   else
    (dec D.bool (pc prog 140 [.int .u8 r3.kind])).bind fun r21=>
    if(!(bif r21 then(r1.kind==9)else false))=true then
     if(bif (r3.kind==10)then(!(r1.kind==9))else false)=true then
      some (10)
     else
      if(r1.kind==9)=true then
       (zhe a0 r3.kind a1).bind fun r29=>
       if(!r29)=true then
        some (10)
       else
        some (0)
      else
       some (0)
    else
     some (10)
theorem zMu (a0:valid_ask) (a1:Int) (r:Int) (h:P88 a0 a1=some r):pc prog 88 [zaq a0,.int .i64 a1]=some ((D.int .i64) r):=by
 unfold P88 at h
 refine zaR (fn:=c88) rfl rfl ?_
 delta c88
 try simp only[go_sem]
 obtain⟨r1,hr2,h⟩:=bs h
 replace hr2:=zaj hr2
 refine zam hr2 ?_
 try simp only[go_sem]
 obtain⟨r3,hr4,h⟩:=bs h
 replace hr4:=zaj hr4
 refine zam hr4 ?_
 try simp only[go_sem]
 obtain⟨r5,hr6,h⟩:=bs h
 replace hr6:=zaj hr6
 refine zam hr6 ?_
 try simp only[go_sem]
 obtain⟨r7,hr8,h⟩:=bs h
 replace hr8:=zaj hr8
 refine zam hr8 ?_
 try simp only[go_sem]
 refine zaa (v:= .d (.bool r5.1)) (fun hb54=>by simp only[go_sem,hb54]) ?_
 try simp only[go_sem]
 refine zag (fun hc9=> ?_) (fun hc10=> ?_)
 ·rw[if_pos hc9]at h
  try simp only[go_sem]
  cases h
  rfl
 rw[if_neg (ff hc10)]at h
 try simp only[go_sem]
 refine zaa (v:= .ptr 0 0 0) (fun hb53=>by simp only[go_sem,hc10,hb53]) ?_
 try simp only[go_sem]
 refine zaa (v:= .d (zad a0.f)) (fun hb52=>by simp only[go_sem,hc10,hb52]) ?_
 try simp only[go_sem]
 refine zaa (v:= .ptr 0 0 2) (fun hb51=>by simp only[go_sem,hc10,hb51]) ?_
 try simp only[go_sem]
 refine zaa (v:= .d (.int .i64 a0.child)) (fun hb50=>by simp only[go_sem,hc10,hb50]) ?_
 try simp only[go_sem]
 obtain⟨r15,hl16,h⟩:=bs h
 refine zbI.cut (n:=(0,[])) .normal ⟨(((((Regs.none.set 1 (.d (.int .i64 a1))).set 2 (.ptr 0 0 0)).set 6 (.ptr 12 0 0)).set 9 (.d (.bool (r1.kind==9)))).set 39 (.d (.bool r15))),(((Heap.at 53).set 0 (some (.els 4 [.d (zaq a0)] 0))).set 12 (some (.els 16 [.d (zah r3)] 0)))⟩ ?_ (by(repeat(first|refine Clo.block ?_|refine Clo.seq zbb rfl ?_));(exact Clo.ret)) ?_
 ·replace h:=hl16
  refine zax (fun hc11=> ?_) (fun hc12=> ?_)
  ·rw[if_pos (show(!(a0.child==0))=true by(rw[hc11];rfl))]at h
   try simp only[go_sem,hc11]
   obtain⟨r13,hr14,h⟩:=bs h
   replace hr14:=zaj hr14
   refine zam hr14 ?_
   try simp only[go_sem]
   cases h
   exact⟨rfl,Up.of (N:=53) (N':=53) [] rfl rfl (by decide) (.set (.d _) (.set (.d _) (.set (.ptr' rfl) (.set (.ptr' rfl) (.set (.d _) zao.none))))) (.set zaw.refl_d (.set zaw.refl_d zar.at))⟩
  rw[if_neg (ffn hc12)]at h
  try simp only[go_sem,hc12]
  cases h
  exact⟨rfl,Up.of (N:=53) (N':=53) [] rfl rfl (by decide) (.set (.d _) (.set (.d _) (.set (.ptr' rfl) (.set (.ptr' rfl) (.set (.d _) zao.none))))) (.set zaw.refl_d (.set zaw.refl_d zar.at))⟩
 try simp only[go_sem]
 refine zag (fun hc17=> ?_) (fun hc18=> ?_)
 ·rw[if_pos hc17]at h
  try simp only[go_sem]
  cases h
  rfl
 rw[if_neg (ff hc18)]at h
 try simp only[go_sem]
 refine zaa (v:= .ptr 12 0 0) (fun hb49=>by simp only[go_sem,hc10,hc18,hb49]) ?_
 try simp only[go_sem]
 refine zaa (v:= .d (.int .u8 r3.kind)) (fun hb48=>by simp only[go_sem,hc10,hc18,hb48]) ?_
 try simp only[go_sem]
 refine zaa (v:= .d (.bool (r3.kind==12))) (fun hb47=>by simp only[go_sem,hc10,hc18,hb47]) ?_
 try simp only[go_sem]
 refine zag (fun hc19=> ?_) (fun hc20=> ?_)
 ·rw[if_pos hc19]at h
  try simp only[go_sem]
  cases h
  rfl
 rw[if_neg (ff hc20)]at h
 try simp only[go_sem]
 obtain⟨r21,hr22,h⟩:=bs h
 replace hr22:=zaj hr22
 refine zam hr22 ?_
 try simp only[go_sem]
 refine zaa (v:= .d (.bool (r1.kind==9))) (fun hb46=>by simp only[go_sem,hc10,hc18,hc20,hb46]) ?_
 try simp only[go_sem]
 refine zaa (v:= .ptr 12 0 0) (fun hb45=>by simp only[go_sem,hc10,hc18,hc20,hb45]) ?_
 try simp only[go_sem]
 refine zaa (v:= .d (.int .u8 r3.kind)) (fun hb44=>by simp only[go_sem,hc10,hc18,hc20,hb44]) ?_
 try simp only[go_sem]
 refine zaa (v:= .d (.bool (r3.kind==10))) (fun hb43=>by simp only[go_sem,hc10,hc18,hc20,hb43]) ?_
 try simp only[go_sem]
 refine zaa (v:= .d (.bool (r3.kind==10))) (fun hb42=>by simp only[go_sem,hc10,hc18,hc20,hb42]) ?_
 try simp only[go_sem]
 refine zaa (v:= .d (.bool (r1.kind==9))) (fun hb39=>by((obtain⟨hb40,hb41⟩:=zaA hb39));simp only[go_sem,hc10,hc18,hc20,hb41,hb40]) ?_
 try simp only[go_sem]
 refine zaa (v:= .d (.bool (!(r1.kind==9)))) (fun hb36=>by((obtain⟨hb37,hb38⟩:=zaA hb36));simp only[go_sem,hc10,hc18,hc20,hb38,hb37]) ?_
 try simp only[go_sem]
 refine zax (fun hc23=> ?_) (fun hc24=> ?_)
 ·rw[if_pos (show(!(bif r21 then(r1.kind==9)else false))=true by(rw[hc23];rfl))]at h
  try simp only[go_sem,hc23]
  refine zag (fun hc25=> ?_) (fun hc26=> ?_)
  ·rw[if_pos hc25]at h
   try simp only[go_sem]
   cases h
   rfl
  rw[if_neg (ff hc26)]at h
  try simp only[go_sem]
  refine zaa (v:= .d (zaq a0)) (fun hb35=>by simp only[go_sem,hc10,hc18,hc20,hc23,hc26,hb35]) ?_
  try simp only[go_sem]
  refine zaa (v:= .ptr 12 0 0) (fun hb34=>by simp only[go_sem,hc10,hc18,hc20,hc23,hc26,hb34]) ?_
  try simp only[go_sem]
  refine zaa (v:= .d (.int .u8 r3.kind)) (fun hb33=>by simp only[go_sem,hc10,hc18,hc20,hc23,hc26,hb33]) ?_
  try simp only[go_sem]
  refine zav (fun hc27=> ?_) (fun hc28=> ?_)
  ·rw[if_pos hc27]at h
   try simp only[go_sem,hc27]
   refine znp zbb (n:=(89,[])) (n':=(0,[])) (N:=89) (v:=zhd a0 r3.kind) (zAR a0 r3.kind _) (by repeat(first|exact zcW.at|refine zcW.set (by decide) ?_ ?_|refine zgK.els ?_|exact zhf.nil|refine zhf.cons ?_ ?_|exact zfI.d)) rfl (by decide) ?_ rfl rfl rfl ?_ ?_ (show Fx.spans _ 78 11=true from by decide) (by decide) (by(repeat(first|refine Clo.block ?_|refine Clo.seq zbb rfl ?_));(exact Clo.ret)) ?_;(repeat(first|exact zaW.no|refine zaW.set ?_ ?_|exact zbl.nil|refine zbl.cons ?_ ?_|exact zaM.d|exact zaM.ptr (by decide)|refine zaM.clo ?_ ?_));(repeat(first|exact zaW.no|exact zaW.none|refine zaW.set ?_ ?_|refine zaW.args ?_|exact zbl.nil|refine zbl.cons ?_ ?_|exact zaM.d|exact zaM.undef|exact zaM.rp|exact zaM.ptr (by decide)|exact zaM.sl (by decide)|exact zaM.mb (by decide)|exact zaM.map (by decide)|exact zaM.yld (by decide)|exact zaM.it (by decide)|refine zaM.clo ?_ ?_|refine zaM.ofCells ?_|refine zaM.agg ?_|refine zaM.tuple ?_|refine zaM.bif ?_ ?_));(repeat(first|exact zaW.no|exact zaW.none|refine zaW.set ?_ ?_|refine zaW.args ?_|exact zbl.nil|refine zbl.cons ?_ ?_|exact zaM.d|exact zaM.undef|exact zaM.rp|exact zaM.ptr (by decide)|exact zaM.sl (by decide)|exact zaM.mb (by decide)|exact zaM.map (by decide)|exact zaM.yld (by decide)|exact zaM.it (by decide)|refine zaM.clo ?_ ?_|refine zaM.ofCells ?_|refine zaM.agg ?_|refine zaM.tuple ?_|refine zaM.bif ?_ ?_))
   try simp only[go_sem]
   obtain⟨r29,hr30,h⟩:=bs h
   refine znp zbb (n:=(89,[])) (n':=(0,[])) (N:=89) (v:= .d (.bool r29)) (zob hr30 _) (by repeat(first|exact zcW.at|refine zcW.set (by decide) ?_ ?_|refine zgK.els ?_|exact zhf.nil|refine zhf.cons ?_ ?_|exact zfI.d)) rfl (by decide) ?_ rfl rfl rfl ?_ ?_ (show Fx.spans _ 78 11=true from by decide) (by decide) (by(repeat(first|refine Clo.block ?_|refine Clo.seq zbb rfl ?_));(exact Clo.ret)) ?_;(repeat(first|exact zaW.no|refine zaW.set ?_ ?_|exact zbl.nil|refine zbl.cons ?_ ?_|exact zaM.d|exact zaM.ptr (by decide)|refine zaM.clo ?_ ?_));(repeat(first|exact zaW.no|exact zaW.none|refine zaW.set ?_ ?_|refine zaW.args ?_|exact zbl.nil|refine zbl.cons ?_ ?_|exact zaM.d|exact zaM.undef|exact zaM.rp|exact zaM.ptr (by decide)|exact zaM.sl (by decide)|exact zaM.mb (by decide)|exact zaM.map (by decide)|exact zaM.yld (by decide)|exact zaM.it (by decide)|refine zaM.clo ?_ ?_|refine zaM.ofCells ?_|refine zaM.agg ?_|refine zaM.tuple ?_|refine zaM.bif ?_ ?_));(repeat(first|exact zaW.no|exact zaW.none|refine zaW.set ?_ ?_|refine zaW.args ?_|exact zbl.nil|refine zbl.cons ?_ ?_|exact zaM.d|exact zaM.undef|exact zaM.rp|exact zaM.ptr (by decide)|exact zaM.sl (by decide)|exact zaM.mb (by decide)|exact zaM.map (by decide)|exact zaM.yld (by decide)|exact zaM.it (by decide)|refine zaM.clo ?_ ?_|refine zaM.ofCells ?_|refine zaM.agg ?_|refine zaM.tuple ?_|refine zaM.bif ?_ ?_))
   try simp only[go_sem]
   refine zaG (fun hc31=> ?_) (fun hc32=> ?_)
   ·rw[if_pos (show(!r29)=true by(rw[hc31];rfl))]at h
    try simp only[go_sem]
    cases h
    rfl
   rw[if_neg (ffn hc32)]at h
   try simp only[go_sem]
   cases h
   rfl
  rw[if_neg (ff hc28)]at h
  try simp only[go_sem,hc28]
  cases h
  rfl
 rw[if_neg (ffn hc24)]at h
 try simp only[go_sem,hc24]
 cases h
 rfl
noncomputable def P89 (a0:Forest) (a1:Int) (a2:Int) (a3:Int) (a4:Bool):Option (Int):=
 (dec (D.int .u8) (pc prog 92 [zad a0,.int .i64 a1])).bind fun r1=>
 (dec (D.int .u8) (pc prog 92 [zad a0,.int .i64 a2])).bind fun r3=>
 (dec D.bool (pc prog 73 [.int .u8 r1])).bind fun r5=>
 (if(!r5)=true then
  some (!r5)
 else
  (dec D.bool (pc prog 68 [zad a0,.int .i64 a2,.int .i64 a1])).bind fun r9=>
  some r9:Option ((Bool))).bind fun r11=>
 if r11=true then
  some (10)
 else
  (if(!(a3==0))=true then
   (dec zah (pc prog 128 [zad a0,.int .i64 a3])).bind fun r17=>
   some (!(r17.parent==a1))
  else
   some false:Option ((Bool))).bind fun r19=>
  if r19=true then
   some (11)
  else
   if(bif (r3==9)then true else(r3==12))=true then
    some (10)
   else
    (dec D.bool (pc prog 160 [.int .u8 r3])).bind fun r25=>
    (if(bif r25 then(r1==9)else false)=true then
     some (bif r25 then(r1==9)else false)
    else
     some (bif (r3==10)then(!(r1==9))else false):Option ((Bool))).bind fun r31=>
    if r31=true then
     some (10)
    else
     if(r1==9)=true then
      (dec D.bool (pc prog 161 [zad a0,.int .i64 a1,.int .i64 a2,.int .i64 a3,.bool a4])).bind fun r37=>
      if(!r37)=true then
       some (10)
      else
       some (0)
     else
      some (0)
theorem zMv (a0:Forest) (a1:Int) (a2:Int) (a3:Int) (a4:Bool) (r:Int) (h:P89 a0 a1 a2 a3 a4=some r):pc prog 89 [zad a0,.int .i64 a1,.int .i64 a2,.int .i64 a3,.bool a4]=some ((D.int .i64) r):=by
 unfold P89 at h
 refine zaR (fn:=c89) rfl rfl ?_
 delta c89
 try simp only[go_sem]
 obtain⟨r1,hr2,h⟩:=bs h
 replace hr2:=zaj hr2
 refine zam hr2 ?_
 try simp only[go_sem]
 obtain⟨r3,hr4,h⟩:=bs h
 replace hr4:=zaj hr4
 refine zam hr4 ?_
 try simp only[go_sem]
 obtain⟨r5,hr6,h⟩:=bs h
 replace hr6:=zaj hr6
 refine zam hr6 ?_
 try simp only[go_sem]
 obtain⟨r11,hl12,h⟩:=bs h
 refine WBr.cut (n:=(0,[])) .normal ⟨((((((((Regs.none.set 1 (.d (.int .i64 a1))).set 2 (.d (.int .i64 a2))).set 3 (.d (.int .i64 a3))).set 4 (.d (.bool a4))).set 5 (.ptr 0 0 0)).set 11 (.d (.int .u8 r1))).set 12 (.d (.int .u8 r3))).set 19 (.d (.bool r11))),((Heap.at 14).set 0 (some (.els 1 [.d (zad a0)] 0)))⟩ ?_ (by(repeat(first|refine Clo.block ?_|refine Clo.seq zbb rfl ?_));(exact Clo.ret)) ?_
 ·replace h:=hl12
  refine zaG (fun hc7=> ?_) (fun hc8=> ?_)
  ·rw[if_pos (show(!r5)=true by(rw[hc7];rfl))]at h
   try simp only[go_sem]
   cases h
   exact⟨rfl,Up.of (N:=14) (N':=14) [] rfl rfl (by decide) (.set (.d _) (.set (.d _) (.set (.d _) (.set (.ptr' rfl) (.set (.d _) (.set (.d _) (.set (.d _) (.set (.d _) zao.none)))))))) (.set zaw.refl_d zar.at)⟩
  rw[if_neg (ffn hc8)]at h
  try simp only[go_sem]
  obtain⟨r9,hr10,h⟩:=bs h
  replace hr10:=zaj hr10
  refine zam hr10 ?_
  try simp only[go_sem]
  cases h
  exact⟨rfl,Up.of (N:=14) (N':=19) [] rfl rfl (by decide) (.set (.d _) (.set (.d _) (.set (.d _) (.set (.ptr' rfl) (.set (.d _) (.set (.d _) (.set (.d _) (.set (.d _) zao.none)))))))) (.set zaw.refl_d zar.at)⟩
 try simp only[go_sem]
 refine zag (fun hc13=> ?_) (fun hc14=> ?_)
 ·rw[if_pos hc13]at h
  try simp only[go_sem]
  cases h
  rfl
 rw[if_neg (ff hc14)]at h
 try simp only[go_sem]
 refine zaa (v:= .d (zad a0)) (fun hb51=>by simp only[go_sem,hc14,hb51]) ?_
 try simp only[go_sem]
 refine zaa (v:= .d (.int .i64 a3)) (fun hb50=>by simp only[go_sem,hc14,hb50]) ?_
 try simp only[go_sem]
 obtain⟨r19,hl20,h⟩:=bs h
 refine zbI.cut (n:=(0,[])) .normal ⟨((((((((Regs.none.set 1 (.d (.int .i64 a1))).set 2 (.d (.int .i64 a2))).set 3 (.d (.int .i64 a3))).set 4 (.d (.bool a4))).set 5 (.ptr 0 0 0)).set 11 (.d (.int .u8 r1))).set 12 (.d (.int .u8 r3))).set 27 (.d (.bool r19))),((Heap.at 25).set 0 (some (.els 1 [.d (zad a0)] 0)))⟩ ?_ (by(repeat(first|refine Clo.block ?_|refine Clo.seq zbb rfl ?_));(exact Clo.ret)) ?_
 ·replace h:=hl20
  refine zax (fun hc15=> ?_) (fun hc16=> ?_)
  ·rw[if_pos (show(!(a3==0))=true by(rw[hc15];rfl))]at h
   try simp only[go_sem,hc15]
   obtain⟨r17,hr18,h⟩:=bs h
   replace hr18:=zaj hr18
   refine zam hr18 ?_
   try simp only[go_sem]
   cases h
   exact⟨rfl,Up.of (N:=25) (N':=25) [] rfl rfl (by decide) (.set (.d _) (.set (.d _) (.set (.d _) (.set (.ptr' rfl) (.set (.d _) (.set (.d _) (.set (.d _) (.set (.d _) zao.none)))))))) (.set zaw.refl_d zar.at)⟩
  rw[if_neg (ffn hc16)]at h
  try simp only[go_sem,hc16]
  cases h
  exact⟨rfl,Up.of (N:=25) (N':=25) [] rfl rfl (by decide) (.set (.d _) (.set (.d _) (.set (.d _) (.set (.ptr' rfl) (.set (.d _) (.set (.d _) (.set (.d _) (.set (.d _) zao.none)))))))) (.set zaw.refl_d zar.at)⟩
 try simp only[go_sem]
 refine zag (fun hc21=> ?_) (fun hc22=> ?_)
 ·rw[if_pos hc21]at h
  try simp only[go_sem]
  cases h
  rfl
 rw[if_neg (ff hc22)]at h
 try simp only[go_sem]
 refine zaa (v:= .d (.int .u8 r3)) (fun hb49=>by simp only[go_sem,hc14,hc22,hb49]) ?_
 try simp only[go_sem]
 refine zaa (v:= .d (.bool (r3==12))) (fun hb48=>by simp only[go_sem,hc14,hc22,hb48]) ?_
 try simp only[go_sem]
 refine zag (fun hc23=> ?_) (fun hc24=> ?_)
 ·rw[if_pos hc23]at h
  try simp only[go_sem]
  cases h
  rfl
 rw[if_neg (ff hc24)]at h
 try simp only[go_sem]
 obtain⟨r25,hr26,h⟩:=bs h
 replace hr26:=zaj hr26
 refine zam hr26 ?_
 try simp only[go_sem]
 refine zaa (v:= .d (.int .u8 r1)) (fun hb47=>by simp only[go_sem,hc14,hc22,hc24,hb47]) ?_
 try simp only[go_sem]
 refine zaa (v:= .d (.bool (r1==9))) (fun hb46=>by simp only[go_sem,hc14,hc22,hc24,hb46]) ?_
 try simp only[go_sem]
 obtain⟨r31,hl32,h⟩:=bs h
 refine WBr.cut (n:=(0,[])) .normal ⟨(((((((Regs.none.set 1 (.d (.int .i64 a1))).set 2 (.d (.int .i64 a2))).set 3 (.d (.int .i64 a3))).set 4 (.d (.bool a4))).set 5 (.ptr 0 0 0)).set 11 (.d (.int .u8 r1))).set 45 (.d (.bool r31))),((Heap.at 39).set 0 (some (.els 1 [.d (zad a0)] 0)))⟩ ?_ (by(repeat(first|refine Clo.block ?_|refine Clo.seq zbb rfl ?_));(exact Clo.ret)) ?_
 ·replace h:=hl32
  refine zag (fun hc27=> ?_) (fun hc28=> ?_)
  ·rw[if_pos hc27]at h
   try simp only[go_sem]
   cases h
   exact⟨rfl,Up.of (N:=39) (N':=39) [] rfl rfl (by decide) (.set (.d _) (.set (.d _) (.set (.ptr' rfl) (.set (.d _) (.set (.d _) (.set (.d _) (.set (.d _) zao.none))))))) (.set zaw.refl_d zar.at)⟩
  rw[if_neg (ff hc28)]at h
  try simp only[go_sem]
  refine zaa (v:= .d (.int .u8 r1)) (fun hb30=>by simp only[go_sem,hc14,hc22,hc24,hc28,hb30]) ?_
  try simp only[go_sem]
  refine zaa (v:= .d (.bool (!(r1==9)))) (fun hb29=>by simp only[go_sem,hc14,hc22,hc24,hc28,hb29]) ?_
  try simp only[go_sem]
  cases h
  exact⟨rfl,Up.of (N:=39) (N':=46) [] rfl rfl (by decide) (.set (.d _) (.set (.d _) (.set (.ptr' rfl) (.set (.d _) (.set (.d _) (.set (.d _) (.set (.d _) zao.none))))))) (.set zaw.refl_d zar.at)⟩
 try simp only[go_sem]
 refine zag (fun hc33=> ?_) (fun hc34=> ?_)
 ·rw[if_pos hc33]at h
  try simp only[go_sem]
  cases h
  rfl
 rw[if_neg (ff hc34)]at h
 try simp only[go_sem]
 refine zaa (v:= .d (zad a0)) (fun hb45=>by simp only[go_sem,hc14,hc22,hc24,hc34,hb45]) ?_
 try simp only[go_sem]
 refine zaa (v:= .d (.int .i64 a1)) (fun hb44=>by simp only[go_sem,hc14,hc22,hc24,hc34,hb44]) ?_
 try simp only[go_sem]
 refine zaa (v:= .d (.int .i64 a2)) (fun hb43=>by simp only[go_sem,hc14,hc22,hc24,hc34,hb43]) ?_
 try simp only[go_sem]
 refine zaa (v:= .d (.int .i64 a3)) (fun hb42=>by simp only[go_sem,hc14,hc22,hc24,hc34,hb42]) ?_
 try simp only[go_sem]
 refine zaa (v:= .d (.bool a4)) (fun hb41=>by simp only[go_sem,hc14,hc22,hc24,hc34,hb41]) ?_
 try simp only[go_sem]
 refine zav (fun hc35=> ?_) (fun hc36=> ?_)
 ·rw[if_pos hc35]at h
  try simp only[go_sem,hc35]
  obtain⟨r37,hr38,h⟩:=bs h
  replace hr38:=zaj hr38
  refine zam hr38 ?_
  try simp only[go_sem]
  refine zaG (fun hc39=> ?_) (fun hc40=> ?_)
  ·rw[if_pos (show(!r37)=true by(rw[hc39];rfl))]at h
   try simp only[go_sem]
   cases h
   rfl
  rw[if_neg (ffn hc40)]at h
  try simp only[go_sem]
  cases h
  rfl
 rw[if_neg (ff hc36)]at h
 try simp only[go_sem,hc36]
 cases h
 rfl
noncomputable def P92 (a0:Forest) (a1:Int):Option (Int):=
 (dec zah (pc prog 128 [zad a0,.int .i64 a1])).bind fun r1=>
 some r1.kind
theorem zMw (a0:Forest) (a1:Int) (r:Int) (h:P92 a0 a1=some r):pc prog 92 [zad a0,.int .i64 a1]=some ((D.int .u8) r):=by
 unfold P92 at h
 refine zaR (fn:=c92) rfl rfl ?_
 delta c92
 try simp only[go_sem]
 obtain⟨r1,hr2,h⟩:=bs h
 replace hr2:=zaj hr2
 refine zam hr2 ?_
 try simp only[go_sem]
 cases h
 rfl
noncomputable def zLh (a0:Int):Option (Bool):=
 some (bif (a0==3)then true else(a0==4))
theorem zLi (a0:Int) (r:Bool) (h:zLh a0=some r):pc prog 140 [.int .u8 a0]=some (D.bool r):=by
 unfold zLh at h
 refine zaR (fn:=zIm) rfl rfl ?_
 delta zIm
 try simp only[go_sem]
 refine zaa (v:= .d (.int .u8 a0)) (fun hb2=>by simp only[go_sem,hb2]) ?_
 try simp only[go_sem]
 refine zaa (v:= .d (.bool (a0==4))) (fun hb1=>by simp only[go_sem,hb1]) ?_
 try simp only[go_sem]
 cases h
 rfl
noncomputable def zLj (a0:Int):Option (Bool):=
 some (bif (bif (bif (a0==1)then true else(a0==9))then true else(a0==11))then true else(a0==12))
theorem zLk (a0:Int) (r:Bool) (h:zLj a0=some r):pc prog 158 [.int .u8 a0]=some (D.bool r):=by
 unfold zLj at h
 refine zaR (fn:=zIo) rfl rfl ?_
 delta zIo
 try simp only[go_sem]
 refine zaa (v:= .d (.int .u8 a0)) (fun hb6=>by simp only[go_sem,hb6]) ?_
 try simp only[go_sem]
 refine zaa (v:= .d (.bool (a0==9))) (fun hb5=>by simp only[go_sem,hb5]) ?_
 try simp only[go_sem]
 refine zaa (v:= .d (.int .u8 a0)) (fun hb4=>by simp only[go_sem,hb4]) ?_
 try simp only[go_sem]
 refine zaa (v:= .d (.bool (a0==11))) (fun hb3=>by simp only[go_sem,hb3]) ?_
 try simp only[go_sem]
 refine zaa (v:= .d (.int .u8 a0)) (fun hb2=>by simp only[go_sem,hb2]) ?_
 try simp only[go_sem]
 refine zaa (v:= .d (.bool (a0==12))) (fun hb1=>by simp only[go_sem,hb1]) ?_
 try simp only[go_sem]
 cases h
 rfl
noncomputable def zLl (a0:Int):Option (Bool):=
 some (bif (a0==3)then true else(a0==4))
theorem zLm (a0:Int) (r:Bool) (h:zLl a0=some r):pc prog 160 [.int .u8 a0]=some (D.bool r):=by
 unfold zLl at h
 refine zaR (fn:=zIp) rfl rfl ?_
 delta zIp
 try simp only[go_sem]
 refine zaa (v:= .d (.int .u8 a0)) (fun hb2=>by simp only[go_sem,hb2]) ?_
 try simp only[go_sem]
 refine zaa (v:= .d (.bool (a0==4))) (fun hb1=>by simp only[go_sem,hb1]) ?_
 try simp only[go_sem]
 cases h
 rfl
noncomputable def zLn (a0:Forest) (a1:Int) (a2:Int) (a3:Int) (a4:Bool):Option (Bool):=
 (dec zah (pc prog 128 [zad a0,.int .i64 a1])).bind fun r1=>
 (dec zah (pc prog 128 [zad a0,.int .i64 a2])).bind fun r3=>
 if(r3.kind==11)=true then
  (dec (D.int .i64) (pc prog 198 [zad a0,.list r3.kids.n (r3.kids.l.map (D.int .i64)),.int .u8 (1)])).bind fun r7=>
  if(r7==0)=true then
   (dec D.bool (pc prog 199 [zad a0,.list r3.kids.n (r3.kids.l.map (D.int .i64))])).bind fun r11=>
   if r11=true then
    if(r7==1)=true then
     (dec D.bool (pc prog 199 [zad a0,.list r3.kids.n (r3.kids.l.map (D.int .i64))])).bind fun r17=>
     if(!r17)=true then
      (dec D.bool (pc prog 200 [zad a0,.list r1.kids.n (r1.kids.l.map (D.int .i64)),.int .i64 a3,.bool a4])).bind fun r21=>
      some r21
     else
      some false
    else
     some false
   else
    some true
  else
   if(r7==1)=true then
    (dec D.bool (pc prog 199 [zad a0,.list r3.kids.n (r3.kids.l.map (D.int .i64))])).bind fun r41=>
    if(!r41)=true then
     (dec D.bool (pc prog 200 [zad a0,.list r1.kids.n (r1.kids.l.map (D.int .i64)),.int .i64 a3,.bool a4])).bind fun r45=>
     some r45
    else
     some false
   else
    some false
 else
  if(r3.kind==1)=true then
   (dec D.bool (pc prog 200 [zad a0,.list r1.kids.n (r1.kids.l.map (D.int .i64)),.int .i64 a3,.bool a4])).bind fun r59=>
   some r59
  else
   if(r3.kind==10)=true then
    (dec D.bool (pc prog 201 [zad a0,.list r1.kids.n (r1.kids.l.map (D.int .i64)),.int .i64 a3,.bool a4])).bind fun r63=>
    some r63
   else
    some true
theorem zLo (a0:Forest) (a1:Int) (a2:Int) (a3:Int) (a4:Bool) (r:Bool) (h:zLn a0 a1 a2 a3 a4=some r):pc prog 161 [zad a0,.int .i64 a1,.int .i64 a2,.int .i64 a3,.bool a4]=some (D.bool r):=by
 unfold zLn at h
 refine zaR (fn:=zIq) rfl rfl ?_
 delta zIq
 try simp only[go_sem]
 obtain⟨r1,hr2,h⟩:=bs h
 replace hr2:=zaj hr2
 refine zam hr2 ?_
 try simp only[go_sem]
 obtain⟨r3,hr4,h⟩:=bs h
 replace hr4:=zaj hr4
 refine zam hr4 ?_
 try simp only[go_sem]
 refine zag (fun hc5=> ?_) (fun hc6=> ?_)
 ·rw[if_pos hc5]at h
  try simp only[go_sem]
  obtain⟨r7,hr8,h⟩:=bs h
  replace hr8:=zaj hr8
  refine zam hr8 ?_
  try simp only[go_sem]
  refine zaa (v:= .d (zad a0)) (fun hb56=>by simp only[go_sem,hc5,hb56]) ?_
  try simp only[go_sem]
  refine zaa (v:= .ptr 10 0 9) (fun hb55=>by simp only[go_sem,hc5,hb55]) ?_
  try simp only[go_sem]
  refine zaa (v:= .d (.list r3.kids.n (r3.kids.l.map (D.int .i64)))) (fun hb54=>by simp only[go_sem,hc5,hb54]) ?_
  try simp only[go_sem]
  refine zav (fun hc9=> ?_) (fun hc10=> ?_)
  ·rw[if_pos hc9]at h
   try simp only[go_sem,hc9]
   obtain⟨r11,hr12,h⟩:=bs h
   replace hr12:=zaj hr12
   refine zam hr12 ?_
   try simp only[go_sem]
   refine zaa (v:= .d (.int .i64 r7)) (fun hb38=>by simp only[go_sem,hc5,hc9,hb38]) ?_
   try simp only[go_sem]
   refine zaa (v:= .d (.bool (r7==1))) (fun hb37=>by simp only[go_sem,hc5,hc9,hb37]) ?_
   try simp only[go_sem]
   refine zaa (v:= .d (.bool (r7==1))) (fun hb36=>by simp only[go_sem,hc5,hc9,hb36]) ?_
   try simp only[go_sem]
   refine zaa (v:= .d (zad a0)) (fun hb33=>by((obtain⟨hb34,hb35⟩:=zaA hb33));simp only[go_sem,hc5,hc9,hb35,hb34]) ?_
   try simp only[go_sem]
   refine zaa (v:= .ptr 10 0 9) (fun hb30=>by((obtain⟨hb31,hb32⟩:=zaA hb30));simp only[go_sem,hc5,hc9,hb32,hb31]) ?_
   try simp only[go_sem]
   refine zaa (v:= .d (.list r3.kids.n (r3.kids.l.map (D.int .i64)))) (fun hb27=>by((obtain⟨hb28,hb29⟩:=zaA hb27));simp only[go_sem,hc5,hc9,hb29,hb28]) ?_
   try simp only[go_sem]
   rcases Bool.eq_false_or_eq_true (r11)with hc13|hc14
   ·rw[if_pos hc13]at h
    try simp only[go_sem,hc13]
    refine zav (fun hc15=> ?_) (fun hc16=> ?_)
    ·rw[if_pos hc15]at h
     try simp only[go_sem,hc15]
     obtain⟨r17,hr18,h⟩:=bs h
     replace hr18:=zaj hr18
     refine zam hr18 ?_
     try simp only[go_sem]
     try simp only[go_sem,hc5,hc9,hc13,hc15]
     refine zaa (v:= .d (zad a0)) (fun hb26=>by simp only[go_sem,hc5,hc9,hc13,hc15,hb26]) ?_
     try simp only[go_sem]
     refine zaa (v:= .d (.list r1.kids.n (r1.kids.l.map (D.int .i64)))) (fun hb25=>by simp only[go_sem,hc5,hc9,hc13,hc15,hb25]) ?_
     try simp only[go_sem]
     refine zaa (v:= .d (.int .i64 a3)) (fun hb24=>by simp only[go_sem,hc5,hc9,hc13,hc15,hb24]) ?_
     try simp only[go_sem]
     refine zaa (v:= .d (.bool a4)) (fun hb23=>by simp only[go_sem,hc5,hc9,hc13,hc15,hb23]) ?_
     try simp only[go_sem]
     refine zax (fun hc19=> ?_) (fun hc20=> ?_)
     ·rw[if_pos (show(!r17)=true by(rw[hc19];rfl))]at h
      try simp only[go_sem,hc19]
      obtain⟨r21,hr22,h⟩:=bs h
      replace hr22:=zaj hr22
      refine zam hr22 ?_
      try simp only[go_sem]
      cases h
      rfl
     rw[if_neg (ffn hc20)]at h
     try simp only[go_sem,hc20]
     cases h
     rfl
    rw[if_neg (ff hc16)]at h
    try simp only[go_sem,hc16]
    cases h
    rfl
   rw[if_neg (ff hc14)]at h
   try simp only[go_sem,hc14]
   cases h
   rfl
  rw[if_neg (ff hc10)]at h
  try simp only[go_sem,hc10]
  refine zaa (v:= .d (zad a0)) (fun hb53=>by simp only[go_sem,hc5,hc10,hb53]) ?_
  try simp only[go_sem]
  refine zaa (v:= .ptr 10 0 9) (fun hb52=>by simp only[go_sem,hc5,hc10,hb52]) ?_
  try simp only[go_sem]
  refine zaa (v:= .d (.list r3.kids.n (r3.kids.l.map (D.int .i64)))) (fun hb51=>by simp only[go_sem,hc5,hc10,hb51]) ?_
  try simp only[go_sem]
  refine zav (fun hc39=> ?_) (fun hc40=> ?_)
  ·rw[if_pos hc39]at h
   try simp only[go_sem,hc39]
   obtain⟨r41,hr42,h⟩:=bs h
   replace hr42:=zaj hr42
   refine zam hr42 ?_
   try simp only[go_sem]
   refine zaa (v:= .d (zad a0)) (fun hb50=>by simp only[go_sem,hc5,hc10,hc39,hb50]) ?_
   try simp only[go_sem]
   refine zaa (v:= .d (.list r1.kids.n (r1.kids.l.map (D.int .i64)))) (fun hb49=>by simp only[go_sem,hc5,hc10,hc39,hb49]) ?_
   try simp only[go_sem]
   refine zaa (v:= .d (.int .i64 a3)) (fun hb48=>by simp only[go_sem,hc5,hc10,hc39,hb48]) ?_
   try simp only[go_sem]
   refine zaa (v:= .d (.bool a4)) (fun hb47=>by simp only[go_sem,hc5,hc10,hc39,hb47]) ?_
   try simp only[go_sem]
   refine zax (fun hc43=> ?_) (fun hc44=> ?_)
   ·rw[if_pos (show(!r41)=true by(rw[hc43];rfl))]at h
    try simp only[go_sem,hc43]
    obtain⟨r45,hr46,h⟩:=bs h
    replace hr46:=zaj hr46
    refine zam hr46 ?_
    try simp only[go_sem]
    cases h
    rfl
   rw[if_neg (ffn hc44)]at h
   try simp only[go_sem,hc44]
   cases h
   rfl
  rw[if_neg (ff hc40)]at h
  try simp only[go_sem,hc40]
  cases h
  rfl
 rw[if_neg (ff hc6)]at h
 try simp only[go_sem]
 refine zag (fun hc57=> ?_) (fun hc58=> ?_)
 ·rw[if_pos hc57]at h
  try simp only[go_sem]
  obtain⟨r59,hr60,h⟩:=bs h
  replace hr60:=zaj hr60
  refine zam hr60 ?_
  try simp only[go_sem]
  cases h
  rfl
 rw[if_neg (ff hc58)]at h
 try simp only[go_sem]
 refine zag (fun hc61=> ?_) (fun hc62=> ?_)
 ·rw[if_pos hc61]at h
  try simp only[go_sem]
  obtain⟨r63,hr64,h⟩:=bs h
  replace hr64:=zaj hr64
  refine zam hr64 ?_
  try simp only[go_sem]
  cases h
  rfl
 rw[if_neg (ff hc62)]at h
 try simp only[go_sem]
 cases h
 rfl
noncomputable def zLp (a0:valid_ask) (a1:Int):Option (Bool):=
 if(bif (!a0.replace)then(!(a0.child==0))else false)=true then
  (dec zah (pc prog 91 [zad a0.f,.int .i64 a0.child])).bind fun r3=>
  (dec D.bool (pc prog 223 [zaq a0,.int .u8 (1)])).bind fun r5=>
  if(bif (!r5)then(!(r3.kind==10))else false)=true then
   (dec D.bool (pc prog 224 [zaq a0,.int .u8 (10)])).bind fun r9=>
   some (!r9)
  else
   some false
 else
  (dec D.bool (pc prog 223 [zaq a0,.int .u8 (1)])).bind fun r14=>
  if(bif (!r14)then true else false)=true then
   (dec D.bool (pc prog 224 [zaq a0,.int .u8 (10)])).bind fun r18=>
   some (!r18)
  else
   some false
theorem zLq (a0:valid_ask) (a1:Int) (r:Bool) (h:zLp a0 a1=some r):pc prog 194 [zaq a0,.int .i64 a1]=some (D.bool r):=by
 unfold zLp at h
 refine zaR (fn:=zIB) rfl rfl ?_
 delta zIB
 try simp only[go_sem]
 refine zaa (v:= .ptr 0 0 2) (fun hb29=>by simp only[go_sem,hb29]) ?_
 try simp only[go_sem]
 refine zaa (v:= .d (.int .i64 a0.child)) (fun hb28=>by simp only[go_sem,hb28]) ?_
 try simp only[go_sem]
 refine zaa (v:= .d (.bool (!(a0.child==0)))) (fun hb27=>by simp only[go_sem,hb27]) ?_
 try simp only[go_sem]
 refine zaa (v:= .ptr 0 0 0) (fun hb26=>by simp only[go_sem,hb26]) ?_
 try simp only[go_sem]
 refine zaa (v:= .d (zad a0.f)) (fun hb25=>by simp only[go_sem,hb25]) ?_
 try simp only[go_sem]
 refine zaa (v:= .ptr 0 0 2) (fun hb24=>by simp only[go_sem,hb24]) ?_
 try simp only[go_sem]
 refine zaa (v:= .d (.int .i64 a0.child)) (fun hb23=>by simp only[go_sem,hb23]) ?_
 try simp only[go_sem]
 refine zav (fun hc1=> ?_) (fun hc2=> ?_)
 ·rw[if_pos hc1]at h
  try simp only[go_sem,hc1]
  obtain⟨r3,hr4,h⟩:=bs h
  replace hr4:=zaj hr4
  refine zam hr4 ?_
  try simp only[go_sem]
  obtain⟨r5,hr6,h⟩:=bs h
  replace hr6:=zaj hr6
  refine zam hr6 ?_
  try simp only[go_sem]
  refine zaa (v:= .d (.bool (r3.kind==10))) (fun hb13=>by simp only[go_sem,hc1,hb13]) ?_
  try simp only[go_sem]
  refine zaa (v:= .d (.bool (!(r3.kind==10)))) (fun hb12=>by simp only[go_sem,hc1,hb12]) ?_
  try simp only[go_sem]
  refine zaa (v:= .d (zaq a0)) (fun hb11=>by simp only[go_sem,hc1,hb11]) ?_
  try simp only[go_sem]
  refine zav (fun hc7=> ?_) (fun hc8=> ?_)
  ·rw[if_pos hc7]at h
   try simp only[go_sem,hc7]
   obtain⟨r9,hr10,h⟩:=bs h
   replace hr10:=zaj hr10
   refine zam hr10 ?_
   try simp only[go_sem]
   cases h
   rfl
  rw[if_neg (ff hc8)]at h
  try simp only[go_sem,hc8]
  cases h
  rfl
 rw[if_neg (ff hc2)]at h
 try simp only[go_sem,hc2]
 obtain⟨r14,hr15,h⟩:=bs h
 replace hr15:=zaj hr15
 refine zam hr15 ?_
 try simp only[go_sem]
 refine zaa (v:= .d (.bool false)) (fun hb22=>by simp only[go_sem,hc2,hb22]) ?_
 try simp only[go_sem]
 refine zaa (v:= .d (.bool true)) (fun hb21=>by simp only[go_sem,hc2,hb21]) ?_
 try simp only[go_sem]
 refine zaa (v:= .d (zaq a0)) (fun hb20=>by simp only[go_sem,hc2,hb20]) ?_
 try simp only[go_sem]
 refine zav (fun hc16=> ?_) (fun hc17=> ?_)
 ·rw[if_pos hc16]at h
  try simp only[go_sem,hc16]
  obtain⟨r18,hr19,h⟩:=bs h
  replace hr19:=zaj hr19
  refine zam hr19 ?_
  try simp only[go_sem]
  cases h
  rfl
 rw[if_neg (ff hc17)]at h
 try simp only[go_sem,hc17]
 cases h
 rfl
def zfz (a0:valid_ask) (a1:Int) (r1:Node) (x0:Int×Int):St:=⟨((((((Regs.none.set 1 (.d (.int .i64 a1))).set 2 (.ptr 0 0 0)).set 5 (.d (.int .i64 x0.2))).set 13 (.d (.list r1.kids.n (r1.kids.l.map (D.int .i64))))).set 14 (.d (.int .i64 (r1.kids.l.length:Int)))).set 15 (.d (.int .i64 x0.1))),((Heap.at 10).set 0 (some (.els 4 [.d (zaq a0)] 0)))⟩
def ziU (a0:valid_ask) (a1:Int) (r1:Node):((Int)⊕(Unit))→Ex×St:=fun r=>match r with
 |(.inl r)=>(.exit 0,⟨(((Regs.none.set 1 (.d (.int .i64 a1))).set 2 (.ptr 0 0 0)).set 5 (.d (.int .i64 r))),((Heap.at 10).set 0 (some (.els 4 [.d (zaq a0)] 0)))⟩)
 |(.inr r)=>(.ret,⟨(Regs.none.set 4 (.d (.bool false))),(Heap.at 10)⟩)
noncomputable def zbZ (a0:valid_ask) (a1:Int) (r1:Node) (x0:Int×Int):Option ((Int×Int)⊕((Int)⊕(Unit))):=
 if(decide (x0.1<(r1.kids.l.length:Int)))=true then
  (rd r1.kids.l x0.1).bind fun y5=>
  (dec zah (pc prog 91 [zad a0.f,.int .i64 y5])).bind fun r7=>
  (if(r7.kind==1)=true then
   some (.inl (IntKind.wrap .i64 (x0.2+1)))
  else
   (dec D.bool (pc prog 140 [.int .u8 r7.kind])).bind fun r11=>
   if r11=true then
    some (.inr ())
   else
    some (.inl x0.2):Option ((Int)⊕(Unit))).bind fun r15=>
  match r15 with
  |(.inl q17)=>
   some (.inl ((IntKind.wrap .i64 (x0.1+1)),q17))
  |(.inr q18)=>
   some (.inr (.inr ()))
 else
  some (.inr (.inl x0.2))
theorem zxw (a0:valid_ask) (a1:Int) (r1:Node) (x0:Int×Int) (o:(Int×Int)⊕((Int)⊕(Unit))) (h:zbZ a0 a1 r1 x0=some o):Wp prog zqx (zfz a0 a1 r1 x0) (zbW (0,[]) (zfz a0 a1 r1) (ziU a0 a1 r1) o):=by
 unfold zbZ at h
 delta zqx zfz
 try simp only[go_sem]
 refine zag (fun hc3=> ?_) (fun hc4=> ?_)
 ·rw[if_pos hc3]at h
  try simp only[go_sem]
  obtain⟨y5,hy6,h⟩:=bs h
  try simp only[go_sem,zab hy6,zaf hy6,zac (D.int .i64) hy6]
  obtain⟨r7,hr8,h⟩:=bs h
  replace hr8:=zaj hr8
  refine zam hr8 ?_
  try simp only[go_sem,zab hy6,zaf hy6,zac (D.int .i64) hy6]
  obtain⟨r15,hl16,h⟩:=bs h
  refine WBr.cut (n:=(0,[])) ((fun r=>match r with|(.inl r)=>(.normal,⟨((((((Regs.none.set 1 (.d (.int .i64 a1))).set 2 (.ptr 0 0 0)).set 5 (.d (.int .i64 r))).set 13 (.d (.list r1.kids.n (r1.kids.l.map (D.int .i64))))).set 14 (.d (.int .i64 (r1.kids.l.length:Int)))).set 15 (.d (.int .i64 x0.1))),((Heap.at 24).set 0 (some (.els 4 [.d (zaq a0)] 0)))⟩)|(.inr r)=>(.ret,⟨(Regs.none.set 4 (.d (.bool false))),(Heap.at 24)⟩):((Int)⊕(Unit))→Ex×St) r15).1 ((fun r=>match r with|(.inl r)=>(.normal,⟨((((((Regs.none.set 1 (.d (.int .i64 a1))).set 2 (.ptr 0 0 0)).set 5 (.d (.int .i64 r))).set 13 (.d (.list r1.kids.n (r1.kids.l.map (D.int .i64))))).set 14 (.d (.int .i64 (r1.kids.l.length:Int)))).set 15 (.d (.int .i64 x0.1))),((Heap.at 24).set 0 (some (.els 4 [.d (zaq a0)] 0)))⟩)|(.inr r)=>(.ret,⟨(Regs.none.set 4 (.d (.bool false))),(Heap.at 24)⟩):((Int)⊕(Unit))→Ex×St) r15).2 ?_ (by(repeat(first|refine Clo.block ?_|refine Clo.seq zbb rfl ?_));(exact Clo.lpost (by decide))) ?_
  ·replace h:=hl16
   refine zag (fun hc9=> ?_) (fun hc10=> ?_)
   ·rw[if_pos hc9]at h
    try simp only[go_sem,zab hy6,zaf hy6,zac (D.int .i64) hy6]
    cases h
    exact⟨rfl,Up.of (N:=24) (N':=27) [] rfl rfl (by decide) (.set (.d _) (.set (.d _) (.set (.d _) (.set (.d _) (.set (.ptr' rfl) (.set (.d _) zao.none)))))) (.set zaw.refl_d zar.at)⟩
   rw[if_neg (ff hc10)]at h
   try simp only[go_sem,zab hy6,zaf hy6,zac (D.int .i64) hy6]
   obtain⟨r11,hr12,h⟩:=bs h
   replace hr12:=zaj hr12
   refine zam hr12 ?_
   try simp only[go_sem,zab hy6,zaf hy6,zac (D.int .i64) hy6]
   refine zag (fun hc13=> ?_) (fun hc14=> ?_)
   ·rw[if_pos hc13]at h
    try simp only[go_sem,zab hy6,zaf hy6,zac (D.int .i64) hy6]
    cases h
    exact⟨rfl,Up.of (N:=24) (N':=29) [] rfl rfl (by decide) (.set (.d _) zao.none) zar.at⟩
   rw[if_neg (ff hc14)]at h
   try simp only[go_sem,zab hy6,zaf hy6,zac (D.int .i64) hy6]
   cases h
   exact⟨rfl,Up.of (N:=24) (N':=28) [] rfl rfl (by decide) (.set (.d _) (.set (.d _) (.set (.d _) (.set (.d _) (.set (.ptr' rfl) (.set (.d _) zao.none)))))) (.set zaw.refl_d zar.at)⟩
  rcases r15 with(q17|q18)
  ·dsimp only at h⊢
   try simp only[go_sem,zab hy6,zaf hy6,zac (D.int .i64) hy6]
   cases h
   exact⟨rfl,Up.of (N:=10) (N':=26) [] rfl rfl (by decide) (.set (.d _) (.set (.d _) (.set (.d _) (.set (.d _) (.set (.ptr' rfl) (.set (.d _) zao.none)))))) (.set zaw.refl_d zar.at)⟩
  dsimp only at h⊢
  try simp only[go_sem,zab hy6,zaf hy6,zac (D.int .i64) hy6]
  cases h
  exact⟨rfl,by simp,Up.of (N:=10) (N':=24) [] rfl rfl (by decide) (.set (.d _) zao.none) zar.at⟩
 rw[if_neg (ff hc4)]at h
 try simp only[go_sem]
 cases h
 exact⟨rfl,by simp,Up.of (N:=10) (N':=11) [] rfl rfl (by decide) (.set (.d _) (.set (.ptr' rfl) (.set (.d _) zao.none))) (.set zaw.refl_d zar.at)⟩
noncomputable def zLr (a0:valid_ask) (a1:Int):Option (Bool):=
 (dec zah (pc prog 91 [zad a0.f,.int .i64 a1])).bind fun r1=>
 (zaU (zbZ a0 a1 r1) (0,0)).bind fun r19=>
 match r19 with
 |(.inl q21)=>
  if(!(q21==0))=true then
   if(q21==1)=true then
    (dec D.bool (pc prog 194 [zaq a0,.int .i64 a1])).bind fun r26=>
    some r26
   else
    some false
  else
   some true
 |(.inr q37)=>
  some false
theorem zLs (a0:valid_ask) (a1:Int) (r:Bool) (h:zLr a0 a1=some r):pc prog 195 [zaq a0,.int .i64 a1]=some (D.bool r):=by
 unfold zLr at h
 refine zaR (fn:=zIC) rfl rfl ?_
 delta zIC
 try simp only[go_sem]
 obtain⟨r1,hr2,h⟩:=bs h
 replace hr2:=zaj hr2
 refine zam hr2 ?_
 try simp only[go_sem]
 obtain⟨r19,hl20,h⟩:=bs h
 refine Wp.loopR zbb (n:=(0,[])) (a:=zqx) rfl (zfz a0 a1 r1) (ziU a0 a1 r1) (zxw a0 a1 r1) hl20 ?_ (by(repeat(first|refine Clo.block ?_|refine Clo.seq zbb rfl ?_));(exact Clo.ret)) ?_
 ·show Up (0,[]) (zfz a0 a1 r1 (0,0)) _
  delta zfz
  exact Up.of (N:=10) (N':=10) [] rfl rfl (by decide) (.set (.d _) (.set (.d _) (.set (.d _) (.set (.d _) (.set (.ptr' rfl) (.set (.d _) zao.none)))))) (.set zaw.refl_d zar.at)
 rcases r19 with(q21|q37)
 ·dsimp only at h
  dsimp only[ziU]
  try simp only[go_sem]
  refine zaa (v:= .d (.int .i64 q21)) (fun hb36=>by simp only[go_sem,hb36]) ?_
  try simp only[go_sem]
  refine zaa (v:= .d (.bool (q21==1))) (fun hb35=>by simp only[go_sem,hb35]) ?_
  try simp only[go_sem]
  refine zaa (v:= .d (.bool (q21==1))) (fun hb34=>by simp only[go_sem,hb34]) ?_
  try simp only[go_sem]
  refine zaa (v:= .d (zaq a0)) (fun hb31=>by((obtain⟨hb32,hb33⟩:=zaA hb31));simp only[go_sem,hb33,hb32]) ?_
  try simp only[go_sem]
  refine zaa (v:= .d (.int .i64 a1)) (fun hb28=>by((obtain⟨hb29,hb30⟩:=zaA hb28));simp only[go_sem,hb30,hb29]) ?_
  try simp only[go_sem]
  rcases Bool.eq_false_or_eq_true ((q21==0))with hc23|hc22
  rotate_left
  ·rw[if_pos (show(!(q21==0))=true by(rw[hc22];rfl))]at h
   try simp only[go_sem,hc22]
   refine zav (fun hc24=> ?_) (fun hc25=> ?_)
   ·rw[if_pos hc24]at h
    try simp only[go_sem,hc24]
    obtain⟨r26,hr27,h⟩:=bs h
    replace hr27:=zaj hr27
    refine zam hr27 ?_
    try simp only[go_sem]
    cases h
    rfl
   rw[if_neg (ff hc25)]at h
   try simp only[go_sem,hc25]
   cases h
   rfl
  rw[if_neg (ffn hc23)]at h
  try simp only[go_sem,hc23]
  cases h
  rfl
 dsimp only at h
 dsimp only[ziU]
 try simp only[go_sem]
 cases h
 rfl
noncomputable def zLt (a0:valid_ask) (a1:Int):Option (Bool):=
 if(a0.child==0)=true then
  (dec D.bool (pc prog 223 [zaq a0,.int .u8 (1)])).bind fun r3=>
  (dec D.bool (pc prog 223 [zaq a0,.int .u8 (10)])).bind fun r5=>
  if(bif (!r5)then(!r3)else false)=true then
   (dec D.bool (pc prog 225 [zaq a0,.int .u8 (1)])).bind fun r9=>
   some (!r9)
  else
   some false
 else
  (dec D.bool (pc prog 223 [zaq a0,.int .u8 (10)])).bind fun r14=>
  if(bif (!r14)then true else false)=true then
   (dec D.bool (pc prog 225 [zaq a0,.int .u8 (1)])).bind fun r18=>
   some (!r18)
  else
   some false
theorem zLu (a0:valid_ask) (a1:Int) (r:Bool) (h:zLt a0 a1=some r):pc prog 196 [zaq a0,.int .i64 a1]=some (D.bool r):=by
 unfold zLt at h
 refine zaR (fn:=zID) rfl rfl ?_
 delta zID
 try simp only[go_sem]
 refine zaa (v:= .d (zaq a0)) (fun hb23=>by simp only[go_sem,hb23]) ?_
 try simp only[go_sem]
 refine zav (fun hc1=> ?_) (fun hc2=> ?_)
 ·rw[if_pos hc1]at h
  try simp only[go_sem,hc1]
  obtain⟨r3,hr4,h⟩:=bs h
  replace hr4:=zaj hr4
  refine zam hr4 ?_
  try simp only[go_sem]
  obtain⟨r5,hr6,h⟩:=bs h
  replace hr6:=zaj hr6
  refine zam hr6 ?_
  try simp only[go_sem]
  refine zaa (v:= .d (.bool r3)) (fun hb13=>by simp only[go_sem,hc1,hb13]) ?_
  try simp only[go_sem]
  refine zaa (v:= .d (.bool (!r3))) (fun hb12=>by simp only[go_sem,hc1,hb12]) ?_
  try simp only[go_sem]
  refine zaa (v:= .d (zaq a0)) (fun hb11=>by simp only[go_sem,hc1,hb11]) ?_
  try simp only[go_sem]
  refine zav (fun hc7=> ?_) (fun hc8=> ?_)
  ·rw[if_pos hc7]at h
   try simp only[go_sem,hc7]
   obtain⟨r9,hr10,h⟩:=bs h
   replace hr10:=zaj hr10
   refine zam hr10 ?_
   try simp only[go_sem]
   cases h
   rfl
  rw[if_neg (ff hc8)]at h
  try simp only[go_sem,hc8]
  cases h
  rfl
 rw[if_neg (ff hc2)]at h
 try simp only[go_sem,hc2]
 obtain⟨r14,hr15,h⟩:=bs h
 replace hr15:=zaj hr15
 refine zam hr15 ?_
 try simp only[go_sem]
 refine zaa (v:= .d (.bool false)) (fun hb22=>by simp only[go_sem,hc2,hb22]) ?_
 try simp only[go_sem]
 refine zaa (v:= .d (.bool true)) (fun hb21=>by simp only[go_sem,hc2,hb21]) ?_
 try simp only[go_sem]
 refine zaa (v:= .d (zaq a0)) (fun hb20=>by simp only[go_sem,hc2,hb20]) ?_
 try simp only[go_sem]
 refine zav (fun hc16=> ?_) (fun hc17=> ?_)
 ·rw[if_pos hc16]at h
  try simp only[go_sem,hc16]
  obtain⟨r18,hr19,h⟩:=bs h
  replace hr19:=zaj hr19
  refine zam hr19 ?_
  try simp only[go_sem]
  cases h
  rfl
 rw[if_neg (ff hc17)]at h
 try simp only[go_sem,hc17]
 cases h
 rfl
noncomputable def zLX (a0:valid_ask) (a1:Int):Option (Bool):=
 some true
theorem zLv (a0:valid_ask) (a1:Int) (r:Bool) (h:zLX a0 a1=some r):pc prog 197 [zaq a0,.int .i64 a1]=some (D.bool r):=by
 unfold zLX at h
 refine zaR (fn:=zIE) rfl rfl ?_
 delta zIE
 try simp only[go_sem]
 cases h
 rfl
def zfA (a0:Forest) (a1:Sl (Int)) (a2:Int) (x0:Int×Int):St:=⟨(((((Regs.none.set 1 (.d (.list a1.n (a1.l.map (D.int .i64))))).set 2 (.d (.int .u8 a2))).set 3 (.ptr 0 0 0)).set 7 (.d (.int .i64 x0.1))).set 8 (.d (.int .i64 x0.2))),((Heap.at 4).set 0 (some (.els 1 [.d (zad a0)] 0)))⟩
def zmi (a0:Forest) (a1:Sl (Int)) (a2:Int):((Int))→Ex×St:=fun r=>(.exit 0,⟨(Regs.none.set 7 (.d (.int .i64 r))),(Heap.at 4)⟩)
noncomputable def zcl (a0:Forest) (a1:Sl (Int)) (a2:Int) (x0:Int×Int):Option ((Int×Int)⊕((Int))):=
 if(decide (x0.2<(a1.l.length:Int)))=true then
  (rd a1.l x0.2).bind fun y3=>
  (dec (D.int .u8) (pc prog 92 [zad a0,.int .i64 y3])).bind fun r5=>
  if(r5==a2)=true then
   some (.inl ((IntKind.wrap .i64 (x0.1+1)),(IntKind.wrap .i64 (x0.2+1))))
  else
   some (.inl (x0.1,(IntKind.wrap .i64 (x0.2+1))))
 else
  some (.inr x0.1)
theorem zxx (a0:Forest) (a1:Sl (Int)) (a2:Int) (x0:Int×Int) (o:(Int×Int)⊕((Int))) (h:zcl a0 a1 a2 x0=some o):Wp prog zqy (zfA a0 a1 a2 x0) (zbW (0,[]) (zfA a0 a1 a2) (zmi a0 a1 a2) o):=by
 unfold zcl at h
 delta zqy zfA
 try simp only[go_sem]
 refine zag (fun hc1=> ?_) (fun hc2=> ?_)
 ·rw[if_pos hc1]at h
  try simp only[go_sem]
  obtain⟨y3,hy4,h⟩:=bs h
  try simp only[go_sem,zab hy4,zaf hy4,zac (D.int .i64) hy4]
  obtain⟨r5,hr6,h⟩:=bs h
  replace hr6:=zaj hr6
  refine zam hr6 ?_
  try simp only[go_sem,zab hy4,zaf hy4,zac (D.int .i64) hy4]
  refine zag (fun hc7=> ?_) (fun hc8=> ?_)
  ·rw[if_pos hc7]at h
   try simp only[go_sem,zab hy4,zaf hy4,zac (D.int .i64) hy4]
   cases h
   exact⟨rfl,Up.of (N:=4) (N':=22) [] rfl rfl (by decide) (.set (.d _) (.set (.d _) (.set (.ptr' rfl) (.set (.d _) (.set (.d _) zao.none))))) (.set zaw.refl_d zar.at)⟩
  rw[if_neg (ff hc8)]at h
  try simp only[go_sem,zab hy4,zaf hy4,zac (D.int .i64) hy4]
  cases h
  exact⟨rfl,Up.of (N:=4) (N':=19) [] rfl rfl (by decide) (.set (.d _) (.set (.d _) (.set (.ptr' rfl) (.set (.d _) (.set (.d _) zao.none))))) (.set zaw.refl_d zar.at)⟩
 rw[if_neg (ff hc2)]at h
 try simp only[go_sem]
 cases h
 exact⟨rfl,by simp,Up.of (N:=4) (N':=8) [] rfl rfl (by decide) (.set (.d _) zao.none) zar.at⟩
noncomputable def zLw (a0:Forest) (a1:Sl (Int)) (a2:Int):Option (Int):=
 (zaU (zcl a0 a1 a2) (0,0)).bind fun r9=>
 some r9
theorem zLx (a0:Forest) (a1:Sl (Int)) (a2:Int) (r:Int) (h:zLw a0 a1 a2=some r):pc prog 198 [zad a0,.list a1.n (a1.l.map (D.int .i64)),.int .u8 a2]=some ((D.int .i64) r):=by
 unfold zLw at h
 refine zaR (fn:=zIF) rfl rfl ?_
 delta zIF
 try simp only[go_sem]
 obtain⟨r9,hl10,h⟩:=bs h
 refine Wp.loopR zbb (n:=(0,[])) (a:=zqy) rfl (zfA a0 a1 a2) (zmi a0 a1 a2) (zxx a0 a1 a2) hl10 ?_ (by(repeat(first|refine Clo.block ?_|refine Clo.seq zbb rfl ?_));(exact Clo.ret)) ?_
 ·show Up (0,[]) (zfA a0 a1 a2 (0,0)) _
  delta zfA
  exact Up.of (N:=4) (N':=4) [] rfl rfl (by decide) (.set (.d _) (.set (.d _) (.set (.ptr' rfl) (.set (.d _) (.set (.d _) zao.none))))) (.set zaw.refl_d zar.at)
 dsimp only[zmi]
 try simp only[go_sem]
 cases h
 rfl
noncomputable def zLy (a0:Forest) (a1:Sl (Int)):Option (Bool):=
 (dec (D.int .i64) (pc prog 198 [zad a0,.list a1.n (a1.l.map (D.int .i64)),.int .u8 (3)])).bind fun r1=>
 (dec (D.int .i64) (pc prog 198 [zad a0,.list a1.n (a1.l.map (D.int .i64)),.int .u8 (4)])).bind fun r3=>
 some (decide (0<(IntKind.wrap .i64 (r1+r3))))
theorem zLz (a0:Forest) (a1:Sl (Int)) (r:Bool) (h:zLy a0 a1=some r):pc prog 199 [zad a0,.list a1.n (a1.l.map (D.int .i64))]=some (D.bool r):=by
 unfold zLy at h
 refine zaR (fn:=zIG) rfl rfl ?_
 delta zIG
 try simp only[go_sem]
 obtain⟨r1,hr2,h⟩:=bs h
 replace hr2:=zaj hr2
 refine zam hr2 ?_
 try simp only[go_sem]
 obtain⟨r3,hr4,h⟩:=bs h
 replace hr4:=zaj hr4
 refine zam hr4 ?_
 try simp only[go_sem]
 cases h
 rfl
noncomputable def zLA (a0:Forest) (a1:Sl (Int)) (a2:Int) (a3:Bool):Option (Bool):=
 (if a3=true then
  (dec (eSl (D.int .i64)) (pc prog 226 [.list a1.n (a1.l.map (D.int .i64)),.int .i64 a2])).bind fun r3=>
  some r3
 else
  some a1:Option ((Sl (Int)))).bind fun r5=>
 (dec (D.int .i64) (pc prog 198 [zad a0,.list r5.n (r5.l.map (D.int .i64)),.int .u8 (1)])).bind fun r7=>
 if(!(decide (0<r7)))=true then
  (dec (eSl (D.int .i64)) (pc prog 227 [.list a1.n (a1.l.map (D.int .i64)),.int .i64 a2])).bind fun r11=>
  (dec (D.int .i64) (pc prog 198 [zad a0,.list r11.n (r11.l.map (D.int .i64)),.int .u8 (10)])).bind fun r13=>
  if(decide (0<r13))=true then
   some false
  else
   if(!(bif a3 then true else(a2==0)))=true then
    (dec (D.int .u8) (pc prog 92 [zad a0,.int .i64 a2])).bind fun r19=>
    some (!(r19==10))
   else
    some true
 else
  some false
theorem zLB (a0:Forest) (a1:Sl (Int)) (a2:Int) (a3:Bool) (r:Bool) (h:zLA a0 a1 a2 a3=some r):pc prog 200 [zad a0,.list a1.n (a1.l.map (D.int .i64)),.int .i64 a2,.bool a3]=some (D.bool r):=by
 unfold zLA at h
 refine zaR (fn:=zIH) rfl rfl ?_
 delta zIH
 try simp only[go_sem]
 obtain⟨r5,hl6,h⟩:=bs h
 refine WBr.cut (n:=(0,[])) .normal ⟨(((((Regs.none.set 1 (.d (.list a1.n (a1.l.map (D.int .i64))))).set 2 (.d (.int .i64 a2))).set 3 (.d (.bool a3))).set 4 (.ptr 0 0 0)).set 9 (.d (.list r5.n (r5.l.map (D.int .i64))))),((Heap.at 5).set 0 (some (.els 1 [.d (zad a0)] 0)))⟩ ?_ (by(repeat(refine Clo.seq zbb rfl ?_));(exact Clo.ret)) ?_
 ·replace h:=hl6
  refine zag (fun hc1=> ?_) (fun hc2=> ?_)
  ·rw[if_pos hc1]at h
   try simp only[go_sem]
   obtain⟨r3,hr4,h⟩:=bs h
   replace hr4:=zaj hr4
   refine zam hr4 ?_
   try simp only[go_sem]
   cases h
   exact⟨rfl,Up.of (N:=5) (N':=9) [] rfl rfl (by decide) (.set (.d _) (.set (.ptr' rfl) (.set (.d _) (.set (.d _) (.set (.d _) zao.none))))) (.set zaw.refl_d zar.at)⟩
  rw[if_neg (ff hc2)]at h
  try simp only[go_sem]
  cases h
  exact⟨rfl,Up.of (N:=5) (N':=5) [] rfl rfl (by decide) (.set (.d _) (.set (.ptr' rfl) (.set (.d _) (.set (.d _) (.set (.d _) zao.none))))) (.set zaw.refl_d zar.at)⟩
 try simp only[go_sem]
 obtain⟨r7,hr8,h⟩:=bs h
 replace hr8:=zaj hr8
 refine zam hr8 ?_
 try simp only[go_sem]
 refine zax (fun hc9=> ?_) (fun hc10=> ?_)
 ·rw[if_pos (show(!(decide (0<r7)))=true by(rw[hc9];rfl))]at h
  try simp only[go_sem,hc9]
  obtain⟨r11,hr12,h⟩:=bs h
  replace hr12:=zaj hr12
  refine zam hr12 ?_
  try simp only[go_sem]
  obtain⟨r13,hr14,h⟩:=bs h
  replace hr14:=zaj hr14
  refine zam hr14 ?_
  try simp only[go_sem]
  refine zag (fun hc15=> ?_) (fun hc16=> ?_)
  ·rw[if_pos hc15]at h
   try simp only[go_sem]
   cases h
   rfl
  rw[if_neg (ff hc16)]at h
  try simp only[go_sem]
  refine zaa (v:= .d (.int .i64 a2)) (fun hb24=>by simp only[go_sem,hc9,hc16,hb24]) ?_
  try simp only[go_sem]
  refine zaa (v:= .d (.bool (a2==0))) (fun hb23=>by simp only[go_sem,hc9,hc16,hb23]) ?_
  try simp only[go_sem]
  refine zaa (v:= .d (zad a0)) (fun hb22=>by simp only[go_sem,hc9,hc16,hb22]) ?_
  try simp only[go_sem]
  refine zaa (v:= .d (.int .i64 a2)) (fun hb21=>by simp only[go_sem,hc9,hc16,hb21]) ?_
  try simp only[go_sem]
  refine zax (fun hc17=> ?_) (fun hc18=> ?_)
  ·rw[if_pos (show(!(bif a3 then true else(a2==0)))=true by(rw[hc17];rfl))]at h
   try simp only[go_sem,hc17]
   obtain⟨r19,hr20,h⟩:=bs h
   replace hr20:=zaj hr20
   refine zam hr20 ?_
   try simp only[go_sem]
   cases h
   rfl
  rw[if_neg (ffn hc18)]at h
  try simp only[go_sem,hc18]
  cases h
  rfl
 rw[if_neg (ffn hc10)]at h
 try simp only[go_sem,hc10]
 cases h
 rfl
noncomputable def zLC (a0:Forest) (a1:Sl (Int)) (a2:Int) (a3:Bool):Option (Bool):=
 (if a3=true then
  (dec (eSl (D.int .i64)) (pc prog 226 [.list a1.n (a1.l.map (D.int .i64)),.int .i64 a2])).bind fun r3=>
  some r3
 else
  some a1:Option ((Sl (Int)))).bind fun r5=>
 (dec (D.int .i64) (pc prog 198 [zad a0,.list r5.n (r5.l.map (D.int .i64)),.int .u8 (10)])).bind fun r7=>
 if(r7==0)=true then
  (dec (eSl (D.int .i64)) (pc prog 228 [.list a1.n (a1.l.map (D.int .i64)),.int .i64 a2])).bind fun r11=>
  (dec (D.int .i64) (pc prog 198 [zad a0,.list r11.n (r11.l.map (D.int .i64)),.int .u8 (1)])).bind fun r13=>
  some (r13==0)
 else
  some false
theorem zLD (a0:Forest) (a1:Sl (Int)) (a2:Int) (a3:Bool) (r:Bool) (h:zLC a0 a1 a2 a3=some r):pc prog 201 [zad a0,.list a1.n (a1.l.map (D.int .i64)),.int .i64 a2,.bool a3]=some (D.bool r):=by
 unfold zLC at h
 refine zaR (fn:=zII) rfl rfl ?_
 delta zII
 try simp only[go_sem]
 obtain⟨r5,hl6,h⟩:=bs h
 refine WBr.cut (n:=(0,[])) .normal ⟨((((Regs.none.set 1 (.d (.list a1.n (a1.l.map (D.int .i64))))).set 2 (.d (.int .i64 a2))).set 4 (.ptr 0 0 0)).set 9 (.d (.list r5.n (r5.l.map (D.int .i64))))),((Heap.at 5).set 0 (some (.els 1 [.d (zad a0)] 0)))⟩ ?_ (by(repeat(refine Clo.seq zbb rfl ?_));(exact Clo.ret)) ?_
 ·replace h:=hl6
  refine zag (fun hc1=> ?_) (fun hc2=> ?_)
  ·rw[if_pos hc1]at h
   try simp only[go_sem]
   obtain⟨r3,hr4,h⟩:=bs h
   replace hr4:=zaj hr4
   refine zam hr4 ?_
   try simp only[go_sem]
   cases h
   exact⟨rfl,Up.of (N:=5) (N':=9) [] rfl rfl (by decide) (.set (.d _) (.set (.ptr' rfl) (.set (.d _) (.set (.d _) zao.none)))) (.set zaw.refl_d zar.at)⟩
  rw[if_neg (ff hc2)]at h
  try simp only[go_sem]
  cases h
  exact⟨rfl,Up.of (N:=5) (N':=5) [] rfl rfl (by decide) (.set (.d _) (.set (.ptr' rfl) (.set (.d _) (.set (.d _) zao.none)))) (.set zaw.refl_d zar.at)⟩
 try simp only[go_sem]
 obtain⟨r7,hr8,h⟩:=bs h
 replace hr8:=zaj hr8
 refine zam hr8 ?_
 try simp only[go_sem]
 refine zav (fun hc9=> ?_) (fun hc10=> ?_)
 ·rw[if_pos hc9]at h
  try simp only[go_sem,hc9]
  obtain⟨r11,hr12,h⟩:=bs h
  replace hr12:=zaj hr12
  refine zam hr12 ?_
  try simp only[go_sem]
  obtain⟨r13,hr14,h⟩:=bs h
  replace hr14:=zaj hr14
  refine zam hr14 ?_
  try simp only[go_sem]
  cases h
  rfl
 rw[if_neg (ff hc10)]at h
 try simp only[go_sem,hc10]
 cases h
 rfl
def zfB (a0:valid_ask) (a1:Int) (r1:Sl (Int)) (x0:Int):St:=⟨((((Regs.none.set 0 (.d (.list r1.n (r1.l.map (D.int .i64))))).set 1 (.clo 234 [] [.ptr 0 0 0,.ptr 1 0 0])).set 7 (.d (.int .i64 (r1.l.length:Int)))).set 8 (.d (.int .i64 x0))),(((Heap.at 18).set 0 (some (.els 4 [.d (zaq a0)] 0))).set 1 (some (.els 1 [.d (.int .u8 a1)] 0)))⟩
def ziV (a0:valid_ask) (a1:Int) (r1:Sl (Int)):((Unit)⊕(Int))→Ex×St:=fun r=>match r with
 |(.inl r)=>(.exit 0,⟨Regs.none,(((Heap.at 18).set 0 (some (.els 4 [.d (zaq a0)] 0))).set 1 (some (.els 1 [.d (.int .u8 a1)] 0)))⟩)
 |(.inr r)=>(.ret,⟨(Regs.none.set 4 (.d (.int .i64 r))),(((Heap.at 18).set 0 (some (.els 4 [.d (zaq a0)] 0))).set 1 (some (.els 1 [.d (.int .u8 a1)] 0)))⟩)
noncomputable def zdB (a0:valid_ask) (a1:Int) (r1:Sl (Int)) (x0:Int):Option ((Int)⊕((Unit)⊕(Int))):=
 if(decide (x0<(r1.l.length:Int)))=true then
  (rd r1.l x0).bind fun y5=>
  (dec zah (pc prog 91 [zad a0.f,.int .i64 y5])).bind fun r7=>
  if(r7.kind==a1)=true then
   some (.inr (.inr x0))
  else
   some (.inl (IntKind.wrap .i64 (x0+1)))
 else
  some (.inr (.inl ()))
theorem zxy (a0:valid_ask) (a1:Int) (r1:Sl (Int)) (x0:Int) (o:(Int)⊕((Unit)⊕(Int))) (h:zdB a0 a1 r1 x0=some o):Wp prog zfV (zfB a0 a1 r1 x0) (zbW (14,[]) (zfB a0 a1 r1) (ziV a0 a1 r1) o):=by
 unfold zdB at h
 delta zfV zfB
 try simp only[go_sem]
 refine zag (fun hc3=> ?_) (fun hc4=> ?_)
 ·rw[if_pos hc3]at h
  try simp only[go_sem]
  obtain⟨y5,hy6,h⟩:=bs h
  try simp only[go_sem,zab hy6,zaf hy6,zac (D.int .i64) hy6]
  refine znn (fn:=zJl) rfl rfl ?_
  delta zJl
  try simp only[go_sem,zab hy6,zaf hy6,zac (D.int .i64) hy6]
  obtain⟨r7,hr8,h⟩:=bs h
  replace hr8:=zaj hr8
  refine zam hr8 ?_
  try simp only[go_sem,zab hy6,zaf hy6,zac (D.int .i64) hy6]
  refine zag (fun hc9=> ?_) (fun hc10=> ?_)
  ·rw[if_pos hc9]at h
   try simp only[go_sem,zab hy6,zaf hy6,zac (D.int .i64) hy6]
   cases h
   exact⟨rfl,by simp,Up.of (N:=18) (N':=38) [] rfl rfl (by decide) (.set (.d _) zao.none) (.set zaw.refl_d (.set zaw.refl_d zar.at))⟩
  rw[if_neg (ff hc10)]at h
  try simp only[go_sem,zab hy6,zaf hy6,zac (D.int .i64) hy6]
  cases h
  exact⟨rfl,Up.of (N:=18) (N':=38) [] rfl rfl (by decide) (.set (.d _) (.set (.d _) (.set (.clo' .nil (.cons (.ptr' rfl) (.cons (.ptr' rfl) .nil))) (.set (.d _) zao.none)))) (.set zaw.refl_d (.set zaw.refl_d zar.at))⟩
 rw[if_neg (ff hc4)]at h
 try simp only[go_sem]
 cases h
 exact⟨rfl,by simp,Up.of (N:=18) (N':=19) [] rfl rfl (by decide) zao.none (.set zaw.refl_d (.set zaw.refl_d zar.at))⟩
noncomputable def zLE (a0:valid_ask) (a1:Int):Option (Bool):=
 (dec (eSl (D.int .i64)) (pc prog 233 [zaq a0])).bind fun r1=>
 (zaU (zdB a0 a1 r1) 0).bind fun r11=>
 match r11 with
 |(.inl q13)=>
  some false
 |(.inr q14)=>
  some (decide (0≤q14))
theorem zLF (a0:valid_ask) (a1:Int) (r:Bool) (h:zLE a0 a1=some r):pc prog 223 [zaq a0,.int .u8 a1]=some (D.bool r):=by
 unfold zLE at h
 refine zaR (fn:=zJa) rfl rfl ?_
 delta zJa
 try simp only[go_sem]
 obtain⟨r1,hr2,h⟩:=bs h
 replace hr2:=zaj hr2
 refine zam hr2 ?_
 try simp only[go_sem]
 refine zgI (fn:=zJj) rfl rfl ?_
 delta zJj
 try simp only[go_sem]
 refine zgI (fn:=zCO) rfl rfl ?_
 delta zCO
 try simp only[go_sem]
 obtain⟨r11,hl12,h⟩:=bs h
 refine Wp.loopR zbb (n:=(14,[])) (a:=zfV) rfl (zfB a0 a1 r1) (ziV a0 a1 r1) (zxy a0 a1 r1) hl12 ?_ (by(repeat(first|refine Clo.block ?_|refine Clo.seq zbb rfl ?_));refine Clo.inl zbb (n':=(8,[])) rfl rfl rfl ?_ ?_ (show Fx.spans _ 9 5=true from by decide) (by decide) ?_;((repeat(first|exact zaW.no|refine zaW.set ?_ ?_|refine zaW.args ?_|exact zbl.nil|refine zbl.cons ?_ ?_|exact zaM.d|exact zaM.ptr (by decide)|refine zaM.clo ?_ ?_));(repeat(first|exact zaW.no|exact zaW.none|refine zaW.set ?_ ?_|refine zaW.args ?_|exact zbl.nil|refine zbl.cons ?_ ?_|exact zaM.d|exact zaM.undef|exact zaM.rp|exact zaM.ptr (by decide)|exact zaM.sl (by decide)|exact zaM.mb (by decide)|exact zaM.map (by decide)|exact zaM.yld (by decide)|exact zaM.it (by decide)|refine zaM.clo ?_ ?_|refine zaM.ofCells ?_|refine zaM.agg ?_|refine zaM.tuple ?_|refine zaM.bif ?_ ?_)));(repeat(refine Clo.seq zbb rfl ?_));refine Clo.inl zbb (n':=(0,[])) rfl rfl rfl ?_ ?_ (show Fx.spans _ 3 5=true from by decide) (by decide) ?_;((repeat(first|exact zaW.no|refine zaW.set ?_ ?_|refine zaW.args ?_|exact zbl.nil|refine zbl.cons ?_ ?_|exact zaM.d|exact zaM.ptr (by decide)|refine zaM.clo ?_ ?_));(repeat(first|exact zaW.no|exact zaW.none|refine zaW.set ?_ ?_|refine zaW.args ?_|exact zbl.nil|refine zbl.cons ?_ ?_|exact zaM.d|exact zaM.undef|exact zaM.rp|exact zaM.ptr (by decide)|exact zaM.sl (by decide)|exact zaM.mb (by decide)|exact zaM.map (by decide)|exact zaM.yld (by decide)|exact zaM.it (by decide)|refine zaM.clo ?_ ?_|refine zaM.ofCells ?_|refine zaM.agg ?_|refine zaM.tuple ?_|refine zaM.bif ?_ ?_)));(repeat(refine Clo.seq zbb rfl ?_));(exact Clo.ret)) ?_
 ·show Up (14,[]) (zfB a0 a1 r1 0) _
  delta zfB
  exact Up.of (N:=18) (N':=18) [] rfl rfl (by decide) (.set (.d _) (.set (.d _) (.set (.clo' .nil (.cons (.ptr' rfl) (.cons (.ptr' rfl) .nil))) (.set (.d _) zao.none)))) (.set zaw.refl_d (.set zaw.refl_d zar.at))
 rcases r11 with(q13|q14)
 ·dsimp only at h
  dsimp only[ziV]
  try simp only[go_sem]
  cases h
  rfl
 dsimp only at h
 dsimp only[ziV]
 try simp only[go_sem]
 cases h
 rfl
noncomputable def zLG (a0:valid_ask) (a1:Int):Option (Bool):=
 (dec D.bool (pc prog 235 [zaq a0,.int .u8 a1,.int .i64 (1)])).bind fun r1=>
 some r1
theorem zLH (a0:valid_ask) (a1:Int) (r:Bool) (h:zLG a0 a1=some r):pc prog 224 [zaq a0,.int .u8 a1]=some (D.bool r):=by
 unfold zLG at h
 refine zaR (fn:=zJb) rfl rfl ?_
 delta zJb
 try simp only[go_sem]
 obtain⟨r1,hr2,h⟩:=bs h
 replace hr2:=zaj hr2
 refine zam hr2 ?_
 try simp only[go_sem]
 cases h
 rfl
noncomputable def zJn (a0:valid_ask) (a1:Int):Option (Bool):=
 (dec D.bool (pc prog 235 [zaq a0,.int .u8 a1,.int .i64 (-1)])).bind fun r1=>
 some r1
theorem zHs (a0:valid_ask) (a1:Int) (r:Bool) (h:zJn a0 a1=some r):pc prog 225 [zaq a0,.int .u8 a1]=some (D.bool r):=by
 unfold zJn at h
 refine zaR (fn:=zJc) rfl rfl ?_
 delta zJc
 try simp only[go_sem]
 obtain⟨r1,hr2,h⟩:=bs h
 replace hr2:=zaj hr2
 refine zam hr2 ?_
 try simp only[go_sem]
 cases h
 rfl
def zfC (a0:Sl (Int)) (a1:Int) (x0:List (Int)×Int):St:=⟨((((Regs.none.set 0 (.d (.list a0.n (a0.l.map (D.int .i64))))).set 1 (.d (.int .i64 a1))).set 5 (mb 2 (x0.1.map fun z=>V.d ((D.int .i64) z)))).set 6 (.d (.int .i64 x0.2))),((Heap.at 3).set 2 (mbB 1 x0.1.length (x0.1.map fun z=>V.d ((D.int .i64) z))))⟩
def zmj (a0:Sl (Int)) (a1:Int):((List (Int)))→Ex×St:=fun r=>(.exit 0,⟨(Regs.none.set 5 (mb 2 (r.map fun z=>V.d ((D.int .i64) z)))),((Heap.at 3).set 2 (mbB 1 r.length (r.map fun z=>V.d ((D.int .i64) z))))⟩)
noncomputable def zcm (a0:Sl (Int)) (a1:Int) (x0:List (Int)×Int):Option ((List (Int)×Int)⊕((List (Int)))):=
 if(decide (x0.2<(a0.l.length:Int)))=true then
  (rd a0.l x0.2).bind fun y3=>
  if(!(y3==a1))=true then
   if(x0.1.length+1)*8≤AI.roomBytes then
    some (.inl ((x0.1++[y3]),(IntKind.wrap .i64 (x0.2+1))))
   else none
  else
   some (.inl (x0.1,(IntKind.wrap .i64 (x0.2+1))))
 else
  some (.inr x0.1)
theorem zxz (a0:Sl (Int)) (a1:Int) (x0:List (Int)×Int) (o:(List (Int)×Int)⊕((List (Int)))) (h:zcm a0 a1 x0=some o):Wp prog zqH (zfC a0 a1 x0) (zbW (0,[]) (zfC a0 a1) (zmj a0 a1) o):=by
 unfold zcm at h
 delta zqH zfC
 try simp only[go_sem]
 refine zag (fun hc1=> ?_) (fun hc2=> ?_)
 ·rw[if_pos hc1]at h
  try simp only[go_sem]
  obtain⟨y3,hy4,h⟩:=bs h
  try simp only[go_sem,zab hy4,zaf hy4,zac (D.int .i64) hy4]
  refine zaG (fun hc5=> ?_) (fun hc6=> ?_)
  ·rw[if_pos (show(!(y3==a1))=true by(rw[hc5];rfl))]at h
   try simp only[go_sem,zab hy4,zaf hy4,zac (D.int .i64) hy4]
   obtain⟨hm7,h⟩:=zcV h
   refine znl (l:=x0.1.map fun z=>V.d ((D.int .i64) z)) (new:=[V.d (.int .i64 y3)]) (sz:=1) (fz:=x0.1.length) (by simp only[go_sem,List.map_append,List.map_cons,List.map_nil,zab hy4,zaf hy4,zac (D.int .i64) hy4]) (by intro h;simpa using h) (by simp only[go_sem,zcS,zdG,zcT,zbM,zkg]) (by simp) (by simp only[go_sem]) (by simpa using hm7) ?_
   try simp only[go_sem,zab hy4,zaf hy4,zac (D.int .i64) hy4,hm7]
   cases h
   refine⟨rfl,Up.of (N:=3) (N':=24) [(2,19)] rfl rfl (by decide) ?_ ?_⟩
   ·refine zao.set ?_ (zao.set ?_ (zao.set ?_ (zao.set ?_ zao.none)))
    all_goals (try simp only[go_sem,List.map_append,List.map_cons,List.map_nil,zab hy4,zaf hy4,zac (D.int .i64) hy4,hm7])
    all_goals (first|exact VR.d _|exact VR.mb_sl (by simp) rfl (by simp))
   refine zar.set (show zaw _ _ (Heap.get _ 19)from ?_) (zar.at)
   all_goals (try simp only[go_sem,List.map_append,List.map_cons,List.map_nil,zab hy4,zaf hy4,zac (D.int .i64) hy4,hm7])
   all_goals (((repeat' first|refine zaw.mb_els (by simp) ?_|exact VR.d _|exact VRL.nil|exact VRL.refl_d _ _|refine VRL.append ?_ ?_|refine VRL.cons ?_ ?_);done))
  rw[if_neg (ffn hc6)]at h
  try simp only[go_sem,zab hy4,zaf hy4,zac (D.int .i64) hy4]
  cases h
  exact⟨rfl,Up.of (N:=3) (N':=16) [] rfl rfl (by decide) (.set (.d _) (.set (.mb rfl) (.set (.d _) (.set (.d _) zao.none)))) (.set (zaw.mb (Nat.le_refl _) (VRL.refl_d _ _)) zar.at)⟩
 rw[if_neg (ff hc2)]at h
 try simp only[go_sem]
 cases h
 refine⟨rfl,by simp,Up.of (N:=3) (N':=7) [] rfl rfl (by decide) ?_ ?_⟩
 ·refine zao.set ?_ zao.none
  all_goals (try simp only[go_sem,List.map_append,List.map_cons,List.map_nil])
  all_goals (exact VR.mb rfl)
 refine zar.set (show zaw _ _ (Heap.get _ 2)from ?_) (zar.at)
 all_goals (try simp only[go_sem,List.map_append,List.map_cons,List.map_nil])
 all_goals (((repeat' first|refine zaw.mb (by simp) ?_|exact VRL.refl_d _ _);done))
noncomputable def zLI (a0:Sl (Int)) (a1:Int):Option (Sl (Int)):=
 (zaU (zcm a0 a1) ([],0)).bind fun r8=>
 some (⟨r8.isEmpty,r8⟩)
theorem zLJ (a0:Sl (Int)) (a1:Int) (r:Sl (Int)) (h:zLI a0 a1=some r):pc prog 226 [.list a0.n (a0.l.map (D.int .i64)),.int .i64 a1]=some ((eSl (D.int .i64)) r):=by
 unfold zLI at h
 refine zaR (fn:=zJd) rfl rfl ?_
 delta zJd
 try simp only[go_sem]
 obtain⟨r8,hl9,h⟩:=bs h
 refine Wp.loopR zbb (n:=(0,[])) (a:=zqH) rfl (zfC a0 a1) (zmj a0 a1) (zxz a0 a1) hl9 ?_ (by(repeat(first|refine Clo.block ?_|refine Clo.seq zbb rfl ?_));(exact Clo.ret)) ?_
 ·show Up (0,[]) (zfC a0 a1 ([],0)) _
  delta zfC
  refine Up.of (N:=3) (N':=3) [] rfl rfl (by decide) ?_ ?_
  ·refine zao.set ?_ (zao.set ?_ (zao.set ?_ (zao.set ?_ zao.none)))
   all_goals (try simp only[go_sem,List.map_append,List.map_cons,List.map_nil])
   all_goals (exact VR.d _)
  refine zar.set (show zaw _ _ (Heap.get _ 2)from ?_) (zar.at)
  all_goals (try simp only[go_sem,List.map_append,List.map_cons,List.map_nil])
  all_goals (((repeat' trivial);done))
 dsimp only[zmj]
 try simp only[go_sem]
 cases h
 refine Reads.ofv (v':=mb 2 (r8.map fun z=>V.d ((D.int .i64) z))) (by rfl) (Rd.mb (e:=(D.int .i64)) (l:=r8) (sz:=1) (fz:=r8.length) (by simp only[go_sem,List.map_append,List.map_cons,List.map_nil])) rfl
noncomputable def zJo (a0:Sl (Int)) (a1:Int):Option (Sl (Int)):=
 if(a1==0)=true then
  some (⟨true,[]⟩)
 else
  (dec (D.int .i64) (pc prog 126 [.list a0.n (a0.l.map (D.int .i64)),.int .i64 a1])).bind fun r3=>
  (cut a0.l (IntKind.wrap .i64 (r3+1)) (a0.l.length:Int)).bind fun y5=>
  some (⟨a0.n,y5⟩)
theorem zHt (a0:Sl (Int)) (a1:Int) (r:Sl (Int)) (h:zJo a0 a1=some r):pc prog 227 [.list a0.n (a0.l.map (D.int .i64)),.int .i64 a1]=some ((eSl (D.int .i64)) r):=by
 unfold zJo at h
 refine zaR (fn:=zJe) rfl rfl ?_
 delta zJe
 try simp only[go_sem]
 refine zag (fun hc1=> ?_) (fun hc2=> ?_)
 ·rw[if_pos hc1]at h
  try simp only[go_sem]
  cases h
  rfl
 rw[if_neg (ff hc2)]at h
 try simp only[go_sem]
 obtain⟨r3,hr4,h⟩:=bs h
 replace hr4:=zaj hr4
 refine zam hr4 ?_
 try simp only[go_sem]
 obtain⟨y5,hy6,h⟩:=bs h
 refine zhr (e:=(D.int .i64)) (n:=a0.n) (l:=a0.l) (sz:=1) (lo:=(some (IntKind.wrap .i64 (r3+1)))) (hi:=none) (by simp only[go_sem,zvJ];(split<;>rfl)) (by decide) (fun _=>rfl) hy6 ?_
 try simp only[go_sem]
 cases h
 rfl
noncomputable def zJp (a0:Sl (Int)) (a1:Int):Option (Sl (Int)):=
 if(a1==0)=true then
  some a0
 else
  (dec (D.int .i64) (pc prog 126 [.list a0.n (a0.l.map (D.int .i64)),.int .i64 a1])).bind fun r3=>
  (cut a0.l (0) r3).bind fun y5=>
  some (⟨a0.n,y5⟩)
theorem zHu (a0:Sl (Int)) (a1:Int) (r:Sl (Int)) (h:zJp a0 a1=some r):pc prog 228 [.list a0.n (a0.l.map (D.int .i64)),.int .i64 a1]=some ((eSl (D.int .i64)) r):=by
 unfold zJp at h
 refine zaR (fn:=zJf) rfl rfl ?_
 delta zJf
 try simp only[go_sem]
 refine zag (fun hc1=> ?_) (fun hc2=> ?_)
 ·rw[if_pos hc1]at h
  try simp only[go_sem]
  cases h
  rfl
 rw[if_neg (ff hc2)]at h
 try simp only[go_sem]
 obtain⟨r3,hr4,h⟩:=bs h
 replace hr4:=zaj hr4
 refine zam hr4 ?_
 try simp only[go_sem]
 obtain⟨y5,hy6,h⟩:=bs h
 refine zhr (e:=(D.int .i64)) (n:=a0.n) (l:=a0.l) (sz:=1) (lo:=none) (hi:=(some r3)) (by simp only[go_sem,zvJ];(split<;>rfl)) (by decide) (fun _=>rfl) hy6 ?_
 try simp only[go_sem]
 cases h
 rfl
def zfD (a0:valid_ask) (a1:Int) (a2:Int) (x0:Int):St:=⟨((((Regs.none.set 1 (.d (.int .u8 a1))).set 2 (.d (.int .i64 a2))).set 3 (.ptr 0 0 0)).set 7 (.d (.int .i64 x0))),((Heap.at 12).set 0 (some (.els 4 [.d (zaq a0)] 0)))⟩
def ziW (a0:valid_ask) (a1:Int) (a2:Int):((Unit)⊕(Unit))→Ex×St:=fun r=>match r with
 |(.inl r)=>(.exit 0,⟨Regs.none,(Heap.at 12)⟩)
 |(.inr r)=>(.ret,⟨(Regs.none.set 6 (.d (.bool true))),(Heap.at 12)⟩)
noncomputable def zbo (a0:valid_ask) (a1:Int) (a2:Int) (x0:Int):Option ((Int)⊕((Unit)⊕(Unit))):=
 if(!(x0==0))=true then
  (dec zah (pc prog 91 [zad a0.f,.int .i64 x0])).bind fun r7=>
  if(r7.kind==a1)=true then
   some (.inr (.inr ()))
  else
   (dec (D.int .i64) (pc prog 185 [zad a0.f,.int .i64 x0,.int .i64 a2])).bind fun r11=>
   some (.inl r11)
 else
  some (.inr (.inl ()))
theorem zxA (a0:valid_ask) (a1:Int) (a2:Int) (x0:Int) (o:(Int)⊕((Unit)⊕(Unit))) (h:zbo a0 a1 a2 x0=some o):Wp prog zqJ (zfD a0 a1 a2 x0) (zbW (0,[]) (zfD a0 a1 a2) (ziW a0 a1 a2) o):=by
 unfold zbo at h
 delta zqJ zfD
 try simp only[go_sem]
 refine zaG (fun hc5=> ?_) (fun hc6=> ?_)
 ·rw[if_pos (show(!(x0==0))=true by(rw[hc5];rfl))]at h
  try simp only[go_sem]
  obtain⟨r7,hr8,h⟩:=bs h
  replace hr8:=zaj hr8
  refine zam hr8 ?_
  try simp only[go_sem]
  refine zag (fun hc9=> ?_) (fun hc10=> ?_)
  ·rw[if_pos hc9]at h
   try simp only[go_sem]
   cases h
   exact⟨rfl,by simp,Up.of (N:=12) (N':=22) [] rfl rfl (by decide) (.set (.d _) zao.none) zar.at⟩
  rw[if_neg (ff hc10)]at h
  try simp only[go_sem]
  obtain⟨r11,hr12,h⟩:=bs h
  replace hr12:=zaj hr12
  refine zam hr12 ?_
  try simp only[go_sem]
  cases h
  exact⟨rfl,Up.of (N:=12) (N':=27) [] rfl rfl (by decide) (.set (.d _) (.set (.ptr' rfl) (.set (.d _) (.set (.d _) zao.none)))) (.set zaw.refl_d zar.at)⟩
 rw[if_neg (ffn hc6)]at h
 try simp only[go_sem]
 cases h
 exact⟨rfl,by simp,Up.of (N:=12) (N':=14) [] rfl rfl (by decide) zao.none zar.at⟩
noncomputable def zHv (a0:valid_ask) (a1:Int) (a2:Int):Option (Bool):=
 if(a0.child==0)=true then
  some false
 else
  (dec (D.int .i64) (pc prog 185 [zad a0.f,.int .i64 a0.child,.int .i64 a2])).bind fun r3=>
  (zaU (zbo a0 a1 a2) r3).bind fun r13=>
  match r13 with
  |(.inl q15)=>
   some false
  |(.inr q16)=>
   some true
theorem zEh (a0:valid_ask) (a1:Int) (a2:Int) (r:Bool) (h:zHv a0 a1 a2=some r):pc prog 235 [zaq a0,.int .u8 a1,.int .i64 a2]=some (D.bool r):=by
 unfold zHv at h
 refine zaR (fn:=zJm) rfl rfl ?_
 delta zJm
 try simp only[go_sem]
 refine zag (fun hc1=> ?_) (fun hc2=> ?_)
 ·rw[if_pos hc1]at h
  try simp only[go_sem]
  cases h
  rfl
 rw[if_neg (ff hc2)]at h
 try simp only[go_sem]
 obtain⟨r3,hr4,h⟩:=bs h
 replace hr4:=zaj hr4
 refine zam hr4 ?_
 try simp only[go_sem]
 obtain⟨r13,hl14,h⟩:=bs h
 refine Wp.loopR zbb (n:=(0,[])) (a:=zqJ) rfl (zfD a0 a1 a2) (ziW a0 a1 a2) (zxA a0 a1 a2) hl14 ?_ (by(repeat(first|refine Clo.block ?_|refine Clo.seq zbb rfl ?_));(exact Clo.ret)) ?_
 ·show Up (0,[]) (zfD a0 a1 a2 r3) _
  delta zfD
  exact Up.of (N:=12) (N':=12) [] rfl rfl (by decide) (.set (.d _) (.set (.ptr' rfl) (.set (.d _) (.set (.d _) zao.none)))) (.set zaw.refl_d zar.at)
 rcases r13 with(q15|q16)
 ·dsimp only at h
  dsimp only[ziW]
  try simp only[go_sem]
  cases h
  rfl
 dsimp only at h
 dsimp only[ziW]
 try simp only[go_sem]
 cases h
 rfl
end Go.Proofs.Ytfleilibjdgcjaa.V
