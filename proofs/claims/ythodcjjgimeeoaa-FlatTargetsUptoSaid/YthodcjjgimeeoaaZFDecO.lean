/- Shaken copy of a longer text: what one law needs. Its conditions: none. -/
import Derived.Test.YthodcjjgimeeoaaZFDec0
set_option linter.unusedSimpArgs false
set_option linter.unusedVariables false
set_option maxHeartbeats 1000000
namespace Go.Proofs.Ythodcjjgimeeoaa.F
open Go.AI
noncomputable def P15 (a0:Forest) (a1:Int) (a2:Int):Option (Bool):=
 (dec (eT2 (D.int .i64) (D.int .i64)) (pc prog 47 [zai a0,.int .i64 a1,.int .i64 a2])).bind fun r1=>
 (dec (eT2 (D.int .i64) (D.int .i64)) (pc prog 48 [zai a0,.int .i64 a1,.int .i64 a2])).bind fun r3=>
 (dec (eT2 D.bool (D.int .i64)) (pc prog 49 [zai a0,.int .i64 a1,.int .i64 a2])).bind fun r5=>
 (dec D.bool (pc prog 50 [])).bind fun r7=>
 if(bif (bif (bif r7 then(r1.1==r3.1)else false)then(r1.2==r3.2)else false)then(r5.2==r3.2)else false)=true then
  some (r5.1==(bif (r3.2==0)then(r3.1==a1)else false))
 else
  some false
theorem zJM (a0:Forest) (a1:Int) (a2:Int) (r:Bool) (h:P15 a0 a1 a2=some r):pc prog 15 [zai a0,.int .i64 a1,.int .i64 a2]=some (D.bool r):=by
 unfold P15 at h
 refine zbc (fn:=c15) rfl rfl ?_
 delta c15
 try simp only[go_sem]
 obtain⟨r1,hr2,h⟩:=bs h
 replace hr2:=zao hr2
 refine zas hr2 ?_
 try simp only[go_sem]
 obtain⟨r3,hr4,h⟩:=bs h
 replace hr4:=zao hr4
 refine zas hr4 ?_
 try simp only[go_sem]
 obtain⟨r5,hr6,h⟩:=bs h
 replace hr6:=zao hr6
 refine zas hr6 ?_
 try simp only[go_sem]
 obtain⟨r7,hr8,h⟩:=bs h
 replace hr8:=zao hr8
 refine zas hr8 ?_
 try simp only[go_sem]
 refine zaa (v:= .d (.int .i64 r1.1)) (fun hb32=>by simp only[go_sem,hb32]) ?_
 try simp only[go_sem]
 refine zaa (v:= .d (.int .i64 r3.1)) (fun hb31=>by simp only[go_sem,hb31]) ?_
 try simp only[go_sem]
 refine zaa (v:= .d (.bool (r1.1==r3.1))) (fun hb30=>by simp only[go_sem,hb30]) ?_
 try simp only[go_sem]
 refine zaa (v:= .d (.int .i64 r1.2)) (fun hb29=>by simp only[go_sem,hb29]) ?_
 try simp only[go_sem]
 refine zaa (v:= .d (.int .i64 r3.2)) (fun hb28=>by simp only[go_sem,hb28]) ?_
 try simp only[go_sem]
 refine zaa (v:= .d (.bool (r1.2==r3.2))) (fun hb27=>by simp only[go_sem,hb27]) ?_
 try simp only[go_sem]
 refine zaa (v:= .d (.int .i64 r5.2)) (fun hb26=>by simp only[go_sem,hb26]) ?_
 try simp only[go_sem]
 refine zaa (v:= .d (.int .i64 r3.2)) (fun hb25=>by simp only[go_sem,hb25]) ?_
 try simp only[go_sem]
 refine zaa (v:= .d (.bool (r5.2==r3.2))) (fun hb24=>by simp only[go_sem,hb24]) ?_
 try simp only[go_sem]
 refine zaa (v:= .d (.bool r5.1)) (fun hb23=>by simp only[go_sem,hb23]) ?_
 try simp only[go_sem]
 refine zaa (v:= .d (.int .i64 r3.2)) (fun hb22=>by simp only[go_sem,hb22]) ?_
 try simp only[go_sem]
 refine zaa (v:= .d (.bool (r3.2==0))) (fun hb21=>by simp only[go_sem,hb21]) ?_
 try simp only[go_sem]
 refine zaa (v:= .d (.bool (r3.2==0))) (fun hb20=>by simp only[go_sem,hb20]) ?_
 try simp only[go_sem]
 refine zaa (v:= .d (.int .i64 r3.1)) (fun hb17=>by((obtain⟨hb18,hb19⟩:=zaw hb17));simp only[go_sem,hb19,hb18]) ?_
 try simp only[go_sem]
 refine zaa (v:= .d (.int .i64 a1)) (fun hb14=>by((obtain⟨hb15,hb16⟩:=zaw hb14));simp only[go_sem,hb16,hb15]) ?_
 try simp only[go_sem]
 refine zaa (v:= .d (.bool (r3.1==a1))) (fun hb11=>by((obtain⟨hb12,hb13⟩:=zaw hb11));simp only[go_sem,hb13,hb12]) ?_
 try simp only[go_sem]
 refine zaF (fun hc9=> ?_) (fun hc10=> ?_)
 ·rw[if_pos hc9]at h
  try simp only[go_sem,hc9]
  cases h
  rfl
 rw[if_neg (ff hc10)]at h
 try simp only[go_sem,hc10]
 cases h
 rfl
noncomputable def P16 (a0:Forest) (a1:Int) (a2:Int):Option (Bool):=
 (dec D.bool (pc prog 50 [])).bind fun r1=>
 if(!r1)=true then
  some false
 else
  (dec (eT2 (D.int .i64) (D.int .i64)) (pc prog 47 [zai a0,.int .i64 a1,.int .i64 a2])).bind fun r5=>
  if(!(r5.2==0))=true then
   some (r5.1==0)
  else
   (dec (eT2 D.bool (D.int .i64)) (pc prog 49 [zai a0,.int .i64 r5.1,.int .i64 a2])).bind fun r9=>
   if(!(bif (bif (bif (!(r9.2==0))then true else(!r9.1))then true else(decide (r5.1<1)))then true else(decide ((a0.nodes.l.length:Int)<r5.1))))=true then
    (dec (D.int .i64) (pc prog 51 [zai a0,.int .i64 a1])).bind fun r13=>
    (dec (D.int .i64) (pc prog 51 [zai a0,.int .i64 a2])).bind fun r15=>
    if(bif (r13==r15)then(!(r5.1==a1))else false)=true then
     some false
    else
     if(!(r5.1==a1))=true then
      (rd a0.nodes.l (IntKind.wrap .i64 (r5.1-1))).bind fun y21=>
      if(!(y21.shadow==0))=true then
       (dec D.bool (pc prog 52 [zai a0,.int .i64 r5.1,.int .i64 a1])).bind fun r25=>
       some r25
      else
       some false
     else
      some true
   else
    some false
theorem zJN (a0:Forest) (a1:Int) (a2:Int) (r:Bool) (h:P16 a0 a1 a2=some r):pc prog 16 [zai a0,.int .i64 a1,.int .i64 a2]=some (D.bool r):=by
 unfold P16 at h
 refine zbc (fn:=c16) rfl rfl ?_
 delta c16
 try simp only[go_sem]
 obtain⟨r1,hr2,h⟩:=bs h
 replace hr2:=zao hr2
 refine zas hr2 ?_
 try simp only[go_sem]
 refine zaM (fun hc3=> ?_) (fun hc4=> ?_)
 ·rw[if_pos (show(!r1)=true by(rw[hc3];rfl))]at h
  try simp only[go_sem]
  cases h
  rfl
 rw[if_neg (ffn hc4)]at h
 try simp only[go_sem]
 obtain⟨r5,hr6,h⟩:=bs h
 replace hr6:=zao hr6
 refine zas hr6 ?_
 try simp only[go_sem]
 refine zaM (fun hc7=> ?_) (fun hc8=> ?_)
 ·rw[if_pos (show(!(r5.2==0))=true by(rw[hc7];rfl))]at h
  try simp only[go_sem]
  cases h
  rfl
 rw[if_neg (ffn hc8)]at h
 try simp only[go_sem]
 obtain⟨r9,hr10,h⟩:=bs h
 replace hr10:=zao hr10
 refine zas hr10 ?_
 try simp only[go_sem]
 refine zaa (v:= .d (.bool r9.1)) (fun hb47=>by simp only[go_sem,hc4,hc8,hb47]) ?_
 try simp only[go_sem]
 refine zaa (v:= .d (.bool (!r9.1))) (fun hb46=>by simp only[go_sem,hc4,hc8,hb46]) ?_
 try simp only[go_sem]
 refine zaa (v:= .d (.int .i64 r5.1)) (fun hb45=>by simp only[go_sem,hc4,hc8,hb45]) ?_
 try simp only[go_sem]
 refine zaa (v:= .d (.bool (decide (r5.1<1)))) (fun hb44=>by simp only[go_sem,hc4,hc8,hb44]) ?_
 try simp only[go_sem]
 refine zaa (v:= .d (.int .i64 r5.1)) (fun hb43=>by simp only[go_sem,hc4,hc8,hb43]) ?_
 try simp only[go_sem]
 refine zaa (v:= .ptr 0 0 0) (fun hb42=>by simp only[go_sem,hc4,hc8,hb42]) ?_
 try simp only[go_sem]
 refine zaa (v:= .d (.list a0.nodes.n (a0.nodes.l.map zah))) (fun hb41=>by simp only[go_sem,hc4,hc8,hb41]) ?_
 try simp only[go_sem]
 refine zaa (v:= .d (.int .i64 (a0.nodes.l.length:Int))) (fun hb40=>by simp only[go_sem,hc4,hc8,hb40]) ?_
 try simp only[go_sem]
 refine zaa (v:= .d (.bool (decide ((a0.nodes.l.length:Int)<r5.1)))) (fun hb39=>by simp only[go_sem,hc4,hc8,hb39]) ?_
 try simp only[go_sem]
 refine zaa (v:= .d (zai a0)) (fun hb38=>by simp only[go_sem,hc4,hc8,hb38]) ?_
 try simp only[go_sem]
 refine zaa (v:= .d (.int .i64 a1)) (fun hb37=>by simp only[go_sem,hc4,hc8,hb37]) ?_
 try simp only[go_sem]
 refine zaD (fun hc11=> ?_) (fun hc12=> ?_)
 ·rw[if_pos (show(!(bif (bif (bif (!(r9.2==0))then true else(!r9.1))then true else(decide (r5.1<1)))then true else(decide ((a0.nodes.l.length:Int)<r5.1))))=true by(rw[hc11];rfl))]at h
  try simp only[go_sem,hc11]
  obtain⟨r13,hr14,h⟩:=bs h
  replace hr14:=zao hr14
  refine zas hr14 ?_
  try simp only[go_sem]
  obtain⟨r15,hr16,h⟩:=bs h
  replace hr16:=zao hr16
  refine zas hr16 ?_
  try simp only[go_sem]
  refine zaa (v:= .d (.int .i64 r5.1)) (fun hb36=>by simp only[go_sem,hc4,hc8,hc11,hb36]) ?_
  try simp only[go_sem]
  refine zaa (v:= .d (.int .i64 a1)) (fun hb35=>by simp only[go_sem,hc4,hc8,hc11,hb35]) ?_
  try simp only[go_sem]
  refine zaa (v:= .d (.bool (!(r5.1==a1)))) (fun hb34=>by simp only[go_sem,hc4,hc8,hc11,hb34]) ?_
  try simp only[go_sem]
  refine zal (fun hc17=> ?_) (fun hc18=> ?_)
  ·rw[if_pos hc17]at h
   try simp only[go_sem]
   cases h
   rfl
  rw[if_neg (ff hc18)]at h
  try simp only[go_sem]
  refine zaa (v:= .ptr 0 0 0) (fun hb33=>by simp only[go_sem,hc4,hc8,hc11,hc18,hb33]) ?_
  try simp only[go_sem]
  refine zaa (v:= .d (.list a0.nodes.n (a0.nodes.l.map zah))) (fun hb32=>by simp only[go_sem,hc4,hc8,hc11,hc18,hb32]) ?_
  try simp only[go_sem]
  refine zaa (v:= .d (.int .i64 r5.1)) (fun hb31=>by simp only[go_sem,hc4,hc8,hc11,hc18,hb31]) ?_
  try simp only[go_sem]
  refine zaa (v:= .d (.int .i64 (IntKind.wrap .i64 (r5.1-1)))) (fun hb30=>by simp only[go_sem,hc4,hc8,hc11,hc18,hb30]) ?_
  try simp only[go_sem]
  refine zaD (fun hc19=> ?_) (fun hc20=> ?_)
  ·rw[if_pos (show(!(r5.1==a1))=true by(rw[hc19];rfl))]at h
   try simp only[go_sem,hc19]
   obtain⟨y21,hy22,h⟩:=bs h
   try simp only[go_sem,zab hy22,zae hy22,zac zah hy22]
   refine zaa (v:= .d (zai a0)) (fun hb29=>by simp only[go_sem,zab hy22,zae hy22,zac zah hy22,hc4,hc8,hc11,hc18,hc19,hb29]) ?_
   try simp only[go_sem,zab hy22,zae hy22,zac zah hy22]
   refine zaa (v:= .d (.int .i64 r5.1)) (fun hb28=>by simp only[go_sem,zab hy22,zae hy22,zac zah hy22,hc4,hc8,hc11,hc18,hc19,hb28]) ?_
   try simp only[go_sem,zab hy22,zae hy22,zac zah hy22]
   refine zaa (v:= .d (.int .i64 a1)) (fun hb27=>by simp only[go_sem,zab hy22,zae hy22,zac zah hy22,hc4,hc8,hc11,hc18,hc19,hb27]) ?_
   try simp only[go_sem,zab hy22,zae hy22,zac zah hy22]
   refine zaD (fun hc23=> ?_) (fun hc24=> ?_)
   ·rw[if_pos (show(!(y21.shadow==0))=true by(rw[hc23];rfl))]at h
    try simp only[go_sem,zab hy22,zae hy22,zac zah hy22,hc23]
    obtain⟨r25,hr26,h⟩:=bs h
    replace hr26:=zao hr26
    refine zas hr26 ?_
    try simp only[go_sem,zab hy22,zae hy22,zac zah hy22]
    cases h
    rfl
   rw[if_neg (ffn hc24)]at h
   try simp only[go_sem,zab hy22,zae hy22,zac zah hy22,hc24]
   cases h
   rfl
  rw[if_neg (ffn hc20)]at h
  try simp only[go_sem,hc20]
  cases h
  rfl
 rw[if_neg (ffn hc12)]at h
 try simp only[go_sem,hc12]
 cases h
 rfl
noncomputable def P43 (a0:Forest) (a1:Int):Option (Node×Bool):=
 if(bif (decide (a1<1))then true else(decide ((a0.nodes.l.length:Int)<a1)))=true then
  some ((⟨0,⟨[],[],[]⟩,[],[],⟨true,[]⟩,⟨true,[]⟩,0,⟨true,[]⟩,0,0,0,0,false,false⟩:Node),false)
 else
  (rd a0.nodes.l (IntKind.wrap .i64 (a1-1))).bind fun y3=>
  some (y3,true)
theorem zJO (a0:Forest) (a1:Int) (r:Node×Bool) (h:P43 a0 a1=some r):pc prog 43 [zai a0,.int .i64 a1]=some ((eT2 zah D.bool) r):=by
 unfold P43 at h
 refine zbc (fn:=c43) rfl rfl ?_
 delta c43
 try simp only[go_sem]
 refine zaa (v:= .d (.int .i64 a1)) (fun hb9=>by simp only[go_sem,hb9]) ?_
 try simp only[go_sem]
 refine zaa (v:= .ptr 0 0 0) (fun hb8=>by simp only[go_sem,hb8]) ?_
 try simp only[go_sem]
 refine zaa (v:= .d (.list a0.nodes.n (a0.nodes.l.map zah))) (fun hb7=>by simp only[go_sem,hb7]) ?_
 try simp only[go_sem]
 refine zaa (v:= .d (.int .i64 (a0.nodes.l.length:Int))) (fun hb6=>by simp only[go_sem,hb6]) ?_
 try simp only[go_sem]
 refine zaa (v:= .d (.bool (decide ((a0.nodes.l.length:Int)<a1)))) (fun hb5=>by simp only[go_sem,hb5]) ?_
 try simp only[go_sem]
 refine zal (fun hc1=> ?_) (fun hc2=> ?_)
 ·rw[if_pos hc1]at h
  try simp only[go_sem]
  cases h
  rfl
 rw[if_neg (ff hc2)]at h
 try simp only[go_sem]
 obtain⟨y3,hy4,h⟩:=bs h
 try simp only[go_sem,zab hy4,zae hy4,zac zah hy4]
 cases h
 rfl
def zgQ (a0:Forest) (a2:Int) (x0:Int):St:=⟨(((Regs.none.set 1 (.d (.int .i64 x0))).set 2 (.d (.int .i64 a2))).set 3 (.ptr 0 0 0)),((Heap.at 11).set 0 (some (.els 1 [.d (zai a0)] 0)))⟩
def zoh (a0:Forest) (a2:Int):((Int×Int))→Ex×St:=fun r=>(.ret,⟨((Regs.none.set 6 (.d (.int .i64 r.1))).set 7 (.d (.int .i64 r.2))),(Heap.at 11)⟩)
noncomputable def zcc (a0:Forest) (a2:Int) (x0:Int):Option ((Int)⊕((Int×Int))):=
 (dec (D.int .i64) (pc prog 96 [zai a0,.int .i64 x0])).bind fun r5=>
 (dec zah (pc prog 92 [zai a0,.int .i64 r5])).bind fun r7=>
 if(!(r7.kind==12))=true then
  some (.inr (x0,0))
 else
  (dec (eT2 D.bool (D.int .i64)) (pc prog 93 [zai a0,.int .i64 r5,.int .i64 a2])).bind fun r11=>
  if(bif r11.1 then true else(!(r11.2==0)))=true then
   some (.inr (x0,r11.2))
  else
   some (.inl r7.host)
theorem zza (a0:Forest) (a2:Int) (x0:Int) (o:(Int)⊕((Int×Int))) (h:zcc a0 a2 x0=some o):Wp prog zyR (zgQ a0 a2 x0) (zcr (0,[]) (zgQ a0 a2) (zoh a0 a2) o):=by
 unfold zcc at h
 delta zyR zgQ
 try simp only[go_sem]
 obtain⟨r5,hr6,h⟩:=bs h
 replace hr6:=zao hr6
 refine zas hr6 ?_
 try simp only[go_sem]
 obtain⟨r7,hr8,h⟩:=bs h
 replace hr8:=zao hr8
 refine zas hr8 ?_
 try simp only[go_sem]
 refine zaM (fun hc9=> ?_) (fun hc10=> ?_)
 ·rw[if_pos (show(!(r7.kind==12))=true by(rw[hc9];rfl))]at h
  try simp only[go_sem]
  cases h
  exact⟨rfl,by simp,Up.of (N:=11) (N':=26) [] rfl rfl (by decide) (.set (.d _) (.set (.d _) zan.none)) zap.at⟩
 rw[if_neg (ffn hc10)]at h
 try simp only[go_sem]
 obtain⟨r11,hr12,h⟩:=bs h
 replace hr12:=zao hr12
 refine zas hr12 ?_
 try simp only[go_sem]
 refine zaa (v:= .d (.int .i64 r11.2)) (fun hb16=>by simp only[go_sem,hc10,hb16]) ?_
 try simp only[go_sem]
 refine zaa (v:= .d (.bool (!(r11.2==0)))) (fun hb15=>by simp only[go_sem,hc10,hb15]) ?_
 try simp only[go_sem]
 refine zal (fun hc13=> ?_) (fun hc14=> ?_)
 ·rw[if_pos hc13]at h
  try simp only[go_sem]
  cases h
  exact⟨rfl,by simp,Up.of (N:=11) (N':=41) [] rfl rfl (by decide) (.set (.d _) (.set (.d _) zan.none)) zap.at⟩
 rw[if_neg (ff hc14)]at h
 try simp only[go_sem]
 cases h
 exact⟨rfl,Up.of (N:=11) (N':=40) [] rfl rfl (by decide) (.set (.ptr' rfl) (.set (.d _) (.set (.d _) zan.none))) (.set zaC.refl_d zap.at)⟩
noncomputable def P47 (a0:Forest) (a1:Int) (a2:Int):Option (Int×Int):=
 (dec (D.int .i64) (pc prog 82 [zai a0,.list false (([a1,a2]).map (D.int .i64))])).bind fun r1=>
 if(!(r1==0))=true then
  some (0,r1)
 else
  (zaR (zcc a0 a2) a1).bind fun r17=>
  some (r17.1,r17.2)
theorem zJD (a0:Forest) (a1:Int) (a2:Int) (r:Int×Int) (h:P47 a0 a1 a2=some r):pc prog 47 [zai a0,.int .i64 a1,.int .i64 a2]=some ((eT2 (D.int .i64) (D.int .i64)) r):=by
 unfold P47 at h
 refine zbc (fn:=c47) rfl rfl ?_
 delta c47
 try simp only[go_sem]
 obtain⟨r1,hr2,h⟩:=bs h
 replace hr2:=zao hr2
 refine zas hr2 ?_
 try simp only[go_sem]
 refine zaM (fun hc3=> ?_) (fun hc4=> ?_)
 ·rw[if_pos (show(!(r1==0))=true by(rw[hc3];rfl))]at h
  try simp only[go_sem]
  cases h
  rfl
 rw[if_neg (ffn hc4)]at h
 try simp only[go_sem]
 obtain⟨r17,hl18,h⟩:=bs h
 refine Wp.loopR zbE (n:=(0,[])) (a:=zyR) rfl (zgQ a0 a2) (zoh a0 a2) (zza a0 a2) hl18 ?_ (by(repeat(refine Clo.block ?_));(exact Clo.ret)) ?_
 ·show Up (0,[]) (zgQ a0 a2 a1) _
  delta zgQ
  exact Up.of (N:=11) (N':=11) [] rfl rfl (by decide) (.set (.ptr' rfl) (.set (.d _) (.set (.d _) zan.none))) (.set zaC.refl_d zap.at)
 dsimp only[zoh]
 try simp only[go_sem]
 cases h
 rfl
noncomputable def P48 (a0:Forest) (a1:Int) (a2:Int):Option (Int×Int):=
 (dec (D.int .i64) (pc prog 97 [zai a0,.list false (([a1,a2]).map (D.int .i64))])).bind fun r1=>
 if(!(r1==0))=true then
  some (0,r1)
 else
  (dec (D.int .i64) (pc prog 98 [zai a0,.int .i64 a1,.int .i64 a2])).bind fun r5=>
  some (r5,0)
theorem zJE (a0:Forest) (a1:Int) (a2:Int) (r:Int×Int) (h:P48 a0 a1 a2=some r):pc prog 48 [zai a0,.int .i64 a1,.int .i64 a2]=some ((eT2 (D.int .i64) (D.int .i64)) r):=by
 unfold P48 at h
 refine zbc (fn:=c48) rfl rfl ?_
 delta c48
 try simp only[go_sem]
 obtain⟨r1,hr2,h⟩:=bs h
 replace hr2:=zao hr2
 refine zas hr2 ?_
 try simp only[go_sem]
 refine zaM (fun hc3=> ?_) (fun hc4=> ?_)
 ·rw[if_pos (show(!(r1==0))=true by(rw[hc3];rfl))]at h
  try simp only[go_sem]
  cases h
  rfl
 rw[if_neg (ffn hc4)]at h
 try simp only[go_sem]
 obtain⟨r5,hr6,h⟩:=bs h
 replace hr6:=zao hr6
 refine zas hr6 ?_
 try simp only[go_sem]
 cases h
 rfl
noncomputable def P49 (a0:Forest) (a1:Int) (a2:Int):Option (Bool×Int):=
 (dec (eT2 (D.int .i64) (D.int .i64)) (pc prog 47 [zai a0,.int .i64 a1,.int .i64 a2])).bind fun r1=>
 some ((bif (r1.1==a1)then(r1.2==0)else false),r1.2)
theorem zJP (a0:Forest) (a1:Int) (a2:Int) (r:Bool×Int) (h:P49 a0 a1 a2=some r):pc prog 49 [zai a0,.int .i64 a1,.int .i64 a2]=some ((eT2 D.bool (D.int .i64)) r):=by
 unfold P49 at h
 refine zbc (fn:=c49) rfl rfl ?_
 delta c49
 try simp only[go_sem]
 obtain⟨r1,hr2,h⟩:=bs h
 replace hr2:=zao hr2
 refine zas hr2 ?_
 try simp only[go_sem]
 refine zaa (v:= .d (.int .i64 r1.2)) (fun hb4=>by simp only[go_sem,hb4]) ?_
 try simp only[go_sem]
 refine zaa (v:= .d (.bool (r1.2==0))) (fun hb3=>by simp only[go_sem,hb3]) ?_
 try simp only[go_sem]
 cases h
 rfl
def zgR (a0:Forest) (x0:Int):St:=⟨((Regs.none.set 1 (.d (.int .i64 x0))).set 2 (.ptr 0 0 0)),((Heap.at 2).set 0 (some (.els 1 [.d (zai a0)] 0)))⟩
def zoi (a0:Forest):((Int))→Ex×St:=fun r=>(.exit 0,⟨(Regs.none.set 1 (.d (.int .i64 r))),(Heap.at 2)⟩)
noncomputable def zcM (a0:Forest) (x0:Int):Option ((Int)⊕((Int))):=
 (dec zah (pc prog 100 [zai a0,.int .i64 x0])).bind fun r1=>
 if(!(r1.parent==0))=true then
  (dec zah (pc prog 100 [zai a0,.int .i64 x0])).bind fun r5=>
  some (.inl r5.parent)
 else
  some (.inr x0)
theorem zzb (a0:Forest) (x0:Int) (o:(Int)⊕((Int))) (h:zcM a0 x0=some o):Wp prog zyS (zgR a0 x0) (zcr (0,[]) (zgR a0) (zoi a0) o):=by
 unfold zcM at h
 delta zyS zgR
 try simp only[go_sem]
 obtain⟨r1,hr2,h⟩:=bs h
 replace hr2:=zao hr2
 refine zas hr2 ?_
 try simp only[go_sem]
 refine zaM (fun hc3=> ?_) (fun hc4=> ?_)
 ·rw[if_pos (show(!(r1.parent==0))=true by(rw[hc3];rfl))]at h
  try simp only[go_sem]
  obtain⟨r5,hr6,h⟩:=bs h
  replace hr6:=zao hr6
  refine zas hr6 ?_
  try simp only[go_sem]
  cases h
  exact⟨rfl,Up.of (N:=2) (N':=12) [] rfl rfl (by decide) (.set (.ptr' rfl) (.set (.d _) zan.none)) (.set zaC.refl_d zap.at)⟩
 rw[if_neg (ffn hc4)]at h
 try simp only[go_sem]
 cases h
 exact⟨rfl,by simp,Up.of (N:=2) (N':=7) [] rfl rfl (by decide) (.set (.d _) zan.none) zap.at⟩
noncomputable def P51 (a0:Forest) (a1:Int):Option (Int):=
 (zaR (zcM a0) a1).bind fun r7=>
 some r7
theorem zJQ (a0:Forest) (a1:Int) (r:Int) (h:P51 a0 a1=some r):pc prog 51 [zai a0,.int .i64 a1]=some ((D.int .i64) r):=by
 unfold P51 at h
 refine zbc (fn:=c51) rfl rfl ?_
 delta c51
 try simp only[go_sem]
 obtain⟨r7,hl8,h⟩:=bs h
 refine Wp.loopR zbE (n:=(0,[])) (a:=zyS) rfl (zgR a0) (zoi a0) (zzb a0) hl8 ?_ (by(repeat(first|refine Clo.block ?_|refine Clo.seq zbE rfl ?_));(exact Clo.ret)) ?_
 ·show Up (0,[]) (zgR a0 a1) _
  delta zgR
  exact Up.of (N:=2) (N':=2) [] rfl rfl (by decide) (.set (.ptr' rfl) (.set (.d _) zan.none)) (.set zaC.refl_d zap.at)
 dsimp only[zoi]
 try simp only[go_sem]
 cases h
 rfl
def zgS (a0:Forest) (a1:Int) (x0:Int):St:=⟨(((Regs.none.set 1 (.d (.int .i64 a1))).set 2 (.d (.int .i64 x0))).set 3 (.ptr 0 0 0)),((Heap.at 2).set 0 (some (.els 1 [.d (zai a0)] 0)))⟩
def zoj (a0:Forest) (a1:Int):((Int))→Ex×St:=fun r=>(.exit 0,⟨((Regs.none.set 1 (.d (.int .i64 a1))).set 2 (.d (.int .i64 r))),(Heap.at 2)⟩)
noncomputable def zct (a0:Forest) (a1:Int) (x0:Int):Option ((Int)⊕((Int))):=
 if(bif (!(x0==0))then(!(x0==a1))else false)=true then
  (dec (D.int .i64) (pc prog 101 [zai a0,.int .i64 x0])).bind fun r3=>
  some (.inl r3)
 else
  some (.inr x0)
theorem zzc (a0:Forest) (a1:Int) (x0:Int) (o:(Int)⊕((Int))) (h:zct a0 a1 x0=some o):Wp prog zyT (zgS a0 a1 x0) (zcr (0,[]) (zgS a0 a1) (zoj a0 a1) o):=by
 unfold zct at h
 delta zyT zgS
 try simp only[go_sem]
 refine zaa (v:= .d (.int .i64 x0)) (fun hb7=>by simp only[go_sem,hb7]) ?_
 try simp only[go_sem]
 refine zaa (v:= .d (.int .i64 a1)) (fun hb6=>by simp only[go_sem,hb6]) ?_
 try simp only[go_sem]
 refine zaa (v:= .d (.bool (!(x0==a1)))) (fun hb5=>by simp only[go_sem,hb5]) ?_
 try simp only[go_sem]
 refine zal (fun hc1=> ?_) (fun hc2=> ?_)
 ·rw[if_pos hc1]at h
  try simp only[go_sem]
  obtain⟨r3,hr4,h⟩:=bs h
  replace hr4:=zao hr4
  refine zas hr4 ?_
  try simp only[go_sem]
  cases h
  exact⟨rfl,Up.of (N:=2) (N':=13) [] rfl rfl (by decide) (.set (.ptr' rfl) (.set (.d _) (.set (.d _) zan.none))) (.set zaC.refl_d zap.at)⟩
 rw[if_neg (ff hc2)]at h
 try simp only[go_sem]
 cases h
 exact⟨rfl,by simp,Up.of (N:=2) (N':=9) [] rfl rfl (by decide) (.set (.d _) (.set (.d _) zan.none)) zap.at⟩
noncomputable def P52 (a0:Forest) (a1:Int) (a2:Int):Option (Bool):=
 (zaR (zct a0 a1) a2).bind fun r8=>
 some (r8==a1)
theorem zJR (a0:Forest) (a1:Int) (a2:Int) (r:Bool) (h:P52 a0 a1 a2=some r):pc prog 52 [zai a0,.int .i64 a1,.int .i64 a2]=some (D.bool r):=by
 unfold P52 at h
 refine zbc (fn:=c52) rfl rfl ?_
 delta c52
 try simp only[go_sem]
 obtain⟨r8,hl9,h⟩:=bs h
 refine Wp.loopR zbE (n:=(0,[])) (a:=zyT) rfl (zgS a0 a1) (zoj a0 a1) (zzc a0 a1) hl9 ?_ (by(repeat(first|refine Clo.block ?_|refine Clo.seq zbE rfl ?_));(exact Clo.ret)) ?_
 ·show Up (0,[]) (zgS a0 a1 a2) _
  delta zgS
  exact Up.of (N:=2) (N':=2) [] rfl rfl (by decide) (.set (.ptr' rfl) (.set (.d _) (.set (.d _) zan.none))) (.set zaC.refl_d zap.at)
 dsimp only[zoj]
 try simp only[go_sem]
 cases h
 rfl
def zgT (a0:Forest) (a1:Sl (Int)) (x0:Int):St:=⟨((((Regs.none.set 2 (.ptr 0 0 0)).set 17 (.d (.list a1.n (a1.l.map (D.int .i64))))).set 18 (.d (.int .i64 (a1.l.length:Int)))).set 19 (.d (.int .i64 x0))),((Heap.at 14).set 0 (some (.els 1 [.d (zai a0)] 0)))⟩
def zkJ (a0:Forest) (a1:Sl (Int)):((Unit)⊕(Unit))→Ex×St:=fun r=>match r with
 |(.inl r)=>(.exit 0,⟨Regs.none,(Heap.at 14)⟩)
 |(.inr r)=>(.ret,⟨(Regs.none.set 4 (.d (.int .i64 (2)))),(Heap.at 14)⟩)
noncomputable def zdI (a0:Forest) (a1:Sl (Int)) (x0:Int):Option ((Int)⊕((Unit)⊕(Unit))):=
 if(decide (x0<(a1.l.length:Int)))=true then
  (rd a1.l x0).bind fun y7=>
  if(bif (decide (y7<1))then true else(decide ((a0.nodes.l.length:Int)<y7)))=true then
   some (.inr (.inr ()))
  else
   some (.inl (IntKind.wrap .i64 (x0+1)))
 else
  some (.inr (.inl ()))
theorem zzd (a0:Forest) (a1:Sl (Int)) (x0:Int) (o:(Int)⊕((Unit)⊕(Unit))) (h:zdI a0 a1 x0=some o):Wp prog zyU (zgT a0 a1 x0) (zcr (0,[]) (zgT a0 a1) (zkJ a0 a1) o):=by
 unfold zdI at h
 delta zyU zgT
 try simp only[go_sem]
 refine zal (fun hc5=> ?_) (fun hc6=> ?_)
 ·rw[if_pos hc5]at h
  try simp only[go_sem]
  obtain⟨y7,hy8,h⟩:=bs h
  try simp only[go_sem,zab hy8,zae hy8,zac (D.int .i64) hy8]
  refine zaa (v:= .d (.int .i64 y7)) (fun hb15=>by simp only[go_sem,zab hy8,zae hy8,zac (D.int .i64) hy8,hc5,hb15]) ?_
  try simp only[go_sem,zab hy8,zae hy8,zac (D.int .i64) hy8]
  refine zaa (v:= .ptr 0 0 0) (fun hb14=>by simp only[go_sem,zab hy8,zae hy8,zac (D.int .i64) hy8,hc5,hb14]) ?_
  try simp only[go_sem,zab hy8,zae hy8,zac (D.int .i64) hy8]
  refine zaa (v:= .d (.list a0.nodes.n (a0.nodes.l.map zah))) (fun hb13=>by simp only[go_sem,zab hy8,zae hy8,zac (D.int .i64) hy8,hc5,hb13]) ?_
  try simp only[go_sem,zab hy8,zae hy8,zac (D.int .i64) hy8]
  refine zaa (v:= .d (.int .i64 (a0.nodes.l.length:Int))) (fun hb12=>by simp only[go_sem,zab hy8,zae hy8,zac (D.int .i64) hy8,hc5,hb12]) ?_
  try simp only[go_sem,zab hy8,zae hy8,zac (D.int .i64) hy8]
  refine zaa (v:= .d (.bool (decide ((a0.nodes.l.length:Int)<y7)))) (fun hb11=>by simp only[go_sem,zab hy8,zae hy8,zac (D.int .i64) hy8,hc5,hb11]) ?_
  try simp only[go_sem,zab hy8,zae hy8,zac (D.int .i64) hy8]
  refine zal (fun hc9=> ?_) (fun hc10=> ?_)
  ·rw[if_pos hc9]at h
   try simp only[go_sem,zab hy8,zae hy8,zac (D.int .i64) hy8]
   cases h
   exact⟨rfl,by simp,Up.of (N:=14) (N':=28) [] rfl rfl (by decide) (.set (.d _) zan.none) zap.at⟩
  rw[if_neg (ff hc10)]at h
  try simp only[go_sem,zab hy8,zae hy8,zac (D.int .i64) hy8]
  cases h
  exact⟨rfl,Up.of (N:=14) (N':=29) [] rfl rfl (by decide) (.set (.d _) (.set (.d _) (.set (.d _) (.set (.ptr' rfl) zan.none)))) (.set zaC.refl_d zap.at)⟩
 rw[if_neg (ff hc6)]at h
 try simp only[go_sem]
 cases h
 exact⟨rfl,by simp,Up.of (N:=14) (N':=15) [] rfl rfl (by decide) zan.none zap.at⟩
noncomputable def P82 (a0:Forest) (a1:Sl (Int)):Option (Int):=
 (dec (eT2 (D.int .i64) (D.int .i64)) (pc prog 124 [zai a0])).bind fun r1=>
 if(!(r1.1==0))=true then
  some r1.1
 else
  (zaR (zdI a0 a1) 0).bind fun r16=>
  match r16 with
  |(.inl q18)=>
   some (0)
  |(.inr q19)=>
   some (2)
theorem zJS (a0:Forest) (a1:Sl (Int)) (r:Int) (h:P82 a0 a1=some r):pc prog 82 [zai a0,.list a1.n (a1.l.map (D.int .i64))]=some ((D.int .i64) r):=by
 unfold P82 at h
 refine zbc (fn:=c82) rfl rfl ?_
 delta c82
 try simp only[go_sem]
 obtain⟨r1,hr2,h⟩:=bs h
 replace hr2:=zao hr2
 refine zas hr2 ?_
 try simp only[go_sem]
 refine zaM (fun hc3=> ?_) (fun hc4=> ?_)
 ·rw[if_pos (show(!(r1.1==0))=true by(rw[hc3];rfl))]at h
  try simp only[go_sem]
  cases h
  rfl
 rw[if_neg (ffn hc4)]at h
 try simp only[go_sem]
 obtain⟨r16,hl17,h⟩:=bs h
 refine Wp.loopR zbE (n:=(0,[])) (a:=zyU) rfl (zgT a0 a1) (zkJ a0 a1) (zzd a0 a1) hl17 ?_ (by(repeat(first|refine Clo.block ?_|refine Clo.seq zbE rfl ?_));(exact Clo.ret)) ?_
 ·show Up (0,[]) (zgT a0 a1 0) _
  delta zgT
  exact Up.of (N:=14) (N':=14) [] rfl rfl (by decide) (.set (.d _) (.set (.d _) (.set (.d _) (.set (.ptr' rfl) zan.none)))) (.set zaC.refl_d zap.at)
 rcases r16 with(q18|q19)
 ·dsimp only at h
  dsimp only[zkJ]
  try simp only[go_sem]
  cases h
  rfl
 dsimp only at h
 dsimp only[zkJ]
 try simp only[go_sem]
 cases h
 rfl
noncomputable def P85 (a0:Forest):Option (Bool):=
 (dec (eT2 (D.int .i64) (D.int .i64)) (pc prog 125 [zai a0])).bind fun r1=>
 some (r1.1==0)
theorem zJT (a0:Forest) (r:Bool) (h:P85 a0=some r):pc prog 85 [zai a0]=some (D.bool r):=by
 unfold P85 at h
 refine zbc (fn:=c85) rfl rfl ?_
 delta c85
 try simp only[go_sem]
 obtain⟨r1,hr2,h⟩:=bs h
 replace hr2:=zao hr2
 refine zas hr2 ?_
 try simp only[go_sem]
 cases h
 rfl
noncomputable def P92 (a0:Forest) (a1:Int):Option (Node):=
 if(bif (decide (a1<1))then true else(decide ((a0.nodes.l.length:Int)<a1)))=true then
  some (⟨0,⟨[],[],[]⟩,[],[],⟨true,[]⟩,⟨true,[]⟩,0,⟨true,[]⟩,0,0,0,0,false,false⟩:Node)
 else
  (rd a0.nodes.l (IntKind.wrap .i64 (a1-1))).bind fun y3=>
  some y3
theorem zJU (a0:Forest) (a1:Int) (r:Node) (h:P92 a0 a1=some r):pc prog 92 [zai a0,.int .i64 a1]=some (zah r):=by
 unfold P92 at h
 refine zbc (fn:=c92) rfl rfl ?_
 delta c92
 try simp only[go_sem]
 refine zaa (v:= .d (.int .i64 a1)) (fun hb9=>by simp only[go_sem,hb9]) ?_
 try simp only[go_sem]
 refine zaa (v:= .ptr 0 0 0) (fun hb8=>by simp only[go_sem,hb8]) ?_
 try simp only[go_sem]
 refine zaa (v:= .d (.list a0.nodes.n (a0.nodes.l.map zah))) (fun hb7=>by simp only[go_sem,hb7]) ?_
 try simp only[go_sem]
 refine zaa (v:= .d (.int .i64 (a0.nodes.l.length:Int))) (fun hb6=>by simp only[go_sem,hb6]) ?_
 try simp only[go_sem]
 refine zaa (v:= .d (.bool (decide ((a0.nodes.l.length:Int)<a1)))) (fun hb5=>by simp only[go_sem,hb5]) ?_
 try simp only[go_sem]
 refine zal (fun hc1=> ?_) (fun hc2=> ?_)
 ·rw[if_pos hc1]at h
  try simp only[go_sem]
  cases h
  rfl
 rw[if_neg (ff hc2)]at h
 try simp only[go_sem]
 obtain⟨y3,hy4,h⟩:=bs h
 try simp only[go_sem,zab hy4,zae hy4,zac zah hy4]
 cases h
 rfl
def zgU (a0:Forest) (a1:Int) (a2:Int) (x0:Int):St:=⟨(((Regs.none.set 0 (.yld 38)).set 1 (.ptr 34 0 0)).set 2 (.ptr 33 0 0)),((((((((((Heap.at 39).set 0 (some (.els 1 [.d (zai a0)] 0))).set 1 (some (.els 1 [.d (.int .i64 a1)] 0))).set 2 (some (.els 1 [.d (.int .i64 a2)] 0))).set 9 (some (.els 1 [.d (.int .i64 a1),.d (.int .i64 a2)] 2))).set 15 (some (.els 1 [.d (zai a0)] 0))).set 29 (some (.els 1 [.d (.bool false)] 0))).set 33 (some (.els 1 [.d (zai a0)] 0))).set 34 (some (.els 1 [.d (.int .i64 x0)] 0))).set 38 (some (.loop ⟨((Regs.none.set 2 (.ptr 1 0 0)).set 3 (.ptr 29 0 0)),[8],zmf,zmg,.ready,none⟩)))⟩
def zkK (a0:Forest) (a1:Int) (a2:Int):((Int)⊕(Int))→Ex×St:=fun r=>match r with
 |(.inl r)=>(.exit 0,⟨Regs.none,((((((((((Heap.at 39).set 0 (some (.els 1 [.d (zai a0)] 0))).set 1 (some (.els 1 [.d (.int .i64 a1)] 0))).set 2 (some (.els 1 [.d (.int .i64 a2)] 0))).set 9 (some (.els 1 [.d (.int .i64 a1),.d (.int .i64 a2)] 2))).set 15 (some (.els 1 [.d (zai a0)] 0))).set 29 (some (.els 1 [.d (.bool false)] 0))).set 33 (some (.els 1 [.d (zai a0)] 0))).set 34 (some (.els 1 [.d (.int .i64 r)] 0))).set 38 (some (.loop ⟨((Regs.none.set 2 (.ptr 1 0 0)).set 3 (.ptr 29 0 0)),[8],zmf,zmg,.ready,none⟩)))⟩)
 |(.inr r)=>(.ret,⟨Regs.none,((((((((((Heap.at 39).set 0 (some (.els 1 [.d (zai a0)] 0))).set 1 (some (.els 1 [.d (.int .i64 a1)] 0))).set 2 (some (.els 1 [.d (.int .i64 a2)] 0))).set 9 (some (.els 1 [.d (.int .i64 a1),.d (.int .i64 a2)] 2))).set 15 (some (.els 1 [.d (zai a0)] 0))).set 29 (some (.els 1 [.d (.bool true)] 0))).set 33 (some (.els 1 [.d (zai a0)] 0))).set 34 (some (.els 1 [.d (.int .i64 r)] 0))).set 38 (some (.loop ⟨((Regs.none.set 2 (.ptr 1 0 0)).set 3 (.ptr 29 0 0)),[8],zmf,zmg,.done,(some .ret)⟩)))⟩)
noncomputable def zcu (a0:Forest) (a1:Int) (a2:Int) (x0:Int):Option ((Int)⊕((Int)⊕(Int))):=
 if(!(x0==0))=true then
  if(x0==a1)=true then
   some (.inr (.inr x0))
  else
   (dec (D.int .i64) (pc prog 174 [zai a0,.int .i64 x0])).bind fun r9=>
   some (.inl r9)
 else
  some (.inr (.inl x0))
theorem zze (a0:Forest) (a1:Int) (a2:Int) (x0:Int) (o:(Int)⊕((Int)⊕(Int))) (h:zcu a0 a1 a2 x0=some o):Wp prog zpg (zgU a0 a1 a2 x0) (zcr (39,[]) (zgU a0 a1 a2) (zkK a0 a1 a2) o):=by
 unfold zcu at h
 delta zpg zgU
 try simp only[go_sem]
 refine zaM (fun hc5=> ?_) (fun hc6=> ?_)
 ·rw[if_pos (show(!(x0==0))=true by(rw[hc5];rfl))]at h
  try simp only[go_sem]
  refine zoV (by simp only[go_sem];rfl) rfl ?_
  delta zmf
  try simp only[go_sem]
  delta zmg
  try simp only[go_sem]
  refine zal (fun hc7=> ?_) (fun hc8=> ?_)
  ·rw[if_pos hc7]at h
   try simp only[go_sem]
   cases h
   exact⟨rfl,by simp,Up.of (N:=39) (N':=50) [] rfl rfl (by decide) zan.none (.set (zaC.loop (.set (.ptr' rfl) (.set (.ptr' rfl) zan.none)) rfl rfl) (.set zaC.refl_d (.set zaC.refl_d (.set zaC.refl_d (.set zaC.refl_d (.set (zaC.els (Nat.le_refl _) (.cons (.d _) (.cons (.d _) .nil))) (.set zaC.refl_d (.set zaC.refl_d (.set zaC.refl_d zap.at)))))))))⟩
  rw[if_neg (ff hc8)]at h
  try simp only[go_sem]
  obtain⟨r9,hr10,h⟩:=bs h
  replace hr10:=zao hr10
  refine zas hr10 ?_
  try simp only[go_sem]
  cases h
  exact⟨rfl,Up.of (N:=39) (N':=53) [] rfl rfl (by decide) (.set (.ptr' rfl) (.set (.ptr' rfl) (.set (.yld' rfl) zan.none))) (.set (zaC.loop (.set (.ptr' rfl) (.set (.ptr' rfl) zan.none)) rfl rfl) (.set zaC.refl_d (.set zaC.refl_d (.set zaC.refl_d (.set zaC.refl_d (.set (zaC.els (Nat.le_refl _) (.cons (.d _) (.cons (.d _) .nil))) (.set zaC.refl_d (.set zaC.refl_d (.set zaC.refl_d zap.at)))))))))⟩
 rw[if_neg (ffn hc6)]at h
 try simp only[go_sem]
 cases h
 exact⟨rfl,by simp,Up.of (N:=39) (N':=41) [] rfl rfl (by decide) zan.none (.set (zaC.loop (.set (.ptr' rfl) (.set (.ptr' rfl) zan.none)) rfl rfl) (.set zaC.refl_d (.set zaC.refl_d (.set zaC.refl_d (.set zaC.refl_d (.set (zaC.els (Nat.le_refl _) (.cons (.d _) (.cons (.d _) .nil))) (.set zaC.refl_d (.set zaC.refl_d (.set zaC.refl_d zap.at)))))))))⟩
noncomputable def P93 (a0:Forest) (a1:Int) (a2:Int):Option (Bool×Int):=
 (dec (D.int .i64) (pc prog 82 [zai a0,.list false (([a1,a2]).map (D.int .i64))])).bind fun r1=>
 if(!(r1==0))=true then
  some (false,r1)
 else
  (zaR (zcu a0 a1 a2) a2).bind fun r11=>
  match r11 with
  |(.inl q13)=>
   some (false,0)
  |(.inr q14)=>
   some (true,0)
theorem zJF (a0:Forest) (a1:Int) (a2:Int) (r:Bool×Int) (h:P93 a0 a1 a2=some r):pc prog 93 [zai a0,.int .i64 a1,.int .i64 a2]=some ((eT2 D.bool (D.int .i64)) r):=by
 unfold P93 at h
 refine zbc (fn:=c93) rfl rfl ?_
 delta c93
 try simp only[go_sem]
 refine zkw (fn:=zGn) rfl rfl ?_
 delta zGn
 try simp only[go_sem]
 obtain⟨r1,hr2,h⟩:=bs h
 replace hr2:=zao hr2
 refine zas hr2 ?_
 try simp only[go_sem]
 refine zaM (fun hc3=> ?_) (fun hc4=> ?_)
 ·rw[if_pos (show(!(r1==0))=true by(rw[hc3];rfl))]at h
  try simp only[go_sem]
  cases h
  rfl
 rw[if_neg (ffn hc4)]at h
 try simp only[go_sem]
 refine zus (fn:=zGo) rfl rfl ?_
 delta zGo
 try simp only[go_sem]
 refine zkw (fn:=zGp) rfl rfl ?_
 delta zGp
 try simp only[go_sem]
 refine Wp.rfuncC (k:=173) (fn:=zGy) (first:=[]) (cap:=[.ptr 34 0 0,.ptr 33 0 0]) (by simp only[go_sem]) rfl rfl ?_
 delta zGy
 try simp only[go_sem]
 obtain⟨r11,hl12,h⟩:=bs h
 refine Wp.loopR zbE (n:=(39,[])) (a:=zpg) rfl (zgU a0 a1 a2) (zkK a0 a1 a2) (zze a0 a1 a2) hl12 ?_ (by(repeat(refine Clo.block ?_));refine Clo.rf (n':=(29,[])) ?_ (by decide) (by decide) ?_;((repeat(first|refine zbO.set ?_ ?_|refine zbO.args ?_|exact zcf.nil|refine zcf.cons ?_ ?_|exact zbD.ptr (by decide)|refine zbD.clo ?_ ?_)));(repeat(first|refine Clo.block ?_|refine Clo.seq zbE rfl ?_));refine Clo.inl zbE (n':=(15,[])) rfl rfl rfl ?_ ?_ (show Fx.spans _ 25 4=true from by decide) (by decide) ?_;((repeat(first|exact zbO.no|refine zbO.set ?_ ?_|refine zbO.args ?_|exact zcf.nil|refine zcf.cons ?_ ?_|exact zbD.d|exact zbD.ptr (by decide)|exact zbD.sl (by decide)|refine zbD.clo ?_ ?_));(repeat(first|exact zbO.no|exact zbO.none|refine zbO.set ?_ ?_|refine zbO.args ?_|exact zcf.nil|refine zcf.cons ?_ ?_|exact zbD.d|exact zbD.undef|exact zbD.rp|exact zbD.ptr (by decide)|exact zbD.sl (by decide)|exact zbD.mb (by decide)|exact zbD.map (by decide)|exact zbD.yld (by decide)|exact zbD.it (by decide)|refine zbD.clo ?_ ?_|refine zbD.ofCells ?_|refine zbD.agg ?_|refine zbD.tuple ?_|refine zbD.bif ?_ ?_)));(repeat(refine Clo.seq zbE rfl ?_));refine Clo.inl zbE (n':=(0,[])) rfl rfl rfl ?_ ?_ (show Fx.spans _ 5 10=true from by decide) (by decide) ?_;((repeat(first|exact zbO.no|refine zbO.set ?_ ?_|refine zbO.args ?_|exact zcf.nil|refine zcf.cons ?_ ?_|exact zbD.d|exact zbD.ptr (by decide)|exact zbD.sl (by decide)|refine zbD.clo ?_ ?_));(repeat(first|exact zbO.no|exact zbO.none|refine zbO.set ?_ ?_|refine zbO.args ?_|exact zcf.nil|refine zcf.cons ?_ ?_|exact zbD.d|exact zbD.undef|exact zbD.rp|exact zbD.ptr (by decide)|exact zbD.sl (by decide)|exact zbD.mb (by decide)|exact zbD.map (by decide)|exact zbD.yld (by decide)|exact zbD.it (by decide)|refine zbD.clo ?_ ?_|refine zbD.ofCells ?_|refine zbD.agg ?_|refine zbD.tuple ?_|refine zbD.bif ?_ ?_)));(repeat(refine Clo.seq zbE rfl ?_));(exact Clo.ret)) ?_
 ·show Up (39,[]) (zgU a0 a1 a2 a2) _
  delta zgU
  exact Up.of (N:=39) (N':=39) [] rfl rfl (by decide) (.set (.ptr' rfl) (.set (.ptr' rfl) (.set (.yld' rfl) zan.none))) (.set (zaC.loop (.set (.ptr' rfl) (.set (.ptr' rfl) zan.none)) rfl rfl) (.set zaC.refl_d (.set zaC.refl_d (.set zaC.refl_d (.set zaC.refl_d (.set (zaC.els (Nat.le_refl _) (.cons (.d _) (.cons (.d _) .nil))) (.set zaC.refl_d (.set zaC.refl_d (.set zaC.refl_d zap.at)))))))))
 rcases r11 with(q13|q14)
 ·dsimp only at h
  dsimp only[zkK]
  try simp only[go_sem]
  cases h
  rfl
 dsimp only at h
 dsimp only[zkK]
 try simp only[go_sem]
 cases h
 rfl
def zgV (a0:Forest) (x0:Int×Int):St:=⟨(((Regs.none.set 0 (.yld 13)).set 1 (.ptr 9 0 0)).set 2 (.ptr 8 0 0)),((((((Heap.at 14).set 0 (some (.els 1 [.d (zai a0)] 0))).set 3 (some (.els 1 [.d (.int .i64 x0.1)] 0))).set 8 (some (.els 1 [.d (zai a0)] 0))).set 9 (some (.els 1 [.d (.int .i64 x0.2)] 0))).set 13 (some (.loop ⟨(Regs.none.set 5 (.ptr 3 0 0)),[11],zyV,zyW,.ready,none⟩)))⟩
def zok (a0:Forest):((Int×Int))→Ex×St:=fun r=>(.exit 0,⟨Regs.none,((((((Heap.at 14).set 0 (some (.els 1 [.d (zai a0)] 0))).set 3 (some (.els 1 [.d (.int .i64 r.1)] 0))).set 8 (some (.els 1 [.d (zai a0)] 0))).set 9 (some (.els 1 [.d (.int .i64 r.2)] 0))).set 13 (some (.loop ⟨(Regs.none.set 5 (.ptr 3 0 0)),[11],zyV,zyW,.ready,none⟩)))⟩)
noncomputable def zcN (a0:Forest) (x0:Int×Int):Option ((Int×Int)⊕((Int×Int))):=
 if(!(x0.2==0))=true then
  (dec zah (pc prog 92 [zai a0,.int .i64 x0.2])).bind fun r3=>
  some (.inl (x0.2,r3.parent))
 else
  some (.inr (x0.1,x0.2))
theorem zzf (a0:Forest) (x0:Int×Int) (o:(Int×Int)⊕((Int×Int))) (h:zcN a0 x0=some o):Wp prog zph (zgV a0 x0) (zcr (14,[]) (zgV a0) (zok a0) o):=by
 unfold zcN at h
 delta zph zgV
 try simp only[go_sem]
 refine zaM (fun hc1=> ?_) (fun hc2=> ?_)
 ·rw[if_pos (show(!(x0.2==0))=true by(rw[hc1];rfl))]at h
  try simp only[go_sem]
  refine zoV (by simp only[go_sem];rfl) rfl ?_
  delta zyV
  try simp only[go_sem]
  delta zyW
  try simp only[go_sem]
  obtain⟨r3,hr4,h⟩:=bs h
  replace hr4:=zao hr4
  refine zas hr4 ?_
  try simp only[go_sem]
  cases h
  exact⟨rfl,Up.of (N:=14) (N':=28) [] rfl rfl (by decide) (.set (.ptr' rfl) (.set (.ptr' rfl) (.set (.yld' rfl) zan.none))) (.set (zaC.loop (.set (.ptr' rfl) zan.none) rfl rfl) (.set zaC.refl_d (.set zaC.refl_d (.set zaC.refl_d (.set zaC.refl_d zap.at)))))⟩
 rw[if_neg (ffn hc2)]at h
 try simp only[go_sem]
 cases h
 exact⟨rfl,by simp,Up.of (N:=14) (N':=16) [] rfl rfl (by decide) zan.none (.set (zaC.loop (.set (.ptr' rfl) zan.none) rfl rfl) (.set zaC.refl_d (.set zaC.refl_d (.set zaC.refl_d (.set zaC.refl_d zap.at)))))⟩
noncomputable def P96 (a0:Forest) (a1:Int):Option (Int):=
 (zaR (zcN a0) (a1,a1)).bind fun r5=>
 some r5.1
theorem zJV (a0:Forest) (a1:Int) (r:Int) (h:P96 a0 a1=some r):pc prog 96 [zai a0,.int .i64 a1]=some ((D.int .i64) r):=by
 unfold P96 at h
 refine zbc (fn:=c96) rfl rfl ?_
 delta c96
 try simp only[go_sem]
 refine zkw (fn:=zGq) rfl rfl ?_
 delta zGq
 try simp only[go_sem]
 refine Wp.rfuncC (k:=175) (fn:=zGA) (first:=[]) (cap:=[.ptr 9 0 0,.ptr 8 0 0]) (by simp only[go_sem]) rfl rfl ?_
 delta zGA
 try simp only[go_sem]
 obtain⟨r5,hl6,h⟩:=bs h
 refine Wp.loopR zbE (n:=(14,[])) (a:=zph) rfl (zgV a0) (zok a0) (zzf a0) hl6 ?_ (by(repeat(refine Clo.block ?_));refine Clo.rf (n':=(0,[])) ?_ (by decide) (by decide) ?_;((repeat(first|refine zbO.set ?_ ?_|refine zbO.args ?_|exact zcf.nil|refine zcf.cons ?_ ?_|exact zbD.d|exact zbD.ptr (by decide)|refine zbD.clo ?_ ?_)));(repeat(first|refine Clo.block ?_|refine Clo.seq zbE rfl ?_));(exact Clo.ret)) ?_
 ·show Up (14,[]) (zgV a0 (a1,a1)) _
  delta zgV
  exact Up.of (N:=14) (N':=14) [] rfl rfl (by decide) (.set (.ptr' rfl) (.set (.ptr' rfl) (.set (.yld' rfl) zan.none))) (.set (zaC.loop (.set (.ptr' rfl) zan.none) rfl rfl) (.set zaC.refl_d (.set zaC.refl_d (.set zaC.refl_d (.set zaC.refl_d zap.at)))))
 dsimp only[zok]
 try simp only[go_sem]
 cases h
 rfl
def zgW (a0:Forest) (a1:Sl (Int)) (x0:Int):St:=⟨(((Regs.none.set 1 (.d (.list a1.n (a1.l.map (D.int .i64))))).set 2 (.ptr 0 0 0)).set 5 (.d (.int .i64 x0))),((Heap.at 6).set 0 (some (.els 1 [.d (zai a0)] 0)))⟩
def zkL (a0:Forest) (a1:Sl (Int)):((Unit)⊕(Unit))→Ex×St:=fun r=>match r with
 |(.inl r)=>(.exit 0,⟨Regs.none,(Heap.at 6)⟩)
 |(.inr r)=>(.ret,⟨(Regs.none.set 4 (.d (.int .i64 (2)))),(Heap.at 6)⟩)
noncomputable def zdJ (a0:Forest) (a1:Sl (Int)) (x0:Int):Option ((Int)⊕((Unit)⊕(Unit))):=
 if(decide (x0<(a1.l.length:Int)))=true then
  (rd a1.l x0).bind fun y7=>
  if(!(decide (y7<1)))=true then
   if(decide ((a0.nodes.l.length:Int)<y7))=true then
    some (.inr (.inr ()))
   else
    some (.inl (IntKind.wrap .i64 (x0+1)))
  else
   some (.inr (.inr ()))
 else
  some (.inr (.inl ()))
theorem zzg (a0:Forest) (a1:Sl (Int)) (x0:Int) (o:(Int)⊕((Unit)⊕(Unit))) (h:zdJ a0 a1 x0=some o):Wp prog zyX (zgW a0 a1 x0) (zcr (0,[]) (zgW a0 a1) (zkL a0 a1) o):=by
 unfold zdJ at h
 delta zyX zgW
 try simp only[go_sem]
 refine zal (fun hc5=> ?_) (fun hc6=> ?_)
 ·rw[if_pos hc5]at h
  try simp only[go_sem]
  obtain⟨y7,hy8,h⟩:=bs h
  try simp only[go_sem,zab hy8,zae hy8,zac (D.int .i64) hy8]
  refine zaa (v:= .d (.list a1.n (a1.l.map (D.int .i64)))) (fun hb14=>by simp only[go_sem,zab hy8,zae hy8,zac (D.int .i64) hy8,hc5,hb14]) ?_
  try simp only[go_sem,zab hy8,zae hy8,zac (D.int .i64) hy8]
  refine zaa (v:= .d (.int .i64 x0)) (fun hb13=>by simp only[go_sem,zab hy8,zae hy8,zac (D.int .i64) hy8,hc5,hb13]) ?_
  try simp only[go_sem,zab hy8,zae hy8,zac (D.int .i64) hy8]
  refine zaD (fun hc9=> ?_) (fun hc10=> ?_)
  ·rw[if_pos (show(!(decide (y7<1)))=true by(rw[hc9];rfl))]at h
   try simp only[go_sem,zab hy8,zae hy8,zac (D.int .i64) hy8,hc9]
   refine zal (fun hc11=> ?_) (fun hc12=> ?_)
   ·rw[if_pos hc11]at h
    try simp only[go_sem,zab hy8,zae hy8,zac (D.int .i64) hy8]
    cases h
    exact⟨rfl,by simp,Up.of (N:=6) (N':=26) [] rfl rfl (by decide) (.set (.d _) zan.none) zap.at⟩
   rw[if_neg (ff hc12)]at h
   try simp only[go_sem,zab hy8,zae hy8,zac (D.int .i64) hy8]
   cases h
   exact⟨rfl,Up.of (N:=6) (N':=28) [] rfl rfl (by decide) (.set (.d _) (.set (.ptr' rfl) (.set (.d _) zan.none))) (.set zaC.refl_d zap.at)⟩
  rw[if_neg (ffn hc10)]at h
  try simp only[go_sem,zab hy8,zae hy8,zac (D.int .i64) hy8,hc10]
  cases h
  exact⟨rfl,by simp,Up.of (N:=6) (N':=26) [] rfl rfl (by decide) (.set (.d _) zan.none) zap.at⟩
 rw[if_neg (ff hc6)]at h
 try simp only[go_sem]
 cases h
 exact⟨rfl,by simp,Up.of (N:=6) (N':=10) [] rfl rfl (by decide) zan.none zap.at⟩
noncomputable def P97 (a0:Forest) (a1:Sl (Int)):Option (Int):=
 (dec D.bool (pc prog 85 [zai a0])).bind fun r1=>
 if(!r1)=true then
  some (5)
 else
  (zaR (zdJ a0 a1) 0).bind fun r15=>
  match r15 with
  |(.inl q17)=>
   some (0)
  |(.inr q18)=>
   some (2)
theorem zJW (a0:Forest) (a1:Sl (Int)) (r:Int) (h:P97 a0 a1=some r):pc prog 97 [zai a0,.list a1.n (a1.l.map (D.int .i64))]=some ((D.int .i64) r):=by
 unfold P97 at h
 refine zbc (fn:=c97) rfl rfl ?_
 delta c97
 try simp only[go_sem]
 obtain⟨r1,hr2,h⟩:=bs h
 replace hr2:=zao hr2
 refine zas hr2 ?_
 try simp only[go_sem]
 refine zaM (fun hc3=> ?_) (fun hc4=> ?_)
 ·rw[if_pos (show(!r1)=true by(rw[hc3];rfl))]at h
  try simp only[go_sem]
  cases h
  rfl
 rw[if_neg (ffn hc4)]at h
 try simp only[go_sem]
 obtain⟨r15,hl16,h⟩:=bs h
 refine Wp.loopR zbE (n:=(0,[])) (a:=zyX) rfl (zgW a0 a1) (zkL a0 a1) (zzg a0 a1) hl16 ?_ (by(repeat(first|refine Clo.block ?_|refine Clo.seq zbE rfl ?_));(exact Clo.ret)) ?_
 ·show Up (0,[]) (zgW a0 a1 0) _
  delta zgW
  exact Up.of (N:=6) (N':=6) [] rfl rfl (by decide) (.set (.d _) (.set (.ptr' rfl) (.set (.d _) zan.none))) (.set zaC.refl_d zap.at)
 rcases r15 with(q17|q18)
 ·dsimp only at h
  dsimp only[zkL]
  try simp only[go_sem]
  cases h
  rfl
 dsimp only at h
 dsimp only[zkL]
 try simp only[go_sem]
 cases h
 rfl
noncomputable def P98 (a0:Forest) (a1:Int) (a2:Int):Option (Int):=
 (dec (D.int .i64) (pc prog 51 [zai a0,.int .i64 a1])).bind fun r1=>
 (dec zah (pc prog 141 [zai a0,.int .i64 r1])).bind fun r3=>
 if(r3.kind==12)=true then
  (dec D.bool (pc prog 52 [zai a0,.int .i64 r1,.int .i64 a2])).bind fun r7=>
  if r7=true then
   some a1
  else
   (dec (D.int .i64) (pc prog 98 [zai a0,.int .i64 r3.host,.int .i64 a2])).bind fun r11=>
   some r11
 else
  some a1
theorem zJG (a0:Forest) (a1:Int) (a2:Int) (r:Int) (h:P98 a0 a1 a2=some r):pc prog 98 [zai a0,.int .i64 a1,.int .i64 a2]=some ((D.int .i64) r):=by
 unfold P98 at h
 refine zbc (fn:=c98) rfl rfl ?_
 delta c98
 try simp only[go_sem]
 obtain⟨r1,hr2,h⟩:=bs h
 replace hr2:=zao hr2
 refine zas hr2 ?_
 try simp only[go_sem]
 obtain⟨r3,hr4,h⟩:=bs h
 replace hr4:=zao hr4
 refine zas hr4 ?_
 try simp only[go_sem]
 refine zaa (v:= .d (zai a0)) (fun hb15=>by simp only[go_sem,hb15]) ?_
 try simp only[go_sem]
 refine zaa (v:= .d (.int .i64 r1)) (fun hb14=>by simp only[go_sem,hb14]) ?_
 try simp only[go_sem]
 refine zaa (v:= .d (.int .i64 a2)) (fun hb13=>by simp only[go_sem,hb13]) ?_
 try simp only[go_sem]
 refine zaF (fun hc5=> ?_) (fun hc6=> ?_)
 ·rw[if_pos hc5]at h
  try simp only[go_sem,hc5]
  obtain⟨r7,hr8,h⟩:=bs h
  replace hr8:=zao hr8
  refine zas hr8 ?_
  try simp only[go_sem]
  refine zal (fun hc9=> ?_) (fun hc10=> ?_)
  ·rw[if_pos hc9]at h
   try simp only[go_sem]
   cases h
   rfl
  rw[if_neg (ff hc10)]at h
  try simp only[go_sem]
  obtain⟨r11,hr12,h⟩:=bs h
  replace hr12:=zao hr12
  refine zas hr12 ?_
  try simp only[go_sem]
  cases h
  rfl
 rw[if_neg (ff hc6)]at h
 try simp only[go_sem,hc6]
 cases h
 rfl
noncomputable def zHz (a0:Forest) (a1:Int):Option (Node):=
 (rd a0.nodes.l (IntKind.wrap .i64 (a1-1))).bind fun y1=>
 some y1
theorem zHA (a0:Forest) (a1:Int) (r:Node) (h:zHz a0 a1=some r):pc prog 100 [zai a0,.int .i64 a1]=some (zah r):=by
 unfold zHz at h
 refine zbc (fn:=zGj) rfl rfl ?_
 delta zGj
 try simp only[go_sem]
 obtain⟨y1,hy2,h⟩:=bs h
 try simp only[go_sem,zab hy2,zae hy2,zac zah hy2]
 cases h
 rfl
noncomputable def zHB (a0:Forest) (a1:Int):Option (Int):=
 (dec zah (pc prog 100 [zai a0,.int .i64 a1])).bind fun r1=>
 if(r1.kind==12)=true then
  (dec zah (pc prog 100 [zai a0,.int .i64 a1])).bind fun r5=>
  some r5.host
 else
  (dec zah (pc prog 100 [zai a0,.int .i64 a1])).bind fun r7=>
  some r7.parent
theorem zHC (a0:Forest) (a1:Int) (r:Int) (h:zHB a0 a1=some r):pc prog 101 [zai a0,.int .i64 a1]=some ((D.int .i64) r):=by
 unfold zHB at h
 refine zbc (fn:=zGk) rfl rfl ?_
 delta zGk
 try simp only[go_sem]
 obtain⟨r1,hr2,h⟩:=bs h
 replace hr2:=zao hr2
 refine zas hr2 ?_
 try simp only[go_sem]
 refine zal (fun hc3=> ?_) (fun hc4=> ?_)
 ·rw[if_pos hc3]at h
  try simp only[go_sem]
  obtain⟨r5,hr6,h⟩:=bs h
  replace hr6:=zao hr6
  refine zas hr6 ?_
  try simp only[go_sem]
  cases h
  rfl
 rw[if_neg (ff hc4)]at h
 try simp only[go_sem]
 obtain⟨r7,hr8,h⟩:=bs h
 replace hr8:=zao hr8
 refine zas hr8 ?_
 try simp only[go_sem]
 cases h
 rfl
def zey (a0:Forest) (r3:Sl (Bool)) (x0:Int):St:=⟨(((((Regs.none.set 1 (.ptr 0 0 0)).set 4 (.d (.list r3.n (r3.l.map D.bool)))).set 14 (.d (.list a0.nodes.n (a0.nodes.l.map zah)))).set 15 (.d (.int .i64 (a0.nodes.l.length:Int)))).set 16 (.d (.int .i64 x0))),((Heap.at 14).set 0 (some (.els 1 [.d (zai a0)] 0)))⟩
def zhN (a0:Forest) (r3:Sl (Bool)):((Unit)⊕(Int))→Ex×St:=fun r=>match r with
 |(.inl r)=>(.exit 0,⟨Regs.none,(Heap.at 14)⟩)
 |(.inr r)=>(.ret,⟨((Regs.none.set 2 (.d (.int .i64 (5)))).set 3 (.d (.int .i64 r))),(Heap.at 14)⟩)
noncomputable def zcZ (a0:Forest) (r3:Sl (Bool)) (x0:Int):Option ((Int)⊕((Unit)⊕(Int))):=
 if(decide (x0<(a0.nodes.l.length:Int)))=true then
  (rd a0.nodes.l x0).bind fun y7=>
  (dec D.bool (pc prog 161 [zah y7])).bind fun r9=>
  if r9=true then
   (dec D.bool (pc prog 162 [zai a0,.int .i64 (IntKind.wrap .i64 (x0+1))])).bind fun r13=>
   if r13=true then
    (rd r3.l (IntKind.wrap .i64 (x0+1))).bind fun y17=>
    if(!y17)=true then
     some (.inr (.inr (IntKind.wrap .i64 (x0+1))))
    else
     some (.inl (IntKind.wrap .i64 (x0+1)))
   else
    some (.inr (.inr (IntKind.wrap .i64 (x0+1))))
  else
   some (.inr (.inr (IntKind.wrap .i64 (x0+1))))
 else
  some (.inr (.inl ()))
theorem zvn (a0:Forest) (r3:Sl (Bool)) (x0:Int) (o:(Int)⊕((Unit)⊕(Int))) (h:zcZ a0 r3 x0=some o):Wp prog zoZ (zey a0 r3 x0) (zcr (0,[]) (zey a0 r3) (zhN a0 r3) o):=by
 unfold zcZ at h
 delta zoZ zey
 try simp only[go_sem]
 refine zal (fun hc5=> ?_) (fun hc6=> ?_)
 ·rw[if_pos hc5]at h
  try simp only[go_sem]
  obtain⟨y7,hy8,h⟩:=bs h
  try simp only[go_sem,zab hy8,zae hy8,zac zah hy8]
  obtain⟨r9,hr10,h⟩:=bs h
  replace hr10:=zao hr10
  refine zas hr10 ?_
  try simp only[go_sem,zab hy8,zae hy8,zac zah hy8]
  refine zaa (v:= .d (zai a0)) (fun hb26=>by simp only[go_sem,zab hy8,zae hy8,zac zah hy8,hc5,hb26]) ?_
  try simp only[go_sem,zab hy8,zae hy8,zac zah hy8]
  refine zaa (v:= .d (.int .i64 x0)) (fun hb25=>by simp only[go_sem,zab hy8,zae hy8,zac zah hy8,hc5,hb25]) ?_
  try simp only[go_sem,zab hy8,zae hy8,zac zah hy8]
  refine zaa (v:= .d (.int .i64 (IntKind.wrap .i64 (x0+1)))) (fun hb24=>by simp only[go_sem,zab hy8,zae hy8,zac zah hy8,hc5,hb24]) ?_
  try simp only[go_sem,zab hy8,zae hy8,zac zah hy8]
  refine zaF (fun hc11=> ?_) (fun hc12=> ?_)
  ·rw[if_pos hc11]at h
   try simp only[go_sem,zab hy8,zae hy8,zac zah hy8,hc11]
   obtain⟨r13,hr14,h⟩:=bs h
   replace hr14:=zao hr14
   refine zas hr14 ?_
   try simp only[go_sem,zab hy8,zae hy8,zac zah hy8]
   refine zaa (v:= .d (.list r3.n (r3.l.map D.bool))) (fun hb23=>by simp only[go_sem,zab hy8,zae hy8,zac zah hy8,hc5,hc11,hb23]) ?_
   try simp only[go_sem,zab hy8,zae hy8,zac zah hy8]
   refine zaa (v:= .d (.int .i64 x0)) (fun hb22=>by simp only[go_sem,zab hy8,zae hy8,zac zah hy8,hc5,hc11,hb22]) ?_
   try simp only[go_sem,zab hy8,zae hy8,zac zah hy8]
   refine zaa (v:= .d (.int .i64 (IntKind.wrap .i64 (x0+1)))) (fun hb21=>by simp only[go_sem,zab hy8,zae hy8,zac zah hy8,hc5,hc11,hb21]) ?_
   try simp only[go_sem,zab hy8,zae hy8,zac zah hy8]
   refine zaF (fun hc15=> ?_) (fun hc16=> ?_)
   ·rw[if_pos hc15]at h
    try simp only[go_sem,zab hy8,zae hy8,zac zah hy8,hc15]
    obtain⟨y17,hy18,h⟩:=bs h
    try simp only[go_sem,zab hy8,zae hy8,zac zah hy8,zab hy18,zae hy18,zac D.bool hy18]
    refine zaM (fun hc19=> ?_) (fun hc20=> ?_)
    ·rw[if_pos (show(!y17)=true by(rw[hc19];rfl))]at h
     try simp only[go_sem,zab hy8,zae hy8,zac zah hy8,zab hy18,zae hy18,zac D.bool hy18]
     cases h
     exact⟨rfl,by simp,Up.of (N:=14) (N':=43) [] rfl rfl (by decide) (.set (.d _) (.set (.d _) zan.none)) zap.at⟩
    rw[if_neg (ffn hc20)]at h
    try simp only[go_sem,zab hy8,zae hy8,zac zah hy8,zab hy18,zae hy18,zac D.bool hy18]
    cases h
    exact⟨rfl,Up.of (N:=14) (N':=41) [] rfl rfl (by decide) (.set (.d _) (.set (.d _) (.set (.d _) (.set (.d _) (.set (.ptr' rfl) zan.none))))) (.set zaC.refl_d zap.at)⟩
   rw[if_neg (ff hc16)]at h
   try simp only[go_sem,zab hy8,zae hy8,zac zah hy8,hc16]
   cases h
   exact⟨rfl,by simp,Up.of (N:=14) (N':=43) [] rfl rfl (by decide) (.set (.d _) (.set (.d _) zan.none)) zap.at⟩
  rw[if_neg (ff hc12)]at h
  try simp only[go_sem,zab hy8,zae hy8,zac zah hy8,hc12]
  cases h
  exact⟨rfl,by simp,Up.of (N:=14) (N':=43) [] rfl rfl (by decide) (.set (.d _) (.set (.d _) zan.none)) zap.at⟩
 rw[if_neg (ff hc6)]at h
 try simp only[go_sem]
 cases h
 exact⟨rfl,by simp,Up.of (N:=14) (N':=15) [] rfl rfl (by decide) zan.none zap.at⟩
noncomputable def zHD (a0:Forest):Option (Int×Int):=
 if(decide (4096<(a0.nodes.l.length:Int)))=true then
  some (5,0)
 else
  (dec (eSl D.bool) (pc prog 160 [zai a0])).bind fun r3=>
  (zaR (zcZ a0 r3) 0).bind fun r27=>
  match r27 with
  |(.inl q29)=>
   some (0,0)
  |(.inr q30)=>
   some (5,q30)
theorem zHE (a0:Forest) (r:Int×Int) (h:zHD a0=some r):pc prog 124 [zai a0]=some ((eT2 (D.int .i64) (D.int .i64)) r):=by
 unfold zHD at h
 refine zbc (fn:=zGl) rfl rfl ?_
 delta zGl
 try simp only[go_sem]
 refine zal (fun hc1=> ?_) (fun hc2=> ?_)
 ·rw[if_pos hc1]at h
  try simp only[go_sem]
  cases h
  rfl
 rw[if_neg (ff hc2)]at h
 try simp only[go_sem]
 obtain⟨r3,hr4,h⟩:=bs h
 replace hr4:=zao hr4
 refine zas hr4 ?_
 try simp only[go_sem]
 obtain⟨r27,hl28,h⟩:=bs h
 refine Wp.loopR zbE (n:=(0,[])) (a:=zoZ) rfl (zey a0 r3) (zhN a0 r3) (zvn a0 r3) hl28 ?_ (by(repeat(first|refine Clo.block ?_|refine Clo.seq zbE rfl ?_));(exact Clo.ret)) ?_
 ·show Up (0,[]) (zey a0 r3 0) _
  delta zey
  exact Up.of (N:=14) (N':=14) [] rfl rfl (by decide) (.set (.d _) (.set (.d _) (.set (.d _) (.set (.d _) (.set (.ptr' rfl) zan.none))))) (.set zaC.refl_d zap.at)
 rcases r27 with(q29|q30)
 ·dsimp only at h
  dsimp only[zhN]
  try simp only[go_sem]
  cases h
  rfl
 dsimp only at h
 dsimp only[zhN]
 try simp only[go_sem]
 cases h
 rfl
def zez (a0:Forest) (x0:Int):St:=⟨((((Regs.none.set 1 (.ptr 0 0 0)).set 11 (.d (.list a0.nodes.n (a0.nodes.l.map zah)))).set 12 (.d (.int .i64 (a0.nodes.l.length:Int)))).set 13 (.d (.int .i64 x0))),((Heap.at 11).set 0 (some (.els 1 [.d (zai a0)] 0)))⟩
def zhO (a0:Forest):((Unit)⊕(Int))→Ex×St:=fun r=>match r with
 |(.inl r)=>(.exit 0,⟨Regs.none,(Heap.at 11)⟩)
 |(.inr r)=>(.ret,⟨((Regs.none.set 2 (.d (.int .i64 (5)))).set 3 (.d (.int .i64 r))),(Heap.at 11)⟩)
noncomputable def zda (a0:Forest) (x0:Int):Option ((Int)⊕((Unit)⊕(Int))):=
 if(decide (x0<(a0.nodes.l.length:Int)))=true then
  (rd a0.nodes.l x0).bind fun y5=>
  (dec D.bool (pc prog 163 [zah y5])).bind fun r7=>
  if r7=true then
   (dec D.bool (pc prog 164 [zai a0,.int .i64 (IntKind.wrap .i64 (x0+1))])).bind fun r11=>
   if r11=true then
    (dec D.bool (pc prog 165 [zai a0,.int .i64 (IntKind.wrap .i64 (x0+1))])).bind fun r15=>
    if r15=true then
     some (.inr (.inr (IntKind.wrap .i64 (x0+1))))
    else
     some (.inl (IntKind.wrap .i64 (x0+1)))
   else
    some (.inr (.inr (IntKind.wrap .i64 (x0+1))))
  else
   some (.inr (.inr (IntKind.wrap .i64 (x0+1))))
 else
  some (.inr (.inl ()))
theorem zvo (a0:Forest) (x0:Int) (o:(Int)⊕((Unit)⊕(Int))) (h:zda a0 x0=some o):Wp prog zpa (zez a0 x0) (zcr (0,[]) (zez a0) (zhO a0) o):=by
 unfold zda at h
 delta zpa zez
 try simp only[go_sem]
 refine zal (fun hc3=> ?_) (fun hc4=> ?_)
 ·rw[if_pos hc3]at h
  try simp only[go_sem]
  obtain⟨y5,hy6,h⟩:=bs h
  try simp only[go_sem,zab hy6,zae hy6,zac zah hy6]
  obtain⟨r7,hr8,h⟩:=bs h
  replace hr8:=zao hr8
  refine zas hr8 ?_
  try simp only[go_sem,zab hy6,zae hy6,zac zah hy6]
  refine zaa (v:= .d (zai a0)) (fun hb24=>by simp only[go_sem,zab hy6,zae hy6,zac zah hy6,hc3,hb24]) ?_
  try simp only[go_sem,zab hy6,zae hy6,zac zah hy6]
  refine zaa (v:= .d (.int .i64 x0)) (fun hb23=>by simp only[go_sem,zab hy6,zae hy6,zac zah hy6,hc3,hb23]) ?_
  try simp only[go_sem,zab hy6,zae hy6,zac zah hy6]
  refine zaa (v:= .d (.int .i64 (IntKind.wrap .i64 (x0+1)))) (fun hb22=>by simp only[go_sem,zab hy6,zae hy6,zac zah hy6,hc3,hb22]) ?_
  try simp only[go_sem,zab hy6,zae hy6,zac zah hy6]
  refine zaF (fun hc9=> ?_) (fun hc10=> ?_)
  ·rw[if_pos hc9]at h
   try simp only[go_sem,zab hy6,zae hy6,zac zah hy6,hc9]
   obtain⟨r11,hr12,h⟩:=bs h
   replace hr12:=zao hr12
   refine zas hr12 ?_
   try simp only[go_sem,zab hy6,zae hy6,zac zah hy6]
   refine zaa (v:= .d (zai a0)) (fun hb21=>by simp only[go_sem,zab hy6,zae hy6,zac zah hy6,hc3,hc9,hb21]) ?_
   try simp only[go_sem,zab hy6,zae hy6,zac zah hy6]
   refine zaa (v:= .d (.int .i64 x0)) (fun hb20=>by simp only[go_sem,zab hy6,zae hy6,zac zah hy6,hc3,hc9,hb20]) ?_
   try simp only[go_sem,zab hy6,zae hy6,zac zah hy6]
   refine zaa (v:= .d (.int .i64 (IntKind.wrap .i64 (x0+1)))) (fun hb19=>by simp only[go_sem,zab hy6,zae hy6,zac zah hy6,hc3,hc9,hb19]) ?_
   try simp only[go_sem,zab hy6,zae hy6,zac zah hy6]
   refine zaF (fun hc13=> ?_) (fun hc14=> ?_)
   ·rw[if_pos hc13]at h
    try simp only[go_sem,zab hy6,zae hy6,zac zah hy6,hc13]
    obtain⟨r15,hr16,h⟩:=bs h
    replace hr16:=zao hr16
    refine zas hr16 ?_
    try simp only[go_sem,zab hy6,zae hy6,zac zah hy6]
    refine zal (fun hc17=> ?_) (fun hc18=> ?_)
    ·rw[if_pos hc17]at h
     try simp only[go_sem,zab hy6,zae hy6,zac zah hy6]
     cases h
     exact⟨rfl,by simp,Up.of (N:=11) (N':=38) [] rfl rfl (by decide) (.set (.d _) (.set (.d _) zan.none)) zap.at⟩
    rw[if_neg (ff hc18)]at h
    try simp only[go_sem,zab hy6,zae hy6,zac zah hy6]
    cases h
    exact⟨rfl,Up.of (N:=11) (N':=36) [] rfl rfl (by decide) (.set (.d _) (.set (.d _) (.set (.d _) (.set (.ptr' rfl) zan.none)))) (.set zaC.refl_d zap.at)⟩
   rw[if_neg (ff hc14)]at h
   try simp only[go_sem,zab hy6,zae hy6,zac zah hy6,hc14]
   cases h
   exact⟨rfl,by simp,Up.of (N:=11) (N':=38) [] rfl rfl (by decide) (.set (.d _) (.set (.d _) zan.none)) zap.at⟩
  rw[if_neg (ff hc10)]at h
  try simp only[go_sem,zab hy6,zae hy6,zac zah hy6,hc10]
  cases h
  exact⟨rfl,by simp,Up.of (N:=11) (N':=38) [] rfl rfl (by decide) (.set (.d _) (.set (.d _) zan.none)) zap.at⟩
 rw[if_neg (ff hc4)]at h
 try simp only[go_sem]
 cases h
 exact⟨rfl,by simp,Up.of (N:=11) (N':=12) [] rfl rfl (by decide) zan.none zap.at⟩
noncomputable def zHF (a0:Forest):Option (Int×Int):=
 if(decide (4096<(a0.nodes.l.length:Int)))=true then
  some (5,0)
 else
  (zaR (zda a0) 0).bind fun r25=>
  match r25 with
  |(.inl q27)=>
   some (0,0)
  |(.inr q28)=>
   some (5,q28)
theorem zHG (a0:Forest) (r:Int×Int) (h:zHF a0=some r):pc prog 125 [zai a0]=some ((eT2 (D.int .i64) (D.int .i64)) r):=by
 unfold zHF at h
 refine zbc (fn:=zGm) rfl rfl ?_
 delta zGm
 try simp only[go_sem]
 refine zal (fun hc1=> ?_) (fun hc2=> ?_)
 ·rw[if_pos hc1]at h
  try simp only[go_sem]
  cases h
  rfl
 rw[if_neg (ff hc2)]at h
 try simp only[go_sem]
 obtain⟨r25,hl26,h⟩:=bs h
 refine Wp.loopR zbE (n:=(0,[])) (a:=zpa) rfl (zez a0) (zhO a0) (zvo a0) hl26 ?_ (by(repeat(first|refine Clo.block ?_|refine Clo.seq zbE rfl ?_));(exact Clo.ret)) ?_
 ·show Up (0,[]) (zez a0 0) _
  delta zez
  exact Up.of (N:=11) (N':=11) [] rfl rfl (by decide) (.set (.d _) (.set (.d _) (.set (.d _) (.set (.ptr' rfl) zan.none)))) (.set zaC.refl_d zap.at)
 rcases r25 with(q27|q28)
 ·dsimp only at h
  dsimp only[zhO]
  try simp only[go_sem]
  cases h
  rfl
 dsimp only at h
 dsimp only[zhO]
 try simp only[go_sem]
 cases h
 rfl
noncomputable def zHH (a0:Forest) (a1:Int):Option (Node):=
 (dec (eT2 zah D.bool) (pc prog 43 [zai a0,.int .i64 a1])).bind fun r1=>
 some r1.1
theorem zHI (a0:Forest) (a1:Int) (r:Node) (h:zHH a0 a1=some r):pc prog 141 [zai a0,.int .i64 a1]=some (zah r):=by
 unfold zHH at h
 refine zbc (fn:=zGr) rfl rfl ?_
 delta zGr
 try simp only[go_sem]
 obtain⟨r1,hr2,h⟩:=bs h
 replace hr2:=zao hr2
 refine zas hr2 ?_
 try simp only[go_sem]
 cases h
 rfl
def zeA (a0:Forest) (x0:List (Int)×Int) (x1:List (Int)×List (Int)×Int):St:=⟨((((((Regs.none.set 1 (.ptr 0 0 0)).set 3 (.sl 6 0 (((IntKind.wrap .i64 ((a0.nodes.l.length:Int)+1))).toNat))).set 5 (mb 18 (x1.2.1.map fun z=>V.d ((D.int .i64) z)))).set 6 (.d (.int .i64 x1.2.2))).set 19 (.d (.int .i64 (a0.nodes.l.length:Int)))).set 20 (.d (.int .i64 x0.2))),((((Heap.at 19).set 0 (some (.els 1 [.d (zai a0)] 0))).set 6 (some (.els 1 (x1.1.map fun z=>V.d ((D.int .i64) z)) (0)))).set 18 (mbB 1 x1.2.1.length (x1.2.1.map fun z=>V.d ((D.int .i64) z))))⟩
def zkM (a0:Forest) (x0:List (Int)×Int):((List (Int)×Int×List (Int)))→Ex×St:=fun r=>(.exit 2,⟨((((((Regs.none.set 1 (.ptr 0 0 0)).set 3 (.sl 6 0 (((IntKind.wrap .i64 ((a0.nodes.l.length:Int)+1))).toNat))).set 5 (mb 18 (r.1.map fun z=>V.d ((D.int .i64) z)))).set 6 (.d (.int .i64 r.2.1))).set 19 (.d (.int .i64 (a0.nodes.l.length:Int)))).set 20 (.d (.int .i64 x0.2))),((((Heap.at 19).set 0 (some (.els 1 [.d (zai a0)] 0))).set 6 (some (.els 1 (r.2.2.map fun z=>V.d ((D.int .i64) z)) (0)))).set 18 (mbB 1 r.1.length (r.1.map fun z=>V.d ((D.int .i64) z))))⟩)
noncomputable def zbA (a0:Forest) (x0:List (Int)×Int) (x1:List (Int)×List (Int)×Int):Option ((List (Int)×List (Int)×Int)⊕((List (Int)×Int×List (Int)))):=
 if(bif (decide (1≤x1.2.2))then(decide (x1.2.2≤(a0.nodes.l.length:Int)))else false)=true then
  (rdA x1.1 (((IntKind.wrap .i64 ((a0.nodes.l.length:Int)+1))).toNat) x1.2.2).bind fun y6=>
  if(y6==0)=true then
   if(x1.2.1.length+1)*8≤AI.roomBytes then
    (rd a0.nodes.l (IntKind.wrap .i64 (x1.2.2-1))).bind fun y11=>
    (dec (D.int .i64) (pc prog 182 [zah y11])).bind fun r13=>
    some (.inl ((x1.1.set (x1.2.2).toNat (1)),(x1.2.1++[x1.2.2]),r13))
   else none
  else
   some (.inr (x1.2.1,x1.2.2,x1.1))
 else
  some (.inr (x1.2.1,x1.2.2,x1.1))
theorem zvp (a0:Forest) (x0:List (Int)×Int) (x1:List (Int)×List (Int)×Int) (o:(List (Int)×List (Int)×Int)⊕((List (Int)×Int×List (Int)))) (h:zbA a0 x0 x1=some o):Wp prog zpb (zeA a0 x0 x1) (zcr (0,[]) (zeA a0 x0) (zkM a0 x0) o):=by
 unfold zbA at h
 delta zpb zeA
 try simp only[go_sem]
 refine zaa (v:= .d (.int .i64 x1.2.2)) (fun hb19=>by simp only[go_sem,hb19]) ?_
 try simp only[go_sem]
 refine zaa (v:= .ptr 0 0 0) (fun hb18=>by simp only[go_sem,hb18]) ?_
 try simp only[go_sem]
 refine zaa (v:= .d (.list a0.nodes.n (a0.nodes.l.map zah))) (fun hb17=>by simp only[go_sem,hb17]) ?_
 try simp only[go_sem]
 refine zaa (v:= .d (.int .i64 (a0.nodes.l.length:Int))) (fun hb16=>by simp only[go_sem,hb16]) ?_
 try simp only[go_sem]
 refine zaa (v:= .d (.bool (decide (x1.2.2≤(a0.nodes.l.length:Int))))) (fun hb15=>by simp only[go_sem,hb15]) ?_
 try simp only[go_sem]
 refine zaF (fun hc4=> ?_) (fun hc5=> ?_)
 ·rw[if_pos hc4]at h
  try simp only[go_sem,hc4]
  obtain⟨y6,hy7,h⟩:=bs h
  try simp only[go_sem,zba hy7,zbw hy7,zbB hy7,zaL hy7,zbb (D.int .i64) hy7]
  refine zal (fun hc8=> ?_) (fun hc9=> ?_)
  ·rw[if_pos hc8]at h
   try simp only[go_sem,zba hy7,zbw hy7,zbB hy7,zaL hy7,zbb (D.int .i64) hy7]
   obtain⟨hm10,h⟩:=zhK h
   refine zuh (l:=x1.2.1.map fun z=>V.d ((D.int .i64) z)) (new:=[V.d (.int .i64 x1.2.2)]) (sz:=1) (fz:=x1.2.1.length) (by simp only[go_sem,List.map_append,List.map_cons,List.map_nil,zba hy7,zbw hy7,zbB hy7,zaL hy7,zbb (D.int .i64) hy7,zgG (x:=1) (D.int .i64) (zaL hy7),zgF (x:=1) (zaL hy7)]) (by intro h;simpa using h) (by simp only[go_sem,zoP,zxS,zoQ,zjL,zHm]) (by simp) (by simp only[go_sem]) (by simpa using hm10) ?_
   try simp only[go_sem,zba hy7,zbw hy7,zbB hy7,zaL hy7,zbb (D.int .i64) hy7,zgG (x:=1) (D.int .i64) (zaL hy7),zgF (x:=1) (zaL hy7),hm10]
   obtain⟨y11,hy12,h⟩:=bs h
   try simp only[go_sem,zba hy7,zbw hy7,zbB hy7,zaL hy7,zbb (D.int .i64) hy7,zgG (x:=1) (D.int .i64) (zaL hy7),zgF (x:=1) (zaL hy7),hm10,zab hy12,zae hy12,zac zah hy12]
   obtain⟨r13,hr14,h⟩:=bs h
   replace hr14:=zao hr14
   refine zas hr14 ?_
   try simp only[go_sem,zba hy7,zbw hy7,zbB hy7,zaL hy7,zbb (D.int .i64) hy7,zgG (x:=1) (D.int .i64) (zaL hy7),zgF (x:=1) (zaL hy7),hm10,zab hy12,zae hy12,zac zah hy12]
   cases h
   refine⟨rfl,Up.of (N:=19) (N':=52) [(18,42)] rfl rfl (by decide) ?_ ?_⟩
   ·refine zan.set ?_ (zan.set ?_ (zan.set ?_ (zan.set ?_ (zan.set ?_ (zan.set ?_ zan.none)))))
    all_goals (try simp only[go_sem,List.map_append,List.map_cons,List.map_nil,zba hy7,zbw hy7,zbB hy7,zaL hy7,zbb (D.int .i64) hy7,zgG (x:=1) (D.int .i64) (zaL hy7),zgF (x:=1) (zaL hy7),hm10,zab hy12,zae hy12,zac zah hy12])
    all_goals (first|exact VR.d _|exact VR.mb_sl (by simp) rfl (by simp)|exact VR.ptr' rfl|exact VR.sl'' rfl (by simp))
   refine zap.set (show zaC _ _ (Heap.get _ 42)from ?_) (zap.set (show zaC _ _ (Heap.get _ 6)from ?_) (zap.set (show zaC _ _ (Heap.get _ 0)from ?_) (zap.at)))
   all_goals (try simp only[go_sem,List.map_append,List.map_cons,List.map_nil,zba hy7,zbw hy7,zbB hy7,zaL hy7,zbb (D.int .i64) hy7,zgG (x:=1) (D.int .i64) (zaL hy7),zgF (x:=1) (zaL hy7),hm10,zab hy12,zae hy12,zac zah hy12])
   all_goals (((repeat' first|exact zaC.refl_d|refine zaC.els (by simp) ?_|refine zaC.mb_els (by simp) ?_|exact VR.d _|exact VRL.nil|exact VRL.refl_d _ _|refine VRL.append ?_ ?_|refine VRL.cons ?_ ?_);done))
  rw[if_neg (ff hc9)]at h
  try simp only[go_sem,zba hy7,zbw hy7,zbB hy7,zaL hy7,zbb (D.int .i64) hy7]
  cases h
  refine⟨rfl,by simp,Up.of (N:=19) (N':=35) [] rfl rfl (by decide) ?_ ?_⟩
  ·refine zan.set ?_ (zan.set ?_ (zan.set ?_ (zan.set ?_ (zan.set ?_ (zan.set ?_ zan.none)))))
   all_goals (try simp only[go_sem,List.map_append,List.map_cons,List.map_nil,zba hy7,zbw hy7,zbB hy7,zaL hy7,zbb (D.int .i64) hy7])
   all_goals (first|exact VR.d _|exact VR.mb rfl|exact VR.ptr' rfl|exact VR.sl'' rfl (by simp))
  refine zap.set (show zaC _ _ (Heap.get _ 18)from ?_) (zap.set (show zaC _ _ (Heap.get _ 6)from ?_) (zap.set (show zaC _ _ (Heap.get _ 0)from ?_) (zap.at)))
  all_goals (try simp only[go_sem,List.map_append,List.map_cons,List.map_nil,zba hy7,zbw hy7,zbB hy7,zaL hy7,zbb (D.int .i64) hy7])
  all_goals (((repeat' first|exact zaC.refl_d|refine zaC.els (by simp) ?_|refine zaC.mb (by simp) ?_|exact VRL.refl_d _ _);done))
 rw[if_neg (ff hc5)]at h
 try simp only[go_sem,hc5]
 cases h
 refine⟨rfl,by simp,Up.of (N:=19) (N':=35) [] rfl rfl (by decide) ?_ ?_⟩
 ·refine zan.set ?_ (zan.set ?_ (zan.set ?_ (zan.set ?_ (zan.set ?_ (zan.set ?_ zan.none)))))
  all_goals (try simp only[go_sem,List.map_append,List.map_cons,List.map_nil])
  all_goals (first|exact VR.d _|exact VR.mb rfl|exact VR.ptr' rfl|exact VR.sl'' rfl (by simp))
 refine zap.set (show zaC _ _ (Heap.get _ 18)from ?_) (zap.set (show zaC _ _ (Heap.get _ 6)from ?_) (zap.set (show zaC _ _ (Heap.get _ 0)from ?_) (zap.at)))
 all_goals (try simp only[go_sem,List.map_append,List.map_cons,List.map_nil])
 all_goals (((repeat' first|exact zaC.refl_d|refine zaC.els (by simp) ?_|refine zaC.mb (by simp) ?_|exact VRL.refl_d _ _);done))
def zeB (a0:Forest) (x0:List (Int)×Int) (r20:List (Int)×Int×List (Int)) (r28:Int) (x2:List (Int)×Int):St:=⟨((((((((Regs.none.set 1 (.ptr 0 0 0)).set 3 (.sl 6 0 (((IntKind.wrap .i64 ((a0.nodes.l.length:Int)+1))).toNat))).set 7 (.d (.int .i64 r28))).set 19 (.d (.int .i64 (a0.nodes.l.length:Int)))).set 20 (.d (.int .i64 x0.2))).set 71 (mb 18 (r20.1.map fun z=>V.d ((D.int .i64) z)))).set 72 (.d (.int .i64 (r20.1.length:Int)))).set 73 (.d (.int .i64 x2.2))),((((Heap.at 39).set 0 (some (.els 1 [.d (zai a0)] 0))).set 6 (some (.els 1 (x2.1.map fun z=>V.d ((D.int .i64) z)) (0)))).set 18 (mbB 1 r20.1.length (r20.1.map fun z=>V.d ((D.int .i64) z))))⟩
def zkN (a0:Forest) (x0:List (Int)×Int) (r20:List (Int)×Int×List (Int)) (r28:Int):((List (Int)))→Ex×St:=fun r=>(.exit 4,⟨((((Regs.none.set 1 (.ptr 0 0 0)).set 3 (.sl 6 0 (((IntKind.wrap .i64 ((a0.nodes.l.length:Int)+1))).toNat))).set 19 (.d (.int .i64 (a0.nodes.l.length:Int)))).set 20 (.d (.int .i64 x0.2))),(((Heap.at 39).set 0 (some (.els 1 [.d (zai a0)] 0))).set 6 (some (.els 1 (r.map fun z=>V.d ((D.int .i64) z)) (0))))⟩)
noncomputable def zbM (a0:Forest) (x0:List (Int)×Int) (r20:List (Int)×Int×List (Int)) (r28:Int) (x2:List (Int)×Int):Option ((List (Int)×Int)⊕((List (Int)))):=
 if(decide (x2.2<(r20.1.length:Int)))=true then
  (rdA r20.1 r20.1.length x2.2).bind fun y32=>
  (rdA x2.1 (((IntKind.wrap .i64 ((a0.nodes.l.length:Int)+1))).toNat) y32).bind fun y34=>
  some (.inl ((x2.1.set (y32).toNat r28),(IntKind.wrap .i64 (x2.2+1))))
 else
  some (.inr x2.1)
theorem zvq (a0:Forest) (x0:List (Int)×Int) (r20:List (Int)×Int×List (Int)) (r28:Int) (x2:List (Int)×Int) (o:(List (Int)×Int)⊕((List (Int)))) (h:zbM a0 x0 r20 r28 x2=some o):Wp prog ziJ (zeB a0 x0 r20 r28 x2) (zcr (0,[]) (zeB a0 x0 r20 r28) (zkN a0 x0 r20 r28) o):=by
 unfold zbM at h
 delta ziJ zeB
 try simp only[go_sem]
 refine zal (fun hc30=> ?_) (fun hc31=> ?_)
 ·rw[if_pos hc30]at h
  try simp only[go_sem]
  obtain⟨y32,hy33,h⟩:=bs h
  have hne_hy33:=zfi hy33
  try simp only[go_sem,zba hy33,zbw hy33,zbB hy33,zaL hy33,zbb (D.int .i64) hy33,zyN (zfi hy33),zoX (zfi hy33)]
  obtain⟨y34,hy35,h⟩:=bs h
  try simp only[go_sem,zba hy33,zbw hy33,zbB hy33,zaL hy33,zbb (D.int .i64) hy33,zyN (zfi hy33),zoX (zfi hy33),zba hy35,zbw hy35,zbB hy35,zaL hy35,zbb (D.int .i64) hy35]
  cases h
  exact⟨rfl,Up.of (N:=39) (N':=50) [] rfl rfl (by decide) (.set (.d _) (.set (.d _) (.set (by exact VR.sl'' rfl (by rfl)) (.set (.d _) (.set (.d _) (.set (.d _) (.set (.sl'' rfl (by rfl)) (.set (.ptr' rfl) zan.none)))))))) (.set (by exact zaC.arr (e:=(D.int .i64)) (l:=r20.1) (by rfl) (Nat.le_refl _)) (.set (zaC.arr (e:=(D.int .i64)) (l:=(x2.1.set (y32).toNat r28)) (by rfl) (by exact Nat.le_refl _)) (.set zaC.refl_d zap.at)))⟩
 rw[if_neg (ff hc31)]at h
 try simp only[go_sem]
 cases h
 exact⟨rfl,by simp,Up.of (N:=39) (N':=40) [] rfl rfl (by decide) (.set (.d _) (.set (.d _) (.set (.sl'' rfl (by rfl)) (.set (.ptr' rfl) zan.none)))) (.set (zaC.arr (e:=(D.int .i64)) (l:=x2.1) (by rfl) (by exact Nat.le_refl _)) (.set zaC.refl_d zap.at))⟩
def zeC (a0:Forest) (x0:List (Int)×Int) (r20:List (Int)×Int×List (Int)) (x3:List (Int)×Int):St:=⟨((((((((Regs.none.set 1 (.ptr 0 0 0)).set 3 (.sl 6 0 (((IntKind.wrap .i64 ((a0.nodes.l.length:Int)+1))).toNat))).set 7 (.d (.int .i64 (2)))).set 19 (.d (.int .i64 (a0.nodes.l.length:Int)))).set 20 (.d (.int .i64 x0.2))).set 71 (mb 18 (r20.1.map fun z=>V.d ((D.int .i64) z)))).set 72 (.d (.int .i64 (r20.1.length:Int)))).set 73 (.d (.int .i64 x3.2))),((((Heap.at 39).set 0 (some (.els 1 [.d (zai a0)] 0))).set 6 (some (.els 1 (x3.1.map fun z=>V.d ((D.int .i64) z)) (0)))).set 18 (mbB 1 r20.1.length (r20.1.map fun z=>V.d ((D.int .i64) z))))⟩
def zkO (a0:Forest) (x0:List (Int)×Int) (r20:List (Int)×Int×List (Int)):((List (Int)))→Ex×St:=fun r=>(.exit 4,⟨((((Regs.none.set 1 (.ptr 0 0 0)).set 3 (.sl 6 0 (((IntKind.wrap .i64 ((a0.nodes.l.length:Int)+1))).toNat))).set 19 (.d (.int .i64 (a0.nodes.l.length:Int)))).set 20 (.d (.int .i64 x0.2))),(((Heap.at 39).set 0 (some (.els 1 [.d (zai a0)] 0))).set 6 (some (.els 1 (r.map fun z=>V.d ((D.int .i64) z)) (0))))⟩)
noncomputable def zbN (a0:Forest) (x0:List (Int)×Int) (r20:List (Int)×Int×List (Int)) (x3:List (Int)×Int):Option ((List (Int)×Int)⊕((List (Int)))):=
 if(decide (x3.2<(r20.1.length:Int)))=true then
  (rdA r20.1 r20.1.length x3.2).bind fun y40=>
  (rdA x3.1 (((IntKind.wrap .i64 ((a0.nodes.l.length:Int)+1))).toNat) y40).bind fun y42=>
  some (.inl ((x3.1.set (y40).toNat (2)),(IntKind.wrap .i64 (x3.2+1))))
 else
  some (.inr x3.1)
theorem zvr (a0:Forest) (x0:List (Int)×Int) (r20:List (Int)×Int×List (Int)) (x3:List (Int)×Int) (o:(List (Int)×Int)⊕((List (Int)))) (h:zbN a0 x0 r20 x3=some o):Wp prog ziJ (zeC a0 x0 r20 x3) (zcr (0,[]) (zeC a0 x0 r20) (zkO a0 x0 r20) o):=by
 unfold zbN at h
 delta ziJ zeC
 try simp only[go_sem]
 refine zal (fun hc38=> ?_) (fun hc39=> ?_)
 ·rw[if_pos hc38]at h
  try simp only[go_sem]
  obtain⟨y40,hy41,h⟩:=bs h
  have hne_hy41:=zfi hy41
  try simp only[go_sem,zba hy41,zbw hy41,zbB hy41,zaL hy41,zbb (D.int .i64) hy41,zyN (zfi hy41),zoX (zfi hy41)]
  obtain⟨y42,hy43,h⟩:=bs h
  try simp only[go_sem,zba hy41,zbw hy41,zbB hy41,zaL hy41,zbb (D.int .i64) hy41,zyN (zfi hy41),zoX (zfi hy41),zba hy43,zbw hy43,zbB hy43,zaL hy43,zbb (D.int .i64) hy43]
  cases h
  exact⟨rfl,Up.of (N:=39) (N':=50) [] rfl rfl (by decide) (.set (.d _) (.set (.d _) (.set (by exact VR.sl'' rfl (by rfl)) (.set (.d _) (.set (.d _) (.set (.d _) (.set (.sl'' rfl (by rfl)) (.set (.ptr' rfl) zan.none)))))))) (.set (by exact zaC.arr (e:=(D.int .i64)) (l:=r20.1) (by rfl) (Nat.le_refl _)) (.set (zaC.arr (e:=(D.int .i64)) (l:=(x3.1.set (y40).toNat (2))) (by rfl) (by exact Nat.le_refl _)) (.set zaC.refl_d zap.at)))⟩
 rw[if_neg (ff hc39)]at h
 try simp only[go_sem]
 cases h
 exact⟨rfl,by simp,Up.of (N:=39) (N':=40) [] rfl rfl (by decide) (.set (.d _) (.set (.d _) (.set (.sl'' rfl (by rfl)) (.set (.ptr' rfl) zan.none)))) (.set (zaC.arr (e:=(D.int .i64)) (l:=x3.1) (by rfl) (by exact Nat.le_refl _)) (.set zaC.refl_d zap.at))⟩
def zeD (a0:Forest) (x0:List (Int)×Int):St:=⟨((((Regs.none.set 1 (.ptr 0 0 0)).set 3 (.sl 6 0 (((IntKind.wrap .i64 ((a0.nodes.l.length:Int)+1))).toNat))).set 19 (.d (.int .i64 (a0.nodes.l.length:Int)))).set 20 (.d (.int .i64 x0.2))),(((Heap.at 12).set 0 (some (.els 1 [.d (zai a0)] 0))).set 6 (some (.els 1 (x0.1.map fun z=>V.d ((D.int .i64) z)) (0))))⟩
def zkP (a0:Forest):((List (Int)))→Ex×St:=fun r=>(.exit 0,⟨(Regs.none.set 3 (.sl 6 0 (((IntKind.wrap .i64 ((a0.nodes.l.length:Int)+1))).toNat))),((Heap.at 12).set 6 (some (.els 1 (r.map fun z=>V.d ((D.int .i64) z)) (0))))⟩)
noncomputable def zbX (a0:Forest) (x0:List (Int)×Int):Option ((List (Int)×Int)⊕((List (Int)))):=
 if(decide (x0.2<(a0.nodes.l.length:Int)))=true then
  (zaR (zbA a0 x0) (x0.1,[],(IntKind.wrap .i64 (x0.2+1)))).bind fun r20=>
  if(bif (decide (1≤r20.2.1))then(decide (r20.2.1≤(a0.nodes.l.length:Int)))else false)=true then
   (rdA r20.2.2 (((IntKind.wrap .i64 ((a0.nodes.l.length:Int)+1))).toNat) r20.2.1).bind fun y24=>
   (if(!(y24==2))=true then
    some 3
   else
    some 2:Option ((Int))).bind fun r28=>
   (zaR (zbM a0 x0 r20 r28) (r20.2.2,0)).bind fun r36=>
   some (.inl (r36,(IntKind.wrap .i64 (x0.2+1))))
  else
   (zaR (zbN a0 x0 r20) (r20.2.2,0)).bind fun r44=>
   some (.inl (r44,(IntKind.wrap .i64 (x0.2+1))))
 else
  some (.inr x0.1)
theorem zvs (a0:Forest) (x0:List (Int)×Int) (o:(List (Int)×Int)⊕((List (Int)))) (h:zbX a0 x0=some o):Wp prog zpc (zeD a0 x0) (zcr (0,[]) (zeD a0) (zkP a0) o):=by
 unfold zbX at h
 delta zpc zeD
 try simp only[go_sem]
 refine zal (fun hc2=> ?_) (fun hc3=> ?_)
 ·rw[if_pos hc2]at h
  try simp only[go_sem]
  obtain⟨r20,hl21,h⟩:=bs h
  refine Wp.loopR zbE (n:=(0,[])) (a:=zpb) rfl (zeA a0 x0) (zkM a0 x0) (zvp a0 x0) hl21 ?_ (by(repeat(first|refine Clo.block ?_|refine Clo.seq zbE rfl ?_));(exact Clo.lpost (by decide))) ?_
  ·show Up (0,[]) (zeA a0 x0 (x0.1,[],(IntKind.wrap .i64 (x0.2+1)))) _
   delta zeA
   refine Up.of (N:=19) (N':=19) [] rfl rfl (by decide) ?_ ?_
   ·refine zan.set ?_ (zan.set ?_ (zan.set ?_ (zan.set ?_ (zan.set ?_ (zan.set ?_ zan.none)))))
    all_goals (try simp only[go_sem,List.map_append,List.map_cons,List.map_nil])
    all_goals (first|exact VR.d _|exact VR.ptr' rfl|exact VR.sl'' rfl (by simp))
   refine zap.set (show zaC _ _ (Heap.get _ 18)from ?_) (zap.set (show zaC _ _ (Heap.get _ 6)from ?_) (zap.set (show zaC _ _ (Heap.get _ 0)from ?_) (zap.at)))
   all_goals (try simp only[go_sem,List.map_append,List.map_cons,List.map_nil])
   all_goals (((repeat' first|trivial|exact zaC.refl_d|refine zaC.els (by simp) ?_|exact VRL.refl_d _ _);done))
  dsimp only[zkM]
  try simp only[go_sem]
  refine zaa (v:= .d (.int .i64 r20.2.1)) (fun hb50=>by simp only[go_sem,hc2,hb50]) ?_
  try simp only[go_sem]
  refine zaa (v:= .ptr 0 0 0) (fun hb49=>by simp only[go_sem,hc2,hb49]) ?_
  try simp only[go_sem]
  refine zaa (v:= .d (.list a0.nodes.n (a0.nodes.l.map zah))) (fun hb48=>by simp only[go_sem,hc2,hb48]) ?_
  try simp only[go_sem]
  refine zaa (v:= .d (.int .i64 (a0.nodes.l.length:Int))) (fun hb47=>by simp only[go_sem,hc2,hb47]) ?_
  try simp only[go_sem]
  refine zaa (v:= .d (.bool (decide (r20.2.1≤(a0.nodes.l.length:Int))))) (fun hb46=>by simp only[go_sem,hc2,hb46]) ?_
  try simp only[go_sem]
  refine zaF (fun hc22=> ?_) (fun hc23=> ?_)
  ·rw[if_pos hc22]at h
   try simp only[go_sem,hc22]
   obtain⟨y24,hy25,h⟩:=bs h
   try simp only[go_sem,zba hy25,zbw hy25,zbB hy25,zaL hy25,zbb (D.int .i64) hy25]
   obtain⟨r28,hl29,h⟩:=bs h
   refine WBr.cut (n:=(0,[])) .normal ⟨((((((Regs.none.set 1 (.ptr 0 0 0)).set 3 (.sl 6 0 (((IntKind.wrap .i64 ((a0.nodes.l.length:Int)+1))).toNat))).set 5 (mb 18 (r20.1.map fun z=>V.d ((D.int .i64) z)))).set 7 (.d (.int .i64 r28))).set 19 (.d (.int .i64 (a0.nodes.l.length:Int)))).set 20 (.d (.int .i64 x0.2))),((((Heap.at 36).set 0 (some (.els 1 [.d (zai a0)] 0))).set 6 (some (.els 1 (r20.2.2.map fun z=>V.d ((D.int .i64) z)) (0)))).set 18 (mbB 1 r20.1.length (r20.1.map fun z=>V.d ((D.int .i64) z))))⟩ ?_ (by(repeat(first|refine Clo.block ?_|refine Clo.seq zbE rfl ?_));(exact Clo.lpost (by decide))) ?_
   ·replace h:=hl29
    refine zaM (fun hc26=> ?_) (fun hc27=> ?_)
    ·rw[if_pos (show(!(y24==2))=true by(rw[hc26];rfl))]at h
     try simp only[go_sem,zba hy25,zbw hy25,zbB hy25,zaL hy25,zbb (D.int .i64) hy25]
     cases h
     exact⟨rfl,Up.of (N:=36) (N':=37) [] rfl rfl (by decide) (.set (.d _) (.set (.d _) (.set (.d _) (.set (.mb rfl) (.set (.sl'' rfl (by rfl)) (.set (.ptr' rfl) zan.none)))))) (.set (zaC.mb (Nat.le_refl _) (VRL.refl_d _ _)) (.set (zaC.arr (e:=(D.int .i64)) (l:=r20.2.2) (by rfl) (by exact Nat.le_refl _)) (.set zaC.refl_d zap.at)))⟩
    rw[if_neg (ffn hc27)]at h
    try simp only[go_sem,zba hy25,zbw hy25,zbB hy25,zaL hy25,zbb (D.int .i64) hy25]
    cases h
    exact⟨rfl,Up.of (N:=36) (N':=36) [] rfl rfl (by decide) (.set (.d _) (.set (.d _) (.set (.d _) (.set (.mb rfl) (.set (.sl'' rfl (by rfl)) (.set (.ptr' rfl) zan.none)))))) (.set (zaC.mb (Nat.le_refl _) (VRL.refl_d _ _)) (.set (zaC.arr (e:=(D.int .i64)) (l:=r20.2.2) (by rfl) (by exact Nat.le_refl _)) (.set zaC.refl_d zap.at)))⟩
   try simp only[go_sem,zba hy25,zbw hy25,zbB hy25,zaL hy25,zbb (D.int .i64) hy25]
   obtain⟨r36,hl37,h⟩:=bs h
   refine Wp.loopR zbE (n:=(0,[])) (a:=ziJ) rfl (zeB a0 x0 r20 r28) (zkN a0 x0 r20 r28) (zvq a0 x0 r20 r28) hl37 ?_ (by(repeat(first|refine Clo.block ?_|refine Clo.seq zbE rfl ?_));(exact Clo.lpost (by decide))) ?_
   ·show Up (0,[]) (zeB a0 x0 r20 r28 (r20.2.2,0)) _
    delta zeB
    exact Up.of (N:=39) (N':=39) [] rfl rfl (by decide) (.set (.d _) (.set (.d _) (.set (.mb rfl) (.set (.d _) (.set (.d _) (.set (.d _) (.set (.sl'' rfl (by rfl)) (.set (.ptr' rfl) zan.none)))))))) (.set (zaC.mb (Nat.le_refl _) (VRL.refl_d _ _)) (.set (zaC.arr (e:=(D.int .i64)) (l:=r20.2.2) (by rfl) (by exact Nat.le_refl _)) (.set zaC.refl_d zap.at)))
   dsimp only[zkN]
   try simp only[go_sem,zba hy25,zbw hy25,zbB hy25,zaL hy25,zbb (D.int .i64) hy25]
   cases h
   exact⟨rfl,Up.of (N:=12) (N':=41) [] rfl rfl (by decide) (.set (.d _) (.set (.d _) (.set (.sl'' rfl (by rfl)) (.set (.ptr' rfl) zan.none)))) (.set (zaC.arr (e:=(D.int .i64)) (l:=r36) (by rfl) (by exact Nat.le_refl _)) (.set zaC.refl_d zap.at))⟩
  rw[if_neg (ff hc23)]at h
  try simp only[go_sem,hc23]
  obtain⟨r44,hl45,h⟩:=bs h
  refine Wp.loopR zbE (n:=(0,[])) (a:=ziJ) rfl (zeC a0 x0 r20) (zkO a0 x0 r20) (zvr a0 x0 r20) hl45 ?_ (by(repeat(first|refine Clo.block ?_|refine Clo.seq zbE rfl ?_));(exact Clo.lpost (by decide))) ?_
  ·show Up (0,[]) (zeC a0 x0 r20 (r20.2.2,0)) _
   delta zeC
   exact Up.of (N:=39) (N':=39) [] rfl rfl (by decide) (.set (.d _) (.set (.d _) (.set (.mb rfl) (.set (.d _) (.set (.d _) (.set (.d _) (.set (.sl'' rfl (by rfl)) (.set (.ptr' rfl) zan.none)))))))) (.set (zaC.mb (Nat.le_refl _) (VRL.refl_d _ _)) (.set (zaC.arr (e:=(D.int .i64)) (l:=r20.2.2) (by rfl) (by exact Nat.le_refl _)) (.set zaC.refl_d zap.at)))
  dsimp only[zkO]
  try simp only[go_sem]
  cases h
  exact⟨rfl,Up.of (N:=12) (N':=41) [] rfl rfl (by decide) (.set (.d _) (.set (.d _) (.set (.sl'' rfl (by rfl)) (.set (.ptr' rfl) zan.none)))) (.set (zaC.arr (e:=(D.int .i64)) (l:=r44) (by rfl) (by exact Nat.le_refl _)) (.set zaC.refl_d zap.at))⟩
 rw[if_neg (ff hc3)]at h
 try simp only[go_sem]
 cases h
 exact⟨rfl,by simp,Up.of (N:=12) (N':=13) [] rfl rfl (by decide) (.set (.sl'' rfl (by rfl)) zan.none) (.set (zaC.arr (e:=(D.int .i64)) (l:=x0.1) (by rfl) (by exact Nat.le_refl _)) zap.at)⟩
def zeE (a0:Forest) (r51:List (Int)) (x4:List (Bool)×Int):St:=⟨((((Regs.none.set 3 (.sl 6 0 (((IntKind.wrap .i64 ((a0.nodes.l.length:Int)+1))).toNat))).set 10 (.sl 14 0 (((IntKind.wrap .i64 ((a0.nodes.l.length:Int)+1))).toNat))).set 87 (.d (.int .i64 (((((IntKind.wrap .i64 ((a0.nodes.l.length:Int)+1))).toNat):Nat):Int)))).set 88 (.d (.int .i64 x4.2))),(((Heap.at 19).set 6 (some (.els 1 (r51.map fun z=>V.d ((D.int .i64) z)) (0)))).set 14 (some (.els 1 (x4.1.map fun z=>V.d (D.bool z)) (0))))⟩
def zkQ (a0:Forest) (r51:List (Int)):((List (Bool)))→Ex×St:=fun r=>(.exit 6,⟨(Regs.none.set 10 (.sl 14 0 (((IntKind.wrap .i64 ((a0.nodes.l.length:Int)+1))).toNat))),((Heap.at 19).set 14 (some (.els 1 (r.map fun z=>V.d (D.bool z)) (0))))⟩)
noncomputable def zcv (a0:Forest) (r51:List (Int)) (x4:List (Bool)×Int):Option ((List (Bool)×Int)⊕((List (Bool)))):=
 if(decide (x4.2<(((((IntKind.wrap .i64 ((a0.nodes.l.length:Int)+1))).toNat):Nat):Int)))=true then
  (rdA r51 (((IntKind.wrap .i64 ((a0.nodes.l.length:Int)+1))).toNat) x4.2).bind fun y56=>
  (rdA x4.1 (((IntKind.wrap .i64 ((a0.nodes.l.length:Int)+1))).toNat) x4.2).bind fun y58=>
  some (.inl ((x4.1.set (x4.2).toNat (y56==2)),(IntKind.wrap .i64 (x4.2+1))))
 else
  some (.inr x4.1)
theorem zvt (a0:Forest) (r51:List (Int)) (x4:List (Bool)×Int) (o:(List (Bool)×Int)⊕((List (Bool)))) (h:zcv a0 r51 x4=some o):Wp prog zpd (zeE a0 r51 x4) (zcr (0,[]) (zeE a0 r51) (zkQ a0 r51) o):=by
 unfold zcv at h
 delta zpd zeE
 try simp only[go_sem]
 refine zal (fun hc54=> ?_) (fun hc55=> ?_)
 ·rw[if_pos hc54]at h
  try simp only[go_sem]
  obtain⟨y56,hy57,h⟩:=bs h
  try simp only[go_sem,zba hy57,zbw hy57,zbB hy57,zaL hy57,zbb (D.int .i64) hy57]
  obtain⟨y58,hy59,h⟩:=bs h
  try simp only[go_sem,zba hy57,zbw hy57,zbB hy57,zaL hy57,zbb (D.int .i64) hy57,zba hy59,zbw hy59,zbB hy59,zaL hy59,zbb D.bool hy59]
  cases h
  exact⟨rfl,Up.of (N:=19) (N':=33) [] rfl rfl (by decide) (.set (.d _) (.set (.d _) (.set (.sl'' rfl (by rfl)) (.set (.sl'' rfl (by rfl)) zan.none)))) (.set (zaC.arr (e:=D.bool) (l:=(x4.1.set (x4.2).toNat (y56==2))) (by rfl) (by exact Nat.le_refl _)) (.set (zaC.arr (e:=(D.int .i64)) (l:=r51) (by rfl) (by exact Nat.le_refl _)) zap.at))⟩
 rw[if_neg (ff hc55)]at h
 try simp only[go_sem]
 cases h
 exact⟨rfl,by simp,Up.of (N:=19) (N':=20) [] rfl rfl (by decide) (.set (.sl'' rfl (by rfl)) zan.none) (.set (zaC.arr (e:=D.bool) (l:=x4.1) (by rfl) (by exact Nat.le_refl _)) zap.at)⟩
noncomputable def zHJ (a0:Forest):Option (Sl (Bool)):=
 if 0≤(IntKind.wrap .i64 ((a0.nodes.l.length:Int)+1))∧((IntKind.wrap .i64 ((a0.nodes.l.length:Int)+1))).toNat*8≤AI.roomBytes then
  (zaR (zbX a0) ((List.replicate ((IntKind.wrap .i64 ((a0.nodes.l.length:Int)+1))).toNat 0),0)).bind fun r51=>
  if 0≤((((IntKind.wrap .i64 ((a0.nodes.l.length:Int)+1))).toNat:Nat):Int)∧(((IntKind.wrap .i64 ((a0.nodes.l.length:Int)+1))).toNat)*1≤AI.roomBytes then
   (zaR (zcv a0 r51) ((List.replicate (((IntKind.wrap .i64 ((a0.nodes.l.length:Int)+1))).toNat) false),0)).bind fun r60=>
   if r60.length=(((IntKind.wrap .i64 ((a0.nodes.l.length:Int)+1))).toNat)then
    some (⟨false,r60⟩)
   else none
  else none
 else none
theorem zHK (a0:Forest) (r:Sl (Bool)) (h:zHJ a0=some r):pc prog 160 [zai a0]=some ((eSl D.bool) r):=by
 unfold zHJ at h
 refine zbc (fn:=zGs) rfl rfl ?_
 delta zGs
 try simp only[go_sem]
 obtain⟨hm1,h⟩:=zhK h
 simp only[go_sem,zid,zie,hm1.1,hm1.2,Nat.le_refl,and_self,if_true,Option.bind_some,zuY,zoY,zuZ]
 obtain⟨r51,hl52,h⟩:=bs h
 refine Wp.loopR zbE (n:=(0,[])) (a:=zpc) rfl (zeD a0) (zkP a0) (zvs a0) hl52 ?_ (by(repeat(first|refine Clo.block ?_|refine Clo.seq zbE rfl ?_));(exact Clo.ret)) ?_
 ·show Up (0,[]) (zeD a0 ((List.replicate ((IntKind.wrap .i64 ((a0.nodes.l.length:Int)+1))).toNat 0),0)) _
  delta zeD
  exact Up.of (N:=12) (N':=12) [] rfl rfl (by decide) (.set (.d _) (.set (.d _) (.set (.sl'' rfl (by rfl)) (.set (.ptr' rfl) zan.none)))) (.set (zaC.arr (e:=(D.int .i64)) (l:=(List.replicate ((IntKind.wrap .i64 ((a0.nodes.l.length:Int)+1))).toNat 0)) (by rfl) (by exact Nat.le_refl _)) (.set zaC.refl_d zap.at))
 dsimp only[zkP]
 try simp only[go_sem,hm1.1,hm1.2]
 obtain⟨hm53,h⟩:=zhK h
 simp only[go_sem,hm1.1,hm1.2,zid,zie,hm53.1,hm53.2,Nat.le_refl,and_self,if_true,Option.bind_some,zuY,zoY,zuZ]
 obtain⟨r60,hl61,h⟩:=bs h
 refine Wp.loopR zbE (n:=(0,[])) (a:=zpd) rfl (zeE a0 r51) (zkQ a0 r51) (zvt a0 r51) hl61 ?_ (by(repeat(first|refine Clo.block ?_|refine Clo.seq zbE rfl ?_));(exact Clo.ret)) ?_
 ·show Up (0,[]) (zeE a0 r51 ((List.replicate (((IntKind.wrap .i64 ((a0.nodes.l.length:Int)+1))).toNat) false),0)) _
  delta zeE
  exact Up.of (N:=19) (N':=19) [] rfl rfl (by decide) (.set (.d _) (.set (.d _) (.set (.sl'' rfl (by rfl)) (.set (.sl'' rfl (by rfl)) zan.none)))) (.set (zaC.arr (e:=D.bool) (l:=(List.replicate (((IntKind.wrap .i64 ((a0.nodes.l.length:Int)+1))).toNat) false)) (by rfl) (by exact Nat.le_refl _)) (.set (zaC.arr (e:=(D.int .i64)) (l:=r51) (by rfl) (by exact Nat.le_refl _)) zap.at))
 dsimp only[zkQ]
 try simp only[go_sem,hm1.1,hm1.2,hm53.1,hm53.2]
 obtain⟨hq62,h⟩:=zhK h
 cases h
 refine Reads.ofv (v':= .sl 14 0 (((IntKind.wrap .i64 ((a0.nodes.l.length:Int)+1))).toNat)) (by rfl) (Rd.sl (e:=D.bool) (l:=r60) (sz:=1) (fz:=0) (m:=r60.map fun z=>V.d (D.bool z)) (by simp only[go_sem,List.map_append,List.map_cons,List.map_nil,hm1.1,hm1.2,hm53.1,hm53.2,hq62]) rfl (by exact hq62)) rfl
noncomputable def zHL (a0:Node):Option (Bool):=
 (dec zaB (pc prog 183 [.int .u8 a0.kind])).bind fun r1=>
 (if r1.known=true then
  (dec D.bool (pc prog 184 [zah a0,zaB r1])).bind fun r5=>
  if r5=true then
   (dec D.bool (pc prog 185 [.list a0.attrs.n (a0.attrs.l.map zaH)])).bind fun r9=>
   some (!r9)
  else
   some true
 else
  some true:Option ((Bool))).bind fun r13=>
 if r13=true then
  some false
 else
  (dec D.bool (pc prog 186 [.list false (([a0.public_,a0.system]).map D.str)])).bind fun r17=>
  if r17=true then
   (if(!(a0.kind==10))=true then
    some (bif (!(a0.public_==[]))then true else(!(a0.system==[])))
   else
    some false:Option ((Bool))).bind fun r23=>
   if r23=true then
    some false
   else
    (if(!(decide (16384<(a0.data.l.length:Int))))=true then
     if(!(bif (!r1.data)then(decide (0<(a0.data.l.length:Int)))else false))=true then
      some (bif (!r1.kids)then(decide (0<(a0.kids.l.length:Int)))else false)
     else
      some true
    else
     some true:Option ((Bool))).bind fun r47=>
    (if r47=true then
     some (.inr ())
    else
     if(!(a0.kind==1))=true then
      if(!(bif (decide (0<(a0.attrs.l.length:Int)))then true else(!(a0.shadow==0))))=true then
       if(bif (!(a0.kind==9))then a0.hTML else false)=true then
        some (.inr ())
       else
        if(bif (!r1.hung)then(!(a0.parent==0))else false)=true then
         some (.inr ())
        else
         some (.inl ())
      else
       some (.inr ())
     else
      if(bif (!(a0.kind==9))then a0.hTML else false)=true then
       some (.inr ())
      else
       if(bif (!r1.hung)then(!(a0.parent==0))else false)=true then
        some (.inr ())
       else
        some (.inl ()):Option ((Unit)⊕(Unit))).bind fun r95=>
    match r95 with
    |(.inl q97)=>
     if(a0.kind==12)=true then
      some (bif (a0.mode==1)then true else(a0.mode==2))
     else
      some (bif (bif (a0.mode==0)then(!a0.manual)else false)then(a0.host==0)else false)
    |(.inr q109)=>
     some false
  else
   some false
theorem zHM (a0:Node) (r:Bool) (h:zHL a0=some r):pc prog 161 [zah a0]=some (D.bool r):=by
 unfold zHL at h
 refine zbc (fn:=zGt) rfl rfl ?_
 delta zGt
 try simp only[go_sem]
 obtain⟨r1,hr2,h⟩:=bs h
 replace hr2:=zao hr2
 refine zas hr2 ?_
 try simp only[go_sem]
 refine zaa (v:= .d (zah a0)) (fun hb158=>by simp only[go_sem,hb158]) ?_
 try simp only[go_sem]
 refine zaa (v:= .d (zaB r1)) (fun hb157=>by simp only[go_sem,hb157]) ?_
 try simp only[go_sem]
 obtain⟨r13,hl14,h⟩:=bs h
 refine zbS.cut (n:=(0,[])) .normal ⟨((((Regs.none.set 1 (.ptr 0 0 0)).set 3 (.ptr 5 0 0)).set 4 (.d (.bool (a0.kind==1)))).set 11 (.d (.bool r13))),(((Heap.at 27).set 0 (some (.els 16 [.d (zah a0)] 0))).set 5 (some (.els 6 [.d (zaB r1)] 0)))⟩ ?_ (by(repeat(first|refine Clo.block ?_|refine Clo.seq zbE rfl ?_));(exact Clo.ret)) ?_
 ·replace h:=hl14
  refine zaF (fun hc3=> ?_) (fun hc4=> ?_)
  ·rw[if_pos hc3]at h
   try simp only[go_sem,hc3]
   obtain⟨r5,hr6,h⟩:=bs h
   replace hr6:=zao hr6
   refine zas hr6 ?_
   try simp only[go_sem]
   refine zaa (v:= .ptr 0 0 7) (fun hb12=>by simp only[go_sem,hc3,hb12]) ?_
   try simp only[go_sem]
   refine zaa (v:= .d (.list a0.attrs.n (a0.attrs.l.map zaH))) (fun hb11=>by simp only[go_sem,hc3,hb11]) ?_
   try simp only[go_sem]
   refine zaF (fun hc7=> ?_) (fun hc8=> ?_)
   ·rw[if_pos hc7]at h
    try simp only[go_sem,hc7]
    obtain⟨r9,hr10,h⟩:=bs h
    replace hr10:=zao hr10
    refine zas hr10 ?_
    try simp only[go_sem]
    cases h
    exact⟨rfl,Up.of (N:=27) (N':=27) [] rfl rfl (by decide) (.set (.d _) (.set (.d _) (.set (.ptr' rfl) (.set (.ptr' rfl) zan.none)))) (.set zaC.refl_d (.set zaC.refl_d zap.at))⟩
   rw[if_neg (ff hc8)]at h
   try simp only[go_sem,hc8]
   cases h
   exact⟨rfl,Up.of (N:=27) (N':=27) [] rfl rfl (by decide) (.set (.d _) (.set (.d _) (.set (.ptr' rfl) (.set (.ptr' rfl) zan.none)))) (.set zaC.refl_d (.set zaC.refl_d zap.at))⟩
  rw[if_neg (ff hc4)]at h
  try simp only[go_sem,hc4]
  cases h
  exact⟨rfl,Up.of (N:=27) (N':=27) [] rfl rfl (by decide) (.set (.d _) (.set (.d _) (.set (.ptr' rfl) (.set (.ptr' rfl) zan.none)))) (.set zaC.refl_d (.set zaC.refl_d zap.at))⟩
 try simp only[go_sem]
 refine zal (fun hc15=> ?_) (fun hc16=> ?_)
 ·rw[if_pos hc15]at h
  try simp only[go_sem]
  cases h
  rfl
 rw[if_neg (ff hc16)]at h
 try simp only[go_sem]
 obtain⟨r17,hr18,h⟩:=bs h
 replace hr18:=zao hr18
 refine zas hr18 ?_
 try simp only[go_sem]
 refine zaa (v:= .ptr 0 0 0) (fun hb156=>by simp only[go_sem,hc16,hb156]) ?_
 try simp only[go_sem]
 refine zaa (v:= .d (.int .u8 a0.kind)) (fun hb155=>by simp only[go_sem,hc16,hb155]) ?_
 try simp only[go_sem]
 refine zaa (v:= .d (.bool (!(a0.kind==10)))) (fun hb154=>by simp only[go_sem,hc16,hb154]) ?_
 try simp only[go_sem]
 refine zaa (v:= .d (.bool (!(a0.kind==10)))) (fun hb153=>by simp only[go_sem,hc16,hb153]) ?_
 try simp only[go_sem]
 refine zaa (v:= .ptr 0 0 4) (fun hb150=>by((obtain⟨hb151,hb152⟩:=zaw hb150));simp only[go_sem,hc16,hb152,hb151]) ?_
 try simp only[go_sem]
 refine zaa (v:= .d (.str a0.public_)) (fun hb147=>by((obtain⟨hb148,hb149⟩:=zaw hb147));simp only[go_sem,hc16,hb149,hb148]) ?_
 try simp only[go_sem]
 refine zaa (v:= .d (.bool (!(a0.public_==[])))) (fun hb144=>by((obtain⟨hb145,hb146⟩:=zaw hb144));simp only[go_sem,hc16,hb146,hb145]) ?_
 try simp only[go_sem]
 refine zaa (v:= .d (.bool (!(a0.public_==[])))) (fun hb141=>by((obtain⟨hb142,hb143⟩:=zaw hb141));simp only[go_sem,hc16,hb143,hb142]) ?_
 try simp only[go_sem]
 refine zaa (v:= .ptr 0 0 5) (fun hb136=>by((obtain⟨hb137,hb138⟩:=zaw hb136);(obtain⟨hb139,hb140⟩:=zaw hb137));simp only[go_sem,hc16,hb138,hb140,hb139]) ?_
 try simp only[go_sem]
 refine zaa (v:= .d (.str a0.system)) (fun hb131=>by((obtain⟨hb132,hb133⟩:=zaw hb131);(obtain⟨hb134,hb135⟩:=zaw hb132));simp only[go_sem,hc16,hb133,hb135,hb134]) ?_
 try simp only[go_sem]
 refine zaa (v:= .d (.bool (!(a0.system==[])))) (fun hb126=>by((obtain⟨hb127,hb128⟩:=zaw hb126);(obtain⟨hb129,hb130⟩:=zaw hb127));simp only[go_sem,hc16,hb128,hb130,hb129]) ?_
 try simp only[go_sem]
 rcases Bool.eq_false_or_eq_true (r17)with hc19|hc20
 ·rw[if_pos hc19]at h
  try simp only[go_sem,hc19]
  obtain⟨r23,hl24,h⟩:=bs h
  refine zbS.cut (n:=(0,[])) .normal ⟨((((Regs.none.set 1 (.ptr 0 0 0)).set 3 (.ptr 5 0 0)).set 4 (.d (.bool (a0.kind==1)))).set 27 (.d (.bool r23))),(((Heap.at 50).set 0 (some (.els 16 [.d (zah a0)] 0))).set 5 (some (.els 6 [.d (zaB r1)] 0)))⟩ ?_ (by(repeat(first|refine Clo.block ?_|refine Clo.seq zbE rfl ?_));(exact Clo.ret)) ?_
  ·replace h:=hl24
   refine zaD (fun hc21=> ?_) (fun hc22=> ?_)
   ·rw[if_pos (show(!(a0.kind==10))=true by(rw[hc21];rfl))]at h
    try simp only[go_sem,hc21]
    try simp only[go_sem,hc16,hc19,hc21]
    cases h
    exact⟨rfl,Up.of (N:=50) (N':=50) [] rfl rfl (by decide) (.set (.d _) (.set (.d _) (.set (.ptr' rfl) (.set (.ptr' rfl) zan.none)))) (.set zaC.refl_d (.set zaC.refl_d zap.at))⟩
   rw[if_neg (ffn hc22)]at h
   try simp only[go_sem,hc22]
   try simp only[go_sem,hc16,hc19,hc22]
   cases h
   exact⟨rfl,Up.of (N:=50) (N':=50) [] rfl rfl (by decide) (.set (.d _) (.set (.d _) (.set (.ptr' rfl) (.set (.ptr' rfl) zan.none)))) (.set zaC.refl_d (.set zaC.refl_d zap.at))⟩
  try simp only[go_sem]
  refine zal (fun hc25=> ?_) (fun hc26=> ?_)
  ·rw[if_pos hc25]at h
   try simp only[go_sem]
   cases h
   rfl
  rw[if_neg (ff hc26)]at h
  try simp only[go_sem]
  refine zaa (v:= .ptr 5 0 1) (fun hb125=>by simp only[go_sem,hc16,hc19,hc26,hb125]) ?_
  try simp only[go_sem]
  refine zaa (v:= .d (.bool r1.data)) (fun hb124=>by simp only[go_sem,hc16,hc19,hc26,hb124]) ?_
  try simp only[go_sem]
  refine zaa (v:= .d (.bool (!r1.data))) (fun hb123=>by simp only[go_sem,hc16,hc19,hc26,hb123]) ?_
  try simp only[go_sem]
  refine zaa (v:= .d (.bool (!r1.data))) (fun hb122=>by simp only[go_sem,hc16,hc19,hc26,hb122]) ?_
  try simp only[go_sem]
  refine zaa (v:= .ptr 0 0 6) (fun hb119=>by((obtain⟨hb120,hb121⟩:=zaw hb119));simp only[go_sem,hc16,hc19,hc26,hb121,hb120]) ?_
  try simp only[go_sem]
  refine zaa (v:= .d (.list a0.data.n (a0.data.l.map (D.int .u16)))) (fun hb116=>by((obtain⟨hb117,hb118⟩:=zaw hb116));simp only[go_sem,hc16,hc19,hc26,hb118,hb117]) ?_
  try simp only[go_sem]
  refine zaa (v:= .d (.int .i64 (a0.data.l.length:Int))) (fun hb113=>by((obtain⟨hb114,hb115⟩:=zaw hb113));simp only[go_sem,hc16,hc19,hc26,hb115,hb114]) ?_
  try simp only[go_sem]
  refine zaa (v:= .d (.bool (decide (0<(a0.data.l.length:Int))))) (fun hb110=>by((obtain⟨hb111,hb112⟩:=zaw hb110));simp only[go_sem,hc16,hc19,hc26,hb112,hb111]) ?_
  try simp only[go_sem]
  obtain⟨r47,hl48,h⟩:=bs h
  refine zbS.cut (n:=(0,[])) .normal ⟨((((Regs.none.set 1 (.ptr 0 0 0)).set 3 (.ptr 5 0 0)).set 4 (.d (.bool (a0.kind==1)))).set 50 (.d (.bool r47))),(((Heap.at 77).set 0 (some (.els 16 [.d (zah a0)] 0))).set 5 (some (.els 6 [.d (zaB r1)] 0)))⟩ ?_ (by(repeat(first|refine Clo.block ?_|refine Clo.seq zbE rfl ?_));(exact Clo.ret)) ?_
  ·replace h:=hl48
   refine zaD (fun hc27=> ?_) (fun hc28=> ?_)
   ·rw[if_pos (show(!(decide (16384<(a0.data.l.length:Int))))=true by(rw[hc27];rfl))]at h
    try simp only[go_sem,hc27]
    refine zaa (v:= .ptr 5 0 2) (fun hb46=>by simp only[go_sem,hc16,hc19,hc26,hc27,hb46]) ?_
    try simp only[go_sem]
    refine zaa (v:= .d (.bool r1.kids)) (fun hb45=>by simp only[go_sem,hc16,hc19,hc26,hc27,hb45]) ?_
    try simp only[go_sem]
    refine zaa (v:= .d (.bool (!r1.kids))) (fun hb44=>by simp only[go_sem,hc16,hc19,hc26,hc27,hb44]) ?_
    try simp only[go_sem]
    refine zaa (v:= .d (.bool (!r1.kids))) (fun hb43=>by simp only[go_sem,hc16,hc19,hc26,hc27,hb43]) ?_
    try simp only[go_sem]
    refine zaa (v:= .ptr 0 0 9) (fun hb40=>by((obtain⟨hb41,hb42⟩:=zaw hb40));simp only[go_sem,hc16,hc19,hc26,hc27,hb42,hb41]) ?_
    try simp only[go_sem]
    refine zaa (v:= .d (.list a0.kids.n (a0.kids.l.map (D.int .i64)))) (fun hb37=>by((obtain⟨hb38,hb39⟩:=zaw hb37));simp only[go_sem,hc16,hc19,hc26,hc27,hb39,hb38]) ?_
    try simp only[go_sem]
    refine zaa (v:= .d (.int .i64 (a0.kids.l.length:Int))) (fun hb34=>by((obtain⟨hb35,hb36⟩:=zaw hb34));simp only[go_sem,hc16,hc19,hc26,hc27,hb36,hb35]) ?_
    try simp only[go_sem]
    refine zaa (v:= .d (.bool (decide (0<(a0.kids.l.length:Int))))) (fun hb31=>by((obtain⟨hb32,hb33⟩:=zaw hb31));simp only[go_sem,hc16,hc19,hc26,hc27,hb33,hb32]) ?_
    try simp only[go_sem]
    refine zaD (fun hc29=> ?_) (fun hc30=> ?_)
    ·rw[if_pos (show(!(bif (!r1.data)then(decide (0<(a0.data.l.length:Int)))else false))=true by(rw[hc29];rfl))]at h
     try simp only[go_sem,hc29]
     cases h
     exact⟨rfl,Up.of (N:=77) (N':=77) [] rfl rfl (by decide) (.set (.d _) (.set (.d _) (.set (.ptr' rfl) (.set (.ptr' rfl) zan.none)))) (.set zaC.refl_d (.set zaC.refl_d zap.at))⟩
    rw[if_neg (ffn hc30)]at h
    try simp only[go_sem,hc30]
    cases h
    exact⟨rfl,Up.of (N:=77) (N':=77) [] rfl rfl (by decide) (.set (.d _) (.set (.d _) (.set (.ptr' rfl) (.set (.ptr' rfl) zan.none)))) (.set zaC.refl_d (.set zaC.refl_d zap.at))⟩
   rw[if_neg (ffn hc28)]at h
   try simp only[go_sem,hc28]
   cases h
   exact⟨rfl,Up.of (N:=77) (N':=77) [] rfl rfl (by decide) (.set (.d _) (.set (.d _) (.set (.ptr' rfl) (.set (.ptr' rfl) zan.none)))) (.set zaC.refl_d (.set zaC.refl_d zap.at))⟩
  try simp only[go_sem]
  obtain⟨r95,hl96,h⟩:=bs h
  refine WBr.cut (n:=(0,[])) ((fun r=>match r with|(.inl r)=>(.normal,⟨(Regs.none.set 1 (.ptr 0 0 0)),((Heap.at 77).set 0 (some (.els 16 [.d (zah a0)] 0)))⟩)|(.inr r)=>(.ret,⟨(Regs.none.set 2 (.d (.bool false))),(Heap.at 77)⟩):((Unit)⊕(Unit))→Ex×St) r95).1 ((fun r=>match r with|(.inl r)=>(.normal,⟨(Regs.none.set 1 (.ptr 0 0 0)),((Heap.at 77).set 0 (some (.els 16 [.d (zah a0)] 0)))⟩)|(.inr r)=>(.ret,⟨(Regs.none.set 2 (.d (.bool false))),(Heap.at 77)⟩):((Unit)⊕(Unit))→Ex×St) r95).2 ?_ (by(repeat(first|refine Clo.block ?_|refine Clo.seq zbE rfl ?_));(exact Clo.ret)) ?_
  ·replace h:=hl96
   refine zal (fun hc49=> ?_) (fun hc50=> ?_)
   ·rw[if_pos hc49]at h
    try simp only[go_sem]
    cases h
    exact⟨rfl,Up.of (N:=77) (N':=78) [] rfl rfl (by decide) (.set (.d _) zan.none) zap.at⟩
   rw[if_neg (ff hc50)]at h
   try simp only[go_sem]
   refine zaa (v:= .ptr 0 0 7) (fun hb94=>by simp only[go_sem,hc16,hc19,hc26,hc50,hb94]) ?_
   try simp only[go_sem]
   refine zaa (v:= .d (.list a0.attrs.n (a0.attrs.l.map zaH))) (fun hb93=>by simp only[go_sem,hc16,hc19,hc26,hc50,hb93]) ?_
   try simp only[go_sem]
   refine zaa (v:= .d (.int .i64 (a0.attrs.l.length:Int))) (fun hb92=>by simp only[go_sem,hc16,hc19,hc26,hc50,hb92]) ?_
   try simp only[go_sem]
   refine zaa (v:= .d (.bool (decide (0<(a0.attrs.l.length:Int))))) (fun hb91=>by simp only[go_sem,hc16,hc19,hc26,hc50,hb91]) ?_
   try simp only[go_sem]
   refine zaa (v:= .d (.bool (decide (0<(a0.attrs.l.length:Int))))) (fun hb90=>by simp only[go_sem,hc16,hc19,hc26,hc50,hb90]) ?_
   try simp only[go_sem]
   refine zaa (v:= .ptr 0 0 12) (fun hb87=>by((obtain⟨hb88,hb89⟩:=zaw hb87));simp only[go_sem,hc16,hc19,hc26,hc50,hb89,hb88]) ?_
   try simp only[go_sem]
   refine zaa (v:= .d (.int .i64 a0.shadow)) (fun hb84=>by((obtain⟨hb85,hb86⟩:=zaw hb84));simp only[go_sem,hc16,hc19,hc26,hc50,hb86,hb85]) ?_
   try simp only[go_sem]
   refine zaa (v:= .d (.bool (!(a0.shadow==0)))) (fun hb81=>by((obtain⟨hb82,hb83⟩:=zaw hb81));simp only[go_sem,hc16,hc19,hc26,hc50,hb83,hb82]) ?_
   try simp only[go_sem]
   refine zaD (fun hc51=> ?_) (fun hc52=> ?_)
   ·rw[if_pos (show(!(a0.kind==1))=true by(rw[hc51];rfl))]at h
    try simp only[go_sem,hc51]
    refine zaa (v:= .ptr 0 0 0) (fun hb71=>by simp only[go_sem,hc16,hc19,hc26,hc50,hc51,hb71]) ?_
    try simp only[go_sem]
    refine zaa (v:= .d (.int .u8 a0.kind)) (fun hb70=>by simp only[go_sem,hc16,hc19,hc26,hc50,hc51,hb70]) ?_
    try simp only[go_sem]
    refine zaa (v:= .d (.bool (!(a0.kind==9)))) (fun hb69=>by simp only[go_sem,hc16,hc19,hc26,hc50,hc51,hb69]) ?_
    try simp only[go_sem]
    refine zaa (v:= .d (.bool (!(a0.kind==9)))) (fun hb68=>by simp only[go_sem,hc16,hc19,hc26,hc50,hc51,hb68]) ?_
    try simp only[go_sem]
    refine zaa (v:= .ptr 0 0 15) (fun hb65=>by((obtain⟨hb66,hb67⟩:=zaw hb65));simp only[go_sem,hc16,hc19,hc26,hc50,hc51,hb67,hb66]) ?_
    try simp only[go_sem]
    refine zaa (v:= .d (.bool a0.hTML)) (fun hb62=>by((obtain⟨hb63,hb64⟩:=zaw hb62));simp only[go_sem,hc16,hc19,hc26,hc50,hc51,hb64,hb63]) ?_
    try simp only[go_sem]
    refine zaD (fun hc53=> ?_) (fun hc54=> ?_)
    ·rw[if_pos (show(!(bif (decide (0<(a0.attrs.l.length:Int)))then true else(!(a0.shadow==0))))=true by(rw[hc53];rfl))]at h
     try simp only[go_sem,hc53]
     refine zal (fun hc55=> ?_) (fun hc56=> ?_)
     ·rw[if_pos hc55]at h
      try simp only[go_sem]
      cases h
      exact⟨rfl,Up.of (N:=77) (N':=101) [] rfl rfl (by decide) (.set (.d _) zan.none) zap.at⟩
     rw[if_neg (ff hc56)]at h
     try simp only[go_sem]
     refine zaa (v:= .ptr 0 0 8) (fun hb61=>by simp only[go_sem,hc16,hc19,hc26,hc50,hc51,hc53,hc56,hb61]) ?_
     try simp only[go_sem]
     refine zaa (v:= .d (.int .i64 a0.parent)) (fun hb60=>by simp only[go_sem,hc16,hc19,hc26,hc50,hc51,hc53,hc56,hb60]) ?_
     try simp only[go_sem]
     refine zaa (v:= .d (.bool (!(a0.parent==0)))) (fun hb59=>by simp only[go_sem,hc16,hc19,hc26,hc50,hc51,hc53,hc56,hb59]) ?_
     try simp only[go_sem]
     refine zal (fun hc57=> ?_) (fun hc58=> ?_)
     ·rw[if_pos hc57]at h
      try simp only[go_sem]
      cases h
      exact⟨rfl,Up.of (N:=77) (N':=110) [] rfl rfl (by decide) (.set (.d _) zan.none) zap.at⟩
     rw[if_neg (ff hc58)]at h
     try simp only[go_sem]
     cases h
     exact⟨rfl,Up.of (N:=77) (N':=109) [] rfl rfl (by decide) (.set (.ptr' rfl) zan.none) (.set zaC.refl_d zap.at)⟩
    rw[if_neg (ffn hc54)]at h
    try simp only[go_sem,hc54]
    cases h
    exact⟨rfl,Up.of (N:=77) (N':=101) [] rfl rfl (by decide) (.set (.d _) zan.none) zap.at⟩
   rw[if_neg (ffn hc52)]at h
   try simp only[go_sem,hc52]
   refine zaa (v:= .ptr 0 0 15) (fun hb80=>by simp only[go_sem,hc16,hc19,hc26,hc50,hc52,hb80]) ?_
   try simp only[go_sem]
   refine zaa (v:= .d (.bool a0.hTML)) (fun hb79=>by simp only[go_sem,hc16,hc19,hc26,hc50,hc52,hb79]) ?_
   try simp only[go_sem]
   refine zal (fun hc72=> ?_) (fun hc73=> ?_)
   ·rw[if_pos hc72]at h
    try simp only[go_sem]
    cases h
    exact⟨rfl,Up.of (N:=77) (N':=101) [] rfl rfl (by decide) (.set (.d _) zan.none) zap.at⟩
   rw[if_neg (ff hc73)]at h
   try simp only[go_sem]
   refine zaa (v:= .ptr 0 0 8) (fun hb78=>by simp only[go_sem,hc16,hc19,hc26,hc50,hc52,hc73,hb78]) ?_
   try simp only[go_sem]
   refine zaa (v:= .d (.int .i64 a0.parent)) (fun hb77=>by simp only[go_sem,hc16,hc19,hc26,hc50,hc52,hc73,hb77]) ?_
   try simp only[go_sem]
   refine zaa (v:= .d (.bool (!(a0.parent==0)))) (fun hb76=>by simp only[go_sem,hc16,hc19,hc26,hc50,hc52,hc73,hb76]) ?_
   try simp only[go_sem]
   refine zal (fun hc74=> ?_) (fun hc75=> ?_)
   ·rw[if_pos hc74]at h
    try simp only[go_sem]
    cases h
    exact⟨rfl,Up.of (N:=77) (N':=110) [] rfl rfl (by decide) (.set (.d _) zan.none) zap.at⟩
   rw[if_neg (ff hc75)]at h
   try simp only[go_sem]
   cases h
   exact⟨rfl,Up.of (N:=77) (N':=109) [] rfl rfl (by decide) (.set (.ptr' rfl) zan.none) (.set zaC.refl_d zap.at)⟩
  rcases r95 with(q97|q109)
  ·dsimp only at h⊢
   try simp only[go_sem]
   refine zal (fun hc98=> ?_) (fun hc99=> ?_)
   ·rw[if_pos hc98]at h
    try simp only[go_sem]
    refine zaa (v:= .ptr 0 0 13) (fun hb102=>by simp only[go_sem,hc16,hc19,hc26,hc98,hb102]) ?_
    try simp only[go_sem]
    refine zaa (v:= .d (.int .u8 a0.mode)) (fun hb101=>by simp only[go_sem,hc16,hc19,hc26,hc98,hb101]) ?_
    try simp only[go_sem]
    refine zaa (v:= .d (.bool (a0.mode==2))) (fun hb100=>by simp only[go_sem,hc16,hc19,hc26,hc98,hb100]) ?_
    try simp only[go_sem]
    cases h
    rfl
   rw[if_neg (ff hc99)]at h
   try simp only[go_sem]
   refine zaa (v:= .ptr 0 0 14) (fun hb108=>by simp only[go_sem,hc16,hc19,hc26,hc99,hb108]) ?_
   try simp only[go_sem]
   refine zaa (v:= .d (.bool a0.manual)) (fun hb107=>by simp only[go_sem,hc16,hc19,hc26,hc99,hb107]) ?_
   try simp only[go_sem]
   refine zaa (v:= .d (.bool (!a0.manual))) (fun hb106=>by simp only[go_sem,hc16,hc19,hc26,hc99,hb106]) ?_
   try simp only[go_sem]
   refine zaa (v:= .ptr 0 0 11) (fun hb105=>by simp only[go_sem,hc16,hc19,hc26,hc99,hb105]) ?_
   try simp only[go_sem]
   refine zaa (v:= .d (.int .i64 a0.host)) (fun hb104=>by simp only[go_sem,hc16,hc19,hc26,hc99,hb104]) ?_
   try simp only[go_sem]
   refine zaa (v:= .d (.bool (a0.host==0))) (fun hb103=>by simp only[go_sem,hc16,hc19,hc26,hc99,hb103]) ?_
   try simp only[go_sem]
   cases h
   rfl
  dsimp only at h⊢
  try simp only[go_sem]
  cases h
  rfl
 rw[if_neg (ff hc20)]at h
 try simp only[go_sem,hc20]
 cases h
 rfl
noncomputable def zHN (a0:Forest) (a1:Int):Option (Bool):=
 (rd a0.nodes.l (IntKind.wrap .i64 (a1-1))).bind fun y1=>
 (if(!(y1.parent==0))=true then
  (dec (eT2 zah D.bool) (pc prog 187 [zai a0,.int .i64 y1.parent])).bind fun r5=>
  (if r5.2=true then
   (dec D.bool (pc prog 188 [.list r5.1.kids.n (r5.1.kids.l.map (D.int .i64)),.int .i64 a1])).bind fun r9=>
   some (!r9)
  else
   some true:Option ((Bool))).bind fun r11=>
  if r11=true then
   some (.inr ())
  else
   some (.inl ())
 else
  some (.inl ()):Option ((Unit)⊕(Unit))).bind fun r18=>
 match r18 with
 |(.inl q20)=>
  (dec (D.int .u8) (pc prog 189 [zai a0,.int .i64 y1.doc])).bind fun r21=>
  (if(r21==9)=true then
   some (bif (y1.kind==9)then(!(y1.doc==a1))else false)
  else
   some true:Option ((Bool))).bind fun r25=>
  if r25=true then
   some false
  else
   (if(!(y1.shadow==0))=true then
    (dec (eT2 zah D.bool) (pc prog 187 [zai a0,.int .i64 y1.shadow])).bind fun r31=>
    if(bif (bif (!r31.2)then true else(!(r31.1.kind==12)))then true else(!(r31.1.host==a1)))=true then
     some (.inr ())
    else
     some (.inl ())
   else
    some (.inl ()):Option ((Unit)⊕(Unit))).bind fun r42=>
   match r42 with
   |(.inl q44)=>
    if(y1.kind==12)=true then
     (dec (eT2 zah D.bool) (pc prog 187 [zai a0,.int .i64 y1.host])).bind fun r47=>
     if(bif (bif (bif (!r47.2)then true else(!(r47.1.kind==1)))then true else(!(r47.1.shadow==a1)))then true else(!(r47.1.doc==y1.doc)))=true then
      some false
     else
      (dec D.bool (pc prog 190 [zai a0,.int .i64 a1,zah y1])).bind fun r51=>
      some r51
    else
     (dec D.bool (pc prog 190 [zai a0,.int .i64 a1,zah y1])).bind fun r65=>
     some r65
   |(.inr q67)=>
    some false
 |(.inr q84)=>
  some false
theorem zHO (a0:Forest) (a1:Int) (r:Bool) (h:zHN a0 a1=some r):pc prog 162 [zai a0,.int .i64 a1]=some (D.bool r):=by
 unfold zHN at h
 refine zbc (fn:=zGu) rfl rfl ?_
 delta zGu
 try simp only[go_sem]
 obtain⟨y1,hy2,h⟩:=bs h
 try simp only[go_sem,zab hy2,zae hy2,zac zah hy2]
 obtain⟨r18,hl19,h⟩:=bs h
 refine WBr.cut (n:=(0,[])) ((fun r=>match r with|(.inl r)=>(.normal,⟨(((Regs.none.set 1 (.d (.int .i64 a1))).set 2 (.ptr 0 0 0)).set 5 (.ptr 8 0 0)),(((Heap.at 13).set 0 (some (.els 1 [.d (zai a0)] 0))).set 8 (some (.els 16 [.d (zah y1)] 0)))⟩)|(.inr r)=>(.ret,⟨(Regs.none.set 4 (.d (.bool false))),(Heap.at 13)⟩):((Unit)⊕(Unit))→Ex×St) r18).1 ((fun r=>match r with|(.inl r)=>(.normal,⟨(((Regs.none.set 1 (.d (.int .i64 a1))).set 2 (.ptr 0 0 0)).set 5 (.ptr 8 0 0)),(((Heap.at 13).set 0 (some (.els 1 [.d (zai a0)] 0))).set 8 (some (.els 16 [.d (zah y1)] 0)))⟩)|(.inr r)=>(.ret,⟨(Regs.none.set 4 (.d (.bool false))),(Heap.at 13)⟩):((Unit)⊕(Unit))→Ex×St) r18).2 ?_ (by(repeat(refine Clo.seq zbE rfl ?_));(exact Clo.ret)) ?_
 ·replace h:=hl19
  refine zaM (fun hc3=> ?_) (fun hc4=> ?_)
  ·rw[if_pos (show(!(y1.parent==0))=true by(rw[hc3];rfl))]at h
   try simp only[go_sem,zab hy2,zae hy2,zac zah hy2]
   obtain⟨r5,hr6,h⟩:=bs h
   replace hr6:=zao hr6
   refine zas hr6 ?_
   try simp only[go_sem,zab hy2,zae hy2,zac zah hy2]
   refine zaa (v:= .ptr 20 0 9) (fun hb17=>by simp only[go_sem,zab hy2,zae hy2,zac zah hy2,hc3,hb17]) ?_
   try simp only[go_sem,zab hy2,zae hy2,zac zah hy2]
   refine zaa (v:= .d (.list r5.1.kids.n (r5.1.kids.l.map (D.int .i64)))) (fun hb16=>by simp only[go_sem,zab hy2,zae hy2,zac zah hy2,hc3,hb16]) ?_
   try simp only[go_sem,zab hy2,zae hy2,zac zah hy2]
   refine zaa (v:= .d (.int .i64 a1)) (fun hb15=>by simp only[go_sem,zab hy2,zae hy2,zac zah hy2,hc3,hb15]) ?_
   try simp only[go_sem,zab hy2,zae hy2,zac zah hy2]
   obtain⟨r11,hl12,h⟩:=bs h
   refine zbS.cut (n:=(0,[])) .normal ⟨((((Regs.none.set 1 (.d (.int .i64 a1))).set 2 (.ptr 0 0 0)).set 5 (.ptr 8 0 0)).set 36 (.d (.bool r11))),(((Heap.at 32).set 0 (some (.els 1 [.d (zai a0)] 0))).set 8 (some (.els 16 [.d (zah y1)] 0)))⟩ ?_ (by(repeat(refine Clo.seq zbE rfl ?_));(exact Clo.cpost (by decide))) ?_
   ·replace h:=hl12
    refine zaF (fun hc7=> ?_) (fun hc8=> ?_)
    ·rw[if_pos hc7]at h
     try simp only[go_sem,zab hy2,zae hy2,zac zah hy2,hc7]
     obtain⟨r9,hr10,h⟩:=bs h
     replace hr10:=zao hr10
     refine zas hr10 ?_
     try simp only[go_sem,zab hy2,zae hy2,zac zah hy2]
     cases h
     exact⟨rfl,Up.of (N:=32) (N':=32) [] rfl rfl (by decide) (.set (.d _) (.set (.ptr' rfl) (.set (.ptr' rfl) (.set (.d _) zan.none)))) (.set zaC.refl_d (.set zaC.refl_d zap.at))⟩
    rw[if_neg (ff hc8)]at h
    try simp only[go_sem,zab hy2,zae hy2,zac zah hy2,hc8]
    cases h
    exact⟨rfl,Up.of (N:=32) (N':=32) [] rfl rfl (by decide) (.set (.d _) (.set (.ptr' rfl) (.set (.ptr' rfl) (.set (.d _) zan.none)))) (.set zaC.refl_d (.set zaC.refl_d zap.at))⟩
   try simp only[go_sem,zab hy2,zae hy2,zac zah hy2]
   refine zal (fun hc13=> ?_) (fun hc14=> ?_)
   ·rw[if_pos hc13]at h
    try simp only[go_sem,zab hy2,zae hy2,zac zah hy2]
    cases h
    exact⟨rfl,Up.of (N:=13) (N':=33) [] rfl rfl (by decide) (.set (.d _) zan.none) zap.at⟩
   rw[if_neg (ff hc14)]at h
   try simp only[go_sem,zab hy2,zae hy2,zac zah hy2]
   cases h
   exact⟨rfl,Up.of (N:=13) (N':=32) [] rfl rfl (by decide) (.set (.ptr' rfl) (.set (.ptr' rfl) (.set (.d _) zan.none))) (.set zaC.refl_d (.set zaC.refl_d zap.at))⟩
  rw[if_neg (ffn hc4)]at h
  try simp only[go_sem,zab hy2,zae hy2,zac zah hy2]
  cases h
  exact⟨rfl,Up.of (N:=13) (N':=13) [] rfl rfl (by decide) (.set (.ptr' rfl) (.set (.ptr' rfl) (.set (.d _) zan.none))) (.set zaC.refl_d (.set zaC.refl_d zap.at))⟩
 rcases r18 with(q20|q84)
 ·dsimp only at h⊢
  try simp only[go_sem,zab hy2,zae hy2,zac zah hy2]
  obtain⟨r21,hr22,h⟩:=bs h
  replace hr22:=zao hr22
  refine zas hr22 ?_
  try simp only[go_sem,zab hy2,zae hy2,zac zah hy2]
  refine zaa (v:= .ptr 8 0 0) (fun hb83=>by simp only[go_sem,zab hy2,zae hy2,zac zah hy2,hb83]) ?_
  try simp only[go_sem,zab hy2,zae hy2,zac zah hy2]
  refine zaa (v:= .d (.int .u8 y1.kind)) (fun hb82=>by simp only[go_sem,zab hy2,zae hy2,zac zah hy2,hb82]) ?_
  try simp only[go_sem,zab hy2,zae hy2,zac zah hy2]
  refine zaa (v:= .d (.bool (y1.kind==9))) (fun hb81=>by simp only[go_sem,zab hy2,zae hy2,zac zah hy2,hb81]) ?_
  try simp only[go_sem,zab hy2,zae hy2,zac zah hy2]
  refine zaa (v:= .d (.bool (y1.kind==9))) (fun hb80=>by simp only[go_sem,zab hy2,zae hy2,zac zah hy2,hb80]) ?_
  try simp only[go_sem,zab hy2,zae hy2,zac zah hy2]
  refine zaa (v:= .ptr 8 0 10) (fun hb77=>by((obtain⟨hb78,hb79⟩:=zaw hb77));simp only[go_sem,zab hy2,zae hy2,zac zah hy2,hb79,hb78]) ?_
  try simp only[go_sem,zab hy2,zae hy2,zac zah hy2]
  refine zaa (v:= .d (.int .i64 y1.doc)) (fun hb74=>by((obtain⟨hb75,hb76⟩:=zaw hb74));simp only[go_sem,zab hy2,zae hy2,zac zah hy2,hb76,hb75]) ?_
  try simp only[go_sem,zab hy2,zae hy2,zac zah hy2]
  refine zaa (v:= .d (.int .i64 a1)) (fun hb71=>by((obtain⟨hb72,hb73⟩:=zaw hb71));simp only[go_sem,zab hy2,zae hy2,zac zah hy2,hb73,hb72]) ?_
  try simp only[go_sem,zab hy2,zae hy2,zac zah hy2]
  refine zaa (v:= .d (.bool (!(y1.doc==a1)))) (fun hb68=>by((obtain⟨hb69,hb70⟩:=zaw hb68));simp only[go_sem,zab hy2,zae hy2,zac zah hy2,hb70,hb69]) ?_
  try simp only[go_sem,zab hy2,zae hy2,zac zah hy2]
  obtain⟨r25,hl26,h⟩:=bs h
  refine zbS.cut (n:=(0,[])) .normal ⟨((((Regs.none.set 1 (.d (.int .i64 a1))).set 2 (.ptr 0 0 0)).set 5 (.ptr 8 0 0)).set 52 (.d (.bool r25))),(((Heap.at 29).set 0 (some (.els 1 [.d (zai a0)] 0))).set 8 (some (.els 16 [.d (zah y1)] 0)))⟩ ?_ (by(repeat(refine Clo.seq zbE rfl ?_));(exact Clo.ret)) ?_
  ·replace h:=hl26
   refine zaF (fun hc23=> ?_) (fun hc24=> ?_)
   ·rw[if_pos hc23]at h
    try simp only[go_sem,zab hy2,zae hy2,zac zah hy2,hc23]
    cases h
    exact⟨rfl,Up.of (N:=29) (N':=29) [] rfl rfl (by decide) (.set (.d _) (.set (.ptr' rfl) (.set (.ptr' rfl) (.set (.d _) zan.none)))) (.set zaC.refl_d (.set zaC.refl_d zap.at))⟩
   rw[if_neg (ff hc24)]at h
   try simp only[go_sem,zab hy2,zae hy2,zac zah hy2,hc24]
   cases h
   exact⟨rfl,Up.of (N:=29) (N':=29) [] rfl rfl (by decide) (.set (.d _) (.set (.ptr' rfl) (.set (.ptr' rfl) (.set (.d _) zan.none)))) (.set zaC.refl_d (.set zaC.refl_d zap.at))⟩
  try simp only[go_sem,zab hy2,zae hy2,zac zah hy2]
  refine zal (fun hc27=> ?_) (fun hc28=> ?_)
  ·rw[if_pos hc27]at h
   try simp only[go_sem,zab hy2,zae hy2,zac zah hy2]
   cases h
   rfl
  rw[if_neg (ff hc28)]at h
  try simp only[go_sem,zab hy2,zae hy2,zac zah hy2]
  obtain⟨r42,hl43,h⟩:=bs h
  refine WBr.cut (n:=(0,[])) ((fun r=>match r with|(.inl r)=>(.normal,⟨(((Regs.none.set 1 (.d (.int .i64 a1))).set 2 (.ptr 0 0 0)).set 5 (.ptr 8 0 0)),(((Heap.at 32).set 0 (some (.els 1 [.d (zai a0)] 0))).set 8 (some (.els 16 [.d (zah y1)] 0)))⟩)|(.inr r)=>(.ret,⟨(Regs.none.set 4 (.d (.bool false))),(Heap.at 32)⟩):((Unit)⊕(Unit))→Ex×St) r42).1 ((fun r=>match r with|(.inl r)=>(.normal,⟨(((Regs.none.set 1 (.d (.int .i64 a1))).set 2 (.ptr 0 0 0)).set 5 (.ptr 8 0 0)),(((Heap.at 32).set 0 (some (.els 1 [.d (zai a0)] 0))).set 8 (some (.els 16 [.d (zah y1)] 0)))⟩)|(.inr r)=>(.ret,⟨(Regs.none.set 4 (.d (.bool false))),(Heap.at 32)⟩):((Unit)⊕(Unit))→Ex×St) r42).2 ?_ (by(repeat(refine Clo.seq zbE rfl ?_));(exact Clo.ret)) ?_
  ·replace h:=hl43
   refine zaM (fun hc29=> ?_) (fun hc30=> ?_)
   ·rw[if_pos (show(!(y1.shadow==0))=true by(rw[hc29];rfl))]at h
    try simp only[go_sem,zab hy2,zae hy2,zac zah hy2]
    obtain⟨r31,hr32,h⟩:=bs h
    replace hr32:=zao hr32
    refine zas hr32 ?_
    try simp only[go_sem,zab hy2,zae hy2,zac zah hy2]
    refine zaa (v:= .ptr 39 0 0) (fun hb41=>by simp only[go_sem,zab hy2,zae hy2,zac zah hy2,hc28,hc29,hb41]) ?_
    try simp only[go_sem,zab hy2,zae hy2,zac zah hy2]
    refine zaa (v:= .d (.int .u8 r31.1.kind)) (fun hb40=>by simp only[go_sem,zab hy2,zae hy2,zac zah hy2,hc28,hc29,hb40]) ?_
    try simp only[go_sem,zab hy2,zae hy2,zac zah hy2]
    refine zaa (v:= .d (.bool (!(r31.1.kind==12)))) (fun hb39=>by simp only[go_sem,zab hy2,zae hy2,zac zah hy2,hc28,hc29,hb39]) ?_
    try simp only[go_sem,zab hy2,zae hy2,zac zah hy2]
    refine zaa (v:= .ptr 39 0 11) (fun hb38=>by simp only[go_sem,zab hy2,zae hy2,zac zah hy2,hc28,hc29,hb38]) ?_
    try simp only[go_sem,zab hy2,zae hy2,zac zah hy2]
    refine zaa (v:= .d (.int .i64 r31.1.host)) (fun hb37=>by simp only[go_sem,zab hy2,zae hy2,zac zah hy2,hc28,hc29,hb37]) ?_
    try simp only[go_sem,zab hy2,zae hy2,zac zah hy2]
    refine zaa (v:= .d (.int .i64 a1)) (fun hb36=>by simp only[go_sem,zab hy2,zae hy2,zac zah hy2,hc28,hc29,hb36]) ?_
    try simp only[go_sem,zab hy2,zae hy2,zac zah hy2]
    refine zaa (v:= .d (.bool (!(r31.1.host==a1)))) (fun hb35=>by simp only[go_sem,zab hy2,zae hy2,zac zah hy2,hc28,hc29,hb35]) ?_
    try simp only[go_sem,zab hy2,zae hy2,zac zah hy2]
    refine zal (fun hc33=> ?_) (fun hc34=> ?_)
    ·rw[if_pos hc33]at h
     try simp only[go_sem,zab hy2,zae hy2,zac zah hy2]
     cases h
     exact⟨rfl,Up.of (N:=32) (N':=56) [] rfl rfl (by decide) (.set (.d _) zan.none) zap.at⟩
    rw[if_neg (ff hc34)]at h
    try simp only[go_sem,zab hy2,zae hy2,zac zah hy2]
    cases h
    exact⟨rfl,Up.of (N:=32) (N':=55) [] rfl rfl (by decide) (.set (.ptr' rfl) (.set (.ptr' rfl) (.set (.d _) zan.none))) (.set zaC.refl_d (.set zaC.refl_d zap.at))⟩
   rw[if_neg (ffn hc30)]at h
   try simp only[go_sem,zab hy2,zae hy2,zac zah hy2]
   cases h
   exact⟨rfl,Up.of (N:=32) (N':=32) [] rfl rfl (by decide) (.set (.ptr' rfl) (.set (.ptr' rfl) (.set (.d _) zan.none))) (.set zaC.refl_d (.set zaC.refl_d zap.at))⟩
  rcases r42 with(q44|q67)
  ·dsimp only at h⊢
   try simp only[go_sem,zab hy2,zae hy2,zac zah hy2]
   refine zal (fun hc45=> ?_) (fun hc46=> ?_)
   ·rw[if_pos hc45]at h
    try simp only[go_sem,zab hy2,zae hy2,zac zah hy2]
    obtain⟨r47,hr48,h⟩:=bs h
    replace hr48:=zao hr48
    refine zas hr48 ?_
    try simp only[go_sem,zab hy2,zae hy2,zac zah hy2]
    refine zaa (v:= .ptr 42 0 0) (fun hb64=>by simp only[go_sem,zab hy2,zae hy2,zac zah hy2,hc28,hc45,hb64]) ?_
    try simp only[go_sem,zab hy2,zae hy2,zac zah hy2]
    refine zaa (v:= .d (.int .u8 r47.1.kind)) (fun hb63=>by simp only[go_sem,zab hy2,zae hy2,zac zah hy2,hc28,hc45,hb63]) ?_
    try simp only[go_sem,zab hy2,zae hy2,zac zah hy2]
    refine zaa (v:= .d (.bool (!(r47.1.kind==1)))) (fun hb62=>by simp only[go_sem,zab hy2,zae hy2,zac zah hy2,hc28,hc45,hb62]) ?_
    try simp only[go_sem,zab hy2,zae hy2,zac zah hy2]
    refine zaa (v:= .ptr 42 0 12) (fun hb61=>by simp only[go_sem,zab hy2,zae hy2,zac zah hy2,hc28,hc45,hb61]) ?_
    try simp only[go_sem,zab hy2,zae hy2,zac zah hy2]
    refine zaa (v:= .d (.int .i64 r47.1.shadow)) (fun hb60=>by simp only[go_sem,zab hy2,zae hy2,zac zah hy2,hc28,hc45,hb60]) ?_
    try simp only[go_sem,zab hy2,zae hy2,zac zah hy2]
    refine zaa (v:= .d (.int .i64 a1)) (fun hb59=>by simp only[go_sem,zab hy2,zae hy2,zac zah hy2,hc28,hc45,hb59]) ?_
    try simp only[go_sem,zab hy2,zae hy2,zac zah hy2]
    refine zaa (v:= .d (.bool (!(r47.1.shadow==a1)))) (fun hb58=>by simp only[go_sem,zab hy2,zae hy2,zac zah hy2,hc28,hc45,hb58]) ?_
    try simp only[go_sem,zab hy2,zae hy2,zac zah hy2]
    refine zaa (v:= .ptr 42 0 10) (fun hb57=>by simp only[go_sem,zab hy2,zae hy2,zac zah hy2,hc28,hc45,hb57]) ?_
    try simp only[go_sem,zab hy2,zae hy2,zac zah hy2]
    refine zaa (v:= .d (.int .i64 r47.1.doc)) (fun hb56=>by simp only[go_sem,zab hy2,zae hy2,zac zah hy2,hc28,hc45,hb56]) ?_
    try simp only[go_sem,zab hy2,zae hy2,zac zah hy2]
    refine zaa (v:= .ptr 8 0 10) (fun hb55=>by simp only[go_sem,zab hy2,zae hy2,zac zah hy2,hc28,hc45,hb55]) ?_
    try simp only[go_sem,zab hy2,zae hy2,zac zah hy2]
    refine zaa (v:= .d (.int .i64 y1.doc)) (fun hb54=>by simp only[go_sem,zab hy2,zae hy2,zac zah hy2,hc28,hc45,hb54]) ?_
    try simp only[go_sem,zab hy2,zae hy2,zac zah hy2]
    refine zaa (v:= .d (.bool (!(r47.1.doc==y1.doc)))) (fun hb53=>by simp only[go_sem,zab hy2,zae hy2,zac zah hy2,hc28,hc45,hb53]) ?_
    try simp only[go_sem,zab hy2,zae hy2,zac zah hy2]
    refine zal (fun hc49=> ?_) (fun hc50=> ?_)
    ·rw[if_pos hc49]at h
     try simp only[go_sem,zab hy2,zae hy2,zac zah hy2]
     cases h
     rfl
    rw[if_neg (ff hc50)]at h
    try simp only[go_sem,zab hy2,zae hy2,zac zah hy2]
    obtain⟨r51,hr52,h⟩:=bs h
    replace hr52:=zao hr52
    refine zas hr52 ?_
    try simp only[go_sem,zab hy2,zae hy2,zac zah hy2]
    cases h
    rfl
   rw[if_neg (ff hc46)]at h
   try simp only[go_sem,zab hy2,zae hy2,zac zah hy2]
   obtain⟨r65,hr66,h⟩:=bs h
   replace hr66:=zao hr66
   refine zas hr66 ?_
   try simp only[go_sem,zab hy2,zae hy2,zac zah hy2]
   cases h
   rfl
  dsimp only at h⊢
  try simp only[go_sem,zab hy2,zae hy2,zac zah hy2]
  cases h
  rfl
 dsimp only at h⊢
 try simp only[go_sem,zab hy2,zae hy2,zac zah hy2]
 cases h
 rfl
noncomputable def zHP (a0:Node):Option (Bool):=
 (dec D.bool (pc prog 191 [.int .u8 a0.kind])).bind fun r1=>
 (if(!(bif (bif (bif (!r1)then true else(decide (1024<(a0.public_.length:Int))))then true else(decide (1024<(a0.system.length:Int))))then true else(decide (16384<(a0.data.l.length:Int)))))=true then
  (dec D.bool (pc prog 192 [.list a0.attrs.n (a0.attrs.l.map zaH)])).bind fun r5=>
  some (!r5)
 else
  some true:Option ((Bool))).bind fun r7=>
 if r7=true then
  some false
 else
  (if(a0.kind==1)=true then
   (dec D.bool (pc prog 193 [zbL a0.name])).bind fun r13=>
   if(!r13)=true then
    some (.inr ())
   else
    some (.inl ())
  else
   (if(bif (a0.kind==10)then true else(a0.kind==7))=true then
    if(bif (bif (!(decide (a0.name=(⟨[],[],a0.name.local_⟩:Name))))then true else(a0.name.local_==[]))then true else(decide (1024<(a0.name.local_.length:Int))))=true then
     some (.inr ())
    else
     some (.inl ())
   else
    if(!(decide (a0.name=(⟨[],[],[]⟩:Name))))=true then
     some (.inr ())
    else
     some (.inl ()):Option ((Unit)⊕(Unit))).bind fun r32=>
   match r32 with
   |(.inl q34)=>
    some (.inl ())
   |(.inr q35)=>
    some (.inr ()):Option ((Unit)⊕(Unit))).bind fun r38=>
  match r38 with
  |(.inl q40)=>
   (if(!(a0.kind==10))=true then
    if(!(bif (!(a0.public_==[]))then true else(!(a0.system==[]))))=true then
     (dec D.bool (pc prog 194 [.int .u8 a0.kind])).bind fun r45=>
     if(!(bif (!r45)then(decide (0<(a0.data.l.length:Int)))else false))=true then
      (dec D.bool (pc prog 195 [.int .u8 a0.kind])).bind fun r49=>
      some (bif (!r49)then(decide (0<(a0.kids.l.length:Int)))else false)
     else
      some true
    else
     some true
   else
    (dec D.bool (pc prog 194 [.int .u8 a0.kind])).bind fun r61=>
    if(!(bif (!r61)then(decide (0<(a0.data.l.length:Int)))else false))=true then
     (dec D.bool (pc prog 195 [.int .u8 a0.kind])).bind fun r65=>
     some (bif (!r65)then(decide (0<(a0.kids.l.length:Int)))else false)
    else
     some true:Option ((Bool))).bind fun r76=>
   if r76=true then
    some false
   else
    (if(!(a0.kind==1))=true then
     if(!(bif (decide (0<(a0.attrs.l.length:Int)))then true else(!(a0.shadow==0))))=true then
      some (bif (!(a0.kind==9))then a0.hTML else false)
     else
      some true
    else
     some (bif (!(a0.kind==9))then a0.hTML else false):Option ((Bool))).bind fun r95=>
    if r95=true then
     some false
    else
     (if(a0.kind==12)=true then
      if(bif (!(a0.mode==1))then(!(a0.mode==2))else false)=true then
       some (.inr ())
      else
       some (.inl ())
     else
      if(bif (bif (!(a0.mode==0))then true else a0.manual)then true else(!(a0.host==0)))=true then
       some (.inr ())
      else
       some (.inl ()):Option ((Unit)⊕(Unit))).bind fun r113=>
     match r113 with
     |(.inl q115)=>
      if(!(a0.parent==0))=true then
       some (bif (bif (!(a0.kind==9))then(!(a0.kind==11))else false)then(!(a0.kind==12))else false)
      else
       some true
     |(.inr q129)=>
      some false
  |(.inr q157)=>
   some false
theorem zHQ (a0:Node) (r:Bool) (h:zHP a0=some r):pc prog 163 [zah a0]=some (D.bool r):=by
 unfold zHP at h
 refine zbc (fn:=zGv) rfl rfl ?_
 delta zGv
 try simp only[go_sem]
 obtain⟨r1,hr2,h⟩:=bs h
 replace hr2:=zao hr2
 refine zas hr2 ?_
 try simp only[go_sem]
 refine zaa (v:= .ptr 0 0 4) (fun hb171=>by simp only[go_sem,hb171]) ?_
 try simp only[go_sem]
 refine zaa (v:= .d (.str a0.public_)) (fun hb170=>by simp only[go_sem,hb170]) ?_
 try simp only[go_sem]
 refine zaa (v:= .d (.int .i64 (a0.public_.length:Int))) (fun hb169=>by simp only[go_sem,hb169]) ?_
 try simp only[go_sem]
 refine zaa (v:= .d (.bool (decide (1024<(a0.public_.length:Int))))) (fun hb168=>by simp only[go_sem,hb168]) ?_
 try simp only[go_sem]
 refine zaa (v:= .ptr 0 0 5) (fun hb167=>by simp only[go_sem,hb167]) ?_
 try simp only[go_sem]
 refine zaa (v:= .d (.str a0.system)) (fun hb166=>by simp only[go_sem,hb166]) ?_
 try simp only[go_sem]
 refine zaa (v:= .d (.int .i64 (a0.system.length:Int))) (fun hb165=>by simp only[go_sem,hb165]) ?_
 try simp only[go_sem]
 refine zaa (v:= .d (.bool (decide (1024<(a0.system.length:Int))))) (fun hb164=>by simp only[go_sem,hb164]) ?_
 try simp only[go_sem]
 refine zaa (v:= .ptr 0 0 6) (fun hb163=>by simp only[go_sem,hb163]) ?_
 try simp only[go_sem]
 refine zaa (v:= .d (.list a0.data.n (a0.data.l.map (D.int .u16)))) (fun hb162=>by simp only[go_sem,hb162]) ?_
 try simp only[go_sem]
 refine zaa (v:= .d (.int .i64 (a0.data.l.length:Int))) (fun hb161=>by simp only[go_sem,hb161]) ?_
 try simp only[go_sem]
 refine zaa (v:= .d (.bool (decide (16384<(a0.data.l.length:Int))))) (fun hb160=>by simp only[go_sem,hb160]) ?_
 try simp only[go_sem]
 refine zaa (v:= .ptr 0 0 7) (fun hb159=>by simp only[go_sem,hb159]) ?_
 try simp only[go_sem]
 refine zaa (v:= .d (.list a0.attrs.n (a0.attrs.l.map zaH))) (fun hb158=>by simp only[go_sem,hb158]) ?_
 try simp only[go_sem]
 obtain⟨r7,hl8,h⟩:=bs h
 refine zbS.cut (n:=(0,[])) .normal ⟨(((Regs.none.set 1 (.ptr 0 0 0)).set 3 (.d (.int .u8 a0.kind))).set 32 (.d (.bool r7))),((Heap.at 32).set 0 (some (.els 16 [.d (zah a0)] 0)))⟩ ?_ (by(repeat(refine Clo.seq zbE rfl ?_));(exact Clo.ret)) ?_
 ·replace h:=hl8
  refine zaD (fun hc3=> ?_) (fun hc4=> ?_)
  ·rw[if_pos (show(!(bif (bif (bif (!r1)then true else(decide (1024<(a0.public_.length:Int))))then true else(decide (1024<(a0.system.length:Int))))then true else(decide (16384<(a0.data.l.length:Int)))))=true by(rw[hc3];rfl))]at h
   try simp only[go_sem,hc3]
   obtain⟨r5,hr6,h⟩:=bs h
   replace hr6:=zao hr6
   refine zas hr6 ?_
   try simp only[go_sem]
   cases h
   exact⟨rfl,Up.of (N:=32) (N':=32) [] rfl rfl (by decide) (.set (.d _) (.set (.d _) (.set (.ptr' rfl) zan.none))) (.set zaC.refl_d zap.at)⟩
  rw[if_neg (ffn hc4)]at h
  try simp only[go_sem,hc4]
  cases h
  exact⟨rfl,Up.of (N:=32) (N':=32) [] rfl rfl (by decide) (.set (.d _) (.set (.d _) (.set (.ptr' rfl) zan.none))) (.set zaC.refl_d zap.at)⟩
 try simp only[go_sem]
 refine zal (fun hc9=> ?_) (fun hc10=> ?_)
 ·rw[if_pos hc9]at h
  try simp only[go_sem]
  cases h
  rfl
 rw[if_neg (ff hc10)]at h
 try simp only[go_sem]
 obtain⟨r38,hl39,h⟩:=bs h
 refine WBr.cut (n:=(0,[])) ((fun r=>match r with|(.inl r)=>(.normal,⟨((Regs.none.set 1 (.ptr 0 0 0)).set 3 (.d (.int .u8 a0.kind))),((Heap.at 35).set 0 (some (.els 16 [.d (zah a0)] 0)))⟩)|(.inr r)=>(.ret,⟨(Regs.none.set 2 (.d (.bool false))),(Heap.at 35)⟩):((Unit)⊕(Unit))→Ex×St) r38).1 ((fun r=>match r with|(.inl r)=>(.normal,⟨((Regs.none.set 1 (.ptr 0 0 0)).set 3 (.d (.int .u8 a0.kind))),((Heap.at 35).set 0 (some (.els 16 [.d (zah a0)] 0)))⟩)|(.inr r)=>(.ret,⟨(Regs.none.set 2 (.d (.bool false))),(Heap.at 35)⟩):((Unit)⊕(Unit))→Ex×St) r38).2 ?_ (by(repeat(first|refine Clo.block ?_|refine Clo.seq zbE rfl ?_));(exact Clo.ret)) ?_
 ·replace h:=hl39
  refine zal (fun hc11=> ?_) (fun hc12=> ?_)
  ·rw[if_pos hc11]at h
   try simp only[go_sem]
   obtain⟨r13,hr14,h⟩:=bs h
   replace hr14:=zao hr14
   refine zas hr14 ?_
   try simp only[go_sem]
   refine zaM (fun hc15=> ?_) (fun hc16=> ?_)
   ·rw[if_pos (show(!r13)=true by(rw[hc15];rfl))]at h
    try simp only[go_sem]
    cases h
    exact⟨rfl,Up.of (N:=35) (N':=40) [] rfl rfl (by decide) (.set (.d _) zan.none) zap.at⟩
   rw[if_neg (ffn hc16)]at h
   try simp only[go_sem]
   cases h
   exact⟨rfl,Up.of (N:=35) (N':=39) [] rfl rfl (by decide) (.set (.d _) (.set (.ptr' rfl) zan.none)) (.set zaC.refl_d zap.at)⟩
  rw[if_neg (ff hc12)]at h
  try simp only[go_sem]
  refine zaa (v:= .d (.int .u8 a0.kind)) (fun hb37=>by simp only[go_sem,hc10,hc12,hb37]) ?_
  try simp only[go_sem]
  refine zaa (v:= .d (.bool (a0.kind==7))) (fun hb36=>by simp only[go_sem,hc10,hc12,hb36]) ?_
  try simp only[go_sem]
  obtain⟨r32,hl33,h⟩:=bs h
  refine WBr.cut (n:=(0,[])) ((fun r=>match r with|(.inl r)=>(.normal,⟨((Regs.none.set 1 (.ptr 0 0 0)).set 3 (.d (.int .u8 a0.kind))),((Heap.at 42).set 0 (some (.els 16 [.d (zah a0)] 0)))⟩)|(.inr r)=>(.ret,⟨(Regs.none.set 2 (.d (.bool false))),(Heap.at 42)⟩):((Unit)⊕(Unit))→Ex×St) r32).1 ((fun r=>match r with|(.inl r)=>(.normal,⟨((Regs.none.set 1 (.ptr 0 0 0)).set 3 (.d (.int .u8 a0.kind))),((Heap.at 42).set 0 (some (.els 16 [.d (zah a0)] 0)))⟩)|(.inr r)=>(.ret,⟨(Regs.none.set 2 (.d (.bool false))),(Heap.at 42)⟩):((Unit)⊕(Unit))→Ex×St) r32).2 ?_ (by(repeat(first|refine Clo.block ?_|refine Clo.seq zbE rfl ?_));(exact Clo.cpost (by decide))) ?_
  ·replace h:=hl33
   refine zal (fun hc17=> ?_) (fun hc18=> ?_)
   ·rw[if_pos hc17]at h
    try simp only[go_sem]
    refine zaa (v:= .ptr 0 0 1) (fun hb29=>by simp only[go_sem,hc10,hc12,hc17,hb29]) ?_
    try simp only[go_sem]
    refine zaa (v:= .ptr 0 0 3) (fun hb28=>by simp only[go_sem,hc10,hc12,hc17,hb28]) ?_
    try simp only[go_sem]
    refine zaa (v:= .d (.str a0.name.local_)) (fun hb27=>by simp only[go_sem,hc10,hc12,hc17,hb27]) ?_
    try simp only[go_sem]
    refine zaa (v:= .d (.bool (a0.name.local_==[]))) (fun hb26=>by simp only[go_sem,hc10,hc12,hc17,hb26]) ?_
    try simp only[go_sem]
    refine zaa (v:= .ptr 0 0 1) (fun hb25=>by simp only[go_sem,hc10,hc12,hc17,hb25]) ?_
    try simp only[go_sem]
    refine zaa (v:= .ptr 0 0 3) (fun hb24=>by simp only[go_sem,hc10,hc12,hc17,hb24]) ?_
    try simp only[go_sem]
    refine zaa (v:= .d (.str a0.name.local_)) (fun hb23=>by simp only[go_sem,hc10,hc12,hc17,hb23]) ?_
    try simp only[go_sem]
    refine zaa (v:= .d (.int .i64 (a0.name.local_.length:Int))) (fun hb22=>by simp only[go_sem,hc10,hc12,hc17,hb22]) ?_
    try simp only[go_sem]
    refine zaa (v:= .d (.bool (decide (1024<(a0.name.local_.length:Int))))) (fun hb21=>by simp only[go_sem,hc10,hc12,hc17,hb21]) ?_
    try simp only[go_sem]
    refine zal (fun hc19=> ?_) (fun hc20=> ?_)
    ·rw[if_pos hc19]at h
     try simp only[go_sem]
     cases h
     exact⟨rfl,Up.of (N:=42) (N':=63) [] rfl rfl (by decide) (.set (.d _) zan.none) zap.at⟩
    rw[if_neg (ff hc20)]at h
    try simp only[go_sem]
    cases h
    exact⟨rfl,Up.of (N:=42) (N':=62) [] rfl rfl (by decide) (.set (.d _) (.set (.ptr' rfl) zan.none)) (.set zaC.refl_d zap.at)⟩
   rw[if_neg (ff hc18)]at h
   try simp only[go_sem]
   refine zaM (fun hc30=> ?_) (fun hc31=> ?_)
   ·rw[if_pos (show(!(decide (a0.name=(⟨[],[],[]⟩:Name))))=true by(rw[hc30];rfl))]at h
    try simp only[go_sem]
    cases h
    exact⟨rfl,Up.of (N:=42) (N':=48) [] rfl rfl (by decide) (.set (.d _) zan.none) zap.at⟩
   rw[if_neg (ffn hc31)]at h
   try simp only[go_sem]
   cases h
   exact⟨rfl,Up.of (N:=42) (N':=47) [] rfl rfl (by decide) (.set (.d _) (.set (.ptr' rfl) zan.none)) (.set zaC.refl_d zap.at)⟩
  rcases r32 with(q34|q35)
  ·dsimp only at h⊢
   cases h
   exact⟨rfl,Up.of (N:=35) (N':=42) [] rfl rfl (by decide) (.set (.d _) (.set (.ptr' rfl) zan.none)) (.set zaC.refl_d zap.at)⟩
  dsimp only at h⊢
  cases h
  exact⟨rfl,Up.of (N:=35) (N':=42) [] rfl rfl (by decide) (.set (.d _) zan.none) zap.at⟩
 rcases r38 with(q40|q157)
 ·dsimp only at h⊢
  try simp only[go_sem]
  refine zaa (v:= .ptr 0 0 4) (fun hb156=>by simp only[go_sem,hc10,hb156]) ?_
  try simp only[go_sem]
  refine zaa (v:= .d (.str a0.public_)) (fun hb155=>by simp only[go_sem,hc10,hb155]) ?_
  try simp only[go_sem]
  refine zaa (v:= .d (.bool (!(a0.public_==[])))) (fun hb154=>by simp only[go_sem,hc10,hb154]) ?_
  try simp only[go_sem]
  refine zaa (v:= .d (.bool (!(a0.public_==[])))) (fun hb153=>by simp only[go_sem,hc10,hb153]) ?_
  try simp only[go_sem]
  refine zaa (v:= .ptr 0 0 5) (fun hb150=>by((obtain⟨hb151,hb152⟩:=zaw hb150));simp only[go_sem,hc10,hb152,hb151]) ?_
  try simp only[go_sem]
  refine zaa (v:= .d (.str a0.system)) (fun hb147=>by((obtain⟨hb148,hb149⟩:=zaw hb147));simp only[go_sem,hc10,hb149,hb148]) ?_
  try simp only[go_sem]
  refine zaa (v:= .d (.bool (!(a0.system==[])))) (fun hb144=>by((obtain⟨hb145,hb146⟩:=zaw hb144));simp only[go_sem,hc10,hb146,hb145]) ?_
  try simp only[go_sem]
  obtain⟨r76,hl77,h⟩:=bs h
  refine zbS.cut (n:=(0,[])) .normal ⟨(((Regs.none.set 1 (.ptr 0 0 0)).set 3 (.d (.int .u8 a0.kind))).set 105 (.d (.bool r76))),((Heap.at 69).set 0 (some (.els 16 [.d (zah a0)] 0)))⟩ ?_ (by(repeat(refine Clo.seq zbE rfl ?_));(exact Clo.ret)) ?_
  ·replace h:=hl77
   refine zaD (fun hc41=> ?_) (fun hc42=> ?_)
   ·rw[if_pos (show(!(a0.kind==10))=true by(rw[hc41];rfl))]at h
    try simp only[go_sem,hc41]
    refine zaa (v:= .d (.int .u8 a0.kind)) (fun hb60=>by simp only[go_sem,hc10,hc41,hb60]) ?_
    try simp only[go_sem]
    refine zaD (fun hc43=> ?_) (fun hc44=> ?_)
    ·rw[if_pos (show(!(bif (!(a0.public_==[]))then true else(!(a0.system==[]))))=true by(rw[hc43];rfl))]at h
     try simp only[go_sem,hc43]
     obtain⟨r45,hr46,h⟩:=bs h
     replace hr46:=zao hr46
     refine zas hr46 ?_
     try simp only[go_sem]
     refine zaa (v:= .ptr 0 0 6) (fun hb59=>by simp only[go_sem,hc10,hc41,hc43,hb59]) ?_
     try simp only[go_sem]
     refine zaa (v:= .d (.list a0.data.n (a0.data.l.map (D.int .u16)))) (fun hb58=>by simp only[go_sem,hc10,hc41,hc43,hb58]) ?_
     try simp only[go_sem]
     refine zaa (v:= .d (.int .i64 (a0.data.l.length:Int))) (fun hb57=>by simp only[go_sem,hc10,hc41,hc43,hb57]) ?_
     try simp only[go_sem]
     refine zaa (v:= .d (.bool (decide (0<(a0.data.l.length:Int))))) (fun hb56=>by simp only[go_sem,hc10,hc41,hc43,hb56]) ?_
     try simp only[go_sem]
     refine zaa (v:= .d (.int .u8 a0.kind)) (fun hb55=>by simp only[go_sem,hc10,hc41,hc43,hb55]) ?_
     try simp only[go_sem]
     refine zaD (fun hc47=> ?_) (fun hc48=> ?_)
     ·rw[if_pos (show(!(bif (!r45)then(decide (0<(a0.data.l.length:Int)))else false))=true by(rw[hc47];rfl))]at h
      try simp only[go_sem,hc47]
      obtain⟨r49,hr50,h⟩:=bs h
      replace hr50:=zao hr50
      refine zas hr50 ?_
      try simp only[go_sem]
      refine zaa (v:= .ptr 0 0 9) (fun hb54=>by simp only[go_sem,hc10,hc41,hc43,hc47,hb54]) ?_
      try simp only[go_sem]
      refine zaa (v:= .d (.list a0.kids.n (a0.kids.l.map (D.int .i64)))) (fun hb53=>by simp only[go_sem,hc10,hc41,hc43,hc47,hb53]) ?_
      try simp only[go_sem]
      refine zaa (v:= .d (.int .i64 (a0.kids.l.length:Int))) (fun hb52=>by simp only[go_sem,hc10,hc41,hc43,hc47,hb52]) ?_
      try simp only[go_sem]
      refine zaa (v:= .d (.bool (decide (0<(a0.kids.l.length:Int))))) (fun hb51=>by simp only[go_sem,hc10,hc41,hc43,hc47,hb51]) ?_
      try simp only[go_sem]
      cases h
      exact⟨rfl,Up.of (N:=69) (N':=69) [] rfl rfl (by decide) (.set (.d _) (.set (.d _) (.set (.ptr' rfl) zan.none))) (.set zaC.refl_d zap.at)⟩
     rw[if_neg (ffn hc48)]at h
     try simp only[go_sem,hc48]
     cases h
     exact⟨rfl,Up.of (N:=69) (N':=69) [] rfl rfl (by decide) (.set (.d _) (.set (.d _) (.set (.ptr' rfl) zan.none))) (.set zaC.refl_d zap.at)⟩
    rw[if_neg (ffn hc44)]at h
    try simp only[go_sem,hc44]
    cases h
    exact⟨rfl,Up.of (N:=69) (N':=69) [] rfl rfl (by decide) (.set (.d _) (.set (.d _) (.set (.ptr' rfl) zan.none))) (.set zaC.refl_d zap.at)⟩
   rw[if_neg (ffn hc42)]at h
   try simp only[go_sem,hc42]
   obtain⟨r61,hr62,h⟩:=bs h
   replace hr62:=zao hr62
   refine zas hr62 ?_
   try simp only[go_sem]
   refine zaa (v:= .ptr 0 0 6) (fun hb75=>by simp only[go_sem,hc10,hc42,hb75]) ?_
   try simp only[go_sem]
   refine zaa (v:= .d (.list a0.data.n (a0.data.l.map (D.int .u16)))) (fun hb74=>by simp only[go_sem,hc10,hc42,hb74]) ?_
   try simp only[go_sem]
   refine zaa (v:= .d (.int .i64 (a0.data.l.length:Int))) (fun hb73=>by simp only[go_sem,hc10,hc42,hb73]) ?_
   try simp only[go_sem]
   refine zaa (v:= .d (.bool (decide (0<(a0.data.l.length:Int))))) (fun hb72=>by simp only[go_sem,hc10,hc42,hb72]) ?_
   try simp only[go_sem]
   refine zaa (v:= .d (.int .u8 a0.kind)) (fun hb71=>by simp only[go_sem,hc10,hc42,hb71]) ?_
   try simp only[go_sem]
   refine zaD (fun hc63=> ?_) (fun hc64=> ?_)
   ·rw[if_pos (show(!(bif (!r61)then(decide (0<(a0.data.l.length:Int)))else false))=true by(rw[hc63];rfl))]at h
    try simp only[go_sem,hc63]
    obtain⟨r65,hr66,h⟩:=bs h
    replace hr66:=zao hr66
    refine zas hr66 ?_
    try simp only[go_sem]
    refine zaa (v:= .ptr 0 0 9) (fun hb70=>by simp only[go_sem,hc10,hc42,hc63,hb70]) ?_
    try simp only[go_sem]
    refine zaa (v:= .d (.list a0.kids.n (a0.kids.l.map (D.int .i64)))) (fun hb69=>by simp only[go_sem,hc10,hc42,hc63,hb69]) ?_
    try simp only[go_sem]
    refine zaa (v:= .d (.int .i64 (a0.kids.l.length:Int))) (fun hb68=>by simp only[go_sem,hc10,hc42,hc63,hb68]) ?_
    try simp only[go_sem]
    refine zaa (v:= .d (.bool (decide (0<(a0.kids.l.length:Int))))) (fun hb67=>by simp only[go_sem,hc10,hc42,hc63,hb67]) ?_
    try simp only[go_sem]
    cases h
    exact⟨rfl,Up.of (N:=69) (N':=69) [] rfl rfl (by decide) (.set (.d _) (.set (.d _) (.set (.ptr' rfl) zan.none))) (.set zaC.refl_d zap.at)⟩
   rw[if_neg (ffn hc64)]at h
   try simp only[go_sem,hc64]
   cases h
   exact⟨rfl,Up.of (N:=69) (N':=69) [] rfl rfl (by decide) (.set (.d _) (.set (.d _) (.set (.ptr' rfl) zan.none))) (.set zaC.refl_d zap.at)⟩
  try simp only[go_sem]
  refine zal (fun hc78=> ?_) (fun hc79=> ?_)
  ·rw[if_pos hc78]at h
   try simp only[go_sem]
   cases h
   rfl
  rw[if_neg (ff hc79)]at h
  try simp only[go_sem]
  refine zaa (v:= .ptr 0 0 7) (fun hb143=>by simp only[go_sem,hc10,hc79,hb143]) ?_
  try simp only[go_sem]
  refine zaa (v:= .d (.list a0.attrs.n (a0.attrs.l.map zaH))) (fun hb142=>by simp only[go_sem,hc10,hc79,hb142]) ?_
  try simp only[go_sem]
  refine zaa (v:= .d (.int .i64 (a0.attrs.l.length:Int))) (fun hb141=>by simp only[go_sem,hc10,hc79,hb141]) ?_
  try simp only[go_sem]
  refine zaa (v:= .d (.bool (decide (0<(a0.attrs.l.length:Int))))) (fun hb140=>by simp only[go_sem,hc10,hc79,hb140]) ?_
  try simp only[go_sem]
  refine zaa (v:= .d (.bool (decide (0<(a0.attrs.l.length:Int))))) (fun hb139=>by simp only[go_sem,hc10,hc79,hb139]) ?_
  try simp only[go_sem]
  refine zaa (v:= .ptr 0 0 12) (fun hb136=>by((obtain⟨hb137,hb138⟩:=zaw hb136));simp only[go_sem,hc10,hc79,hb138,hb137]) ?_
  try simp only[go_sem]
  refine zaa (v:= .d (.int .i64 a0.shadow)) (fun hb133=>by((obtain⟨hb134,hb135⟩:=zaw hb133));simp only[go_sem,hc10,hc79,hb135,hb134]) ?_
  try simp only[go_sem]
  refine zaa (v:= .d (.bool (!(a0.shadow==0)))) (fun hb130=>by((obtain⟨hb131,hb132⟩:=zaw hb130));simp only[go_sem,hc10,hc79,hb132,hb131]) ?_
  try simp only[go_sem]
  obtain⟨r95,hl96,h⟩:=bs h
  refine zbS.cut (n:=(0,[])) .normal ⟨(((Regs.none.set 1 (.ptr 0 0 0)).set 3 (.d (.int .u8 a0.kind))).set 126 (.d (.bool r95))),((Heap.at 90).set 0 (some (.els 16 [.d (zah a0)] 0)))⟩ ?_ (by(repeat(refine Clo.seq zbE rfl ?_));(exact Clo.ret)) ?_
  ·replace h:=hl96
   refine zaD (fun hc80=> ?_) (fun hc81=> ?_)
   ·rw[if_pos (show(!(a0.kind==1))=true by(rw[hc80];rfl))]at h
    try simp only[go_sem,hc80]
    refine zaa (v:= .d (.int .u8 a0.kind)) (fun hb92=>by simp only[go_sem,hc10,hc79,hc80,hb92]) ?_
    try simp only[go_sem]
    refine zaa (v:= .d (.bool (!(a0.kind==9)))) (fun hb91=>by simp only[go_sem,hc10,hc79,hc80,hb91]) ?_
    try simp only[go_sem]
    refine zaa (v:= .d (.bool (!(a0.kind==9)))) (fun hb90=>by simp only[go_sem,hc10,hc79,hc80,hb90]) ?_
    try simp only[go_sem]
    refine zaa (v:= .ptr 0 0 15) (fun hb87=>by((obtain⟨hb88,hb89⟩:=zaw hb87));simp only[go_sem,hc10,hc79,hc80,hb89,hb88]) ?_
    try simp only[go_sem]
    refine zaa (v:= .d (.bool a0.hTML)) (fun hb84=>by((obtain⟨hb85,hb86⟩:=zaw hb84));simp only[go_sem,hc10,hc79,hc80,hb86,hb85]) ?_
    try simp only[go_sem]
    refine zaD (fun hc82=> ?_) (fun hc83=> ?_)
    ·rw[if_pos (show(!(bif (decide (0<(a0.attrs.l.length:Int)))then true else(!(a0.shadow==0))))=true by(rw[hc82];rfl))]at h
     try simp only[go_sem,hc82]
     cases h
     exact⟨rfl,Up.of (N:=90) (N':=90) [] rfl rfl (by decide) (.set (.d _) (.set (.d _) (.set (.ptr' rfl) zan.none))) (.set zaC.refl_d zap.at)⟩
    rw[if_neg (ffn hc83)]at h
    try simp only[go_sem,hc83]
    cases h
    exact⟨rfl,Up.of (N:=90) (N':=90) [] rfl rfl (by decide) (.set (.d _) (.set (.d _) (.set (.ptr' rfl) zan.none))) (.set zaC.refl_d zap.at)⟩
   rw[if_neg (ffn hc81)]at h
   try simp only[go_sem,hc81]
   refine zaa (v:= .ptr 0 0 15) (fun hb94=>by simp only[go_sem,hc10,hc79,hc81,hb94]) ?_
   try simp only[go_sem]
   refine zaa (v:= .d (.bool a0.hTML)) (fun hb93=>by simp only[go_sem,hc10,hc79,hc81,hb93]) ?_
   try simp only[go_sem]
   cases h
   exact⟨rfl,Up.of (N:=90) (N':=90) [] rfl rfl (by decide) (.set (.d _) (.set (.d _) (.set (.ptr' rfl) zan.none))) (.set zaC.refl_d zap.at)⟩
  try simp only[go_sem]
  refine zal (fun hc97=> ?_) (fun hc98=> ?_)
  ·rw[if_pos hc97]at h
   try simp only[go_sem]
   cases h
   rfl
  rw[if_neg (ff hc98)]at h
  try simp only[go_sem]
  obtain⟨r113,hl114,h⟩:=bs h
  refine WBr.cut (n:=(0,[])) ((fun r=>match r with|(.inl r)=>(.normal,⟨((Regs.none.set 1 (.ptr 0 0 0)).set 3 (.d (.int .u8 a0.kind))),((Heap.at 92).set 0 (some (.els 16 [.d (zah a0)] 0)))⟩)|(.inr r)=>(.ret,⟨(Regs.none.set 2 (.d (.bool false))),(Heap.at 92)⟩):((Unit)⊕(Unit))→Ex×St) r113).1 ((fun r=>match r with|(.inl r)=>(.normal,⟨((Regs.none.set 1 (.ptr 0 0 0)).set 3 (.d (.int .u8 a0.kind))),((Heap.at 92).set 0 (some (.els 16 [.d (zah a0)] 0)))⟩)|(.inr r)=>(.ret,⟨(Regs.none.set 2 (.d (.bool false))),(Heap.at 92)⟩):((Unit)⊕(Unit))→Ex×St) r113).2 ?_ (by(repeat(refine Clo.seq zbE rfl ?_));(exact Clo.ret)) ?_
  ·replace h:=hl114
   refine zal (fun hc99=> ?_) (fun hc100=> ?_)
   ·rw[if_pos hc99]at h
    try simp only[go_sem]
    refine zaa (v:= .ptr 0 0 13) (fun hb105=>by simp only[go_sem,hc10,hc79,hc98,hc99,hb105]) ?_
    try simp only[go_sem]
    refine zaa (v:= .d (.int .u8 a0.mode)) (fun hb104=>by simp only[go_sem,hc10,hc79,hc98,hc99,hb104]) ?_
    try simp only[go_sem]
    refine zaa (v:= .d (.bool (!(a0.mode==2)))) (fun hb103=>by simp only[go_sem,hc10,hc79,hc98,hc99,hb103]) ?_
    try simp only[go_sem]
    refine zal (fun hc101=> ?_) (fun hc102=> ?_)
    ·rw[if_pos hc101]at h
     try simp only[go_sem]
     cases h
     exact⟨rfl,Up.of (N:=92) (N':=101) [] rfl rfl (by decide) (.set (.d _) zan.none) zap.at⟩
    rw[if_neg (ff hc102)]at h
    try simp only[go_sem]
    cases h
    exact⟨rfl,Up.of (N:=92) (N':=100) [] rfl rfl (by decide) (.set (.d _) (.set (.ptr' rfl) zan.none)) (.set zaC.refl_d zap.at)⟩
   rw[if_neg (ff hc100)]at h
   try simp only[go_sem]
   refine zaa (v:= .ptr 0 0 14) (fun hb112=>by simp only[go_sem,hc10,hc79,hc98,hc100,hb112]) ?_
   try simp only[go_sem]
   refine zaa (v:= .d (.bool a0.manual)) (fun hb111=>by simp only[go_sem,hc10,hc79,hc98,hc100,hb111]) ?_
   try simp only[go_sem]
   refine zaa (v:= .ptr 0 0 11) (fun hb110=>by simp only[go_sem,hc10,hc79,hc98,hc100,hb110]) ?_
   try simp only[go_sem]
   refine zaa (v:= .d (.int .i64 a0.host)) (fun hb109=>by simp only[go_sem,hc10,hc79,hc98,hc100,hb109]) ?_
   try simp only[go_sem]
   refine zaa (v:= .d (.bool (!(a0.host==0)))) (fun hb108=>by simp only[go_sem,hc10,hc79,hc98,hc100,hb108]) ?_
   try simp only[go_sem]
   refine zal (fun hc106=> ?_) (fun hc107=> ?_)
   ·rw[if_pos hc106]at h
    try simp only[go_sem]
    cases h
    exact⟨rfl,Up.of (N:=92) (N':=105) [] rfl rfl (by decide) (.set (.d _) zan.none) zap.at⟩
   rw[if_neg (ff hc107)]at h
   try simp only[go_sem]
   cases h
   exact⟨rfl,Up.of (N:=92) (N':=104) [] rfl rfl (by decide) (.set (.d _) (.set (.ptr' rfl) zan.none)) (.set zaC.refl_d zap.at)⟩
  rcases r113 with(q115|q129)
  ·dsimp only at h⊢
   try simp only[go_sem]
   refine zaa (v:= .d (.int .u8 a0.kind)) (fun hb128=>by simp only[go_sem,hc10,hc79,hc98,hb128]) ?_
   try simp only[go_sem]
   refine zaa (v:= .d (.bool (!(a0.kind==9)))) (fun hb127=>by simp only[go_sem,hc10,hc79,hc98,hb127]) ?_
   try simp only[go_sem]
   refine zaa (v:= .d (.bool (!(a0.kind==9)))) (fun hb126=>by simp only[go_sem,hc10,hc79,hc98,hb126]) ?_
   try simp only[go_sem]
   refine zaa (v:= .d (.int .u8 a0.kind)) (fun hb123=>by((obtain⟨hb124,hb125⟩:=zaw hb123));simp only[go_sem,hc10,hc79,hc98,hb125,hb124]) ?_
   try simp only[go_sem]
   refine zaa (v:= .d (.bool (!(a0.kind==11)))) (fun hb120=>by((obtain⟨hb121,hb122⟩:=zaw hb120));simp only[go_sem,hc10,hc79,hc98,hb122,hb121]) ?_
   try simp only[go_sem]
   refine zaD (fun hc116=> ?_) (fun hc117=> ?_)
   ·rw[if_pos (show(!(a0.parent==0))=true by(rw[hc116];rfl))]at h
    try simp only[go_sem,hc116]
    refine zaa (v:= .d (.int .u8 a0.kind)) (fun hb119=>by simp only[go_sem,hc10,hc79,hc98,hc116,hb119]) ?_
    try simp only[go_sem]
    refine zaa (v:= .d (.bool (!(a0.kind==12)))) (fun hb118=>by simp only[go_sem,hc10,hc79,hc98,hc116,hb118]) ?_
    try simp only[go_sem]
    cases h
    rfl
   rw[if_neg (ffn hc117)]at h
   try simp only[go_sem,hc117]
   cases h
   rfl
  dsimp only at h⊢
  try simp only[go_sem]
  cases h
  rfl
 dsimp only at h⊢
 try simp only[go_sem]
 cases h
 rfl
def zeF (a0:Forest) (a1:Int) (y1:Node) (x0:Int):St:=⟨((((((Regs.none.set 1 (.d (.int .i64 a1))).set 2 (.ptr 0 0 0)).set 5 (.ptr 8 0 0)).set 23 (.d (.list y1.kids.n (y1.kids.l.map (D.int .i64))))).set 24 (.d (.int .i64 (y1.kids.l.length:Int)))).set 25 (.d (.int .i64 x0))),(((Heap.at 14).set 0 (some (.els 1 [.d (zai a0)] 0))).set 8 (some (.els 16 [.d (zah y1)] 0)))⟩
def zhP (a0:Forest) (a1:Int) (y1:Node):((Unit)⊕(Unit))→Ex×St:=fun r=>match r with
 |(.inl r)=>(.exit 0,⟨(((Regs.none.set 1 (.d (.int .i64 a1))).set 2 (.ptr 0 0 0)).set 5 (.ptr 8 0 0)),(((Heap.at 14).set 0 (some (.els 1 [.d (zai a0)] 0))).set 8 (some (.els 16 [.d (zah y1)] 0)))⟩)
 |(.inr r)=>(.ret,⟨(Regs.none.set 4 (.d (.bool false))),(Heap.at 14)⟩)
noncomputable def zdb (a0:Forest) (a1:Int) (y1:Node) (x0:Int):Option ((Int)⊕((Unit)⊕(Unit))):=
 if(decide (x0<(y1.kids.l.length:Int)))=true then
  (rd y1.kids.l x0).bind fun y5=>
  (dec (eT2 zah D.bool) (pc prog 43 [zai a0,.int .i64 y5])).bind fun r7=>
  if(!(bif (!r7.2)then true else(!(r7.1.parent==a1))))=true then
   (dec (D.int .i64) (pc prog 196 [.list y1.kids.n (y1.kids.l.map (D.int .i64)),.int .i64 y5])).bind fun r11=>
   if(bif (!(r11==1))then true else(!(r7.1.doc==y1.doc)))=true then
    some (.inr (.inr ()))
   else
    some (.inl (IntKind.wrap .i64 (x0+1)))
  else
   some (.inr (.inr ()))
 else
  some (.inr (.inl ()))
theorem zvu (a0:Forest) (a1:Int) (y1:Node) (x0:Int) (o:(Int)⊕((Unit)⊕(Unit))) (h:zdb a0 a1 y1 x0=some o):Wp prog zpe (zeF a0 a1 y1 x0) (zcr (0,[]) (zeF a0 a1 y1) (zhP a0 a1 y1) o):=by
 unfold zdb at h
 delta zpe zeF
 try simp only[go_sem]
 refine zal (fun hc3=> ?_) (fun hc4=> ?_)
 ·rw[if_pos hc3]at h
  try simp only[go_sem]
  obtain⟨y5,hy6,h⟩:=bs h
  try simp only[go_sem,zab hy6,zae hy6,zac (D.int .i64) hy6]
  obtain⟨r7,hr8,h⟩:=bs h
  replace hr8:=zao hr8
  refine zas hr8 ?_
  try simp only[go_sem,zab hy6,zae hy6,zac (D.int .i64) hy6]
  refine zaa (v:= .ptr 24 0 8) (fun hb26=>by simp only[go_sem,zab hy6,zae hy6,zac (D.int .i64) hy6,hc3,hb26]) ?_
  try simp only[go_sem,zab hy6,zae hy6,zac (D.int .i64) hy6]
  refine zaa (v:= .d (.int .i64 r7.1.parent)) (fun hb25=>by simp only[go_sem,zab hy6,zae hy6,zac (D.int .i64) hy6,hc3,hb25]) ?_
  try simp only[go_sem,zab hy6,zae hy6,zac (D.int .i64) hy6]
  refine zaa (v:= .d (.int .i64 a1)) (fun hb24=>by simp only[go_sem,zab hy6,zae hy6,zac (D.int .i64) hy6,hc3,hb24]) ?_
  try simp only[go_sem,zab hy6,zae hy6,zac (D.int .i64) hy6]
  refine zaa (v:= .d (.bool (!(r7.1.parent==a1)))) (fun hb23=>by simp only[go_sem,zab hy6,zae hy6,zac (D.int .i64) hy6,hc3,hb23]) ?_
  try simp only[go_sem,zab hy6,zae hy6,zac (D.int .i64) hy6]
  refine zaa (v:= .ptr 8 0 9) (fun hb22=>by simp only[go_sem,zab hy6,zae hy6,zac (D.int .i64) hy6,hc3,hb22]) ?_
  try simp only[go_sem,zab hy6,zae hy6,zac (D.int .i64) hy6]
  refine zaa (v:= .d (.list y1.kids.n (y1.kids.l.map (D.int .i64)))) (fun hb21=>by simp only[go_sem,zab hy6,zae hy6,zac (D.int .i64) hy6,hc3,hb21]) ?_
  try simp only[go_sem,zab hy6,zae hy6,zac (D.int .i64) hy6]
  refine zaa (v:= .d (.int .i64 y5)) (fun hb20=>by simp only[go_sem,zab hy6,zae hy6,zac (D.int .i64) hy6,hc3,hb20]) ?_
  try simp only[go_sem,zab hy6,zae hy6,zac (D.int .i64) hy6]
  refine zaD (fun hc9=> ?_) (fun hc10=> ?_)
  ·rw[if_pos (show(!(bif (!r7.2)then true else(!(r7.1.parent==a1))))=true by(rw[hc9];rfl))]at h
   try simp only[go_sem,zab hy6,zae hy6,zac (D.int .i64) hy6,hc9]
   obtain⟨r11,hr12,h⟩:=bs h
   replace hr12:=zao hr12
   refine zas hr12 ?_
   try simp only[go_sem,zab hy6,zae hy6,zac (D.int .i64) hy6]
   refine zaa (v:= .ptr 24 0 10) (fun hb19=>by simp only[go_sem,zab hy6,zae hy6,zac (D.int .i64) hy6,hc3,hc9,hb19]) ?_
   try simp only[go_sem,zab hy6,zae hy6,zac (D.int .i64) hy6]
   refine zaa (v:= .d (.int .i64 r7.1.doc)) (fun hb18=>by simp only[go_sem,zab hy6,zae hy6,zac (D.int .i64) hy6,hc3,hc9,hb18]) ?_
   try simp only[go_sem,zab hy6,zae hy6,zac (D.int .i64) hy6]
   refine zaa (v:= .ptr 8 0 10) (fun hb17=>by simp only[go_sem,zab hy6,zae hy6,zac (D.int .i64) hy6,hc3,hc9,hb17]) ?_
   try simp only[go_sem,zab hy6,zae hy6,zac (D.int .i64) hy6]
   refine zaa (v:= .d (.int .i64 y1.doc)) (fun hb16=>by simp only[go_sem,zab hy6,zae hy6,zac (D.int .i64) hy6,hc3,hc9,hb16]) ?_
   try simp only[go_sem,zab hy6,zae hy6,zac (D.int .i64) hy6]
   refine zaa (v:= .d (.bool (!(r7.1.doc==y1.doc)))) (fun hb15=>by simp only[go_sem,zab hy6,zae hy6,zac (D.int .i64) hy6,hc3,hc9,hb15]) ?_
   try simp only[go_sem,zab hy6,zae hy6,zac (D.int .i64) hy6]
   refine zal (fun hc13=> ?_) (fun hc14=> ?_)
   ·rw[if_pos hc13]at h
    try simp only[go_sem,zab hy6,zae hy6,zac (D.int .i64) hy6]
    cases h
    exact⟨rfl,by simp,Up.of (N:=14) (N':=50) [] rfl rfl (by decide) (.set (.d _) zan.none) zap.at⟩
   rw[if_neg (ff hc14)]at h
   try simp only[go_sem,zab hy6,zae hy6,zac (D.int .i64) hy6]
   cases h
   exact⟨rfl,Up.of (N:=14) (N':=51) [] rfl rfl (by decide) (.set (.d _) (.set (.d _) (.set (.d _) (.set (.ptr' rfl) (.set (.ptr' rfl) (.set (.d _) zan.none)))))) (.set zaC.refl_d (.set zaC.refl_d zap.at))⟩
  rw[if_neg (ffn hc10)]at h
  try simp only[go_sem,zab hy6,zae hy6,zac (D.int .i64) hy6,hc10]
  cases h
  exact⟨rfl,by simp,Up.of (N:=14) (N':=50) [] rfl rfl (by decide) (.set (.d _) zan.none) zap.at⟩
 rw[if_neg (ff hc4)]at h
 try simp only[go_sem]
 cases h
 exact⟨rfl,by simp,Up.of (N:=14) (N':=15) [] rfl rfl (by decide) (.set (.ptr' rfl) (.set (.ptr' rfl) (.set (.d _) zan.none))) (.set zaC.refl_d (.set zaC.refl_d zap.at))⟩
noncomputable def zHR (a0:Forest) (a1:Int):Option (Bool):=
 (rd a0.nodes.l (IntKind.wrap .i64 (a1-1))).bind fun y1=>
 (zaR (zdb a0 a1 y1) 0).bind fun r27=>
 match r27 with
 |(.inl q29)=>
  (if(!(y1.parent==0))=true then
   (dec (eT2 zah D.bool) (pc prog 43 [zai a0,.int .i64 y1.parent])).bind fun r32=>
   (if r32.2=true then
    (dec (D.int .i64) (pc prog 196 [.list r32.1.kids.n (r32.1.kids.l.map (D.int .i64)),.int .i64 a1])).bind fun r36=>
    some (!(r36==1))
   else
    some true:Option ((Bool))).bind fun r38=>
   if r38=true then
    some (.inr ())
   else
    some (.inl ())
  else
   some (.inl ()):Option ((Unit)⊕(Unit))).bind fun r45=>
  match r45 with
  |(.inl q47)=>
   (dec (D.int .u8) (pc prog 197 [zai a0,.int .i64 y1.doc])).bind fun r48=>
   (if(r48==9)=true then
    some (bif (y1.kind==9)then(!(y1.doc==a1))else false)
   else
    some true:Option ((Bool))).bind fun r52=>
   if r52=true then
    some false
   else
    (if(!(y1.shadow==0))=true then
     (dec (eT2 zah D.bool) (pc prog 43 [zai a0,.int .i64 y1.shadow])).bind fun r58=>
     if(bif (bif (!r58.2)then true else(!(r58.1.kind==12)))then true else(!(r58.1.host==a1)))=true then
      some (.inr ())
     else
      some (.inl ())
    else
     some (.inl ()):Option ((Unit)⊕(Unit))).bind fun r69=>
    match r69 with
    |(.inl q71)=>
     if(y1.kind==12)=true then
      (dec (eT2 zah D.bool) (pc prog 43 [zai a0,.int .i64 y1.host])).bind fun r74=>
      if(bif (bif (bif (!r74.2)then true else(!(r74.1.kind==1)))then true else(!(r74.1.shadow==a1)))then true else(!(r74.1.doc==y1.doc)))=true then
       some false
      else
       (dec D.bool (pc prog 198 [zai a0,.int .u8 y1.kind,.list y1.kids.n (y1.kids.l.map (D.int .i64))])).bind fun r78=>
       some r78
     else
      (dec D.bool (pc prog 198 [zai a0,.int .u8 y1.kind,.list y1.kids.n (y1.kids.l.map (D.int .i64))])).bind fun r92=>
      some r92
    |(.inr q94)=>
     some false
  |(.inr q111)=>
   some false
 |(.inr q112)=>
  some false
theorem zHS (a0:Forest) (a1:Int) (r:Bool) (h:zHR a0 a1=some r):pc prog 164 [zai a0,.int .i64 a1]=some (D.bool r):=by
 unfold zHR at h
 refine zbc (fn:=zGw) rfl rfl ?_
 delta zGw
 try simp only[go_sem]
 obtain⟨y1,hy2,h⟩:=bs h
 try simp only[go_sem,zab hy2,zae hy2,zac zah hy2]
 obtain⟨r27,hl28,h⟩:=bs h
 refine Wp.loopR zbE (n:=(0,[])) (a:=zpe) rfl (zeF a0 a1 y1) (zhP a0 a1 y1) (zvu a0 a1 y1) hl28 ?_ (by(repeat(first|refine Clo.block ?_|refine Clo.seq zbE rfl ?_));(exact Clo.ret)) ?_
 ·show Up (0,[]) (zeF a0 a1 y1 0) _
  delta zeF
  exact Up.of (N:=14) (N':=14) [] rfl rfl (by decide) (.set (.d _) (.set (.d _) (.set (.d _) (.set (.ptr' rfl) (.set (.ptr' rfl) (.set (.d _) zan.none)))))) (.set zaC.refl_d (.set zaC.refl_d zap.at))
 rcases r27 with(q29|q112)
 ·dsimp only at h
  dsimp only[zhP]
  try simp only[go_sem,zab hy2,zae hy2,zac zah hy2]
  obtain⟨r45,hl46,h⟩:=bs h
  refine WBr.cut (n:=(0,[])) ((fun r=>match r with|(.inl r)=>(.normal,⟨(((Regs.none.set 1 (.d (.int .i64 a1))).set 2 (.ptr 0 0 0)).set 5 (.ptr 8 0 0)),(((Heap.at 17).set 0 (some (.els 1 [.d (zai a0)] 0))).set 8 (some (.els 16 [.d (zah y1)] 0)))⟩)|(.inr r)=>(.ret,⟨(Regs.none.set 4 (.d (.bool false))),(Heap.at 17)⟩):((Unit)⊕(Unit))→Ex×St) r45).1 ((fun r=>match r with|(.inl r)=>(.normal,⟨(((Regs.none.set 1 (.d (.int .i64 a1))).set 2 (.ptr 0 0 0)).set 5 (.ptr 8 0 0)),(((Heap.at 17).set 0 (some (.els 1 [.d (zai a0)] 0))).set 8 (some (.els 16 [.d (zah y1)] 0)))⟩)|(.inr r)=>(.ret,⟨(Regs.none.set 4 (.d (.bool false))),(Heap.at 17)⟩):((Unit)⊕(Unit))→Ex×St) r45).2 ?_ (by(repeat(refine Clo.seq zbE rfl ?_));(exact Clo.ret)) ?_
  ·replace h:=hl46
   refine zaM (fun hc30=> ?_) (fun hc31=> ?_)
   ·rw[if_pos (show(!(y1.parent==0))=true by(rw[hc30];rfl))]at h
    try simp only[go_sem,zab hy2,zae hy2,zac zah hy2]
    obtain⟨r32,hr33,h⟩:=bs h
    replace hr33:=zao hr33
    refine zas hr33 ?_
    try simp only[go_sem,zab hy2,zae hy2,zac zah hy2]
    refine zaa (v:= .ptr 24 0 9) (fun hb44=>by simp only[go_sem,zab hy2,zae hy2,zac zah hy2,hc30,hb44]) ?_
    try simp only[go_sem,zab hy2,zae hy2,zac zah hy2]
    refine zaa (v:= .d (.list r32.1.kids.n (r32.1.kids.l.map (D.int .i64)))) (fun hb43=>by simp only[go_sem,zab hy2,zae hy2,zac zah hy2,hc30,hb43]) ?_
    try simp only[go_sem,zab hy2,zae hy2,zac zah hy2]
    refine zaa (v:= .d (.int .i64 a1)) (fun hb42=>by simp only[go_sem,zab hy2,zae hy2,zac zah hy2,hc30,hb42]) ?_
    try simp only[go_sem,zab hy2,zae hy2,zac zah hy2]
    obtain⟨r38,hl39,h⟩:=bs h
    refine zbS.cut (n:=(0,[])) .normal ⟨((((Regs.none.set 1 (.d (.int .i64 a1))).set 2 (.ptr 0 0 0)).set 5 (.ptr 8 0 0)).set 76 (.d (.bool r38))),(((Heap.at 36).set 0 (some (.els 1 [.d (zai a0)] 0))).set 8 (some (.els 16 [.d (zah y1)] 0)))⟩ ?_ (by(repeat(refine Clo.seq zbE rfl ?_));(exact Clo.cpost (by decide))) ?_
    ·replace h:=hl39
     refine zaF (fun hc34=> ?_) (fun hc35=> ?_)
     ·rw[if_pos hc34]at h
      try simp only[go_sem,zab hy2,zae hy2,zac zah hy2,hc34]
      obtain⟨r36,hr37,h⟩:=bs h
      replace hr37:=zao hr37
      refine zas hr37 ?_
      try simp only[go_sem,zab hy2,zae hy2,zac zah hy2]
      cases h
      exact⟨rfl,Up.of (N:=36) (N':=36) [] rfl rfl (by decide) (.set (.d _) (.set (.ptr' rfl) (.set (.ptr' rfl) (.set (.d _) zan.none)))) (.set zaC.refl_d (.set zaC.refl_d zap.at))⟩
     rw[if_neg (ff hc35)]at h
     try simp only[go_sem,zab hy2,zae hy2,zac zah hy2,hc35]
     cases h
     exact⟨rfl,Up.of (N:=36) (N':=36) [] rfl rfl (by decide) (.set (.d _) (.set (.ptr' rfl) (.set (.ptr' rfl) (.set (.d _) zan.none)))) (.set zaC.refl_d (.set zaC.refl_d zap.at))⟩
    try simp only[go_sem,zab hy2,zae hy2,zac zah hy2]
    refine zal (fun hc40=> ?_) (fun hc41=> ?_)
    ·rw[if_pos hc40]at h
     try simp only[go_sem,zab hy2,zae hy2,zac zah hy2]
     cases h
     exact⟨rfl,Up.of (N:=17) (N':=37) [] rfl rfl (by decide) (.set (.d _) zan.none) zap.at⟩
    rw[if_neg (ff hc41)]at h
    try simp only[go_sem,zab hy2,zae hy2,zac zah hy2]
    cases h
    exact⟨rfl,Up.of (N:=17) (N':=36) [] rfl rfl (by decide) (.set (.ptr' rfl) (.set (.ptr' rfl) (.set (.d _) zan.none))) (.set zaC.refl_d (.set zaC.refl_d zap.at))⟩
   rw[if_neg (ffn hc31)]at h
   try simp only[go_sem,zab hy2,zae hy2,zac zah hy2]
   cases h
   exact⟨rfl,Up.of (N:=17) (N':=17) [] rfl rfl (by decide) (.set (.ptr' rfl) (.set (.ptr' rfl) (.set (.d _) zan.none))) (.set zaC.refl_d (.set zaC.refl_d zap.at))⟩
  rcases r45 with(q47|q111)
  ·dsimp only at h⊢
   try simp only[go_sem,zab hy2,zae hy2,zac zah hy2]
   obtain⟨r48,hr49,h⟩:=bs h
   replace hr49:=zao hr49
   refine zas hr49 ?_
   try simp only[go_sem,zab hy2,zae hy2,zac zah hy2]
   refine zaa (v:= .ptr 8 0 0) (fun hb110=>by simp only[go_sem,zab hy2,zae hy2,zac zah hy2,hb110]) ?_
   try simp only[go_sem,zab hy2,zae hy2,zac zah hy2]
   refine zaa (v:= .d (.int .u8 y1.kind)) (fun hb109=>by simp only[go_sem,zab hy2,zae hy2,zac zah hy2,hb109]) ?_
   try simp only[go_sem,zab hy2,zae hy2,zac zah hy2]
   refine zaa (v:= .d (.bool (y1.kind==9))) (fun hb108=>by simp only[go_sem,zab hy2,zae hy2,zac zah hy2,hb108]) ?_
   try simp only[go_sem,zab hy2,zae hy2,zac zah hy2]
   refine zaa (v:= .d (.bool (y1.kind==9))) (fun hb107=>by simp only[go_sem,zab hy2,zae hy2,zac zah hy2,hb107]) ?_
   try simp only[go_sem,zab hy2,zae hy2,zac zah hy2]
   refine zaa (v:= .ptr 8 0 10) (fun hb104=>by((obtain⟨hb105,hb106⟩:=zaw hb104));simp only[go_sem,zab hy2,zae hy2,zac zah hy2,hb106,hb105]) ?_
   try simp only[go_sem,zab hy2,zae hy2,zac zah hy2]
   refine zaa (v:= .d (.int .i64 y1.doc)) (fun hb101=>by((obtain⟨hb102,hb103⟩:=zaw hb101));simp only[go_sem,zab hy2,zae hy2,zac zah hy2,hb103,hb102]) ?_
   try simp only[go_sem,zab hy2,zae hy2,zac zah hy2]
   refine zaa (v:= .d (.int .i64 a1)) (fun hb98=>by((obtain⟨hb99,hb100⟩:=zaw hb98));simp only[go_sem,zab hy2,zae hy2,zac zah hy2,hb100,hb99]) ?_
   try simp only[go_sem,zab hy2,zae hy2,zac zah hy2]
   refine zaa (v:= .d (.bool (!(y1.doc==a1)))) (fun hb95=>by((obtain⟨hb96,hb97⟩:=zaw hb95));simp only[go_sem,zab hy2,zae hy2,zac zah hy2,hb97,hb96]) ?_
   try simp only[go_sem,zab hy2,zae hy2,zac zah hy2]
   obtain⟨r52,hl53,h⟩:=bs h
   refine zbS.cut (n:=(0,[])) .normal ⟨((((Regs.none.set 1 (.d (.int .i64 a1))).set 2 (.ptr 0 0 0)).set 5 (.ptr 8 0 0)).set 92 (.d (.bool r52))),(((Heap.at 33).set 0 (some (.els 1 [.d (zai a0)] 0))).set 8 (some (.els 16 [.d (zah y1)] 0)))⟩ ?_ (by(repeat(refine Clo.seq zbE rfl ?_));(exact Clo.ret)) ?_
   ·replace h:=hl53
    refine zaF (fun hc50=> ?_) (fun hc51=> ?_)
    ·rw[if_pos hc50]at h
     try simp only[go_sem,zab hy2,zae hy2,zac zah hy2,hc50]
     cases h
     exact⟨rfl,Up.of (N:=33) (N':=33) [] rfl rfl (by decide) (.set (.d _) (.set (.ptr' rfl) (.set (.ptr' rfl) (.set (.d _) zan.none)))) (.set zaC.refl_d (.set zaC.refl_d zap.at))⟩
    rw[if_neg (ff hc51)]at h
    try simp only[go_sem,zab hy2,zae hy2,zac zah hy2,hc51]
    cases h
    exact⟨rfl,Up.of (N:=33) (N':=33) [] rfl rfl (by decide) (.set (.d _) (.set (.ptr' rfl) (.set (.ptr' rfl) (.set (.d _) zan.none)))) (.set zaC.refl_d (.set zaC.refl_d zap.at))⟩
   try simp only[go_sem,zab hy2,zae hy2,zac zah hy2]
   refine zal (fun hc54=> ?_) (fun hc55=> ?_)
   ·rw[if_pos hc54]at h
    try simp only[go_sem,zab hy2,zae hy2,zac zah hy2]
    cases h
    rfl
   rw[if_neg (ff hc55)]at h
   try simp only[go_sem,zab hy2,zae hy2,zac zah hy2]
   obtain⟨r69,hl70,h⟩:=bs h
   refine WBr.cut (n:=(0,[])) ((fun r=>match r with|(.inl r)=>(.normal,⟨(((Regs.none.set 1 (.d (.int .i64 a1))).set 2 (.ptr 0 0 0)).set 5 (.ptr 8 0 0)),(((Heap.at 36).set 0 (some (.els 1 [.d (zai a0)] 0))).set 8 (some (.els 16 [.d (zah y1)] 0)))⟩)|(.inr r)=>(.ret,⟨(Regs.none.set 4 (.d (.bool false))),(Heap.at 36)⟩):((Unit)⊕(Unit))→Ex×St) r69).1 ((fun r=>match r with|(.inl r)=>(.normal,⟨(((Regs.none.set 1 (.d (.int .i64 a1))).set 2 (.ptr 0 0 0)).set 5 (.ptr 8 0 0)),(((Heap.at 36).set 0 (some (.els 1 [.d (zai a0)] 0))).set 8 (some (.els 16 [.d (zah y1)] 0)))⟩)|(.inr r)=>(.ret,⟨(Regs.none.set 4 (.d (.bool false))),(Heap.at 36)⟩):((Unit)⊕(Unit))→Ex×St) r69).2 ?_ (by(repeat(refine Clo.seq zbE rfl ?_));(exact Clo.ret)) ?_
   ·replace h:=hl70
    refine zaM (fun hc56=> ?_) (fun hc57=> ?_)
    ·rw[if_pos (show(!(y1.shadow==0))=true by(rw[hc56];rfl))]at h
     try simp only[go_sem,zab hy2,zae hy2,zac zah hy2]
     obtain⟨r58,hr59,h⟩:=bs h
     replace hr59:=zao hr59
     refine zas hr59 ?_
     try simp only[go_sem,zab hy2,zae hy2,zac zah hy2]
     refine zaa (v:= .ptr 43 0 0) (fun hb68=>by simp only[go_sem,zab hy2,zae hy2,zac zah hy2,hc55,hc56,hb68]) ?_
     try simp only[go_sem,zab hy2,zae hy2,zac zah hy2]
     refine zaa (v:= .d (.int .u8 r58.1.kind)) (fun hb67=>by simp only[go_sem,zab hy2,zae hy2,zac zah hy2,hc55,hc56,hb67]) ?_
     try simp only[go_sem,zab hy2,zae hy2,zac zah hy2]
     refine zaa (v:= .d (.bool (!(r58.1.kind==12)))) (fun hb66=>by simp only[go_sem,zab hy2,zae hy2,zac zah hy2,hc55,hc56,hb66]) ?_
     try simp only[go_sem,zab hy2,zae hy2,zac zah hy2]
     refine zaa (v:= .ptr 43 0 11) (fun hb65=>by simp only[go_sem,zab hy2,zae hy2,zac zah hy2,hc55,hc56,hb65]) ?_
     try simp only[go_sem,zab hy2,zae hy2,zac zah hy2]
     refine zaa (v:= .d (.int .i64 r58.1.host)) (fun hb64=>by simp only[go_sem,zab hy2,zae hy2,zac zah hy2,hc55,hc56,hb64]) ?_
     try simp only[go_sem,zab hy2,zae hy2,zac zah hy2]
     refine zaa (v:= .d (.int .i64 a1)) (fun hb63=>by simp only[go_sem,zab hy2,zae hy2,zac zah hy2,hc55,hc56,hb63]) ?_
     try simp only[go_sem,zab hy2,zae hy2,zac zah hy2]
     refine zaa (v:= .d (.bool (!(r58.1.host==a1)))) (fun hb62=>by simp only[go_sem,zab hy2,zae hy2,zac zah hy2,hc55,hc56,hb62]) ?_
     try simp only[go_sem,zab hy2,zae hy2,zac zah hy2]
     refine zal (fun hc60=> ?_) (fun hc61=> ?_)
     ·rw[if_pos hc60]at h
      try simp only[go_sem,zab hy2,zae hy2,zac zah hy2]
      cases h
      exact⟨rfl,Up.of (N:=36) (N':=60) [] rfl rfl (by decide) (.set (.d _) zan.none) zap.at⟩
     rw[if_neg (ff hc61)]at h
     try simp only[go_sem,zab hy2,zae hy2,zac zah hy2]
     cases h
     exact⟨rfl,Up.of (N:=36) (N':=59) [] rfl rfl (by decide) (.set (.ptr' rfl) (.set (.ptr' rfl) (.set (.d _) zan.none))) (.set zaC.refl_d (.set zaC.refl_d zap.at))⟩
    rw[if_neg (ffn hc57)]at h
    try simp only[go_sem,zab hy2,zae hy2,zac zah hy2]
    cases h
    exact⟨rfl,Up.of (N:=36) (N':=36) [] rfl rfl (by decide) (.set (.ptr' rfl) (.set (.ptr' rfl) (.set (.d _) zan.none))) (.set zaC.refl_d (.set zaC.refl_d zap.at))⟩
   rcases r69 with(q71|q94)
   ·dsimp only at h⊢
    try simp only[go_sem,zab hy2,zae hy2,zac zah hy2]
    refine zal (fun hc72=> ?_) (fun hc73=> ?_)
    ·rw[if_pos hc72]at h
     try simp only[go_sem,zab hy2,zae hy2,zac zah hy2]
     obtain⟨r74,hr75,h⟩:=bs h
     replace hr75:=zao hr75
     refine zas hr75 ?_
     try simp only[go_sem,zab hy2,zae hy2,zac zah hy2]
     refine zaa (v:= .ptr 46 0 0) (fun hb91=>by simp only[go_sem,zab hy2,zae hy2,zac zah hy2,hc55,hc72,hb91]) ?_
     try simp only[go_sem,zab hy2,zae hy2,zac zah hy2]
     refine zaa (v:= .d (.int .u8 r74.1.kind)) (fun hb90=>by simp only[go_sem,zab hy2,zae hy2,zac zah hy2,hc55,hc72,hb90]) ?_
     try simp only[go_sem,zab hy2,zae hy2,zac zah hy2]
     refine zaa (v:= .d (.bool (!(r74.1.kind==1)))) (fun hb89=>by simp only[go_sem,zab hy2,zae hy2,zac zah hy2,hc55,hc72,hb89]) ?_
     try simp only[go_sem,zab hy2,zae hy2,zac zah hy2]
     refine zaa (v:= .ptr 46 0 12) (fun hb88=>by simp only[go_sem,zab hy2,zae hy2,zac zah hy2,hc55,hc72,hb88]) ?_
     try simp only[go_sem,zab hy2,zae hy2,zac zah hy2]
     refine zaa (v:= .d (.int .i64 r74.1.shadow)) (fun hb87=>by simp only[go_sem,zab hy2,zae hy2,zac zah hy2,hc55,hc72,hb87]) ?_
     try simp only[go_sem,zab hy2,zae hy2,zac zah hy2]
     refine zaa (v:= .d (.int .i64 a1)) (fun hb86=>by simp only[go_sem,zab hy2,zae hy2,zac zah hy2,hc55,hc72,hb86]) ?_
     try simp only[go_sem,zab hy2,zae hy2,zac zah hy2]
     refine zaa (v:= .d (.bool (!(r74.1.shadow==a1)))) (fun hb85=>by simp only[go_sem,zab hy2,zae hy2,zac zah hy2,hc55,hc72,hb85]) ?_
     try simp only[go_sem,zab hy2,zae hy2,zac zah hy2]
     refine zaa (v:= .ptr 46 0 10) (fun hb84=>by simp only[go_sem,zab hy2,zae hy2,zac zah hy2,hc55,hc72,hb84]) ?_
     try simp only[go_sem,zab hy2,zae hy2,zac zah hy2]
     refine zaa (v:= .d (.int .i64 r74.1.doc)) (fun hb83=>by simp only[go_sem,zab hy2,zae hy2,zac zah hy2,hc55,hc72,hb83]) ?_
     try simp only[go_sem,zab hy2,zae hy2,zac zah hy2]
     refine zaa (v:= .ptr 8 0 10) (fun hb82=>by simp only[go_sem,zab hy2,zae hy2,zac zah hy2,hc55,hc72,hb82]) ?_
     try simp only[go_sem,zab hy2,zae hy2,zac zah hy2]
     refine zaa (v:= .d (.int .i64 y1.doc)) (fun hb81=>by simp only[go_sem,zab hy2,zae hy2,zac zah hy2,hc55,hc72,hb81]) ?_
     try simp only[go_sem,zab hy2,zae hy2,zac zah hy2]
     refine zaa (v:= .d (.bool (!(r74.1.doc==y1.doc)))) (fun hb80=>by simp only[go_sem,zab hy2,zae hy2,zac zah hy2,hc55,hc72,hb80]) ?_
     try simp only[go_sem,zab hy2,zae hy2,zac zah hy2]
     refine zal (fun hc76=> ?_) (fun hc77=> ?_)
     ·rw[if_pos hc76]at h
      try simp only[go_sem,zab hy2,zae hy2,zac zah hy2]
      cases h
      rfl
     rw[if_neg (ff hc77)]at h
     try simp only[go_sem,zab hy2,zae hy2,zac zah hy2]
     obtain⟨r78,hr79,h⟩:=bs h
     replace hr79:=zao hr79
     refine zas hr79 ?_
     try simp only[go_sem,zab hy2,zae hy2,zac zah hy2]
     cases h
     rfl
    rw[if_neg (ff hc73)]at h
    try simp only[go_sem,zab hy2,zae hy2,zac zah hy2]
    obtain⟨r92,hr93,h⟩:=bs h
    replace hr93:=zao hr93
    refine zas hr93 ?_
    try simp only[go_sem,zab hy2,zae hy2,zac zah hy2]
    cases h
    rfl
   dsimp only at h⊢
   try simp only[go_sem,zab hy2,zae hy2,zac zah hy2]
   cases h
   rfl
  dsimp only at h⊢
  try simp only[go_sem,zab hy2,zae hy2,zac zah hy2]
  cases h
  rfl
 dsimp only at h
 dsimp only[zhP]
 try simp only[go_sem,zab hy2,zae hy2,zac zah hy2]
 cases h
 rfl
def zeG (a0:Forest) (x0:Int×Int):St:=⟨(((Regs.none.set 2 (.ptr 0 0 0)).set 5 (.d (.int .i64 x0.1))).set 6 (.d (.int .i64 x0.2))),((Heap.at 5).set 0 (some (.els 1 [.d (zai a0)] 0)))⟩
def zhQ (a0:Forest):((Unit)⊕(Unit))→Ex×St:=fun r=>match r with
 |(.inl r)=>(.exit 0,⟨Regs.none,(Heap.at 5)⟩)
 |(.inr r)=>(.ret,⟨(Regs.none.set 4 (.d (.bool false))),(Heap.at 5)⟩)
noncomputable def zbY (a0:Forest) (x0:Int×Int):Option ((Int×Int)⊕((Unit)⊕(Unit))):=
 if(decide (x0.2≤(a0.nodes.l.length:Int)))=true then
  (dec (eT2 zah D.bool) (pc prog 43 [zai a0,.int .i64 x0.1])).bind fun r3=>
  if(!r3.2)=true then
   some (.inr (.inr ()))
  else
   (dec (D.int .i64) (pc prog 199 [zah r3.1])).bind fun r7=>
   some (.inl (r7,(IntKind.wrap .i64 (x0.2+1))))
 else
  some (.inr (.inl ()))
theorem zvv (a0:Forest) (x0:Int×Int) (o:(Int×Int)⊕((Unit)⊕(Unit))) (h:zbY a0 x0=some o):Wp prog zpf (zeG a0 x0) (zcr (0,[]) (zeG a0) (zhQ a0) o):=by
 unfold zbY at h
 delta zpf zeG
 try simp only[go_sem]
 refine zal (fun hc1=> ?_) (fun hc2=> ?_)
 ·rw[if_pos hc1]at h
  try simp only[go_sem]
  obtain⟨r3,hr4,h⟩:=bs h
  replace hr4:=zao hr4
  refine zas hr4 ?_
  try simp only[go_sem]
  refine zaM (fun hc5=> ?_) (fun hc6=> ?_)
  ·rw[if_pos (show(!r3.2)=true by(rw[hc5];rfl))]at h
   try simp only[go_sem]
   cases h
   exact⟨rfl,by simp,Up.of (N:=5) (N':=22) [] rfl rfl (by decide) (.set (.d _) zan.none) zap.at⟩
  rw[if_neg (ffn hc6)]at h
  try simp only[go_sem]
  obtain⟨r7,hr8,h⟩:=bs h
  replace hr8:=zao hr8
  refine zas hr8 ?_
  try simp only[go_sem]
  cases h
  exact⟨rfl,Up.of (N:=5) (N':=27) [] rfl rfl (by decide) (.set (.d _) (.set (.d _) (.set (.ptr' rfl) zan.none))) (.set zaC.refl_d zap.at)⟩
 rw[if_neg (ff hc2)]at h
 try simp only[go_sem]
 cases h
 exact⟨rfl,by simp,Up.of (N:=5) (N':=10) [] rfl rfl (by decide) zan.none zap.at⟩
noncomputable def zHT (a0:Forest) (a1:Int):Option (Bool):=
 (zaR (zbY a0) (a1,0)).bind fun r9=>
 match r9 with
 |(.inl q11)=>
  some true
 |(.inr q12)=>
  some false
theorem zHU (a0:Forest) (a1:Int) (r:Bool) (h:zHT a0 a1=some r):pc prog 165 [zai a0,.int .i64 a1]=some (D.bool r):=by
 unfold zHT at h
 refine zbc (fn:=zGx) rfl rfl ?_
 delta zGx
 try simp only[go_sem]
 obtain⟨r9,hl10,h⟩:=bs h
 refine Wp.loopR zbE (n:=(0,[])) (a:=zpf) rfl (zeG a0) (zhQ a0) (zvv a0) hl10 ?_ (by(repeat(first|refine Clo.block ?_|refine Clo.seq zbE rfl ?_));(exact Clo.ret)) ?_
 ·show Up (0,[]) (zeG a0 (a1,0)) _
  delta zeG
  exact Up.of (N:=5) (N':=5) [] rfl rfl (by decide) (.set (.d _) (.set (.d _) (.set (.ptr' rfl) zan.none))) (.set zaC.refl_d zap.at)
 rcases r9 with(q11|q12)
 ·dsimp only at h
  dsimp only[zhQ]
  try simp only[go_sem]
  cases h
  rfl
 dsimp only at h
 dsimp only[zhQ]
 try simp only[go_sem]
 cases h
 rfl
noncomputable def zHV (a0:Forest) (a1:Int):Option (Int):=
 (dec zah (pc prog 92 [zai a0,.int .i64 a1])).bind fun r1=>
 if(r1.kind==12)=true then
  some r1.host
 else
  some r1.parent
theorem zHW (a0:Forest) (a1:Int) (r:Int) (h:zHV a0 a1=some r):pc prog 174 [zai a0,.int .i64 a1]=some ((D.int .i64) r):=by
 unfold zHV at h
 refine zbc (fn:=zGz) rfl rfl ?_
 delta zGz
 try simp only[go_sem]
 obtain⟨r1,hr2,h⟩:=bs h
 replace hr2:=zao hr2
 refine zas hr2 ?_
 try simp only[go_sem]
 refine zal (fun hc3=> ?_) (fun hc4=> ?_)
 ·rw[if_pos hc3]at h
  try simp only[go_sem]
  cases h
  rfl
 rw[if_neg (ff hc4)]at h
 try simp only[go_sem]
 cases h
 rfl
noncomputable def zHX (a0:Node):Option (Int):=
 if(a0.kind==12)=true then
  some a0.host
 else
  some a0.parent
theorem zHY (a0:Node) (r:Int) (h:zHX a0=some r):pc prog 182 [zah a0]=some ((D.int .i64) r):=by
 unfold zHX at h
 refine zbc (fn:=zGB) rfl rfl ?_
 delta zGB
 try simp only[go_sem]
 refine zal (fun hc1=> ?_) (fun hc2=> ?_)
 ·rw[if_pos hc1]at h
  try simp only[go_sem]
  cases h
  rfl
 rw[if_neg (ff hc2)]at h
 try simp only[go_sem]
 cases h
 rfl
noncomputable def zHZ (a0:Int):Option (forest_trait):=
 if(a0==1)=true then
  some (⟨true,false,true,true,true,false⟩:forest_trait)
 else
  (if(a0==3)=true then
   some (a0==3)
  else
   (if(a0==4)=true then
    some (a0==4)
   else
    some (a0==8):Option ((Bool))).bind fun r7=>
   some r7:Option ((Bool))).bind fun r9=>
  if r9=true then
   some (⟨true,true,false,true,false,false⟩:forest_trait)
  else
   if(a0==7)=true then
    some (⟨true,true,false,true,false,true⟩:forest_trait)
   else
    if(a0==10)=true then
     some (⟨true,false,false,true,false,true⟩:forest_trait)
    else
     if(a0==9)=true then
      some (⟨true,false,true,false,false,false⟩:forest_trait)
     else
      if(a0==11)=true then
       some (⟨true,false,true,false,false,false⟩:forest_trait)
      else
       if(a0==12)=true then
        some (⟨true,false,true,false,false,false⟩:forest_trait)
       else
        some (⟨false,false,false,false,false,false⟩:forest_trait)
theorem zIa (a0:Int) (r:forest_trait) (h:zHZ a0=some r):pc prog 183 [.int .u8 a0]=some (zaB r):=by
 unfold zHZ at h
 refine zbc (fn:=zGC) rfl rfl ?_
 delta zGC
 try simp only[go_sem]
 refine zal (fun hc1=> ?_) (fun hc2=> ?_)
 ·rw[if_pos hc1]at h
  try simp only[go_sem]
  cases h
  rfl
 rw[if_neg (ff hc2)]at h
 try simp only[go_sem]
 obtain⟨r9,hl10,h⟩:=bs h
 refine WBr.cut (n:=(0,[])) .normal ⟨(((Regs.none.set 2 (.ptr 0 0 0)).set 3 (.d (.int .u8 a0))).set 7 (.d (.bool r9))),((Heap.at 6).set 0 (some (.els 6 [.d (.agg [.bool false,.bool false,.bool false,.bool false,.bool false,.bool false])] 0)))⟩ ?_ (by(repeat(first|refine Clo.block ?_|refine Clo.seq zbE rfl ?_));(exact Clo.ret)) ?_
 ·replace h:=hl10
  refine zal (fun hc3=> ?_) (fun hc4=> ?_)
  ·rw[if_pos hc3]at h
   try simp only[go_sem]
   cases h
   exact⟨rfl,Up.of (N:=6) (N':=6) [] rfl rfl (by decide) (.set (.d _) (.set (.d _) (.set (.ptr' rfl) zan.none))) (.set zaC.refl_d zap.at)⟩
  rw[if_neg (ff hc4)]at h
  try simp only[go_sem]
  obtain⟨r7,hl8,h⟩:=bs h
  refine WBr.cut (n:=(0,[])) .normal ⟨(((Regs.none.set 2 (.ptr 0 0 0)).set 3 (.d (.int .u8 a0))).set 7 (.d (.bool r7))),((Heap.at 8).set 0 (some (.els 6 [.d (.agg [.bool false,.bool false,.bool false,.bool false,.bool false,.bool false])] 0)))⟩ ?_ (by(repeat(first|refine Clo.block ?_|refine Clo.seq zbE rfl ?_));(exact Clo.cpost (by decide))) ?_
  ·replace h:=hl8
   refine zal (fun hc5=> ?_) (fun hc6=> ?_)
   ·rw[if_pos hc5]at h
    try simp only[go_sem]
    cases h
    exact⟨rfl,Up.of (N:=8) (N':=8) [] rfl rfl (by decide) (.set (.d _) (.set (.d _) (.set (.ptr' rfl) zan.none))) (.set zaC.refl_d zap.at)⟩
   rw[if_neg (ff hc6)]at h
   try simp only[go_sem]
   cases h
   exact⟨rfl,Up.of (N:=8) (N':=10) [] rfl rfl (by decide) (.set (.d _) (.set (.d _) (.set (.ptr' rfl) zan.none))) (.set zaC.refl_d zap.at)⟩
  skip
  cases h
  exact⟨rfl,Up.of (N:=6) (N':=8) [] rfl rfl (by decide) (.set (.d _) (.set (.d _) (.set (.ptr' rfl) zan.none))) (.set zaC.refl_d zap.at)⟩
 try simp only[go_sem]
 refine zal (fun hc11=> ?_) (fun hc12=> ?_)
 ·rw[if_pos hc11]at h
  try simp only[go_sem]
  cases h
  rfl
 rw[if_neg (ff hc12)]at h
 try simp only[go_sem]
 refine zal (fun hc13=> ?_) (fun hc14=> ?_)
 ·rw[if_pos hc13]at h
  try simp only[go_sem]
  cases h
  rfl
 rw[if_neg (ff hc14)]at h
 try simp only[go_sem]
 refine zal (fun hc15=> ?_) (fun hc16=> ?_)
 ·rw[if_pos hc15]at h
  try simp only[go_sem]
  cases h
  rfl
 rw[if_neg (ff hc16)]at h
 try simp only[go_sem]
 refine zal (fun hc17=> ?_) (fun hc18=> ?_)
 ·rw[if_pos hc17]at h
  try simp only[go_sem]
  try simp only[go_sem,hc2,hc12,hc14,hc16,hc17]
  cases h
  rfl
 rw[if_neg (ff hc18)]at h
 try simp only[go_sem]
 refine zal (fun hc19=> ?_) (fun hc20=> ?_)
 ·rw[if_pos hc19]at h
  try simp only[go_sem]
  try simp only[go_sem,hc2,hc12,hc14,hc16,hc18,hc19]
  cases h
  rfl
 rw[if_neg (ff hc20)]at h
 try simp only[go_sem]
 refine zal (fun hc21=> ?_) (fun hc22=> ?_)
 ·rw[if_pos hc21]at h
  try simp only[go_sem]
  cases h
  rfl
 rw[if_neg (ff hc22)]at h
 try simp only[go_sem]
 cases h
 rfl
noncomputable def zIb (a0:Node) (a1:forest_trait):Option (Bool):=
 if a1.full=true then
  (dec D.bool (pc prog 203 [zbL a0.name])).bind fun r3=>
  some r3
 else
  if a1.local_=true then
   if(!(a0.name.local_==[]))=true then
    (dec D.bool (pc prog 186 [.list false (([a0.name.local_]).map D.str)])).bind fun r9=>
    if r9=true then
     some (decide (a0.name=(⟨[],[],a0.name.local_⟩:Name)))
    else
     some false
   else
    some false
  else
   some (decide (a0.name=(⟨[],[],[]⟩:Name)))
theorem zIc (a0:Node) (a1:forest_trait) (r:Bool) (h:zIb a0 a1=some r):pc prog 184 [zah a0,zaB a1]=some (D.bool r):=by
 unfold zIb at h
 refine zbc (fn:=zGD) rfl rfl ?_
 delta zGD
 try simp only[go_sem]
 refine zal (fun hc1=> ?_) (fun hc2=> ?_)
 ·rw[if_pos hc1]at h
  try simp only[go_sem]
  obtain⟨r3,hr4,h⟩:=bs h
  replace hr4:=zao hr4
  refine zas hr4 ?_
  try simp only[go_sem]
  cases h
  rfl
 rw[if_neg (ff hc2)]at h
 try simp only[go_sem]
 refine zal (fun hc5=> ?_) (fun hc6=> ?_)
 ·rw[if_pos hc5]at h
  try simp only[go_sem]
  refine zaa (v:= .ptr 0 0 1) (fun hb20=>by simp only[go_sem,hc2,hc5,hb20]) ?_
  try simp only[go_sem]
  refine zaa (v:= .ptr 0 0 3) (fun hb19=>by simp only[go_sem,hc2,hc5,hb19]) ?_
  try simp only[go_sem]
  refine zaa (v:= .d (.str a0.name.local_)) (fun hb18=>by simp only[go_sem,hc2,hc5,hb18]) ?_
  try simp only[go_sem]
  refine zaD (fun hc7=> ?_) (fun hc8=> ?_)
  ·rw[if_pos (show(!(a0.name.local_==[]))=true by(rw[hc7];rfl))]at h
   try simp only[go_sem,hc7]
   obtain⟨r9,hr10,h⟩:=bs h
   replace hr10:=zao hr10
   refine zas hr10 ?_
   try simp only[go_sem]
   refine zaa (v:= .ptr 0 0 1) (fun hb17=>by simp only[go_sem,hc2,hc5,hc7,hb17]) ?_
   try simp only[go_sem]
   refine zaa (v:= .d (zbL a0.name)) (fun hb16=>by simp only[go_sem,hc2,hc5,hc7,hb16]) ?_
   try simp only[go_sem]
   refine zaa (v:= .ptr 0 0 1) (fun hb15=>by simp only[go_sem,hc2,hc5,hc7,hb15]) ?_
   try simp only[go_sem]
   refine zaa (v:= .ptr 0 0 3) (fun hb14=>by simp only[go_sem,hc2,hc5,hc7,hb14]) ?_
   try simp only[go_sem]
   refine zaa (v:= .d (.str a0.name.local_)) (fun hb13=>by simp only[go_sem,hc2,hc5,hc7,hb13]) ?_
   try simp only[go_sem]
   refine zaF (fun hc11=> ?_) (fun hc12=> ?_)
   ·rw[if_pos hc11]at h
    try simp only[go_sem,hc11]
    cases h
    rfl
   rw[if_neg (ff hc12)]at h
   try simp only[go_sem,hc12]
   cases h
   rfl
  rw[if_neg (ffn hc8)]at h
  try simp only[go_sem,hc8]
  cases h
  rfl
 rw[if_neg (ff hc6)]at h
 try simp only[go_sem]
 cases h
 rfl
def zeH (a0:Sl (Attr)) (x0:List (forest_key×Int)×Int):St:=⟨((((Regs.none.set 3 (.map 4)).set 11 (.d (.list a0.n (a0.l.map zaH)))).set 12 (.d (.int .i64 (a0.l.length:Int)))).set 13 (.d (.int .i64 x0.2))),((Heap.at 9).set 4 (some (.map (ents zag (fun z=>V.d ((D.int .i64) z)) x0.1 0) x0.1.length)))⟩
def zhR (a0:Sl (Attr)):((Unit)⊕(Unit))→Ex×St:=fun r=>match r with
 |(.inl r)=>(.exit 0,⟨Regs.none,(Heap.at 9)⟩)
 |(.inr r)=>(.ret,⟨(Regs.none.set 2 (.d (.bool false))),(Heap.at 9)⟩)
noncomputable def zdc (a0:Sl (Attr)) (x0:List (forest_key×Int)×Int):Option ((List (forest_key×Int)×Int)⊕((Unit)⊕(Unit))):=
 if(decide (x0.2<(a0.l.length:Int)))=true then
  (rd a0.l x0.2).bind fun y5=>
  (dec zag (pc prog 204 [zbL y5.name])).bind fun r7=>
  (dec D.bool (pc prog 203 [zbL y5.name])).bind fun r9=>
  if(!(bif (!r9)then true else(decide (4096<(y5.value.length:Int)))))=true then
   if(decide (0<(ziI r7 x0.1 (0))))=true then
    some (.inr (.inr ()))
   else
    some (.inl ((zhn r7 (IntKind.wrap .i64 ((ziI r7 x0.1 (0))+1)) x0.1),(IntKind.wrap .i64 (x0.2+1))))
  else
   some (.inr (.inr ()))
 else
  some (.inr (.inl ()))
theorem zvw (a0:Sl (Attr)) (x0:List (forest_key×Int)×Int) (o:(List (forest_key×Int)×Int)⊕((Unit)⊕(Unit))) (h:zdc a0 x0=some o):Wp prog zpi (zeH a0 x0) (zcr (0,[]) (zeH a0) (zhR a0) o):=by
 unfold zdc at h
 delta zpi zeH
 try simp only[go_sem]
 refine zal (fun hc3=> ?_) (fun hc4=> ?_)
 ·rw[if_pos hc3]at h
  try simp only[go_sem,zax (e:=zag) (ev:=(D.int .i64)) zaf,zay (e:=zag) (ev:=(D.int .i64)) zaf,zau (e:=zag) (ev:=(D.int .i64)) zaf,zaz (e:=zag) (ev:=(D.int .i64)) zaf,zaA (e:=zag) (ev:=(D.int .i64))]
  obtain⟨y5,hy6,h⟩:=bs h
  try simp only[go_sem,zax (e:=zag) (ev:=(D.int .i64)) zaf,zay (e:=zag) (ev:=(D.int .i64)) zaf,zau (e:=zag) (ev:=(D.int .i64)) zaf,zaz (e:=zag) (ev:=(D.int .i64)) zaf,zaA (e:=zag) (ev:=(D.int .i64)),zab hy6,zae hy6,zac zaH hy6]
  obtain⟨r7,hr8,h⟩:=bs h
  replace hr8:=zao hr8
  refine zas hr8 ?_
  try simp only[go_sem,zax (e:=zag) (ev:=(D.int .i64)) zaf,zay (e:=zag) (ev:=(D.int .i64)) zaf,zau (e:=zag) (ev:=(D.int .i64)) zaf,zaz (e:=zag) (ev:=(D.int .i64)) zaf,zaA (e:=zag) (ev:=(D.int .i64)),zab hy6,zae hy6,zac zaH hy6]
  obtain⟨r9,hr10,h⟩:=bs h
  replace hr10:=zao hr10
  refine zas hr10 ?_
  try simp only[go_sem,zax (e:=zag) (ev:=(D.int .i64)) zaf,zay (e:=zag) (ev:=(D.int .i64)) zaf,zau (e:=zag) (ev:=(D.int .i64)) zaf,zaz (e:=zag) (ev:=(D.int .i64)) zaf,zaA (e:=zag) (ev:=(D.int .i64)),zab hy6,zae hy6,zac zaH hy6]
  refine zaa (v:= .ptr 12 0 3) (fun hb18=>by simp only[go_sem,zax (e:=zag) (ev:=(D.int .i64)) zaf,zay (e:=zag) (ev:=(D.int .i64)) zaf,zau (e:=zag) (ev:=(D.int .i64)) zaf,zaz (e:=zag) (ev:=(D.int .i64)) zaf,zaA (e:=zag) (ev:=(D.int .i64)),zab hy6,zae hy6,zac zaH hy6,hc3,hb18]) ?_
  try simp only[go_sem,zax (e:=zag) (ev:=(D.int .i64)) zaf,zay (e:=zag) (ev:=(D.int .i64)) zaf,zau (e:=zag) (ev:=(D.int .i64)) zaf,zaz (e:=zag) (ev:=(D.int .i64)) zaf,zaA (e:=zag) (ev:=(D.int .i64)),zab hy6,zae hy6,zac zaH hy6]
  refine zaa (v:= .d (.str y5.value)) (fun hb17=>by simp only[go_sem,zax (e:=zag) (ev:=(D.int .i64)) zaf,zay (e:=zag) (ev:=(D.int .i64)) zaf,zau (e:=zag) (ev:=(D.int .i64)) zaf,zaz (e:=zag) (ev:=(D.int .i64)) zaf,zaA (e:=zag) (ev:=(D.int .i64)),zab hy6,zae hy6,zac zaH hy6,hc3,hb17]) ?_
  try simp only[go_sem,zax (e:=zag) (ev:=(D.int .i64)) zaf,zay (e:=zag) (ev:=(D.int .i64)) zaf,zau (e:=zag) (ev:=(D.int .i64)) zaf,zaz (e:=zag) (ev:=(D.int .i64)) zaf,zaA (e:=zag) (ev:=(D.int .i64)),zab hy6,zae hy6,zac zaH hy6]
  refine zaa (v:= .d (.int .i64 (y5.value.length:Int))) (fun hb16=>by simp only[go_sem,zax (e:=zag) (ev:=(D.int .i64)) zaf,zay (e:=zag) (ev:=(D.int .i64)) zaf,zau (e:=zag) (ev:=(D.int .i64)) zaf,zaz (e:=zag) (ev:=(D.int .i64)) zaf,zaA (e:=zag) (ev:=(D.int .i64)),zab hy6,zae hy6,zac zaH hy6,hc3,hb16]) ?_
  try simp only[go_sem,zax (e:=zag) (ev:=(D.int .i64)) zaf,zay (e:=zag) (ev:=(D.int .i64)) zaf,zau (e:=zag) (ev:=(D.int .i64)) zaf,zaz (e:=zag) (ev:=(D.int .i64)) zaf,zaA (e:=zag) (ev:=(D.int .i64)),zab hy6,zae hy6,zac zaH hy6]
  refine zaa (v:= .d (.bool (decide (4096<(y5.value.length:Int))))) (fun hb15=>by simp only[go_sem,zax (e:=zag) (ev:=(D.int .i64)) zaf,zay (e:=zag) (ev:=(D.int .i64)) zaf,zau (e:=zag) (ev:=(D.int .i64)) zaf,zaz (e:=zag) (ev:=(D.int .i64)) zaf,zaA (e:=zag) (ev:=(D.int .i64)),zab hy6,zae hy6,zac zaH hy6,hc3,hb15]) ?_
  try simp only[go_sem,zax (e:=zag) (ev:=(D.int .i64)) zaf,zay (e:=zag) (ev:=(D.int .i64)) zaf,zau (e:=zag) (ev:=(D.int .i64)) zaf,zaz (e:=zag) (ev:=(D.int .i64)) zaf,zaA (e:=zag) (ev:=(D.int .i64)),zab hy6,zae hy6,zac zaH hy6]
  refine zaD (fun hc11=> ?_) (fun hc12=> ?_)
  ·rw[if_pos (show(!(bif (!r9)then true else(decide (4096<(y5.value.length:Int)))))=true by(rw[hc11];rfl))]at h
   try simp only[go_sem,zax (e:=zag) (ev:=(D.int .i64)) zaf,zay (e:=zag) (ev:=(D.int .i64)) zaf,zau (e:=zag) (ev:=(D.int .i64)) zaf,zaz (e:=zag) (ev:=(D.int .i64)) zaf,zaA (e:=zag) (ev:=(D.int .i64)),zab hy6,zae hy6,zac zaH hy6,hc11]
   refine zal (fun hc13=> ?_) (fun hc14=> ?_)
   ·rw[if_pos hc13]at h
    try simp only[go_sem,zax (e:=zag) (ev:=(D.int .i64)) zaf,zay (e:=zag) (ev:=(D.int .i64)) zaf,zau (e:=zag) (ev:=(D.int .i64)) zaf,zaz (e:=zag) (ev:=(D.int .i64)) zaf,zaA (e:=zag) (ev:=(D.int .i64)),zab hy6,zae hy6,zac zaH hy6]
    cases h
    exact⟨rfl,by simp,Up.of (N:=9) (N':=36) [] rfl rfl (by decide) (.set (.d _) zan.none) zap.at⟩
   rw[if_neg (ff hc14)]at h
   try simp only[go_sem,zax (e:=zag) (ev:=(D.int .i64)) zaf,zay (e:=zag) (ev:=(D.int .i64)) zaf,zau (e:=zag) (ev:=(D.int .i64)) zaf,zaz (e:=zag) (ev:=(D.int .i64)) zaf,zaA (e:=zag) (ev:=(D.int .i64)),zab hy6,zae hy6,zac zaH hy6]
   cases h
   exact⟨rfl,Up.of (N:=9) (N':=44) [] rfl rfl (by decide) (.set (.d _) (.set (.d _) (.set (.d _) (.set (.map' rfl) zan.none)))) (.set zaC.map_d zap.at)⟩
  rw[if_neg (ffn hc12)]at h
  try simp only[go_sem,zax (e:=zag) (ev:=(D.int .i64)) zaf,zay (e:=zag) (ev:=(D.int .i64)) zaf,zau (e:=zag) (ev:=(D.int .i64)) zaf,zaz (e:=zag) (ev:=(D.int .i64)) zaf,zaA (e:=zag) (ev:=(D.int .i64)),zab hy6,zae hy6,zac zaH hy6,hc12]
  cases h
  exact⟨rfl,by simp,Up.of (N:=9) (N':=36) [] rfl rfl (by decide) (.set (.d _) zan.none) zap.at⟩
 rw[if_neg (ff hc4)]at h
 try simp only[go_sem,zax (e:=zag) (ev:=(D.int .i64)) zaf,zay (e:=zag) (ev:=(D.int .i64)) zaf,zau (e:=zag) (ev:=(D.int .i64)) zaf,zaz (e:=zag) (ev:=(D.int .i64)) zaf,zaA (e:=zag) (ev:=(D.int .i64))]
 cases h
 exact⟨rfl,by simp,Up.of (N:=9) (N':=10) [] rfl rfl (by decide) zan.none zap.at⟩
noncomputable def zId (a0:Sl (Attr)):Option (Bool):=
 if(decide (64<(a0.l.length:Int)))=true then
  some false
 else
  (zaR (zdc a0) ([],0)).bind fun r19=>
  match r19 with
  |(.inl q21)=>
   some true
  |(.inr q22)=>
   some false
theorem zIe (a0:Sl (Attr)) (r:Bool) (h:zId a0=some r):pc prog 185 [.list a0.n (a0.l.map zaH)]=some (D.bool r):=by
 unfold zId at h
 refine zbc (fn:=zGE) rfl rfl ?_
 delta zGE
 try simp only[go_sem]
 refine zal (fun hc1=> ?_) (fun hc2=> ?_)
 ·rw[if_pos hc1]at h
  try simp only[go_sem]
  cases h
  rfl
 rw[if_neg (ff hc2)]at h
 try simp only[go_sem]
 obtain⟨r19,hl20,h⟩:=bs h
 refine Wp.loopR zbE (n:=(0,[])) (a:=zpi) rfl (zeH a0) (zhR a0) (zvw a0) hl20 ?_ (by(repeat(first|refine Clo.block ?_|refine Clo.seq zbE rfl ?_));(exact Clo.ret)) ?_
 ·show Up (0,[]) (zeH a0 ([],0)) _
  delta zeH
  exact Up.of (N:=9) (N':=9) [] rfl rfl (by decide) (.set (.d _) (.set (.d _) (.set (.d _) (.set (.map' rfl) zan.none)))) (.set zaC.map_d zap.at)
 rcases r19 with(q21|q22)
 ·dsimp only at h
  dsimp only[zhR]
  try simp only[go_sem]
  cases h
  rfl
 dsimp only at h
 dsimp only[zhR]
 try simp only[go_sem]
 cases h
 rfl
def zeI (a0:Sl (List UInt8)) (x0:Int):St:=⟨(((Regs.none.set 5 (.d (.list a0.n (a0.l.map D.str)))).set 6 (.d (.int .i64 (a0.l.length:Int)))).set 7 (.d (.int .i64 x0))),(Heap.at 4)⟩
def zhS (a0:Sl (List UInt8)):((Unit)⊕(Unit))→Ex×St:=fun r=>match r with
 |(.inl r)=>(.exit 0,⟨Regs.none,(Heap.at 4)⟩)
 |(.inr r)=>(.ret,⟨(Regs.none.set 2 (.d (.bool false))),(Heap.at 4)⟩)
noncomputable def zdd (a0:Sl (List UInt8)) (x0:Int):Option ((Int)⊕((Unit)⊕(Unit))):=
 if(decide (x0<(a0.l.length:Int)))=true then
  (rd a0.l x0).bind fun y3=>
  if(decide (1024<(y3.length:Int)))=true then
   some (.inr (.inr ()))
  else
   some (.inl (IntKind.wrap .i64 (x0+1)))
 else
  some (.inr (.inl ()))
theorem zvx (a0:Sl (List UInt8)) (x0:Int) (o:(Int)⊕((Unit)⊕(Unit))) (h:zdd a0 x0=some o):Wp prog zpj (zeI a0 x0) (zcr (0,[]) (zeI a0) (zhS a0) o):=by
 unfold zdd at h
 delta zpj zeI
 try simp only[go_sem]
 refine zal (fun hc1=> ?_) (fun hc2=> ?_)
 ·rw[if_pos hc1]at h
  try simp only[go_sem]
  obtain⟨y3,hy4,h⟩:=bs h
  try simp only[go_sem,zab hy4,zae hy4,zac D.str hy4]
  refine zal (fun hc5=> ?_) (fun hc6=> ?_)
  ·rw[if_pos hc5]at h
   try simp only[go_sem,zab hy4,zae hy4,zac D.str hy4]
   cases h
   exact⟨rfl,by simp,Up.of (N:=4) (N':=12) [] rfl rfl (by decide) (.set (.d _) zan.none) zap.at⟩
  rw[if_neg (ff hc6)]at h
  try simp only[go_sem,zab hy4,zae hy4,zac D.str hy4]
  cases h
  exact⟨rfl,Up.of (N:=4) (N':=13) [] rfl rfl (by decide) (.set (.d _) (.set (.d _) (.set (.d _) zan.none))) zap.at⟩
 rw[if_neg (ff hc2)]at h
 try simp only[go_sem]
 cases h
 exact⟨rfl,by simp,Up.of (N:=4) (N':=5) [] rfl rfl (by decide) zan.none zap.at⟩
noncomputable def zIf (a0:Sl (List UInt8)):Option (Bool):=
 (zaR (zdd a0) 0).bind fun r7=>
 match r7 with
 |(.inl q9)=>
  some true
 |(.inr q10)=>
  some false
theorem zIg (a0:Sl (List UInt8)) (r:Bool) (h:zIf a0=some r):pc prog 186 [.list a0.n (a0.l.map D.str)]=some (D.bool r):=by
 unfold zIf at h
 refine zbc (fn:=zGF) rfl rfl ?_
 delta zGF
 try simp only[go_sem]
 obtain⟨r7,hl8,h⟩:=bs h
 refine Wp.loopR zbE (n:=(0,[])) (a:=zpj) rfl (zeI a0) (zhS a0) (zvx a0) hl8 ?_ (by(repeat(first|refine Clo.block ?_|refine Clo.seq zbE rfl ?_));(exact Clo.ret)) ?_
 ·show Up (0,[]) (zeI a0 0) _
  delta zeI
  exact Up.of (N:=4) (N':=4) [] rfl rfl (by decide) (.set (.d _) (.set (.d _) (.set (.d _) zan.none))) zap.at
 rcases r7 with(q9|q10)
 ·dsimp only at h
  dsimp only[zhS]
  try simp only[go_sem]
  cases h
  rfl
 dsimp only at h
 dsimp only[zhS]
 try simp only[go_sem]
 cases h
 rfl
noncomputable def zIh (a0:Forest) (a1:Int):Option (Node×Bool):=
 if(bif (decide (a1<1))then true else(decide ((a0.nodes.l.length:Int)<a1)))=true then
  some ((⟨0,⟨[],[],[]⟩,[],[],⟨true,[]⟩,⟨true,[]⟩,0,⟨true,[]⟩,0,0,0,0,false,false⟩:Node),false)
 else
  (rd a0.nodes.l (IntKind.wrap .i64 (a1-1))).bind fun y3=>
  some (y3,true)
theorem zIi (a0:Forest) (a1:Int) (r:Node×Bool) (h:zIh a0 a1=some r):pc prog 187 [zai a0,.int .i64 a1]=some ((eT2 zah D.bool) r):=by
 unfold zIh at h
 refine zbc (fn:=zGG) rfl rfl ?_
 delta zGG
 try simp only[go_sem]
 refine zaa (v:= .d (.int .i64 a1)) (fun hb9=>by simp only[go_sem,hb9]) ?_
 try simp only[go_sem]
 refine zaa (v:= .ptr 0 0 0) (fun hb8=>by simp only[go_sem,hb8]) ?_
 try simp only[go_sem]
 refine zaa (v:= .d (.list a0.nodes.n (a0.nodes.l.map zah))) (fun hb7=>by simp only[go_sem,hb7]) ?_
 try simp only[go_sem]
 refine zaa (v:= .d (.int .i64 (a0.nodes.l.length:Int))) (fun hb6=>by simp only[go_sem,hb6]) ?_
 try simp only[go_sem]
 refine zaa (v:= .d (.bool (decide ((a0.nodes.l.length:Int)<a1)))) (fun hb5=>by simp only[go_sem,hb5]) ?_
 try simp only[go_sem]
 refine zal (fun hc1=> ?_) (fun hc2=> ?_)
 ·rw[if_pos hc1]at h
  try simp only[go_sem]
  cases h
  rfl
 rw[if_neg (ff hc2)]at h
 try simp only[go_sem]
 obtain⟨y3,hy4,h⟩:=bs h
 try simp only[go_sem,zab hy4,zae hy4,zac zah hy4]
 cases h
 rfl
def zeJ (a0:Sl (Int)) (a1:Int) (x0:Int×Int):St:=⟨(((((Regs.none.set 1 (.d (.int .i64 a1))).set 5 (.d (.int .i64 x0.2))).set 8 (.d (.list a0.n (a0.l.map (D.int .i64))))).set 9 (.d (.int .i64 (a0.l.length:Int)))).set 10 (.d (.int .i64 x0.1))),(Heap.at 5)⟩
def zkR (a0:Sl (Int)) (a1:Int):((Int))→Ex×St:=fun r=>(.exit 0,⟨(Regs.none.set 5 (.d (.int .i64 r))),(Heap.at 5)⟩)
noncomputable def zde (a0:Sl (Int)) (a1:Int) (x0:Int×Int):Option ((Int×Int)⊕((Int))):=
 if(decide (x0.1<(a0.l.length:Int)))=true then
  (rd a0.l x0.1).bind fun y3=>
  if(y3==a1)=true then
   some (.inl ((IntKind.wrap .i64 (x0.1+1)),(IntKind.wrap .i64 (x0.2+1))))
  else
   some (.inl ((IntKind.wrap .i64 (x0.1+1)),x0.2))
 else
  some (.inr x0.2)
theorem zvy (a0:Sl (Int)) (a1:Int) (x0:Int×Int) (o:(Int×Int)⊕((Int))) (h:zde a0 a1 x0=some o):Wp prog zpk (zeJ a0 a1 x0) (zcr (0,[]) (zeJ a0 a1) (zkR a0 a1) o):=by
 unfold zde at h
 delta zpk zeJ
 try simp only[go_sem]
 refine zal (fun hc1=> ?_) (fun hc2=> ?_)
 ·rw[if_pos hc1]at h
  try simp only[go_sem]
  obtain⟨y3,hy4,h⟩:=bs h
  try simp only[go_sem,zab hy4,zae hy4,zac (D.int .i64) hy4]
  refine zal (fun hc5=> ?_) (fun hc6=> ?_)
  ·rw[if_pos hc5]at h
   try simp only[go_sem,zab hy4,zae hy4,zac (D.int .i64) hy4]
   cases h
   exact⟨rfl,Up.of (N:=5) (N':=17) [] rfl rfl (by decide) (.set (.d _) (.set (.d _) (.set (.d _) (.set (.d _) (.set (.d _) zan.none))))) zap.at⟩
  rw[if_neg (ff hc6)]at h
  try simp only[go_sem,zab hy4,zae hy4,zac (D.int .i64) hy4]
  cases h
  exact⟨rfl,Up.of (N:=5) (N':=14) [] rfl rfl (by decide) (.set (.d _) (.set (.d _) (.set (.d _) (.set (.d _) (.set (.d _) zan.none))))) zap.at⟩
 rw[if_neg (ff hc2)]at h
 try simp only[go_sem]
 cases h
 exact⟨rfl,by simp,Up.of (N:=5) (N':=6) [] rfl rfl (by decide) (.set (.d _) zan.none) zap.at⟩
noncomputable def zIj (a0:Sl (Int)) (a1:Int):Option (Bool):=
 (zaR (zde a0 a1) (0,0)).bind fun r7=>
 some (r7==1)
theorem zIk (a0:Sl (Int)) (a1:Int) (r:Bool) (h:zIj a0 a1=some r):pc prog 188 [.list a0.n (a0.l.map (D.int .i64)),.int .i64 a1]=some (D.bool r):=by
 unfold zIj at h
 refine zbc (fn:=zGH) rfl rfl ?_
 delta zGH
 try simp only[go_sem]
 obtain⟨r7,hl8,h⟩:=bs h
 refine Wp.loopR zbE (n:=(0,[])) (a:=zpk) rfl (zeJ a0 a1) (zkR a0 a1) (zvy a0 a1) hl8 ?_ (by(repeat(first|refine Clo.block ?_|refine Clo.seq zbE rfl ?_));(exact Clo.ret)) ?_
 ·show Up (0,[]) (zeJ a0 a1 (0,0)) _
  delta zeJ
  exact Up.of (N:=5) (N':=5) [] rfl rfl (by decide) (.set (.d _) (.set (.d _) (.set (.d _) (.set (.d _) (.set (.d _) zan.none))))) zap.at
 dsimp only[zkR]
 try simp only[go_sem]
 cases h
 rfl
noncomputable def zIl (a0:Forest) (a1:Int):Option (Int):=
 (dec (eT2 zah D.bool) (pc prog 187 [zai a0,.int .i64 a1])).bind fun r1=>
 some r1.1.kind
theorem zIm (a0:Forest) (a1:Int) (r:Int) (h:zIl a0 a1=some r):pc prog 189 [zai a0,.int .i64 a1]=some ((D.int .u8) r):=by
 unfold zIl at h
 refine zbc (fn:=zGI) rfl rfl ?_
 delta zGI
 try simp only[go_sem]
 obtain⟨r1,hr2,h⟩:=bs h
 replace hr2:=zao hr2
 refine zas hr2 ?_
 try simp only[go_sem]
 cases h
 rfl
def zeK (a0:Forest) (a1:Int) (a2:Node) (x0:List (Int×Int)×Int):St:=⟨(((((((Regs.none.set 1 (.d (.int .i64 a1))).set 3 (.ptr 0 0 0)).set 5 (.ptr 1 0 0)).set 7 (.map 3)).set 14 (.d (.list a2.kids.n (a2.kids.l.map (D.int .i64))))).set 15 (.d (.int .i64 (a2.kids.l.length:Int)))).set 16 (.d (.int .i64 x0.2))),((((Heap.at 9).set 0 (some (.els 1 [.d (zai a0)] 0))).set 1 (some (.els 16 [.d (zah a2)] 0))).set 3 (some (.map (ents (D.int .i64) (fun z=>V.d ((D.int .i64) z)) x0.1 0) x0.1.length)))⟩
def zhT (a0:Forest) (a1:Int) (a2:Node):((Unit)⊕(Unit))→Ex×St:=fun r=>match r with
 |(.inl r)=>(.exit 0,⟨((Regs.none.set 3 (.ptr 0 0 0)).set 5 (.ptr 1 0 0)),(((Heap.at 9).set 0 (some (.els 1 [.d (zai a0)] 0))).set 1 (some (.els 16 [.d (zah a2)] 0)))⟩)
 |(.inr r)=>(.ret,⟨(Regs.none.set 6 (.d (.bool false))),(Heap.at 9)⟩)
noncomputable def zdf (a0:Forest) (a1:Int) (a2:Node) (x0:List (Int×Int)×Int):Option ((List (Int×Int)×Int)⊕((Unit)⊕(Unit))):=
 if(decide (x0.2<(a2.kids.l.length:Int)))=true then
  (rd a2.kids.l x0.2).bind fun y3=>
  (dec (eT2 zah D.bool) (pc prog 187 [zai a0,.int .i64 y3])).bind fun r5=>
  if r5.2=true then
   if(bif (bif (decide (0<(ziI y3 x0.1 (0))))then true else(!(r5.1.parent==a1)))then true else(!(r5.1.doc==a2.doc)))=true then
    some (.inr (.inr ()))
   else
    some (.inl ((zhn y3 (IntKind.wrap .i64 ((ziI y3 x0.1 (0))+1)) x0.1),(IntKind.wrap .i64 (x0.2+1))))
  else
   some (.inr (.inr ()))
 else
  some (.inr (.inl ()))
theorem zvz (a0:Forest) (a1:Int) (a2:Node) (x0:List (Int×Int)×Int) (o:(List (Int×Int)×Int)⊕((Unit)⊕(Unit))) (h:zdf a0 a1 a2 x0=some o):Wp prog zpl (zeK a0 a1 a2 x0) (zcr (0,[]) (zeK a0 a1 a2) (zhT a0 a1 a2) o):=by
 unfold zdf at h
 delta zpl zeK
 try simp only[go_sem]
 refine zal (fun hc1=> ?_) (fun hc2=> ?_)
 ·rw[if_pos hc1]at h
  try simp only[go_sem,zax (e:=(D.int .i64)) (ev:=(D.int .i64)) zak,zay (e:=(D.int .i64)) (ev:=(D.int .i64)) zak,zau (e:=(D.int .i64)) (ev:=(D.int .i64)) zak,zaz (e:=(D.int .i64)) (ev:=(D.int .i64)) zak,zaA (e:=(D.int .i64)) (ev:=(D.int .i64))]
  obtain⟨y3,hy4,h⟩:=bs h
  try simp only[go_sem,zax (e:=(D.int .i64)) (ev:=(D.int .i64)) zak,zay (e:=(D.int .i64)) (ev:=(D.int .i64)) zak,zau (e:=(D.int .i64)) (ev:=(D.int .i64)) zak,zaz (e:=(D.int .i64)) (ev:=(D.int .i64)) zak,zaA (e:=(D.int .i64)) (ev:=(D.int .i64)),zab hy4,zae hy4,zac (D.int .i64) hy4]
  obtain⟨r5,hr6,h⟩:=bs h
  replace hr6:=zao hr6
  refine zas hr6 ?_
  try simp only[go_sem,zax (e:=(D.int .i64)) (ev:=(D.int .i64)) zak,zay (e:=(D.int .i64)) (ev:=(D.int .i64)) zak,zau (e:=(D.int .i64)) (ev:=(D.int .i64)) zak,zaz (e:=(D.int .i64)) (ev:=(D.int .i64)) zak,zaA (e:=(D.int .i64)) (ev:=(D.int .i64)),zab hy4,zae hy4,zac (D.int .i64) hy4]
  refine zaF (fun hc7=> ?_) (fun hc8=> ?_)
  ·rw[if_pos hc7]at h
   try simp only[go_sem,zax (e:=(D.int .i64)) (ev:=(D.int .i64)) zak,zay (e:=(D.int .i64)) (ev:=(D.int .i64)) zak,zau (e:=(D.int .i64)) (ev:=(D.int .i64)) zak,zaz (e:=(D.int .i64)) (ev:=(D.int .i64)) zak,zaA (e:=(D.int .i64)) (ev:=(D.int .i64)),zab hy4,zae hy4,zac (D.int .i64) hy4,hc7]
   refine zaa (v:= .ptr 19 0 8) (fun hb19=>by simp only[go_sem,zax (e:=(D.int .i64)) (ev:=(D.int .i64)) zak,zay (e:=(D.int .i64)) (ev:=(D.int .i64)) zak,zau (e:=(D.int .i64)) (ev:=(D.int .i64)) zak,zaz (e:=(D.int .i64)) (ev:=(D.int .i64)) zak,zaA (e:=(D.int .i64)) (ev:=(D.int .i64)),zab hy4,zae hy4,zac (D.int .i64) hy4,hc1,hc7,hb19]) ?_
   try simp only[go_sem,zax (e:=(D.int .i64)) (ev:=(D.int .i64)) zak,zay (e:=(D.int .i64)) (ev:=(D.int .i64)) zak,zau (e:=(D.int .i64)) (ev:=(D.int .i64)) zak,zaz (e:=(D.int .i64)) (ev:=(D.int .i64)) zak,zaA (e:=(D.int .i64)) (ev:=(D.int .i64)),zab hy4,zae hy4,zac (D.int .i64) hy4]
   refine zaa (v:= .d (.int .i64 r5.1.parent)) (fun hb18=>by simp only[go_sem,zax (e:=(D.int .i64)) (ev:=(D.int .i64)) zak,zay (e:=(D.int .i64)) (ev:=(D.int .i64)) zak,zau (e:=(D.int .i64)) (ev:=(D.int .i64)) zak,zaz (e:=(D.int .i64)) (ev:=(D.int .i64)) zak,zaA (e:=(D.int .i64)) (ev:=(D.int .i64)),zab hy4,zae hy4,zac (D.int .i64) hy4,hc1,hc7,hb18]) ?_
   try simp only[go_sem,zax (e:=(D.int .i64)) (ev:=(D.int .i64)) zak,zay (e:=(D.int .i64)) (ev:=(D.int .i64)) zak,zau (e:=(D.int .i64)) (ev:=(D.int .i64)) zak,zaz (e:=(D.int .i64)) (ev:=(D.int .i64)) zak,zaA (e:=(D.int .i64)) (ev:=(D.int .i64)),zab hy4,zae hy4,zac (D.int .i64) hy4]
   refine zaa (v:= .d (.int .i64 a1)) (fun hb17=>by simp only[go_sem,zax (e:=(D.int .i64)) (ev:=(D.int .i64)) zak,zay (e:=(D.int .i64)) (ev:=(D.int .i64)) zak,zau (e:=(D.int .i64)) (ev:=(D.int .i64)) zak,zaz (e:=(D.int .i64)) (ev:=(D.int .i64)) zak,zaA (e:=(D.int .i64)) (ev:=(D.int .i64)),zab hy4,zae hy4,zac (D.int .i64) hy4,hc1,hc7,hb17]) ?_
   try simp only[go_sem,zax (e:=(D.int .i64)) (ev:=(D.int .i64)) zak,zay (e:=(D.int .i64)) (ev:=(D.int .i64)) zak,zau (e:=(D.int .i64)) (ev:=(D.int .i64)) zak,zaz (e:=(D.int .i64)) (ev:=(D.int .i64)) zak,zaA (e:=(D.int .i64)) (ev:=(D.int .i64)),zab hy4,zae hy4,zac (D.int .i64) hy4]
   refine zaa (v:= .d (.bool (!(r5.1.parent==a1)))) (fun hb16=>by simp only[go_sem,zax (e:=(D.int .i64)) (ev:=(D.int .i64)) zak,zay (e:=(D.int .i64)) (ev:=(D.int .i64)) zak,zau (e:=(D.int .i64)) (ev:=(D.int .i64)) zak,zaz (e:=(D.int .i64)) (ev:=(D.int .i64)) zak,zaA (e:=(D.int .i64)) (ev:=(D.int .i64)),zab hy4,zae hy4,zac (D.int .i64) hy4,hc1,hc7,hb16]) ?_
   try simp only[go_sem,zax (e:=(D.int .i64)) (ev:=(D.int .i64)) zak,zay (e:=(D.int .i64)) (ev:=(D.int .i64)) zak,zau (e:=(D.int .i64)) (ev:=(D.int .i64)) zak,zaz (e:=(D.int .i64)) (ev:=(D.int .i64)) zak,zaA (e:=(D.int .i64)) (ev:=(D.int .i64)),zab hy4,zae hy4,zac (D.int .i64) hy4]
   refine zaa (v:= .ptr 19 0 10) (fun hb15=>by simp only[go_sem,zax (e:=(D.int .i64)) (ev:=(D.int .i64)) zak,zay (e:=(D.int .i64)) (ev:=(D.int .i64)) zak,zau (e:=(D.int .i64)) (ev:=(D.int .i64)) zak,zaz (e:=(D.int .i64)) (ev:=(D.int .i64)) zak,zaA (e:=(D.int .i64)) (ev:=(D.int .i64)),zab hy4,zae hy4,zac (D.int .i64) hy4,hc1,hc7,hb15]) ?_
   try simp only[go_sem,zax (e:=(D.int .i64)) (ev:=(D.int .i64)) zak,zay (e:=(D.int .i64)) (ev:=(D.int .i64)) zak,zau (e:=(D.int .i64)) (ev:=(D.int .i64)) zak,zaz (e:=(D.int .i64)) (ev:=(D.int .i64)) zak,zaA (e:=(D.int .i64)) (ev:=(D.int .i64)),zab hy4,zae hy4,zac (D.int .i64) hy4]
   refine zaa (v:= .d (.int .i64 r5.1.doc)) (fun hb14=>by simp only[go_sem,zax (e:=(D.int .i64)) (ev:=(D.int .i64)) zak,zay (e:=(D.int .i64)) (ev:=(D.int .i64)) zak,zau (e:=(D.int .i64)) (ev:=(D.int .i64)) zak,zaz (e:=(D.int .i64)) (ev:=(D.int .i64)) zak,zaA (e:=(D.int .i64)) (ev:=(D.int .i64)),zab hy4,zae hy4,zac (D.int .i64) hy4,hc1,hc7,hb14]) ?_
   try simp only[go_sem,zax (e:=(D.int .i64)) (ev:=(D.int .i64)) zak,zay (e:=(D.int .i64)) (ev:=(D.int .i64)) zak,zau (e:=(D.int .i64)) (ev:=(D.int .i64)) zak,zaz (e:=(D.int .i64)) (ev:=(D.int .i64)) zak,zaA (e:=(D.int .i64)) (ev:=(D.int .i64)),zab hy4,zae hy4,zac (D.int .i64) hy4]
   refine zaa (v:= .ptr 1 0 10) (fun hb13=>by simp only[go_sem,zax (e:=(D.int .i64)) (ev:=(D.int .i64)) zak,zay (e:=(D.int .i64)) (ev:=(D.int .i64)) zak,zau (e:=(D.int .i64)) (ev:=(D.int .i64)) zak,zaz (e:=(D.int .i64)) (ev:=(D.int .i64)) zak,zaA (e:=(D.int .i64)) (ev:=(D.int .i64)),zab hy4,zae hy4,zac (D.int .i64) hy4,hc1,hc7,hb13]) ?_
   try simp only[go_sem,zax (e:=(D.int .i64)) (ev:=(D.int .i64)) zak,zay (e:=(D.int .i64)) (ev:=(D.int .i64)) zak,zau (e:=(D.int .i64)) (ev:=(D.int .i64)) zak,zaz (e:=(D.int .i64)) (ev:=(D.int .i64)) zak,zaA (e:=(D.int .i64)) (ev:=(D.int .i64)),zab hy4,zae hy4,zac (D.int .i64) hy4]
   refine zaa (v:= .d (.int .i64 a2.doc)) (fun hb12=>by simp only[go_sem,zax (e:=(D.int .i64)) (ev:=(D.int .i64)) zak,zay (e:=(D.int .i64)) (ev:=(D.int .i64)) zak,zau (e:=(D.int .i64)) (ev:=(D.int .i64)) zak,zaz (e:=(D.int .i64)) (ev:=(D.int .i64)) zak,zaA (e:=(D.int .i64)) (ev:=(D.int .i64)),zab hy4,zae hy4,zac (D.int .i64) hy4,hc1,hc7,hb12]) ?_
   try simp only[go_sem,zax (e:=(D.int .i64)) (ev:=(D.int .i64)) zak,zay (e:=(D.int .i64)) (ev:=(D.int .i64)) zak,zau (e:=(D.int .i64)) (ev:=(D.int .i64)) zak,zaz (e:=(D.int .i64)) (ev:=(D.int .i64)) zak,zaA (e:=(D.int .i64)) (ev:=(D.int .i64)),zab hy4,zae hy4,zac (D.int .i64) hy4]
   refine zaa (v:= .d (.bool (!(r5.1.doc==a2.doc)))) (fun hb11=>by simp only[go_sem,zax (e:=(D.int .i64)) (ev:=(D.int .i64)) zak,zay (e:=(D.int .i64)) (ev:=(D.int .i64)) zak,zau (e:=(D.int .i64)) (ev:=(D.int .i64)) zak,zaz (e:=(D.int .i64)) (ev:=(D.int .i64)) zak,zaA (e:=(D.int .i64)) (ev:=(D.int .i64)),zab hy4,zae hy4,zac (D.int .i64) hy4,hc1,hc7,hb11]) ?_
   try simp only[go_sem,zax (e:=(D.int .i64)) (ev:=(D.int .i64)) zak,zay (e:=(D.int .i64)) (ev:=(D.int .i64)) zak,zau (e:=(D.int .i64)) (ev:=(D.int .i64)) zak,zaz (e:=(D.int .i64)) (ev:=(D.int .i64)) zak,zaA (e:=(D.int .i64)) (ev:=(D.int .i64)),zab hy4,zae hy4,zac (D.int .i64) hy4]
   refine zal (fun hc9=> ?_) (fun hc10=> ?_)
   ·rw[if_pos hc9]at h
    try simp only[go_sem,zax (e:=(D.int .i64)) (ev:=(D.int .i64)) zak,zay (e:=(D.int .i64)) (ev:=(D.int .i64)) zak,zau (e:=(D.int .i64)) (ev:=(D.int .i64)) zak,zaz (e:=(D.int .i64)) (ev:=(D.int .i64)) zak,zaA (e:=(D.int .i64)) (ev:=(D.int .i64)),zab hy4,zae hy4,zac (D.int .i64) hy4]
    cases h
    exact⟨rfl,by simp,Up.of (N:=9) (N':=44) [] rfl rfl (by decide) (.set (.d _) zan.none) zap.at⟩
   rw[if_neg (ff hc10)]at h
   try simp only[go_sem,zax (e:=(D.int .i64)) (ev:=(D.int .i64)) zak,zay (e:=(D.int .i64)) (ev:=(D.int .i64)) zak,zau (e:=(D.int .i64)) (ev:=(D.int .i64)) zak,zaz (e:=(D.int .i64)) (ev:=(D.int .i64)) zak,zaA (e:=(D.int .i64)) (ev:=(D.int .i64)),zab hy4,zae hy4,zac (D.int .i64) hy4]
   cases h
   exact⟨rfl,Up.of (N:=9) (N':=50) [] rfl rfl (by decide) (.set (.d _) (.set (.d _) (.set (.d _) (.set (.map' rfl) (.set (.ptr' rfl) (.set (.ptr' rfl) (.set (.d _) zan.none))))))) (.set zaC.map_d (.set zaC.refl_d (.set zaC.refl_d zap.at)))⟩
  rw[if_neg (ff hc8)]at h
  try simp only[go_sem,zax (e:=(D.int .i64)) (ev:=(D.int .i64)) zak,zay (e:=(D.int .i64)) (ev:=(D.int .i64)) zak,zau (e:=(D.int .i64)) (ev:=(D.int .i64)) zak,zaz (e:=(D.int .i64)) (ev:=(D.int .i64)) zak,zaA (e:=(D.int .i64)) (ev:=(D.int .i64)),zab hy4,zae hy4,zac (D.int .i64) hy4,hc8]
  cases h
  exact⟨rfl,by simp,Up.of (N:=9) (N':=44) [] rfl rfl (by decide) (.set (.d _) zan.none) zap.at⟩
 rw[if_neg (ff hc2)]at h
 try simp only[go_sem,zax (e:=(D.int .i64)) (ev:=(D.int .i64)) zak,zay (e:=(D.int .i64)) (ev:=(D.int .i64)) zak,zau (e:=(D.int .i64)) (ev:=(D.int .i64)) zak,zaz (e:=(D.int .i64)) (ev:=(D.int .i64)) zak,zaA (e:=(D.int .i64)) (ev:=(D.int .i64))]
 cases h
 exact⟨rfl,by simp,Up.of (N:=9) (N':=10) [] rfl rfl (by decide) (.set (.ptr' rfl) (.set (.ptr' rfl) zan.none)) (.set zaC.refl_d (.set zaC.refl_d zap.at))⟩
noncomputable def zIn (a0:Forest) (a1:Int) (a2:Node):Option (Bool):=
 (zaR (zdf a0 a1 a2) ([],0)).bind fun r20=>
 match r20 with
 |(.inl q22)=>
  (dec D.bool (pc prog 205 [zai a0,zah a2])).bind fun r23=>
  some r23
 |(.inr q25)=>
  some false
theorem zIo (a0:Forest) (a1:Int) (a2:Node) (r:Bool) (h:zIn a0 a1 a2=some r):pc prog 190 [zai a0,.int .i64 a1,zah a2]=some (D.bool r):=by
 unfold zIn at h
 refine zbc (fn:=zGJ) rfl rfl ?_
 delta zGJ
 try simp only[go_sem]
 obtain⟨r20,hl21,h⟩:=bs h
 refine Wp.loopR zbE (n:=(0,[])) (a:=zpl) rfl (zeK a0 a1 a2) (zhT a0 a1 a2) (zvz a0 a1 a2) hl21 ?_ (by(repeat(first|refine Clo.block ?_|refine Clo.seq zbE rfl ?_));(exact Clo.ret)) ?_
 ·show Up (0,[]) (zeK a0 a1 a2 ([],0)) _
  delta zeK
  exact Up.of (N:=9) (N':=9) [] rfl rfl (by decide) (.set (.d _) (.set (.d _) (.set (.d _) (.set (.map' rfl) (.set (.ptr' rfl) (.set (.ptr' rfl) (.set (.d _) zan.none))))))) (.set zaC.map_d (.set zaC.refl_d (.set zaC.refl_d zap.at)))
 rcases r20 with(q22|q25)
 ·dsimp only at h
  dsimp only[zhT]
  try simp only[go_sem]
  obtain⟨r23,hr24,h⟩:=bs h
  replace hr24:=zao hr24
  refine zas hr24 ?_
  try simp only[go_sem]
  cases h
  rfl
 dsimp only at h
 dsimp only[zhT]
 try simp only[go_sem]
 cases h
 rfl
noncomputable def zIp (a0:Int):Option (Bool):=
 (dec D.bool (pc prog 194 [.int .u8 a0])).bind fun r1=>
 if(!r1)=true then
  (dec D.bool (pc prog 195 [.int .u8 a0])).bind fun r5=>
  some (bif r5 then true else(a0==10))
 else
  some true
theorem zIq (a0:Int) (r:Bool) (h:zIp a0=some r):pc prog 191 [.int .u8 a0]=some (D.bool r):=by
 unfold zIp at h
 refine zbc (fn:=zGK) rfl rfl ?_
 delta zGK
 try simp only[go_sem]
 obtain⟨r1,hr2,h⟩:=bs h
 replace hr2:=zao hr2
 refine zas hr2 ?_
 try simp only[go_sem]
 refine zaa (v:= .d (.int .u8 a0)) (fun hb9=>by simp only[go_sem,hb9]) ?_
 try simp only[go_sem]
 refine zaD (fun hc3=> ?_) (fun hc4=> ?_)
 ·rw[if_pos (show(!r1)=true by(rw[hc3];rfl))]at h
  try simp only[go_sem,hc3]
  obtain⟨r5,hr6,h⟩:=bs h
  replace hr6:=zao hr6
  refine zas hr6 ?_
  try simp only[go_sem]
  refine zaa (v:= .d (.int .u8 a0)) (fun hb8=>by simp only[go_sem,hc3,hb8]) ?_
  try simp only[go_sem]
  refine zaa (v:= .d (.bool (a0==10))) (fun hb7=>by simp only[go_sem,hc3,hb7]) ?_
  try simp only[go_sem]
  cases h
  rfl
 rw[if_neg (ffn hc4)]at h
 try simp only[go_sem,hc4]
 cases h
 rfl
def zeL (a0:Sl (Attr)) (x0:Int):St:=⟨((((Regs.none.set 0 (.d (.list a0.n (a0.l.map zaH)))).set 8 (.d (.list a0.n (a0.l.map zaH)))).set 9 (.d (.int .i64 (a0.l.length:Int)))).set 10 (.d (.int .i64 x0))),(Heap.at 7)⟩
def zhU (a0:Sl (Attr)):((Unit)⊕(Unit))→Ex×St:=fun r=>match r with
 |(.inl r)=>(.exit 0,⟨Regs.none,(Heap.at 7)⟩)
 |(.inr r)=>(.ret,⟨(Regs.none.set 2 (.d (.bool false))),(Heap.at 7)⟩)
noncomputable def zdg (a0:Sl (Attr)) (x0:Int):Option ((Int)⊕((Unit)⊕(Unit))):=
 if(decide (x0<(a0.l.length:Int)))=true then
  (rd a0.l x0).bind fun y5=>
  (dec D.bool (pc prog 193 [zbL y5.name])).bind fun r7=>
  if(!(bif (!r7)then true else(decide (4096<(y5.value.length:Int)))))=true then
   (cut a0.l (0) x0).bind fun y11=>
   (dec (D.int .i64) (pc prog 206 [.list a0.n (y11.map zaH),zbL y5.name])).bind fun r13=>
   if(decide (0≤r13))=true then
    some (.inr (.inr ()))
   else
    some (.inl (IntKind.wrap .i64 (x0+1)))
  else
   some (.inr (.inr ()))
 else
  some (.inr (.inl ()))
theorem zvA (a0:Sl (Attr)) (x0:Int) (o:(Int)⊕((Unit)⊕(Unit))) (h:zdg a0 x0=some o):Wp prog zpm (zeL a0 x0) (zcr (0,[]) (zeL a0) (zhU a0) o):=by
 unfold zdg at h
 delta zpm zeL
 try simp only[go_sem]
 refine zal (fun hc3=> ?_) (fun hc4=> ?_)
 ·rw[if_pos hc3]at h
  try simp only[go_sem]
  obtain⟨y5,hy6,h⟩:=bs h
  try simp only[go_sem,zab hy6,zae hy6,zac zaH hy6]
  obtain⟨r7,hr8,h⟩:=bs h
  replace hr8:=zao hr8
  refine zas hr8 ?_
  try simp only[go_sem,zab hy6,zae hy6,zac zaH hy6]
  refine zaa (v:= .ptr 11 0 3) (fun hb22=>by simp only[go_sem,zab hy6,zae hy6,zac zaH hy6,hc3,hb22]) ?_
  try simp only[go_sem,zab hy6,zae hy6,zac zaH hy6]
  refine zaa (v:= .d (.str y5.value)) (fun hb21=>by simp only[go_sem,zab hy6,zae hy6,zac zaH hy6,hc3,hb21]) ?_
  try simp only[go_sem,zab hy6,zae hy6,zac zaH hy6]
  refine zaa (v:= .d (.int .i64 (y5.value.length:Int))) (fun hb20=>by simp only[go_sem,zab hy6,zae hy6,zac zaH hy6,hc3,hb20]) ?_
  try simp only[go_sem,zab hy6,zae hy6,zac zaH hy6]
  refine zaa (v:= .d (.bool (decide (4096<(y5.value.length:Int))))) (fun hb19=>by simp only[go_sem,zab hy6,zae hy6,zac zaH hy6,hc3,hb19]) ?_
  try simp only[go_sem,zab hy6,zae hy6,zac zaH hy6]
  refine zaa (v:= .d (.list a0.n (a0.l.map zaH))) (fun hb18=>by simp only[go_sem,zab hy6,zae hy6,zac zaH hy6,hc3,hb18]) ?_
  try simp only[go_sem,zab hy6,zae hy6,zac zaH hy6]
  refine zaa (v:= .d (.int .i64 x0)) (fun hb17=>by simp only[go_sem,zab hy6,zae hy6,zac zaH hy6,hc3,hb17]) ?_
  try simp only[go_sem,zab hy6,zae hy6,zac zaH hy6]
  refine zaD (fun hc9=> ?_) (fun hc10=> ?_)
  ·rw[if_pos (show(!(bif (!r7)then true else(decide (4096<(y5.value.length:Int)))))=true by(rw[hc9];rfl))]at h
   try simp only[go_sem,zab hy6,zae hy6,zac zaH hy6,hc9]
   obtain⟨y11,hy12,h⟩:=bs h
   refine zre (e:=zaH) (n:=a0.n) (l:=a0.l) (sz:=4) (lo:=none) (hi:=(some x0)) (by simp only[go_sem,zab hy6,zae hy6,zac zaH hy6,zyj];done) (by decide) (fun _=>rfl) hy12 ?_
   try simp only[go_sem,zab hy6,zae hy6,zac zaH hy6]
   obtain⟨r13,hr14,h⟩:=bs h
   replace hr14:=zao hr14
   refine zas hr14 ?_
   try simp only[go_sem,zab hy6,zae hy6,zac zaH hy6]
   refine zal (fun hc15=> ?_) (fun hc16=> ?_)
   ·rw[if_pos hc15]at h
    try simp only[go_sem,zab hy6,zae hy6,zac zaH hy6]
    cases h
    exact⟨rfl,by simp,Up.of (N:=7) (N':=34) [] rfl rfl (by decide) (.set (.d _) zan.none) zap.at⟩
   rw[if_neg (ff hc16)]at h
   try simp only[go_sem,zab hy6,zae hy6,zac zaH hy6]
   cases h
   exact⟨rfl,Up.of (N:=7) (N':=35) [] rfl rfl (by decide) (.set (.d _) (.set (.d _) (.set (.d _) (.set (.d _) zan.none)))) zap.at⟩
  rw[if_neg (ffn hc10)]at h
  try simp only[go_sem,zab hy6,zae hy6,zac zaH hy6,hc10]
  cases h
  exact⟨rfl,by simp,Up.of (N:=7) (N':=34) [] rfl rfl (by decide) (.set (.d _) zan.none) zap.at⟩
 rw[if_neg (ff hc4)]at h
 try simp only[go_sem]
 cases h
 exact⟨rfl,by simp,Up.of (N:=7) (N':=8) [] rfl rfl (by decide) zan.none zap.at⟩
noncomputable def zIr (a0:Sl (Attr)):Option (Bool):=
 if(decide (64<(a0.l.length:Int)))=true then
  some false
 else
  (zaR (zdg a0) 0).bind fun r23=>
  match r23 with
  |(.inl q25)=>
   some true
  |(.inr q26)=>
   some false
theorem zIs (a0:Sl (Attr)) (r:Bool) (h:zIr a0=some r):pc prog 192 [.list a0.n (a0.l.map zaH)]=some (D.bool r):=by
 unfold zIr at h
 refine zbc (fn:=zGL) rfl rfl ?_
 delta zGL
 try simp only[go_sem]
 refine zal (fun hc1=> ?_) (fun hc2=> ?_)
 ·rw[if_pos hc1]at h
  try simp only[go_sem]
  cases h
  rfl
 rw[if_neg (ff hc2)]at h
 try simp only[go_sem]
 obtain⟨r23,hl24,h⟩:=bs h
 refine Wp.loopR zbE (n:=(0,[])) (a:=zpm) rfl (zeL a0) (zhU a0) (zvA a0) hl24 ?_ (by(repeat(first|refine Clo.block ?_|refine Clo.seq zbE rfl ?_));(exact Clo.ret)) ?_
 ·show Up (0,[]) (zeL a0 0) _
  delta zeL
  exact Up.of (N:=7) (N':=7) [] rfl rfl (by decide) (.set (.d _) (.set (.d _) (.set (.d _) (.set (.d _) zan.none)))) zap.at
 rcases r23 with(q25|q26)
 ·dsimp only at h
  dsimp only[zhU]
  try simp only[go_sem]
  cases h
  rfl
 dsimp only at h
 dsimp only[zhU]
 try simp only[go_sem]
 cases h
 rfl
noncomputable def zIt (a0:Name):Option (Bool):=
 if(bif (bif (bif (!(a0.local_==[]))then(decide ((a0.space.length:Int)≤1024))else false)then(decide ((a0.prefix_.length:Int)≤1024))else false)then(decide ((a0.local_.length:Int)≤1024))else false)=true then
  some (bif (a0.prefix_==[])then true else(!(a0.space==[])))
 else
  some false
theorem zIu (a0:Name) (r:Bool) (h:zIt a0=some r):pc prog 193 [zbL a0]=some (D.bool r):=by
 unfold zIt at h
 refine zbc (fn:=zGM) rfl rfl ?_
 delta zGM
 try simp only[go_sem]
 refine zaa (v:= .ptr 0 0 0) (fun hb27=>by simp only[go_sem,hb27]) ?_
 try simp only[go_sem]
 refine zaa (v:= .d (.str a0.space)) (fun hb26=>by simp only[go_sem,hb26]) ?_
 try simp only[go_sem]
 refine zaa (v:= .d (.int .i64 (a0.space.length:Int))) (fun hb25=>by simp only[go_sem,hb25]) ?_
 try simp only[go_sem]
 refine zaa (v:= .d (.bool (decide ((a0.space.length:Int)≤1024)))) (fun hb24=>by simp only[go_sem,hb24]) ?_
 try simp only[go_sem]
 refine zaa (v:= .ptr 0 0 1) (fun hb23=>by simp only[go_sem,hb23]) ?_
 try simp only[go_sem]
 refine zaa (v:= .d (.str a0.prefix_)) (fun hb22=>by simp only[go_sem,hb22]) ?_
 try simp only[go_sem]
 refine zaa (v:= .d (.int .i64 (a0.prefix_.length:Int))) (fun hb21=>by simp only[go_sem,hb21]) ?_
 try simp only[go_sem]
 refine zaa (v:= .d (.bool (decide ((a0.prefix_.length:Int)≤1024)))) (fun hb20=>by simp only[go_sem,hb20]) ?_
 try simp only[go_sem]
 refine zaa (v:= .ptr 0 0 2) (fun hb19=>by simp only[go_sem,hb19]) ?_
 try simp only[go_sem]
 refine zaa (v:= .d (.str a0.local_)) (fun hb18=>by simp only[go_sem,hb18]) ?_
 try simp only[go_sem]
 refine zaa (v:= .d (.int .i64 (a0.local_.length:Int))) (fun hb17=>by simp only[go_sem,hb17]) ?_
 try simp only[go_sem]
 refine zaa (v:= .d (.bool (decide ((a0.local_.length:Int)≤1024)))) (fun hb16=>by simp only[go_sem,hb16]) ?_
 try simp only[go_sem]
 refine zaa (v:= .ptr 0 0 1) (fun hb15=>by simp only[go_sem,hb15]) ?_
 try simp only[go_sem]
 refine zaa (v:= .d (.str a0.prefix_)) (fun hb14=>by simp only[go_sem,hb14]) ?_
 try simp only[go_sem]
 refine zaa (v:= .d (.bool (a0.prefix_==[]))) (fun hb13=>by simp only[go_sem,hb13]) ?_
 try simp only[go_sem]
 refine zaa (v:= .d (.bool (a0.prefix_==[]))) (fun hb12=>by simp only[go_sem,hb12]) ?_
 try simp only[go_sem]
 refine zaa (v:= .ptr 0 0 0) (fun hb9=>by((obtain⟨hb10,hb11⟩:=zaw hb9));simp only[go_sem,hb11,hb10]) ?_
 try simp only[go_sem]
 refine zaa (v:= .d (.str a0.space)) (fun hb6=>by((obtain⟨hb7,hb8⟩:=zaw hb6));simp only[go_sem,hb8,hb7]) ?_
 try simp only[go_sem]
 refine zaa (v:= .d (.bool (!(a0.space==[])))) (fun hb3=>by((obtain⟨hb4,hb5⟩:=zaw hb3));simp only[go_sem,hb5,hb4]) ?_
 try simp only[go_sem]
 refine zaF (fun hc1=> ?_) (fun hc2=> ?_)
 ·rw[if_pos hc1]at h
  try simp only[go_sem,hc1]
  cases h
  rfl
 rw[if_neg (ff hc2)]at h
 try simp only[go_sem,hc2]
 cases h
 rfl
noncomputable def zIv (a0:Int):Option (Bool):=
 some (bif (bif (bif (a0==3)then true else(a0==4))then true else(a0==7))then true else(a0==8))
theorem zIw (a0:Int) (r:Bool) (h:zIv a0=some r):pc prog 194 [.int .u8 a0]=some (D.bool r):=by
 unfold zIv at h
 refine zbc (fn:=zGN) rfl rfl ?_
 delta zGN
 try simp only[go_sem]
 refine zaa (v:= .d (.int .u8 a0)) (fun hb6=>by simp only[go_sem,hb6]) ?_
 try simp only[go_sem]
 refine zaa (v:= .d (.bool (a0==4))) (fun hb5=>by simp only[go_sem,hb5]) ?_
 try simp only[go_sem]
 refine zaa (v:= .d (.int .u8 a0)) (fun hb4=>by simp only[go_sem,hb4]) ?_
 try simp only[go_sem]
 refine zaa (v:= .d (.bool (a0==7))) (fun hb3=>by simp only[go_sem,hb3]) ?_
 try simp only[go_sem]
 refine zaa (v:= .d (.int .u8 a0)) (fun hb2=>by simp only[go_sem,hb2]) ?_
 try simp only[go_sem]
 refine zaa (v:= .d (.bool (a0==8))) (fun hb1=>by simp only[go_sem,hb1]) ?_
 try simp only[go_sem]
 cases h
 rfl
noncomputable def zIx (a0:Int):Option (Bool):=
 some (bif (bif (bif (a0==1)then true else(a0==9))then true else(a0==11))then true else(a0==12))
theorem zIy (a0:Int) (r:Bool) (h:zIx a0=some r):pc prog 195 [.int .u8 a0]=some (D.bool r):=by
 unfold zIx at h
 refine zbc (fn:=zGO) rfl rfl ?_
 delta zGO
 try simp only[go_sem]
 refine zaa (v:= .d (.int .u8 a0)) (fun hb6=>by simp only[go_sem,hb6]) ?_
 try simp only[go_sem]
 refine zaa (v:= .d (.bool (a0==9))) (fun hb5=>by simp only[go_sem,hb5]) ?_
 try simp only[go_sem]
 refine zaa (v:= .d (.int .u8 a0)) (fun hb4=>by simp only[go_sem,hb4]) ?_
 try simp only[go_sem]
 refine zaa (v:= .d (.bool (a0==11))) (fun hb3=>by simp only[go_sem,hb3]) ?_
 try simp only[go_sem]
 refine zaa (v:= .d (.int .u8 a0)) (fun hb2=>by simp only[go_sem,hb2]) ?_
 try simp only[go_sem]
 refine zaa (v:= .d (.bool (a0==12))) (fun hb1=>by simp only[go_sem,hb1]) ?_
 try simp only[go_sem]
 cases h
 rfl
def zeM (a0:Sl (Int)) (a1:Int) (x0:Int×Int):St:=⟨(((((Regs.none.set 1 (.d (.int .i64 a1))).set 5 (.d (.int .i64 x0.2))).set 8 (.d (.list a0.n (a0.l.map (D.int .i64))))).set 9 (.d (.int .i64 (a0.l.length:Int)))).set 10 (.d (.int .i64 x0.1))),(Heap.at 5)⟩
def zkS (a0:Sl (Int)) (a1:Int):((Int))→Ex×St:=fun r=>(.exit 0,⟨(Regs.none.set 5 (.d (.int .i64 r))),(Heap.at 5)⟩)
noncomputable def zdh (a0:Sl (Int)) (a1:Int) (x0:Int×Int):Option ((Int×Int)⊕((Int))):=
 if(decide (x0.1<(a0.l.length:Int)))=true then
  (rd a0.l x0.1).bind fun y3=>
  if(y3==a1)=true then
   some (.inl ((IntKind.wrap .i64 (x0.1+1)),(IntKind.wrap .i64 (x0.2+1))))
  else
   some (.inl ((IntKind.wrap .i64 (x0.1+1)),x0.2))
 else
  some (.inr x0.2)
theorem zvB (a0:Sl (Int)) (a1:Int) (x0:Int×Int) (o:(Int×Int)⊕((Int))) (h:zdh a0 a1 x0=some o):Wp prog zpn (zeM a0 a1 x0) (zcr (0,[]) (zeM a0 a1) (zkS a0 a1) o):=by
 unfold zdh at h
 delta zpn zeM
 try simp only[go_sem]
 refine zal (fun hc1=> ?_) (fun hc2=> ?_)
 ·rw[if_pos hc1]at h
  try simp only[go_sem]
  obtain⟨y3,hy4,h⟩:=bs h
  try simp only[go_sem,zab hy4,zae hy4,zac (D.int .i64) hy4]
  refine zal (fun hc5=> ?_) (fun hc6=> ?_)
  ·rw[if_pos hc5]at h
   try simp only[go_sem,zab hy4,zae hy4,zac (D.int .i64) hy4]
   cases h
   exact⟨rfl,Up.of (N:=5) (N':=17) [] rfl rfl (by decide) (.set (.d _) (.set (.d _) (.set (.d _) (.set (.d _) (.set (.d _) zan.none))))) zap.at⟩
  rw[if_neg (ff hc6)]at h
  try simp only[go_sem,zab hy4,zae hy4,zac (D.int .i64) hy4]
  cases h
  exact⟨rfl,Up.of (N:=5) (N':=14) [] rfl rfl (by decide) (.set (.d _) (.set (.d _) (.set (.d _) (.set (.d _) (.set (.d _) zan.none))))) zap.at⟩
 rw[if_neg (ff hc2)]at h
 try simp only[go_sem]
 cases h
 exact⟨rfl,by simp,Up.of (N:=5) (N':=6) [] rfl rfl (by decide) (.set (.d _) zan.none) zap.at⟩
noncomputable def zIz (a0:Sl (Int)) (a1:Int):Option (Int):=
 (zaR (zdh a0 a1) (0,0)).bind fun r7=>
 some r7
theorem zIA (a0:Sl (Int)) (a1:Int) (r:Int) (h:zIz a0 a1=some r):pc prog 196 [.list a0.n (a0.l.map (D.int .i64)),.int .i64 a1]=some ((D.int .i64) r):=by
 unfold zIz at h
 refine zbc (fn:=zGP) rfl rfl ?_
 delta zGP
 try simp only[go_sem]
 obtain⟨r7,hl8,h⟩:=bs h
 refine Wp.loopR zbE (n:=(0,[])) (a:=zpn) rfl (zeM a0 a1) (zkS a0 a1) (zvB a0 a1) hl8 ?_ (by(repeat(first|refine Clo.block ?_|refine Clo.seq zbE rfl ?_));(exact Clo.ret)) ?_
 ·show Up (0,[]) (zeM a0 a1 (0,0)) _
  delta zeM
  exact Up.of (N:=5) (N':=5) [] rfl rfl (by decide) (.set (.d _) (.set (.d _) (.set (.d _) (.set (.d _) (.set (.d _) zan.none))))) zap.at
 dsimp only[zkS]
 try simp only[go_sem]
 cases h
 rfl
noncomputable def zIB (a0:Forest) (a1:Int):Option (Int):=
 (dec (eT2 zah D.bool) (pc prog 43 [zai a0,.int .i64 a1])).bind fun r1=>
 some r1.1.kind
theorem zIC (a0:Forest) (a1:Int) (r:Int) (h:zIB a0 a1=some r):pc prog 197 [zai a0,.int .i64 a1]=some ((D.int .u8) r):=by
 unfold zIB at h
 refine zbc (fn:=zGQ) rfl rfl ?_
 delta zGQ
 try simp only[go_sem]
 obtain⟨r1,hr2,h⟩:=bs h
 replace hr2:=zao hr2
 refine zas hr2 ?_
 try simp only[go_sem]
 cases h
 rfl
def zeN (a0:Forest) (a1:Int) (a2:Sl (Int)) (x0:Int×Int×Int):St:=⟨(((((((Regs.none.set 1 (.d (.int .u8 a1))).set 3 (.ptr 0 0 0)).set 7 (.d (.int .i64 x0.2.1))).set 8 (.d (.int .i64 x0.2.2))).set 11 (.d (.list a2.n (a2.l.map (D.int .i64))))).set 12 (.d (.int .i64 (a2.l.length:Int)))).set 13 (.d (.int .i64 x0.1))),((Heap.at 7).set 0 (some (.els 1 [.d (zai a0)] 0)))⟩
def zhV (a0:Forest) (a1:Int) (a2:Sl (Int)):((Int×Int)⊕(Unit))→Ex×St:=fun r=>match r with
 |(.inl r)=>(.exit 0,⟨(((Regs.none.set 1 (.d (.int .u8 a1))).set 7 (.d (.int .i64 r.1))).set 8 (.d (.int .i64 r.2))),(Heap.at 7)⟩)
 |(.inr r)=>(.ret,⟨(Regs.none.set 6 (.d (.bool false))),(Heap.at 7)⟩)
noncomputable def zdi (a0:Forest) (a1:Int) (a2:Sl (Int)) (x0:Int×Int×Int):Option ((Int×Int×Int)⊕((Int×Int)⊕(Unit))):=
 if(decide (x0.1<(a2.l.length:Int)))=true then
  (rd a2.l x0.1).bind fun y3=>
  (dec (D.int .u8) (pc prog 197 [zai a0,.int .i64 y3])).bind fun r5=>
  if(r5==1)=true then
   some (.inl ((IntKind.wrap .i64 (x0.1+1)),(IntKind.wrap .i64 (x0.2.1+1)),x0.2.2))
  else
   (if(r5==3)=true then
    some (r5==3)
   else
    some (r5==4):Option ((Bool))).bind fun r11=>
   if r11=true then
    if(a1==9)=true then
     some (.inr (.inr ()))
    else
     some (.inl ((IntKind.wrap .i64 (x0.1+1)),x0.2.1,x0.2.2))
   else
    (if(r5==8)=true then
     some (r5==8)
    else
     some (r5==7):Option ((Bool))).bind fun r19=>
    if r19=true then
     some (.inl ((IntKind.wrap .i64 (x0.1+1)),x0.2.1,x0.2.2))
    else
     if(r5==10)=true then
      if(bif (!(a1==9))then true else(decide (0<x0.2.1)))=true then
       some (.inr (.inr ()))
      else
       some (.inl ((IntKind.wrap .i64 (x0.1+1)),x0.2.1,(IntKind.wrap .i64 (x0.2.2+1))))
     else
      some (.inr (.inr ()))
 else
  some (.inr (.inl (x0.2.1,x0.2.2)))
theorem zvC (a0:Forest) (a1:Int) (a2:Sl (Int)) (x0:Int×Int×Int) (o:(Int×Int×Int)⊕((Int×Int)⊕(Unit))) (h:zdi a0 a1 a2 x0=some o):Wp prog zpo (zeN a0 a1 a2 x0) (zcr (0,[]) (zeN a0 a1 a2) (zhV a0 a1 a2) o):=by
 unfold zdi at h
 delta zpo zeN
 try simp only[go_sem]
 refine zal (fun hc1=> ?_) (fun hc2=> ?_)
 ·rw[if_pos hc1]at h
  try simp only[go_sem]
  obtain⟨y3,hy4,h⟩:=bs h
  try simp only[go_sem,zab hy4,zae hy4,zac (D.int .i64) hy4]
  obtain⟨r5,hr6,h⟩:=bs h
  replace hr6:=zao hr6
  refine zas hr6 ?_
  try simp only[go_sem,zab hy4,zae hy4,zac (D.int .i64) hy4]
  refine zal (fun hc7=> ?_) (fun hc8=> ?_)
  ·rw[if_pos hc7]at h
   try simp only[go_sem,zab hy4,zae hy4,zac (D.int .i64) hy4]
   cases h
   exact⟨rfl,Up.of (N:=7) (N':=21) [] rfl rfl (by decide) (.set (.d _) (.set (.d _) (.set (.d _) (.set (.d _) (.set (.d _) (.set (.ptr' rfl) (.set (.d _) zan.none))))))) (.set zaC.refl_d zap.at)⟩
  rw[if_neg (ff hc8)]at h
  try simp only[go_sem,zab hy4,zae hy4,zac (D.int .i64) hy4]
  obtain⟨r11,hl12,h⟩:=bs h
  refine WBr.cut (n:=(0,[])) .normal ⟨(((((((((Regs.none.set 1 (.d (.int .u8 a1))).set 3 (.ptr 0 0 0)).set 7 (.d (.int .i64 x0.2.1))).set 8 (.d (.int .i64 x0.2.2))).set 11 (.d (.list a2.n (a2.l.map (D.int .i64))))).set 12 (.d (.int .i64 (a2.l.length:Int)))).set 13 (.d (.int .i64 x0.1))).set 19 (.d (.int .u8 r5))).set 24 (.d (.bool r11))),((Heap.at 18).set 0 (some (.els 1 [.d (zai a0)] 0)))⟩ ?_ (by(repeat(first|refine Clo.block ?_|refine Clo.seq zbE rfl ?_));(exact Clo.lpost (by decide))) ?_
  ·replace h:=hl12
   refine zal (fun hc9=> ?_) (fun hc10=> ?_)
   ·rw[if_pos hc9]at h
    try simp only[go_sem,zab hy4,zae hy4,zac (D.int .i64) hy4]
    cases h
    exact⟨rfl,Up.of (N:=18) (N':=18) [] rfl rfl (by decide) (.set (.d _) (.set (.d _) (.set (.d _) (.set (.d _) (.set (.d _) (.set (.d _) (.set (.d _) (.set (.ptr' rfl) (.set (.d _) zan.none))))))))) (.set zaC.refl_d zap.at)⟩
   rw[if_neg (ff hc10)]at h
   try simp only[go_sem,zab hy4,zae hy4,zac (D.int .i64) hy4]
   cases h
   exact⟨rfl,Up.of (N:=18) (N':=20) [] rfl rfl (by decide) (.set (.d _) (.set (.d _) (.set (.d _) (.set (.d _) (.set (.d _) (.set (.d _) (.set (.d _) (.set (.ptr' rfl) (.set (.d _) zan.none))))))))) (.set zaC.refl_d zap.at)⟩
  try simp only[go_sem,zab hy4,zae hy4,zac (D.int .i64) hy4]
  refine zal (fun hc13=> ?_) (fun hc14=> ?_)
  ·rw[if_pos hc13]at h
   try simp only[go_sem,zab hy4,zae hy4,zac (D.int .i64) hy4]
   refine zal (fun hc15=> ?_) (fun hc16=> ?_)
   ·rw[if_pos hc15]at h
    try simp only[go_sem,zab hy4,zae hy4,zac (D.int .i64) hy4]
    cases h
    exact⟨rfl,by simp,Up.of (N:=7) (N':=21) [] rfl rfl (by decide) (.set (.d _) zan.none) zap.at⟩
   rw[if_neg (ff hc16)]at h
   try simp only[go_sem,zab hy4,zae hy4,zac (D.int .i64) hy4]
   cases h
   exact⟨rfl,Up.of (N:=7) (N':=22) [] rfl rfl (by decide) (.set (.d _) (.set (.d _) (.set (.d _) (.set (.d _) (.set (.d _) (.set (.ptr' rfl) (.set (.d _) zan.none))))))) (.set zaC.refl_d zap.at)⟩
  rw[if_neg (ff hc14)]at h
  try simp only[go_sem,zab hy4,zae hy4,zac (D.int .i64) hy4]
  obtain⟨r19,hl20,h⟩:=bs h
  refine WBr.cut (n:=(0,[])) .normal ⟨(((((((((Regs.none.set 1 (.d (.int .u8 a1))).set 3 (.ptr 0 0 0)).set 7 (.d (.int .i64 x0.2.1))).set 8 (.d (.int .i64 x0.2.2))).set 11 (.d (.list a2.n (a2.l.map (D.int .i64))))).set 12 (.d (.int .i64 (a2.l.length:Int)))).set 13 (.d (.int .i64 x0.1))).set 19 (.d (.int .u8 r5))).set 29 (.d (.bool r19))),((Heap.at 20).set 0 (some (.els 1 [.d (zai a0)] 0)))⟩ ?_ (by(repeat(first|refine Clo.block ?_|refine Clo.seq zbE rfl ?_));(exact Clo.lpost (by decide))) ?_
  ·replace h:=hl20
   refine zal (fun hc17=> ?_) (fun hc18=> ?_)
   ·rw[if_pos hc17]at h
    try simp only[go_sem,zab hy4,zae hy4,zac (D.int .i64) hy4]
    cases h
    exact⟨rfl,Up.of (N:=20) (N':=20) [] rfl rfl (by decide) (.set (.d _) (.set (.d _) (.set (.d _) (.set (.d _) (.set (.d _) (.set (.d _) (.set (.d _) (.set (.ptr' rfl) (.set (.d _) zan.none))))))))) (.set zaC.refl_d zap.at)⟩
   rw[if_neg (ff hc18)]at h
   try simp only[go_sem,zab hy4,zae hy4,zac (D.int .i64) hy4]
   cases h
   exact⟨rfl,Up.of (N:=20) (N':=22) [] rfl rfl (by decide) (.set (.d _) (.set (.d _) (.set (.d _) (.set (.d _) (.set (.d _) (.set (.d _) (.set (.d _) (.set (.ptr' rfl) (.set (.d _) zan.none))))))))) (.set zaC.refl_d zap.at)⟩
  try simp only[go_sem,zab hy4,zae hy4,zac (D.int .i64) hy4]
  refine zal (fun hc21=> ?_) (fun hc22=> ?_)
  ·rw[if_pos hc21]at h
   try simp only[go_sem,zab hy4,zae hy4,zac (D.int .i64) hy4]
   cases h
   exact⟨rfl,Up.of (N:=7) (N':=22) [] rfl rfl (by decide) (.set (.d _) (.set (.d _) (.set (.d _) (.set (.d _) (.set (.d _) (.set (.ptr' rfl) (.set (.d _) zan.none))))))) (.set zaC.refl_d zap.at)⟩
  rw[if_neg (ff hc22)]at h
  try simp only[go_sem,zab hy4,zae hy4,zac (D.int .i64) hy4]
  refine zal (fun hc23=> ?_) (fun hc24=> ?_)
  ·rw[if_pos hc23]at h
   try simp only[go_sem,zab hy4,zae hy4,zac (D.int .i64) hy4]
   refine zaa (v:= .d (.int .i64 x0.2.1)) (fun hb28=>by simp only[go_sem,zab hy4,zae hy4,zac (D.int .i64) hy4,hc1,hc8,hc14,hc22,hc23,hb28]) ?_
   try simp only[go_sem,zab hy4,zae hy4,zac (D.int .i64) hy4]
   refine zaa (v:= .d (.bool (decide (0<x0.2.1)))) (fun hb27=>by simp only[go_sem,zab hy4,zae hy4,zac (D.int .i64) hy4,hc1,hc8,hc14,hc22,hc23,hb27]) ?_
   try simp only[go_sem,zab hy4,zae hy4,zac (D.int .i64) hy4]
   refine zal (fun hc25=> ?_) (fun hc26=> ?_)
   ·rw[if_pos hc25]at h
    try simp only[go_sem,zab hy4,zae hy4,zac (D.int .i64) hy4]
    cases h
    exact⟨rfl,by simp,Up.of (N:=7) (N':=32) [] rfl rfl (by decide) (.set (.d _) zan.none) zap.at⟩
   rw[if_neg (ff hc26)]at h
   try simp only[go_sem,zab hy4,zae hy4,zac (D.int .i64) hy4]
   cases h
   exact⟨rfl,Up.of (N:=7) (N':=33) [] rfl rfl (by decide) (.set (.d _) (.set (.d _) (.set (.d _) (.set (.d _) (.set (.d _) (.set (.ptr' rfl) (.set (.d _) zan.none))))))) (.set zaC.refl_d zap.at)⟩
  rw[if_neg (ff hc24)]at h
  try simp only[go_sem,zab hy4,zae hy4,zac (D.int .i64) hy4]
  cases h
  exact⟨rfl,by simp,Up.of (N:=7) (N':=23) [] rfl rfl (by decide) (.set (.d _) zan.none) zap.at⟩
 rw[if_neg (ff hc2)]at h
 try simp only[go_sem]
 cases h
 exact⟨rfl,by simp,Up.of (N:=7) (N':=8) [] rfl rfl (by decide) (.set (.d _) (.set (.d _) (.set (.d _) zan.none))) zap.at⟩
noncomputable def zID (a0:Forest) (a1:Int) (a2:Sl (Int)):Option (Bool):=
 (zaR (zdi a0 a1 a2) (0,0,0)).bind fun r29=>
 match r29 with
 |(.inl q31)=>
  if(a1==9)=true then
   some (bif (decide (q31.1≤1))then(decide (q31.2≤1))else false)
  else
   some true
 |(.inr q43)=>
  some false
theorem zIE (a0:Forest) (a1:Int) (a2:Sl (Int)) (r:Bool) (h:zID a0 a1 a2=some r):pc prog 198 [zai a0,.int .u8 a1,.list a2.n (a2.l.map (D.int .i64))]=some (D.bool r):=by
 unfold zID at h
 refine zbc (fn:=zGR) rfl rfl ?_
 delta zGR
 try simp only[go_sem]
 obtain⟨r29,hl30,h⟩:=bs h
 refine Wp.loopR zbE (n:=(0,[])) (a:=zpo) rfl (zeN a0 a1 a2) (zhV a0 a1 a2) (zvC a0 a1 a2) hl30 ?_ (by(repeat(first|refine Clo.block ?_|refine Clo.seq zbE rfl ?_));(exact Clo.ret)) ?_
 ·show Up (0,[]) (zeN a0 a1 a2 (0,0,0)) _
  delta zeN
  exact Up.of (N:=7) (N':=7) [] rfl rfl (by decide) (.set (.d _) (.set (.d _) (.set (.d _) (.set (.d _) (.set (.d _) (.set (.ptr' rfl) (.set (.d _) zan.none))))))) (.set zaC.refl_d zap.at)
 rcases r29 with(q31|q43)
 ·dsimp only at h
  dsimp only[zhV]
  try simp only[go_sem]
  refine zaa (v:= .d (.int .i64 q31.1)) (fun hb42=>by simp only[go_sem,hb42]) ?_
  try simp only[go_sem]
  refine zaa (v:= .d (.bool (decide (q31.1≤1)))) (fun hb41=>by simp only[go_sem,hb41]) ?_
  try simp only[go_sem]
  refine zaa (v:= .d (.bool (decide (q31.1≤1)))) (fun hb40=>by simp only[go_sem,hb40]) ?_
  try simp only[go_sem]
  refine zaa (v:= .d (.int .i64 q31.2)) (fun hb37=>by((obtain⟨hb38,hb39⟩:=zaw hb37));simp only[go_sem,hb39,hb38]) ?_
  try simp only[go_sem]
  refine zaa (v:= .d (.bool (decide (q31.2≤1)))) (fun hb34=>by((obtain⟨hb35,hb36⟩:=zaw hb34));simp only[go_sem,hb36,hb35]) ?_
  try simp only[go_sem]
  refine zaF (fun hc32=> ?_) (fun hc33=> ?_)
  ·rw[if_pos hc32]at h
   try simp only[go_sem,hc32]
   cases h
   rfl
  rw[if_neg (ff hc33)]at h
  try simp only[go_sem,hc33]
  cases h
  rfl
 dsimp only at h
 dsimp only[zhV]
 try simp only[go_sem]
 cases h
 rfl
noncomputable def zIF (a0:Node):Option (Int):=
 if(a0.kind==12)=true then
  some a0.host
 else
  some a0.parent
theorem zIG (a0:Node) (r:Int) (h:zIF a0=some r):pc prog 199 [zah a0]=some ((D.int .i64) r):=by
 unfold zIF at h
 refine zbc (fn:=zGS) rfl rfl ?_
 delta zGS
 try simp only[go_sem]
 refine zal (fun hc1=> ?_) (fun hc2=> ?_)
 ·rw[if_pos hc1]at h
  try simp only[go_sem]
  cases h
  rfl
 rw[if_neg (ff hc2)]at h
 try simp only[go_sem]
 cases h
 rfl
noncomputable def zIH (a0:Name):Option (Bool):=
 if(!(a0.local_==[]))=true then
  (dec D.bool (pc prog 186 [.list false (([a0.space,a0.prefix_,a0.local_]).map D.str)])).bind fun r3=>
  if r3=true then
   some (bif (a0.prefix_==[])then true else(!(a0.space==[])))
  else
   some false
 else
  some false
theorem zII (a0:Name) (r:Bool) (h:zIH a0=some r):pc prog 203 [zbL a0]=some (D.bool r):=by
 unfold zIH at h
 refine zbc (fn:=zGT) rfl rfl ?_
 delta zGT
 try simp only[go_sem]
 refine zaa (v:= .ptr 0 0 0) (fun hb25=>by simp only[go_sem,hb25]) ?_
 try simp only[go_sem]
 refine zaa (v:= .d (.str a0.space)) (fun hb24=>by simp only[go_sem,hb24]) ?_
 try simp only[go_sem]
 refine zaa (v:= .ptr 0 0 1) (fun hb23=>by simp only[go_sem,hb23]) ?_
 try simp only[go_sem]
 refine zaa (v:= .d (.str a0.prefix_)) (fun hb22=>by simp only[go_sem,hb22]) ?_
 try simp only[go_sem]
 refine zaa (v:= .ptr 0 0 2) (fun hb21=>by simp only[go_sem,hb21]) ?_
 try simp only[go_sem]
 refine zaa (v:= .d (.str a0.local_)) (fun hb20=>by simp only[go_sem,hb20]) ?_
 try simp only[go_sem]
 refine zaD (fun hc1=> ?_) (fun hc2=> ?_)
 ·rw[if_pos (show(!(a0.local_==[]))=true by(rw[hc1];rfl))]at h
  try simp only[go_sem,hc1]
  obtain⟨r3,hr4,h⟩:=bs h
  replace hr4:=zao hr4
  refine zas hr4 ?_
  try simp only[go_sem]
  refine zaa (v:= .ptr 0 0 1) (fun hb19=>by simp only[go_sem,hc1,hb19]) ?_
  try simp only[go_sem]
  refine zaa (v:= .d (.str a0.prefix_)) (fun hb18=>by simp only[go_sem,hc1,hb18]) ?_
  try simp only[go_sem]
  refine zaa (v:= .d (.bool (a0.prefix_==[]))) (fun hb17=>by simp only[go_sem,hc1,hb17]) ?_
  try simp only[go_sem]
  refine zaa (v:= .d (.bool (a0.prefix_==[]))) (fun hb16=>by simp only[go_sem,hc1,hb16]) ?_
  try simp only[go_sem]
  refine zaa (v:= .ptr 0 0 0) (fun hb13=>by((obtain⟨hb14,hb15⟩:=zaw hb13));simp only[go_sem,hc1,hb15,hb14]) ?_
  try simp only[go_sem]
  refine zaa (v:= .d (.str a0.space)) (fun hb10=>by((obtain⟨hb11,hb12⟩:=zaw hb10));simp only[go_sem,hc1,hb12,hb11]) ?_
  try simp only[go_sem]
  refine zaa (v:= .d (.bool (!(a0.space==[])))) (fun hb7=>by((obtain⟨hb8,hb9⟩:=zaw hb7));simp only[go_sem,hc1,hb9,hb8]) ?_
  try simp only[go_sem]
  refine zaF (fun hc5=> ?_) (fun hc6=> ?_)
  ·rw[if_pos hc5]at h
   try simp only[go_sem,hc5]
   cases h
   rfl
  rw[if_neg (ff hc6)]at h
  try simp only[go_sem,hc6]
  cases h
  rfl
 rw[if_neg (ffn hc2)]at h
 try simp only[go_sem,hc2]
 cases h
 rfl
noncomputable def zJH (a0:Name):Option (forest_key):=
 some (⟨a0.space,a0.local_⟩:forest_key)
theorem zIJ (a0:Name) (r:forest_key) (h:zJH a0=some r):pc prog 204 [zbL a0]=some (zag r):=by
 unfold zJH at h
 refine zbc (fn:=zGU) rfl rfl ?_
 delta zGU
 try simp only[go_sem]
 cases h
 rfl
def zeO (a0:Forest) (a1:Node) (x0:Int×Int×Int):St:=⟨(((((((Regs.none.set 2 (.ptr 0 0 0)).set 5 (.d (.bool (a1.kind==9)))).set 6 (.d (.int .i64 x0.2.1))).set 7 (.d (.int .i64 x0.2.2))).set 14 (.d (.list a1.kids.n (a1.kids.l.map (D.int .i64))))).set 15 (.d (.int .i64 (a1.kids.l.length:Int)))).set 16 (.d (.int .i64 x0.1))),((Heap.at 13).set 0 (some (.els 1 [.d (zai a0)] 0)))⟩
def zhW (a0:Forest) (a1:Node):((Int×Int)⊕(Unit))→Ex×St:=fun r=>match r with
 |(.inl r)=>(.exit 0,⟨(((Regs.none.set 5 (.d (.bool (a1.kind==9)))).set 6 (.d (.int .i64 r.1))).set 7 (.d (.int .i64 r.2))),(Heap.at 13)⟩)
 |(.inr r)=>(.ret,⟨(Regs.none.set 4 (.d (.bool false))),(Heap.at 13)⟩)
noncomputable def zdj (a0:Forest) (a1:Node) (x0:Int×Int×Int):Option ((Int×Int×Int)⊕((Int×Int)⊕(Unit))):=
 if(decide (x0.1<(a1.kids.l.length:Int)))=true then
  (rd a1.kids.l x0.1).bind fun y3=>
  (dec (D.int .u8) (pc prog 189 [zai a0,.int .i64 y3])).bind fun r5=>
  if(r5==1)=true then
   some (.inl ((IntKind.wrap .i64 (x0.1+1)),(IntKind.wrap .i64 (x0.2.1+1)),x0.2.2))
  else
   if(r5==10)=true then
    if(bif (!(a1.kind==9))then true else(decide (0<x0.2.1)))=true then
     some (.inr (.inr ()))
    else
     some (.inl ((IntKind.wrap .i64 (x0.1+1)),x0.2.1,(IntKind.wrap .i64 (x0.2.2+1))))
   else
    if(r5==3)=true then
     if(a1.kind==9)=true then
      some (.inr (.inr ()))
     else
      some (.inl ((IntKind.wrap .i64 (x0.1+1)),x0.2.1,x0.2.2))
    else
     if(r5==4)=true then
      if(a1.kind==9)=true then
       some (.inr (.inr ()))
      else
       some (.inl ((IntKind.wrap .i64 (x0.1+1)),x0.2.1,x0.2.2))
     else
      if(r5==8)=true then
       some (.inl ((IntKind.wrap .i64 (x0.1+1)),x0.2.1,x0.2.2))
      else
       if(r5==7)=true then
        some (.inl ((IntKind.wrap .i64 (x0.1+1)),x0.2.1,x0.2.2))
       else
        some (.inr (.inr ()))
 else
  some (.inr (.inl (x0.2.1,x0.2.2)))
theorem zvD (a0:Forest) (a1:Node) (x0:Int×Int×Int) (o:(Int×Int×Int)⊕((Int×Int)⊕(Unit))) (h:zdj a0 a1 x0=some o):Wp prog zpp (zeO a0 a1 x0) (zcr (0,[]) (zeO a0 a1) (zhW a0 a1) o):=by
 unfold zdj at h
 delta zpp zeO
 try simp only[go_sem]
 refine zal (fun hc1=> ?_) (fun hc2=> ?_)
 ·rw[if_pos hc1]at h
  try simp only[go_sem]
  obtain⟨y3,hy4,h⟩:=bs h
  try simp only[go_sem,zab hy4,zae hy4,zac (D.int .i64) hy4]
  obtain⟨r5,hr6,h⟩:=bs h
  replace hr6:=zao hr6
  refine zas hr6 ?_
  try simp only[go_sem,zab hy4,zae hy4,zac (D.int .i64) hy4]
  refine zal (fun hc7=> ?_) (fun hc8=> ?_)
  ·rw[if_pos hc7]at h
   try simp only[go_sem,zab hy4,zae hy4,zac (D.int .i64) hy4]
   cases h
   exact⟨rfl,Up.of (N:=13) (N':=27) [] rfl rfl (by decide) (.set (.d _) (.set (.d _) (.set (.d _) (.set (.d _) (.set (.d _) (.set (.d _) (.set (.ptr' rfl) zan.none))))))) (.set zaC.refl_d zap.at)⟩
  rw[if_neg (ff hc8)]at h
  try simp only[go_sem,zab hy4,zae hy4,zac (D.int .i64) hy4]
  refine zal (fun hc9=> ?_) (fun hc10=> ?_)
  ·rw[if_pos hc9]at h
   try simp only[go_sem,zab hy4,zae hy4,zac (D.int .i64) hy4]
   refine zaa (v:= .d (.int .i64 x0.2.1)) (fun hb14=>by simp only[go_sem,zab hy4,zae hy4,zac (D.int .i64) hy4,hc1,hc8,hc9,hb14]) ?_
   try simp only[go_sem,zab hy4,zae hy4,zac (D.int .i64) hy4]
   refine zaa (v:= .d (.bool (decide (0<x0.2.1)))) (fun hb13=>by simp only[go_sem,zab hy4,zae hy4,zac (D.int .i64) hy4,hc1,hc8,hc9,hb13]) ?_
   try simp only[go_sem,zab hy4,zae hy4,zac (D.int .i64) hy4]
   refine zal (fun hc11=> ?_) (fun hc12=> ?_)
   ·rw[if_pos hc11]at h
    try simp only[go_sem,zab hy4,zae hy4,zac (D.int .i64) hy4]
    cases h
    exact⟨rfl,by simp,Up.of (N:=13) (N':=31) [] rfl rfl (by decide) (.set (.d _) zan.none) zap.at⟩
   rw[if_neg (ff hc12)]at h
   try simp only[go_sem,zab hy4,zae hy4,zac (D.int .i64) hy4]
   cases h
   exact⟨rfl,Up.of (N:=13) (N':=35) [] rfl rfl (by decide) (.set (.d _) (.set (.d _) (.set (.d _) (.set (.d _) (.set (.d _) (.set (.d _) (.set (.ptr' rfl) zan.none))))))) (.set zaC.refl_d zap.at)⟩
  rw[if_neg (ff hc10)]at h
  try simp only[go_sem,zab hy4,zae hy4,zac (D.int .i64) hy4]
  refine zal (fun hc15=> ?_) (fun hc16=> ?_)
  ·rw[if_pos hc15]at h
   try simp only[go_sem,zab hy4,zae hy4,zac (D.int .i64) hy4]
   try simp only[go_sem,zab hy4,zae hy4,zac (D.int .i64) hy4,hc1,hc8,hc10,hc15]
   refine zal (fun hc17=> ?_) (fun hc18=> ?_)
   ·rw[if_pos hc17]at h
    try simp only[go_sem,zab hy4,zae hy4,zac (D.int .i64) hy4]
    cases h
    exact⟨rfl,by simp,Up.of (N:=13) (N':=28) [] rfl rfl (by decide) (.set (.d _) zan.none) zap.at⟩
   rw[if_neg (ff hc18)]at h
   try simp only[go_sem,zab hy4,zae hy4,zac (D.int .i64) hy4]
   cases h
   exact⟨rfl,Up.of (N:=13) (N':=29) [] rfl rfl (by decide) (.set (.d _) (.set (.d _) (.set (.d _) (.set (.d _) (.set (.d _) (.set (.d _) (.set (.ptr' rfl) zan.none))))))) (.set zaC.refl_d zap.at)⟩
  rw[if_neg (ff hc16)]at h
  try simp only[go_sem,zab hy4,zae hy4,zac (D.int .i64) hy4]
  refine zal (fun hc19=> ?_) (fun hc20=> ?_)
  ·rw[if_pos hc19]at h
   try simp only[go_sem,zab hy4,zae hy4,zac (D.int .i64) hy4]
   refine zal (fun hc21=> ?_) (fun hc22=> ?_)
   ·rw[if_pos hc21]at h
    try simp only[go_sem,zab hy4,zae hy4,zac (D.int .i64) hy4]
    cases h
    exact⟨rfl,by simp,Up.of (N:=13) (N':=30) [] rfl rfl (by decide) (.set (.d _) zan.none) zap.at⟩
   rw[if_neg (ff hc22)]at h
   try simp only[go_sem,zab hy4,zae hy4,zac (D.int .i64) hy4]
   cases h
   exact⟨rfl,Up.of (N:=13) (N':=31) [] rfl rfl (by decide) (.set (.d _) (.set (.d _) (.set (.d _) (.set (.d _) (.set (.d _) (.set (.d _) (.set (.ptr' rfl) zan.none))))))) (.set zaC.refl_d zap.at)⟩
  rw[if_neg (ff hc20)]at h
  try simp only[go_sem,zab hy4,zae hy4,zac (D.int .i64) hy4]
  refine zal (fun hc23=> ?_) (fun hc24=> ?_)
  ·rw[if_pos hc23]at h
   try simp only[go_sem,zab hy4,zae hy4,zac (D.int .i64) hy4]
   try simp only[go_sem,zab hy4,zae hy4,zac (D.int .i64) hy4,hc1,hc8,hc10,hc16,hc20,hc23]
   cases h
   exact⟨rfl,Up.of (N:=13) (N':=32) [] rfl rfl (by decide) (.set (.d _) (.set (.d _) (.set (.d _) (.set (.d _) (.set (.d _) (.set (.d _) (.set (.ptr' rfl) zan.none))))))) (.set zaC.refl_d zap.at)⟩
  rw[if_neg (ff hc24)]at h
  try simp only[go_sem,zab hy4,zae hy4,zac (D.int .i64) hy4]
  refine zal (fun hc25=> ?_) (fun hc26=> ?_)
  ·rw[if_pos hc25]at h
   try simp only[go_sem,zab hy4,zae hy4,zac (D.int .i64) hy4]
   cases h
   exact⟨rfl,Up.of (N:=13) (N':=34) [] rfl rfl (by decide) (.set (.d _) (.set (.d _) (.set (.d _) (.set (.d _) (.set (.d _) (.set (.d _) (.set (.ptr' rfl) zan.none))))))) (.set zaC.refl_d zap.at)⟩
  rw[if_neg (ff hc26)]at h
  try simp only[go_sem,zab hy4,zae hy4,zac (D.int .i64) hy4]
  cases h
  exact⟨rfl,by simp,Up.of (N:=13) (N':=33) [] rfl rfl (by decide) (.set (.d _) zan.none) zap.at⟩
 rw[if_neg (ff hc2)]at h
 try simp only[go_sem]
 cases h
 exact⟨rfl,by simp,Up.of (N:=13) (N':=14) [] rfl rfl (by decide) (.set (.d _) (.set (.d _) (.set (.d _) zan.none))) zap.at⟩
noncomputable def zIK (a0:Forest) (a1:Node):Option (Bool):=
 (zaR (zdj a0 a1) (0,0,0)).bind fun r27=>
 match r27 with
 |(.inl q29)=>
  if(a1.kind==9)=true then
   some (bif (decide (q29.1<2))then(decide (q29.2<2))else false)
  else
   some true
 |(.inr q41)=>
  some false
theorem zIL (a0:Forest) (a1:Node) (r:Bool) (h:zIK a0 a1=some r):pc prog 205 [zai a0,zah a1]=some (D.bool r):=by
 unfold zIK at h
 refine zbc (fn:=zGV) rfl rfl ?_
 delta zGV
 try simp only[go_sem]
 obtain⟨r27,hl28,h⟩:=bs h
 refine Wp.loopR zbE (n:=(0,[])) (a:=zpp) rfl (zeO a0 a1) (zhW a0 a1) (zvD a0 a1) hl28 ?_ (by(repeat(first|refine Clo.block ?_|refine Clo.seq zbE rfl ?_));(exact Clo.ret)) ?_
 ·show Up (0,[]) (zeO a0 a1 (0,0,0)) _
  delta zeO
  exact Up.of (N:=13) (N':=13) [] rfl rfl (by decide) (.set (.d _) (.set (.d _) (.set (.d _) (.set (.d _) (.set (.d _) (.set (.d _) (.set (.ptr' rfl) zan.none))))))) (.set zaC.refl_d zap.at)
 rcases r27 with(q29|q41)
 ·dsimp only at h
  dsimp only[zhW]
  try simp only[go_sem]
  refine zaa (v:= .d (.int .i64 q29.1)) (fun hb40=>by simp only[go_sem,hb40]) ?_
  try simp only[go_sem]
  refine zaa (v:= .d (.bool (decide (q29.1<2)))) (fun hb39=>by simp only[go_sem,hb39]) ?_
  try simp only[go_sem]
  refine zaa (v:= .d (.bool (decide (q29.1<2)))) (fun hb38=>by simp only[go_sem,hb38]) ?_
  try simp only[go_sem]
  refine zaa (v:= .d (.int .i64 q29.2)) (fun hb35=>by((obtain⟨hb36,hb37⟩:=zaw hb35));simp only[go_sem,hb37,hb36]) ?_
  try simp only[go_sem]
  refine zaa (v:= .d (.bool (decide (q29.2<2)))) (fun hb32=>by((obtain⟨hb33,hb34⟩:=zaw hb32));simp only[go_sem,hb34,hb33]) ?_
  try simp only[go_sem]
  refine zaF (fun hc30=> ?_) (fun hc31=> ?_)
  ·rw[if_pos hc30]at h
   try simp only[go_sem,hc30]
   cases h
   rfl
  rw[if_neg (ff hc31)]at h
  try simp only[go_sem,hc31]
  cases h
  rfl
 dsimp only at h
 dsimp only[zhW]
 try simp only[go_sem]
 cases h
 rfl
def zeP (a0:Sl (Attr)) (a1:Name) (x0:Int):St:=⟨((((Regs.none.set 3 (.ptr 0 0 0)).set 7 (.d (.list a0.n (a0.l.map zaH)))).set 8 (.d (.int .i64 (a0.l.length:Int)))).set 9 (.d (.int .i64 x0))),((Heap.at 5).set 0 (some (.els 3 [.d (zbL a1)] 0)))⟩
def zhX (a0:Sl (Attr)) (a1:Name):((Unit)⊕(Int))→Ex×St:=fun r=>match r with
 |(.inl r)=>(.exit 0,⟨Regs.none,(Heap.at 5)⟩)
 |(.inr r)=>(.ret,⟨(Regs.none.set 4 (.d (.int .i64 r))),(Heap.at 5)⟩)
noncomputable def zdk (a0:Sl (Attr)) (a1:Name) (x0:Int):Option ((Int)⊕((Unit)⊕(Int))):=
 if(decide (x0<(a0.l.length:Int)))=true then
  (rd a0.l x0).bind fun y3=>
  if(bif (y3.name.space==a1.space)then(y3.name.local_==a1.local_)else false)=true then
   some (.inr (.inr x0))
  else
   some (.inl (IntKind.wrap .i64 (x0+1)))
 else
  some (.inr (.inl ()))
theorem zvE (a0:Sl (Attr)) (a1:Name) (x0:Int) (o:(Int)⊕((Unit)⊕(Int))) (h:zdk a0 a1 x0=some o):Wp prog zpq (zeP a0 a1 x0) (zcr (0,[]) (zeP a0 a1) (zhX a0 a1) o):=by
 unfold zdk at h
 delta zpq zeP
 try simp only[go_sem]
 refine zal (fun hc1=> ?_) (fun hc2=> ?_)
 ·rw[if_pos hc1]at h
  try simp only[go_sem]
  obtain⟨y3,hy4,h⟩:=bs h
  try simp only[go_sem,zab hy4,zae hy4,zac zaH hy4]
  refine zaa (v:= .ptr 9 0 0) (fun hb12=>by simp only[go_sem,zab hy4,zae hy4,zac zaH hy4,hc1,hb12]) ?_
  try simp only[go_sem,zab hy4,zae hy4,zac zaH hy4]
  refine zaa (v:= .ptr 9 0 2) (fun hb11=>by simp only[go_sem,zab hy4,zae hy4,zac zaH hy4,hc1,hb11]) ?_
  try simp only[go_sem,zab hy4,zae hy4,zac zaH hy4]
  refine zaa (v:= .d (.str y3.name.local_)) (fun hb10=>by simp only[go_sem,zab hy4,zae hy4,zac zaH hy4,hc1,hb10]) ?_
  try simp only[go_sem,zab hy4,zae hy4,zac zaH hy4]
  refine zaa (v:= .ptr 0 0 2) (fun hb9=>by simp only[go_sem,zab hy4,zae hy4,zac zaH hy4,hc1,hb9]) ?_
  try simp only[go_sem,zab hy4,zae hy4,zac zaH hy4]
  refine zaa (v:= .d (.str a1.local_)) (fun hb8=>by simp only[go_sem,zab hy4,zae hy4,zac zaH hy4,hc1,hb8]) ?_
  try simp only[go_sem,zab hy4,zae hy4,zac zaH hy4]
  refine zaa (v:= .d (.bool (y3.name.local_==a1.local_))) (fun hb7=>by simp only[go_sem,zab hy4,zae hy4,zac zaH hy4,hc1,hb7]) ?_
  try simp only[go_sem,zab hy4,zae hy4,zac zaH hy4]
  refine zal (fun hc5=> ?_) (fun hc6=> ?_)
  ·rw[if_pos hc5]at h
   try simp only[go_sem,zab hy4,zae hy4,zac zaH hy4]
   cases h
   exact⟨rfl,by simp,Up.of (N:=5) (N':=28) [] rfl rfl (by decide) (.set (.d _) zan.none) zap.at⟩
  rw[if_neg (ff hc6)]at h
  try simp only[go_sem,zab hy4,zae hy4,zac zaH hy4]
  cases h
  exact⟨rfl,Up.of (N:=5) (N':=28) [] rfl rfl (by decide) (.set (.d _) (.set (.d _) (.set (.d _) (.set (.ptr' rfl) zan.none)))) (.set zaC.refl_d zap.at)⟩
 rw[if_neg (ff hc2)]at h
 try simp only[go_sem]
 cases h
 exact⟨rfl,by simp,Up.of (N:=5) (N':=6) [] rfl rfl (by decide) zan.none zap.at⟩
noncomputable def zIM (a0:Sl (Attr)) (a1:Name):Option (Int):=
 (zaR (zdk a0 a1) 0).bind fun r13=>
 match r13 with
 |(.inl q15)=>
  some (-1)
 |(.inr q16)=>
  some q16
theorem zIN (a0:Sl (Attr)) (a1:Name) (r:Int) (h:zIM a0 a1=some r):pc prog 206 [.list a0.n (a0.l.map zaH),zbL a1]=some ((D.int .i64) r):=by
 unfold zIM at h
 refine zbc (fn:=zGW) rfl rfl ?_
 delta zGW
 try simp only[go_sem]
 obtain⟨r13,hl14,h⟩:=bs h
 refine Wp.loopR zbE (n:=(0,[])) (a:=zpq) rfl (zeP a0 a1) (zhX a0 a1) (zvE a0 a1) hl14 ?_ (by(repeat(first|refine Clo.block ?_|refine Clo.seq zbE rfl ?_));(exact Clo.ret)) ?_
 ·show Up (0,[]) (zeP a0 a1 0) _
  delta zeP
  exact Up.of (N:=5) (N':=5) [] rfl rfl (by decide) (.set (.d _) (.set (.d _) (.set (.d _) (.set (.ptr' rfl) zan.none)))) (.set zaC.refl_d zap.at)
 rcases r13 with(q15|q16)
 ·dsimp only at h
  dsimp only[zhX]
  try simp only[go_sem]
  cases h
  rfl
 dsimp only at h
 dsimp only[zhX]
 try simp only[go_sem]
 cases h
 rfl
end Go.Proofs.Ythodcjjgimeeoaa.F
