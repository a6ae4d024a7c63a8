/- Shaken copy of a longer text: what one law needs. Its conditions: none. -/
import Derived.Test.YtfleilibjdgcjaaZODec0
set_option linter.unusedSimpArgs false
set_option linter.unusedVariables false
set_option maxHeartbeats 1000000
namespace Go.Proofs.Ytfleilibjdgcjaa.O
open Go.AI
noncomputable def P12 (a0:Forest) (a1:Int) (a2:Int):Option (Bool):=
 (dec D.bool (pc prog 19 [])).bind fun r1=>
 if(!r1)=true then
  some false
 else
  (dec (D.int .i64) (pc prog 45 [zae a0,.list false (([a1,a2]).map (D.int .i64))])).bind fun r5=>
  if(!(r5==0))=true then
   (dec D.bool (pc prog 53 [zae a0,.int .i64 a1,.int .i64 a2,.int .i64 r5])).bind fun r9=>
   some r9
  else
   (dec (eT2 D.bool (D.int .i64)) (pc prog 35 [zae a0,.int .i64 a1,.int .i64 a2])).bind fun r11=>
   (dec (eT2 (D.int .i64) (D.int .i64)) (pc prog 36 [zae a0,.int .i64 a1,.int .i64 a2])).bind fun r13=>
   (dec (eT3 (D.int .i64) D.bool (D.int .i64)) (pc prog 54 [zae a0,.int .i64 a1,.int .i64 a2])).bind fun r15=>
   (dec (eT2 (D.int .i64) (D.int .i64)) (pc prog 20 [zae a0,.int .i64 a1,.int .i64 a2])).bind fun r17=>
   (dec (eT2 (D.int .i64) D.bool) (pc prog 55 [zae a0,.int .i64 a1,.int .i64 a2])).bind fun r19=>
   if(bif (bif (bif (r11.2==0)then(r13.2==0)else false)then(r15.2.2==0)else false)then(r17.2==0)else false)=true then
    (dec D.bool (pc prog 56 [zae a0,.int .i64 a1,.int .i64 a2])).bind fun r23=>
    if(r11.1==r23)=true then
     (dec (D.int .i64) (pc prog 57 [zae a0,.int .i64 a1,.int .i64 a2])).bind fun r27=>
     if(bif (bif (r13.1==r27)then(r15.1==r19.1)else false)then(r15.2.1==r19.2)else false)=true then
      (dec (D.int .i64) (pc prog 58 [zae a0,.int .i64 a1,.int .i64 a2])).bind fun r31=>
      some (r17.1==r31)
     else
      some false
    else
     some false
   else
    some false
theorem zNc (a0:Forest) (a1:Int) (a2:Int) (r:Bool) (h:P12 a0 a1 a2=some r):pc prog 12 [zae a0,.int .i64 a1,.int .i64 a2]=some (D.bool r):=by
 unfold P12 at h
 refine zaZ (fn:=c12) rfl rfl ?_
 delta c12
 try simp only[go_sem]
 obtain⟨r1,hr2,h⟩:=bs h
 replace hr2:=zam hr2
 refine zaq hr2 ?_
 try simp only[go_sem]
 refine zaF (fun hc3=> ?_) (fun hc4=> ?_)
 ·rw[if_pos (show(!r1)=true by(rw[hc3];rfl))]at h
  try simp only[go_sem]
  cases h
  rfl
 rw[if_neg (ffn hc4)]at h
 try simp only[go_sem]
 obtain⟨r5,hr6,h⟩:=bs h
 replace hr6:=zam hr6
 refine zaq hr6 ?_
 try simp only[go_sem]
 refine zaF (fun hc7=> ?_) (fun hc8=> ?_)
 ·rw[if_pos (show(!(r5==0))=true by(rw[hc7];rfl))]at h
  try simp only[go_sem]
  obtain⟨r9,hr10,h⟩:=bs h
  replace hr10:=zam hr10
  refine zaq hr10 ?_
  try simp only[go_sem]
  cases h
  rfl
 rw[if_neg (ffn hc8)]at h
 try simp only[go_sem]
 obtain⟨r11,hr12,h⟩:=bs h
 replace hr12:=zam hr12
 refine zaq hr12 ?_
 try simp only[go_sem]
 obtain⟨r13,hr14,h⟩:=bs h
 replace hr14:=zam hr14
 refine zaq hr14 ?_
 try simp only[go_sem]
 obtain⟨r15,hr16,h⟩:=bs h
 replace hr16:=zam hr16
 refine zaq hr16 ?_
 try simp only[go_sem]
 obtain⟨r17,hr18,h⟩:=bs h
 replace hr18:=zam hr18
 refine zaq hr18 ?_
 try simp only[go_sem]
 obtain⟨r19,hr20,h⟩:=bs h
 replace hr20:=zam hr20
 refine zaq hr20 ?_
 try simp only[go_sem]
 refine zaa (v:= .d (.int .i64 r13.2)) (fun hb56=>by simp only[go_sem,hc4,hc8,hb56]) ?_
 try simp only[go_sem]
 refine zaa (v:= .d (.bool (r13.2==0))) (fun hb55=>by simp only[go_sem,hc4,hc8,hb55]) ?_
 try simp only[go_sem]
 refine zaa (v:= .d (.int .i64 r15.2.2)) (fun hb54=>by simp only[go_sem,hc4,hc8,hb54]) ?_
 try simp only[go_sem]
 refine zaa (v:= .d (.bool (r15.2.2==0))) (fun hb53=>by simp only[go_sem,hc4,hc8,hb53]) ?_
 try simp only[go_sem]
 refine zaa (v:= .d (.int .i64 r17.2)) (fun hb52=>by simp only[go_sem,hc4,hc8,hb52]) ?_
 try simp only[go_sem]
 refine zaa (v:= .d (.bool (r17.2==0))) (fun hb51=>by simp only[go_sem,hc4,hc8,hb51]) ?_
 try simp only[go_sem]
 refine zaa (v:= .d (.bool r11.1)) (fun hb50=>by simp only[go_sem,hc4,hc8,hb50]) ?_
 try simp only[go_sem]
 refine zaa (v:= .d (zae a0)) (fun hb49=>by simp only[go_sem,hc4,hc8,hb49]) ?_
 try simp only[go_sem]
 refine zaa (v:= .d (.int .i64 a1)) (fun hb48=>by simp only[go_sem,hc4,hc8,hb48]) ?_
 try simp only[go_sem]
 refine zaa (v:= .d (.int .i64 a2)) (fun hb47=>by simp only[go_sem,hc4,hc8,hb47]) ?_
 try simp only[go_sem]
 refine zaG (fun hc21=> ?_) (fun hc22=> ?_)
 ·rw[if_pos hc21]at h
  try simp only[go_sem,hc21]
  obtain⟨r23,hr24,h⟩:=bs h
  replace hr24:=zam hr24
  refine zaq hr24 ?_
  try simp only[go_sem]
  refine zaa (v:= .d (.int .i64 r13.1)) (fun hb46=>by simp only[go_sem,hc4,hc8,hc21,hb46]) ?_
  try simp only[go_sem]
  refine zaa (v:= .d (zae a0)) (fun hb45=>by simp only[go_sem,hc4,hc8,hc21,hb45]) ?_
  try simp only[go_sem]
  refine zaa (v:= .d (.int .i64 a1)) (fun hb44=>by simp only[go_sem,hc4,hc8,hc21,hb44]) ?_
  try simp only[go_sem]
  refine zaa (v:= .d (.int .i64 a2)) (fun hb43=>by simp only[go_sem,hc4,hc8,hc21,hb43]) ?_
  try simp only[go_sem]
  refine zaG (fun hc25=> ?_) (fun hc26=> ?_)
  ·rw[if_pos hc25]at h
   try simp only[go_sem,hc25]
   obtain⟨r27,hr28,h⟩:=bs h
   replace hr28:=zam hr28
   refine zaq hr28 ?_
   try simp only[go_sem]
   refine zaa (v:= .d (.int .i64 r15.1)) (fun hb42=>by simp only[go_sem,hc4,hc8,hc21,hc25,hb42]) ?_
   try simp only[go_sem]
   refine zaa (v:= .d (.int .i64 r19.1)) (fun hb41=>by simp only[go_sem,hc4,hc8,hc21,hc25,hb41]) ?_
   try simp only[go_sem]
   refine zaa (v:= .d (.bool (r15.1==r19.1))) (fun hb40=>by simp only[go_sem,hc4,hc8,hc21,hc25,hb40]) ?_
   try simp only[go_sem]
   refine zaa (v:= .d (.bool r15.2.1)) (fun hb39=>by simp only[go_sem,hc4,hc8,hc21,hc25,hb39]) ?_
   try simp only[go_sem]
   refine zaa (v:= .d (.bool r19.2)) (fun hb38=>by simp only[go_sem,hc4,hc8,hc21,hc25,hb38]) ?_
   try simp only[go_sem]
   refine zaa (v:= .d (.bool (r15.2.1==r19.2))) (fun hb37=>by simp only[go_sem,hc4,hc8,hc21,hc25,hb37]) ?_
   try simp only[go_sem]
   refine zaa (v:= .d (.int .i64 r17.1)) (fun hb36=>by simp only[go_sem,hc4,hc8,hc21,hc25,hb36]) ?_
   try simp only[go_sem]
   refine zaa (v:= .d (zae a0)) (fun hb35=>by simp only[go_sem,hc4,hc8,hc21,hc25,hb35]) ?_
   try simp only[go_sem]
   refine zaa (v:= .d (.int .i64 a1)) (fun hb34=>by simp only[go_sem,hc4,hc8,hc21,hc25,hb34]) ?_
   try simp only[go_sem]
   refine zaa (v:= .d (.int .i64 a2)) (fun hb33=>by simp only[go_sem,hc4,hc8,hc21,hc25,hb33]) ?_
   try simp only[go_sem]
   refine zaG (fun hc29=> ?_) (fun hc30=> ?_)
   ·rw[if_pos hc29]at h
    try simp only[go_sem,hc29]
    obtain⟨r31,hr32,h⟩:=bs h
    replace hr32:=zam hr32
    refine zaq hr32 ?_
    try simp only[go_sem]
    cases h
    rfl
   rw[if_neg (ff hc30)]at h
   try simp only[go_sem,hc30]
   cases h
   rfl
  rw[if_neg (ff hc26)]at h
  try simp only[go_sem,hc26]
  cases h
  rfl
 rw[if_neg (ff hc22)]at h
 try simp only[go_sem,hc22]
 cases h
 rfl
noncomputable def P53 (a0:Forest) (a1:Int) (a2:Int) (a3:Int):Option (Bool):=
 (dec (eT2 D.bool (D.int .i64)) (pc prog 35 [zae a0,.int .i64 a1,.int .i64 a2])).bind fun r1=>
 (dec (eT2 (D.int .i64) (D.int .i64)) (pc prog 36 [zae a0,.int .i64 a1,.int .i64 a2])).bind fun r3=>
 (dec (eT3 (D.int .i64) D.bool (D.int .i64)) (pc prog 54 [zae a0,.int .i64 a1,.int .i64 a2])).bind fun r5=>
 (dec (eT2 (D.int .i64) (D.int .i64)) (pc prog 20 [zae a0,.int .i64 a1,.int .i64 a2])).bind fun r7=>
 (dec (eT2 D.bool (D.int .i64)) (pc prog 61 [zae a0,.int .i64 a1,.int .i64 a2])).bind fun r9=>
 some (bif (bif (bif (bif (bif (bif (bif (bif (bif (bif (!r1.1)then(r1.2==a3)else false)then(r3.1==0)else false)then(r3.2==a3)else false)then(r5.1==0)else false)then(!r5.2.1)else false)then(r5.2.2==a3)else false)then(r7.1==0)else false)then(r7.2==a3)else false)then(!r9.1)else false)then(r9.2==a3)else false)
theorem zNd (a0:Forest) (a1:Int) (a2:Int) (a3:Int) (r:Bool) (h:P53 a0 a1 a2 a3=some r):pc prog 53 [zae a0,.int .i64 a1,.int .i64 a2,.int .i64 a3]=some (D.bool r):=by
 unfold P53 at h
 refine zaZ (fn:=c53) rfl rfl ?_
 delta c53
 try simp only[go_sem]
 obtain⟨r1,hr2,h⟩:=bs h
 replace hr2:=zam hr2
 refine zaq hr2 ?_
 try simp only[go_sem]
 obtain⟨r3,hr4,h⟩:=bs h
 replace hr4:=zam hr4
 refine zaq hr4 ?_
 try simp only[go_sem]
 obtain⟨r5,hr6,h⟩:=bs h
 replace hr6:=zam hr6
 refine zaq hr6 ?_
 try simp only[go_sem]
 obtain⟨r7,hr8,h⟩:=bs h
 replace hr8:=zam hr8
 refine zaq hr8 ?_
 try simp only[go_sem]
 obtain⟨r9,hr10,h⟩:=bs h
 replace hr10:=zam hr10
 refine zaq hr10 ?_
 try simp only[go_sem]
 refine zaa (v:= .d (.int .i64 r1.2)) (fun hb35=>by simp only[go_sem,hb35]) ?_
 try simp only[go_sem]
 refine zaa (v:= .d (.int .i64 a3)) (fun hb34=>by simp only[go_sem,hb34]) ?_
 try simp only[go_sem]
 refine zaa (v:= .d (.bool (r1.2==a3))) (fun hb33=>by simp only[go_sem,hb33]) ?_
 try simp only[go_sem]
 refine zaa (v:= .d (.int .i64 r3.1)) (fun hb32=>by simp only[go_sem,hb32]) ?_
 try simp only[go_sem]
 refine zaa (v:= .d (.bool (r3.1==0))) (fun hb31=>by simp only[go_sem,hb31]) ?_
 try simp only[go_sem]
 refine zaa (v:= .d (.int .i64 r3.2)) (fun hb30=>by simp only[go_sem,hb30]) ?_
 try simp only[go_sem]
 refine zaa (v:= .d (.int .i64 a3)) (fun hb29=>by simp only[go_sem,hb29]) ?_
 try simp only[go_sem]
 refine zaa (v:= .d (.bool (r3.2==a3))) (fun hb28=>by simp only[go_sem,hb28]) ?_
 try simp only[go_sem]
 refine zaa (v:= .d (.int .i64 r5.1)) (fun hb27=>by simp only[go_sem,hb27]) ?_
 try simp only[go_sem]
 refine zaa (v:= .d (.bool (r5.1==0))) (fun hb26=>by simp only[go_sem,hb26]) ?_
 try simp only[go_sem]
 refine zaa (v:= .d (.bool r5.2.1)) (fun hb25=>by simp only[go_sem,hb25]) ?_
 try simp only[go_sem]
 refine zaa (v:= .d (.bool (!r5.2.1))) (fun hb24=>by simp only[go_sem,hb24]) ?_
 try simp only[go_sem]
 refine zaa (v:= .d (.int .i64 r5.2.2)) (fun hb23=>by simp only[go_sem,hb23]) ?_
 try simp only[go_sem]
 refine zaa (v:= .d (.int .i64 a3)) (fun hb22=>by simp only[go_sem,hb22]) ?_
 try simp only[go_sem]
 refine zaa (v:= .d (.bool (r5.2.2==a3))) (fun hb21=>by simp only[go_sem,hb21]) ?_
 try simp only[go_sem]
 refine zaa (v:= .d (.int .i64 r7.1)) (fun hb20=>by simp only[go_sem,hb20]) ?_
 try simp only[go_sem]
 refine zaa (v:= .d (.bool (r7.1==0))) (fun hb19=>by simp only[go_sem,hb19]) ?_
 try simp only[go_sem]
 refine zaa (v:= .d (.int .i64 r7.2)) (fun hb18=>by simp only[go_sem,hb18]) ?_
 try simp only[go_sem]
 refine zaa (v:= .d (.int .i64 a3)) (fun hb17=>by simp only[go_sem,hb17]) ?_
 try simp only[go_sem]
 refine zaa (v:= .d (.bool (r7.2==a3))) (fun hb16=>by simp only[go_sem,hb16]) ?_
 try simp only[go_sem]
 refine zaa (v:= .d (.bool r9.1)) (fun hb15=>by simp only[go_sem,hb15]) ?_
 try simp only[go_sem]
 refine zaa (v:= .d (.bool (!r9.1))) (fun hb14=>by simp only[go_sem,hb14]) ?_
 try simp only[go_sem]
 refine zaa (v:= .d (.int .i64 r9.2)) (fun hb13=>by simp only[go_sem,hb13]) ?_
 try simp only[go_sem]
 refine zaa (v:= .d (.int .i64 a3)) (fun hb12=>by simp only[go_sem,hb12]) ?_
 try simp only[go_sem]
 refine zaa (v:= .d (.bool (r9.2==a3))) (fun hb11=>by simp only[go_sem,hb11]) ?_
 try simp only[go_sem]
 cases h
 rfl
end Go.Proofs.Ytfleilibjdgcjaa.O
