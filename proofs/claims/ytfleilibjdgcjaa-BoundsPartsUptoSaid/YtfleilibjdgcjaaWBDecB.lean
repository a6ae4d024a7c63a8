/- Shaken copy of a longer text: what one law needs. Its conditions: none. -/
import Derived.Test.YtfleilibjdgcjaaWBDec0
import Derived.Test.YtfleilibjdgcjaaWBSpIp
set_option linter.unusedSimpArgs false
set_option linter.unusedVariables false
set_option maxHeartbeats 1000000
namespace Go.Proofs.Ytfleilibjdgcjaa.B
open Go.AI
def zhq (a0:Forest) (r35:Sl (Bound)×Int) (x0:Int):St:=⟨((((Regs.none.set 4 (.ptr 0 0 0)).set 17 (.d (.list r35.1.n (r35.1.l.map zai)))).set 18 (.d (.int .i64 r35.2))).set 19 (.d (.int .i64 x0))),((Heap.at 95).set 0 (some (.els 1 [.d (zac a0)] 0)))⟩
def zlC (a0:Forest) (r35:Sl (Bound)×Int):((Unit)⊕(Unit))→Ex×St:=fun r=>match r with
 |(.inl r)=>(.exit 0,⟨((Regs.none.set 17 (.d (.list r35.1.n (r35.1.l.map zai)))).set 18 (.d (.int .i64 r35.2))),(Heap.at 95)⟩)
 |(.inr r)=>(.ret,⟨(Regs.none.set 8 (.d (.bool false))),(Heap.at 95)⟩)
noncomputable def zeY (a0:Forest) (r35:Sl (Bound)×Int) (x0:Int):Option ((Int)⊕((Unit)⊕(Unit))):=
 if(bif (decide (x0<(r35.1.l.length:Int)))then(decide (x0<40))else false)=true then
  (rd r35.1.l (IntKind.wrap .i64 (x0-1))).bind fun y39=>
  (rd r35.1.l x0).bind fun y41=>
  (dec (eT2 (D.int .i64) (D.int .i64)) (pc prog 41 [zac a0,zai y39,zai y41])).bind fun r43=>
  if(bif (!(r43.2==0))then true else(!(r43.1==(-1))))=true then
   some (.inr (.inr ()))
  else
   some (.inl (IntKind.wrap .i64 (x0+1)))
 else
  some (.inr (.inl ()))
theorem zAk (a0:Forest) (r35:Sl (Bound)×Int) (x0:Int) (o:(Int)⊕((Unit)⊕(Unit))) (h:zeY a0 r35 x0=some o):Wp prog zoQ (zhq a0 r35 x0) (zcP (0,[]) (zhq a0 r35) (zlC a0 r35) o):=by
 unfold zeY at h
 delta zoQ zhq
 try simp only[go_sem]
 refine zaa (v:= .d (.int .i64 x0)) (fun hb50=>by simp only[go_sem,hb50]) ?_
 try simp only[go_sem]
 refine zaa (v:= .d (.bool (decide (x0<40)))) (fun hb49=>by simp only[go_sem,hb49]) ?_
 try simp only[go_sem]
 refine zal (fun hc37=> ?_) (fun hc38=> ?_)
 ·rw[if_pos hc37]at h
  try simp only[go_sem]
  obtain⟨y39,hy40,h⟩:=bs h
  try simp only[go_sem,zad hy40,zak hy40,zae zai hy40]
  obtain⟨y41,hy42,h⟩:=bs h
  try simp only[go_sem,zad hy40,zak hy40,zae zai hy40,zad hy42,zak hy42,zae zai hy42]
  obtain⟨r43,hr44,h⟩:=bs h
  replace hr44:=zao hr44
  refine zaq hr44 ?_
  try simp only[go_sem,zad hy40,zak hy40,zae zai hy40,zad hy42,zak hy42,zae zai hy42]
  refine zaa (v:= .d (.int .i64 r43.1)) (fun hb48=>by simp only[go_sem,zad hy40,zak hy40,zae zai hy40,zad hy42,zak hy42,zae zai hy42,hc37,hb48]) ?_
  try simp only[go_sem,zad hy40,zak hy40,zae zai hy40,zad hy42,zak hy42,zae zai hy42]
  refine zaa (v:= .d (.bool (!(r43.1==(-1))))) (fun hb47=>by simp only[go_sem,zad hy40,zak hy40,zae zai hy40,zad hy42,zak hy42,zae zai hy42,hc37,hb47]) ?_
  try simp only[go_sem,zad hy40,zak hy40,zae zai hy40,zad hy42,zak hy42,zae zai hy42]
  refine zal (fun hc45=> ?_) (fun hc46=> ?_)
  ·rw[if_pos hc45]at h
   try simp only[go_sem,zad hy40,zak hy40,zae zai hy40,zad hy42,zak hy42,zae zai hy42]
   cases h
   exact⟨rfl,by simp,Up.of (N:=95) (N':=126) [] rfl rfl (by decide) (.set (.d _) zam.none) zar.at⟩
  rw[if_neg (ff hc46)]at h
  try simp only[go_sem,zad hy40,zak hy40,zae zai hy40,zad hy42,zak hy42,zae zai hy42]
  cases h
  exact⟨rfl,Up.of (N:=95) (N':=128) [] rfl rfl (by decide) (.set (.d _) (.set (.d _) (.set (.d _) (.set (.ptr' rfl) zam.none)))) (.set zax.refl_d zar.at)⟩
 rw[if_neg (ff hc38)]at h
 try simp only[go_sem]
 cases h
 exact⟨rfl,by simp,Up.of (N:=95) (N':=103) [] rfl rfl (by decide) (.set (.d _) (.set (.d _) zam.none)) zar.at⟩
def zhr (a0:Forest) (r55:Sl (Bound)×Int) (x1:Int):St:=⟨((((Regs.none.set 4 (.ptr 0 0 0)).set 17 (.d (.list r55.1.n (r55.1.l.map zai)))).set 18 (.d (.int .i64 r55.2))).set 19 (.d (.int .i64 x1))),((Heap.at 95).set 0 (some (.els 1 [.d (zac a0)] 0)))⟩
def zlD (a0:Forest) (r55:Sl (Bound)×Int):((Unit)⊕(Unit))→Ex×St:=fun r=>match r with
 |(.inl r)=>(.exit 0,⟨((Regs.none.set 17 (.d (.list r55.1.n (r55.1.l.map zai)))).set 18 (.d (.int .i64 r55.2))),(Heap.at 95)⟩)
 |(.inr r)=>(.ret,⟨(Regs.none.set 8 (.d (.bool false))),(Heap.at 95)⟩)
noncomputable def zeZ (a0:Forest) (r55:Sl (Bound)×Int) (x1:Int):Option ((Int)⊕((Unit)⊕(Unit))):=
 if(bif (decide (x1<(r55.1.l.length:Int)))then(decide (x1<40))else false)=true then
  (rd r55.1.l (IntKind.wrap .i64 (x1-1))).bind fun y59=>
  (rd r55.1.l x1).bind fun y61=>
  (dec (eT2 (D.int .i64) (D.int .i64)) (pc prog 41 [zac a0,zai y59,zai y61])).bind fun r63=>
  if(bif (!(r63.2==0))then true else(!(r63.1==(-1))))=true then
   some (.inr (.inr ()))
  else
   some (.inl (IntKind.wrap .i64 (x1+1)))
 else
  some (.inr (.inl ()))
theorem zAl (a0:Forest) (r55:Sl (Bound)×Int) (x1:Int) (o:(Int)⊕((Unit)⊕(Unit))) (h:zeZ a0 r55 x1=some o):Wp prog zoQ (zhr a0 r55 x1) (zcP (0,[]) (zhr a0 r55) (zlD a0 r55) o):=by
 unfold zeZ at h
 delta zoQ zhr
 try simp only[go_sem]
 refine zaa (v:= .d (.int .i64 x1)) (fun hb70=>by simp only[go_sem,hb70]) ?_
 try simp only[go_sem]
 refine zaa (v:= .d (.bool (decide (x1<40)))) (fun hb69=>by simp only[go_sem,hb69]) ?_
 try simp only[go_sem]
 refine zal (fun hc57=> ?_) (fun hc58=> ?_)
 ·rw[if_pos hc57]at h
  try simp only[go_sem]
  obtain⟨y59,hy60,h⟩:=bs h
  try simp only[go_sem,zad hy60,zak hy60,zae zai hy60]
  obtain⟨y61,hy62,h⟩:=bs h
  try simp only[go_sem,zad hy60,zak hy60,zae zai hy60,zad hy62,zak hy62,zae zai hy62]
  obtain⟨r63,hr64,h⟩:=bs h
  replace hr64:=zao hr64
  refine zaq hr64 ?_
  try simp only[go_sem,zad hy60,zak hy60,zae zai hy60,zad hy62,zak hy62,zae zai hy62]
  refine zaa (v:= .d (.int .i64 r63.1)) (fun hb68=>by simp only[go_sem,zad hy60,zak hy60,zae zai hy60,zad hy62,zak hy62,zae zai hy62,hc57,hb68]) ?_
  try simp only[go_sem,zad hy60,zak hy60,zae zai hy60,zad hy62,zak hy62,zae zai hy62]
  refine zaa (v:= .d (.bool (!(r63.1==(-1))))) (fun hb67=>by simp only[go_sem,zad hy60,zak hy60,zae zai hy60,zad hy62,zak hy62,zae zai hy62,hc57,hb67]) ?_
  try simp only[go_sem,zad hy60,zak hy60,zae zai hy60,zad hy62,zak hy62,zae zai hy62]
  refine zal (fun hc65=> ?_) (fun hc66=> ?_)
  ·rw[if_pos hc65]at h
   try simp only[go_sem,zad hy60,zak hy60,zae zai hy60,zad hy62,zak hy62,zae zai hy62]
   cases h
   exact⟨rfl,by simp,Up.of (N:=95) (N':=126) [] rfl rfl (by decide) (.set (.d _) zam.none) zar.at⟩
  rw[if_neg (ff hc66)]at h
  try simp only[go_sem,zad hy60,zak hy60,zae zai hy60,zad hy62,zak hy62,zae zai hy62]
  cases h
  exact⟨rfl,Up.of (N:=95) (N':=128) [] rfl rfl (by decide) (.set (.d _) (.set (.d _) (.set (.d _) (.set (.ptr' rfl) zam.none)))) (.set zax.refl_d zar.at)⟩
 rw[if_neg (ff hc58)]at h
 try simp only[go_sem]
 cases h
 exact⟨rfl,by simp,Up.of (N:=95) (N':=103) [] rfl rfl (by decide) (.set (.d _) (.set (.d _) zam.none)) zar.at⟩
noncomputable def P10 (a0:Forest) (a1:Bound) (a2:Bound) (a3:Bound):Option (Bool):=
 (dec D.bool (pc prog 40 [])).bind fun r1=>
 if(!r1)=true then
  some false
 else
  (dec (eT2 (D.int .i64) (D.int .i64)) (pc prog 41 [zac a0,zai a1,zai a2])).bind fun r5=>
  (dec (eT2 (D.int .i64) (D.int .i64)) (pc prog 41 [zac a0,zai a2,zai a1])).bind fun r7=>
  (dec (eT2 (D.int .i64) (D.int .i64)) (pc prog 41 [zac a0,zai a2,zai a3])).bind fun r9=>
  (dec (eT2 (D.int .i64) (D.int .i64)) (pc prog 41 [zac a0,zai a1,zai a3])).bind fun r11=>
  (if(r5.2==0)=true then
   some (bif (bif (!(r7.2==0))then true else(!(r5.1==(IntKind.wrap .i64 (0-r7.1)))))then true else(!((r5.1==0)==(decide (a1=a2)))))
  else
   some false:Option ((Bool))).bind fun r21=>
  if r21=true then
   some false
  else
   if(bif (r5.2==0)then(r9.2==0)else false)=true then
    (if(r11.2==0)=true then
     some (bif (bif (decide (r5.1≤0))then(decide (r9.1≤0))else false)then(decide (0<r11.1))else false)
    else
     some true:Option ((Bool))).bind fun r31=>
    if r31=true then
     some false
    else
     (dec (eT2 (eSl zai) (D.int .i64)) (pc prog 42 [zac a0,.int .i64 a1.node])).bind fun r35=>
     (zaT (zeY a0 r35) 1).bind fun r51=>
     match r51 with
     |(.inl q53)=>
      some ((r35.2==0)==(decide (0<(r35.1.l.length:Int))))
     |(.inr q54)=>
      some false
   else
    (dec (eT2 (eSl zai) (D.int .i64)) (pc prog 42 [zac a0,.int .i64 a1.node])).bind fun r55=>
    (zaT (zeZ a0 r55) 1).bind fun r71=>
    match r71 with
    |(.inl q73)=>
     some ((r55.2==0)==(decide (0<(r55.1.l.length:Int))))
    |(.inr q74)=>
     some false
theorem zKC (a0:Forest) (a1:Bound) (a2:Bound) (a3:Bound) (r:Bool) (h:P10 a0 a1 a2 a3=some r):pc prog 10 [zac a0,zai a1,zai a2,zai a3]=some (D.bool r):=by
 unfold P10 at h
 refine zbt (fn:=c10) rfl rfl ?_
 delta c10
 try simp only[go_sem]
 obtain⟨r1,hr2,h⟩:=bs h
 replace hr2:=zao hr2
 refine zaq hr2 ?_
 try simp only[go_sem]
 refine zaE (fun hc3=> ?_) (fun hc4=> ?_)
 ·rw[if_pos (show(!r1)=true by(rw[hc3];rfl))]at h
  try simp only[go_sem]
  cases h
  rfl
 rw[if_neg (ffn hc4)]at h
 try simp only[go_sem]
 obtain⟨r5,hr6,h⟩:=bs h
 replace hr6:=zao hr6
 refine zaq hr6 ?_
 try simp only[go_sem]
 obtain⟨r7,hr8,h⟩:=bs h
 replace hr8:=zao hr8
 refine zaq hr8 ?_
 try simp only[go_sem]
 obtain⟨r9,hr10,h⟩:=bs h
 replace hr10:=zao hr10
 refine zaq hr10 ?_
 try simp only[go_sem]
 obtain⟨r11,hr12,h⟩:=bs h
 replace hr12:=zao hr12
 refine zaq hr12 ?_
 try simp only[go_sem]
 refine zaa (v:= .d (.int .i64 r7.2)) (fun hb113=>by simp only[go_sem,hc4,hb113]) ?_
 try simp only[go_sem]
 refine zaa (v:= .d (.bool (!(r7.2==0)))) (fun hb112=>by simp only[go_sem,hc4,hb112]) ?_
 try simp only[go_sem]
 refine zaa (v:= .d (.bool (!(r7.2==0)))) (fun hb111=>by simp only[go_sem,hc4,hb111]) ?_
 try simp only[go_sem]
 refine zaa (v:= .d (.int .i64 r5.1)) (fun hb108=>by((obtain⟨hb109,hb110⟩:=zay hb108));simp only[go_sem,hc4,hb110,hb109]) ?_
 try simp only[go_sem]
 refine zaa (v:= .d (.int .i64 r7.1)) (fun hb105=>by((obtain⟨hb106,hb107⟩:=zay hb105));simp only[go_sem,hc4,hb107,hb106]) ?_
 try simp only[go_sem]
 refine zaa (v:= .d (.int .i64 (IntKind.wrap .i64 (0-r7.1)))) (fun hb102=>by((obtain⟨hb103,hb104⟩:=zay hb102));simp only[go_sem,hc4,hb104,hb103]) ?_
 try simp only[go_sem]
 refine zaa (v:= .d (.bool (!(r5.1==(IntKind.wrap .i64 (0-r7.1)))))) (fun hb99=>by((obtain⟨hb100,hb101⟩:=zay hb99));simp only[go_sem,hc4,hb101,hb100]) ?_
 try simp only[go_sem]
 obtain⟨r21,hl22,h⟩:=bs h
 refine zbR.cut (n:=(0,[])) .normal ⟨(((((((((Regs.none.set 4 (.ptr 0 0 0)).set 5 (.ptr 1 0 0)).set 9 (.d (.int .i64 r5.1))).set 10 (.d (.int .i64 r5.2))).set 13 (.d (.int .i64 r9.1))).set 14 (.d (.int .i64 r9.2))).set 15 (.d (.int .i64 r11.1))).set 16 (.d (.int .i64 r11.2))).set 71 (.d (.bool r21))),(((Heap.at 63).set 0 (some (.els 1 [.d (zac a0)] 0))).set 1 (some (.els 2 [.d (zai a1)] 0)))⟩ ?_ (by(repeat(refine Clo.seq zbJ rfl ?_));(exact Clo.ret)) ?_
 ·replace h:=hl22
  refine zaJ (fun hc13=> ?_) (fun hc14=> ?_)
  ·rw[if_pos hc13]at h
   try simp only[go_sem,hc13]
   refine zaa (v:= .d (.int .i64 r5.1)) (fun hb20=>by simp only[go_sem,hc4,hc13,hb20]) ?_
   try simp only[go_sem]
   refine zaa (v:= .d (.bool (r5.1==0))) (fun hb19=>by simp only[go_sem,hc4,hc13,hb19]) ?_
   try simp only[go_sem]
   refine zaa (v:= .d (zai a1)) (fun hb18=>by simp only[go_sem,hc4,hc13,hb18]) ?_
   try simp only[go_sem]
   refine zaa (v:= .d (zai a2)) (fun hb17=>by simp only[go_sem,hc4,hc13,hb17]) ?_
   try simp only[go_sem]
   refine zaa (v:= .d (.bool (decide (a1=a2)))) (fun hb16=>by simp only[go_sem,hc4,hc13,hb16]) ?_
   try simp only[go_sem]
   refine zaa (v:= .d (.bool (!((r5.1==0)==(decide (a1=a2)))))) (fun hb15=>by simp only[go_sem,hc4,hc13,hb15]) ?_
   try simp only[go_sem]
   cases h
   exact⟨rfl,Up.of (N:=63) (N':=63) [] rfl rfl (by decide) (.set (.d _) (.set (.d _) (.set (.d _) (.set (.d _) (.set (.d _) (.set (.d _) (.set (.d _) (.set (.ptr' rfl) (.set (.ptr' rfl) zam.none))))))))) (.set zax.refl_d (.set zax.refl_d zar.at))⟩
  rw[if_neg (ff hc14)]at h
  try simp only[go_sem,hc14]
  cases h
  exact⟨rfl,Up.of (N:=63) (N':=63) [] rfl rfl (by decide) (.set (.d _) (.set (.d _) (.set (.d _) (.set (.d _) (.set (.d _) (.set (.d _) (.set (.d _) (.set (.ptr' rfl) (.set (.ptr' rfl) zam.none))))))))) (.set zax.refl_d (.set zax.refl_d zar.at))⟩
 try simp only[go_sem]
 refine zal (fun hc23=> ?_) (fun hc24=> ?_)
 ·rw[if_pos hc23]at h
  try simp only[go_sem]
  cases h
  rfl
 rw[if_neg (ff hc24)]at h
 try simp only[go_sem]
 refine zaa (v:= .d (.int .i64 r9.2)) (fun hb98=>by simp only[go_sem,hc4,hc24,hb98]) ?_
 try simp only[go_sem]
 refine zaa (v:= .d (.bool (r9.2==0))) (fun hb97=>by simp only[go_sem,hc4,hc24,hb97]) ?_
 try simp only[go_sem]
 refine zaa (v:= .d (.int .i64 r11.2)) (fun hb96=>by simp only[go_sem,hc4,hc24,hb96]) ?_
 try simp only[go_sem]
 refine zaa (v:= .d (.bool (!(r11.2==0)))) (fun hb95=>by simp only[go_sem,hc4,hc24,hb95]) ?_
 try simp only[go_sem]
 refine zaa (v:= .d (.bool (!(r11.2==0)))) (fun hb94=>by simp only[go_sem,hc4,hc24,hb94]) ?_
 try simp only[go_sem]
 refine zaa (v:= .d (.int .i64 r5.1)) (fun hb91=>by((obtain⟨hb92,hb93⟩:=zay hb91));simp only[go_sem,hc4,hc24,hb93,hb92]) ?_
 try simp only[go_sem]
 refine zaa (v:= .d (.bool (decide (r5.1≤0)))) (fun hb88=>by((obtain⟨hb89,hb90⟩:=zay hb88));simp only[go_sem,hc4,hc24,hb90,hb89]) ?_
 try simp only[go_sem]
 refine zaa (v:= .d (.bool (decide (r5.1≤0)))) (fun hb85=>by((obtain⟨hb86,hb87⟩:=zay hb85));simp only[go_sem,hc4,hc24,hb87,hb86]) ?_
 try simp only[go_sem]
 refine zaa (v:= .d (.int .i64 r9.1)) (fun hb80=>by((obtain⟨hb81,hb82⟩:=zay hb80);(obtain⟨hb83,hb84⟩:=zay hb81));simp only[go_sem,hc4,hc24,hb82,hb84,hb83]) ?_
 try simp only[go_sem]
 refine zaa (v:= .d (.bool (decide (r9.1≤0)))) (fun hb75=>by((obtain⟨hb76,hb77⟩:=zay hb75);(obtain⟨hb78,hb79⟩:=zay hb76));simp only[go_sem,hc4,hc24,hb77,hb79,hb78]) ?_
 try simp only[go_sem]
 rcases Bool.eq_false_or_eq_true ((bif (r5.2==0)then(r9.2==0)else false))with hc25|hc26
 ·rw[if_pos hc25]at h
  try simp only[go_sem,hc25]
  obtain⟨r31,hl32,h⟩:=bs h
  refine zbR.cut (n:=(0,[])) .normal ⟨(((Regs.none.set 4 (.ptr 0 0 0)).set 5 (.ptr 1 0 0)).set 93 (.d (.bool r31))),(((Heap.at 85).set 0 (some (.els 1 [.d (zac a0)] 0))).set 1 (some (.els 2 [.d (zai a1)] 0)))⟩ ?_ (by(repeat(refine Clo.seq zbJ rfl ?_));(exact Clo.ret)) ?_
  ·replace h:=hl32
   refine zaJ (fun hc27=> ?_) (fun hc28=> ?_)
   ·rw[if_pos hc27]at h
    try simp only[go_sem,hc27]
    refine zaa (v:= .d (.int .i64 r11.1)) (fun hb30=>by simp only[go_sem,hc4,hc24,hc25,hc27,hb30]) ?_
    try simp only[go_sem]
    refine zaa (v:= .d (.bool (decide (0<r11.1)))) (fun hb29=>by simp only[go_sem,hc4,hc24,hc25,hc27,hb29]) ?_
    try simp only[go_sem]
    try simp only[go_sem,hc4,hc24,hc25,hc27]
    cases h
    exact⟨rfl,Up.of (N:=85) (N':=85) [] rfl rfl (by decide) (.set (.d _) (.set (.ptr' rfl) (.set (.ptr' rfl) zam.none))) (.set zax.refl_d (.set zax.refl_d zar.at))⟩
   rw[if_neg (ff hc28)]at h
   try simp only[go_sem,hc28]
   try simp only[go_sem,hc4,hc24,hc25,hc28]
   cases h
   exact⟨rfl,Up.of (N:=85) (N':=85) [] rfl rfl (by decide) (.set (.d _) (.set (.ptr' rfl) (.set (.ptr' rfl) zam.none))) (.set zax.refl_d (.set zax.refl_d zar.at))⟩
  try simp only[go_sem]
  refine zal (fun hc33=> ?_) (fun hc34=> ?_)
  ·rw[if_pos hc33]at h
   try simp only[go_sem]
   cases h
   rfl
  rw[if_neg (ff hc34)]at h
  try simp only[go_sem]
  obtain⟨r35,hr36,h⟩:=bs h
  replace hr36:=zao hr36
  refine zaq hr36 ?_
  try simp only[go_sem]
  obtain⟨r51,hl52,h⟩:=bs h
  refine Wp.loopR zbJ (n:=(0,[])) (a:=zoQ) rfl (zhq a0 r35) (zlC a0 r35) (zAk a0 r35) hl52 ?_ (by(repeat(first|refine Clo.block ?_|refine Clo.seq zbJ rfl ?_));(exact Clo.ret)) ?_
  ·show Up (0,[]) (zhq a0 r35 1) _
   delta zhq
   exact Up.of (N:=95) (N':=95) [] rfl rfl (by decide) (.set (.d _) (.set (.d _) (.set (.d _) (.set (.ptr' rfl) zam.none)))) (.set zax.refl_d zar.at)
  rcases r51 with(q53|q54)
  ·dsimp only at h
   dsimp only[zlC]
   try simp only[go_sem]
   cases h
   rfl
  dsimp only at h
  dsimp only[zlC]
  try simp only[go_sem]
  cases h
  rfl
 rw[if_neg (ff hc26)]at h
 try simp only[go_sem,hc26]
 try simp only[go_sem,hc4,hc24,hc26]
 obtain⟨r55,hr56,h⟩:=bs h
 replace hr56:=zao hr56
 refine zaq hr56 ?_
 try simp only[go_sem]
 obtain⟨r71,hl72,h⟩:=bs h
 refine Wp.loopR zbJ (n:=(0,[])) (a:=zoQ) rfl (zhr a0 r55) (zlD a0 r55) (zAl a0 r55) hl72 ?_ (by(repeat(first|refine Clo.block ?_|refine Clo.seq zbJ rfl ?_));(exact Clo.ret)) ?_
 ·show Up (0,[]) (zhr a0 r55 1) _
  delta zhr
  exact Up.of (N:=95) (N':=95) [] rfl rfl (by decide) (.set (.d _) (.set (.d _) (.set (.d _) (.set (.ptr' rfl) zam.none)))) (.set zax.refl_d zar.at)
 rcases r71 with(q73|q74)
 ·dsimp only at h
  dsimp only[zlD]
  try simp only[go_sem]
  cases h
  rfl
 dsimp only at h
 dsimp only[zlD]
 try simp only[go_sem]
 cases h
 rfl
def zhs (a0:Forest) (a1:Range) (a2:Int) (r19:Sl (Bound)×Int) (x0:Int):St:=⟨((((((Regs.none.set 2 (.d (.int .i64 a2))).set 3 (.ptr 0 0 0)).set 4 (.ptr 1 0 0)).set 11 (.d (.int .i64 r19.2))).set 14 (.d (.list r19.1.n (r19.1.l.map zai)))).set 15 (.d (.int .i64 x0))),(((Heap.at 69).set 0 (some (.els 1 [.d (zac a0)] 0))).set 1 (some (.els 4 [.d (zaP a1)] 0)))⟩
def zlE (a0:Forest) (a1:Range) (a2:Int) (r19:Sl (Bound)×Int):((Unit)⊕(Unit))→Ex×St:=fun r=>match r with
 |(.inl r)=>(.exit 0,⟨((((Regs.none.set 2 (.d (.int .i64 a2))).set 3 (.ptr 0 0 0)).set 4 (.ptr 1 0 0)).set 11 (.d (.int .i64 r19.2))),(((Heap.at 69).set 0 (some (.els 1 [.d (zac a0)] 0))).set 1 (some (.els 4 [.d (zaP a1)] 0)))⟩)
 |(.inr r)=>(.ret,⟨(Regs.none.set 6 (.d (.bool false))),(Heap.at 69)⟩)
noncomputable def zce (a0:Forest) (a1:Range) (a2:Int) (r19:Sl (Bound)×Int) (x0:Int):Option ((Int)⊕((Unit)⊕(Unit))):=
 if(bif (decide (x0<(r19.1.l.length:Int)))then(decide (x0<40))else false)=true then
  (rd r19.1.l x0).bind fun y23=>
  (dec (eT2 (D.int .i64) (D.int .i64)) (pc prog 75 [zac a0,zaP a1,zai y23])).bind fun r25=>
  if(bif (!(r25.2==0))then true else(!(r25.1==0)))=true then
   some (.inr (.inr ()))
  else
   some (.inl (IntKind.wrap .i64 (x0+1)))
 else
  some (.inr (.inl ()))
theorem zAm (a0:Forest) (a1:Range) (a2:Int) (r19:Sl (Bound)×Int) (x0:Int) (o:(Int)⊕((Unit)⊕(Unit))) (h:zce a0 a1 a2 r19 x0=some o):Wp prog zzN (zhs a0 a1 a2 r19 x0) (zcP (0,[]) (zhs a0 a1 a2 r19) (zlE a0 a1 a2 r19) o):=by
 unfold zce at h
 delta zzN zhs
 try simp only[go_sem]
 refine zaa (v:= .d (.int .i64 x0)) (fun hb32=>by simp only[go_sem,hb32]) ?_
 try simp only[go_sem]
 refine zaa (v:= .d (.bool (decide (x0<40)))) (fun hb31=>by simp only[go_sem,hb31]) ?_
 try simp only[go_sem]
 refine zal (fun hc21=> ?_) (fun hc22=> ?_)
 ·rw[if_pos hc21]at h
  try simp only[go_sem]
  obtain⟨y23,hy24,h⟩:=bs h
  try simp only[go_sem,zad hy24,zak hy24,zae zai hy24]
  obtain⟨r25,hr26,h⟩:=bs h
  replace hr26:=zao hr26
  refine zaq hr26 ?_
  try simp only[go_sem,zad hy24,zak hy24,zae zai hy24]
  refine zaa (v:= .d (.int .i64 r25.1)) (fun hb30=>by simp only[go_sem,zad hy24,zak hy24,zae zai hy24,hc21,hb30]) ?_
  try simp only[go_sem,zad hy24,zak hy24,zae zai hy24]
  refine zaa (v:= .d (.bool (!(r25.1==0)))) (fun hb29=>by simp only[go_sem,zad hy24,zak hy24,zae zai hy24,hc21,hb29]) ?_
  try simp only[go_sem,zad hy24,zak hy24,zae zai hy24]
  refine zal (fun hc27=> ?_) (fun hc28=> ?_)
  ·rw[if_pos hc27]at h
   try simp only[go_sem,zad hy24,zak hy24,zae zai hy24]
   cases h
   exact⟨rfl,by simp,Up.of (N:=69) (N':=96) [] rfl rfl (by decide) (.set (.d _) zam.none) zar.at⟩
  rw[if_neg (ff hc28)]at h
  try simp only[go_sem,zad hy24,zak hy24,zae zai hy24]
  cases h
  exact⟨rfl,Up.of (N:=69) (N':=98) [] rfl rfl (by decide) (.set (.d _) (.set (.d _) (.set (.d _) (.set (.ptr' rfl) (.set (.ptr' rfl) (.set (.d _) zam.none)))))) (.set zax.refl_d (.set zax.refl_d zar.at))⟩
 rw[if_neg (ff hc22)]at h
 try simp only[go_sem]
 cases h
 exact⟨rfl,by simp,Up.of (N:=69) (N':=77) [] rfl rfl (by decide) (.set (.d _) (.set (.ptr' rfl) (.set (.ptr' rfl) (.set (.d _) zam.none)))) (.set zax.refl_d (.set zax.refl_d zar.at))⟩
noncomputable def P17 (a0:Forest) (a1:Range) (a2:Int):Option (Bool):=
 (dec D.bool (pc prog 40 [])).bind fun r1=>
 if(!r1)=true then
  some false
 else
  (dec (eT3 D.bool D.bool (D.int .i64)) (pc prog 71 [zac a0,zaP a1,.int .i64 a2])).bind fun r5=>
  if(!(r5.2.2==0))=true then
   some (bif (!r5.1)then(!r5.2.1)else false)
  else
   (dec (eT2 (D.int .i64) (D.int .i64)) (pc prog 75 [zac a0,zaP a1,zai a1.start])).bind fun r11=>
   (dec (eT2 (D.int .i64) (D.int .i64)) (pc prog 75 [zac a0,zaP a1,zai a1.end_])).bind fun r13=>
   if(bif (bif (bif (bif (bif r5.1 then r5.2.1 else false)then true else(!(r11.2==0)))then true else(!(r13.2==0)))then true else(!(r11.1==0)))then true else(!(r13.1==0)))=true then
    some false
   else
    if(!r5.1)=true then
     some true
    else
     (dec (eT2 (eSl zai) (D.int .i64)) (pc prog 42 [zac a0,.int .i64 a2])).bind fun r19=>
     (zaT (zce a0 a1 a2 r19) 0).bind fun r33=>
     match r33 with
     |(.inl q35)=>
      (dec (eT2 D.bool (D.int .i64)) (pc prog 76 [zac a0,zaP a1,.int .i64 a2])).bind fun r36=>
      some (bif (bif (r19.2==0)then(r36.2==0)else false)then r36.1 else false)
     |(.inr q41)=>
      some false
theorem zKD (a0:Forest) (a1:Range) (a2:Int) (r:Bool) (h:P17 a0 a1 a2=some r):pc prog 17 [zac a0,zaP a1,.int .i64 a2]=some (D.bool r):=by
 unfold P17 at h
 refine zbt (fn:=c17) rfl rfl ?_
 delta c17
 try simp only[go_sem]
 obtain⟨r1,hr2,h⟩:=bs h
 replace hr2:=zao hr2
 refine zaq hr2 ?_
 try simp only[go_sem]
 refine zaE (fun hc3=> ?_) (fun hc4=> ?_)
 ·rw[if_pos (show(!r1)=true by(rw[hc3];rfl))]at h
  try simp only[go_sem]
  cases h
  rfl
 rw[if_neg (ffn hc4)]at h
 try simp only[go_sem]
 obtain⟨r5,hr6,h⟩:=bs h
 replace hr6:=zao hr6
 refine zaq hr6 ?_
 try simp only[go_sem]
 refine zaE (fun hc7=> ?_) (fun hc8=> ?_)
 ·rw[if_pos (show(!(r5.2.2==0))=true by(rw[hc7];rfl))]at h
  try simp only[go_sem]
  refine zaa (v:= .d (.bool r5.2.1)) (fun hb10=>by simp only[go_sem,hc4,hc7,hb10]) ?_
  try simp only[go_sem]
  refine zaa (v:= .d (.bool (!r5.2.1))) (fun hb9=>by simp only[go_sem,hc4,hc7,hb9]) ?_
  try simp only[go_sem]
  cases h
  rfl
 rw[if_neg (ffn hc8)]at h
 try simp only[go_sem]
 obtain⟨r11,hr12,h⟩:=bs h
 replace hr12:=zao hr12
 refine zaq hr12 ?_
 try simp only[go_sem]
 obtain⟨r13,hr14,h⟩:=bs h
 replace hr14:=zao hr14
 refine zaq hr14 ?_
 try simp only[go_sem]
 refine zaa (v:= .d (.bool r5.2.1)) (fun hb50=>by simp only[go_sem,hc4,hc8,hb50]) ?_
 try simp only[go_sem]
 refine zaa (v:= .d (.int .i64 r11.2)) (fun hb49=>by simp only[go_sem,hc4,hc8,hb49]) ?_
 try simp only[go_sem]
 refine zaa (v:= .d (.bool (!(r11.2==0)))) (fun hb48=>by simp only[go_sem,hc4,hc8,hb48]) ?_
 try simp only[go_sem]
 refine zaa (v:= .d (.int .i64 r13.2)) (fun hb47=>by simp only[go_sem,hc4,hc8,hb47]) ?_
 try simp only[go_sem]
 refine zaa (v:= .d (.bool (!(r13.2==0)))) (fun hb46=>by simp only[go_sem,hc4,hc8,hb46]) ?_
 try simp only[go_sem]
 refine zaa (v:= .d (.int .i64 r11.1)) (fun hb45=>by simp only[go_sem,hc4,hc8,hb45]) ?_
 try simp only[go_sem]
 refine zaa (v:= .d (.bool (!(r11.1==0)))) (fun hb44=>by simp only[go_sem,hc4,hc8,hb44]) ?_
 try simp only[go_sem]
 refine zaa (v:= .d (.int .i64 r13.1)) (fun hb43=>by simp only[go_sem,hc4,hc8,hb43]) ?_
 try simp only[go_sem]
 refine zaa (v:= .d (.bool (!(r13.1==0)))) (fun hb42=>by simp only[go_sem,hc4,hc8,hb42]) ?_
 try simp only[go_sem]
 refine zal (fun hc15=> ?_) (fun hc16=> ?_)
 ·rw[if_pos hc15]at h
  try simp only[go_sem]
  cases h
  rfl
 rw[if_neg (ff hc16)]at h
 try simp only[go_sem]
 refine zaE (fun hc17=> ?_) (fun hc18=> ?_)
 ·rw[if_pos (show(!r5.1)=true by(rw[hc17];rfl))]at h
  try simp only[go_sem]
  cases h
  rfl
 rw[if_neg (ffn hc18)]at h
 try simp only[go_sem]
 obtain⟨r19,hr20,h⟩:=bs h
 replace hr20:=zao hr20
 refine zaq hr20 ?_
 try simp only[go_sem]
 obtain⟨r33,hl34,h⟩:=bs h
 refine Wp.loopR zbJ (n:=(0,[])) (a:=zzN) rfl (zhs a0 a1 a2 r19) (zlE a0 a1 a2 r19) (zAm a0 a1 a2 r19) hl34 ?_ (by(repeat(first|refine Clo.block ?_|refine Clo.seq zbJ rfl ?_));(exact Clo.ret)) ?_
 ·show Up (0,[]) (zhs a0 a1 a2 r19 0) _
  delta zhs
  exact Up.of (N:=69) (N':=69) [] rfl rfl (by decide) (.set (.d _) (.set (.d _) (.set (.d _) (.set (.ptr' rfl) (.set (.ptr' rfl) (.set (.d _) zam.none)))))) (.set zax.refl_d (.set zax.refl_d zar.at))
 rcases r33 with(q35|q41)
 ·dsimp only at h
  dsimp only[zlE]
  try simp only[go_sem]
  obtain⟨r36,hr37,h⟩:=bs h
  replace hr37:=zao hr37
  refine zaq hr37 ?_
  try simp only[go_sem]
  refine zaa (v:= .d (.int .i64 r36.2)) (fun hb40=>by simp only[go_sem,hc4,hc8,hc16,hc18,hb40]) ?_
  try simp only[go_sem]
  refine zaa (v:= .d (.bool (r36.2==0))) (fun hb39=>by simp only[go_sem,hc4,hc8,hc16,hc18,hb39]) ?_
  try simp only[go_sem]
  refine zaa (v:= .d (.bool r36.1)) (fun hb38=>by simp only[go_sem,hc4,hc8,hc16,hc18,hb38]) ?_
  try simp only[go_sem]
  cases h
  rfl
 dsimp only at h
 dsimp only[zlE]
 try simp only[go_sem]
 cases h
 rfl
noncomputable def P41 (a0:Forest) (a1:Bound) (a2:Bound):Option (Int×Int):=
 (dec (D.int .i64) (pc prog 109 [zac a0,.list false (([a1,a2]).map zai),.list true []])).bind fun r1=>
 if(!(r1==0))=true then
  some (0,r1)
 else
  (dec D.bool (pc prog 110 [zac a0,.int .i64 a1.node,.int .i64 a2.node])).bind fun r5=>
  if(!r5)=true then
   some (0,18)
  else
   (dec (D.int .i64) (pc prog 111 [zac a0,zai a1,zai a2])).bind fun r9=>
   some (r9,0)
theorem zKE (a0:Forest) (a1:Bound) (a2:Bound) (r:Int×Int) (h:P41 a0 a1 a2=some r):pc prog 41 [zac a0,zai a1,zai a2]=some ((eT2 (D.int .i64) (D.int .i64)) r):=by
 unfold P41 at h
 refine zbt (fn:=c41) rfl rfl ?_
 delta c41
 try simp only[go_sem]
 obtain⟨r1,hr2,h⟩:=bs h
 replace hr2:=zao hr2
 refine zaq hr2 ?_
 try simp only[go_sem]
 refine zaE (fun hc3=> ?_) (fun hc4=> ?_)
 ·rw[if_pos (show(!(r1==0))=true by(rw[hc3];rfl))]at h
  try simp only[go_sem]
  cases h
  rfl
 rw[if_neg (ffn hc4)]at h
 try simp only[go_sem]
 obtain⟨r5,hr6,h⟩:=bs h
 replace hr6:=zao hr6
 refine zaq hr6 ?_
 try simp only[go_sem]
 refine zaE (fun hc7=> ?_) (fun hc8=> ?_)
 ·rw[if_pos (show(!r5)=true by(rw[hc7];rfl))]at h
  try simp only[go_sem]
  cases h
  rfl
 rw[if_neg (ffn hc8)]at h
 try simp only[go_sem]
 obtain⟨r9,hr10,h⟩:=bs h
 replace hr10:=zao hr10
 refine zaq hr10 ?_
 try simp only[go_sem]
 cases h
 rfl
def zfR (a0:Forest) (a1:Int) (x0:List (Bound)):Heap:=(((((((Heap.at 24).set 0 (some (.els 1 [.d (zac a0)] 0))).set 10 (some (.els 1 [mb 18 (x0.map fun z=>V.d (zai z))] 0))).set 14 (some (.els 1 [.d (zac a0)] 0))).set 15 (some (.els 1 [.d (.int .i64 a1)] 0))).set 18 (mbB 2 x0.length (x0.map fun z=>V.d (zai z)))).set 19 (some (.loop ⟨(Regs.none.set 7 (.ptr 10 0 0)),[19],zzO,zzP,.ready,none⟩)))
def zpp (a0:Forest) (a1:Int):(Empty)→Heap:=fun r=>r.elim
noncomputable def zdR (a0:Forest) (a1:Int) (x0:List (Bound)) (v0:Bound):Option ((List (Bound))⊕(Empty)):=
 if(x0.length+1)*16≤AI.roomBytes then
  some (.inl (x0++[v0]))
 else none
theorem zAn (a0:Forest) (a1:Int):Yl prog (24,[18]) 19 zai (zfR a0 a1) (zpp a0 a1) (zdR a0 a1):=by
 refine⟨by decide,fun x0=> ?_,fun r=> ?_,fun x0 v0 o h=> ?_⟩
 ·show LocH 24 _;delta zfR;repeat(first|exact LocH.at|refine LocH.set (by decide) ?_ ?_|refine zAG.some ?_|exact zAG.mb|refine zmN.els ?_|refine zmN.loop ?_|exact zfS.nil|refine zfS.cons ?_ ?_|exact zek.d|exact zek.ptr (by decide)|exact zek.mb (by decide)|exact zsJ.none|refine zsJ.set ?_ ?_)
 ·exact r.elim
 unfold zdR at h
 delta zfR
 refine zmP (L:=⟨(Regs.none.set 7 (.ptr 10 0 0)),[19],zzO,zzP,.ready,none⟩) (by simp only[go_sem]) rfl ?_
 delta zzO
 try simp only[go_sem]
 delta zzP
 try simp only[go_sem]
 obtain⟨hm5,h⟩:=zds h
 refine zgg (l:=x0.map fun z=>V.d (zai z)) (new:=[V.d (zai v0)]) (sz:=2) (fz:=x0.length) (by simp only[go_sem,List.map_append,List.map_cons,List.map_nil]) (by intro h;simpa using h) (by simp only[go_sem,zdo,zec,zdp,zcc,zkS]) (by simp) (by simp only[go_sem]) (by simpa using hm5) ?_
 try simp only[go_sem,hm5]
 cases h
 refine⟨rfl,Up.of (N:=24) (N':=31) [(18,29)] rfl rfl (by decide) ?_ ?_⟩
 ·exact zam.none
 refine zar.set (show zax _ _ (Heap.get _ 19)from ?_) (zar.set (show zax _ _ (Heap.get _ 29)from ?_) (zar.set (show zax _ _ (Heap.get _ 15)from ?_) (zar.set (show zax _ _ (Heap.get _ 14)from ?_) (zar.set (show zax _ _ (Heap.get _ 10)from ?_) (zar.set (show zax _ _ (Heap.get _ 0)from ?_) (zar.at))))))
 all_goals (try simp only[go_sem,List.map_append,List.map_cons,List.map_nil,hm5])
 all_goals (((repeat' first|exact zax.refl_d|refine zax.els (by simp) ?_|refine zax.mb_els (by simp) ?_|refine zax.loop ?_ rfl rfl|exact zam.none|refine zam.set ?_ ?_|exact VR.d _|exact VR.ptr' rfl|exact VR.mb_sl (by simp) rfl (by simp)|exact VRL.nil|exact VRL.refl_d _ _|refine VRL.append ?_ ?_|refine VRL.cons ?_ ?_);done))
noncomputable def P42 (a0:Forest) (a1:Int):Option (Sl (Bound)×Int):=
 (dec (D.int .i64) (pc prog 87 [zac a0,.list false (([a1]).map (D.int .i64))])).bind fun r1=>
 if(!(r1==0))=true then
  some (⟨true,[]⟩,r1)
 else
  (zgB a0 a1).bind fun l6=>
  (foldI (zdR a0 a1) ([]) l6).bind fun r8=>
  match r8 with
  | .inl q10=>
   some (⟨q10.isEmpty,q10⟩,0)
  | .inr q0=>
   q0.elim
theorem zKF (a0:Forest) (a1:Int) (r:Sl (Bound)×Int) (h:P42 a0 a1=some r):pc prog 42 [zac a0,.int .i64 a1]=some ((eT2 (eSl zai) (D.int .i64)) r):=by
 unfold P42 at h
 refine zbt (fn:=c42) rfl rfl ?_
 delta c42
 try simp only[go_sem]
 obtain⟨r1,hr2,h⟩:=bs h
 replace hr2:=zao hr2
 refine zaq hr2 ?_
 try simp only[go_sem]
 refine zaE (fun hc3=> ?_) (fun hc4=> ?_)
 ·rw[if_pos (show(!(r1==0))=true by(rw[hc3];rfl))]at h
  try simp only[go_sem]
  cases h
  rfl
 rw[if_neg (ffn hc4)]at h
 try simp only[go_sem]
 refine zgh (fn:=zHu) rfl rfl ?_
 delta zHu
 try simp only[go_sem]
 refine Wp.rfuncC (k:=178) (fn:=zHI) (first:=[]) (cap:=[.ptr 14 0 0,.ptr 15 0 0]) (by simp only[go_sem]) rfl rfl ?_
 delta zHI
 try simp only[go_sem]
 obtain⟨l6,hl7,h⟩:=bs h
 obtain⟨r8,hl9,h⟩:=bs h
 refine zmQ zbJ (n:=(24,[18])) (n':=(20,[18])) (S:=zfR a0 a1) (F:=zpp a0 a1) (znD hl7) (zAn a0 a1) (fun _=>Nat.le_refl _) (fun r=>r.elim) hl9 ?_ rfl rfl rfl ?_ ?_ (show Fx.spans _ 20 4=true from by decide) (by decide) (by(repeat(first|refine Clo.block ?_|refine Clo.seq zbJ rfl ?_));refine Clo.rf (n':=(0,[18])) ?_ (by decide) (by decide) ?_;((repeat(first|refine zbQ.set ?_ ?_|refine zbQ.args ?_|exact zbS.nil|refine zbS.cons ?_ ?_|exact zcn.d|exact zcn.ptr (by decide)|refine zcn.clo ?_ ?_)));(repeat(first|refine Clo.block ?_|refine Clo.seq zbJ rfl ?_));(exact Clo.ret)) rfl ?_
 ·show Up (24,[18]) ⟨Regs.none,zfR a0 a1 ([])⟩ _
  delta zfR
  refine Up.of (N:=24) (N':=24) [] rfl rfl (by decide) ?_ ?_
  ·exact zam.none
  refine zar.set (show zax _ _ (Heap.get _ 19)from ?_) (zar.set (show zax _ _ (Heap.get _ 18)from ?_) (zar.set (show zax _ _ (Heap.get _ 15)from ?_) (zar.set (show zax _ _ (Heap.get _ 14)from ?_) (zar.set (show zax _ _ (Heap.get _ 10)from ?_) (zar.set (show zax _ _ (Heap.get _ 0)from ?_) (zar.at))))))
  all_goals (try simp only[go_sem,List.map_append,List.map_cons,List.map_nil])
  all_goals (((repeat' first|trivial|exact zax.refl_d|refine zax.loop ?_ rfl rfl|exact zam.none|refine zam.set ?_ ?_|exact VR.ptr' rfl);done))
 ·repeat(first|exact zbQ.no|refine zbQ.set ?_ ?_|exact zcn.d|exact zcn.yld (by decide))
 ·repeat(first|refine zbQ.args ?_|exact zbS.nil|refine zbS.cons ?_ ?_|exact zcn.ptr (by decide)|exact zcn.yld (by decide))
 rcases r8 with(q10|q0)
 ·dsimp only at h
  simp only[zpZ,zqa,zeH,zeI]
  dsimp only[zfR,zpp]
  try simp only[go_sem]
  cases h
  refine Reads.ofv (v':=V.ofTuple [mb 18 (q10.map fun z=>V.d (zai z)),.d (.int .i64 (0))]) (by rfl) (Rd.tuple (RdL.cons (Rd.mb (e:=zai) (l:=q10) (sz:=2) (fz:=q10.length) (by simp only[go_sem,List.map_append,List.map_cons,List.map_nil])) (RdL.cons Rd.d RdL.nil))) rfl
 exact q0.elim
noncomputable def P71 (a0:Forest) (a1:Range) (a2:Int):Option (Bool×Bool×Int):=
 (dec (D.int .i64) (pc prog 139 [zac a0,zaP a1,.list true [],.list false (([a2]).map (D.int .i64))])).bind fun r1=>
 if(!(r1==0))=true then
  some (false,false,r1)
 else
  (dec D.bool (pc prog 142 [zac a0,zaP a1,.int .i64 a2])).bind fun r5=>
  (dec D.bool (pc prog 143 [zac a0,zaP a1,.int .i64 a2])).bind fun r7=>
  some (r5,r7,0)
theorem zKG (a0:Forest) (a1:Range) (a2:Int) (r:Bool×Bool×Int) (h:P71 a0 a1 a2=some r):pc prog 71 [zac a0,zaP a1,.int .i64 a2]=some ((eT3 D.bool D.bool (D.int .i64)) r):=by
 unfold P71 at h
 refine zbt (fn:=c71) rfl rfl ?_
 delta c71
 try simp only[go_sem]
 obtain⟨r1,hr2,h⟩:=bs h
 replace hr2:=zao hr2
 refine zaq hr2 ?_
 try simp only[go_sem]
 refine zaE (fun hc3=> ?_) (fun hc4=> ?_)
 ·rw[if_pos (show(!(r1==0))=true by(rw[hc3];rfl))]at h
  try simp only[go_sem]
  cases h
  rfl
 rw[if_neg (ffn hc4)]at h
 try simp only[go_sem]
 obtain⟨r5,hr6,h⟩:=bs h
 replace hr6:=zao hr6
 refine zaq hr6 ?_
 try simp only[go_sem]
 obtain⟨r7,hr8,h⟩:=bs h
 replace hr8:=zao hr8
 refine zaq hr8 ?_
 try simp only[go_sem]
 cases h
 rfl
noncomputable def P75 (a0:Forest) (a1:Range) (a2:Bound):Option (Int×Int):=
 (dec (D.int .i64) (pc prog 139 [zac a0,zaP a1,.list false (([a2]).map zai),.list true []])).bind fun r1=>
 if(!(r1==0))=true then
  some (0,r1)
 else
  (dec D.bool (pc prog 110 [zac a0,.int .i64 a1.start.node,.int .i64 a2.node])).bind fun r5=>
  if(!r5)=true then
   some (0,18)
  else
   (dec (D.int .i64) (pc prog 111 [zac a0,zai a2,zai a1.start])).bind fun r9=>
   if(decide (r9<0))=true then
    some ((-1),0)
   else
    (dec (D.int .i64) (pc prog 111 [zac a0,zai a2,zai a1.end_])).bind fun r13=>
    if(decide (0<r13))=true then
     some (1,0)
    else
     some (0,0)
theorem zKH (a0:Forest) (a1:Range) (a2:Bound) (r:Int×Int) (h:P75 a0 a1 a2=some r):pc prog 75 [zac a0,zaP a1,zai a2]=some ((eT2 (D.int .i64) (D.int .i64)) r):=by
 unfold P75 at h
 refine zbt (fn:=c75) rfl rfl ?_
 delta c75
 try simp only[go_sem]
 obtain⟨r1,hr2,h⟩:=bs h
 replace hr2:=zao hr2
 refine zaq hr2 ?_
 try simp only[go_sem]
 refine zaE (fun hc3=> ?_) (fun hc4=> ?_)
 ·rw[if_pos (show(!(r1==0))=true by(rw[hc3];rfl))]at h
  try simp only[go_sem]
  cases h
  rfl
 rw[if_neg (ffn hc4)]at h
 try simp only[go_sem]
 obtain⟨r5,hr6,h⟩:=bs h
 replace hr6:=zao hr6
 refine zaq hr6 ?_
 try simp only[go_sem]
 refine zaE (fun hc7=> ?_) (fun hc8=> ?_)
 ·rw[if_pos (show(!r5)=true by(rw[hc7];rfl))]at h
  try simp only[go_sem]
  cases h
  rfl
 rw[if_neg (ffn hc8)]at h
 try simp only[go_sem]
 obtain⟨r9,hr10,h⟩:=bs h
 replace hr10:=zao hr10
 refine zaq hr10 ?_
 try simp only[go_sem]
 refine zal (fun hc11=> ?_) (fun hc12=> ?_)
 ·rw[if_pos hc11]at h
  try simp only[go_sem]
  cases h
  rfl
 rw[if_neg (ff hc12)]at h
 try simp only[go_sem]
 obtain⟨r13,hr14,h⟩:=bs h
 replace hr14:=zao hr14
 refine zaq hr14 ?_
 try simp only[go_sem]
 refine zal (fun hc15=> ?_) (fun hc16=> ?_)
 ·rw[if_pos hc15]at h
  try simp only[go_sem]
  cases h
  rfl
 rw[if_neg (ff hc16)]at h
 try simp only[go_sem]
 cases h
 rfl
noncomputable def P76 (a0:Forest) (a1:Range) (a2:Int):Option (Bool×Int):=
 (dec (D.int .i64) (pc prog 139 [zac a0,zaP a1,.list true [],.list false (([a2]).map (D.int .i64))])).bind fun r1=>
 if(!(r1==0))=true then
  some (false,r1)
 else
  (dec zap (pc prog 91 [zac a0,.int .i64 a2])).bind fun r5=>
  (dec D.bool (pc prog 110 [zac a0,.int .i64 a2,.int .i64 a1.start.node])).bind fun r7=>
  if(!r7)=true then
   some (false,0)
  else
   if(r5.parent==0)=true then
    some (true,0)
   else
    (dec (D.int .i64) (pc prog 146 [zac a0,.int .i64 a2])).bind fun r13=>
    (dec (D.int .i64) (pc prog 111 [zac a0,zai (⟨r5.parent,r13⟩:Bound),zai a1.end_])).bind fun r15=>
    if(decide (r15<0))=true then
     (dec (D.int .i64) (pc prog 111 [zac a0,zai (⟨r5.parent,(IntKind.wrap .i64 (r13+1))⟩:Bound),zai a1.start])).bind fun r19=>
     some ((decide (0<r19)),0)
    else
     some (false,0)
theorem zKI (a0:Forest) (a1:Range) (a2:Int) (r:Bool×Int) (h:P76 a0 a1 a2=some r):pc prog 76 [zac a0,zaP a1,.int .i64 a2]=some ((eT2 D.bool (D.int .i64)) r):=by
 unfold P76 at h
 refine zbt (fn:=c76) rfl rfl ?_
 delta c76
 try simp only[go_sem]
 obtain⟨r1,hr2,h⟩:=bs h
 replace hr2:=zao hr2
 refine zaq hr2 ?_
 try simp only[go_sem]
 refine zaE (fun hc3=> ?_) (fun hc4=> ?_)
 ·rw[if_pos (show(!(r1==0))=true by(rw[hc3];rfl))]at h
  try simp only[go_sem]
  cases h
  rfl
 rw[if_neg (ffn hc4)]at h
 try simp only[go_sem]
 obtain⟨r5,hr6,h⟩:=bs h
 replace hr6:=zao hr6
 refine zaq hr6 ?_
 try simp only[go_sem]
 obtain⟨r7,hr8,h⟩:=bs h
 replace hr8:=zao hr8
 refine zaq hr8 ?_
 try simp only[go_sem]
 refine zaE (fun hc9=> ?_) (fun hc10=> ?_)
 ·rw[if_pos (show(!r7)=true by(rw[hc9];rfl))]at h
  try simp only[go_sem]
  cases h
  rfl
 rw[if_neg (ffn hc10)]at h
 try simp only[go_sem]
 refine zal (fun hc11=> ?_) (fun hc12=> ?_)
 ·rw[if_pos hc11]at h
  try simp only[go_sem]
  cases h
  rfl
 rw[if_neg (ff hc12)]at h
 try simp only[go_sem]
 obtain⟨r13,hr14,h⟩:=bs h
 replace hr14:=zao hr14
 refine zaq hr14 ?_
 try simp only[go_sem]
 obtain⟨r15,hr16,h⟩:=bs h
 replace hr16:=zao hr16
 refine zaq hr16 ?_
 try simp only[go_sem]
 refine zaa (v:= .d (zac a0)) (fun hb21=>by simp only[go_sem,hc4,hc10,hc12,hb21]) ?_
 try simp only[go_sem]
 refine zaJ (fun hc17=> ?_) (fun hc18=> ?_)
 ·rw[if_pos hc17]at h
  try simp only[go_sem,hc17]
  obtain⟨r19,hr20,h⟩:=bs h
  replace hr20:=zao hr20
  refine zaq hr20 ?_
  try simp only[go_sem]
  cases h
  rfl
 rw[if_neg (ff hc18)]at h
 try simp only[go_sem,hc18]
 cases h
 rfl
def zfa (a0:Forest) (a1:Sl (Bound)) (a2:Sl (Int)) (x0:Int×List (Int)):St:=⟨(((((((Regs.none.set 1 (.d (.list a1.n (a1.l.map zai)))).set 2 (.d (.list a2.n (a2.l.map (D.int .i64))))).set 3 (.ptr 0 0 0)).set 7 (mb 5 (x0.2.map fun z=>V.d ((D.int .i64) z)))).set 13 (.d (.list a1.n (a1.l.map zai)))).set 14 (.d (.int .i64 (a1.l.length:Int)))).set 15 (.d (.int .i64 x0.1))),(((Heap.at 6).set 0 (some (.els 1 [.d (zac a0)] 0))).set 5 (mbB 1 x0.2.length (x0.2.map fun z=>V.d ((D.int .i64) z))))⟩
def zlF (a0:Forest) (a1:Sl (Bound)) (a2:Sl (Int)):((List (Int)))→Ex×St:=fun r=>(.exit 0,⟨((((Regs.none.set 1 (.d (.list a1.n (a1.l.map zai)))).set 2 (.d (.list a2.n (a2.l.map (D.int .i64))))).set 3 (.ptr 0 0 0)).set 7 (mb 5 (r.map fun z=>V.d ((D.int .i64) z)))),(((Heap.at 6).set 0 (some (.els 1 [.d (zac a0)] 0))).set 5 (mbB 1 r.length (r.map fun z=>V.d ((D.int .i64) z))))⟩)
noncomputable def zbZ (a0:Forest) (a1:Sl (Bound)) (a2:Sl (Int)) (x0:Int×List (Int)):Option ((Int×List (Int))⊕((List (Int)))):=
 if(decide (x0.1<(a1.l.length:Int)))=true then
  (rd a1.l x0.1).bind fun y3=>
  if(x0.2.length+1)*8≤AI.roomBytes then
   some (.inl ((IntKind.wrap .i64 (x0.1+1)),(x0.2++[y3.node])))
  else none
 else
  some (.inr x0.2)
theorem zwT (a0:Forest) (a1:Sl (Bound)) (a2:Sl (Int)) (x0:Int×List (Int)) (o:(Int×List (Int))⊕((List (Int)))) (h:zbZ a0 a1 a2 x0=some o):Wp prog zqd (zfa a0 a1 a2 x0) (zcP (0,[]) (zfa a0 a1 a2) (zlF a0 a1 a2) o):=by
 unfold zbZ at h
 delta zqd zfa
 try simp only[go_sem]
 refine zal (fun hc1=> ?_) (fun hc2=> ?_)
 ·rw[if_pos hc1]at h
  try simp only[go_sem]
  obtain⟨y3,hy4,h⟩:=bs h
  try simp only[go_sem,zad hy4,zak hy4,zae zai hy4]
  obtain⟨hm5,h⟩:=zds h
  refine zgg (l:=x0.2.map fun z=>V.d ((D.int .i64) z)) (new:=[V.d (.int .i64 y3.node)]) (sz:=1) (fz:=x0.2.length) (by simp only[go_sem,List.map_append,List.map_cons,List.map_nil,zad hy4,zak hy4,zae zai hy4]) (by intro h;simpa using h) (by simp only[go_sem,zdo,zec,zdp,zcc,zkS]) (by simp) (by simp only[go_sem]) (by simpa using hm5) ?_
  try simp only[go_sem,zad hy4,zak hy4,zae zai hy4,hm5]
  cases h
  refine⟨rfl,Up.of (N:=6) (N':=19) [(5,15)] rfl rfl (by decide) ?_ ?_⟩
  ·refine zam.set ?_ (zam.set ?_ (zam.set ?_ (zam.set ?_ (zam.set ?_ (zam.set ?_ (zam.set ?_ zam.none))))))
   all_goals (try simp only[go_sem,List.map_append,List.map_cons,List.map_nil,zad hy4,zak hy4,zae zai hy4,hm5])
   all_goals (first|exact VR.d _|exact VR.mb_sl (by simp) rfl (by simp)|exact VR.ptr' rfl)
  refine zar.set (show zax _ _ (Heap.get _ 15)from ?_) (zar.set (show zax _ _ (Heap.get _ 0)from ?_) (zar.at))
  all_goals (try simp only[go_sem,List.map_append,List.map_cons,List.map_nil,zad hy4,zak hy4,zae zai hy4,hm5])
  all_goals (((repeat' first|exact zax.refl_d|refine zax.mb_els (by simp) ?_|exact VR.d _|exact VRL.nil|exact VRL.refl_d _ _|refine VRL.append ?_ ?_|refine VRL.cons ?_ ?_);done))
 rw[if_neg (ff hc2)]at h
 try simp only[go_sem]
 cases h
 refine⟨rfl,by simp,Up.of (N:=6) (N':=7) [] rfl rfl (by decide) ?_ ?_⟩
 ·refine zam.set ?_ (zam.set ?_ (zam.set ?_ (zam.set ?_ zam.none)))
  all_goals (try simp only[go_sem,List.map_append,List.map_cons,List.map_nil])
  all_goals (first|exact VR.d _|exact VR.mb rfl|exact VR.ptr' rfl)
 refine zar.set (show zax _ _ (Heap.get _ 5)from ?_) (zar.set (show zax _ _ (Heap.get _ 0)from ?_) (zar.at))
 all_goals (try simp only[go_sem,List.map_append,List.map_cons,List.map_nil])
 all_goals (((repeat' first|exact zax.refl_d|refine zax.mb (by simp) ?_|exact VRL.refl_d _ _);done))
def zfb (a0:Forest) (a1:Sl (Bound)) (x1:Int):St:=⟨((((Regs.none.set 3 (.ptr 0 0 0)).set 33 (.d (.list a1.n (a1.l.map zai)))).set 34 (.d (.int .i64 (a1.l.length:Int)))).set 35 (.d (.int .i64 x1))),((Heap.at 17).set 0 (some (.els 1 [.d (zac a0)] 0)))⟩
def zij (a0:Forest) (a1:Sl (Bound)):((Unit)⊕(Unit))→Ex×St:=fun r=>match r with
 |(.inl r)=>(.exit 2,⟨Regs.none,(Heap.at 17)⟩)
 |(.inr r)=>(.ret,⟨(Regs.none.set 6 (.d (.int .i64 (14)))),(Heap.at 17)⟩)
noncomputable def zcy (a0:Forest) (a1:Sl (Bound)) (x1:Int):Option ((Int)⊕((Unit)⊕(Unit))):=
 if(decide (x1<(a1.l.length:Int)))=true then
  (rd a1.l x1).bind fun y16=>
  if(!(decide (y16.offset<0)))=true then
   (dec (D.int .i64) (pc prog 114 [zac a0,.int .i64 y16.node])).bind fun r20=>
   if(decide (r20<y16.offset))=true then
    some (.inr (.inr ()))
   else
    some (.inl (IntKind.wrap .i64 (x1+1)))
  else
   some (.inr (.inr ()))
 else
  some (.inr (.inl ()))
theorem zwU (a0:Forest) (a1:Sl (Bound)) (x1:Int) (o:(Int)⊕((Unit)⊕(Unit))) (h:zcy a0 a1 x1=some o):Wp prog ziY (zfb a0 a1 x1) (zcP (0,[]) (zfb a0 a1) (zij a0 a1) o):=by
 unfold zcy at h
 delta ziY zfb
 try simp only[go_sem]
 refine zal (fun hc14=> ?_) (fun hc15=> ?_)
 ·rw[if_pos hc14]at h
  try simp only[go_sem]
  obtain⟨y16,hy17,h⟩:=bs h
  try simp only[go_sem,zad hy17,zak hy17,zae zai hy17]
  refine zaa (v:= .ptr 20 0 1) (fun hb28=>by simp only[go_sem,zad hy17,zak hy17,zae zai hy17,hc14,hb28]) ?_
  try simp only[go_sem,zad hy17,zak hy17,zae zai hy17]
  refine zaa (v:= .d (.int .i64 y16.offset)) (fun hb27=>by simp only[go_sem,zad hy17,zak hy17,zae zai hy17,hc14,hb27]) ?_
  try simp only[go_sem,zad hy17,zak hy17,zae zai hy17]
  refine zaa (v:= .d (zac a0)) (fun hb26=>by simp only[go_sem,zad hy17,zak hy17,zae zai hy17,hc14,hb26]) ?_
  try simp only[go_sem,zad hy17,zak hy17,zae zai hy17]
  refine zaa (v:= .ptr 20 0 0) (fun hb25=>by simp only[go_sem,zad hy17,zak hy17,zae zai hy17,hc14,hb25]) ?_
  try simp only[go_sem,zad hy17,zak hy17,zae zai hy17]
  refine zaa (v:= .d (.int .i64 y16.node)) (fun hb24=>by simp only[go_sem,zad hy17,zak hy17,zae zai hy17,hc14,hb24]) ?_
  try simp only[go_sem,zad hy17,zak hy17,zae zai hy17]
  refine zaF (fun hc18=> ?_) (fun hc19=> ?_)
  ·rw[if_pos (show(!(decide (y16.offset<0)))=true by(rw[hc18];rfl))]at h
   try simp only[go_sem,zad hy17,zak hy17,zae zai hy17,hc18]
   obtain⟨r20,hr21,h⟩:=bs h
   replace hr21:=zao hr21
   refine zaq hr21 ?_
   try simp only[go_sem,zad hy17,zak hy17,zae zai hy17]
   refine zal (fun hc22=> ?_) (fun hc23=> ?_)
   ·rw[if_pos hc22]at h
    try simp only[go_sem,zad hy17,zak hy17,zae zai hy17]
    cases h
    refine⟨rfl,by simp,Up.of (N:=17) (N':=35) [] rfl (by rfl) (by decide) ?_ ?_⟩
    ·refine zam.set ?_ zam.none
     all_goals (try simp only[go_sem,List.map_append,List.map_cons,List.map_nil,zad hy17,zak hy17,zae zai hy17])
     all_goals (exact VR.d _)
    exact zar.at
   rw[if_neg (ff hc23)]at h
   try simp only[go_sem,zad hy17,zak hy17,zae zai hy17]
   cases h
   refine⟨rfl,Up.of (N:=17) (N':=36) [] rfl (by rfl) (by decide) ?_ ?_⟩
   ·refine zam.set ?_ (zam.set ?_ (zam.set ?_ (zam.set ?_ zam.none)))
    all_goals (try simp only[go_sem,List.map_append,List.map_cons,List.map_nil,zad hy17,zak hy17,zae zai hy17])
    all_goals (first|exact VR.d _|exact VR.ptr' rfl)
   refine zar.set (show zax _ _ (Heap.get _ 0)from ?_) (zar.at)
   all_goals (try simp only[go_sem,List.map_append,List.map_cons,List.map_nil,zad hy17,zak hy17,zae zai hy17])
   all_goals (exact zax.refl_d)
  rw[if_neg (ffn hc19)]at h
  try simp only[go_sem,zad hy17,zak hy17,zae zai hy17,hc19]
  cases h
  refine⟨rfl,by simp,Up.of (N:=17) (N':=35) [] rfl (by rfl) (by decide) ?_ ?_⟩
  ·refine zam.set ?_ zam.none
   all_goals (try simp only[go_sem,List.map_append,List.map_cons,List.map_nil,zad hy17,zak hy17,zae zai hy17])
   all_goals (exact VR.d _)
  exact zar.at
 rw[if_neg (ff hc15)]at h
 try simp only[go_sem]
 cases h
 refine⟨rfl,by simp,Up.of (N:=17) (N':=18) [] rfl (by rfl) (by decide) ?_ ?_⟩
 ·exact zam.none
 exact zar.at
def zfc (a0:Forest) (a1:Sl (Bound)) (x2:Int):St:=⟨((((Regs.none.set 3 (.ptr 0 0 0)).set 33 (.d (.list a1.n (a1.l.map zai)))).set 34 (.d (.int .i64 (a1.l.length:Int)))).set 35 (.d (.int .i64 x2))),((Heap.at 17).set 0 (some (.els 1 [.d (zac a0)] 0)))⟩
def zik (a0:Forest) (a1:Sl (Bound)):((Unit)⊕(Unit))→Ex×St:=fun r=>match r with
 |(.inl r)=>(.exit 2,⟨Regs.none,(Heap.at 17)⟩)
 |(.inr r)=>(.ret,⟨(Regs.none.set 6 (.d (.int .i64 (14)))),(Heap.at 17)⟩)
noncomputable def zcz (a0:Forest) (a1:Sl (Bound)) (x2:Int):Option ((Int)⊕((Unit)⊕(Unit))):=
 if(decide (x2<(a1.l.length:Int)))=true then
  (rd a1.l x2).bind fun y40=>
  if(!(decide (y40.offset<0)))=true then
   (dec (D.int .i64) (pc prog 114 [zac a0,.int .i64 y40.node])).bind fun r44=>
   if(decide (r44<y40.offset))=true then
    some (.inr (.inr ()))
   else
    some (.inl (IntKind.wrap .i64 (x2+1)))
  else
   some (.inr (.inr ()))
 else
  some (.inr (.inl ()))
theorem zwV (a0:Forest) (a1:Sl (Bound)) (x2:Int) (o:(Int)⊕((Unit)⊕(Unit))) (h:zcz a0 a1 x2=some o):Wp prog ziY (zfc a0 a1 x2) (zcP (0,[]) (zfc a0 a1) (zik a0 a1) o):=by
 unfold zcz at h
 delta ziY zfc
 try simp only[go_sem]
 refine zal (fun hc38=> ?_) (fun hc39=> ?_)
 ·rw[if_pos hc38]at h
  try simp only[go_sem]
  obtain⟨y40,hy41,h⟩:=bs h
  try simp only[go_sem,zad hy41,zak hy41,zae zai hy41]
  refine zaa (v:= .ptr 20 0 1) (fun hb52=>by simp only[go_sem,zad hy41,zak hy41,zae zai hy41,hc38,hb52]) ?_
  try simp only[go_sem,zad hy41,zak hy41,zae zai hy41]
  refine zaa (v:= .d (.int .i64 y40.offset)) (fun hb51=>by simp only[go_sem,zad hy41,zak hy41,zae zai hy41,hc38,hb51]) ?_
  try simp only[go_sem,zad hy41,zak hy41,zae zai hy41]
  refine zaa (v:= .d (zac a0)) (fun hb50=>by simp only[go_sem,zad hy41,zak hy41,zae zai hy41,hc38,hb50]) ?_
  try simp only[go_sem,zad hy41,zak hy41,zae zai hy41]
  refine zaa (v:= .ptr 20 0 0) (fun hb49=>by simp only[go_sem,zad hy41,zak hy41,zae zai hy41,hc38,hb49]) ?_
  try simp only[go_sem,zad hy41,zak hy41,zae zai hy41]
  refine zaa (v:= .d (.int .i64 y40.node)) (fun hb48=>by simp only[go_sem,zad hy41,zak hy41,zae zai hy41,hc38,hb48]) ?_
  try simp only[go_sem,zad hy41,zak hy41,zae zai hy41]
  refine zaF (fun hc42=> ?_) (fun hc43=> ?_)
  ·rw[if_pos (show(!(decide (y40.offset<0)))=true by(rw[hc42];rfl))]at h
   try simp only[go_sem,zad hy41,zak hy41,zae zai hy41,hc42]
   obtain⟨r44,hr45,h⟩:=bs h
   replace hr45:=zao hr45
   refine zaq hr45 ?_
   try simp only[go_sem,zad hy41,zak hy41,zae zai hy41]
   refine zal (fun hc46=> ?_) (fun hc47=> ?_)
   ·rw[if_pos hc46]at h
    try simp only[go_sem,zad hy41,zak hy41,zae zai hy41]
    cases h
    refine⟨rfl,by simp,Up.of (N:=17) (N':=35) [] rfl (by rfl) (by decide) ?_ ?_⟩
    ·refine zam.set ?_ zam.none
     all_goals (try simp only[go_sem,List.map_append,List.map_cons,List.map_nil,zad hy41,zak hy41,zae zai hy41])
     all_goals (exact VR.d _)
    exact zar.at
   rw[if_neg (ff hc47)]at h
   try simp only[go_sem,zad hy41,zak hy41,zae zai hy41]
   cases h
   refine⟨rfl,Up.of (N:=17) (N':=36) [] rfl (by rfl) (by decide) ?_ ?_⟩
   ·refine zam.set ?_ (zam.set ?_ (zam.set ?_ (zam.set ?_ zam.none)))
    all_goals (try simp only[go_sem,List.map_append,List.map_cons,List.map_nil,zad hy41,zak hy41,zae zai hy41])
    all_goals (first|exact VR.d _|exact VR.ptr' rfl)
   refine zar.set (show zax _ _ (Heap.get _ 0)from ?_) (zar.at)
   all_goals (try simp only[go_sem,List.map_append,List.map_cons,List.map_nil,zad hy41,zak hy41,zae zai hy41])
   all_goals (exact zax.refl_d)
  rw[if_neg (ffn hc43)]at h
  try simp only[go_sem,zad hy41,zak hy41,zae zai hy41,hc43]
  cases h
  refine⟨rfl,by simp,Up.of (N:=17) (N':=35) [] rfl (by rfl) (by decide) ?_ ?_⟩
  ·refine zam.set ?_ zam.none
   all_goals (try simp only[go_sem,List.map_append,List.map_cons,List.map_nil,zad hy41,zak hy41,zae zai hy41])
   all_goals (exact VR.d _)
  exact zar.at
 rw[if_neg (ff hc39)]at h
 try simp only[go_sem]
 cases h
 refine⟨rfl,by simp,Up.of (N:=17) (N':=18) [] rfl (by rfl) (by decide) ?_ ?_⟩
 ·exact zam.none
 exact zar.at
noncomputable def zJA (a0:Forest) (a1:Sl (Bound)) (a2:Sl (Int)):Option (Int):=
 (zaT (zbZ a0 a1 a2) (0,[])).bind fun r6=>
 if a2.l=[]then
  (dec (D.int .i64) (pc prog 87 [zac a0,.list r6.isEmpty (r6.map (D.int .i64))])).bind fun r10=>
  if(!(r10==0))=true then
   some r10
  else
   (zaT (zcy a0 a1) 0).bind fun r29=>
   match r29 with
   |(.inl q31)=>
    some (0)
   |(.inr q32)=>
    some (14)
 else
  if(r6.length+a2.l.length)*8≤AI.roomBytes then
   (dec (D.int .i64) (pc prog 87 [zac a0,.list false ((r6++a2.l).map (D.int .i64))])).bind fun r34=>
   if(!(r34==0))=true then
    some r34
   else
    (zaT (zcz a0 a1) 0).bind fun r53=>
    match r53 with
    |(.inl q55)=>
     some (0)
    |(.inr q56)=>
     some (14)
  else none
theorem zJB (a0:Forest) (a1:Sl (Bound)) (a2:Sl (Int)) (r:Int) (h:zJA a0 a1 a2=some r):pc prog 109 [zac a0,.list a1.n (a1.l.map zai),.list a2.n (a2.l.map (D.int .i64))]=some ((D.int .i64) r):=by
 unfold zJA at h
 refine zbt (fn:=zHr) rfl rfl ?_
 delta zHr
 try simp only[go_sem]
 obtain⟨r6,hl7,h⟩:=bs h
 refine Wp.loopR zbJ (n:=(0,[])) (a:=zqd) rfl (zfa a0 a1 a2) (zlF a0 a1 a2) (zwT a0 a1 a2) hl7 ?_ (by(repeat(first|refine Clo.block ?_|refine Clo.seq zbJ rfl ?_));(exact Clo.ret)) ?_
 ·show Up (0,[]) (zfa a0 a1 a2 (0,[])) _
  delta zfa
  refine Up.of (N:=6) (N':=6) [] rfl rfl (by decide) ?_ ?_
  ·refine zam.set ?_ (zam.set ?_ (zam.set ?_ (zam.set ?_ (zam.set ?_ (zam.set ?_ (zam.set ?_ zam.none))))))
   all_goals (try simp only[go_sem,List.map_append,List.map_cons,List.map_nil])
   all_goals (first|exact VR.d _|exact VR.ptr' rfl)
  refine zar.set (show zax _ _ (Heap.get _ 5)from ?_) (zar.set (show zax _ _ (Heap.get _ 0)from ?_) (zar.at))
  all_goals (try simp only[go_sem,List.map_append,List.map_cons,List.map_nil])
  all_goals (((repeat' first|trivial|exact zax.refl_d);done))
 dsimp only[zlF]
 try simp only[go_sem]
 by_cases hz8:a2.l=[]
 ·rw[if_pos hz8]at h
  refine zmL (by simp only[go_sem,zdo,zec,zdp,zcc,zkS,List.map_nil,hz8]) (by exact zvc) ?_
  try simp only[go_sem]
  obtain⟨r10,hr11,h⟩:=bs h
  replace hr11:=zao hr11
  refine zaq hr11 ?_
  try simp only[go_sem]
  refine zaE (fun hc12=> ?_) (fun hc13=> ?_)
  ·rw[if_pos (show(!(r10==0))=true by(rw[hc12];rfl))]at h
   try simp only[go_sem]
   cases h
   rfl
  rw[if_neg (ffn hc13)]at h
  try simp only[go_sem]
  obtain⟨r29,hl30,h⟩:=bs h
  refine Wp.loopR zbJ (n:=(0,[])) (a:=ziY) rfl (zfb a0 a1) (zij a0 a1) (zwU a0 a1) hl30 ?_ (by(repeat(first|refine Clo.block ?_|refine Clo.seq zbJ rfl ?_));(exact Clo.ret)) ?_
  ·show Up (0,[]) (zfb a0 a1 0) _
   delta zfb
   refine Up.of (N:=17) (N':=17) [] rfl (by(simp only[go_sem];done)) (by decide) ?_ ?_
   ·refine zam.set ?_ (zam.set ?_ (zam.set ?_ (zam.set ?_ zam.none)))
    all_goals (try simp only[go_sem,List.map_append,List.map_cons,List.map_nil])
    all_goals (first|exact VR.d _|exact VR.ptr' rfl)
   refine zar.set (show zax _ _ (Heap.get _ 0)from ?_) (zar.at)
   all_goals (try simp only[go_sem,List.map_append,List.map_cons,List.map_nil])
   all_goals (exact zax.refl_d)
  rcases r29 with(q31|q32)
  ·dsimp only at h
   dsimp only[zij]
   try simp only[go_sem]
   cases h
   rfl
  dsimp only at h
  dsimp only[zij]
  try simp only[go_sem]
  cases h
  rfl
 have hz9:=hz8;rw[if_neg hz9]at h
 obtain⟨hm33,h⟩:=zds h
 refine zgg (l:=r6.map fun z=>V.d ((D.int .i64) z)) (new:=a2.l.map fun z=>V.d ((D.int .i64) z)) (sz:=1) (fz:=r6.length) (by simp only[go_sem,List.map_append,List.map_cons,List.map_nil]) (by intro h;simpa using h) (by simp only[go_sem,zdo,zec,zdp,zcc,zkS]) (by simpa using hz9) (by rw[←zkS];exact zjX (e:=(D.int .i64)) (fun _=>rfl) (fun _=>rfl) _) (by simpa using hm33) ?_
 try simp only[go_sem,hm33]
 obtain⟨r34,hr35,h⟩:=bs h
 replace hr35:=zao hr35
 refine zaq hr35 ?_
 try simp only[go_sem,hm33]
 refine zaE (fun hc36=> ?_) (fun hc37=> ?_)
 ·rw[if_pos (show(!(r34==0))=true by(rw[hc36];rfl))]at h
  try simp only[go_sem,hm33]
  cases h
  rfl
 rw[if_neg (ffn hc37)]at h
 try simp only[go_sem,hm33]
 obtain⟨r53,hl54,h⟩:=bs h
 refine Wp.loopR zbJ (n:=(0,[])) (a:=ziY) rfl (zfc a0 a1) (zik a0 a1) (zwV a0 a1) hl54 ?_ (by(repeat(first|refine Clo.block ?_|refine Clo.seq zbJ rfl ?_));(exact Clo.ret)) ?_
 ·show Up (0,[]) (zfc a0 a1 0) _
  delta zfc
  refine Up.of (N:=17) (N':=17) [] rfl (by(simp only[go_sem];done)) (by decide) ?_ ?_
  ·refine zam.set ?_ (zam.set ?_ (zam.set ?_ (zam.set ?_ zam.none)))
   all_goals (try simp only[go_sem,List.map_append,List.map_cons,List.map_nil,hm33])
   all_goals (first|exact VR.d _|exact VR.ptr' rfl)
  refine zar.set (show zax _ _ (Heap.get _ 0)from ?_) (zar.at)
  all_goals (try simp only[go_sem,List.map_append,List.map_cons,List.map_nil,hm33])
  all_goals (exact zax.refl_d)
 rcases r53 with(q55|q56)
 ·dsimp only at h
  dsimp only[zik]
  try simp only[go_sem,hm33]
  cases h
  rfl
 dsimp only at h
 dsimp only[zik]
 try simp only[go_sem,hm33]
 cases h
 rfl
noncomputable def zJC (a0:Forest) (a1:Int) (a2:Int):Option (Bool):=
 (dec (D.int .i64) (pc prog 104 [zac a0,.int .i64 a1])).bind fun r1=>
 (dec (D.int .i64) (pc prog 104 [zac a0,.int .i64 a2])).bind fun r3=>
 some (r1==r3)
theorem zJD (a0:Forest) (a1:Int) (a2:Int) (r:Bool) (h:zJC a0 a1 a2=some r):pc prog 110 [zac a0,.int .i64 a1,.int .i64 a2]=some (D.bool r):=by
 unfold zJC at h
 refine zbt (fn:=zHs) rfl rfl ?_
 delta zHs
 try simp only[go_sem]
 obtain⟨r1,hr2,h⟩:=bs h
 replace hr2:=zao hr2
 refine zaq hr2 ?_
 try simp only[go_sem]
 obtain⟨r3,hr4,h⟩:=bs h
 replace hr4:=zao hr4
 refine zaq hr4 ?_
 try simp only[go_sem]
 cases h
 rfl
noncomputable def zEI (a0:Forest) (a1:Bound) (a2:Bound):Option (Int):=
 if(decide (a1=a2))=true then
  some (0)
 else
  if(bif (a1.node==a2.node)then(decide (a1.offset<a2.offset))else false)=true then
   some (-1)
  else
   if(a1.node==a2.node)=true then
    some (1)
   else
    (dec D.bool (pc prog 176 [zac a0,.int .i64 a1.node,.int .i64 a2.node])).bind fun r7=>
    if r7=true then
     (dec (D.int .i64) (pc prog 111 [zac a0,zai a2,zai a1])).bind fun r11=>
     some (IntKind.wrap .i64 (0-r11))
    else
     (dec (D.int .i64) (pc prog 177 [zac a0,.int .i64 a1.node,.int .i64 a2.node])).bind fun r13=>
     if(!(r13==0))=true then
      (dec (D.int .i64) (pc prog 146 [zac a0,.int .i64 r13])).bind fun r17=>
      if(decide (r17<a1.offset))=true then
       some (1)
      else
       some (-1)
     else
      some (-1)
theorem zAo (a0:Forest) (a1:Bound) (a2:Bound) (r:Int) (h:zEI a0 a1 a2=some r):pc prog 111 [zac a0,zai a1,zai a2]=some ((D.int .i64) r):=by
 unfold zEI at h
 refine zbt (fn:=zHt) rfl rfl ?_
 delta zHt
 try simp only[go_sem]
 refine zal (fun hc1=> ?_) (fun hc2=> ?_)
 ·rw[if_pos hc1]at h
  try simp only[go_sem]
  cases h
  rfl
 rw[if_neg (ff hc2)]at h
 try simp only[go_sem]
 refine zaa (v:= .ptr 1 0 1) (fun hb27=>by simp only[go_sem,hc2,hb27]) ?_
 try simp only[go_sem]
 refine zaa (v:= .d (.int .i64 a1.offset)) (fun hb26=>by simp only[go_sem,hc2,hb26]) ?_
 try simp only[go_sem]
 refine zaa (v:= .ptr 2 0 1) (fun hb25=>by simp only[go_sem,hc2,hb25]) ?_
 try simp only[go_sem]
 refine zaa (v:= .d (.int .i64 a2.offset)) (fun hb24=>by simp only[go_sem,hc2,hb24]) ?_
 try simp only[go_sem]
 refine zaa (v:= .d (.bool (decide (a1.offset<a2.offset)))) (fun hb23=>by simp only[go_sem,hc2,hb23]) ?_
 try simp only[go_sem]
 refine zal (fun hc3=> ?_) (fun hc4=> ?_)
 ·rw[if_pos hc3]at h
  try simp only[go_sem]
  cases h
  rfl
 rw[if_neg (ff hc4)]at h
 try simp only[go_sem]
 refine zal (fun hc5=> ?_) (fun hc6=> ?_)
 ·rw[if_pos hc5]at h
  try simp only[go_sem]
  cases h
  rfl
 rw[if_neg (ff hc6)]at h
 try simp only[go_sem]
 obtain⟨r7,hr8,h⟩:=bs h
 replace hr8:=zao hr8
 refine zaq hr8 ?_
 try simp only[go_sem]
 refine zal (fun hc9=> ?_) (fun hc10=> ?_)
 ·rw[if_pos hc9]at h
  try simp only[go_sem]
  obtain⟨r11,hr12,h⟩:=bs h
  replace hr12:=zao hr12
  refine zaq hr12 ?_
  try simp only[go_sem]
  cases h
  rfl
 rw[if_neg (ff hc10)]at h
 try simp only[go_sem]
 obtain⟨r13,hr14,h⟩:=bs h
 replace hr14:=zao hr14
 refine zaq hr14 ?_
 try simp only[go_sem]
 refine zaa (v:= .d (zac a0)) (fun hb22=>by simp only[go_sem,hc2,hc4,hc6,hc10,hb22]) ?_
 try simp only[go_sem]
 refine zaa (v:= .d (.int .i64 r13)) (fun hb21=>by simp only[go_sem,hc2,hc4,hc6,hc10,hb21]) ?_
 try simp only[go_sem]
 refine zaF (fun hc15=> ?_) (fun hc16=> ?_)
 ·rw[if_pos (show(!(r13==0))=true by(rw[hc15];rfl))]at h
  try simp only[go_sem,hc15]
  obtain⟨r17,hr18,h⟩:=bs h
  replace hr18:=zao hr18
  refine zaq hr18 ?_
  try simp only[go_sem]
  refine zal (fun hc19=> ?_) (fun hc20=> ?_)
  ·rw[if_pos hc19]at h
   try simp only[go_sem]
   cases h
   rfl
  rw[if_neg (ff hc20)]at h
  try simp only[go_sem]
  cases h
  rfl
 rw[if_neg (ffn hc16)]at h
 try simp only[go_sem,hc16]
 cases h
 rfl
noncomputable def zJE (a0:Forest) (a1:Range) (a2:Sl (Bound)) (a3:Sl (Int)):Option (Int):=
 if a2.l=[]then
  (dec (D.int .i64) (pc prog 109 [zac a0,.list false (([a1.start,a1.end_]).map zai),.list a3.n (a3.l.map (D.int .i64))])).bind fun r3=>
  if(!(r3==0))=true then
   some r3
  else
   (dec D.bool (pc prog 147 [zac a0,zaP a1])).bind fun r7=>
   if(!r7)=true then
    some (15)
   else
    some (0)
 else
  if(([a1.start,a1.end_]).length+a2.l.length)*16≤AI.roomBytes then
   (dec (D.int .i64) (pc prog 109 [zac a0,.list false (([a1.start,a1.end_]++a2.l).map zai),.list a3.n (a3.l.map (D.int .i64))])).bind fun r12=>
   if(!(r12==0))=true then
    some r12
   else
    (dec D.bool (pc prog 147 [zac a0,zaP a1])).bind fun r16=>
    if(!r16)=true then
     some (15)
    else
     some (0)
  else none
theorem zJF (a0:Forest) (a1:Range) (a2:Sl (Bound)) (a3:Sl (Int)) (r:Int) (h:zJE a0 a1 a2 a3=some r):pc prog 139 [zac a0,zaP a1,.list a2.n (a2.l.map zai),.list a3.n (a3.l.map (D.int .i64))]=some ((D.int .i64) r):=by
 unfold zJE at h
 refine zbt (fn:=zHw) rfl rfl ?_
 delta zHw
 try simp only[go_sem]
 by_cases hz1:a2.l=[]
 ·rw[if_pos hz1]at h
  refine zmL (by simp only[go_sem,zdo,zec,zdp,zcc,zkS,List.map_nil,hz1]) (by rfl) ?_
  try simp only[go_sem]
  obtain⟨r3,hr4,h⟩:=bs h
  replace hr4:=zao hr4
  refine zaq hr4 ?_
  try simp only[go_sem]
  refine zaE (fun hc5=> ?_) (fun hc6=> ?_)
  ·rw[if_pos (show(!(r3==0))=true by(rw[hc5];rfl))]at h
   try simp only[go_sem]
   cases h
   rfl
  rw[if_neg (ffn hc6)]at h
  try simp only[go_sem]
  obtain⟨r7,hr8,h⟩:=bs h
  replace hr8:=zao hr8
  refine zaq hr8 ?_
  try simp only[go_sem]
  refine zaE (fun hc9=> ?_) (fun hc10=> ?_)
  ·rw[if_pos (show(!r7)=true by(rw[hc9];rfl))]at h
   try simp only[go_sem]
   cases h
   rfl
  rw[if_neg (ffn hc10)]at h
  try simp only[go_sem]
  cases h
  rfl
 have hz2:=hz1;rw[if_neg hz2]at h
 obtain⟨hm11,h⟩:=zds h
 refine zvd (l:=([a1.start,a1.end_]).map fun z=>V.d (zai z)) (fz:=0) (new:=a2.l.map fun z=>V.d (zai z)) (by simp only[go_sem,List.map_append,List.map_cons,List.map_nil]) (by simp only[go_sem,zdo,zec,zdp,zcc,zkS]) (by simpa using hz2) (by rw[←zkS];exact zjX (e:=zai) (fun _=>rfl) (fun _=>rfl) _) (by simp) (by simpa using hm11) ?_
 try simp only[go_sem,hm11]
 obtain⟨r12,hr13,h⟩:=bs h
 replace hr13:=zao hr13
 refine zaq hr13 ?_
 try simp only[go_sem,hm11]
 refine zaE (fun hc14=> ?_) (fun hc15=> ?_)
 ·rw[if_pos (show(!(r12==0))=true by(rw[hc14];rfl))]at h
  try simp only[go_sem,hm11]
  cases h
  rfl
 rw[if_neg (ffn hc15)]at h
 try simp only[go_sem,hm11]
 obtain⟨r16,hr17,h⟩:=bs h
 replace hr17:=zao hr17
 refine zaq hr17 ?_
 try simp only[go_sem,hm11]
 refine zaE (fun hc18=> ?_) (fun hc19=> ?_)
 ·rw[if_pos (show(!r16)=true by(rw[hc18];rfl))]at h
  try simp only[go_sem,hm11]
  cases h
  rfl
 rw[if_neg (ffn hc19)]at h
 try simp only[go_sem,hm11]
 cases h
 rfl
noncomputable def zJG (a0:Forest) (a1:Range) (a2:Int):Option (Bool):=
 (dec D.bool (pc prog 110 [zac a0,.int .i64 a2,.int .i64 a1.start.node])).bind fun r1=>
 if r1=true then
  (dec (D.int .i64) (pc prog 111 [zac a0,zai (⟨a2,0⟩:Bound),zai a1.start])).bind fun r5=>
  if(decide (0<r5))=true then
   (dec (D.int .i64) (pc prog 114 [zac a0,.int .i64 a2])).bind fun r9=>
   (dec (D.int .i64) (pc prog 111 [zac a0,zai (⟨a2,r9⟩:Bound),zai a1.end_])).bind fun r11=>
   some (decide (r11<0))
  else
   some false
 else
  some false
theorem zJH (a0:Forest) (a1:Range) (a2:Int) (r:Bool) (h:zJG a0 a1 a2=some r):pc prog 142 [zac a0,zaP a1,.int .i64 a2]=some (D.bool r):=by
 unfold zJG at h
 refine zbt (fn:=zHz) rfl rfl ?_
 delta zHz
 try simp only[go_sem]
 obtain⟨r1,hr2,h⟩:=bs h
 replace hr2:=zao hr2
 refine zaq hr2 ?_
 try simp only[go_sem]
 refine zaa (v:= .d (zac a0)) (fun hb18=>by simp only[go_sem,hb18]) ?_
 try simp only[go_sem]
 refine zaa (v:= .d (.int .i64 a2)) (fun hb17=>by simp only[go_sem,hb17]) ?_
 try simp only[go_sem]
 refine zaJ (fun hc3=> ?_) (fun hc4=> ?_)
 ·rw[if_pos hc3]at h
  try simp only[go_sem,hc3]
  obtain⟨r5,hr6,h⟩:=bs h
  replace hr6:=zao hr6
  refine zaq hr6 ?_
  try simp only[go_sem]
  refine zaa (v:= .d (zac a0)) (fun hb16=>by simp only[go_sem,hc3,hb16]) ?_
  try simp only[go_sem]
  refine zaa (v:= .d (.int .i64 a2)) (fun hb15=>by simp only[go_sem,hc3,hb15]) ?_
  try simp only[go_sem]
  refine zaa (v:= .d (zac a0)) (fun hb14=>by simp only[go_sem,hc3,hb14]) ?_
  try simp only[go_sem]
  refine zaa (v:= .d (.int .i64 a2)) (fun hb13=>by simp only[go_sem,hc3,hb13]) ?_
  try simp only[go_sem]
  refine zaJ (fun hc7=> ?_) (fun hc8=> ?_)
  ·rw[if_pos hc7]at h
   try simp only[go_sem,hc7]
   obtain⟨r9,hr10,h⟩:=bs h
   replace hr10:=zao hr10
   refine zaq hr10 ?_
   try simp only[go_sem]
   obtain⟨r11,hr12,h⟩:=bs h
   replace hr12:=zao hr12
   refine zaq hr12 ?_
   try simp only[go_sem]
   cases h
   rfl
  rw[if_neg (ff hc8)]at h
  try simp only[go_sem,hc8]
  cases h
  rfl
 rw[if_neg (ff hc4)]at h
 try simp only[go_sem,hc4]
 cases h
 rfl
noncomputable def zJI (a0:Forest) (a1:Range) (a2:Int):Option (Bool):=
 (dec D.bool (pc prog 86 [zac a0,.int .i64 a2,.int .i64 a1.start.node])).bind fun r1=>
 (dec D.bool (pc prog 86 [zac a0,.int .i64 a2,.int .i64 a1.end_.node])).bind fun r3=>
 some (!(r1==r3))
theorem zJJ (a0:Forest) (a1:Range) (a2:Int) (r:Bool) (h:zJI a0 a1 a2=some r):pc prog 143 [zac a0,zaP a1,.int .i64 a2]=some (D.bool r):=by
 unfold zJI at h
 refine zbt (fn:=zHA) rfl rfl ?_
 delta zHA
 try simp only[go_sem]
 obtain⟨r1,hr2,h⟩:=bs h
 replace hr2:=zao hr2
 refine zaq hr2 ?_
 try simp only[go_sem]
 obtain⟨r3,hr4,h⟩:=bs h
 replace hr4:=zao hr4
 refine zaq hr4 ?_
 try simp only[go_sem]
 cases h
 rfl
noncomputable def zIc (a0:Forest) (a1:Range):Option (Bool):=
 (dec D.bool (pc prog 110 [zac a0,.int .i64 a1.start.node,.int .i64 a1.end_.node])).bind fun r1=>
 if r1=true then
  (dec (D.int .i64) (pc prog 111 [zac a0,zai a1.start,zai a1.end_])).bind fun r5=>
  some (decide (r5≤0))
 else
  some false
theorem zGE (a0:Forest) (a1:Range) (r:Bool) (h:zIc a0 a1=some r):pc prog 147 [zac a0,zaP a1]=some (D.bool r):=by
 unfold zIc at h
 refine zbt (fn:=zHD) rfl rfl ?_
 delta zHD
 try simp only[go_sem]
 obtain⟨r1,hr2,h⟩:=bs h
 replace hr2:=zao hr2
 refine zaq hr2 ?_
 try simp only[go_sem]
 refine zaa (v:= .d (zac a0)) (fun hb11=>by simp only[go_sem,hb11]) ?_
 try simp only[go_sem]
 refine zaa (v:= .ptr 1 0 0) (fun hb10=>by simp only[go_sem,hb10]) ?_
 try simp only[go_sem]
 refine zaa (v:= .d (zai a1.start)) (fun hb9=>by simp only[go_sem,hb9]) ?_
 try simp only[go_sem]
 refine zaa (v:= .ptr 1 0 2) (fun hb8=>by simp only[go_sem,hb8]) ?_
 try simp only[go_sem]
 refine zaa (v:= .d (zai a1.end_)) (fun hb7=>by simp only[go_sem,hb7]) ?_
 try simp only[go_sem]
 refine zaJ (fun hc3=> ?_) (fun hc4=> ?_)
 ·rw[if_pos hc3]at h
  try simp only[go_sem,hc3]
  obtain⟨r5,hr6,h⟩:=bs h
  replace hr6:=zao hr6
  refine zaq hr6 ?_
  try simp only[go_sem]
  cases h
  rfl
 rw[if_neg (ff hc4)]at h
 try simp only[go_sem,hc4]
 cases h
 rfl
def zdu (a0:Forest) (a1:Int) (a2:Int) (r1:Int) (x0:Unit):Heap:=((((((((Heap.at 19).set 0 (some (.els 1 [.d (zac a0)] 0))).set 1 (some (.els 1 [.d (.int .i64 a1)] 0))).set 2 (some (.els 1 [.d (.int .i64 a2)] 0))).set 3 (some (.els 1 [.d (.bool false)] 0))).set 9 (some (.els 1 [.d (zac a0)] 0))).set 10 (some (.els 1 [.d (.int .i64 r1)] 0))).set 14 (some (.loop ⟨(((Regs.none.set 4 (.ptr 1 0 0)).set 5 (.ptr 2 0 0)).set 6 (.ptr 3 0 0)),[13],zkb,zkc,.ready,none⟩)))
def zil (a0:Forest) (a1:Int) (a2:Int) (r1:Int):((Bool))→Heap:=fun r=>((((((((Heap.at 19).set 0 (some (.els 1 [.d (zac a0)] 0))).set 1 (some (.els 1 [.d (.int .i64 a1)] 0))).set 2 (some (.els 1 [.d (.int .i64 a2)] 0))).set 3 (some (.els 1 [.d (.bool r)] 0))).set 9 (some (.els 1 [.d (zac a0)] 0))).set 10 (some (.els 1 [.d (.int .i64 r1)] 0))).set 14 (some (.loop ⟨(((Regs.none.set 4 (.ptr 1 0 0)).set 5 (.ptr 2 0 0)).set 6 (.ptr 3 0 0)),[13],zkb,zkc,.done,(some .ret)⟩)))
noncomputable def zca (a0:Forest) (a1:Int) (a2:Int) (r1:Int) (x0:Unit) (v0:Int):Option ((Unit)⊕((Bool))):=
 if(v0==a1)=true then
  some (.inr false)
 else
  if(v0==a2)=true then
   some (.inr true)
  else
   some (.inl ())
theorem zwW (a0:Forest) (a1:Int) (a2:Int) (r1:Int):Yl prog (19,[]) 14 (D.int .i64) (zdu a0 a1 a2 r1) (zil a0 a1 a2 r1) (zca a0 a1 a2 r1):=by
 refine⟨by decide,fun x0=> ?_,fun r=> ?_,fun x0 v0 o h=> ?_⟩
 ·show LocH 19 _;delta zdu;repeat(first|exact LocH.at|refine LocH.set (by decide) ?_ ?_|refine zAG.some ?_|refine zmN.els ?_|refine zmN.loop ?_|exact zfS.nil|refine zfS.cons ?_ ?_|exact zek.d|exact zek.ptr (by decide)|exact zsJ.none|refine zsJ.set ?_ ?_)
 ·show LocH 19 (((((((((Heap.at 19).set 0 (some (.els 1 [.d (zac a0)] 0))).set 1 (some (.els 1 [.d (.int .i64 a1)] 0))).set 2 (some (.els 1 [.d (.int .i64 a2)] 0))).set 3 (some (.els 1 [.d (.bool r)] 0))).set 9 (some (.els 1 [.d (zac a0)] 0))).set 10 (some (.els 1 [.d (.int .i64 r1)] 0))).set 14 (some (.loop ⟨(((Regs.none.set 4 (.ptr 1 0 0)).set 5 (.ptr 2 0 0)).set 6 (.ptr 3 0 0)),[13],zkb,zkc,.done,(some .ret)⟩))));repeat(first|exact LocH.at|refine LocH.set (by decide) ?_ ?_|refine zAG.some ?_|refine zmN.els ?_|refine zmN.loop ?_|exact zfS.nil|refine zfS.cons ?_ ?_|exact zek.d|exact zek.ptr (by decide)|exact zsJ.none|refine zsJ.set ?_ ?_)
 unfold zca at h
 delta zdu
 refine zmP (L:=⟨(((Regs.none.set 4 (.ptr 1 0 0)).set 5 (.ptr 2 0 0)).set 6 (.ptr 3 0 0)),[13],zkb,zkc,.ready,none⟩) (by simp only[go_sem]) rfl ?_
 delta zkb
 try simp only[go_sem]
 delta zkc
 try simp only[go_sem]
 refine zal (fun hc3=> ?_) (fun hc4=> ?_)
 ·rw[if_pos hc3]at h
  try simp only[go_sem]
  cases h
  exact⟨rfl,Up.of (N:=19) (N':=25) [] rfl rfl (by decide) zam.none (.set (zax.loop (.set (.ptr' rfl) (.set (.ptr' rfl) (.set (.ptr' rfl) zam.none))) rfl rfl) (.set zax.refl_d (.set zax.refl_d (.set zax.refl_d (.set zax.refl_d (.set zax.refl_d (.set zax.refl_d zar.at)))))))⟩
 rw[if_neg (ff hc4)]at h
 try simp only[go_sem]
 refine zal (fun hc5=> ?_) (fun hc6=> ?_)
 ·rw[if_pos hc5]at h
  try simp only[go_sem]
  cases h
  exact⟨rfl,Up.of (N:=19) (N':=28) [] rfl rfl (by decide) zam.none (.set (zax.loop (.set (.ptr' rfl) (.set (.ptr' rfl) (.set (.ptr' rfl) zam.none))) rfl rfl) (.set zax.refl_d (.set zax.refl_d (.set zax.refl_d (.set zax.refl_d (.set zax.refl_d (.set zax.refl_d zar.at)))))))⟩
 rw[if_neg (ff hc6)]at h
 try simp only[go_sem]
 cases h
 exact⟨rfl,Up.of (N:=19) (N':=27) [] rfl rfl (by decide) zam.none (.set (zax.loop (.set (.ptr' rfl) (.set (.ptr' rfl) (.set (.ptr' rfl) zam.none))) rfl rfl) (.set zax.refl_d (.set zax.refl_d (.set zax.refl_d (.set zax.refl_d (.set zax.refl_d (.set zax.refl_d zar.at)))))))⟩
noncomputable def zJK (a0:Forest) (a1:Int) (a2:Int):Option (Bool):=
 (dec (D.int .i64) (pc prog 104 [zac a0,.int .i64 a1])).bind fun r1=>
 (zgz a0 r1).bind fun l7=>
 (foldI (zca a0 a1 a2 r1) () l7).bind fun r9=>
 match r9 with
 | .inl q11=>
  some false
 | .inr q12=>
  some q12
theorem zJL (a0:Forest) (a1:Int) (a2:Int) (r:Bool) (h:zJK a0 a1 a2=some r):pc prog 176 [zac a0,.int .i64 a1,.int .i64 a2]=some (D.bool r):=by
 unfold zJK at h
 refine zbt (fn:=zHG) rfl rfl ?_
 delta zHG
 try simp only[go_sem]
 obtain⟨r1,hr2,h⟩:=bs h
 replace hr2:=zao hr2
 refine zaq hr2 ?_
 try simp only[go_sem]
 refine zgh (fn:=zHy) rfl rfl ?_
 delta zHy
 try simp only[go_sem]
 refine Wp.rfuncC (k:=186) (fn:=zHJ) (first:=[]) (cap:=[.ptr 9 0 0,.ptr 10 0 0]) (by simp only[go_sem]) rfl rfl ?_
 delta zHJ
 try simp only[go_sem]
 obtain⟨l7,hl8,h⟩:=bs h
 obtain⟨r9,hl10,h⟩:=bs h
 refine zmQ zbJ (n:=(19,[])) (n':=(15,[])) (S:=zdu a0 a1 a2 r1) (F:=zil a0 a1 a2 r1) (znA hl8) (zwW a0 a1 a2 r1) (fun _=>Nat.le_refl _) (fun r=>Nat.le_refl _) hl10 ?_ rfl rfl rfl ?_ ?_ (show Fx.spans _ 15 4=true from by decide) (by decide) (by(repeat(first|refine Clo.block ?_|refine Clo.seq zbJ rfl ?_));refine Clo.rf (n':=(0,[])) ?_ (by decide) (by decide) ?_;((repeat(first|refine zbQ.set ?_ ?_|refine zbQ.args ?_|exact zbS.nil|refine zbS.cons ?_ ?_|exact zcn.d|exact zcn.ptr (by decide)|refine zcn.clo ?_ ?_)));(repeat(first|refine Clo.block ?_|refine Clo.seq zbJ rfl ?_));(exact Clo.ret)) rfl ?_
 ·show Up (19,[]) ⟨Regs.none,zdu a0 a1 a2 r1 ()⟩ _
  delta zdu
  exact Up.of (N:=19) (N':=19) [] rfl rfl (by decide) zam.none (.set (zax.loop (.set (.ptr' rfl) (.set (.ptr' rfl) (.set (.ptr' rfl) zam.none))) rfl rfl) (.set zax.refl_d (.set zax.refl_d (.set zax.refl_d (.set zax.refl_d (.set zax.refl_d (.set zax.refl_d zar.at)))))))
 ·repeat(first|exact zbQ.no|refine zbQ.set ?_ ?_|exact zcn.d|exact zcn.yld (by decide))
 ·repeat(first|refine zbQ.args ?_|exact zbS.nil|refine zbS.cons ?_ ?_|exact zcn.ptr (by decide)|exact zcn.yld (by decide))
 rcases r9 with(q11|q12)
 ·dsimp only at h
  simp only[zpZ,zqa,zeH,zeI]
  dsimp only[zdu,zil]
  try simp only[go_sem]
  cases h
  rfl
 dsimp only at h
 simp only[zpZ,zqa,zeH,zeI]
 dsimp only[zdu,zil]
 try simp only[go_sem]
 cases h
 rfl
def zfd (a0:Forest) (a1:Int) (x0:Int×Int):St:=⟨(((Regs.none.set 0 (.yld 13)).set 1 (.ptr 9 0 0)).set 2 (.ptr 8 0 0)),((((((((Heap.at 14).set 0 (some (.els 1 [.d (zac a0)] 0))).set 1 (some (.els 1 [.d (.int .i64 a1)] 0))).set 2 (some (.els 1 [.d (.int .i64 (0))] 0))).set 3 (some (.els 1 [.d (.int .i64 x0.1)] 0))).set 8 (some (.els 1 [.d (zac a0)] 0))).set 9 (some (.els 1 [.d (.int .i64 x0.2)] 0))).set 13 (some (.loop ⟨(((Regs.none.set 4 (.ptr 1 0 0)).set 6 (.ptr 2 0 0)).set 7 (.ptr 3 0 0)),[12],zmR,zmS,.ready,none⟩)))⟩
def zim (a0:Forest) (a1:Int):((Int×Int)⊕(Int×Int×Int))→Ex×St:=fun r=>match r with
 |(.inl r)=>(.exit 0,⟨Regs.none,((((((((Heap.at 14).set 0 (some (.els 1 [.d (zac a0)] 0))).set 1 (some (.els 1 [.d (.int .i64 a1)] 0))).set 2 (some (.els 1 [.d (.int .i64 (0))] 0))).set 3 (some (.els 1 [.d (.int .i64 r.1)] 0))).set 8 (some (.els 1 [.d (zac a0)] 0))).set 9 (some (.els 1 [.d (.int .i64 r.2)] 0))).set 13 (some (.loop ⟨(((Regs.none.set 4 (.ptr 1 0 0)).set 6 (.ptr 2 0 0)).set 7 (.ptr 3 0 0)),[12],zmR,zmS,.ready,none⟩)))⟩)
 |(.inr r)=>(.ret,⟨Regs.none,((((((((Heap.at 14).set 0 (some (.els 1 [.d (zac a0)] 0))).set 1 (some (.els 1 [.d (.int .i64 a1)] 0))).set 2 (some (.els 1 [.d (.int .i64 r.1)] 0))).set 3 (some (.els 1 [.d (.int .i64 r.2.1)] 0))).set 8 (some (.els 1 [.d (zac a0)] 0))).set 9 (some (.els 1 [.d (.int .i64 r.2.2)] 0))).set 13 (some (.loop ⟨(((Regs.none.set 4 (.ptr 1 0 0)).set 6 (.ptr 2 0 0)).set 7 (.ptr 3 0 0)),[12],zmR,zmS,.done,(some .ret)⟩)))⟩)
noncomputable def zbq (a0:Forest) (a1:Int) (x0:Int×Int):Option ((Int×Int)⊕((Int×Int)⊕(Int×Int×Int))):=
 if(!(x0.2==0))=true then
  if(x0.2==a1)=true then
   some (.inr (.inr (x0.1,x0.1,x0.2)))
  else
   (dec zap (pc prog 91 [zac a0,.int .i64 x0.2])).bind fun r5=>
   some (.inl (x0.2,r5.parent))
 else
  some (.inr (.inl (x0.1,x0.2)))
theorem zwX (a0:Forest) (a1:Int) (x0:Int×Int) (o:(Int×Int)⊕((Int×Int)⊕(Int×Int×Int))) (h:zbq a0 a1 x0=some o):Wp prog zfu (zfd a0 a1 x0) (zcP (14,[]) (zfd a0 a1) (zim a0 a1) o):=by
 unfold zbq at h
 delta zfu zfd
 try simp only[go_sem]
 refine zaE (fun hc1=> ?_) (fun hc2=> ?_)
 ·rw[if_pos (show(!(x0.2==0))=true by(rw[hc1];rfl))]at h
  try simp only[go_sem]
  refine zkV (by simp only[go_sem];rfl) rfl ?_
  delta zmR
  try simp only[go_sem]
  delta zmS
  try simp only[go_sem]
  refine zal (fun hc3=> ?_) (fun hc4=> ?_)
  ·rw[if_pos hc3]at h
   try simp only[go_sem]
   cases h
   exact⟨rfl,by simp,Up.of (N:=14) (N':=26) [] rfl rfl (by decide) zam.none (.set (zax.loop (.set (.ptr' rfl) (.set (.ptr' rfl) (.set (.ptr' rfl) zam.none))) rfl rfl) (.set zax.refl_d (.set zax.refl_d (.set zax.refl_d (.set zax.refl_d (.set zax.refl_d (.set zax.refl_d zar.at)))))))⟩
  rw[if_neg (ff hc4)]at h
  try simp only[go_sem]
  obtain⟨r5,hr6,h⟩:=bs h
  replace hr6:=zao hr6
  refine zaq hr6 ?_
  try simp only[go_sem]
  cases h
  exact⟨rfl,Up.of (N:=14) (N':=31) [] rfl rfl (by decide) (.set (.ptr' rfl) (.set (.ptr' rfl) (.set (.yld' rfl) zam.none))) (.set (zax.loop (.set (.ptr' rfl) (.set (.ptr' rfl) (.set (.ptr' rfl) zam.none))) rfl rfl) (.set zax.refl_d (.set zax.refl_d (.set zax.refl_d (.set zax.refl_d (.set zax.refl_d (.set zax.refl_d zar.at)))))))⟩
 rw[if_neg (ffn hc2)]at h
 try simp only[go_sem]
 cases h
 exact⟨rfl,by simp,Up.of (N:=14) (N':=16) [] rfl rfl (by decide) zam.none (.set (zax.loop (.set (.ptr' rfl) (.set (.ptr' rfl) (.set (.ptr' rfl) zam.none))) rfl rfl) (.set zax.refl_d (.set zax.refl_d (.set zax.refl_d (.set zax.refl_d (.set zax.refl_d (.set zax.refl_d zar.at)))))))⟩
noncomputable def zId (a0:Forest) (a1:Int) (a2:Int):Option (Int):=
 (zaT (zbq a0 a1) (0,a2)).bind fun r7=>
 match r7 with
 |(.inl q9)=>
  some (0)
 |(.inr q10)=>
  some q10.1
theorem zGF (a0:Forest) (a1:Int) (a2:Int) (r:Int) (h:zId a0 a1 a2=some r):pc prog 177 [zac a0,.int .i64 a1,.int .i64 a2]=some ((D.int .i64) r):=by
 unfold zId at h
 refine zbt (fn:=zHH) rfl rfl ?_
 delta zHH
 try simp only[go_sem]
 refine zgh (fn:=zAH) rfl rfl ?_
 delta zAH
 try simp only[go_sem]
 refine Wp.rfuncC (k:=173) (fn:=zAI) (first:=[]) (cap:=[.ptr 9 0 0,.ptr 8 0 0]) (by simp only[go_sem]) rfl rfl ?_
 delta zAI
 try simp only[go_sem]
 obtain⟨r7,hl8,h⟩:=bs h
 refine Wp.loopR zbJ (n:=(14,[])) (a:=zfu) rfl (zfd a0 a1) (zim a0 a1) (zwX a0 a1) hl8 ?_ (by(repeat(refine Clo.block ?_));refine Clo.rf (n':=(0,[])) ?_ (by decide) (by decide) ?_;((repeat(first|refine zbQ.set ?_ ?_|refine zbQ.args ?_|exact zbS.nil|refine zbS.cons ?_ ?_|exact zcn.d|exact zcn.ptr (by decide)|refine zcn.clo ?_ ?_)));(repeat(first|refine Clo.block ?_|refine Clo.seq zbJ rfl ?_));(exact Clo.ret)) ?_
 ·show Up (14,[]) (zfd a0 a1 (0,a2)) _
  delta zfd
  exact Up.of (N:=14) (N':=14) [] rfl rfl (by decide) (.set (.ptr' rfl) (.set (.ptr' rfl) (.set (.yld' rfl) zam.none))) (.set (zax.loop (.set (.ptr' rfl) (.set (.ptr' rfl) (.set (.ptr' rfl) zam.none))) rfl rfl) (.set zax.refl_d (.set zax.refl_d (.set zax.refl_d (.set zax.refl_d (.set zax.refl_d (.set zax.refl_d zar.at)))))))
 rcases r7 with(q9|q10)
 ·dsimp only at h
  dsimp only[zim]
  try simp only[go_sem]
  cases h
  rfl
 dsimp only at h
 dsimp only[zim]
 try simp only[go_sem]
 cases h
 rfl
end Go.Proofs.Ytfleilibjdgcjaa.B
