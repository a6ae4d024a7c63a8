/- Shaken copy of a longer text: what one law needs. Its conditions: none. -/
import Derived.Test.YtfleilibjdgcjaaZODec0
set_option linter.unusedSimpArgs false
set_option linter.unusedVariables false
set_option maxHeartbeats 1000000
namespace Go.Proofs.Ytfleilibjdgcjaa.O
open Go.AI
def zlk (a0:Forest) (a1:Int) (a2:Int) (y44:Node) (x0:Int):St:=⟨((((((Regs.none.set 1 (.d (.int .i64 a1))).set 2 (.d (.int .i64 a2))).set 3 (.ptr 0 0 0)).set 157 (.d (.list y44.kids.n (y44.kids.l.map (D.int .i64))))).set 158 (.d (.int .i64 (y44.kids.l.length:Int)))).set 159 (.d (.int .i64 x0))),((Heap.at 140).set 0 (some (.els 1 [.d (eForest a0)] 0)))⟩
def zrR (a0:Forest) (a1:Int) (a2:Int) (y44:Node):((Unit)⊕(Unit))→Ex×St:=fun r=>match r with
 |(.inl r)=>(.exit 0,⟨Regs.none,(Heap.at 140)⟩)
 |(.inr r)=>(.ret,⟨(Regs.none.set 6 (.d (.bool false))),(Heap.at 140)⟩)
noncomputable def zep (a0:Forest) (a1:Int) (a2:Int) (y44:Node) (x0:Int):Option ((Int)⊕((Unit)⊕(Unit))):=
 if(decide (x0<(y44.kids.l.length:Int)))=true then
  (rd y44.kids.l x0).bind fun y48=>
  (dec (eT2 D.bool (D.int .i64)) (pc prog 35 [eForest a0,.int .i64 y48,.int .i64 a1])).bind fun r50=>
  (dec (eT2 D.bool (D.int .i64)) (pc prog 35 [eForest a0,.int .i64 y48,.int .i64 a2])).bind fun r52=>
  if(!(bif (!(r50.2==0))then true else(!(r52.2==0))))=true then
   if(bif r50.1 then r52.1 else false)=true then
    some (.inr (.inr ()))
   else
    some (.inl (IntKind.wrap .i64 (x0+1)))
  else
   some (.inr (.inr ()))
 else
  some (.inr (.inl ()))
theorem zFz (a0:Forest) (a1:Int) (a2:Int) (y44:Node) (x0:Int) (o:(Int)⊕((Unit)⊕(Unit))) (h:zep a0 a1 a2 y44 x0=some o):Wp prog zJR (zlk a0 a1 a2 y44 x0) (zbF (0,[]) (zlk a0 a1 a2 y44) (zrR a0 a1 a2 y44) o):=by
 unfold zep at h
 delta zJR zlk
 try simp only[go_sem]
 refine zaf (fun hc46=> ?_) (fun hc47=> ?_)
 ·rw[if_pos hc46]at h
  try simp only[go_sem]
  obtain⟨y48,hy49,h⟩:=bs h
  try simp only[go_sem,zab hy49,zad hy49,zac (D.int .i64) hy49]
  obtain⟨r50,hr51,h⟩:=bs h
  replace hr51:=zag hr51
  refine zaj hr51 ?_
  try simp only[go_sem,zab hy49,zad hy49,zac (D.int .i64) hy49]
  obtain⟨r52,hr53,h⟩:=bs h
  replace hr53:=zag hr53
  refine zaj hr53 ?_
  try simp only[go_sem,zab hy49,zad hy49,zac (D.int .i64) hy49]
  refine zaa (v:= .d (.int .i64 r52.2)) (fun hb64=>by simp only[go_sem,zab hy49,zad hy49,zac (D.int .i64) hy49,hc46,hb64]) ?_
  try simp only[go_sem,zab hy49,zad hy49,zac (D.int .i64) hy49]
  refine zaa (v:= .d (.bool (!(r52.2==0)))) (fun hb63=>by simp only[go_sem,zab hy49,zad hy49,zac (D.int .i64) hy49,hc46,hb63]) ?_
  try simp only[go_sem,zab hy49,zad hy49,zac (D.int .i64) hy49]
  refine zaa (v:= .d (.bool r50.1)) (fun hb62=>by simp only[go_sem,zab hy49,zad hy49,zac (D.int .i64) hy49,hc46,hb62]) ?_
  try simp only[go_sem,zab hy49,zad hy49,zac (D.int .i64) hy49]
  refine zaa (v:= .d (.bool r50.1)) (fun hb61=>by simp only[go_sem,zab hy49,zad hy49,zac (D.int .i64) hy49,hc46,hb61]) ?_
  try simp only[go_sem,zab hy49,zad hy49,zac (D.int .i64) hy49]
  refine zaa (v:= .d (.bool r52.1)) (fun hb58=>by((obtain⟨hb59,hb60⟩:=zaq hb58));simp only[go_sem,zab hy49,zad hy49,zac (D.int .i64) hy49,hc46,hb60,hb59]) ?_
  try simp only[go_sem,zab hy49,zad hy49,zac (D.int .i64) hy49]
  refine zau (fun hc54=> ?_) (fun hc55=> ?_)
  ·rw[if_pos (show(!(bif (!(r50.2==0))then true else(!(r52.2==0))))=true by(rw[hc54];rfl))]at h
   try simp only[go_sem,zab hy49,zad hy49,zac (D.int .i64) hy49,hc54]
   refine zaf (fun hc56=> ?_) (fun hc57=> ?_)
   ·rw[if_pos hc56]at h
    try simp only[go_sem,zab hy49,zad hy49,zac (D.int .i64) hy49]
    cases h
    exact⟨rfl,by simp,Up.of (N:=140) (N':=175) [] rfl rfl (by decide) (.set (.d _) zal.none) zan.at⟩
   rw[if_neg (ff hc57)]at h
   try simp only[go_sem,zab hy49,zad hy49,zac (D.int .i64) hy49]
   cases h
   exact⟨rfl,Up.of (N:=140) (N':=176) [] rfl rfl (by decide) (.set (.d _) (.set (.d _) (.set (.d _) (.set (.ptr' rfl) (.set (.d _) (.set (.d _) zal.none)))))) (.set zar.refl_d zan.at)⟩
  rw[if_neg (ffn hc55)]at h
  try simp only[go_sem,zab hy49,zad hy49,zac (D.int .i64) hy49,hc55]
  cases h
  exact⟨rfl,by simp,Up.of (N:=140) (N':=175) [] rfl rfl (by decide) (.set (.d _) zal.none) zan.at⟩
 rw[if_neg (ff hc47)]at h
 try simp only[go_sem]
 cases h
 exact⟨rfl,by simp,Up.of (N:=140) (N':=141) [] rfl rfl (by decide) zal.none zan.at⟩
noncomputable def P9 (a0:Forest) (a1:Int) (a2:Int):Option (Bool):=
 (dec D.bool (pc prog 19 [])).bind fun r1=>
 if(!r1)=true then
  some false
 else
  (dec (eT2 D.bool (D.int .i64)) (pc prog 35 [eForest a0,.int .i64 a1,.int .i64 a2])).bind fun r5=>
  (dec (eT2 (D.int .i64) (D.int .i64)) (pc prog 36 [eForest a0,.int .i64 a1,.int .i64 a2])).bind fun r7=>
  (dec (eT2 (D.int .i64) (D.int .i64)) (pc prog 37 [eForest a0,.int .i64 a1])).bind fun r9=>
  (dec (eT2 (D.int .i64) (D.int .i64)) (pc prog 37 [eForest a0,.int .i64 a2])).bind fun r11=>
  (dec (eT2 (eSl (D.int .i64)) (D.int .i64)) (pc prog 38 [eForest a0,.int .i64 a1])).bind fun r13=>
  if(bif (bif (bif (bif (!(r5.2==0))then true else(!(r7.2==0)))then true else(!(r9.2==0)))then true else(!(r11.2==0)))then true else(!(r13.2==0)))=true then
   some (bif (bif (!(r5.2==0))then(r7.2==r5.2)else false)then true else(!(r11.2==0)))
  else
   (if(!(bif r5.1 then(!(r9.1==r11.1))else false))=true then
    (dec (D.int .i64) (pc prog 39 [.list r13.1.n (r13.1.l.map (D.int .i64)),.int .i64 a2])).bind fun r24=>
    some (bif (!(r5.1==(decide (0≤r24))))then true else(!((!(r7.1==0))==(r9.1==r11.1))))
   else
    some true:Option ((Bool))).bind fun r32=>
   if r32=true then
    some false
   else
    if(r7.1==0)=true then
     some true
    else
     (dec (eT2 D.bool (D.int .i64)) (pc prog 35 [eForest a0,.int .i64 r7.1,.int .i64 a1])).bind fun r38=>
     (dec (eT2 D.bool (D.int .i64)) (pc prog 35 [eForest a0,.int .i64 r7.1,.int .i64 a2])).bind fun r40=>
     if(bif (bif (bif (bif (bif (!(r38.2==0))then true else(!(r40.2==0)))then true else(!r38.1))then true else(!r40.1))then true else(decide (r7.1<1)))then true else(decide ((a0.nodes.l.length:Int)<r7.1)))=true then
      some false
     else
      (rd a0.nodes.l (IntKind.wrap .i64 (r7.1-1))).bind fun y44=>
      (zaQ (zep a0 a1 a2 y44) 0).bind fun r65=>
      match r65 with
      |(.inl q67)=>
       some true
      |(.inr q68)=>
       some false
theorem ok9 (a0:Forest) (a1:Int) (a2:Int) (r:Bool) (h:P9 a0 a1 a2=some r):pc prog 9 [eForest a0,.int .i64 a1,.int .i64 a2]=some (D.bool r):=by
 unfold P9 at h
 refine zaV (fn:=c9) rfl rfl ?_
 delta c9
 try simp only[go_sem]
 obtain⟨r1,hr2,h⟩:=bs h
 replace hr2:=zag hr2
 refine zaj hr2 ?_
 try simp only[go_sem]
 refine zav (fun hc3=> ?_) (fun hc4=> ?_)
 ·rw[if_pos (show(!r1)=true by(rw[hc3];rfl))]at h
  try simp only[go_sem]
  cases h
  rfl
 rw[if_neg (ffn hc4)]at h
 try simp only[go_sem]
 obtain⟨r5,hr6,h⟩:=bs h
 replace hr6:=zag hr6
 refine zaj hr6 ?_
 try simp only[go_sem]
 obtain⟨r7,hr8,h⟩:=bs h
 replace hr8:=zag hr8
 refine zaj hr8 ?_
 try simp only[go_sem]
 obtain⟨r9,hr10,h⟩:=bs h
 replace hr10:=zag hr10
 refine zaj hr10 ?_
 try simp only[go_sem]
 obtain⟨r11,hr12,h⟩:=bs h
 replace hr12:=zag hr12
 refine zaj hr12 ?_
 try simp only[go_sem]
 obtain⟨r13,hr14,h⟩:=bs h
 replace hr14:=zag hr14
 refine zaj hr14 ?_
 try simp only[go_sem]
 refine zaa (v:= .d (.int .i64 r7.2)) (fun hb95=>by simp only[go_sem,hc4,hb95]) ?_
 try simp only[go_sem]
 refine zaa (v:= .d (.bool (!(r7.2==0)))) (fun hb94=>by simp only[go_sem,hc4,hb94]) ?_
 try simp only[go_sem]
 refine zaa (v:= .d (.int .i64 r9.2)) (fun hb93=>by simp only[go_sem,hc4,hb93]) ?_
 try simp only[go_sem]
 refine zaa (v:= .d (.bool (!(r9.2==0)))) (fun hb92=>by simp only[go_sem,hc4,hb92]) ?_
 try simp only[go_sem]
 refine zaa (v:= .d (.int .i64 r11.2)) (fun hb91=>by simp only[go_sem,hc4,hb91]) ?_
 try simp only[go_sem]
 refine zaa (v:= .d (.bool (!(r11.2==0)))) (fun hb90=>by simp only[go_sem,hc4,hb90]) ?_
 try simp only[go_sem]
 refine zaa (v:= .d (.int .i64 r13.2)) (fun hb89=>by simp only[go_sem,hc4,hb89]) ?_
 try simp only[go_sem]
 refine zaa (v:= .d (.bool (!(r13.2==0)))) (fun hb88=>by simp only[go_sem,hc4,hb88]) ?_
 try simp only[go_sem]
 refine zaf (fun hc15=> ?_) (fun hc16=> ?_)
 ·rw[if_pos hc15]at h
  try simp only[go_sem]
  refine zaa (v:= .d (.int .i64 r7.2)) (fun hb21=>by simp only[go_sem,hc4,hc15,hb21]) ?_
  try simp only[go_sem]
  refine zaa (v:= .d (.int .i64 r5.2)) (fun hb20=>by simp only[go_sem,hc4,hc15,hb20]) ?_
  try simp only[go_sem]
  refine zaa (v:= .d (.bool (r7.2==r5.2))) (fun hb19=>by simp only[go_sem,hc4,hc15,hb19]) ?_
  try simp only[go_sem]
  refine zaa (v:= .d (.int .i64 r11.2)) (fun hb18=>by simp only[go_sem,hc4,hc15,hb18]) ?_
  try simp only[go_sem]
  refine zaa (v:= .d (.bool (!(r11.2==0)))) (fun hb17=>by simp only[go_sem,hc4,hc15,hb17]) ?_
  try simp only[go_sem]
  cases h
  rfl
 rw[if_neg (ff hc16)]at h
 try simp only[go_sem]
 refine zaa (v:= .d (.int .i64 r9.1)) (fun hb87=>by simp only[go_sem,hc4,hc16,hb87]) ?_
 try simp only[go_sem]
 refine zaa (v:= .d (.int .i64 r11.1)) (fun hb86=>by simp only[go_sem,hc4,hc16,hb86]) ?_
 try simp only[go_sem]
 refine zaa (v:= .d (.bool (!(r9.1==r11.1)))) (fun hb85=>by simp only[go_sem,hc4,hc16,hb85]) ?_
 try simp only[go_sem]
 refine zaa (v:= .d (.bool r5.1)) (fun hb84=>by simp only[go_sem,hc4,hc16,hb84]) ?_
 try simp only[go_sem]
 refine zaa (v:= .d (.list r13.1.n (r13.1.l.map (D.int .i64)))) (fun hb83=>by simp only[go_sem,hc4,hc16,hb83]) ?_
 try simp only[go_sem]
 refine zaa (v:= .d (.int .i64 a2)) (fun hb82=>by simp only[go_sem,hc4,hc16,hb82]) ?_
 try simp only[go_sem]
 obtain⟨r32,hl33,h⟩:=bs h
 refine zbH.cut (n:=(0,[])) .normal ⟨(((((Regs.none.set 1 (.d (.int .i64 a1))).set 2 (.d (.int .i64 a2))).set 3 (.ptr 0 0 0)).set 9 (.d (.int .i64 r7.1))).set 109 (.d (.bool r32))),((Heap.at 86).set 0 (some (.els 1 [.d (eForest a0)] 0)))⟩ ?_ (by(repeat(refine Clo.seq zbc rfl ?_));(exact Clo.ret)) ?_
 ·replace h:=hl33
  refine zau (fun hc22=> ?_) (fun hc23=> ?_)
  ·rw[if_pos (show(!(bif r5.1 then(!(r9.1==r11.1))else false))=true by(rw[hc22];rfl))]at h
   try simp only[go_sem,hc22]
   obtain⟨r24,hr25,h⟩:=bs h
   replace hr25:=zag hr25
   refine zaj hr25 ?_
   try simp only[go_sem]
   refine zaa (v:= .d (.int .i64 r7.1)) (fun hb31=>by simp only[go_sem,hc4,hc16,hc22,hb31]) ?_
   try simp only[go_sem]
   refine zaa (v:= .d (.bool (!(r7.1==0)))) (fun hb30=>by simp only[go_sem,hc4,hc16,hc22,hb30]) ?_
   try simp only[go_sem]
   refine zaa (v:= .d (.int .i64 r9.1)) (fun hb29=>by simp only[go_sem,hc4,hc16,hc22,hb29]) ?_
   try simp only[go_sem]
   refine zaa (v:= .d (.int .i64 r11.1)) (fun hb28=>by simp only[go_sem,hc4,hc16,hc22,hb28]) ?_
   try simp only[go_sem]
   refine zaa (v:= .d (.bool (r9.1==r11.1))) (fun hb27=>by simp only[go_sem,hc4,hc16,hc22,hb27]) ?_
   try simp only[go_sem]
   refine zaa (v:= .d (.bool (!((!(r7.1==0))==(r9.1==r11.1))))) (fun hb26=>by simp only[go_sem,hc4,hc16,hc22,hb26]) ?_
   try simp only[go_sem]
   cases h
   exact⟨rfl,Up.of (N:=86) (N':=86) [] rfl rfl (by decide) (.set (.d _) (.set (.d _) (.set (.ptr' rfl) (.set (.d _) (.set (.d _) zal.none))))) (.set zar.refl_d zan.at)⟩
  rw[if_neg (ffn hc23)]at h
  try simp only[go_sem,hc23]
  cases h
  exact⟨rfl,Up.of (N:=86) (N':=86) [] rfl rfl (by decide) (.set (.d _) (.set (.d _) (.set (.ptr' rfl) (.set (.d _) (.set (.d _) zal.none))))) (.set zar.refl_d zan.at)⟩
 try simp only[go_sem]
 refine zaf (fun hc34=> ?_) (fun hc35=> ?_)
 ·rw[if_pos hc34]at h
  try simp only[go_sem]
  cases h
  rfl
 rw[if_neg (ff hc35)]at h
 try simp only[go_sem]
 refine zaf (fun hc36=> ?_) (fun hc37=> ?_)
 ·rw[if_pos hc36]at h
  try simp only[go_sem]
  cases h
  rfl
 rw[if_neg (ff hc37)]at h
 try simp only[go_sem]
 obtain⟨r38,hr39,h⟩:=bs h
 replace hr39:=zag hr39
 refine zaj hr39 ?_
 try simp only[go_sem]
 obtain⟨r40,hr41,h⟩:=bs h
 replace hr41:=zag hr41
 refine zaj hr41 ?_
 try simp only[go_sem]
 refine zaa (v:= .d (.int .i64 r40.2)) (fun hb81=>by simp only[go_sem,hc4,hc16,hc35,hc37,hb81]) ?_
 try simp only[go_sem]
 refine zaa (v:= .d (.bool (!(r40.2==0)))) (fun hb80=>by simp only[go_sem,hc4,hc16,hc35,hc37,hb80]) ?_
 try simp only[go_sem]
 refine zaa (v:= .d (.bool r38.1)) (fun hb79=>by simp only[go_sem,hc4,hc16,hc35,hc37,hb79]) ?_
 try simp only[go_sem]
 refine zaa (v:= .d (.bool (!r38.1))) (fun hb78=>by simp only[go_sem,hc4,hc16,hc35,hc37,hb78]) ?_
 try simp only[go_sem]
 refine zaa (v:= .d (.bool r40.1)) (fun hb77=>by simp only[go_sem,hc4,hc16,hc35,hc37,hb77]) ?_
 try simp only[go_sem]
 refine zaa (v:= .d (.bool (!r40.1))) (fun hb76=>by simp only[go_sem,hc4,hc16,hc35,hc37,hb76]) ?_
 try simp only[go_sem]
 refine zaa (v:= .d (.int .i64 r7.1)) (fun hb75=>by simp only[go_sem,hc4,hc16,hc35,hc37,hb75]) ?_
 try simp only[go_sem]
 refine zaa (v:= .d (.bool (decide (r7.1<1)))) (fun hb74=>by simp only[go_sem,hc4,hc16,hc35,hc37,hb74]) ?_
 try simp only[go_sem]
 refine zaa (v:= .d (.int .i64 r7.1)) (fun hb73=>by simp only[go_sem,hc4,hc16,hc35,hc37,hb73]) ?_
 try simp only[go_sem]
 refine zaa (v:= .ptr 0 0 0) (fun hb72=>by simp only[go_sem,hc4,hc16,hc35,hc37,hb72]) ?_
 try simp only[go_sem]
 refine zaa (v:= .d (.list a0.nodes.n (a0.nodes.l.map eNode))) (fun hb71=>by simp only[go_sem,hc4,hc16,hc35,hc37,hb71]) ?_
 try simp only[go_sem]
 refine zaa (v:= .d (.int .i64 (a0.nodes.l.length:Int))) (fun hb70=>by simp only[go_sem,hc4,hc16,hc35,hc37,hb70]) ?_
 try simp only[go_sem]
 refine zaa (v:= .d (.bool (decide ((a0.nodes.l.length:Int)<r7.1)))) (fun hb69=>by simp only[go_sem,hc4,hc16,hc35,hc37,hb69]) ?_
 try simp only[go_sem]
 refine zaf (fun hc42=> ?_) (fun hc43=> ?_)
 ·rw[if_pos hc42]at h
  try simp only[go_sem]
  cases h
  rfl
 rw[if_neg (ff hc43)]at h
 try simp only[go_sem]
 obtain⟨y44,hy45,h⟩:=bs h
 try simp only[go_sem,zab hy45,zad hy45,zac eNode hy45]
 obtain⟨r65,hl66,h⟩:=bs h
 refine Wp.loopR zbc (n:=(0,[])) (a:=zJR) rfl (zlk a0 a1 a2 y44) (zrR a0 a1 a2 y44) (zFz a0 a1 a2 y44) hl66 ?_ (by(repeat(first|refine Clo.block ?_|refine Clo.seq zbc rfl ?_));(exact Clo.ret)) ?_
 ·show Up (0,[]) (zlk a0 a1 a2 y44 0) _
  delta zlk
  exact Up.of (N:=140) (N':=140) [] rfl rfl (by decide) (.set (.d _) (.set (.d _) (.set (.d _) (.set (.ptr' rfl) (.set (.d _) (.set (.d _) zal.none)))))) (.set zar.refl_d zan.at)
 rcases r65 with(q67|q68)
 ·dsimp only at h
  dsimp only[zrR]
  try simp only[go_sem,zab hy45,zad hy45,zac eNode hy45]
  cases h
  rfl
 dsimp only at h
 dsimp only[zrR]
 try simp only[go_sem,zab hy45,zad hy45,zac eNode hy45]
 cases h
 rfl
def zim (a0:Forest) (a1:Int) (a2:Int) (a3:Int) (r5:Sl (Int)×Int) (r7:Sl (Int)×Int) (r9:Int×Int) (x0:Int×Int):St:=⟨(((((((((Regs.none.set 1 (.d (.int .i64 a1))).set 2 (.d (.int .i64 a2))).set 3 (.d (.int .i64 a3))).set 4 (.ptr 0 0 0)).set 9 (.d (.list r5.1.n (r5.1.l.map (D.int .i64))))).set 11 (.d (.list r7.1.n (r7.1.l.map (D.int .i64))))).set 13 (.d (.int .i64 r9.1))).set 15 (.d (.int .i64 x0.1))).set 16 (.d (.int .i64 x0.2))),((Heap.at 40).set 0 (some (.els 1 [.d (eForest a0)] 0)))⟩
def zqz (a0:Forest) (a1:Int) (a2:Int) (a3:Int) (r5:Sl (Int)×Int) (r7:Sl (Int)×Int) (r9:Int×Int):((Int))→Ex×St:=fun r=>(.exit 0,⟨((((((((Regs.none.set 1 (.d (.int .i64 a1))).set 2 (.d (.int .i64 a2))).set 3 (.d (.int .i64 a3))).set 4 (.ptr 0 0 0)).set 9 (.d (.list r5.1.n (r5.1.l.map (D.int .i64))))).set 11 (.d (.list r7.1.n (r7.1.l.map (D.int .i64))))).set 13 (.d (.int .i64 r9.1))).set 15 (.d (.int .i64 r))),((Heap.at 40).set 0 (some (.els 1 [.d (eForest a0)] 0)))⟩)
noncomputable def zdf (a0:Forest) (a1:Int) (a2:Int) (a3:Int) (r5:Sl (Int)×Int) (r7:Sl (Int)×Int) (r9:Int×Int) (x0:Int×Int):Option ((Int×Int)⊕((Int))):=
 if(bif (decide (x0.2<(r7.1.l.length:Int)))then(decide (x0.1<(r5.1.l.length:Int)))else false)=true then
  (rd r7.1.l x0.2).bind fun y18=>
  (rd r5.1.l x0.1).bind fun y20=>
  (if(y18==y20)=true then
   some (IntKind.wrap .i64 (x0.1+1))
  else
   some x0.1:Option ((Int))).bind fun r24=>
  some (.inl (r24,(IntKind.wrap .i64 (x0.2+1))))
 else
  some (.inr x0.1)
theorem zCi (a0:Forest) (a1:Int) (a2:Int) (a3:Int) (r5:Sl (Int)×Int) (r7:Sl (Int)×Int) (r9:Int×Int) (x0:Int×Int) (o:(Int×Int)⊕((Int))) (h:zdf a0 a1 a2 a3 r5 r7 r9 x0=some o):Wp prog zBF (zim a0 a1 a2 a3 r5 r7 r9 x0) (zbF (0,[]) (zim a0 a1 a2 a3 r5 r7 r9) (zqz a0 a1 a2 a3 r5 r7 r9) o):=by
 unfold zdf at h
 delta zBF zim
 try simp only[go_sem]
 refine zaa (v:= .d (.int .i64 x0.1)) (fun hb29=>by simp only[go_sem,hb29]) ?_
 try simp only[go_sem]
 refine zaa (v:= .d (.list r5.1.n (r5.1.l.map (D.int .i64)))) (fun hb28=>by simp only[go_sem,hb28]) ?_
 try simp only[go_sem]
 refine zaa (v:= .d (.int .i64 (r5.1.l.length:Int))) (fun hb27=>by simp only[go_sem,hb27]) ?_
 try simp only[go_sem]
 refine zaa (v:= .d (.bool (decide (x0.1<(r5.1.l.length:Int))))) (fun hb26=>by simp only[go_sem,hb26]) ?_
 try simp only[go_sem]
 refine zaf (fun hc16=> ?_) (fun hc17=> ?_)
 ·rw[if_pos hc16]at h
  try simp only[go_sem]
  obtain⟨y18,hy19,h⟩:=bs h
  try simp only[go_sem,zab hy19,zad hy19,zac (D.int .i64) hy19]
  obtain⟨y20,hy21,h⟩:=bs h
  try simp only[go_sem,zab hy19,zad hy19,zac (D.int .i64) hy19,zab hy21,zad hy21,zac (D.int .i64) hy21]
  obtain⟨r24,hl25,h⟩:=bs h
  refine WBr.cut (n:=(0,[])) .normal ⟨(((((((((Regs.none.set 1 (.d (.int .i64 a1))).set 2 (.d (.int .i64 a2))).set 3 (.d (.int .i64 a3))).set 4 (.ptr 0 0 0)).set 9 (.d (.list r5.1.n (r5.1.l.map (D.int .i64))))).set 11 (.d (.list r7.1.n (r7.1.l.map (D.int .i64))))).set 13 (.d (.int .i64 r9.1))).set 15 (.d (.int .i64 r24))).set 16 (.d (.int .i64 x0.2))),((Heap.at 59).set 0 (some (.els 1 [.d (eForest a0)] 0)))⟩ ?_ (by(repeat(first|refine Clo.block ?_|refine Clo.seq zbc rfl ?_));(exact Clo.lpost (by decide))) ?_
  ·replace h:=hl25
   refine zaf (fun hc22=> ?_) (fun hc23=> ?_)
   ·rw[if_pos hc22]at h
    try simp only[go_sem,zab hy19,zad hy19,zac (D.int .i64) hy19,zab hy21,zad hy21,zac (D.int .i64) hy21]
    cases h
    exact⟨rfl,Up.of (N:=59) (N':=62) [] rfl rfl (by decide) (.set (.d _) (.set (.d _) (.set (.d _) (.set (.d _) (.set (.d _) (.set (.ptr' rfl) (.set (.d _) (.set (.d _) (.set (.d _) zal.none))))))))) (.set zar.refl_d zan.at)⟩
   rw[if_neg (ff hc23)]at h
   try simp only[go_sem,zab hy19,zad hy19,zac (D.int .i64) hy19,zab hy21,zad hy21,zac (D.int .i64) hy21]
   cases h
   exact⟨rfl,Up.of (N:=59) (N':=59) [] rfl rfl (by decide) (.set (.d _) (.set (.d _) (.set (.d _) (.set (.d _) (.set (.d _) (.set (.ptr' rfl) (.set (.d _) (.set (.d _) (.set (.d _) zal.none))))))))) (.set zar.refl_d zan.at)⟩
  try simp only[go_sem,zab hy19,zad hy19,zac (D.int .i64) hy19,zab hy21,zad hy21,zac (D.int .i64) hy21]
  cases h
  exact⟨rfl,Up.of (N:=40) (N':=62) [] rfl rfl (by decide) (.set (.d _) (.set (.d _) (.set (.d _) (.set (.d _) (.set (.d _) (.set (.ptr' rfl) (.set (.d _) (.set (.d _) (.set (.d _) zal.none))))))))) (.set zar.refl_d zan.at)⟩
 rw[if_neg (ff hc17)]at h
 try simp only[go_sem]
 cases h
 exact⟨rfl,by simp,Up.of (N:=40) (N':=50) [] rfl rfl (by decide) (.set (.d _) (.set (.d _) (.set (.d _) (.set (.d _) (.set (.ptr' rfl) (.set (.d _) (.set (.d _) (.set (.d _) zal.none)))))))) (.set zar.refl_d zan.at)⟩
noncomputable def P13 (a0:Forest) (a1:Int) (a2:Int) (a3:Int):Option (Bool):=
 (dec D.bool (pc prog 19 [])).bind fun r1=>
 if(!r1)=true then
  some false
 else
  (dec (eT2 (eSl (D.int .i64)) (D.int .i64)) (pc prog 38 [eForest a0,.int .i64 a1])).bind fun r5=>
  (dec (eT2 (eSl (D.int .i64)) (D.int .i64)) (pc prog 59 [eForest a0,.int .i64 a1])).bind fun r7=>
  (dec (eT2 (D.int .i64) (D.int .i64)) (pc prog 60 [eForest a0,.int .i64 a1])).bind fun r9=>
  if(bif (bif (!(r5.2==0))then true else(!(r7.2==0)))then true else(!(r9.2==0)))=true then
   some (bif (r5.2==r7.2)then(r7.2==r9.2)else false)
  else
   (zaQ (zdf a0 a1 a2 a3 r5 r7 r9) (0,0)).bind fun r30=>
   (dec (eT2 D.bool (D.int .i64)) (pc prog 61 [eForest a0,.int .i64 a1,.int .i64 a2])).bind fun r32=>
   (dec (eT2 D.bool (D.int .i64)) (pc prog 61 [eForest a0,.int .i64 a2,.int .i64 a3])).bind fun r34=>
   (dec (eT2 D.bool (D.int .i64)) (pc prog 61 [eForest a0,.int .i64 a1,.int .i64 a3])).bind fun r36=>
   if(bif (bif (!(r32.2==0))then true else(!(r34.2==0)))then true else(!(r36.2==0)))=true then
    some (r30==(r5.1.l.length:Int))
   else
    (dec (eT2 D.bool (D.int .i64)) (pc prog 61 [eForest a0,.int .i64 r9.1,.int .i64 a1])).bind fun r40=>
    (dec (eT2 (D.int .i64) (D.int .i64)) (pc prog 60 [eForest a0,.int .i64 r9.1])).bind fun r42=>
    if(r30==(r5.1.l.length:Int))=true then
     (dec (D.int .i64) (pc prog 39 [.list r7.1.n (r7.1.l.map (D.int .i64)),.int .i64 a2])).bind fun r46=>
     if(r32.1==(decide (0≤r46)))=true then
      some (bif (bif (bif (bif (bif (bif (!r32.1)then true else(!r34.1))then true else r36.1)then(r40.2==0)else false)then r40.1 else false)then(r42.2==0)else false)then(r42.1==r9.1)else false)
     else
      some false
    else
     some false
theorem zNM (a0:Forest) (a1:Int) (a2:Int) (a3:Int) (r:Bool) (h:P13 a0 a1 a2 a3=some r):pc prog 13 [eForest a0,.int .i64 a1,.int .i64 a2,.int .i64 a3]=some (D.bool r):=by
 unfold P13 at h
 refine zaV (fn:=c13) rfl rfl ?_
 delta c13
 try simp only[go_sem]
 obtain⟨r1,hr2,h⟩:=bs h
 replace hr2:=zag hr2
 refine zaj hr2 ?_
 try simp only[go_sem]
 refine zav (fun hc3=> ?_) (fun hc4=> ?_)
 ·rw[if_pos (show(!r1)=true by(rw[hc3];rfl))]at h
  try simp only[go_sem]
  cases h
  rfl
 rw[if_neg (ffn hc4)]at h
 try simp only[go_sem]
 obtain⟨r5,hr6,h⟩:=bs h
 replace hr6:=zag hr6
 refine zaj hr6 ?_
 try simp only[go_sem]
 obtain⟨r7,hr8,h⟩:=bs h
 replace hr8:=zag hr8
 refine zaj hr8 ?_
 try simp only[go_sem]
 obtain⟨r9,hr10,h⟩:=bs h
 replace hr10:=zag hr10
 refine zaj hr10 ?_
 try simp only[go_sem]
 refine zaa (v:= .d (.int .i64 r7.2)) (fun hb78=>by simp only[go_sem,hc4,hb78]) ?_
 try simp only[go_sem]
 refine zaa (v:= .d (.bool (!(r7.2==0)))) (fun hb77=>by simp only[go_sem,hc4,hb77]) ?_
 try simp only[go_sem]
 refine zaa (v:= .d (.int .i64 r9.2)) (fun hb76=>by simp only[go_sem,hc4,hb76]) ?_
 try simp only[go_sem]
 refine zaa (v:= .d (.bool (!(r9.2==0)))) (fun hb75=>by simp only[go_sem,hc4,hb75]) ?_
 try simp only[go_sem]
 refine zaf (fun hc11=> ?_) (fun hc12=> ?_)
 ·rw[if_pos hc11]at h
  try simp only[go_sem]
  refine zaa (v:= .d (.int .i64 r7.2)) (fun hb15=>by simp only[go_sem,hc4,hc11,hb15]) ?_
  try simp only[go_sem]
  refine zaa (v:= .d (.int .i64 r9.2)) (fun hb14=>by simp only[go_sem,hc4,hc11,hb14]) ?_
  try simp only[go_sem]
  refine zaa (v:= .d (.bool (r7.2==r9.2))) (fun hb13=>by simp only[go_sem,hc4,hc11,hb13]) ?_
  try simp only[go_sem]
  cases h
  rfl
 rw[if_neg (ff hc12)]at h
 try simp only[go_sem]
 obtain⟨r30,hl31,h⟩:=bs h
 refine Wp.loopR zbc (n:=(0,[])) (a:=zBF) rfl (zim a0 a1 a2 a3 r5 r7 r9) (zqz a0 a1 a2 a3 r5 r7 r9) (zCi a0 a1 a2 a3 r5 r7 r9) hl31 ?_ (by(repeat(first|refine Clo.block ?_|refine Clo.seq zbc rfl ?_));(exact Clo.ret)) ?_
 ·show Up (0,[]) (zim a0 a1 a2 a3 r5 r7 r9 (0,0)) _
  delta zim
  exact Up.of (N:=40) (N':=40) [] rfl rfl (by decide) (.set (.d _) (.set (.d _) (.set (.d _) (.set (.d _) (.set (.d _) (.set (.ptr' rfl) (.set (.d _) (.set (.d _) (.set (.d _) zal.none))))))))) (.set zar.refl_d zan.at)
 dsimp only[zqz]
 try simp only[go_sem]
 obtain⟨r32,hr33,h⟩:=bs h
 replace hr33:=zag hr33
 refine zaj hr33 ?_
 try simp only[go_sem]
 obtain⟨r34,hr35,h⟩:=bs h
 replace hr35:=zag hr35
 refine zaj hr35 ?_
 try simp only[go_sem]
 obtain⟨r36,hr37,h⟩:=bs h
 replace hr37:=zag hr37
 refine zaj hr37 ?_
 try simp only[go_sem]
 refine zaa (v:= .d (.int .i64 r34.2)) (fun hb74=>by simp only[go_sem,hc4,hc12,hb74]) ?_
 try simp only[go_sem]
 refine zaa (v:= .d (.bool (!(r34.2==0)))) (fun hb73=>by simp only[go_sem,hc4,hc12,hb73]) ?_
 try simp only[go_sem]
 refine zaa (v:= .d (.int .i64 r36.2)) (fun hb72=>by simp only[go_sem,hc4,hc12,hb72]) ?_
 try simp only[go_sem]
 refine zaa (v:= .d (.bool (!(r36.2==0)))) (fun hb71=>by simp only[go_sem,hc4,hc12,hb71]) ?_
 try simp only[go_sem]
 refine zaf (fun hc38=> ?_) (fun hc39=> ?_)
 ·rw[if_pos hc38]at h
  try simp only[go_sem]
  cases h
  rfl
 rw[if_neg (ff hc39)]at h
 try simp only[go_sem]
 obtain⟨r40,hr41,h⟩:=bs h
 replace hr41:=zag hr41
 refine zaj hr41 ?_
 try simp only[go_sem]
 obtain⟨r42,hr43,h⟩:=bs h
 replace hr43:=zag hr43
 refine zaj hr43 ?_
 try simp only[go_sem]
 refine zaa (v:= .d (.bool r32.1)) (fun hb70=>by simp only[go_sem,hc4,hc12,hc39,hb70]) ?_
 try simp only[go_sem]
 refine zaa (v:= .d (.list r7.1.n (r7.1.l.map (D.int .i64)))) (fun hb69=>by simp only[go_sem,hc4,hc12,hc39,hb69]) ?_
 try simp only[go_sem]
 refine zaa (v:= .d (.int .i64 a2)) (fun hb68=>by simp only[go_sem,hc4,hc12,hc39,hb68]) ?_
 try simp only[go_sem]
 refine zay (fun hc44=> ?_) (fun hc45=> ?_)
 ·rw[if_pos hc44]at h
  try simp only[go_sem,hc44]
  obtain⟨r46,hr47,h⟩:=bs h
  replace hr47:=zag hr47
  refine zaj hr47 ?_
  try simp only[go_sem]
  refine zaa (v:= .d (.bool r32.1)) (fun hb67=>by simp only[go_sem,hc4,hc12,hc39,hc44,hb67]) ?_
  try simp only[go_sem]
  refine zaa (v:= .d (.bool (!r32.1))) (fun hb66=>by simp only[go_sem,hc4,hc12,hc39,hc44,hb66]) ?_
  try simp only[go_sem]
  refine zaa (v:= .d (.bool (!r32.1))) (fun hb65=>by simp only[go_sem,hc4,hc12,hc39,hc44,hb65]) ?_
  try simp only[go_sem]
  refine zaa (v:= .d (.bool r34.1)) (fun hb62=>by((obtain⟨hb63,hb64⟩:=zaq hb62));simp only[go_sem,hc4,hc12,hc39,hc44,hb64,hb63]) ?_
  try simp only[go_sem]
  refine zaa (v:= .d (.bool (!r34.1))) (fun hb59=>by((obtain⟨hb60,hb61⟩:=zaq hb59));(simp_all only[go_sem];done)) ?_
  try simp only[go_sem]
  refine zay (fun hc48=> ?_) (fun hc49=> ?_)
  ·rw[if_pos hc48]at h
   try simp only[go_sem,hc48]
   refine zaa (v:= .d (.bool r36.1)) (fun hb58=>by simp only[go_sem,hc4,hc12,hc39,hc44,hc48,hb58]) ?_
   try simp only[go_sem]
   refine zaa (v:= .d (.int .i64 r40.2)) (fun hb57=>by simp only[go_sem,hc4,hc12,hc39,hc44,hc48,hb57]) ?_
   try simp only[go_sem]
   refine zaa (v:= .d (.bool (r40.2==0))) (fun hb56=>by simp only[go_sem,hc4,hc12,hc39,hc44,hc48,hb56]) ?_
   try simp only[go_sem]
   refine zaa (v:= .d (.bool r40.1)) (fun hb55=>by simp only[go_sem,hc4,hc12,hc39,hc44,hc48,hb55]) ?_
   try simp only[go_sem]
   refine zaa (v:= .d (.int .i64 r42.2)) (fun hb54=>by simp only[go_sem,hc4,hc12,hc39,hc44,hc48,hb54]) ?_
   try simp only[go_sem]
   refine zaa (v:= .d (.bool (r42.2==0))) (fun hb53=>by simp only[go_sem,hc4,hc12,hc39,hc44,hc48,hb53]) ?_
   try simp only[go_sem]
   refine zaa (v:= .d (.int .i64 r42.1)) (fun hb52=>by simp only[go_sem,hc4,hc12,hc39,hc44,hc48,hb52]) ?_
   try simp only[go_sem]
   refine zaa (v:= .d (.int .i64 r9.1)) (fun hb51=>by simp only[go_sem,hc4,hc12,hc39,hc44,hc48,hb51]) ?_
   try simp only[go_sem]
   refine zaa (v:= .d (.bool (r42.1==r9.1))) (fun hb50=>by simp only[go_sem,hc4,hc12,hc39,hc44,hc48,hb50]) ?_
   try simp only[go_sem]
   cases h
   rfl
  rw[if_neg (ff hc49)]at h
  try simp only[go_sem,hc49]
  cases h
  rfl
 rw[if_neg (ff hc45)]at h
 try simp only[go_sem,hc45]
 cases h
 rfl
noncomputable def P14 (a0:Forest) (a1:Int) (a2:Int) (a3:Int):Option (Bool):=
 (dec D.bool (pc prog 19 [])).bind fun r1=>
 if(!r1)=true then
  some false
 else
  (dec (eT3 (D.int .i64) D.bool (D.int .i64)) (pc prog 54 [eForest a0,.int .i64 a1,.int .i64 a2])).bind fun r5=>
  (dec (eT3 (D.int .i64) D.bool (D.int .i64)) (pc prog 54 [eForest a0,.int .i64 a2,.int .i64 a3])).bind fun r7=>
  (dec (eT3 (D.int .i64) D.bool (D.int .i64)) (pc prog 54 [eForest a0,.int .i64 a1,.int .i64 a3])).bind fun r9=>
  if(bif (bif (!(r5.2.2==0))then true else(!(r7.2.2==0)))then true else(!(r9.2.2==0)))=true then
   some true
  else
   if(bif r5.2.1 then r7.2.1 else false)=true then
    (if r9.2.1=true then
     if(!(bif (bif (bif (bif (decide (r5.1≤0))then(decide (r7.1≤0))else false)then(decide (0<r9.1))else false)then true else(decide (r5.1<(-1))))then true else(decide (1<r5.1))))=true then
      if(!(bif r5.2.1 then(!((r5.1==0)==(a1==a2)))else false))=true then
       some (bif (!r5.2.1)then(!(r5.1==0))else false)
      else
       some true
     else
      some true
    else
     some true:Option ((Bool))).bind fun r56=>
    if r56=true then
     some false
    else
     (dec (eT2 (D.int .i64) (D.int .i64)) (pc prog 37 [eForest a0,.int .i64 a1])).bind fun r60=>
     (dec (eT2 (eSl (D.int .i64)) (D.int .i64)) (pc prog 38 [eForest a0,.int .i64 r60.1])).bind fun r62=>
     (dec (eT2 (D.int .i64) (D.int .i64)) (pc prog 62 [eForest a0,.int .i64 a1])).bind fun r64=>
     (dec (D.int .i64) (pc prog 39 [.list r62.1.n (r62.1.l.map (D.int .i64)),.int .i64 a1])).bind fun r66=>
     (if(!(bif (bif (bif (!(r60.2==0))then true else(!(r62.2==0)))then true else(!(r64.2==0)))then true else(decide (r66<0))))=true then
      (cut r62.1.l (IntKind.wrap .i64 (r66+1)) (r62.1.l.length:Int)).bind fun y70=>
      (dec (D.int .i64) (pc prog 39 [.list r62.1.n (y70.map (D.int .i64)),.int .i64 a1])).bind fun r72=>
      some (decide (0≤r72))
     else
      some true:Option ((Bool))).bind fun r74=>
     if r74=true then
      some false
     else
      (dec (D.int .i64) (pc prog 39 [.list r62.1.n (r62.1.l.map (D.int .i64)),.int .i64 a2])).bind fun r78=>
      if(r5.2.1==(decide (0≤r78)))=true then
       if r5.2.1=true then
        (dec (D.int .i64) (pc prog 39 [.list r62.1.n (r62.1.l.map (D.int .i64)),.int .i64 a2])).bind fun r84=>
        (dec (D.int .i64) (pc prog 63 [.int .i64 (IntKind.wrap .i64 (r66-r84))])).bind fun r86=>
        if(!(r5.1==r86))=true then
         some false
        else
         if(decide ((IntKind.wrap .i64 (r66+1))<(r62.1.l.length:Int)))=true then
          (rd r62.1.l (IntKind.wrap .i64 (r66+1))).bind fun y92=>
          if(!(r64.1==y92))=true then
           some (bif ((IntKind.wrap .i64 (r66+1))==(r62.1.l.length:Int))then(r64.1==0)else false)
          else
           some true
         else
          some (bif ((IntKind.wrap .i64 (r66+1))==(r62.1.l.length:Int))then(r64.1==0)else false)
       else
        if(decide ((IntKind.wrap .i64 (r66+1))<(r62.1.l.length:Int)))=true then
         (rd r62.1.l (IntKind.wrap .i64 (r66+1))).bind fun y116=>
         if(!(r64.1==y116))=true then
          some (bif ((IntKind.wrap .i64 (r66+1))==(r62.1.l.length:Int))then(r64.1==0)else false)
         else
          some true
        else
         some (bif ((IntKind.wrap .i64 (r66+1))==(r62.1.l.length:Int))then(r64.1==0)else false)
      else
       some false
   else
    (if(!(bif (decide (r5.1<(-1)))then true else(decide (1<r5.1))))=true then
     if(!(bif r5.2.1 then(!((r5.1==0)==(a1==a2)))else false))=true then
      some (bif (!r5.2.1)then(!(r5.1==0))else false)
     else
      some true
    else
     some true:Option ((Bool))).bind fun r174=>
    if r174=true then
     some false
    else
     (dec (eT2 (D.int .i64) (D.int .i64)) (pc prog 37 [eForest a0,.int .i64 a1])).bind fun r178=>
     (dec (eT2 (eSl (D.int .i64)) (D.int .i64)) (pc prog 38 [eForest a0,.int .i64 r178.1])).bind fun r180=>
     (dec (eT2 (D.int .i64) (D.int .i64)) (pc prog 62 [eForest a0,.int .i64 a1])).bind fun r182=>
     (dec (D.int .i64) (pc prog 39 [.list r180.1.n (r180.1.l.map (D.int .i64)),.int .i64 a1])).bind fun r184=>
     (if(!(bif (bif (bif (!(r178.2==0))then true else(!(r180.2==0)))then true else(!(r182.2==0)))then true else(decide (r184<0))))=true then
      (cut r180.1.l (IntKind.wrap .i64 (r184+1)) (r180.1.l.length:Int)).bind fun y188=>
      (dec (D.int .i64) (pc prog 39 [.list r180.1.n (y188.map (D.int .i64)),.int .i64 a1])).bind fun r190=>
      some (decide (0≤r190))
     else
      some true:Option ((Bool))).bind fun r192=>
     if r192=true then
      some false
     else
      (dec (D.int .i64) (pc prog 39 [.list r180.1.n (r180.1.l.map (D.int .i64)),.int .i64 a2])).bind fun r196=>
      if(r5.2.1==(decide (0≤r196)))=true then
       if r5.2.1=true then
        (dec (D.int .i64) (pc prog 39 [.list r180.1.n (r180.1.l.map (D.int .i64)),.int .i64 a2])).bind fun r202=>
        (dec (D.int .i64) (pc prog 63 [.int .i64 (IntKind.wrap .i64 (r184-r202))])).bind fun r204=>
        if(!(r5.1==r204))=true then
         some false
        else
         if(decide ((IntKind.wrap .i64 (r184+1))<(r180.1.l.length:Int)))=true then
          (rd r180.1.l (IntKind.wrap .i64 (r184+1))).bind fun y210=>
          if(!(r182.1==y210))=true then
           some (bif ((IntKind.wrap .i64 (r184+1))==(r180.1.l.length:Int))then(r182.1==0)else false)
          else
           some true
         else
          some (bif ((IntKind.wrap .i64 (r184+1))==(r180.1.l.length:Int))then(r182.1==0)else false)
       else
        if(decide ((IntKind.wrap .i64 (r184+1))<(r180.1.l.length:Int)))=true then
         (rd r180.1.l (IntKind.wrap .i64 (r184+1))).bind fun y234=>
         if(!(r182.1==y234))=true then
          some (bif ((IntKind.wrap .i64 (r184+1))==(r180.1.l.length:Int))then(r182.1==0)else false)
         else
          some true
        else
         some (bif ((IntKind.wrap .i64 (r184+1))==(r180.1.l.length:Int))then(r182.1==0)else false)
      else
       some false
theorem zNN (a0:Forest) (a1:Int) (a2:Int) (a3:Int) (r:Bool) (h:P14 a0 a1 a2 a3=some r):pc prog 14 [eForest a0,.int .i64 a1,.int .i64 a2,.int .i64 a3]=some (D.bool r):=by
 unfold P14 at h
 refine zaV (fn:=c14) rfl rfl ?_
 delta c14
 try simp only[go_sem]
 obtain⟨r1,hr2,h⟩:=bs h
 replace hr2:=zag hr2
 refine zaj hr2 ?_
 try simp only[go_sem]
 refine zav (fun hc3=> ?_) (fun hc4=> ?_)
 ·rw[if_pos (show(!r1)=true by(rw[hc3];rfl))]at h
  try simp only[go_sem]
  cases h
  rfl
 rw[if_neg (ffn hc4)]at h
 try simp only[go_sem]
 obtain⟨r5,hr6,h⟩:=bs h
 replace hr6:=zag hr6
 refine zaj hr6 ?_
 try simp only[go_sem]
 obtain⟨r7,hr8,h⟩:=bs h
 replace hr8:=zag hr8
 refine zaj hr8 ?_
 try simp only[go_sem]
 obtain⟨r9,hr10,h⟩:=bs h
 replace hr10:=zag hr10
 refine zaj hr10 ?_
 try simp only[go_sem]
 refine zaa (v:= .d (.int .i64 r7.2.2)) (fun hb327=>by simp only[go_sem,hc4,hb327]) ?_
 try simp only[go_sem]
 refine zaa (v:= .d (.bool (!(r7.2.2==0)))) (fun hb326=>by simp only[go_sem,hc4,hb326]) ?_
 try simp only[go_sem]
 refine zaa (v:= .d (.int .i64 r9.2.2)) (fun hb325=>by simp only[go_sem,hc4,hb325]) ?_
 try simp only[go_sem]
 refine zaa (v:= .d (.bool (!(r9.2.2==0)))) (fun hb324=>by simp only[go_sem,hc4,hb324]) ?_
 try simp only[go_sem]
 refine zaf (fun hc11=> ?_) (fun hc12=> ?_)
 ·rw[if_pos hc11]at h
  try simp only[go_sem]
  cases h
  rfl
 rw[if_neg (ff hc12)]at h
 try simp only[go_sem]
 refine zaa (v:= .d (.bool r7.2.1)) (fun hb323=>by simp only[go_sem,hc4,hc12,hb323]) ?_
 try simp only[go_sem]
 refine zaa (v:= .d (.bool r9.2.1)) (fun hb322=>by simp only[go_sem,hc4,hc12,hb322]) ?_
 try simp only[go_sem]
 refine zaa (v:= .d (.bool (!r9.2.1))) (fun hb321=>by simp only[go_sem,hc4,hc12,hb321]) ?_
 try simp only[go_sem]
 refine zaa (v:= .d (.bool (!r9.2.1))) (fun hb320=>by simp only[go_sem,hc4,hc12,hb320]) ?_
 try simp only[go_sem]
 refine zaa (v:= .d (.int .i64 r5.1)) (fun hb317=>by((obtain⟨hb318,hb319⟩:=zaq hb317));simp only[go_sem,hc4,hc12,hb319,hb318]) ?_
 try simp only[go_sem]
 refine zaa (v:= .d (.bool (decide (r5.1≤0)))) (fun hb314=>by((obtain⟨hb315,hb316⟩:=zaq hb314));simp only[go_sem,hc4,hc12,hb316,hb315]) ?_
 try simp only[go_sem]
 refine zaa (v:= .d (.bool (decide (r5.1≤0)))) (fun hb311=>by((obtain⟨hb312,hb313⟩:=zaq hb311));simp only[go_sem,hc4,hc12,hb313,hb312]) ?_
 try simp only[go_sem]
 refine zaa (v:= .d (.int .i64 r7.1)) (fun hb306=>by((obtain⟨hb307,hb308⟩:=zaq hb306);(obtain⟨hb309,hb310⟩:=zaq hb307));simp only[go_sem,hc4,hc12,hb308,hb310,hb309]) ?_
 try simp only[go_sem]
 refine zaa (v:= .d (.bool (decide (r7.1≤0)))) (fun hb301=>by((obtain⟨hb302,hb303⟩:=zaq hb301);(obtain⟨hb304,hb305⟩:=zaq hb302));simp only[go_sem,hc4,hc12,hb303,hb305,hb304]) ?_
 try simp only[go_sem]
 rcases Bool.eq_false_or_eq_true ((bif r5.2.1 then r7.2.1 else false))with hc13|hc14
 ·rw[if_pos hc13]at h
  try simp only[go_sem,hc13]
  obtain⟨r56,hl57,h⟩:=bs h
  refine zbH.cut (n:=(0,[])) .normal ⟨((((((Regs.none.set 1 (.d (.int .i64 a1))).set 2 (.d (.int .i64 a2))).set 4 (.ptr 0 0 0)).set 9 (.d (.int .i64 r5.1))).set 10 (.d (.bool r5.2.1))).set 104 (.d (.bool r56))),((Heap.at 94).set 0 (some (.els 1 [.d (eForest a0)] 0)))⟩ ?_ (by(repeat(refine Clo.seq zbc rfl ?_));(exact Clo.ret)) ?_
  ·replace h:=hl57
   refine zay (fun hc15=> ?_) (fun hc16=> ?_)
   ·rw[if_pos hc15]at h
    try simp only[go_sem,hc15]
    refine zaa (v:= .d (.int .i64 r9.1)) (fun hb55=>by simp only[go_sem,hc4,hc12,hc13,hc15,hb55]) ?_
    try simp only[go_sem]
    refine zaa (v:= .d (.bool (decide (0<r9.1)))) (fun hb54=>by simp only[go_sem,hc4,hc12,hc13,hc15,hb54]) ?_
    try simp only[go_sem]
    try simp only[go_sem,hc4,hc12,hc13,hc15]
    refine zaa (v:= .d (.int .i64 r5.1)) (fun hb53=>by simp only[go_sem,hc4,hc12,hc13,hc15,hb53]) ?_
    try simp only[go_sem]
    refine zaa (v:= .d (.bool (decide (r5.1<(-1))))) (fun hb52=>by simp only[go_sem,hc4,hc12,hc13,hc15,hb52]) ?_
    try simp only[go_sem]
    refine zaa (v:= .d (.int .i64 r5.1)) (fun hb51=>by simp only[go_sem,hc4,hc12,hc13,hc15,hb51]) ?_
    try simp only[go_sem]
    refine zaa (v:= .d (.bool (decide (1<r5.1)))) (fun hb50=>by simp only[go_sem,hc4,hc12,hc13,hc15,hb50]) ?_
    try simp only[go_sem]
    refine zaa (v:= .d (.bool r5.2.1)) (fun hb49=>by simp only[go_sem,hc4,hc12,hc13,hc15,hb49]) ?_
    try simp only[go_sem]
    refine zaa (v:= .d (.bool r5.2.1)) (fun hb48=>by simp only[go_sem,hc4,hc12,hc13,hc15,hb48]) ?_
    try simp only[go_sem]
    refine zaa (v:= .d (.int .i64 r5.1)) (fun hb45=>by((obtain⟨hb46,hb47⟩:=zaq hb45));simp only[go_sem,hc4,hc12,hc13,hc15,hb47,hb46]) ?_
    try simp only[go_sem]
    refine zaa (v:= .d (.bool (r5.1==0))) (fun hb42=>by((obtain⟨hb43,hb44⟩:=zaq hb42));simp only[go_sem,hc4,hc12,hc13,hc15,hb44,hb43]) ?_
    try simp only[go_sem]
    refine zaa (v:= .d (.int .i64 a1)) (fun hb39=>by((obtain⟨hb40,hb41⟩:=zaq hb39));simp only[go_sem,hc4,hc12,hc13,hc15,hb41,hb40]) ?_
    try simp only[go_sem]
    refine zaa (v:= .d (.int .i64 a2)) (fun hb36=>by((obtain⟨hb37,hb38⟩:=zaq hb36));simp only[go_sem,hc4,hc12,hc13,hc15,hb38,hb37]) ?_
    try simp only[go_sem]
    refine zaa (v:= .d (.bool (a1==a2))) (fun hb33=>by((obtain⟨hb34,hb35⟩:=zaq hb33));simp only[go_sem,hc4,hc12,hc13,hc15,hb35,hb34]) ?_
    try simp only[go_sem]
    refine zaa (v:= .d (.bool (!((r5.1==0)==(a1==a2))))) (fun hb30=>by((obtain⟨hb31,hb32⟩:=zaq hb30));simp only[go_sem,hc4,hc12,hc13,hc15,hb32,hb31]) ?_
    try simp only[go_sem]
    refine zau (fun hc17=> ?_) (fun hc18=> ?_)
    ·rw[if_pos (show(!(bif (bif (bif (bif (decide (r5.1≤0))then(decide (r7.1≤0))else false)then(decide (0<r9.1))else false)then true else(decide (r5.1<(-1))))then true else(decide (1<r5.1))))=true by(rw[hc17];rfl))]at h
     try simp only[go_sem,hc17]
     refine zaa (v:= .d (.bool r5.2.1)) (fun hb29=>by simp only[go_sem,hc4,hc12,hc13,hc15,hc17,hb29]) ?_
     try simp only[go_sem]
     refine zaa (v:= .d (.bool (!r5.2.1))) (fun hb28=>by simp only[go_sem,hc4,hc12,hc13,hc15,hc17,hb28]) ?_
     try simp only[go_sem]
     refine zaa (v:= .d (.bool (!r5.2.1))) (fun hb27=>by simp only[go_sem,hc4,hc12,hc13,hc15,hc17,hb27]) ?_
     try simp only[go_sem]
     refine zaa (v:= .d (.int .i64 r5.1)) (fun hb24=>by((obtain⟨hb25,hb26⟩:=zaq hb24));simp only[go_sem,hc4,hc12,hc13,hc15,hc17,hb26,hb25]) ?_
     try simp only[go_sem]
     refine zaa (v:= .d (.bool (!(r5.1==0)))) (fun hb21=>by((obtain⟨hb22,hb23⟩:=zaq hb21));simp only[go_sem,hc4,hc12,hc13,hc15,hc17,hb23,hb22]) ?_
     try simp only[go_sem]
     refine zau (fun hc19=> ?_) (fun hc20=> ?_)
     ·rw[if_pos (show(!(bif r5.2.1 then(!((r5.1==0)==(a1==a2)))else false))=true by(rw[hc19];rfl))]at h
      try simp only[go_sem,hc19]
      cases h
      exact⟨rfl,Up.of (N:=94) (N':=94) [] rfl rfl (by decide) (.set (.d _) (.set (.d _) (.set (.d _) (.set (.ptr' rfl) (.set (.d _) (.set (.d _) zal.none)))))) (.set zar.refl_d zan.at)⟩
     rw[if_neg (ffn hc20)]at h
     try simp only[go_sem,hc20]
     cases h
     exact⟨rfl,Up.of (N:=94) (N':=94) [] rfl rfl (by decide) (.set (.d _) (.set (.d _) (.set (.d _) (.set (.ptr' rfl) (.set (.d _) (.set (.d _) zal.none)))))) (.set zar.refl_d zan.at)⟩
    rw[if_neg (ffn hc18)]at h
    try simp only[go_sem,hc18]
    cases h
    exact⟨rfl,Up.of (N:=94) (N':=94) [] rfl rfl (by decide) (.set (.d _) (.set (.d _) (.set (.d _) (.set (.ptr' rfl) (.set (.d _) (.set (.d _) zal.none)))))) (.set zar.refl_d zan.at)⟩
   rw[if_neg (ff hc16)]at h
   try simp only[go_sem,hc16]
   try simp only[go_sem,hc4,hc12,hc13,hc16]
   cases h
   exact⟨rfl,Up.of (N:=94) (N':=94) [] rfl rfl (by decide) (.set (.d _) (.set (.d _) (.set (.d _) (.set (.ptr' rfl) (.set (.d _) (.set (.d _) zal.none)))))) (.set zar.refl_d zan.at)⟩
  try simp only[go_sem]
  refine zaf (fun hc58=> ?_) (fun hc59=> ?_)
  ·rw[if_pos hc58]at h
   try simp only[go_sem]
   cases h
   rfl
  rw[if_neg (ff hc59)]at h
  try simp only[go_sem]
  obtain⟨r60,hr61,h⟩:=bs h
  replace hr61:=zag hr61
  refine zaj hr61 ?_
  try simp only[go_sem]
  obtain⟨r62,hr63,h⟩:=bs h
  replace hr63:=zag hr63
  refine zaj hr63 ?_
  try simp only[go_sem]
  obtain⟨r64,hr65,h⟩:=bs h
  replace hr65:=zag hr65
  refine zaj hr65 ?_
  try simp only[go_sem]
  obtain⟨r66,hr67,h⟩:=bs h
  replace hr67:=zag hr67
  refine zaj hr67 ?_
  try simp only[go_sem]
  refine zaa (v:= .d (.int .i64 r62.2)) (fun hb160=>by simp only[go_sem,hc4,hc12,hc13,hc59,hb160]) ?_
  try simp only[go_sem]
  refine zaa (v:= .d (.bool (!(r62.2==0)))) (fun hb159=>by simp only[go_sem,hc4,hc12,hc13,hc59,hb159]) ?_
  try simp only[go_sem]
  refine zaa (v:= .d (.int .i64 r64.2)) (fun hb158=>by simp only[go_sem,hc4,hc12,hc13,hc59,hb158]) ?_
  try simp only[go_sem]
  refine zaa (v:= .d (.bool (!(r64.2==0)))) (fun hb157=>by simp only[go_sem,hc4,hc12,hc13,hc59,hb157]) ?_
  try simp only[go_sem]
  refine zaa (v:= .d (.int .i64 r66)) (fun hb156=>by simp only[go_sem,hc4,hc12,hc13,hc59,hb156]) ?_
  try simp only[go_sem]
  refine zaa (v:= .d (.bool (decide (r66<0)))) (fun hb155=>by simp only[go_sem,hc4,hc12,hc13,hc59,hb155]) ?_
  try simp only[go_sem]
  refine zaa (v:= .d (.list r62.1.n (r62.1.l.map (D.int .i64)))) (fun hb154=>by simp only[go_sem,hc4,hc12,hc13,hc59,hb154]) ?_
  try simp only[go_sem]
  refine zaa (v:= .d (.int .i64 r66)) (fun hb153=>by simp only[go_sem,hc4,hc12,hc13,hc59,hb153]) ?_
  try simp only[go_sem]
  refine zaa (v:= .d (.int .i64 (IntKind.wrap .i64 (r66+1)))) (fun hb152=>by simp only[go_sem,hc4,hc12,hc13,hc59,hb152]) ?_
  try simp only[go_sem]
  obtain⟨r74,hl75,h⟩:=bs h
  refine zbH.cut (n:=(0,[])) .normal ⟨(((((((Regs.none.set 2 (.d (.int .i64 a2))).set 9 (.d (.int .i64 r5.1))).set 10 (.d (.bool r5.2.1))).set 19 (.d (.list r62.1.n (r62.1.l.map (D.int .i64))))).set 20 (.d (.int .i64 r64.1))).set 21 (.d (.int .i64 r66))).set 148 (.d (.bool r74))),(Heap.at 145)⟩ ?_ (by(repeat(refine Clo.seq zbc rfl ?_));(exact Clo.ret)) ?_
  ·replace h:=hl75
   refine zau (fun hc68=> ?_) (fun hc69=> ?_)
   ·rw[if_pos (show(!(bif (bif (bif (!(r60.2==0))then true else(!(r62.2==0)))then true else(!(r64.2==0)))then true else(decide (r66<0))))=true by(rw[hc68];rfl))]at h
    try simp only[go_sem,hc68]
    obtain⟨y70,hy71,h⟩:=bs h
    refine zhE (e:=(D.int .i64)) (n:=r62.1.n) (l:=r62.1.l) (sz:=1) (lo:=(some (IntKind.wrap .i64 (r66+1)))) (hi:=none) (by simp only[go_sem,zwG];(split<;>rfl)) (by decide) (fun _=>rfl) hy71 ?_
    try simp only[go_sem]
    obtain⟨r72,hr73,h⟩:=bs h
    replace hr73:=zag hr73
    refine zaj hr73 ?_
    try simp only[go_sem]
    cases h
    exact⟨rfl,Up.of (N:=145) (N':=145) [] rfl rfl (by decide) (.set (.d _) (.set (.d _) (.set (.d _) (.set (.d _) (.set (.d _) (.set (.d _) (.set (.d _) zal.none))))))) zan.at⟩
   rw[if_neg (ffn hc69)]at h
   try simp only[go_sem,hc69]
   cases h
   exact⟨rfl,Up.of (N:=145) (N':=145) [] rfl rfl (by decide) (.set (.d _) (.set (.d _) (.set (.d _) (.set (.d _) (.set (.d _) (.set (.d _) (.set (.d _) zal.none))))))) zan.at⟩
  try simp only[go_sem]
  refine zaf (fun hc76=> ?_) (fun hc77=> ?_)
  ·rw[if_pos hc76]at h
   try simp only[go_sem]
   cases h
   rfl
  rw[if_neg (ff hc77)]at h
  try simp only[go_sem]
  obtain⟨r78,hr79,h⟩:=bs h
  replace hr79:=zag hr79
  refine zaj hr79 ?_
  try simp only[go_sem]
  refine zaa (v:= .d (.bool r5.2.1)) (fun hb151=>by simp only[go_sem,hc4,hc12,hc13,hc59,hc77,hb151]) ?_
  try simp only[go_sem]
  refine zaa (v:= .d (.bool r5.2.1)) (fun hb150=>by simp only[go_sem,hc4,hc12,hc13,hc59,hc77,hb150]) ?_
  try simp only[go_sem]
  refine zaa (v:= .d (.int .i64 r5.1)) (fun hb147=>by((obtain⟨hb148,hb149⟩:=zaq hb147));simp only[go_sem,hc4,hc12,hc13,hc59,hc77,hb149,hb148]) ?_
  try simp only[go_sem]
  refine zaa (v:= .d (.int .i64 r66)) (fun hb144=>by((obtain⟨hb145,hb146⟩:=zaq hb144));simp only[go_sem,hc4,hc12,hc13,hc59,hc77,hb146,hb145]) ?_
  try simp only[go_sem]
  refine zaa (v:= .d (.list r62.1.n (r62.1.l.map (D.int .i64)))) (fun hb141=>by((obtain⟨hb142,hb143⟩:=zaq hb141));simp only[go_sem,hc4,hc12,hc13,hc59,hc77,hb143,hb142]) ?_
  try simp only[go_sem]
  refine zaa (v:= .d (.int .i64 a2)) (fun hb138=>by((obtain⟨hb139,hb140⟩:=zaq hb138));simp only[go_sem,hc4,hc12,hc13,hc59,hc77,hb140,hb139]) ?_
  try simp only[go_sem]
  rcases Bool.eq_false_or_eq_true ((r5.2.1==(decide (0≤r78))))with hc80|hc81
  ·rw[if_pos hc80]at h
   try simp only[go_sem,hc80]
   refine zay (fun hc82=> ?_) (fun hc83=> ?_)
   ·rw[if_pos hc82]at h
    try simp only[go_sem,hc82]
    obtain⟨r84,hr85,h⟩:=bs h
    replace hr85:=zag hr85
    refine zaj hr85 ?_
    try simp only[go_sem]
    obtain⟨r86,hr87,h⟩:=bs h
    replace hr87:=zag hr87
    refine zaj hr87 ?_
    try simp only[go_sem]
    try simp only[go_sem,hc4,hc12,hc13,hc59,hc77,hc80,hc82]
    refine zav (fun hc88=> ?_) (fun hc89=> ?_)
    ·rw[if_pos (show(!(r5.1==r86))=true by(rw[hc88];rfl))]at h
     try simp only[go_sem]
     cases h
     rfl
    rw[if_neg (ffn hc89)]at h
    try simp only[go_sem]
    refine zaa (v:= .d (.int .i64 r64.1)) (fun hb113=>by simp only[go_sem,hc4,hc12,hc13,hc59,hc77,hc80,hc82,hc89,hb113]) ?_
    try simp only[go_sem]
    refine zaa (v:= .d (.list r62.1.n (r62.1.l.map (D.int .i64)))) (fun hb112=>by simp only[go_sem,hc4,hc12,hc13,hc59,hc77,hc80,hc82,hc89,hb112]) ?_
    try simp only[go_sem]
    refine zaa (v:= .d (.int .i64 r66)) (fun hb111=>by simp only[go_sem,hc4,hc12,hc13,hc59,hc77,hc80,hc82,hc89,hb111]) ?_
    try simp only[go_sem]
    refine zaa (v:= .d (.int .i64 (IntKind.wrap .i64 (r66+1)))) (fun hb110=>by simp only[go_sem,hc4,hc12,hc13,hc59,hc77,hc80,hc82,hc89,hb110]) ?_
    try simp only[go_sem]
    refine zay (fun hc90=> ?_) (fun hc91=> ?_)
    ·rw[if_pos hc90]at h
     try simp only[go_sem,hc90]
     obtain⟨y92,hy93,h⟩:=bs h
     try simp only[go_sem,zab hy93,zad hy93,zac (D.int .i64) hy93]
     refine zaa (v:= .d (.int .i64 r66)) (fun hb107=>by simp only[go_sem,zab hy93,zad hy93,zac (D.int .i64) hy93,hc4,hc12,hc13,hc59,hc77,hc80,hc82,hc89,hc90,hb107]) ?_
     try simp only[go_sem,zab hy93,zad hy93,zac (D.int .i64) hy93]
     refine zaa (v:= .d (.int .i64 (IntKind.wrap .i64 (r66+1)))) (fun hb106=>by simp only[go_sem,zab hy93,zad hy93,zac (D.int .i64) hy93,hc4,hc12,hc13,hc59,hc77,hc80,hc82,hc89,hc90,hb106]) ?_
     try simp only[go_sem,zab hy93,zad hy93,zac (D.int .i64) hy93]
     refine zaa (v:= .d (.list r62.1.n (r62.1.l.map (D.int .i64)))) (fun hb105=>by simp only[go_sem,zab hy93,zad hy93,zac (D.int .i64) hy93,hc4,hc12,hc13,hc59,hc77,hc80,hc82,hc89,hc90,hb105]) ?_
     try simp only[go_sem,zab hy93,zad hy93,zac (D.int .i64) hy93]
     refine zaa (v:= .d (.int .i64 (r62.1.l.length:Int))) (fun hb104=>by simp only[go_sem,zab hy93,zad hy93,zac (D.int .i64) hy93,hc4,hc12,hc13,hc59,hc77,hc80,hc82,hc89,hc90,hb104]) ?_
     try simp only[go_sem,zab hy93,zad hy93,zac (D.int .i64) hy93]
     refine zaa (v:= .d (.bool ((IntKind.wrap .i64 (r66+1))==(r62.1.l.length:Int)))) (fun hb103=>by simp only[go_sem,zab hy93,zad hy93,zac (D.int .i64) hy93,hc4,hc12,hc13,hc59,hc77,hc80,hc82,hc89,hc90,hb103]) ?_
     try simp only[go_sem,zab hy93,zad hy93,zac (D.int .i64) hy93]
     refine zaa (v:= .d (.bool ((IntKind.wrap .i64 (r66+1))==(r62.1.l.length:Int)))) (fun hb102=>by simp only[go_sem,zab hy93,zad hy93,zac (D.int .i64) hy93,hc4,hc12,hc13,hc59,hc77,hc80,hc82,hc89,hc90,hb102]) ?_
     try simp only[go_sem,zab hy93,zad hy93,zac (D.int .i64) hy93]
     refine zaa (v:= .d (.int .i64 r64.1)) (fun hb99=>by((obtain⟨hb100,hb101⟩:=zaq hb99));simp only[go_sem,zab hy93,zad hy93,zac (D.int .i64) hy93,hc4,hc12,hc13,hc59,hc77,hc80,hc82,hc89,hc90,hb101,hb100]) ?_
     try simp only[go_sem,zab hy93,zad hy93,zac (D.int .i64) hy93]
     refine zaa (v:= .d (.bool (r64.1==0))) (fun hb96=>by((obtain⟨hb97,hb98⟩:=zaq hb96));simp only[go_sem,zab hy93,zad hy93,zac (D.int .i64) hy93,hc4,hc12,hc13,hc59,hc77,hc80,hc82,hc89,hc90,hb98,hb97]) ?_
     try simp only[go_sem,zab hy93,zad hy93,zac (D.int .i64) hy93]
     refine zau (fun hc94=> ?_) (fun hc95=> ?_)
     ·rw[if_pos (show(!(r64.1==y92))=true by(rw[hc94];rfl))]at h
      try simp only[go_sem,zab hy93,zad hy93,zac (D.int .i64) hy93,hc94]
      cases h
      rfl
     rw[if_neg (ffn hc95)]at h
     try simp only[go_sem,zab hy93,zad hy93,zac (D.int .i64) hy93,hc95]
     cases h
     rfl
    rw[if_neg (ff hc91)]at h
    try simp only[go_sem,hc91]
    refine zaa (v:= .d (.int .i64 r64.1)) (fun hb109=>by simp only[go_sem,hc4,hc12,hc13,hc59,hc77,hc80,hc82,hc89,hc91,hb109]) ?_
    try simp only[go_sem]
    refine zaa (v:= .d (.bool (r64.1==0))) (fun hb108=>by simp only[go_sem,hc4,hc12,hc13,hc59,hc77,hc80,hc82,hc89,hc91,hb108]) ?_
    try simp only[go_sem]
    cases h
    rfl
   rw[if_neg (ff hc83)]at h
   try simp only[go_sem,hc83]
   try simp only[go_sem,hc4,hc12,hc13,hc59,hc77,hc80,hc83]
   refine zaa (v:= .d (.int .i64 r64.1)) (fun hb137=>by simp only[go_sem,hc4,hc12,hc13,hc59,hc77,hc80,hc83,hb137]) ?_
   try simp only[go_sem]
   refine zaa (v:= .d (.list r62.1.n (r62.1.l.map (D.int .i64)))) (fun hb136=>by simp only[go_sem,hc4,hc12,hc13,hc59,hc77,hc80,hc83,hb136]) ?_
   try simp only[go_sem]
   refine zaa (v:= .d (.int .i64 r66)) (fun hb135=>by simp only[go_sem,hc4,hc12,hc13,hc59,hc77,hc80,hc83,hb135]) ?_
   try simp only[go_sem]
   refine zaa (v:= .d (.int .i64 (IntKind.wrap .i64 (r66+1)))) (fun hb134=>by simp only[go_sem,hc4,hc12,hc13,hc59,hc77,hc80,hc83,hb134]) ?_
   try simp only[go_sem]
   refine zay (fun hc114=> ?_) (fun hc115=> ?_)
   ·rw[if_pos hc114]at h
    try simp only[go_sem,hc114]
    obtain⟨y116,hy117,h⟩:=bs h
    try simp only[go_sem,zab hy117,zad hy117,zac (D.int .i64) hy117]
    refine zaa (v:= .d (.int .i64 r66)) (fun hb131=>by simp only[go_sem,zab hy117,zad hy117,zac (D.int .i64) hy117,hc4,hc12,hc13,hc59,hc77,hc80,hc83,hc114,hb131]) ?_
    try simp only[go_sem,zab hy117,zad hy117,zac (D.int .i64) hy117]
    refine zaa (v:= .d (.int .i64 (IntKind.wrap .i64 (r66+1)))) (fun hb130=>by simp only[go_sem,zab hy117,zad hy117,zac (D.int .i64) hy117,hc4,hc12,hc13,hc59,hc77,hc80,hc83,hc114,hb130]) ?_
    try simp only[go_sem,zab hy117,zad hy117,zac (D.int .i64) hy117]
    refine zaa (v:= .d (.list r62.1.n (r62.1.l.map (D.int .i64)))) (fun hb129=>by simp only[go_sem,zab hy117,zad hy117,zac (D.int .i64) hy117,hc4,hc12,hc13,hc59,hc77,hc80,hc83,hc114,hb129]) ?_
    try simp only[go_sem,zab hy117,zad hy117,zac (D.int .i64) hy117]
    refine zaa (v:= .d (.int .i64 (r62.1.l.length:Int))) (fun hb128=>by simp only[go_sem,zab hy117,zad hy117,zac (D.int .i64) hy117,hc4,hc12,hc13,hc59,hc77,hc80,hc83,hc114,hb128]) ?_
    try simp only[go_sem,zab hy117,zad hy117,zac (D.int .i64) hy117]
    refine zaa (v:= .d (.bool ((IntKind.wrap .i64 (r66+1))==(r62.1.l.length:Int)))) (fun hb127=>by simp only[go_sem,zab hy117,zad hy117,zac (D.int .i64) hy117,hc4,hc12,hc13,hc59,hc77,hc80,hc83,hc114,hb127]) ?_
    try simp only[go_sem,zab hy117,zad hy117,zac (D.int .i64) hy117]
    refine zaa (v:= .d (.bool ((IntKind.wrap .i64 (r66+1))==(r62.1.l.length:Int)))) (fun hb126=>by simp only[go_sem,zab hy117,zad hy117,zac (D.int .i64) hy117,hc4,hc12,hc13,hc59,hc77,hc80,hc83,hc114,hb126]) ?_
    try simp only[go_sem,zab hy117,zad hy117,zac (D.int .i64) hy117]
    refine zaa (v:= .d (.int .i64 r64.1)) (fun hb123=>by((obtain⟨hb124,hb125⟩:=zaq hb123));simp only[go_sem,zab hy117,zad hy117,zac (D.int .i64) hy117,hc4,hc12,hc13,hc59,hc77,hc80,hc83,hc114,hb125,hb124]) ?_
    try simp only[go_sem,zab hy117,zad hy117,zac (D.int .i64) hy117]
    refine zaa (v:= .d (.bool (r64.1==0))) (fun hb120=>by((obtain⟨hb121,hb122⟩:=zaq hb120));simp only[go_sem,zab hy117,zad hy117,zac (D.int .i64) hy117,hc4,hc12,hc13,hc59,hc77,hc80,hc83,hc114,hb122,hb121]) ?_
    try simp only[go_sem,zab hy117,zad hy117,zac (D.int .i64) hy117]
    refine zau (fun hc118=> ?_) (fun hc119=> ?_)
    ·rw[if_pos (show(!(r64.1==y116))=true by(rw[hc118];rfl))]at h
     try simp only[go_sem,zab hy117,zad hy117,zac (D.int .i64) hy117,hc118]
     cases h
     rfl
    rw[if_neg (ffn hc119)]at h
    try simp only[go_sem,zab hy117,zad hy117,zac (D.int .i64) hy117,hc119]
    cases h
    rfl
   rw[if_neg (ff hc115)]at h
   try simp only[go_sem,hc115]
   refine zaa (v:= .d (.int .i64 r64.1)) (fun hb133=>by simp only[go_sem,hc4,hc12,hc13,hc59,hc77,hc80,hc83,hc115,hb133]) ?_
   try simp only[go_sem]
   refine zaa (v:= .d (.bool (r64.1==0))) (fun hb132=>by simp only[go_sem,hc4,hc12,hc13,hc59,hc77,hc80,hc83,hc115,hb132]) ?_
   try simp only[go_sem]
   cases h
   rfl
  rw[if_neg (ff hc81)]at h
  try simp only[go_sem,hc81]
  cases h
  rfl
 rw[if_neg (ff hc14)]at h
 try simp only[go_sem,hc14]
 try simp only[go_sem,hc4,hc12,hc14]
 refine zaa (v:= .d (.int .i64 r5.1)) (fun hb300=>by simp only[go_sem,hc4,hc12,hc14,hb300]) ?_
 try simp only[go_sem]
 refine zaa (v:= .d (.bool (decide (1<r5.1)))) (fun hb299=>by simp only[go_sem,hc4,hc12,hc14,hb299]) ?_
 try simp only[go_sem]
 refine zaa (v:= .d (.bool r5.2.1)) (fun hb298=>by simp only[go_sem,hc4,hc12,hc14,hb298]) ?_
 try simp only[go_sem]
 refine zaa (v:= .d (.bool r5.2.1)) (fun hb297=>by simp only[go_sem,hc4,hc12,hc14,hb297]) ?_
 try simp only[go_sem]
 refine zaa (v:= .d (.int .i64 r5.1)) (fun hb294=>by((obtain⟨hb295,hb296⟩:=zaq hb294));simp only[go_sem,hc4,hc12,hc14,hb296,hb295]) ?_
 try simp only[go_sem]
 refine zaa (v:= .d (.bool (r5.1==0))) (fun hb291=>by((obtain⟨hb292,hb293⟩:=zaq hb291));simp only[go_sem,hc4,hc12,hc14,hb293,hb292]) ?_
 try simp only[go_sem]
 refine zaa (v:= .d (.int .i64 a1)) (fun hb288=>by((obtain⟨hb289,hb290⟩:=zaq hb288));simp only[go_sem,hc4,hc12,hc14,hb290,hb289]) ?_
 try simp only[go_sem]
 refine zaa (v:= .d (.int .i64 a2)) (fun hb285=>by((obtain⟨hb286,hb287⟩:=zaq hb285));simp only[go_sem,hc4,hc12,hc14,hb287,hb286]) ?_
 try simp only[go_sem]
 refine zaa (v:= .d (.bool (a1==a2))) (fun hb282=>by((obtain⟨hb283,hb284⟩:=zaq hb282));simp only[go_sem,hc4,hc12,hc14,hb284,hb283]) ?_
 try simp only[go_sem]
 refine zaa (v:= .d (.bool (!((r5.1==0)==(a1==a2))))) (fun hb279=>by((obtain⟨hb280,hb281⟩:=zaq hb279));simp only[go_sem,hc4,hc12,hc14,hb281,hb280]) ?_
 try simp only[go_sem]
 obtain⟨r174,hl175,h⟩:=bs h
 refine zbH.cut (n:=(0,[])) .normal ⟨((((((Regs.none.set 1 (.d (.int .i64 a1))).set 2 (.d (.int .i64 a2))).set 4 (.ptr 0 0 0)).set 9 (.d (.int .i64 r5.1))).set 10 (.d (.bool r5.2.1))).set 104 (.d (.bool r174))),((Heap.at 94).set 0 (some (.els 1 [.d (eForest a0)] 0)))⟩ ?_ (by(repeat(refine Clo.seq zbc rfl ?_));(exact Clo.ret)) ?_
 ·replace h:=hl175
  refine zau (fun hc161=> ?_) (fun hc162=> ?_)
  ·rw[if_pos (show(!(bif (decide (r5.1<(-1)))then true else(decide (1<r5.1))))=true by(rw[hc161];rfl))]at h
   try simp only[go_sem,hc161]
   refine zaa (v:= .d (.bool r5.2.1)) (fun hb173=>by simp only[go_sem,hc4,hc12,hc14,hc161,hb173]) ?_
   try simp only[go_sem]
   refine zaa (v:= .d (.bool (!r5.2.1))) (fun hb172=>by simp only[go_sem,hc4,hc12,hc14,hc161,hb172]) ?_
   try simp only[go_sem]
   refine zaa (v:= .d (.bool (!r5.2.1))) (fun hb171=>by simp only[go_sem,hc4,hc12,hc14,hc161,hb171]) ?_
   try simp only[go_sem]
   refine zaa (v:= .d (.int .i64 r5.1)) (fun hb168=>by((obtain⟨hb169,hb170⟩:=zaq hb168));simp only[go_sem,hc4,hc12,hc14,hc161,hb170,hb169]) ?_
   try simp only[go_sem]
   refine zaa (v:= .d (.bool (!(r5.1==0)))) (fun hb165=>by((obtain⟨hb166,hb167⟩:=zaq hb165));simp only[go_sem,hc4,hc12,hc14,hc161,hb167,hb166]) ?_
   try simp only[go_sem]
   refine zau (fun hc163=> ?_) (fun hc164=> ?_)
   ·rw[if_pos (show(!(bif r5.2.1 then(!((r5.1==0)==(a1==a2)))else false))=true by(rw[hc163];rfl))]at h
    try simp only[go_sem,hc163]
    cases h
    exact⟨rfl,Up.of (N:=94) (N':=94) [] rfl rfl (by decide) (.set (.d _) (.set (.d _) (.set (.d _) (.set (.ptr' rfl) (.set (.d _) (.set (.d _) zal.none)))))) (.set zar.refl_d zan.at)⟩
   rw[if_neg (ffn hc164)]at h
   try simp only[go_sem,hc164]
   cases h
   exact⟨rfl,Up.of (N:=94) (N':=94) [] rfl rfl (by decide) (.set (.d _) (.set (.d _) (.set (.d _) (.set (.ptr' rfl) (.set (.d _) (.set (.d _) zal.none)))))) (.set zar.refl_d zan.at)⟩
  rw[if_neg (ffn hc162)]at h
  try simp only[go_sem,hc162]
  cases h
  exact⟨rfl,Up.of (N:=94) (N':=94) [] rfl rfl (by decide) (.set (.d _) (.set (.d _) (.set (.d _) (.set (.ptr' rfl) (.set (.d _) (.set (.d _) zal.none)))))) (.set zar.refl_d zan.at)⟩
 try simp only[go_sem]
 refine zaf (fun hc176=> ?_) (fun hc177=> ?_)
 ·rw[if_pos hc176]at h
  try simp only[go_sem]
  cases h
  rfl
 rw[if_neg (ff hc177)]at h
 try simp only[go_sem]
 obtain⟨r178,hr179,h⟩:=bs h
 replace hr179:=zag hr179
 refine zaj hr179 ?_
 try simp only[go_sem]
 obtain⟨r180,hr181,h⟩:=bs h
 replace hr181:=zag hr181
 refine zaj hr181 ?_
 try simp only[go_sem]
 obtain⟨r182,hr183,h⟩:=bs h
 replace hr183:=zag hr183
 refine zaj hr183 ?_
 try simp only[go_sem]
 obtain⟨r184,hr185,h⟩:=bs h
 replace hr185:=zag hr185
 refine zaj hr185 ?_
 try simp only[go_sem]
 refine zaa (v:= .d (.int .i64 r180.2)) (fun hb278=>by simp only[go_sem,hc4,hc12,hc14,hc177,hb278]) ?_
 try simp only[go_sem]
 refine zaa (v:= .d (.bool (!(r180.2==0)))) (fun hb277=>by simp only[go_sem,hc4,hc12,hc14,hc177,hb277]) ?_
 try simp only[go_sem]
 refine zaa (v:= .d (.int .i64 r182.2)) (fun hb276=>by simp only[go_sem,hc4,hc12,hc14,hc177,hb276]) ?_
 try simp only[go_sem]
 refine zaa (v:= .d (.bool (!(r182.2==0)))) (fun hb275=>by simp only[go_sem,hc4,hc12,hc14,hc177,hb275]) ?_
 try simp only[go_sem]
 refine zaa (v:= .d (.int .i64 r184)) (fun hb274=>by simp only[go_sem,hc4,hc12,hc14,hc177,hb274]) ?_
 try simp only[go_sem]
 refine zaa (v:= .d (.bool (decide (r184<0)))) (fun hb273=>by simp only[go_sem,hc4,hc12,hc14,hc177,hb273]) ?_
 try simp only[go_sem]
 refine zaa (v:= .d (.list r180.1.n (r180.1.l.map (D.int .i64)))) (fun hb272=>by simp only[go_sem,hc4,hc12,hc14,hc177,hb272]) ?_
 try simp only[go_sem]
 refine zaa (v:= .d (.int .i64 r184)) (fun hb271=>by simp only[go_sem,hc4,hc12,hc14,hc177,hb271]) ?_
 try simp only[go_sem]
 refine zaa (v:= .d (.int .i64 (IntKind.wrap .i64 (r184+1)))) (fun hb270=>by simp only[go_sem,hc4,hc12,hc14,hc177,hb270]) ?_
 try simp only[go_sem]
 obtain⟨r192,hl193,h⟩:=bs h
 refine zbH.cut (n:=(0,[])) .normal ⟨(((((((Regs.none.set 2 (.d (.int .i64 a2))).set 9 (.d (.int .i64 r5.1))).set 10 (.d (.bool r5.2.1))).set 19 (.d (.list r180.1.n (r180.1.l.map (D.int .i64))))).set 20 (.d (.int .i64 r182.1))).set 21 (.d (.int .i64 r184))).set 148 (.d (.bool r192))),(Heap.at 145)⟩ ?_ (by(repeat(refine Clo.seq zbc rfl ?_));(exact Clo.ret)) ?_
 ·replace h:=hl193
  refine zau (fun hc186=> ?_) (fun hc187=> ?_)
  ·rw[if_pos (show(!(bif (bif (bif (!(r178.2==0))then true else(!(r180.2==0)))then true else(!(r182.2==0)))then true else(decide (r184<0))))=true by(rw[hc186];rfl))]at h
   try simp only[go_sem,hc186]
   obtain⟨y188,hy189,h⟩:=bs h
   refine zhE (e:=(D.int .i64)) (n:=r180.1.n) (l:=r180.1.l) (sz:=1) (lo:=(some (IntKind.wrap .i64 (r184+1)))) (hi:=none) (by simp only[go_sem,zwG];(split<;>rfl)) (by decide) (fun _=>rfl) hy189 ?_
   try simp only[go_sem]
   obtain⟨r190,hr191,h⟩:=bs h
   replace hr191:=zag hr191
   refine zaj hr191 ?_
   try simp only[go_sem]
   cases h
   exact⟨rfl,Up.of (N:=145) (N':=145) [] rfl rfl (by decide) (.set (.d _) (.set (.d _) (.set (.d _) (.set (.d _) (.set (.d _) (.set (.d _) (.set (.d _) zal.none))))))) zan.at⟩
  rw[if_neg (ffn hc187)]at h
  try simp only[go_sem,hc187]
  cases h
  exact⟨rfl,Up.of (N:=145) (N':=145) [] rfl rfl (by decide) (.set (.d _) (.set (.d _) (.set (.d _) (.set (.d _) (.set (.d _) (.set (.d _) (.set (.d _) zal.none))))))) zan.at⟩
 try simp only[go_sem]
 refine zaf (fun hc194=> ?_) (fun hc195=> ?_)
 ·rw[if_pos hc194]at h
  try simp only[go_sem]
  cases h
  rfl
 rw[if_neg (ff hc195)]at h
 try simp only[go_sem]
 obtain⟨r196,hr197,h⟩:=bs h
 replace hr197:=zag hr197
 refine zaj hr197 ?_
 try simp only[go_sem]
 refine zaa (v:= .d (.bool r5.2.1)) (fun hb269=>by simp only[go_sem,hc4,hc12,hc14,hc177,hc195,hb269]) ?_
 try simp only[go_sem]
 refine zaa (v:= .d (.bool r5.2.1)) (fun hb268=>by simp only[go_sem,hc4,hc12,hc14,hc177,hc195,hb268]) ?_
 try simp only[go_sem]
 refine zaa (v:= .d (.int .i64 r5.1)) (fun hb265=>by((obtain⟨hb266,hb267⟩:=zaq hb265));simp only[go_sem,hc4,hc12,hc14,hc177,hc195,hb267,hb266]) ?_
 try simp only[go_sem]
 refine zaa (v:= .d (.int .i64 r184)) (fun hb262=>by((obtain⟨hb263,hb264⟩:=zaq hb262));simp only[go_sem,hc4,hc12,hc14,hc177,hc195,hb264,hb263]) ?_
 try simp only[go_sem]
 refine zaa (v:= .d (.list r180.1.n (r180.1.l.map (D.int .i64)))) (fun hb259=>by((obtain⟨hb260,hb261⟩:=zaq hb259));simp only[go_sem,hc4,hc12,hc14,hc177,hc195,hb261,hb260]) ?_
 try simp only[go_sem]
 refine zaa (v:= .d (.int .i64 a2)) (fun hb256=>by((obtain⟨hb257,hb258⟩:=zaq hb256));simp only[go_sem,hc4,hc12,hc14,hc177,hc195,hb258,hb257]) ?_
 try simp only[go_sem]
 rcases Bool.eq_false_or_eq_true ((r5.2.1==(decide (0≤r196))))with hc198|hc199
 ·rw[if_pos hc198]at h
  try simp only[go_sem,hc198]
  refine zay (fun hc200=> ?_) (fun hc201=> ?_)
  ·rw[if_pos hc200]at h
   try simp only[go_sem,hc200]
   obtain⟨r202,hr203,h⟩:=bs h
   replace hr203:=zag hr203
   refine zaj hr203 ?_
   try simp only[go_sem]
   obtain⟨r204,hr205,h⟩:=bs h
   replace hr205:=zag hr205
   refine zaj hr205 ?_
   try simp only[go_sem]
   try simp only[go_sem,hc4,hc12,hc14,hc177,hc195,hc198,hc200]
   refine zav (fun hc206=> ?_) (fun hc207=> ?_)
   ·rw[if_pos (show(!(r5.1==r204))=true by(rw[hc206];rfl))]at h
    try simp only[go_sem]
    cases h
    rfl
   rw[if_neg (ffn hc207)]at h
   try simp only[go_sem]
   refine zaa (v:= .d (.int .i64 r182.1)) (fun hb231=>by simp only[go_sem,hc4,hc12,hc14,hc177,hc195,hc198,hc200,hc207,hb231]) ?_
   try simp only[go_sem]
   refine zaa (v:= .d (.list r180.1.n (r180.1.l.map (D.int .i64)))) (fun hb230=>by simp only[go_sem,hc4,hc12,hc14,hc177,hc195,hc198,hc200,hc207,hb230]) ?_
   try simp only[go_sem]
   refine zaa (v:= .d (.int .i64 r184)) (fun hb229=>by simp only[go_sem,hc4,hc12,hc14,hc177,hc195,hc198,hc200,hc207,hb229]) ?_
   try simp only[go_sem]
   refine zaa (v:= .d (.int .i64 (IntKind.wrap .i64 (r184+1)))) (fun hb228=>by simp only[go_sem,hc4,hc12,hc14,hc177,hc195,hc198,hc200,hc207,hb228]) ?_
   try simp only[go_sem]
   refine zay (fun hc208=> ?_) (fun hc209=> ?_)
   ·rw[if_pos hc208]at h
    try simp only[go_sem,hc208]
    obtain⟨y210,hy211,h⟩:=bs h
    try simp only[go_sem,zab hy211,zad hy211,zac (D.int .i64) hy211]
    refine zaa (v:= .d (.int .i64 r184)) (fun hb225=>by simp only[go_sem,zab hy211,zad hy211,zac (D.int .i64) hy211,hc4,hc12,hc14,hc177,hc195,hc198,hc200,hc207,hc208,hb225]) ?_
    try simp only[go_sem,zab hy211,zad hy211,zac (D.int .i64) hy211]
    refine zaa (v:= .d (.int .i64 (IntKind.wrap .i64 (r184+1)))) (fun hb224=>by simp only[go_sem,zab hy211,zad hy211,zac (D.int .i64) hy211,hc4,hc12,hc14,hc177,hc195,hc198,hc200,hc207,hc208,hb224]) ?_
    try simp only[go_sem,zab hy211,zad hy211,zac (D.int .i64) hy211]
    refine zaa (v:= .d (.list r180.1.n (r180.1.l.map (D.int .i64)))) (fun hb223=>by simp only[go_sem,zab hy211,zad hy211,zac (D.int .i64) hy211,hc4,hc12,hc14,hc177,hc195,hc198,hc200,hc207,hc208,hb223]) ?_
    try simp only[go_sem,zab hy211,zad hy211,zac (D.int .i64) hy211]
    refine zaa (v:= .d (.int .i64 (r180.1.l.length:Int))) (fun hb222=>by simp only[go_sem,zab hy211,zad hy211,zac (D.int .i64) hy211,hc4,hc12,hc14,hc177,hc195,hc198,hc200,hc207,hc208,hb222]) ?_
    try simp only[go_sem,zab hy211,zad hy211,zac (D.int .i64) hy211]
    refine zaa (v:= .d (.bool ((IntKind.wrap .i64 (r184+1))==(r180.1.l.length:Int)))) (fun hb221=>by simp only[go_sem,zab hy211,zad hy211,zac (D.int .i64) hy211,hc4,hc12,hc14,hc177,hc195,hc198,hc200,hc207,hc208,hb221]) ?_
    try simp only[go_sem,zab hy211,zad hy211,zac (D.int .i64) hy211]
    refine zaa (v:= .d (.bool ((IntKind.wrap .i64 (r184+1))==(r180.1.l.length:Int)))) (fun hb220=>by simp only[go_sem,zab hy211,zad hy211,zac (D.int .i64) hy211,hc4,hc12,hc14,hc177,hc195,hc198,hc200,hc207,hc208,hb220]) ?_
    try simp only[go_sem,zab hy211,zad hy211,zac (D.int .i64) hy211]
    refine zaa (v:= .d (.int .i64 r182.1)) (fun hb217=>by((obtain⟨hb218,hb219⟩:=zaq hb217));simp only[go_sem,zab hy211,zad hy211,zac (D.int .i64) hy211,hc4,hc12,hc14,hc177,hc195,hc198,hc200,hc207,hc208,hb219,hb218]) ?_
    try simp only[go_sem,zab hy211,zad hy211,zac (D.int .i64) hy211]
    refine zaa (v:= .d (.bool (r182.1==0))) (fun hb214=>by((obtain⟨hb215,hb216⟩:=zaq hb214));simp only[go_sem,zab hy211,zad hy211,zac (D.int .i64) hy211,hc4,hc12,hc14,hc177,hc195,hc198,hc200,hc207,hc208,hb216,hb215]) ?_
    try simp only[go_sem,zab hy211,zad hy211,zac (D.int .i64) hy211]
    refine zau (fun hc212=> ?_) (fun hc213=> ?_)
    ·rw[if_pos (show(!(r182.1==y210))=true by(rw[hc212];rfl))]at h
     try simp only[go_sem,zab hy211,zad hy211,zac (D.int .i64) hy211,hc212]
     cases h
     rfl
    rw[if_neg (ffn hc213)]at h
    try simp only[go_sem,zab hy211,zad hy211,zac (D.int .i64) hy211,hc213]
    cases h
    rfl
   rw[if_neg (ff hc209)]at h
   try simp only[go_sem,hc209]
   refine zaa (v:= .d (.int .i64 r182.1)) (fun hb227=>by simp only[go_sem,hc4,hc12,hc14,hc177,hc195,hc198,hc200,hc207,hc209,hb227]) ?_
   try simp only[go_sem]
   refine zaa (v:= .d (.bool (r182.1==0))) (fun hb226=>by simp only[go_sem,hc4,hc12,hc14,hc177,hc195,hc198,hc200,hc207,hc209,hb226]) ?_
   try simp only[go_sem]
   cases h
   rfl
  rw[if_neg (ff hc201)]at h
  try simp only[go_sem,hc201]
  try simp only[go_sem,hc4,hc12,hc14,hc177,hc195,hc198,hc201]
  refine zaa (v:= .d (.int .i64 r182.1)) (fun hb255=>by simp only[go_sem,hc4,hc12,hc14,hc177,hc195,hc198,hc201,hb255]) ?_
  try simp only[go_sem]
  refine zaa (v:= .d (.list r180.1.n (r180.1.l.map (D.int .i64)))) (fun hb254=>by simp only[go_sem,hc4,hc12,hc14,hc177,hc195,hc198,hc201,hb254]) ?_
  try simp only[go_sem]
  refine zaa (v:= .d (.int .i64 r184)) (fun hb253=>by simp only[go_sem,hc4,hc12,hc14,hc177,hc195,hc198,hc201,hb253]) ?_
  try simp only[go_sem]
  refine zaa (v:= .d (.int .i64 (IntKind.wrap .i64 (r184+1)))) (fun hb252=>by simp only[go_sem,hc4,hc12,hc14,hc177,hc195,hc198,hc201,hb252]) ?_
  try simp only[go_sem]
  refine zay (fun hc232=> ?_) (fun hc233=> ?_)
  ·rw[if_pos hc232]at h
   try simp only[go_sem,hc232]
   obtain⟨y234,hy235,h⟩:=bs h
   try simp only[go_sem,zab hy235,zad hy235,zac (D.int .i64) hy235]
   refine zaa (v:= .d (.int .i64 r184)) (fun hb249=>by simp only[go_sem,zab hy235,zad hy235,zac (D.int .i64) hy235,hc4,hc12,hc14,hc177,hc195,hc198,hc201,hc232,hb249]) ?_
   try simp only[go_sem,zab hy235,zad hy235,zac (D.int .i64) hy235]
   refine zaa (v:= .d (.int .i64 (IntKind.wrap .i64 (r184+1)))) (fun hb248=>by simp only[go_sem,zab hy235,zad hy235,zac (D.int .i64) hy235,hc4,hc12,hc14,hc177,hc195,hc198,hc201,hc232,hb248]) ?_
   try simp only[go_sem,zab hy235,zad hy235,zac (D.int .i64) hy235]
   refine zaa (v:= .d (.list r180.1.n (r180.1.l.map (D.int .i64)))) (fun hb247=>by simp only[go_sem,zab hy235,zad hy235,zac (D.int .i64) hy235,hc4,hc12,hc14,hc177,hc195,hc198,hc201,hc232,hb247]) ?_
   try simp only[go_sem,zab hy235,zad hy235,zac (D.int .i64) hy235]
   refine zaa (v:= .d (.int .i64 (r180.1.l.length:Int))) (fun hb246=>by simp only[go_sem,zab hy235,zad hy235,zac (D.int .i64) hy235,hc4,hc12,hc14,hc177,hc195,hc198,hc201,hc232,hb246]) ?_
   try simp only[go_sem,zab hy235,zad hy235,zac (D.int .i64) hy235]
   refine zaa (v:= .d (.bool ((IntKind.wrap .i64 (r184+1))==(r180.1.l.length:Int)))) (fun hb245=>by simp only[go_sem,zab hy235,zad hy235,zac (D.int .i64) hy235,hc4,hc12,hc14,hc177,hc195,hc198,hc201,hc232,hb245]) ?_
   try simp only[go_sem,zab hy235,zad hy235,zac (D.int .i64) hy235]
   refine zaa (v:= .d (.bool ((IntKind.wrap .i64 (r184+1))==(r180.1.l.length:Int)))) (fun hb244=>by simp only[go_sem,zab hy235,zad hy235,zac (D.int .i64) hy235,hc4,hc12,hc14,hc177,hc195,hc198,hc201,hc232,hb244]) ?_
   try simp only[go_sem,zab hy235,zad hy235,zac (D.int .i64) hy235]
   refine zaa (v:= .d (.int .i64 r182.1)) (fun hb241=>by((obtain⟨hb242,hb243⟩:=zaq hb241));simp only[go_sem,zab hy235,zad hy235,zac (D.int .i64) hy235,hc4,hc12,hc14,hc177,hc195,hc198,hc201,hc232,hb243,hb242]) ?_
   try simp only[go_sem,zab hy235,zad hy235,zac (D.int .i64) hy235]
   refine zaa (v:= .d (.bool (r182.1==0))) (fun hb238=>by((obtain⟨hb239,hb240⟩:=zaq hb238));simp only[go_sem,zab hy235,zad hy235,zac (D.int .i64) hy235,hc4,hc12,hc14,hc177,hc195,hc198,hc201,hc232,hb240,hb239]) ?_
   try simp only[go_sem,zab hy235,zad hy235,zac (D.int .i64) hy235]
   refine zau (fun hc236=> ?_) (fun hc237=> ?_)
   ·rw[if_pos (show(!(r182.1==y234))=true by(rw[hc236];rfl))]at h
    try simp only[go_sem,zab hy235,zad hy235,zac (D.int .i64) hy235,hc236]
    cases h
    rfl
   rw[if_neg (ffn hc237)]at h
   try simp only[go_sem,zab hy235,zad hy235,zac (D.int .i64) hy235,hc237]
   cases h
   rfl
  rw[if_neg (ff hc233)]at h
  try simp only[go_sem,hc233]
  refine zaa (v:= .d (.int .i64 r182.1)) (fun hb251=>by simp only[go_sem,hc4,hc12,hc14,hc177,hc195,hc198,hc201,hc233,hb251]) ?_
  try simp only[go_sem]
  refine zaa (v:= .d (.bool (r182.1==0))) (fun hb250=>by simp only[go_sem,hc4,hc12,hc14,hc177,hc195,hc198,hc201,hc233,hb250]) ?_
  try simp only[go_sem]
  cases h
  rfl
 rw[if_neg (ff hc199)]at h
 try simp only[go_sem,hc199]
 cases h
 rfl
noncomputable def P15 (a0:Forest) (a1:Int) (a2:Int):Option (Bool):=
 (dec D.bool (pc prog 19 [])).bind fun r1=>
 if(!r1)=true then
  some false
 else
  (dec (D.int .i64) (pc prog 45 [eForest a0,.list false (([a1,a2]).map (D.int .i64))])).bind fun r5=>
  if(!(r5==0))=true then
   (dec D.bool (pc prog 53 [eForest a0,.int .i64 a1,.int .i64 a2,.int .i64 r5])).bind fun r9=>
   some r9
  else
   (dec (eT2 (D.int .i64) (D.int .i64)) (pc prog 60 [eForest a0,.int .i64 a1])).bind fun r11=>
   (dec (eT2 (eSl (D.int .i64)) (D.int .i64)) (pc prog 59 [eForest a0,.int .i64 a1])).bind fun r13=>
   (dec (eT2 D.bool (D.int .i64)) (pc prog 61 [eForest a0,.int .i64 a1,.int .i64 a2])).bind fun r15=>
   (dec (eT2 D.bool (D.int .i64)) (pc prog 64 [eForest a0,.int .i64 a1])).bind fun r17=>
   if(bif (bif (bif (r11.2==0)then(r13.2==0)else false)then(r15.2==0)else false)then(r17.2==0)else false)=true then
    (dec (D.int .i64) (pc prog 65 [eForest a0,.int .i64 a1])).bind fun r21=>
    if(r11.1==r21)=true then
     (dec (eSl (D.int .i64)) (pc prog 67 [eForest a0,.int .i64 a1])).bind fun r25=>
     (dec D.bool (pc prog 66 [.list r13.1.n (r13.1.l.map (D.int .i64)),.list r25.n (r25.l.map (D.int .i64))])).bind fun r27=>
     if r27=true then
      (dec D.bool (pc prog 68 [eForest a0,.int .i64 a1,.int .i64 a2])).bind fun r31=>
      if(r15.1==r31)=true then
       (dec D.bool (pc prog 69 [eForest a0,.int .i64 a1])).bind fun r35=>
       some (r17.1==r35)
      else
       some false
     else
      some false
    else
     some false
   else
    some false
theorem zNO (a0:Forest) (a1:Int) (a2:Int) (r:Bool) (h:P15 a0 a1 a2=some r):pc prog 15 [eForest a0,.int .i64 a1,.int .i64 a2]=some (D.bool r):=by
 unfold P15 at h
 refine zaV (fn:=c15) rfl rfl ?_
 delta c15
 try simp only[go_sem]
 obtain⟨r1,hr2,h⟩:=bs h
 replace hr2:=zag hr2
 refine zaj hr2 ?_
 try simp only[go_sem]
 refine zav (fun hc3=> ?_) (fun hc4=> ?_)
 ·rw[if_pos (show(!r1)=true by(rw[hc3];rfl))]at h
  try simp only[go_sem]
  cases h
  rfl
 rw[if_neg (ffn hc4)]at h
 try simp only[go_sem]
 obtain⟨r5,hr6,h⟩:=bs h
 replace hr6:=zag hr6
 refine zaj hr6 ?_
 try simp only[go_sem]
 refine zav (fun hc7=> ?_) (fun hc8=> ?_)
 ·rw[if_pos (show(!(r5==0))=true by(rw[hc7];rfl))]at h
  try simp only[go_sem]
  obtain⟨r9,hr10,h⟩:=bs h
  replace hr10:=zag hr10
  refine zaj hr10 ?_
  try simp only[go_sem]
  cases h
  rfl
 rw[if_neg (ffn hc8)]at h
 try simp only[go_sem]
 obtain⟨r11,hr12,h⟩:=bs h
 replace hr12:=zag hr12
 refine zaj hr12 ?_
 try simp only[go_sem]
 obtain⟨r13,hr14,h⟩:=bs h
 replace hr14:=zag hr14
 refine zaj hr14 ?_
 try simp only[go_sem]
 obtain⟨r15,hr16,h⟩:=bs h
 replace hr16:=zag hr16
 refine zaj hr16 ?_
 try simp only[go_sem]
 obtain⟨r17,hr18,h⟩:=bs h
 replace hr18:=zag hr18
 refine zaj hr18 ?_
 try simp only[go_sem]
 refine zaa (v:= .d (.int .i64 r13.2)) (fun hb55=>by simp only[go_sem,hc4,hc8,hb55]) ?_
 try simp only[go_sem]
 refine zaa (v:= .d (.bool (r13.2==0))) (fun hb54=>by simp only[go_sem,hc4,hc8,hb54]) ?_
 try simp only[go_sem]
 refine zaa (v:= .d (.int .i64 r15.2)) (fun hb53=>by simp only[go_sem,hc4,hc8,hb53]) ?_
 try simp only[go_sem]
 refine zaa (v:= .d (.bool (r15.2==0))) (fun hb52=>by simp only[go_sem,hc4,hc8,hb52]) ?_
 try simp only[go_sem]
 refine zaa (v:= .d (.int .i64 r17.2)) (fun hb51=>by simp only[go_sem,hc4,hc8,hb51]) ?_
 try simp only[go_sem]
 refine zaa (v:= .d (.bool (r17.2==0))) (fun hb50=>by simp only[go_sem,hc4,hc8,hb50]) ?_
 try simp only[go_sem]
 refine zaa (v:= .d (.int .i64 r11.1)) (fun hb49=>by simp only[go_sem,hc4,hc8,hb49]) ?_
 try simp only[go_sem]
 refine zaa (v:= .d (eForest a0)) (fun hb48=>by simp only[go_sem,hc4,hc8,hb48]) ?_
 try simp only[go_sem]
 refine zaa (v:= .d (.int .i64 a1)) (fun hb47=>by simp only[go_sem,hc4,hc8,hb47]) ?_
 try simp only[go_sem]
 refine zay (fun hc19=> ?_) (fun hc20=> ?_)
 ·rw[if_pos hc19]at h
  try simp only[go_sem,hc19]
  obtain⟨r21,hr22,h⟩:=bs h
  replace hr22:=zag hr22
  refine zaj hr22 ?_
  try simp only[go_sem]
  refine zaa (v:= .d (.list r13.1.n (r13.1.l.map (D.int .i64)))) (fun hb46=>by simp only[go_sem,hc4,hc8,hc19,hb46]) ?_
  try simp only[go_sem]
  refine zaa (v:= .d (eForest a0)) (fun hb45=>by simp only[go_sem,hc4,hc8,hc19,hb45]) ?_
  try simp only[go_sem]
  refine zaa (v:= .d (.int .i64 a1)) (fun hb44=>by simp only[go_sem,hc4,hc8,hc19,hb44]) ?_
  try simp only[go_sem]
  refine zay (fun hc23=> ?_) (fun hc24=> ?_)
  ·rw[if_pos hc23]at h
   try simp only[go_sem,hc23]
   obtain⟨r25,hr26,h⟩:=bs h
   replace hr26:=zag hr26
   refine zaj hr26 ?_
   try simp only[go_sem]
   obtain⟨r27,hr28,h⟩:=bs h
   replace hr28:=zag hr28
   refine zaj hr28 ?_
   try simp only[go_sem]
   refine zaa (v:= .d (.bool r15.1)) (fun hb43=>by simp only[go_sem,hc4,hc8,hc19,hc23,hb43]) ?_
   try simp only[go_sem]
   refine zaa (v:= .d (eForest a0)) (fun hb42=>by simp only[go_sem,hc4,hc8,hc19,hc23,hb42]) ?_
   try simp only[go_sem]
   refine zaa (v:= .d (.int .i64 a1)) (fun hb41=>by simp only[go_sem,hc4,hc8,hc19,hc23,hb41]) ?_
   try simp only[go_sem]
   refine zaa (v:= .d (.int .i64 a2)) (fun hb40=>by simp only[go_sem,hc4,hc8,hc19,hc23,hb40]) ?_
   try simp only[go_sem]
   refine zay (fun hc29=> ?_) (fun hc30=> ?_)
   ·rw[if_pos hc29]at h
    try simp only[go_sem,hc29]
    obtain⟨r31,hr32,h⟩:=bs h
    replace hr32:=zag hr32
    refine zaj hr32 ?_
    try simp only[go_sem]
    refine zaa (v:= .d (.bool r17.1)) (fun hb39=>by simp only[go_sem,hc4,hc8,hc19,hc23,hc29,hb39]) ?_
    try simp only[go_sem]
    refine zaa (v:= .d (eForest a0)) (fun hb38=>by simp only[go_sem,hc4,hc8,hc19,hc23,hc29,hb38]) ?_
    try simp only[go_sem]
    refine zaa (v:= .d (.int .i64 a1)) (fun hb37=>by simp only[go_sem,hc4,hc8,hc19,hc23,hc29,hb37]) ?_
    try simp only[go_sem]
    refine zay (fun hc33=> ?_) (fun hc34=> ?_)
    ·rw[if_pos hc33]at h
     try simp only[go_sem,hc33]
     obtain⟨r35,hr36,h⟩:=bs h
     replace hr36:=zag hr36
     refine zaj hr36 ?_
     try simp only[go_sem]
     cases h
     rfl
    rw[if_neg (ff hc34)]at h
    try simp only[go_sem,hc34]
    cases h
    rfl
   rw[if_neg (ff hc30)]at h
   try simp only[go_sem,hc30]
   cases h
   rfl
  rw[if_neg (ff hc24)]at h
  try simp only[go_sem,hc24]
  cases h
  rfl
 rw[if_neg (ff hc20)]at h
 try simp only[go_sem,hc20]
 cases h
 rfl
def zin (a0:Sl (Int)) (a1:Int) (x0:Int):St:=⟨(((Regs.none.set 0 (.d (.list a0.n (a0.l.map (D.int .i64))))).set 1 (.d (.int .i64 a1))).set 5 (.d (.int .i64 x0))),(Heap.at 2)⟩
def zmI (a0:Sl (Int)) (a1:Int):((Unit)⊕(Int))→Ex×St:=fun r=>match r with
 |(.inl r)=>(.exit 0,⟨Regs.none,(Heap.at 2)⟩)
 |(.inr r)=>(.ret,⟨(Regs.none.set 4 (.d (.int .i64 r))),(Heap.at 2)⟩)
noncomputable def zeq (a0:Sl (Int)) (a1:Int) (x0:Int):Option ((Int)⊕((Unit)⊕(Int))):=
 if(decide (x0<(a0.l.length:Int)))=true then
  (rd a0.l x0).bind fun y3=>
  if(y3==a1)=true then
   some (.inr (.inr x0))
  else
   some (.inl (IntKind.wrap .i64 (x0+1)))
 else
  some (.inr (.inl ()))
theorem zCj (a0:Sl (Int)) (a1:Int) (x0:Int) (o:(Int)⊕((Unit)⊕(Int))) (h:zeq a0 a1 x0=some o):Wp prog zBG (zin a0 a1 x0) (zbF (0,[]) (zin a0 a1) (zmI a0 a1) o):=by
 unfold zeq at h
 delta zBG zin
 try simp only[go_sem]
 refine zaf (fun hc1=> ?_) (fun hc2=> ?_)
 ·rw[if_pos hc1]at h
  try simp only[go_sem]
  obtain⟨y3,hy4,h⟩:=bs h
  try simp only[go_sem,zab hy4,zad hy4,zac (D.int .i64) hy4]
  refine zaf (fun hc5=> ?_) (fun hc6=> ?_)
  ·rw[if_pos hc5]at h
   try simp only[go_sem,zab hy4,zad hy4,zac (D.int .i64) hy4]
   cases h
   exact⟨rfl,by simp,Up.of (N:=2) (N':=14) [] rfl rfl (by decide) (.set (.d _) zal.none) zan.at⟩
  rw[if_neg (ff hc6)]at h
  try simp only[go_sem,zab hy4,zad hy4,zac (D.int .i64) hy4]
  cases h
  exact⟨rfl,Up.of (N:=2) (N':=15) [] rfl rfl (by decide) (.set (.d _) (.set (.d _) (.set (.d _) zal.none))) zan.at⟩
 rw[if_neg (ff hc2)]at h
 try simp only[go_sem]
 cases h
 exact⟨rfl,by simp,Up.of (N:=2) (N':=6) [] rfl rfl (by decide) zal.none zan.at⟩
noncomputable def P39 (a0:Sl (Int)) (a1:Int):Option (Int):=
 (zaQ (zeq a0 a1) 0).bind fun r7=>
 match r7 with
 |(.inl q9)=>
  some (-1)
 |(.inr q10)=>
  some q10
theorem zNP (a0:Sl (Int)) (a1:Int) (r:Int) (h:P39 a0 a1=some r):pc prog 39 [.list a0.n (a0.l.map (D.int .i64)),.int .i64 a1]=some ((D.int .i64) r):=by
 unfold P39 at h
 refine zaV (fn:=c39) rfl rfl ?_
 delta c39
 try simp only[go_sem]
 obtain⟨r7,hl8,h⟩:=bs h
 refine Wp.loopR zbc (n:=(0,[])) (a:=zBG) rfl (zin a0 a1) (zmI a0 a1) (zCj a0 a1) hl8 ?_ (by(repeat(first|refine Clo.block ?_|refine Clo.seq zbc rfl ?_));(exact Clo.ret)) ?_
 ·show Up (0,[]) (zin a0 a1 0) _
  delta zin
  exact Up.of (N:=2) (N':=2) [] rfl rfl (by decide) (.set (.d _) (.set (.d _) (.set (.d _) zal.none))) zan.at
 rcases r7 with(q9|q10)
 ·dsimp only at h
  dsimp only[zmI]
  try simp only[go_sem]
  cases h
  rfl
 dsimp only at h
 dsimp only[zmI]
 try simp only[go_sem]
 cases h
 rfl
noncomputable def P53 (a0:Forest) (a1:Int) (a2:Int) (a3:Int):Option (Bool):=
 (dec (eT2 D.bool (D.int .i64)) (pc prog 35 [eForest a0,.int .i64 a1,.int .i64 a2])).bind fun r1=>
 (dec (eT2 (D.int .i64) (D.int .i64)) (pc prog 36 [eForest a0,.int .i64 a1,.int .i64 a2])).bind fun r3=>
 (dec (eT3 (D.int .i64) D.bool (D.int .i64)) (pc prog 54 [eForest a0,.int .i64 a1,.int .i64 a2])).bind fun r5=>
 (dec (eT2 (D.int .i64) (D.int .i64)) (pc prog 20 [eForest a0,.int .i64 a1,.int .i64 a2])).bind fun r7=>
 (dec (eT2 D.bool (D.int .i64)) (pc prog 61 [eForest a0,.int .i64 a1,.int .i64 a2])).bind fun r9=>
 some (bif (bif (bif (bif (bif (bif (bif (bif (bif (bif (!r1.1)then(r1.2==a3)else false)then(r3.1==0)else false)then(r3.2==a3)else false)then(r5.1==0)else false)then(!r5.2.1)else false)then(r5.2.2==a3)else false)then(r7.1==0)else false)then(r7.2==a3)else false)then(!r9.1)else false)then(r9.2==a3)else false)
theorem zNQ (a0:Forest) (a1:Int) (a2:Int) (a3:Int) (r:Bool) (h:P53 a0 a1 a2 a3=some r):pc prog 53 [eForest a0,.int .i64 a1,.int .i64 a2,.int .i64 a3]=some (D.bool r):=by
 unfold P53 at h
 refine zaV (fn:=c53) rfl rfl ?_
 delta c53
 try simp only[go_sem]
 obtain⟨r1,hr2,h⟩:=bs h
 replace hr2:=zag hr2
 refine zaj hr2 ?_
 try simp only[go_sem]
 obtain⟨r3,hr4,h⟩:=bs h
 replace hr4:=zag hr4
 refine zaj hr4 ?_
 try simp only[go_sem]
 obtain⟨r5,hr6,h⟩:=bs h
 replace hr6:=zag hr6
 refine zaj hr6 ?_
 try simp only[go_sem]
 obtain⟨r7,hr8,h⟩:=bs h
 replace hr8:=zag hr8
 refine zaj hr8 ?_
 try simp only[go_sem]
 obtain⟨r9,hr10,h⟩:=bs h
 replace hr10:=zag hr10
 refine zaj hr10 ?_
 try simp only[go_sem]
 refine zaa (v:= .d (.int .i64 r1.2)) (fun hb35=>by simp only[go_sem,hb35]) ?_
 try simp only[go_sem]
 refine zaa (v:= .d (.int .i64 a3)) (fun hb34=>by simp only[go_sem,hb34]) ?_
 try simp only[go_sem]
 refine zaa (v:= .d (.bool (r1.2==a3))) (fun hb33=>by simp only[go_sem,hb33]) ?_
 try simp only[go_sem]
 refine zaa (v:= .d (.int .i64 r3.1)) (fun hb32=>by simp only[go_sem,hb32]) ?_
 try simp only[go_sem]
 refine zaa (v:= .d (.bool (r3.1==0))) (fun hb31=>by simp only[go_sem,hb31]) ?_
 try simp only[go_sem]
 refine zaa (v:= .d (.int .i64 r3.2)) (fun hb30=>by simp only[go_sem,hb30]) ?_
 try simp only[go_sem]
 refine zaa (v:= .d (.int .i64 a3)) (fun hb29=>by simp only[go_sem,hb29]) ?_
 try simp only[go_sem]
 refine zaa (v:= .d (.bool (r3.2==a3))) (fun hb28=>by simp only[go_sem,hb28]) ?_
 try simp only[go_sem]
 refine zaa (v:= .d (.int .i64 r5.1)) (fun hb27=>by simp only[go_sem,hb27]) ?_
 try simp only[go_sem]
 refine zaa (v:= .d (.bool (r5.1==0))) (fun hb26=>by simp only[go_sem,hb26]) ?_
 try simp only[go_sem]
 refine zaa (v:= .d (.bool r5.2.1)) (fun hb25=>by simp only[go_sem,hb25]) ?_
 try simp only[go_sem]
 refine zaa (v:= .d (.bool (!r5.2.1))) (fun hb24=>by simp only[go_sem,hb24]) ?_
 try simp only[go_sem]
 refine zaa (v:= .d (.int .i64 r5.2.2)) (fun hb23=>by simp only[go_sem,hb23]) ?_
 try simp only[go_sem]
 refine zaa (v:= .d (.int .i64 a3)) (fun hb22=>by simp only[go_sem,hb22]) ?_
 try simp only[go_sem]
 refine zaa (v:= .d (.bool (r5.2.2==a3))) (fun hb21=>by simp only[go_sem,hb21]) ?_
 try simp only[go_sem]
 refine zaa (v:= .d (.int .i64 r7.1)) (fun hb20=>by simp only[go_sem,hb20]) ?_
 try simp only[go_sem]
 refine zaa (v:= .d (.bool (r7.1==0))) (fun hb19=>by simp only[go_sem,hb19]) ?_
 try simp only[go_sem]
 refine zaa (v:= .d (.int .i64 r7.2)) (fun hb18=>by simp only[go_sem,hb18]) ?_
 try simp only[go_sem]
 refine zaa (v:= .d (.int .i64 a3)) (fun hb17=>by simp only[go_sem,hb17]) ?_
 try simp only[go_sem]
 refine zaa (v:= .d (.bool (r7.2==a3))) (fun hb16=>by simp only[go_sem,hb16]) ?_
 try simp only[go_sem]
 refine zaa (v:= .d (.bool r9.1)) (fun hb15=>by simp only[go_sem,hb15]) ?_
 try simp only[go_sem]
 refine zaa (v:= .d (.bool (!r9.1))) (fun hb14=>by simp only[go_sem,hb14]) ?_
 try simp only[go_sem]
 refine zaa (v:= .d (.int .i64 r9.2)) (fun hb13=>by simp only[go_sem,hb13]) ?_
 try simp only[go_sem]
 refine zaa (v:= .d (.int .i64 a3)) (fun hb12=>by simp only[go_sem,hb12]) ?_
 try simp only[go_sem]
 refine zaa (v:= .d (.bool (r9.2==a3))) (fun hb11=>by simp only[go_sem,hb11]) ?_
 try simp only[go_sem]
 cases h
 rfl
noncomputable def P63 (a0:Int):Option (Int):=
 if(decide (a0<0))=true then
  some (-1)
 else
  if(decide (0<a0))=true then
   some (1)
  else
   some (0)
theorem zNR (a0:Int) (r:Int) (h:P63 a0=some r):pc prog 63 [.int .i64 a0]=some ((D.int .i64) r):=by
 unfold P63 at h
 refine zaV (fn:=c63) rfl rfl ?_
 delta c63
 try simp only[go_sem]
 refine zaf (fun hc1=> ?_) (fun hc2=> ?_)
 ·rw[if_pos hc1]at h
  try simp only[go_sem]
  cases h
  rfl
 rw[if_neg (ff hc2)]at h
 try simp only[go_sem]
 refine zaf (fun hc3=> ?_) (fun hc4=> ?_)
 ·rw[if_pos hc3]at h
  try simp only[go_sem]
  cases h
  rfl
 rw[if_neg (ff hc4)]at h
 try simp only[go_sem]
 cases h
 rfl
end Go.Proofs.Ytfleilibjdgcjaa.O
