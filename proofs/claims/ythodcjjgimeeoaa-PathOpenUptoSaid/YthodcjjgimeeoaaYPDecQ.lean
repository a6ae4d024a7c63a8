/- Shaken copy of a longer text: what one law needs. Its conditions: none. -/
import Derived.Test.YthodcjjgimeeoaaYPDec0
import Derived.Test.YthodcjjgimeeoaaYPSpIt
set_option linter.unusedSimpArgs false
set_option linter.unusedVariables false
set_option linter.unnecessarySimpa false
set_option maxHeartbeats 1000000
namespace Go.Proofs.Ythodcjjgimeeoaa.P
open Go.AI
noncomputable def P10 (a0:Forest) (a1:Sl (Step)) (a2:Int):Option (Bool):=
 if a1.l=[]then
  (dec (eT2 (eSl (D.int .i64)) (D.int .i64)) (pc prog 35 [.list false [],.int .i64 a2])).bind fun r3=>
  (dec (eT2 (eSl (D.int .i64)) (D.int .i64)) (pc prog 36 [.list a1.n (a1.l.map zan),.int .i64 a2])).bind fun r5=>
  (dec (eT2 D.bool (D.int .i64)) (pc prog 37 [zam a0,.list false []])).bind fun r7=>
  (dec (eT2 D.bool (D.int .i64)) (pc prog 38 [zam a0,.list a1.n (a1.l.map zan)])).bind fun r9=>
  (dec D.bool (pc prog 39 [.list r3.1.n (r3.1.l.map (D.int .i64)),.list r5.1.n (r5.1.l.map (D.int .i64))])).bind fun r11=>
  if(bif (bif (bif r11 then(r3.2==r5.2)else false)then(r7.1==r9.1)else false)then(r7.2==r9.2)else false)=true then
   (dec D.bool (pc prog 40 [.list false [],.list a1.n (a1.l.map zan)])).bind fun r15=>
   if r15=true then
    (dec D.bool (pc prog 41 [])).bind fun r19=>
    some r19
   else
    some false
  else
   some false
 else
  if a1.l.length*40≤AI.roomBytes then
   (dec (eT2 (eSl (D.int .i64)) (D.int .i64)) (pc prog 35 [.list false (a1.l.map zan),.int .i64 a2])).bind fun r31=>
   (dec (eT2 (eSl (D.int .i64)) (D.int .i64)) (pc prog 36 [.list a1.n (a1.l.map zan),.int .i64 a2])).bind fun r33=>
   (dec (eT2 D.bool (D.int .i64)) (pc prog 37 [zam a0,.list false (a1.l.map zan)])).bind fun r35=>
   (dec (eT2 D.bool (D.int .i64)) (pc prog 38 [zam a0,.list a1.n (a1.l.map zan)])).bind fun r37=>
   (dec D.bool (pc prog 39 [.list r31.1.n (r31.1.l.map (D.int .i64)),.list r33.1.n (r33.1.l.map (D.int .i64))])).bind fun r39=>
   if(bif (bif (bif r39 then(r31.2==r33.2)else false)then(r35.1==r37.1)else false)then(r35.2==r37.2)else false)=true then
    (dec D.bool (pc prog 40 [.list false (a1.l.map zan),.list a1.n (a1.l.map zan)])).bind fun r43=>
    if r43=true then
     (dec D.bool (pc prog 41 [])).bind fun r47=>
     some r47
    else
     some false
   else
    some false
  else none
theorem zKK (a0:Forest) (a1:Sl (Step)) (a2:Int) (r:Bool) (h:P10 a0 a1 a2=some r):pc prog 10 [zam a0,.list a1.n (a1.l.map zan),.int .i64 a2]=some (D.bool r):=by
 unfold P10 at h
 refine zbk (fn:=c10) rfl rfl ?_
 delta c10
 try simp only[go_sem]
 by_cases hz1:a1.l=[]
 ·rw[if_pos hz1]at h
  refine zmE (by simp only[go_sem,zcu,zcJ,zcv,zbC,zhR,List.map_nil,hz1]) (by rfl) ?_
  try simp only[go_sem]
  obtain⟨r3,hr4,h⟩:=bs h
  replace hr4:=zaq hr4
  refine zat hr4 ?_
  try simp only[go_sem]
  obtain⟨r5,hr6,h⟩:=bs h
  replace hr6:=zaq hr6
  refine zat hr6 ?_
  try simp only[go_sem]
  obtain⟨r7,hr8,h⟩:=bs h
  replace hr8:=zaq hr8
  refine zat hr8 ?_
  try simp only[go_sem]
  obtain⟨r9,hr10,h⟩:=bs h
  replace hr10:=zaq hr10
  refine zat hr10 ?_
  try simp only[go_sem]
  obtain⟨r11,hr12,h⟩:=bs h
  replace hr12:=zaq hr12
  refine zat hr12 ?_
  try simp only[go_sem]
  refine zaa (v:= .d (.int .i64 r3.2)) (fun hb29=>by simp only[go_sem,hb29]) ?_
  try simp only[go_sem]
  refine zaa (v:= .d (.int .i64 r5.2)) (fun hb28=>by simp only[go_sem,hb28]) ?_
  try simp only[go_sem]
  refine zaa (v:= .d (.bool (r3.2==r5.2))) (fun hb27=>by simp only[go_sem,hb27]) ?_
  try simp only[go_sem]
  refine zaa (v:= .d (.bool r7.1)) (fun hb26=>by simp only[go_sem,hb26]) ?_
  try simp only[go_sem]
  refine zaa (v:= .d (.bool r9.1)) (fun hb25=>by simp only[go_sem,hb25]) ?_
  try simp only[go_sem]
  refine zaa (v:= .d (.bool (r7.1==r9.1))) (fun hb24=>by simp only[go_sem,hb24]) ?_
  try simp only[go_sem]
  refine zaa (v:= .d (.int .i64 r7.2)) (fun hb23=>by simp only[go_sem,hb23]) ?_
  try simp only[go_sem]
  refine zaa (v:= .d (.int .i64 r9.2)) (fun hb22=>by simp only[go_sem,hb22]) ?_
  try simp only[go_sem]
  refine zaa (v:= .d (.bool (r7.2==r9.2))) (fun hb21=>by simp only[go_sem,hb21]) ?_
  try simp only[go_sem]
  refine zaA (fun hc13=> ?_) (fun hc14=> ?_)
  ·rw[if_pos hc13]at h
   try simp only[go_sem,hc13]
   obtain⟨r15,hr16,h⟩:=bs h
   replace hr16:=zaq hr16
   refine zat hr16 ?_
   try simp only[go_sem]
   refine zaA (fun hc17=> ?_) (fun hc18=> ?_)
   ·rw[if_pos hc17]at h
    try simp only[go_sem,hc17]
    obtain⟨r19,hr20,h⟩:=bs h
    replace hr20:=zaq hr20
    refine zat hr20 ?_
    try simp only[go_sem]
    cases h
    rfl
   rw[if_neg (ff hc18)]at h
   try simp only[go_sem,hc18]
   cases h
   rfl
  rw[if_neg (ff hc14)]at h
  try simp only[go_sem,hc14]
  cases h
  rfl
 have hz2:=hz1;rw[if_neg hz2]at h
 obtain⟨hm30,h⟩:=zbU h
 refine zeF (l:=[]) (fz:=0) (new:=a1.l.map fun z=>V.d (zan z)) (by simp only[go_sem,List.map_append,List.map_cons,List.map_nil]) (by simp only[go_sem,zcu,zcJ,zcv,zbC,zhR]) (by simpa using hz2) (by rw[←zhR];exact zkf (e:=zan) (fun _=>rfl) (fun _=>rfl) _) (by simp) (by simpa using hm30) ?_
 try rw[←List.map_append]
 try simp only[go_sem,hm30]
 obtain⟨r31,hr32,h⟩:=bs h
 replace hr32:=zaq hr32
 refine zat hr32 ?_
 try simp only[go_sem,hm30]
 obtain⟨r33,hr34,h⟩:=bs h
 replace hr34:=zaq hr34
 refine zat hr34 ?_
 try simp only[go_sem,hm30]
 obtain⟨r35,hr36,h⟩:=bs h
 replace hr36:=zaq hr36
 refine zat hr36 ?_
 try simp only[go_sem,hm30]
 obtain⟨r37,hr38,h⟩:=bs h
 replace hr38:=zaq hr38
 refine zat hr38 ?_
 try simp only[go_sem,hm30]
 obtain⟨r39,hr40,h⟩:=bs h
 replace hr40:=zaq hr40
 refine zat hr40 ?_
 try simp only[go_sem,hm30]
 refine zaa (v:= .d (.int .i64 r31.2)) (fun hb57=>by simp only[go_sem,hm30,hb57]) ?_
 try simp only[go_sem,hm30]
 refine zaa (v:= .d (.int .i64 r33.2)) (fun hb56=>by simp only[go_sem,hm30,hb56]) ?_
 try simp only[go_sem,hm30]
 refine zaa (v:= .d (.bool (r31.2==r33.2))) (fun hb55=>by simp only[go_sem,hm30,hb55]) ?_
 try simp only[go_sem,hm30]
 refine zaa (v:= .d (.bool r35.1)) (fun hb54=>by simp only[go_sem,hm30,hb54]) ?_
 try simp only[go_sem,hm30]
 refine zaa (v:= .d (.bool r37.1)) (fun hb53=>by simp only[go_sem,hm30,hb53]) ?_
 try simp only[go_sem,hm30]
 refine zaa (v:= .d (.bool (r35.1==r37.1))) (fun hb52=>by simp only[go_sem,hm30,hb52]) ?_
 try simp only[go_sem,hm30]
 refine zaa (v:= .d (.int .i64 r35.2)) (fun hb51=>by simp only[go_sem,hm30,hb51]) ?_
 try simp only[go_sem,hm30]
 refine zaa (v:= .d (.int .i64 r37.2)) (fun hb50=>by simp only[go_sem,hm30,hb50]) ?_
 try simp only[go_sem,hm30]
 refine zaa (v:= .d (.bool (r35.2==r37.2))) (fun hb49=>by simp only[go_sem,hm30,hb49]) ?_
 try simp only[go_sem,hm30]
 refine zaA (fun hc41=> ?_) (fun hc42=> ?_)
 ·rw[if_pos hc41]at h
  try simp only[go_sem,hm30,hc41]
  obtain⟨r43,hr44,h⟩:=bs h
  replace hr44:=zaq hr44
  refine zat hr44 ?_
  try simp only[go_sem,hm30]
  refine zaA (fun hc45=> ?_) (fun hc46=> ?_)
  ·rw[if_pos hc45]at h
   try simp only[go_sem,hm30,hc45]
   obtain⟨r47,hr48,h⟩:=bs h
   replace hr48:=zaq hr48
   refine zat hr48 ?_
   try simp only[go_sem,hm30]
   cases h
   rfl
  rw[if_neg (ff hc46)]at h
  try simp only[go_sem,hm30,hc46]
  cases h
  rfl
 rw[if_neg (ff hc42)]at h
 try simp only[go_sem,hm30,hc42]
 cases h
 rfl
def zhl (a0:Sl (Step)) (a1:Int) (r5:Sl (Int)×Int) (x0:Int×Bool×Int):St:=⟨(((((((Regs.none.set 0 (.d (.list a0.n (a0.l.map zan)))).set 1 (.d (.int .i64 a1))).set 5 (.d (.list r5.1.n (r5.1.l.map (D.int .i64))))).set 7 (.d (.bool x0.2.1))).set 8 (.d (.int .i64 x0.2.2))).set 9 (.d (.bool false))).set 10 (.d (.int .i64 x0.1))),(Heap.at 25)⟩
def zoV (a0:Sl (Step)) (a1:Int) (r5:Sl (Int)×Int):((Bool×Int))→Ex×St:=fun r=>(.exit 0,⟨((((((Regs.none.set 0 (.d (.list a0.n (a0.l.map zan)))).set 1 (.d (.int .i64 a1))).set 5 (.d (.list r5.1.n (r5.1.l.map (D.int .i64))))).set 7 (.d (.bool r.1))).set 8 (.d (.int .i64 r.2))).set 9 (.d (.bool false))),(Heap.at 25)⟩)
noncomputable def zbV (a0:Sl (Step)) (a1:Int) (r5:Sl (Int)×Int) (x0:Int×Bool×Int):Option ((Int×Bool×Int)⊕((Bool×Int))):=
 if(decide (x0.1<(a0.l.length:Int)))=true then
  if x0.2.1=true then
   (rd a0.l x0.1).bind fun y37=>
   if(!y37.closed)=true then
    if(decide (x0.2.2<(r5.1.l.length:Int)))=true then
     (rd r5.1.l x0.2.2).bind fun y43=>
     (if(y43==y37.item)=true then
      some (IntKind.wrap .i64 (x0.2.2+1))
     else
      some x0.2.2:Option ((Int))).bind fun r47=>
     some (.inl ((IntKind.wrap .i64 (x0.1+1)),(!y37.slot),r47))
    else
     some (.inl ((IntKind.wrap .i64 (x0.1+1)),(!y37.slot),x0.2.2))
   else
    if(decide (x0.2.2<(r5.1.l.length:Int)))=true then
     (rd r5.1.l x0.2.2).bind fun y53=>
     (if(y53==y37.item)=true then
      some (IntKind.wrap .i64 (x0.2.2+1))
     else
      some x0.2.2:Option ((Int))).bind fun r57=>
     some (.inl ((IntKind.wrap .i64 (x0.1+1)),false,r57))
    else
     some (.inl ((IntKind.wrap .i64 (x0.1+1)),false,x0.2.2))
  else
   if(decide (x0.2.2<(r5.1.l.length:Int)))=true then
    (rd r5.1.l x0.2.2).bind fun y65=>
    (rd a0.l x0.1).bind fun y67=>
    (if(y65==y67.item)=true then
     some (IntKind.wrap .i64 (x0.2.2+1))
    else
     some x0.2.2:Option ((Int))).bind fun r71=>
    some (.inl ((IntKind.wrap .i64 (x0.1+1)),false,r71))
   else
    some (.inl ((IntKind.wrap .i64 (x0.1+1)),false,x0.2.2))
 else
  some (.inr (x0.2.1,x0.2.2))
theorem zAA (a0:Sl (Step)) (a1:Int) (r5:Sl (Int)×Int) (x0:Int×Bool×Int) (o:(Int×Bool×Int)⊕((Bool×Int))) (h:zbV a0 a1 r5 x0=some o):Wp prog zzR (zhl a0 a1 r5 x0) (zbK (0,[]) (zhl a0 a1 r5) (zoV a0 a1 r5) o):=by
 unfold zbV at h
 delta zzR zhl
 try simp only[go_sem]
 refine zag (fun hc33=> ?_) (fun hc34=> ?_)
 ·rw[if_pos hc33]at h
  try simp only[go_sem]
  refine zaa (v:= .d (.list a0.n (a0.l.map zan))) (fun hb76=>by simp only[go_sem,hc33,hb76]) ?_
  try simp only[go_sem]
  refine zaa (v:= .d (.int .i64 x0.1)) (fun hb75=>by simp only[go_sem,hc33,hb75]) ?_
  try simp only[go_sem]
  refine zaA (fun hc35=> ?_) (fun hc36=> ?_)
  ·rw[if_pos hc35]at h
   try simp only[go_sem,hc35]
   obtain⟨y37,hy38,h⟩:=bs h
   try simp only[go_sem,zab hy38,zad hy38,zac zan hy38]
   refine zaa (v:= .d (.list a0.n (a0.l.map zan))) (fun hb62=>by simp only[go_sem,zab hy38,zad hy38,zac zan hy38,hc33,hc35,hb62]) ?_
   try simp only[go_sem,zab hy38,zad hy38,zac zan hy38]
   refine zaa (v:= .d (.int .i64 x0.1)) (fun hb61=>by simp only[go_sem,zab hy38,zad hy38,zac zan hy38,hc33,hc35,hb61]) ?_
   try simp only[go_sem,zab hy38,zad hy38,zac zan hy38]
   refine zaw (fun hc39=> ?_) (fun hc40=> ?_)
   ·rw[if_pos (show(!y37.closed)=true by(rw[hc39];rfl))]at h
    try simp only[go_sem,zab hy38,zad hy38,zac zan hy38,hc39]
    refine zaa (v:= .d (.list r5.1.n (r5.1.l.map (D.int .i64)))) (fun hb50=>by simp only[go_sem,zab hy38,zad hy38,zac zan hy38,hc33,hc35,hc39,hb50]) ?_
    try simp only[go_sem,zab hy38,zad hy38,zac zan hy38]
    refine zaa (v:= .d (.int .i64 x0.2.2)) (fun hb49=>by simp only[go_sem,zab hy38,zad hy38,zac zan hy38,hc33,hc35,hc39,hb49]) ?_
    try simp only[go_sem,zab hy38,zad hy38,zac zan hy38]
    refine zaA (fun hc41=> ?_) (fun hc42=> ?_)
    ·rw[if_pos hc41]at h
     try simp only[go_sem,zab hy38,zad hy38,zac zan hy38,hc41]
     obtain⟨y43,hy44,h⟩:=bs h
     try simp only[go_sem,zab hy38,zad hy38,zac zan hy38,zab hy44,zad hy44,zac (D.int .i64) hy44]
     obtain⟨r47,hl48,h⟩:=bs h
     refine WBr.cut (n:=(0,[])) .normal ⟨(((((((Regs.none.set 0 (.d (.list a0.n (a0.l.map zan)))).set 1 (.d (.int .i64 a1))).set 5 (.d (.list r5.1.n (r5.1.l.map (D.int .i64))))).set 7 (.d (.bool (!y37.slot)))).set 8 (.d (.int .i64 r47))).set 9 (.d (.bool false))).set 10 (.d (.int .i64 x0.1))),(Heap.at 63)⟩ ?_ (by(repeat(first|refine Clo.block ?_|refine Clo.seq zba rfl ?_));(exact Clo.lpost (by decide))) ?_
     ·replace h:=hl48
      refine zag (fun hc45=> ?_) (fun hc46=> ?_)
      ·rw[if_pos hc45]at h
       try simp only[go_sem,zab hy38,zad hy38,zac zan hy38,zab hy44,zad hy44,zac (D.int .i64) hy44]
       cases h
       exact⟨rfl,Up.of (N:=63) (N':=66) [] rfl rfl (by decide) (.set (.d _) (.set (.d _) (.set (.d _) (.set (.d _) (.set (.d _) (.set (.d _) (.set (.d _) zai.none))))))) zal.at⟩
      rw[if_neg (ff hc46)]at h
      try simp only[go_sem,zab hy38,zad hy38,zac zan hy38,zab hy44,zad hy44,zac (D.int .i64) hy44]
      cases h
      exact⟨rfl,Up.of (N:=63) (N':=63) [] rfl rfl (by decide) (.set (.d _) (.set (.d _) (.set (.d _) (.set (.d _) (.set (.d _) (.set (.d _) (.set (.d _) zai.none))))))) zal.at⟩
     try simp only[go_sem,zab hy38,zad hy38,zac zan hy38,zab hy44,zad hy44,zac (D.int .i64) hy44]
     cases h
     exact⟨rfl,Up.of (N:=25) (N':=66) [] rfl rfl (by decide) (.set (.d _) (.set (.d _) (.set (.d _) (.set (.d _) (.set (.d _) (.set (.d _) (.set (.d _) zai.none))))))) zal.at⟩
    rw[if_neg (ff hc42)]at h
    try simp only[go_sem,zab hy38,zad hy38,zac zan hy38,hc42]
    cases h
    exact⟨rfl,Up.of (N:=25) (N':=66) [] rfl rfl (by decide) (.set (.d _) (.set (.d _) (.set (.d _) (.set (.d _) (.set (.d _) (.set (.d _) (.set (.d _) zai.none))))))) zal.at⟩
   rw[if_neg (ffn hc40)]at h
   try simp only[go_sem,zab hy38,zad hy38,zac zan hy38,hc40]
   refine zaa (v:= .d (.list r5.1.n (r5.1.l.map (D.int .i64)))) (fun hb60=>by simp only[go_sem,zab hy38,zad hy38,zac zan hy38,hc33,hc35,hc40,hb60]) ?_
   try simp only[go_sem,zab hy38,zad hy38,zac zan hy38]
   refine zaa (v:= .d (.int .i64 x0.2.2)) (fun hb59=>by simp only[go_sem,zab hy38,zad hy38,zac zan hy38,hc33,hc35,hc40,hb59]) ?_
   try simp only[go_sem,zab hy38,zad hy38,zac zan hy38]
   refine zaA (fun hc51=> ?_) (fun hc52=> ?_)
   ·rw[if_pos hc51]at h
    try simp only[go_sem,zab hy38,zad hy38,zac zan hy38,hc51]
    obtain⟨y53,hy54,h⟩:=bs h
    try simp only[go_sem,zab hy38,zad hy38,zac zan hy38,zab hy54,zad hy54,zac (D.int .i64) hy54]
    obtain⟨r57,hl58,h⟩:=bs h
    refine WBr.cut (n:=(0,[])) .normal ⟨(((((((Regs.none.set 0 (.d (.list a0.n (a0.l.map zan)))).set 1 (.d (.int .i64 a1))).set 5 (.d (.list r5.1.n (r5.1.l.map (D.int .i64))))).set 7 (.d (.bool false))).set 8 (.d (.int .i64 r57))).set 9 (.d (.bool false))).set 10 (.d (.int .i64 x0.1))),(Heap.at 63)⟩ ?_ (by(repeat(first|refine Clo.block ?_|refine Clo.seq zba rfl ?_));(exact Clo.lpost (by decide))) ?_
    ·replace h:=hl58
     refine zag (fun hc55=> ?_) (fun hc56=> ?_)
     ·rw[if_pos hc55]at h
      try simp only[go_sem,zab hy38,zad hy38,zac zan hy38,zab hy54,zad hy54,zac (D.int .i64) hy54]
      cases h
      exact⟨rfl,Up.of (N:=63) (N':=66) [] rfl rfl (by decide) (.set (.d _) (.set (.d _) (.set (.d _) (.set (.d _) (.set (.d _) (.set (.d _) (.set (.d _) zai.none))))))) zal.at⟩
     rw[if_neg (ff hc56)]at h
     try simp only[go_sem,zab hy38,zad hy38,zac zan hy38,zab hy54,zad hy54,zac (D.int .i64) hy54]
     cases h
     exact⟨rfl,Up.of (N:=63) (N':=63) [] rfl rfl (by decide) (.set (.d _) (.set (.d _) (.set (.d _) (.set (.d _) (.set (.d _) (.set (.d _) (.set (.d _) zai.none))))))) zal.at⟩
    try simp only[go_sem,zab hy38,zad hy38,zac zan hy38,zab hy54,zad hy54,zac (D.int .i64) hy54]
    cases h
    exact⟨rfl,Up.of (N:=25) (N':=66) [] rfl rfl (by decide) (.set (.d _) (.set (.d _) (.set (.d _) (.set (.d _) (.set (.d _) (.set (.d _) (.set (.d _) zai.none))))))) zal.at⟩
   rw[if_neg (ff hc52)]at h
   try simp only[go_sem,zab hy38,zad hy38,zac zan hy38,hc52]
   cases h
   exact⟨rfl,Up.of (N:=25) (N':=66) [] rfl rfl (by decide) (.set (.d _) (.set (.d _) (.set (.d _) (.set (.d _) (.set (.d _) (.set (.d _) (.set (.d _) zai.none))))))) zal.at⟩
  rw[if_neg (ff hc36)]at h
  try simp only[go_sem,hc36]
  refine zaa (v:= .d (.list r5.1.n (r5.1.l.map (D.int .i64)))) (fun hb74=>by simp only[go_sem,hc33,hc36,hb74]) ?_
  try simp only[go_sem]
  refine zaa (v:= .d (.int .i64 x0.2.2)) (fun hb73=>by simp only[go_sem,hc33,hc36,hb73]) ?_
  try simp only[go_sem]
  refine zaA (fun hc63=> ?_) (fun hc64=> ?_)
  ·rw[if_pos hc63]at h
   try simp only[go_sem,hc63]
   obtain⟨y65,hy66,h⟩:=bs h
   try simp only[go_sem,zab hy66,zad hy66,zac (D.int .i64) hy66]
   obtain⟨y67,hy68,h⟩:=bs h
   try simp only[go_sem,zab hy66,zad hy66,zac (D.int .i64) hy66,zab hy68,zad hy68,zac zan hy68]
   obtain⟨r71,hl72,h⟩:=bs h
   refine WBr.cut (n:=(0,[])) .normal ⟨(((((((Regs.none.set 0 (.d (.list a0.n (a0.l.map zan)))).set 1 (.d (.int .i64 a1))).set 5 (.d (.list r5.1.n (r5.1.l.map (D.int .i64))))).set 7 (.d (.bool false))).set 8 (.d (.int .i64 r71))).set 9 (.d (.bool false))).set 10 (.d (.int .i64 x0.1))),(Heap.at 63)⟩ ?_ (by(repeat(first|refine Clo.block ?_|refine Clo.seq zba rfl ?_));(exact Clo.lpost (by decide))) ?_
   ·replace h:=hl72
    refine zag (fun hc69=> ?_) (fun hc70=> ?_)
    ·rw[if_pos hc69]at h
     try simp only[go_sem,zab hy66,zad hy66,zac (D.int .i64) hy66,zab hy68,zad hy68,zac zan hy68]
     cases h
     exact⟨rfl,Up.of (N:=63) (N':=66) [] rfl rfl (by decide) (.set (.d _) (.set (.d _) (.set (.d _) (.set (.d _) (.set (.d _) (.set (.d _) (.set (.d _) zai.none))))))) zal.at⟩
    rw[if_neg (ff hc70)]at h
    try simp only[go_sem,zab hy66,zad hy66,zac (D.int .i64) hy66,zab hy68,zad hy68,zac zan hy68]
    cases h
    exact⟨rfl,Up.of (N:=63) (N':=63) [] rfl rfl (by decide) (.set (.d _) (.set (.d _) (.set (.d _) (.set (.d _) (.set (.d _) (.set (.d _) (.set (.d _) zai.none))))))) zal.at⟩
   try simp only[go_sem,zab hy66,zad hy66,zac (D.int .i64) hy66,zab hy68,zad hy68,zac zan hy68]
   cases h
   exact⟨rfl,Up.of (N:=25) (N':=66) [] rfl rfl (by decide) (.set (.d _) (.set (.d _) (.set (.d _) (.set (.d _) (.set (.d _) (.set (.d _) (.set (.d _) zai.none))))))) zal.at⟩
  rw[if_neg (ff hc64)]at h
  try simp only[go_sem,hc64]
  cases h
  exact⟨rfl,Up.of (N:=25) (N':=66) [] rfl rfl (by decide) (.set (.d _) (.set (.d _) (.set (.d _) (.set (.d _) (.set (.d _) (.set (.d _) (.set (.d _) zai.none))))))) zal.at⟩
 rw[if_neg (ff hc34)]at h
 try simp only[go_sem]
 cases h
 exact⟨rfl,by simp,Up.of (N:=25) (N':=29) [] rfl rfl (by decide) (.set (.d _) (.set (.d _) (.set (.d _) (.set (.d _) (.set (.d _) (.set (.d _) zai.none)))))) zal.at⟩
def zhm (a0:Sl (Step)) (a1:Int) (r5:Sl (Int)×Int) (r77:Bool×Int) (x1:Int×Bool):St:=⟨(((((((Regs.none.set 0 (.d (.list a0.n (a0.l.map zan)))).set 1 (.d (.int .i64 a1))).set 5 (.d (.list r5.1.n (r5.1.l.map (D.int .i64))))).set 7 (.d (.bool r77.1))).set 8 (.d (.int .i64 r77.2))).set 9 (.d (.bool x1.2))).set 11 (.d (.int .i64 x1.1))),(Heap.at 26)⟩
def zoW (a0:Sl (Step)) (a1:Int) (r5:Sl (Int)×Int) (r77:Bool×Int):((Bool))→Ex×St:=fun r=>(.exit 2,⟨(((((Regs.none.set 0 (.d (.list a0.n (a0.l.map zan)))).set 5 (.d (.list r5.1.n (r5.1.l.map (D.int .i64))))).set 7 (.d (.bool r77.1))).set 8 (.d (.int .i64 r77.2))).set 9 (.d (.bool r))),(Heap.at 26)⟩)
noncomputable def zdd (a0:Sl (Step)) (a1:Int) (r5:Sl (Int)×Int) (r77:Bool×Int) (x1:Int×Bool):Option ((Int×Bool)⊕((Bool))):=
 if(decide (x1.1<(r5.1.l.length:Int)))=true then
  if(!x1.2)=true then
   (rd r5.1.l x1.1).bind fun y83=>
   (rd a0.l a1).bind fun y85=>
   some (.inl ((IntKind.wrap .i64 (x1.1+1)),(y83==y85.item)))
  else
   some (.inl ((IntKind.wrap .i64 (x1.1+1)),true))
 else
  some (.inr x1.2)
theorem zAB (a0:Sl (Step)) (a1:Int) (r5:Sl (Int)×Int) (r77:Bool×Int) (x1:Int×Bool) (o:(Int×Bool)⊕((Bool))) (h:zdd a0 a1 r5 r77 x1=some o):Wp prog zzS (zhm a0 a1 r5 r77 x1) (zbK (0,[]) (zhm a0 a1 r5 r77) (zoW a0 a1 r5 r77) o):=by
 unfold zdd at h
 delta zzS zhm
 try simp only[go_sem]
 refine zag (fun hc79=> ?_) (fun hc80=> ?_)
 ·rw[if_pos hc79]at h
  try simp only[go_sem]
  refine zaa (v:= .d (.list r5.1.n (r5.1.l.map (D.int .i64)))) (fun hb88=>by simp only[go_sem,hc79,hb88]) ?_
  try simp only[go_sem]
  refine zaa (v:= .d (.int .i64 x1.1)) (fun hb87=>by simp only[go_sem,hc79,hb87]) ?_
  try simp only[go_sem]
  refine zaw (fun hc81=> ?_) (fun hc82=> ?_)
  ·rw[if_pos (show(!x1.2)=true by(rw[hc81];rfl))]at h
   try simp only[go_sem,hc81]
   obtain⟨y83,hy84,h⟩:=bs h
   try simp only[go_sem,zab hy84,zad hy84,zac (D.int .i64) hy84]
   obtain⟨y85,hy86,h⟩:=bs h
   try simp only[go_sem,zab hy84,zad hy84,zac (D.int .i64) hy84,zab hy86,zad hy86,zac zan hy86]
   cases h
   exact⟨rfl,Up.of (N:=26) (N':=47) [] rfl rfl (by decide) (.set (.d _) (.set (.d _) (.set (.d _) (.set (.d _) (.set (.d _) (.set (.d _) (.set (.d _) zai.none))))))) zal.at⟩
  rw[if_neg (ffn hc82)]at h
  try simp only[go_sem,hc82]
  cases h
  exact⟨rfl,Up.of (N:=26) (N':=47) [] rfl rfl (by decide) (.set (.d _) (.set (.d _) (.set (.d _) (.set (.d _) (.set (.d _) (.set (.d _) (.set (.d _) zai.none))))))) zal.at⟩
 rw[if_neg (ff hc80)]at h
 try simp only[go_sem]
 cases h
 exact⟨rfl,by simp,Up.of (N:=26) (N':=30) [] rfl rfl (by decide) (.set (.d _) (.set (.d _) (.set (.d _) (.set (.d _) (.set (.d _) zai.none))))) zal.at⟩
noncomputable def P12 (a0:Sl (Step)) (a1:Int):Option (Bool):=
 (dec D.bool (pc prog 41 [])).bind fun r1=>
 if(!r1)=true then
  some false
 else
  (dec (eT2 (eSl (D.int .i64)) (D.int .i64)) (pc prog 35 [.list a0.n (a0.l.map zan),.int .i64 a1])).bind fun r5=>
  if(!(r5.2==0))=true then
   (if((r5.1.l.length:Int)==0)=true then
    some (bif (bif (decide (a1<0))then true else(decide ((a0.l.length:Int)≤a1)))then true else(decide (4096<(a0.l.length:Int))))
   else
    some false:Option ((Bool))).bind fun r14=>
   some r14
  else
   if(bif (decide (a1<0))then true else(decide ((a0.l.length:Int)≤a1)))=true then
    some false
   else
    (zaR (zbV a0 a1 r5) (0,true,0)).bind fun r77=>
    (zaR (zdd a0 a1 r5 r77) (0,false)).bind fun r89=>
    if(bif r89 then(r77.2==(r5.1.l.length:Int))else false)=true then
     some (bif (!r77.1)then true else((r5.1.l.length:Int)==(a0.l.length:Int)))
    else
     some false
theorem zKL (a0:Sl (Step)) (a1:Int) (r:Bool) (h:P12 a0 a1=some r):pc prog 12 [.list a0.n (a0.l.map zan),.int .i64 a1]=some (D.bool r):=by
 unfold P12 at h
 refine zbk (fn:=c12) rfl rfl ?_
 delta c12
 try simp only[go_sem]
 obtain⟨r1,hr2,h⟩:=bs h
 replace hr2:=zaq hr2
 refine zat hr2 ?_
 try simp only[go_sem]
 refine zaO (fun hc3=> ?_) (fun hc4=> ?_)
 ·rw[if_pos (show(!r1)=true by(rw[hc3];rfl))]at h
  try simp only[go_sem]
  cases h
  rfl
 rw[if_neg (ffn hc4)]at h
 try simp only[go_sem]
 obtain⟨r5,hr6,h⟩:=bs h
 replace hr6:=zaq hr6
 refine zat hr6 ?_
 try simp only[go_sem]
 refine zaO (fun hc7=> ?_) (fun hc8=> ?_)
 ·rw[if_pos (show(!(r5.2==0))=true by(rw[hc7];rfl))]at h
  try simp only[go_sem]
  refine zaa (v:= .d (.int .i64 a1)) (fun hb30=>by simp only[go_sem,hc4,hc7,hb30]) ?_
  try simp only[go_sem]
  refine zaa (v:= .d (.bool (decide (a1<0)))) (fun hb29=>by simp only[go_sem,hc4,hc7,hb29]) ?_
  try simp only[go_sem]
  refine zaa (v:= .d (.bool (decide (a1<0)))) (fun hb28=>by simp only[go_sem,hc4,hc7,hb28]) ?_
  try simp only[go_sem]
  refine zaa (v:= .d (.int .i64 a1)) (fun hb25=>by((obtain⟨hb26,hb27⟩:=zay hb25));simp only[go_sem,hc4,hc7,hb27,hb26]) ?_
  try simp only[go_sem]
  refine zaa (v:= .d (.list a0.n (a0.l.map zan))) (fun hb22=>by((obtain⟨hb23,hb24⟩:=zay hb22));simp only[go_sem,hc4,hc7,hb24,hb23]) ?_
  try simp only[go_sem]
  refine zaa (v:= .d (.int .i64 (a0.l.length:Int))) (fun hb19=>by((obtain⟨hb20,hb21⟩:=zay hb19));simp only[go_sem,hc4,hc7,hb21,hb20]) ?_
  try simp only[go_sem]
  refine zaa (v:= .d (.bool (decide ((a0.l.length:Int)≤a1)))) (fun hb16=>by((obtain⟨hb17,hb18⟩:=zay hb16));simp only[go_sem,hc4,hc7,hb18,hb17]) ?_
  try simp only[go_sem]
  obtain⟨r14,hl15,h⟩:=bs h
  refine zbW.cut (n:=(0,[])) .normal ⟨(Regs.none.set 4 (.d (.bool r14))),(Heap.at 32)⟩ ?_ (by(repeat(refine Clo.seq zba rfl ?_));(exact Clo.ret)) ?_
  ·replace h:=hl15
   refine zaA (fun hc9=> ?_) (fun hc10=> ?_)
   ·rw[if_pos hc9]at h
    try simp only[go_sem,hc9]
    refine zaa (v:= .d (.list a0.n (a0.l.map zan))) (fun hb13=>by simp only[go_sem,hc4,hc7,hc9,hb13]) ?_
    try simp only[go_sem]
    refine zaa (v:= .d (.int .i64 (a0.l.length:Int))) (fun hb12=>by simp only[go_sem,hc4,hc7,hc9,hb12]) ?_
    try simp only[go_sem]
    refine zaa (v:= .d (.bool (decide (4096<(a0.l.length:Int))))) (fun hb11=>by simp only[go_sem,hc4,hc7,hc9,hb11]) ?_
    try simp only[go_sem]
    cases h
    exact⟨rfl,Up.of (N:=32) (N':=32) [] rfl rfl (by decide) (.set (.d _) zai.none) zal.at⟩
   rw[if_neg (ff hc10)]at h
   try simp only[go_sem,hc10]
   cases h
   exact⟨rfl,Up.of (N:=32) (N':=32) [] rfl rfl (by decide) (.set (.d _) zai.none) zal.at⟩
  try simp only[go_sem]
  cases h
  rfl
 rw[if_neg (ffn hc8)]at h
 try simp only[go_sem]
 refine zaa (v:= .d (.int .i64 a1)) (fun hb118=>by simp only[go_sem,hc4,hc8,hb118]) ?_
 try simp only[go_sem]
 refine zaa (v:= .d (.list a0.n (a0.l.map zan))) (fun hb117=>by simp only[go_sem,hc4,hc8,hb117]) ?_
 try simp only[go_sem]
 refine zaa (v:= .d (.int .i64 (a0.l.length:Int))) (fun hb116=>by simp only[go_sem,hc4,hc8,hb116]) ?_
 try simp only[go_sem]
 refine zaa (v:= .d (.bool (decide ((a0.l.length:Int)≤a1)))) (fun hb115=>by simp only[go_sem,hc4,hc8,hb115]) ?_
 try simp only[go_sem]
 refine zag (fun hc31=> ?_) (fun hc32=> ?_)
 ·rw[if_pos hc31]at h
  try simp only[go_sem]
  cases h
  rfl
 rw[if_neg (ff hc32)]at h
 try simp only[go_sem]
 obtain⟨r77,hl78,h⟩:=bs h
 refine Wp.loopR zba (n:=(0,[])) (a:=zzR) rfl (zhl a0 a1 r5) (zoV a0 a1 r5) (zAA a0 a1 r5) hl78 ?_ (by(repeat(first|refine Clo.block ?_|refine Clo.seq zba rfl ?_));(exact Clo.ret)) ?_
 ·show Up (0,[]) (zhl a0 a1 r5 (0,true,0)) _
  delta zhl
  exact Up.of (N:=25) (N':=25) [] rfl rfl (by decide) (.set (.d _) (.set (.d _) (.set (.d _) (.set (.d _) (.set (.d _) (.set (.d _) (.set (.d _) zai.none))))))) zal.at
 dsimp only[zoV]
 try simp only[go_sem]
 obtain⟨r89,hl90,h⟩:=bs h
 refine Wp.loopR zba (n:=(0,[])) (a:=zzS) rfl (zhm a0 a1 r5 r77) (zoW a0 a1 r5 r77) (zAB a0 a1 r5 r77) hl90 ?_ (by(repeat(first|refine Clo.block ?_|refine Clo.seq zba rfl ?_));(exact Clo.ret)) ?_
 ·show Up (0,[]) (zhm a0 a1 r5 r77 (0,false)) _
  delta zhm
  exact Up.of (N:=26) (N':=26) [] rfl rfl (by decide) (.set (.d _) (.set (.d _) (.set (.d _) (.set (.d _) (.set (.d _) (.set (.d _) (.set (.d _) zai.none))))))) zal.at
 dsimp only[zoW]
 try simp only[go_sem]
 refine zaa (v:= .d (.int .i64 r77.2)) (fun hb114=>by simp only[go_sem,hc4,hc8,hc32,hb114]) ?_
 try simp only[go_sem]
 refine zaa (v:= .d (.list r5.1.n (r5.1.l.map (D.int .i64)))) (fun hb113=>by simp only[go_sem,hc4,hc8,hc32,hb113]) ?_
 try simp only[go_sem]
 refine zaa (v:= .d (.int .i64 (r5.1.l.length:Int))) (fun hb112=>by simp only[go_sem,hc4,hc8,hc32,hb112]) ?_
 try simp only[go_sem]
 refine zaa (v:= .d (.bool (r77.2==(r5.1.l.length:Int)))) (fun hb111=>by simp only[go_sem,hc4,hc8,hc32,hb111]) ?_
 try simp only[go_sem]
 refine zaa (v:= .d (.bool r77.1)) (fun hb110=>by simp only[go_sem,hc4,hc8,hc32,hb110]) ?_
 try simp only[go_sem]
 refine zaa (v:= .d (.bool (!r77.1))) (fun hb109=>by simp only[go_sem,hc4,hc8,hc32,hb109]) ?_
 try simp only[go_sem]
 refine zaa (v:= .d (.bool (!r77.1))) (fun hb108=>by simp only[go_sem,hc4,hc8,hc32,hb108]) ?_
 try simp only[go_sem]
 refine zaa (v:= .d (.list r5.1.n (r5.1.l.map (D.int .i64)))) (fun hb105=>by((obtain⟨hb106,hb107⟩:=zay hb105));simp only[go_sem,hc4,hc8,hc32,hb107,hb106]) ?_
 try simp only[go_sem]
 refine zaa (v:= .d (.int .i64 (r5.1.l.length:Int))) (fun hb102=>by((obtain⟨hb103,hb104⟩:=zay hb102));simp only[go_sem,hc4,hc8,hc32,hb104,hb103]) ?_
 try simp only[go_sem]
 refine zaa (v:= .d (.list a0.n (a0.l.map zan))) (fun hb99=>by((obtain⟨hb100,hb101⟩:=zay hb99));simp only[go_sem,hc4,hc8,hc32,hb101,hb100]) ?_
 try simp only[go_sem]
 refine zaa (v:= .d (.int .i64 (a0.l.length:Int))) (fun hb96=>by((obtain⟨hb97,hb98⟩:=zay hb96));simp only[go_sem,hc4,hc8,hc32,hb98,hb97]) ?_
 try simp only[go_sem]
 refine zaa (v:= .d (.bool ((r5.1.l.length:Int)==(a0.l.length:Int)))) (fun hb93=>by((obtain⟨hb94,hb95⟩:=zay hb93));simp only[go_sem,hc4,hc8,hc32,hb95,hb94]) ?_
 try simp only[go_sem]
 refine zaA (fun hc91=> ?_) (fun hc92=> ?_)
 ·rw[if_pos hc91]at h
  try simp only[go_sem,hc91]
  cases h
  rfl
 rw[if_neg (ff hc92)]at h
 try simp only[go_sem,hc92]
 cases h
 rfl
def zhn (a0:Sl (Step)) (a1:Int) (x0:Int×Int):St:=⟨((((Regs.none.set 0 (.d (.list a0.n (a0.l.map zan)))).set 1 (.d (.int .i64 a1))).set 6 (.d (.int .i64 x0.1))).set 7 (.d (.int .i64 x0.2))),(Heap.at 20)⟩
def zoX (a0:Sl (Step)) (a1:Int):((Int))→Ex×St:=fun r=>(.exit 1,⟨(((Regs.none.set 0 (.d (.list a0.n (a0.l.map zan)))).set 1 (.d (.int .i64 a1))).set 6 (.d (.int .i64 r))),(Heap.at 20)⟩)
noncomputable def zbJ (a0:Sl (Step)) (a1:Int) (x0:Int×Int):Option ((Int×Int)⊕((Int))):=
 if(decide (a1≤x0.2))=true then
  (rd a0.l x0.2).bind fun y7=>
  (if y7.closed=true then
   some (IntKind.wrap .i64 (x0.1+1))
  else
   some x0.1:Option ((Int))).bind fun r11=>
  if(decide (a1<x0.2))=true then
   (if y7.slot=true then
    some (IntKind.wrap .i64 (r11-1))
   else
    some r11:Option ((Int))).bind fun r17=>
   some (.inl (r17,(IntKind.wrap .i64 (x0.2-1))))
  else
   some (.inl (r11,(IntKind.wrap .i64 (x0.2-1))))
 else
  some (.inr x0.1)
theorem zAC (a0:Sl (Step)) (a1:Int) (x0:Int×Int) (o:(Int×Int)⊕((Int))) (h:zbJ a0 a1 x0=some o):Wp prog zzT (zhn a0 a1 x0) (zbK (0,[]) (zhn a0 a1) (zoX a0 a1) o):=by
 unfold zbJ at h
 delta zzT zhn
 try simp only[go_sem]
 refine zag (fun hc5=> ?_) (fun hc6=> ?_)
 ·rw[if_pos hc5]at h
  try simp only[go_sem]
  obtain⟨y7,hy8,h⟩:=bs h
  try simp only[go_sem,zab hy8,zad hy8,zac zan hy8]
  obtain⟨r11,hl12,h⟩:=bs h
  refine WBr.cut (n:=(0,[])) .normal ⟨((((Regs.none.set 0 (.d (.list a0.n (a0.l.map zan)))).set 1 (.d (.int .i64 a1))).set 6 (.d (.int .i64 r11))).set 7 (.d (.int .i64 x0.2))),(Heap.at 28)⟩ ?_ (by(repeat(first|refine Clo.block ?_|refine Clo.seq zba rfl ?_));(exact Clo.lpost (by decide))) ?_
  ·replace h:=hl12
   refine zag (fun hc9=> ?_) (fun hc10=> ?_)
   ·rw[if_pos hc9]at h
    try simp only[go_sem,zab hy8,zad hy8,zac zan hy8]
    cases h
    exact⟨rfl,Up.of (N:=28) (N':=31) [] rfl rfl (by decide) (.set (.d _) (.set (.d _) (.set (.d _) (.set (.d _) zai.none)))) zal.at⟩
   rw[if_neg (ff hc10)]at h
   try simp only[go_sem,zab hy8,zad hy8,zac zan hy8]
   cases h
   exact⟨rfl,Up.of (N:=28) (N':=28) [] rfl rfl (by decide) (.set (.d _) (.set (.d _) (.set (.d _) (.set (.d _) zai.none)))) zal.at⟩
  try simp only[go_sem,zab hy8,zad hy8,zac zan hy8]
  refine zaa (v:= .d (.list a0.n (a0.l.map zan))) (fun hb20=>by simp only[go_sem,zab hy8,zad hy8,zac zan hy8,hc5,hb20]) ?_
  try simp only[go_sem,zab hy8,zad hy8,zac zan hy8]
  refine zaa (v:= .d (.int .i64 x0.2)) (fun hb19=>by simp only[go_sem,zab hy8,zad hy8,zac zan hy8,hc5,hb19]) ?_
  try simp only[go_sem,zab hy8,zad hy8,zac zan hy8]
  refine zaA (fun hc13=> ?_) (fun hc14=> ?_)
  ·rw[if_pos hc13]at h
   try simp only[go_sem,zab hy8,zad hy8,zac zan hy8,hc13]
   obtain⟨r17,hl18,h⟩:=bs h
   refine WBr.cut (n:=(0,[])) .normal ⟨((((Regs.none.set 0 (.d (.list a0.n (a0.l.map zan)))).set 1 (.d (.int .i64 a1))).set 6 (.d (.int .i64 r17))).set 7 (.d (.int .i64 x0.2))),(Heap.at 38)⟩ ?_ (by(repeat(first|refine Clo.block ?_|refine Clo.seq zba rfl ?_));(exact Clo.lpost (by decide))) ?_
   ·replace h:=hl18
    refine zag (fun hc15=> ?_) (fun hc16=> ?_)
    ·rw[if_pos hc15]at h
     try simp only[go_sem,zab hy8,zad hy8,zac zan hy8]
     cases h
     exact⟨rfl,Up.of (N:=38) (N':=41) [] rfl rfl (by decide) (.set (.d _) (.set (.d _) (.set (.d _) (.set (.d _) zai.none)))) zal.at⟩
    rw[if_neg (ff hc16)]at h
    try simp only[go_sem,zab hy8,zad hy8,zac zan hy8]
    cases h
    exact⟨rfl,Up.of (N:=38) (N':=38) [] rfl rfl (by decide) (.set (.d _) (.set (.d _) (.set (.d _) (.set (.d _) zai.none)))) zal.at⟩
   try simp only[go_sem,zab hy8,zad hy8,zac zan hy8]
   cases h
   exact⟨rfl,Up.of (N:=20) (N':=41) [] rfl rfl (by decide) (.set (.d _) (.set (.d _) (.set (.d _) (.set (.d _) zai.none)))) zal.at⟩
  rw[if_neg (ff hc14)]at h
  try simp only[go_sem,zab hy8,zad hy8,zac zan hy8,hc14]
  cases h
  exact⟨rfl,Up.of (N:=20) (N':=41) [] rfl rfl (by decide) (.set (.d _) (.set (.d _) (.set (.d _) (.set (.d _) zai.none)))) zal.at⟩
 rw[if_neg (ff hc6)]at h
 try simp only[go_sem]
 cases h
 exact⟨rfl,by simp,Up.of (N:=20) (N':=23) [] rfl rfl (by decide) (.set (.d _) (.set (.d _) (.set (.d _) zai.none))) zal.at⟩
def zho (a0:Sl (Step)) (a1:Int) (r21:Int) (x1:Int×Int×Int×List (Int)):St:=⟨((((((Regs.none.set 0 (.d (.list a0.n (a0.l.map zan)))).set 1 (.d (.int .i64 a1))).set 6 (.d (.int .i64 r21))).set 8 (mb 28 (x1.2.2.2.map fun z=>V.d ((D.int .i64) z)))).set 9 (.ptr 24 0 0)).set 10 (.d (.int .i64 x1.2.2.1))),(((Heap.at 29).set 24 (some (.els 2 [.d (.agg [.int .i64 x1.1,.int .i64 x1.2.1])] 0))).set 28 (mbB 1 (0) (x1.2.2.2.map fun z=>V.d ((D.int .i64) z))))⟩
def zoY (a0:Sl (Step)) (a1:Int) (r21:Int):((List (Int)×path_level))→Ex×St:=fun r=>(.exit 3,⟨(((((Regs.none.set 0 (.d (.list a0.n (a0.l.map zan)))).set 1 (.d (.int .i64 a1))).set 6 (.d (.int .i64 r21))).set 8 (mb 28 (r.1.map fun z=>V.d ((D.int .i64) z)))).set 9 (.ptr 24 0 0)),(((Heap.at 29).set 24 (some (.els 2 [.d (zaJ r.2)] 0))).set 28 (mbB 1 (0) (r.1.map fun z=>V.d ((D.int .i64) z))))⟩)
noncomputable def zcF (a0:Sl (Step)) (a1:Int) (r21:Int) (x1:Int×Int×Int×List (Int)):Option ((Int×Int×Int×List (Int))⊕((List (Int)×path_level))):=
 if(decide (0≤x1.2.2.1))=true then
  (rd a0.l x1.2.2.1).bind fun y25=>
  (if y25.closed=true then
   some (⟨(IntKind.wrap .i64 (x1.1+1)),x1.2.1⟩:path_level)
  else
   some (⟨x1.1,x1.2.1⟩:path_level):Option ((path_level))).bind fun r29=>
  (if y25.slot=true then
   some (⟨(IntKind.wrap .i64 (r29.current-1)),(min r29.least (IntKind.wrap .i64 (r29.current-1)))⟩:path_level)
  else
   some r29:Option ((path_level))).bind fun r33=>
  (if(decide (r29.current≤r29.least))=true then
   if(x1.2.2.2.length+1)*8≤AI.roomBytes then
    some (x1.2.2.2++[y25.item])
   else none
  else
   some x1.2.2.2:Option ((List (Int)))).bind fun r38=>
  some (.inl (r33.current,r33.least,(IntKind.wrap .i64 (x1.2.2.1-1)),r38))
 else
  some (.inr (x1.2.2.2,(⟨x1.1,x1.2.1⟩:path_level)))
theorem zAD (a0:Sl (Step)) (a1:Int) (r21:Int) (x1:Int×Int×Int×List (Int)) (o:(Int×Int×Int×List (Int))⊕((List (Int)×path_level))) (h:zcF a0 a1 r21 x1=some o):Wp prog zzU (zho a0 a1 r21 x1) (zbK (0,[]) (zho a0 a1 r21) (zoY a0 a1 r21) o):=by
 unfold zcF at h
 delta zzU zho
 try simp only[go_sem]
 refine zag (fun hc23=> ?_) (fun hc24=> ?_)
 ·rw[if_pos hc23]at h
  try simp only[go_sem]
  obtain⟨y25,hy26,h⟩:=bs h
  try simp only[go_sem,zab hy26,zad hy26,zac zan hy26]
  refine zif (fn:=c80) rfl rfl ?_
  delta c80
  try simp only[go_sem,zab hy26,zad hy26,zac zan hy26]
  obtain⟨r29,hl30,h⟩:=bs h
  refine WBr.cut (n:=(42,[])) .normal ⟨((Regs.none.set 0 (.ptr 24 0 0)).set 2 (.d (.bool y25.slot))),(((Heap.at 44).set 24 (some (.els 2 [.d (zaJ r29)] 0))).set 28 (mbB 1 (0) (x1.2.2.2.map fun z=>V.d ((D.int .i64) z))))⟩ ?_ (by(repeat(refine Clo.seq zba rfl ?_));refine Clo.inl zba (n':=(0,[])) rfl rfl rfl ?_ ?_ (show Fx.spans _ 31 11=true from by decide) (by decide) ?_;((repeat(first|exact zbA.no|refine zbA.set ?_ ?_|exact zbd.d|exact zbd.rp|exact zbd.ptr (by decide)|exact zbd.mb (by decide)));(repeat(first|exact zbA.no|exact zbA.none|refine zbA.set ?_ ?_|refine zbA.args ?_|exact zcy.nil|refine zcy.cons ?_ ?_|exact zbd.d|exact zbd.undef|exact zbd.rp|exact zbd.ptr (by decide)|exact zbd.sl (by decide)|exact zbd.mb (by decide)|exact zbd.map (by decide)|exact zbd.yld (by decide)|exact zbd.it (by decide)|refine zbd.clo ?_ ?_|refine zbd.ofCells ?_|refine zbd.agg ?_|refine zbd.tuple ?_|refine zbd.bif ?_ ?_)));(repeat(first|refine Clo.block ?_|refine Clo.seq zba rfl ?_));(exact Clo.lpost (by decide))) ?_
  ·replace h:=hl30
   refine zag (fun hc27=> ?_) (fun hc28=> ?_)
   ·rw[if_pos hc27]at h
    try simp only[go_sem,zab hy26,zad hy26,zac zan hy26]
    cases h
    refine⟨rfl,Up.of (N:=44) (N':=52) [] rfl rfl (by decide) ?_ ?_⟩
    ·refine zai.set ?_ (zai.set ?_ zai.none)
     all_goals (try simp only[go_sem,List.map_append,List.map_cons,List.map_nil,zab hy26,zad hy26,zac zan hy26])
     all_goals (first|exact VR.d _|exact VR.ptr' rfl)
    refine zal.set (show zau _ _ (Heap.get _ 28)from ?_) (zal.set (show zau _ _ (Heap.get _ 24)from ?_) (zal.at))
    all_goals (try simp only[go_sem,List.map_append,List.map_cons,List.map_nil,zab hy26,zad hy26,zac zan hy26])
    all_goals (((repeat' first|exact zau.refl_d|refine zau.mb (by simp) ?_|exact VRL.refl_d _ _);done))
   rw[if_neg (ff hc28)]at h
   try simp only[go_sem,zab hy26,zad hy26,zac zan hy26]
   cases h
   refine⟨rfl,Up.of (N:=44) (N':=44) [] rfl rfl (by decide) ?_ ?_⟩
   ·refine zai.set ?_ (zai.set ?_ zai.none)
    all_goals (try simp only[go_sem,List.map_append,List.map_cons,List.map_nil,zab hy26,zad hy26,zac zan hy26])
    all_goals (first|exact VR.d _|exact VR.ptr' rfl)
   refine zal.set (show zau _ _ (Heap.get _ 28)from ?_) (zal.set (show zau _ _ (Heap.get _ 24)from ?_) (zal.at))
   all_goals (try simp only[go_sem,List.map_append,List.map_cons,List.map_nil,zab hy26,zad hy26,zac zan hy26])
   all_goals (((repeat' first|exact zau.refl_d|refine zau.mb (by simp) ?_|exact VRL.refl_d _ _);done))
  try simp only[go_sem,zab hy26,zad hy26,zac zan hy26]
  obtain⟨r33,hl34,h⟩:=bs h
  refine WBr.cut (n:=(42,[])) .normal ⟨(Regs.none.set 7 (.d (.bool (decide (r29.current≤r29.least))))),(((Heap.at 55).set 24 (some (.els 2 [.d (zaJ r33)] 0))).set 28 (mbB 1 (0) (x1.2.2.2.map fun z=>V.d ((D.int .i64) z))))⟩ ?_ (by(repeat(refine Clo.seq zba rfl ?_));refine Clo.inl zba (n':=(0,[])) rfl rfl rfl ?_ ?_ (show Fx.spans _ 31 11=true from by decide) (by decide) ?_;((repeat(first|exact zbA.no|refine zbA.set ?_ ?_|exact zbd.d|exact zbd.rp|exact zbd.ptr (by decide)|exact zbd.mb (by decide)));(repeat(first|exact zbA.no|exact zbA.none|refine zbA.set ?_ ?_|refine zbA.args ?_|exact zcy.nil|refine zcy.cons ?_ ?_|exact zbd.d|exact zbd.undef|exact zbd.rp|exact zbd.ptr (by decide)|exact zbd.sl (by decide)|exact zbd.mb (by decide)|exact zbd.map (by decide)|exact zbd.yld (by decide)|exact zbd.it (by decide)|refine zbd.clo ?_ ?_|refine zbd.ofCells ?_|refine zbd.agg ?_|refine zbd.tuple ?_|refine zbd.bif ?_ ?_)));(repeat(first|refine Clo.block ?_|refine Clo.seq zba rfl ?_));(exact Clo.lpost (by decide))) ?_
  ·replace h:=hl34
   refine zag (fun hc31=> ?_) (fun hc32=> ?_)
   ·rw[if_pos hc31]at h
    try simp only[go_sem,zab hy26,zad hy26,zac zan hy26]
    cases h
    exact⟨rfl,Up.of (N:=55) (N':=76) [] rfl rfl (by decide) (.set (.d _) zai.none) (.set (zau.mb (Nat.le_refl _) (VRL.refl_d _ _)) (.set zau.refl_d zal.at))⟩
   rw[if_neg (ff hc32)]at h
   try simp only[go_sem,zab hy26,zad hy26,zac zan hy26]
   cases h
   exact⟨rfl,Up.of (N:=55) (N':=55) [] rfl rfl (by decide) (.set (.d _) zai.none) (.set (zau.mb (Nat.le_refl _) (VRL.refl_d _ _)) (.set zau.refl_d zal.at))⟩
  try simp only[go_sem,zab hy26,zad hy26,zac zan hy26]
  obtain⟨r38,hl39,h⟩:=bs h
  refine WBr.cut (n:=(0,[])) .normal ⟨((((((Regs.none.set 0 (.d (.list a0.n (a0.l.map zan)))).set 1 (.d (.int .i64 a1))).set 6 (.d (.int .i64 r21))).set 8 (mb 56 (r38.map fun z=>V.d ((D.int .i64) z)))).set 9 (.ptr 24 0 0)).set 10 (.d (.int .i64 x1.2.2.1))),(((Heap.at 57).set 24 (some (.els 2 [.d (zaJ r33)] 0))).set 56 (mbB 1 (0) (r38.map fun z=>V.d ((D.int .i64) z))))⟩ ?_ (by(repeat(first|refine Clo.block ?_|refine Clo.seq zba rfl ?_));(exact Clo.lpost (by decide))) ?_
  ·replace h:=hl39
   refine zag (fun hc35=> ?_) (fun hc36=> ?_)
   ·rw[if_pos hc35]at h
    try simp only[go_sem,zab hy26,zad hy26,zac zan hy26]
    obtain⟨hm37,h⟩:=zbU h
    refine zgk (l:=x1.2.2.2.map fun z=>V.d ((D.int .i64) z)) (new:=[V.d (.int .i64 y25.item)]) (sz:=1) (fz:=0) (by simp only[go_sem,List.map_append,List.map_cons,List.map_nil,zab hy26,zad hy26,zac zan hy26]) (by intro h;simpa using h) (by simp only[go_sem,zcu,zcJ,zcv,zbC,zhR]) (by simp) (by rfl) (by simpa using hm37) ?_
    try simp only[go_sem,zab hy26,zad hy26,zac zan hy26,hm37]
    cases h
    exact⟨rfl,Up.of (N:=57) (N':=66) [(56,64)] rfl rfl (by decide) (.set (.d _) (.set (.ptr' rfl) (.set (by exact VR.mb_sl (by(simp;done)) rfl (by(simp;done))) (.set (.d _) (.set (.d _) (.set (.d _) zai.none)))))) (.set (by exact zau.mb_els (Nat.le_refl _) (VRL.eq_d (e:=(D.int .i64)) (l:=(x1.2.2.2++[y25.item])) (by(simp;done)))) (.set zau.refl_d zal.at))⟩
   rw[if_neg (ff hc36)]at h
   try simp only[go_sem,zab hy26,zad hy26,zac zan hy26]
   cases h
   refine⟨rfl,Up.of (N:=57) (N':=57) [(28,56),(56,28)] rfl rfl (by decide) ?_ ?_⟩
   ·refine zai.set ?_ (zai.set ?_ (zai.set ?_ (zai.set ?_ (zai.set ?_ (zai.set ?_ zai.none)))))
    all_goals (try simp only[go_sem,List.map_append,List.map_cons,List.map_nil,zab hy26,zad hy26,zac zan hy26])
    all_goals (first|exact VR.d _|exact VR.mb rfl|exact VR.ptr' rfl)
   refine zal.set (show zau _ _ (Heap.get _ 28)from ?_) (zal.set (show zau _ _ (Heap.get _ 24)from ?_) (zal.at))
   all_goals (try simp only[go_sem,List.map_append,List.map_cons,List.map_nil,zab hy26,zad hy26,zac zan hy26])
   all_goals (((repeat' first|exact zau.refl_d|refine zau.mb (by simp) ?_|exact VRL.refl_d _ _);done))
  try simp only[go_sem,zab hy26,zad hy26,zac zan hy26]
  cases h
  refine⟨rfl,Up.of (N:=29) (N':=60) [(28,56)] rfl rfl (by decide) ?_ ?_⟩
  ·refine zai.set ?_ (zai.set ?_ (zai.set ?_ (zai.set ?_ (zai.set ?_ (zai.set ?_ zai.none)))))
   all_goals (try simp only[go_sem,List.map_append,List.map_cons,List.map_nil,zab hy26,zad hy26,zac zan hy26])
   all_goals (first|exact VR.d _|exact VR.mb rfl|exact VR.ptr' rfl)
  refine zal.set (show zau _ _ (Heap.get _ 56)from ?_) (zal.set (show zau _ _ (Heap.get _ 24)from ?_) (zal.at))
  all_goals (try simp only[go_sem,List.map_append,List.map_cons,List.map_nil,zab hy26,zad hy26,zac zan hy26])
  all_goals (((repeat' first|exact zau.refl_d|refine zau.mb (by simp) ?_|exact VRL.refl_d _ _);done))
 rw[if_neg (ff hc24)]at h
 try simp only[go_sem]
 cases h
 refine⟨rfl,by simp,Up.of (N:=29) (N':=31) [] rfl rfl (by decide) ?_ ?_⟩
 ·refine zai.set ?_ (zai.set ?_ (zai.set ?_ (zai.set ?_ (zai.set ?_ zai.none))))
  all_goals (try simp only[go_sem,List.map_append,List.map_cons,List.map_nil])
  all_goals (first|exact VR.d _|exact VR.mb rfl|exact VR.ptr' rfl)
 refine zal.set (show zau _ _ (Heap.get _ 28)from ?_) (zal.set (show zau _ _ (Heap.get _ 24)from ?_) (zal.at))
 all_goals (try simp only[go_sem,List.map_append,List.map_cons,List.map_nil])
 all_goals (((repeat' first|exact zau.refl_d|refine zau.mb (by simp) ?_|exact VRL.refl_d _ _);done))
def zhp (r40:List (Int)×path_level) (x2:List (Int)×Int×Int):St:=⟨(((Regs.none.set 0 (mb 28 (x2.1.map fun z=>V.d ((D.int .i64) z)))).set 2 (.d (.int .i64 x2.2.1))).set 3 (.d (.int .i64 x2.2.2))),(((Heap.at 36).set 24 (some (.els 2 [.d (zaJ r40.2)] 0))).set 28 (mbB 1 (0) (x2.1.map fun z=>V.d ((D.int .i64) z))))⟩
def zoZ (r40:List (Int)×path_level):((List (Int)))→Ex×St:=fun r=>(.exit 0,⟨Regs.none,(((Heap.at 36).set 24 (some (.els 2 [.d (zaJ r40.2)] 0))).set 28 (mbB 1 (0) (r.map fun z=>V.d ((D.int .i64) z))))⟩)
noncomputable def zeb (r40:List (Int)×path_level) (x2:List (Int)×Int×Int):Option ((List (Int)×Int×Int)⊕((List (Int)))):=
 if(decide (x2.2.1<x2.2.2))=true then
  (rdA x2.1 x2.1.length x2.2.2).bind fun y44=>
  (rdA x2.1 x2.1.length x2.2.1).bind fun y46=>
  (rdA (x2.1.set (x2.2.1).toNat y44) ((x2.1.set (x2.2.1).toNat y44).length) x2.2.2).bind fun y48=>
  some (.inl (((x2.1.set (x2.2.1).toNat y44).set (x2.2.2).toNat y46),(IntKind.wrap .i64 (x2.2.1+1)),(IntKind.wrap .i64 (x2.2.2-1))))
 else
  some (.inr x2.1)
theorem zAE (r40:List (Int)×path_level) (x2:List (Int)×Int×Int) (o:(List (Int)×Int×Int)⊕((List (Int)))) (h:zeb r40 x2=some o):Wp prog zAf (zhp r40 x2) (zbK (31,[]) (zhp r40) (zoZ r40) o):=by
 unfold zeb at h
 delta zAf zhp
 try simp only[go_sem]
 refine zag (fun hc42=> ?_) (fun hc43=> ?_)
 ·rw[if_pos hc42]at h
  try simp only[go_sem]
  obtain⟨y44,hy45,h⟩:=bs h
  have hne_hy45:=zch hy45
  try simp only[go_sem,zaP hy45,zaW hy45,zaY hy45,zaK hy45,zaQ (D.int .i64) hy45,zmH (zch hy45),zhL (zch hy45)]
  obtain⟨y46,hy47,h⟩:=bs h
  try simp only[go_sem,zaP hy45,zaW hy45,zaY hy45,zaK hy45,zaQ (D.int .i64) hy45,zmH (zch hy45),zhL (zch hy45),zaP hy47,zaW hy47,zaY hy47,zaK hy47,zaQ (D.int .i64) hy47]
  obtain⟨y48,hy49,h⟩:=bs h
  have hne_hy49:=zch hy49
  try simp only[go_sem,zaP hy45,zaW hy45,zaY hy45,zaK hy45,zaQ (D.int .i64) hy45,zmH (zch hy45),zhL (zch hy45),zaP hy47,zaW hy47,zaY hy47,zaK hy47,zaQ (D.int .i64) hy47,zfQ (x:=y44) (D.int .i64) (zaK hy47),zfP (x:=y44) (zaK hy47),zaP hy49,zaW hy49,zaY hy49,zaK hy49,zaQ (D.int .i64) hy49,zmH (zch hy49),zhL (zch hy49)]
  cases h
  exact⟨rfl,Up.of (N:=36) (N':=61) [] rfl rfl (by decide) (.set (.d _) (.set (.d _) (.set (by exact VR.mb_sl (by(simpa using(by assumption:_≠[]))) rfl (by(simp;done))) zai.none))) (.set (by exact zau.mb_els (Nat.le_refl _) (VRL.refl_d _ _)) (.set zau.refl_d zal.at))⟩
 rw[if_neg (ff hc43)]at h
 try simp only[go_sem]
 cases h
 exact⟨rfl,by simp,Up.of (N:=36) (N':=39) [] rfl rfl (by decide) zai.none (.set (zau.mb (Nat.le_refl _) (VRL.refl_d _ _)) (.set zau.refl_d zal.at))⟩
def zhq (a0:Sl (Step)) (y55:List (Step)) (x3:Int×Int×List (Int)×Int):St:=⟨(((((Regs.none.set 8 (.sl 43 0 x3.2.2.1.length)).set 9 (.ptr 24 0 0)).set 97 (.d (.list a0.n (y55.map zan)))).set 98 (.d (.int .i64 (y55.length:Int)))).set 99 (.d (.int .i64 x3.2.2.2))),(((Heap.at 55).set 24 (some (.els 2 [.d (.agg [.int .i64 x3.1,.int .i64 x3.2.1])] 0))).set 43 (some (.els 1 (x3.2.2.1.map fun z=>V.d ((D.int .i64) z)) (0))))⟩
def zpa (a0:Sl (Step)) (y55:List (Step)):((List (Int)))→Ex×St:=fun r=>(.exit 5,⟨(Regs.none.set 8 (.sl 54 0 r.length)),((Heap.at 55).set 54 (some (.els 1 (r.map fun z=>V.d ((D.int .i64) z)) (0))))⟩)
noncomputable def zcG (a0:Sl (Step)) (y55:List (Step)) (x3:Int×Int×List (Int)×Int):Option ((Int×Int×List (Int)×Int)⊕((List (Int)))):=
 if(decide (x3.2.2.2<(y55.length:Int)))=true then
  (rd y55 x3.2.2.2).bind fun y59=>
  (if y59.slot=true then
   some (⟨(IntKind.wrap .i64 (x3.1+1)),x3.2.1⟩:path_level)
  else
   some (⟨x3.1,x3.2.1⟩:path_level):Option ((path_level))).bind fun r63=>
  if y59.closed=true then
   if(decide (r63.current≤r63.least))=true then
    if(x3.2.2.1.length+1)*8≤AI.roomBytes then
     some (.inl ((IntKind.wrap .i64 (r63.current-1)),(min r63.least (IntKind.wrap .i64 (r63.current-1))),(x3.2.2.1++[y59.item]),(IntKind.wrap .i64 (x3.2.2.2+1))))
    else none
   else
    some (.inl ((IntKind.wrap .i64 (r63.current-1)),(min r63.least (IntKind.wrap .i64 (r63.current-1))),x3.2.2.1,(IntKind.wrap .i64 (x3.2.2.2+1))))
  else
   if(decide (r63.current≤r63.least))=true then
    if(x3.2.2.1.length+1)*8≤AI.roomBytes then
     some (.inl (r63.current,r63.least,(x3.2.2.1++[y59.item]),(IntKind.wrap .i64 (x3.2.2.2+1))))
    else none
   else
    some (.inl (r63.current,r63.least,x3.2.2.1,(IntKind.wrap .i64 (x3.2.2.2+1))))
 else
  some (.inr x3.2.2.1)
theorem zAF (a0:Sl (Step)) (y55:List (Step)) (x3:Int×Int×List (Int)×Int) (o:(Int×Int×List (Int)×Int)⊕((List (Int)))) (h:zcG a0 y55 x3=some o):Wp prog zzV (zhq a0 y55 x3) (zbK (0,[]) (zhq a0 y55) (zpa a0 y55) o):=by
 unfold zcG at h
 delta zzV zhq
 try simp only[go_sem]
 refine zag (fun hc57=> ?_) (fun hc58=> ?_)
 ·rw[if_pos hc57]at h
  try simp only[go_sem]
  obtain⟨y59,hy60,h⟩:=bs h
  try simp only[go_sem,zab hy60,zad hy60,zac zan hy60]
  refine zif (fn:=c80) rfl rfl ?_
  delta c80
  try simp only[go_sem,zab hy60,zad hy60,zac zan hy60]
  obtain⟨r63,hl64,h⟩:=bs h
  refine WBr.cut (n:=(65,[])) .normal ⟨((Regs.none.set 0 (.ptr 24 0 0)).set 2 (.d (.bool y59.closed))),((((Heap.at 67).set 24 (some (.els 2 [.d (zaJ r63)] 0))).set 43 (some (.els 1 (x3.2.2.1.map fun z=>V.d ((D.int .i64) z)) (0)))).set 58 (some (.els 6 [.d (zan y59)] 0)))⟩ ?_ (by(repeat(refine Clo.seq zba rfl ?_));refine Clo.inl zba (n':=(0,[])) rfl rfl rfl ?_ ?_ (show Fx.spans _ 60 5=true from by decide) (by decide) ?_;((repeat(first|exact zbA.no|refine zbA.set ?_ ?_|exact zbd.d|exact zbd.ptr (by decide)|exact zbd.sl (by decide)));(repeat(first|exact zbA.no|exact zbA.none|refine zbA.set ?_ ?_|refine zbA.args ?_|exact zcy.nil|refine zcy.cons ?_ ?_|exact zbd.d|exact zbd.undef|exact zbd.rp|exact zbd.ptr (by decide)|exact zbd.sl (by decide)|exact zbd.mb (by decide)|exact zbd.map (by decide)|exact zbd.yld (by decide)|exact zbd.it (by decide)|refine zbd.clo ?_ ?_|refine zbd.ofCells ?_|refine zbd.agg ?_|refine zbd.tuple ?_|refine zbd.bif ?_ ?_)));(repeat(first|refine Clo.block ?_|refine Clo.seq zba rfl ?_));(exact Clo.lpost (by decide))) ?_
  ·replace h:=hl64
   refine zag (fun hc61=> ?_) (fun hc62=> ?_)
   ·rw[if_pos hc61]at h
    try simp only[go_sem,zab hy60,zad hy60,zac zan hy60]
    cases h
    refine⟨rfl,Up.of (N:=67) (N':=75) [] rfl rfl (by decide) ?_ ?_⟩
    ·refine zai.set ?_ (zai.set ?_ zai.none)
     all_goals (try simp only[go_sem,List.map_append,List.map_cons,List.map_nil,zab hy60,zad hy60,zac zan hy60])
     all_goals (first|exact VR.d _|exact VR.ptr' rfl)
    refine zal.set (show zau _ _ (Heap.get _ 58)from ?_) (zal.set (show zau _ _ (Heap.get _ 43)from ?_) (zal.set (show zau _ _ (Heap.get _ 24)from ?_) (zal.at)))
    all_goals (try simp only[go_sem,List.map_append,List.map_cons,List.map_nil,zab hy60,zad hy60,zac zan hy60])
    all_goals (((repeat' first|exact zau.refl_d|refine zau.els (by simp) ?_|exact VRL.refl_d _ _);done))
   rw[if_neg (ff hc62)]at h
   try simp only[go_sem,zab hy60,zad hy60,zac zan hy60]
   cases h
   refine⟨rfl,Up.of (N:=67) (N':=67) [] rfl rfl (by decide) ?_ ?_⟩
   ·refine zai.set ?_ (zai.set ?_ zai.none)
    all_goals (try simp only[go_sem,List.map_append,List.map_cons,List.map_nil,zab hy60,zad hy60,zac zan hy60])
    all_goals (first|exact VR.d _|exact VR.ptr' rfl)
   refine zal.set (show zau _ _ (Heap.get _ 58)from ?_) (zal.set (show zau _ _ (Heap.get _ 43)from ?_) (zal.set (show zau _ _ (Heap.get _ 24)from ?_) (zal.at)))
   all_goals (try simp only[go_sem,List.map_append,List.map_cons,List.map_nil,zab hy60,zad hy60,zac zan hy60])
   all_goals (((repeat' first|exact zau.refl_d|refine zau.els (by simp) ?_|exact VRL.refl_d _ _);done))
  try simp only[go_sem,zab hy60,zad hy60,zac zan hy60]
  refine zag (fun hc65=> ?_) (fun hc66=> ?_)
  ·rw[if_pos hc65]at h
   try simp only[go_sem,zab hy60,zad hy60,zac zan hy60]
   refine zag (fun hc67=> ?_) (fun hc68=> ?_)
   ·rw[if_pos hc67]at h
    try simp only[go_sem,zab hy60,zad hy60,zac zan hy60]
    obtain⟨hm69,h⟩:=zbU h
    refine zeF (l:=x3.2.2.1.map fun z=>V.d ((D.int .i64) z)) (fz:=0) (new:=[V.d (.int .i64 y59.item)]) (by simp only[go_sem,List.map_append,List.map_cons,List.map_nil,zab hy60,zad hy60,zac zan hy60]) (by simp only[go_sem,zcu,zcJ,zcv,zbC,zhR]) (by simp) (by rfl) (by simp) (by simpa using hm69) ?_
    try simp only[go_sem,zab hy60,zad hy60,zac zan hy60,hm69]
    cases h
    refine⟨rfl,Up.of (N:=55) (N':=109) [(43,105)] rfl rfl (by decide) ?_ ?_⟩
    ·refine zai.set ?_ (zai.set ?_ (zai.set ?_ (zai.set ?_ (zai.set ?_ zai.none))))
     all_goals (try simp only[go_sem,List.map_append,List.map_cons,List.map_nil,zab hy60,zad hy60,zac zan hy60,hm69])
     all_goals (first|exact VR.d _|exact VR.ptr' rfl|exact VR.sl'' rfl (by simp))
    refine zal.set (show zau _ _ (Heap.get _ 105)from ?_) (zal.set (show zau _ _ (Heap.get _ 24)from ?_) (zal.at))
    all_goals (try simp only[go_sem,List.map_append,List.map_cons,List.map_nil,zab hy60,zad hy60,zac zan hy60,hm69])
    all_goals (((repeat' first|exact zau.refl_d|refine zau.els (by simp) ?_|exact VR.d _|exact VRL.nil|exact VRL.refl_d _ _|refine VRL.append ?_ ?_|refine VRL.cons ?_ ?_);done))
   rw[if_neg (ff hc68)]at h
   try simp only[go_sem,zab hy60,zad hy60,zac zan hy60]
   cases h
   refine⟨rfl,Up.of (N:=55) (N':=103) [] rfl rfl (by decide) ?_ ?_⟩
   ·refine zai.set ?_ (zai.set ?_ (zai.set ?_ (zai.set ?_ (zai.set ?_ zai.none))))
    all_goals (try simp only[go_sem,List.map_append,List.map_cons,List.map_nil,zab hy60,zad hy60,zac zan hy60])
    all_goals (first|exact VR.d _|exact VR.ptr' rfl|exact VR.sl'' rfl (by simp))
   refine zal.set (show zau _ _ (Heap.get _ 43)from ?_) (zal.set (show zau _ _ (Heap.get _ 24)from ?_) (zal.at))
   all_goals (try simp only[go_sem,List.map_append,List.map_cons,List.map_nil,zab hy60,zad hy60,zac zan hy60])
   all_goals (((repeat' first|exact zau.refl_d|refine zau.els (by simp) ?_|exact VRL.refl_d _ _);done))
  rw[if_neg (ff hc66)]at h
  try simp only[go_sem,zab hy60,zad hy60,zac zan hy60]
  refine zag (fun hc70=> ?_) (fun hc71=> ?_)
  ·rw[if_pos hc70]at h
   try simp only[go_sem,zab hy60,zad hy60,zac zan hy60]
   obtain⟨hm72,h⟩:=zbU h
   refine zeF (l:=x3.2.2.1.map fun z=>V.d ((D.int .i64) z)) (fz:=0) (new:=[V.d (.int .i64 y59.item)]) (by simp only[go_sem,List.map_append,List.map_cons,List.map_nil,zab hy60,zad hy60,zac zan hy60]) (by simp only[go_sem,zcu,zcJ,zcv,zbC,zhR]) (by simp) (by rfl) (by simp) (by simpa using hm72) ?_
   try simp only[go_sem,zab hy60,zad hy60,zac zan hy60,hm72]
   cases h
   refine⟨rfl,Up.of (N:=55) (N':=88) [(43,84)] rfl rfl (by decide) ?_ ?_⟩
   ·refine zai.set ?_ (zai.set ?_ (zai.set ?_ (zai.set ?_ (zai.set ?_ zai.none))))
    all_goals (try simp only[go_sem,List.map_append,List.map_cons,List.map_nil,zab hy60,zad hy60,zac zan hy60,hm72])
    all_goals (first|exact VR.d _|exact VR.ptr' rfl|exact VR.sl'' rfl (by simp))
   refine zal.set (show zau _ _ (Heap.get _ 84)from ?_) (zal.set (show zau _ _ (Heap.get _ 24)from ?_) (zal.at))
   all_goals (try simp only[go_sem,List.map_append,List.map_cons,List.map_nil,zab hy60,zad hy60,zac zan hy60,hm72])
   all_goals (((repeat' first|exact zau.refl_d|refine zau.els (by simp) ?_|exact VR.d _|exact VRL.nil|exact VRL.refl_d _ _|refine VRL.append ?_ ?_|refine VRL.cons ?_ ?_);done))
  rw[if_neg (ff hc71)]at h
  try simp only[go_sem,zab hy60,zad hy60,zac zan hy60]
  cases h
  refine⟨rfl,Up.of (N:=55) (N':=82) [] rfl rfl (by decide) ?_ ?_⟩
  ·refine zai.set ?_ (zai.set ?_ (zai.set ?_ (zai.set ?_ (zai.set ?_ zai.none))))
   all_goals (try simp only[go_sem,List.map_append,List.map_cons,List.map_nil,zab hy60,zad hy60,zac zan hy60])
   all_goals (first|exact VR.d _|exact VR.ptr' rfl|exact VR.sl'' rfl (by simp))
  refine zal.set (show zau _ _ (Heap.get _ 43)from ?_) (zal.set (show zau _ _ (Heap.get _ 24)from ?_) (zal.at))
  all_goals (try simp only[go_sem,List.map_append,List.map_cons,List.map_nil,zab hy60,zad hy60,zac zan hy60])
  all_goals (((repeat' first|exact zau.refl_d|refine zau.els (by simp) ?_|exact VRL.refl_d _ _);done))
 rw[if_neg (ff hc58)]at h
 try simp only[go_sem]
 cases h
 exact⟨rfl,by simp,Up.of (N:=55) (N':=56) [(43,54),(54,43)] rfl rfl (by decide) (.set (.sl'' rfl (by rfl)) zai.none) (.set (zau.arr (e:=(D.int .i64)) (l:=x3.2.2.1) (by rfl) (by exact Nat.le_refl _)) zal.at)⟩
noncomputable def P35 (a0:Sl (Step)) (a1:Int):Option (Sl (Int)×Int):=
 if(decide (4096<(a0.l.length:Int)))=true then
  some (⟨true,[]⟩,3)
 else
  if(bif (decide (a1<0))then true else(decide ((a0.l.length:Int)≤a1)))=true then
   some (⟨true,[]⟩,2)
  else
   (zaR (zbJ a0 a1) (0,(IntKind.wrap .i64 ((a0.l.length:Int)-1)))).bind fun r21=>
   (zaR (zcF a0 a1 r21) (r21,r21,(IntKind.wrap .i64 (a1-1)),[])).bind fun r40=>
   (zaR (zeb r40) (r40.1,0,(IntKind.wrap .i64 ((r40.1.length:Int)-1)))).bind fun r50=>
   if r50.length=r40.1.length then
    (rd a0.l a1).bind fun y52=>
    if(r50.length+1)*8≤AI.roomBytes then
     (cut a0.l (IntKind.wrap .i64 (a1+1)) (a0.l.length:Int)).bind fun y55=>
     (zaR (zcG a0 y55) (r21,r21,(r50++[y52.item]),0)).bind fun r73=>
     some (⟨false,r73⟩,0)
    else none
   else none
theorem zKM (a0:Sl (Step)) (a1:Int) (r:Sl (Int)×Int) (h:P35 a0 a1=some r):pc prog 35 [.list a0.n (a0.l.map zan),.int .i64 a1]=some ((eT2 (eSl (D.int .i64)) (D.int .i64)) r):=by
 unfold P35 at h
 refine zbk (fn:=c35) rfl rfl ?_
 delta c35
 try simp only[go_sem]
 refine zag (fun hc1=> ?_) (fun hc2=> ?_)
 ·rw[if_pos hc1]at h
  try simp only[go_sem]
  cases h
  rfl
 rw[if_neg (ff hc2)]at h
 try simp only[go_sem]
 refine zaa (v:= .d (.int .i64 a1)) (fun hb79=>by simp only[go_sem,hc2,hb79]) ?_
 try simp only[go_sem]
 refine zaa (v:= .d (.list a0.n (a0.l.map zan))) (fun hb78=>by simp only[go_sem,hc2,hb78]) ?_
 try simp only[go_sem]
 refine zaa (v:= .d (.int .i64 (a0.l.length:Int))) (fun hb77=>by simp only[go_sem,hc2,hb77]) ?_
 try simp only[go_sem]
 refine zaa (v:= .d (.bool (decide ((a0.l.length:Int)≤a1)))) (fun hb76=>by simp only[go_sem,hc2,hb76]) ?_
 try simp only[go_sem]
 refine zag (fun hc3=> ?_) (fun hc4=> ?_)
 ·rw[if_pos hc3]at h
  try simp only[go_sem]
  cases h
  rfl
 rw[if_neg (ff hc4)]at h
 try simp only[go_sem]
 obtain⟨r21,hl22,h⟩:=bs h
 refine Wp.loopR zba (n:=(0,[])) (a:=zzT) rfl (zhn a0 a1) (zoX a0 a1) (zAC a0 a1) hl22 ?_ (by(repeat(first|refine Clo.block ?_|refine Clo.seq zba rfl ?_));(exact Clo.ret)) ?_
 ·show Up (0,[]) (zhn a0 a1 (0,(IntKind.wrap .i64 ((a0.l.length:Int)-1)))) _
  delta zhn
  exact Up.of (N:=20) (N':=20) [] rfl rfl (by decide) (.set (.d _) (.set (.d _) (.set (.d _) (.set (.d _) zai.none)))) zal.at
 dsimp only[zoX]
 try simp only[go_sem]
 obtain⟨r40,hl41,h⟩:=bs h
 refine Wp.loopR zba (n:=(0,[])) (a:=zzU) rfl (zho a0 a1 r21) (zoY a0 a1 r21) (zAD a0 a1 r21) hl41 ?_ (by(repeat(first|refine Clo.block ?_|refine Clo.seq zba rfl ?_));(exact Clo.ret)) ?_
 ·show Up (0,[]) (zho a0 a1 r21 (r21,r21,(IntKind.wrap .i64 (a1-1)),[])) _
  delta zho
  refine Up.of (N:=29) (N':=29) [] rfl rfl (by decide) ?_ ?_
  ·refine zai.set ?_ (zai.set ?_ (zai.set ?_ (zai.set ?_ (zai.set ?_ (zai.set ?_ zai.none)))))
   all_goals (try simp only[go_sem,List.map_append,List.map_cons,List.map_nil])
   all_goals (first|exact VR.d _|exact VR.ptr' rfl)
  refine zal.set (show zau _ _ (Heap.get _ 28)from ?_) (zal.set (show zau _ _ (Heap.get _ 24)from ?_) (zal.at))
  all_goals (try simp only[go_sem,List.map_append,List.map_cons,List.map_nil])
  all_goals (((repeat' first|trivial|exact zau.refl_d);done))
 dsimp only[zoY]
 try simp only[go_sem]
 refine zif (fn:=c81) rfl rfl ?_
 delta c81
 try simp only[go_sem]
 obtain⟨r50,hl51,h⟩:=bs h
 refine Wp.loopR zba (n:=(31,[])) (a:=zAf) rfl (zhp r40) (zoZ r40) (zAE r40) hl51 ?_ (by(repeat(refine Clo.block ?_));refine Clo.inl zba (n':=(0,[])) rfl rfl rfl ?_ ?_ (show Fx.spans _ 29 2=true from by decide) (by decide) ?_;((repeat(first|exact zbA.no|refine zbA.set ?_ ?_|exact zbd.d|exact zbd.ptr (by decide)|exact zbd.mb (by decide)));(repeat(first|exact zbA.no|exact zbA.none|refine zbA.set ?_ ?_|refine zbA.args ?_|exact zcy.nil|refine zcy.cons ?_ ?_|exact zbd.d|exact zbd.undef|exact zbd.rp|exact zbd.ptr (by decide)|exact zbd.sl (by decide)|exact zbd.mb (by decide)|exact zbd.map (by decide)|exact zbd.yld (by decide)|exact zbd.it (by decide)|refine zbd.clo ?_ ?_|refine zbd.ofCells ?_|refine zbd.agg ?_|refine zbd.tuple ?_|refine zbd.bif ?_ ?_)));(repeat(refine Clo.seq zba rfl ?_));(exact Clo.ret)) ?_
 ·show Up (31,[]) (zhp r40 (r40.1,0,(IntKind.wrap .i64 ((r40.1.length:Int)-1)))) _
  delta zhp
  exact Up.of (N:=36) (N':=36) [] rfl rfl (by decide) (.set (.d _) (.set (.d _) (.set (.mb rfl) zai.none))) (.set (zau.mb (Nat.le_refl _) (VRL.refl_d _ _)) (.set zau.refl_d zal.at))
 dsimp only[zoZ]
 try simp only[go_sem]
 obtain⟨hm75,h⟩:=zbU h
 simp only[zFB (b:=28) (l:=r40.1.map fun z=>V.d ((D.int .i64) z)) (l':=r50.map fun z=>V.d ((D.int .i64) z)) (by simp only[List.length_map];exact hm75.symm)]
 obtain⟨y52,hy53,h⟩:=bs h
 try simp only[go_sem,zab hy53,zad hy53,zac zan hy53]
 obtain⟨hm54,h⟩:=zbU h
 refine zgk (l:=r50.map fun z=>V.d ((D.int .i64) z)) (new:=[V.d (.int .i64 y52.item)]) (sz:=1) (fz:=0) (by simp only[go_sem,List.map_append,List.map_cons,List.map_nil,zab hy53,zad hy53,zac zan hy53]) (by intro h;simpa using h) (by simp only[go_sem,zcu,zcJ,zcv,zbC,zhR]) (by simp) (by rfl) (by simpa using hm54) ?_
 try simp only[go_sem,zab hy53,zad hy53,zac zan hy53,hm54]
 try simp only[go_sem,zab hy53,zad hy53,zac zan hy53,hm54,zaJ]
 obtain⟨y55,hy56,h⟩:=bs h
 refine zke (e:=zan) (n:=a0.n) (l:=a0.l) (sz:=6) (lo:=(some (IntKind.wrap .i64 (a1+1)))) (hi:=none) (by simp only[go_sem,zab hy53,zad hy53,zac zan hy53,hm54,zaJ,zxj];(split<;>rfl)) (by decide) (fun _=>rfl) hy56 ?_
 try simp only[go_sem,zab hy53,zad hy53,zac zan hy53,hm54,zaJ]
 obtain⟨r73,hl74,h⟩:=bs h
 refine Wp.loopR zba (n:=(0,[])) (a:=zzV) rfl (zhq a0 y55) (zpa a0 y55) (zAF a0 y55) hl74 ?_ (by(repeat(first|refine Clo.block ?_|refine Clo.seq zba rfl ?_));(exact Clo.ret)) ?_
 ·show Up (0,[]) (zhq a0 y55 (r21,r21,(r50++[y52.item]),0)) _
  delta zhq
  exact Up.of (N:=55) (N':=55) [] rfl rfl (by decide) (.set (.d _) (.set (.d _) (.set (.d _) (.set (.ptr' rfl) (.set (.sl'' rfl (by(simp;done))) zai.none))))) (.set (zau.arr (e:=(D.int .i64)) (l:=(r50++[y52.item])) (by(simp;done)) (by exact Nat.le_refl _)) (.set zau.refl_d zal.at))
 dsimp only[zpa]
 try simp only[go_sem,zab hy53,zad hy53,zac zan hy53,hm54,zaJ]
 cases h
 refine Reads.ofv (v':=V.ofTuple [.sl 54 0 r73.length,.d (.int .i64 (0))]) (by rfl) (Rd.tuple (RdL.cons (Rd.sl (e:=(D.int .i64)) (l:=r73) (sz:=1) (fz:=0) (m:=r73.map fun z=>V.d ((D.int .i64) z)) (by simp only[go_sem,List.map_append,List.map_cons,List.map_nil,zab hy53,zad hy53,zac zan hy53,hm54,zaJ]) rfl (by simp)) (RdL.cons Rd.d RdL.nil))) rfl
def zhr (a0:Sl (Step)) (a1:Int) (x0:Int×Int):St:=⟨((((Regs.none.set 0 (.d (.list a0.n (a0.l.map zan)))).set 1 (.d (.int .i64 a1))).set 6 (.d (.int .i64 x0.1))).set 7 (.d (.int .i64 x0.2))),(Heap.at 18)⟩
def zpb (a0:Sl (Step)) (a1:Int):((Int))→Ex×St:=fun r=>(.exit 0,⟨(((Regs.none.set 0 (.d (.list a0.n (a0.l.map zan)))).set 1 (.d (.int .i64 a1))).set 6 (.d (.int .i64 r))),(Heap.at 18)⟩)
noncomputable def zec (a0:Sl (Step)) (a1:Int) (x0:Int×Int):Option ((Int×Int)⊕((Int))):=
 if(decide (a1≤x0.2))=true then
  (rd a0.l x0.2).bind fun y7=>
  (if y7.closed=true then
   some (IntKind.wrap .i64 (x0.1+1))
  else
   some x0.1:Option ((Int))).bind fun r11=>
  (if(bif y7.slot then(!(x0.2==a1))else false)=true then
   some (IntKind.wrap .i64 (r11-1))
  else
   some r11:Option ((Int))).bind fun r15=>
  some (.inl (r15,(IntKind.wrap .i64 (x0.2-1))))
 else
  some (.inr x0.1)
theorem zAG (a0:Sl (Step)) (a1:Int) (x0:Int×Int) (o:(Int×Int)⊕((Int))) (h:zec a0 a1 x0=some o):Wp prog zzW (zhr a0 a1 x0) (zbK (0,[]) (zhr a0 a1) (zpb a0 a1) o):=by
 unfold zec at h
 delta zzW zhr
 try simp only[go_sem]
 refine zag (fun hc5=> ?_) (fun hc6=> ?_)
 ·rw[if_pos hc5]at h
  try simp only[go_sem]
  obtain⟨y7,hy8,h⟩:=bs h
  try simp only[go_sem,zab hy8,zad hy8,zac zan hy8]
  obtain⟨r11,hl12,h⟩:=bs h
  refine WBr.cut (n:=(0,[])) .normal ⟨((((Regs.none.set 0 (.d (.list a0.n (a0.l.map zan)))).set 1 (.d (.int .i64 a1))).set 6 (.d (.int .i64 r11))).set 7 (.d (.int .i64 x0.2))),(Heap.at 26)⟩ ?_ (by(repeat(first|refine Clo.block ?_|refine Clo.seq zba rfl ?_));(exact Clo.lpost (by decide))) ?_
  ·replace h:=hl12
   refine zag (fun hc9=> ?_) (fun hc10=> ?_)
   ·rw[if_pos hc9]at h
    try simp only[go_sem,zab hy8,zad hy8,zac zan hy8]
    cases h
    exact⟨rfl,Up.of (N:=26) (N':=29) [] rfl rfl (by decide) (.set (.d _) (.set (.d _) (.set (.d _) (.set (.d _) zai.none)))) zal.at⟩
   rw[if_neg (ff hc10)]at h
   try simp only[go_sem,zab hy8,zad hy8,zac zan hy8]
   cases h
   exact⟨rfl,Up.of (N:=26) (N':=26) [] rfl rfl (by decide) (.set (.d _) (.set (.d _) (.set (.d _) (.set (.d _) zai.none)))) zal.at⟩
  try simp only[go_sem,zab hy8,zad hy8,zac zan hy8]
  refine zaa (v:= .d (.int .i64 x0.2)) (fun hb19=>by simp only[go_sem,zab hy8,zad hy8,zac zan hy8,hc5,hb19]) ?_
  try simp only[go_sem,zab hy8,zad hy8,zac zan hy8]
  refine zaa (v:= .d (.int .i64 a1)) (fun hb18=>by simp only[go_sem,zab hy8,zad hy8,zac zan hy8,hc5,hb18]) ?_
  try simp only[go_sem,zab hy8,zad hy8,zac zan hy8]
  refine zaa (v:= .d (.bool (!(x0.2==a1)))) (fun hb17=>by simp only[go_sem,zab hy8,zad hy8,zac zan hy8,hc5,hb17]) ?_
  try simp only[go_sem,zab hy8,zad hy8,zac zan hy8]
  obtain⟨r15,hl16,h⟩:=bs h
  refine WBr.cut (n:=(0,[])) .normal ⟨((((Regs.none.set 0 (.d (.list a0.n (a0.l.map zan)))).set 1 (.d (.int .i64 a1))).set 6 (.d (.int .i64 r15))).set 7 (.d (.int .i64 x0.2))),(Heap.at 36)⟩ ?_ (by(repeat(first|refine Clo.block ?_|refine Clo.seq zba rfl ?_));(exact Clo.lpost (by decide))) ?_
  ·replace h:=hl16
   refine zag (fun hc13=> ?_) (fun hc14=> ?_)
   ·rw[if_pos hc13]at h
    try simp only[go_sem,zab hy8,zad hy8,zac zan hy8]
    cases h
    exact⟨rfl,Up.of (N:=36) (N':=39) [] rfl rfl (by decide) (.set (.d _) (.set (.d _) (.set (.d _) (.set (.d _) zai.none)))) zal.at⟩
   rw[if_neg (ff hc14)]at h
   try simp only[go_sem,zab hy8,zad hy8,zac zan hy8]
   cases h
   exact⟨rfl,Up.of (N:=36) (N':=36) [] rfl rfl (by decide) (.set (.d _) (.set (.d _) (.set (.d _) (.set (.d _) zai.none)))) zal.at⟩
  try simp only[go_sem,zab hy8,zad hy8,zac zan hy8]
  cases h
  exact⟨rfl,Up.of (N:=18) (N':=39) [] rfl rfl (by decide) (.set (.d _) (.set (.d _) (.set (.d _) (.set (.d _) zai.none)))) zal.at⟩
 rw[if_neg (ff hc6)]at h
 try simp only[go_sem]
 cases h
 exact⟨rfl,by simp,Up.of (N:=18) (N':=21) [] rfl rfl (by decide) (.set (.d _) (.set (.d _) (.set (.d _) zai.none))) zal.at⟩
def zhs (a0:Sl (Step)) (a1:Int) (r20:Int) (x1:Int×Int×List (Int)×Int):St:=⟨(((((((Regs.none.set 0 (.d (.list a0.n (a0.l.map zan)))).set 1 (.d (.int .i64 a1))).set 6 (.d (.int .i64 r20))).set 8 (mb 25 (x1.2.2.1.map fun z=>V.d ((D.int .i64) z)))).set 9 (.d (.int .i64 x1.2.2.2))).set 10 (.d (.int .i64 x1.1))).set 11 (.d (.int .i64 x1.2.1))),((Heap.at 26).set 25 (mbB 1 x1.2.2.1.length (x1.2.2.1.map fun z=>V.d ((D.int .i64) z))))⟩
def zpc (a0:Sl (Step)) (a1:Int) (r20:Int):((List (Int)))→Ex×St:=fun r=>(.exit 2,⟨((((Regs.none.set 0 (.d (.list a0.n (a0.l.map zan)))).set 1 (.d (.int .i64 a1))).set 6 (.d (.int .i64 r20))).set 8 (mb 25 (r.map fun z=>V.d ((D.int .i64) z)))),((Heap.at 26).set 25 (mbB 1 r.length (r.map fun z=>V.d ((D.int .i64) z))))⟩)
noncomputable def zcH (a0:Sl (Step)) (a1:Int) (r20:Int) (x1:Int×Int×List (Int)×Int):Option ((Int×Int×List (Int)×Int)⊕((List (Int)))):=
 if(decide (0≤x1.2.1))=true then
  (rd a0.l x1.2.1).bind fun y24=>
  (if y24.closed=true then
   some (IntKind.wrap .i64 (x1.2.2.2+1))
  else
   some x1.2.2.2:Option ((Int))).bind fun r28=>
  (if(decide (r28≤x1.1))=true then
   if x1.2.2.1=[]then
    some [y24.item]
   else
    if(([y24.item]).length+x1.2.2.1.length)*8≤AI.roomBytes then
     some ([y24.item]++x1.2.2.1)
    else none
  else
   some x1.2.2.1:Option ((List (Int)))).bind fun r35=>
  (if y24.slot=true then
   some ((IntKind.wrap .i64 (r28-1)),(min x1.1 (IntKind.wrap .i64 (r28-1))))
  else
   some (r28,x1.1):Option ((Int×Int))).bind fun r39=>
  some (.inl (r39.2,(IntKind.wrap .i64 (x1.2.1-1)),r35,r39.1))
 else
  some (.inr x1.2.2.1)
theorem zAH (a0:Sl (Step)) (a1:Int) (r20:Int) (x1:Int×Int×List (Int)×Int) (o:(Int×Int×List (Int)×Int)⊕((List (Int)))) (h:zcH a0 a1 r20 x1=some o):Wp prog zzX (zhs a0 a1 r20 x1) (zbK (0,[]) (zhs a0 a1 r20) (zpc a0 a1 r20) o):=by
 unfold zcH at h
 delta zzX zhs
 try simp only[go_sem]
 refine zag (fun hc22=> ?_) (fun hc23=> ?_)
 ·rw[if_pos hc22]at h
  try simp only[go_sem]
  obtain⟨y24,hy25,h⟩:=bs h
  try simp only[go_sem,zab hy25,zad hy25,zac zan hy25]
  obtain⟨r28,hl29,h⟩:=bs h
  refine WBr.cut (n:=(0,[])) .normal ⟨(((((((Regs.none.set 0 (.d (.list a0.n (a0.l.map zan)))).set 1 (.d (.int .i64 a1))).set 6 (.d (.int .i64 r20))).set 8 (mb 25 (x1.2.2.1.map fun z=>V.d ((D.int .i64) z)))).set 9 (.d (.int .i64 r28))).set 10 (.d (.int .i64 x1.1))).set 11 (.d (.int .i64 x1.2.1))),((Heap.at 33).set 25 (mbB 1 x1.2.2.1.length (x1.2.2.1.map fun z=>V.d ((D.int .i64) z))))⟩ ?_ (by(repeat(first|refine Clo.block ?_|refine Clo.seq zba rfl ?_));(exact Clo.lpost (by decide))) ?_
  ·replace h:=hl29
   refine zag (fun hc26=> ?_) (fun hc27=> ?_)
   ·rw[if_pos hc26]at h
    try simp only[go_sem,zab hy25,zad hy25,zac zan hy25]
    cases h
    exact⟨rfl,Up.of (N:=33) (N':=36) [] rfl rfl (by decide) (.set (.d _) (.set (.d _) (.set (.d _) (.set (.mb rfl) (.set (.d _) (.set (.d _) (.set (.d _) zai.none))))))) (.set (zau.mb (Nat.le_refl _) (VRL.refl_d _ _)) zal.at)⟩
   rw[if_neg (ff hc27)]at h
   try simp only[go_sem,zab hy25,zad hy25,zac zan hy25]
   cases h
   exact⟨rfl,Up.of (N:=33) (N':=33) [] rfl rfl (by decide) (.set (.d _) (.set (.d _) (.set (.d _) (.set (.mb rfl) (.set (.d _) (.set (.d _) (.set (.d _) zai.none))))))) (.set (zau.mb (Nat.le_refl _) (VRL.refl_d _ _)) zal.at)⟩
  try simp only[go_sem,zab hy25,zad hy25,zac zan hy25]
  obtain⟨r35,hl36,h⟩:=bs h
  refine WBr.cut (n:=(0,[])) .normal ⟨(((((((Regs.none.set 0 (.d (.list a0.n (a0.l.map zan)))).set 1 (.d (.int .i64 a1))).set 6 (.d (.int .i64 r20))).set 8 (mb 35 (r35.map fun z=>V.d ((D.int .i64) z)))).set 9 (.d (.int .i64 r28))).set 10 (.d (.int .i64 x1.1))).set 11 (.d (.int .i64 x1.2.1))),((Heap.at 36).set 35 (mbB 1 r35.length (r35.map fun z=>V.d ((D.int .i64) z))))⟩ ?_ (by(repeat(first|refine Clo.block ?_|refine Clo.seq zba rfl ?_));(exact Clo.lpost (by decide))) ?_
  ·replace h:=hl36
   refine zag (fun hc30=> ?_) (fun hc31=> ?_)
   ·rw[if_pos hc30]at h
    try simp only[go_sem,zab hy25,zad hy25,zac zan hy25]
    by_cases hz32:x1.2.2.1=[]
    ·rw[if_pos hz32]at h
     refine zmE (by simp only[go_sem,zcu,zcJ,zcv,zbC,zhR,List.map_nil,hz32]) (by rfl) ?_
     try simp only[go_sem,zab hy25,zad hy25,zac zan hy25]
     cases h
     refine⟨rfl,Up.of (N:=36) (N':=45) [(35,41)] rfl rfl (by decide) ?_ ?_⟩
     ·refine zai.set ?_ (zai.set ?_ (zai.set ?_ (zai.set ?_ (zai.set ?_ (zai.set ?_ (zai.set ?_ zai.none))))))
      all_goals (try simp only[go_sem,List.map_append,List.map_cons,List.map_nil,zab hy25,zad hy25,zac zan hy25])
      all_goals (first|exact VR.d _|exact VR.mb_sl (by(simp;done)) rfl (by(simp;done)))
     refine zal.set (show zau _ _ (Heap.get _ 41)from ?_) (zal.at)
     all_goals (try simp only[go_sem,List.map_append,List.map_cons,List.map_nil,zab hy25,zad hy25,zac zan hy25])
     all_goals (((repeat' first|refine zau.els (by simp) ?_|exact VR.d _|exact VRL.nil|refine VRL.cons ?_ ?_);done))
    have hz33:=hz32;rw[if_neg hz33]at h
    obtain⟨hm34,h⟩:=zbU h
    refine zeF (l:=([y24.item]).map fun z=>V.d ((D.int .i64) z)) (fz:=0) (new:=x1.2.2.1.map fun z=>V.d ((D.int .i64) z)) (by simp only[go_sem,List.map_append,List.map_cons,List.map_nil,zab hy25,zad hy25,zac zan hy25]) (by rw[zzg (fz:=x1.2.2.1.length) (sz:=1)];simp only[go_sem]) (by simpa using hz33) (by rw[←zhR];exact zkf (e:=(D.int .i64)) (fun _=>rfl) (fun _=>rfl) _) (by simp) (by simpa using hm34) ?_
    try rw[←List.map_append]
    try simp only[go_sem,zab hy25,zad hy25,zac zan hy25,hm34]
    cases h
    refine⟨rfl,Up.of (N:=36) (N':=45) [(35,43)] rfl rfl (by decide) ?_ ?_⟩
    ·refine zai.set ?_ (zai.set ?_ (zai.set ?_ (zai.set ?_ (zai.set ?_ (zai.set ?_ (zai.set ?_ zai.none))))))
     all_goals (try simp only[go_sem,List.map_append,List.map_cons,List.map_nil,zab hy25,zad hy25,zac zan hy25,hm34])
     all_goals (first|exact VR.d _|exact VR.mb_sl (by(simp;done)) rfl (by(simp;omega)))
    refine zal.set (show zau _ _ (Heap.get _ 43)from ?_) (zal.at)
    all_goals (try simp only[go_sem,List.map_append,List.map_cons,List.map_nil,zab hy25,zad hy25,zac zan hy25,hm34])
    all_goals (((repeat' first|refine zau.els (by simp) ?_|exact VR.d _|exact VRL.refl_d _ _|refine VRL.cons ?_ ?_);done))
   rw[if_neg (ff hc31)]at h
   try simp only[go_sem,zab hy25,zad hy25,zac zan hy25]
   cases h
   refine⟨rfl,Up.of (N:=36) (N':=36) [(25,35),(35,25)] rfl rfl (by decide) ?_ ?_⟩
   ·refine zai.set ?_ (zai.set ?_ (zai.set ?_ (zai.set ?_ (zai.set ?_ (zai.set ?_ (zai.set ?_ zai.none))))))
    all_goals (try simp only[go_sem,List.map_append,List.map_cons,List.map_nil,zab hy25,zad hy25,zac zan hy25])
    all_goals (first|exact VR.d _|exact VR.mb rfl)
   refine zal.set (show zau _ _ (Heap.get _ 25)from ?_) (zal.at)
   all_goals (try simp only[go_sem,List.map_append,List.map_cons,List.map_nil,zab hy25,zad hy25,zac zan hy25])
   all_goals (((repeat' first|refine zau.mb (by simp) ?_|exact VRL.refl_d _ _);done))
  try simp only[go_sem,zab hy25,zad hy25,zac zan hy25]
  obtain⟨r39,hl40,h⟩:=bs h
  refine WBr.cut (n:=(0,[])) .normal ⟨(((((((Regs.none.set 0 (.d (.list a0.n (a0.l.map zan)))).set 1 (.d (.int .i64 a1))).set 6 (.d (.int .i64 r20))).set 8 (mb 35 (r35.map fun z=>V.d ((D.int .i64) z)))).set 9 (.d (.int .i64 r39.1))).set 10 (.d (.int .i64 r39.2))).set 11 (.d (.int .i64 x1.2.1))),((Heap.at 41).set 35 (mbB 1 r35.length (r35.map fun z=>V.d ((D.int .i64) z))))⟩ ?_ (by(repeat(first|refine Clo.block ?_|refine Clo.seq zba rfl ?_));(exact Clo.lpost (by decide))) ?_
  ·replace h:=hl40
   refine zag (fun hc37=> ?_) (fun hc38=> ?_)
   ·rw[if_pos hc37]at h
    try simp only[go_sem,zab hy25,zad hy25,zac zan hy25]
    cases h
    exact⟨rfl,Up.of (N:=41) (N':=48) [] rfl rfl (by decide) (.set (.d _) (.set (.d _) (.set (.d _) (.set (.mb rfl) (.set (.d _) (.set (.d _) (.set (.d _) zai.none))))))) (.set (zau.mb (Nat.le_refl _) (VRL.refl_d _ _)) zal.at)⟩
   rw[if_neg (ff hc38)]at h
   try simp only[go_sem,zab hy25,zad hy25,zac zan hy25]
   cases h
   exact⟨rfl,Up.of (N:=41) (N':=41) [] rfl rfl (by decide) (.set (.d _) (.set (.d _) (.set (.d _) (.set (.mb rfl) (.set (.d _) (.set (.d _) (.set (.d _) zai.none))))))) (.set (zau.mb (Nat.le_refl _) (VRL.refl_d _ _)) zal.at)⟩
  try simp only[go_sem,zab hy25,zad hy25,zac zan hy25]
  cases h
  exact⟨rfl,Up.of (N:=26) (N':=44) [(25,35)] rfl rfl (by decide) (.set (.d _) (.set (.d _) (.set (.d _) (.set (.mb rfl) (.set (.d _) (.set (.d _) (.set (.d _) zai.none))))))) (.set (zau.mb (Nat.le_refl _) (VRL.refl_d _ _)) zal.at)⟩
 rw[if_neg (ff hc23)]at h
 try simp only[go_sem]
 cases h
 refine⟨rfl,by simp,Up.of (N:=26) (N':=28) [] rfl rfl (by decide) ?_ ?_⟩
 ·refine zai.set ?_ (zai.set ?_ (zai.set ?_ (zai.set ?_ zai.none)))
  all_goals (try simp only[go_sem,List.map_append,List.map_cons,List.map_nil])
  all_goals (first|exact VR.d _|exact VR.mb rfl)
 refine zal.set (show zau _ _ (Heap.get _ 25)from ?_) (zal.at)
 all_goals (try simp only[go_sem,List.map_append,List.map_cons,List.map_nil])
 all_goals (((repeat' first|refine zau.mb (by simp) ?_|exact VRL.refl_d _ _);done))
def zht (a0:Sl (Step)) (x2:Int×List (Int)×Int×Int):St:=⟨(((((Regs.none.set 0 (.d (.list a0.n (a0.l.map zan)))).set 9 (.d (.int .i64 x2.2.2.2))).set 10 (.d (.int .i64 x2.1))).set 12 (.sl 33 0 x2.2.1.length)).set 13 (.d (.int .i64 x2.2.2.1))),((Heap.at 42).set 33 (some (.els 1 (x2.2.1.map fun z=>V.d ((D.int .i64) z)) x2.2.1.length)))⟩
def zpd (a0:Sl (Step)):((List (Int)))→Ex×St:=fun r=>(.exit 4,⟨(Regs.none.set 12 (.sl 41 0 r.length)),((Heap.at 42).set 41 (some (.els 1 (r.map fun z=>V.d ((D.int .i64) z)) r.length)))⟩)
noncomputable def zcI (a0:Sl (Step)) (x2:Int×List (Int)×Int×Int):Option ((Int×List (Int)×Int×Int)⊕((List (Int)))):=
 if(decide (x2.2.2.1<(a0.l.length:Int)))=true then
  (rd a0.l x2.2.2.1).bind fun y48=>
  (if y48.slot=true then
   some (IntKind.wrap .i64 (x2.2.2.2+1))
  else
   some x2.2.2.2:Option ((Int))).bind fun r52=>
  (if(decide (r52≤x2.1))=true then
   if(x2.2.1.length+1)*8≤AI.roomBytes then
    some (x2.2.1++[y48.item])
   else none
  else
   some x2.2.1:Option ((List (Int)))).bind fun r57=>
  if y48.closed=true then
   some (.inl ((min x2.1 (IntKind.wrap .i64 (r52-1))),r57,(IntKind.wrap .i64 (x2.2.2.1+1)),(IntKind.wrap .i64 (r52-1))))
  else
   some (.inl (x2.1,r57,(IntKind.wrap .i64 (x2.2.2.1+1)),r52))
 else
  some (.inr x2.2.1)
theorem zAI (a0:Sl (Step)) (x2:Int×List (Int)×Int×Int) (o:(Int×List (Int)×Int×Int)⊕((List (Int)))) (h:zcI a0 x2=some o):Wp prog zzY (zht a0 x2) (zbK (0,[]) (zht a0) (zpd a0) o):=by
 unfold zcI at h
 delta zzY zht
 try simp only[go_sem]
 refine zag (fun hc46=> ?_) (fun hc47=> ?_)
 ·rw[if_pos hc46]at h
  try simp only[go_sem]
  obtain⟨y48,hy49,h⟩:=bs h
  try simp only[go_sem,zab hy49,zad hy49,zac zan hy49]
  obtain⟨r52,hl53,h⟩:=bs h
  refine WBr.cut (n:=(0,[])) .normal ⟨(((((Regs.none.set 0 (.d (.list a0.n (a0.l.map zan)))).set 9 (.d (.int .i64 r52))).set 10 (.d (.int .i64 x2.1))).set 12 (.sl 33 0 x2.2.1.length)).set 13 (.d (.int .i64 x2.2.2.1))),((Heap.at 51).set 33 (some (.els 1 (x2.2.1.map fun z=>V.d ((D.int .i64) z)) x2.2.1.length)))⟩ ?_ (by(repeat(first|refine Clo.block ?_|refine Clo.seq zba rfl ?_));(exact Clo.lpost (by decide))) ?_
  ·replace h:=hl53
   refine zag (fun hc50=> ?_) (fun hc51=> ?_)
   ·rw[if_pos hc50]at h
    try simp only[go_sem,zab hy49,zad hy49,zac zan hy49]
    cases h
    exact⟨rfl,Up.of (N:=51) (N':=54) [] rfl rfl (by decide) (.set (.d _) (.set (.sl'' rfl (by rfl)) (.set (.d _) (.set (.d _) (.set (.d _) zai.none))))) (.set (zau.arr (e:=(D.int .i64)) (l:=x2.2.1) (by rfl) (by exact Nat.le_refl _)) zal.at)⟩
   rw[if_neg (ff hc51)]at h
   try simp only[go_sem,zab hy49,zad hy49,zac zan hy49]
   cases h
   exact⟨rfl,Up.of (N:=51) (N':=51) [] rfl rfl (by decide) (.set (.d _) (.set (.sl'' rfl (by rfl)) (.set (.d _) (.set (.d _) (.set (.d _) zai.none))))) (.set (zau.arr (e:=(D.int .i64)) (l:=x2.2.1) (by rfl) (by exact Nat.le_refl _)) zal.at)⟩
  try simp only[go_sem,zab hy49,zad hy49,zac zan hy49]
  obtain⟨r57,hl58,h⟩:=bs h
  refine WBr.cut (n:=(0,[])) .normal ⟨(((((Regs.none.set 0 (.d (.list a0.n (a0.l.map zan)))).set 9 (.d (.int .i64 r52))).set 10 (.d (.int .i64 x2.1))).set 12 (.sl 53 0 r57.length)).set 13 (.d (.int .i64 x2.2.2.1))),((Heap.at 54).set 53 (some (.els 1 (r57.map fun z=>V.d ((D.int .i64) z)) r57.length)))⟩ ?_ (by(repeat(first|refine Clo.block ?_|refine Clo.seq zba rfl ?_));(exact Clo.lpost (by decide))) ?_
  ·replace h:=hl58
   refine zag (fun hc54=> ?_) (fun hc55=> ?_)
   ·rw[if_pos hc54]at h
    try simp only[go_sem,zab hy49,zad hy49,zac zan hy49]
    obtain⟨hm56,h⟩:=zbU h
    refine zeF (l:=x2.2.1.map fun z=>V.d ((D.int .i64) z)) (fz:=x2.2.1.length) (new:=[V.d (.int .i64 y48.item)]) (by simp only[go_sem,List.map_append,List.map_cons,List.map_nil,zab hy49,zad hy49,zac zan hy49]) (by simp only[go_sem,zcu,zcJ,zcv,zbC,zhR]) (by simp) (by rfl) (by simp) (by simpa using hm56) ?_
    try simp only[go_sem,zab hy49,zad hy49,zac zan hy49,hm56]
    cases h
    exact⟨rfl,Up.of (N:=54) (N':=63) [(53,61)] rfl rfl (by decide) (.set (.d _) (.set (.sl'' rfl (by(simp;done))) (.set (.d _) (.set (.d _) (.set (.d _) zai.none))))) (.set (zau.arr (e:=(D.int .i64)) (l:=(x2.2.1++[y48.item])) (by(simp;done)) (by simp)) zal.at)⟩
   rw[if_neg (ff hc55)]at h
   try simp only[go_sem,zab hy49,zad hy49,zac zan hy49]
   cases h
   exact⟨rfl,Up.of (N:=54) (N':=54) [(33,53),(53,33)] rfl rfl (by decide) (.set (.d _) (.set (.sl'' rfl (by rfl)) (.set (.d _) (.set (.d _) (.set (.d _) zai.none))))) (.set (zau.arr (e:=(D.int .i64)) (l:=x2.2.1) (by rfl) (by exact Nat.le_refl _)) zal.at)⟩
  try simp only[go_sem,zab hy49,zad hy49,zac zan hy49]
  refine zag (fun hc59=> ?_) (fun hc60=> ?_)
  ·rw[if_pos hc59]at h
   try simp only[go_sem,zab hy49,zad hy49,zac zan hy49]
   cases h
   exact⟨rfl,Up.of (N:=42) (N':=69) [(33,53)] rfl rfl (by decide) (.set (.d _) (.set (.sl'' rfl (by rfl)) (.set (.d _) (.set (.d _) (.set (.d _) zai.none))))) (.set (zau.arr (e:=(D.int .i64)) (l:=r57) (by rfl) (by exact Nat.le_refl _)) zal.at)⟩
  rw[if_neg (ff hc60)]at h
  try simp only[go_sem,zab hy49,zad hy49,zac zan hy49]
  cases h
  exact⟨rfl,Up.of (N:=42) (N':=62) [(33,53)] rfl rfl (by decide) (.set (.d _) (.set (.sl'' rfl (by rfl)) (.set (.d _) (.set (.d _) (.set (.d _) zai.none))))) (.set (zau.arr (e:=(D.int .i64)) (l:=r57) (by rfl) (by exact Nat.le_refl _)) zal.at)⟩
 rw[if_neg (ff hc47)]at h
 try simp only[go_sem]
 cases h
 exact⟨rfl,by simp,Up.of (N:=42) (N':=46) [(33,41),(41,33)] rfl rfl (by decide) (.set (.sl'' rfl (by rfl)) zai.none) (.set (zau.arr (e:=(D.int .i64)) (l:=x2.2.1) (by rfl) (by exact Nat.le_refl _)) zal.at)⟩
noncomputable def P36 (a0:Sl (Step)) (a1:Int):Option (Sl (Int)×Int):=
 if(decide (4096<(a0.l.length:Int)))=true then
  some (⟨true,[]⟩,3)
 else
  if(bif (decide (a1<0))then true else(decide ((a0.l.length:Int)≤a1)))=true then
   some (⟨true,[]⟩,2)
  else
   (zaR (zec a0 a1) (0,(IntKind.wrap .i64 ((a0.l.length:Int)-1)))).bind fun r20=>
   (zaR (zcH a0 a1 r20) (r20,(IntKind.wrap .i64 (a1-1)),[],r20)).bind fun r41=>
   (rd a0.l a1).bind fun y43=>
   if(r41.length+1)*8≤AI.roomBytes then
    (zaR (zcI a0) (r20,(r41++[y43.item]),(IntKind.wrap .i64 (a1+1)),r20)).bind fun r61=>
    some (⟨false,r61⟩,0)
   else none
theorem zKN (a0:Sl (Step)) (a1:Int) (r:Sl (Int)×Int) (h:P36 a0 a1=some r):pc prog 36 [.list a0.n (a0.l.map zan),.int .i64 a1]=some ((eT2 (eSl (D.int .i64)) (D.int .i64)) r):=by
 unfold P36 at h
 refine zbk (fn:=c36) rfl rfl ?_
 delta c36
 try simp only[go_sem]
 refine zag (fun hc1=> ?_) (fun hc2=> ?_)
 ·rw[if_pos hc1]at h
  try simp only[go_sem]
  cases h
  rfl
 rw[if_neg (ff hc2)]at h
 try simp only[go_sem]
 refine zaa (v:= .d (.int .i64 a1)) (fun hb66=>by simp only[go_sem,hc2,hb66]) ?_
 try simp only[go_sem]
 refine zaa (v:= .d (.list a0.n (a0.l.map zan))) (fun hb65=>by simp only[go_sem,hc2,hb65]) ?_
 try simp only[go_sem]
 refine zaa (v:= .d (.int .i64 (a0.l.length:Int))) (fun hb64=>by simp only[go_sem,hc2,hb64]) ?_
 try simp only[go_sem]
 refine zaa (v:= .d (.bool (decide ((a0.l.length:Int)≤a1)))) (fun hb63=>by simp only[go_sem,hc2,hb63]) ?_
 try simp only[go_sem]
 refine zag (fun hc3=> ?_) (fun hc4=> ?_)
 ·rw[if_pos hc3]at h
  try simp only[go_sem]
  cases h
  rfl
 rw[if_neg (ff hc4)]at h
 try simp only[go_sem]
 obtain⟨r20,hl21,h⟩:=bs h
 refine Wp.loopR zba (n:=(0,[])) (a:=zzW) rfl (zhr a0 a1) (zpb a0 a1) (zAG a0 a1) hl21 ?_ (by(repeat(first|refine Clo.block ?_|refine Clo.seq zba rfl ?_));(exact Clo.ret)) ?_
 ·show Up (0,[]) (zhr a0 a1 (0,(IntKind.wrap .i64 ((a0.l.length:Int)-1)))) _
  delta zhr
  exact Up.of (N:=18) (N':=18) [] rfl rfl (by decide) (.set (.d _) (.set (.d _) (.set (.d _) (.set (.d _) zai.none)))) zal.at
 dsimp only[zpb]
 try simp only[go_sem]
 obtain⟨r41,hl42,h⟩:=bs h
 refine Wp.loopR zba (n:=(0,[])) (a:=zzX) rfl (zhs a0 a1 r20) (zpc a0 a1 r20) (zAH a0 a1 r20) hl42 ?_ (by(repeat(first|refine Clo.block ?_|refine Clo.seq zba rfl ?_));(exact Clo.ret)) ?_
 ·show Up (0,[]) (zhs a0 a1 r20 (r20,(IntKind.wrap .i64 (a1-1)),[],r20)) _
  delta zhs
  refine Up.of (N:=26) (N':=26) [] rfl rfl (by decide) ?_ ?_
  ·refine zai.set ?_ (zai.set ?_ (zai.set ?_ (zai.set ?_ (zai.set ?_ (zai.set ?_ (zai.set ?_ zai.none))))))
   all_goals (try simp only[go_sem,List.map_append,List.map_cons,List.map_nil])
   all_goals (exact VR.d _)
  refine zal.set (show zau _ _ (Heap.get _ 25)from ?_) (zal.at)
  all_goals (try simp only[go_sem,List.map_append,List.map_cons,List.map_nil])
  all_goals (((repeat' trivial);done))
 dsimp only[zpc]
 try simp only[go_sem]
 obtain⟨y43,hy44,h⟩:=bs h
 try simp only[go_sem,zab hy44,zad hy44,zac zan hy44]
 obtain⟨hm45,h⟩:=zbU h
 refine zgk (l:=r41.map fun z=>V.d ((D.int .i64) z)) (new:=[V.d (.int .i64 y43.item)]) (sz:=1) (fz:=r41.length) (by simp only[go_sem,List.map_append,List.map_cons,List.map_nil,zab hy44,zad hy44,zac zan hy44]) (by intro h;simpa using h) (by simp only[go_sem,zcu,zcJ,zcv,zbC,zhR]) (by simp) (by rfl) (by simpa using hm45) ?_
 try simp only[go_sem,zab hy44,zad hy44,zac zan hy44,hm45]
 obtain⟨r61,hl62,h⟩:=bs h
 refine Wp.loopR zba (n:=(0,[])) (a:=zzY) rfl (zht a0) (zpd a0) (zAI a0) hl62 ?_ (by(repeat(first|refine Clo.block ?_|refine Clo.seq zba rfl ?_));(exact Clo.ret)) ?_
 ·show Up (0,[]) (zht a0 (r20,(r41++[y43.item]),(IntKind.wrap .i64 (a1+1)),r20)) _
  delta zht
  exact Up.of (N:=42) (N':=42) [] rfl rfl (by decide) (.set (.d _) (.set (.sl'' rfl (by(simp;done))) (.set (.d _) (.set (.d _) (.set (.d _) zai.none))))) (.set (zau.arr (e:=(D.int .i64)) (l:=(r41++[y43.item])) (by(simp;done)) (by simp)) zal.at)
 dsimp only[zpd]
 try simp only[go_sem,zab hy44,zad hy44,zac zan hy44,hm45]
 cases h
 refine Reads.ofv (v':=V.ofTuple [.sl 41 0 r61.length,.d (.int .i64 (0))]) (by rfl) (Rd.tuple (RdL.cons (Rd.sl (e:=(D.int .i64)) (l:=r61) (sz:=1) (fz:=r61.length) (m:=r61.map fun z=>V.d ((D.int .i64) z)) (by simp only[go_sem,List.map_append,List.map_cons,List.map_nil,zab hy44,zad hy44,zac zan hy44,hm45]) rfl (by simp)) (RdL.cons Rd.d RdL.nil))) rfl
def zhu (a0:Forest) (a1:Sl (Step)) (x0:Int×Bool×Int×Int×Bool×Bool×Int) (y9:Step) (x1:Int):St:=⟨(((((((((Regs.none.set 2 (.ptr 0 0 0)).set 7 (.ptr 12 0 0)).set 9 (.ptr 20 0 0)).set 22 (.d (.list a1.n (a1.l.map zan)))).set 23 (.d (.int .i64 (a1.l.length:Int)))).set 24 (.d (.int .i64 x0.2.2.2.2.2.2))).set 32 (.sl 26 0 (2))).set 33 (.d (.int .i64 ((2:Nat):Int)))).set 34 (.d (.int .i64 x1))),(((((Heap.at 29).set 0 (some (.els 1 [.d (zam a0)] 0))).set 12 (some (.els 6 [.d (.agg [.int .i64 x0.1,.bool x0.2.1,.int .i64 x0.2.2.1,.int .i64 x0.2.2.2.1,.bool x0.2.2.2.2.1,.bool x0.2.2.2.2.2.1])] 0))).set 20 (some (.els 6 [.d (zan y9)] 0))).set 26 (some (.els 1 [.d (.int .i64 y9.target),.d (.int .i64 y9.related)] 0)))⟩
def zlt (a0:Forest) (a1:Sl (Step)) (x0:Int×Bool×Int×Int×Bool×Bool×Int) (y9:Step):((Unit)⊕(Unit))→Ex×St:=fun r=>match r with
 |(.inl r)=>(.exit 2,⟨((((((Regs.none.set 2 (.ptr 0 0 0)).set 7 (.ptr 12 0 0)).set 9 (.ptr 20 0 0)).set 22 (.d (.list a1.n (a1.l.map zan)))).set 23 (.d (.int .i64 (a1.l.length:Int)))).set 24 (.d (.int .i64 x0.2.2.2.2.2.2))),((((Heap.at 29).set 0 (some (.els 1 [.d (zam a0)] 0))).set 12 (some (.els 6 [.d (.agg [.int .i64 x0.1,.bool x0.2.1,.int .i64 x0.2.2.1,.int .i64 x0.2.2.2.1,.bool x0.2.2.2.2.1,.bool x0.2.2.2.2.2.1])] 0))).set 20 (some (.els 6 [.d (zan y9)] 0)))⟩)
 |(.inr r)=>(.ret,⟨((Regs.none.set 4 (.d (.bool false))).set 5 (.d (.int .i64 (2)))),(Heap.at 29)⟩)
noncomputable def zcl (a0:Forest) (a1:Sl (Step)) (x0:Int×Bool×Int×Int×Bool×Bool×Int) (y9:Step) (x1:Int):Option ((Int)⊕((Unit)⊕(Unit))):=
 if(decide (x1<((2:Nat):Int)))=true then
  (rdA ([y9.target,y9.related]:List (Int)) (2) x1).bind fun y13=>
  if(!(y13==0))=true then
   (dec (D.int .i64) (pc prog 82 [zam a0,.list false (([y13]).map (D.int .i64))])).bind fun r17=>
   if(!(r17==0))=true then
    some (.inr (.inr ()))
   else
    some (.inl (IntKind.wrap .i64 (x1+1)))
  else
   some (.inl (IntKind.wrap .i64 (x1+1)))
 else
  some (.inr (.inl ()))
theorem zAJ (a0:Forest) (a1:Sl (Step)) (x0:Int×Bool×Int×Int×Bool×Bool×Int) (y9:Step) (x1:Int) (o:(Int)⊕((Unit)⊕(Unit))) (h:zcl a0 a1 x0 y9 x1=some o):Wp prog zzZ (zhu a0 a1 x0 y9 x1) (zbK (0,[]) (zhu a0 a1 x0 y9) (zlt a0 a1 x0 y9) o):=by
 unfold zcl at h
 delta zzZ zhu
 try simp only[go_sem]
 refine zag (fun hc11=> ?_) (fun hc12=> ?_)
 ·rw[if_pos hc11]at h
  try simp only[go_sem]
  obtain⟨y13,hy14,h⟩:=bs h
  try simp only[go_sem,zaP hy14,zaW hy14,zaY hy14,(show([.d (.int .i64 y9.target),.d (.int .i64 y9.related)]:List V)[(x1).toNat]? =some (V.d ((D.int .i64) y13))from zaQ (D.int .i64) hy14)]
  refine zaa (v:= .d (zam a0)) (fun hb22=>by(simp only[go_sem,zaP hy14,zaW hy14,zaY hy14,(show([.d (.int .i64 y9.target),.d (.int .i64 y9.related)]:List V)[(x1).toNat]? =some (V.d ((D.int .i64) y13))from zaQ (D.int .i64) hy14),hc11,hb22];done)) ?_
  try simp only[go_sem,zaP hy14,zaW hy14,zaY hy14,(show([.d (.int .i64 y9.target),.d (.int .i64 y9.related)]:List V)[(x1).toNat]? =some (V.d ((D.int .i64) y13))from zaQ (D.int .i64) hy14)]
  refine zaa (v:= .d (.int .i64 y13)) (fun hb21=>by(simp only[go_sem,zaP hy14,zaW hy14,zaY hy14,(show([.d (.int .i64 y9.target),.d (.int .i64 y9.related)]:List V)[(x1).toNat]? =some (V.d ((D.int .i64) y13))from zaQ (D.int .i64) hy14),hc11,hb21];done)) ?_
  try simp only[go_sem,zaP hy14,zaW hy14,zaY hy14,(show([.d (.int .i64 y9.target),.d (.int .i64 y9.related)]:List V)[(x1).toNat]? =some (V.d ((D.int .i64) y13))from zaQ (D.int .i64) hy14)]
  refine zaw (fun hc15=> ?_) (fun hc16=> ?_)
  ·rw[if_pos (show(!(y13==0))=true by(rw[hc15];rfl))]at h
   try simp only[go_sem,zaP hy14,zaW hy14,zaY hy14,(show([.d (.int .i64 y9.target),.d (.int .i64 y9.related)]:List V)[(x1).toNat]? =some (V.d ((D.int .i64) y13))from zaQ (D.int .i64) hy14),hc15]
   obtain⟨r17,hr18,h⟩:=bs h
   replace hr18:=zaq hr18
   refine zat hr18 ?_
   try simp only[go_sem,zaP hy14,zaW hy14,zaY hy14,(show([.d (.int .i64 y9.target),.d (.int .i64 y9.related)]:List V)[(x1).toNat]? =some (V.d ((D.int .i64) y13))from zaQ (D.int .i64) hy14)]
   refine zaO (fun hc19=> ?_) (fun hc20=> ?_)
   ·rw[if_pos (show(!(r17==0))=true by(rw[hc19];rfl))]at h
    try simp only[go_sem,zaP hy14,zaW hy14,zaY hy14,(show([.d (.int .i64 y9.target),.d (.int .i64 y9.related)]:List V)[(x1).toNat]? =some (V.d ((D.int .i64) y13))from zaQ (D.int .i64) hy14)]
    cases h
    exact⟨rfl,by simp,Up.of (N:=29) (N':=44) [] rfl rfl (by decide) (.set (.d _) (.set (.d _) zai.none)) zal.at⟩
   rw[if_neg (ffn hc20)]at h
   try simp only[go_sem,zaP hy14,zaW hy14,zaY hy14,(show([.d (.int .i64 y9.target),.d (.int .i64 y9.related)]:List V)[(x1).toNat]? =some (V.d ((D.int .i64) y13))from zaQ (D.int .i64) hy14)]
   cases h
   exact⟨rfl,Up.of (N:=29) (N':=44) [] rfl rfl (by decide) (.set (.d _) (.set (.d _) (.set (.sl'' rfl (by rfl)) (.set (.d _) (.set (.d _) (.set (.d _) (.set (.ptr' rfl) (.set (.ptr' rfl) (.set (.ptr' rfl) zai.none))))))))) (.set (zau.els (Nat.le_refl _) (.cons (.d _) (.cons (.d _) .nil))) (.set zau.refl_d (.set zau.refl_d (.set zau.refl_d zal.at))))⟩
  rw[if_neg (ffn hc16)]at h
  try simp only[go_sem,zaP hy14,zaW hy14,zaY hy14,(show([.d (.int .i64 y9.target),.d (.int .i64 y9.related)]:List V)[(x1).toNat]? =some (V.d ((D.int .i64) y13))from zaQ (D.int .i64) hy14),hc16]
  cases h
  exact⟨rfl,Up.of (N:=29) (N':=44) [] rfl rfl (by decide) (.set (.d _) (.set (.d _) (.set (.sl'' rfl (by rfl)) (.set (.d _) (.set (.d _) (.set (.d _) (.set (.ptr' rfl) (.set (.ptr' rfl) (.set (.ptr' rfl) zai.none))))))))) (.set (zau.els (Nat.le_refl _) (.cons (.d _) (.cons (.d _) .nil))) (.set zau.refl_d (.set zau.refl_d (.set zau.refl_d zal.at))))⟩
 rw[if_neg (ff hc12)]at h
 try simp only[go_sem]
 cases h
 exact⟨rfl,by simp,Up.of (N:=29) (N':=30) [] rfl rfl (by decide) (.set (.d _) (.set (.d _) (.set (.d _) (.set (.ptr' rfl) (.set (.ptr' rfl) (.set (.ptr' rfl) zai.none)))))) (.set zau.refl_d (.set zau.refl_d (.set zau.refl_d zal.at)))⟩
def zhv (a0:Forest) (a1:Sl (Step)) (x0:Int×Bool×Int×Int×Bool×Bool×Int):St:=⟨(((((Regs.none.set 2 (.ptr 0 0 0)).set 7 (.ptr 12 0 0)).set 22 (.d (.list a1.n (a1.l.map zan)))).set 23 (.d (.int .i64 (a1.l.length:Int)))).set 24 (.d (.int .i64 x0.2.2.2.2.2.2))),(((Heap.at 17).set 0 (some (.els 1 [.d (zam a0)] 0))).set 12 (some (.els 6 [.d (.agg [.int .i64 x0.1,.bool x0.2.1,.int .i64 x0.2.2.1,.int .i64 x0.2.2.2.1,.bool x0.2.2.2.2.1,.bool x0.2.2.2.2.2.1])] 0)))⟩
def zlu (a0:Forest) (a1:Sl (Step)):((Step)⊕(Unit))→Ex×St:=fun r=>match r with
 |(.inl r)=>(.exit 0,⟨((Regs.none.set 2 (.ptr 0 0 0)).set 7 (.ptr 12 0 0)),(((Heap.at 17).set 0 (some (.els 1 [.d (zam a0)] 0))).set 12 (some (.els 6 [.d (zan r)] 0)))⟩)
 |(.inr r)=>(.ret,⟨((Regs.none.set 4 (.d (.bool false))).set 5 (.d (.int .i64 (2)))),(Heap.at 17)⟩)
noncomputable def zcm (a0:Forest) (a1:Sl (Step)) (x0:Int×Bool×Int×Int×Bool×Bool×Int):Option ((Int×Bool×Int×Int×Bool×Bool×Int)⊕((Step)⊕(Unit))):=
 if(decide (x0.2.2.2.2.2.2<(a1.l.length:Int)))=true then
  (rd a1.l x0.2.2.2.2.2.2).bind fun y9=>
  (zaR (zcl a0 a1 x0 y9) 0).bind fun r23=>
  match r23 with
  |(.inl q25)=>
   (if(!(y9.target==0))=true then
    some y9
   else
    some (⟨x0.1,x0.2.1,x0.2.2.1,x0.2.2.2.1,x0.2.2.2.2.1,x0.2.2.2.2.2.1⟩:Step):Option ((Step))).bind fun r28=>
   some (.inl (r28.item,r28.inShadow,r28.target,r28.related,r28.closed,r28.slot,(IntKind.wrap .i64 (x0.2.2.2.2.2.2+1))))
  |(.inr q30)=>
   some (.inr (.inr ()))
 else
  some (.inr (.inl (⟨x0.1,x0.2.1,x0.2.2.1,x0.2.2.2.1,x0.2.2.2.2.1,x0.2.2.2.2.2.1⟩:Step)))
theorem zAK (a0:Forest) (a1:Sl (Step)) (x0:Int×Bool×Int×Int×Bool×Bool×Int) (o:(Int×Bool×Int×Int×Bool×Bool×Int)⊕((Step)⊕(Unit))) (h:zcm a0 a1 x0=some o):Wp prog zAa (zhv a0 a1 x0) (zbK (0,[]) (zhv a0 a1) (zlu a0 a1) o):=by
 unfold zcm at h
 delta zAa zhv
 try simp only[go_sem]
 refine zag (fun hc7=> ?_) (fun hc8=> ?_)
 ·rw[if_pos hc7]at h
  try simp only[go_sem]
  obtain⟨y9,hy10,h⟩:=bs h
  try simp only[go_sem,zab hy10,zad hy10,zac zan hy10]
  obtain⟨r23,hl24,h⟩:=bs h
  refine Wp.loopR zba (n:=(0,[])) (a:=zzZ) rfl (zhu a0 a1 x0 y9) (zlt a0 a1 x0 y9) (zAJ a0 a1 x0 y9) hl24 ?_ (by(repeat(first|refine Clo.block ?_|refine Clo.seq zba rfl ?_));(exact Clo.lpost (by decide))) ?_
  ·show Up (0,[]) (zhu a0 a1 x0 y9 0) _
   delta zhu
   exact Up.of (N:=29) (N':=29) [] rfl rfl (by decide) (.set (.d _) (.set (.d _) (.set (.sl'' rfl (by rfl)) (.set (.d _) (.set (.d _) (.set (.d _) (.set (.ptr' rfl) (.set (.ptr' rfl) (.set (.ptr' rfl) zai.none))))))))) (.set (zau.els (Nat.le_refl _) (.cons (.d _) (.cons (.d _) .nil))) (.set zau.refl_d (.set zau.refl_d (.set zau.refl_d zal.at))))
  rcases r23 with(q25|q30)
  ·dsimp only at h
   dsimp only[zlt]
   try simp only[go_sem,zab hy10,zad hy10,zac zan hy10]
   obtain⟨r28,hl29,h⟩:=bs h
   refine WBr.cut (n:=(0,[])) .normal ⟨(((((Regs.none.set 2 (.ptr 0 0 0)).set 7 (.ptr 12 0 0)).set 22 (.d (.list a1.n (a1.l.map zan)))).set 23 (.d (.int .i64 (a1.l.length:Int)))).set 24 (.d (.int .i64 x0.2.2.2.2.2.2))),(((Heap.at 32).set 0 (some (.els 1 [.d (zam a0)] 0))).set 12 (some (.els 6 [.d (zan r28)] 0)))⟩ ?_ (by(repeat(first|refine Clo.block ?_|refine Clo.seq zba rfl ?_));(exact Clo.lpost (by decide))) ?_
   ·replace h:=hl29
    refine zaO (fun hc26=> ?_) (fun hc27=> ?_)
    ·rw[if_pos (show(!(y9.target==0))=true by(rw[hc26];rfl))]at h
     try simp only[go_sem,zab hy10,zad hy10,zac zan hy10]
     cases h
     exact⟨rfl,Up.of (N:=32) (N':=34) [] rfl rfl (by decide) (.set (.d _) (.set (.d _) (.set (.d _) (.set (.ptr' rfl) (.set (.ptr' rfl) zai.none))))) (.set zau.refl_d (.set zau.refl_d zal.at))⟩
    rw[if_neg (ffn hc27)]at h
    try simp only[go_sem,zab hy10,zad hy10,zac zan hy10]
    cases h
    refine⟨rfl,Up.of (N:=32) (N':=32) [] rfl rfl (by decide) ?_ ?_⟩
    ·refine zai.set ?_ (zai.set ?_ (zai.set ?_ (zai.set ?_ (zai.set ?_ zai.none))))
     all_goals (try simp only[go_sem,List.map_append,List.map_cons,List.map_nil,zab hy10,zad hy10,zac zan hy10])
     all_goals (first|exact VR.d _|exact VR.ptr' rfl)
    refine zal.set (show zau _ _ (Heap.get _ 12)from ?_) (zal.set (show zau _ _ (Heap.get _ 0)from ?_) (zal.at))
    all_goals (try simp only[go_sem,List.map_append,List.map_cons,List.map_nil,zab hy10,zad hy10,zac zan hy10])
    all_goals (exact zau.refl_d)
   try simp only[go_sem,zab hy10,zad hy10,zac zan hy10]
   cases h
   refine⟨rfl,Up.of (N:=17) (N':=34) [] rfl rfl (by decide) ?_ ?_⟩
   ·refine zai.set ?_ (zai.set ?_ (zai.set ?_ (zai.set ?_ (zai.set ?_ zai.none))))
    all_goals (try simp only[go_sem,List.map_append,List.map_cons,List.map_nil,zab hy10,zad hy10,zac zan hy10])
    all_goals (first|exact VR.d _|exact VR.ptr' rfl)
   refine zal.set (show zau _ _ (Heap.get _ 12)from ?_) (zal.set (show zau _ _ (Heap.get _ 0)from ?_) (zal.at))
   all_goals (try simp only[go_sem,List.map_append,List.map_cons,List.map_nil,zab hy10,zad hy10,zac zan hy10])
   all_goals (exact zau.refl_d)
  dsimp only at h
  dsimp only[zlt]
  try simp only[go_sem,zab hy10,zad hy10,zac zan hy10]
  cases h
  exact⟨rfl,by simp,Up.of (N:=17) (N':=29) [] rfl rfl (by decide) (.set (.d _) (.set (.d _) zai.none)) zal.at⟩
 rw[if_neg (ff hc8)]at h
 try simp only[go_sem]
 cases h
 refine⟨rfl,by simp,Up.of (N:=17) (N':=18) [] rfl rfl (by decide) ?_ ?_⟩
 ·refine zai.set ?_ (zai.set ?_ zai.none)
  all_goals (try simp only[go_sem,List.map_append,List.map_cons,List.map_nil])
  all_goals (exact VR.ptr' rfl)
 refine zal.set (show zau _ _ (Heap.get _ 12)from ?_) (zal.set (show zau _ _ (Heap.get _ 0)from ?_) (zal.at))
 all_goals (try simp only[go_sem,List.map_append,List.map_cons,List.map_nil])
 all_goals (exact zau.refl_d)
noncomputable def P37 (a0:Forest) (a1:Sl (Step)):Option (Bool×Int):=
 (dec (D.int .i64) (pc prog 82 [zam a0,.list true []])).bind fun r1=>
 if(!(r1==0))=true then
  some (false,r1)
 else
  if(decide (4096<(a1.l.length:Int)))=true then
   some (false,3)
  else
   (zaR (zcm a0 a1) (0,false,0,0,false,false,0)).bind fun r31=>
   match r31 with
   |(.inl q33)=>
    if(!(q33.target==0))=true then
     (dec zaj (pc prog 84 [zam a0,.int .i64 q33.target])).bind fun r36=>
     if(!(r36.kind==12))=true then
      if(!(q33.related==0))=true then
       (dec zaj (pc prog 84 [zam a0,.int .i64 q33.related])).bind fun r42=>
       some ((r42.kind==12),0)
      else
       some (false,0)
     else
      some (true,0)
    else
     some (false,0)
   |(.inr q46)=>
    some (false,2)
theorem zKO (a0:Forest) (a1:Sl (Step)) (r:Bool×Int) (h:P37 a0 a1=some r):pc prog 37 [zam a0,.list a1.n (a1.l.map zan)]=some ((eT2 D.bool (D.int .i64)) r):=by
 unfold P37 at h
 refine zbk (fn:=c37) rfl rfl ?_
 delta c37
 try simp only[go_sem]
 obtain⟨r1,hr2,h⟩:=bs h
 replace hr2:=zaq hr2
 refine zat hr2 ?_
 try simp only[go_sem]
 refine zaO (fun hc3=> ?_) (fun hc4=> ?_)
 ·rw[if_pos (show(!(r1==0))=true by(rw[hc3];rfl))]at h
  try simp only[go_sem]
  cases h
  rfl
 rw[if_neg (ffn hc4)]at h
 try simp only[go_sem]
 refine zag (fun hc5=> ?_) (fun hc6=> ?_)
 ·rw[if_pos hc5]at h
  try simp only[go_sem]
  cases h
  rfl
 rw[if_neg (ff hc6)]at h
 try simp only[go_sem]
 obtain⟨r31,hl32,h⟩:=bs h
 refine Wp.loopR zba (n:=(0,[])) (a:=zAa) rfl (zhv a0 a1) (zlu a0 a1) (zAK a0 a1) hl32 ?_ (by(repeat(first|refine Clo.block ?_|refine Clo.seq zba rfl ?_));(exact Clo.ret)) ?_
 ·show Up (0,[]) (zhv a0 a1 (0,false,0,0,false,false,0)) _
  delta zhv
  exact Up.of (N:=17) (N':=17) [] rfl rfl (by decide) (.set (.d _) (.set (.d _) (.set (.d _) (.set (.ptr' rfl) (.set (.ptr' rfl) zai.none))))) (.set zau.refl_d (.set zau.refl_d zal.at))
 rcases r31 with(q33|q46)
 ·dsimp only at h
  dsimp only[zlu]
  try simp only[go_sem]
  refine zaw (fun hc34=> ?_) (fun hc35=> ?_)
  ·rw[if_pos (show(!(q33.target==0))=true by(rw[hc34];rfl))]at h
   try simp only[go_sem,hc34]
   refine zmF (fn:=c83) rfl rfl ?_
   delta c83
   try simp only[go_sem]
   try simp only[go_sem,hc4,hc6,hc34]
   obtain⟨r36,hr37,h⟩:=bs h
   replace hr37:=zaq hr37
   refine zat hr37 ?_
   try simp only[go_sem]
   refine zaw (fun hc38=> ?_) (fun hc39=> ?_)
   ·rw[if_pos (show(!(r36.kind==12))=true by(rw[hc38];rfl))]at h
    try simp only[go_sem,hc38]
    refine zmF (fn:=c83) rfl rfl ?_
    delta c83
    try simp only[go_sem]
    refine zaa (v:= .d (zam a0)) (fun hb45=>by simp only[go_sem,hc4,hc6,hc34,hc38,hb45]) ?_
    try simp only[go_sem]
    refine zaa (v:= .d (.int .i64 q33.related)) (fun hb44=>by simp only[go_sem,hc4,hc6,hc34,hc38,hb44]) ?_
    try simp only[go_sem]
    refine zaw (fun hc40=> ?_) (fun hc41=> ?_)
    ·rw[if_pos (show(!(q33.related==0))=true by(rw[hc40];rfl))]at h
     try simp only[go_sem,hc40]
     obtain⟨r42,hr43,h⟩:=bs h
     replace hr43:=zaq hr43
     refine zat hr43 ?_
     try simp only[go_sem]
     cases h
     rfl
    rw[if_neg (ffn hc41)]at h
    try simp only[go_sem,hc41]
    cases h
    rfl
   rw[if_neg (ffn hc39)]at h
   try simp only[go_sem,hc39]
   cases h
   rfl
  rw[if_neg (ffn hc35)]at h
  try simp only[go_sem,hc35]
  cases h
  rfl
 dsimp only at h
 dsimp only[zlu]
 try simp only[go_sem]
 cases h
 rfl
def zhw (a0:Forest) (a1:Sl (Step)) (x0:Int×Int):St:=⟨((((Regs.none.set 1 (.d (.list a1.n (a1.l.map zan)))).set 2 (.ptr 0 0 0)).set 6 (.d (.int .i64 x0.1))).set 7 (.d (.int .i64 x0.2))),((Heap.at 11).set 0 (some (.els 1 [.d (zam a0)] 0)))⟩
def zlv (a0:Forest) (a1:Sl (Step)):((Int)⊕(Unit))→Ex×St:=fun r=>match r with
 |(.inl r)=>(.exit 0,⟨(((Regs.none.set 1 (.d (.list a1.n (a1.l.map zan)))).set 2 (.ptr 0 0 0)).set 6 (.d (.int .i64 r))),((Heap.at 11).set 0 (some (.els 1 [.d (zam a0)] 0)))⟩)
 |(.inr r)=>(.ret,⟨((Regs.none.set 4 (.d (.bool false))).set 5 (.d (.int .i64 (2)))),(Heap.at 11)⟩)
noncomputable def zcn (a0:Forest) (a1:Sl (Step)) (x0:Int×Int):Option ((Int×Int)⊕((Int)⊕(Unit))):=
 if(decide (x0.2<(a1.l.length:Int)))=true then
  (rd a1.l x0.2).bind fun y9=>
  if(!(decide (y9.target<0)))=true then
   if(!(decide ((a0.nodes.l.length:Int)<y9.target)))=true then
    if(!(decide (y9.related<0)))=true then
     if(decide ((a0.nodes.l.length:Int)<y9.related))=true then
      some (.inr (.inr ()))
     else
      (if(!(y9.target==0))=true then
       some x0.2
      else
       some x0.1:Option ((Int))).bind fun r21=>
      some (.inl (r21,(IntKind.wrap .i64 (x0.2+1))))
    else
     some (.inr (.inr ()))
   else
    some (.inr (.inr ()))
  else
   some (.inr (.inr ()))
 else
  some (.inr (.inl x0.1))
theorem zAL (a0:Forest) (a1:Sl (Step)) (x0:Int×Int) (o:(Int×Int)⊕((Int)⊕(Unit))) (h:zcn a0 a1 x0=some o):Wp prog zAb (zhw a0 a1 x0) (zbK (0,[]) (zhw a0 a1) (zlv a0 a1) o):=by
 unfold zcn at h
 delta zAb zhw
 try simp only[go_sem]
 refine zag (fun hc7=> ?_) (fun hc8=> ?_)
 ·rw[if_pos hc7]at h
  try simp only[go_sem]
  obtain⟨y9,hy10,h⟩:=bs h
  try simp only[go_sem,zab hy10,zad hy10,zac zan hy10]
  refine zaa (v:= .d (.list a1.n (a1.l.map zan))) (fun hb28=>by simp only[go_sem,zab hy10,zad hy10,zac zan hy10,hc7,hb28]) ?_
  try simp only[go_sem,zab hy10,zad hy10,zac zan hy10]
  refine zaa (v:= .d (.int .i64 x0.2)) (fun hb27=>by simp only[go_sem,zab hy10,zad hy10,zac zan hy10,hc7,hb27]) ?_
  try simp only[go_sem,zab hy10,zad hy10,zac zan hy10]
  refine zaw (fun hc11=> ?_) (fun hc12=> ?_)
  ·rw[if_pos (show(!(decide (y9.target<0)))=true by(rw[hc11];rfl))]at h
   try simp only[go_sem,zab hy10,zad hy10,zac zan hy10,hc11]
   refine zaa (v:= .d (.list a1.n (a1.l.map zan))) (fun hb26=>by simp only[go_sem,zab hy10,zad hy10,zac zan hy10,hc7,hc11,hb26]) ?_
   try simp only[go_sem,zab hy10,zad hy10,zac zan hy10]
   refine zaa (v:= .d (.int .i64 x0.2)) (fun hb25=>by simp only[go_sem,zab hy10,zad hy10,zac zan hy10,hc7,hc11,hb25]) ?_
   try simp only[go_sem,zab hy10,zad hy10,zac zan hy10]
   refine zaw (fun hc13=> ?_) (fun hc14=> ?_)
   ·rw[if_pos (show(!(decide ((a0.nodes.l.length:Int)<y9.target)))=true by(rw[hc13];rfl))]at h
    try simp only[go_sem,zab hy10,zad hy10,zac zan hy10,hc13]
    refine zaa (v:= .d (.list a1.n (a1.l.map zan))) (fun hb24=>by simp only[go_sem,zab hy10,zad hy10,zac zan hy10,hc7,hc11,hc13,hb24]) ?_
    try simp only[go_sem,zab hy10,zad hy10,zac zan hy10]
    refine zaa (v:= .d (.int .i64 x0.2)) (fun hb23=>by simp only[go_sem,zab hy10,zad hy10,zac zan hy10,hc7,hc11,hc13,hb23]) ?_
    try simp only[go_sem,zab hy10,zad hy10,zac zan hy10]
    refine zaw (fun hc15=> ?_) (fun hc16=> ?_)
    ·rw[if_pos (show(!(decide (y9.related<0)))=true by(rw[hc15];rfl))]at h
     try simp only[go_sem,zab hy10,zad hy10,zac zan hy10,hc15]
     refine zag (fun hc17=> ?_) (fun hc18=> ?_)
     ·rw[if_pos hc17]at h
      try simp only[go_sem,zab hy10,zad hy10,zac zan hy10]
      cases h
      exact⟨rfl,by simp,Up.of (N:=11) (N':=53) [] rfl rfl (by decide) (.set (.d _) (.set (.d _) zai.none)) zal.at⟩
     rw[if_neg (ff hc18)]at h
     try simp only[go_sem,zab hy10,zad hy10,zac zan hy10]
     obtain⟨r21,hl22,h⟩:=bs h
     refine WBr.cut (n:=(0,[])) .normal ⟨((((Regs.none.set 1 (.d (.list a1.n (a1.l.map zan)))).set 2 (.ptr 0 0 0)).set 6 (.d (.int .i64 r21))).set 7 (.d (.int .i64 x0.2))),((Heap.at 57).set 0 (some (.els 1 [.d (zam a0)] 0)))⟩ ?_ (by(repeat(first|refine Clo.block ?_|refine Clo.seq zba rfl ?_));(exact Clo.lpost (by decide))) ?_
     ·replace h:=hl22
      refine zaO (fun hc19=> ?_) (fun hc20=> ?_)
      ·rw[if_pos (show(!(y9.target==0))=true by(rw[hc19];rfl))]at h
       try simp only[go_sem,zab hy10,zad hy10,zac zan hy10]
       cases h
       exact⟨rfl,Up.of (N:=57) (N':=59) [] rfl rfl (by decide) (.set (.d _) (.set (.d _) (.set (.ptr' rfl) (.set (.d _) zai.none)))) (.set zau.refl_d zal.at)⟩
      rw[if_neg (ffn hc20)]at h
      try simp only[go_sem,zab hy10,zad hy10,zac zan hy10]
      cases h
      exact⟨rfl,Up.of (N:=57) (N':=57) [] rfl rfl (by decide) (.set (.d _) (.set (.d _) (.set (.ptr' rfl) (.set (.d _) zai.none)))) (.set zau.refl_d zal.at)⟩
     try simp only[go_sem,zab hy10,zad hy10,zac zan hy10]
     cases h
     exact⟨rfl,Up.of (N:=11) (N':=60) [] rfl rfl (by decide) (.set (.d _) (.set (.d _) (.set (.ptr' rfl) (.set (.d _) zai.none)))) (.set zau.refl_d zal.at)⟩
    rw[if_neg (ffn hc16)]at h
    try simp only[go_sem,zab hy10,zad hy10,zac zan hy10,hc16]
    cases h
    exact⟨rfl,by simp,Up.of (N:=11) (N':=53) [] rfl rfl (by decide) (.set (.d _) (.set (.d _) zai.none)) zal.at⟩
   rw[if_neg (ffn hc14)]at h
   try simp only[go_sem,zab hy10,zad hy10,zac zan hy10,hc14]
   cases h
   exact⟨rfl,by simp,Up.of (N:=11) (N':=53) [] rfl rfl (by decide) (.set (.d _) (.set (.d _) zai.none)) zal.at⟩
  rw[if_neg (ffn hc12)]at h
  try simp only[go_sem,zab hy10,zad hy10,zac zan hy10,hc12]
  cases h
  exact⟨rfl,by simp,Up.of (N:=11) (N':=53) [] rfl rfl (by decide) (.set (.d _) (.set (.d _) zai.none)) zal.at⟩
 rw[if_neg (ff hc8)]at h
 try simp only[go_sem]
 cases h
 exact⟨rfl,by simp,Up.of (N:=11) (N':=15) [] rfl rfl (by decide) (.set (.d _) (.set (.ptr' rfl) (.set (.d _) zai.none))) (.set zau.refl_d zal.at)⟩
noncomputable def P38 (a0:Forest) (a1:Sl (Step)):Option (Bool×Int):=
 (dec D.bool (pc prog 85 [zam a0])).bind fun r1=>
 if(!r1)=true then
  some (false,5)
 else
  if(decide (4096<(a1.l.length:Int)))=true then
   some (false,3)
  else
   (zaR (zcn a0 a1) ((-1),0)).bind fun r29=>
   match r29 with
   |(.inl q31)=>
    if(decide (q31<0))=true then
     some (false,0)
    else
     (rd a1.l q31).bind fun y34=>
     (dec D.bool (pc prog 86 [zam a0,.int .i64 y34.target])).bind fun r36=>
     if(!r36)=true then
      if(!(y34.related==0))=true then
       (dec D.bool (pc prog 86 [zam a0,.int .i64 y34.related])).bind fun r42=>
       some (r42,0)
      else
       some (false,0)
     else
      some (true,0)
   |(.inr q49)=>
    some (false,2)
theorem zKP (a0:Forest) (a1:Sl (Step)) (r:Bool×Int) (h:P38 a0 a1=some r):pc prog 38 [zam a0,.list a1.n (a1.l.map zan)]=some ((eT2 D.bool (D.int .i64)) r):=by
 unfold P38 at h
 refine zbk (fn:=c38) rfl rfl ?_
 delta c38
 try simp only[go_sem]
 obtain⟨r1,hr2,h⟩:=bs h
 replace hr2:=zaq hr2
 refine zat hr2 ?_
 try simp only[go_sem]
 refine zaO (fun hc3=> ?_) (fun hc4=> ?_)
 ·rw[if_pos (show(!r1)=true by(rw[hc3];rfl))]at h
  try simp only[go_sem]
  cases h
  rfl
 rw[if_neg (ffn hc4)]at h
 try simp only[go_sem]
 refine zag (fun hc5=> ?_) (fun hc6=> ?_)
 ·rw[if_pos hc5]at h
  try simp only[go_sem]
  cases h
  rfl
 rw[if_neg (ff hc6)]at h
 try simp only[go_sem]
 obtain⟨r29,hl30,h⟩:=bs h
 refine Wp.loopR zba (n:=(0,[])) (a:=zAb) rfl (zhw a0 a1) (zlv a0 a1) (zAL a0 a1) hl30 ?_ (by(repeat(first|refine Clo.block ?_|refine Clo.seq zba rfl ?_));(exact Clo.ret)) ?_
 ·show Up (0,[]) (zhw a0 a1 ((-1),0)) _
  delta zhw
  exact Up.of (N:=11) (N':=11) [] rfl rfl (by decide) (.set (.d _) (.set (.d _) (.set (.ptr' rfl) (.set (.d _) zai.none)))) (.set zau.refl_d zal.at)
 rcases r29 with(q31|q49)
 ·dsimp only at h
  dsimp only[zlv]
  try simp only[go_sem]
  refine zag (fun hc32=> ?_) (fun hc33=> ?_)
  ·rw[if_pos hc32]at h
   try simp only[go_sem]
   cases h
   rfl
  rw[if_neg (ff hc33)]at h
  try simp only[go_sem]
  obtain⟨y34,hy35,h⟩:=bs h
  try simp only[go_sem,zab hy35,zad hy35,zac zan hy35]
  obtain⟨r36,hr37,h⟩:=bs h
  replace hr37:=zaq hr37
  refine zat hr37 ?_
  try simp only[go_sem,zab hy35,zad hy35,zac zan hy35]
  refine zaa (v:= .d (.list a1.n (a1.l.map zan))) (fun hb48=>by simp only[go_sem,zab hy35,zad hy35,zac zan hy35,hc4,hc6,hc33,hb48]) ?_
  try simp only[go_sem,zab hy35,zad hy35,zac zan hy35]
  refine zaa (v:= .d (.int .i64 q31)) (fun hb47=>by simp only[go_sem,zab hy35,zad hy35,zac zan hy35,hc4,hc6,hc33,hb47]) ?_
  try simp only[go_sem,zab hy35,zad hy35,zac zan hy35]
  refine zaw (fun hc38=> ?_) (fun hc39=> ?_)
  ·rw[if_pos (show(!r36)=true by(rw[hc38];rfl))]at h
   try simp only[go_sem,zab hy35,zad hy35,zac zan hy35,hc38]
   refine zaa (v:= .d (zam a0)) (fun hb46=>by simp only[go_sem,zab hy35,zad hy35,zac zan hy35,hc4,hc6,hc33,hc38,hb46]) ?_
   try simp only[go_sem,zab hy35,zad hy35,zac zan hy35]
   refine zaa (v:= .d (.list a1.n (a1.l.map zan))) (fun hb45=>by simp only[go_sem,zab hy35,zad hy35,zac zan hy35,hc4,hc6,hc33,hc38,hb45]) ?_
   try simp only[go_sem,zab hy35,zad hy35,zac zan hy35]
   refine zaa (v:= .d (.int .i64 q31)) (fun hb44=>by simp only[go_sem,zab hy35,zad hy35,zac zan hy35,hc4,hc6,hc33,hc38,hb44]) ?_
   try simp only[go_sem,zab hy35,zad hy35,zac zan hy35]
   refine zaw (fun hc40=> ?_) (fun hc41=> ?_)
   ·rw[if_pos (show(!(y34.related==0))=true by(rw[hc40];rfl))]at h
    try simp only[go_sem,zab hy35,zad hy35,zac zan hy35,hc40]
    obtain⟨r42,hr43,h⟩:=bs h
    replace hr43:=zaq hr43
    refine zat hr43 ?_
    try simp only[go_sem,zab hy35,zad hy35,zac zan hy35]
    cases h
    rfl
   rw[if_neg (ffn hc41)]at h
   try simp only[go_sem,zab hy35,zad hy35,zac zan hy35,hc41]
   cases h
   rfl
  rw[if_neg (ffn hc39)]at h
  try simp only[go_sem,zab hy35,zad hy35,zac zan hy35,hc39]
  cases h
  rfl
 dsimp only at h
 dsimp only[zlv]
 try simp only[go_sem]
 cases h
 rfl
def zhx (a0:Sl (Int)) (a1:Sl (Int)) (x0:Int):St:=⟨(((Regs.none.set 0 (.d (.list a0.n (a0.l.map (D.int .i64))))).set 1 (.d (.list a1.n (a1.l.map (D.int .i64))))).set 5 (.d (.int .i64 x0))),(Heap.at 7)⟩
def zlw (a0:Sl (Int)) (a1:Sl (Int)):((Unit)⊕(Unit))→Ex×St:=fun r=>match r with
 |(.inl r)=>(.exit 0,⟨Regs.none,(Heap.at 7)⟩)
 |(.inr r)=>(.ret,⟨(Regs.none.set 4 (.d (.bool false))),(Heap.at 7)⟩)
noncomputable def zde (a0:Sl (Int)) (a1:Sl (Int)) (x0:Int):Option ((Int)⊕((Unit)⊕(Unit))):=
 if(decide (x0<(a0.l.length:Int)))=true then
  (rd a0.l x0).bind fun y5=>
  (rd a1.l x0).bind fun y7=>
  if(!(y5==y7))=true then
   some (.inr (.inr ()))
  else
   some (.inl (IntKind.wrap .i64 (x0+1)))
 else
  some (.inr (.inl ()))
theorem zAM (a0:Sl (Int)) (a1:Sl (Int)) (x0:Int) (o:(Int)⊕((Unit)⊕(Unit))) (h:zde a0 a1 x0=some o):Wp prog zAc (zhx a0 a1 x0) (zbK (0,[]) (zhx a0 a1) (zlw a0 a1) o):=by
 unfold zde at h
 delta zAc zhx
 try simp only[go_sem]
 refine zag (fun hc3=> ?_) (fun hc4=> ?_)
 ·rw[if_pos hc3]at h
  try simp only[go_sem]
  obtain⟨y5,hy6,h⟩:=bs h
  try simp only[go_sem,zab hy6,zad hy6,zac (D.int .i64) hy6]
  obtain⟨y7,hy8,h⟩:=bs h
  try simp only[go_sem,zab hy6,zad hy6,zac (D.int .i64) hy6,zab hy8,zad hy8,zac (D.int .i64) hy8]
  refine zaO (fun hc9=> ?_) (fun hc10=> ?_)
  ·rw[if_pos (show(!(y5==y7))=true by(rw[hc9];rfl))]at h
   try simp only[go_sem,zab hy6,zad hy6,zac (D.int .i64) hy6,zab hy8,zad hy8,zac (D.int .i64) hy8]
   cases h
   exact⟨rfl,by simp,Up.of (N:=7) (N':=21) [] rfl rfl (by decide) (.set (.d _) zai.none) zal.at⟩
  rw[if_neg (ffn hc10)]at h
  try simp only[go_sem,zab hy6,zad hy6,zac (D.int .i64) hy6,zab hy8,zad hy8,zac (D.int .i64) hy8]
  cases h
  exact⟨rfl,Up.of (N:=7) (N':=23) [] rfl rfl (by decide) (.set (.d _) (.set (.d _) (.set (.d _) zai.none))) zal.at⟩
 rw[if_neg (ff hc4)]at h
 try simp only[go_sem]
 cases h
 exact⟨rfl,by simp,Up.of (N:=7) (N':=11) [] rfl rfl (by decide) zai.none zal.at⟩
noncomputable def P39 (a0:Sl (Int)) (a1:Sl (Int)):Option (Bool):=
 if(!((a0.l.length:Int)==(a1.l.length:Int)))=true then
  some false
 else
  (zaR (zde a0 a1) 0).bind fun r11=>
  match r11 with
  |(.inl q13)=>
   some true
  |(.inr q14)=>
   some false
theorem zKQ (a0:Sl (Int)) (a1:Sl (Int)) (r:Bool) (h:P39 a0 a1=some r):pc prog 39 [.list a0.n (a0.l.map (D.int .i64)),.list a1.n (a1.l.map (D.int .i64))]=some (D.bool r):=by
 unfold P39 at h
 refine zbk (fn:=c39) rfl rfl ?_
 delta c39
 try simp only[go_sem]
 refine zaO (fun hc1=> ?_) (fun hc2=> ?_)
 ·rw[if_pos (show(!((a0.l.length:Int)==(a1.l.length:Int)))=true by(rw[hc1];rfl))]at h
  try simp only[go_sem]
  cases h
  rfl
 rw[if_neg (ffn hc2)]at h
 try simp only[go_sem]
 obtain⟨r11,hl12,h⟩:=bs h
 refine Wp.loopR zba (n:=(0,[])) (a:=zAc) rfl (zhx a0 a1) (zlw a0 a1) (zAM a0 a1) hl12 ?_ (by(repeat(first|refine Clo.block ?_|refine Clo.seq zba rfl ?_));(exact Clo.ret)) ?_
 ·show Up (0,[]) (zhx a0 a1 0) _
  delta zhx
  exact Up.of (N:=7) (N':=7) [] rfl rfl (by decide) (.set (.d _) (.set (.d _) (.set (.d _) zai.none))) zal.at
 rcases r11 with(q13|q14)
 ·dsimp only at h
  dsimp only[zlw]
  try simp only[go_sem]
  cases h
  rfl
 dsimp only at h
 dsimp only[zlw]
 try simp only[go_sem]
 cases h
 rfl
def zhy (a0:Sl (Step)) (a1:Sl (Step)) (x0:Int):St:=⟨(((Regs.none.set 0 (.d (.list a0.n (a0.l.map zan)))).set 1 (.d (.list a1.n (a1.l.map zan)))).set 5 (.d (.int .i64 x0))),(Heap.at 7)⟩
def zlx (a0:Sl (Step)) (a1:Sl (Step)):((Unit)⊕(Unit))→Ex×St:=fun r=>match r with
 |(.inl r)=>(.exit 0,⟨Regs.none,(Heap.at 7)⟩)
 |(.inr r)=>(.ret,⟨(Regs.none.set 4 (.d (.bool false))),(Heap.at 7)⟩)
noncomputable def zdf (a0:Sl (Step)) (a1:Sl (Step)) (x0:Int):Option ((Int)⊕((Unit)⊕(Unit))):=
 if(decide (x0<(a0.l.length:Int)))=true then
  (rd a0.l x0).bind fun y5=>
  (rd a1.l x0).bind fun y7=>
  if(!(decide (y5=y7)))=true then
   some (.inr (.inr ()))
  else
   some (.inl (IntKind.wrap .i64 (x0+1)))
 else
  some (.inr (.inl ()))
theorem zAN (a0:Sl (Step)) (a1:Sl (Step)) (x0:Int) (o:(Int)⊕((Unit)⊕(Unit))) (h:zdf a0 a1 x0=some o):Wp prog zAd (zhy a0 a1 x0) (zbK (0,[]) (zhy a0 a1) (zlx a0 a1) o):=by
 unfold zdf at h
 delta zAd zhy
 try simp only[go_sem]
 refine zag (fun hc3=> ?_) (fun hc4=> ?_)
 ·rw[if_pos hc3]at h
  try simp only[go_sem]
  obtain⟨y5,hy6,h⟩:=bs h
  try simp only[go_sem,zab hy6,zad hy6,zac zan hy6]
  obtain⟨y7,hy8,h⟩:=bs h
  try simp only[go_sem,zab hy6,zad hy6,zac zan hy6,zab hy8,zad hy8,zac zan hy8]
  refine zaO (fun hc9=> ?_) (fun hc10=> ?_)
  ·rw[if_pos (show(!(decide (y5=y7)))=true by(rw[hc9];rfl))]at h
   try simp only[go_sem,zab hy6,zad hy6,zac zan hy6,zab hy8,zad hy8,zac zan hy8]
   cases h
   exact⟨rfl,by simp,Up.of (N:=7) (N':=21) [] rfl rfl (by decide) (.set (.d _) zai.none) zal.at⟩
  rw[if_neg (ffn hc10)]at h
  try simp only[go_sem,zab hy6,zad hy6,zac zan hy6,zab hy8,zad hy8,zac zan hy8]
  cases h
  exact⟨rfl,Up.of (N:=7) (N':=23) [] rfl rfl (by decide) (.set (.d _) (.set (.d _) (.set (.d _) zai.none))) zal.at⟩
 rw[if_neg (ff hc4)]at h
 try simp only[go_sem]
 cases h
 exact⟨rfl,by simp,Up.of (N:=7) (N':=11) [] rfl rfl (by decide) zai.none zal.at⟩
noncomputable def P40 (a0:Sl (Step)) (a1:Sl (Step)):Option (Bool):=
 if(!((a0.l.length:Int)==(a1.l.length:Int)))=true then
  some false
 else
  (zaR (zdf a0 a1) 0).bind fun r11=>
  match r11 with
  |(.inl q13)=>
   some true
  |(.inr q14)=>
   some false
theorem zKR (a0:Sl (Step)) (a1:Sl (Step)) (r:Bool) (h:P40 a0 a1=some r):pc prog 40 [.list a0.n (a0.l.map zan),.list a1.n (a1.l.map zan)]=some (D.bool r):=by
 unfold P40 at h
 refine zbk (fn:=c40) rfl rfl ?_
 delta c40
 try simp only[go_sem]
 refine zaO (fun hc1=> ?_) (fun hc2=> ?_)
 ·rw[if_pos (show(!((a0.l.length:Int)==(a1.l.length:Int)))=true by(rw[hc1];rfl))]at h
  try simp only[go_sem]
  cases h
  rfl
 rw[if_neg (ffn hc2)]at h
 try simp only[go_sem]
 obtain⟨r11,hl12,h⟩:=bs h
 refine Wp.loopR zba (n:=(0,[])) (a:=zAd) rfl (zhy a0 a1) (zlx a0 a1) (zAN a0 a1) hl12 ?_ (by(repeat(first|refine Clo.block ?_|refine Clo.seq zba rfl ?_));(exact Clo.ret)) ?_
 ·show Up (0,[]) (zhy a0 a1 0) _
  delta zhy
  exact Up.of (N:=7) (N':=7) [] rfl rfl (by decide) (.set (.d _) (.set (.d _) (.set (.d _) zai.none))) zal.at
 rcases r11 with(q13|q14)
 ·dsimp only at h
  dsimp only[zlx]
  try simp only[go_sem]
  cases h
  rfl
 dsimp only at h
 dsimp only[zlx]
 try simp only[go_sem]
 cases h
 rfl
noncomputable def P84 (a0:Forest) (a1:Int):Option (Node):=
 (dec (D.int .i64) (pc prog 96 [zam a0,.int .i64 a1])).bind fun r1=>
 (dec zaj (pc prog 92 [zam a0,.int .i64 r1])).bind fun r3=>
 some r3
theorem zKS (a0:Forest) (a1:Int) (r:Node) (h:P84 a0 a1=some r):pc prog 84 [zam a0,.int .i64 a1]=some (zaj r):=by
 unfold P84 at h
 refine zbk (fn:=c84) rfl rfl ?_
 delta c84
 try simp only[go_sem]
 obtain⟨r1,hr2,h⟩:=bs h
 replace hr2:=zaq hr2
 refine zat hr2 ?_
 try simp only[go_sem]
 obtain⟨r3,hr4,h⟩:=bs h
 replace hr4:=zaq hr4
 refine zat hr4 ?_
 try simp only[go_sem]
 cases h
 rfl
noncomputable def P86 (a0:Forest) (a1:Int):Option (Bool):=
 (dec (D.int .i64) (pc prog 126 [zam a0,.int .i64 a1])).bind fun r1=>
 (dec zaj (pc prog 100 [zam a0,.int .i64 r1])).bind fun r3=>
 some (r3.kind==12)
theorem zKT (a0:Forest) (a1:Int) (r:Bool) (h:P86 a0 a1=some r):pc prog 86 [zam a0,.int .i64 a1]=some (D.bool r):=by
 unfold P86 at h
 refine zbk (fn:=c86) rfl rfl ?_
 delta c86
 try simp only[go_sem]
 obtain⟨r1,hr2,h⟩:=bs h
 replace hr2:=zaq hr2
 refine zat hr2 ?_
 try simp only[go_sem]
 obtain⟨r3,hr4,h⟩:=bs h
 replace hr4:=zaq hr4
 refine zat hr4 ?_
 try simp only[go_sem]
 cases h
 rfl
noncomputable def zJU (a0:Forest) (a1:Int):Option (Int):=
 (dec (D.int .i64) (pc prog 51 [zam a0,.int .i64 a1])).bind fun r1=>
 some r1
theorem zJV (a0:Forest) (a1:Int) (r:Int) (h:zJU a0 a1=some r):pc prog 126 [zam a0,.int .i64 a1]=some ((D.int .i64) r):=by
 unfold zJU at h
 refine zbk (fn:=zHw) rfl rfl ?_
 delta zHw
 try simp only[go_sem]
 obtain⟨r1,hr2,h⟩:=bs h
 replace hr2:=zaq hr2
 refine zat hr2 ?_
 try simp only[go_sem]
 cases h
 rfl
end Go.Proofs.Ythodcjjgimeeoaa.P
