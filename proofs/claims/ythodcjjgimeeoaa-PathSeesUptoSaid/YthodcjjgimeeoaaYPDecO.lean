/- Shaken copy of a longer text: what one law needs. Its conditions: none. -/
import Derived.Test.YthodcjjgimeeoaaYPDec0
set_option linter.unusedSimpArgs false
set_option linter.unusedVariables false
set_option maxHeartbeats 1000000
namespace Go.Proofs.Ythodcjjgimeeoaa.P
open Go.AI
noncomputable def P43 (a0:Forest) (a1:Int):Option (Node×Bool):=
 if(bif (decide (a1<1))then true else(decide ((a0.nodes.l.length:Int)<a1)))=true then
  some ((⟨0,⟨[],[],[]⟩,[],[],⟨true,[]⟩,⟨true,[]⟩,0,⟨true,[]⟩,0,0,0,0,false,false⟩:Node),false)
 else
  (rd a0.nodes.l (IntKind.wrap .i64 (a1-1))).bind fun y3=>
  some (y3,true)
theorem zKE (a0:Forest) (a1:Int) (r:Node×Bool) (h:P43 a0 a1=some r):pc prog 43 [zam a0,.int .i64 a1]=some ((eT2 zaj D.bool) r):=by
 unfold P43 at h
 refine zbk (fn:=c43) rfl rfl ?_
 delta c43
 try simp only[go_sem]
 refine zaa (v:= .d (.int .i64 a1)) (fun hb9=>by simp only[go_sem,hb9]) ?_
 try simp only[go_sem]
 refine zaa (v:= .ptr 0 0 0) (fun hb8=>by simp only[go_sem,hb8]) ?_
 try simp only[go_sem]
 refine zaa (v:= .d (.list a0.nodes.n (a0.nodes.l.map zaj))) (fun hb7=>by simp only[go_sem,hb7]) ?_
 try simp only[go_sem]
 refine zaa (v:= .d (.int .i64 (a0.nodes.l.length:Int))) (fun hb6=>by simp only[go_sem,hb6]) ?_
 try simp only[go_sem]
 refine zaa (v:= .d (.bool (decide ((a0.nodes.l.length:Int)<a1)))) (fun hb5=>by simp only[go_sem,hb5]) ?_
 try simp only[go_sem]
 refine zag (fun hc1=> ?_) (fun hc2=> ?_)
 ·rw[if_pos hc1]at h
  try simp only[go_sem]
  cases h
  rfl
 rw[if_neg (ff hc2)]at h
 try simp only[go_sem]
 obtain⟨y3,hy4,h⟩:=bs h
 try simp only[go_sem,zab hy4,zad hy4,zac zaj hy4]
 cases h
 rfl
def zhc (a0:Forest) (x0:Int):St:=⟨((Regs.none.set 1 (.d (.int .i64 x0))).set 2 (.ptr 0 0 0)),((Heap.at 2).set 0 (some (.els 1 [.d (zam a0)] 0)))⟩
def zoQ (a0:Forest):((Int))→Ex×St:=fun r=>(.exit 0,⟨(Regs.none.set 1 (.d (.int .i64 r))),(Heap.at 2)⟩)
noncomputable def zdb (a0:Forest) (x0:Int):Option ((Int)⊕((Int))):=
 (dec zaj (pc prog 100 [zam a0,.int .i64 x0])).bind fun r1=>
 if(!(r1.parent==0))=true then
  (dec zaj (pc prog 100 [zam a0,.int .i64 x0])).bind fun r5=>
  some (.inl r5.parent)
 else
  some (.inr x0)
theorem zAl (a0:Forest) (x0:Int) (o:(Int)⊕((Int))) (h:zdb a0 x0=some o):Wp prog zAe (zhc a0 x0) (zbK (0,[]) (zhc a0) (zoQ a0) o):=by
 unfold zdb at h
 delta zAe zhc
 try simp only[go_sem]
 obtain⟨r1,hr2,h⟩:=bs h
 replace hr2:=zaq hr2
 refine zat hr2 ?_
 try simp only[go_sem]
 refine zaO (fun hc3=> ?_) (fun hc4=> ?_)
 ·rw[if_pos (show(!(r1.parent==0))=true by(rw[hc3];rfl))]at h
  try simp only[go_sem]
  obtain⟨r5,hr6,h⟩:=bs h
  replace hr6:=zaq hr6
  refine zat hr6 ?_
  try simp only[go_sem]
  cases h
  exact⟨rfl,Up.of (N:=2) (N':=12) [] rfl rfl (by decide) (.set (.ptr' rfl) (.set (.d _) zai.none)) (.set zau.refl_d zal.at)⟩
 rw[if_neg (ffn hc4)]at h
 try simp only[go_sem]
 cases h
 exact⟨rfl,by simp,Up.of (N:=2) (N':=7) [] rfl rfl (by decide) (.set (.d _) zai.none) zal.at⟩
noncomputable def P51 (a0:Forest) (a1:Int):Option (Int):=
 (zaR (zdb a0) a1).bind fun r7=>
 some r7
theorem zKF (a0:Forest) (a1:Int) (r:Int) (h:P51 a0 a1=some r):pc prog 51 [zam a0,.int .i64 a1]=some ((D.int .i64) r):=by
 unfold P51 at h
 refine zbk (fn:=c51) rfl rfl ?_
 delta c51
 try simp only[go_sem]
 obtain⟨r7,hl8,h⟩:=bs h
 refine Wp.loopR zba (n:=(0,[])) (a:=zAe) rfl (zhc a0) (zoQ a0) (zAl a0) hl8 ?_ (by(repeat(first|refine Clo.block ?_|refine Clo.seq zba rfl ?_));(exact Clo.ret)) ?_
 ·show Up (0,[]) (zhc a0 a1) _
  delta zhc
  exact Up.of (N:=2) (N':=2) [] rfl rfl (by decide) (.set (.ptr' rfl) (.set (.d _) zai.none)) (.set zau.refl_d zal.at)
 dsimp only[zoQ]
 try simp only[go_sem]
 cases h
 rfl
def zhd (a0:Forest) (a1:Sl (Int)) (x0:Int):St:=⟨((((Regs.none.set 2 (.ptr 0 0 0)).set 17 (.d (.list a1.n (a1.l.map (D.int .i64))))).set 18 (.d (.int .i64 (a1.l.length:Int)))).set 19 (.d (.int .i64 x0))),((Heap.at 14).set 0 (some (.els 1 [.d (zam a0)] 0)))⟩
def zlc (a0:Forest) (a1:Sl (Int)):((Unit)⊕(Unit))→Ex×St:=fun r=>match r with
 |(.inl r)=>(.exit 0,⟨Regs.none,(Heap.at 14)⟩)
 |(.inr r)=>(.ret,⟨(Regs.none.set 4 (.d (.int .i64 (2)))),(Heap.at 14)⟩)
noncomputable def zdZ (a0:Forest) (a1:Sl (Int)) (x0:Int):Option ((Int)⊕((Unit)⊕(Unit))):=
 if(decide (x0<(a1.l.length:Int)))=true then
  (rd a1.l x0).bind fun y7=>
  if(bif (decide (y7<1))then true else(decide ((a0.nodes.l.length:Int)<y7)))=true then
   some (.inr (.inr ()))
  else
   some (.inl (IntKind.wrap .i64 (x0+1)))
 else
  some (.inr (.inl ()))
theorem zAm (a0:Forest) (a1:Sl (Int)) (x0:Int) (o:(Int)⊕((Unit)⊕(Unit))) (h:zdZ a0 a1 x0=some o):Wp prog zAg (zhd a0 a1 x0) (zbK (0,[]) (zhd a0 a1) (zlc a0 a1) o):=by
 unfold zdZ at h
 delta zAg zhd
 try simp only[go_sem]
 refine zag (fun hc5=> ?_) (fun hc6=> ?_)
 ·rw[if_pos hc5]at h
  try simp only[go_sem]
  obtain⟨y7,hy8,h⟩:=bs h
  try simp only[go_sem,zab hy8,zad hy8,zac (D.int .i64) hy8]
  refine zaa (v:= .d (.int .i64 y7)) (fun hb15=>by simp only[go_sem,zab hy8,zad hy8,zac (D.int .i64) hy8,hc5,hb15]) ?_
  try simp only[go_sem,zab hy8,zad hy8,zac (D.int .i64) hy8]
  refine zaa (v:= .ptr 0 0 0) (fun hb14=>by simp only[go_sem,zab hy8,zad hy8,zac (D.int .i64) hy8,hc5,hb14]) ?_
  try simp only[go_sem,zab hy8,zad hy8,zac (D.int .i64) hy8]
  refine zaa (v:= .d (.list a0.nodes.n (a0.nodes.l.map zaj))) (fun hb13=>by simp only[go_sem,zab hy8,zad hy8,zac (D.int .i64) hy8,hc5,hb13]) ?_
  try simp only[go_sem,zab hy8,zad hy8,zac (D.int .i64) hy8]
  refine zaa (v:= .d (.int .i64 (a0.nodes.l.length:Int))) (fun hb12=>by simp only[go_sem,zab hy8,zad hy8,zac (D.int .i64) hy8,hc5,hb12]) ?_
  try simp only[go_sem,zab hy8,zad hy8,zac (D.int .i64) hy8]
  refine zaa (v:= .d (.bool (decide ((a0.nodes.l.length:Int)<y7)))) (fun hb11=>by simp only[go_sem,zab hy8,zad hy8,zac (D.int .i64) hy8,hc5,hb11]) ?_
  try simp only[go_sem,zab hy8,zad hy8,zac (D.int .i64) hy8]
  refine zag (fun hc9=> ?_) (fun hc10=> ?_)
  ·rw[if_pos hc9]at h
   try simp only[go_sem,zab hy8,zad hy8,zac (D.int .i64) hy8]
   cases h
   exact⟨rfl,by simp,Up.of (N:=14) (N':=28) [] rfl rfl (by decide) (.set (.d _) zai.none) zal.at⟩
  rw[if_neg (ff hc10)]at h
  try simp only[go_sem,zab hy8,zad hy8,zac (D.int .i64) hy8]
  cases h
  exact⟨rfl,Up.of (N:=14) (N':=29) [] rfl rfl (by decide) (.set (.d _) (.set (.d _) (.set (.d _) (.set (.ptr' rfl) zai.none)))) (.set zau.refl_d zal.at)⟩
 rw[if_neg (ff hc6)]at h
 try simp only[go_sem]
 cases h
 exact⟨rfl,by simp,Up.of (N:=14) (N':=15) [] rfl rfl (by decide) zai.none zal.at⟩
noncomputable def P82 (a0:Forest) (a1:Sl (Int)):Option (Int):=
 (dec (eT2 (D.int .i64) (D.int .i64)) (pc prog 124 [zam a0])).bind fun r1=>
 if(!(r1.1==0))=true then
  some r1.1
 else
  (zaR (zdZ a0 a1) 0).bind fun r16=>
  match r16 with
  |(.inl q18)=>
   some (0)
  |(.inr q19)=>
   some (2)
theorem zKG (a0:Forest) (a1:Sl (Int)) (r:Int) (h:P82 a0 a1=some r):pc prog 82 [zam a0,.list a1.n (a1.l.map (D.int .i64))]=some ((D.int .i64) r):=by
 unfold P82 at h
 refine zbk (fn:=c82) rfl rfl ?_
 delta c82
 try simp only[go_sem]
 obtain⟨r1,hr2,h⟩:=bs h
 replace hr2:=zaq hr2
 refine zat hr2 ?_
 try simp only[go_sem]
 refine zaO (fun hc3=> ?_) (fun hc4=> ?_)
 ·rw[if_pos (show(!(r1.1==0))=true by(rw[hc3];rfl))]at h
  try simp only[go_sem]
  cases h
  rfl
 rw[if_neg (ffn hc4)]at h
 try simp only[go_sem]
 obtain⟨r16,hl17,h⟩:=bs h
 refine Wp.loopR zba (n:=(0,[])) (a:=zAg) rfl (zhd a0 a1) (zlc a0 a1) (zAm a0 a1) hl17 ?_ (by(repeat(first|refine Clo.block ?_|refine Clo.seq zba rfl ?_));(exact Clo.ret)) ?_
 ·show Up (0,[]) (zhd a0 a1 0) _
  delta zhd
  exact Up.of (N:=14) (N':=14) [] rfl rfl (by decide) (.set (.d _) (.set (.d _) (.set (.d _) (.set (.ptr' rfl) zai.none)))) (.set zau.refl_d zal.at)
 rcases r16 with(q18|q19)
 ·dsimp only at h
  dsimp only[zlc]
  try simp only[go_sem]
  cases h
  rfl
 dsimp only at h
 dsimp only[zlc]
 try simp only[go_sem]
 cases h
 rfl
noncomputable def P85 (a0:Forest):Option (Bool):=
 (dec (eT2 (D.int .i64) (D.int .i64)) (pc prog 125 [zam a0])).bind fun r1=>
 some (r1.1==0)
theorem zKH (a0:Forest) (r:Bool) (h:P85 a0=some r):pc prog 85 [zam a0]=some (D.bool r):=by
 unfold P85 at h
 refine zbk (fn:=c85) rfl rfl ?_
 delta c85
 try simp only[go_sem]
 obtain⟨r1,hr2,h⟩:=bs h
 replace hr2:=zaq hr2
 refine zat hr2 ?_
 try simp only[go_sem]
 cases h
 rfl
noncomputable def P92 (a0:Forest) (a1:Int):Option (Node):=
 if(bif (decide (a1<1))then true else(decide ((a0.nodes.l.length:Int)<a1)))=true then
  some (⟨0,⟨[],[],[]⟩,[],[],⟨true,[]⟩,⟨true,[]⟩,0,⟨true,[]⟩,0,0,0,0,false,false⟩:Node)
 else
  (rd a0.nodes.l (IntKind.wrap .i64 (a1-1))).bind fun y3=>
  some y3
theorem zKI (a0:Forest) (a1:Int) (r:Node) (h:P92 a0 a1=some r):pc prog 92 [zam a0,.int .i64 a1]=some (zaj r):=by
 unfold P92 at h
 refine zbk (fn:=c92) rfl rfl ?_
 delta c92
 try simp only[go_sem]
 refine zaa (v:= .d (.int .i64 a1)) (fun hb9=>by simp only[go_sem,hb9]) ?_
 try simp only[go_sem]
 refine zaa (v:= .ptr 0 0 0) (fun hb8=>by simp only[go_sem,hb8]) ?_
 try simp only[go_sem]
 refine zaa (v:= .d (.list a0.nodes.n (a0.nodes.l.map zaj))) (fun hb7=>by simp only[go_sem,hb7]) ?_
 try simp only[go_sem]
 refine zaa (v:= .d (.int .i64 (a0.nodes.l.length:Int))) (fun hb6=>by simp only[go_sem,hb6]) ?_
 try simp only[go_sem]
 refine zaa (v:= .d (.bool (decide ((a0.nodes.l.length:Int)<a1)))) (fun hb5=>by simp only[go_sem,hb5]) ?_
 try simp only[go_sem]
 refine zag (fun hc1=> ?_) (fun hc2=> ?_)
 ·rw[if_pos hc1]at h
  try simp only[go_sem]
  cases h
  rfl
 rw[if_neg (ff hc2)]at h
 try simp only[go_sem]
 obtain⟨y3,hy4,h⟩:=bs h
 try simp only[go_sem,zab hy4,zad hy4,zac zaj hy4]
 cases h
 rfl
def zhe (a0:Forest) (x0:Int×Int):St:=⟨(((Regs.none.set 0 (.yld 13)).set 1 (.ptr 9 0 0)).set 2 (.ptr 8 0 0)),((((((Heap.at 14).set 0 (some (.els 1 [.d (zam a0)] 0))).set 3 (some (.els 1 [.d (.int .i64 x0.1)] 0))).set 8 (some (.els 1 [.d (zam a0)] 0))).set 9 (some (.els 1 [.d (.int .i64 x0.2)] 0))).set 13 (some (.loop ⟨(Regs.none.set 5 (.ptr 3 0 0)),[11],zAh,zAi,.ready,none⟩)))⟩
def zoR (a0:Forest):((Int×Int))→Ex×St:=fun r=>(.exit 0,⟨Regs.none,((((((Heap.at 14).set 0 (some (.els 1 [.d (zam a0)] 0))).set 3 (some (.els 1 [.d (.int .i64 r.1)] 0))).set 8 (some (.els 1 [.d (zam a0)] 0))).set 9 (some (.els 1 [.d (.int .i64 r.2)] 0))).set 13 (some (.loop ⟨(Regs.none.set 5 (.ptr 3 0 0)),[11],zAh,zAi,.ready,none⟩)))⟩)
noncomputable def zdc (a0:Forest) (x0:Int×Int):Option ((Int×Int)⊕((Int×Int))):=
 if(!(x0.2==0))=true then
  (dec zaj (pc prog 92 [zam a0,.int .i64 x0.2])).bind fun r3=>
  some (.inl (x0.2,r3.parent))
 else
  some (.inr (x0.1,x0.2))
theorem zAn (a0:Forest) (x0:Int×Int) (o:(Int×Int)⊕((Int×Int))) (h:zdc a0 x0=some o):Wp prog zpV (zhe a0 x0) (zbK (14,[]) (zhe a0) (zoR a0) o):=by
 unfold zdc at h
 delta zpV zhe
 try simp only[go_sem]
 refine zaO (fun hc1=> ?_) (fun hc2=> ?_)
 ·rw[if_pos (show(!(x0.2==0))=true by(rw[hc1];rfl))]at h
  try simp only[go_sem]
  refine zzn (by simp only[go_sem];rfl) rfl ?_
  delta zAh
  try simp only[go_sem]
  delta zAi
  try simp only[go_sem]
  obtain⟨r3,hr4,h⟩:=bs h
  replace hr4:=zaq hr4
  refine zat hr4 ?_
  try simp only[go_sem]
  cases h
  exact⟨rfl,Up.of (N:=14) (N':=28) [] rfl rfl (by decide) (.set (.ptr' rfl) (.set (.ptr' rfl) (.set (.yld' rfl) zai.none))) (.set (zau.loop (.set (.ptr' rfl) zai.none) rfl rfl) (.set zau.refl_d (.set zau.refl_d (.set zau.refl_d (.set zau.refl_d zal.at)))))⟩
 rw[if_neg (ffn hc2)]at h
 try simp only[go_sem]
 cases h
 exact⟨rfl,by simp,Up.of (N:=14) (N':=16) [] rfl rfl (by decide) zai.none (.set (zau.loop (.set (.ptr' rfl) zai.none) rfl rfl) (.set zau.refl_d (.set zau.refl_d (.set zau.refl_d (.set zau.refl_d zal.at)))))⟩
noncomputable def P96 (a0:Forest) (a1:Int):Option (Int):=
 (zaR (zdc a0) (a1,a1)).bind fun r5=>
 some r5.1
theorem zKJ (a0:Forest) (a1:Int) (r:Int) (h:P96 a0 a1=some r):pc prog 96 [zam a0,.int .i64 a1]=some ((D.int .i64) r):=by
 unfold P96 at h
 refine zbk (fn:=c96) rfl rfl ?_
 delta c96
 try simp only[go_sem]
 refine zif (fn:=zHx) rfl rfl ?_
 delta zHx
 try simp only[go_sem]
 refine Wp.rfuncC (k:=175) (fn:=zHE) (first:=[]) (cap:=[.ptr 9 0 0,.ptr 8 0 0]) (by simp only[go_sem]) rfl rfl ?_
 delta zHE
 try simp only[go_sem]
 obtain⟨r5,hl6,h⟩:=bs h
 refine Wp.loopR zba (n:=(14,[])) (a:=zpV) rfl (zhe a0) (zoR a0) (zAn a0) hl6 ?_ (by(repeat(refine Clo.block ?_));refine Clo.rf (n':=(0,[])) ?_ (by decide) (by decide) ?_;((repeat(first|refine zbA.set ?_ ?_|refine zbA.args ?_|exact zcy.nil|refine zcy.cons ?_ ?_|exact zbd.d|exact zbd.ptr (by decide)|refine zbd.clo ?_ ?_)));(repeat(first|refine Clo.block ?_|refine Clo.seq zba rfl ?_));(exact Clo.ret)) ?_
 ·show Up (14,[]) (zhe a0 (a1,a1)) _
  delta zhe
  exact Up.of (N:=14) (N':=14) [] rfl rfl (by decide) (.set (.ptr' rfl) (.set (.ptr' rfl) (.set (.yld' rfl) zai.none))) (.set (zau.loop (.set (.ptr' rfl) zai.none) rfl rfl) (.set zau.refl_d (.set zau.refl_d (.set zau.refl_d (.set zau.refl_d zal.at)))))
 dsimp only[zoR]
 try simp only[go_sem]
 cases h
 rfl
noncomputable def zIK (a0:Forest) (a1:Int):Option (Node):=
 (rd a0.nodes.l (IntKind.wrap .i64 (a1-1))).bind fun y1=>
 some y1
theorem zIL (a0:Forest) (a1:Int) (r:Node) (h:zIK a0 a1=some r):pc prog 100 [zam a0,.int .i64 a1]=some (zaj r):=by
 unfold zIK at h
 refine zbk (fn:=zHt) rfl rfl ?_
 delta zHt
 try simp only[go_sem]
 obtain⟨y1,hy2,h⟩:=bs h
 try simp only[go_sem,zab hy2,zad hy2,zac zaj hy2]
 cases h
 rfl
def zeU (a0:Forest) (r3:Sl (Bool)) (x0:Int):St:=⟨(((((Regs.none.set 1 (.ptr 0 0 0)).set 4 (.d (.list r3.n (r3.l.map D.bool)))).set 14 (.d (.list a0.nodes.n (a0.nodes.l.map zaj)))).set 15 (.d (.int .i64 (a0.nodes.l.length:Int)))).set 16 (.d (.int .i64 x0))),((Heap.at 14).set 0 (some (.els 1 [.d (zam a0)] 0)))⟩
def zij (a0:Forest) (r3:Sl (Bool)):((Unit)⊕(Int))→Ex×St:=fun r=>match r with
 |(.inl r)=>(.exit 0,⟨Regs.none,(Heap.at 14)⟩)
 |(.inr r)=>(.ret,⟨((Regs.none.set 2 (.d (.int .i64 (5)))).set 3 (.d (.int .i64 r))),(Heap.at 14)⟩)
noncomputable def zds (a0:Forest) (r3:Sl (Bool)) (x0:Int):Option ((Int)⊕((Unit)⊕(Int))):=
 if(decide (x0<(a0.nodes.l.length:Int)))=true then
  (rd a0.nodes.l x0).bind fun y7=>
  (dec D.bool (pc prog 161 [zaj y7])).bind fun r9=>
  if r9=true then
   (dec D.bool (pc prog 162 [zam a0,.int .i64 (IntKind.wrap .i64 (x0+1))])).bind fun r13=>
   if r13=true then
    (rd r3.l (IntKind.wrap .i64 (x0+1))).bind fun y17=>
    if(!y17)=true then
     some (.inr (.inr (IntKind.wrap .i64 (x0+1))))
    else
     some (.inl (IntKind.wrap .i64 (x0+1)))
   else
    some (.inr (.inr (IntKind.wrap .i64 (x0+1))))
  else
   some (.inr (.inr (IntKind.wrap .i64 (x0+1))))
 else
  some (.inr (.inl ()))
theorem zwq (a0:Forest) (r3:Sl (Bool)) (x0:Int) (o:(Int)⊕((Unit)⊕(Int))) (h:zds a0 r3 x0=some o):Wp prog zpO (zeU a0 r3 x0) (zbK (0,[]) (zeU a0 r3) (zij a0 r3) o):=by
 unfold zds at h
 delta zpO zeU
 try simp only[go_sem]
 refine zag (fun hc5=> ?_) (fun hc6=> ?_)
 ·rw[if_pos hc5]at h
  try simp only[go_sem]
  obtain⟨y7,hy8,h⟩:=bs h
  try simp only[go_sem,zab hy8,zad hy8,zac zaj hy8]
  obtain⟨r9,hr10,h⟩:=bs h
  replace hr10:=zaq hr10
  refine zat hr10 ?_
  try simp only[go_sem,zab hy8,zad hy8,zac zaj hy8]
  refine zaa (v:= .d (zam a0)) (fun hb26=>by simp only[go_sem,zab hy8,zad hy8,zac zaj hy8,hc5,hb26]) ?_
  try simp only[go_sem,zab hy8,zad hy8,zac zaj hy8]
  refine zaa (v:= .d (.int .i64 x0)) (fun hb25=>by simp only[go_sem,zab hy8,zad hy8,zac zaj hy8,hc5,hb25]) ?_
  try simp only[go_sem,zab hy8,zad hy8,zac zaj hy8]
  refine zaa (v:= .d (.int .i64 (IntKind.wrap .i64 (x0+1)))) (fun hb24=>by simp only[go_sem,zab hy8,zad hy8,zac zaj hy8,hc5,hb24]) ?_
  try simp only[go_sem,zab hy8,zad hy8,zac zaj hy8]
  refine zaA (fun hc11=> ?_) (fun hc12=> ?_)
  ·rw[if_pos hc11]at h
   try simp only[go_sem,zab hy8,zad hy8,zac zaj hy8,hc11]
   obtain⟨r13,hr14,h⟩:=bs h
   replace hr14:=zaq hr14
   refine zat hr14 ?_
   try simp only[go_sem,zab hy8,zad hy8,zac zaj hy8]
   refine zaa (v:= .d (.list r3.n (r3.l.map D.bool))) (fun hb23=>by simp only[go_sem,zab hy8,zad hy8,zac zaj hy8,hc5,hc11,hb23]) ?_
   try simp only[go_sem,zab hy8,zad hy8,zac zaj hy8]
   refine zaa (v:= .d (.int .i64 x0)) (fun hb22=>by simp only[go_sem,zab hy8,zad hy8,zac zaj hy8,hc5,hc11,hb22]) ?_
   try simp only[go_sem,zab hy8,zad hy8,zac zaj hy8]
   refine zaa (v:= .d (.int .i64 (IntKind.wrap .i64 (x0+1)))) (fun hb21=>by simp only[go_sem,zab hy8,zad hy8,zac zaj hy8,hc5,hc11,hb21]) ?_
   try simp only[go_sem,zab hy8,zad hy8,zac zaj hy8]
   refine zaA (fun hc15=> ?_) (fun hc16=> ?_)
   ·rw[if_pos hc15]at h
    try simp only[go_sem,zab hy8,zad hy8,zac zaj hy8,hc15]
    obtain⟨y17,hy18,h⟩:=bs h
    try simp only[go_sem,zab hy8,zad hy8,zac zaj hy8,zab hy18,zad hy18,zac D.bool hy18]
    refine zaO (fun hc19=> ?_) (fun hc20=> ?_)
    ·rw[if_pos (show(!y17)=true by(rw[hc19];rfl))]at h
     try simp only[go_sem,zab hy8,zad hy8,zac zaj hy8,zab hy18,zad hy18,zac D.bool hy18]
     cases h
     exact⟨rfl,by simp,Up.of (N:=14) (N':=43) [] rfl rfl (by decide) (.set (.d _) (.set (.d _) zai.none)) zal.at⟩
    rw[if_neg (ffn hc20)]at h
    try simp only[go_sem,zab hy8,zad hy8,zac zaj hy8,zab hy18,zad hy18,zac D.bool hy18]
    cases h
    exact⟨rfl,Up.of (N:=14) (N':=41) [] rfl rfl (by decide) (.set (.d _) (.set (.d _) (.set (.d _) (.set (.d _) (.set (.ptr' rfl) zai.none))))) (.set zau.refl_d zal.at)⟩
   rw[if_neg (ff hc16)]at h
   try simp only[go_sem,zab hy8,zad hy8,zac zaj hy8,hc16]
   cases h
   exact⟨rfl,by simp,Up.of (N:=14) (N':=43) [] rfl rfl (by decide) (.set (.d _) (.set (.d _) zai.none)) zal.at⟩
  rw[if_neg (ff hc12)]at h
  try simp only[go_sem,zab hy8,zad hy8,zac zaj hy8,hc12]
  cases h
  exact⟨rfl,by simp,Up.of (N:=14) (N':=43) [] rfl rfl (by decide) (.set (.d _) (.set (.d _) zai.none)) zal.at⟩
 rw[if_neg (ff hc6)]at h
 try simp only[go_sem]
 cases h
 exact⟨rfl,by simp,Up.of (N:=14) (N':=15) [] rfl rfl (by decide) zai.none zal.at⟩
noncomputable def zIM (a0:Forest):Option (Int×Int):=
 if(decide (4096<(a0.nodes.l.length:Int)))=true then
  some (5,0)
 else
  (dec (eSl D.bool) (pc prog 160 [zam a0])).bind fun r3=>
  (zaR (zds a0 r3) 0).bind fun r27=>
  match r27 with
  |(.inl q29)=>
   some (0,0)
  |(.inr q30)=>
   some (5,q30)
theorem zIN (a0:Forest) (r:Int×Int) (h:zIM a0=some r):pc prog 124 [zam a0]=some ((eT2 (D.int .i64) (D.int .i64)) r):=by
 unfold zIM at h
 refine zbk (fn:=zHu) rfl rfl ?_
 delta zHu
 try simp only[go_sem]
 refine zag (fun hc1=> ?_) (fun hc2=> ?_)
 ·rw[if_pos hc1]at h
  try simp only[go_sem]
  cases h
  rfl
 rw[if_neg (ff hc2)]at h
 try simp only[go_sem]
 obtain⟨r3,hr4,h⟩:=bs h
 replace hr4:=zaq hr4
 refine zat hr4 ?_
 try simp only[go_sem]
 obtain⟨r27,hl28,h⟩:=bs h
 refine Wp.loopR zba (n:=(0,[])) (a:=zpO) rfl (zeU a0 r3) (zij a0 r3) (zwq a0 r3) hl28 ?_ (by(repeat(first|refine Clo.block ?_|refine Clo.seq zba rfl ?_));(exact Clo.ret)) ?_
 ·show Up (0,[]) (zeU a0 r3 0) _
  delta zeU
  exact Up.of (N:=14) (N':=14) [] rfl rfl (by decide) (.set (.d _) (.set (.d _) (.set (.d _) (.set (.d _) (.set (.ptr' rfl) zai.none))))) (.set zau.refl_d zal.at)
 rcases r27 with(q29|q30)
 ·dsimp only at h
  dsimp only[zij]
  try simp only[go_sem]
  cases h
  rfl
 dsimp only at h
 dsimp only[zij]
 try simp only[go_sem]
 cases h
 rfl
def zeV (a0:Forest) (x0:Int):St:=⟨((((Regs.none.set 1 (.ptr 0 0 0)).set 11 (.d (.list a0.nodes.n (a0.nodes.l.map zaj)))).set 12 (.d (.int .i64 (a0.nodes.l.length:Int)))).set 13 (.d (.int .i64 x0))),((Heap.at 11).set 0 (some (.els 1 [.d (zam a0)] 0)))⟩
def zik (a0:Forest):((Unit)⊕(Int))→Ex×St:=fun r=>match r with
 |(.inl r)=>(.exit 0,⟨Regs.none,(Heap.at 11)⟩)
 |(.inr r)=>(.ret,⟨((Regs.none.set 2 (.d (.int .i64 (5)))).set 3 (.d (.int .i64 r))),(Heap.at 11)⟩)
noncomputable def zdt (a0:Forest) (x0:Int):Option ((Int)⊕((Unit)⊕(Int))):=
 if(decide (x0<(a0.nodes.l.length:Int)))=true then
  (rd a0.nodes.l x0).bind fun y5=>
  (dec D.bool (pc prog 163 [zaj y5])).bind fun r7=>
  if r7=true then
   (dec D.bool (pc prog 164 [zam a0,.int .i64 (IntKind.wrap .i64 (x0+1))])).bind fun r11=>
   if r11=true then
    (dec D.bool (pc prog 165 [zam a0,.int .i64 (IntKind.wrap .i64 (x0+1))])).bind fun r15=>
    if r15=true then
     some (.inr (.inr (IntKind.wrap .i64 (x0+1))))
    else
     some (.inl (IntKind.wrap .i64 (x0+1)))
   else
    some (.inr (.inr (IntKind.wrap .i64 (x0+1))))
  else
   some (.inr (.inr (IntKind.wrap .i64 (x0+1))))
 else
  some (.inr (.inl ()))
theorem zwr (a0:Forest) (x0:Int) (o:(Int)⊕((Unit)⊕(Int))) (h:zdt a0 x0=some o):Wp prog zpP (zeV a0 x0) (zbK (0,[]) (zeV a0) (zik a0) o):=by
 unfold zdt at h
 delta zpP zeV
 try simp only[go_sem]
 refine zag (fun hc3=> ?_) (fun hc4=> ?_)
 ·rw[if_pos hc3]at h
  try simp only[go_sem]
  obtain⟨y5,hy6,h⟩:=bs h
  try simp only[go_sem,zab hy6,zad hy6,zac zaj hy6]
  obtain⟨r7,hr8,h⟩:=bs h
  replace hr8:=zaq hr8
  refine zat hr8 ?_
  try simp only[go_sem,zab hy6,zad hy6,zac zaj hy6]
  refine zaa (v:= .d (zam a0)) (fun hb24=>by simp only[go_sem,zab hy6,zad hy6,zac zaj hy6,hc3,hb24]) ?_
  try simp only[go_sem,zab hy6,zad hy6,zac zaj hy6]
  refine zaa (v:= .d (.int .i64 x0)) (fun hb23=>by simp only[go_sem,zab hy6,zad hy6,zac zaj hy6,hc3,hb23]) ?_
  try simp only[go_sem,zab hy6,zad hy6,zac zaj hy6]
  refine zaa (v:= .d (.int .i64 (IntKind.wrap .i64 (x0+1)))) (fun hb22=>by simp only[go_sem,zab hy6,zad hy6,zac zaj hy6,hc3,hb22]) ?_
  try simp only[go_sem,zab hy6,zad hy6,zac zaj hy6]
  refine zaA (fun hc9=> ?_) (fun hc10=> ?_)
  ·rw[if_pos hc9]at h
   try simp only[go_sem,zab hy6,zad hy6,zac zaj hy6,hc9]
   obtain⟨r11,hr12,h⟩:=bs h
   replace hr12:=zaq hr12
   refine zat hr12 ?_
   try simp only[go_sem,zab hy6,zad hy6,zac zaj hy6]
   refine zaa (v:= .d (zam a0)) (fun hb21=>by simp only[go_sem,zab hy6,zad hy6,zac zaj hy6,hc3,hc9,hb21]) ?_
   try simp only[go_sem,zab hy6,zad hy6,zac zaj hy6]
   refine zaa (v:= .d (.int .i64 x0)) (fun hb20=>by simp only[go_sem,zab hy6,zad hy6,zac zaj hy6,hc3,hc9,hb20]) ?_
   try simp only[go_sem,zab hy6,zad hy6,zac zaj hy6]
   refine zaa (v:= .d (.int .i64 (IntKind.wrap .i64 (x0+1)))) (fun hb19=>by simp only[go_sem,zab hy6,zad hy6,zac zaj hy6,hc3,hc9,hb19]) ?_
   try simp only[go_sem,zab hy6,zad hy6,zac zaj hy6]
   refine zaA (fun hc13=> ?_) (fun hc14=> ?_)
   ·rw[if_pos hc13]at h
    try simp only[go_sem,zab hy6,zad hy6,zac zaj hy6,hc13]
    obtain⟨r15,hr16,h⟩:=bs h
    replace hr16:=zaq hr16
    refine zat hr16 ?_
    try simp only[go_sem,zab hy6,zad hy6,zac zaj hy6]
    refine zag (fun hc17=> ?_) (fun hc18=> ?_)
    ·rw[if_pos hc17]at h
     try simp only[go_sem,zab hy6,zad hy6,zac zaj hy6]
     cases h
     exact⟨rfl,by simp,Up.of (N:=11) (N':=38) [] rfl rfl (by decide) (.set (.d _) (.set (.d _) zai.none)) zal.at⟩
    rw[if_neg (ff hc18)]at h
    try simp only[go_sem,zab hy6,zad hy6,zac zaj hy6]
    cases h
    exact⟨rfl,Up.of (N:=11) (N':=36) [] rfl rfl (by decide) (.set (.d _) (.set (.d _) (.set (.d _) (.set (.ptr' rfl) zai.none)))) (.set zau.refl_d zal.at)⟩
   rw[if_neg (ff hc14)]at h
   try simp only[go_sem,zab hy6,zad hy6,zac zaj hy6,hc14]
   cases h
   exact⟨rfl,by simp,Up.of (N:=11) (N':=38) [] rfl rfl (by decide) (.set (.d _) (.set (.d _) zai.none)) zal.at⟩
  rw[if_neg (ff hc10)]at h
  try simp only[go_sem,zab hy6,zad hy6,zac zaj hy6,hc10]
  cases h
  exact⟨rfl,by simp,Up.of (N:=11) (N':=38) [] rfl rfl (by decide) (.set (.d _) (.set (.d _) zai.none)) zal.at⟩
 rw[if_neg (ff hc4)]at h
 try simp only[go_sem]
 cases h
 exact⟨rfl,by simp,Up.of (N:=11) (N':=12) [] rfl rfl (by decide) zai.none zal.at⟩
noncomputable def zIO (a0:Forest):Option (Int×Int):=
 if(decide (4096<(a0.nodes.l.length:Int)))=true then
  some (5,0)
 else
  (zaR (zdt a0) 0).bind fun r25=>
  match r25 with
  |(.inl q27)=>
   some (0,0)
  |(.inr q28)=>
   some (5,q28)
theorem zIP (a0:Forest) (r:Int×Int) (h:zIO a0=some r):pc prog 125 [zam a0]=some ((eT2 (D.int .i64) (D.int .i64)) r):=by
 unfold zIO at h
 refine zbk (fn:=zHv) rfl rfl ?_
 delta zHv
 try simp only[go_sem]
 refine zag (fun hc1=> ?_) (fun hc2=> ?_)
 ·rw[if_pos hc1]at h
  try simp only[go_sem]
  cases h
  rfl
 rw[if_neg (ff hc2)]at h
 try simp only[go_sem]
 obtain⟨r25,hl26,h⟩:=bs h
 refine Wp.loopR zba (n:=(0,[])) (a:=zpP) rfl (zeV a0) (zik a0) (zwr a0) hl26 ?_ (by(repeat(first|refine Clo.block ?_|refine Clo.seq zba rfl ?_));(exact Clo.ret)) ?_
 ·show Up (0,[]) (zeV a0 0) _
  delta zeV
  exact Up.of (N:=11) (N':=11) [] rfl rfl (by decide) (.set (.d _) (.set (.d _) (.set (.d _) (.set (.ptr' rfl) zai.none)))) (.set zau.refl_d zal.at)
 rcases r25 with(q27|q28)
 ·dsimp only at h
  dsimp only[zik]
  try simp only[go_sem]
  cases h
  rfl
 dsimp only at h
 dsimp only[zik]
 try simp only[go_sem]
 cases h
 rfl
def zeW (a0:Forest) (x0:List (Int)×Int) (x1:List (Int)×List (Int)×Int):St:=⟨((((((Regs.none.set 1 (.ptr 0 0 0)).set 3 (.sl 6 0 (((IntKind.wrap .i64 ((a0.nodes.l.length:Int)+1))).toNat))).set 5 (mb 18 (x1.2.1.map fun z=>V.d ((D.int .i64) z)))).set 6 (.d (.int .i64 x1.2.2))).set 19 (.d (.int .i64 (a0.nodes.l.length:Int)))).set 20 (.d (.int .i64 x0.2))),((((Heap.at 19).set 0 (some (.els 1 [.d (zam a0)] 0))).set 6 (some (.els 1 (x1.1.map fun z=>V.d ((D.int .i64) z)) (0)))).set 18 (mbB 1 x1.2.1.length (x1.2.1.map fun z=>V.d ((D.int .i64) z))))⟩
def zld (a0:Forest) (x0:List (Int)×Int):((List (Int)×Int×List (Int)))→Ex×St:=fun r=>(.exit 2,⟨((((((Regs.none.set 1 (.ptr 0 0 0)).set 3 (.sl 6 0 (((IntKind.wrap .i64 ((a0.nodes.l.length:Int)+1))).toNat))).set 5 (mb 18 (r.1.map fun z=>V.d ((D.int .i64) z)))).set 6 (.d (.int .i64 r.2.1))).set 19 (.d (.int .i64 (a0.nodes.l.length:Int)))).set 20 (.d (.int .i64 x0.2))),((((Heap.at 19).set 0 (some (.els 1 [.d (zam a0)] 0))).set 6 (some (.els 1 (r.2.2.map fun z=>V.d ((D.int .i64) z)) (0)))).set 18 (mbB 1 r.1.length (r.1.map fun z=>V.d ((D.int .i64) z))))⟩)
noncomputable def zbH (a0:Forest) (x0:List (Int)×Int) (x1:List (Int)×List (Int)×Int):Option ((List (Int)×List (Int)×Int)⊕((List (Int)×Int×List (Int)))):=
 if(bif (decide (1≤x1.2.2))then(decide (x1.2.2≤(a0.nodes.l.length:Int)))else false)=true then
  (rdA x1.1 (((IntKind.wrap .i64 ((a0.nodes.l.length:Int)+1))).toNat) x1.2.2).bind fun y6=>
  if(y6==0)=true then
   if(x1.2.1.length+1)*8≤AI.roomBytes then
    (rd a0.nodes.l (IntKind.wrap .i64 (x1.2.2-1))).bind fun y11=>
    (dec (D.int .i64) (pc prog 182 [zaj y11])).bind fun r13=>
    some (.inl ((x1.1.set (x1.2.2).toNat (1)),(x1.2.1++[x1.2.2]),r13))
   else none
  else
   some (.inr (x1.2.1,x1.2.2,x1.1))
 else
  some (.inr (x1.2.1,x1.2.2,x1.1))
theorem zws (a0:Forest) (x0:List (Int)×Int) (x1:List (Int)×List (Int)×Int) (o:(List (Int)×List (Int)×Int)⊕((List (Int)×Int×List (Int)))) (h:zbH a0 x0 x1=some o):Wp prog zpQ (zeW a0 x0 x1) (zbK (0,[]) (zeW a0 x0) (zld a0 x0) o):=by
 unfold zbH at h
 delta zpQ zeW
 try simp only[go_sem]
 refine zaa (v:= .d (.int .i64 x1.2.2)) (fun hb19=>by simp only[go_sem,hb19]) ?_
 try simp only[go_sem]
 refine zaa (v:= .ptr 0 0 0) (fun hb18=>by simp only[go_sem,hb18]) ?_
 try simp only[go_sem]
 refine zaa (v:= .d (.list a0.nodes.n (a0.nodes.l.map zaj))) (fun hb17=>by simp only[go_sem,hb17]) ?_
 try simp only[go_sem]
 refine zaa (v:= .d (.int .i64 (a0.nodes.l.length:Int))) (fun hb16=>by simp only[go_sem,hb16]) ?_
 try simp only[go_sem]
 refine zaa (v:= .d (.bool (decide (x1.2.2≤(a0.nodes.l.length:Int))))) (fun hb15=>by simp only[go_sem,hb15]) ?_
 try simp only[go_sem]
 refine zaA (fun hc4=> ?_) (fun hc5=> ?_)
 ·rw[if_pos hc4]at h
  try simp only[go_sem,hc4]
  obtain⟨y6,hy7,h⟩:=bs h
  try simp only[go_sem,zaP hy7,zaW hy7,zaY hy7,zaK hy7,zaQ (D.int .i64) hy7]
  refine zag (fun hc8=> ?_) (fun hc9=> ?_)
  ·rw[if_pos hc8]at h
   try simp only[go_sem,zaP hy7,zaW hy7,zaY hy7,zaK hy7,zaQ (D.int .i64) hy7]
   obtain⟨hm10,h⟩:=zbU h
   refine zgk (l:=x1.2.1.map fun z=>V.d ((D.int .i64) z)) (new:=[V.d (.int .i64 x1.2.2)]) (sz:=1) (fz:=x1.2.1.length) (by simp only[go_sem,List.map_append,List.map_cons,List.map_nil,zaP hy7,zaW hy7,zaY hy7,zaK hy7,zaQ (D.int .i64) hy7,zfQ (x:=1) (D.int .i64) (zaK hy7),zfP (x:=1) (zaK hy7)]) (by intro h;simpa using h) (by simp only[go_sem,zcu,zcJ,zcv,zbC,zhR]) (by simp) (by rfl) (by simpa using hm10) ?_
   try simp only[go_sem,zaP hy7,zaW hy7,zaY hy7,zaK hy7,zaQ (D.int .i64) hy7,zfQ (x:=1) (D.int .i64) (zaK hy7),zfP (x:=1) (zaK hy7),hm10]
   obtain⟨y11,hy12,h⟩:=bs h
   try simp only[go_sem,zaP hy7,zaW hy7,zaY hy7,zaK hy7,zaQ (D.int .i64) hy7,zfQ (x:=1) (D.int .i64) (zaK hy7),zfP (x:=1) (zaK hy7),hm10,zab hy12,zad hy12,zac zaj hy12]
   obtain⟨r13,hr14,h⟩:=bs h
   replace hr14:=zaq hr14
   refine zat hr14 ?_
   try simp only[go_sem,zaP hy7,zaW hy7,zaY hy7,zaK hy7,zaQ (D.int .i64) hy7,zfQ (x:=1) (D.int .i64) (zaK hy7),zfP (x:=1) (zaK hy7),hm10,zab hy12,zad hy12,zac zaj hy12]
   cases h
   refine⟨rfl,Up.of (N:=19) (N':=52) [(18,42)] rfl rfl (by decide) ?_ ?_⟩
   ·refine zai.set ?_ (zai.set ?_ (zai.set ?_ (zai.set ?_ (zai.set ?_ (zai.set ?_ zai.none)))))
    all_goals (try simp only[go_sem,List.map_append,List.map_cons,List.map_nil,zaP hy7,zaW hy7,zaY hy7,zaK hy7,zaQ (D.int .i64) hy7,zfQ (x:=1) (D.int .i64) (zaK hy7),zfP (x:=1) (zaK hy7),hm10,zab hy12,zad hy12,zac zaj hy12])
    all_goals (first|exact VR.d _|exact VR.mb_sl (by(simp;done)) rfl (by simp)|exact VR.ptr' rfl|exact VR.sl'' rfl (by simp))
   refine zal.set (show zau _ _ (Heap.get _ 42)from ?_) (zal.set (show zau _ _ (Heap.get _ 6)from ?_) (zal.set (show zau _ _ (Heap.get _ 0)from ?_) (zal.at)))
   all_goals (try simp only[go_sem,List.map_append,List.map_cons,List.map_nil,zaP hy7,zaW hy7,zaY hy7,zaK hy7,zaQ (D.int .i64) hy7,zfQ (x:=1) (D.int .i64) (zaK hy7),zfP (x:=1) (zaK hy7),hm10,zab hy12,zad hy12,zac zaj hy12])
   all_goals (((repeat' first|exact zau.refl_d|refine zau.els (by simp) ?_|refine zau.mb_els (by simp) ?_|exact VR.d _|exact VRL.nil|exact VRL.refl_d _ _|refine VRL.append ?_ ?_|refine VRL.cons ?_ ?_);done))
  rw[if_neg (ff hc9)]at h
  try simp only[go_sem,zaP hy7,zaW hy7,zaY hy7,zaK hy7,zaQ (D.int .i64) hy7]
  cases h
  refine⟨rfl,by simp,Up.of (N:=19) (N':=35) [] rfl rfl (by decide) ?_ ?_⟩
  ·refine zai.set ?_ (zai.set ?_ (zai.set ?_ (zai.set ?_ (zai.set ?_ (zai.set ?_ zai.none)))))
   all_goals (try simp only[go_sem,List.map_append,List.map_cons,List.map_nil,zaP hy7,zaW hy7,zaY hy7,zaK hy7,zaQ (D.int .i64) hy7])
   all_goals (first|exact VR.d _|exact VR.mb rfl|exact VR.ptr' rfl|exact VR.sl'' rfl (by simp))
  refine zal.set (show zau _ _ (Heap.get _ 18)from ?_) (zal.set (show zau _ _ (Heap.get _ 6)from ?_) (zal.set (show zau _ _ (Heap.get _ 0)from ?_) (zal.at)))
  all_goals (try simp only[go_sem,List.map_append,List.map_cons,List.map_nil,zaP hy7,zaW hy7,zaY hy7,zaK hy7,zaQ (D.int .i64) hy7])
  all_goals (((repeat' first|exact zau.refl_d|refine zau.els (by simp) ?_|refine zau.mb (by simp) ?_|exact VRL.refl_d _ _);done))
 rw[if_neg (ff hc5)]at h
 try simp only[go_sem,hc5]
 cases h
 refine⟨rfl,by simp,Up.of (N:=19) (N':=35) [] rfl rfl (by decide) ?_ ?_⟩
 ·refine zai.set ?_ (zai.set ?_ (zai.set ?_ (zai.set ?_ (zai.set ?_ (zai.set ?_ zai.none)))))
  all_goals (try simp only[go_sem,List.map_append,List.map_cons,List.map_nil])
  all_goals (first|exact VR.d _|exact VR.mb rfl|exact VR.ptr' rfl|exact VR.sl'' rfl (by simp))
 refine zal.set (show zau _ _ (Heap.get _ 18)from ?_) (zal.set (show zau _ _ (Heap.get _ 6)from ?_) (zal.set (show zau _ _ (Heap.get _ 0)from ?_) (zal.at)))
 all_goals (try simp only[go_sem,List.map_append,List.map_cons,List.map_nil])
 all_goals (((repeat' first|exact zau.refl_d|refine zau.els (by simp) ?_|refine zau.mb (by simp) ?_|exact VRL.refl_d _ _);done))
def zeX (a0:Forest) (x0:List (Int)×Int) (r20:List (Int)×Int×List (Int)) (r28:Int) (x2:List (Int)×Int):St:=⟨((((((((Regs.none.set 1 (.ptr 0 0 0)).set 3 (.sl 6 0 (((IntKind.wrap .i64 ((a0.nodes.l.length:Int)+1))).toNat))).set 7 (.d (.int .i64 r28))).set 19 (.d (.int .i64 (a0.nodes.l.length:Int)))).set 20 (.d (.int .i64 x0.2))).set 71 (mb 18 (r20.1.map fun z=>V.d ((D.int .i64) z)))).set 72 (.d (.int .i64 (r20.1.length:Int)))).set 73 (.d (.int .i64 x2.2))),((((Heap.at 39).set 0 (some (.els 1 [.d (zam a0)] 0))).set 6 (some (.els 1 (x2.1.map fun z=>V.d ((D.int .i64) z)) (0)))).set 18 (mbB 1 r20.1.length (r20.1.map fun z=>V.d ((D.int .i64) z))))⟩
def zle (a0:Forest) (x0:List (Int)×Int) (r20:List (Int)×Int×List (Int)) (r28:Int):((List (Int)))→Ex×St:=fun r=>(.exit 4,⟨((((Regs.none.set 1 (.ptr 0 0 0)).set 3 (.sl 6 0 (((IntKind.wrap .i64 ((a0.nodes.l.length:Int)+1))).toNat))).set 19 (.d (.int .i64 (a0.nodes.l.length:Int)))).set 20 (.d (.int .i64 x0.2))),(((Heap.at 39).set 0 (some (.els 1 [.d (zam a0)] 0))).set 6 (some (.els 1 (r.map fun z=>V.d ((D.int .i64) z)) (0))))⟩)
noncomputable def zbS (a0:Forest) (x0:List (Int)×Int) (r20:List (Int)×Int×List (Int)) (r28:Int) (x2:List (Int)×Int):Option ((List (Int)×Int)⊕((List (Int)))):=
 if(decide (x2.2<(r20.1.length:Int)))=true then
  (rdA r20.1 r20.1.length x2.2).bind fun y32=>
  (rdA x2.1 (((IntKind.wrap .i64 ((a0.nodes.l.length:Int)+1))).toNat) y32).bind fun y34=>
  some (.inl ((x2.1.set (y32).toNat r28),(IntKind.wrap .i64 (x2.2+1))))
 else
  some (.inr x2.1)
theorem zwt (a0:Forest) (x0:List (Int)×Int) (r20:List (Int)×Int×List (Int)) (r28:Int) (x2:List (Int)×Int) (o:(List (Int)×Int)⊕((List (Int)))) (h:zbS a0 x0 r20 r28 x2=some o):Wp prog zjf (zeX a0 x0 r20 r28 x2) (zbK (0,[]) (zeX a0 x0 r20 r28) (zle a0 x0 r20 r28) o):=by
 unfold zbS at h
 delta zjf zeX
 try simp only[go_sem]
 refine zag (fun hc30=> ?_) (fun hc31=> ?_)
 ·rw[if_pos hc30]at h
  try simp only[go_sem]
  obtain⟨y32,hy33,h⟩:=bs h
  have hne_hy33:=zch hy33
  try simp only[go_sem,zaP hy33,zaW hy33,zaY hy33,zaK hy33,zaQ (D.int .i64) hy33,zmH (zch hy33),zhL (zch hy33)]
  obtain⟨y34,hy35,h⟩:=bs h
  try simp only[go_sem,zaP hy33,zaW hy33,zaY hy33,zaK hy33,zaQ (D.int .i64) hy33,zmH (zch hy33),zhL (zch hy33),zaP hy35,zaW hy35,zaY hy35,zaK hy35,zaQ (D.int .i64) hy35]
  cases h
  exact⟨rfl,Up.of (N:=39) (N':=50) [] rfl rfl (by decide) (.set (.d _) (.set (.d _) (.set (by exact VR.sl'' rfl (by rfl)) (.set (.d _) (.set (.d _) (.set (.d _) (.set (.sl'' rfl (by rfl)) (.set (.ptr' rfl) zai.none)))))))) (.set (by exact zau.arr (e:=(D.int .i64)) (l:=r20.1) (by rfl) (Nat.le_refl _)) (.set (zau.arr (e:=(D.int .i64)) (l:=(x2.1.set (y32).toNat r28)) (by rfl) (by exact Nat.le_refl _)) (.set zau.refl_d zal.at)))⟩
 rw[if_neg (ff hc31)]at h
 try simp only[go_sem]
 cases h
 exact⟨rfl,by simp,Up.of (N:=39) (N':=40) [] rfl rfl (by decide) (.set (.d _) (.set (.d _) (.set (.sl'' rfl (by rfl)) (.set (.ptr' rfl) zai.none)))) (.set (zau.arr (e:=(D.int .i64)) (l:=x2.1) (by rfl) (by exact Nat.le_refl _)) (.set zau.refl_d zal.at))⟩
def zeY (a0:Forest) (x0:List (Int)×Int) (r20:List (Int)×Int×List (Int)) (x3:List (Int)×Int):St:=⟨((((((((Regs.none.set 1 (.ptr 0 0 0)).set 3 (.sl 6 0 (((IntKind.wrap .i64 ((a0.nodes.l.length:Int)+1))).toNat))).set 7 (.d (.int .i64 (2)))).set 19 (.d (.int .i64 (a0.nodes.l.length:Int)))).set 20 (.d (.int .i64 x0.2))).set 71 (mb 18 (r20.1.map fun z=>V.d ((D.int .i64) z)))).set 72 (.d (.int .i64 (r20.1.length:Int)))).set 73 (.d (.int .i64 x3.2))),((((Heap.at 39).set 0 (some (.els 1 [.d (zam a0)] 0))).set 6 (some (.els 1 (x3.1.map fun z=>V.d ((D.int .i64) z)) (0)))).set 18 (mbB 1 r20.1.length (r20.1.map fun z=>V.d ((D.int .i64) z))))⟩
def zlf (a0:Forest) (x0:List (Int)×Int) (r20:List (Int)×Int×List (Int)):((List (Int)))→Ex×St:=fun r=>(.exit 4,⟨((((Regs.none.set 1 (.ptr 0 0 0)).set 3 (.sl 6 0 (((IntKind.wrap .i64 ((a0.nodes.l.length:Int)+1))).toNat))).set 19 (.d (.int .i64 (a0.nodes.l.length:Int)))).set 20 (.d (.int .i64 x0.2))),(((Heap.at 39).set 0 (some (.els 1 [.d (zam a0)] 0))).set 6 (some (.els 1 (r.map fun z=>V.d ((D.int .i64) z)) (0))))⟩)
noncomputable def zbT (a0:Forest) (x0:List (Int)×Int) (r20:List (Int)×Int×List (Int)) (x3:List (Int)×Int):Option ((List (Int)×Int)⊕((List (Int)))):=
 if(decide (x3.2<(r20.1.length:Int)))=true then
  (rdA r20.1 r20.1.length x3.2).bind fun y40=>
  (rdA x3.1 (((IntKind.wrap .i64 ((a0.nodes.l.length:Int)+1))).toNat) y40).bind fun y42=>
  some (.inl ((x3.1.set (y40).toNat (2)),(IntKind.wrap .i64 (x3.2+1))))
 else
  some (.inr x3.1)
theorem zwu (a0:Forest) (x0:List (Int)×Int) (r20:List (Int)×Int×List (Int)) (x3:List (Int)×Int) (o:(List (Int)×Int)⊕((List (Int)))) (h:zbT a0 x0 r20 x3=some o):Wp prog zjf (zeY a0 x0 r20 x3) (zbK (0,[]) (zeY a0 x0 r20) (zlf a0 x0 r20) o):=by
 unfold zbT at h
 delta zjf zeY
 try simp only[go_sem]
 refine zag (fun hc38=> ?_) (fun hc39=> ?_)
 ·rw[if_pos hc38]at h
  try simp only[go_sem]
  obtain⟨y40,hy41,h⟩:=bs h
  have hne_hy41:=zch hy41
  try simp only[go_sem,zaP hy41,zaW hy41,zaY hy41,zaK hy41,zaQ (D.int .i64) hy41,zmH (zch hy41),zhL (zch hy41)]
  obtain⟨y42,hy43,h⟩:=bs h
  try simp only[go_sem,zaP hy41,zaW hy41,zaY hy41,zaK hy41,zaQ (D.int .i64) hy41,zmH (zch hy41),zhL (zch hy41),zaP hy43,zaW hy43,zaY hy43,zaK hy43,zaQ (D.int .i64) hy43]
  cases h
  exact⟨rfl,Up.of (N:=39) (N':=50) [] rfl rfl (by decide) (.set (.d _) (.set (.d _) (.set (by exact VR.sl'' rfl (by rfl)) (.set (.d _) (.set (.d _) (.set (.d _) (.set (.sl'' rfl (by rfl)) (.set (.ptr' rfl) zai.none)))))))) (.set (by exact zau.arr (e:=(D.int .i64)) (l:=r20.1) (by rfl) (Nat.le_refl _)) (.set (zau.arr (e:=(D.int .i64)) (l:=(x3.1.set (y40).toNat (2))) (by rfl) (by exact Nat.le_refl _)) (.set zau.refl_d zal.at)))⟩
 rw[if_neg (ff hc39)]at h
 try simp only[go_sem]
 cases h
 exact⟨rfl,by simp,Up.of (N:=39) (N':=40) [] rfl rfl (by decide) (.set (.d _) (.set (.d _) (.set (.sl'' rfl (by rfl)) (.set (.ptr' rfl) zai.none)))) (.set (zau.arr (e:=(D.int .i64)) (l:=x3.1) (by rfl) (by exact Nat.le_refl _)) (.set zau.refl_d zal.at))⟩
def zeZ (a0:Forest) (x0:List (Int)×Int):St:=⟨((((Regs.none.set 1 (.ptr 0 0 0)).set 3 (.sl 6 0 (((IntKind.wrap .i64 ((a0.nodes.l.length:Int)+1))).toNat))).set 19 (.d (.int .i64 (a0.nodes.l.length:Int)))).set 20 (.d (.int .i64 x0.2))),(((Heap.at 12).set 0 (some (.els 1 [.d (zam a0)] 0))).set 6 (some (.els 1 (x0.1.map fun z=>V.d ((D.int .i64) z)) (0))))⟩
def zlg (a0:Forest):((List (Int)))→Ex×St:=fun r=>(.exit 0,⟨(Regs.none.set 3 (.sl 6 0 (((IntKind.wrap .i64 ((a0.nodes.l.length:Int)+1))).toNat))),((Heap.at 12).set 6 (some (.els 1 (r.map fun z=>V.d ((D.int .i64) z)) (0))))⟩)
noncomputable def zcd (a0:Forest) (x0:List (Int)×Int):Option ((List (Int)×Int)⊕((List (Int)))):=
 if(decide (x0.2<(a0.nodes.l.length:Int)))=true then
  (zaR (zbH a0 x0) (x0.1,[],(IntKind.wrap .i64 (x0.2+1)))).bind fun r20=>
  if(bif (decide (1≤r20.2.1))then(decide (r20.2.1≤(a0.nodes.l.length:Int)))else false)=true then
   (rdA r20.2.2 (((IntKind.wrap .i64 ((a0.nodes.l.length:Int)+1))).toNat) r20.2.1).bind fun y24=>
   (if(!(y24==2))=true then
    some 3
   else
    some 2:Option ((Int))).bind fun r28=>
   (zaR (zbS a0 x0 r20 r28) (r20.2.2,0)).bind fun r36=>
   some (.inl (r36,(IntKind.wrap .i64 (x0.2+1))))
  else
   (zaR (zbT a0 x0 r20) (r20.2.2,0)).bind fun r44=>
   some (.inl (r44,(IntKind.wrap .i64 (x0.2+1))))
 else
  some (.inr x0.1)
theorem zwv (a0:Forest) (x0:List (Int)×Int) (o:(List (Int)×Int)⊕((List (Int)))) (h:zcd a0 x0=some o):Wp prog zpR (zeZ a0 x0) (zbK (0,[]) (zeZ a0) (zlg a0) o):=by
 unfold zcd at h
 delta zpR zeZ
 try simp only[go_sem]
 refine zag (fun hc2=> ?_) (fun hc3=> ?_)
 ·rw[if_pos hc2]at h
  try simp only[go_sem]
  obtain⟨r20,hl21,h⟩:=bs h
  refine Wp.loopR zba (n:=(0,[])) (a:=zpQ) rfl (zeW a0 x0) (zld a0 x0) (zws a0 x0) hl21 ?_ (by(repeat(first|refine Clo.block ?_|refine Clo.seq zba rfl ?_));(exact Clo.lpost (by decide))) ?_
  ·show Up (0,[]) (zeW a0 x0 (x0.1,[],(IntKind.wrap .i64 (x0.2+1)))) _
   delta zeW
   refine Up.of (N:=19) (N':=19) [] rfl rfl (by decide) ?_ ?_
   ·refine zai.set ?_ (zai.set ?_ (zai.set ?_ (zai.set ?_ (zai.set ?_ (zai.set ?_ zai.none)))))
    all_goals (try simp only[go_sem,List.map_append,List.map_cons,List.map_nil])
    all_goals (first|exact VR.d _|exact VR.ptr' rfl|exact VR.sl'' rfl (by simp))
   refine zal.set (show zau _ _ (Heap.get _ 18)from ?_) (zal.set (show zau _ _ (Heap.get _ 6)from ?_) (zal.set (show zau _ _ (Heap.get _ 0)from ?_) (zal.at)))
   all_goals (try simp only[go_sem,List.map_append,List.map_cons,List.map_nil])
   all_goals (((repeat' first|trivial|exact zau.refl_d|refine zau.els (by simp) ?_|exact VRL.refl_d _ _);done))
  dsimp only[zld]
  try simp only[go_sem]
  refine zaa (v:= .d (.int .i64 r20.2.1)) (fun hb50=>by simp only[go_sem,hc2,hb50]) ?_
  try simp only[go_sem]
  refine zaa (v:= .ptr 0 0 0) (fun hb49=>by simp only[go_sem,hc2,hb49]) ?_
  try simp only[go_sem]
  refine zaa (v:= .d (.list a0.nodes.n (a0.nodes.l.map zaj))) (fun hb48=>by simp only[go_sem,hc2,hb48]) ?_
  try simp only[go_sem]
  refine zaa (v:= .d (.int .i64 (a0.nodes.l.length:Int))) (fun hb47=>by simp only[go_sem,hc2,hb47]) ?_
  try simp only[go_sem]
  refine zaa (v:= .d (.bool (decide (r20.2.1≤(a0.nodes.l.length:Int))))) (fun hb46=>by simp only[go_sem,hc2,hb46]) ?_
  try simp only[go_sem]
  refine zaA (fun hc22=> ?_) (fun hc23=> ?_)
  ·rw[if_pos hc22]at h
   try simp only[go_sem,hc22]
   obtain⟨y24,hy25,h⟩:=bs h
   try simp only[go_sem,zaP hy25,zaW hy25,zaY hy25,zaK hy25,zaQ (D.int .i64) hy25]
   obtain⟨r28,hl29,h⟩:=bs h
   refine WBr.cut (n:=(0,[])) .normal ⟨((((((Regs.none.set 1 (.ptr 0 0 0)).set 3 (.sl 6 0 (((IntKind.wrap .i64 ((a0.nodes.l.length:Int)+1))).toNat))).set 5 (mb 18 (r20.1.map fun z=>V.d ((D.int .i64) z)))).set 7 (.d (.int .i64 r28))).set 19 (.d (.int .i64 (a0.nodes.l.length:Int)))).set 20 (.d (.int .i64 x0.2))),((((Heap.at 36).set 0 (some (.els 1 [.d (zam a0)] 0))).set 6 (some (.els 1 (r20.2.2.map fun z=>V.d ((D.int .i64) z)) (0)))).set 18 (mbB 1 r20.1.length (r20.1.map fun z=>V.d ((D.int .i64) z))))⟩ ?_ (by(repeat(first|refine Clo.block ?_|refine Clo.seq zba rfl ?_));(exact Clo.lpost (by decide))) ?_
   ·replace h:=hl29
    refine zaO (fun hc26=> ?_) (fun hc27=> ?_)
    ·rw[if_pos (show(!(y24==2))=true by(rw[hc26];rfl))]at h
     try simp only[go_sem,zaP hy25,zaW hy25,zaY hy25,zaK hy25,zaQ (D.int .i64) hy25]
     cases h
     exact⟨rfl,Up.of (N:=36) (N':=37) [] rfl rfl (by decide) (.set (.d _) (.set (.d _) (.set (.d _) (.set (.mb rfl) (.set (.sl'' rfl (by rfl)) (.set (.ptr' rfl) zai.none)))))) (.set (zau.mb (Nat.le_refl _) (VRL.refl_d _ _)) (.set (zau.arr (e:=(D.int .i64)) (l:=r20.2.2) (by rfl) (by exact Nat.le_refl _)) (.set zau.refl_d zal.at)))⟩
    rw[if_neg (ffn hc27)]at h
    try simp only[go_sem,zaP hy25,zaW hy25,zaY hy25,zaK hy25,zaQ (D.int .i64) hy25]
    cases h
    exact⟨rfl,Up.of (N:=36) (N':=36) [] rfl rfl (by decide) (.set (.d _) (.set (.d _) (.set (.d _) (.set (.mb rfl) (.set (.sl'' rfl (by rfl)) (.set (.ptr' rfl) zai.none)))))) (.set (zau.mb (Nat.le_refl _) (VRL.refl_d _ _)) (.set (zau.arr (e:=(D.int .i64)) (l:=r20.2.2) (by rfl) (by exact Nat.le_refl _)) (.set zau.refl_d zal.at)))⟩
   try simp only[go_sem,zaP hy25,zaW hy25,zaY hy25,zaK hy25,zaQ (D.int .i64) hy25]
   obtain⟨r36,hl37,h⟩:=bs h
   refine Wp.loopR zba (n:=(0,[])) (a:=zjf) rfl (zeX a0 x0 r20 r28) (zle a0 x0 r20 r28) (zwt a0 x0 r20 r28) hl37 ?_ (by(repeat(first|refine Clo.block ?_|refine Clo.seq zba rfl ?_));(exact Clo.lpost (by decide))) ?_
   ·show Up (0,[]) (zeX a0 x0 r20 r28 (r20.2.2,0)) _
    delta zeX
    exact Up.of (N:=39) (N':=39) [] rfl rfl (by decide) (.set (.d _) (.set (.d _) (.set (.mb rfl) (.set (.d _) (.set (.d _) (.set (.d _) (.set (.sl'' rfl (by rfl)) (.set (.ptr' rfl) zai.none)))))))) (.set (zau.mb (Nat.le_refl _) (VRL.refl_d _ _)) (.set (zau.arr (e:=(D.int .i64)) (l:=r20.2.2) (by rfl) (by exact Nat.le_refl _)) (.set zau.refl_d zal.at)))
   dsimp only[zle]
   try simp only[go_sem,zaP hy25,zaW hy25,zaY hy25,zaK hy25,zaQ (D.int .i64) hy25]
   cases h
   exact⟨rfl,Up.of (N:=12) (N':=41) [] rfl rfl (by decide) (.set (.d _) (.set (.d _) (.set (.sl'' rfl (by rfl)) (.set (.ptr' rfl) zai.none)))) (.set (zau.arr (e:=(D.int .i64)) (l:=r36) (by rfl) (by exact Nat.le_refl _)) (.set zau.refl_d zal.at))⟩
  rw[if_neg (ff hc23)]at h
  try simp only[go_sem,hc23]
  obtain⟨r44,hl45,h⟩:=bs h
  refine Wp.loopR zba (n:=(0,[])) (a:=zjf) rfl (zeY a0 x0 r20) (zlf a0 x0 r20) (zwu a0 x0 r20) hl45 ?_ (by(repeat(first|refine Clo.block ?_|refine Clo.seq zba rfl ?_));(exact Clo.lpost (by decide))) ?_
  ·show Up (0,[]) (zeY a0 x0 r20 (r20.2.2,0)) _
   delta zeY
   exact Up.of (N:=39) (N':=39) [] rfl rfl (by decide) (.set (.d _) (.set (.d _) (.set (.mb rfl) (.set (.d _) (.set (.d _) (.set (.d _) (.set (.sl'' rfl (by rfl)) (.set (.ptr' rfl) zai.none)))))))) (.set (zau.mb (Nat.le_refl _) (VRL.refl_d _ _)) (.set (zau.arr (e:=(D.int .i64)) (l:=r20.2.2) (by rfl) (by exact Nat.le_refl _)) (.set zau.refl_d zal.at)))
  dsimp only[zlf]
  try simp only[go_sem]
  cases h
  exact⟨rfl,Up.of (N:=12) (N':=41) [] rfl rfl (by decide) (.set (.d _) (.set (.d _) (.set (.sl'' rfl (by rfl)) (.set (.ptr' rfl) zai.none)))) (.set (zau.arr (e:=(D.int .i64)) (l:=r44) (by rfl) (by exact Nat.le_refl _)) (.set zau.refl_d zal.at))⟩
 rw[if_neg (ff hc3)]at h
 try simp only[go_sem]
 cases h
 exact⟨rfl,by simp,Up.of (N:=12) (N':=13) [] rfl rfl (by decide) (.set (.sl'' rfl (by rfl)) zai.none) (.set (zau.arr (e:=(D.int .i64)) (l:=x0.1) (by rfl) (by exact Nat.le_refl _)) zal.at)⟩
def zfa (a0:Forest) (r51:List (Int)) (x4:List (Bool)×Int):St:=⟨((((Regs.none.set 3 (.sl 6 0 (((IntKind.wrap .i64 ((a0.nodes.l.length:Int)+1))).toNat))).set 10 (.sl 14 0 (((IntKind.wrap .i64 ((a0.nodes.l.length:Int)+1))).toNat))).set 87 (.d (.int .i64 (((((IntKind.wrap .i64 ((a0.nodes.l.length:Int)+1))).toNat):Nat):Int)))).set 88 (.d (.int .i64 x4.2))),(((Heap.at 19).set 6 (some (.els 1 (r51.map fun z=>V.d ((D.int .i64) z)) (0)))).set 14 (some (.els 1 (x4.1.map fun z=>V.d (D.bool z)) (0))))⟩
def zlh (a0:Forest) (r51:List (Int)):((List (Bool)))→Ex×St:=fun r=>(.exit 6,⟨(Regs.none.set 10 (.sl 14 0 (((IntKind.wrap .i64 ((a0.nodes.l.length:Int)+1))).toNat))),((Heap.at 19).set 14 (some (.els 1 (r.map fun z=>V.d (D.bool z)) (0))))⟩)
noncomputable def zcD (a0:Forest) (r51:List (Int)) (x4:List (Bool)×Int):Option ((List (Bool)×Int)⊕((List (Bool)))):=
 if(decide (x4.2<(((((IntKind.wrap .i64 ((a0.nodes.l.length:Int)+1))).toNat):Nat):Int)))=true then
  (rdA r51 (((IntKind.wrap .i64 ((a0.nodes.l.length:Int)+1))).toNat) x4.2).bind fun y56=>
  (rdA x4.1 (((IntKind.wrap .i64 ((a0.nodes.l.length:Int)+1))).toNat) x4.2).bind fun y58=>
  some (.inl ((x4.1.set (x4.2).toNat (y56==2)),(IntKind.wrap .i64 (x4.2+1))))
 else
  some (.inr x4.1)
theorem zww (a0:Forest) (r51:List (Int)) (x4:List (Bool)×Int) (o:(List (Bool)×Int)⊕((List (Bool)))) (h:zcD a0 r51 x4=some o):Wp prog zpS (zfa a0 r51 x4) (zbK (0,[]) (zfa a0 r51) (zlh a0 r51) o):=by
 unfold zcD at h
 delta zpS zfa
 try simp only[go_sem]
 refine zag (fun hc54=> ?_) (fun hc55=> ?_)
 ·rw[if_pos hc54]at h
  try simp only[go_sem]
  obtain⟨y56,hy57,h⟩:=bs h
  try simp only[go_sem,zaP hy57,zaW hy57,zaY hy57,zaK hy57,zaQ (D.int .i64) hy57]
  obtain⟨y58,hy59,h⟩:=bs h
  try simp only[go_sem,zaP hy57,zaW hy57,zaY hy57,zaK hy57,zaQ (D.int .i64) hy57,zaP hy59,zaW hy59,zaY hy59,zaK hy59,zaQ D.bool hy59]
  cases h
  exact⟨rfl,Up.of (N:=19) (N':=33) [] rfl rfl (by decide) (.set (.d _) (.set (.d _) (.set (.sl'' rfl (by rfl)) (.set (.sl'' rfl (by rfl)) zai.none)))) (.set (zau.arr (e:=D.bool) (l:=(x4.1.set (x4.2).toNat (y56==2))) (by rfl) (by exact Nat.le_refl _)) (.set (zau.arr (e:=(D.int .i64)) (l:=r51) (by rfl) (by exact Nat.le_refl _)) zal.at))⟩
 rw[if_neg (ff hc55)]at h
 try simp only[go_sem]
 cases h
 exact⟨rfl,by simp,Up.of (N:=19) (N':=20) [] rfl rfl (by decide) (.set (.sl'' rfl (by rfl)) zai.none) (.set (zau.arr (e:=D.bool) (l:=x4.1) (by rfl) (by exact Nat.le_refl _)) zal.at)⟩
noncomputable def zIQ (a0:Forest):Option (Sl (Bool)):=
 if 0≤(IntKind.wrap .i64 ((a0.nodes.l.length:Int)+1))∧((IntKind.wrap .i64 ((a0.nodes.l.length:Int)+1))).toNat*8≤AI.roomBytes then
  (zaR (zcd a0) ((List.replicate ((IntKind.wrap .i64 ((a0.nodes.l.length:Int)+1))).toNat 0),0)).bind fun r51=>
  if 0≤((((IntKind.wrap .i64 ((a0.nodes.l.length:Int)+1))).toNat:Nat):Int)∧(((IntKind.wrap .i64 ((a0.nodes.l.length:Int)+1))).toNat)*1≤AI.roomBytes then
   (zaR (zcD a0 r51) ((List.replicate (((IntKind.wrap .i64 ((a0.nodes.l.length:Int)+1))).toNat) false),0)).bind fun r60=>
   if r60.length=(((IntKind.wrap .i64 ((a0.nodes.l.length:Int)+1))).toNat)then
    some (⟨false,r60⟩)
   else none
  else none
 else none
theorem zIR (a0:Forest) (r:Sl (Bool)) (h:zIQ a0=some r):pc prog 160 [zam a0]=some ((eSl D.bool) r):=by
 unfold zIQ at h
 refine zbk (fn:=zHy) rfl rfl ?_
 delta zHy
 try simp only[go_sem]
 obtain⟨hm1,h⟩:=zbU h
 simp only[go_sem,ziA,ziD,hm1.1,hm1.2,Nat.le_refl,and_self,if_true,Option.bind_some,zvZ,zpN,zwa]
 obtain⟨r51,hl52,h⟩:=bs h
 refine Wp.loopR zba (n:=(0,[])) (a:=zpR) rfl (zeZ a0) (zlg a0) (zwv a0) hl52 ?_ (by(repeat(first|refine Clo.block ?_|refine Clo.seq zba rfl ?_));(exact Clo.ret)) ?_
 ·show Up (0,[]) (zeZ a0 ((List.replicate ((IntKind.wrap .i64 ((a0.nodes.l.length:Int)+1))).toNat 0),0)) _
  delta zeZ
  exact Up.of (N:=12) (N':=12) [] rfl rfl (by decide) (.set (.d _) (.set (.d _) (.set (.sl'' rfl (by rfl)) (.set (.ptr' rfl) zai.none)))) (.set (zau.arr (e:=(D.int .i64)) (l:=(List.replicate ((IntKind.wrap .i64 ((a0.nodes.l.length:Int)+1))).toNat 0)) (by rfl) (by exact Nat.le_refl _)) (.set zau.refl_d zal.at))
 dsimp only[zlg]
 try simp only[go_sem,hm1.1,hm1.2]
 obtain⟨hm53,h⟩:=zbU h
 simp only[go_sem,hm1.1,hm1.2,ziA,ziD,hm53.1,hm53.2,Nat.le_refl,and_self,if_true,Option.bind_some,zvZ,zpN,zwa]
 obtain⟨r60,hl61,h⟩:=bs h
 refine Wp.loopR zba (n:=(0,[])) (a:=zpS) rfl (zfa a0 r51) (zlh a0 r51) (zww a0 r51) hl61 ?_ (by(repeat(first|refine Clo.block ?_|refine Clo.seq zba rfl ?_));(exact Clo.ret)) ?_
 ·show Up (0,[]) (zfa a0 r51 ((List.replicate (((IntKind.wrap .i64 ((a0.nodes.l.length:Int)+1))).toNat) false),0)) _
  delta zfa
  exact Up.of (N:=19) (N':=19) [] rfl rfl (by decide) (.set (.d _) (.set (.d _) (.set (.sl'' rfl (by rfl)) (.set (.sl'' rfl (by rfl)) zai.none)))) (.set (zau.arr (e:=D.bool) (l:=(List.replicate (((IntKind.wrap .i64 ((a0.nodes.l.length:Int)+1))).toNat) false)) (by rfl) (by exact Nat.le_refl _)) (.set (zau.arr (e:=(D.int .i64)) (l:=r51) (by rfl) (by exact Nat.le_refl _)) zal.at))
 dsimp only[zlh]
 try simp only[go_sem,hm1.1,hm1.2,hm53.1,hm53.2]
 obtain⟨hq62,h⟩:=zbU h
 cases h
 refine Reads.ofv (v':= .sl 14 0 (((IntKind.wrap .i64 ((a0.nodes.l.length:Int)+1))).toNat)) (by rfl) (Rd.sl (e:=D.bool) (l:=r60) (sz:=1) (fz:=0) (m:=r60.map fun z=>V.d (D.bool z)) (by simp only[go_sem,List.map_append,List.map_cons,List.map_nil,hm1.1,hm1.2,hm53.1,hm53.2,hq62]) rfl (by exact hq62)) rfl
noncomputable def zIS (a0:Node):Option (Bool):=
 (dec zaG (pc prog 183 [.int .u8 a0.kind])).bind fun r1=>
 (if r1.known=true then
  (dec D.bool (pc prog 184 [zaj a0,zaG r1])).bind fun r5=>
  if r5=true then
   (dec D.bool (pc prog 185 [.list a0.attrs.n (a0.attrs.l.map zaL)])).bind fun r9=>
   some (!r9)
  else
   some true
 else
  some true:Option ((Bool))).bind fun r13=>
 if r13=true then
  some false
 else
  (dec D.bool (pc prog 186 [.list false (([a0.public_,a0.system]).map D.str)])).bind fun r17=>
  if r17=true then
   (if(!(a0.kind==10))=true then
    some (bif (!(a0.public_==[]))then true else(!(a0.system==[])))
   else
    some false:Option ((Bool))).bind fun r23=>
   if r23=true then
    some false
   else
    (if(!(decide (16384<(a0.data.l.length:Int))))=true then
     if(!(bif (!r1.data)then(decide (0<(a0.data.l.length:Int)))else false))=true then
      some (bif (!r1.kids)then(decide (0<(a0.kids.l.length:Int)))else false)
     else
      some true
    else
     some true:Option ((Bool))).bind fun r47=>
    (if r47=true then
     some (.inr ())
    else
     if(!(a0.kind==1))=true then
      if(!(bif (decide (0<(a0.attrs.l.length:Int)))then true else(!(a0.shadow==0))))=true then
       if(bif (!(a0.kind==9))then a0.hTML else false)=true then
        some (.inr ())
       else
        if(bif (!r1.hung)then(!(a0.parent==0))else false)=true then
         some (.inr ())
        else
         some (.inl ())
      else
       some (.inr ())
     else
      if(bif (!(a0.kind==9))then a0.hTML else false)=true then
       some (.inr ())
      else
       if(bif (!r1.hung)then(!(a0.parent==0))else false)=true then
        some (.inr ())
       else
        some (.inl ()):Option ((Unit)⊕(Unit))).bind fun r95=>
    match r95 with
    |(.inl q97)=>
     if(a0.kind==12)=true then
      some (bif (a0.mode==1)then true else(a0.mode==2))
     else
      some (bif (bif (a0.mode==0)then(!a0.manual)else false)then(a0.host==0)else false)
    |(.inr q109)=>
     some false
  else
   some false
theorem zIT (a0:Node) (r:Bool) (h:zIS a0=some r):pc prog 161 [zaj a0]=some (D.bool r):=by
 unfold zIS at h
 refine zbk (fn:=zHz) rfl rfl ?_
 delta zHz
 try simp only[go_sem]
 obtain⟨r1,hr2,h⟩:=bs h
 replace hr2:=zaq hr2
 refine zat hr2 ?_
 try simp only[go_sem]
 refine zaa (v:= .d (zaj a0)) (fun hb158=>by simp only[go_sem,hb158]) ?_
 try simp only[go_sem]
 refine zaa (v:= .d (zaG r1)) (fun hb157=>by simp only[go_sem,hb157]) ?_
 try simp only[go_sem]
 obtain⟨r13,hl14,h⟩:=bs h
 refine zbW.cut (n:=(0,[])) .normal ⟨((((Regs.none.set 1 (.ptr 0 0 0)).set 3 (.ptr 5 0 0)).set 4 (.d (.bool (a0.kind==1)))).set 11 (.d (.bool r13))),(((Heap.at 27).set 0 (some (.els 16 [.d (zaj a0)] 0))).set 5 (some (.els 6 [.d (zaG r1)] 0)))⟩ ?_ (by(repeat(first|refine Clo.block ?_|refine Clo.seq zba rfl ?_));(exact Clo.ret)) ?_
 ·replace h:=hl14
  refine zaA (fun hc3=> ?_) (fun hc4=> ?_)
  ·rw[if_pos hc3]at h
   try simp only[go_sem,hc3]
   obtain⟨r5,hr6,h⟩:=bs h
   replace hr6:=zaq hr6
   refine zat hr6 ?_
   try simp only[go_sem]
   refine zaa (v:= .ptr 0 0 7) (fun hb12=>by simp only[go_sem,hc3,hb12]) ?_
   try simp only[go_sem]
   refine zaa (v:= .d (.list a0.attrs.n (a0.attrs.l.map zaL))) (fun hb11=>by simp only[go_sem,hc3,hb11]) ?_
   try simp only[go_sem]
   refine zaA (fun hc7=> ?_) (fun hc8=> ?_)
   ·rw[if_pos hc7]at h
    try simp only[go_sem,hc7]
    obtain⟨r9,hr10,h⟩:=bs h
    replace hr10:=zaq hr10
    refine zat hr10 ?_
    try simp only[go_sem]
    cases h
    exact⟨rfl,Up.of (N:=27) (N':=27) [] rfl rfl (by decide) (.set (.d _) (.set (.d _) (.set (.ptr' rfl) (.set (.ptr' rfl) zai.none)))) (.set zau.refl_d (.set zau.refl_d zal.at))⟩
   rw[if_neg (ff hc8)]at h
   try simp only[go_sem,hc8]
   cases h
   exact⟨rfl,Up.of (N:=27) (N':=27) [] rfl rfl (by decide) (.set (.d _) (.set (.d _) (.set (.ptr' rfl) (.set (.ptr' rfl) zai.none)))) (.set zau.refl_d (.set zau.refl_d zal.at))⟩
  rw[if_neg (ff hc4)]at h
  try simp only[go_sem,hc4]
  cases h
  exact⟨rfl,Up.of (N:=27) (N':=27) [] rfl rfl (by decide) (.set (.d _) (.set (.d _) (.set (.ptr' rfl) (.set (.ptr' rfl) zai.none)))) (.set zau.refl_d (.set zau.refl_d zal.at))⟩
 try simp only[go_sem]
 refine zag (fun hc15=> ?_) (fun hc16=> ?_)
 ·rw[if_pos hc15]at h
  try simp only[go_sem]
  cases h
  rfl
 rw[if_neg (ff hc16)]at h
 try simp only[go_sem]
 obtain⟨r17,hr18,h⟩:=bs h
 replace hr18:=zaq hr18
 refine zat hr18 ?_
 try simp only[go_sem]
 refine zaa (v:= .ptr 0 0 0) (fun hb156=>by simp only[go_sem,hc16,hb156]) ?_
 try simp only[go_sem]
 refine zaa (v:= .d (.int .u8 a0.kind)) (fun hb155=>by simp only[go_sem,hc16,hb155]) ?_
 try simp only[go_sem]
 refine zaa (v:= .d (.bool (!(a0.kind==10)))) (fun hb154=>by simp only[go_sem,hc16,hb154]) ?_
 try simp only[go_sem]
 refine zaa (v:= .d (.bool (!(a0.kind==10)))) (fun hb153=>by simp only[go_sem,hc16,hb153]) ?_
 try simp only[go_sem]
 refine zaa (v:= .ptr 0 0 4) (fun hb150=>by((obtain⟨hb151,hb152⟩:=zay hb150));simp only[go_sem,hc16,hb152,hb151]) ?_
 try simp only[go_sem]
 refine zaa (v:= .d (.str a0.public_)) (fun hb147=>by((obtain⟨hb148,hb149⟩:=zay hb147));simp only[go_sem,hc16,hb149,hb148]) ?_
 try simp only[go_sem]
 refine zaa (v:= .d (.bool (!(a0.public_==[])))) (fun hb144=>by((obtain⟨hb145,hb146⟩:=zay hb144));simp only[go_sem,hc16,hb146,hb145]) ?_
 try simp only[go_sem]
 refine zaa (v:= .d (.bool (!(a0.public_==[])))) (fun hb141=>by((obtain⟨hb142,hb143⟩:=zay hb141));simp only[go_sem,hc16,hb143,hb142]) ?_
 try simp only[go_sem]
 refine zaa (v:= .ptr 0 0 5) (fun hb136=>by((obtain⟨hb137,hb138⟩:=zay hb136);(obtain⟨hb139,hb140⟩:=zay hb137));simp only[go_sem,hc16,hb138,hb140,hb139]) ?_
 try simp only[go_sem]
 refine zaa (v:= .d (.str a0.system)) (fun hb131=>by((obtain⟨hb132,hb133⟩:=zay hb131);(obtain⟨hb134,hb135⟩:=zay hb132));simp only[go_sem,hc16,hb133,hb135,hb134]) ?_
 try simp only[go_sem]
 refine zaa (v:= .d (.bool (!(a0.system==[])))) (fun hb126=>by((obtain⟨hb127,hb128⟩:=zay hb126);(obtain⟨hb129,hb130⟩:=zay hb127));simp only[go_sem,hc16,hb128,hb130,hb129]) ?_
 try simp only[go_sem]
 rcases Bool.eq_false_or_eq_true (r17)with hc19|hc20
 ·rw[if_pos hc19]at h
  try simp only[go_sem,hc19]
  obtain⟨r23,hl24,h⟩:=bs h
  refine zbW.cut (n:=(0,[])) .normal ⟨((((Regs.none.set 1 (.ptr 0 0 0)).set 3 (.ptr 5 0 0)).set 4 (.d (.bool (a0.kind==1)))).set 27 (.d (.bool r23))),(((Heap.at 50).set 0 (some (.els 16 [.d (zaj a0)] 0))).set 5 (some (.els 6 [.d (zaG r1)] 0)))⟩ ?_ (by(repeat(first|refine Clo.block ?_|refine Clo.seq zba rfl ?_));(exact Clo.ret)) ?_
  ·replace h:=hl24
   refine zaw (fun hc21=> ?_) (fun hc22=> ?_)
   ·rw[if_pos (show(!(a0.kind==10))=true by(rw[hc21];rfl))]at h
    try simp only[go_sem,hc21]
    try simp only[go_sem,hc16,hc19,hc21]
    cases h
    exact⟨rfl,Up.of (N:=50) (N':=50) [] rfl rfl (by decide) (.set (.d _) (.set (.d _) (.set (.ptr' rfl) (.set (.ptr' rfl) zai.none)))) (.set zau.refl_d (.set zau.refl_d zal.at))⟩
   rw[if_neg (ffn hc22)]at h
   try simp only[go_sem,hc22]
   try simp only[go_sem,hc16,hc19,hc22]
   cases h
   exact⟨rfl,Up.of (N:=50) (N':=50) [] rfl rfl (by decide) (.set (.d _) (.set (.d _) (.set (.ptr' rfl) (.set (.ptr' rfl) zai.none)))) (.set zau.refl_d (.set zau.refl_d zal.at))⟩
  try simp only[go_sem]
  refine zag (fun hc25=> ?_) (fun hc26=> ?_)
  ·rw[if_pos hc25]at h
   try simp only[go_sem]
   cases h
   rfl
  rw[if_neg (ff hc26)]at h
  try simp only[go_sem]
  refine zaa (v:= .ptr 5 0 1) (fun hb125=>by simp only[go_sem,hc16,hc19,hc26,hb125]) ?_
  try simp only[go_sem]
  refine zaa (v:= .d (.bool r1.data)) (fun hb124=>by simp only[go_sem,hc16,hc19,hc26,hb124]) ?_
  try simp only[go_sem]
  refine zaa (v:= .d (.bool (!r1.data))) (fun hb123=>by simp only[go_sem,hc16,hc19,hc26,hb123]) ?_
  try simp only[go_sem]
  refine zaa (v:= .d (.bool (!r1.data))) (fun hb122=>by simp only[go_sem,hc16,hc19,hc26,hb122]) ?_
  try simp only[go_sem]
  refine zaa (v:= .ptr 0 0 6) (fun hb119=>by((obtain⟨hb120,hb121⟩:=zay hb119));simp only[go_sem,hc16,hc19,hc26,hb121,hb120]) ?_
  try simp only[go_sem]
  refine zaa (v:= .d (.list a0.data.n (a0.data.l.map (D.int .u16)))) (fun hb116=>by((obtain⟨hb117,hb118⟩:=zay hb116));simp only[go_sem,hc16,hc19,hc26,hb118,hb117]) ?_
  try simp only[go_sem]
  refine zaa (v:= .d (.int .i64 (a0.data.l.length:Int))) (fun hb113=>by((obtain⟨hb114,hb115⟩:=zay hb113));simp only[go_sem,hc16,hc19,hc26,hb115,hb114]) ?_
  try simp only[go_sem]
  refine zaa (v:= .d (.bool (decide (0<(a0.data.l.length:Int))))) (fun hb110=>by((obtain⟨hb111,hb112⟩:=zay hb110));simp only[go_sem,hc16,hc19,hc26,hb112,hb111]) ?_
  try simp only[go_sem]
  obtain⟨r47,hl48,h⟩:=bs h
  refine zbW.cut (n:=(0,[])) .normal ⟨((((Regs.none.set 1 (.ptr 0 0 0)).set 3 (.ptr 5 0 0)).set 4 (.d (.bool (a0.kind==1)))).set 50 (.d (.bool r47))),(((Heap.at 77).set 0 (some (.els 16 [.d (zaj a0)] 0))).set 5 (some (.els 6 [.d (zaG r1)] 0)))⟩ ?_ (by(repeat(first|refine Clo.block ?_|refine Clo.seq zba rfl ?_));(exact Clo.ret)) ?_
  ·replace h:=hl48
   refine zaw (fun hc27=> ?_) (fun hc28=> ?_)
   ·rw[if_pos (show(!(decide (16384<(a0.data.l.length:Int))))=true by(rw[hc27];rfl))]at h
    try simp only[go_sem,hc27]
    refine zaa (v:= .ptr 5 0 2) (fun hb46=>by simp only[go_sem,hc16,hc19,hc26,hc27,hb46]) ?_
    try simp only[go_sem]
    refine zaa (v:= .d (.bool r1.kids)) (fun hb45=>by simp only[go_sem,hc16,hc19,hc26,hc27,hb45]) ?_
    try simp only[go_sem]
    refine zaa (v:= .d (.bool (!r1.kids))) (fun hb44=>by simp only[go_sem,hc16,hc19,hc26,hc27,hb44]) ?_
    try simp only[go_sem]
    refine zaa (v:= .d (.bool (!r1.kids))) (fun hb43=>by simp only[go_sem,hc16,hc19,hc26,hc27,hb43]) ?_
    try simp only[go_sem]
    refine zaa (v:= .ptr 0 0 9) (fun hb40=>by((obtain⟨hb41,hb42⟩:=zay hb40));simp only[go_sem,hc16,hc19,hc26,hc27,hb42,hb41]) ?_
    try simp only[go_sem]
    refine zaa (v:= .d (.list a0.kids.n (a0.kids.l.map (D.int .i64)))) (fun hb37=>by((obtain⟨hb38,hb39⟩:=zay hb37));simp only[go_sem,hc16,hc19,hc26,hc27,hb39,hb38]) ?_
    try simp only[go_sem]
    refine zaa (v:= .d (.int .i64 (a0.kids.l.length:Int))) (fun hb34=>by((obtain⟨hb35,hb36⟩:=zay hb34));simp only[go_sem,hc16,hc19,hc26,hc27,hb36,hb35]) ?_
    try simp only[go_sem]
    refine zaa (v:= .d (.bool (decide (0<(a0.kids.l.length:Int))))) (fun hb31=>by((obtain⟨hb32,hb33⟩:=zay hb31));simp only[go_sem,hc16,hc19,hc26,hc27,hb33,hb32]) ?_
    try simp only[go_sem]
    refine zaw (fun hc29=> ?_) (fun hc30=> ?_)
    ·rw[if_pos (show(!(bif (!r1.data)then(decide (0<(a0.data.l.length:Int)))else false))=true by(rw[hc29];rfl))]at h
     try simp only[go_sem,hc29]
     cases h
     exact⟨rfl,Up.of (N:=77) (N':=77) [] rfl rfl (by decide) (.set (.d _) (.set (.d _) (.set (.ptr' rfl) (.set (.ptr' rfl) zai.none)))) (.set zau.refl_d (.set zau.refl_d zal.at))⟩
    rw[if_neg (ffn hc30)]at h
    try simp only[go_sem,hc30]
    cases h
    exact⟨rfl,Up.of (N:=77) (N':=77) [] rfl rfl (by decide) (.set (.d _) (.set (.d _) (.set (.ptr' rfl) (.set (.ptr' rfl) zai.none)))) (.set zau.refl_d (.set zau.refl_d zal.at))⟩
   rw[if_neg (ffn hc28)]at h
   try simp only[go_sem,hc28]
   cases h
   exact⟨rfl,Up.of (N:=77) (N':=77) [] rfl rfl (by decide) (.set (.d _) (.set (.d _) (.set (.ptr' rfl) (.set (.ptr' rfl) zai.none)))) (.set zau.refl_d (.set zau.refl_d zal.at))⟩
  try simp only[go_sem]
  obtain⟨r95,hl96,h⟩:=bs h
  refine WBr.cut (n:=(0,[])) ((fun r=>match r with|(.inl r)=>(.normal,⟨(Regs.none.set 1 (.ptr 0 0 0)),((Heap.at 77).set 0 (some (.els 16 [.d (zaj a0)] 0)))⟩)|(.inr r)=>(.ret,⟨(Regs.none.set 2 (.d (.bool false))),(Heap.at 77)⟩):((Unit)⊕(Unit))→Ex×St) r95).1 ((fun r=>match r with|(.inl r)=>(.normal,⟨(Regs.none.set 1 (.ptr 0 0 0)),((Heap.at 77).set 0 (some (.els 16 [.d (zaj a0)] 0)))⟩)|(.inr r)=>(.ret,⟨(Regs.none.set 2 (.d (.bool false))),(Heap.at 77)⟩):((Unit)⊕(Unit))→Ex×St) r95).2 ?_ (by(repeat(first|refine Clo.block ?_|refine Clo.seq zba rfl ?_));(exact Clo.ret)) ?_
  ·replace h:=hl96
   refine zag (fun hc49=> ?_) (fun hc50=> ?_)
   ·rw[if_pos hc49]at h
    try simp only[go_sem]
    cases h
    exact⟨rfl,Up.of (N:=77) (N':=78) [] rfl rfl (by decide) (.set (.d _) zai.none) zal.at⟩
   rw[if_neg (ff hc50)]at h
   try simp only[go_sem]
   refine zaa (v:= .ptr 0 0 7) (fun hb94=>by simp only[go_sem,hc16,hc19,hc26,hc50,hb94]) ?_
   try simp only[go_sem]
   refine zaa (v:= .d (.list a0.attrs.n (a0.attrs.l.map zaL))) (fun hb93=>by simp only[go_sem,hc16,hc19,hc26,hc50,hb93]) ?_
   try simp only[go_sem]
   refine zaa (v:= .d (.int .i64 (a0.attrs.l.length:Int))) (fun hb92=>by simp only[go_sem,hc16,hc19,hc26,hc50,hb92]) ?_
   try simp only[go_sem]
   refine zaa (v:= .d (.bool (decide (0<(a0.attrs.l.length:Int))))) (fun hb91=>by simp only[go_sem,hc16,hc19,hc26,hc50,hb91]) ?_
   try simp only[go_sem]
   refine zaa (v:= .d (.bool (decide (0<(a0.attrs.l.length:Int))))) (fun hb90=>by simp only[go_sem,hc16,hc19,hc26,hc50,hb90]) ?_
   try simp only[go_sem]
   refine zaa (v:= .ptr 0 0 12) (fun hb87=>by((obtain⟨hb88,hb89⟩:=zay hb87));simp only[go_sem,hc16,hc19,hc26,hc50,hb89,hb88]) ?_
   try simp only[go_sem]
   refine zaa (v:= .d (.int .i64 a0.shadow)) (fun hb84=>by((obtain⟨hb85,hb86⟩:=zay hb84));simp only[go_sem,hc16,hc19,hc26,hc50,hb86,hb85]) ?_
   try simp only[go_sem]
   refine zaa (v:= .d (.bool (!(a0.shadow==0)))) (fun hb81=>by((obtain⟨hb82,hb83⟩:=zay hb81));simp only[go_sem,hc16,hc19,hc26,hc50,hb83,hb82]) ?_
   try simp only[go_sem]
   refine zaw (fun hc51=> ?_) (fun hc52=> ?_)
   ·rw[if_pos (show(!(a0.kind==1))=true by(rw[hc51];rfl))]at h
    try simp only[go_sem,hc51]
    refine zaa (v:= .ptr 0 0 0) (fun hb71=>by simp only[go_sem,hc16,hc19,hc26,hc50,hc51,hb71]) ?_
    try simp only[go_sem]
    refine zaa (v:= .d (.int .u8 a0.kind)) (fun hb70=>by simp only[go_sem,hc16,hc19,hc26,hc50,hc51,hb70]) ?_
    try simp only[go_sem]
    refine zaa (v:= .d (.bool (!(a0.kind==9)))) (fun hb69=>by simp only[go_sem,hc16,hc19,hc26,hc50,hc51,hb69]) ?_
    try simp only[go_sem]
    refine zaa (v:= .d (.bool (!(a0.kind==9)))) (fun hb68=>by simp only[go_sem,hc16,hc19,hc26,hc50,hc51,hb68]) ?_
    try simp only[go_sem]
    refine zaa (v:= .ptr 0 0 15) (fun hb65=>by((obtain⟨hb66,hb67⟩:=zay hb65));simp only[go_sem,hc16,hc19,hc26,hc50,hc51,hb67,hb66]) ?_
    try simp only[go_sem]
    refine zaa (v:= .d (.bool a0.hTML)) (fun hb62=>by((obtain⟨hb63,hb64⟩:=zay hb62));simp only[go_sem,hc16,hc19,hc26,hc50,hc51,hb64,hb63]) ?_
    try simp only[go_sem]
    refine zaw (fun hc53=> ?_) (fun hc54=> ?_)
    ·rw[if_pos (show(!(bif (decide (0<(a0.attrs.l.length:Int)))then true else(!(a0.shadow==0))))=true by(rw[hc53];rfl))]at h
     try simp only[go_sem,hc53]
     refine zag (fun hc55=> ?_) (fun hc56=> ?_)
     ·rw[if_pos hc55]at h
      try simp only[go_sem]
      cases h
      exact⟨rfl,Up.of (N:=77) (N':=101) [] rfl rfl (by decide) (.set (.d _) zai.none) zal.at⟩
     rw[if_neg (ff hc56)]at h
     try simp only[go_sem]
     refine zaa (v:= .ptr 0 0 8) (fun hb61=>by simp only[go_sem,hc16,hc19,hc26,hc50,hc51,hc53,hc56,hb61]) ?_
     try simp only[go_sem]
     refine zaa (v:= .d (.int .i64 a0.parent)) (fun hb60=>by simp only[go_sem,hc16,hc19,hc26,hc50,hc51,hc53,hc56,hb60]) ?_
     try simp only[go_sem]
     refine zaa (v:= .d (.bool (!(a0.parent==0)))) (fun hb59=>by simp only[go_sem,hc16,hc19,hc26,hc50,hc51,hc53,hc56,hb59]) ?_
     try simp only[go_sem]
     refine zag (fun hc57=> ?_) (fun hc58=> ?_)
     ·rw[if_pos hc57]at h
      try simp only[go_sem]
      cases h
      exact⟨rfl,Up.of (N:=77) (N':=110) [] rfl rfl (by decide) (.set (.d _) zai.none) zal.at⟩
     rw[if_neg (ff hc58)]at h
     try simp only[go_sem]
     cases h
     exact⟨rfl,Up.of (N:=77) (N':=109) [] rfl rfl (by decide) (.set (.ptr' rfl) zai.none) (.set zau.refl_d zal.at)⟩
    rw[if_neg (ffn hc54)]at h
    try simp only[go_sem,hc54]
    cases h
    exact⟨rfl,Up.of (N:=77) (N':=101) [] rfl rfl (by decide) (.set (.d _) zai.none) zal.at⟩
   rw[if_neg (ffn hc52)]at h
   try simp only[go_sem,hc52]
   refine zaa (v:= .ptr 0 0 15) (fun hb80=>by simp only[go_sem,hc16,hc19,hc26,hc50,hc52,hb80]) ?_
   try simp only[go_sem]
   refine zaa (v:= .d (.bool a0.hTML)) (fun hb79=>by simp only[go_sem,hc16,hc19,hc26,hc50,hc52,hb79]) ?_
   try simp only[go_sem]
   refine zag (fun hc72=> ?_) (fun hc73=> ?_)
   ·rw[if_pos hc72]at h
    try simp only[go_sem]
    cases h
    exact⟨rfl,Up.of (N:=77) (N':=101) [] rfl rfl (by decide) (.set (.d _) zai.none) zal.at⟩
   rw[if_neg (ff hc73)]at h
   try simp only[go_sem]
   refine zaa (v:= .ptr 0 0 8) (fun hb78=>by simp only[go_sem,hc16,hc19,hc26,hc50,hc52,hc73,hb78]) ?_
   try simp only[go_sem]
   refine zaa (v:= .d (.int .i64 a0.parent)) (fun hb77=>by simp only[go_sem,hc16,hc19,hc26,hc50,hc52,hc73,hb77]) ?_
   try simp only[go_sem]
   refine zaa (v:= .d (.bool (!(a0.parent==0)))) (fun hb76=>by simp only[go_sem,hc16,hc19,hc26,hc50,hc52,hc73,hb76]) ?_
   try simp only[go_sem]
   refine zag (fun hc74=> ?_) (fun hc75=> ?_)
   ·rw[if_pos hc74]at h
    try simp only[go_sem]
    cases h
    exact⟨rfl,Up.of (N:=77) (N':=110) [] rfl rfl (by decide) (.set (.d _) zai.none) zal.at⟩
   rw[if_neg (ff hc75)]at h
   try simp only[go_sem]
   cases h
   exact⟨rfl,Up.of (N:=77) (N':=109) [] rfl rfl (by decide) (.set (.ptr' rfl) zai.none) (.set zau.refl_d zal.at)⟩
  rcases r95 with(q97|q109)
  ·dsimp only at h⊢
   try simp only[go_sem]
   refine zag (fun hc98=> ?_) (fun hc99=> ?_)
   ·rw[if_pos hc98]at h
    try simp only[go_sem]
    refine zaa (v:= .ptr 0 0 13) (fun hb102=>by simp only[go_sem,hc16,hc19,hc26,hc98,hb102]) ?_
    try simp only[go_sem]
    refine zaa (v:= .d (.int .u8 a0.mode)) (fun hb101=>by simp only[go_sem,hc16,hc19,hc26,hc98,hb101]) ?_
    try simp only[go_sem]
    refine zaa (v:= .d (.bool (a0.mode==2))) (fun hb100=>by simp only[go_sem,hc16,hc19,hc26,hc98,hb100]) ?_
    try simp only[go_sem]
    cases h
    rfl
   rw[if_neg (ff hc99)]at h
   try simp only[go_sem]
   refine zaa (v:= .ptr 0 0 14) (fun hb108=>by simp only[go_sem,hc16,hc19,hc26,hc99,hb108]) ?_
   try simp only[go_sem]
   refine zaa (v:= .d (.bool a0.manual)) (fun hb107=>by simp only[go_sem,hc16,hc19,hc26,hc99,hb107]) ?_
   try simp only[go_sem]
   refine zaa (v:= .d (.bool (!a0.manual))) (fun hb106=>by simp only[go_sem,hc16,hc19,hc26,hc99,hb106]) ?_
   try simp only[go_sem]
   refine zaa (v:= .ptr 0 0 11) (fun hb105=>by simp only[go_sem,hc16,hc19,hc26,hc99,hb105]) ?_
   try simp only[go_sem]
   refine zaa (v:= .d (.int .i64 a0.host)) (fun hb104=>by simp only[go_sem,hc16,hc19,hc26,hc99,hb104]) ?_
   try simp only[go_sem]
   refine zaa (v:= .d (.bool (a0.host==0))) (fun hb103=>by simp only[go_sem,hc16,hc19,hc26,hc99,hb103]) ?_
   try simp only[go_sem]
   cases h
   rfl
  dsimp only at h⊢
  try simp only[go_sem]
  cases h
  rfl
 rw[if_neg (ff hc20)]at h
 try simp only[go_sem,hc20]
 cases h
 rfl
noncomputable def zIU (a0:Forest) (a1:Int):Option (Bool):=
 (rd a0.nodes.l (IntKind.wrap .i64 (a1-1))).bind fun y1=>
 (if(!(y1.parent==0))=true then
  (dec (eT2 zaj D.bool) (pc prog 187 [zam a0,.int .i64 y1.parent])).bind fun r5=>
  (if r5.2=true then
   (dec D.bool (pc prog 188 [.list r5.1.kids.n (r5.1.kids.l.map (D.int .i64)),.int .i64 a1])).bind fun r9=>
   some (!r9)
  else
   some true:Option ((Bool))).bind fun r11=>
  if r11=true then
   some (.inr ())
  else
   some (.inl ())
 else
  some (.inl ()):Option ((Unit)⊕(Unit))).bind fun r18=>
 match r18 with
 |(.inl q20)=>
  (dec (D.int .u8) (pc prog 189 [zam a0,.int .i64 y1.doc])).bind fun r21=>
  (if(r21==9)=true then
   some (bif (y1.kind==9)then(!(y1.doc==a1))else false)
  else
   some true:Option ((Bool))).bind fun r25=>
  if r25=true then
   some false
  else
   (if(!(y1.shadow==0))=true then
    (dec (eT2 zaj D.bool) (pc prog 187 [zam a0,.int .i64 y1.shadow])).bind fun r31=>
    if(bif (bif (!r31.2)then true else(!(r31.1.kind==12)))then true else(!(r31.1.host==a1)))=true then
     some (.inr ())
    else
     some (.inl ())
   else
    some (.inl ()):Option ((Unit)⊕(Unit))).bind fun r42=>
   match r42 with
   |(.inl q44)=>
    if(y1.kind==12)=true then
     (dec (eT2 zaj D.bool) (pc prog 187 [zam a0,.int .i64 y1.host])).bind fun r47=>
     if(bif (bif (bif (!r47.2)then true else(!(r47.1.kind==1)))then true else(!(r47.1.shadow==a1)))then true else(!(r47.1.doc==y1.doc)))=true then
      some false
     else
      (dec D.bool (pc prog 190 [zam a0,.int .i64 a1,zaj y1])).bind fun r51=>
      some r51
    else
     (dec D.bool (pc prog 190 [zam a0,.int .i64 a1,zaj y1])).bind fun r65=>
     some r65
   |(.inr q67)=>
    some false
 |(.inr q84)=>
  some false
theorem zIV (a0:Forest) (a1:Int) (r:Bool) (h:zIU a0 a1=some r):pc prog 162 [zam a0,.int .i64 a1]=some (D.bool r):=by
 unfold zIU at h
 refine zbk (fn:=zHA) rfl rfl ?_
 delta zHA
 try simp only[go_sem]
 obtain⟨y1,hy2,h⟩:=bs h
 try simp only[go_sem,zab hy2,zad hy2,zac zaj hy2]
 obtain⟨r18,hl19,h⟩:=bs h
 refine WBr.cut (n:=(0,[])) ((fun r=>match r with|(.inl r)=>(.normal,⟨(((Regs.none.set 1 (.d (.int .i64 a1))).set 2 (.ptr 0 0 0)).set 5 (.ptr 8 0 0)),(((Heap.at 13).set 0 (some (.els 1 [.d (zam a0)] 0))).set 8 (some (.els 16 [.d (zaj y1)] 0)))⟩)|(.inr r)=>(.ret,⟨(Regs.none.set 4 (.d (.bool false))),(Heap.at 13)⟩):((Unit)⊕(Unit))→Ex×St) r18).1 ((fun r=>match r with|(.inl r)=>(.normal,⟨(((Regs.none.set 1 (.d (.int .i64 a1))).set 2 (.ptr 0 0 0)).set 5 (.ptr 8 0 0)),(((Heap.at 13).set 0 (some (.els 1 [.d (zam a0)] 0))).set 8 (some (.els 16 [.d (zaj y1)] 0)))⟩)|(.inr r)=>(.ret,⟨(Regs.none.set 4 (.d (.bool false))),(Heap.at 13)⟩):((Unit)⊕(Unit))→Ex×St) r18).2 ?_ (by(repeat(refine Clo.seq zba rfl ?_));(exact Clo.ret)) ?_
 ·replace h:=hl19
  refine zaO (fun hc3=> ?_) (fun hc4=> ?_)
  ·rw[if_pos (show(!(y1.parent==0))=true by(rw[hc3];rfl))]at h
   try simp only[go_sem,zab hy2,zad hy2,zac zaj hy2]
   obtain⟨r5,hr6,h⟩:=bs h
   replace hr6:=zaq hr6
   refine zat hr6 ?_
   try simp only[go_sem,zab hy2,zad hy2,zac zaj hy2]
   refine zaa (v:= .ptr 20 0 9) (fun hb17=>by simp only[go_sem,zab hy2,zad hy2,zac zaj hy2,hc3,hb17]) ?_
   try simp only[go_sem,zab hy2,zad hy2,zac zaj hy2]
   refine zaa (v:= .d (.list r5.1.kids.n (r5.1.kids.l.map (D.int .i64)))) (fun hb16=>by simp only[go_sem,zab hy2,zad hy2,zac zaj hy2,hc3,hb16]) ?_
   try simp only[go_sem,zab hy2,zad hy2,zac zaj hy2]
   refine zaa (v:= .d (.int .i64 a1)) (fun hb15=>by simp only[go_sem,zab hy2,zad hy2,zac zaj hy2,hc3,hb15]) ?_
   try simp only[go_sem,zab hy2,zad hy2,zac zaj hy2]
   obtain⟨r11,hl12,h⟩:=bs h
   refine zbW.cut (n:=(0,[])) .normal ⟨((((Regs.none.set 1 (.d (.int .i64 a1))).set 2 (.ptr 0 0 0)).set 5 (.ptr 8 0 0)).set 36 (.d (.bool r11))),(((Heap.at 32).set 0 (some (.els 1 [.d (zam a0)] 0))).set 8 (some (.els 16 [.d (zaj y1)] 0)))⟩ ?_ (by(repeat(refine Clo.seq zba rfl ?_));(exact Clo.cpost (by decide))) ?_
   ·replace h:=hl12
    refine zaA (fun hc7=> ?_) (fun hc8=> ?_)
    ·rw[if_pos hc7]at h
     try simp only[go_sem,zab hy2,zad hy2,zac zaj hy2,hc7]
     obtain⟨r9,hr10,h⟩:=bs h
     replace hr10:=zaq hr10
     refine zat hr10 ?_
     try simp only[go_sem,zab hy2,zad hy2,zac zaj hy2]
     cases h
     exact⟨rfl,Up.of (N:=32) (N':=32) [] rfl rfl (by decide) (.set (.d _) (.set (.ptr' rfl) (.set (.ptr' rfl) (.set (.d _) zai.none)))) (.set zau.refl_d (.set zau.refl_d zal.at))⟩
    rw[if_neg (ff hc8)]at h
    try simp only[go_sem,zab hy2,zad hy2,zac zaj hy2,hc8]
    cases h
    exact⟨rfl,Up.of (N:=32) (N':=32) [] rfl rfl (by decide) (.set (.d _) (.set (.ptr' rfl) (.set (.ptr' rfl) (.set (.d _) zai.none)))) (.set zau.refl_d (.set zau.refl_d zal.at))⟩
   try simp only[go_sem,zab hy2,zad hy2,zac zaj hy2]
   refine zag (fun hc13=> ?_) (fun hc14=> ?_)
   ·rw[if_pos hc13]at h
    try simp only[go_sem,zab hy2,zad hy2,zac zaj hy2]
    cases h
    exact⟨rfl,Up.of (N:=13) (N':=33) [] rfl rfl (by decide) (.set (.d _) zai.none) zal.at⟩
   rw[if_neg (ff hc14)]at h
   try simp only[go_sem,zab hy2,zad hy2,zac zaj hy2]
   cases h
   exact⟨rfl,Up.of (N:=13) (N':=32) [] rfl rfl (by decide) (.set (.ptr' rfl) (.set (.ptr' rfl) (.set (.d _) zai.none))) (.set zau.refl_d (.set zau.refl_d zal.at))⟩
  rw[if_neg (ffn hc4)]at h
  try simp only[go_sem,zab hy2,zad hy2,zac zaj hy2]
  cases h
  exact⟨rfl,Up.of (N:=13) (N':=13) [] rfl rfl (by decide) (.set (.ptr' rfl) (.set (.ptr' rfl) (.set (.d _) zai.none))) (.set zau.refl_d (.set zau.refl_d zal.at))⟩
 rcases r18 with(q20|q84)
 ·dsimp only at h⊢
  try simp only[go_sem,zab hy2,zad hy2,zac zaj hy2]
  obtain⟨r21,hr22,h⟩:=bs h
  replace hr22:=zaq hr22
  refine zat hr22 ?_
  try simp only[go_sem,zab hy2,zad hy2,zac zaj hy2]
  refine zaa (v:= .ptr 8 0 0) (fun hb83=>by simp only[go_sem,zab hy2,zad hy2,zac zaj hy2,hb83]) ?_
  try simp only[go_sem,zab hy2,zad hy2,zac zaj hy2]
  refine zaa (v:= .d (.int .u8 y1.kind)) (fun hb82=>by simp only[go_sem,zab hy2,zad hy2,zac zaj hy2,hb82]) ?_
  try simp only[go_sem,zab hy2,zad hy2,zac zaj hy2]
  refine zaa (v:= .d (.bool (y1.kind==9))) (fun hb81=>by simp only[go_sem,zab hy2,zad hy2,zac zaj hy2,hb81]) ?_
  try simp only[go_sem,zab hy2,zad hy2,zac zaj hy2]
  refine zaa (v:= .d (.bool (y1.kind==9))) (fun hb80=>by simp only[go_sem,zab hy2,zad hy2,zac zaj hy2,hb80]) ?_
  try simp only[go_sem,zab hy2,zad hy2,zac zaj hy2]
  refine zaa (v:= .ptr 8 0 10) (fun hb77=>by((obtain⟨hb78,hb79⟩:=zay hb77));simp only[go_sem,zab hy2,zad hy2,zac zaj hy2,hb79,hb78]) ?_
  try simp only[go_sem,zab hy2,zad hy2,zac zaj hy2]
  refine zaa (v:= .d (.int .i64 y1.doc)) (fun hb74=>by((obtain⟨hb75,hb76⟩:=zay hb74));simp only[go_sem,zab hy2,zad hy2,zac zaj hy2,hb76,hb75]) ?_
  try simp only[go_sem,zab hy2,zad hy2,zac zaj hy2]
  refine zaa (v:= .d (.int .i64 a1)) (fun hb71=>by((obtain⟨hb72,hb73⟩:=zay hb71));simp only[go_sem,zab hy2,zad hy2,zac zaj hy2,hb73,hb72]) ?_
  try simp only[go_sem,zab hy2,zad hy2,zac zaj hy2]
  refine zaa (v:= .d (.bool (!(y1.doc==a1)))) (fun hb68=>by((obtain⟨hb69,hb70⟩:=zay hb68));simp only[go_sem,zab hy2,zad hy2,zac zaj hy2,hb70,hb69]) ?_
  try simp only[go_sem,zab hy2,zad hy2,zac zaj hy2]
  obtain⟨r25,hl26,h⟩:=bs h
  refine zbW.cut (n:=(0,[])) .normal ⟨((((Regs.none.set 1 (.d (.int .i64 a1))).set 2 (.ptr 0 0 0)).set 5 (.ptr 8 0 0)).set 52 (.d (.bool r25))),(((Heap.at 29).set 0 (some (.els 1 [.d (zam a0)] 0))).set 8 (some (.els 16 [.d (zaj y1)] 0)))⟩ ?_ (by(repeat(refine Clo.seq zba rfl ?_));(exact Clo.ret)) ?_
  ·replace h:=hl26
   refine zaA (fun hc23=> ?_) (fun hc24=> ?_)
   ·rw[if_pos hc23]at h
    try simp only[go_sem,zab hy2,zad hy2,zac zaj hy2,hc23]
    cases h
    exact⟨rfl,Up.of (N:=29) (N':=29) [] rfl rfl (by decide) (.set (.d _) (.set (.ptr' rfl) (.set (.ptr' rfl) (.set (.d _) zai.none)))) (.set zau.refl_d (.set zau.refl_d zal.at))⟩
   rw[if_neg (ff hc24)]at h
   try simp only[go_sem,zab hy2,zad hy2,zac zaj hy2,hc24]
   cases h
   exact⟨rfl,Up.of (N:=29) (N':=29) [] rfl rfl (by decide) (.set (.d _) (.set (.ptr' rfl) (.set (.ptr' rfl) (.set (.d _) zai.none)))) (.set zau.refl_d (.set zau.refl_d zal.at))⟩
  try simp only[go_sem,zab hy2,zad hy2,zac zaj hy2]
  refine zag (fun hc27=> ?_) (fun hc28=> ?_)
  ·rw[if_pos hc27]at h
   try simp only[go_sem,zab hy2,zad hy2,zac zaj hy2]
   cases h
   rfl
  rw[if_neg (ff hc28)]at h
  try simp only[go_sem,zab hy2,zad hy2,zac zaj hy2]
  obtain⟨r42,hl43,h⟩:=bs h
  refine WBr.cut (n:=(0,[])) ((fun r=>match r with|(.inl r)=>(.normal,⟨(((Regs.none.set 1 (.d (.int .i64 a1))).set 2 (.ptr 0 0 0)).set 5 (.ptr 8 0 0)),(((Heap.at 32).set 0 (some (.els 1 [.d (zam a0)] 0))).set 8 (some (.els 16 [.d (zaj y1)] 0)))⟩)|(.inr r)=>(.ret,⟨(Regs.none.set 4 (.d (.bool false))),(Heap.at 32)⟩):((Unit)⊕(Unit))→Ex×St) r42).1 ((fun r=>match r with|(.inl r)=>(.normal,⟨(((Regs.none.set 1 (.d (.int .i64 a1))).set 2 (.ptr 0 0 0)).set 5 (.ptr 8 0 0)),(((Heap.at 32).set 0 (some (.els 1 [.d (zam a0)] 0))).set 8 (some (.els 16 [.d (zaj y1)] 0)))⟩)|(.inr r)=>(.ret,⟨(Regs.none.set 4 (.d (.bool false))),(Heap.at 32)⟩):((Unit)⊕(Unit))→Ex×St) r42).2 ?_ (by(repeat(refine Clo.seq zba rfl ?_));(exact Clo.ret)) ?_
  ·replace h:=hl43
   refine zaO (fun hc29=> ?_) (fun hc30=> ?_)
   ·rw[if_pos (show(!(y1.shadow==0))=true by(rw[hc29];rfl))]at h
    try simp only[go_sem,zab hy2,zad hy2,zac zaj hy2]
    obtain⟨r31,hr32,h⟩:=bs h
    replace hr32:=zaq hr32
    refine zat hr32 ?_
    try simp only[go_sem,zab hy2,zad hy2,zac zaj hy2]
    refine zaa (v:= .ptr 39 0 0) (fun hb41=>by simp only[go_sem,zab hy2,zad hy2,zac zaj hy2,hc28,hc29,hb41]) ?_
    try simp only[go_sem,zab hy2,zad hy2,zac zaj hy2]
    refine zaa (v:= .d (.int .u8 r31.1.kind)) (fun hb40=>by simp only[go_sem,zab hy2,zad hy2,zac zaj hy2,hc28,hc29,hb40]) ?_
    try simp only[go_sem,zab hy2,zad hy2,zac zaj hy2]
    refine zaa (v:= .d (.bool (!(r31.1.kind==12)))) (fun hb39=>by simp only[go_sem,zab hy2,zad hy2,zac zaj hy2,hc28,hc29,hb39]) ?_
    try simp only[go_sem,zab hy2,zad hy2,zac zaj hy2]
    refine zaa (v:= .ptr 39 0 11) (fun hb38=>by simp only[go_sem,zab hy2,zad hy2,zac zaj hy2,hc28,hc29,hb38]) ?_
    try simp only[go_sem,zab hy2,zad hy2,zac zaj hy2]
    refine zaa (v:= .d (.int .i64 r31.1.host)) (fun hb37=>by simp only[go_sem,zab hy2,zad hy2,zac zaj hy2,hc28,hc29,hb37]) ?_
    try simp only[go_sem,zab hy2,zad hy2,zac zaj hy2]
    refine zaa (v:= .d (.int .i64 a1)) (fun hb36=>by simp only[go_sem,zab hy2,zad hy2,zac zaj hy2,hc28,hc29,hb36]) ?_
    try simp only[go_sem,zab hy2,zad hy2,zac zaj hy2]
    refine zaa (v:= .d (.bool (!(r31.1.host==a1)))) (fun hb35=>by simp only[go_sem,zab hy2,zad hy2,zac zaj hy2,hc28,hc29,hb35]) ?_
    try simp only[go_sem,zab hy2,zad hy2,zac zaj hy2]
    refine zag (fun hc33=> ?_) (fun hc34=> ?_)
    ·rw[if_pos hc33]at h
     try simp only[go_sem,zab hy2,zad hy2,zac zaj hy2]
     cases h
     exact⟨rfl,Up.of (N:=32) (N':=56) [] rfl rfl (by decide) (.set (.d _) zai.none) zal.at⟩
    rw[if_neg (ff hc34)]at h
    try simp only[go_sem,zab hy2,zad hy2,zac zaj hy2]
    cases h
    exact⟨rfl,Up.of (N:=32) (N':=55) [] rfl rfl (by decide) (.set (.ptr' rfl) (.set (.ptr' rfl) (.set (.d _) zai.none))) (.set zau.refl_d (.set zau.refl_d zal.at))⟩
   rw[if_neg (ffn hc30)]at h
   try simp only[go_sem,zab hy2,zad hy2,zac zaj hy2]
   cases h
   exact⟨rfl,Up.of (N:=32) (N':=32) [] rfl rfl (by decide) (.set (.ptr' rfl) (.set (.ptr' rfl) (.set (.d _) zai.none))) (.set zau.refl_d (.set zau.refl_d zal.at))⟩
  rcases r42 with(q44|q67)
  ·dsimp only at h⊢
   try simp only[go_sem,zab hy2,zad hy2,zac zaj hy2]
   refine zag (fun hc45=> ?_) (fun hc46=> ?_)
   ·rw[if_pos hc45]at h
    try simp only[go_sem,zab hy2,zad hy2,zac zaj hy2]
    obtain⟨r47,hr48,h⟩:=bs h
    replace hr48:=zaq hr48
    refine zat hr48 ?_
    try simp only[go_sem,zab hy2,zad hy2,zac zaj hy2]
    refine zaa (v:= .ptr 42 0 0) (fun hb64=>by simp only[go_sem,zab hy2,zad hy2,zac zaj hy2,hc28,hc45,hb64]) ?_
    try simp only[go_sem,zab hy2,zad hy2,zac zaj hy2]
    refine zaa (v:= .d (.int .u8 r47.1.kind)) (fun hb63=>by simp only[go_sem,zab hy2,zad hy2,zac zaj hy2,hc28,hc45,hb63]) ?_
    try simp only[go_sem,zab hy2,zad hy2,zac zaj hy2]
    refine zaa (v:= .d (.bool (!(r47.1.kind==1)))) (fun hb62=>by simp only[go_sem,zab hy2,zad hy2,zac zaj hy2,hc28,hc45,hb62]) ?_
    try simp only[go_sem,zab hy2,zad hy2,zac zaj hy2]
    refine zaa (v:= .ptr 42 0 12) (fun hb61=>by simp only[go_sem,zab hy2,zad hy2,zac zaj hy2,hc28,hc45,hb61]) ?_
    try simp only[go_sem,zab hy2,zad hy2,zac zaj hy2]
    refine zaa (v:= .d (.int .i64 r47.1.shadow)) (fun hb60=>by simp only[go_sem,zab hy2,zad hy2,zac zaj hy2,hc28,hc45,hb60]) ?_
    try simp only[go_sem,zab hy2,zad hy2,zac zaj hy2]
    refine zaa (v:= .d (.int .i64 a1)) (fun hb59=>by simp only[go_sem,zab hy2,zad hy2,zac zaj hy2,hc28,hc45,hb59]) ?_
    try simp only[go_sem,zab hy2,zad hy2,zac zaj hy2]
    refine zaa (v:= .d (.bool (!(r47.1.shadow==a1)))) (fun hb58=>by simp only[go_sem,zab hy2,zad hy2,zac zaj hy2,hc28,hc45,hb58]) ?_
    try simp only[go_sem,zab hy2,zad hy2,zac zaj hy2]
    refine zaa (v:= .ptr 42 0 10) (fun hb57=>by simp only[go_sem,zab hy2,zad hy2,zac zaj hy2,hc28,hc45,hb57]) ?_
    try simp only[go_sem,zab hy2,zad hy2,zac zaj hy2]
    refine zaa (v:= .d (.int .i64 r47.1.doc)) (fun hb56=>by simp only[go_sem,zab hy2,zad hy2,zac zaj hy2,hc28,hc45,hb56]) ?_
    try simp only[go_sem,zab hy2,zad hy2,zac zaj hy2]
    refine zaa (v:= .ptr 8 0 10) (fun hb55=>by simp only[go_sem,zab hy2,zad hy2,zac zaj hy2,hc28,hc45,hb55]) ?_
    try simp only[go_sem,zab hy2,zad hy2,zac zaj hy2]
    refine zaa (v:= .d (.int .i64 y1.doc)) (fun hb54=>by simp only[go_sem,zab hy2,zad hy2,zac zaj hy2,hc28,hc45,hb54]) ?_
    try simp only[go_sem,zab hy2,zad hy2,zac zaj hy2]
    refine zaa (v:= .d (.bool (!(r47.1.doc==y1.doc)))) (fun hb53=>by simp only[go_sem,zab hy2,zad hy2,zac zaj hy2,hc28,hc45,hb53]) ?_
    try simp only[go_sem,zab hy2,zad hy2,zac zaj hy2]
    refine zag (fun hc49=> ?_) (fun hc50=> ?_)
    ·rw[if_pos hc49]at h
     try simp only[go_sem,zab hy2,zad hy2,zac zaj hy2]
     cases h
     rfl
    rw[if_neg (ff hc50)]at h
    try simp only[go_sem,zab hy2,zad hy2,zac zaj hy2]
    obtain⟨r51,hr52,h⟩:=bs h
    replace hr52:=zaq hr52
    refine zat hr52 ?_
    try simp only[go_sem,zab hy2,zad hy2,zac zaj hy2]
    cases h
    rfl
   rw[if_neg (ff hc46)]at h
   try simp only[go_sem,zab hy2,zad hy2,zac zaj hy2]
   obtain⟨r65,hr66,h⟩:=bs h
   replace hr66:=zaq hr66
   refine zat hr66 ?_
   try simp only[go_sem,zab hy2,zad hy2,zac zaj hy2]
   cases h
   rfl
  dsimp only at h⊢
  try simp only[go_sem,zab hy2,zad hy2,zac zaj hy2]
  cases h
  rfl
 dsimp only at h⊢
 try simp only[go_sem,zab hy2,zad hy2,zac zaj hy2]
 cases h
 rfl
noncomputable def zIW (a0:Node):Option (Bool):=
 (dec D.bool (pc prog 191 [.int .u8 a0.kind])).bind fun r1=>
 (if(!(bif (bif (bif (!r1)then true else(decide (1024<(a0.public_.length:Int))))then true else(decide (1024<(a0.system.length:Int))))then true else(decide (16384<(a0.data.l.length:Int)))))=true then
  (dec D.bool (pc prog 192 [.list a0.attrs.n (a0.attrs.l.map zaL)])).bind fun r5=>
  some (!r5)
 else
  some true:Option ((Bool))).bind fun r7=>
 if r7=true then
  some false
 else
  (if(a0.kind==1)=true then
   (dec D.bool (pc prog 193 [zbR a0.name])).bind fun r13=>
   if(!r13)=true then
    some (.inr ())
   else
    some (.inl ())
  else
   (if(bif (a0.kind==10)then true else(a0.kind==7))=true then
    if(bif (bif (!(decide (a0.name=(⟨[],[],a0.name.local_⟩:Name))))then true else(a0.name.local_==[]))then true else(decide (1024<(a0.name.local_.length:Int))))=true then
     some (.inr ())
    else
     some (.inl ())
   else
    if(!(decide (a0.name=(⟨[],[],[]⟩:Name))))=true then
     some (.inr ())
    else
     some (.inl ()):Option ((Unit)⊕(Unit))).bind fun r32=>
   match r32 with
   |(.inl q34)=>
    some (.inl ())
   |(.inr q35)=>
    some (.inr ()):Option ((Unit)⊕(Unit))).bind fun r38=>
  match r38 with
  |(.inl q40)=>
   (if(!(a0.kind==10))=true then
    if(!(bif (!(a0.public_==[]))then true else(!(a0.system==[]))))=true then
     (dec D.bool (pc prog 194 [.int .u8 a0.kind])).bind fun r45=>
     if(!(bif (!r45)then(decide (0<(a0.data.l.length:Int)))else false))=true then
      (dec D.bool (pc prog 195 [.int .u8 a0.kind])).bind fun r49=>
      some (bif (!r49)then(decide (0<(a0.kids.l.length:Int)))else false)
     else
      some true
    else
     some true
   else
    (dec D.bool (pc prog 194 [.int .u8 a0.kind])).bind fun r61=>
    if(!(bif (!r61)then(decide (0<(a0.data.l.length:Int)))else false))=true then
     (dec D.bool (pc prog 195 [.int .u8 a0.kind])).bind fun r65=>
     some (bif (!r65)then(decide (0<(a0.kids.l.length:Int)))else false)
    else
     some true:Option ((Bool))).bind fun r76=>
   if r76=true then
    some false
   else
    (if(!(a0.kind==1))=true then
     if(!(bif (decide (0<(a0.attrs.l.length:Int)))then true else(!(a0.shadow==0))))=true then
      some (bif (!(a0.kind==9))then a0.hTML else false)
     else
      some true
    else
     some (bif (!(a0.kind==9))then a0.hTML else false):Option ((Bool))).bind fun r95=>
    if r95=true then
     some false
    else
     (if(a0.kind==12)=true then
      if(bif (!(a0.mode==1))then(!(a0.mode==2))else false)=true then
       some (.inr ())
      else
       some (.inl ())
     else
      if(bif (bif (!(a0.mode==0))then true else a0.manual)then true else(!(a0.host==0)))=true then
       some (.inr ())
      else
       some (.inl ()):Option ((Unit)⊕(Unit))).bind fun r113=>
     match r113 with
     |(.inl q115)=>
      if(!(a0.parent==0))=true then
       some (bif (bif (!(a0.kind==9))then(!(a0.kind==11))else false)then(!(a0.kind==12))else false)
      else
       some true
     |(.inr q129)=>
      some false
  |(.inr q157)=>
   some false
theorem zIX (a0:Node) (r:Bool) (h:zIW a0=some r):pc prog 163 [zaj a0]=some (D.bool r):=by
 unfold zIW at h
 refine zbk (fn:=zHB) rfl rfl ?_
 delta zHB
 try simp only[go_sem]
 obtain⟨r1,hr2,h⟩:=bs h
 replace hr2:=zaq hr2
 refine zat hr2 ?_
 try simp only[go_sem]
 refine zaa (v:= .ptr 0 0 4) (fun hb171=>by simp only[go_sem,hb171]) ?_
 try simp only[go_sem]
 refine zaa (v:= .d (.str a0.public_)) (fun hb170=>by simp only[go_sem,hb170]) ?_
 try simp only[go_sem]
 refine zaa (v:= .d (.int .i64 (a0.public_.length:Int))) (fun hb169=>by simp only[go_sem,hb169]) ?_
 try simp only[go_sem]
 refine zaa (v:= .d (.bool (decide (1024<(a0.public_.length:Int))))) (fun hb168=>by simp only[go_sem,hb168]) ?_
 try simp only[go_sem]
 refine zaa (v:= .ptr 0 0 5) (fun hb167=>by simp only[go_sem,hb167]) ?_
 try simp only[go_sem]
 refine zaa (v:= .d (.str a0.system)) (fun hb166=>by simp only[go_sem,hb166]) ?_
 try simp only[go_sem]
 refine zaa (v:= .d (.int .i64 (a0.system.length:Int))) (fun hb165=>by simp only[go_sem,hb165]) ?_
 try simp only[go_sem]
 refine zaa (v:= .d (.bool (decide (1024<(a0.system.length:Int))))) (fun hb164=>by simp only[go_sem,hb164]) ?_
 try simp only[go_sem]
 refine zaa (v:= .ptr 0 0 6) (fun hb163=>by simp only[go_sem,hb163]) ?_
 try simp only[go_sem]
 refine zaa (v:= .d (.list a0.data.n (a0.data.l.map (D.int .u16)))) (fun hb162=>by simp only[go_sem,hb162]) ?_
 try simp only[go_sem]
 refine zaa (v:= .d (.int .i64 (a0.data.l.length:Int))) (fun hb161=>by simp only[go_sem,hb161]) ?_
 try simp only[go_sem]
 refine zaa (v:= .d (.bool (decide (16384<(a0.data.l.length:Int))))) (fun hb160=>by simp only[go_sem,hb160]) ?_
 try simp only[go_sem]
 refine zaa (v:= .ptr 0 0 7) (fun hb159=>by simp only[go_sem,hb159]) ?_
 try simp only[go_sem]
 refine zaa (v:= .d (.list a0.attrs.n (a0.attrs.l.map zaL))) (fun hb158=>by simp only[go_sem,hb158]) ?_
 try simp only[go_sem]
 obtain⟨r7,hl8,h⟩:=bs h
 refine zbW.cut (n:=(0,[])) .normal ⟨(((Regs.none.set 1 (.ptr 0 0 0)).set 3 (.d (.int .u8 a0.kind))).set 32 (.d (.bool r7))),((Heap.at 32).set 0 (some (.els 16 [.d (zaj a0)] 0)))⟩ ?_ (by(repeat(refine Clo.seq zba rfl ?_));(exact Clo.ret)) ?_
 ·replace h:=hl8
  refine zaw (fun hc3=> ?_) (fun hc4=> ?_)
  ·rw[if_pos (show(!(bif (bif (bif (!r1)then true else(decide (1024<(a0.public_.length:Int))))then true else(decide (1024<(a0.system.length:Int))))then true else(decide (16384<(a0.data.l.length:Int)))))=true by(rw[hc3];rfl))]at h
   try simp only[go_sem,hc3]
   obtain⟨r5,hr6,h⟩:=bs h
   replace hr6:=zaq hr6
   refine zat hr6 ?_
   try simp only[go_sem]
   cases h
   exact⟨rfl,Up.of (N:=32) (N':=32) [] rfl rfl (by decide) (.set (.d _) (.set (.d _) (.set (.ptr' rfl) zai.none))) (.set zau.refl_d zal.at)⟩
  rw[if_neg (ffn hc4)]at h
  try simp only[go_sem,hc4]
  cases h
  exact⟨rfl,Up.of (N:=32) (N':=32) [] rfl rfl (by decide) (.set (.d _) (.set (.d _) (.set (.ptr' rfl) zai.none))) (.set zau.refl_d zal.at)⟩
 try simp only[go_sem]
 refine zag (fun hc9=> ?_) (fun hc10=> ?_)
 ·rw[if_pos hc9]at h
  try simp only[go_sem]
  cases h
  rfl
 rw[if_neg (ff hc10)]at h
 try simp only[go_sem]
 obtain⟨r38,hl39,h⟩:=bs h
 refine WBr.cut (n:=(0,[])) ((fun r=>match r with|(.inl r)=>(.normal,⟨((Regs.none.set 1 (.ptr 0 0 0)).set 3 (.d (.int .u8 a0.kind))),((Heap.at 35).set 0 (some (.els 16 [.d (zaj a0)] 0)))⟩)|(.inr r)=>(.ret,⟨(Regs.none.set 2 (.d (.bool false))),(Heap.at 35)⟩):((Unit)⊕(Unit))→Ex×St) r38).1 ((fun r=>match r with|(.inl r)=>(.normal,⟨((Regs.none.set 1 (.ptr 0 0 0)).set 3 (.d (.int .u8 a0.kind))),((Heap.at 35).set 0 (some (.els 16 [.d (zaj a0)] 0)))⟩)|(.inr r)=>(.ret,⟨(Regs.none.set 2 (.d (.bool false))),(Heap.at 35)⟩):((Unit)⊕(Unit))→Ex×St) r38).2 ?_ (by(repeat(first|refine Clo.block ?_|refine Clo.seq zba rfl ?_));(exact Clo.ret)) ?_
 ·replace h:=hl39
  refine zag (fun hc11=> ?_) (fun hc12=> ?_)
  ·rw[if_pos hc11]at h
   try simp only[go_sem]
   obtain⟨r13,hr14,h⟩:=bs h
   replace hr14:=zaq hr14
   refine zat hr14 ?_
   try simp only[go_sem]
   refine zaO (fun hc15=> ?_) (fun hc16=> ?_)
   ·rw[if_pos (show(!r13)=true by(rw[hc15];rfl))]at h
    try simp only[go_sem]
    cases h
    exact⟨rfl,Up.of (N:=35) (N':=40) [] rfl rfl (by decide) (.set (.d _) zai.none) zal.at⟩
   rw[if_neg (ffn hc16)]at h
   try simp only[go_sem]
   cases h
   exact⟨rfl,Up.of (N:=35) (N':=39) [] rfl rfl (by decide) (.set (.d _) (.set (.ptr' rfl) zai.none)) (.set zau.refl_d zal.at)⟩
  rw[if_neg (ff hc12)]at h
  try simp only[go_sem]
  refine zaa (v:= .d (.int .u8 a0.kind)) (fun hb37=>by simp only[go_sem,hc10,hc12,hb37]) ?_
  try simp only[go_sem]
  refine zaa (v:= .d (.bool (a0.kind==7))) (fun hb36=>by simp only[go_sem,hc10,hc12,hb36]) ?_
  try simp only[go_sem]
  obtain⟨r32,hl33,h⟩:=bs h
  refine WBr.cut (n:=(0,[])) ((fun r=>match r with|(.inl r)=>(.normal,⟨((Regs.none.set 1 (.ptr 0 0 0)).set 3 (.d (.int .u8 a0.kind))),((Heap.at 42).set 0 (some (.els 16 [.d (zaj a0)] 0)))⟩)|(.inr r)=>(.ret,⟨(Regs.none.set 2 (.d (.bool false))),(Heap.at 42)⟩):((Unit)⊕(Unit))→Ex×St) r32).1 ((fun r=>match r with|(.inl r)=>(.normal,⟨((Regs.none.set 1 (.ptr 0 0 0)).set 3 (.d (.int .u8 a0.kind))),((Heap.at 42).set 0 (some (.els 16 [.d (zaj a0)] 0)))⟩)|(.inr r)=>(.ret,⟨(Regs.none.set 2 (.d (.bool false))),(Heap.at 42)⟩):((Unit)⊕(Unit))→Ex×St) r32).2 ?_ (by(repeat(first|refine Clo.block ?_|refine Clo.seq zba rfl ?_));(exact Clo.cpost (by decide))) ?_
  ·replace h:=hl33
   refine zag (fun hc17=> ?_) (fun hc18=> ?_)
   ·rw[if_pos hc17]at h
    try simp only[go_sem]
    refine zaa (v:= .ptr 0 0 1) (fun hb29=>by simp only[go_sem,hc10,hc12,hc17,hb29]) ?_
    try simp only[go_sem]
    refine zaa (v:= .ptr 0 0 3) (fun hb28=>by simp only[go_sem,hc10,hc12,hc17,hb28]) ?_
    try simp only[go_sem]
    refine zaa (v:= .d (.str a0.name.local_)) (fun hb27=>by simp only[go_sem,hc10,hc12,hc17,hb27]) ?_
    try simp only[go_sem]
    refine zaa (v:= .d (.bool (a0.name.local_==[]))) (fun hb26=>by simp only[go_sem,hc10,hc12,hc17,hb26]) ?_
    try simp only[go_sem]
    refine zaa (v:= .ptr 0 0 1) (fun hb25=>by simp only[go_sem,hc10,hc12,hc17,hb25]) ?_
    try simp only[go_sem]
    refine zaa (v:= .ptr 0 0 3) (fun hb24=>by simp only[go_sem,hc10,hc12,hc17,hb24]) ?_
    try simp only[go_sem]
    refine zaa (v:= .d (.str a0.name.local_)) (fun hb23=>by simp only[go_sem,hc10,hc12,hc17,hb23]) ?_
    try simp only[go_sem]
    refine zaa (v:= .d (.int .i64 (a0.name.local_.length:Int))) (fun hb22=>by simp only[go_sem,hc10,hc12,hc17,hb22]) ?_
    try simp only[go_sem]
    refine zaa (v:= .d (.bool (decide (1024<(a0.name.local_.length:Int))))) (fun hb21=>by simp only[go_sem,hc10,hc12,hc17,hb21]) ?_
    try simp only[go_sem]
    refine zag (fun hc19=> ?_) (fun hc20=> ?_)
    ·rw[if_pos hc19]at h
     try simp only[go_sem]
     cases h
     exact⟨rfl,Up.of (N:=42) (N':=63) [] rfl rfl (by decide) (.set (.d _) zai.none) zal.at⟩
    rw[if_neg (ff hc20)]at h
    try simp only[go_sem]
    cases h
    exact⟨rfl,Up.of (N:=42) (N':=62) [] rfl rfl (by decide) (.set (.d _) (.set (.ptr' rfl) zai.none)) (.set zau.refl_d zal.at)⟩
   rw[if_neg (ff hc18)]at h
   try simp only[go_sem]
   refine zaO (fun hc30=> ?_) (fun hc31=> ?_)
   ·rw[if_pos (show(!(decide (a0.name=(⟨[],[],[]⟩:Name))))=true by(rw[hc30];rfl))]at h
    try simp only[go_sem]
    cases h
    exact⟨rfl,Up.of (N:=42) (N':=48) [] rfl rfl (by decide) (.set (.d _) zai.none) zal.at⟩
   rw[if_neg (ffn hc31)]at h
   try simp only[go_sem]
   cases h
   exact⟨rfl,Up.of (N:=42) (N':=47) [] rfl rfl (by decide) (.set (.d _) (.set (.ptr' rfl) zai.none)) (.set zau.refl_d zal.at)⟩
  rcases r32 with(q34|q35)
  ·dsimp only at h⊢
   cases h
   exact⟨rfl,Up.of (N:=35) (N':=42) [] rfl rfl (by decide) (.set (.d _) (.set (.ptr' rfl) zai.none)) (.set zau.refl_d zal.at)⟩
  dsimp only at h⊢
  cases h
  exact⟨rfl,Up.of (N:=35) (N':=42) [] rfl rfl (by decide) (.set (.d _) zai.none) zal.at⟩
 rcases r38 with(q40|q157)
 ·dsimp only at h⊢
  try simp only[go_sem]
  refine zaa (v:= .ptr 0 0 4) (fun hb156=>by simp only[go_sem,hc10,hb156]) ?_
  try simp only[go_sem]
  refine zaa (v:= .d (.str a0.public_)) (fun hb155=>by simp only[go_sem,hc10,hb155]) ?_
  try simp only[go_sem]
  refine zaa (v:= .d (.bool (!(a0.public_==[])))) (fun hb154=>by simp only[go_sem,hc10,hb154]) ?_
  try simp only[go_sem]
  refine zaa (v:= .d (.bool (!(a0.public_==[])))) (fun hb153=>by simp only[go_sem,hc10,hb153]) ?_
  try simp only[go_sem]
  refine zaa (v:= .ptr 0 0 5) (fun hb150=>by((obtain⟨hb151,hb152⟩:=zay hb150));simp only[go_sem,hc10,hb152,hb151]) ?_
  try simp only[go_sem]
  refine zaa (v:= .d (.str a0.system)) (fun hb147=>by((obtain⟨hb148,hb149⟩:=zay hb147));simp only[go_sem,hc10,hb149,hb148]) ?_
  try simp only[go_sem]
  refine zaa (v:= .d (.bool (!(a0.system==[])))) (fun hb144=>by((obtain⟨hb145,hb146⟩:=zay hb144));simp only[go_sem,hc10,hb146,hb145]) ?_
  try simp only[go_sem]
  obtain⟨r76,hl77,h⟩:=bs h
  refine zbW.cut (n:=(0,[])) .normal ⟨(((Regs.none.set 1 (.ptr 0 0 0)).set 3 (.d (.int .u8 a0.kind))).set 105 (.d (.bool r76))),((Heap.at 69).set 0 (some (.els 16 [.d (zaj a0)] 0)))⟩ ?_ (by(repeat(refine Clo.seq zba rfl ?_));(exact Clo.ret)) ?_
  ·replace h:=hl77
   refine zaw (fun hc41=> ?_) (fun hc42=> ?_)
   ·rw[if_pos (show(!(a0.kind==10))=true by(rw[hc41];rfl))]at h
    try simp only[go_sem,hc41]
    refine zaa (v:= .d (.int .u8 a0.kind)) (fun hb60=>by simp only[go_sem,hc10,hc41,hb60]) ?_
    try simp only[go_sem]
    refine zaw (fun hc43=> ?_) (fun hc44=> ?_)
    ·rw[if_pos (show(!(bif (!(a0.public_==[]))then true else(!(a0.system==[]))))=true by(rw[hc43];rfl))]at h
     try simp only[go_sem,hc43]
     obtain⟨r45,hr46,h⟩:=bs h
     replace hr46:=zaq hr46
     refine zat hr46 ?_
     try simp only[go_sem]
     refine zaa (v:= .ptr 0 0 6) (fun hb59=>by simp only[go_sem,hc10,hc41,hc43,hb59]) ?_
     try simp only[go_sem]
     refine zaa (v:= .d (.list a0.data.n (a0.data.l.map (D.int .u16)))) (fun hb58=>by simp only[go_sem,hc10,hc41,hc43,hb58]) ?_
     try simp only[go_sem]
     refine zaa (v:= .d (.int .i64 (a0.data.l.length:Int))) (fun hb57=>by simp only[go_sem,hc10,hc41,hc43,hb57]) ?_
     try simp only[go_sem]
     refine zaa (v:= .d (.bool (decide (0<(a0.data.l.length:Int))))) (fun hb56=>by simp only[go_sem,hc10,hc41,hc43,hb56]) ?_
     try simp only[go_sem]
     refine zaa (v:= .d (.int .u8 a0.kind)) (fun hb55=>by simp only[go_sem,hc10,hc41,hc43,hb55]) ?_
     try simp only[go_sem]
     refine zaw (fun hc47=> ?_) (fun hc48=> ?_)
     ·rw[if_pos (show(!(bif (!r45)then(decide (0<(a0.data.l.length:Int)))else false))=true by(rw[hc47];rfl))]at h
      try simp only[go_sem,hc47]
      obtain⟨r49,hr50,h⟩:=bs h
      replace hr50:=zaq hr50
      refine zat hr50 ?_
      try simp only[go_sem]
      refine zaa (v:= .ptr 0 0 9) (fun hb54=>by simp only[go_sem,hc10,hc41,hc43,hc47,hb54]) ?_
      try simp only[go_sem]
      refine zaa (v:= .d (.list a0.kids.n (a0.kids.l.map (D.int .i64)))) (fun hb53=>by simp only[go_sem,hc10,hc41,hc43,hc47,hb53]) ?_
      try simp only[go_sem]
      refine zaa (v:= .d (.int .i64 (a0.kids.l.length:Int))) (fun hb52=>by simp only[go_sem,hc10,hc41,hc43,hc47,hb52]) ?_
      try simp only[go_sem]
      refine zaa (v:= .d (.bool (decide (0<(a0.kids.l.length:Int))))) (fun hb51=>by simp only[go_sem,hc10,hc41,hc43,hc47,hb51]) ?_
      try simp only[go_sem]
      cases h
      exact⟨rfl,Up.of (N:=69) (N':=69) [] rfl rfl (by decide) (.set (.d _) (.set (.d _) (.set (.ptr' rfl) zai.none))) (.set zau.refl_d zal.at)⟩
     rw[if_neg (ffn hc48)]at h
     try simp only[go_sem,hc48]
     cases h
     exact⟨rfl,Up.of (N:=69) (N':=69) [] rfl rfl (by decide) (.set (.d _) (.set (.d _) (.set (.ptr' rfl) zai.none))) (.set zau.refl_d zal.at)⟩
    rw[if_neg (ffn hc44)]at h
    try simp only[go_sem,hc44]
    cases h
    exact⟨rfl,Up.of (N:=69) (N':=69) [] rfl rfl (by decide) (.set (.d _) (.set (.d _) (.set (.ptr' rfl) zai.none))) (.set zau.refl_d zal.at)⟩
   rw[if_neg (ffn hc42)]at h
   try simp only[go_sem,hc42]
   obtain⟨r61,hr62,h⟩:=bs h
   replace hr62:=zaq hr62
   refine zat hr62 ?_
   try simp only[go_sem]
   refine zaa (v:= .ptr 0 0 6) (fun hb75=>by simp only[go_sem,hc10,hc42,hb75]) ?_
   try simp only[go_sem]
   refine zaa (v:= .d (.list a0.data.n (a0.data.l.map (D.int .u16)))) (fun hb74=>by simp only[go_sem,hc10,hc42,hb74]) ?_
   try simp only[go_sem]
   refine zaa (v:= .d (.int .i64 (a0.data.l.length:Int))) (fun hb73=>by simp only[go_sem,hc10,hc42,hb73]) ?_
   try simp only[go_sem]
   refine zaa (v:= .d (.bool (decide (0<(a0.data.l.length:Int))))) (fun hb72=>by simp only[go_sem,hc10,hc42,hb72]) ?_
   try simp only[go_sem]
   refine zaa (v:= .d (.int .u8 a0.kind)) (fun hb71=>by simp only[go_sem,hc10,hc42,hb71]) ?_
   try simp only[go_sem]
   refine zaw (fun hc63=> ?_) (fun hc64=> ?_)
   ·rw[if_pos (show(!(bif (!r61)then(decide (0<(a0.data.l.length:Int)))else false))=true by(rw[hc63];rfl))]at h
    try simp only[go_sem,hc63]
    obtain⟨r65,hr66,h⟩:=bs h
    replace hr66:=zaq hr66
    refine zat hr66 ?_
    try simp only[go_sem]
    refine zaa (v:= .ptr 0 0 9) (fun hb70=>by simp only[go_sem,hc10,hc42,hc63,hb70]) ?_
    try simp only[go_sem]
    refine zaa (v:= .d (.list a0.kids.n (a0.kids.l.map (D.int .i64)))) (fun hb69=>by simp only[go_sem,hc10,hc42,hc63,hb69]) ?_
    try simp only[go_sem]
    refine zaa (v:= .d (.int .i64 (a0.kids.l.length:Int))) (fun hb68=>by simp only[go_sem,hc10,hc42,hc63,hb68]) ?_
    try simp only[go_sem]
    refine zaa (v:= .d (.bool (decide (0<(a0.kids.l.length:Int))))) (fun hb67=>by simp only[go_sem,hc10,hc42,hc63,hb67]) ?_
    try simp only[go_sem]
    cases h
    exact⟨rfl,Up.of (N:=69) (N':=69) [] rfl rfl (by decide) (.set (.d _) (.set (.d _) (.set (.ptr' rfl) zai.none))) (.set zau.refl_d zal.at)⟩
   rw[if_neg (ffn hc64)]at h
   try simp only[go_sem,hc64]
   cases h
   exact⟨rfl,Up.of (N:=69) (N':=69) [] rfl rfl (by decide) (.set (.d _) (.set (.d _) (.set (.ptr' rfl) zai.none))) (.set zau.refl_d zal.at)⟩
  try simp only[go_sem]
  refine zag (fun hc78=> ?_) (fun hc79=> ?_)
  ·rw[if_pos hc78]at h
   try simp only[go_sem]
   cases h
   rfl
  rw[if_neg (ff hc79)]at h
  try simp only[go_sem]
  refine zaa (v:= .ptr 0 0 7) (fun hb143=>by simp only[go_sem,hc10,hc79,hb143]) ?_
  try simp only[go_sem]
  refine zaa (v:= .d (.list a0.attrs.n (a0.attrs.l.map zaL))) (fun hb142=>by simp only[go_sem,hc10,hc79,hb142]) ?_
  try simp only[go_sem]
  refine zaa (v:= .d (.int .i64 (a0.attrs.l.length:Int))) (fun hb141=>by simp only[go_sem,hc10,hc79,hb141]) ?_
  try simp only[go_sem]
  refine zaa (v:= .d (.bool (decide (0<(a0.attrs.l.length:Int))))) (fun hb140=>by simp only[go_sem,hc10,hc79,hb140]) ?_
  try simp only[go_sem]
  refine zaa (v:= .d (.bool (decide (0<(a0.attrs.l.length:Int))))) (fun hb139=>by simp only[go_sem,hc10,hc79,hb139]) ?_
  try simp only[go_sem]
  refine zaa (v:= .ptr 0 0 12) (fun hb136=>by((obtain⟨hb137,hb138⟩:=zay hb136));simp only[go_sem,hc10,hc79,hb138,hb137]) ?_
  try simp only[go_sem]
  refine zaa (v:= .d (.int .i64 a0.shadow)) (fun hb133=>by((obtain⟨hb134,hb135⟩:=zay hb133));simp only[go_sem,hc10,hc79,hb135,hb134]) ?_
  try simp only[go_sem]
  refine zaa (v:= .d (.bool (!(a0.shadow==0)))) (fun hb130=>by((obtain⟨hb131,hb132⟩:=zay hb130));simp only[go_sem,hc10,hc79,hb132,hb131]) ?_
  try simp only[go_sem]
  obtain⟨r95,hl96,h⟩:=bs h
  refine zbW.cut (n:=(0,[])) .normal ⟨(((Regs.none.set 1 (.ptr 0 0 0)).set 3 (.d (.int .u8 a0.kind))).set 126 (.d (.bool r95))),((Heap.at 90).set 0 (some (.els 16 [.d (zaj a0)] 0)))⟩ ?_ (by(repeat(refine Clo.seq zba rfl ?_));(exact Clo.ret)) ?_
  ·replace h:=hl96
   refine zaw (fun hc80=> ?_) (fun hc81=> ?_)
   ·rw[if_pos (show(!(a0.kind==1))=true by(rw[hc80];rfl))]at h
    try simp only[go_sem,hc80]
    refine zaa (v:= .d (.int .u8 a0.kind)) (fun hb92=>by simp only[go_sem,hc10,hc79,hc80,hb92]) ?_
    try simp only[go_sem]
    refine zaa (v:= .d (.bool (!(a0.kind==9)))) (fun hb91=>by simp only[go_sem,hc10,hc79,hc80,hb91]) ?_
    try simp only[go_sem]
    refine zaa (v:= .d (.bool (!(a0.kind==9)))) (fun hb90=>by simp only[go_sem,hc10,hc79,hc80,hb90]) ?_
    try simp only[go_sem]
    refine zaa (v:= .ptr 0 0 15) (fun hb87=>by((obtain⟨hb88,hb89⟩:=zay hb87));simp only[go_sem,hc10,hc79,hc80,hb89,hb88]) ?_
    try simp only[go_sem]
    refine zaa (v:= .d (.bool a0.hTML)) (fun hb84=>by((obtain⟨hb85,hb86⟩:=zay hb84));simp only[go_sem,hc10,hc79,hc80,hb86,hb85]) ?_
    try simp only[go_sem]
    refine zaw (fun hc82=> ?_) (fun hc83=> ?_)
    ·rw[if_pos (show(!(bif (decide (0<(a0.attrs.l.length:Int)))then true else(!(a0.shadow==0))))=true by(rw[hc82];rfl))]at h
     try simp only[go_sem,hc82]
     cases h
     exact⟨rfl,Up.of (N:=90) (N':=90) [] rfl rfl (by decide) (.set (.d _) (.set (.d _) (.set (.ptr' rfl) zai.none))) (.set zau.refl_d zal.at)⟩
    rw[if_neg (ffn hc83)]at h
    try simp only[go_sem,hc83]
    cases h
    exact⟨rfl,Up.of (N:=90) (N':=90) [] rfl rfl (by decide) (.set (.d _) (.set (.d _) (.set (.ptr' rfl) zai.none))) (.set zau.refl_d zal.at)⟩
   rw[if_neg (ffn hc81)]at h
   try simp only[go_sem,hc81]
   refine zaa (v:= .ptr 0 0 15) (fun hb94=>by simp only[go_sem,hc10,hc79,hc81,hb94]) ?_
   try simp only[go_sem]
   refine zaa (v:= .d (.bool a0.hTML)) (fun hb93=>by simp only[go_sem,hc10,hc79,hc81,hb93]) ?_
   try simp only[go_sem]
   cases h
   exact⟨rfl,Up.of (N:=90) (N':=90) [] rfl rfl (by decide) (.set (.d _) (.set (.d _) (.set (.ptr' rfl) zai.none))) (.set zau.refl_d zal.at)⟩
  try simp only[go_sem]
  refine zag (fun hc97=> ?_) (fun hc98=> ?_)
  ·rw[if_pos hc97]at h
   try simp only[go_sem]
   cases h
   rfl
  rw[if_neg (ff hc98)]at h
  try simp only[go_sem]
  obtain⟨r113,hl114,h⟩:=bs h
  refine WBr.cut (n:=(0,[])) ((fun r=>match r with|(.inl r)=>(.normal,⟨((Regs.none.set 1 (.ptr 0 0 0)).set 3 (.d (.int .u8 a0.kind))),((Heap.at 92).set 0 (some (.els 16 [.d (zaj a0)] 0)))⟩)|(.inr r)=>(.ret,⟨(Regs.none.set 2 (.d (.bool false))),(Heap.at 92)⟩):((Unit)⊕(Unit))→Ex×St) r113).1 ((fun r=>match r with|(.inl r)=>(.normal,⟨((Regs.none.set 1 (.ptr 0 0 0)).set 3 (.d (.int .u8 a0.kind))),((Heap.at 92).set 0 (some (.els 16 [.d (zaj a0)] 0)))⟩)|(.inr r)=>(.ret,⟨(Regs.none.set 2 (.d (.bool false))),(Heap.at 92)⟩):((Unit)⊕(Unit))→Ex×St) r113).2 ?_ (by(repeat(refine Clo.seq zba rfl ?_));(exact Clo.ret)) ?_
  ·replace h:=hl114
   refine zag (fun hc99=> ?_) (fun hc100=> ?_)
   ·rw[if_pos hc99]at h
    try simp only[go_sem]
    refine zaa (v:= .ptr 0 0 13) (fun hb105=>by simp only[go_sem,hc10,hc79,hc98,hc99,hb105]) ?_
    try simp only[go_sem]
    refine zaa (v:= .d (.int .u8 a0.mode)) (fun hb104=>by simp only[go_sem,hc10,hc79,hc98,hc99,hb104]) ?_
    try simp only[go_sem]
    refine zaa (v:= .d (.bool (!(a0.mode==2)))) (fun hb103=>by simp only[go_sem,hc10,hc79,hc98,hc99,hb103]) ?_
    try simp only[go_sem]
    refine zag (fun hc101=> ?_) (fun hc102=> ?_)
    ·rw[if_pos hc101]at h
     try simp only[go_sem]
     cases h
     exact⟨rfl,Up.of (N:=92) (N':=101) [] rfl rfl (by decide) (.set (.d _) zai.none) zal.at⟩
    rw[if_neg (ff hc102)]at h
    try simp only[go_sem]
    cases h
    exact⟨rfl,Up.of (N:=92) (N':=100) [] rfl rfl (by decide) (.set (.d _) (.set (.ptr' rfl) zai.none)) (.set zau.refl_d zal.at)⟩
   rw[if_neg (ff hc100)]at h
   try simp only[go_sem]
   refine zaa (v:= .ptr 0 0 14) (fun hb112=>by simp only[go_sem,hc10,hc79,hc98,hc100,hb112]) ?_
   try simp only[go_sem]
   refine zaa (v:= .d (.bool a0.manual)) (fun hb111=>by simp only[go_sem,hc10,hc79,hc98,hc100,hb111]) ?_
   try simp only[go_sem]
   refine zaa (v:= .ptr 0 0 11) (fun hb110=>by simp only[go_sem,hc10,hc79,hc98,hc100,hb110]) ?_
   try simp only[go_sem]
   refine zaa (v:= .d (.int .i64 a0.host)) (fun hb109=>by simp only[go_sem,hc10,hc79,hc98,hc100,hb109]) ?_
   try simp only[go_sem]
   refine zaa (v:= .d (.bool (!(a0.host==0)))) (fun hb108=>by simp only[go_sem,hc10,hc79,hc98,hc100,hb108]) ?_
   try simp only[go_sem]
   refine zag (fun hc106=> ?_) (fun hc107=> ?_)
   ·rw[if_pos hc106]at h
    try simp only[go_sem]
    cases h
    exact⟨rfl,Up.of (N:=92) (N':=105) [] rfl rfl (by decide) (.set (.d _) zai.none) zal.at⟩
   rw[if_neg (ff hc107)]at h
   try simp only[go_sem]
   cases h
   exact⟨rfl,Up.of (N:=92) (N':=104) [] rfl rfl (by decide) (.set (.d _) (.set (.ptr' rfl) zai.none)) (.set zau.refl_d zal.at)⟩
  rcases r113 with(q115|q129)
  ·dsimp only at h⊢
   try simp only[go_sem]
   refine zaa (v:= .d (.int .u8 a0.kind)) (fun hb128=>by simp only[go_sem,hc10,hc79,hc98,hb128]) ?_
   try simp only[go_sem]
   refine zaa (v:= .d (.bool (!(a0.kind==9)))) (fun hb127=>by simp only[go_sem,hc10,hc79,hc98,hb127]) ?_
   try simp only[go_sem]
   refine zaa (v:= .d (.bool (!(a0.kind==9)))) (fun hb126=>by simp only[go_sem,hc10,hc79,hc98,hb126]) ?_
   try simp only[go_sem]
   refine zaa (v:= .d (.int .u8 a0.kind)) (fun hb123=>by((obtain⟨hb124,hb125⟩:=zay hb123));simp only[go_sem,hc10,hc79,hc98,hb125,hb124]) ?_
   try simp only[go_sem]
   refine zaa (v:= .d (.bool (!(a0.kind==11)))) (fun hb120=>by((obtain⟨hb121,hb122⟩:=zay hb120));simp only[go_sem,hc10,hc79,hc98,hb122,hb121]) ?_
   try simp only[go_sem]
   refine zaw (fun hc116=> ?_) (fun hc117=> ?_)
   ·rw[if_pos (show(!(a0.parent==0))=true by(rw[hc116];rfl))]at h
    try simp only[go_sem,hc116]
    refine zaa (v:= .d (.int .u8 a0.kind)) (fun hb119=>by simp only[go_sem,hc10,hc79,hc98,hc116,hb119]) ?_
    try simp only[go_sem]
    refine zaa (v:= .d (.bool (!(a0.kind==12)))) (fun hb118=>by simp only[go_sem,hc10,hc79,hc98,hc116,hb118]) ?_
    try simp only[go_sem]
    cases h
    rfl
   rw[if_neg (ffn hc117)]at h
   try simp only[go_sem,hc117]
   cases h
   rfl
  dsimp only at h⊢
  try simp only[go_sem]
  cases h
  rfl
 dsimp only at h⊢
 try simp only[go_sem]
 cases h
 rfl
def zfb (a0:Forest) (a1:Int) (y1:Node) (x0:Int):St:=⟨((((((Regs.none.set 1 (.d (.int .i64 a1))).set 2 (.ptr 0 0 0)).set 5 (.ptr 8 0 0)).set 23 (.d (.list y1.kids.n (y1.kids.l.map (D.int .i64))))).set 24 (.d (.int .i64 (y1.kids.l.length:Int)))).set 25 (.d (.int .i64 x0))),(((Heap.at 14).set 0 (some (.els 1 [.d (zam a0)] 0))).set 8 (some (.els 16 [.d (zaj y1)] 0)))⟩
def zil (a0:Forest) (a1:Int) (y1:Node):((Unit)⊕(Unit))→Ex×St:=fun r=>match r with
 |(.inl r)=>(.exit 0,⟨(((Regs.none.set 1 (.d (.int .i64 a1))).set 2 (.ptr 0 0 0)).set 5 (.ptr 8 0 0)),(((Heap.at 14).set 0 (some (.els 1 [.d (zam a0)] 0))).set 8 (some (.els 16 [.d (zaj y1)] 0)))⟩)
 |(.inr r)=>(.ret,⟨(Regs.none.set 4 (.d (.bool false))),(Heap.at 14)⟩)
noncomputable def zdu (a0:Forest) (a1:Int) (y1:Node) (x0:Int):Option ((Int)⊕((Unit)⊕(Unit))):=
 if(decide (x0<(y1.kids.l.length:Int)))=true then
  (rd y1.kids.l x0).bind fun y5=>
  (dec (eT2 zaj D.bool) (pc prog 43 [zam a0,.int .i64 y5])).bind fun r7=>
  if(!(bif (!r7.2)then true else(!(r7.1.parent==a1))))=true then
   (dec (D.int .i64) (pc prog 196 [.list y1.kids.n (y1.kids.l.map (D.int .i64)),.int .i64 y5])).bind fun r11=>
   if(bif (!(r11==1))then true else(!(r7.1.doc==y1.doc)))=true then
    some (.inr (.inr ()))
   else
    some (.inl (IntKind.wrap .i64 (x0+1)))
  else
   some (.inr (.inr ()))
 else
  some (.inr (.inl ()))
theorem zwx (a0:Forest) (a1:Int) (y1:Node) (x0:Int) (o:(Int)⊕((Unit)⊕(Unit))) (h:zdu a0 a1 y1 x0=some o):Wp prog zpT (zfb a0 a1 y1 x0) (zbK (0,[]) (zfb a0 a1 y1) (zil a0 a1 y1) o):=by
 unfold zdu at h
 delta zpT zfb
 try simp only[go_sem]
 refine zag (fun hc3=> ?_) (fun hc4=> ?_)
 ·rw[if_pos hc3]at h
  try simp only[go_sem]
  obtain⟨y5,hy6,h⟩:=bs h
  try simp only[go_sem,zab hy6,zad hy6,zac (D.int .i64) hy6]
  obtain⟨r7,hr8,h⟩:=bs h
  replace hr8:=zaq hr8
  refine zat hr8 ?_
  try simp only[go_sem,zab hy6,zad hy6,zac (D.int .i64) hy6]
  refine zaa (v:= .ptr 24 0 8) (fun hb26=>by simp only[go_sem,zab hy6,zad hy6,zac (D.int .i64) hy6,hc3,hb26]) ?_
  try simp only[go_sem,zab hy6,zad hy6,zac (D.int .i64) hy6]
  refine zaa (v:= .d (.int .i64 r7.1.parent)) (fun hb25=>by simp only[go_sem,zab hy6,zad hy6,zac (D.int .i64) hy6,hc3,hb25]) ?_
  try simp only[go_sem,zab hy6,zad hy6,zac (D.int .i64) hy6]
  refine zaa (v:= .d (.int .i64 a1)) (fun hb24=>by simp only[go_sem,zab hy6,zad hy6,zac (D.int .i64) hy6,hc3,hb24]) ?_
  try simp only[go_sem,zab hy6,zad hy6,zac (D.int .i64) hy6]
  refine zaa (v:= .d (.bool (!(r7.1.parent==a1)))) (fun hb23=>by simp only[go_sem,zab hy6,zad hy6,zac (D.int .i64) hy6,hc3,hb23]) ?_
  try simp only[go_sem,zab hy6,zad hy6,zac (D.int .i64) hy6]
  refine zaa (v:= .ptr 8 0 9) (fun hb22=>by simp only[go_sem,zab hy6,zad hy6,zac (D.int .i64) hy6,hc3,hb22]) ?_
  try simp only[go_sem,zab hy6,zad hy6,zac (D.int .i64) hy6]
  refine zaa (v:= .d (.list y1.kids.n (y1.kids.l.map (D.int .i64)))) (fun hb21=>by simp only[go_sem,zab hy6,zad hy6,zac (D.int .i64) hy6,hc3,hb21]) ?_
  try simp only[go_sem,zab hy6,zad hy6,zac (D.int .i64) hy6]
  refine zaa (v:= .d (.int .i64 y5)) (fun hb20=>by simp only[go_sem,zab hy6,zad hy6,zac (D.int .i64) hy6,hc3,hb20]) ?_
  try simp only[go_sem,zab hy6,zad hy6,zac (D.int .i64) hy6]
  refine zaw (fun hc9=> ?_) (fun hc10=> ?_)
  ·rw[if_pos (show(!(bif (!r7.2)then true else(!(r7.1.parent==a1))))=true by(rw[hc9];rfl))]at h
   try simp only[go_sem,zab hy6,zad hy6,zac (D.int .i64) hy6,hc9]
   obtain⟨r11,hr12,h⟩:=bs h
   replace hr12:=zaq hr12
   refine zat hr12 ?_
   try simp only[go_sem,zab hy6,zad hy6,zac (D.int .i64) hy6]
   refine zaa (v:= .ptr 24 0 10) (fun hb19=>by simp only[go_sem,zab hy6,zad hy6,zac (D.int .i64) hy6,hc3,hc9,hb19]) ?_
   try simp only[go_sem,zab hy6,zad hy6,zac (D.int .i64) hy6]
   refine zaa (v:= .d (.int .i64 r7.1.doc)) (fun hb18=>by simp only[go_sem,zab hy6,zad hy6,zac (D.int .i64) hy6,hc3,hc9,hb18]) ?_
   try simp only[go_sem,zab hy6,zad hy6,zac (D.int .i64) hy6]
   refine zaa (v:= .ptr 8 0 10) (fun hb17=>by simp only[go_sem,zab hy6,zad hy6,zac (D.int .i64) hy6,hc3,hc9,hb17]) ?_
   try simp only[go_sem,zab hy6,zad hy6,zac (D.int .i64) hy6]
   refine zaa (v:= .d (.int .i64 y1.doc)) (fun hb16=>by simp only[go_sem,zab hy6,zad hy6,zac (D.int .i64) hy6,hc3,hc9,hb16]) ?_
   try simp only[go_sem,zab hy6,zad hy6,zac (D.int .i64) hy6]
   refine zaa (v:= .d (.bool (!(r7.1.doc==y1.doc)))) (fun hb15=>by simp only[go_sem,zab hy6,zad hy6,zac (D.int .i64) hy6,hc3,hc9,hb15]) ?_
   try simp only[go_sem,zab hy6,zad hy6,zac (D.int .i64) hy6]
   refine zag (fun hc13=> ?_) (fun hc14=> ?_)
   ·rw[if_pos hc13]at h
    try simp only[go_sem,zab hy6,zad hy6,zac (D.int .i64) hy6]
    cases h
    exact⟨rfl,by simp,Up.of (N:=14) (N':=50) [] rfl rfl (by decide) (.set (.d _) zai.none) zal.at⟩
   rw[if_neg (ff hc14)]at h
   try simp only[go_sem,zab hy6,zad hy6,zac (D.int .i64) hy6]
   cases h
   exact⟨rfl,Up.of (N:=14) (N':=51) [] rfl rfl (by decide) (.set (.d _) (.set (.d _) (.set (.d _) (.set (.ptr' rfl) (.set (.ptr' rfl) (.set (.d _) zai.none)))))) (.set zau.refl_d (.set zau.refl_d zal.at))⟩
  rw[if_neg (ffn hc10)]at h
  try simp only[go_sem,zab hy6,zad hy6,zac (D.int .i64) hy6,hc10]
  cases h
  exact⟨rfl,by simp,Up.of (N:=14) (N':=50) [] rfl rfl (by decide) (.set (.d _) zai.none) zal.at⟩
 rw[if_neg (ff hc4)]at h
 try simp only[go_sem]
 cases h
 exact⟨rfl,by simp,Up.of (N:=14) (N':=15) [] rfl rfl (by decide) (.set (.ptr' rfl) (.set (.ptr' rfl) (.set (.d _) zai.none))) (.set zau.refl_d (.set zau.refl_d zal.at))⟩
noncomputable def zIY (a0:Forest) (a1:Int):Option (Bool):=
 (rd a0.nodes.l (IntKind.wrap .i64 (a1-1))).bind fun y1=>
 (zaR (zdu a0 a1 y1) 0).bind fun r27=>
 match r27 with
 |(.inl q29)=>
  (if(!(y1.parent==0))=true then
   (dec (eT2 zaj D.bool) (pc prog 43 [zam a0,.int .i64 y1.parent])).bind fun r32=>
   (if r32.2=true then
    (dec (D.int .i64) (pc prog 196 [.list r32.1.kids.n (r32.1.kids.l.map (D.int .i64)),.int .i64 a1])).bind fun r36=>
    some (!(r36==1))
   else
    some true:Option ((Bool))).bind fun r38=>
   if r38=true then
    some (.inr ())
   else
    some (.inl ())
  else
   some (.inl ()):Option ((Unit)⊕(Unit))).bind fun r45=>
  match r45 with
  |(.inl q47)=>
   (dec (D.int .u8) (pc prog 197 [zam a0,.int .i64 y1.doc])).bind fun r48=>
   (if(r48==9)=true then
    some (bif (y1.kind==9)then(!(y1.doc==a1))else false)
   else
    some true:Option ((Bool))).bind fun r52=>
   if r52=true then
    some false
   else
    (if(!(y1.shadow==0))=true then
     (dec (eT2 zaj D.bool) (pc prog 43 [zam a0,.int .i64 y1.shadow])).bind fun r58=>
     if(bif (bif (!r58.2)then true else(!(r58.1.kind==12)))then true else(!(r58.1.host==a1)))=true then
      some (.inr ())
     else
      some (.inl ())
    else
     some (.inl ()):Option ((Unit)⊕(Unit))).bind fun r69=>
    match r69 with
    |(.inl q71)=>
     if(y1.kind==12)=true then
      (dec (eT2 zaj D.bool) (pc prog 43 [zam a0,.int .i64 y1.host])).bind fun r74=>
      if(bif (bif (bif (!r74.2)then true else(!(r74.1.kind==1)))then true else(!(r74.1.shadow==a1)))then true else(!(r74.1.doc==y1.doc)))=true then
       some false
      else
       (dec D.bool (pc prog 198 [zam a0,.int .u8 y1.kind,.list y1.kids.n (y1.kids.l.map (D.int .i64))])).bind fun r78=>
       some r78
     else
      (dec D.bool (pc prog 198 [zam a0,.int .u8 y1.kind,.list y1.kids.n (y1.kids.l.map (D.int .i64))])).bind fun r92=>
      some r92
    |(.inr q94)=>
     some false
  |(.inr q111)=>
   some false
 |(.inr q112)=>
  some false
theorem zIZ (a0:Forest) (a1:Int) (r:Bool) (h:zIY a0 a1=some r):pc prog 164 [zam a0,.int .i64 a1]=some (D.bool r):=by
 unfold zIY at h
 refine zbk (fn:=zHC) rfl rfl ?_
 delta zHC
 try simp only[go_sem]
 obtain⟨y1,hy2,h⟩:=bs h
 try simp only[go_sem,zab hy2,zad hy2,zac zaj hy2]
 obtain⟨r27,hl28,h⟩:=bs h
 refine Wp.loopR zba (n:=(0,[])) (a:=zpT) rfl (zfb a0 a1 y1) (zil a0 a1 y1) (zwx a0 a1 y1) hl28 ?_ (by(repeat(first|refine Clo.block ?_|refine Clo.seq zba rfl ?_));(exact Clo.ret)) ?_
 ·show Up (0,[]) (zfb a0 a1 y1 0) _
  delta zfb
  exact Up.of (N:=14) (N':=14) [] rfl rfl (by decide) (.set (.d _) (.set (.d _) (.set (.d _) (.set (.ptr' rfl) (.set (.ptr' rfl) (.set (.d _) zai.none)))))) (.set zau.refl_d (.set zau.refl_d zal.at))
 rcases r27 with(q29|q112)
 ·dsimp only at h
  dsimp only[zil]
  try simp only[go_sem,zab hy2,zad hy2,zac zaj hy2]
  obtain⟨r45,hl46,h⟩:=bs h
  refine WBr.cut (n:=(0,[])) ((fun r=>match r with|(.inl r)=>(.normal,⟨(((Regs.none.set 1 (.d (.int .i64 a1))).set 2 (.ptr 0 0 0)).set 5 (.ptr 8 0 0)),(((Heap.at 17).set 0 (some (.els 1 [.d (zam a0)] 0))).set 8 (some (.els 16 [.d (zaj y1)] 0)))⟩)|(.inr r)=>(.ret,⟨(Regs.none.set 4 (.d (.bool false))),(Heap.at 17)⟩):((Unit)⊕(Unit))→Ex×St) r45).1 ((fun r=>match r with|(.inl r)=>(.normal,⟨(((Regs.none.set 1 (.d (.int .i64 a1))).set 2 (.ptr 0 0 0)).set 5 (.ptr 8 0 0)),(((Heap.at 17).set 0 (some (.els 1 [.d (zam a0)] 0))).set 8 (some (.els 16 [.d (zaj y1)] 0)))⟩)|(.inr r)=>(.ret,⟨(Regs.none.set 4 (.d (.bool false))),(Heap.at 17)⟩):((Unit)⊕(Unit))→Ex×St) r45).2 ?_ (by(repeat(refine Clo.seq zba rfl ?_));(exact Clo.ret)) ?_
  ·replace h:=hl46
   refine zaO (fun hc30=> ?_) (fun hc31=> ?_)
   ·rw[if_pos (show(!(y1.parent==0))=true by(rw[hc30];rfl))]at h
    try simp only[go_sem,zab hy2,zad hy2,zac zaj hy2]
    obtain⟨r32,hr33,h⟩:=bs h
    replace hr33:=zaq hr33
    refine zat hr33 ?_
    try simp only[go_sem,zab hy2,zad hy2,zac zaj hy2]
    refine zaa (v:= .ptr 24 0 9) (fun hb44=>by simp only[go_sem,zab hy2,zad hy2,zac zaj hy2,hc30,hb44]) ?_
    try simp only[go_sem,zab hy2,zad hy2,zac zaj hy2]
    refine zaa (v:= .d (.list r32.1.kids.n (r32.1.kids.l.map (D.int .i64)))) (fun hb43=>by simp only[go_sem,zab hy2,zad hy2,zac zaj hy2,hc30,hb43]) ?_
    try simp only[go_sem,zab hy2,zad hy2,zac zaj hy2]
    refine zaa (v:= .d (.int .i64 a1)) (fun hb42=>by simp only[go_sem,zab hy2,zad hy2,zac zaj hy2,hc30,hb42]) ?_
    try simp only[go_sem,zab hy2,zad hy2,zac zaj hy2]
    obtain⟨r38,hl39,h⟩:=bs h
    refine zbW.cut (n:=(0,[])) .normal ⟨((((Regs.none.set 1 (.d (.int .i64 a1))).set 2 (.ptr 0 0 0)).set 5 (.ptr 8 0 0)).set 76 (.d (.bool r38))),(((Heap.at 36).set 0 (some (.els 1 [.d (zam a0)] 0))).set 8 (some (.els 16 [.d (zaj y1)] 0)))⟩ ?_ (by(repeat(refine Clo.seq zba rfl ?_));(exact Clo.cpost (by decide))) ?_
    ·replace h:=hl39
     refine zaA (fun hc34=> ?_) (fun hc35=> ?_)
     ·rw[if_pos hc34]at h
      try simp only[go_sem,zab hy2,zad hy2,zac zaj hy2,hc34]
      obtain⟨r36,hr37,h⟩:=bs h
      replace hr37:=zaq hr37
      refine zat hr37 ?_
      try simp only[go_sem,zab hy2,zad hy2,zac zaj hy2]
      cases h
      exact⟨rfl,Up.of (N:=36) (N':=36) [] rfl rfl (by decide) (.set (.d _) (.set (.ptr' rfl) (.set (.ptr' rfl) (.set (.d _) zai.none)))) (.set zau.refl_d (.set zau.refl_d zal.at))⟩
     rw[if_neg (ff hc35)]at h
     try simp only[go_sem,zab hy2,zad hy2,zac zaj hy2,hc35]
     cases h
     exact⟨rfl,Up.of (N:=36) (N':=36) [] rfl rfl (by decide) (.set (.d _) (.set (.ptr' rfl) (.set (.ptr' rfl) (.set (.d _) zai.none)))) (.set zau.refl_d (.set zau.refl_d zal.at))⟩
    try simp only[go_sem,zab hy2,zad hy2,zac zaj hy2]
    refine zag (fun hc40=> ?_) (fun hc41=> ?_)
    ·rw[if_pos hc40]at h
     try simp only[go_sem,zab hy2,zad hy2,zac zaj hy2]
     cases h
     exact⟨rfl,Up.of (N:=17) (N':=37) [] rfl rfl (by decide) (.set (.d _) zai.none) zal.at⟩
    rw[if_neg (ff hc41)]at h
    try simp only[go_sem,zab hy2,zad hy2,zac zaj hy2]
    cases h
    exact⟨rfl,Up.of (N:=17) (N':=36) [] rfl rfl (by decide) (.set (.ptr' rfl) (.set (.ptr' rfl) (.set (.d _) zai.none))) (.set zau.refl_d (.set zau.refl_d zal.at))⟩
   rw[if_neg (ffn hc31)]at h
   try simp only[go_sem,zab hy2,zad hy2,zac zaj hy2]
   cases h
   exact⟨rfl,Up.of (N:=17) (N':=17) [] rfl rfl (by decide) (.set (.ptr' rfl) (.set (.ptr' rfl) (.set (.d _) zai.none))) (.set zau.refl_d (.set zau.refl_d zal.at))⟩
  rcases r45 with(q47|q111)
  ·dsimp only at h⊢
   try simp only[go_sem,zab hy2,zad hy2,zac zaj hy2]
   obtain⟨r48,hr49,h⟩:=bs h
   replace hr49:=zaq hr49
   refine zat hr49 ?_
   try simp only[go_sem,zab hy2,zad hy2,zac zaj hy2]
   refine zaa (v:= .ptr 8 0 0) (fun hb110=>by simp only[go_sem,zab hy2,zad hy2,zac zaj hy2,hb110]) ?_
   try simp only[go_sem,zab hy2,zad hy2,zac zaj hy2]
   refine zaa (v:= .d (.int .u8 y1.kind)) (fun hb109=>by simp only[go_sem,zab hy2,zad hy2,zac zaj hy2,hb109]) ?_
   try simp only[go_sem,zab hy2,zad hy2,zac zaj hy2]
   refine zaa (v:= .d (.bool (y1.kind==9))) (fun hb108=>by simp only[go_sem,zab hy2,zad hy2,zac zaj hy2,hb108]) ?_
   try simp only[go_sem,zab hy2,zad hy2,zac zaj hy2]
   refine zaa (v:= .d (.bool (y1.kind==9))) (fun hb107=>by simp only[go_sem,zab hy2,zad hy2,zac zaj hy2,hb107]) ?_
   try simp only[go_sem,zab hy2,zad hy2,zac zaj hy2]
   refine zaa (v:= .ptr 8 0 10) (fun hb104=>by((obtain⟨hb105,hb106⟩:=zay hb104));simp only[go_sem,zab hy2,zad hy2,zac zaj hy2,hb106,hb105]) ?_
   try simp only[go_sem,zab hy2,zad hy2,zac zaj hy2]
   refine zaa (v:= .d (.int .i64 y1.doc)) (fun hb101=>by((obtain⟨hb102,hb103⟩:=zay hb101));simp only[go_sem,zab hy2,zad hy2,zac zaj hy2,hb103,hb102]) ?_
   try simp only[go_sem,zab hy2,zad hy2,zac zaj hy2]
   refine zaa (v:= .d (.int .i64 a1)) (fun hb98=>by((obtain⟨hb99,hb100⟩:=zay hb98));simp only[go_sem,zab hy2,zad hy2,zac zaj hy2,hb100,hb99]) ?_
   try simp only[go_sem,zab hy2,zad hy2,zac zaj hy2]
   refine zaa (v:= .d (.bool (!(y1.doc==a1)))) (fun hb95=>by((obtain⟨hb96,hb97⟩:=zay hb95));simp only[go_sem,zab hy2,zad hy2,zac zaj hy2,hb97,hb96]) ?_
   try simp only[go_sem,zab hy2,zad hy2,zac zaj hy2]
   obtain⟨r52,hl53,h⟩:=bs h
   refine zbW.cut (n:=(0,[])) .normal ⟨((((Regs.none.set 1 (.d (.int .i64 a1))).set 2 (.ptr 0 0 0)).set 5 (.ptr 8 0 0)).set 92 (.d (.bool r52))),(((Heap.at 33).set 0 (some (.els 1 [.d (zam a0)] 0))).set 8 (some (.els 16 [.d (zaj y1)] 0)))⟩ ?_ (by(repeat(refine Clo.seq zba rfl ?_));(exact Clo.ret)) ?_
   ·replace h:=hl53
    refine zaA (fun hc50=> ?_) (fun hc51=> ?_)
    ·rw[if_pos hc50]at h
     try simp only[go_sem,zab hy2,zad hy2,zac zaj hy2,hc50]
     cases h
     exact⟨rfl,Up.of (N:=33) (N':=33) [] rfl rfl (by decide) (.set (.d _) (.set (.ptr' rfl) (.set (.ptr' rfl) (.set (.d _) zai.none)))) (.set zau.refl_d (.set zau.refl_d zal.at))⟩
    rw[if_neg (ff hc51)]at h
    try simp only[go_sem,zab hy2,zad hy2,zac zaj hy2,hc51]
    cases h
    exact⟨rfl,Up.of (N:=33) (N':=33) [] rfl rfl (by decide) (.set (.d _) (.set (.ptr' rfl) (.set (.ptr' rfl) (.set (.d _) zai.none)))) (.set zau.refl_d (.set zau.refl_d zal.at))⟩
   try simp only[go_sem,zab hy2,zad hy2,zac zaj hy2]
   refine zag (fun hc54=> ?_) (fun hc55=> ?_)
   ·rw[if_pos hc54]at h
    try simp only[go_sem,zab hy2,zad hy2,zac zaj hy2]
    cases h
    rfl
   rw[if_neg (ff hc55)]at h
   try simp only[go_sem,zab hy2,zad hy2,zac zaj hy2]
   obtain⟨r69,hl70,h⟩:=bs h
   refine WBr.cut (n:=(0,[])) ((fun r=>match r with|(.inl r)=>(.normal,⟨(((Regs.none.set 1 (.d (.int .i64 a1))).set 2 (.ptr 0 0 0)).set 5 (.ptr 8 0 0)),(((Heap.at 36).set 0 (some (.els 1 [.d (zam a0)] 0))).set 8 (some (.els 16 [.d (zaj y1)] 0)))⟩)|(.inr r)=>(.ret,⟨(Regs.none.set 4 (.d (.bool false))),(Heap.at 36)⟩):((Unit)⊕(Unit))→Ex×St) r69).1 ((fun r=>match r with|(.inl r)=>(.normal,⟨(((Regs.none.set 1 (.d (.int .i64 a1))).set 2 (.ptr 0 0 0)).set 5 (.ptr 8 0 0)),(((Heap.at 36).set 0 (some (.els 1 [.d (zam a0)] 0))).set 8 (some (.els 16 [.d (zaj y1)] 0)))⟩)|(.inr r)=>(.ret,⟨(Regs.none.set 4 (.d (.bool false))),(Heap.at 36)⟩):((Unit)⊕(Unit))→Ex×St) r69).2 ?_ (by(repeat(refine Clo.seq zba rfl ?_));(exact Clo.ret)) ?_
   ·replace h:=hl70
    refine zaO (fun hc56=> ?_) (fun hc57=> ?_)
    ·rw[if_pos (show(!(y1.shadow==0))=true by(rw[hc56];rfl))]at h
     try simp only[go_sem,zab hy2,zad hy2,zac zaj hy2]
     obtain⟨r58,hr59,h⟩:=bs h
     replace hr59:=zaq hr59
     refine zat hr59 ?_
     try simp only[go_sem,zab hy2,zad hy2,zac zaj hy2]
     refine zaa (v:= .ptr 43 0 0) (fun hb68=>by simp only[go_sem,zab hy2,zad hy2,zac zaj hy2,hc55,hc56,hb68]) ?_
     try simp only[go_sem,zab hy2,zad hy2,zac zaj hy2]
     refine zaa (v:= .d (.int .u8 r58.1.kind)) (fun hb67=>by simp only[go_sem,zab hy2,zad hy2,zac zaj hy2,hc55,hc56,hb67]) ?_
     try simp only[go_sem,zab hy2,zad hy2,zac zaj hy2]
     refine zaa (v:= .d (.bool (!(r58.1.kind==12)))) (fun hb66=>by simp only[go_sem,zab hy2,zad hy2,zac zaj hy2,hc55,hc56,hb66]) ?_
     try simp only[go_sem,zab hy2,zad hy2,zac zaj hy2]
     refine zaa (v:= .ptr 43 0 11) (fun hb65=>by simp only[go_sem,zab hy2,zad hy2,zac zaj hy2,hc55,hc56,hb65]) ?_
     try simp only[go_sem,zab hy2,zad hy2,zac zaj hy2]
     refine zaa (v:= .d (.int .i64 r58.1.host)) (fun hb64=>by simp only[go_sem,zab hy2,zad hy2,zac zaj hy2,hc55,hc56,hb64]) ?_
     try simp only[go_sem,zab hy2,zad hy2,zac zaj hy2]
     refine zaa (v:= .d (.int .i64 a1)) (fun hb63=>by simp only[go_sem,zab hy2,zad hy2,zac zaj hy2,hc55,hc56,hb63]) ?_
     try simp only[go_sem,zab hy2,zad hy2,zac zaj hy2]
     refine zaa (v:= .d (.bool (!(r58.1.host==a1)))) (fun hb62=>by simp only[go_sem,zab hy2,zad hy2,zac zaj hy2,hc55,hc56,hb62]) ?_
     try simp only[go_sem,zab hy2,zad hy2,zac zaj hy2]
     refine zag (fun hc60=> ?_) (fun hc61=> ?_)
     ·rw[if_pos hc60]at h
      try simp only[go_sem,zab hy2,zad hy2,zac zaj hy2]
      cases h
      exact⟨rfl,Up.of (N:=36) (N':=60) [] rfl rfl (by decide) (.set (.d _) zai.none) zal.at⟩
     rw[if_neg (ff hc61)]at h
     try simp only[go_sem,zab hy2,zad hy2,zac zaj hy2]
     cases h
     exact⟨rfl,Up.of (N:=36) (N':=59) [] rfl rfl (by decide) (.set (.ptr' rfl) (.set (.ptr' rfl) (.set (.d _) zai.none))) (.set zau.refl_d (.set zau.refl_d zal.at))⟩
    rw[if_neg (ffn hc57)]at h
    try simp only[go_sem,zab hy2,zad hy2,zac zaj hy2]
    cases h
    exact⟨rfl,Up.of (N:=36) (N':=36) [] rfl rfl (by decide) (.set (.ptr' rfl) (.set (.ptr' rfl) (.set (.d _) zai.none))) (.set zau.refl_d (.set zau.refl_d zal.at))⟩
   rcases r69 with(q71|q94)
   ·dsimp only at h⊢
    try simp only[go_sem,zab hy2,zad hy2,zac zaj hy2]
    refine zag (fun hc72=> ?_) (fun hc73=> ?_)
    ·rw[if_pos hc72]at h
     try simp only[go_sem,zab hy2,zad hy2,zac zaj hy2]
     obtain⟨r74,hr75,h⟩:=bs h
     replace hr75:=zaq hr75
     refine zat hr75 ?_
     try simp only[go_sem,zab hy2,zad hy2,zac zaj hy2]
     refine zaa (v:= .ptr 46 0 0) (fun hb91=>by simp only[go_sem,zab hy2,zad hy2,zac zaj hy2,hc55,hc72,hb91]) ?_
     try simp only[go_sem,zab hy2,zad hy2,zac zaj hy2]
     refine zaa (v:= .d (.int .u8 r74.1.kind)) (fun hb90=>by simp only[go_sem,zab hy2,zad hy2,zac zaj hy2,hc55,hc72,hb90]) ?_
     try simp only[go_sem,zab hy2,zad hy2,zac zaj hy2]
     refine zaa (v:= .d (.bool (!(r74.1.kind==1)))) (fun hb89=>by simp only[go_sem,zab hy2,zad hy2,zac zaj hy2,hc55,hc72,hb89]) ?_
     try simp only[go_sem,zab hy2,zad hy2,zac zaj hy2]
     refine zaa (v:= .ptr 46 0 12) (fun hb88=>by simp only[go_sem,zab hy2,zad hy2,zac zaj hy2,hc55,hc72,hb88]) ?_
     try simp only[go_sem,zab hy2,zad hy2,zac zaj hy2]
     refine zaa (v:= .d (.int .i64 r74.1.shadow)) (fun hb87=>by simp only[go_sem,zab hy2,zad hy2,zac zaj hy2,hc55,hc72,hb87]) ?_
     try simp only[go_sem,zab hy2,zad hy2,zac zaj hy2]
     refine zaa (v:= .d (.int .i64 a1)) (fun hb86=>by simp only[go_sem,zab hy2,zad hy2,zac zaj hy2,hc55,hc72,hb86]) ?_
     try simp only[go_sem,zab hy2,zad hy2,zac zaj hy2]
     refine zaa (v:= .d (.bool (!(r74.1.shadow==a1)))) (fun hb85=>by simp only[go_sem,zab hy2,zad hy2,zac zaj hy2,hc55,hc72,hb85]) ?_
     try simp only[go_sem,zab hy2,zad hy2,zac zaj hy2]
     refine zaa (v:= .ptr 46 0 10) (fun hb84=>by simp only[go_sem,zab hy2,zad hy2,zac zaj hy2,hc55,hc72,hb84]) ?_
     try simp only[go_sem,zab hy2,zad hy2,zac zaj hy2]
     refine zaa (v:= .d (.int .i64 r74.1.doc)) (fun hb83=>by simp only[go_sem,zab hy2,zad hy2,zac zaj hy2,hc55,hc72,hb83]) ?_
     try simp only[go_sem,zab hy2,zad hy2,zac zaj hy2]
     refine zaa (v:= .ptr 8 0 10) (fun hb82=>by simp only[go_sem,zab hy2,zad hy2,zac zaj hy2,hc55,hc72,hb82]) ?_
     try simp only[go_sem,zab hy2,zad hy2,zac zaj hy2]
     refine zaa (v:= .d (.int .i64 y1.doc)) (fun hb81=>by simp only[go_sem,zab hy2,zad hy2,zac zaj hy2,hc55,hc72,hb81]) ?_
     try simp only[go_sem,zab hy2,zad hy2,zac zaj hy2]
     refine zaa (v:= .d (.bool (!(r74.1.doc==y1.doc)))) (fun hb80=>by simp only[go_sem,zab hy2,zad hy2,zac zaj hy2,hc55,hc72,hb80]) ?_
     try simp only[go_sem,zab hy2,zad hy2,zac zaj hy2]
     refine zag (fun hc76=> ?_) (fun hc77=> ?_)
     ·rw[if_pos hc76]at h
      try simp only[go_sem,zab hy2,zad hy2,zac zaj hy2]
      cases h
      rfl
     rw[if_neg (ff hc77)]at h
     try simp only[go_sem,zab hy2,zad hy2,zac zaj hy2]
     obtain⟨r78,hr79,h⟩:=bs h
     replace hr79:=zaq hr79
     refine zat hr79 ?_
     try simp only[go_sem,zab hy2,zad hy2,zac zaj hy2]
     cases h
     rfl
    rw[if_neg (ff hc73)]at h
    try simp only[go_sem,zab hy2,zad hy2,zac zaj hy2]
    obtain⟨r92,hr93,h⟩:=bs h
    replace hr93:=zaq hr93
    refine zat hr93 ?_
    try simp only[go_sem,zab hy2,zad hy2,zac zaj hy2]
    cases h
    rfl
   dsimp only at h⊢
   try simp only[go_sem,zab hy2,zad hy2,zac zaj hy2]
   cases h
   rfl
  dsimp only at h⊢
  try simp only[go_sem,zab hy2,zad hy2,zac zaj hy2]
  cases h
  rfl
 dsimp only at h
 dsimp only[zil]
 try simp only[go_sem,zab hy2,zad hy2,zac zaj hy2]
 cases h
 rfl
def zfc (a0:Forest) (x0:Int×Int):St:=⟨(((Regs.none.set 2 (.ptr 0 0 0)).set 5 (.d (.int .i64 x0.1))).set 6 (.d (.int .i64 x0.2))),((Heap.at 5).set 0 (some (.els 1 [.d (zam a0)] 0)))⟩
def zim (a0:Forest):((Unit)⊕(Unit))→Ex×St:=fun r=>match r with
 |(.inl r)=>(.exit 0,⟨Regs.none,(Heap.at 5)⟩)
 |(.inr r)=>(.ret,⟨(Regs.none.set 4 (.d (.bool false))),(Heap.at 5)⟩)
noncomputable def zce (a0:Forest) (x0:Int×Int):Option ((Int×Int)⊕((Unit)⊕(Unit))):=
 if(decide (x0.2≤(a0.nodes.l.length:Int)))=true then
  (dec (eT2 zaj D.bool) (pc prog 43 [zam a0,.int .i64 x0.1])).bind fun r3=>
  if(!r3.2)=true then
   some (.inr (.inr ()))
  else
   (dec (D.int .i64) (pc prog 199 [zaj r3.1])).bind fun r7=>
   some (.inl (r7,(IntKind.wrap .i64 (x0.2+1))))
 else
  some (.inr (.inl ()))
theorem zwy (a0:Forest) (x0:Int×Int) (o:(Int×Int)⊕((Unit)⊕(Unit))) (h:zce a0 x0=some o):Wp prog zpU (zfc a0 x0) (zbK (0,[]) (zfc a0) (zim a0) o):=by
 unfold zce at h
 delta zpU zfc
 try simp only[go_sem]
 refine zag (fun hc1=> ?_) (fun hc2=> ?_)
 ·rw[if_pos hc1]at h
  try simp only[go_sem]
  obtain⟨r3,hr4,h⟩:=bs h
  replace hr4:=zaq hr4
  refine zat hr4 ?_
  try simp only[go_sem]
  refine zaO (fun hc5=> ?_) (fun hc6=> ?_)
  ·rw[if_pos (show(!r3.2)=true by(rw[hc5];rfl))]at h
   try simp only[go_sem]
   cases h
   exact⟨rfl,by simp,Up.of (N:=5) (N':=22) [] rfl rfl (by decide) (.set (.d _) zai.none) zal.at⟩
  rw[if_neg (ffn hc6)]at h
  try simp only[go_sem]
  obtain⟨r7,hr8,h⟩:=bs h
  replace hr8:=zaq hr8
  refine zat hr8 ?_
  try simp only[go_sem]
  cases h
  exact⟨rfl,Up.of (N:=5) (N':=27) [] rfl rfl (by decide) (.set (.d _) (.set (.d _) (.set (.ptr' rfl) zai.none))) (.set zau.refl_d zal.at)⟩
 rw[if_neg (ff hc2)]at h
 try simp only[go_sem]
 cases h
 exact⟨rfl,by simp,Up.of (N:=5) (N':=10) [] rfl rfl (by decide) zai.none zal.at⟩
noncomputable def zJa (a0:Forest) (a1:Int):Option (Bool):=
 (zaR (zce a0) (a1,0)).bind fun r9=>
 match r9 with
 |(.inl q11)=>
  some true
 |(.inr q12)=>
  some false
theorem zJb (a0:Forest) (a1:Int) (r:Bool) (h:zJa a0 a1=some r):pc prog 165 [zam a0,.int .i64 a1]=some (D.bool r):=by
 unfold zJa at h
 refine zbk (fn:=zHD) rfl rfl ?_
 delta zHD
 try simp only[go_sem]
 obtain⟨r9,hl10,h⟩:=bs h
 refine Wp.loopR zba (n:=(0,[])) (a:=zpU) rfl (zfc a0) (zim a0) (zwy a0) hl10 ?_ (by(repeat(first|refine Clo.block ?_|refine Clo.seq zba rfl ?_));(exact Clo.ret)) ?_
 ·show Up (0,[]) (zfc a0 (a1,0)) _
  delta zfc
  exact Up.of (N:=5) (N':=5) [] rfl rfl (by decide) (.set (.d _) (.set (.d _) (.set (.ptr' rfl) zai.none))) (.set zau.refl_d zal.at)
 rcases r9 with(q11|q12)
 ·dsimp only at h
  dsimp only[zim]
  try simp only[go_sem]
  cases h
  rfl
 dsimp only at h
 dsimp only[zim]
 try simp only[go_sem]
 cases h
 rfl
noncomputable def zJc (a0:Node):Option (Int):=
 if(a0.kind==12)=true then
  some a0.host
 else
  some a0.parent
theorem zJd (a0:Node) (r:Int) (h:zJc a0=some r):pc prog 182 [zaj a0]=some ((D.int .i64) r):=by
 unfold zJc at h
 refine zbk (fn:=zHF) rfl rfl ?_
 delta zHF
 try simp only[go_sem]
 refine zag (fun hc1=> ?_) (fun hc2=> ?_)
 ·rw[if_pos hc1]at h
  try simp only[go_sem]
  cases h
  rfl
 rw[if_neg (ff hc2)]at h
 try simp only[go_sem]
 cases h
 rfl
noncomputable def zJe (a0:Int):Option (forest_trait):=
 if(a0==1)=true then
  some (⟨true,false,true,true,true,false⟩:forest_trait)
 else
  (if(a0==3)=true then
   some (a0==3)
  else
   (if(a0==4)=true then
    some (a0==4)
   else
    some (a0==8):Option ((Bool))).bind fun r7=>
   some r7:Option ((Bool))).bind fun r9=>
  if r9=true then
   some (⟨true,true,false,true,false,false⟩:forest_trait)
  else
   if(a0==7)=true then
    some (⟨true,true,false,true,false,true⟩:forest_trait)
   else
    if(a0==10)=true then
     some (⟨true,false,false,true,false,true⟩:forest_trait)
    else
     if(a0==9)=true then
      some (⟨true,false,true,false,false,false⟩:forest_trait)
     else
      if(a0==11)=true then
       some (⟨true,false,true,false,false,false⟩:forest_trait)
      else
       if(a0==12)=true then
        some (⟨true,false,true,false,false,false⟩:forest_trait)
       else
        some (⟨false,false,false,false,false,false⟩:forest_trait)
theorem zJf (a0:Int) (r:forest_trait) (h:zJe a0=some r):pc prog 183 [.int .u8 a0]=some (zaG r):=by
 unfold zJe at h
 refine zbk (fn:=zHG) rfl rfl ?_
 delta zHG
 try simp only[go_sem]
 refine zag (fun hc1=> ?_) (fun hc2=> ?_)
 ·rw[if_pos hc1]at h
  try simp only[go_sem]
  cases h
  rfl
 rw[if_neg (ff hc2)]at h
 try simp only[go_sem]
 obtain⟨r9,hl10,h⟩:=bs h
 refine WBr.cut (n:=(0,[])) .normal ⟨(((Regs.none.set 2 (.ptr 0 0 0)).set 3 (.d (.int .u8 a0))).set 7 (.d (.bool r9))),((Heap.at 6).set 0 (some (.els 6 [.d (.agg [.bool false,.bool false,.bool false,.bool false,.bool false,.bool false])] 0)))⟩ ?_ (by(repeat(first|refine Clo.block ?_|refine Clo.seq zba rfl ?_));(exact Clo.ret)) ?_
 ·replace h:=hl10
  refine zag (fun hc3=> ?_) (fun hc4=> ?_)
  ·rw[if_pos hc3]at h
   try simp only[go_sem]
   cases h
   exact⟨rfl,Up.of (N:=6) (N':=6) [] rfl rfl (by decide) (.set (.d _) (.set (.d _) (.set (.ptr' rfl) zai.none))) (.set zau.refl_d zal.at)⟩
  rw[if_neg (ff hc4)]at h
  try simp only[go_sem]
  obtain⟨r7,hl8,h⟩:=bs h
  refine WBr.cut (n:=(0,[])) .normal ⟨(((Regs.none.set 2 (.ptr 0 0 0)).set 3 (.d (.int .u8 a0))).set 7 (.d (.bool r7))),((Heap.at 8).set 0 (some (.els 6 [.d (.agg [.bool false,.bool false,.bool false,.bool false,.bool false,.bool false])] 0)))⟩ ?_ (by(repeat(first|refine Clo.block ?_|refine Clo.seq zba rfl ?_));(exact Clo.cpost (by decide))) ?_
  ·replace h:=hl8
   refine zag (fun hc5=> ?_) (fun hc6=> ?_)
   ·rw[if_pos hc5]at h
    try simp only[go_sem]
    cases h
    exact⟨rfl,Up.of (N:=8) (N':=8) [] rfl rfl (by decide) (.set (.d _) (.set (.d _) (.set (.ptr' rfl) zai.none))) (.set zau.refl_d zal.at)⟩
   rw[if_neg (ff hc6)]at h
   try simp only[go_sem]
   cases h
   exact⟨rfl,Up.of (N:=8) (N':=10) [] rfl rfl (by decide) (.set (.d _) (.set (.d _) (.set (.ptr' rfl) zai.none))) (.set zau.refl_d zal.at)⟩
  skip
  cases h
  exact⟨rfl,Up.of (N:=6) (N':=8) [] rfl rfl (by decide) (.set (.d _) (.set (.d _) (.set (.ptr' rfl) zai.none))) (.set zau.refl_d zal.at)⟩
 try simp only[go_sem]
 refine zag (fun hc11=> ?_) (fun hc12=> ?_)
 ·rw[if_pos hc11]at h
  try simp only[go_sem]
  cases h
  rfl
 rw[if_neg (ff hc12)]at h
 try simp only[go_sem]
 refine zag (fun hc13=> ?_) (fun hc14=> ?_)
 ·rw[if_pos hc13]at h
  try simp only[go_sem]
  cases h
  rfl
 rw[if_neg (ff hc14)]at h
 try simp only[go_sem]
 refine zag (fun hc15=> ?_) (fun hc16=> ?_)
 ·rw[if_pos hc15]at h
  try simp only[go_sem]
  cases h
  rfl
 rw[if_neg (ff hc16)]at h
 try simp only[go_sem]
 refine zag (fun hc17=> ?_) (fun hc18=> ?_)
 ·rw[if_pos hc17]at h
  try simp only[go_sem]
  try simp only[go_sem,hc2,hc12,hc14,hc16,hc17]
  cases h
  rfl
 rw[if_neg (ff hc18)]at h
 try simp only[go_sem]
 refine zag (fun hc19=> ?_) (fun hc20=> ?_)
 ·rw[if_pos hc19]at h
  try simp only[go_sem]
  try simp only[go_sem,hc2,hc12,hc14,hc16,hc18,hc19]
  cases h
  rfl
 rw[if_neg (ff hc20)]at h
 try simp only[go_sem]
 refine zag (fun hc21=> ?_) (fun hc22=> ?_)
 ·rw[if_pos hc21]at h
  try simp only[go_sem]
  cases h
  rfl
 rw[if_neg (ff hc22)]at h
 try simp only[go_sem]
 cases h
 rfl
noncomputable def zJg (a0:Node) (a1:forest_trait):Option (Bool):=
 if a1.full=true then
  (dec D.bool (pc prog 203 [zbR a0.name])).bind fun r3=>
  some r3
 else
  if a1.local_=true then
   if(!(a0.name.local_==[]))=true then
    (dec D.bool (pc prog 186 [.list false (([a0.name.local_]).map D.str)])).bind fun r9=>
    if r9=true then
     some (decide (a0.name=(⟨[],[],a0.name.local_⟩:Name)))
    else
     some false
   else
    some false
  else
   some (decide (a0.name=(⟨[],[],[]⟩:Name)))
theorem zJh (a0:Node) (a1:forest_trait) (r:Bool) (h:zJg a0 a1=some r):pc prog 184 [zaj a0,zaG a1]=some (D.bool r):=by
 unfold zJg at h
 refine zbk (fn:=zHH) rfl rfl ?_
 delta zHH
 try simp only[go_sem]
 refine zag (fun hc1=> ?_) (fun hc2=> ?_)
 ·rw[if_pos hc1]at h
  try simp only[go_sem]
  obtain⟨r3,hr4,h⟩:=bs h
  replace hr4:=zaq hr4
  refine zat hr4 ?_
  try simp only[go_sem]
  cases h
  rfl
 rw[if_neg (ff hc2)]at h
 try simp only[go_sem]
 refine zag (fun hc5=> ?_) (fun hc6=> ?_)
 ·rw[if_pos hc5]at h
  try simp only[go_sem]
  refine zaa (v:= .ptr 0 0 1) (fun hb20=>by simp only[go_sem,hc2,hc5,hb20]) ?_
  try simp only[go_sem]
  refine zaa (v:= .ptr 0 0 3) (fun hb19=>by simp only[go_sem,hc2,hc5,hb19]) ?_
  try simp only[go_sem]
  refine zaa (v:= .d (.str a0.name.local_)) (fun hb18=>by simp only[go_sem,hc2,hc5,hb18]) ?_
  try simp only[go_sem]
  refine zaw (fun hc7=> ?_) (fun hc8=> ?_)
  ·rw[if_pos (show(!(a0.name.local_==[]))=true by(rw[hc7];rfl))]at h
   try simp only[go_sem,hc7]
   obtain⟨r9,hr10,h⟩:=bs h
   replace hr10:=zaq hr10
   refine zat hr10 ?_
   try simp only[go_sem]
   refine zaa (v:= .ptr 0 0 1) (fun hb17=>by simp only[go_sem,hc2,hc5,hc7,hb17]) ?_
   try simp only[go_sem]
   refine zaa (v:= .d (zbR a0.name)) (fun hb16=>by simp only[go_sem,hc2,hc5,hc7,hb16]) ?_
   try simp only[go_sem]
   refine zaa (v:= .ptr 0 0 1) (fun hb15=>by simp only[go_sem,hc2,hc5,hc7,hb15]) ?_
   try simp only[go_sem]
   refine zaa (v:= .ptr 0 0 3) (fun hb14=>by simp only[go_sem,hc2,hc5,hc7,hb14]) ?_
   try simp only[go_sem]
   refine zaa (v:= .d (.str a0.name.local_)) (fun hb13=>by simp only[go_sem,hc2,hc5,hc7,hb13]) ?_
   try simp only[go_sem]
   refine zaA (fun hc11=> ?_) (fun hc12=> ?_)
   ·rw[if_pos hc11]at h
    try simp only[go_sem,hc11]
    cases h
    rfl
   rw[if_neg (ff hc12)]at h
   try simp only[go_sem,hc12]
   cases h
   rfl
  rw[if_neg (ffn hc8)]at h
  try simp only[go_sem,hc8]
  cases h
  rfl
 rw[if_neg (ff hc6)]at h
 try simp only[go_sem]
 cases h
 rfl
def zfd (a0:Sl (Attr)) (x0:List (forest_key×Int)×Int):St:=⟨((((Regs.none.set 3 (.map 4)).set 11 (.d (.list a0.n (a0.l.map zaL)))).set 12 (.d (.int .i64 (a0.l.length:Int)))).set 13 (.d (.int .i64 x0.2))),((Heap.at 9).set 4 (some (.map (ents zah (fun z=>V.d ((D.int .i64) z)) x0.1 0) x0.1.length)))⟩
def zin (a0:Sl (Attr)):((Unit)⊕(Unit))→Ex×St:=fun r=>match r with
 |(.inl r)=>(.exit 0,⟨Regs.none,(Heap.at 9)⟩)
 |(.inr r)=>(.ret,⟨(Regs.none.set 2 (.d (.bool false))),(Heap.at 9)⟩)
noncomputable def zdv (a0:Sl (Attr)) (x0:List (forest_key×Int)×Int):Option ((List (forest_key×Int)×Int)⊕((Unit)⊕(Unit))):=
 if(decide (x0.2<(a0.l.length:Int)))=true then
  (rd a0.l x0.2).bind fun y5=>
  (dec zah (pc prog 204 [zbR y5.name])).bind fun r7=>
  (dec D.bool (pc prog 203 [zbR y5.name])).bind fun r9=>
  if(!(bif (!r9)then true else(decide (4096<(y5.value.length:Int)))))=true then
   if(decide (0<(zje r7 x0.1 (0))))=true then
    some (.inr (.inr ()))
   else
    some (.inl ((zhH r7 (IntKind.wrap .i64 ((zje r7 x0.1 (0))+1)) x0.1),(IntKind.wrap .i64 (x0.2+1))))
  else
   some (.inr (.inr ()))
 else
  some (.inr (.inl ()))
theorem zwz (a0:Sl (Attr)) (x0:List (forest_key×Int)×Int) (o:(List (forest_key×Int)×Int)⊕((Unit)⊕(Unit))) (h:zdv a0 x0=some o):Wp prog zpW (zfd a0 x0) (zbK (0,[]) (zfd a0) (zin a0) o):=by
 unfold zdv at h
 delta zpW zfd
 try simp only[go_sem]
 refine zag (fun hc3=> ?_) (fun hc4=> ?_)
 ·rw[if_pos hc3]at h
  try simp only[go_sem,zaC (e:=zah) (ev:=(D.int .i64)) zaf,zaD (e:=zah) (ev:=(D.int .i64)) zaf,zax (e:=zah) (ev:=(D.int .i64)) zaf,zaE (e:=zah) (ev:=(D.int .i64)) zaf,zaF (e:=zah) (ev:=(D.int .i64))]
  obtain⟨y5,hy6,h⟩:=bs h
  try simp only[go_sem,zaC (e:=zah) (ev:=(D.int .i64)) zaf,zaD (e:=zah) (ev:=(D.int .i64)) zaf,zax (e:=zah) (ev:=(D.int .i64)) zaf,zaE (e:=zah) (ev:=(D.int .i64)) zaf,zaF (e:=zah) (ev:=(D.int .i64)),zab hy6,zad hy6,zac zaL hy6]
  obtain⟨r7,hr8,h⟩:=bs h
  replace hr8:=zaq hr8
  refine zat hr8 ?_
  try simp only[go_sem,zaC (e:=zah) (ev:=(D.int .i64)) zaf,zaD (e:=zah) (ev:=(D.int .i64)) zaf,zax (e:=zah) (ev:=(D.int .i64)) zaf,zaE (e:=zah) (ev:=(D.int .i64)) zaf,zaF (e:=zah) (ev:=(D.int .i64)),zab hy6,zad hy6,zac zaL hy6]
  obtain⟨r9,hr10,h⟩:=bs h
  replace hr10:=zaq hr10
  refine zat hr10 ?_
  try simp only[go_sem,zaC (e:=zah) (ev:=(D.int .i64)) zaf,zaD (e:=zah) (ev:=(D.int .i64)) zaf,zax (e:=zah) (ev:=(D.int .i64)) zaf,zaE (e:=zah) (ev:=(D.int .i64)) zaf,zaF (e:=zah) (ev:=(D.int .i64)),zab hy6,zad hy6,zac zaL hy6]
  refine zaa (v:= .ptr 12 0 3) (fun hb18=>by simp only[go_sem,zaC (e:=zah) (ev:=(D.int .i64)) zaf,zaD (e:=zah) (ev:=(D.int .i64)) zaf,zax (e:=zah) (ev:=(D.int .i64)) zaf,zaE (e:=zah) (ev:=(D.int .i64)) zaf,zaF (e:=zah) (ev:=(D.int .i64)),zab hy6,zad hy6,zac zaL hy6,hc3,hb18]) ?_
  try simp only[go_sem,zaC (e:=zah) (ev:=(D.int .i64)) zaf,zaD (e:=zah) (ev:=(D.int .i64)) zaf,zax (e:=zah) (ev:=(D.int .i64)) zaf,zaE (e:=zah) (ev:=(D.int .i64)) zaf,zaF (e:=zah) (ev:=(D.int .i64)),zab hy6,zad hy6,zac zaL hy6]
  refine zaa (v:= .d (.str y5.value)) (fun hb17=>by simp only[go_sem,zaC (e:=zah) (ev:=(D.int .i64)) zaf,zaD (e:=zah) (ev:=(D.int .i64)) zaf,zax (e:=zah) (ev:=(D.int .i64)) zaf,zaE (e:=zah) (ev:=(D.int .i64)) zaf,zaF (e:=zah) (ev:=(D.int .i64)),zab hy6,zad hy6,zac zaL hy6,hc3,hb17]) ?_
  try simp only[go_sem,zaC (e:=zah) (ev:=(D.int .i64)) zaf,zaD (e:=zah) (ev:=(D.int .i64)) zaf,zax (e:=zah) (ev:=(D.int .i64)) zaf,zaE (e:=zah) (ev:=(D.int .i64)) zaf,zaF (e:=zah) (ev:=(D.int .i64)),zab hy6,zad hy6,zac zaL hy6]
  refine zaa (v:= .d (.int .i64 (y5.value.length:Int))) (fun hb16=>by simp only[go_sem,zaC (e:=zah) (ev:=(D.int .i64)) zaf,zaD (e:=zah) (ev:=(D.int .i64)) zaf,zax (e:=zah) (ev:=(D.int .i64)) zaf,zaE (e:=zah) (ev:=(D.int .i64)) zaf,zaF (e:=zah) (ev:=(D.int .i64)),zab hy6,zad hy6,zac zaL hy6,hc3,hb16]) ?_
  try simp only[go_sem,zaC (e:=zah) (ev:=(D.int .i64)) zaf,zaD (e:=zah) (ev:=(D.int .i64)) zaf,zax (e:=zah) (ev:=(D.int .i64)) zaf,zaE (e:=zah) (ev:=(D.int .i64)) zaf,zaF (e:=zah) (ev:=(D.int .i64)),zab hy6,zad hy6,zac zaL hy6]
  refine zaa (v:= .d (.bool (decide (4096<(y5.value.length:Int))))) (fun hb15=>by simp only[go_sem,zaC (e:=zah) (ev:=(D.int .i64)) zaf,zaD (e:=zah) (ev:=(D.int .i64)) zaf,zax (e:=zah) (ev:=(D.int .i64)) zaf,zaE (e:=zah) (ev:=(D.int .i64)) zaf,zaF (e:=zah) (ev:=(D.int .i64)),zab hy6,zad hy6,zac zaL hy6,hc3,hb15]) ?_
  try simp only[go_sem,zaC (e:=zah) (ev:=(D.int .i64)) zaf,zaD (e:=zah) (ev:=(D.int .i64)) zaf,zax (e:=zah) (ev:=(D.int .i64)) zaf,zaE (e:=zah) (ev:=(D.int .i64)) zaf,zaF (e:=zah) (ev:=(D.int .i64)),zab hy6,zad hy6,zac zaL hy6]
  refine zaw (fun hc11=> ?_) (fun hc12=> ?_)
  ·rw[if_pos (show(!(bif (!r9)then true else(decide (4096<(y5.value.length:Int)))))=true by(rw[hc11];rfl))]at h
   try simp only[go_sem,zaC (e:=zah) (ev:=(D.int .i64)) zaf,zaD (e:=zah) (ev:=(D.int .i64)) zaf,zax (e:=zah) (ev:=(D.int .i64)) zaf,zaE (e:=zah) (ev:=(D.int .i64)) zaf,zaF (e:=zah) (ev:=(D.int .i64)),zab hy6,zad hy6,zac zaL hy6,hc11]
   refine zag (fun hc13=> ?_) (fun hc14=> ?_)
   ·rw[if_pos hc13]at h
    try simp only[go_sem,zaC (e:=zah) (ev:=(D.int .i64)) zaf,zaD (e:=zah) (ev:=(D.int .i64)) zaf,zax (e:=zah) (ev:=(D.int .i64)) zaf,zaE (e:=zah) (ev:=(D.int .i64)) zaf,zaF (e:=zah) (ev:=(D.int .i64)),zab hy6,zad hy6,zac zaL hy6]
    cases h
    exact⟨rfl,by simp,Up.of (N:=9) (N':=36) [] rfl rfl (by decide) (.set (.d _) zai.none) zal.at⟩
   rw[if_neg (ff hc14)]at h
   try simp only[go_sem,zaC (e:=zah) (ev:=(D.int .i64)) zaf,zaD (e:=zah) (ev:=(D.int .i64)) zaf,zax (e:=zah) (ev:=(D.int .i64)) zaf,zaE (e:=zah) (ev:=(D.int .i64)) zaf,zaF (e:=zah) (ev:=(D.int .i64)),zab hy6,zad hy6,zac zaL hy6]
   cases h
   exact⟨rfl,Up.of (N:=9) (N':=44) [] rfl rfl (by decide) (.set (.d _) (.set (.d _) (.set (.d _) (.set (.map' rfl) zai.none)))) (.set zau.map_d zal.at)⟩
  rw[if_neg (ffn hc12)]at h
  try simp only[go_sem,zaC (e:=zah) (ev:=(D.int .i64)) zaf,zaD (e:=zah) (ev:=(D.int .i64)) zaf,zax (e:=zah) (ev:=(D.int .i64)) zaf,zaE (e:=zah) (ev:=(D.int .i64)) zaf,zaF (e:=zah) (ev:=(D.int .i64)),zab hy6,zad hy6,zac zaL hy6,hc12]
  cases h
  exact⟨rfl,by simp,Up.of (N:=9) (N':=36) [] rfl rfl (by decide) (.set (.d _) zai.none) zal.at⟩
 rw[if_neg (ff hc4)]at h
 try simp only[go_sem,zaC (e:=zah) (ev:=(D.int .i64)) zaf,zaD (e:=zah) (ev:=(D.int .i64)) zaf,zax (e:=zah) (ev:=(D.int .i64)) zaf,zaE (e:=zah) (ev:=(D.int .i64)) zaf,zaF (e:=zah) (ev:=(D.int .i64))]
 cases h
 exact⟨rfl,by simp,Up.of (N:=9) (N':=10) [] rfl rfl (by decide) zai.none zal.at⟩
noncomputable def zJi (a0:Sl (Attr)):Option (Bool):=
 if(decide (64<(a0.l.length:Int)))=true then
  some false
 else
  (zaR (zdv a0) ([],0)).bind fun r19=>
  match r19 with
  |(.inl q21)=>
   some true
  |(.inr q22)=>
   some false
theorem zJj (a0:Sl (Attr)) (r:Bool) (h:zJi a0=some r):pc prog 185 [.list a0.n (a0.l.map zaL)]=some (D.bool r):=by
 unfold zJi at h
 refine zbk (fn:=zHI) rfl rfl ?_
 delta zHI
 try simp only[go_sem]
 refine zag (fun hc1=> ?_) (fun hc2=> ?_)
 ·rw[if_pos hc1]at h
  try simp only[go_sem]
  cases h
  rfl
 rw[if_neg (ff hc2)]at h
 try simp only[go_sem]
 obtain⟨r19,hl20,h⟩:=bs h
 refine Wp.loopR zba (n:=(0,[])) (a:=zpW) rfl (zfd a0) (zin a0) (zwz a0) hl20 ?_ (by(repeat(first|refine Clo.block ?_|refine Clo.seq zba rfl ?_));(exact Clo.ret)) ?_
 ·show Up (0,[]) (zfd a0 ([],0)) _
  delta zfd
  exact Up.of (N:=9) (N':=9) [] rfl rfl (by decide) (.set (.d _) (.set (.d _) (.set (.d _) (.set (.map' rfl) zai.none)))) (.set zau.map_d zal.at)
 rcases r19 with(q21|q22)
 ·dsimp only at h
  dsimp only[zin]
  try simp only[go_sem]
  cases h
  rfl
 dsimp only at h
 dsimp only[zin]
 try simp only[go_sem]
 cases h
 rfl
def zfe (a0:Sl (List UInt8)) (x0:Int):St:=⟨(((Regs.none.set 5 (.d (.list a0.n (a0.l.map D.str)))).set 6 (.d (.int .i64 (a0.l.length:Int)))).set 7 (.d (.int .i64 x0))),(Heap.at 4)⟩
def zio (a0:Sl (List UInt8)):((Unit)⊕(Unit))→Ex×St:=fun r=>match r with
 |(.inl r)=>(.exit 0,⟨Regs.none,(Heap.at 4)⟩)
 |(.inr r)=>(.ret,⟨(Regs.none.set 2 (.d (.bool false))),(Heap.at 4)⟩)
noncomputable def zdw (a0:Sl (List UInt8)) (x0:Int):Option ((Int)⊕((Unit)⊕(Unit))):=
 if(decide (x0<(a0.l.length:Int)))=true then
  (rd a0.l x0).bind fun y3=>
  if(decide (1024<(y3.length:Int)))=true then
   some (.inr (.inr ()))
  else
   some (.inl (IntKind.wrap .i64 (x0+1)))
 else
  some (.inr (.inl ()))
theorem zwA (a0:Sl (List UInt8)) (x0:Int) (o:(Int)⊕((Unit)⊕(Unit))) (h:zdw a0 x0=some o):Wp prog zpX (zfe a0 x0) (zbK (0,[]) (zfe a0) (zio a0) o):=by
 unfold zdw at h
 delta zpX zfe
 try simp only[go_sem]
 refine zag (fun hc1=> ?_) (fun hc2=> ?_)
 ·rw[if_pos hc1]at h
  try simp only[go_sem]
  obtain⟨y3,hy4,h⟩:=bs h
  try simp only[go_sem,zab hy4,zad hy4,zac D.str hy4]
  refine zag (fun hc5=> ?_) (fun hc6=> ?_)
  ·rw[if_pos hc5]at h
   try simp only[go_sem,zab hy4,zad hy4,zac D.str hy4]
   cases h
   exact⟨rfl,by simp,Up.of (N:=4) (N':=12) [] rfl rfl (by decide) (.set (.d _) zai.none) zal.at⟩
  rw[if_neg (ff hc6)]at h
  try simp only[go_sem,zab hy4,zad hy4,zac D.str hy4]
  cases h
  exact⟨rfl,Up.of (N:=4) (N':=13) [] rfl rfl (by decide) (.set (.d _) (.set (.d _) (.set (.d _) zai.none))) zal.at⟩
 rw[if_neg (ff hc2)]at h
 try simp only[go_sem]
 cases h
 exact⟨rfl,by simp,Up.of (N:=4) (N':=5) [] rfl rfl (by decide) zai.none zal.at⟩
noncomputable def zJk (a0:Sl (List UInt8)):Option (Bool):=
 (zaR (zdw a0) 0).bind fun r7=>
 match r7 with
 |(.inl q9)=>
  some true
 |(.inr q10)=>
  some false
theorem zJl (a0:Sl (List UInt8)) (r:Bool) (h:zJk a0=some r):pc prog 186 [.list a0.n (a0.l.map D.str)]=some (D.bool r):=by
 unfold zJk at h
 refine zbk (fn:=zHJ) rfl rfl ?_
 delta zHJ
 try simp only[go_sem]
 obtain⟨r7,hl8,h⟩:=bs h
 refine Wp.loopR zba (n:=(0,[])) (a:=zpX) rfl (zfe a0) (zio a0) (zwA a0) hl8 ?_ (by(repeat(first|refine Clo.block ?_|refine Clo.seq zba rfl ?_));(exact Clo.ret)) ?_
 ·show Up (0,[]) (zfe a0 0) _
  delta zfe
  exact Up.of (N:=4) (N':=4) [] rfl rfl (by decide) (.set (.d _) (.set (.d _) (.set (.d _) zai.none))) zal.at
 rcases r7 with(q9|q10)
 ·dsimp only at h
  dsimp only[zio]
  try simp only[go_sem]
  cases h
  rfl
 dsimp only at h
 dsimp only[zio]
 try simp only[go_sem]
 cases h
 rfl
noncomputable def zJm (a0:Forest) (a1:Int):Option (Node×Bool):=
 if(bif (decide (a1<1))then true else(decide ((a0.nodes.l.length:Int)<a1)))=true then
  some ((⟨0,⟨[],[],[]⟩,[],[],⟨true,[]⟩,⟨true,[]⟩,0,⟨true,[]⟩,0,0,0,0,false,false⟩:Node),false)
 else
  (rd a0.nodes.l (IntKind.wrap .i64 (a1-1))).bind fun y3=>
  some (y3,true)
theorem zJn (a0:Forest) (a1:Int) (r:Node×Bool) (h:zJm a0 a1=some r):pc prog 187 [zam a0,.int .i64 a1]=some ((eT2 zaj D.bool) r):=by
 unfold zJm at h
 refine zbk (fn:=zHK) rfl rfl ?_
 delta zHK
 try simp only[go_sem]
 refine zaa (v:= .d (.int .i64 a1)) (fun hb9=>by simp only[go_sem,hb9]) ?_
 try simp only[go_sem]
 refine zaa (v:= .ptr 0 0 0) (fun hb8=>by simp only[go_sem,hb8]) ?_
 try simp only[go_sem]
 refine zaa (v:= .d (.list a0.nodes.n (a0.nodes.l.map zaj))) (fun hb7=>by simp only[go_sem,hb7]) ?_
 try simp only[go_sem]
 refine zaa (v:= .d (.int .i64 (a0.nodes.l.length:Int))) (fun hb6=>by simp only[go_sem,hb6]) ?_
 try simp only[go_sem]
 refine zaa (v:= .d (.bool (decide ((a0.nodes.l.length:Int)<a1)))) (fun hb5=>by simp only[go_sem,hb5]) ?_
 try simp only[go_sem]
 refine zag (fun hc1=> ?_) (fun hc2=> ?_)
 ·rw[if_pos hc1]at h
  try simp only[go_sem]
  cases h
  rfl
 rw[if_neg (ff hc2)]at h
 try simp only[go_sem]
 obtain⟨y3,hy4,h⟩:=bs h
 try simp only[go_sem,zab hy4,zad hy4,zac zaj hy4]
 cases h
 rfl
def zff (a0:Sl (Int)) (a1:Int) (x0:Int×Int):St:=⟨(((((Regs.none.set 1 (.d (.int .i64 a1))).set 5 (.d (.int .i64 x0.2))).set 8 (.d (.list a0.n (a0.l.map (D.int .i64))))).set 9 (.d (.int .i64 (a0.l.length:Int)))).set 10 (.d (.int .i64 x0.1))),(Heap.at 5)⟩
def zli (a0:Sl (Int)) (a1:Int):((Int))→Ex×St:=fun r=>(.exit 0,⟨(Regs.none.set 5 (.d (.int .i64 r))),(Heap.at 5)⟩)
noncomputable def zdx (a0:Sl (Int)) (a1:Int) (x0:Int×Int):Option ((Int×Int)⊕((Int))):=
 if(decide (x0.1<(a0.l.length:Int)))=true then
  (rd a0.l x0.1).bind fun y3=>
  if(y3==a1)=true then
   some (.inl ((IntKind.wrap .i64 (x0.1+1)),(IntKind.wrap .i64 (x0.2+1))))
  else
   some (.inl ((IntKind.wrap .i64 (x0.1+1)),x0.2))
 else
  some (.inr x0.2)
theorem zwB (a0:Sl (Int)) (a1:Int) (x0:Int×Int) (o:(Int×Int)⊕((Int))) (h:zdx a0 a1 x0=some o):Wp prog zpY (zff a0 a1 x0) (zbK (0,[]) (zff a0 a1) (zli a0 a1) o):=by
 unfold zdx at h
 delta zpY zff
 try simp only[go_sem]
 refine zag (fun hc1=> ?_) (fun hc2=> ?_)
 ·rw[if_pos hc1]at h
  try simp only[go_sem]
  obtain⟨y3,hy4,h⟩:=bs h
  try simp only[go_sem,zab hy4,zad hy4,zac (D.int .i64) hy4]
  refine zag (fun hc5=> ?_) (fun hc6=> ?_)
  ·rw[if_pos hc5]at h
   try simp only[go_sem,zab hy4,zad hy4,zac (D.int .i64) hy4]
   cases h
   exact⟨rfl,Up.of (N:=5) (N':=17) [] rfl rfl (by decide) (.set (.d _) (.set (.d _) (.set (.d _) (.set (.d _) (.set (.d _) zai.none))))) zal.at⟩
  rw[if_neg (ff hc6)]at h
  try simp only[go_sem,zab hy4,zad hy4,zac (D.int .i64) hy4]
  cases h
  exact⟨rfl,Up.of (N:=5) (N':=14) [] rfl rfl (by decide) (.set (.d _) (.set (.d _) (.set (.d _) (.set (.d _) (.set (.d _) zai.none))))) zal.at⟩
 rw[if_neg (ff hc2)]at h
 try simp only[go_sem]
 cases h
 exact⟨rfl,by simp,Up.of (N:=5) (N':=6) [] rfl rfl (by decide) (.set (.d _) zai.none) zal.at⟩
noncomputable def zJo (a0:Sl (Int)) (a1:Int):Option (Bool):=
 (zaR (zdx a0 a1) (0,0)).bind fun r7=>
 some (r7==1)
theorem zJp (a0:Sl (Int)) (a1:Int) (r:Bool) (h:zJo a0 a1=some r):pc prog 188 [.list a0.n (a0.l.map (D.int .i64)),.int .i64 a1]=some (D.bool r):=by
 unfold zJo at h
 refine zbk (fn:=zHL) rfl rfl ?_
 delta zHL
 try simp only[go_sem]
 obtain⟨r7,hl8,h⟩:=bs h
 refine Wp.loopR zba (n:=(0,[])) (a:=zpY) rfl (zff a0 a1) (zli a0 a1) (zwB a0 a1) hl8 ?_ (by(repeat(first|refine Clo.block ?_|refine Clo.seq zba rfl ?_));(exact Clo.ret)) ?_
 ·show Up (0,[]) (zff a0 a1 (0,0)) _
  delta zff
  exact Up.of (N:=5) (N':=5) [] rfl rfl (by decide) (.set (.d _) (.set (.d _) (.set (.d _) (.set (.d _) (.set (.d _) zai.none))))) zal.at
 dsimp only[zli]
 try simp only[go_sem]
 cases h
 rfl
noncomputable def zJq (a0:Forest) (a1:Int):Option (Int):=
 (dec (eT2 zaj D.bool) (pc prog 187 [zam a0,.int .i64 a1])).bind fun r1=>
 some r1.1.kind
theorem zJr (a0:Forest) (a1:Int) (r:Int) (h:zJq a0 a1=some r):pc prog 189 [zam a0,.int .i64 a1]=some ((D.int .u8) r):=by
 unfold zJq at h
 refine zbk (fn:=zHM) rfl rfl ?_
 delta zHM
 try simp only[go_sem]
 obtain⟨r1,hr2,h⟩:=bs h
 replace hr2:=zaq hr2
 refine zat hr2 ?_
 try simp only[go_sem]
 cases h
 rfl
def zfg (a0:Forest) (a1:Int) (a2:Node) (x0:List (Int×Int)×Int):St:=⟨(((((((Regs.none.set 1 (.d (.int .i64 a1))).set 3 (.ptr 0 0 0)).set 5 (.ptr 1 0 0)).set 7 (.map 3)).set 14 (.d (.list a2.kids.n (a2.kids.l.map (D.int .i64))))).set 15 (.d (.int .i64 (a2.kids.l.length:Int)))).set 16 (.d (.int .i64 x0.2))),((((Heap.at 9).set 0 (some (.els 1 [.d (zam a0)] 0))).set 1 (some (.els 16 [.d (zaj a2)] 0))).set 3 (some (.map (ents (D.int .i64) (fun z=>V.d ((D.int .i64) z)) x0.1 0) x0.1.length)))⟩
def ziq (a0:Forest) (a1:Int) (a2:Node):((Unit)⊕(Unit))→Ex×St:=fun r=>match r with
 |(.inl r)=>(.exit 0,⟨((Regs.none.set 3 (.ptr 0 0 0)).set 5 (.ptr 1 0 0)),(((Heap.at 9).set 0 (some (.els 1 [.d (zam a0)] 0))).set 1 (some (.els 16 [.d (zaj a2)] 0)))⟩)
 |(.inr r)=>(.ret,⟨(Regs.none.set 6 (.d (.bool false))),(Heap.at 9)⟩)
noncomputable def zdy (a0:Forest) (a1:Int) (a2:Node) (x0:List (Int×Int)×Int):Option ((List (Int×Int)×Int)⊕((Unit)⊕(Unit))):=
 if(decide (x0.2<(a2.kids.l.length:Int)))=true then
  (rd a2.kids.l x0.2).bind fun y3=>
  (dec (eT2 zaj D.bool) (pc prog 187 [zam a0,.int .i64 y3])).bind fun r5=>
  if r5.2=true then
   if(bif (bif (decide (0<(zje y3 x0.1 (0))))then true else(!(r5.1.parent==a1)))then true else(!(r5.1.doc==a2.doc)))=true then
    some (.inr (.inr ()))
   else
    some (.inl ((zhH y3 (IntKind.wrap .i64 ((zje y3 x0.1 (0))+1)) x0.1),(IntKind.wrap .i64 (x0.2+1))))
  else
   some (.inr (.inr ()))
 else
  some (.inr (.inl ()))
theorem zwC (a0:Forest) (a1:Int) (a2:Node) (x0:List (Int×Int)×Int) (o:(List (Int×Int)×Int)⊕((Unit)⊕(Unit))) (h:zdy a0 a1 a2 x0=some o):Wp prog zpZ (zfg a0 a1 a2 x0) (zbK (0,[]) (zfg a0 a1 a2) (ziq a0 a1 a2) o):=by
 unfold zdy at h
 delta zpZ zfg
 try simp only[go_sem]
 refine zag (fun hc1=> ?_) (fun hc2=> ?_)
 ·rw[if_pos hc1]at h
  try simp only[go_sem,zaC (e:=(D.int .i64)) (ev:=(D.int .i64)) zao,zaD (e:=(D.int .i64)) (ev:=(D.int .i64)) zao,zax (e:=(D.int .i64)) (ev:=(D.int .i64)) zao,zaE (e:=(D.int .i64)) (ev:=(D.int .i64)) zao,zaF (e:=(D.int .i64)) (ev:=(D.int .i64))]
  obtain⟨y3,hy4,h⟩:=bs h
  try simp only[go_sem,zaC (e:=(D.int .i64)) (ev:=(D.int .i64)) zao,zaD (e:=(D.int .i64)) (ev:=(D.int .i64)) zao,zax (e:=(D.int .i64)) (ev:=(D.int .i64)) zao,zaE (e:=(D.int .i64)) (ev:=(D.int .i64)) zao,zaF (e:=(D.int .i64)) (ev:=(D.int .i64)),zab hy4,zad hy4,zac (D.int .i64) hy4]
  obtain⟨r5,hr6,h⟩:=bs h
  replace hr6:=zaq hr6
  refine zat hr6 ?_
  try simp only[go_sem,zaC (e:=(D.int .i64)) (ev:=(D.int .i64)) zao,zaD (e:=(D.int .i64)) (ev:=(D.int .i64)) zao,zax (e:=(D.int .i64)) (ev:=(D.int .i64)) zao,zaE (e:=(D.int .i64)) (ev:=(D.int .i64)) zao,zaF (e:=(D.int .i64)) (ev:=(D.int .i64)),zab hy4,zad hy4,zac (D.int .i64) hy4]
  refine zaA (fun hc7=> ?_) (fun hc8=> ?_)
  ·rw[if_pos hc7]at h
   try simp only[go_sem,zaC (e:=(D.int .i64)) (ev:=(D.int .i64)) zao,zaD (e:=(D.int .i64)) (ev:=(D.int .i64)) zao,zax (e:=(D.int .i64)) (ev:=(D.int .i64)) zao,zaE (e:=(D.int .i64)) (ev:=(D.int .i64)) zao,zaF (e:=(D.int .i64)) (ev:=(D.int .i64)),zab hy4,zad hy4,zac (D.int .i64) hy4,hc7]
   refine zaa (v:= .ptr 19 0 8) (fun hb19=>by simp only[go_sem,zaC (e:=(D.int .i64)) (ev:=(D.int .i64)) zao,zaD (e:=(D.int .i64)) (ev:=(D.int .i64)) zao,zax (e:=(D.int .i64)) (ev:=(D.int .i64)) zao,zaE (e:=(D.int .i64)) (ev:=(D.int .i64)) zao,zaF (e:=(D.int .i64)) (ev:=(D.int .i64)),zab hy4,zad hy4,zac (D.int .i64) hy4,hc1,hc7,hb19]) ?_
   try simp only[go_sem,zaC (e:=(D.int .i64)) (ev:=(D.int .i64)) zao,zaD (e:=(D.int .i64)) (ev:=(D.int .i64)) zao,zax (e:=(D.int .i64)) (ev:=(D.int .i64)) zao,zaE (e:=(D.int .i64)) (ev:=(D.int .i64)) zao,zaF (e:=(D.int .i64)) (ev:=(D.int .i64)),zab hy4,zad hy4,zac (D.int .i64) hy4]
   refine zaa (v:= .d (.int .i64 r5.1.parent)) (fun hb18=>by simp only[go_sem,zaC (e:=(D.int .i64)) (ev:=(D.int .i64)) zao,zaD (e:=(D.int .i64)) (ev:=(D.int .i64)) zao,zax (e:=(D.int .i64)) (ev:=(D.int .i64)) zao,zaE (e:=(D.int .i64)) (ev:=(D.int .i64)) zao,zaF (e:=(D.int .i64)) (ev:=(D.int .i64)),zab hy4,zad hy4,zac (D.int .i64) hy4,hc1,hc7,hb18]) ?_
   try simp only[go_sem,zaC (e:=(D.int .i64)) (ev:=(D.int .i64)) zao,zaD (e:=(D.int .i64)) (ev:=(D.int .i64)) zao,zax (e:=(D.int .i64)) (ev:=(D.int .i64)) zao,zaE (e:=(D.int .i64)) (ev:=(D.int .i64)) zao,zaF (e:=(D.int .i64)) (ev:=(D.int .i64)),zab hy4,zad hy4,zac (D.int .i64) hy4]
   refine zaa (v:= .d (.int .i64 a1)) (fun hb17=>by simp only[go_sem,zaC (e:=(D.int .i64)) (ev:=(D.int .i64)) zao,zaD (e:=(D.int .i64)) (ev:=(D.int .i64)) zao,zax (e:=(D.int .i64)) (ev:=(D.int .i64)) zao,zaE (e:=(D.int .i64)) (ev:=(D.int .i64)) zao,zaF (e:=(D.int .i64)) (ev:=(D.int .i64)),zab hy4,zad hy4,zac (D.int .i64) hy4,hc1,hc7,hb17]) ?_
   try simp only[go_sem,zaC (e:=(D.int .i64)) (ev:=(D.int .i64)) zao,zaD (e:=(D.int .i64)) (ev:=(D.int .i64)) zao,zax (e:=(D.int .i64)) (ev:=(D.int .i64)) zao,zaE (e:=(D.int .i64)) (ev:=(D.int .i64)) zao,zaF (e:=(D.int .i64)) (ev:=(D.int .i64)),zab hy4,zad hy4,zac (D.int .i64) hy4]
   refine zaa (v:= .d (.bool (!(r5.1.parent==a1)))) (fun hb16=>by simp only[go_sem,zaC (e:=(D.int .i64)) (ev:=(D.int .i64)) zao,zaD (e:=(D.int .i64)) (ev:=(D.int .i64)) zao,zax (e:=(D.int .i64)) (ev:=(D.int .i64)) zao,zaE (e:=(D.int .i64)) (ev:=(D.int .i64)) zao,zaF (e:=(D.int .i64)) (ev:=(D.int .i64)),zab hy4,zad hy4,zac (D.int .i64) hy4,hc1,hc7,hb16]) ?_
   try simp only[go_sem,zaC (e:=(D.int .i64)) (ev:=(D.int .i64)) zao,zaD (e:=(D.int .i64)) (ev:=(D.int .i64)) zao,zax (e:=(D.int .i64)) (ev:=(D.int .i64)) zao,zaE (e:=(D.int .i64)) (ev:=(D.int .i64)) zao,zaF (e:=(D.int .i64)) (ev:=(D.int .i64)),zab hy4,zad hy4,zac (D.int .i64) hy4]
   refine zaa (v:= .ptr 19 0 10) (fun hb15=>by simp only[go_sem,zaC (e:=(D.int .i64)) (ev:=(D.int .i64)) zao,zaD (e:=(D.int .i64)) (ev:=(D.int .i64)) zao,zax (e:=(D.int .i64)) (ev:=(D.int .i64)) zao,zaE (e:=(D.int .i64)) (ev:=(D.int .i64)) zao,zaF (e:=(D.int .i64)) (ev:=(D.int .i64)),zab hy4,zad hy4,zac (D.int .i64) hy4,hc1,hc7,hb15]) ?_
   try simp only[go_sem,zaC (e:=(D.int .i64)) (ev:=(D.int .i64)) zao,zaD (e:=(D.int .i64)) (ev:=(D.int .i64)) zao,zax (e:=(D.int .i64)) (ev:=(D.int .i64)) zao,zaE (e:=(D.int .i64)) (ev:=(D.int .i64)) zao,zaF (e:=(D.int .i64)) (ev:=(D.int .i64)),zab hy4,zad hy4,zac (D.int .i64) hy4]
   refine zaa (v:= .d (.int .i64 r5.1.doc)) (fun hb14=>by simp only[go_sem,zaC (e:=(D.int .i64)) (ev:=(D.int .i64)) zao,zaD (e:=(D.int .i64)) (ev:=(D.int .i64)) zao,zax (e:=(D.int .i64)) (ev:=(D.int .i64)) zao,zaE (e:=(D.int .i64)) (ev:=(D.int .i64)) zao,zaF (e:=(D.int .i64)) (ev:=(D.int .i64)),zab hy4,zad hy4,zac (D.int .i64) hy4,hc1,hc7,hb14]) ?_
   try simp only[go_sem,zaC (e:=(D.int .i64)) (ev:=(D.int .i64)) zao,zaD (e:=(D.int .i64)) (ev:=(D.int .i64)) zao,zax (e:=(D.int .i64)) (ev:=(D.int .i64)) zao,zaE (e:=(D.int .i64)) (ev:=(D.int .i64)) zao,zaF (e:=(D.int .i64)) (ev:=(D.int .i64)),zab hy4,zad hy4,zac (D.int .i64) hy4]
   refine zaa (v:= .ptr 1 0 10) (fun hb13=>by simp only[go_sem,zaC (e:=(D.int .i64)) (ev:=(D.int .i64)) zao,zaD (e:=(D.int .i64)) (ev:=(D.int .i64)) zao,zax (e:=(D.int .i64)) (ev:=(D.int .i64)) zao,zaE (e:=(D.int .i64)) (ev:=(D.int .i64)) zao,zaF (e:=(D.int .i64)) (ev:=(D.int .i64)),zab hy4,zad hy4,zac (D.int .i64) hy4,hc1,hc7,hb13]) ?_
   try simp only[go_sem,zaC (e:=(D.int .i64)) (ev:=(D.int .i64)) zao,zaD (e:=(D.int .i64)) (ev:=(D.int .i64)) zao,zax (e:=(D.int .i64)) (ev:=(D.int .i64)) zao,zaE (e:=(D.int .i64)) (ev:=(D.int .i64)) zao,zaF (e:=(D.int .i64)) (ev:=(D.int .i64)),zab hy4,zad hy4,zac (D.int .i64) hy4]
   refine zaa (v:= .d (.int .i64 a2.doc)) (fun hb12=>by simp only[go_sem,zaC (e:=(D.int .i64)) (ev:=(D.int .i64)) zao,zaD (e:=(D.int .i64)) (ev:=(D.int .i64)) zao,zax (e:=(D.int .i64)) (ev:=(D.int .i64)) zao,zaE (e:=(D.int .i64)) (ev:=(D.int .i64)) zao,zaF (e:=(D.int .i64)) (ev:=(D.int .i64)),zab hy4,zad hy4,zac (D.int .i64) hy4,hc1,hc7,hb12]) ?_
   try simp only[go_sem,zaC (e:=(D.int .i64)) (ev:=(D.int .i64)) zao,zaD (e:=(D.int .i64)) (ev:=(D.int .i64)) zao,zax (e:=(D.int .i64)) (ev:=(D.int .i64)) zao,zaE (e:=(D.int .i64)) (ev:=(D.int .i64)) zao,zaF (e:=(D.int .i64)) (ev:=(D.int .i64)),zab hy4,zad hy4,zac (D.int .i64) hy4]
   refine zaa (v:= .d (.bool (!(r5.1.doc==a2.doc)))) (fun hb11=>by simp only[go_sem,zaC (e:=(D.int .i64)) (ev:=(D.int .i64)) zao,zaD (e:=(D.int .i64)) (ev:=(D.int .i64)) zao,zax (e:=(D.int .i64)) (ev:=(D.int .i64)) zao,zaE (e:=(D.int .i64)) (ev:=(D.int .i64)) zao,zaF (e:=(D.int .i64)) (ev:=(D.int .i64)),zab hy4,zad hy4,zac (D.int .i64) hy4,hc1,hc7,hb11]) ?_
   try simp only[go_sem,zaC (e:=(D.int .i64)) (ev:=(D.int .i64)) zao,zaD (e:=(D.int .i64)) (ev:=(D.int .i64)) zao,zax (e:=(D.int .i64)) (ev:=(D.int .i64)) zao,zaE (e:=(D.int .i64)) (ev:=(D.int .i64)) zao,zaF (e:=(D.int .i64)) (ev:=(D.int .i64)),zab hy4,zad hy4,zac (D.int .i64) hy4]
   refine zag (fun hc9=> ?_) (fun hc10=> ?_)
   ·rw[if_pos hc9]at h
    try simp only[go_sem,zaC (e:=(D.int .i64)) (ev:=(D.int .i64)) zao,zaD (e:=(D.int .i64)) (ev:=(D.int .i64)) zao,zax (e:=(D.int .i64)) (ev:=(D.int .i64)) zao,zaE (e:=(D.int .i64)) (ev:=(D.int .i64)) zao,zaF (e:=(D.int .i64)) (ev:=(D.int .i64)),zab hy4,zad hy4,zac (D.int .i64) hy4]
    cases h
    exact⟨rfl,by simp,Up.of (N:=9) (N':=44) [] rfl rfl (by decide) (.set (.d _) zai.none) zal.at⟩
   rw[if_neg (ff hc10)]at h
   try simp only[go_sem,zaC (e:=(D.int .i64)) (ev:=(D.int .i64)) zao,zaD (e:=(D.int .i64)) (ev:=(D.int .i64)) zao,zax (e:=(D.int .i64)) (ev:=(D.int .i64)) zao,zaE (e:=(D.int .i64)) (ev:=(D.int .i64)) zao,zaF (e:=(D.int .i64)) (ev:=(D.int .i64)),zab hy4,zad hy4,zac (D.int .i64) hy4]
   cases h
   exact⟨rfl,Up.of (N:=9) (N':=50) [] rfl rfl (by decide) (.set (.d _) (.set (.d _) (.set (.d _) (.set (.map' rfl) (.set (.ptr' rfl) (.set (.ptr' rfl) (.set (.d _) zai.none))))))) (.set zau.map_d (.set zau.refl_d (.set zau.refl_d zal.at)))⟩
  rw[if_neg (ff hc8)]at h
  try simp only[go_sem,zaC (e:=(D.int .i64)) (ev:=(D.int .i64)) zao,zaD (e:=(D.int .i64)) (ev:=(D.int .i64)) zao,zax (e:=(D.int .i64)) (ev:=(D.int .i64)) zao,zaE (e:=(D.int .i64)) (ev:=(D.int .i64)) zao,zaF (e:=(D.int .i64)) (ev:=(D.int .i64)),zab hy4,zad hy4,zac (D.int .i64) hy4,hc8]
  cases h
  exact⟨rfl,by simp,Up.of (N:=9) (N':=44) [] rfl rfl (by decide) (.set (.d _) zai.none) zal.at⟩
 rw[if_neg (ff hc2)]at h
 try simp only[go_sem,zaC (e:=(D.int .i64)) (ev:=(D.int .i64)) zao,zaD (e:=(D.int .i64)) (ev:=(D.int .i64)) zao,zax (e:=(D.int .i64)) (ev:=(D.int .i64)) zao,zaE (e:=(D.int .i64)) (ev:=(D.int .i64)) zao,zaF (e:=(D.int .i64)) (ev:=(D.int .i64))]
 cases h
 exact⟨rfl,by simp,Up.of (N:=9) (N':=10) [] rfl rfl (by decide) (.set (.ptr' rfl) (.set (.ptr' rfl) zai.none)) (.set zau.refl_d (.set zau.refl_d zal.at))⟩
noncomputable def zJs (a0:Forest) (a1:Int) (a2:Node):Option (Bool):=
 (zaR (zdy a0 a1 a2) ([],0)).bind fun r20=>
 match r20 with
 |(.inl q22)=>
  (dec D.bool (pc prog 205 [zam a0,zaj a2])).bind fun r23=>
  some r23
 |(.inr q25)=>
  some false
theorem zJt (a0:Forest) (a1:Int) (a2:Node) (r:Bool) (h:zJs a0 a1 a2=some r):pc prog 190 [zam a0,.int .i64 a1,zaj a2]=some (D.bool r):=by
 unfold zJs at h
 refine zbk (fn:=zHN) rfl rfl ?_
 delta zHN
 try simp only[go_sem]
 obtain⟨r20,hl21,h⟩:=bs h
 refine Wp.loopR zba (n:=(0,[])) (a:=zpZ) rfl (zfg a0 a1 a2) (ziq a0 a1 a2) (zwC a0 a1 a2) hl21 ?_ (by(repeat(first|refine Clo.block ?_|refine Clo.seq zba rfl ?_));(exact Clo.ret)) ?_
 ·show Up (0,[]) (zfg a0 a1 a2 ([],0)) _
  delta zfg
  exact Up.of (N:=9) (N':=9) [] rfl rfl (by decide) (.set (.d _) (.set (.d _) (.set (.d _) (.set (.map' rfl) (.set (.ptr' rfl) (.set (.ptr' rfl) (.set (.d _) zai.none))))))) (.set zau.map_d (.set zau.refl_d (.set zau.refl_d zal.at)))
 rcases r20 with(q22|q25)
 ·dsimp only at h
  dsimp only[ziq]
  try simp only[go_sem]
  obtain⟨r23,hr24,h⟩:=bs h
  replace hr24:=zaq hr24
  refine zat hr24 ?_
  try simp only[go_sem]
  cases h
  rfl
 dsimp only at h
 dsimp only[ziq]
 try simp only[go_sem]
 cases h
 rfl
noncomputable def zJu (a0:Int):Option (Bool):=
 (dec D.bool (pc prog 194 [.int .u8 a0])).bind fun r1=>
 if(!r1)=true then
  (dec D.bool (pc prog 195 [.int .u8 a0])).bind fun r5=>
  some (bif r5 then true else(a0==10))
 else
  some true
theorem zJv (a0:Int) (r:Bool) (h:zJu a0=some r):pc prog 191 [.int .u8 a0]=some (D.bool r):=by
 unfold zJu at h
 refine zbk (fn:=zHO) rfl rfl ?_
 delta zHO
 try simp only[go_sem]
 obtain⟨r1,hr2,h⟩:=bs h
 replace hr2:=zaq hr2
 refine zat hr2 ?_
 try simp only[go_sem]
 refine zaa (v:= .d (.int .u8 a0)) (fun hb9=>by simp only[go_sem,hb9]) ?_
 try simp only[go_sem]
 refine zaw (fun hc3=> ?_) (fun hc4=> ?_)
 ·rw[if_pos (show(!r1)=true by(rw[hc3];rfl))]at h
  try simp only[go_sem,hc3]
  obtain⟨r5,hr6,h⟩:=bs h
  replace hr6:=zaq hr6
  refine zat hr6 ?_
  try simp only[go_sem]
  refine zaa (v:= .d (.int .u8 a0)) (fun hb8=>by simp only[go_sem,hc3,hb8]) ?_
  try simp only[go_sem]
  refine zaa (v:= .d (.bool (a0==10))) (fun hb7=>by simp only[go_sem,hc3,hb7]) ?_
  try simp only[go_sem]
  cases h
  rfl
 rw[if_neg (ffn hc4)]at h
 try simp only[go_sem,hc4]
 cases h
 rfl
def zfh (a0:Sl (Attr)) (x0:Int):St:=⟨((((Regs.none.set 0 (.d (.list a0.n (a0.l.map zaL)))).set 8 (.d (.list a0.n (a0.l.map zaL)))).set 9 (.d (.int .i64 (a0.l.length:Int)))).set 10 (.d (.int .i64 x0))),(Heap.at 7)⟩
def zir (a0:Sl (Attr)):((Unit)⊕(Unit))→Ex×St:=fun r=>match r with
 |(.inl r)=>(.exit 0,⟨Regs.none,(Heap.at 7)⟩)
 |(.inr r)=>(.ret,⟨(Regs.none.set 2 (.d (.bool false))),(Heap.at 7)⟩)
noncomputable def zdz (a0:Sl (Attr)) (x0:Int):Option ((Int)⊕((Unit)⊕(Unit))):=
 if(decide (x0<(a0.l.length:Int)))=true then
  (rd a0.l x0).bind fun y5=>
  (dec D.bool (pc prog 193 [zbR y5.name])).bind fun r7=>
  if(!(bif (!r7)then true else(decide (4096<(y5.value.length:Int)))))=true then
   (cut a0.l (0) x0).bind fun y11=>
   (dec (D.int .i64) (pc prog 206 [.list a0.n (y11.map zaL),zbR y5.name])).bind fun r13=>
   if(decide (0≤r13))=true then
    some (.inr (.inr ()))
   else
    some (.inl (IntKind.wrap .i64 (x0+1)))
  else
   some (.inr (.inr ()))
 else
  some (.inr (.inl ()))
theorem zwD (a0:Sl (Attr)) (x0:Int) (o:(Int)⊕((Unit)⊕(Unit))) (h:zdz a0 x0=some o):Wp prog zqa (zfh a0 x0) (zbK (0,[]) (zfh a0) (zir a0) o):=by
 unfold zdz at h
 delta zqa zfh
 try simp only[go_sem]
 refine zag (fun hc3=> ?_) (fun hc4=> ?_)
 ·rw[if_pos hc3]at h
  try simp only[go_sem]
  obtain⟨y5,hy6,h⟩:=bs h
  try simp only[go_sem,zab hy6,zad hy6,zac zaL hy6]
  obtain⟨r7,hr8,h⟩:=bs h
  replace hr8:=zaq hr8
  refine zat hr8 ?_
  try simp only[go_sem,zab hy6,zad hy6,zac zaL hy6]
  refine zaa (v:= .ptr 11 0 3) (fun hb22=>by simp only[go_sem,zab hy6,zad hy6,zac zaL hy6,hc3,hb22]) ?_
  try simp only[go_sem,zab hy6,zad hy6,zac zaL hy6]
  refine zaa (v:= .d (.str y5.value)) (fun hb21=>by simp only[go_sem,zab hy6,zad hy6,zac zaL hy6,hc3,hb21]) ?_
  try simp only[go_sem,zab hy6,zad hy6,zac zaL hy6]
  refine zaa (v:= .d (.int .i64 (y5.value.length:Int))) (fun hb20=>by simp only[go_sem,zab hy6,zad hy6,zac zaL hy6,hc3,hb20]) ?_
  try simp only[go_sem,zab hy6,zad hy6,zac zaL hy6]
  refine zaa (v:= .d (.bool (decide (4096<(y5.value.length:Int))))) (fun hb19=>by simp only[go_sem,zab hy6,zad hy6,zac zaL hy6,hc3,hb19]) ?_
  try simp only[go_sem,zab hy6,zad hy6,zac zaL hy6]
  refine zaa (v:= .d (.list a0.n (a0.l.map zaL))) (fun hb18=>by simp only[go_sem,zab hy6,zad hy6,zac zaL hy6,hc3,hb18]) ?_
  try simp only[go_sem,zab hy6,zad hy6,zac zaL hy6]
  refine zaa (v:= .d (.int .i64 x0)) (fun hb17=>by simp only[go_sem,zab hy6,zad hy6,zac zaL hy6,hc3,hb17]) ?_
  try simp only[go_sem,zab hy6,zad hy6,zac zaL hy6]
  refine zaw (fun hc9=> ?_) (fun hc10=> ?_)
  ·rw[if_pos (show(!(bif (!r7)then true else(decide (4096<(y5.value.length:Int)))))=true by(rw[hc9];rfl))]at h
   try simp only[go_sem,zab hy6,zad hy6,zac zaL hy6,hc9]
   obtain⟨y11,hy12,h⟩:=bs h
   refine zke (e:=zaL) (n:=a0.n) (l:=a0.l) (sz:=4) (lo:=none) (hi:=(some x0)) (by simp only[go_sem,zab hy6,zad hy6,zac zaL hy6,zxj];done) (by decide) (fun _=>rfl) hy12 ?_
   try simp only[go_sem,zab hy6,zad hy6,zac zaL hy6]
   obtain⟨r13,hr14,h⟩:=bs h
   replace hr14:=zaq hr14
   refine zat hr14 ?_
   try simp only[go_sem,zab hy6,zad hy6,zac zaL hy6]
   refine zag (fun hc15=> ?_) (fun hc16=> ?_)
   ·rw[if_pos hc15]at h
    try simp only[go_sem,zab hy6,zad hy6,zac zaL hy6]
    cases h
    exact⟨rfl,by simp,Up.of (N:=7) (N':=34) [] rfl rfl (by decide) (.set (.d _) zai.none) zal.at⟩
   rw[if_neg (ff hc16)]at h
   try simp only[go_sem,zab hy6,zad hy6,zac zaL hy6]
   cases h
   exact⟨rfl,Up.of (N:=7) (N':=35) [] rfl rfl (by decide) (.set (.d _) (.set (.d _) (.set (.d _) (.set (.d _) zai.none)))) zal.at⟩
  rw[if_neg (ffn hc10)]at h
  try simp only[go_sem,zab hy6,zad hy6,zac zaL hy6,hc10]
  cases h
  exact⟨rfl,by simp,Up.of (N:=7) (N':=34) [] rfl rfl (by decide) (.set (.d _) zai.none) zal.at⟩
 rw[if_neg (ff hc4)]at h
 try simp only[go_sem]
 cases h
 exact⟨rfl,by simp,Up.of (N:=7) (N':=8) [] rfl rfl (by decide) zai.none zal.at⟩
noncomputable def zJw (a0:Sl (Attr)):Option (Bool):=
 if(decide (64<(a0.l.length:Int)))=true then
  some false
 else
  (zaR (zdz a0) 0).bind fun r23=>
  match r23 with
  |(.inl q25)=>
   some true
  |(.inr q26)=>
   some false
theorem zJx (a0:Sl (Attr)) (r:Bool) (h:zJw a0=some r):pc prog 192 [.list a0.n (a0.l.map zaL)]=some (D.bool r):=by
 unfold zJw at h
 refine zbk (fn:=zHP) rfl rfl ?_
 delta zHP
 try simp only[go_sem]
 refine zag (fun hc1=> ?_) (fun hc2=> ?_)
 ·rw[if_pos hc1]at h
  try simp only[go_sem]
  cases h
  rfl
 rw[if_neg (ff hc2)]at h
 try simp only[go_sem]
 obtain⟨r23,hl24,h⟩:=bs h
 refine Wp.loopR zba (n:=(0,[])) (a:=zqa) rfl (zfh a0) (zir a0) (zwD a0) hl24 ?_ (by(repeat(first|refine Clo.block ?_|refine Clo.seq zba rfl ?_));(exact Clo.ret)) ?_
 ·show Up (0,[]) (zfh a0 0) _
  delta zfh
  exact Up.of (N:=7) (N':=7) [] rfl rfl (by decide) (.set (.d _) (.set (.d _) (.set (.d _) (.set (.d _) zai.none)))) zal.at
 rcases r23 with(q25|q26)
 ·dsimp only at h
  dsimp only[zir]
  try simp only[go_sem]
  cases h
  rfl
 dsimp only at h
 dsimp only[zir]
 try simp only[go_sem]
 cases h
 rfl
noncomputable def zJy (a0:Name):Option (Bool):=
 if(bif (bif (bif (!(a0.local_==[]))then(decide ((a0.space.length:Int)≤1024))else false)then(decide ((a0.prefix_.length:Int)≤1024))else false)then(decide ((a0.local_.length:Int)≤1024))else false)=true then
  some (bif (a0.prefix_==[])then true else(!(a0.space==[])))
 else
  some false
theorem zJz (a0:Name) (r:Bool) (h:zJy a0=some r):pc prog 193 [zbR a0]=some (D.bool r):=by
 unfold zJy at h
 refine zbk (fn:=zHQ) rfl rfl ?_
 delta zHQ
 try simp only[go_sem]
 refine zaa (v:= .ptr 0 0 0) (fun hb27=>by simp only[go_sem,hb27]) ?_
 try simp only[go_sem]
 refine zaa (v:= .d (.str a0.space)) (fun hb26=>by simp only[go_sem,hb26]) ?_
 try simp only[go_sem]
 refine zaa (v:= .d (.int .i64 (a0.space.length:Int))) (fun hb25=>by simp only[go_sem,hb25]) ?_
 try simp only[go_sem]
 refine zaa (v:= .d (.bool (decide ((a0.space.length:Int)≤1024)))) (fun hb24=>by simp only[go_sem,hb24]) ?_
 try simp only[go_sem]
 refine zaa (v:= .ptr 0 0 1) (fun hb23=>by simp only[go_sem,hb23]) ?_
 try simp only[go_sem]
 refine zaa (v:= .d (.str a0.prefix_)) (fun hb22=>by simp only[go_sem,hb22]) ?_
 try simp only[go_sem]
 refine zaa (v:= .d (.int .i64 (a0.prefix_.length:Int))) (fun hb21=>by simp only[go_sem,hb21]) ?_
 try simp only[go_sem]
 refine zaa (v:= .d (.bool (decide ((a0.prefix_.length:Int)≤1024)))) (fun hb20=>by simp only[go_sem,hb20]) ?_
 try simp only[go_sem]
 refine zaa (v:= .ptr 0 0 2) (fun hb19=>by simp only[go_sem,hb19]) ?_
 try simp only[go_sem]
 refine zaa (v:= .d (.str a0.local_)) (fun hb18=>by simp only[go_sem,hb18]) ?_
 try simp only[go_sem]
 refine zaa (v:= .d (.int .i64 (a0.local_.length:Int))) (fun hb17=>by simp only[go_sem,hb17]) ?_
 try simp only[go_sem]
 refine zaa (v:= .d (.bool (decide ((a0.local_.length:Int)≤1024)))) (fun hb16=>by simp only[go_sem,hb16]) ?_
 try simp only[go_sem]
 refine zaa (v:= .ptr 0 0 1) (fun hb15=>by simp only[go_sem,hb15]) ?_
 try simp only[go_sem]
 refine zaa (v:= .d (.str a0.prefix_)) (fun hb14=>by simp only[go_sem,hb14]) ?_
 try simp only[go_sem]
 refine zaa (v:= .d (.bool (a0.prefix_==[]))) (fun hb13=>by simp only[go_sem,hb13]) ?_
 try simp only[go_sem]
 refine zaa (v:= .d (.bool (a0.prefix_==[]))) (fun hb12=>by simp only[go_sem,hb12]) ?_
 try simp only[go_sem]
 refine zaa (v:= .ptr 0 0 0) (fun hb9=>by((obtain⟨hb10,hb11⟩:=zay hb9));simp only[go_sem,hb11,hb10]) ?_
 try simp only[go_sem]
 refine zaa (v:= .d (.str a0.space)) (fun hb6=>by((obtain⟨hb7,hb8⟩:=zay hb6));simp only[go_sem,hb8,hb7]) ?_
 try simp only[go_sem]
 refine zaa (v:= .d (.bool (!(a0.space==[])))) (fun hb3=>by((obtain⟨hb4,hb5⟩:=zay hb3));simp only[go_sem,hb5,hb4]) ?_
 try simp only[go_sem]
 refine zaA (fun hc1=> ?_) (fun hc2=> ?_)
 ·rw[if_pos hc1]at h
  try simp only[go_sem,hc1]
  cases h
  rfl
 rw[if_neg (ff hc2)]at h
 try simp only[go_sem,hc2]
 cases h
 rfl
noncomputable def zJA (a0:Int):Option (Bool):=
 some (bif (bif (bif (a0==3)then true else(a0==4))then true else(a0==7))then true else(a0==8))
theorem zJB (a0:Int) (r:Bool) (h:zJA a0=some r):pc prog 194 [.int .u8 a0]=some (D.bool r):=by
 unfold zJA at h
 refine zbk (fn:=zHR) rfl rfl ?_
 delta zHR
 try simp only[go_sem]
 refine zaa (v:= .d (.int .u8 a0)) (fun hb6=>by simp only[go_sem,hb6]) ?_
 try simp only[go_sem]
 refine zaa (v:= .d (.bool (a0==4))) (fun hb5=>by simp only[go_sem,hb5]) ?_
 try simp only[go_sem]
 refine zaa (v:= .d (.int .u8 a0)) (fun hb4=>by simp only[go_sem,hb4]) ?_
 try simp only[go_sem]
 refine zaa (v:= .d (.bool (a0==7))) (fun hb3=>by simp only[go_sem,hb3]) ?_
 try simp only[go_sem]
 refine zaa (v:= .d (.int .u8 a0)) (fun hb2=>by simp only[go_sem,hb2]) ?_
 try simp only[go_sem]
 refine zaa (v:= .d (.bool (a0==8))) (fun hb1=>by simp only[go_sem,hb1]) ?_
 try simp only[go_sem]
 cases h
 rfl
noncomputable def zJC (a0:Int):Option (Bool):=
 some (bif (bif (bif (a0==1)then true else(a0==9))then true else(a0==11))then true else(a0==12))
theorem zJD (a0:Int) (r:Bool) (h:zJC a0=some r):pc prog 195 [.int .u8 a0]=some (D.bool r):=by
 unfold zJC at h
 refine zbk (fn:=zHS) rfl rfl ?_
 delta zHS
 try simp only[go_sem]
 refine zaa (v:= .d (.int .u8 a0)) (fun hb6=>by simp only[go_sem,hb6]) ?_
 try simp only[go_sem]
 refine zaa (v:= .d (.bool (a0==9))) (fun hb5=>by simp only[go_sem,hb5]) ?_
 try simp only[go_sem]
 refine zaa (v:= .d (.int .u8 a0)) (fun hb4=>by simp only[go_sem,hb4]) ?_
 try simp only[go_sem]
 refine zaa (v:= .d (.bool (a0==11))) (fun hb3=>by simp only[go_sem,hb3]) ?_
 try simp only[go_sem]
 refine zaa (v:= .d (.int .u8 a0)) (fun hb2=>by simp only[go_sem,hb2]) ?_
 try simp only[go_sem]
 refine zaa (v:= .d (.bool (a0==12))) (fun hb1=>by simp only[go_sem,hb1]) ?_
 try simp only[go_sem]
 cases h
 rfl
def zfi (a0:Sl (Int)) (a1:Int) (x0:Int×Int):St:=⟨(((((Regs.none.set 1 (.d (.int .i64 a1))).set 5 (.d (.int .i64 x0.2))).set 8 (.d (.list a0.n (a0.l.map (D.int .i64))))).set 9 (.d (.int .i64 (a0.l.length:Int)))).set 10 (.d (.int .i64 x0.1))),(Heap.at 5)⟩
def zlj (a0:Sl (Int)) (a1:Int):((Int))→Ex×St:=fun r=>(.exit 0,⟨(Regs.none.set 5 (.d (.int .i64 r))),(Heap.at 5)⟩)
noncomputable def zdA (a0:Sl (Int)) (a1:Int) (x0:Int×Int):Option ((Int×Int)⊕((Int))):=
 if(decide (x0.1<(a0.l.length:Int)))=true then
  (rd a0.l x0.1).bind fun y3=>
  if(y3==a1)=true then
   some (.inl ((IntKind.wrap .i64 (x0.1+1)),(IntKind.wrap .i64 (x0.2+1))))
  else
   some (.inl ((IntKind.wrap .i64 (x0.1+1)),x0.2))
 else
  some (.inr x0.2)
theorem zwE (a0:Sl (Int)) (a1:Int) (x0:Int×Int) (o:(Int×Int)⊕((Int))) (h:zdA a0 a1 x0=some o):Wp prog zqb (zfi a0 a1 x0) (zbK (0,[]) (zfi a0 a1) (zlj a0 a1) o):=by
 unfold zdA at h
 delta zqb zfi
 try simp only[go_sem]
 refine zag (fun hc1=> ?_) (fun hc2=> ?_)
 ·rw[if_pos hc1]at h
  try simp only[go_sem]
  obtain⟨y3,hy4,h⟩:=bs h
  try simp only[go_sem,zab hy4,zad hy4,zac (D.int .i64) hy4]
  refine zag (fun hc5=> ?_) (fun hc6=> ?_)
  ·rw[if_pos hc5]at h
   try simp only[go_sem,zab hy4,zad hy4,zac (D.int .i64) hy4]
   cases h
   exact⟨rfl,Up.of (N:=5) (N':=17) [] rfl rfl (by decide) (.set (.d _) (.set (.d _) (.set (.d _) (.set (.d _) (.set (.d _) zai.none))))) zal.at⟩
  rw[if_neg (ff hc6)]at h
  try simp only[go_sem,zab hy4,zad hy4,zac (D.int .i64) hy4]
  cases h
  exact⟨rfl,Up.of (N:=5) (N':=14) [] rfl rfl (by decide) (.set (.d _) (.set (.d _) (.set (.d _) (.set (.d _) (.set (.d _) zai.none))))) zal.at⟩
 rw[if_neg (ff hc2)]at h
 try simp only[go_sem]
 cases h
 exact⟨rfl,by simp,Up.of (N:=5) (N':=6) [] rfl rfl (by decide) (.set (.d _) zai.none) zal.at⟩
noncomputable def zJE (a0:Sl (Int)) (a1:Int):Option (Int):=
 (zaR (zdA a0 a1) (0,0)).bind fun r7=>
 some r7
theorem zJF (a0:Sl (Int)) (a1:Int) (r:Int) (h:zJE a0 a1=some r):pc prog 196 [.list a0.n (a0.l.map (D.int .i64)),.int .i64 a1]=some ((D.int .i64) r):=by
 unfold zJE at h
 refine zbk (fn:=zHT) rfl rfl ?_
 delta zHT
 try simp only[go_sem]
 obtain⟨r7,hl8,h⟩:=bs h
 refine Wp.loopR zba (n:=(0,[])) (a:=zqb) rfl (zfi a0 a1) (zlj a0 a1) (zwE a0 a1) hl8 ?_ (by(repeat(first|refine Clo.block ?_|refine Clo.seq zba rfl ?_));(exact Clo.ret)) ?_
 ·show Up (0,[]) (zfi a0 a1 (0,0)) _
  delta zfi
  exact Up.of (N:=5) (N':=5) [] rfl rfl (by decide) (.set (.d _) (.set (.d _) (.set (.d _) (.set (.d _) (.set (.d _) zai.none))))) zal.at
 dsimp only[zlj]
 try simp only[go_sem]
 cases h
 rfl
noncomputable def zJG (a0:Forest) (a1:Int):Option (Int):=
 (dec (eT2 zaj D.bool) (pc prog 43 [zam a0,.int .i64 a1])).bind fun r1=>
 some r1.1.kind
theorem zJH (a0:Forest) (a1:Int) (r:Int) (h:zJG a0 a1=some r):pc prog 197 [zam a0,.int .i64 a1]=some ((D.int .u8) r):=by
 unfold zJG at h
 refine zbk (fn:=zHU) rfl rfl ?_
 delta zHU
 try simp only[go_sem]
 obtain⟨r1,hr2,h⟩:=bs h
 replace hr2:=zaq hr2
 refine zat hr2 ?_
 try simp only[go_sem]
 cases h
 rfl
def zfj (a0:Forest) (a1:Int) (a2:Sl (Int)) (x0:Int×Int×Int):St:=⟨(((((((Regs.none.set 1 (.d (.int .u8 a1))).set 3 (.ptr 0 0 0)).set 7 (.d (.int .i64 x0.2.1))).set 8 (.d (.int .i64 x0.2.2))).set 11 (.d (.list a2.n (a2.l.map (D.int .i64))))).set 12 (.d (.int .i64 (a2.l.length:Int)))).set 13 (.d (.int .i64 x0.1))),((Heap.at 7).set 0 (some (.els 1 [.d (zam a0)] 0)))⟩
def zis (a0:Forest) (a1:Int) (a2:Sl (Int)):((Int×Int)⊕(Unit))→Ex×St:=fun r=>match r with
 |(.inl r)=>(.exit 0,⟨(((Regs.none.set 1 (.d (.int .u8 a1))).set 7 (.d (.int .i64 r.1))).set 8 (.d (.int .i64 r.2))),(Heap.at 7)⟩)
 |(.inr r)=>(.ret,⟨(Regs.none.set 6 (.d (.bool false))),(Heap.at 7)⟩)
noncomputable def zdB (a0:Forest) (a1:Int) (a2:Sl (Int)) (x0:Int×Int×Int):Option ((Int×Int×Int)⊕((Int×Int)⊕(Unit))):=
 if(decide (x0.1<(a2.l.length:Int)))=true then
  (rd a2.l x0.1).bind fun y3=>
  (dec (D.int .u8) (pc prog 197 [zam a0,.int .i64 y3])).bind fun r5=>
  if(r5==1)=true then
   some (.inl ((IntKind.wrap .i64 (x0.1+1)),(IntKind.wrap .i64 (x0.2.1+1)),x0.2.2))
  else
   (if(r5==3)=true then
    some (r5==3)
   else
    some (r5==4):Option ((Bool))).bind fun r11=>
   if r11=true then
    if(a1==9)=true then
     some (.inr (.inr ()))
    else
     some (.inl ((IntKind.wrap .i64 (x0.1+1)),x0.2.1,x0.2.2))
   else
    (if(r5==8)=true then
     some (r5==8)
    else
     some (r5==7):Option ((Bool))).bind fun r19=>
    if r19=true then
     some (.inl ((IntKind.wrap .i64 (x0.1+1)),x0.2.1,x0.2.2))
    else
     if(r5==10)=true then
      if(bif (!(a1==9))then true else(decide (0<x0.2.1)))=true then
       some (.inr (.inr ()))
      else
       some (.inl ((IntKind.wrap .i64 (x0.1+1)),x0.2.1,(IntKind.wrap .i64 (x0.2.2+1))))
     else
      some (.inr (.inr ()))
 else
  some (.inr (.inl (x0.2.1,x0.2.2)))
theorem zwF (a0:Forest) (a1:Int) (a2:Sl (Int)) (x0:Int×Int×Int) (o:(Int×Int×Int)⊕((Int×Int)⊕(Unit))) (h:zdB a0 a1 a2 x0=some o):Wp prog zqc (zfj a0 a1 a2 x0) (zbK (0,[]) (zfj a0 a1 a2) (zis a0 a1 a2) o):=by
 unfold zdB at h
 delta zqc zfj
 try simp only[go_sem]
 refine zag (fun hc1=> ?_) (fun hc2=> ?_)
 ·rw[if_pos hc1]at h
  try simp only[go_sem]
  obtain⟨y3,hy4,h⟩:=bs h
  try simp only[go_sem,zab hy4,zad hy4,zac (D.int .i64) hy4]
  obtain⟨r5,hr6,h⟩:=bs h
  replace hr6:=zaq hr6
  refine zat hr6 ?_
  try simp only[go_sem,zab hy4,zad hy4,zac (D.int .i64) hy4]
  refine zag (fun hc7=> ?_) (fun hc8=> ?_)
  ·rw[if_pos hc7]at h
   try simp only[go_sem,zab hy4,zad hy4,zac (D.int .i64) hy4]
   cases h
   exact⟨rfl,Up.of (N:=7) (N':=21) [] rfl rfl (by decide) (.set (.d _) (.set (.d _) (.set (.d _) (.set (.d _) (.set (.d _) (.set (.ptr' rfl) (.set (.d _) zai.none))))))) (.set zau.refl_d zal.at)⟩
  rw[if_neg (ff hc8)]at h
  try simp only[go_sem,zab hy4,zad hy4,zac (D.int .i64) hy4]
  obtain⟨r11,hl12,h⟩:=bs h
  refine WBr.cut (n:=(0,[])) .normal ⟨(((((((((Regs.none.set 1 (.d (.int .u8 a1))).set 3 (.ptr 0 0 0)).set 7 (.d (.int .i64 x0.2.1))).set 8 (.d (.int .i64 x0.2.2))).set 11 (.d (.list a2.n (a2.l.map (D.int .i64))))).set 12 (.d (.int .i64 (a2.l.length:Int)))).set 13 (.d (.int .i64 x0.1))).set 19 (.d (.int .u8 r5))).set 24 (.d (.bool r11))),((Heap.at 18).set 0 (some (.els 1 [.d (zam a0)] 0)))⟩ ?_ (by(repeat(first|refine Clo.block ?_|refine Clo.seq zba rfl ?_));(exact Clo.lpost (by decide))) ?_
  ·replace h:=hl12
   refine zag (fun hc9=> ?_) (fun hc10=> ?_)
   ·rw[if_pos hc9]at h
    try simp only[go_sem,zab hy4,zad hy4,zac (D.int .i64) hy4]
    cases h
    exact⟨rfl,Up.of (N:=18) (N':=18) [] rfl rfl (by decide) (.set (.d _) (.set (.d _) (.set (.d _) (.set (.d _) (.set (.d _) (.set (.d _) (.set (.d _) (.set (.ptr' rfl) (.set (.d _) zai.none))))))))) (.set zau.refl_d zal.at)⟩
   rw[if_neg (ff hc10)]at h
   try simp only[go_sem,zab hy4,zad hy4,zac (D.int .i64) hy4]
   cases h
   exact⟨rfl,Up.of (N:=18) (N':=20) [] rfl rfl (by decide) (.set (.d _) (.set (.d _) (.set (.d _) (.set (.d _) (.set (.d _) (.set (.d _) (.set (.d _) (.set (.ptr' rfl) (.set (.d _) zai.none))))))))) (.set zau.refl_d zal.at)⟩
  try simp only[go_sem,zab hy4,zad hy4,zac (D.int .i64) hy4]
  refine zag (fun hc13=> ?_) (fun hc14=> ?_)
  ·rw[if_pos hc13]at h
   try simp only[go_sem,zab hy4,zad hy4,zac (D.int .i64) hy4]
   refine zag (fun hc15=> ?_) (fun hc16=> ?_)
   ·rw[if_pos hc15]at h
    try simp only[go_sem,zab hy4,zad hy4,zac (D.int .i64) hy4]
    cases h
    exact⟨rfl,by simp,Up.of (N:=7) (N':=21) [] rfl rfl (by decide) (.set (.d _) zai.none) zal.at⟩
   rw[if_neg (ff hc16)]at h
   try simp only[go_sem,zab hy4,zad hy4,zac (D.int .i64) hy4]
   cases h
   exact⟨rfl,Up.of (N:=7) (N':=22) [] rfl rfl (by decide) (.set (.d _) (.set (.d _) (.set (.d _) (.set (.d _) (.set (.d _) (.set (.ptr' rfl) (.set (.d _) zai.none))))))) (.set zau.refl_d zal.at)⟩
  rw[if_neg (ff hc14)]at h
  try simp only[go_sem,zab hy4,zad hy4,zac (D.int .i64) hy4]
  obtain⟨r19,hl20,h⟩:=bs h
  refine WBr.cut (n:=(0,[])) .normal ⟨(((((((((Regs.none.set 1 (.d (.int .u8 a1))).set 3 (.ptr 0 0 0)).set 7 (.d (.int .i64 x0.2.1))).set 8 (.d (.int .i64 x0.2.2))).set 11 (.d (.list a2.n (a2.l.map (D.int .i64))))).set 12 (.d (.int .i64 (a2.l.length:Int)))).set 13 (.d (.int .i64 x0.1))).set 19 (.d (.int .u8 r5))).set 29 (.d (.bool r19))),((Heap.at 20).set 0 (some (.els 1 [.d (zam a0)] 0)))⟩ ?_ (by(repeat(first|refine Clo.block ?_|refine Clo.seq zba rfl ?_));(exact Clo.lpost (by decide))) ?_
  ·replace h:=hl20
   refine zag (fun hc17=> ?_) (fun hc18=> ?_)
   ·rw[if_pos hc17]at h
    try simp only[go_sem,zab hy4,zad hy4,zac (D.int .i64) hy4]
    cases h
    exact⟨rfl,Up.of (N:=20) (N':=20) [] rfl rfl (by decide) (.set (.d _) (.set (.d _) (.set (.d _) (.set (.d _) (.set (.d _) (.set (.d _) (.set (.d _) (.set (.ptr' rfl) (.set (.d _) zai.none))))))))) (.set zau.refl_d zal.at)⟩
   rw[if_neg (ff hc18)]at h
   try simp only[go_sem,zab hy4,zad hy4,zac (D.int .i64) hy4]
   cases h
   exact⟨rfl,Up.of (N:=20) (N':=22) [] rfl rfl (by decide) (.set (.d _) (.set (.d _) (.set (.d _) (.set (.d _) (.set (.d _) (.set (.d _) (.set (.d _) (.set (.ptr' rfl) (.set (.d _) zai.none))))))))) (.set zau.refl_d zal.at)⟩
  try simp only[go_sem,zab hy4,zad hy4,zac (D.int .i64) hy4]
  refine zag (fun hc21=> ?_) (fun hc22=> ?_)
  ·rw[if_pos hc21]at h
   try simp only[go_sem,zab hy4,zad hy4,zac (D.int .i64) hy4]
   cases h
   exact⟨rfl,Up.of (N:=7) (N':=22) [] rfl rfl (by decide) (.set (.d _) (.set (.d _) (.set (.d _) (.set (.d _) (.set (.d _) (.set (.ptr' rfl) (.set (.d _) zai.none))))))) (.set zau.refl_d zal.at)⟩
  rw[if_neg (ff hc22)]at h
  try simp only[go_sem,zab hy4,zad hy4,zac (D.int .i64) hy4]
  refine zag (fun hc23=> ?_) (fun hc24=> ?_)
  ·rw[if_pos hc23]at h
   try simp only[go_sem,zab hy4,zad hy4,zac (D.int .i64) hy4]
   refine zaa (v:= .d (.int .i64 x0.2.1)) (fun hb28=>by simp only[go_sem,zab hy4,zad hy4,zac (D.int .i64) hy4,hc1,hc8,hc14,hc22,hc23,hb28]) ?_
   try simp only[go_sem,zab hy4,zad hy4,zac (D.int .i64) hy4]
   refine zaa (v:= .d (.bool (decide (0<x0.2.1)))) (fun hb27=>by simp only[go_sem,zab hy4,zad hy4,zac (D.int .i64) hy4,hc1,hc8,hc14,hc22,hc23,hb27]) ?_
   try simp only[go_sem,zab hy4,zad hy4,zac (D.int .i64) hy4]
   refine zag (fun hc25=> ?_) (fun hc26=> ?_)
   ·rw[if_pos hc25]at h
    try simp only[go_sem,zab hy4,zad hy4,zac (D.int .i64) hy4]
    cases h
    exact⟨rfl,by simp,Up.of (N:=7) (N':=32) [] rfl rfl (by decide) (.set (.d _) zai.none) zal.at⟩
   rw[if_neg (ff hc26)]at h
   try simp only[go_sem,zab hy4,zad hy4,zac (D.int .i64) hy4]
   cases h
   exact⟨rfl,Up.of (N:=7) (N':=33) [] rfl rfl (by decide) (.set (.d _) (.set (.d _) (.set (.d _) (.set (.d _) (.set (.d _) (.set (.ptr' rfl) (.set (.d _) zai.none))))))) (.set zau.refl_d zal.at)⟩
  rw[if_neg (ff hc24)]at h
  try simp only[go_sem,zab hy4,zad hy4,zac (D.int .i64) hy4]
  cases h
  exact⟨rfl,by simp,Up.of (N:=7) (N':=23) [] rfl rfl (by decide) (.set (.d _) zai.none) zal.at⟩
 rw[if_neg (ff hc2)]at h
 try simp only[go_sem]
 cases h
 exact⟨rfl,by simp,Up.of (N:=7) (N':=8) [] rfl rfl (by decide) (.set (.d _) (.set (.d _) (.set (.d _) zai.none))) zal.at⟩
noncomputable def zJI (a0:Forest) (a1:Int) (a2:Sl (Int)):Option (Bool):=
 (zaR (zdB a0 a1 a2) (0,0,0)).bind fun r29=>
 match r29 with
 |(.inl q31)=>
  if(a1==9)=true then
   some (bif (decide (q31.1≤1))then(decide (q31.2≤1))else false)
  else
   some true
 |(.inr q43)=>
  some false
theorem zJJ (a0:Forest) (a1:Int) (a2:Sl (Int)) (r:Bool) (h:zJI a0 a1 a2=some r):pc prog 198 [zam a0,.int .u8 a1,.list a2.n (a2.l.map (D.int .i64))]=some (D.bool r):=by
 unfold zJI at h
 refine zbk (fn:=zHV) rfl rfl ?_
 delta zHV
 try simp only[go_sem]
 obtain⟨r29,hl30,h⟩:=bs h
 refine Wp.loopR zba (n:=(0,[])) (a:=zqc) rfl (zfj a0 a1 a2) (zis a0 a1 a2) (zwF a0 a1 a2) hl30 ?_ (by(repeat(first|refine Clo.block ?_|refine Clo.seq zba rfl ?_));(exact Clo.ret)) ?_
 ·show Up (0,[]) (zfj a0 a1 a2 (0,0,0)) _
  delta zfj
  exact Up.of (N:=7) (N':=7) [] rfl rfl (by decide) (.set (.d _) (.set (.d _) (.set (.d _) (.set (.d _) (.set (.d _) (.set (.ptr' rfl) (.set (.d _) zai.none))))))) (.set zau.refl_d zal.at)
 rcases r29 with(q31|q43)
 ·dsimp only at h
  dsimp only[zis]
  try simp only[go_sem]
  refine zaa (v:= .d (.int .i64 q31.1)) (fun hb42=>by simp only[go_sem,hb42]) ?_
  try simp only[go_sem]
  refine zaa (v:= .d (.bool (decide (q31.1≤1)))) (fun hb41=>by simp only[go_sem,hb41]) ?_
  try simp only[go_sem]
  refine zaa (v:= .d (.bool (decide (q31.1≤1)))) (fun hb40=>by simp only[go_sem,hb40]) ?_
  try simp only[go_sem]
  refine zaa (v:= .d (.int .i64 q31.2)) (fun hb37=>by((obtain⟨hb38,hb39⟩:=zay hb37));simp only[go_sem,hb39,hb38]) ?_
  try simp only[go_sem]
  refine zaa (v:= .d (.bool (decide (q31.2≤1)))) (fun hb34=>by((obtain⟨hb35,hb36⟩:=zay hb34));simp only[go_sem,hb36,hb35]) ?_
  try simp only[go_sem]
  refine zaA (fun hc32=> ?_) (fun hc33=> ?_)
  ·rw[if_pos hc32]at h
   try simp only[go_sem,hc32]
   cases h
   rfl
  rw[if_neg (ff hc33)]at h
  try simp only[go_sem,hc33]
  cases h
  rfl
 dsimp only at h
 dsimp only[zis]
 try simp only[go_sem]
 cases h
 rfl
noncomputable def zJK (a0:Node):Option (Int):=
 if(a0.kind==12)=true then
  some a0.host
 else
  some a0.parent
theorem zJL (a0:Node) (r:Int) (h:zJK a0=some r):pc prog 199 [zaj a0]=some ((D.int .i64) r):=by
 unfold zJK at h
 refine zbk (fn:=zHW) rfl rfl ?_
 delta zHW
 try simp only[go_sem]
 refine zag (fun hc1=> ?_) (fun hc2=> ?_)
 ·rw[if_pos hc1]at h
  try simp only[go_sem]
  cases h
  rfl
 rw[if_neg (ff hc2)]at h
 try simp only[go_sem]
 cases h
 rfl
noncomputable def zJM (a0:Name):Option (Bool):=
 if(!(a0.local_==[]))=true then
  (dec D.bool (pc prog 186 [.list false (([a0.space,a0.prefix_,a0.local_]).map D.str)])).bind fun r3=>
  if r3=true then
   some (bif (a0.prefix_==[])then true else(!(a0.space==[])))
  else
   some false
 else
  some false
theorem zJN (a0:Name) (r:Bool) (h:zJM a0=some r):pc prog 203 [zbR a0]=some (D.bool r):=by
 unfold zJM at h
 refine zbk (fn:=zHX) rfl rfl ?_
 delta zHX
 try simp only[go_sem]
 refine zaa (v:= .ptr 0 0 0) (fun hb25=>by simp only[go_sem,hb25]) ?_
 try simp only[go_sem]
 refine zaa (v:= .d (.str a0.space)) (fun hb24=>by simp only[go_sem,hb24]) ?_
 try simp only[go_sem]
 refine zaa (v:= .ptr 0 0 1) (fun hb23=>by simp only[go_sem,hb23]) ?_
 try simp only[go_sem]
 refine zaa (v:= .d (.str a0.prefix_)) (fun hb22=>by simp only[go_sem,hb22]) ?_
 try simp only[go_sem]
 refine zaa (v:= .ptr 0 0 2) (fun hb21=>by simp only[go_sem,hb21]) ?_
 try simp only[go_sem]
 refine zaa (v:= .d (.str a0.local_)) (fun hb20=>by simp only[go_sem,hb20]) ?_
 try simp only[go_sem]
 refine zaw (fun hc1=> ?_) (fun hc2=> ?_)
 ·rw[if_pos (show(!(a0.local_==[]))=true by(rw[hc1];rfl))]at h
  try simp only[go_sem,hc1]
  obtain⟨r3,hr4,h⟩:=bs h
  replace hr4:=zaq hr4
  refine zat hr4 ?_
  try simp only[go_sem]
  refine zaa (v:= .ptr 0 0 1) (fun hb19=>by simp only[go_sem,hc1,hb19]) ?_
  try simp only[go_sem]
  refine zaa (v:= .d (.str a0.prefix_)) (fun hb18=>by simp only[go_sem,hc1,hb18]) ?_
  try simp only[go_sem]
  refine zaa (v:= .d (.bool (a0.prefix_==[]))) (fun hb17=>by simp only[go_sem,hc1,hb17]) ?_
  try simp only[go_sem]
  refine zaa (v:= .d (.bool (a0.prefix_==[]))) (fun hb16=>by simp only[go_sem,hc1,hb16]) ?_
  try simp only[go_sem]
  refine zaa (v:= .ptr 0 0 0) (fun hb13=>by((obtain⟨hb14,hb15⟩:=zay hb13));simp only[go_sem,hc1,hb15,hb14]) ?_
  try simp only[go_sem]
  refine zaa (v:= .d (.str a0.space)) (fun hb10=>by((obtain⟨hb11,hb12⟩:=zay hb10));simp only[go_sem,hc1,hb12,hb11]) ?_
  try simp only[go_sem]
  refine zaa (v:= .d (.bool (!(a0.space==[])))) (fun hb7=>by((obtain⟨hb8,hb9⟩:=zay hb7));simp only[go_sem,hc1,hb9,hb8]) ?_
  try simp only[go_sem]
  refine zaA (fun hc5=> ?_) (fun hc6=> ?_)
  ·rw[if_pos hc5]at h
   try simp only[go_sem,hc5]
   cases h
   rfl
  rw[if_neg (ff hc6)]at h
  try simp only[go_sem,hc6]
  cases h
  rfl
 rw[if_neg (ffn hc2)]at h
 try simp only[go_sem,hc2]
 cases h
 rfl
noncomputable def zKy (a0:Name):Option (forest_key):=
 some (⟨a0.space,a0.local_⟩:forest_key)
theorem zJO (a0:Name) (r:forest_key) (h:zKy a0=some r):pc prog 204 [zbR a0]=some (zah r):=by
 unfold zKy at h
 refine zbk (fn:=zHY) rfl rfl ?_
 delta zHY
 try simp only[go_sem]
 cases h
 rfl
def zfk (a0:Forest) (a1:Node) (x0:Int×Int×Int):St:=⟨(((((((Regs.none.set 2 (.ptr 0 0 0)).set 5 (.d (.bool (a1.kind==9)))).set 6 (.d (.int .i64 x0.2.1))).set 7 (.d (.int .i64 x0.2.2))).set 14 (.d (.list a1.kids.n (a1.kids.l.map (D.int .i64))))).set 15 (.d (.int .i64 (a1.kids.l.length:Int)))).set 16 (.d (.int .i64 x0.1))),((Heap.at 13).set 0 (some (.els 1 [.d (zam a0)] 0)))⟩
def zit (a0:Forest) (a1:Node):((Int×Int)⊕(Unit))→Ex×St:=fun r=>match r with
 |(.inl r)=>(.exit 0,⟨(((Regs.none.set 5 (.d (.bool (a1.kind==9)))).set 6 (.d (.int .i64 r.1))).set 7 (.d (.int .i64 r.2))),(Heap.at 13)⟩)
 |(.inr r)=>(.ret,⟨(Regs.none.set 4 (.d (.bool false))),(Heap.at 13)⟩)
noncomputable def zdC (a0:Forest) (a1:Node) (x0:Int×Int×Int):Option ((Int×Int×Int)⊕((Int×Int)⊕(Unit))):=
 if(decide (x0.1<(a1.kids.l.length:Int)))=true then
  (rd a1.kids.l x0.1).bind fun y3=>
  (dec (D.int .u8) (pc prog 189 [zam a0,.int .i64 y3])).bind fun r5=>
  if(r5==1)=true then
   some (.inl ((IntKind.wrap .i64 (x0.1+1)),(IntKind.wrap .i64 (x0.2.1+1)),x0.2.2))
  else
   if(r5==10)=true then
    if(bif (!(a1.kind==9))then true else(decide (0<x0.2.1)))=true then
     some (.inr (.inr ()))
    else
     some (.inl ((IntKind.wrap .i64 (x0.1+1)),x0.2.1,(IntKind.wrap .i64 (x0.2.2+1))))
   else
    if(r5==3)=true then
     if(a1.kind==9)=true then
      some (.inr (.inr ()))
     else
      some (.inl ((IntKind.wrap .i64 (x0.1+1)),x0.2.1,x0.2.2))
    else
     if(r5==4)=true then
      if(a1.kind==9)=true then
       some (.inr (.inr ()))
      else
       some (.inl ((IntKind.wrap .i64 (x0.1+1)),x0.2.1,x0.2.2))
     else
      if(r5==8)=true then
       some (.inl ((IntKind.wrap .i64 (x0.1+1)),x0.2.1,x0.2.2))
      else
       if(r5==7)=true then
        some (.inl ((IntKind.wrap .i64 (x0.1+1)),x0.2.1,x0.2.2))
       else
        some (.inr (.inr ()))
 else
  some (.inr (.inl (x0.2.1,x0.2.2)))
theorem zwG (a0:Forest) (a1:Node) (x0:Int×Int×Int) (o:(Int×Int×Int)⊕((Int×Int)⊕(Unit))) (h:zdC a0 a1 x0=some o):Wp prog zqd (zfk a0 a1 x0) (zbK (0,[]) (zfk a0 a1) (zit a0 a1) o):=by
 unfold zdC at h
 delta zqd zfk
 try simp only[go_sem]
 refine zag (fun hc1=> ?_) (fun hc2=> ?_)
 ·rw[if_pos hc1]at h
  try simp only[go_sem]
  obtain⟨y3,hy4,h⟩:=bs h
  try simp only[go_sem,zab hy4,zad hy4,zac (D.int .i64) hy4]
  obtain⟨r5,hr6,h⟩:=bs h
  replace hr6:=zaq hr6
  refine zat hr6 ?_
  try simp only[go_sem,zab hy4,zad hy4,zac (D.int .i64) hy4]
  refine zag (fun hc7=> ?_) (fun hc8=> ?_)
  ·rw[if_pos hc7]at h
   try simp only[go_sem,zab hy4,zad hy4,zac (D.int .i64) hy4]
   cases h
   exact⟨rfl,Up.of (N:=13) (N':=27) [] rfl rfl (by decide) (.set (.d _) (.set (.d _) (.set (.d _) (.set (.d _) (.set (.d _) (.set (.d _) (.set (.ptr' rfl) zai.none))))))) (.set zau.refl_d zal.at)⟩
  rw[if_neg (ff hc8)]at h
  try simp only[go_sem,zab hy4,zad hy4,zac (D.int .i64) hy4]
  refine zag (fun hc9=> ?_) (fun hc10=> ?_)
  ·rw[if_pos hc9]at h
   try simp only[go_sem,zab hy4,zad hy4,zac (D.int .i64) hy4]
   refine zaa (v:= .d (.int .i64 x0.2.1)) (fun hb14=>by simp only[go_sem,zab hy4,zad hy4,zac (D.int .i64) hy4,hc1,hc8,hc9,hb14]) ?_
   try simp only[go_sem,zab hy4,zad hy4,zac (D.int .i64) hy4]
   refine zaa (v:= .d (.bool (decide (0<x0.2.1)))) (fun hb13=>by simp only[go_sem,zab hy4,zad hy4,zac (D.int .i64) hy4,hc1,hc8,hc9,hb13]) ?_
   try simp only[go_sem,zab hy4,zad hy4,zac (D.int .i64) hy4]
   refine zag (fun hc11=> ?_) (fun hc12=> ?_)
   ·rw[if_pos hc11]at h
    try simp only[go_sem,zab hy4,zad hy4,zac (D.int .i64) hy4]
    cases h
    exact⟨rfl,by simp,Up.of (N:=13) (N':=31) [] rfl rfl (by decide) (.set (.d _) zai.none) zal.at⟩
   rw[if_neg (ff hc12)]at h
   try simp only[go_sem,zab hy4,zad hy4,zac (D.int .i64) hy4]
   cases h
   exact⟨rfl,Up.of (N:=13) (N':=35) [] rfl rfl (by decide) (.set (.d _) (.set (.d _) (.set (.d _) (.set (.d _) (.set (.d _) (.set (.d _) (.set (.ptr' rfl) zai.none))))))) (.set zau.refl_d zal.at)⟩
  rw[if_neg (ff hc10)]at h
  try simp only[go_sem,zab hy4,zad hy4,zac (D.int .i64) hy4]
  refine zag (fun hc15=> ?_) (fun hc16=> ?_)
  ·rw[if_pos hc15]at h
   try simp only[go_sem,zab hy4,zad hy4,zac (D.int .i64) hy4]
   try simp only[go_sem,zab hy4,zad hy4,zac (D.int .i64) hy4,hc1,hc8,hc10,hc15]
   refine zag (fun hc17=> ?_) (fun hc18=> ?_)
   ·rw[if_pos hc17]at h
    try simp only[go_sem,zab hy4,zad hy4,zac (D.int .i64) hy4]
    cases h
    exact⟨rfl,by simp,Up.of (N:=13) (N':=28) [] rfl rfl (by decide) (.set (.d _) zai.none) zal.at⟩
   rw[if_neg (ff hc18)]at h
   try simp only[go_sem,zab hy4,zad hy4,zac (D.int .i64) hy4]
   cases h
   exact⟨rfl,Up.of (N:=13) (N':=29) [] rfl rfl (by decide) (.set (.d _) (.set (.d _) (.set (.d _) (.set (.d _) (.set (.d _) (.set (.d _) (.set (.ptr' rfl) zai.none))))))) (.set zau.refl_d zal.at)⟩
  rw[if_neg (ff hc16)]at h
  try simp only[go_sem,zab hy4,zad hy4,zac (D.int .i64) hy4]
  refine zag (fun hc19=> ?_) (fun hc20=> ?_)
  ·rw[if_pos hc19]at h
   try simp only[go_sem,zab hy4,zad hy4,zac (D.int .i64) hy4]
   refine zag (fun hc21=> ?_) (fun hc22=> ?_)
   ·rw[if_pos hc21]at h
    try simp only[go_sem,zab hy4,zad hy4,zac (D.int .i64) hy4]
    cases h
    exact⟨rfl,by simp,Up.of (N:=13) (N':=30) [] rfl rfl (by decide) (.set (.d _) zai.none) zal.at⟩
   rw[if_neg (ff hc22)]at h
   try simp only[go_sem,zab hy4,zad hy4,zac (D.int .i64) hy4]
   cases h
   exact⟨rfl,Up.of (N:=13) (N':=31) [] rfl rfl (by decide) (.set (.d _) (.set (.d _) (.set (.d _) (.set (.d _) (.set (.d _) (.set (.d _) (.set (.ptr' rfl) zai.none))))))) (.set zau.refl_d zal.at)⟩
  rw[if_neg (ff hc20)]at h
  try simp only[go_sem,zab hy4,zad hy4,zac (D.int .i64) hy4]
  refine zag (fun hc23=> ?_) (fun hc24=> ?_)
  ·rw[if_pos hc23]at h
   try simp only[go_sem,zab hy4,zad hy4,zac (D.int .i64) hy4]
   try simp only[go_sem,zab hy4,zad hy4,zac (D.int .i64) hy4,hc1,hc8,hc10,hc16,hc20,hc23]
   cases h
   exact⟨rfl,Up.of (N:=13) (N':=32) [] rfl rfl (by decide) (.set (.d _) (.set (.d _) (.set (.d _) (.set (.d _) (.set (.d _) (.set (.d _) (.set (.ptr' rfl) zai.none))))))) (.set zau.refl_d zal.at)⟩
  rw[if_neg (ff hc24)]at h
  try simp only[go_sem,zab hy4,zad hy4,zac (D.int .i64) hy4]
  refine zag (fun hc25=> ?_) (fun hc26=> ?_)
  ·rw[if_pos hc25]at h
   try simp only[go_sem,zab hy4,zad hy4,zac (D.int .i64) hy4]
   cases h
   exact⟨rfl,Up.of (N:=13) (N':=34) [] rfl rfl (by decide) (.set (.d _) (.set (.d _) (.set (.d _) (.set (.d _) (.set (.d _) (.set (.d _) (.set (.ptr' rfl) zai.none))))))) (.set zau.refl_d zal.at)⟩
  rw[if_neg (ff hc26)]at h
  try simp only[go_sem,zab hy4,zad hy4,zac (D.int .i64) hy4]
  cases h
  exact⟨rfl,by simp,Up.of (N:=13) (N':=33) [] rfl rfl (by decide) (.set (.d _) zai.none) zal.at⟩
 rw[if_neg (ff hc2)]at h
 try simp only[go_sem]
 cases h
 exact⟨rfl,by simp,Up.of (N:=13) (N':=14) [] rfl rfl (by decide) (.set (.d _) (.set (.d _) (.set (.d _) zai.none))) zal.at⟩
noncomputable def zJP (a0:Forest) (a1:Node):Option (Bool):=
 (zaR (zdC a0 a1) (0,0,0)).bind fun r27=>
 match r27 with
 |(.inl q29)=>
  if(a1.kind==9)=true then
   some (bif (decide (q29.1<2))then(decide (q29.2<2))else false)
  else
   some true
 |(.inr q41)=>
  some false
theorem zJQ (a0:Forest) (a1:Node) (r:Bool) (h:zJP a0 a1=some r):pc prog 205 [zam a0,zaj a1]=some (D.bool r):=by
 unfold zJP at h
 refine zbk (fn:=zHZ) rfl rfl ?_
 delta zHZ
 try simp only[go_sem]
 obtain⟨r27,hl28,h⟩:=bs h
 refine Wp.loopR zba (n:=(0,[])) (a:=zqd) rfl (zfk a0 a1) (zit a0 a1) (zwG a0 a1) hl28 ?_ (by(repeat(first|refine Clo.block ?_|refine Clo.seq zba rfl ?_));(exact Clo.ret)) ?_
 ·show Up (0,[]) (zfk a0 a1 (0,0,0)) _
  delta zfk
  exact Up.of (N:=13) (N':=13) [] rfl rfl (by decide) (.set (.d _) (.set (.d _) (.set (.d _) (.set (.d _) (.set (.d _) (.set (.d _) (.set (.ptr' rfl) zai.none))))))) (.set zau.refl_d zal.at)
 rcases r27 with(q29|q41)
 ·dsimp only at h
  dsimp only[zit]
  try simp only[go_sem]
  refine zaa (v:= .d (.int .i64 q29.1)) (fun hb40=>by simp only[go_sem,hb40]) ?_
  try simp only[go_sem]
  refine zaa (v:= .d (.bool (decide (q29.1<2)))) (fun hb39=>by simp only[go_sem,hb39]) ?_
  try simp only[go_sem]
  refine zaa (v:= .d (.bool (decide (q29.1<2)))) (fun hb38=>by simp only[go_sem,hb38]) ?_
  try simp only[go_sem]
  refine zaa (v:= .d (.int .i64 q29.2)) (fun hb35=>by((obtain⟨hb36,hb37⟩:=zay hb35));simp only[go_sem,hb37,hb36]) ?_
  try simp only[go_sem]
  refine zaa (v:= .d (.bool (decide (q29.2<2)))) (fun hb32=>by((obtain⟨hb33,hb34⟩:=zay hb32));simp only[go_sem,hb34,hb33]) ?_
  try simp only[go_sem]
  refine zaA (fun hc30=> ?_) (fun hc31=> ?_)
  ·rw[if_pos hc30]at h
   try simp only[go_sem,hc30]
   cases h
   rfl
  rw[if_neg (ff hc31)]at h
  try simp only[go_sem,hc31]
  cases h
  rfl
 dsimp only at h
 dsimp only[zit]
 try simp only[go_sem]
 cases h
 rfl
def zfl (a0:Sl (Attr)) (a1:Name) (x0:Int):St:=⟨((((Regs.none.set 3 (.ptr 0 0 0)).set 7 (.d (.list a0.n (a0.l.map zaL)))).set 8 (.d (.int .i64 (a0.l.length:Int)))).set 9 (.d (.int .i64 x0))),((Heap.at 5).set 0 (some (.els 3 [.d (zbR a1)] 0)))⟩
def ziu (a0:Sl (Attr)) (a1:Name):((Unit)⊕(Int))→Ex×St:=fun r=>match r with
 |(.inl r)=>(.exit 0,⟨Regs.none,(Heap.at 5)⟩)
 |(.inr r)=>(.ret,⟨(Regs.none.set 4 (.d (.int .i64 r))),(Heap.at 5)⟩)
noncomputable def zdD (a0:Sl (Attr)) (a1:Name) (x0:Int):Option ((Int)⊕((Unit)⊕(Int))):=
 if(decide (x0<(a0.l.length:Int)))=true then
  (rd a0.l x0).bind fun y3=>
  if(bif (y3.name.space==a1.space)then(y3.name.local_==a1.local_)else false)=true then
   some (.inr (.inr x0))
  else
   some (.inl (IntKind.wrap .i64 (x0+1)))
 else
  some (.inr (.inl ()))
theorem zwH (a0:Sl (Attr)) (a1:Name) (x0:Int) (o:(Int)⊕((Unit)⊕(Int))) (h:zdD a0 a1 x0=some o):Wp prog zqe (zfl a0 a1 x0) (zbK (0,[]) (zfl a0 a1) (ziu a0 a1) o):=by
 unfold zdD at h
 delta zqe zfl
 try simp only[go_sem]
 refine zag (fun hc1=> ?_) (fun hc2=> ?_)
 ·rw[if_pos hc1]at h
  try simp only[go_sem]
  obtain⟨y3,hy4,h⟩:=bs h
  try simp only[go_sem,zab hy4,zad hy4,zac zaL hy4]
  refine zaa (v:= .ptr 9 0 0) (fun hb12=>by simp only[go_sem,zab hy4,zad hy4,zac zaL hy4,hc1,hb12]) ?_
  try simp only[go_sem,zab hy4,zad hy4,zac zaL hy4]
  refine zaa (v:= .ptr 9 0 2) (fun hb11=>by simp only[go_sem,zab hy4,zad hy4,zac zaL hy4,hc1,hb11]) ?_
  try simp only[go_sem,zab hy4,zad hy4,zac zaL hy4]
  refine zaa (v:= .d (.str y3.name.local_)) (fun hb10=>by simp only[go_sem,zab hy4,zad hy4,zac zaL hy4,hc1,hb10]) ?_
  try simp only[go_sem,zab hy4,zad hy4,zac zaL hy4]
  refine zaa (v:= .ptr 0 0 2) (fun hb9=>by simp only[go_sem,zab hy4,zad hy4,zac zaL hy4,hc1,hb9]) ?_
  try simp only[go_sem,zab hy4,zad hy4,zac zaL hy4]
  refine zaa (v:= .d (.str a1.local_)) (fun hb8=>by simp only[go_sem,zab hy4,zad hy4,zac zaL hy4,hc1,hb8]) ?_
  try simp only[go_sem,zab hy4,zad hy4,zac zaL hy4]
  refine zaa (v:= .d (.bool (y3.name.local_==a1.local_))) (fun hb7=>by simp only[go_sem,zab hy4,zad hy4,zac zaL hy4,hc1,hb7]) ?_
  try simp only[go_sem,zab hy4,zad hy4,zac zaL hy4]
  refine zag (fun hc5=> ?_) (fun hc6=> ?_)
  ·rw[if_pos hc5]at h
   try simp only[go_sem,zab hy4,zad hy4,zac zaL hy4]
   cases h
   exact⟨rfl,by simp,Up.of (N:=5) (N':=28) [] rfl rfl (by decide) (.set (.d _) zai.none) zal.at⟩
  rw[if_neg (ff hc6)]at h
  try simp only[go_sem,zab hy4,zad hy4,zac zaL hy4]
  cases h
  exact⟨rfl,Up.of (N:=5) (N':=28) [] rfl rfl (by decide) (.set (.d _) (.set (.d _) (.set (.d _) (.set (.ptr' rfl) zai.none)))) (.set zau.refl_d zal.at)⟩
 rw[if_neg (ff hc2)]at h
 try simp only[go_sem]
 cases h
 exact⟨rfl,by simp,Up.of (N:=5) (N':=6) [] rfl rfl (by decide) zai.none zal.at⟩
noncomputable def zJR (a0:Sl (Attr)) (a1:Name):Option (Int):=
 (zaR (zdD a0 a1) 0).bind fun r13=>
 match r13 with
 |(.inl q15)=>
  some (-1)
 |(.inr q16)=>
  some q16
theorem zJS (a0:Sl (Attr)) (a1:Name) (r:Int) (h:zJR a0 a1=some r):pc prog 206 [.list a0.n (a0.l.map zaL),zbR a1]=some ((D.int .i64) r):=by
 unfold zJR at h
 refine zbk (fn:=zIa) rfl rfl ?_
 delta zIa
 try simp only[go_sem]
 obtain⟨r13,hl14,h⟩:=bs h
 refine Wp.loopR zba (n:=(0,[])) (a:=zqe) rfl (zfl a0 a1) (ziu a0 a1) (zwH a0 a1) hl14 ?_ (by(repeat(first|refine Clo.block ?_|refine Clo.seq zba rfl ?_));(exact Clo.ret)) ?_
 ·show Up (0,[]) (zfl a0 a1 0) _
  delta zfl
  exact Up.of (N:=5) (N':=5) [] rfl rfl (by decide) (.set (.d _) (.set (.d _) (.set (.d _) (.set (.ptr' rfl) zai.none)))) (.set zau.refl_d zal.at)
 rcases r13 with(q15|q16)
 ·dsimp only at h
  dsimp only[ziu]
  try simp only[go_sem]
  cases h
  rfl
 dsimp only at h
 dsimp only[ziu]
 try simp only[go_sem]
 cases h
 rfl
end Go.Proofs.Ythodcjjgimeeoaa.P
