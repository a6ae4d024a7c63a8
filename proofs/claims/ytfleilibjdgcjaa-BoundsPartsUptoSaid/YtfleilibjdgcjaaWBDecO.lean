/- Shaken copy of a longer text: what one law needs. Its conditions: none. -/
import Derived.Test.YtfleilibjdgcjaaWBDec0
set_option linter.unusedSimpArgs false
set_option linter.unusedVariables false
set_option maxHeartbeats 1000000
namespace Go.Proofs.Ytfleilibjdgcjaa.B
open Go.AI
noncomputable def zEG (a0:Forest) (a1:Sl (Int)) (x0:Int):Option ((Int)⊕((Unit)⊕(Unit))):=
 if(decide (x0<(a1.l.length:Int)))=true then
  (rd a1.l x0).bind fun y7=>
  if(!(decide (y7<1)))=true then
   if(decide ((a0.nodes.l.length:Int)<y7))=true then
    some (.inr (.inr ()))
   else
    some (.inl (IntKind.wrap .i64 (x0+1)))
  else
   some (.inr (.inr ()))
 else
  some (.inr (.inl ()))
def zhh (a0:Forest) (a1:Int) (x0:Int):St:=⟨(((Regs.none.set 0 (.yld 11)).set 1 (.ptr 7 0 0)).set 2 (.ptr 6 0 0)),(((((((Heap.at 12).set 0 (some (.els 1 [.d (zac a0)] 0))).set 1 (some (.els 1 [.d (.int .i64 a1)] 0))).set 2 (some (.els 1 [.d (.bool false)] 0))).set 6 (some (.els 1 [.d (zac a0)] 0))).set 7 (some (.els 1 [.d (.int .i64 x0)] 0))).set 11 (some (.loop ⟨((Regs.none.set 4 (.ptr 1 0 0)).set 6 (.ptr 2 0 0)),[11],zvW,zvX,.ready,none⟩)))⟩
def zlh (a0:Forest) (a1:Int):((Int)⊕(Int))→Ex×St:=fun r=>match r with
 |(.inl r)=>(.exit 0,⟨Regs.none,(((((((Heap.at 12).set 0 (some (.els 1 [.d (zac a0)] 0))).set 1 (some (.els 1 [.d (.int .i64 a1)] 0))).set 2 (some (.els 1 [.d (.bool false)] 0))).set 6 (some (.els 1 [.d (zac a0)] 0))).set 7 (some (.els 1 [.d (.int .i64 r)] 0))).set 11 (some (.loop ⟨((Regs.none.set 4 (.ptr 1 0 0)).set 6 (.ptr 2 0 0)),[11],zvW,zvX,.ready,none⟩)))⟩)
 |(.inr r)=>(.ret,⟨Regs.none,(((((((Heap.at 12).set 0 (some (.els 1 [.d (zac a0)] 0))).set 1 (some (.els 1 [.d (.int .i64 a1)] 0))).set 2 (some (.els 1 [.d (.bool true)] 0))).set 6 (some (.els 1 [.d (zac a0)] 0))).set 7 (some (.els 1 [.d (.int .i64 r)] 0))).set 11 (some (.loop ⟨((Regs.none.set 4 (.ptr 1 0 0)).set 6 (.ptr 2 0 0)),[11],zvW,zvX,.done,(some .ret)⟩)))⟩)
noncomputable def zcd (a0:Forest) (a1:Int) (x0:Int):Option ((Int)⊕((Int)⊕(Int))):=
 if(!(x0==0))=true then
  if(x0==a1)=true then
   some (.inr (.inr x0))
  else
   (dec zap (pc prog 91 [zac a0,.int .i64 x0])).bind fun r5=>
   some (.inl r5.parent)
 else
  some (.inr (.inl x0))
theorem zzR (a0:Forest) (a1:Int) (x0:Int) (o:(Int)⊕((Int)⊕(Int))) (h:zcd a0 a1 x0=some o):Wp prog zfu (zhh a0 a1 x0) (zcP (12,[]) (zhh a0 a1) (zlh a0 a1) o):=by
 unfold zcd at h
 delta zfu zhh
 try simp only[go_sem]
 refine zaE (fun hc1=> ?_) (fun hc2=> ?_)
 ·rw[if_pos (show(!(x0==0))=true by(rw[hc1];rfl))]at h
  try simp only[go_sem]
  refine zkV (by simp only[go_sem];rfl) rfl ?_
  delta zvW
  try simp only[go_sem]
  delta zvX
  try simp only[go_sem]
  refine zal (fun hc3=> ?_) (fun hc4=> ?_)
  ·rw[if_pos hc3]at h
   try simp only[go_sem]
   cases h
   exact⟨rfl,by simp,Up.of (N:=12) (N':=23) [] rfl rfl (by decide) zam.none (.set (zax.loop (.set (.ptr' rfl) (.set (.ptr' rfl) zam.none)) rfl rfl) (.set zax.refl_d (.set zax.refl_d (.set zax.refl_d (.set zax.refl_d (.set zax.refl_d zar.at))))))⟩
  rw[if_neg (ff hc4)]at h
  try simp only[go_sem]
  obtain⟨r5,hr6,h⟩:=bs h
  replace hr6:=zao hr6
  refine zaq hr6 ?_
  try simp only[go_sem]
  cases h
  exact⟨rfl,Up.of (N:=12) (N':=27) [] rfl rfl (by decide) (.set (.ptr' rfl) (.set (.ptr' rfl) (.set (.yld' rfl) zam.none))) (.set (zax.loop (.set (.ptr' rfl) (.set (.ptr' rfl) zam.none)) rfl rfl) (.set zax.refl_d (.set zax.refl_d (.set zax.refl_d (.set zax.refl_d (.set zax.refl_d zar.at))))))⟩
 rw[if_neg (ffn hc2)]at h
 try simp only[go_sem]
 cases h
 exact⟨rfl,by simp,Up.of (N:=12) (N':=14) [] rfl rfl (by decide) zam.none (.set (zax.loop (.set (.ptr' rfl) (.set (.ptr' rfl) zam.none)) rfl rfl) (.set zax.refl_d (.set zax.refl_d (.set zax.refl_d (.set zax.refl_d (.set zax.refl_d zar.at))))))⟩
noncomputable def P86 (a0:Forest) (a1:Int) (a2:Int):Option (Bool):=
 (zaT (zcd a0 a1) a2).bind fun r7=>
 match r7 with
 |(.inl q9)=>
  some false
 |(.inr q10)=>
  some true
theorem zKy (a0:Forest) (a1:Int) (a2:Int) (r:Bool) (h:P86 a0 a1 a2=some r):pc prog 86 [zac a0,.int .i64 a1,.int .i64 a2]=some (D.bool r):=by
 unfold P86 at h
 refine zbt (fn:=c86) rfl rfl ?_
 delta c86
 try simp only[go_sem]
 refine zgh (fn:=zAH) rfl rfl ?_
 delta zAH
 try simp only[go_sem]
 refine Wp.rfuncC (k:=173) (fn:=zAI) (first:=[]) (cap:=[.ptr 7 0 0,.ptr 6 0 0]) (by simp only[go_sem]) rfl rfl ?_
 delta zAI
 try simp only[go_sem]
 obtain⟨r7,hl8,h⟩:=bs h
 refine Wp.loopR zbJ (n:=(12,[])) (a:=zfu) rfl (zhh a0 a1) (zlh a0 a1) (zzR a0 a1) hl8 ?_ (by(repeat(refine Clo.block ?_));refine Clo.rf (n':=(0,[])) ?_ (by decide) (by decide) ?_;((repeat(first|refine zbQ.set ?_ ?_|refine zbQ.args ?_|exact zbS.nil|refine zbS.cons ?_ ?_|exact zcn.d|exact zcn.ptr (by decide)|refine zcn.clo ?_ ?_)));(repeat(first|refine Clo.block ?_|refine Clo.seq zbJ rfl ?_));(exact Clo.ret)) ?_
 ·show Up (12,[]) (zhh a0 a1 a2) _
  delta zhh
  exact Up.of (N:=12) (N':=12) [] rfl rfl (by decide) (.set (.ptr' rfl) (.set (.ptr' rfl) (.set (.yld' rfl) zam.none))) (.set (zax.loop (.set (.ptr' rfl) (.set (.ptr' rfl) zam.none)) rfl rfl) (.set zax.refl_d (.set zax.refl_d (.set zax.refl_d (.set zax.refl_d (.set zax.refl_d zar.at))))))
 rcases r7 with(q9|q10)
 ·dsimp only at h
  dsimp only[zlh]
  try simp only[go_sem]
  cases h
  rfl
 dsimp only at h
 dsimp only[zlh]
 try simp only[go_sem]
 cases h
 rfl
def zhi (a0:Forest) (a1:Sl (Int)) (x0:Int):St:=⟨((((Regs.none.set 2 (.ptr 0 0 0)).set 17 (.d (.list a1.n (a1.l.map (D.int .i64))))).set 18 (.d (.int .i64 (a1.l.length:Int)))).set 19 (.d (.int .i64 x0))),((Heap.at 14).set 0 (some (.els 1 [.d (zac a0)] 0)))⟩
def zli (a0:Forest) (a1:Sl (Int)):((Unit)⊕(Unit))→Ex×St:=fun r=>match r with
 |(.inl r)=>(.exit 0,⟨Regs.none,(Heap.at 14)⟩)
 |(.inr r)=>(.ret,⟨(Regs.none.set 4 (.d (.int .i64 (2)))),(Heap.at 14)⟩)
noncomputable def zdN (a0:Forest) (a1:Sl (Int)) (x0:Int):Option ((Int)⊕((Unit)⊕(Unit))):=
 if(decide (x0<(a1.l.length:Int)))=true then
  (rd a1.l x0).bind fun y7=>
  if(bif (decide (y7<1))then true else(decide ((a0.nodes.l.length:Int)<y7)))=true then
   some (.inr (.inr ()))
  else
   some (.inl (IntKind.wrap .i64 (x0+1)))
 else
  some (.inr (.inl ()))
theorem zzS (a0:Forest) (a1:Sl (Int)) (x0:Int) (o:(Int)⊕((Unit)⊕(Unit))) (h:zdN a0 a1 x0=some o):Wp prog zzQ (zhi a0 a1 x0) (zcP (0,[]) (zhi a0 a1) (zli a0 a1) o):=by
 unfold zdN at h
 delta zzQ zhi
 try simp only[go_sem]
 refine zal (fun hc5=> ?_) (fun hc6=> ?_)
 ·rw[if_pos hc5]at h
  try simp only[go_sem]
  obtain⟨y7,hy8,h⟩:=bs h
  try simp only[go_sem,zad hy8,zak hy8,zae (D.int .i64) hy8]
  refine zaa (v:= .d (.int .i64 y7)) (fun hb15=>by simp only[go_sem,zad hy8,zak hy8,zae (D.int .i64) hy8,hc5,hb15]) ?_
  try simp only[go_sem,zad hy8,zak hy8,zae (D.int .i64) hy8]
  refine zaa (v:= .ptr 0 0 0) (fun hb14=>by simp only[go_sem,zad hy8,zak hy8,zae (D.int .i64) hy8,hc5,hb14]) ?_
  try simp only[go_sem,zad hy8,zak hy8,zae (D.int .i64) hy8]
  refine zaa (v:= .d (.list a0.nodes.n (a0.nodes.l.map zap))) (fun hb13=>by simp only[go_sem,zad hy8,zak hy8,zae (D.int .i64) hy8,hc5,hb13]) ?_
  try simp only[go_sem,zad hy8,zak hy8,zae (D.int .i64) hy8]
  refine zaa (v:= .d (.int .i64 (a0.nodes.l.length:Int))) (fun hb12=>by simp only[go_sem,zad hy8,zak hy8,zae (D.int .i64) hy8,hc5,hb12]) ?_
  try simp only[go_sem,zad hy8,zak hy8,zae (D.int .i64) hy8]
  refine zaa (v:= .d (.bool (decide ((a0.nodes.l.length:Int)<y7)))) (fun hb11=>by simp only[go_sem,zad hy8,zak hy8,zae (D.int .i64) hy8,hc5,hb11]) ?_
  try simp only[go_sem,zad hy8,zak hy8,zae (D.int .i64) hy8]
  refine zal (fun hc9=> ?_) (fun hc10=> ?_)
  ·rw[if_pos hc9]at h
   try simp only[go_sem,zad hy8,zak hy8,zae (D.int .i64) hy8]
   cases h
   exact⟨rfl,by simp,Up.of (N:=14) (N':=28) [] rfl rfl (by decide) (.set (.d _) zam.none) zar.at⟩
  rw[if_neg (ff hc10)]at h
  try simp only[go_sem,zad hy8,zak hy8,zae (D.int .i64) hy8]
  cases h
  exact⟨rfl,Up.of (N:=14) (N':=29) [] rfl rfl (by decide) (.set (.d _) (.set (.d _) (.set (.d _) (.set (.ptr' rfl) zam.none)))) (.set zax.refl_d zar.at)⟩
 rw[if_neg (ff hc6)]at h
 try simp only[go_sem]
 cases h
 exact⟨rfl,by simp,Up.of (N:=14) (N':=15) [] rfl rfl (by decide) zam.none zar.at⟩
noncomputable def P87 (a0:Forest) (a1:Sl (Int)):Option (Int):=
 (dec (eT2 (D.int .i64) (D.int .i64)) (pc prog 157 [zac a0])).bind fun r1=>
 if(!(r1.1==0))=true then
  some r1.1
 else
  (zaT (zdN a0 a1) 0).bind fun r16=>
  match r16 with
  |(.inl q18)=>
   some (0)
  |(.inr q19)=>
   some (2)
theorem zKz (a0:Forest) (a1:Sl (Int)) (r:Int) (h:P87 a0 a1=some r):pc prog 87 [zac a0,.list a1.n (a1.l.map (D.int .i64))]=some ((D.int .i64) r):=by
 unfold P87 at h
 refine zbt (fn:=c87) rfl rfl ?_
 delta c87
 try simp only[go_sem]
 obtain⟨r1,hr2,h⟩:=bs h
 replace hr2:=zao hr2
 refine zaq hr2 ?_
 try simp only[go_sem]
 refine zaE (fun hc3=> ?_) (fun hc4=> ?_)
 ·rw[if_pos (show(!(r1.1==0))=true by(rw[hc3];rfl))]at h
  try simp only[go_sem]
  cases h
  rfl
 rw[if_neg (ffn hc4)]at h
 try simp only[go_sem]
 obtain⟨r16,hl17,h⟩:=bs h
 refine Wp.loopR zbJ (n:=(0,[])) (a:=zzQ) rfl (zhi a0 a1) (zli a0 a1) (zzS a0 a1) hl17 ?_ (by(repeat(first|refine Clo.block ?_|refine Clo.seq zbJ rfl ?_));(exact Clo.ret)) ?_
 ·show Up (0,[]) (zhi a0 a1 0) _
  delta zhi
  exact Up.of (N:=14) (N':=14) [] rfl rfl (by decide) (.set (.d _) (.set (.d _) (.set (.d _) (.set (.ptr' rfl) zam.none)))) (.set zax.refl_d zar.at)
 rcases r16 with(q18|q19)
 ·dsimp only at h
  dsimp only[zli]
  try simp only[go_sem]
  cases h
  rfl
 dsimp only at h
 dsimp only[zli]
 try simp only[go_sem]
 cases h
 rfl
noncomputable def P91 (a0:Forest) (a1:Int):Option (Node):=
 if(bif (decide (a1<1))then true else(decide ((a0.nodes.l.length:Int)<a1)))=true then
  some (⟨0,⟨[],[],[]⟩,[],[],⟨true,[]⟩,⟨true,[]⟩,0,⟨true,[]⟩,0,0,0,0,false,false⟩:Node)
 else
  (rd a0.nodes.l (IntKind.wrap .i64 (a1-1))).bind fun y3=>
  some y3
theorem zKA (a0:Forest) (a1:Int) (r:Node) (h:P91 a0 a1=some r):pc prog 91 [zac a0,.int .i64 a1]=some (zap r):=by
 unfold P91 at h
 refine zbt (fn:=c91) rfl rfl ?_
 delta c91
 try simp only[go_sem]
 refine zaa (v:= .d (.int .i64 a1)) (fun hb9=>by simp only[go_sem,hb9]) ?_
 try simp only[go_sem]
 refine zaa (v:= .ptr 0 0 0) (fun hb8=>by simp only[go_sem,hb8]) ?_
 try simp only[go_sem]
 refine zaa (v:= .d (.list a0.nodes.n (a0.nodes.l.map zap))) (fun hb7=>by simp only[go_sem,hb7]) ?_
 try simp only[go_sem]
 refine zaa (v:= .d (.int .i64 (a0.nodes.l.length:Int))) (fun hb6=>by simp only[go_sem,hb6]) ?_
 try simp only[go_sem]
 refine zaa (v:= .d (.bool (decide ((a0.nodes.l.length:Int)<a1)))) (fun hb5=>by simp only[go_sem,hb5]) ?_
 try simp only[go_sem]
 refine zal (fun hc1=> ?_) (fun hc2=> ?_)
 ·rw[if_pos hc1]at h
  try simp only[go_sem]
  cases h
  rfl
 rw[if_neg (ff hc2)]at h
 try simp only[go_sem]
 obtain⟨y3,hy4,h⟩:=bs h
 try simp only[go_sem,zad hy4,zak hy4,zae zap hy4]
 cases h
 rfl
def zeJ (a0:Forest) (x0:Int×Int):St:=⟨(((Regs.none.set 0 (.yld 13)).set 1 (.ptr 9 0 0)).set 2 (.ptr 8 0 0)),((((((Heap.at 14).set 0 (some (.els 1 [.d (zac a0)] 0))).set 3 (some (.els 1 [.d (.int .i64 x0.1)] 0))).set 8 (some (.els 1 [.d (zac a0)] 0))).set 9 (some (.els 1 [.d (.int .i64 x0.2)] 0))).set 13 (some (.loop ⟨(Regs.none.set 5 (.ptr 3 0 0)),[11],zqb,zqc,.ready,none⟩)))⟩
def zlj (a0:Forest):((Int×Int))→Ex×St:=fun r=>(.exit 0,⟨Regs.none,((((((Heap.at 14).set 0 (some (.els 1 [.d (zac a0)] 0))).set 3 (some (.els 1 [.d (.int .i64 r.1)] 0))).set 8 (some (.els 1 [.d (zac a0)] 0))).set 9 (some (.els 1 [.d (.int .i64 r.2)] 0))).set 13 (some (.loop ⟨(Regs.none.set 5 (.ptr 3 0 0)),[11],zqb,zqc,.ready,none⟩)))⟩)
noncomputable def zcu (a0:Forest) (x0:Int×Int):Option ((Int×Int)⊕((Int×Int))):=
 if(!(x0.2==0))=true then
  (dec zap (pc prog 91 [zac a0,.int .i64 x0.2])).bind fun r3=>
  some (.inl (x0.2,r3.parent))
 else
  some (.inr (x0.1,x0.2))
theorem zwh (a0:Forest) (x0:Int×Int) (o:(Int×Int)⊕((Int×Int))) (h:zcu a0 x0=some o):Wp prog zfu (zeJ a0 x0) (zcP (14,[]) (zeJ a0) (zlj a0) o):=by
 unfold zcu at h
 delta zfu zeJ
 try simp only[go_sem]
 refine zaE (fun hc1=> ?_) (fun hc2=> ?_)
 ·rw[if_pos (show(!(x0.2==0))=true by(rw[hc1];rfl))]at h
  try simp only[go_sem]
  refine zkV (by simp only[go_sem];rfl) rfl ?_
  delta zqb
  try simp only[go_sem]
  delta zqc
  try simp only[go_sem]
  obtain⟨r3,hr4,h⟩:=bs h
  replace hr4:=zao hr4
  refine zaq hr4 ?_
  try simp only[go_sem]
  cases h
  exact⟨rfl,Up.of (N:=14) (N':=28) [] rfl rfl (by decide) (.set (.ptr' rfl) (.set (.ptr' rfl) (.set (.yld' rfl) zam.none))) (.set (zax.loop (.set (.ptr' rfl) zam.none) rfl rfl) (.set zax.refl_d (.set zax.refl_d (.set zax.refl_d (.set zax.refl_d zar.at)))))⟩
 rw[if_neg (ffn hc2)]at h
 try simp only[go_sem]
 cases h
 exact⟨rfl,by simp,Up.of (N:=14) (N':=16) [] rfl rfl (by decide) zam.none (.set (zax.loop (.set (.ptr' rfl) zam.none) rfl rfl) (.set zax.refl_d (.set zax.refl_d (.set zax.refl_d (.set zax.refl_d zar.at)))))⟩
noncomputable def zIJ (a0:Forest) (a1:Int):Option (Int):=
 (zaT (zcu a0) (a1,a1)).bind fun r5=>
 some r5.1
theorem zIK (a0:Forest) (a1:Int) (r:Int) (h:zIJ a0 a1=some r):pc prog 104 [zac a0,.int .i64 a1]=some ((D.int .i64) r):=by
 unfold zIJ at h
 refine zbt (fn:=zHq) rfl rfl ?_
 delta zHq
 try simp only[go_sem]
 refine zgh (fn:=zAH) rfl rfl ?_
 delta zAH
 try simp only[go_sem]
 refine Wp.rfuncC (k:=173) (fn:=zAI) (first:=[]) (cap:=[.ptr 9 0 0,.ptr 8 0 0]) (by simp only[go_sem]) rfl rfl ?_
 delta zAI
 try simp only[go_sem]
 obtain⟨r5,hl6,h⟩:=bs h
 refine Wp.loopR zbJ (n:=(14,[])) (a:=zfu) rfl (zeJ a0) (zlj a0) (zwh a0) hl6 ?_ (by(repeat(refine Clo.block ?_));refine Clo.rf (n':=(0,[])) ?_ (by decide) (by decide) ?_;((repeat(first|refine zbQ.set ?_ ?_|refine zbQ.args ?_|exact zbS.nil|refine zbS.cons ?_ ?_|exact zcn.d|exact zcn.ptr (by decide)|refine zcn.clo ?_ ?_)));(repeat(first|refine Clo.block ?_|refine Clo.seq zbJ rfl ?_));(exact Clo.ret)) ?_
 ·show Up (14,[]) (zeJ a0 (a1,a1)) _
  delta zeJ
  exact Up.of (N:=14) (N':=14) [] rfl rfl (by decide) (.set (.ptr' rfl) (.set (.ptr' rfl) (.set (.yld' rfl) zam.none))) (.set (zax.loop (.set (.ptr' rfl) zam.none) rfl rfl) (.set zax.refl_d (.set zax.refl_d (.set zax.refl_d (.set zax.refl_d zar.at)))))
 dsimp only[zlj]
 try simp only[go_sem]
 cases h
 rfl
noncomputable def zIL (a0:Forest) (a1:Int):Option (Int):=
 (dec zap (pc prog 91 [zac a0,.int .i64 a1])).bind fun r1=>
 (dec zap (pc prog 91 [zac a0,.int .i64 r1.parent])).bind fun r3=>
 (dec (D.int .i64) (pc prog 188 [.list r3.kids.n (r3.kids.l.map (D.int .i64)),.int .i64 a1])).bind fun r5=>
 some (max r5 (0))
theorem zIM (a0:Forest) (a1:Int) (r:Int) (h:zIL a0 a1=some r):pc prog 146 [zac a0,.int .i64 a1]=some ((D.int .i64) r):=by
 unfold zIL at h
 refine zbt (fn:=zHC) rfl rfl ?_
 delta zHC
 try simp only[go_sem]
 obtain⟨r1,hr2,h⟩:=bs h
 replace hr2:=zao hr2
 refine zaq hr2 ?_
 try simp only[go_sem]
 obtain⟨r3,hr4,h⟩:=bs h
 replace hr4:=zao hr4
 refine zaq hr4 ?_
 try simp only[go_sem]
 obtain⟨r5,hr6,h⟩:=bs h
 replace hr6:=zao hr6
 refine zaq hr6 ?_
 try simp only[go_sem]
 cases h
 rfl
def zeK (a0:Forest) (r3:Sl (Bool)) (x0:Int):St:=⟨(((((Regs.none.set 1 (.ptr 0 0 0)).set 4 (.d (.list r3.n (r3.l.map D.bool)))).set 14 (.d (.list a0.nodes.n (a0.nodes.l.map zap)))).set 15 (.d (.int .i64 (a0.nodes.l.length:Int)))).set 16 (.d (.int .i64 x0))),((Heap.at 14).set 0 (some (.els 1 [.d (zac a0)] 0)))⟩
def zhZ (a0:Forest) (r3:Sl (Bool)):((Unit)⊕(Int))→Ex×St:=fun r=>match r with
 |(.inl r)=>(.exit 0,⟨Regs.none,(Heap.at 14)⟩)
 |(.inr r)=>(.ret,⟨((Regs.none.set 2 (.d (.int .i64 (5)))).set 3 (.d (.int .i64 r))),(Heap.at 14)⟩)
noncomputable def zdd (a0:Forest) (r3:Sl (Bool)) (x0:Int):Option ((Int)⊕((Unit)⊕(Int))):=
 if(decide (x0<(a0.nodes.l.length:Int)))=true then
  (rd a0.nodes.l x0).bind fun y7=>
  (dec D.bool (pc prog 192 [zap y7])).bind fun r9=>
  if r9=true then
   (dec D.bool (pc prog 193 [zac a0,.int .i64 (IntKind.wrap .i64 (x0+1))])).bind fun r13=>
   if r13=true then
    (rd r3.l (IntKind.wrap .i64 (x0+1))).bind fun y17=>
    if(!y17)=true then
     some (.inr (.inr (IntKind.wrap .i64 (x0+1))))
    else
     some (.inl (IntKind.wrap .i64 (x0+1)))
   else
    some (.inr (.inr (IntKind.wrap .i64 (x0+1))))
  else
   some (.inr (.inr (IntKind.wrap .i64 (x0+1))))
 else
  some (.inr (.inl ()))
theorem zwi (a0:Forest) (r3:Sl (Bool)) (x0:Int) (o:(Int)⊕((Unit)⊕(Int))) (h:zdd a0 r3 x0=some o):Wp prog zqe (zeK a0 r3 x0) (zcP (0,[]) (zeK a0 r3) (zhZ a0 r3) o):=by
 unfold zdd at h
 delta zqe zeK
 try simp only[go_sem]
 refine zal (fun hc5=> ?_) (fun hc6=> ?_)
 ·rw[if_pos hc5]at h
  try simp only[go_sem]
  obtain⟨y7,hy8,h⟩:=bs h
  try simp only[go_sem,zad hy8,zak hy8,zae zap hy8]
  obtain⟨r9,hr10,h⟩:=bs h
  replace hr10:=zao hr10
  refine zaq hr10 ?_
  try simp only[go_sem,zad hy8,zak hy8,zae zap hy8]
  refine zaa (v:= .d (zac a0)) (fun hb26=>by simp only[go_sem,zad hy8,zak hy8,zae zap hy8,hc5,hb26]) ?_
  try simp only[go_sem,zad hy8,zak hy8,zae zap hy8]
  refine zaa (v:= .d (.int .i64 x0)) (fun hb25=>by simp only[go_sem,zad hy8,zak hy8,zae zap hy8,hc5,hb25]) ?_
  try simp only[go_sem,zad hy8,zak hy8,zae zap hy8]
  refine zaa (v:= .d (.int .i64 (IntKind.wrap .i64 (x0+1)))) (fun hb24=>by simp only[go_sem,zad hy8,zak hy8,zae zap hy8,hc5,hb24]) ?_
  try simp only[go_sem,zad hy8,zak hy8,zae zap hy8]
  refine zaJ (fun hc11=> ?_) (fun hc12=> ?_)
  ·rw[if_pos hc11]at h
   try simp only[go_sem,zad hy8,zak hy8,zae zap hy8,hc11]
   obtain⟨r13,hr14,h⟩:=bs h
   replace hr14:=zao hr14
   refine zaq hr14 ?_
   try simp only[go_sem,zad hy8,zak hy8,zae zap hy8]
   refine zaa (v:= .d (.list r3.n (r3.l.map D.bool))) (fun hb23=>by simp only[go_sem,zad hy8,zak hy8,zae zap hy8,hc5,hc11,hb23]) ?_
   try simp only[go_sem,zad hy8,zak hy8,zae zap hy8]
   refine zaa (v:= .d (.int .i64 x0)) (fun hb22=>by simp only[go_sem,zad hy8,zak hy8,zae zap hy8,hc5,hc11,hb22]) ?_
   try simp only[go_sem,zad hy8,zak hy8,zae zap hy8]
   refine zaa (v:= .d (.int .i64 (IntKind.wrap .i64 (x0+1)))) (fun hb21=>by simp only[go_sem,zad hy8,zak hy8,zae zap hy8,hc5,hc11,hb21]) ?_
   try simp only[go_sem,zad hy8,zak hy8,zae zap hy8]
   refine zaJ (fun hc15=> ?_) (fun hc16=> ?_)
   ·rw[if_pos hc15]at h
    try simp only[go_sem,zad hy8,zak hy8,zae zap hy8,hc15]
    obtain⟨y17,hy18,h⟩:=bs h
    try simp only[go_sem,zad hy8,zak hy8,zae zap hy8,zad hy18,zak hy18,zae D.bool hy18]
    refine zaE (fun hc19=> ?_) (fun hc20=> ?_)
    ·rw[if_pos (show(!y17)=true by(rw[hc19];rfl))]at h
     try simp only[go_sem,zad hy8,zak hy8,zae zap hy8,zad hy18,zak hy18,zae D.bool hy18]
     cases h
     exact⟨rfl,by simp,Up.of (N:=14) (N':=43) [] rfl rfl (by decide) (.set (.d _) (.set (.d _) zam.none)) zar.at⟩
    rw[if_neg (ffn hc20)]at h
    try simp only[go_sem,zad hy8,zak hy8,zae zap hy8,zad hy18,zak hy18,zae D.bool hy18]
    cases h
    exact⟨rfl,Up.of (N:=14) (N':=41) [] rfl rfl (by decide) (.set (.d _) (.set (.d _) (.set (.d _) (.set (.d _) (.set (.ptr' rfl) zam.none))))) (.set zax.refl_d zar.at)⟩
   rw[if_neg (ff hc16)]at h
   try simp only[go_sem,zad hy8,zak hy8,zae zap hy8,hc16]
   cases h
   exact⟨rfl,by simp,Up.of (N:=14) (N':=43) [] rfl rfl (by decide) (.set (.d _) (.set (.d _) zam.none)) zar.at⟩
  rw[if_neg (ff hc12)]at h
  try simp only[go_sem,zad hy8,zak hy8,zae zap hy8,hc12]
  cases h
  exact⟨rfl,by simp,Up.of (N:=14) (N':=43) [] rfl rfl (by decide) (.set (.d _) (.set (.d _) zam.none)) zar.at⟩
 rw[if_neg (ff hc6)]at h
 try simp only[go_sem]
 cases h
 exact⟨rfl,by simp,Up.of (N:=14) (N':=15) [] rfl rfl (by decide) zam.none zar.at⟩
noncomputable def zIN (a0:Forest):Option (Int×Int):=
 if(decide (4096<(a0.nodes.l.length:Int)))=true then
  some (5,0)
 else
  (dec (eSl D.bool) (pc prog 191 [zac a0])).bind fun r3=>
  (zaT (zdd a0 r3) 0).bind fun r27=>
  match r27 with
  |(.inl q29)=>
   some (0,0)
  |(.inr q30)=>
   some (5,q30)
theorem zIO (a0:Forest) (r:Int×Int) (h:zIN a0=some r):pc prog 157 [zac a0]=some ((eT2 (D.int .i64) (D.int .i64)) r):=by
 unfold zIN at h
 refine zbt (fn:=zHE) rfl rfl ?_
 delta zHE
 try simp only[go_sem]
 refine zal (fun hc1=> ?_) (fun hc2=> ?_)
 ·rw[if_pos hc1]at h
  try simp only[go_sem]
  cases h
  rfl
 rw[if_neg (ff hc2)]at h
 try simp only[go_sem]
 obtain⟨r3,hr4,h⟩:=bs h
 replace hr4:=zao hr4
 refine zaq hr4 ?_
 try simp only[go_sem]
 obtain⟨r27,hl28,h⟩:=bs h
 refine Wp.loopR zbJ (n:=(0,[])) (a:=zqe) rfl (zeK a0 r3) (zhZ a0 r3) (zwi a0 r3) hl28 ?_ (by(repeat(first|refine Clo.block ?_|refine Clo.seq zbJ rfl ?_));(exact Clo.ret)) ?_
 ·show Up (0,[]) (zeK a0 r3 0) _
  delta zeK
  exact Up.of (N:=14) (N':=14) [] rfl rfl (by decide) (.set (.d _) (.set (.d _) (.set (.d _) (.set (.d _) (.set (.ptr' rfl) zam.none))))) (.set zax.refl_d zar.at)
 rcases r27 with(q29|q30)
 ·dsimp only at h
  dsimp only[zhZ]
  try simp only[go_sem]
  cases h
  rfl
 dsimp only at h
 dsimp only[zhZ]
 try simp only[go_sem]
 cases h
 rfl
noncomputable def zKs (a0:Node):Option (Bool):=
 (dec D.bool (pc prog 202 [.int .u8 a0.kind])).bind fun r1=>
 (if(!(bif (bif (bif (!r1)then true else(decide (1024<(a0.public_.length:Int))))then true else(decide (1024<(a0.system.length:Int))))then true else(decide (16384<(a0.data.l.length:Int)))))=true then
  (dec D.bool (pc prog 203 [.list a0.attrs.n (a0.attrs.l.map zbu)])).bind fun r5=>
  some (!r5)
 else
  some true:Option ((Bool))).bind fun r7=>
 if r7=true then
  some false
 else
  (if(a0.kind==1)=true then
   (dec D.bool (pc prog 204 [zcg a0.name])).bind fun r13=>
   if(!r13)=true then
    some (.inr ())
   else
    some (.inl ())
  else
   (if(bif (a0.kind==10)then true else(a0.kind==7))=true then
    if(bif (bif (!(decide (a0.name=(⟨[],[],a0.name.local_⟩:Name))))then true else(a0.name.local_==[]))then true else(decide (1024<(a0.name.local_.length:Int))))=true then
     some (.inr ())
    else
     some (.inl ())
   else
    if(!(decide (a0.name=(⟨[],[],[]⟩:Name))))=true then
     some (.inr ())
    else
     some (.inl ()):Option ((Unit)⊕(Unit))).bind fun r32=>
   match r32 with
   |(.inl q34)=>
    some (.inl ())
   |(.inr q35)=>
    some (.inr ()):Option ((Unit)⊕(Unit))).bind fun r38=>
  match r38 with
  |(.inl q40)=>
   (if(!(a0.kind==10))=true then
    if(!(bif (!(a0.public_==[]))then true else(!(a0.system==[]))))=true then
     (dec D.bool (pc prog 115 [.int .u8 a0.kind])).bind fun r45=>
     if(!(bif (!r45)then(decide (0<(a0.data.l.length:Int)))else false))=true then
      (dec D.bool (pc prog 73 [.int .u8 a0.kind])).bind fun r49=>
      some (bif (!r49)then(decide (0<(a0.kids.l.length:Int)))else false)
     else
      some true
    else
     some true
   else
    (dec D.bool (pc prog 115 [.int .u8 a0.kind])).bind fun r61=>
    if(!(bif (!r61)then(decide (0<(a0.data.l.length:Int)))else false))=true then
     (dec D.bool (pc prog 73 [.int .u8 a0.kind])).bind fun r65=>
     some (bif (!r65)then(decide (0<(a0.kids.l.length:Int)))else false)
    else
     some true:Option ((Bool))).bind fun r76=>
   if r76=true then
    some false
   else
    (if(!(a0.kind==1))=true then
     if(!(bif (decide (0<(a0.attrs.l.length:Int)))then true else(!(a0.shadow==0))))=true then
      some (bif (!(a0.kind==9))then a0.hTML else false)
     else
      some true
    else
     some (bif (!(a0.kind==9))then a0.hTML else false):Option ((Bool))).bind fun r95=>
    if r95=true then
     some false
    else
     (if(a0.kind==12)=true then
      if(bif (!(a0.mode==1))then(!(a0.mode==2))else false)=true then
       some (.inr ())
      else
       some (.inl ())
     else
      if(bif (bif (!(a0.mode==0))then true else a0.manual)then true else(!(a0.host==0)))=true then
       some (.inr ())
      else
       some (.inl ()):Option ((Unit)⊕(Unit))).bind fun r113=>
     match r113 with
     |(.inl q115)=>
      if(!(a0.parent==0))=true then
       some (bif (bif (!(a0.kind==9))then(!(a0.kind==11))else false)then(!(a0.kind==12))else false)
      else
       some true
     |(.inr q129)=>
      some false
  |(.inr q157)=>
   some false
theorem zKB (a0:Node) (r:Bool) (h:zKs a0=some r):pc prog 162 [zap a0]=some (D.bool r):=by
 unfold zKs at h
 refine zbt (fn:=zHF) rfl rfl ?_
 delta zHF
 try simp only[go_sem]
 obtain⟨r1,hr2,h⟩:=bs h
 replace hr2:=zao hr2
 refine zaq hr2 ?_
 try simp only[go_sem]
 refine zaa (v:= .ptr 0 0 4) (fun hb171=>by simp only[go_sem,hb171]) ?_
 try simp only[go_sem]
 refine zaa (v:= .d (.str a0.public_)) (fun hb170=>by simp only[go_sem,hb170]) ?_
 try simp only[go_sem]
 refine zaa (v:= .d (.int .i64 (a0.public_.length:Int))) (fun hb169=>by simp only[go_sem,hb169]) ?_
 try simp only[go_sem]
 refine zaa (v:= .d (.bool (decide (1024<(a0.public_.length:Int))))) (fun hb168=>by simp only[go_sem,hb168]) ?_
 try simp only[go_sem]
 refine zaa (v:= .ptr 0 0 5) (fun hb167=>by simp only[go_sem,hb167]) ?_
 try simp only[go_sem]
 refine zaa (v:= .d (.str a0.system)) (fun hb166=>by simp only[go_sem,hb166]) ?_
 try simp only[go_sem]
 refine zaa (v:= .d (.int .i64 (a0.system.length:Int))) (fun hb165=>by simp only[go_sem,hb165]) ?_
 try simp only[go_sem]
 refine zaa (v:= .d (.bool (decide (1024<(a0.system.length:Int))))) (fun hb164=>by simp only[go_sem,hb164]) ?_
 try simp only[go_sem]
 refine zaa (v:= .ptr 0 0 6) (fun hb163=>by simp only[go_sem,hb163]) ?_
 try simp only[go_sem]
 refine zaa (v:= .d (.list a0.data.n (a0.data.l.map (D.int .u16)))) (fun hb162=>by simp only[go_sem,hb162]) ?_
 try simp only[go_sem]
 refine zaa (v:= .d (.int .i64 (a0.data.l.length:Int))) (fun hb161=>by simp only[go_sem,hb161]) ?_
 try simp only[go_sem]
 refine zaa (v:= .d (.bool (decide (16384<(a0.data.l.length:Int))))) (fun hb160=>by simp only[go_sem,hb160]) ?_
 try simp only[go_sem]
 refine zaa (v:= .ptr 0 0 7) (fun hb159=>by simp only[go_sem,hb159]) ?_
 try simp only[go_sem]
 refine zaa (v:= .d (.list a0.attrs.n (a0.attrs.l.map zbu))) (fun hb158=>by simp only[go_sem,hb158]) ?_
 try simp only[go_sem]
 obtain⟨r7,hl8,h⟩:=bs h
 refine zbR.cut (n:=(0,[])) .normal ⟨(((Regs.none.set 1 (.ptr 0 0 0)).set 3 (.d (.int .u8 a0.kind))).set 32 (.d (.bool r7))),((Heap.at 32).set 0 (some (.els 16 [.d (zap a0)] 0)))⟩ ?_ (by(repeat(refine Clo.seq zbJ rfl ?_));(exact Clo.ret)) ?_
 ·replace h:=hl8
  refine zaF (fun hc3=> ?_) (fun hc4=> ?_)
  ·rw[if_pos (show(!(bif (bif (bif (!r1)then true else(decide (1024<(a0.public_.length:Int))))then true else(decide (1024<(a0.system.length:Int))))then true else(decide (16384<(a0.data.l.length:Int)))))=true by(rw[hc3];rfl))]at h
   try simp only[go_sem,hc3]
   obtain⟨r5,hr6,h⟩:=bs h
   replace hr6:=zao hr6
   refine zaq hr6 ?_
   try simp only[go_sem]
   cases h
   exact⟨rfl,Up.of (N:=32) (N':=32) [] rfl rfl (by decide) (.set (.d _) (.set (.d _) (.set (.ptr' rfl) zam.none))) (.set zax.refl_d zar.at)⟩
  rw[if_neg (ffn hc4)]at h
  try simp only[go_sem,hc4]
  cases h
  exact⟨rfl,Up.of (N:=32) (N':=32) [] rfl rfl (by decide) (.set (.d _) (.set (.d _) (.set (.ptr' rfl) zam.none))) (.set zax.refl_d zar.at)⟩
 try simp only[go_sem]
 refine zal (fun hc9=> ?_) (fun hc10=> ?_)
 ·rw[if_pos hc9]at h
  try simp only[go_sem]
  cases h
  rfl
 rw[if_neg (ff hc10)]at h
 try simp only[go_sem]
 obtain⟨r38,hl39,h⟩:=bs h
 refine WBr.cut (n:=(0,[])) ((fun r=>match r with|(.inl r)=>(.normal,⟨((Regs.none.set 1 (.ptr 0 0 0)).set 3 (.d (.int .u8 a0.kind))),((Heap.at 35).set 0 (some (.els 16 [.d (zap a0)] 0)))⟩)|(.inr r)=>(.ret,⟨(Regs.none.set 2 (.d (.bool false))),(Heap.at 35)⟩):((Unit)⊕(Unit))→Ex×St) r38).1 ((fun r=>match r with|(.inl r)=>(.normal,⟨((Regs.none.set 1 (.ptr 0 0 0)).set 3 (.d (.int .u8 a0.kind))),((Heap.at 35).set 0 (some (.els 16 [.d (zap a0)] 0)))⟩)|(.inr r)=>(.ret,⟨(Regs.none.set 2 (.d (.bool false))),(Heap.at 35)⟩):((Unit)⊕(Unit))→Ex×St) r38).2 ?_ (by(repeat(first|refine Clo.block ?_|refine Clo.seq zbJ rfl ?_));(exact Clo.ret)) ?_
 ·replace h:=hl39
  refine zal (fun hc11=> ?_) (fun hc12=> ?_)
  ·rw[if_pos hc11]at h
   try simp only[go_sem]
   obtain⟨r13,hr14,h⟩:=bs h
   replace hr14:=zao hr14
   refine zaq hr14 ?_
   try simp only[go_sem]
   refine zaE (fun hc15=> ?_) (fun hc16=> ?_)
   ·rw[if_pos (show(!r13)=true by(rw[hc15];rfl))]at h
    try simp only[go_sem]
    cases h
    exact⟨rfl,Up.of (N:=35) (N':=40) [] rfl rfl (by decide) (.set (.d _) zam.none) zar.at⟩
   rw[if_neg (ffn hc16)]at h
   try simp only[go_sem]
   cases h
   exact⟨rfl,Up.of (N:=35) (N':=39) [] rfl rfl (by decide) (.set (.d _) (.set (.ptr' rfl) zam.none)) (.set zax.refl_d zar.at)⟩
  rw[if_neg (ff hc12)]at h
  try simp only[go_sem]
  refine zaa (v:= .d (.int .u8 a0.kind)) (fun hb37=>by simp only[go_sem,hc10,hc12,hb37]) ?_
  try simp only[go_sem]
  refine zaa (v:= .d (.bool (a0.kind==7))) (fun hb36=>by simp only[go_sem,hc10,hc12,hb36]) ?_
  try simp only[go_sem]
  obtain⟨r32,hl33,h⟩:=bs h
  refine WBr.cut (n:=(0,[])) ((fun r=>match r with|(.inl r)=>(.normal,⟨((Regs.none.set 1 (.ptr 0 0 0)).set 3 (.d (.int .u8 a0.kind))),((Heap.at 42).set 0 (some (.els 16 [.d (zap a0)] 0)))⟩)|(.inr r)=>(.ret,⟨(Regs.none.set 2 (.d (.bool false))),(Heap.at 42)⟩):((Unit)⊕(Unit))→Ex×St) r32).1 ((fun r=>match r with|(.inl r)=>(.normal,⟨((Regs.none.set 1 (.ptr 0 0 0)).set 3 (.d (.int .u8 a0.kind))),((Heap.at 42).set 0 (some (.els 16 [.d (zap a0)] 0)))⟩)|(.inr r)=>(.ret,⟨(Regs.none.set 2 (.d (.bool false))),(Heap.at 42)⟩):((Unit)⊕(Unit))→Ex×St) r32).2 ?_ (by(repeat(first|refine Clo.block ?_|refine Clo.seq zbJ rfl ?_));(exact Clo.cpost (by decide))) ?_
  ·replace h:=hl33
   refine zal (fun hc17=> ?_) (fun hc18=> ?_)
   ·rw[if_pos hc17]at h
    try simp only[go_sem]
    refine zaa (v:= .ptr 0 0 1) (fun hb29=>by simp only[go_sem,hc10,hc12,hc17,hb29]) ?_
    try simp only[go_sem]
    refine zaa (v:= .ptr 0 0 3) (fun hb28=>by simp only[go_sem,hc10,hc12,hc17,hb28]) ?_
    try simp only[go_sem]
    refine zaa (v:= .d (.str a0.name.local_)) (fun hb27=>by simp only[go_sem,hc10,hc12,hc17,hb27]) ?_
    try simp only[go_sem]
    refine zaa (v:= .d (.bool (a0.name.local_==[]))) (fun hb26=>by simp only[go_sem,hc10,hc12,hc17,hb26]) ?_
    try simp only[go_sem]
    refine zaa (v:= .ptr 0 0 1) (fun hb25=>by simp only[go_sem,hc10,hc12,hc17,hb25]) ?_
    try simp only[go_sem]
    refine zaa (v:= .ptr 0 0 3) (fun hb24=>by simp only[go_sem,hc10,hc12,hc17,hb24]) ?_
    try simp only[go_sem]
    refine zaa (v:= .d (.str a0.name.local_)) (fun hb23=>by simp only[go_sem,hc10,hc12,hc17,hb23]) ?_
    try simp only[go_sem]
    refine zaa (v:= .d (.int .i64 (a0.name.local_.length:Int))) (fun hb22=>by simp only[go_sem,hc10,hc12,hc17,hb22]) ?_
    try simp only[go_sem]
    refine zaa (v:= .d (.bool (decide (1024<(a0.name.local_.length:Int))))) (fun hb21=>by simp only[go_sem,hc10,hc12,hc17,hb21]) ?_
    try simp only[go_sem]
    refine zal (fun hc19=> ?_) (fun hc20=> ?_)
    ·rw[if_pos hc19]at h
     try simp only[go_sem]
     cases h
     exact⟨rfl,Up.of (N:=42) (N':=63) [] rfl rfl (by decide) (.set (.d _) zam.none) zar.at⟩
    rw[if_neg (ff hc20)]at h
    try simp only[go_sem]
    cases h
    exact⟨rfl,Up.of (N:=42) (N':=62) [] rfl rfl (by decide) (.set (.d _) (.set (.ptr' rfl) zam.none)) (.set zax.refl_d zar.at)⟩
   rw[if_neg (ff hc18)]at h
   try simp only[go_sem]
   refine zaE (fun hc30=> ?_) (fun hc31=> ?_)
   ·rw[if_pos (show(!(decide (a0.name=(⟨[],[],[]⟩:Name))))=true by(rw[hc30];rfl))]at h
    try simp only[go_sem]
    cases h
    exact⟨rfl,Up.of (N:=42) (N':=48) [] rfl rfl (by decide) (.set (.d _) zam.none) zar.at⟩
   rw[if_neg (ffn hc31)]at h
   try simp only[go_sem]
   cases h
   exact⟨rfl,Up.of (N:=42) (N':=47) [] rfl rfl (by decide) (.set (.d _) (.set (.ptr' rfl) zam.none)) (.set zax.refl_d zar.at)⟩
  rcases r32 with(q34|q35)
  ·dsimp only at h⊢
   cases h
   exact⟨rfl,Up.of (N:=35) (N':=42) [] rfl rfl (by decide) (.set (.d _) (.set (.ptr' rfl) zam.none)) (.set zax.refl_d zar.at)⟩
  dsimp only at h⊢
  cases h
  exact⟨rfl,Up.of (N:=35) (N':=42) [] rfl rfl (by decide) (.set (.d _) zam.none) zar.at⟩
 rcases r38 with(q40|q157)
 ·dsimp only at h⊢
  try simp only[go_sem]
  refine zaa (v:= .ptr 0 0 4) (fun hb156=>by simp only[go_sem,hc10,hb156]) ?_
  try simp only[go_sem]
  refine zaa (v:= .d (.str a0.public_)) (fun hb155=>by simp only[go_sem,hc10,hb155]) ?_
  try simp only[go_sem]
  refine zaa (v:= .d (.bool (!(a0.public_==[])))) (fun hb154=>by simp only[go_sem,hc10,hb154]) ?_
  try simp only[go_sem]
  refine zaa (v:= .d (.bool (!(a0.public_==[])))) (fun hb153=>by simp only[go_sem,hc10,hb153]) ?_
  try simp only[go_sem]
  refine zaa (v:= .ptr 0 0 5) (fun hb150=>by((obtain⟨hb151,hb152⟩:=zay hb150));simp only[go_sem,hc10,hb152,hb151]) ?_
  try simp only[go_sem]
  refine zaa (v:= .d (.str a0.system)) (fun hb147=>by((obtain⟨hb148,hb149⟩:=zay hb147));simp only[go_sem,hc10,hb149,hb148]) ?_
  try simp only[go_sem]
  refine zaa (v:= .d (.bool (!(a0.system==[])))) (fun hb144=>by((obtain⟨hb145,hb146⟩:=zay hb144));simp only[go_sem,hc10,hb146,hb145]) ?_
  try simp only[go_sem]
  obtain⟨r76,hl77,h⟩:=bs h
  refine zbR.cut (n:=(0,[])) .normal ⟨(((Regs.none.set 1 (.ptr 0 0 0)).set 3 (.d (.int .u8 a0.kind))).set 105 (.d (.bool r76))),((Heap.at 69).set 0 (some (.els 16 [.d (zap a0)] 0)))⟩ ?_ (by(repeat(refine Clo.seq zbJ rfl ?_));(exact Clo.ret)) ?_
  ·replace h:=hl77
   refine zaF (fun hc41=> ?_) (fun hc42=> ?_)
   ·rw[if_pos (show(!(a0.kind==10))=true by(rw[hc41];rfl))]at h
    try simp only[go_sem,hc41]
    refine zaa (v:= .d (.int .u8 a0.kind)) (fun hb60=>by simp only[go_sem,hc10,hc41,hb60]) ?_
    try simp only[go_sem]
    refine zaF (fun hc43=> ?_) (fun hc44=> ?_)
    ·rw[if_pos (show(!(bif (!(a0.public_==[]))then true else(!(a0.system==[]))))=true by(rw[hc43];rfl))]at h
     try simp only[go_sem,hc43]
     obtain⟨r45,hr46,h⟩:=bs h
     replace hr46:=zao hr46
     refine zaq hr46 ?_
     try simp only[go_sem]
     refine zaa (v:= .ptr 0 0 6) (fun hb59=>by simp only[go_sem,hc10,hc41,hc43,hb59]) ?_
     try simp only[go_sem]
     refine zaa (v:= .d (.list a0.data.n (a0.data.l.map (D.int .u16)))) (fun hb58=>by simp only[go_sem,hc10,hc41,hc43,hb58]) ?_
     try simp only[go_sem]
     refine zaa (v:= .d (.int .i64 (a0.data.l.length:Int))) (fun hb57=>by simp only[go_sem,hc10,hc41,hc43,hb57]) ?_
     try simp only[go_sem]
     refine zaa (v:= .d (.bool (decide (0<(a0.data.l.length:Int))))) (fun hb56=>by simp only[go_sem,hc10,hc41,hc43,hb56]) ?_
     try simp only[go_sem]
     refine zaa (v:= .d (.int .u8 a0.kind)) (fun hb55=>by simp only[go_sem,hc10,hc41,hc43,hb55]) ?_
     try simp only[go_sem]
     refine zaF (fun hc47=> ?_) (fun hc48=> ?_)
     ·rw[if_pos (show(!(bif (!r45)then(decide (0<(a0.data.l.length:Int)))else false))=true by(rw[hc47];rfl))]at h
      try simp only[go_sem,hc47]
      obtain⟨r49,hr50,h⟩:=bs h
      replace hr50:=zao hr50
      refine zaq hr50 ?_
      try simp only[go_sem]
      refine zaa (v:= .ptr 0 0 9) (fun hb54=>by simp only[go_sem,hc10,hc41,hc43,hc47,hb54]) ?_
      try simp only[go_sem]
      refine zaa (v:= .d (.list a0.kids.n (a0.kids.l.map (D.int .i64)))) (fun hb53=>by simp only[go_sem,hc10,hc41,hc43,hc47,hb53]) ?_
      try simp only[go_sem]
      refine zaa (v:= .d (.int .i64 (a0.kids.l.length:Int))) (fun hb52=>by simp only[go_sem,hc10,hc41,hc43,hc47,hb52]) ?_
      try simp only[go_sem]
      refine zaa (v:= .d (.bool (decide (0<(a0.kids.l.length:Int))))) (fun hb51=>by simp only[go_sem,hc10,hc41,hc43,hc47,hb51]) ?_
      try simp only[go_sem]
      cases h
      exact⟨rfl,Up.of (N:=69) (N':=69) [] rfl rfl (by decide) (.set (.d _) (.set (.d _) (.set (.ptr' rfl) zam.none))) (.set zax.refl_d zar.at)⟩
     rw[if_neg (ffn hc48)]at h
     try simp only[go_sem,hc48]
     cases h
     exact⟨rfl,Up.of (N:=69) (N':=69) [] rfl rfl (by decide) (.set (.d _) (.set (.d _) (.set (.ptr' rfl) zam.none))) (.set zax.refl_d zar.at)⟩
    rw[if_neg (ffn hc44)]at h
    try simp only[go_sem,hc44]
    cases h
    exact⟨rfl,Up.of (N:=69) (N':=69) [] rfl rfl (by decide) (.set (.d _) (.set (.d _) (.set (.ptr' rfl) zam.none))) (.set zax.refl_d zar.at)⟩
   rw[if_neg (ffn hc42)]at h
   try simp only[go_sem,hc42]
   obtain⟨r61,hr62,h⟩:=bs h
   replace hr62:=zao hr62
   refine zaq hr62 ?_
   try simp only[go_sem]
   refine zaa (v:= .ptr 0 0 6) (fun hb75=>by simp only[go_sem,hc10,hc42,hb75]) ?_
   try simp only[go_sem]
   refine zaa (v:= .d (.list a0.data.n (a0.data.l.map (D.int .u16)))) (fun hb74=>by simp only[go_sem,hc10,hc42,hb74]) ?_
   try simp only[go_sem]
   refine zaa (v:= .d (.int .i64 (a0.data.l.length:Int))) (fun hb73=>by simp only[go_sem,hc10,hc42,hb73]) ?_
   try simp only[go_sem]
   refine zaa (v:= .d (.bool (decide (0<(a0.data.l.length:Int))))) (fun hb72=>by simp only[go_sem,hc10,hc42,hb72]) ?_
   try simp only[go_sem]
   refine zaa (v:= .d (.int .u8 a0.kind)) (fun hb71=>by simp only[go_sem,hc10,hc42,hb71]) ?_
   try simp only[go_sem]
   refine zaF (fun hc63=> ?_) (fun hc64=> ?_)
   ·rw[if_pos (show(!(bif (!r61)then(decide (0<(a0.data.l.length:Int)))else false))=true by(rw[hc63];rfl))]at h
    try simp only[go_sem,hc63]
    obtain⟨r65,hr66,h⟩:=bs h
    replace hr66:=zao hr66
    refine zaq hr66 ?_
    try simp only[go_sem]
    refine zaa (v:= .ptr 0 0 9) (fun hb70=>by simp only[go_sem,hc10,hc42,hc63,hb70]) ?_
    try simp only[go_sem]
    refine zaa (v:= .d (.list a0.kids.n (a0.kids.l.map (D.int .i64)))) (fun hb69=>by simp only[go_sem,hc10,hc42,hc63,hb69]) ?_
    try simp only[go_sem]
    refine zaa (v:= .d (.int .i64 (a0.kids.l.length:Int))) (fun hb68=>by simp only[go_sem,hc10,hc42,hc63,hb68]) ?_
    try simp only[go_sem]
    refine zaa (v:= .d (.bool (decide (0<(a0.kids.l.length:Int))))) (fun hb67=>by simp only[go_sem,hc10,hc42,hc63,hb67]) ?_
    try simp only[go_sem]
    cases h
    exact⟨rfl,Up.of (N:=69) (N':=69) [] rfl rfl (by decide) (.set (.d _) (.set (.d _) (.set (.ptr' rfl) zam.none))) (.set zax.refl_d zar.at)⟩
   rw[if_neg (ffn hc64)]at h
   try simp only[go_sem,hc64]
   cases h
   exact⟨rfl,Up.of (N:=69) (N':=69) [] rfl rfl (by decide) (.set (.d _) (.set (.d _) (.set (.ptr' rfl) zam.none))) (.set zax.refl_d zar.at)⟩
  try simp only[go_sem]
  refine zal (fun hc78=> ?_) (fun hc79=> ?_)
  ·rw[if_pos hc78]at h
   try simp only[go_sem]
   cases h
   rfl
  rw[if_neg (ff hc79)]at h
  try simp only[go_sem]
  refine zaa (v:= .ptr 0 0 7) (fun hb143=>by simp only[go_sem,hc10,hc79,hb143]) ?_
  try simp only[go_sem]
  refine zaa (v:= .d (.list a0.attrs.n (a0.attrs.l.map zbu))) (fun hb142=>by simp only[go_sem,hc10,hc79,hb142]) ?_
  try simp only[go_sem]
  refine zaa (v:= .d (.int .i64 (a0.attrs.l.length:Int))) (fun hb141=>by simp only[go_sem,hc10,hc79,hb141]) ?_
  try simp only[go_sem]
  refine zaa (v:= .d (.bool (decide (0<(a0.attrs.l.length:Int))))) (fun hb140=>by simp only[go_sem,hc10,hc79,hb140]) ?_
  try simp only[go_sem]
  refine zaa (v:= .d (.bool (decide (0<(a0.attrs.l.length:Int))))) (fun hb139=>by simp only[go_sem,hc10,hc79,hb139]) ?_
  try simp only[go_sem]
  refine zaa (v:= .ptr 0 0 12) (fun hb136=>by((obtain⟨hb137,hb138⟩:=zay hb136));simp only[go_sem,hc10,hc79,hb138,hb137]) ?_
  try simp only[go_sem]
  refine zaa (v:= .d (.int .i64 a0.shadow)) (fun hb133=>by((obtain⟨hb134,hb135⟩:=zay hb133));simp only[go_sem,hc10,hc79,hb135,hb134]) ?_
  try simp only[go_sem]
  refine zaa (v:= .d (.bool (!(a0.shadow==0)))) (fun hb130=>by((obtain⟨hb131,hb132⟩:=zay hb130));simp only[go_sem,hc10,hc79,hb132,hb131]) ?_
  try simp only[go_sem]
  obtain⟨r95,hl96,h⟩:=bs h
  refine zbR.cut (n:=(0,[])) .normal ⟨(((Regs.none.set 1 (.ptr 0 0 0)).set 3 (.d (.int .u8 a0.kind))).set 126 (.d (.bool r95))),((Heap.at 90).set 0 (some (.els 16 [.d (zap a0)] 0)))⟩ ?_ (by(repeat(refine Clo.seq zbJ rfl ?_));(exact Clo.ret)) ?_
  ·replace h:=hl96
   refine zaF (fun hc80=> ?_) (fun hc81=> ?_)
   ·rw[if_pos (show(!(a0.kind==1))=true by(rw[hc80];rfl))]at h
    try simp only[go_sem,hc80]
    refine zaa (v:= .d (.int .u8 a0.kind)) (fun hb92=>by simp only[go_sem,hc10,hc79,hc80,hb92]) ?_
    try simp only[go_sem]
    refine zaa (v:= .d (.bool (!(a0.kind==9)))) (fun hb91=>by simp only[go_sem,hc10,hc79,hc80,hb91]) ?_
    try simp only[go_sem]
    refine zaa (v:= .d (.bool (!(a0.kind==9)))) (fun hb90=>by simp only[go_sem,hc10,hc79,hc80,hb90]) ?_
    try simp only[go_sem]
    refine zaa (v:= .ptr 0 0 15) (fun hb87=>by((obtain⟨hb88,hb89⟩:=zay hb87));simp only[go_sem,hc10,hc79,hc80,hb89,hb88]) ?_
    try simp only[go_sem]
    refine zaa (v:= .d (.bool a0.hTML)) (fun hb84=>by((obtain⟨hb85,hb86⟩:=zay hb84));simp only[go_sem,hc10,hc79,hc80,hb86,hb85]) ?_
    try simp only[go_sem]
    refine zaF (fun hc82=> ?_) (fun hc83=> ?_)
    ·rw[if_pos (show(!(bif (decide (0<(a0.attrs.l.length:Int)))then true else(!(a0.shadow==0))))=true by(rw[hc82];rfl))]at h
     try simp only[go_sem,hc82]
     cases h
     exact⟨rfl,Up.of (N:=90) (N':=90) [] rfl rfl (by decide) (.set (.d _) (.set (.d _) (.set (.ptr' rfl) zam.none))) (.set zax.refl_d zar.at)⟩
    rw[if_neg (ffn hc83)]at h
    try simp only[go_sem,hc83]
    cases h
    exact⟨rfl,Up.of (N:=90) (N':=90) [] rfl rfl (by decide) (.set (.d _) (.set (.d _) (.set (.ptr' rfl) zam.none))) (.set zax.refl_d zar.at)⟩
   rw[if_neg (ffn hc81)]at h
   try simp only[go_sem,hc81]
   refine zaa (v:= .ptr 0 0 15) (fun hb94=>by simp only[go_sem,hc10,hc79,hc81,hb94]) ?_
   try simp only[go_sem]
   refine zaa (v:= .d (.bool a0.hTML)) (fun hb93=>by simp only[go_sem,hc10,hc79,hc81,hb93]) ?_
   try simp only[go_sem]
   cases h
   exact⟨rfl,Up.of (N:=90) (N':=90) [] rfl rfl (by decide) (.set (.d _) (.set (.d _) (.set (.ptr' rfl) zam.none))) (.set zax.refl_d zar.at)⟩
  try simp only[go_sem]
  refine zal (fun hc97=> ?_) (fun hc98=> ?_)
  ·rw[if_pos hc97]at h
   try simp only[go_sem]
   cases h
   rfl
  rw[if_neg (ff hc98)]at h
  try simp only[go_sem]
  obtain⟨r113,hl114,h⟩:=bs h
  refine WBr.cut (n:=(0,[])) ((fun r=>match r with|(.inl r)=>(.normal,⟨((Regs.none.set 1 (.ptr 0 0 0)).set 3 (.d (.int .u8 a0.kind))),((Heap.at 92).set 0 (some (.els 16 [.d (zap a0)] 0)))⟩)|(.inr r)=>(.ret,⟨(Regs.none.set 2 (.d (.bool false))),(Heap.at 92)⟩):((Unit)⊕(Unit))→Ex×St) r113).1 ((fun r=>match r with|(.inl r)=>(.normal,⟨((Regs.none.set 1 (.ptr 0 0 0)).set 3 (.d (.int .u8 a0.kind))),((Heap.at 92).set 0 (some (.els 16 [.d (zap a0)] 0)))⟩)|(.inr r)=>(.ret,⟨(Regs.none.set 2 (.d (.bool false))),(Heap.at 92)⟩):((Unit)⊕(Unit))→Ex×St) r113).2 ?_ (by(repeat(refine Clo.seq zbJ rfl ?_));(exact Clo.ret)) ?_
  ·replace h:=hl114
   refine zal (fun hc99=> ?_) (fun hc100=> ?_)
   ·rw[if_pos hc99]at h
    try simp only[go_sem]
    refine zaa (v:= .ptr 0 0 13) (fun hb105=>by simp only[go_sem,hc10,hc79,hc98,hc99,hb105]) ?_
    try simp only[go_sem]
    refine zaa (v:= .d (.int .u8 a0.mode)) (fun hb104=>by simp only[go_sem,hc10,hc79,hc98,hc99,hb104]) ?_
    try simp only[go_sem]
    refine zaa (v:= .d (.bool (!(a0.mode==2)))) (fun hb103=>by simp only[go_sem,hc10,hc79,hc98,hc99,hb103]) ?_
    try simp only[go_sem]
    refine zal (fun hc101=> ?_) (fun hc102=> ?_)
    ·rw[if_pos hc101]at h
     try simp only[go_sem]
     cases h
     exact⟨rfl,Up.of (N:=92) (N':=101) [] rfl rfl (by decide) (.set (.d _) zam.none) zar.at⟩
    rw[if_neg (ff hc102)]at h
    try simp only[go_sem]
    cases h
    exact⟨rfl,Up.of (N:=92) (N':=100) [] rfl rfl (by decide) (.set (.d _) (.set (.ptr' rfl) zam.none)) (.set zax.refl_d zar.at)⟩
   rw[if_neg (ff hc100)]at h
   try simp only[go_sem]
   refine zaa (v:= .ptr 0 0 14) (fun hb112=>by simp only[go_sem,hc10,hc79,hc98,hc100,hb112]) ?_
   try simp only[go_sem]
   refine zaa (v:= .d (.bool a0.manual)) (fun hb111=>by simp only[go_sem,hc10,hc79,hc98,hc100,hb111]) ?_
   try simp only[go_sem]
   refine zaa (v:= .ptr 0 0 11) (fun hb110=>by simp only[go_sem,hc10,hc79,hc98,hc100,hb110]) ?_
   try simp only[go_sem]
   refine zaa (v:= .d (.int .i64 a0.host)) (fun hb109=>by simp only[go_sem,hc10,hc79,hc98,hc100,hb109]) ?_
   try simp only[go_sem]
   refine zaa (v:= .d (.bool (!(a0.host==0)))) (fun hb108=>by simp only[go_sem,hc10,hc79,hc98,hc100,hb108]) ?_
   try simp only[go_sem]
   refine zal (fun hc106=> ?_) (fun hc107=> ?_)
   ·rw[if_pos hc106]at h
    try simp only[go_sem]
    cases h
    exact⟨rfl,Up.of (N:=92) (N':=105) [] rfl rfl (by decide) (.set (.d _) zam.none) zar.at⟩
   rw[if_neg (ff hc107)]at h
   try simp only[go_sem]
   cases h
   exact⟨rfl,Up.of (N:=92) (N':=104) [] rfl rfl (by decide) (.set (.d _) (.set (.ptr' rfl) zam.none)) (.set zax.refl_d zar.at)⟩
  rcases r113 with(q115|q129)
  ·dsimp only at h⊢
   try simp only[go_sem]
   refine zaa (v:= .d (.int .u8 a0.kind)) (fun hb128=>by simp only[go_sem,hc10,hc79,hc98,hb128]) ?_
   try simp only[go_sem]
   refine zaa (v:= .d (.bool (!(a0.kind==9)))) (fun hb127=>by simp only[go_sem,hc10,hc79,hc98,hb127]) ?_
   try simp only[go_sem]
   refine zaa (v:= .d (.bool (!(a0.kind==9)))) (fun hb126=>by simp only[go_sem,hc10,hc79,hc98,hb126]) ?_
   try simp only[go_sem]
   refine zaa (v:= .d (.int .u8 a0.kind)) (fun hb123=>by((obtain⟨hb124,hb125⟩:=zay hb123));simp only[go_sem,hc10,hc79,hc98,hb125,hb124]) ?_
   try simp only[go_sem]
   refine zaa (v:= .d (.bool (!(a0.kind==11)))) (fun hb120=>by((obtain⟨hb121,hb122⟩:=zay hb120));simp only[go_sem,hc10,hc79,hc98,hb122,hb121]) ?_
   try simp only[go_sem]
   refine zaF (fun hc116=> ?_) (fun hc117=> ?_)
   ·rw[if_pos (show(!(a0.parent==0))=true by(rw[hc116];rfl))]at h
    try simp only[go_sem,hc116]
    refine zaa (v:= .d (.int .u8 a0.kind)) (fun hb119=>by simp only[go_sem,hc10,hc79,hc98,hc116,hb119]) ?_
    try simp only[go_sem]
    refine zaa (v:= .d (.bool (!(a0.kind==12)))) (fun hb118=>by simp only[go_sem,hc10,hc79,hc98,hc116,hb118]) ?_
    try simp only[go_sem]
    cases h
    rfl
   rw[if_neg (ffn hc117)]at h
   try simp only[go_sem,hc117]
   cases h
   rfl
  dsimp only at h⊢
  try simp only[go_sem]
  cases h
  rfl
 dsimp only at h⊢
 try simp only[go_sem]
 cases h
 rfl
def zeL (a0:Sl (Int)) (a1:Int) (x0:Int):St:=⟨((((Regs.none.set 0 (.d (.list a0.n (a0.l.map (D.int .i64))))).set 1 (.d (.int .i64 a1))).set 7 (.d (.int .i64 (a0.l.length:Int)))).set 8 (.d (.int .i64 x0))),(Heap.at 4)⟩
def zia (a0:Sl (Int)) (a1:Int):((Unit)⊕(Int))→Ex×St:=fun r=>match r with
 |(.inl r)=>(.exit 0,⟨Regs.none,(Heap.at 4)⟩)
 |(.inr r)=>(.ret,⟨(Regs.none.set 4 (.d (.int .i64 r))),(Heap.at 4)⟩)
noncomputable def zde (a0:Sl (Int)) (a1:Int) (x0:Int):Option ((Int)⊕((Unit)⊕(Int))):=
 if(decide (x0<(a0.l.length:Int)))=true then
  (rd a0.l x0).bind fun y3=>
  if(a1==y3)=true then
   some (.inr (.inr x0))
  else
   some (.inl (IntKind.wrap .i64 (x0+1)))
 else
  some (.inr (.inl ()))
theorem zwj (a0:Sl (Int)) (a1:Int) (x0:Int) (o:(Int)⊕((Unit)⊕(Int))) (h:zde a0 a1 x0=some o):Wp prog zqf (zeL a0 a1 x0) (zcP (0,[]) (zeL a0 a1) (zia a0 a1) o):=by
 unfold zde at h
 delta zqf zeL
 try simp only[go_sem]
 refine zal (fun hc1=> ?_) (fun hc2=> ?_)
 ·rw[if_pos hc1]at h
  try simp only[go_sem]
  obtain⟨y3,hy4,h⟩:=bs h
  try simp only[go_sem,zad hy4,zak hy4,zae (D.int .i64) hy4]
  refine zal (fun hc5=> ?_) (fun hc6=> ?_)
  ·rw[if_pos hc5]at h
   try simp only[go_sem,zad hy4,zak hy4,zae (D.int .i64) hy4]
   cases h
   exact⟨rfl,by simp,Up.of (N:=4) (N':=15) [] rfl rfl (by decide) (.set (.d _) zam.none) zar.at⟩
  rw[if_neg (ff hc6)]at h
  try simp only[go_sem,zad hy4,zak hy4,zae (D.int .i64) hy4]
  cases h
  exact⟨rfl,Up.of (N:=4) (N':=15) [] rfl rfl (by decide) (.set (.d _) (.set (.d _) (.set (.d _) (.set (.d _) zam.none)))) zar.at⟩
 rw[if_neg (ff hc2)]at h
 try simp only[go_sem]
 cases h
 exact⟨rfl,by simp,Up.of (N:=4) (N':=5) [] rfl rfl (by decide) zam.none zar.at⟩
noncomputable def zIP (a0:Sl (Int)) (a1:Int):Option (Int):=
 (zaT (zde a0 a1) 0).bind fun r7=>
 match r7 with
 |(.inl q9)=>
  some (-1)
 |(.inr q10)=>
  some q10
theorem zIQ (a0:Sl (Int)) (a1:Int) (r:Int) (h:zIP a0 a1=some r):pc prog 188 [.list a0.n (a0.l.map (D.int .i64)),.int .i64 a1]=some ((D.int .i64) r):=by
 unfold zIP at h
 refine zbt (fn:=zHK) rfl rfl ?_
 delta zHK
 try simp only[go_sem]
 obtain⟨r7,hl8,h⟩:=bs h
 refine Wp.loopR zbJ (n:=(0,[])) (a:=zqf) rfl (zeL a0 a1) (zia a0 a1) (zwj a0 a1) hl8 ?_ (by(repeat(first|refine Clo.block ?_|refine Clo.seq zbJ rfl ?_));(exact Clo.ret)) ?_
 ·show Up (0,[]) (zeL a0 a1 0) _
  delta zeL
  exact Up.of (N:=4) (N':=4) [] rfl rfl (by decide) (.set (.d _) (.set (.d _) (.set (.d _) (.set (.d _) zam.none)))) zar.at
 rcases r7 with(q9|q10)
 ·dsimp only at h
  dsimp only[zia]
  try simp only[go_sem]
  cases h
  rfl
 dsimp only at h
 dsimp only[zia]
 try simp only[go_sem]
 cases h
 rfl
def zeM (a0:Forest) (x0:List (Int)×Int) (x1:List (Int)×List (Int)×Int):St:=⟨((((((Regs.none.set 1 (.ptr 0 0 0)).set 3 (.sl 6 0 (((IntKind.wrap .i64 ((a0.nodes.l.length:Int)+1))).toNat))).set 5 (mb 18 (x1.2.1.map fun z=>V.d ((D.int .i64) z)))).set 6 (.d (.int .i64 x1.2.2))).set 19 (.d (.int .i64 (a0.nodes.l.length:Int)))).set 20 (.d (.int .i64 x0.2))),((((Heap.at 19).set 0 (some (.els 1 [.d (zac a0)] 0))).set 6 (some (.els 1 (x1.1.map fun z=>V.d ((D.int .i64) z)) (0)))).set 18 (mbB 1 x1.2.1.length (x1.2.1.map fun z=>V.d ((D.int .i64) z))))⟩
def zlk (a0:Forest) (x0:List (Int)×Int):((List (Int)×Int×List (Int)))→Ex×St:=fun r=>(.exit 2,⟨((((((Regs.none.set 1 (.ptr 0 0 0)).set 3 (.sl 6 0 (((IntKind.wrap .i64 ((a0.nodes.l.length:Int)+1))).toNat))).set 5 (mb 18 (r.1.map fun z=>V.d ((D.int .i64) z)))).set 6 (.d (.int .i64 r.2.1))).set 19 (.d (.int .i64 (a0.nodes.l.length:Int)))).set 20 (.d (.int .i64 x0.2))),((((Heap.at 19).set 0 (some (.els 1 [.d (zac a0)] 0))).set 6 (some (.els 1 (r.2.2.map fun z=>V.d ((D.int .i64) z)) (0)))).set 18 (mbB 1 r.1.length (r.1.map fun z=>V.d ((D.int .i64) z))))⟩)
noncomputable def zbE (a0:Forest) (x0:List (Int)×Int) (x1:List (Int)×List (Int)×Int):Option ((List (Int)×List (Int)×Int)⊕((List (Int)×Int×List (Int)))):=
 if(bif (decide (1≤x1.2.2))then(decide (x1.2.2≤(a0.nodes.l.length:Int)))else false)=true then
  (rdA x1.1 (((IntKind.wrap .i64 ((a0.nodes.l.length:Int)+1))).toNat) x1.2.2).bind fun y6=>
  if(y6==0)=true then
   if(x1.2.1.length+1)*8≤AI.roomBytes then
    (rd a0.nodes.l (IntKind.wrap .i64 (x1.2.2-1))).bind fun y11=>
    (dec (D.int .i64) (pc prog 214 [zap y11])).bind fun r13=>
    some (.inl ((x1.1.set (x1.2.2).toNat (1)),(x1.2.1++[x1.2.2]),r13))
   else none
  else
   some (.inr (x1.2.1,x1.2.2,x1.1))
 else
  some (.inr (x1.2.1,x1.2.2,x1.1))
theorem zwk (a0:Forest) (x0:List (Int)×Int) (x1:List (Int)×List (Int)×Int) (o:(List (Int)×List (Int)×Int)⊕((List (Int)×Int×List (Int)))) (h:zbE a0 x0 x1=some o):Wp prog zqg (zeM a0 x0 x1) (zcP (0,[]) (zeM a0 x0) (zlk a0 x0) o):=by
 unfold zbE at h
 delta zqg zeM
 try simp only[go_sem]
 refine zaa (v:= .d (.int .i64 x1.2.2)) (fun hb19=>by simp only[go_sem,hb19]) ?_
 try simp only[go_sem]
 refine zaa (v:= .ptr 0 0 0) (fun hb18=>by simp only[go_sem,hb18]) ?_
 try simp only[go_sem]
 refine zaa (v:= .d (.list a0.nodes.n (a0.nodes.l.map zap))) (fun hb17=>by simp only[go_sem,hb17]) ?_
 try simp only[go_sem]
 refine zaa (v:= .d (.int .i64 (a0.nodes.l.length:Int))) (fun hb16=>by simp only[go_sem,hb16]) ?_
 try simp only[go_sem]
 refine zaa (v:= .d (.bool (decide (x1.2.2≤(a0.nodes.l.length:Int))))) (fun hb15=>by simp only[go_sem,hb15]) ?_
 try simp only[go_sem]
 refine zaJ (fun hc4=> ?_) (fun hc5=> ?_)
 ·rw[if_pos hc4]at h
  try simp only[go_sem,hc4]
  obtain⟨y6,hy7,h⟩:=bs h
  try simp only[go_sem,zba hy7,zbz hy7,zbF hy7,zaO hy7,zbb (D.int .i64) hy7]
  refine zal (fun hc8=> ?_) (fun hc9=> ?_)
  ·rw[if_pos hc8]at h
   try simp only[go_sem,zba hy7,zbz hy7,zbF hy7,zaO hy7,zbb (D.int .i64) hy7]
   obtain⟨hm10,h⟩:=zds h
   refine zgg (l:=x1.2.1.map fun z=>V.d ((D.int .i64) z)) (new:=[V.d (.int .i64 x1.2.2)]) (sz:=1) (fz:=x1.2.1.length) (by simp only[go_sem,List.map_append,List.map_cons,List.map_nil,zba hy7,zbz hy7,zbF hy7,zaO hy7,zbb (D.int .i64) hy7,zgS (x:=1) (D.int .i64) (zaO hy7),zgR (x:=1) (zaO hy7)]) (by intro h;simpa using h) (by simp only[go_sem,zdo,zec,zdp,zcc,zkS]) (by simp) (by simp only[go_sem]) (by simpa using hm10) ?_
   try simp only[go_sem,zba hy7,zbz hy7,zbF hy7,zaO hy7,zbb (D.int .i64) hy7,zgS (x:=1) (D.int .i64) (zaO hy7),zgR (x:=1) (zaO hy7),hm10]
   obtain⟨y11,hy12,h⟩:=bs h
   try simp only[go_sem,zba hy7,zbz hy7,zbF hy7,zaO hy7,zbb (D.int .i64) hy7,zgS (x:=1) (D.int .i64) (zaO hy7),zgR (x:=1) (zaO hy7),hm10,zad hy12,zak hy12,zae zap hy12]
   obtain⟨r13,hr14,h⟩:=bs h
   replace hr14:=zao hr14
   refine zaq hr14 ?_
   try simp only[go_sem,zba hy7,zbz hy7,zbF hy7,zaO hy7,zbb (D.int .i64) hy7,zgS (x:=1) (D.int .i64) (zaO hy7),zgR (x:=1) (zaO hy7),hm10,zad hy12,zak hy12,zae zap hy12]
   cases h
   refine⟨rfl,Up.of (N:=19) (N':=52) [(18,42)] rfl rfl (by decide) ?_ ?_⟩
   ·refine zam.set ?_ (zam.set ?_ (zam.set ?_ (zam.set ?_ (zam.set ?_ (zam.set ?_ zam.none)))))
    all_goals (try simp only[go_sem,List.map_append,List.map_cons,List.map_nil,zba hy7,zbz hy7,zbF hy7,zaO hy7,zbb (D.int .i64) hy7,zgS (x:=1) (D.int .i64) (zaO hy7),zgR (x:=1) (zaO hy7),hm10,zad hy12,zak hy12,zae zap hy12])
    all_goals (first|exact VR.d _|exact VR.mb_sl (by simp) rfl (by simp)|exact VR.ptr' rfl|exact VR.sl'' rfl (by simp))
   refine zar.set (show zax _ _ (Heap.get _ 42)from ?_) (zar.set (show zax _ _ (Heap.get _ 6)from ?_) (zar.set (show zax _ _ (Heap.get _ 0)from ?_) (zar.at)))
   all_goals (try simp only[go_sem,List.map_append,List.map_cons,List.map_nil,zba hy7,zbz hy7,zbF hy7,zaO hy7,zbb (D.int .i64) hy7,zgS (x:=1) (D.int .i64) (zaO hy7),zgR (x:=1) (zaO hy7),hm10,zad hy12,zak hy12,zae zap hy12])
   all_goals (((repeat' first|exact zax.refl_d|refine zax.els (by simp) ?_|refine zax.mb_els (by simp) ?_|exact VR.d _|exact VRL.nil|exact VRL.refl_d _ _|refine VRL.append ?_ ?_|refine VRL.cons ?_ ?_);done))
  rw[if_neg (ff hc9)]at h
  try simp only[go_sem,zba hy7,zbz hy7,zbF hy7,zaO hy7,zbb (D.int .i64) hy7]
  cases h
  refine⟨rfl,by simp,Up.of (N:=19) (N':=35) [] rfl rfl (by decide) ?_ ?_⟩
  ·refine zam.set ?_ (zam.set ?_ (zam.set ?_ (zam.set ?_ (zam.set ?_ (zam.set ?_ zam.none)))))
   all_goals (try simp only[go_sem,List.map_append,List.map_cons,List.map_nil,zba hy7,zbz hy7,zbF hy7,zaO hy7,zbb (D.int .i64) hy7])
   all_goals (first|exact VR.d _|exact VR.mb rfl|exact VR.ptr' rfl|exact VR.sl'' rfl (by simp))
  refine zar.set (show zax _ _ (Heap.get _ 18)from ?_) (zar.set (show zax _ _ (Heap.get _ 6)from ?_) (zar.set (show zax _ _ (Heap.get _ 0)from ?_) (zar.at)))
  all_goals (try simp only[go_sem,List.map_append,List.map_cons,List.map_nil,zba hy7,zbz hy7,zbF hy7,zaO hy7,zbb (D.int .i64) hy7])
  all_goals (((repeat' first|exact zax.refl_d|refine zax.els (by simp) ?_|refine zax.mb (by simp) ?_|exact VRL.refl_d _ _);done))
 rw[if_neg (ff hc5)]at h
 try simp only[go_sem,hc5]
 cases h
 refine⟨rfl,by simp,Up.of (N:=19) (N':=35) [] rfl rfl (by decide) ?_ ?_⟩
 ·refine zam.set ?_ (zam.set ?_ (zam.set ?_ (zam.set ?_ (zam.set ?_ (zam.set ?_ zam.none)))))
  all_goals (try simp only[go_sem,List.map_append,List.map_cons,List.map_nil])
  all_goals (first|exact VR.d _|exact VR.mb rfl|exact VR.ptr' rfl|exact VR.sl'' rfl (by simp))
 refine zar.set (show zax _ _ (Heap.get _ 18)from ?_) (zar.set (show zax _ _ (Heap.get _ 6)from ?_) (zar.set (show zax _ _ (Heap.get _ 0)from ?_) (zar.at)))
 all_goals (try simp only[go_sem,List.map_append,List.map_cons,List.map_nil])
 all_goals (((repeat' first|exact zax.refl_d|refine zax.els (by simp) ?_|refine zax.mb (by simp) ?_|exact VRL.refl_d _ _);done))
def zeN (a0:Forest) (x0:List (Int)×Int) (r20:List (Int)×Int×List (Int)) (r28:Int) (x2:List (Int)×Int):St:=⟨((((((((Regs.none.set 1 (.ptr 0 0 0)).set 3 (.sl 6 0 (((IntKind.wrap .i64 ((a0.nodes.l.length:Int)+1))).toNat))).set 7 (.d (.int .i64 r28))).set 19 (.d (.int .i64 (a0.nodes.l.length:Int)))).set 20 (.d (.int .i64 x0.2))).set 71 (mb 18 (r20.1.map fun z=>V.d ((D.int .i64) z)))).set 72 (.d (.int .i64 (r20.1.length:Int)))).set 73 (.d (.int .i64 x2.2))),((((Heap.at 39).set 0 (some (.els 1 [.d (zac a0)] 0))).set 6 (some (.els 1 (x2.1.map fun z=>V.d ((D.int .i64) z)) (0)))).set 18 (mbB 1 r20.1.length (r20.1.map fun z=>V.d ((D.int .i64) z))))⟩
def zll (a0:Forest) (x0:List (Int)×Int) (r20:List (Int)×Int×List (Int)) (r28:Int):((List (Int)))→Ex×St:=fun r=>(.exit 4,⟨((((Regs.none.set 1 (.ptr 0 0 0)).set 3 (.sl 6 0 (((IntKind.wrap .i64 ((a0.nodes.l.length:Int)+1))).toNat))).set 19 (.d (.int .i64 (a0.nodes.l.length:Int)))).set 20 (.d (.int .i64 x0.2))),(((Heap.at 39).set 0 (some (.els 1 [.d (zac a0)] 0))).set 6 (some (.els 1 (r.map fun z=>V.d ((D.int .i64) z)) (0))))⟩)
noncomputable def zbO (a0:Forest) (x0:List (Int)×Int) (r20:List (Int)×Int×List (Int)) (r28:Int) (x2:List (Int)×Int):Option ((List (Int)×Int)⊕((List (Int)))):=
 if(decide (x2.2<(r20.1.length:Int)))=true then
  (rdA r20.1 r20.1.length x2.2).bind fun y32=>
  (rdA x2.1 (((IntKind.wrap .i64 ((a0.nodes.l.length:Int)+1))).toNat) y32).bind fun y34=>
  some (.inl ((x2.1.set (y32).toNat r28),(IntKind.wrap .i64 (x2.2+1))))
 else
  some (.inr x2.1)
theorem zwl (a0:Forest) (x0:List (Int)×Int) (r20:List (Int)×Int×List (Int)) (r28:Int) (x2:List (Int)×Int) (o:(List (Int)×Int)⊕((List (Int)))) (h:zbO a0 x0 r20 r28 x2=some o):Wp prog ziZ (zeN a0 x0 r20 r28 x2) (zcP (0,[]) (zeN a0 x0 r20 r28) (zll a0 x0 r20 r28) o):=by
 unfold zbO at h
 delta ziZ zeN
 try simp only[go_sem]
 refine zal (fun hc30=> ?_) (fun hc31=> ?_)
 ·rw[if_pos hc30]at h
  try simp only[go_sem]
  obtain⟨y32,hy33,h⟩:=bs h
  have hne_hy33:=zft hy33
  try simp only[go_sem,zba hy33,zbz hy33,zbF hy33,zaO hy33,zbb (D.int .i64) hy33,zzK (zft hy33),zpW (zft hy33)]
  obtain⟨y34,hy35,h⟩:=bs h
  try simp only[go_sem,zba hy33,zbz hy33,zbF hy33,zaO hy33,zbb (D.int .i64) hy33,zzK (zft hy33),zpW (zft hy33),zba hy35,zbz hy35,zbF hy35,zaO hy35,zbb (D.int .i64) hy35]
  cases h
  exact⟨rfl,Up.of (N:=39) (N':=50) [] rfl rfl (by decide) (.set (.d _) (.set (.d _) (.set (by exact VR.sl'' rfl (by rfl)) (.set (.d _) (.set (.d _) (.set (.d _) (.set (.sl'' rfl (by rfl)) (.set (.ptr' rfl) zam.none)))))))) (.set (by exact zax.arr (e:=(D.int .i64)) (l:=r20.1) (by rfl) (Nat.le_refl _)) (.set (zax.arr (e:=(D.int .i64)) (l:=(x2.1.set (y32).toNat r28)) (by rfl) (by exact Nat.le_refl _)) (.set zax.refl_d zar.at)))⟩
 rw[if_neg (ff hc31)]at h
 try simp only[go_sem]
 cases h
 exact⟨rfl,by simp,Up.of (N:=39) (N':=40) [] rfl rfl (by decide) (.set (.d _) (.set (.d _) (.set (.sl'' rfl (by rfl)) (.set (.ptr' rfl) zam.none)))) (.set (zax.arr (e:=(D.int .i64)) (l:=x2.1) (by rfl) (by exact Nat.le_refl _)) (.set zax.refl_d zar.at))⟩
def zeO (a0:Forest) (x0:List (Int)×Int) (r20:List (Int)×Int×List (Int)) (x3:List (Int)×Int):St:=⟨((((((((Regs.none.set 1 (.ptr 0 0 0)).set 3 (.sl 6 0 (((IntKind.wrap .i64 ((a0.nodes.l.length:Int)+1))).toNat))).set 7 (.d (.int .i64 (2)))).set 19 (.d (.int .i64 (a0.nodes.l.length:Int)))).set 20 (.d (.int .i64 x0.2))).set 71 (mb 18 (r20.1.map fun z=>V.d ((D.int .i64) z)))).set 72 (.d (.int .i64 (r20.1.length:Int)))).set 73 (.d (.int .i64 x3.2))),((((Heap.at 39).set 0 (some (.els 1 [.d (zac a0)] 0))).set 6 (some (.els 1 (x3.1.map fun z=>V.d ((D.int .i64) z)) (0)))).set 18 (mbB 1 r20.1.length (r20.1.map fun z=>V.d ((D.int .i64) z))))⟩
def zlm (a0:Forest) (x0:List (Int)×Int) (r20:List (Int)×Int×List (Int)):((List (Int)))→Ex×St:=fun r=>(.exit 4,⟨((((Regs.none.set 1 (.ptr 0 0 0)).set 3 (.sl 6 0 (((IntKind.wrap .i64 ((a0.nodes.l.length:Int)+1))).toNat))).set 19 (.d (.int .i64 (a0.nodes.l.length:Int)))).set 20 (.d (.int .i64 x0.2))),(((Heap.at 39).set 0 (some (.els 1 [.d (zac a0)] 0))).set 6 (some (.els 1 (r.map fun z=>V.d ((D.int .i64) z)) (0))))⟩)
noncomputable def zbP (a0:Forest) (x0:List (Int)×Int) (r20:List (Int)×Int×List (Int)) (x3:List (Int)×Int):Option ((List (Int)×Int)⊕((List (Int)))):=
 if(decide (x3.2<(r20.1.length:Int)))=true then
  (rdA r20.1 r20.1.length x3.2).bind fun y40=>
  (rdA x3.1 (((IntKind.wrap .i64 ((a0.nodes.l.length:Int)+1))).toNat) y40).bind fun y42=>
  some (.inl ((x3.1.set (y40).toNat (2)),(IntKind.wrap .i64 (x3.2+1))))
 else
  some (.inr x3.1)
theorem zwm (a0:Forest) (x0:List (Int)×Int) (r20:List (Int)×Int×List (Int)) (x3:List (Int)×Int) (o:(List (Int)×Int)⊕((List (Int)))) (h:zbP a0 x0 r20 x3=some o):Wp prog ziZ (zeO a0 x0 r20 x3) (zcP (0,[]) (zeO a0 x0 r20) (zlm a0 x0 r20) o):=by
 unfold zbP at h
 delta ziZ zeO
 try simp only[go_sem]
 refine zal (fun hc38=> ?_) (fun hc39=> ?_)
 ·rw[if_pos hc38]at h
  try simp only[go_sem]
  obtain⟨y40,hy41,h⟩:=bs h
  have hne_hy41:=zft hy41
  try simp only[go_sem,zba hy41,zbz hy41,zbF hy41,zaO hy41,zbb (D.int .i64) hy41,zzK (zft hy41),zpW (zft hy41)]
  obtain⟨y42,hy43,h⟩:=bs h
  try simp only[go_sem,zba hy41,zbz hy41,zbF hy41,zaO hy41,zbb (D.int .i64) hy41,zzK (zft hy41),zpW (zft hy41),zba hy43,zbz hy43,zbF hy43,zaO hy43,zbb (D.int .i64) hy43]
  cases h
  exact⟨rfl,Up.of (N:=39) (N':=50) [] rfl rfl (by decide) (.set (.d _) (.set (.d _) (.set (by exact VR.sl'' rfl (by rfl)) (.set (.d _) (.set (.d _) (.set (.d _) (.set (.sl'' rfl (by rfl)) (.set (.ptr' rfl) zam.none)))))))) (.set (by exact zax.arr (e:=(D.int .i64)) (l:=r20.1) (by rfl) (Nat.le_refl _)) (.set (zax.arr (e:=(D.int .i64)) (l:=(x3.1.set (y40).toNat (2))) (by rfl) (by exact Nat.le_refl _)) (.set zax.refl_d zar.at)))⟩
 rw[if_neg (ff hc39)]at h
 try simp only[go_sem]
 cases h
 exact⟨rfl,by simp,Up.of (N:=39) (N':=40) [] rfl rfl (by decide) (.set (.d _) (.set (.d _) (.set (.sl'' rfl (by rfl)) (.set (.ptr' rfl) zam.none)))) (.set (zax.arr (e:=(D.int .i64)) (l:=x3.1) (by rfl) (by exact Nat.le_refl _)) (.set zax.refl_d zar.at))⟩
def zeP (a0:Forest) (x0:List (Int)×Int):St:=⟨((((Regs.none.set 1 (.ptr 0 0 0)).set 3 (.sl 6 0 (((IntKind.wrap .i64 ((a0.nodes.l.length:Int)+1))).toNat))).set 19 (.d (.int .i64 (a0.nodes.l.length:Int)))).set 20 (.d (.int .i64 x0.2))),(((Heap.at 12).set 0 (some (.els 1 [.d (zac a0)] 0))).set 6 (some (.els 1 (x0.1.map fun z=>V.d ((D.int .i64) z)) (0))))⟩
def zln (a0:Forest):((List (Int)))→Ex×St:=fun r=>(.exit 0,⟨(Regs.none.set 3 (.sl 6 0 (((IntKind.wrap .i64 ((a0.nodes.l.length:Int)+1))).toNat))),((Heap.at 12).set 6 (some (.els 1 (r.map fun z=>V.d ((D.int .i64) z)) (0))))⟩)
noncomputable def zbY (a0:Forest) (x0:List (Int)×Int):Option ((List (Int)×Int)⊕((List (Int)))):=
 if(decide (x0.2<(a0.nodes.l.length:Int)))=true then
  (zaT (zbE a0 x0) (x0.1,[],(IntKind.wrap .i64 (x0.2+1)))).bind fun r20=>
  if(bif (decide (1≤r20.2.1))then(decide (r20.2.1≤(a0.nodes.l.length:Int)))else false)=true then
   (rdA r20.2.2 (((IntKind.wrap .i64 ((a0.nodes.l.length:Int)+1))).toNat) r20.2.1).bind fun y24=>
   (if(!(y24==2))=true then
    some 3
   else
    some 2:Option ((Int))).bind fun r28=>
   (zaT (zbO a0 x0 r20 r28) (r20.2.2,0)).bind fun r36=>
   some (.inl (r36,(IntKind.wrap .i64 (x0.2+1))))
  else
   (zaT (zbP a0 x0 r20) (r20.2.2,0)).bind fun r44=>
   some (.inl (r44,(IntKind.wrap .i64 (x0.2+1))))
 else
  some (.inr x0.1)
theorem zwn (a0:Forest) (x0:List (Int)×Int) (o:(List (Int)×Int)⊕((List (Int)))) (h:zbY a0 x0=some o):Wp prog zqh (zeP a0 x0) (zcP (0,[]) (zeP a0) (zln a0) o):=by
 unfold zbY at h
 delta zqh zeP
 try simp only[go_sem]
 refine zal (fun hc2=> ?_) (fun hc3=> ?_)
 ·rw[if_pos hc2]at h
  try simp only[go_sem]
  obtain⟨r20,hl21,h⟩:=bs h
  refine Wp.loopR zbJ (n:=(0,[])) (a:=zqg) rfl (zeM a0 x0) (zlk a0 x0) (zwk a0 x0) hl21 ?_ (by(repeat(first|refine Clo.block ?_|refine Clo.seq zbJ rfl ?_));(exact Clo.lpost (by decide))) ?_
  ·show Up (0,[]) (zeM a0 x0 (x0.1,[],(IntKind.wrap .i64 (x0.2+1)))) _
   delta zeM
   refine Up.of (N:=19) (N':=19) [] rfl rfl (by decide) ?_ ?_
   ·refine zam.set ?_ (zam.set ?_ (zam.set ?_ (zam.set ?_ (zam.set ?_ (zam.set ?_ zam.none)))))
    all_goals (try simp only[go_sem,List.map_append,List.map_cons,List.map_nil])
    all_goals (first|exact VR.d _|exact VR.ptr' rfl|exact VR.sl'' rfl (by simp))
   refine zar.set (show zax _ _ (Heap.get _ 18)from ?_) (zar.set (show zax _ _ (Heap.get _ 6)from ?_) (zar.set (show zax _ _ (Heap.get _ 0)from ?_) (zar.at)))
   all_goals (try simp only[go_sem,List.map_append,List.map_cons,List.map_nil])
   all_goals (((repeat' first|trivial|exact zax.refl_d|refine zax.els (by simp) ?_|exact VRL.refl_d _ _);done))
  dsimp only[zlk]
  try simp only[go_sem]
  refine zaa (v:= .d (.int .i64 r20.2.1)) (fun hb50=>by simp only[go_sem,hc2,hb50]) ?_
  try simp only[go_sem]
  refine zaa (v:= .ptr 0 0 0) (fun hb49=>by simp only[go_sem,hc2,hb49]) ?_
  try simp only[go_sem]
  refine zaa (v:= .d (.list a0.nodes.n (a0.nodes.l.map zap))) (fun hb48=>by simp only[go_sem,hc2,hb48]) ?_
  try simp only[go_sem]
  refine zaa (v:= .d (.int .i64 (a0.nodes.l.length:Int))) (fun hb47=>by simp only[go_sem,hc2,hb47]) ?_
  try simp only[go_sem]
  refine zaa (v:= .d (.bool (decide (r20.2.1≤(a0.nodes.l.length:Int))))) (fun hb46=>by simp only[go_sem,hc2,hb46]) ?_
  try simp only[go_sem]
  refine zaJ (fun hc22=> ?_) (fun hc23=> ?_)
  ·rw[if_pos hc22]at h
   try simp only[go_sem,hc22]
   obtain⟨y24,hy25,h⟩:=bs h
   try simp only[go_sem,zba hy25,zbz hy25,zbF hy25,zaO hy25,zbb (D.int .i64) hy25]
   obtain⟨r28,hl29,h⟩:=bs h
   refine WBr.cut (n:=(0,[])) .normal ⟨((((((Regs.none.set 1 (.ptr 0 0 0)).set 3 (.sl 6 0 (((IntKind.wrap .i64 ((a0.nodes.l.length:Int)+1))).toNat))).set 5 (mb 18 (r20.1.map fun z=>V.d ((D.int .i64) z)))).set 7 (.d (.int .i64 r28))).set 19 (.d (.int .i64 (a0.nodes.l.length:Int)))).set 20 (.d (.int .i64 x0.2))),((((Heap.at 36).set 0 (some (.els 1 [.d (zac a0)] 0))).set 6 (some (.els 1 (r20.2.2.map fun z=>V.d ((D.int .i64) z)) (0)))).set 18 (mbB 1 r20.1.length (r20.1.map fun z=>V.d ((D.int .i64) z))))⟩ ?_ (by(repeat(first|refine Clo.block ?_|refine Clo.seq zbJ rfl ?_));(exact Clo.lpost (by decide))) ?_
   ·replace h:=hl29
    refine zaE (fun hc26=> ?_) (fun hc27=> ?_)
    ·rw[if_pos (show(!(y24==2))=true by(rw[hc26];rfl))]at h
     try simp only[go_sem,zba hy25,zbz hy25,zbF hy25,zaO hy25,zbb (D.int .i64) hy25]
     cases h
     exact⟨rfl,Up.of (N:=36) (N':=37) [] rfl rfl (by decide) (.set (.d _) (.set (.d _) (.set (.d _) (.set (.mb rfl) (.set (.sl'' rfl (by rfl)) (.set (.ptr' rfl) zam.none)))))) (.set (zax.mb (Nat.le_refl _) (VRL.refl_d _ _)) (.set (zax.arr (e:=(D.int .i64)) (l:=r20.2.2) (by rfl) (by exact Nat.le_refl _)) (.set zax.refl_d zar.at)))⟩
    rw[if_neg (ffn hc27)]at h
    try simp only[go_sem,zba hy25,zbz hy25,zbF hy25,zaO hy25,zbb (D.int .i64) hy25]
    cases h
    exact⟨rfl,Up.of (N:=36) (N':=36) [] rfl rfl (by decide) (.set (.d _) (.set (.d _) (.set (.d _) (.set (.mb rfl) (.set (.sl'' rfl (by rfl)) (.set (.ptr' rfl) zam.none)))))) (.set (zax.mb (Nat.le_refl _) (VRL.refl_d _ _)) (.set (zax.arr (e:=(D.int .i64)) (l:=r20.2.2) (by rfl) (by exact Nat.le_refl _)) (.set zax.refl_d zar.at)))⟩
   try simp only[go_sem,zba hy25,zbz hy25,zbF hy25,zaO hy25,zbb (D.int .i64) hy25]
   obtain⟨r36,hl37,h⟩:=bs h
   refine Wp.loopR zbJ (n:=(0,[])) (a:=ziZ) rfl (zeN a0 x0 r20 r28) (zll a0 x0 r20 r28) (zwl a0 x0 r20 r28) hl37 ?_ (by(repeat(first|refine Clo.block ?_|refine Clo.seq zbJ rfl ?_));(exact Clo.lpost (by decide))) ?_
   ·show Up (0,[]) (zeN a0 x0 r20 r28 (r20.2.2,0)) _
    delta zeN
    exact Up.of (N:=39) (N':=39) [] rfl rfl (by decide) (.set (.d _) (.set (.d _) (.set (.mb rfl) (.set (.d _) (.set (.d _) (.set (.d _) (.set (.sl'' rfl (by rfl)) (.set (.ptr' rfl) zam.none)))))))) (.set (zax.mb (Nat.le_refl _) (VRL.refl_d _ _)) (.set (zax.arr (e:=(D.int .i64)) (l:=r20.2.2) (by rfl) (by exact Nat.le_refl _)) (.set zax.refl_d zar.at)))
   dsimp only[zll]
   try simp only[go_sem,zba hy25,zbz hy25,zbF hy25,zaO hy25,zbb (D.int .i64) hy25]
   cases h
   exact⟨rfl,Up.of (N:=12) (N':=41) [] rfl rfl (by decide) (.set (.d _) (.set (.d _) (.set (.sl'' rfl (by rfl)) (.set (.ptr' rfl) zam.none)))) (.set (zax.arr (e:=(D.int .i64)) (l:=r36) (by rfl) (by exact Nat.le_refl _)) (.set zax.refl_d zar.at))⟩
  rw[if_neg (ff hc23)]at h
  try simp only[go_sem,hc23]
  obtain⟨r44,hl45,h⟩:=bs h
  refine Wp.loopR zbJ (n:=(0,[])) (a:=ziZ) rfl (zeO a0 x0 r20) (zlm a0 x0 r20) (zwm a0 x0 r20) hl45 ?_ (by(repeat(first|refine Clo.block ?_|refine Clo.seq zbJ rfl ?_));(exact Clo.lpost (by decide))) ?_
  ·show Up (0,[]) (zeO a0 x0 r20 (r20.2.2,0)) _
   delta zeO
   exact Up.of (N:=39) (N':=39) [] rfl rfl (by decide) (.set (.d _) (.set (.d _) (.set (.mb rfl) (.set (.d _) (.set (.d _) (.set (.d _) (.set (.sl'' rfl (by rfl)) (.set (.ptr' rfl) zam.none)))))))) (.set (zax.mb (Nat.le_refl _) (VRL.refl_d _ _)) (.set (zax.arr (e:=(D.int .i64)) (l:=r20.2.2) (by rfl) (by exact Nat.le_refl _)) (.set zax.refl_d zar.at)))
  dsimp only[zlm]
  try simp only[go_sem]
  cases h
  exact⟨rfl,Up.of (N:=12) (N':=41) [] rfl rfl (by decide) (.set (.d _) (.set (.d _) (.set (.sl'' rfl (by rfl)) (.set (.ptr' rfl) zam.none)))) (.set (zax.arr (e:=(D.int .i64)) (l:=r44) (by rfl) (by exact Nat.le_refl _)) (.set zax.refl_d zar.at))⟩
 rw[if_neg (ff hc3)]at h
 try simp only[go_sem]
 cases h
 exact⟨rfl,by simp,Up.of (N:=12) (N':=13) [] rfl rfl (by decide) (.set (.sl'' rfl (by rfl)) zam.none) (.set (zax.arr (e:=(D.int .i64)) (l:=x0.1) (by rfl) (by exact Nat.le_refl _)) zar.at)⟩
def zeQ (a0:Forest) (r51:List (Int)) (x4:List (Bool)×Int):St:=⟨((((Regs.none.set 3 (.sl 6 0 (((IntKind.wrap .i64 ((a0.nodes.l.length:Int)+1))).toNat))).set 10 (.sl 14 0 (((IntKind.wrap .i64 ((a0.nodes.l.length:Int)+1))).toNat))).set 87 (.d (.int .i64 (((((IntKind.wrap .i64 ((a0.nodes.l.length:Int)+1))).toNat):Nat):Int)))).set 88 (.d (.int .i64 x4.2))),(((Heap.at 19).set 6 (some (.els 1 (r51.map fun z=>V.d ((D.int .i64) z)) (0)))).set 14 (some (.els 1 (x4.1.map fun z=>V.d (D.bool z)) (0))))⟩
def zlo (a0:Forest) (r51:List (Int)):((List (Bool)))→Ex×St:=fun r=>(.exit 6,⟨(Regs.none.set 10 (.sl 14 0 (((IntKind.wrap .i64 ((a0.nodes.l.length:Int)+1))).toNat))),((Heap.at 19).set 14 (some (.els 1 (r.map fun z=>V.d (D.bool z)) (0))))⟩)
noncomputable def zcv (a0:Forest) (r51:List (Int)) (x4:List (Bool)×Int):Option ((List (Bool)×Int)⊕((List (Bool)))):=
 if(decide (x4.2<(((((IntKind.wrap .i64 ((a0.nodes.l.length:Int)+1))).toNat):Nat):Int)))=true then
  (rdA r51 (((IntKind.wrap .i64 ((a0.nodes.l.length:Int)+1))).toNat) x4.2).bind fun y56=>
  (rdA x4.1 (((IntKind.wrap .i64 ((a0.nodes.l.length:Int)+1))).toNat) x4.2).bind fun y58=>
  some (.inl ((x4.1.set (x4.2).toNat (y56==2)),(IntKind.wrap .i64 (x4.2+1))))
 else
  some (.inr x4.1)
theorem zwo (a0:Forest) (r51:List (Int)) (x4:List (Bool)×Int) (o:(List (Bool)×Int)⊕((List (Bool)))) (h:zcv a0 r51 x4=some o):Wp prog zqi (zeQ a0 r51 x4) (zcP (0,[]) (zeQ a0 r51) (zlo a0 r51) o):=by
 unfold zcv at h
 delta zqi zeQ
 try simp only[go_sem]
 refine zal (fun hc54=> ?_) (fun hc55=> ?_)
 ·rw[if_pos hc54]at h
  try simp only[go_sem]
  obtain⟨y56,hy57,h⟩:=bs h
  try simp only[go_sem,zba hy57,zbz hy57,zbF hy57,zaO hy57,zbb (D.int .i64) hy57]
  obtain⟨y58,hy59,h⟩:=bs h
  try simp only[go_sem,zba hy57,zbz hy57,zbF hy57,zaO hy57,zbb (D.int .i64) hy57,zba hy59,zbz hy59,zbF hy59,zaO hy59,zbb D.bool hy59]
  cases h
  exact⟨rfl,Up.of (N:=19) (N':=33) [] rfl rfl (by decide) (.set (.d _) (.set (.d _) (.set (.sl'' rfl (by rfl)) (.set (.sl'' rfl (by rfl)) zam.none)))) (.set (zax.arr (e:=D.bool) (l:=(x4.1.set (x4.2).toNat (y56==2))) (by rfl) (by exact Nat.le_refl _)) (.set (zax.arr (e:=(D.int .i64)) (l:=r51) (by rfl) (by exact Nat.le_refl _)) zar.at))⟩
 rw[if_neg (ff hc55)]at h
 try simp only[go_sem]
 cases h
 exact⟨rfl,by simp,Up.of (N:=19) (N':=20) [] rfl rfl (by decide) (.set (.sl'' rfl (by rfl)) zam.none) (.set (zax.arr (e:=D.bool) (l:=x4.1) (by rfl) (by exact Nat.le_refl _)) zar.at)⟩
noncomputable def zIR (a0:Forest):Option (Sl (Bool)):=
 if 0≤(IntKind.wrap .i64 ((a0.nodes.l.length:Int)+1))∧((IntKind.wrap .i64 ((a0.nodes.l.length:Int)+1))).toNat*8≤AI.roomBytes then
  (zaT (zbY a0) ((List.replicate ((IntKind.wrap .i64 ((a0.nodes.l.length:Int)+1))).toNat 0),0)).bind fun r51=>
  if 0≤((((IntKind.wrap .i64 ((a0.nodes.l.length:Int)+1))).toNat:Nat):Int)∧(((IntKind.wrap .i64 ((a0.nodes.l.length:Int)+1))).toNat)*1≤AI.roomBytes then
   (zaT (zcv a0 r51) ((List.replicate (((IntKind.wrap .i64 ((a0.nodes.l.length:Int)+1))).toNat) false),0)).bind fun r60=>
   if r60.length=(((IntKind.wrap .i64 ((a0.nodes.l.length:Int)+1))).toNat)then
    some (⟨false,r60⟩)
   else none
  else none
 else none
theorem zIS (a0:Forest) (r:Sl (Bool)) (h:zIR a0=some r):pc prog 191 [zac a0]=some ((eSl D.bool) r):=by
 unfold zIR at h
 refine zbt (fn:=zHL) rfl rfl ?_
 delta zHL
 try simp only[go_sem]
 obtain⟨hm1,h⟩:=zds h
 simp only[go_sem,zit,ziu,hm1.1,hm1.2,Nat.le_refl,and_self,if_true,Option.bind_some,zvS,zpX,zvT]
 obtain⟨r51,hl52,h⟩:=bs h
 refine Wp.loopR zbJ (n:=(0,[])) (a:=zqh) rfl (zeP a0) (zln a0) (zwn a0) hl52 ?_ (by(repeat(first|refine Clo.block ?_|refine Clo.seq zbJ rfl ?_));(exact Clo.ret)) ?_
 ·show Up (0,[]) (zeP a0 ((List.replicate ((IntKind.wrap .i64 ((a0.nodes.l.length:Int)+1))).toNat 0),0)) _
  delta zeP
  exact Up.of (N:=12) (N':=12) [] rfl rfl (by decide) (.set (.d _) (.set (.d _) (.set (.sl'' rfl (by rfl)) (.set (.ptr' rfl) zam.none)))) (.set (zax.arr (e:=(D.int .i64)) (l:=(List.replicate ((IntKind.wrap .i64 ((a0.nodes.l.length:Int)+1))).toNat 0)) (by rfl) (by exact Nat.le_refl _)) (.set zax.refl_d zar.at))
 dsimp only[zln]
 try simp only[go_sem,hm1.1,hm1.2]
 obtain⟨hm53,h⟩:=zds h
 simp only[go_sem,hm1.1,hm1.2,zit,ziu,hm53.1,hm53.2,Nat.le_refl,and_self,if_true,Option.bind_some,zvS,zpX,zvT]
 obtain⟨r60,hl61,h⟩:=bs h
 refine Wp.loopR zbJ (n:=(0,[])) (a:=zqi) rfl (zeQ a0 r51) (zlo a0 r51) (zwo a0 r51) hl61 ?_ (by(repeat(first|refine Clo.block ?_|refine Clo.seq zbJ rfl ?_));(exact Clo.ret)) ?_
 ·show Up (0,[]) (zeQ a0 r51 ((List.replicate (((IntKind.wrap .i64 ((a0.nodes.l.length:Int)+1))).toNat) false),0)) _
  delta zeQ
  exact Up.of (N:=19) (N':=19) [] rfl rfl (by decide) (.set (.d _) (.set (.d _) (.set (.sl'' rfl (by rfl)) (.set (.sl'' rfl (by rfl)) zam.none)))) (.set (zax.arr (e:=D.bool) (l:=(List.replicate (((IntKind.wrap .i64 ((a0.nodes.l.length:Int)+1))).toNat) false)) (by rfl) (by exact Nat.le_refl _)) (.set (zax.arr (e:=(D.int .i64)) (l:=r51) (by rfl) (by exact Nat.le_refl _)) zar.at))
 dsimp only[zlo]
 try simp only[go_sem,hm1.1,hm1.2,hm53.1,hm53.2]
 obtain⟨hq62,h⟩:=zds h
 cases h
 refine Reads.ofv (v':= .sl 14 0 (((IntKind.wrap .i64 ((a0.nodes.l.length:Int)+1))).toNat)) (by rfl) (Rd.sl (e:=D.bool) (l:=r60) (sz:=1) (fz:=0) (m:=r60.map fun z=>V.d (D.bool z)) (by simp only[go_sem,List.map_append,List.map_cons,List.map_nil,hm1.1,hm1.2,hm53.1,hm53.2,hq62]) rfl (by exact hq62)) rfl
noncomputable def zIT (a0:Node):Option (Bool):=
 (dec zaD (pc prog 215 [.int .u8 a0.kind])).bind fun r1=>
 (if r1.known=true then
  (dec D.bool (pc prog 216 [zap a0,zaD r1])).bind fun r5=>
  if r5=true then
   (dec D.bool (pc prog 217 [.list a0.attrs.n (a0.attrs.l.map zbu)])).bind fun r9=>
   some (!r9)
  else
   some true
 else
  some true:Option ((Bool))).bind fun r13=>
 if r13=true then
  some false
 else
  (dec D.bool (pc prog 218 [.list false (([a0.public_,a0.system]).map D.str)])).bind fun r17=>
  if r17=true then
   (if(!(a0.kind==10))=true then
    some (bif (!(a0.public_==[]))then true else(!(a0.system==[])))
   else
    some false:Option ((Bool))).bind fun r23=>
   if r23=true then
    some false
   else
    (if(!(decide (16384<(a0.data.l.length:Int))))=true then
     if(!(bif (!r1.data)then(decide (0<(a0.data.l.length:Int)))else false))=true then
      some (bif (!r1.kids)then(decide (0<(a0.kids.l.length:Int)))else false)
     else
      some true
    else
     some true:Option ((Bool))).bind fun r47=>
    (if r47=true then
     some (.inr ())
    else
     if(!(a0.kind==1))=true then
      if(!(bif (decide (0<(a0.attrs.l.length:Int)))then true else(!(a0.shadow==0))))=true then
       if(bif (!(a0.kind==9))then a0.hTML else false)=true then
        some (.inr ())
       else
        if(bif (!r1.hung)then(!(a0.parent==0))else false)=true then
         some (.inr ())
        else
         some (.inl ())
      else
       some (.inr ())
     else
      if(bif (!(a0.kind==9))then a0.hTML else false)=true then
       some (.inr ())
      else
       if(bif (!r1.hung)then(!(a0.parent==0))else false)=true then
        some (.inr ())
       else
        some (.inl ()):Option ((Unit)⊕(Unit))).bind fun r95=>
    match r95 with
    |(.inl q97)=>
     if(a0.kind==12)=true then
      some (bif (a0.mode==1)then true else(a0.mode==2))
     else
      some (bif (bif (a0.mode==0)then(!a0.manual)else false)then(a0.host==0)else false)
    |(.inr q109)=>
     some false
  else
   some false
theorem zIU (a0:Node) (r:Bool) (h:zIT a0=some r):pc prog 192 [zap a0]=some (D.bool r):=by
 unfold zIT at h
 refine zbt (fn:=zHM) rfl rfl ?_
 delta zHM
 try simp only[go_sem]
 obtain⟨r1,hr2,h⟩:=bs h
 replace hr2:=zao hr2
 refine zaq hr2 ?_
 try simp only[go_sem]
 refine zaa (v:= .d (zap a0)) (fun hb158=>by simp only[go_sem,hb158]) ?_
 try simp only[go_sem]
 refine zaa (v:= .d (zaD r1)) (fun hb157=>by simp only[go_sem,hb157]) ?_
 try simp only[go_sem]
 obtain⟨r13,hl14,h⟩:=bs h
 refine zbR.cut (n:=(0,[])) .normal ⟨((((Regs.none.set 1 (.ptr 0 0 0)).set 3 (.ptr 5 0 0)).set 4 (.d (.bool (a0.kind==1)))).set 11 (.d (.bool r13))),(((Heap.at 27).set 0 (some (.els 16 [.d (zap a0)] 0))).set 5 (some (.els 6 [.d (zaD r1)] 0)))⟩ ?_ (by(repeat(first|refine Clo.block ?_|refine Clo.seq zbJ rfl ?_));(exact Clo.ret)) ?_
 ·replace h:=hl14
  refine zaJ (fun hc3=> ?_) (fun hc4=> ?_)
  ·rw[if_pos hc3]at h
   try simp only[go_sem,hc3]
   obtain⟨r5,hr6,h⟩:=bs h
   replace hr6:=zao hr6
   refine zaq hr6 ?_
   try simp only[go_sem]
   refine zaa (v:= .ptr 0 0 7) (fun hb12=>by simp only[go_sem,hc3,hb12]) ?_
   try simp only[go_sem]
   refine zaa (v:= .d (.list a0.attrs.n (a0.attrs.l.map zbu))) (fun hb11=>by simp only[go_sem,hc3,hb11]) ?_
   try simp only[go_sem]
   refine zaJ (fun hc7=> ?_) (fun hc8=> ?_)
   ·rw[if_pos hc7]at h
    try simp only[go_sem,hc7]
    obtain⟨r9,hr10,h⟩:=bs h
    replace hr10:=zao hr10
    refine zaq hr10 ?_
    try simp only[go_sem]
    cases h
    exact⟨rfl,Up.of (N:=27) (N':=27) [] rfl rfl (by decide) (.set (.d _) (.set (.d _) (.set (.ptr' rfl) (.set (.ptr' rfl) zam.none)))) (.set zax.refl_d (.set zax.refl_d zar.at))⟩
   rw[if_neg (ff hc8)]at h
   try simp only[go_sem,hc8]
   cases h
   exact⟨rfl,Up.of (N:=27) (N':=27) [] rfl rfl (by decide) (.set (.d _) (.set (.d _) (.set (.ptr' rfl) (.set (.ptr' rfl) zam.none)))) (.set zax.refl_d (.set zax.refl_d zar.at))⟩
  rw[if_neg (ff hc4)]at h
  try simp only[go_sem,hc4]
  cases h
  exact⟨rfl,Up.of (N:=27) (N':=27) [] rfl rfl (by decide) (.set (.d _) (.set (.d _) (.set (.ptr' rfl) (.set (.ptr' rfl) zam.none)))) (.set zax.refl_d (.set zax.refl_d zar.at))⟩
 try simp only[go_sem]
 refine zal (fun hc15=> ?_) (fun hc16=> ?_)
 ·rw[if_pos hc15]at h
  try simp only[go_sem]
  cases h
  rfl
 rw[if_neg (ff hc16)]at h
 try simp only[go_sem]
 obtain⟨r17,hr18,h⟩:=bs h
 replace hr18:=zao hr18
 refine zaq hr18 ?_
 try simp only[go_sem]
 refine zaa (v:= .ptr 0 0 0) (fun hb156=>by simp only[go_sem,hc16,hb156]) ?_
 try simp only[go_sem]
 refine zaa (v:= .d (.int .u8 a0.kind)) (fun hb155=>by simp only[go_sem,hc16,hb155]) ?_
 try simp only[go_sem]
 refine zaa (v:= .d (.bool (!(a0.kind==10)))) (fun hb154=>by simp only[go_sem,hc16,hb154]) ?_
 try simp only[go_sem]
 refine zaa (v:= .d (.bool (!(a0.kind==10)))) (fun hb153=>by simp only[go_sem,hc16,hb153]) ?_
 try simp only[go_sem]
 refine zaa (v:= .ptr 0 0 4) (fun hb150=>by((obtain⟨hb151,hb152⟩:=zay hb150));simp only[go_sem,hc16,hb152,hb151]) ?_
 try simp only[go_sem]
 refine zaa (v:= .d (.str a0.public_)) (fun hb147=>by((obtain⟨hb148,hb149⟩:=zay hb147));simp only[go_sem,hc16,hb149,hb148]) ?_
 try simp only[go_sem]
 refine zaa (v:= .d (.bool (!(a0.public_==[])))) (fun hb144=>by((obtain⟨hb145,hb146⟩:=zay hb144));simp only[go_sem,hc16,hb146,hb145]) ?_
 try simp only[go_sem]
 refine zaa (v:= .d (.bool (!(a0.public_==[])))) (fun hb141=>by((obtain⟨hb142,hb143⟩:=zay hb141));simp only[go_sem,hc16,hb143,hb142]) ?_
 try simp only[go_sem]
 refine zaa (v:= .ptr 0 0 5) (fun hb136=>by((obtain⟨hb137,hb138⟩:=zay hb136);(obtain⟨hb139,hb140⟩:=zay hb137));simp only[go_sem,hc16,hb138,hb140,hb139]) ?_
 try simp only[go_sem]
 refine zaa (v:= .d (.str a0.system)) (fun hb131=>by((obtain⟨hb132,hb133⟩:=zay hb131);(obtain⟨hb134,hb135⟩:=zay hb132));simp only[go_sem,hc16,hb133,hb135,hb134]) ?_
 try simp only[go_sem]
 refine zaa (v:= .d (.bool (!(a0.system==[])))) (fun hb126=>by((obtain⟨hb127,hb128⟩:=zay hb126);(obtain⟨hb129,hb130⟩:=zay hb127));simp only[go_sem,hc16,hb128,hb130,hb129]) ?_
 try simp only[go_sem]
 rcases Bool.eq_false_or_eq_true (r17)with hc19|hc20
 ·rw[if_pos hc19]at h
  try simp only[go_sem,hc19]
  obtain⟨r23,hl24,h⟩:=bs h
  refine zbR.cut (n:=(0,[])) .normal ⟨((((Regs.none.set 1 (.ptr 0 0 0)).set 3 (.ptr 5 0 0)).set 4 (.d (.bool (a0.kind==1)))).set 27 (.d (.bool r23))),(((Heap.at 50).set 0 (some (.els 16 [.d (zap a0)] 0))).set 5 (some (.els 6 [.d (zaD r1)] 0)))⟩ ?_ (by(repeat(first|refine Clo.block ?_|refine Clo.seq zbJ rfl ?_));(exact Clo.ret)) ?_
  ·replace h:=hl24
   refine zaF (fun hc21=> ?_) (fun hc22=> ?_)
   ·rw[if_pos (show(!(a0.kind==10))=true by(rw[hc21];rfl))]at h
    try simp only[go_sem,hc21]
    try simp only[go_sem,hc16,hc19,hc21]
    cases h
    exact⟨rfl,Up.of (N:=50) (N':=50) [] rfl rfl (by decide) (.set (.d _) (.set (.d _) (.set (.ptr' rfl) (.set (.ptr' rfl) zam.none)))) (.set zax.refl_d (.set zax.refl_d zar.at))⟩
   rw[if_neg (ffn hc22)]at h
   try simp only[go_sem,hc22]
   try simp only[go_sem,hc16,hc19,hc22]
   cases h
   exact⟨rfl,Up.of (N:=50) (N':=50) [] rfl rfl (by decide) (.set (.d _) (.set (.d _) (.set (.ptr' rfl) (.set (.ptr' rfl) zam.none)))) (.set zax.refl_d (.set zax.refl_d zar.at))⟩
  try simp only[go_sem]
  refine zal (fun hc25=> ?_) (fun hc26=> ?_)
  ·rw[if_pos hc25]at h
   try simp only[go_sem]
   cases h
   rfl
  rw[if_neg (ff hc26)]at h
  try simp only[go_sem]
  refine zaa (v:= .ptr 5 0 1) (fun hb125=>by simp only[go_sem,hc16,hc19,hc26,hb125]) ?_
  try simp only[go_sem]
  refine zaa (v:= .d (.bool r1.data)) (fun hb124=>by simp only[go_sem,hc16,hc19,hc26,hb124]) ?_
  try simp only[go_sem]
  refine zaa (v:= .d (.bool (!r1.data))) (fun hb123=>by simp only[go_sem,hc16,hc19,hc26,hb123]) ?_
  try simp only[go_sem]
  refine zaa (v:= .d (.bool (!r1.data))) (fun hb122=>by simp only[go_sem,hc16,hc19,hc26,hb122]) ?_
  try simp only[go_sem]
  refine zaa (v:= .ptr 0 0 6) (fun hb119=>by((obtain⟨hb120,hb121⟩:=zay hb119));simp only[go_sem,hc16,hc19,hc26,hb121,hb120]) ?_
  try simp only[go_sem]
  refine zaa (v:= .d (.list a0.data.n (a0.data.l.map (D.int .u16)))) (fun hb116=>by((obtain⟨hb117,hb118⟩:=zay hb116));simp only[go_sem,hc16,hc19,hc26,hb118,hb117]) ?_
  try simp only[go_sem]
  refine zaa (v:= .d (.int .i64 (a0.data.l.length:Int))) (fun hb113=>by((obtain⟨hb114,hb115⟩:=zay hb113));simp only[go_sem,hc16,hc19,hc26,hb115,hb114]) ?_
  try simp only[go_sem]
  refine zaa (v:= .d (.bool (decide (0<(a0.data.l.length:Int))))) (fun hb110=>by((obtain⟨hb111,hb112⟩:=zay hb110));simp only[go_sem,hc16,hc19,hc26,hb112,hb111]) ?_
  try simp only[go_sem]
  obtain⟨r47,hl48,h⟩:=bs h
  refine zbR.cut (n:=(0,[])) .normal ⟨((((Regs.none.set 1 (.ptr 0 0 0)).set 3 (.ptr 5 0 0)).set 4 (.d (.bool (a0.kind==1)))).set 50 (.d (.bool r47))),(((Heap.at 77).set 0 (some (.els 16 [.d (zap a0)] 0))).set 5 (some (.els 6 [.d (zaD r1)] 0)))⟩ ?_ (by(repeat(first|refine Clo.block ?_|refine Clo.seq zbJ rfl ?_));(exact Clo.ret)) ?_
  ·replace h:=hl48
   refine zaF (fun hc27=> ?_) (fun hc28=> ?_)
   ·rw[if_pos (show(!(decide (16384<(a0.data.l.length:Int))))=true by(rw[hc27];rfl))]at h
    try simp only[go_sem,hc27]
    refine zaa (v:= .ptr 5 0 2) (fun hb46=>by simp only[go_sem,hc16,hc19,hc26,hc27,hb46]) ?_
    try simp only[go_sem]
    refine zaa (v:= .d (.bool r1.kids)) (fun hb45=>by simp only[go_sem,hc16,hc19,hc26,hc27,hb45]) ?_
    try simp only[go_sem]
    refine zaa (v:= .d (.bool (!r1.kids))) (fun hb44=>by simp only[go_sem,hc16,hc19,hc26,hc27,hb44]) ?_
    try simp only[go_sem]
    refine zaa (v:= .d (.bool (!r1.kids))) (fun hb43=>by simp only[go_sem,hc16,hc19,hc26,hc27,hb43]) ?_
    try simp only[go_sem]
    refine zaa (v:= .ptr 0 0 9) (fun hb40=>by((obtain⟨hb41,hb42⟩:=zay hb40));simp only[go_sem,hc16,hc19,hc26,hc27,hb42,hb41]) ?_
    try simp only[go_sem]
    refine zaa (v:= .d (.list a0.kids.n (a0.kids.l.map (D.int .i64)))) (fun hb37=>by((obtain⟨hb38,hb39⟩:=zay hb37));simp only[go_sem,hc16,hc19,hc26,hc27,hb39,hb38]) ?_
    try simp only[go_sem]
    refine zaa (v:= .d (.int .i64 (a0.kids.l.length:Int))) (fun hb34=>by((obtain⟨hb35,hb36⟩:=zay hb34));simp only[go_sem,hc16,hc19,hc26,hc27,hb36,hb35]) ?_
    try simp only[go_sem]
    refine zaa (v:= .d (.bool (decide (0<(a0.kids.l.length:Int))))) (fun hb31=>by((obtain⟨hb32,hb33⟩:=zay hb31));simp only[go_sem,hc16,hc19,hc26,hc27,hb33,hb32]) ?_
    try simp only[go_sem]
    refine zaF (fun hc29=> ?_) (fun hc30=> ?_)
    ·rw[if_pos (show(!(bif (!r1.data)then(decide (0<(a0.data.l.length:Int)))else false))=true by(rw[hc29];rfl))]at h
     try simp only[go_sem,hc29]
     cases h
     exact⟨rfl,Up.of (N:=77) (N':=77) [] rfl rfl (by decide) (.set (.d _) (.set (.d _) (.set (.ptr' rfl) (.set (.ptr' rfl) zam.none)))) (.set zax.refl_d (.set zax.refl_d zar.at))⟩
    rw[if_neg (ffn hc30)]at h
    try simp only[go_sem,hc30]
    cases h
    exact⟨rfl,Up.of (N:=77) (N':=77) [] rfl rfl (by decide) (.set (.d _) (.set (.d _) (.set (.ptr' rfl) (.set (.ptr' rfl) zam.none)))) (.set zax.refl_d (.set zax.refl_d zar.at))⟩
   rw[if_neg (ffn hc28)]at h
   try simp only[go_sem,hc28]
   cases h
   exact⟨rfl,Up.of (N:=77) (N':=77) [] rfl rfl (by decide) (.set (.d _) (.set (.d _) (.set (.ptr' rfl) (.set (.ptr' rfl) zam.none)))) (.set zax.refl_d (.set zax.refl_d zar.at))⟩
  try simp only[go_sem]
  obtain⟨r95,hl96,h⟩:=bs h
  refine WBr.cut (n:=(0,[])) ((fun r=>match r with|(.inl r)=>(.normal,⟨(Regs.none.set 1 (.ptr 0 0 0)),((Heap.at 77).set 0 (some (.els 16 [.d (zap a0)] 0)))⟩)|(.inr r)=>(.ret,⟨(Regs.none.set 2 (.d (.bool false))),(Heap.at 77)⟩):((Unit)⊕(Unit))→Ex×St) r95).1 ((fun r=>match r with|(.inl r)=>(.normal,⟨(Regs.none.set 1 (.ptr 0 0 0)),((Heap.at 77).set 0 (some (.els 16 [.d (zap a0)] 0)))⟩)|(.inr r)=>(.ret,⟨(Regs.none.set 2 (.d (.bool false))),(Heap.at 77)⟩):((Unit)⊕(Unit))→Ex×St) r95).2 ?_ (by(repeat(first|refine Clo.block ?_|refine Clo.seq zbJ rfl ?_));(exact Clo.ret)) ?_
  ·replace h:=hl96
   refine zal (fun hc49=> ?_) (fun hc50=> ?_)
   ·rw[if_pos hc49]at h
    try simp only[go_sem]
    cases h
    exact⟨rfl,Up.of (N:=77) (N':=78) [] rfl rfl (by decide) (.set (.d _) zam.none) zar.at⟩
   rw[if_neg (ff hc50)]at h
   try simp only[go_sem]
   refine zaa (v:= .ptr 0 0 7) (fun hb94=>by simp only[go_sem,hc16,hc19,hc26,hc50,hb94]) ?_
   try simp only[go_sem]
   refine zaa (v:= .d (.list a0.attrs.n (a0.attrs.l.map zbu))) (fun hb93=>by simp only[go_sem,hc16,hc19,hc26,hc50,hb93]) ?_
   try simp only[go_sem]
   refine zaa (v:= .d (.int .i64 (a0.attrs.l.length:Int))) (fun hb92=>by simp only[go_sem,hc16,hc19,hc26,hc50,hb92]) ?_
   try simp only[go_sem]
   refine zaa (v:= .d (.bool (decide (0<(a0.attrs.l.length:Int))))) (fun hb91=>by simp only[go_sem,hc16,hc19,hc26,hc50,hb91]) ?_
   try simp only[go_sem]
   refine zaa (v:= .d (.bool (decide (0<(a0.attrs.l.length:Int))))) (fun hb90=>by simp only[go_sem,hc16,hc19,hc26,hc50,hb90]) ?_
   try simp only[go_sem]
   refine zaa (v:= .ptr 0 0 12) (fun hb87=>by((obtain⟨hb88,hb89⟩:=zay hb87));simp only[go_sem,hc16,hc19,hc26,hc50,hb89,hb88]) ?_
   try simp only[go_sem]
   refine zaa (v:= .d (.int .i64 a0.shadow)) (fun hb84=>by((obtain⟨hb85,hb86⟩:=zay hb84));simp only[go_sem,hc16,hc19,hc26,hc50,hb86,hb85]) ?_
   try simp only[go_sem]
   refine zaa (v:= .d (.bool (!(a0.shadow==0)))) (fun hb81=>by((obtain⟨hb82,hb83⟩:=zay hb81));simp only[go_sem,hc16,hc19,hc26,hc50,hb83,hb82]) ?_
   try simp only[go_sem]
   refine zaF (fun hc51=> ?_) (fun hc52=> ?_)
   ·rw[if_pos (show(!(a0.kind==1))=true by(rw[hc51];rfl))]at h
    try simp only[go_sem,hc51]
    refine zaa (v:= .ptr 0 0 0) (fun hb71=>by simp only[go_sem,hc16,hc19,hc26,hc50,hc51,hb71]) ?_
    try simp only[go_sem]
    refine zaa (v:= .d (.int .u8 a0.kind)) (fun hb70=>by simp only[go_sem,hc16,hc19,hc26,hc50,hc51,hb70]) ?_
    try simp only[go_sem]
    refine zaa (v:= .d (.bool (!(a0.kind==9)))) (fun hb69=>by simp only[go_sem,hc16,hc19,hc26,hc50,hc51,hb69]) ?_
    try simp only[go_sem]
    refine zaa (v:= .d (.bool (!(a0.kind==9)))) (fun hb68=>by simp only[go_sem,hc16,hc19,hc26,hc50,hc51,hb68]) ?_
    try simp only[go_sem]
    refine zaa (v:= .ptr 0 0 15) (fun hb65=>by((obtain⟨hb66,hb67⟩:=zay hb65));simp only[go_sem,hc16,hc19,hc26,hc50,hc51,hb67,hb66]) ?_
    try simp only[go_sem]
    refine zaa (v:= .d (.bool a0.hTML)) (fun hb62=>by((obtain⟨hb63,hb64⟩:=zay hb62));simp only[go_sem,hc16,hc19,hc26,hc50,hc51,hb64,hb63]) ?_
    try simp only[go_sem]
    refine zaF (fun hc53=> ?_) (fun hc54=> ?_)
    ·rw[if_pos (show(!(bif (decide (0<(a0.attrs.l.length:Int)))then true else(!(a0.shadow==0))))=true by(rw[hc53];rfl))]at h
     try simp only[go_sem,hc53]
     refine zal (fun hc55=> ?_) (fun hc56=> ?_)
     ·rw[if_pos hc55]at h
      try simp only[go_sem]
      cases h
      exact⟨rfl,Up.of (N:=77) (N':=101) [] rfl rfl (by decide) (.set (.d _) zam.none) zar.at⟩
     rw[if_neg (ff hc56)]at h
     try simp only[go_sem]
     refine zaa (v:= .ptr 0 0 8) (fun hb61=>by simp only[go_sem,hc16,hc19,hc26,hc50,hc51,hc53,hc56,hb61]) ?_
     try simp only[go_sem]
     refine zaa (v:= .d (.int .i64 a0.parent)) (fun hb60=>by simp only[go_sem,hc16,hc19,hc26,hc50,hc51,hc53,hc56,hb60]) ?_
     try simp only[go_sem]
     refine zaa (v:= .d (.bool (!(a0.parent==0)))) (fun hb59=>by simp only[go_sem,hc16,hc19,hc26,hc50,hc51,hc53,hc56,hb59]) ?_
     try simp only[go_sem]
     refine zal (fun hc57=> ?_) (fun hc58=> ?_)
     ·rw[if_pos hc57]at h
      try simp only[go_sem]
      cases h
      exact⟨rfl,Up.of (N:=77) (N':=110) [] rfl rfl (by decide) (.set (.d _) zam.none) zar.at⟩
     rw[if_neg (ff hc58)]at h
     try simp only[go_sem]
     cases h
     exact⟨rfl,Up.of (N:=77) (N':=109) [] rfl rfl (by decide) (.set (.ptr' rfl) zam.none) (.set zax.refl_d zar.at)⟩
    rw[if_neg (ffn hc54)]at h
    try simp only[go_sem,hc54]
    cases h
    exact⟨rfl,Up.of (N:=77) (N':=101) [] rfl rfl (by decide) (.set (.d _) zam.none) zar.at⟩
   rw[if_neg (ffn hc52)]at h
   try simp only[go_sem,hc52]
   refine zaa (v:= .ptr 0 0 15) (fun hb80=>by simp only[go_sem,hc16,hc19,hc26,hc50,hc52,hb80]) ?_
   try simp only[go_sem]
   refine zaa (v:= .d (.bool a0.hTML)) (fun hb79=>by simp only[go_sem,hc16,hc19,hc26,hc50,hc52,hb79]) ?_
   try simp only[go_sem]
   refine zal (fun hc72=> ?_) (fun hc73=> ?_)
   ·rw[if_pos hc72]at h
    try simp only[go_sem]
    cases h
    exact⟨rfl,Up.of (N:=77) (N':=101) [] rfl rfl (by decide) (.set (.d _) zam.none) zar.at⟩
   rw[if_neg (ff hc73)]at h
   try simp only[go_sem]
   refine zaa (v:= .ptr 0 0 8) (fun hb78=>by simp only[go_sem,hc16,hc19,hc26,hc50,hc52,hc73,hb78]) ?_
   try simp only[go_sem]
   refine zaa (v:= .d (.int .i64 a0.parent)) (fun hb77=>by simp only[go_sem,hc16,hc19,hc26,hc50,hc52,hc73,hb77]) ?_
   try simp only[go_sem]
   refine zaa (v:= .d (.bool (!(a0.parent==0)))) (fun hb76=>by simp only[go_sem,hc16,hc19,hc26,hc50,hc52,hc73,hb76]) ?_
   try simp only[go_sem]
   refine zal (fun hc74=> ?_) (fun hc75=> ?_)
   ·rw[if_pos hc74]at h
    try simp only[go_sem]
    cases h
    exact⟨rfl,Up.of (N:=77) (N':=110) [] rfl rfl (by decide) (.set (.d _) zam.none) zar.at⟩
   rw[if_neg (ff hc75)]at h
   try simp only[go_sem]
   cases h
   exact⟨rfl,Up.of (N:=77) (N':=109) [] rfl rfl (by decide) (.set (.ptr' rfl) zam.none) (.set zax.refl_d zar.at)⟩
  rcases r95 with(q97|q109)
  ·dsimp only at h⊢
   try simp only[go_sem]
   refine zal (fun hc98=> ?_) (fun hc99=> ?_)
   ·rw[if_pos hc98]at h
    try simp only[go_sem]
    refine zaa (v:= .ptr 0 0 13) (fun hb102=>by simp only[go_sem,hc16,hc19,hc26,hc98,hb102]) ?_
    try simp only[go_sem]
    refine zaa (v:= .d (.int .u8 a0.mode)) (fun hb101=>by simp only[go_sem,hc16,hc19,hc26,hc98,hb101]) ?_
    try simp only[go_sem]
    refine zaa (v:= .d (.bool (a0.mode==2))) (fun hb100=>by simp only[go_sem,hc16,hc19,hc26,hc98,hb100]) ?_
    try simp only[go_sem]
    cases h
    rfl
   rw[if_neg (ff hc99)]at h
   try simp only[go_sem]
   refine zaa (v:= .ptr 0 0 14) (fun hb108=>by simp only[go_sem,hc16,hc19,hc26,hc99,hb108]) ?_
   try simp only[go_sem]
   refine zaa (v:= .d (.bool a0.manual)) (fun hb107=>by simp only[go_sem,hc16,hc19,hc26,hc99,hb107]) ?_
   try simp only[go_sem]
   refine zaa (v:= .d (.bool (!a0.manual))) (fun hb106=>by simp only[go_sem,hc16,hc19,hc26,hc99,hb106]) ?_
   try simp only[go_sem]
   refine zaa (v:= .ptr 0 0 11) (fun hb105=>by simp only[go_sem,hc16,hc19,hc26,hc99,hb105]) ?_
   try simp only[go_sem]
   refine zaa (v:= .d (.int .i64 a0.host)) (fun hb104=>by simp only[go_sem,hc16,hc19,hc26,hc99,hb104]) ?_
   try simp only[go_sem]
   refine zaa (v:= .d (.bool (a0.host==0))) (fun hb103=>by simp only[go_sem,hc16,hc19,hc26,hc99,hb103]) ?_
   try simp only[go_sem]
   cases h
   rfl
  dsimp only at h⊢
  try simp only[go_sem]
  cases h
  rfl
 rw[if_neg (ff hc20)]at h
 try simp only[go_sem,hc20]
 cases h
 rfl
noncomputable def zIV (a0:Forest) (a1:Int):Option (Bool):=
 (rd a0.nodes.l (IntKind.wrap .i64 (a1-1))).bind fun y1=>
 (if(!(y1.parent==0))=true then
  (dec (eT2 zap D.bool) (pc prog 219 [zac a0,.int .i64 y1.parent])).bind fun r5=>
  (if r5.2=true then
   (dec D.bool (pc prog 220 [.list r5.1.kids.n (r5.1.kids.l.map (D.int .i64)),.int .i64 a1])).bind fun r9=>
   some (!r9)
  else
   some true:Option ((Bool))).bind fun r11=>
  if r11=true then
   some (.inr ())
  else
   some (.inl ())
 else
  some (.inl ()):Option ((Unit)⊕(Unit))).bind fun r18=>
 match r18 with
 |(.inl q20)=>
  (dec (D.int .u8) (pc prog 221 [zac a0,.int .i64 y1.doc])).bind fun r21=>
  (if(r21==9)=true then
   some (bif (y1.kind==9)then(!(y1.doc==a1))else false)
  else
   some true:Option ((Bool))).bind fun r25=>
  if r25=true then
   some false
  else
   (if(!(y1.shadow==0))=true then
    (dec (eT2 zap D.bool) (pc prog 219 [zac a0,.int .i64 y1.shadow])).bind fun r31=>
    if(bif (bif (!r31.2)then true else(!(r31.1.kind==12)))then true else(!(r31.1.host==a1)))=true then
     some (.inr ())
    else
     some (.inl ())
   else
    some (.inl ()):Option ((Unit)⊕(Unit))).bind fun r42=>
   match r42 with
   |(.inl q44)=>
    if(y1.kind==12)=true then
     (dec (eT2 zap D.bool) (pc prog 219 [zac a0,.int .i64 y1.host])).bind fun r47=>
     if(bif (bif (bif (!r47.2)then true else(!(r47.1.kind==1)))then true else(!(r47.1.shadow==a1)))then true else(!(r47.1.doc==y1.doc)))=true then
      some false
     else
      (dec D.bool (pc prog 222 [zac a0,.int .i64 a1,zap y1])).bind fun r51=>
      some r51
    else
     (dec D.bool (pc prog 222 [zac a0,.int .i64 a1,zap y1])).bind fun r65=>
     some r65
   |(.inr q67)=>
    some false
 |(.inr q84)=>
  some false
theorem zIW (a0:Forest) (a1:Int) (r:Bool) (h:zIV a0 a1=some r):pc prog 193 [zac a0,.int .i64 a1]=some (D.bool r):=by
 unfold zIV at h
 refine zbt (fn:=zHN) rfl rfl ?_
 delta zHN
 try simp only[go_sem]
 obtain⟨y1,hy2,h⟩:=bs h
 try simp only[go_sem,zad hy2,zak hy2,zae zap hy2]
 obtain⟨r18,hl19,h⟩:=bs h
 refine WBr.cut (n:=(0,[])) ((fun r=>match r with|(.inl r)=>(.normal,⟨(((Regs.none.set 1 (.d (.int .i64 a1))).set 2 (.ptr 0 0 0)).set 5 (.ptr 8 0 0)),(((Heap.at 13).set 0 (some (.els 1 [.d (zac a0)] 0))).set 8 (some (.els 16 [.d (zap y1)] 0)))⟩)|(.inr r)=>(.ret,⟨(Regs.none.set 4 (.d (.bool false))),(Heap.at 13)⟩):((Unit)⊕(Unit))→Ex×St) r18).1 ((fun r=>match r with|(.inl r)=>(.normal,⟨(((Regs.none.set 1 (.d (.int .i64 a1))).set 2 (.ptr 0 0 0)).set 5 (.ptr 8 0 0)),(((Heap.at 13).set 0 (some (.els 1 [.d (zac a0)] 0))).set 8 (some (.els 16 [.d (zap y1)] 0)))⟩)|(.inr r)=>(.ret,⟨(Regs.none.set 4 (.d (.bool false))),(Heap.at 13)⟩):((Unit)⊕(Unit))→Ex×St) r18).2 ?_ (by(repeat(refine Clo.seq zbJ rfl ?_));(exact Clo.ret)) ?_
 ·replace h:=hl19
  refine zaE (fun hc3=> ?_) (fun hc4=> ?_)
  ·rw[if_pos (show(!(y1.parent==0))=true by(rw[hc3];rfl))]at h
   try simp only[go_sem,zad hy2,zak hy2,zae zap hy2]
   obtain⟨r5,hr6,h⟩:=bs h
   replace hr6:=zao hr6
   refine zaq hr6 ?_
   try simp only[go_sem,zad hy2,zak hy2,zae zap hy2]
   refine zaa (v:= .ptr 20 0 9) (fun hb17=>by simp only[go_sem,zad hy2,zak hy2,zae zap hy2,hc3,hb17]) ?_
   try simp only[go_sem,zad hy2,zak hy2,zae zap hy2]
   refine zaa (v:= .d (.list r5.1.kids.n (r5.1.kids.l.map (D.int .i64)))) (fun hb16=>by simp only[go_sem,zad hy2,zak hy2,zae zap hy2,hc3,hb16]) ?_
   try simp only[go_sem,zad hy2,zak hy2,zae zap hy2]
   refine zaa (v:= .d (.int .i64 a1)) (fun hb15=>by simp only[go_sem,zad hy2,zak hy2,zae zap hy2,hc3,hb15]) ?_
   try simp only[go_sem,zad hy2,zak hy2,zae zap hy2]
   obtain⟨r11,hl12,h⟩:=bs h
   refine zbR.cut (n:=(0,[])) .normal ⟨((((Regs.none.set 1 (.d (.int .i64 a1))).set 2 (.ptr 0 0 0)).set 5 (.ptr 8 0 0)).set 36 (.d (.bool r11))),(((Heap.at 32).set 0 (some (.els 1 [.d (zac a0)] 0))).set 8 (some (.els 16 [.d (zap y1)] 0)))⟩ ?_ (by(repeat(refine Clo.seq zbJ rfl ?_));(exact Clo.cpost (by decide))) ?_
   ·replace h:=hl12
    refine zaJ (fun hc7=> ?_) (fun hc8=> ?_)
    ·rw[if_pos hc7]at h
     try simp only[go_sem,zad hy2,zak hy2,zae zap hy2,hc7]
     obtain⟨r9,hr10,h⟩:=bs h
     replace hr10:=zao hr10
     refine zaq hr10 ?_
     try simp only[go_sem,zad hy2,zak hy2,zae zap hy2]
     cases h
     exact⟨rfl,Up.of (N:=32) (N':=32) [] rfl rfl (by decide) (.set (.d _) (.set (.ptr' rfl) (.set (.ptr' rfl) (.set (.d _) zam.none)))) (.set zax.refl_d (.set zax.refl_d zar.at))⟩
    rw[if_neg (ff hc8)]at h
    try simp only[go_sem,zad hy2,zak hy2,zae zap hy2,hc8]
    cases h
    exact⟨rfl,Up.of (N:=32) (N':=32) [] rfl rfl (by decide) (.set (.d _) (.set (.ptr' rfl) (.set (.ptr' rfl) (.set (.d _) zam.none)))) (.set zax.refl_d (.set zax.refl_d zar.at))⟩
   try simp only[go_sem,zad hy2,zak hy2,zae zap hy2]
   refine zal (fun hc13=> ?_) (fun hc14=> ?_)
   ·rw[if_pos hc13]at h
    try simp only[go_sem,zad hy2,zak hy2,zae zap hy2]
    cases h
    exact⟨rfl,Up.of (N:=13) (N':=33) [] rfl rfl (by decide) (.set (.d _) zam.none) zar.at⟩
   rw[if_neg (ff hc14)]at h
   try simp only[go_sem,zad hy2,zak hy2,zae zap hy2]
   cases h
   exact⟨rfl,Up.of (N:=13) (N':=32) [] rfl rfl (by decide) (.set (.ptr' rfl) (.set (.ptr' rfl) (.set (.d _) zam.none))) (.set zax.refl_d (.set zax.refl_d zar.at))⟩
  rw[if_neg (ffn hc4)]at h
  try simp only[go_sem,zad hy2,zak hy2,zae zap hy2]
  cases h
  exact⟨rfl,Up.of (N:=13) (N':=13) [] rfl rfl (by decide) (.set (.ptr' rfl) (.set (.ptr' rfl) (.set (.d _) zam.none))) (.set zax.refl_d (.set zax.refl_d zar.at))⟩
 rcases r18 with(q20|q84)
 ·dsimp only at h⊢
  try simp only[go_sem,zad hy2,zak hy2,zae zap hy2]
  obtain⟨r21,hr22,h⟩:=bs h
  replace hr22:=zao hr22
  refine zaq hr22 ?_
  try simp only[go_sem,zad hy2,zak hy2,zae zap hy2]
  refine zaa (v:= .ptr 8 0 0) (fun hb83=>by simp only[go_sem,zad hy2,zak hy2,zae zap hy2,hb83]) ?_
  try simp only[go_sem,zad hy2,zak hy2,zae zap hy2]
  refine zaa (v:= .d (.int .u8 y1.kind)) (fun hb82=>by simp only[go_sem,zad hy2,zak hy2,zae zap hy2,hb82]) ?_
  try simp only[go_sem,zad hy2,zak hy2,zae zap hy2]
  refine zaa (v:= .d (.bool (y1.kind==9))) (fun hb81=>by simp only[go_sem,zad hy2,zak hy2,zae zap hy2,hb81]) ?_
  try simp only[go_sem,zad hy2,zak hy2,zae zap hy2]
  refine zaa (v:= .d (.bool (y1.kind==9))) (fun hb80=>by simp only[go_sem,zad hy2,zak hy2,zae zap hy2,hb80]) ?_
  try simp only[go_sem,zad hy2,zak hy2,zae zap hy2]
  refine zaa (v:= .ptr 8 0 10) (fun hb77=>by((obtain⟨hb78,hb79⟩:=zay hb77));simp only[go_sem,zad hy2,zak hy2,zae zap hy2,hb79,hb78]) ?_
  try simp only[go_sem,zad hy2,zak hy2,zae zap hy2]
  refine zaa (v:= .d (.int .i64 y1.doc)) (fun hb74=>by((obtain⟨hb75,hb76⟩:=zay hb74));simp only[go_sem,zad hy2,zak hy2,zae zap hy2,hb76,hb75]) ?_
  try simp only[go_sem,zad hy2,zak hy2,zae zap hy2]
  refine zaa (v:= .d (.int .i64 a1)) (fun hb71=>by((obtain⟨hb72,hb73⟩:=zay hb71));simp only[go_sem,zad hy2,zak hy2,zae zap hy2,hb73,hb72]) ?_
  try simp only[go_sem,zad hy2,zak hy2,zae zap hy2]
  refine zaa (v:= .d (.bool (!(y1.doc==a1)))) (fun hb68=>by((obtain⟨hb69,hb70⟩:=zay hb68));simp only[go_sem,zad hy2,zak hy2,zae zap hy2,hb70,hb69]) ?_
  try simp only[go_sem,zad hy2,zak hy2,zae zap hy2]
  obtain⟨r25,hl26,h⟩:=bs h
  refine zbR.cut (n:=(0,[])) .normal ⟨((((Regs.none.set 1 (.d (.int .i64 a1))).set 2 (.ptr 0 0 0)).set 5 (.ptr 8 0 0)).set 52 (.d (.bool r25))),(((Heap.at 29).set 0 (some (.els 1 [.d (zac a0)] 0))).set 8 (some (.els 16 [.d (zap y1)] 0)))⟩ ?_ (by(repeat(refine Clo.seq zbJ rfl ?_));(exact Clo.ret)) ?_
  ·replace h:=hl26
   refine zaJ (fun hc23=> ?_) (fun hc24=> ?_)
   ·rw[if_pos hc23]at h
    try simp only[go_sem,zad hy2,zak hy2,zae zap hy2,hc23]
    cases h
    exact⟨rfl,Up.of (N:=29) (N':=29) [] rfl rfl (by decide) (.set (.d _) (.set (.ptr' rfl) (.set (.ptr' rfl) (.set (.d _) zam.none)))) (.set zax.refl_d (.set zax.refl_d zar.at))⟩
   rw[if_neg (ff hc24)]at h
   try simp only[go_sem,zad hy2,zak hy2,zae zap hy2,hc24]
   cases h
   exact⟨rfl,Up.of (N:=29) (N':=29) [] rfl rfl (by decide) (.set (.d _) (.set (.ptr' rfl) (.set (.ptr' rfl) (.set (.d _) zam.none)))) (.set zax.refl_d (.set zax.refl_d zar.at))⟩
  try simp only[go_sem,zad hy2,zak hy2,zae zap hy2]
  refine zal (fun hc27=> ?_) (fun hc28=> ?_)
  ·rw[if_pos hc27]at h
   try simp only[go_sem,zad hy2,zak hy2,zae zap hy2]
   cases h
   rfl
  rw[if_neg (ff hc28)]at h
  try simp only[go_sem,zad hy2,zak hy2,zae zap hy2]
  obtain⟨r42,hl43,h⟩:=bs h
  refine WBr.cut (n:=(0,[])) ((fun r=>match r with|(.inl r)=>(.normal,⟨(((Regs.none.set 1 (.d (.int .i64 a1))).set 2 (.ptr 0 0 0)).set 5 (.ptr 8 0 0)),(((Heap.at 32).set 0 (some (.els 1 [.d (zac a0)] 0))).set 8 (some (.els 16 [.d (zap y1)] 0)))⟩)|(.inr r)=>(.ret,⟨(Regs.none.set 4 (.d (.bool false))),(Heap.at 32)⟩):((Unit)⊕(Unit))→Ex×St) r42).1 ((fun r=>match r with|(.inl r)=>(.normal,⟨(((Regs.none.set 1 (.d (.int .i64 a1))).set 2 (.ptr 0 0 0)).set 5 (.ptr 8 0 0)),(((Heap.at 32).set 0 (some (.els 1 [.d (zac a0)] 0))).set 8 (some (.els 16 [.d (zap y1)] 0)))⟩)|(.inr r)=>(.ret,⟨(Regs.none.set 4 (.d (.bool false))),(Heap.at 32)⟩):((Unit)⊕(Unit))→Ex×St) r42).2 ?_ (by(repeat(refine Clo.seq zbJ rfl ?_));(exact Clo.ret)) ?_
  ·replace h:=hl43
   refine zaE (fun hc29=> ?_) (fun hc30=> ?_)
   ·rw[if_pos (show(!(y1.shadow==0))=true by(rw[hc29];rfl))]at h
    try simp only[go_sem,zad hy2,zak hy2,zae zap hy2]
    obtain⟨r31,hr32,h⟩:=bs h
    replace hr32:=zao hr32
    refine zaq hr32 ?_
    try simp only[go_sem,zad hy2,zak hy2,zae zap hy2]
    refine zaa (v:= .ptr 39 0 0) (fun hb41=>by simp only[go_sem,zad hy2,zak hy2,zae zap hy2,hc28,hc29,hb41]) ?_
    try simp only[go_sem,zad hy2,zak hy2,zae zap hy2]
    refine zaa (v:= .d (.int .u8 r31.1.kind)) (fun hb40=>by simp only[go_sem,zad hy2,zak hy2,zae zap hy2,hc28,hc29,hb40]) ?_
    try simp only[go_sem,zad hy2,zak hy2,zae zap hy2]
    refine zaa (v:= .d (.bool (!(r31.1.kind==12)))) (fun hb39=>by simp only[go_sem,zad hy2,zak hy2,zae zap hy2,hc28,hc29,hb39]) ?_
    try simp only[go_sem,zad hy2,zak hy2,zae zap hy2]
    refine zaa (v:= .ptr 39 0 11) (fun hb38=>by simp only[go_sem,zad hy2,zak hy2,zae zap hy2,hc28,hc29,hb38]) ?_
    try simp only[go_sem,zad hy2,zak hy2,zae zap hy2]
    refine zaa (v:= .d (.int .i64 r31.1.host)) (fun hb37=>by simp only[go_sem,zad hy2,zak hy2,zae zap hy2,hc28,hc29,hb37]) ?_
    try simp only[go_sem,zad hy2,zak hy2,zae zap hy2]
    refine zaa (v:= .d (.int .i64 a1)) (fun hb36=>by simp only[go_sem,zad hy2,zak hy2,zae zap hy2,hc28,hc29,hb36]) ?_
    try simp only[go_sem,zad hy2,zak hy2,zae zap hy2]
    refine zaa (v:= .d (.bool (!(r31.1.host==a1)))) (fun hb35=>by simp only[go_sem,zad hy2,zak hy2,zae zap hy2,hc28,hc29,hb35]) ?_
    try simp only[go_sem,zad hy2,zak hy2,zae zap hy2]
    refine zal (fun hc33=> ?_) (fun hc34=> ?_)
    ·rw[if_pos hc33]at h
     try simp only[go_sem,zad hy2,zak hy2,zae zap hy2]
     cases h
     exact⟨rfl,Up.of (N:=32) (N':=56) [] rfl rfl (by decide) (.set (.d _) zam.none) zar.at⟩
    rw[if_neg (ff hc34)]at h
    try simp only[go_sem,zad hy2,zak hy2,zae zap hy2]
    cases h
    exact⟨rfl,Up.of (N:=32) (N':=55) [] rfl rfl (by decide) (.set (.ptr' rfl) (.set (.ptr' rfl) (.set (.d _) zam.none))) (.set zax.refl_d (.set zax.refl_d zar.at))⟩
   rw[if_neg (ffn hc30)]at h
   try simp only[go_sem,zad hy2,zak hy2,zae zap hy2]
   cases h
   exact⟨rfl,Up.of (N:=32) (N':=32) [] rfl rfl (by decide) (.set (.ptr' rfl) (.set (.ptr' rfl) (.set (.d _) zam.none))) (.set zax.refl_d (.set zax.refl_d zar.at))⟩
  rcases r42 with(q44|q67)
  ·dsimp only at h⊢
   try simp only[go_sem,zad hy2,zak hy2,zae zap hy2]
   refine zal (fun hc45=> ?_) (fun hc46=> ?_)
   ·rw[if_pos hc45]at h
    try simp only[go_sem,zad hy2,zak hy2,zae zap hy2]
    obtain⟨r47,hr48,h⟩:=bs h
    replace hr48:=zao hr48
    refine zaq hr48 ?_
    try simp only[go_sem,zad hy2,zak hy2,zae zap hy2]
    refine zaa (v:= .ptr 42 0 0) (fun hb64=>by simp only[go_sem,zad hy2,zak hy2,zae zap hy2,hc28,hc45,hb64]) ?_
    try simp only[go_sem,zad hy2,zak hy2,zae zap hy2]
    refine zaa (v:= .d (.int .u8 r47.1.kind)) (fun hb63=>by simp only[go_sem,zad hy2,zak hy2,zae zap hy2,hc28,hc45,hb63]) ?_
    try simp only[go_sem,zad hy2,zak hy2,zae zap hy2]
    refine zaa (v:= .d (.bool (!(r47.1.kind==1)))) (fun hb62=>by simp only[go_sem,zad hy2,zak hy2,zae zap hy2,hc28,hc45,hb62]) ?_
    try simp only[go_sem,zad hy2,zak hy2,zae zap hy2]
    refine zaa (v:= .ptr 42 0 12) (fun hb61=>by simp only[go_sem,zad hy2,zak hy2,zae zap hy2,hc28,hc45,hb61]) ?_
    try simp only[go_sem,zad hy2,zak hy2,zae zap hy2]
    refine zaa (v:= .d (.int .i64 r47.1.shadow)) (fun hb60=>by simp only[go_sem,zad hy2,zak hy2,zae zap hy2,hc28,hc45,hb60]) ?_
    try simp only[go_sem,zad hy2,zak hy2,zae zap hy2]
    refine zaa (v:= .d (.int .i64 a1)) (fun hb59=>by simp only[go_sem,zad hy2,zak hy2,zae zap hy2,hc28,hc45,hb59]) ?_
    try simp only[go_sem,zad hy2,zak hy2,zae zap hy2]
    refine zaa (v:= .d (.bool (!(r47.1.shadow==a1)))) (fun hb58=>by simp only[go_sem,zad hy2,zak hy2,zae zap hy2,hc28,hc45,hb58]) ?_
    try simp only[go_sem,zad hy2,zak hy2,zae zap hy2]
    refine zaa (v:= .ptr 42 0 10) (fun hb57=>by simp only[go_sem,zad hy2,zak hy2,zae zap hy2,hc28,hc45,hb57]) ?_
    try simp only[go_sem,zad hy2,zak hy2,zae zap hy2]
    refine zaa (v:= .d (.int .i64 r47.1.doc)) (fun hb56=>by simp only[go_sem,zad hy2,zak hy2,zae zap hy2,hc28,hc45,hb56]) ?_
    try simp only[go_sem,zad hy2,zak hy2,zae zap hy2]
    refine zaa (v:= .ptr 8 0 10) (fun hb55=>by simp only[go_sem,zad hy2,zak hy2,zae zap hy2,hc28,hc45,hb55]) ?_
    try simp only[go_sem,zad hy2,zak hy2,zae zap hy2]
    refine zaa (v:= .d (.int .i64 y1.doc)) (fun hb54=>by simp only[go_sem,zad hy2,zak hy2,zae zap hy2,hc28,hc45,hb54]) ?_
    try simp only[go_sem,zad hy2,zak hy2,zae zap hy2]
    refine zaa (v:= .d (.bool (!(r47.1.doc==y1.doc)))) (fun hb53=>by simp only[go_sem,zad hy2,zak hy2,zae zap hy2,hc28,hc45,hb53]) ?_
    try simp only[go_sem,zad hy2,zak hy2,zae zap hy2]
    refine zal (fun hc49=> ?_) (fun hc50=> ?_)
    ·rw[if_pos hc49]at h
     try simp only[go_sem,zad hy2,zak hy2,zae zap hy2]
     cases h
     rfl
    rw[if_neg (ff hc50)]at h
    try simp only[go_sem,zad hy2,zak hy2,zae zap hy2]
    obtain⟨r51,hr52,h⟩:=bs h
    replace hr52:=zao hr52
    refine zaq hr52 ?_
    try simp only[go_sem,zad hy2,zak hy2,zae zap hy2]
    cases h
    rfl
   rw[if_neg (ff hc46)]at h
   try simp only[go_sem,zad hy2,zak hy2,zae zap hy2]
   obtain⟨r65,hr66,h⟩:=bs h
   replace hr66:=zao hr66
   refine zaq hr66 ?_
   try simp only[go_sem,zad hy2,zak hy2,zae zap hy2]
   cases h
   rfl
  dsimp only at h⊢
  try simp only[go_sem,zad hy2,zak hy2,zae zap hy2]
  cases h
  rfl
 dsimp only at h⊢
 try simp only[go_sem,zad hy2,zak hy2,zae zap hy2]
 cases h
 rfl
noncomputable def zIX (a0:Node):Option (Int):=
 if(a0.kind==12)=true then
  some a0.host
 else
  some a0.parent
theorem zIY (a0:Node) (r:Int) (h:zIX a0=some r):pc prog 214 [zap a0]=some ((D.int .i64) r):=by
 unfold zIX at h
 refine zbt (fn:=zHO) rfl rfl ?_
 delta zHO
 try simp only[go_sem]
 refine zal (fun hc1=> ?_) (fun hc2=> ?_)
 ·rw[if_pos hc1]at h
  try simp only[go_sem]
  cases h
  rfl
 rw[if_neg (ff hc2)]at h
 try simp only[go_sem]
 cases h
 rfl
noncomputable def zIZ (a0:Int):Option (forest_trait):=
 if(a0==1)=true then
  some (⟨true,false,true,true,true,false⟩:forest_trait)
 else
  (if(a0==3)=true then
   some (a0==3)
  else
   (if(a0==4)=true then
    some (a0==4)
   else
    some (a0==8):Option ((Bool))).bind fun r7=>
   some r7:Option ((Bool))).bind fun r9=>
  if r9=true then
   some (⟨true,true,false,true,false,false⟩:forest_trait)
  else
   if(a0==7)=true then
    some (⟨true,true,false,true,false,true⟩:forest_trait)
   else
    if(a0==10)=true then
     some (⟨true,false,false,true,false,true⟩:forest_trait)
    else
     if(a0==9)=true then
      some (⟨true,false,true,false,false,false⟩:forest_trait)
     else
      if(a0==11)=true then
       some (⟨true,false,true,false,false,false⟩:forest_trait)
      else
       if(a0==12)=true then
        some (⟨true,false,true,false,false,false⟩:forest_trait)
       else
        some (⟨false,false,false,false,false,false⟩:forest_trait)
theorem zJa (a0:Int) (r:forest_trait) (h:zIZ a0=some r):pc prog 215 [.int .u8 a0]=some (zaD r):=by
 unfold zIZ at h
 refine zbt (fn:=zHP) rfl rfl ?_
 delta zHP
 try simp only[go_sem]
 refine zal (fun hc1=> ?_) (fun hc2=> ?_)
 ·rw[if_pos hc1]at h
  try simp only[go_sem]
  cases h
  rfl
 rw[if_neg (ff hc2)]at h
 try simp only[go_sem]
 obtain⟨r9,hl10,h⟩:=bs h
 refine WBr.cut (n:=(0,[])) .normal ⟨(((Regs.none.set 2 (.ptr 0 0 0)).set 3 (.d (.int .u8 a0))).set 7 (.d (.bool r9))),((Heap.at 6).set 0 (some (.els 6 [.d (.agg [.bool false,.bool false,.bool false,.bool false,.bool false,.bool false])] 0)))⟩ ?_ (by(repeat(first|refine Clo.block ?_|refine Clo.seq zbJ rfl ?_));(exact Clo.ret)) ?_
 ·replace h:=hl10
  refine zal (fun hc3=> ?_) (fun hc4=> ?_)
  ·rw[if_pos hc3]at h
   try simp only[go_sem]
   cases h
   exact⟨rfl,Up.of (N:=6) (N':=6) [] rfl rfl (by decide) (.set (.d _) (.set (.d _) (.set (.ptr' rfl) zam.none))) (.set zax.refl_d zar.at)⟩
  rw[if_neg (ff hc4)]at h
  try simp only[go_sem]
  obtain⟨r7,hl8,h⟩:=bs h
  refine WBr.cut (n:=(0,[])) .normal ⟨(((Regs.none.set 2 (.ptr 0 0 0)).set 3 (.d (.int .u8 a0))).set 7 (.d (.bool r7))),((Heap.at 8).set 0 (some (.els 6 [.d (.agg [.bool false,.bool false,.bool false,.bool false,.bool false,.bool false])] 0)))⟩ ?_ (by(repeat(first|refine Clo.block ?_|refine Clo.seq zbJ rfl ?_));(exact Clo.cpost (by decide))) ?_
  ·replace h:=hl8
   refine zal (fun hc5=> ?_) (fun hc6=> ?_)
   ·rw[if_pos hc5]at h
    try simp only[go_sem]
    cases h
    exact⟨rfl,Up.of (N:=8) (N':=8) [] rfl rfl (by decide) (.set (.d _) (.set (.d _) (.set (.ptr' rfl) zam.none))) (.set zax.refl_d zar.at)⟩
   rw[if_neg (ff hc6)]at h
   try simp only[go_sem]
   cases h
   exact⟨rfl,Up.of (N:=8) (N':=10) [] rfl rfl (by decide) (.set (.d _) (.set (.d _) (.set (.ptr' rfl) zam.none))) (.set zax.refl_d zar.at)⟩
  skip
  cases h
  exact⟨rfl,Up.of (N:=6) (N':=8) [] rfl rfl (by decide) (.set (.d _) (.set (.d _) (.set (.ptr' rfl) zam.none))) (.set zax.refl_d zar.at)⟩
 try simp only[go_sem]
 refine zal (fun hc11=> ?_) (fun hc12=> ?_)
 ·rw[if_pos hc11]at h
  try simp only[go_sem]
  cases h
  rfl
 rw[if_neg (ff hc12)]at h
 try simp only[go_sem]
 refine zal (fun hc13=> ?_) (fun hc14=> ?_)
 ·rw[if_pos hc13]at h
  try simp only[go_sem]
  cases h
  rfl
 rw[if_neg (ff hc14)]at h
 try simp only[go_sem]
 refine zal (fun hc15=> ?_) (fun hc16=> ?_)
 ·rw[if_pos hc15]at h
  try simp only[go_sem]
  cases h
  rfl
 rw[if_neg (ff hc16)]at h
 try simp only[go_sem]
 refine zal (fun hc17=> ?_) (fun hc18=> ?_)
 ·rw[if_pos hc17]at h
  try simp only[go_sem]
  try simp only[go_sem,hc2,hc12,hc14,hc16,hc17]
  cases h
  rfl
 rw[if_neg (ff hc18)]at h
 try simp only[go_sem]
 refine zal (fun hc19=> ?_) (fun hc20=> ?_)
 ·rw[if_pos hc19]at h
  try simp only[go_sem]
  try simp only[go_sem,hc2,hc12,hc14,hc16,hc18,hc19]
  cases h
  rfl
 rw[if_neg (ff hc20)]at h
 try simp only[go_sem]
 refine zal (fun hc21=> ?_) (fun hc22=> ?_)
 ·rw[if_pos hc21]at h
  try simp only[go_sem]
  cases h
  rfl
 rw[if_neg (ff hc22)]at h
 try simp only[go_sem]
 cases h
 rfl
noncomputable def zJb (a0:Node) (a1:forest_trait):Option (Bool):=
 if a1.full=true then
  (dec D.bool (pc prog 229 [zcg a0.name])).bind fun r3=>
  some r3
 else
  if a1.local_=true then
   if(!(a0.name.local_==[]))=true then
    (dec D.bool (pc prog 218 [.list false (([a0.name.local_]).map D.str)])).bind fun r9=>
    if r9=true then
     some (decide (a0.name=(⟨[],[],a0.name.local_⟩:Name)))
    else
     some false
   else
    some false
  else
   some (decide (a0.name=(⟨[],[],[]⟩:Name)))
theorem zJc (a0:Node) (a1:forest_trait) (r:Bool) (h:zJb a0 a1=some r):pc prog 216 [zap a0,zaD a1]=some (D.bool r):=by
 unfold zJb at h
 refine zbt (fn:=zHQ) rfl rfl ?_
 delta zHQ
 try simp only[go_sem]
 refine zal (fun hc1=> ?_) (fun hc2=> ?_)
 ·rw[if_pos hc1]at h
  try simp only[go_sem]
  obtain⟨r3,hr4,h⟩:=bs h
  replace hr4:=zao hr4
  refine zaq hr4 ?_
  try simp only[go_sem]
  cases h
  rfl
 rw[if_neg (ff hc2)]at h
 try simp only[go_sem]
 refine zal (fun hc5=> ?_) (fun hc6=> ?_)
 ·rw[if_pos hc5]at h
  try simp only[go_sem]
  refine zaa (v:= .ptr 0 0 1) (fun hb20=>by simp only[go_sem,hc2,hc5,hb20]) ?_
  try simp only[go_sem]
  refine zaa (v:= .ptr 0 0 3) (fun hb19=>by simp only[go_sem,hc2,hc5,hb19]) ?_
  try simp only[go_sem]
  refine zaa (v:= .d (.str a0.name.local_)) (fun hb18=>by simp only[go_sem,hc2,hc5,hb18]) ?_
  try simp only[go_sem]
  refine zaF (fun hc7=> ?_) (fun hc8=> ?_)
  ·rw[if_pos (show(!(a0.name.local_==[]))=true by(rw[hc7];rfl))]at h
   try simp only[go_sem,hc7]
   obtain⟨r9,hr10,h⟩:=bs h
   replace hr10:=zao hr10
   refine zaq hr10 ?_
   try simp only[go_sem]
   refine zaa (v:= .ptr 0 0 1) (fun hb17=>by simp only[go_sem,hc2,hc5,hc7,hb17]) ?_
   try simp only[go_sem]
   refine zaa (v:= .d (zcg a0.name)) (fun hb16=>by simp only[go_sem,hc2,hc5,hc7,hb16]) ?_
   try simp only[go_sem]
   refine zaa (v:= .ptr 0 0 1) (fun hb15=>by simp only[go_sem,hc2,hc5,hc7,hb15]) ?_
   try simp only[go_sem]
   refine zaa (v:= .ptr 0 0 3) (fun hb14=>by simp only[go_sem,hc2,hc5,hc7,hb14]) ?_
   try simp only[go_sem]
   refine zaa (v:= .d (.str a0.name.local_)) (fun hb13=>by simp only[go_sem,hc2,hc5,hc7,hb13]) ?_
   try simp only[go_sem]
   refine zaJ (fun hc11=> ?_) (fun hc12=> ?_)
   ·rw[if_pos hc11]at h
    try simp only[go_sem,hc11]
    cases h
    rfl
   rw[if_neg (ff hc12)]at h
   try simp only[go_sem,hc12]
   cases h
   rfl
  rw[if_neg (ffn hc8)]at h
  try simp only[go_sem,hc8]
  cases h
  rfl
 rw[if_neg (ff hc6)]at h
 try simp only[go_sem]
 cases h
 rfl
def zeR (a0:Sl (Attr)) (x0:List (forest_key×Int)×Int):St:=⟨((((Regs.none.set 3 (.map 4)).set 11 (.d (.list a0.n (a0.l.map zbu)))).set 12 (.d (.int .i64 (a0.l.length:Int)))).set 13 (.d (.int .i64 x0.2))),((Heap.at 9).set 4 (some (.map (ents zag (fun z=>V.d ((D.int .i64) z)) x0.1 0) x0.1.length)))⟩
def zib (a0:Sl (Attr)):((Unit)⊕(Unit))→Ex×St:=fun r=>match r with
 |(.inl r)=>(.exit 0,⟨Regs.none,(Heap.at 9)⟩)
 |(.inr r)=>(.ret,⟨(Regs.none.set 2 (.d (.bool false))),(Heap.at 9)⟩)
noncomputable def zdf (a0:Sl (Attr)) (x0:List (forest_key×Int)×Int):Option ((List (forest_key×Int)×Int)⊕((Unit)⊕(Unit))):=
 if(decide (x0.2<(a0.l.length:Int)))=true then
  (rd a0.l x0.2).bind fun y5=>
  (dec zag (pc prog 230 [zcg y5.name])).bind fun r7=>
  (dec D.bool (pc prog 229 [zcg y5.name])).bind fun r9=>
  if(!(bif (!r9)then true else(decide (4096<(y5.value.length:Int)))))=true then
   if(decide (0<(ziX r7 x0.1 (0))))=true then
    some (.inr (.inr ()))
   else
    some (.inl ((zhD r7 (IntKind.wrap .i64 ((ziX r7 x0.1 (0))+1)) x0.1),(IntKind.wrap .i64 (x0.2+1))))
  else
   some (.inr (.inr ()))
 else
  some (.inr (.inl ()))
theorem zwp (a0:Sl (Attr)) (x0:List (forest_key×Int)×Int) (o:(List (forest_key×Int)×Int)⊕((Unit)⊕(Unit))) (h:zdf a0 x0=some o):Wp prog zqj (zeR a0 x0) (zcP (0,[]) (zeR a0) (zib a0) o):=by
 unfold zdf at h
 delta zqj zeR
 try simp only[go_sem]
 refine zal (fun hc3=> ?_) (fun hc4=> ?_)
 ·rw[if_pos hc3]at h
  try simp only[go_sem,zaz (e:=zag) (ev:=(D.int .i64)) zaf,zaA (e:=zag) (ev:=(D.int .i64)) zaf,zaw (e:=zag) (ev:=(D.int .i64)) zaf,zaB (e:=zag) (ev:=(D.int .i64)) zaf,zaC (e:=zag) (ev:=(D.int .i64))]
  obtain⟨y5,hy6,h⟩:=bs h
  try simp only[go_sem,zaz (e:=zag) (ev:=(D.int .i64)) zaf,zaA (e:=zag) (ev:=(D.int .i64)) zaf,zaw (e:=zag) (ev:=(D.int .i64)) zaf,zaB (e:=zag) (ev:=(D.int .i64)) zaf,zaC (e:=zag) (ev:=(D.int .i64)),zad hy6,zak hy6,zae zbu hy6]
  obtain⟨r7,hr8,h⟩:=bs h
  replace hr8:=zao hr8
  refine zaq hr8 ?_
  try simp only[go_sem,zaz (e:=zag) (ev:=(D.int .i64)) zaf,zaA (e:=zag) (ev:=(D.int .i64)) zaf,zaw (e:=zag) (ev:=(D.int .i64)) zaf,zaB (e:=zag) (ev:=(D.int .i64)) zaf,zaC (e:=zag) (ev:=(D.int .i64)),zad hy6,zak hy6,zae zbu hy6]
  obtain⟨r9,hr10,h⟩:=bs h
  replace hr10:=zao hr10
  refine zaq hr10 ?_
  try simp only[go_sem,zaz (e:=zag) (ev:=(D.int .i64)) zaf,zaA (e:=zag) (ev:=(D.int .i64)) zaf,zaw (e:=zag) (ev:=(D.int .i64)) zaf,zaB (e:=zag) (ev:=(D.int .i64)) zaf,zaC (e:=zag) (ev:=(D.int .i64)),zad hy6,zak hy6,zae zbu hy6]
  refine zaa (v:= .ptr 12 0 3) (fun hb18=>by simp only[go_sem,zaz (e:=zag) (ev:=(D.int .i64)) zaf,zaA (e:=zag) (ev:=(D.int .i64)) zaf,zaw (e:=zag) (ev:=(D.int .i64)) zaf,zaB (e:=zag) (ev:=(D.int .i64)) zaf,zaC (e:=zag) (ev:=(D.int .i64)),zad hy6,zak hy6,zae zbu hy6,hc3,hb18]) ?_
  try simp only[go_sem,zaz (e:=zag) (ev:=(D.int .i64)) zaf,zaA (e:=zag) (ev:=(D.int .i64)) zaf,zaw (e:=zag) (ev:=(D.int .i64)) zaf,zaB (e:=zag) (ev:=(D.int .i64)) zaf,zaC (e:=zag) (ev:=(D.int .i64)),zad hy6,zak hy6,zae zbu hy6]
  refine zaa (v:= .d (.str y5.value)) (fun hb17=>by simp only[go_sem,zaz (e:=zag) (ev:=(D.int .i64)) zaf,zaA (e:=zag) (ev:=(D.int .i64)) zaf,zaw (e:=zag) (ev:=(D.int .i64)) zaf,zaB (e:=zag) (ev:=(D.int .i64)) zaf,zaC (e:=zag) (ev:=(D.int .i64)),zad hy6,zak hy6,zae zbu hy6,hc3,hb17]) ?_
  try simp only[go_sem,zaz (e:=zag) (ev:=(D.int .i64)) zaf,zaA (e:=zag) (ev:=(D.int .i64)) zaf,zaw (e:=zag) (ev:=(D.int .i64)) zaf,zaB (e:=zag) (ev:=(D.int .i64)) zaf,zaC (e:=zag) (ev:=(D.int .i64)),zad hy6,zak hy6,zae zbu hy6]
  refine zaa (v:= .d (.int .i64 (y5.value.length:Int))) (fun hb16=>by simp only[go_sem,zaz (e:=zag) (ev:=(D.int .i64)) zaf,zaA (e:=zag) (ev:=(D.int .i64)) zaf,zaw (e:=zag) (ev:=(D.int .i64)) zaf,zaB (e:=zag) (ev:=(D.int .i64)) zaf,zaC (e:=zag) (ev:=(D.int .i64)),zad hy6,zak hy6,zae zbu hy6,hc3,hb16]) ?_
  try simp only[go_sem,zaz (e:=zag) (ev:=(D.int .i64)) zaf,zaA (e:=zag) (ev:=(D.int .i64)) zaf,zaw (e:=zag) (ev:=(D.int .i64)) zaf,zaB (e:=zag) (ev:=(D.int .i64)) zaf,zaC (e:=zag) (ev:=(D.int .i64)),zad hy6,zak hy6,zae zbu hy6]
  refine zaa (v:= .d (.bool (decide (4096<(y5.value.length:Int))))) (fun hb15=>by simp only[go_sem,zaz (e:=zag) (ev:=(D.int .i64)) zaf,zaA (e:=zag) (ev:=(D.int .i64)) zaf,zaw (e:=zag) (ev:=(D.int .i64)) zaf,zaB (e:=zag) (ev:=(D.int .i64)) zaf,zaC (e:=zag) (ev:=(D.int .i64)),zad hy6,zak hy6,zae zbu hy6,hc3,hb15]) ?_
  try simp only[go_sem,zaz (e:=zag) (ev:=(D.int .i64)) zaf,zaA (e:=zag) (ev:=(D.int .i64)) zaf,zaw (e:=zag) (ev:=(D.int .i64)) zaf,zaB (e:=zag) (ev:=(D.int .i64)) zaf,zaC (e:=zag) (ev:=(D.int .i64)),zad hy6,zak hy6,zae zbu hy6]
  refine zaF (fun hc11=> ?_) (fun hc12=> ?_)
  ·rw[if_pos (show(!(bif (!r9)then true else(decide (4096<(y5.value.length:Int)))))=true by(rw[hc11];rfl))]at h
   try simp only[go_sem,zaz (e:=zag) (ev:=(D.int .i64)) zaf,zaA (e:=zag) (ev:=(D.int .i64)) zaf,zaw (e:=zag) (ev:=(D.int .i64)) zaf,zaB (e:=zag) (ev:=(D.int .i64)) zaf,zaC (e:=zag) (ev:=(D.int .i64)),zad hy6,zak hy6,zae zbu hy6,hc11]
   refine zal (fun hc13=> ?_) (fun hc14=> ?_)
   ·rw[if_pos hc13]at h
    try simp only[go_sem,zaz (e:=zag) (ev:=(D.int .i64)) zaf,zaA (e:=zag) (ev:=(D.int .i64)) zaf,zaw (e:=zag) (ev:=(D.int .i64)) zaf,zaB (e:=zag) (ev:=(D.int .i64)) zaf,zaC (e:=zag) (ev:=(D.int .i64)),zad hy6,zak hy6,zae zbu hy6]
    cases h
    exact⟨rfl,by simp,Up.of (N:=9) (N':=36) [] rfl rfl (by decide) (.set (.d _) zam.none) zar.at⟩
   rw[if_neg (ff hc14)]at h
   try simp only[go_sem,zaz (e:=zag) (ev:=(D.int .i64)) zaf,zaA (e:=zag) (ev:=(D.int .i64)) zaf,zaw (e:=zag) (ev:=(D.int .i64)) zaf,zaB (e:=zag) (ev:=(D.int .i64)) zaf,zaC (e:=zag) (ev:=(D.int .i64)),zad hy6,zak hy6,zae zbu hy6]
   cases h
   exact⟨rfl,Up.of (N:=9) (N':=44) [] rfl rfl (by decide) (.set (.d _) (.set (.d _) (.set (.d _) (.set (.map' rfl) zam.none)))) (.set zax.map_d zar.at)⟩
  rw[if_neg (ffn hc12)]at h
  try simp only[go_sem,zaz (e:=zag) (ev:=(D.int .i64)) zaf,zaA (e:=zag) (ev:=(D.int .i64)) zaf,zaw (e:=zag) (ev:=(D.int .i64)) zaf,zaB (e:=zag) (ev:=(D.int .i64)) zaf,zaC (e:=zag) (ev:=(D.int .i64)),zad hy6,zak hy6,zae zbu hy6,hc12]
  cases h
  exact⟨rfl,by simp,Up.of (N:=9) (N':=36) [] rfl rfl (by decide) (.set (.d _) zam.none) zar.at⟩
 rw[if_neg (ff hc4)]at h
 try simp only[go_sem,zaz (e:=zag) (ev:=(D.int .i64)) zaf,zaA (e:=zag) (ev:=(D.int .i64)) zaf,zaw (e:=zag) (ev:=(D.int .i64)) zaf,zaB (e:=zag) (ev:=(D.int .i64)) zaf,zaC (e:=zag) (ev:=(D.int .i64))]
 cases h
 exact⟨rfl,by simp,Up.of (N:=9) (N':=10) [] rfl rfl (by decide) zam.none zar.at⟩
noncomputable def zJd (a0:Sl (Attr)):Option (Bool):=
 if(decide (64<(a0.l.length:Int)))=true then
  some false
 else
  (zaT (zdf a0) ([],0)).bind fun r19=>
  match r19 with
  |(.inl q21)=>
   some true
  |(.inr q22)=>
   some false
theorem zJe (a0:Sl (Attr)) (r:Bool) (h:zJd a0=some r):pc prog 217 [.list a0.n (a0.l.map zbu)]=some (D.bool r):=by
 unfold zJd at h
 refine zbt (fn:=zHR) rfl rfl ?_
 delta zHR
 try simp only[go_sem]
 refine zal (fun hc1=> ?_) (fun hc2=> ?_)
 ·rw[if_pos hc1]at h
  try simp only[go_sem]
  cases h
  rfl
 rw[if_neg (ff hc2)]at h
 try simp only[go_sem]
 obtain⟨r19,hl20,h⟩:=bs h
 refine Wp.loopR zbJ (n:=(0,[])) (a:=zqj) rfl (zeR a0) (zib a0) (zwp a0) hl20 ?_ (by(repeat(first|refine Clo.block ?_|refine Clo.seq zbJ rfl ?_));(exact Clo.ret)) ?_
 ·show Up (0,[]) (zeR a0 ([],0)) _
  delta zeR
  exact Up.of (N:=9) (N':=9) [] rfl rfl (by decide) (.set (.d _) (.set (.d _) (.set (.d _) (.set (.map' rfl) zam.none)))) (.set zax.map_d zar.at)
 rcases r19 with(q21|q22)
 ·dsimp only at h
  dsimp only[zib]
  try simp only[go_sem]
  cases h
  rfl
 dsimp only at h
 dsimp only[zib]
 try simp only[go_sem]
 cases h
 rfl
def zeS (a0:Sl (List UInt8)) (x0:Int):St:=⟨(((Regs.none.set 5 (.d (.list a0.n (a0.l.map D.str)))).set 6 (.d (.int .i64 (a0.l.length:Int)))).set 7 (.d (.int .i64 x0))),(Heap.at 4)⟩
def zic (a0:Sl (List UInt8)):((Unit)⊕(Unit))→Ex×St:=fun r=>match r with
 |(.inl r)=>(.exit 0,⟨Regs.none,(Heap.at 4)⟩)
 |(.inr r)=>(.ret,⟨(Regs.none.set 2 (.d (.bool false))),(Heap.at 4)⟩)
noncomputable def zdg (a0:Sl (List UInt8)) (x0:Int):Option ((Int)⊕((Unit)⊕(Unit))):=
 if(decide (x0<(a0.l.length:Int)))=true then
  (rd a0.l x0).bind fun y3=>
  if(decide (1024<(y3.length:Int)))=true then
   some (.inr (.inr ()))
  else
   some (.inl (IntKind.wrap .i64 (x0+1)))
 else
  some (.inr (.inl ()))
theorem zwq (a0:Sl (List UInt8)) (x0:Int) (o:(Int)⊕((Unit)⊕(Unit))) (h:zdg a0 x0=some o):Wp prog zqk (zeS a0 x0) (zcP (0,[]) (zeS a0) (zic a0) o):=by
 unfold zdg at h
 delta zqk zeS
 try simp only[go_sem]
 refine zal (fun hc1=> ?_) (fun hc2=> ?_)
 ·rw[if_pos hc1]at h
  try simp only[go_sem]
  obtain⟨y3,hy4,h⟩:=bs h
  try simp only[go_sem,zad hy4,zak hy4,zae D.str hy4]
  refine zal (fun hc5=> ?_) (fun hc6=> ?_)
  ·rw[if_pos hc5]at h
   try simp only[go_sem,zad hy4,zak hy4,zae D.str hy4]
   cases h
   exact⟨rfl,by simp,Up.of (N:=4) (N':=12) [] rfl rfl (by decide) (.set (.d _) zam.none) zar.at⟩
  rw[if_neg (ff hc6)]at h
  try simp only[go_sem,zad hy4,zak hy4,zae D.str hy4]
  cases h
  exact⟨rfl,Up.of (N:=4) (N':=13) [] rfl rfl (by decide) (.set (.d _) (.set (.d _) (.set (.d _) zam.none))) zar.at⟩
 rw[if_neg (ff hc2)]at h
 try simp only[go_sem]
 cases h
 exact⟨rfl,by simp,Up.of (N:=4) (N':=5) [] rfl rfl (by decide) zam.none zar.at⟩
noncomputable def zJf (a0:Sl (List UInt8)):Option (Bool):=
 (zaT (zdg a0) 0).bind fun r7=>
 match r7 with
 |(.inl q9)=>
  some true
 |(.inr q10)=>
  some false
theorem zJg (a0:Sl (List UInt8)) (r:Bool) (h:zJf a0=some r):pc prog 218 [.list a0.n (a0.l.map D.str)]=some (D.bool r):=by
 unfold zJf at h
 refine zbt (fn:=zHS) rfl rfl ?_
 delta zHS
 try simp only[go_sem]
 obtain⟨r7,hl8,h⟩:=bs h
 refine Wp.loopR zbJ (n:=(0,[])) (a:=zqk) rfl (zeS a0) (zic a0) (zwq a0) hl8 ?_ (by(repeat(first|refine Clo.block ?_|refine Clo.seq zbJ rfl ?_));(exact Clo.ret)) ?_
 ·show Up (0,[]) (zeS a0 0) _
  delta zeS
  exact Up.of (N:=4) (N':=4) [] rfl rfl (by decide) (.set (.d _) (.set (.d _) (.set (.d _) zam.none))) zar.at
 rcases r7 with(q9|q10)
 ·dsimp only at h
  dsimp only[zic]
  try simp only[go_sem]
  cases h
  rfl
 dsimp only at h
 dsimp only[zic]
 try simp only[go_sem]
 cases h
 rfl
noncomputable def zJh (a0:Forest) (a1:Int):Option (Node×Bool):=
 if(bif (decide (a1<1))then true else(decide ((a0.nodes.l.length:Int)<a1)))=true then
  some ((⟨0,⟨[],[],[]⟩,[],[],⟨true,[]⟩,⟨true,[]⟩,0,⟨true,[]⟩,0,0,0,0,false,false⟩:Node),false)
 else
  (rd a0.nodes.l (IntKind.wrap .i64 (a1-1))).bind fun y3=>
  some (y3,true)
theorem zJi (a0:Forest) (a1:Int) (r:Node×Bool) (h:zJh a0 a1=some r):pc prog 219 [zac a0,.int .i64 a1]=some ((eT2 zap D.bool) r):=by
 unfold zJh at h
 refine zbt (fn:=zHT) rfl rfl ?_
 delta zHT
 try simp only[go_sem]
 refine zaa (v:= .d (.int .i64 a1)) (fun hb9=>by simp only[go_sem,hb9]) ?_
 try simp only[go_sem]
 refine zaa (v:= .ptr 0 0 0) (fun hb8=>by simp only[go_sem,hb8]) ?_
 try simp only[go_sem]
 refine zaa (v:= .d (.list a0.nodes.n (a0.nodes.l.map zap))) (fun hb7=>by simp only[go_sem,hb7]) ?_
 try simp only[go_sem]
 refine zaa (v:= .d (.int .i64 (a0.nodes.l.length:Int))) (fun hb6=>by simp only[go_sem,hb6]) ?_
 try simp only[go_sem]
 refine zaa (v:= .d (.bool (decide ((a0.nodes.l.length:Int)<a1)))) (fun hb5=>by simp only[go_sem,hb5]) ?_
 try simp only[go_sem]
 refine zal (fun hc1=> ?_) (fun hc2=> ?_)
 ·rw[if_pos hc1]at h
  try simp only[go_sem]
  cases h
  rfl
 rw[if_neg (ff hc2)]at h
 try simp only[go_sem]
 obtain⟨y3,hy4,h⟩:=bs h
 try simp only[go_sem,zad hy4,zak hy4,zae zap hy4]
 cases h
 rfl
def zeT (a0:Sl (Int)) (a1:Int) (x0:Int×Int):St:=⟨(((((Regs.none.set 1 (.d (.int .i64 a1))).set 5 (.d (.int .i64 x0.2))).set 8 (.d (.list a0.n (a0.l.map (D.int .i64))))).set 9 (.d (.int .i64 (a0.l.length:Int)))).set 10 (.d (.int .i64 x0.1))),(Heap.at 5)⟩
def zlp (a0:Sl (Int)) (a1:Int):((Int))→Ex×St:=fun r=>(.exit 0,⟨(Regs.none.set 5 (.d (.int .i64 r))),(Heap.at 5)⟩)
noncomputable def zdh (a0:Sl (Int)) (a1:Int) (x0:Int×Int):Option ((Int×Int)⊕((Int))):=
 if(decide (x0.1<(a0.l.length:Int)))=true then
  (rd a0.l x0.1).bind fun y3=>
  if(y3==a1)=true then
   some (.inl ((IntKind.wrap .i64 (x0.1+1)),(IntKind.wrap .i64 (x0.2+1))))
  else
   some (.inl ((IntKind.wrap .i64 (x0.1+1)),x0.2))
 else
  some (.inr x0.2)
theorem zwr (a0:Sl (Int)) (a1:Int) (x0:Int×Int) (o:(Int×Int)⊕((Int))) (h:zdh a0 a1 x0=some o):Wp prog zql (zeT a0 a1 x0) (zcP (0,[]) (zeT a0 a1) (zlp a0 a1) o):=by
 unfold zdh at h
 delta zql zeT
 try simp only[go_sem]
 refine zal (fun hc1=> ?_) (fun hc2=> ?_)
 ·rw[if_pos hc1]at h
  try simp only[go_sem]
  obtain⟨y3,hy4,h⟩:=bs h
  try simp only[go_sem,zad hy4,zak hy4,zae (D.int .i64) hy4]
  refine zal (fun hc5=> ?_) (fun hc6=> ?_)
  ·rw[if_pos hc5]at h
   try simp only[go_sem,zad hy4,zak hy4,zae (D.int .i64) hy4]
   cases h
   exact⟨rfl,Up.of (N:=5) (N':=17) [] rfl rfl (by decide) (.set (.d _) (.set (.d _) (.set (.d _) (.set (.d _) (.set (.d _) zam.none))))) zar.at⟩
  rw[if_neg (ff hc6)]at h
  try simp only[go_sem,zad hy4,zak hy4,zae (D.int .i64) hy4]
  cases h
  exact⟨rfl,Up.of (N:=5) (N':=14) [] rfl rfl (by decide) (.set (.d _) (.set (.d _) (.set (.d _) (.set (.d _) (.set (.d _) zam.none))))) zar.at⟩
 rw[if_neg (ff hc2)]at h
 try simp only[go_sem]
 cases h
 exact⟨rfl,by simp,Up.of (N:=5) (N':=6) [] rfl rfl (by decide) (.set (.d _) zam.none) zar.at⟩
noncomputable def zJj (a0:Sl (Int)) (a1:Int):Option (Bool):=
 (zaT (zdh a0 a1) (0,0)).bind fun r7=>
 some (r7==1)
theorem zJk (a0:Sl (Int)) (a1:Int) (r:Bool) (h:zJj a0 a1=some r):pc prog 220 [.list a0.n (a0.l.map (D.int .i64)),.int .i64 a1]=some (D.bool r):=by
 unfold zJj at h
 refine zbt (fn:=zHU) rfl rfl ?_
 delta zHU
 try simp only[go_sem]
 obtain⟨r7,hl8,h⟩:=bs h
 refine Wp.loopR zbJ (n:=(0,[])) (a:=zql) rfl (zeT a0 a1) (zlp a0 a1) (zwr a0 a1) hl8 ?_ (by(repeat(first|refine Clo.block ?_|refine Clo.seq zbJ rfl ?_));(exact Clo.ret)) ?_
 ·show Up (0,[]) (zeT a0 a1 (0,0)) _
  delta zeT
  exact Up.of (N:=5) (N':=5) [] rfl rfl (by decide) (.set (.d _) (.set (.d _) (.set (.d _) (.set (.d _) (.set (.d _) zam.none))))) zar.at
 dsimp only[zlp]
 try simp only[go_sem]
 cases h
 rfl
noncomputable def zJl (a0:Forest) (a1:Int):Option (Int):=
 (dec (eT2 zap D.bool) (pc prog 219 [zac a0,.int .i64 a1])).bind fun r1=>
 some r1.1.kind
theorem zJm (a0:Forest) (a1:Int) (r:Int) (h:zJl a0 a1=some r):pc prog 221 [zac a0,.int .i64 a1]=some ((D.int .u8) r):=by
 unfold zJl at h
 refine zbt (fn:=zHV) rfl rfl ?_
 delta zHV
 try simp only[go_sem]
 obtain⟨r1,hr2,h⟩:=bs h
 replace hr2:=zao hr2
 refine zaq hr2 ?_
 try simp only[go_sem]
 cases h
 rfl
def zeU (a0:Forest) (a1:Int) (a2:Node) (x0:List (Int×Int)×Int):St:=⟨(((((((Regs.none.set 1 (.d (.int .i64 a1))).set 3 (.ptr 0 0 0)).set 5 (.ptr 1 0 0)).set 7 (.map 3)).set 14 (.d (.list a2.kids.n (a2.kids.l.map (D.int .i64))))).set 15 (.d (.int .i64 (a2.kids.l.length:Int)))).set 16 (.d (.int .i64 x0.2))),((((Heap.at 9).set 0 (some (.els 1 [.d (zac a0)] 0))).set 1 (some (.els 16 [.d (zap a2)] 0))).set 3 (some (.map (ents (D.int .i64) (fun z=>V.d ((D.int .i64) z)) x0.1 0) x0.1.length)))⟩
def zid (a0:Forest) (a1:Int) (a2:Node):((Unit)⊕(Unit))→Ex×St:=fun r=>match r with
 |(.inl r)=>(.exit 0,⟨((Regs.none.set 3 (.ptr 0 0 0)).set 5 (.ptr 1 0 0)),(((Heap.at 9).set 0 (some (.els 1 [.d (zac a0)] 0))).set 1 (some (.els 16 [.d (zap a2)] 0)))⟩)
 |(.inr r)=>(.ret,⟨(Regs.none.set 6 (.d (.bool false))),(Heap.at 9)⟩)
noncomputable def zdi (a0:Forest) (a1:Int) (a2:Node) (x0:List (Int×Int)×Int):Option ((List (Int×Int)×Int)⊕((Unit)⊕(Unit))):=
 if(decide (x0.2<(a2.kids.l.length:Int)))=true then
  (rd a2.kids.l x0.2).bind fun y3=>
  (dec (eT2 zap D.bool) (pc prog 219 [zac a0,.int .i64 y3])).bind fun r5=>
  if r5.2=true then
   if(bif (bif (decide (0<(ziX y3 x0.1 (0))))then true else(!(r5.1.parent==a1)))then true else(!(r5.1.doc==a2.doc)))=true then
    some (.inr (.inr ()))
   else
    some (.inl ((zhD y3 (IntKind.wrap .i64 ((ziX y3 x0.1 (0))+1)) x0.1),(IntKind.wrap .i64 (x0.2+1))))
  else
   some (.inr (.inr ()))
 else
  some (.inr (.inl ()))
theorem zws (a0:Forest) (a1:Int) (a2:Node) (x0:List (Int×Int)×Int) (o:(List (Int×Int)×Int)⊕((Unit)⊕(Unit))) (h:zdi a0 a1 a2 x0=some o):Wp prog zqm (zeU a0 a1 a2 x0) (zcP (0,[]) (zeU a0 a1 a2) (zid a0 a1 a2) o):=by
 unfold zdi at h
 delta zqm zeU
 try simp only[go_sem]
 refine zal (fun hc1=> ?_) (fun hc2=> ?_)
 ·rw[if_pos hc1]at h
  try simp only[go_sem,zaz (e:=(D.int .i64)) (ev:=(D.int .i64)) zaj,zaA (e:=(D.int .i64)) (ev:=(D.int .i64)) zaj,zaw (e:=(D.int .i64)) (ev:=(D.int .i64)) zaj,zaB (e:=(D.int .i64)) (ev:=(D.int .i64)) zaj,zaC (e:=(D.int .i64)) (ev:=(D.int .i64))]
  obtain⟨y3,hy4,h⟩:=bs h
  try simp only[go_sem,zaz (e:=(D.int .i64)) (ev:=(D.int .i64)) zaj,zaA (e:=(D.int .i64)) (ev:=(D.int .i64)) zaj,zaw (e:=(D.int .i64)) (ev:=(D.int .i64)) zaj,zaB (e:=(D.int .i64)) (ev:=(D.int .i64)) zaj,zaC (e:=(D.int .i64)) (ev:=(D.int .i64)),zad hy4,zak hy4,zae (D.int .i64) hy4]
  obtain⟨r5,hr6,h⟩:=bs h
  replace hr6:=zao hr6
  refine zaq hr6 ?_
  try simp only[go_sem,zaz (e:=(D.int .i64)) (ev:=(D.int .i64)) zaj,zaA (e:=(D.int .i64)) (ev:=(D.int .i64)) zaj,zaw (e:=(D.int .i64)) (ev:=(D.int .i64)) zaj,zaB (e:=(D.int .i64)) (ev:=(D.int .i64)) zaj,zaC (e:=(D.int .i64)) (ev:=(D.int .i64)),zad hy4,zak hy4,zae (D.int .i64) hy4]
  refine zaJ (fun hc7=> ?_) (fun hc8=> ?_)
  ·rw[if_pos hc7]at h
   try simp only[go_sem,zaz (e:=(D.int .i64)) (ev:=(D.int .i64)) zaj,zaA (e:=(D.int .i64)) (ev:=(D.int .i64)) zaj,zaw (e:=(D.int .i64)) (ev:=(D.int .i64)) zaj,zaB (e:=(D.int .i64)) (ev:=(D.int .i64)) zaj,zaC (e:=(D.int .i64)) (ev:=(D.int .i64)),zad hy4,zak hy4,zae (D.int .i64) hy4,hc7]
   refine zaa (v:= .ptr 19 0 8) (fun hb19=>by simp only[go_sem,zaz (e:=(D.int .i64)) (ev:=(D.int .i64)) zaj,zaA (e:=(D.int .i64)) (ev:=(D.int .i64)) zaj,zaw (e:=(D.int .i64)) (ev:=(D.int .i64)) zaj,zaB (e:=(D.int .i64)) (ev:=(D.int .i64)) zaj,zaC (e:=(D.int .i64)) (ev:=(D.int .i64)),zad hy4,zak hy4,zae (D.int .i64) hy4,hc1,hc7,hb19]) ?_
   try simp only[go_sem,zaz (e:=(D.int .i64)) (ev:=(D.int .i64)) zaj,zaA (e:=(D.int .i64)) (ev:=(D.int .i64)) zaj,zaw (e:=(D.int .i64)) (ev:=(D.int .i64)) zaj,zaB (e:=(D.int .i64)) (ev:=(D.int .i64)) zaj,zaC (e:=(D.int .i64)) (ev:=(D.int .i64)),zad hy4,zak hy4,zae (D.int .i64) hy4]
   refine zaa (v:= .d (.int .i64 r5.1.parent)) (fun hb18=>by simp only[go_sem,zaz (e:=(D.int .i64)) (ev:=(D.int .i64)) zaj,zaA (e:=(D.int .i64)) (ev:=(D.int .i64)) zaj,zaw (e:=(D.int .i64)) (ev:=(D.int .i64)) zaj,zaB (e:=(D.int .i64)) (ev:=(D.int .i64)) zaj,zaC (e:=(D.int .i64)) (ev:=(D.int .i64)),zad hy4,zak hy4,zae (D.int .i64) hy4,hc1,hc7,hb18]) ?_
   try simp only[go_sem,zaz (e:=(D.int .i64)) (ev:=(D.int .i64)) zaj,zaA (e:=(D.int .i64)) (ev:=(D.int .i64)) zaj,zaw (e:=(D.int .i64)) (ev:=(D.int .i64)) zaj,zaB (e:=(D.int .i64)) (ev:=(D.int .i64)) zaj,zaC (e:=(D.int .i64)) (ev:=(D.int .i64)),zad hy4,zak hy4,zae (D.int .i64) hy4]
   refine zaa (v:= .d (.int .i64 a1)) (fun hb17=>by simp only[go_sem,zaz (e:=(D.int .i64)) (ev:=(D.int .i64)) zaj,zaA (e:=(D.int .i64)) (ev:=(D.int .i64)) zaj,zaw (e:=(D.int .i64)) (ev:=(D.int .i64)) zaj,zaB (e:=(D.int .i64)) (ev:=(D.int .i64)) zaj,zaC (e:=(D.int .i64)) (ev:=(D.int .i64)),zad hy4,zak hy4,zae (D.int .i64) hy4,hc1,hc7,hb17]) ?_
   try simp only[go_sem,zaz (e:=(D.int .i64)) (ev:=(D.int .i64)) zaj,zaA (e:=(D.int .i64)) (ev:=(D.int .i64)) zaj,zaw (e:=(D.int .i64)) (ev:=(D.int .i64)) zaj,zaB (e:=(D.int .i64)) (ev:=(D.int .i64)) zaj,zaC (e:=(D.int .i64)) (ev:=(D.int .i64)),zad hy4,zak hy4,zae (D.int .i64) hy4]
   refine zaa (v:= .d (.bool (!(r5.1.parent==a1)))) (fun hb16=>by simp only[go_sem,zaz (e:=(D.int .i64)) (ev:=(D.int .i64)) zaj,zaA (e:=(D.int .i64)) (ev:=(D.int .i64)) zaj,zaw (e:=(D.int .i64)) (ev:=(D.int .i64)) zaj,zaB (e:=(D.int .i64)) (ev:=(D.int .i64)) zaj,zaC (e:=(D.int .i64)) (ev:=(D.int .i64)),zad hy4,zak hy4,zae (D.int .i64) hy4,hc1,hc7,hb16]) ?_
   try simp only[go_sem,zaz (e:=(D.int .i64)) (ev:=(D.int .i64)) zaj,zaA (e:=(D.int .i64)) (ev:=(D.int .i64)) zaj,zaw (e:=(D.int .i64)) (ev:=(D.int .i64)) zaj,zaB (e:=(D.int .i64)) (ev:=(D.int .i64)) zaj,zaC (e:=(D.int .i64)) (ev:=(D.int .i64)),zad hy4,zak hy4,zae (D.int .i64) hy4]
   refine zaa (v:= .ptr 19 0 10) (fun hb15=>by simp only[go_sem,zaz (e:=(D.int .i64)) (ev:=(D.int .i64)) zaj,zaA (e:=(D.int .i64)) (ev:=(D.int .i64)) zaj,zaw (e:=(D.int .i64)) (ev:=(D.int .i64)) zaj,zaB (e:=(D.int .i64)) (ev:=(D.int .i64)) zaj,zaC (e:=(D.int .i64)) (ev:=(D.int .i64)),zad hy4,zak hy4,zae (D.int .i64) hy4,hc1,hc7,hb15]) ?_
   try simp only[go_sem,zaz (e:=(D.int .i64)) (ev:=(D.int .i64)) zaj,zaA (e:=(D.int .i64)) (ev:=(D.int .i64)) zaj,zaw (e:=(D.int .i64)) (ev:=(D.int .i64)) zaj,zaB (e:=(D.int .i64)) (ev:=(D.int .i64)) zaj,zaC (e:=(D.int .i64)) (ev:=(D.int .i64)),zad hy4,zak hy4,zae (D.int .i64) hy4]
   refine zaa (v:= .d (.int .i64 r5.1.doc)) (fun hb14=>by simp only[go_sem,zaz (e:=(D.int .i64)) (ev:=(D.int .i64)) zaj,zaA (e:=(D.int .i64)) (ev:=(D.int .i64)) zaj,zaw (e:=(D.int .i64)) (ev:=(D.int .i64)) zaj,zaB (e:=(D.int .i64)) (ev:=(D.int .i64)) zaj,zaC (e:=(D.int .i64)) (ev:=(D.int .i64)),zad hy4,zak hy4,zae (D.int .i64) hy4,hc1,hc7,hb14]) ?_
   try simp only[go_sem,zaz (e:=(D.int .i64)) (ev:=(D.int .i64)) zaj,zaA (e:=(D.int .i64)) (ev:=(D.int .i64)) zaj,zaw (e:=(D.int .i64)) (ev:=(D.int .i64)) zaj,zaB (e:=(D.int .i64)) (ev:=(D.int .i64)) zaj,zaC (e:=(D.int .i64)) (ev:=(D.int .i64)),zad hy4,zak hy4,zae (D.int .i64) hy4]
   refine zaa (v:= .ptr 1 0 10) (fun hb13=>by simp only[go_sem,zaz (e:=(D.int .i64)) (ev:=(D.int .i64)) zaj,zaA (e:=(D.int .i64)) (ev:=(D.int .i64)) zaj,zaw (e:=(D.int .i64)) (ev:=(D.int .i64)) zaj,zaB (e:=(D.int .i64)) (ev:=(D.int .i64)) zaj,zaC (e:=(D.int .i64)) (ev:=(D.int .i64)),zad hy4,zak hy4,zae (D.int .i64) hy4,hc1,hc7,hb13]) ?_
   try simp only[go_sem,zaz (e:=(D.int .i64)) (ev:=(D.int .i64)) zaj,zaA (e:=(D.int .i64)) (ev:=(D.int .i64)) zaj,zaw (e:=(D.int .i64)) (ev:=(D.int .i64)) zaj,zaB (e:=(D.int .i64)) (ev:=(D.int .i64)) zaj,zaC (e:=(D.int .i64)) (ev:=(D.int .i64)),zad hy4,zak hy4,zae (D.int .i64) hy4]
   refine zaa (v:= .d (.int .i64 a2.doc)) (fun hb12=>by simp only[go_sem,zaz (e:=(D.int .i64)) (ev:=(D.int .i64)) zaj,zaA (e:=(D.int .i64)) (ev:=(D.int .i64)) zaj,zaw (e:=(D.int .i64)) (ev:=(D.int .i64)) zaj,zaB (e:=(D.int .i64)) (ev:=(D.int .i64)) zaj,zaC (e:=(D.int .i64)) (ev:=(D.int .i64)),zad hy4,zak hy4,zae (D.int .i64) hy4,hc1,hc7,hb12]) ?_
   try simp only[go_sem,zaz (e:=(D.int .i64)) (ev:=(D.int .i64)) zaj,zaA (e:=(D.int .i64)) (ev:=(D.int .i64)) zaj,zaw (e:=(D.int .i64)) (ev:=(D.int .i64)) zaj,zaB (e:=(D.int .i64)) (ev:=(D.int .i64)) zaj,zaC (e:=(D.int .i64)) (ev:=(D.int .i64)),zad hy4,zak hy4,zae (D.int .i64) hy4]
   refine zaa (v:= .d (.bool (!(r5.1.doc==a2.doc)))) (fun hb11=>by simp only[go_sem,zaz (e:=(D.int .i64)) (ev:=(D.int .i64)) zaj,zaA (e:=(D.int .i64)) (ev:=(D.int .i64)) zaj,zaw (e:=(D.int .i64)) (ev:=(D.int .i64)) zaj,zaB (e:=(D.int .i64)) (ev:=(D.int .i64)) zaj,zaC (e:=(D.int .i64)) (ev:=(D.int .i64)),zad hy4,zak hy4,zae (D.int .i64) hy4,hc1,hc7,hb11]) ?_
   try simp only[go_sem,zaz (e:=(D.int .i64)) (ev:=(D.int .i64)) zaj,zaA (e:=(D.int .i64)) (ev:=(D.int .i64)) zaj,zaw (e:=(D.int .i64)) (ev:=(D.int .i64)) zaj,zaB (e:=(D.int .i64)) (ev:=(D.int .i64)) zaj,zaC (e:=(D.int .i64)) (ev:=(D.int .i64)),zad hy4,zak hy4,zae (D.int .i64) hy4]
   refine zal (fun hc9=> ?_) (fun hc10=> ?_)
   ·rw[if_pos hc9]at h
    try simp only[go_sem,zaz (e:=(D.int .i64)) (ev:=(D.int .i64)) zaj,zaA (e:=(D.int .i64)) (ev:=(D.int .i64)) zaj,zaw (e:=(D.int .i64)) (ev:=(D.int .i64)) zaj,zaB (e:=(D.int .i64)) (ev:=(D.int .i64)) zaj,zaC (e:=(D.int .i64)) (ev:=(D.int .i64)),zad hy4,zak hy4,zae (D.int .i64) hy4]
    cases h
    exact⟨rfl,by simp,Up.of (N:=9) (N':=44) [] rfl rfl (by decide) (.set (.d _) zam.none) zar.at⟩
   rw[if_neg (ff hc10)]at h
   try simp only[go_sem,zaz (e:=(D.int .i64)) (ev:=(D.int .i64)) zaj,zaA (e:=(D.int .i64)) (ev:=(D.int .i64)) zaj,zaw (e:=(D.int .i64)) (ev:=(D.int .i64)) zaj,zaB (e:=(D.int .i64)) (ev:=(D.int .i64)) zaj,zaC (e:=(D.int .i64)) (ev:=(D.int .i64)),zad hy4,zak hy4,zae (D.int .i64) hy4]
   cases h
   exact⟨rfl,Up.of (N:=9) (N':=50) [] rfl rfl (by decide) (.set (.d _) (.set (.d _) (.set (.d _) (.set (.map' rfl) (.set (.ptr' rfl) (.set (.ptr' rfl) (.set (.d _) zam.none))))))) (.set zax.map_d (.set zax.refl_d (.set zax.refl_d zar.at)))⟩
  rw[if_neg (ff hc8)]at h
  try simp only[go_sem,zaz (e:=(D.int .i64)) (ev:=(D.int .i64)) zaj,zaA (e:=(D.int .i64)) (ev:=(D.int .i64)) zaj,zaw (e:=(D.int .i64)) (ev:=(D.int .i64)) zaj,zaB (e:=(D.int .i64)) (ev:=(D.int .i64)) zaj,zaC (e:=(D.int .i64)) (ev:=(D.int .i64)),zad hy4,zak hy4,zae (D.int .i64) hy4,hc8]
  cases h
  exact⟨rfl,by simp,Up.of (N:=9) (N':=44) [] rfl rfl (by decide) (.set (.d _) zam.none) zar.at⟩
 rw[if_neg (ff hc2)]at h
 try simp only[go_sem,zaz (e:=(D.int .i64)) (ev:=(D.int .i64)) zaj,zaA (e:=(D.int .i64)) (ev:=(D.int .i64)) zaj,zaw (e:=(D.int .i64)) (ev:=(D.int .i64)) zaj,zaB (e:=(D.int .i64)) (ev:=(D.int .i64)) zaj,zaC (e:=(D.int .i64)) (ev:=(D.int .i64))]
 cases h
 exact⟨rfl,by simp,Up.of (N:=9) (N':=10) [] rfl rfl (by decide) (.set (.ptr' rfl) (.set (.ptr' rfl) zam.none)) (.set zax.refl_d (.set zax.refl_d zar.at))⟩
noncomputable def zJn (a0:Forest) (a1:Int) (a2:Node):Option (Bool):=
 (zaT (zdi a0 a1 a2) ([],0)).bind fun r20=>
 match r20 with
 |(.inl q22)=>
  (dec D.bool (pc prog 231 [zac a0,zap a2])).bind fun r23=>
  some r23
 |(.inr q25)=>
  some false
theorem zJo (a0:Forest) (a1:Int) (a2:Node) (r:Bool) (h:zJn a0 a1 a2=some r):pc prog 222 [zac a0,.int .i64 a1,zap a2]=some (D.bool r):=by
 unfold zJn at h
 refine zbt (fn:=zHW) rfl rfl ?_
 delta zHW
 try simp only[go_sem]
 obtain⟨r20,hl21,h⟩:=bs h
 refine Wp.loopR zbJ (n:=(0,[])) (a:=zqm) rfl (zeU a0 a1 a2) (zid a0 a1 a2) (zws a0 a1 a2) hl21 ?_ (by(repeat(first|refine Clo.block ?_|refine Clo.seq zbJ rfl ?_));(exact Clo.ret)) ?_
 ·show Up (0,[]) (zeU a0 a1 a2 ([],0)) _
  delta zeU
  exact Up.of (N:=9) (N':=9) [] rfl rfl (by decide) (.set (.d _) (.set (.d _) (.set (.d _) (.set (.map' rfl) (.set (.ptr' rfl) (.set (.ptr' rfl) (.set (.d _) zam.none))))))) (.set zax.map_d (.set zax.refl_d (.set zax.refl_d zar.at)))
 rcases r20 with(q22|q25)
 ·dsimp only at h
  dsimp only[zid]
  try simp only[go_sem]
  obtain⟨r23,hr24,h⟩:=bs h
  replace hr24:=zao hr24
  refine zaq hr24 ?_
  try simp only[go_sem]
  cases h
  rfl
 dsimp only at h
 dsimp only[zid]
 try simp only[go_sem]
 cases h
 rfl
noncomputable def zJp (a0:Name):Option (Bool):=
 if(!(a0.local_==[]))=true then
  (dec D.bool (pc prog 218 [.list false (([a0.space,a0.prefix_,a0.local_]).map D.str)])).bind fun r3=>
  if r3=true then
   some (bif (a0.prefix_==[])then true else(!(a0.space==[])))
  else
   some false
 else
  some false
theorem zJq (a0:Name) (r:Bool) (h:zJp a0=some r):pc prog 229 [zcg a0]=some (D.bool r):=by
 unfold zJp at h
 refine zbt (fn:=zHX) rfl rfl ?_
 delta zHX
 try simp only[go_sem]
 refine zaa (v:= .ptr 0 0 0) (fun hb25=>by simp only[go_sem,hb25]) ?_
 try simp only[go_sem]
 refine zaa (v:= .d (.str a0.space)) (fun hb24=>by simp only[go_sem,hb24]) ?_
 try simp only[go_sem]
 refine zaa (v:= .ptr 0 0 1) (fun hb23=>by simp only[go_sem,hb23]) ?_
 try simp only[go_sem]
 refine zaa (v:= .d (.str a0.prefix_)) (fun hb22=>by simp only[go_sem,hb22]) ?_
 try simp only[go_sem]
 refine zaa (v:= .ptr 0 0 2) (fun hb21=>by simp only[go_sem,hb21]) ?_
 try simp only[go_sem]
 refine zaa (v:= .d (.str a0.local_)) (fun hb20=>by simp only[go_sem,hb20]) ?_
 try simp only[go_sem]
 refine zaF (fun hc1=> ?_) (fun hc2=> ?_)
 ·rw[if_pos (show(!(a0.local_==[]))=true by(rw[hc1];rfl))]at h
  try simp only[go_sem,hc1]
  obtain⟨r3,hr4,h⟩:=bs h
  replace hr4:=zao hr4
  refine zaq hr4 ?_
  try simp only[go_sem]
  refine zaa (v:= .ptr 0 0 1) (fun hb19=>by simp only[go_sem,hc1,hb19]) ?_
  try simp only[go_sem]
  refine zaa (v:= .d (.str a0.prefix_)) (fun hb18=>by simp only[go_sem,hc1,hb18]) ?_
  try simp only[go_sem]
  refine zaa (v:= .d (.bool (a0.prefix_==[]))) (fun hb17=>by simp only[go_sem,hc1,hb17]) ?_
  try simp only[go_sem]
  refine zaa (v:= .d (.bool (a0.prefix_==[]))) (fun hb16=>by simp only[go_sem,hc1,hb16]) ?_
  try simp only[go_sem]
  refine zaa (v:= .ptr 0 0 0) (fun hb13=>by((obtain⟨hb14,hb15⟩:=zay hb13));simp only[go_sem,hc1,hb15,hb14]) ?_
  try simp only[go_sem]
  refine zaa (v:= .d (.str a0.space)) (fun hb10=>by((obtain⟨hb11,hb12⟩:=zay hb10));simp only[go_sem,hc1,hb12,hb11]) ?_
  try simp only[go_sem]
  refine zaa (v:= .d (.bool (!(a0.space==[])))) (fun hb7=>by((obtain⟨hb8,hb9⟩:=zay hb7));simp only[go_sem,hc1,hb9,hb8]) ?_
  try simp only[go_sem]
  refine zaJ (fun hc5=> ?_) (fun hc6=> ?_)
  ·rw[if_pos hc5]at h
   try simp only[go_sem,hc5]
   cases h
   rfl
  rw[if_neg (ff hc6)]at h
  try simp only[go_sem,hc6]
  cases h
  rfl
 rw[if_neg (ffn hc2)]at h
 try simp only[go_sem,hc2]
 cases h
 rfl
noncomputable def zKt (a0:Name):Option (forest_key):=
 some (⟨a0.space,a0.local_⟩:forest_key)
theorem zJr (a0:Name) (r:forest_key) (h:zKt a0=some r):pc prog 230 [zcg a0]=some (zag r):=by
 unfold zKt at h
 refine zbt (fn:=zHY) rfl rfl ?_
 delta zHY
 try simp only[go_sem]
 cases h
 rfl
def zeV (a0:Forest) (a1:Node) (x0:Int×Int×Int):St:=⟨(((((((Regs.none.set 2 (.ptr 0 0 0)).set 5 (.d (.bool (a1.kind==9)))).set 6 (.d (.int .i64 x0.2.1))).set 7 (.d (.int .i64 x0.2.2))).set 14 (.d (.list a1.kids.n (a1.kids.l.map (D.int .i64))))).set 15 (.d (.int .i64 (a1.kids.l.length:Int)))).set 16 (.d (.int .i64 x0.1))),((Heap.at 13).set 0 (some (.els 1 [.d (zac a0)] 0)))⟩
def zie (a0:Forest) (a1:Node):((Int×Int)⊕(Unit))→Ex×St:=fun r=>match r with
 |(.inl r)=>(.exit 0,⟨(((Regs.none.set 5 (.d (.bool (a1.kind==9)))).set 6 (.d (.int .i64 r.1))).set 7 (.d (.int .i64 r.2))),(Heap.at 13)⟩)
 |(.inr r)=>(.ret,⟨(Regs.none.set 4 (.d (.bool false))),(Heap.at 13)⟩)
noncomputable def zdj (a0:Forest) (a1:Node) (x0:Int×Int×Int):Option ((Int×Int×Int)⊕((Int×Int)⊕(Unit))):=
 if(decide (x0.1<(a1.kids.l.length:Int)))=true then
  (rd a1.kids.l x0.1).bind fun y3=>
  (dec (D.int .u8) (pc prog 221 [zac a0,.int .i64 y3])).bind fun r5=>
  if(r5==1)=true then
   some (.inl ((IntKind.wrap .i64 (x0.1+1)),(IntKind.wrap .i64 (x0.2.1+1)),x0.2.2))
  else
   if(r5==10)=true then
    if(bif (!(a1.kind==9))then true else(decide (0<x0.2.1)))=true then
     some (.inr (.inr ()))
    else
     some (.inl ((IntKind.wrap .i64 (x0.1+1)),x0.2.1,(IntKind.wrap .i64 (x0.2.2+1))))
   else
    if(r5==3)=true then
     if(a1.kind==9)=true then
      some (.inr (.inr ()))
     else
      some (.inl ((IntKind.wrap .i64 (x0.1+1)),x0.2.1,x0.2.2))
    else
     if(r5==4)=true then
      if(a1.kind==9)=true then
       some (.inr (.inr ()))
      else
       some (.inl ((IntKind.wrap .i64 (x0.1+1)),x0.2.1,x0.2.2))
     else
      if(r5==8)=true then
       some (.inl ((IntKind.wrap .i64 (x0.1+1)),x0.2.1,x0.2.2))
      else
       if(r5==7)=true then
        some (.inl ((IntKind.wrap .i64 (x0.1+1)),x0.2.1,x0.2.2))
       else
        some (.inr (.inr ()))
 else
  some (.inr (.inl (x0.2.1,x0.2.2)))
theorem zwt (a0:Forest) (a1:Node) (x0:Int×Int×Int) (o:(Int×Int×Int)⊕((Int×Int)⊕(Unit))) (h:zdj a0 a1 x0=some o):Wp prog zqn (zeV a0 a1 x0) (zcP (0,[]) (zeV a0 a1) (zie a0 a1) o):=by
 unfold zdj at h
 delta zqn zeV
 try simp only[go_sem]
 refine zal (fun hc1=> ?_) (fun hc2=> ?_)
 ·rw[if_pos hc1]at h
  try simp only[go_sem]
  obtain⟨y3,hy4,h⟩:=bs h
  try simp only[go_sem,zad hy4,zak hy4,zae (D.int .i64) hy4]
  obtain⟨r5,hr6,h⟩:=bs h
  replace hr6:=zao hr6
  refine zaq hr6 ?_
  try simp only[go_sem,zad hy4,zak hy4,zae (D.int .i64) hy4]
  refine zal (fun hc7=> ?_) (fun hc8=> ?_)
  ·rw[if_pos hc7]at h
   try simp only[go_sem,zad hy4,zak hy4,zae (D.int .i64) hy4]
   cases h
   exact⟨rfl,Up.of (N:=13) (N':=27) [] rfl rfl (by decide) (.set (.d _) (.set (.d _) (.set (.d _) (.set (.d _) (.set (.d _) (.set (.d _) (.set (.ptr' rfl) zam.none))))))) (.set zax.refl_d zar.at)⟩
  rw[if_neg (ff hc8)]at h
  try simp only[go_sem,zad hy4,zak hy4,zae (D.int .i64) hy4]
  refine zal (fun hc9=> ?_) (fun hc10=> ?_)
  ·rw[if_pos hc9]at h
   try simp only[go_sem,zad hy4,zak hy4,zae (D.int .i64) hy4]
   refine zaa (v:= .d (.int .i64 x0.2.1)) (fun hb14=>by simp only[go_sem,zad hy4,zak hy4,zae (D.int .i64) hy4,hc1,hc8,hc9,hb14]) ?_
   try simp only[go_sem,zad hy4,zak hy4,zae (D.int .i64) hy4]
   refine zaa (v:= .d (.bool (decide (0<x0.2.1)))) (fun hb13=>by simp only[go_sem,zad hy4,zak hy4,zae (D.int .i64) hy4,hc1,hc8,hc9,hb13]) ?_
   try simp only[go_sem,zad hy4,zak hy4,zae (D.int .i64) hy4]
   refine zal (fun hc11=> ?_) (fun hc12=> ?_)
   ·rw[if_pos hc11]at h
    try simp only[go_sem,zad hy4,zak hy4,zae (D.int .i64) hy4]
    cases h
    exact⟨rfl,by simp,Up.of (N:=13) (N':=31) [] rfl rfl (by decide) (.set (.d _) zam.none) zar.at⟩
   rw[if_neg (ff hc12)]at h
   try simp only[go_sem,zad hy4,zak hy4,zae (D.int .i64) hy4]
   cases h
   exact⟨rfl,Up.of (N:=13) (N':=35) [] rfl rfl (by decide) (.set (.d _) (.set (.d _) (.set (.d _) (.set (.d _) (.set (.d _) (.set (.d _) (.set (.ptr' rfl) zam.none))))))) (.set zax.refl_d zar.at)⟩
  rw[if_neg (ff hc10)]at h
  try simp only[go_sem,zad hy4,zak hy4,zae (D.int .i64) hy4]
  refine zal (fun hc15=> ?_) (fun hc16=> ?_)
  ·rw[if_pos hc15]at h
   try simp only[go_sem,zad hy4,zak hy4,zae (D.int .i64) hy4]
   try simp only[go_sem,zad hy4,zak hy4,zae (D.int .i64) hy4,hc1,hc8,hc10,hc15]
   refine zal (fun hc17=> ?_) (fun hc18=> ?_)
   ·rw[if_pos hc17]at h
    try simp only[go_sem,zad hy4,zak hy4,zae (D.int .i64) hy4]
    cases h
    exact⟨rfl,by simp,Up.of (N:=13) (N':=28) [] rfl rfl (by decide) (.set (.d _) zam.none) zar.at⟩
   rw[if_neg (ff hc18)]at h
   try simp only[go_sem,zad hy4,zak hy4,zae (D.int .i64) hy4]
   cases h
   exact⟨rfl,Up.of (N:=13) (N':=29) [] rfl rfl (by decide) (.set (.d _) (.set (.d _) (.set (.d _) (.set (.d _) (.set (.d _) (.set (.d _) (.set (.ptr' rfl) zam.none))))))) (.set zax.refl_d zar.at)⟩
  rw[if_neg (ff hc16)]at h
  try simp only[go_sem,zad hy4,zak hy4,zae (D.int .i64) hy4]
  refine zal (fun hc19=> ?_) (fun hc20=> ?_)
  ·rw[if_pos hc19]at h
   try simp only[go_sem,zad hy4,zak hy4,zae (D.int .i64) hy4]
   refine zal (fun hc21=> ?_) (fun hc22=> ?_)
   ·rw[if_pos hc21]at h
    try simp only[go_sem,zad hy4,zak hy4,zae (D.int .i64) hy4]
    cases h
    exact⟨rfl,by simp,Up.of (N:=13) (N':=30) [] rfl rfl (by decide) (.set (.d _) zam.none) zar.at⟩
   rw[if_neg (ff hc22)]at h
   try simp only[go_sem,zad hy4,zak hy4,zae (D.int .i64) hy4]
   cases h
   exact⟨rfl,Up.of (N:=13) (N':=31) [] rfl rfl (by decide) (.set (.d _) (.set (.d _) (.set (.d _) (.set (.d _) (.set (.d _) (.set (.d _) (.set (.ptr' rfl) zam.none))))))) (.set zax.refl_d zar.at)⟩
  rw[if_neg (ff hc20)]at h
  try simp only[go_sem,zad hy4,zak hy4,zae (D.int .i64) hy4]
  refine zal (fun hc23=> ?_) (fun hc24=> ?_)
  ·rw[if_pos hc23]at h
   try simp only[go_sem,zad hy4,zak hy4,zae (D.int .i64) hy4]
   try simp only[go_sem,zad hy4,zak hy4,zae (D.int .i64) hy4,hc1,hc8,hc10,hc16,hc20,hc23]
   cases h
   exact⟨rfl,Up.of (N:=13) (N':=32) [] rfl rfl (by decide) (.set (.d _) (.set (.d _) (.set (.d _) (.set (.d _) (.set (.d _) (.set (.d _) (.set (.ptr' rfl) zam.none))))))) (.set zax.refl_d zar.at)⟩
  rw[if_neg (ff hc24)]at h
  try simp only[go_sem,zad hy4,zak hy4,zae (D.int .i64) hy4]
  refine zal (fun hc25=> ?_) (fun hc26=> ?_)
  ·rw[if_pos hc25]at h
   try simp only[go_sem,zad hy4,zak hy4,zae (D.int .i64) hy4]
   cases h
   exact⟨rfl,Up.of (N:=13) (N':=34) [] rfl rfl (by decide) (.set (.d _) (.set (.d _) (.set (.d _) (.set (.d _) (.set (.d _) (.set (.d _) (.set (.ptr' rfl) zam.none))))))) (.set zax.refl_d zar.at)⟩
  rw[if_neg (ff hc26)]at h
  try simp only[go_sem,zad hy4,zak hy4,zae (D.int .i64) hy4]
  cases h
  exact⟨rfl,by simp,Up.of (N:=13) (N':=33) [] rfl rfl (by decide) (.set (.d _) zam.none) zar.at⟩
 rw[if_neg (ff hc2)]at h
 try simp only[go_sem]
 cases h
 exact⟨rfl,by simp,Up.of (N:=13) (N':=14) [] rfl rfl (by decide) (.set (.d _) (.set (.d _) (.set (.d _) zam.none))) zar.at⟩
noncomputable def zJs (a0:Forest) (a1:Node):Option (Bool):=
 (zaT (zdj a0 a1) (0,0,0)).bind fun r27=>
 match r27 with
 |(.inl q29)=>
  if(a1.kind==9)=true then
   some (bif (decide (q29.1<2))then(decide (q29.2<2))else false)
  else
   some true
 |(.inr q41)=>
  some false
theorem zJt (a0:Forest) (a1:Node) (r:Bool) (h:zJs a0 a1=some r):pc prog 231 [zac a0,zap a1]=some (D.bool r):=by
 unfold zJs at h
 refine zbt (fn:=zHZ) rfl rfl ?_
 delta zHZ
 try simp only[go_sem]
 obtain⟨r27,hl28,h⟩:=bs h
 refine Wp.loopR zbJ (n:=(0,[])) (a:=zqn) rfl (zeV a0 a1) (zie a0 a1) (zwt a0 a1) hl28 ?_ (by(repeat(first|refine Clo.block ?_|refine Clo.seq zbJ rfl ?_));(exact Clo.ret)) ?_
 ·show Up (0,[]) (zeV a0 a1 (0,0,0)) _
  delta zeV
  exact Up.of (N:=13) (N':=13) [] rfl rfl (by decide) (.set (.d _) (.set (.d _) (.set (.d _) (.set (.d _) (.set (.d _) (.set (.d _) (.set (.ptr' rfl) zam.none))))))) (.set zax.refl_d zar.at)
 rcases r27 with(q29|q41)
 ·dsimp only at h
  dsimp only[zie]
  try simp only[go_sem]
  refine zaa (v:= .d (.int .i64 q29.1)) (fun hb40=>by simp only[go_sem,hb40]) ?_
  try simp only[go_sem]
  refine zaa (v:= .d (.bool (decide (q29.1<2)))) (fun hb39=>by simp only[go_sem,hb39]) ?_
  try simp only[go_sem]
  refine zaa (v:= .d (.bool (decide (q29.1<2)))) (fun hb38=>by simp only[go_sem,hb38]) ?_
  try simp only[go_sem]
  refine zaa (v:= .d (.int .i64 q29.2)) (fun hb35=>by((obtain⟨hb36,hb37⟩:=zay hb35));simp only[go_sem,hb37,hb36]) ?_
  try simp only[go_sem]
  refine zaa (v:= .d (.bool (decide (q29.2<2)))) (fun hb32=>by((obtain⟨hb33,hb34⟩:=zay hb32));simp only[go_sem,hb34,hb33]) ?_
  try simp only[go_sem]
  refine zaJ (fun hc30=> ?_) (fun hc31=> ?_)
  ·rw[if_pos hc30]at h
   try simp only[go_sem,hc30]
   cases h
   rfl
  rw[if_neg (ff hc31)]at h
  try simp only[go_sem,hc31]
  cases h
  rfl
 dsimp only at h
 dsimp only[zie]
 try simp only[go_sem]
 cases h
 rfl
noncomputable def zJu (a0:Forest) (a1:Int):Option (Int):=
 (dec zap (pc prog 91 [zac a0,.int .i64 a1])).bind fun r1=>
 (dec D.bool (pc prog 144 [.int .u8 r1.kind])).bind fun r3=>
 if r3=true then
  some (r1.data.l.length:Int)
 else
  some (r1.kids.l.length:Int)
theorem zJv (a0:Forest) (a1:Int) (r:Int) (h:zJu a0 a1=some r):pc prog 114 [zac a0,.int .i64 a1]=some ((D.int .i64) r):=by
 unfold zJu at h
 refine zbt (fn:=zHv) rfl rfl ?_
 delta zHv
 try simp only[go_sem]
 obtain⟨r1,hr2,h⟩:=bs h
 replace hr2:=zao hr2
 refine zaq hr2 ?_
 try simp only[go_sem]
 obtain⟨r3,hr4,h⟩:=bs h
 replace hr4:=zao hr4
 refine zaq hr4 ?_
 try simp only[go_sem]
 refine zal (fun hc5=> ?_) (fun hc6=> ?_)
 ·rw[if_pos hc5]at h
  try simp only[go_sem]
  cases h
  rfl
 rw[if_neg (ff hc6)]at h
 try simp only[go_sem]
 cases h
 rfl
noncomputable def zJw (a0:Int):Option (Bool):=
 some (bif (a0==3)then true else(a0==4))
theorem zJx (a0:Int) (r:Bool) (h:zJw a0=some r):pc prog 140 [.int .u8 a0]=some (D.bool r):=by
 unfold zJw at h
 refine zbt (fn:=zHx) rfl rfl ?_
 delta zHx
 try simp only[go_sem]
 refine zaa (v:= .d (.int .u8 a0)) (fun hb2=>by simp only[go_sem,hb2]) ?_
 try simp only[go_sem]
 refine zaa (v:= .d (.bool (a0==4))) (fun hb1=>by simp only[go_sem,hb1]) ?_
 try simp only[go_sem]
 cases h
 rfl
noncomputable def zJy (a0:Int):Option (Bool):=
 (dec D.bool (pc prog 140 [.int .u8 a0])).bind fun r1=>
 some (bif (bif r1 then true else(a0==8))then true else(a0==7))
theorem zJz (a0:Int) (r:Bool) (h:zJy a0=some r):pc prog 144 [.int .u8 a0]=some (D.bool r):=by
 unfold zJy at h
 refine zbt (fn:=zHB) rfl rfl ?_
 delta zHB
 try simp only[go_sem]
 obtain⟨r1,hr2,h⟩:=bs h
 replace hr2:=zao hr2
 refine zaq hr2 ?_
 try simp only[go_sem]
 refine zaa (v:= .d (.int .u8 a0)) (fun hb6=>by simp only[go_sem,hb6]) ?_
 try simp only[go_sem]
 refine zaa (v:= .d (.bool (a0==8))) (fun hb5=>by simp only[go_sem,hb5]) ?_
 try simp only[go_sem]
 refine zaa (v:= .d (.int .u8 a0)) (fun hb4=>by simp only[go_sem,hb4]) ?_
 try simp only[go_sem]
 refine zaa (v:= .d (.bool (a0==7))) (fun hb3=>by simp only[go_sem,hb3]) ?_
 try simp only[go_sem]
 cases h
 rfl
end Go.Proofs.Ytfleilibjdgcjaa.B
