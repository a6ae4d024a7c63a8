/- Shaken copy of a longer text: what one law needs. Its conditions: none. -/
import Derived.Test.YthodcjjgimeeoaaZPDec0
set_option linter.unusedSimpArgs false
set_option linter.unusedVariables false
set_option maxHeartbeats 1000000
namespace Go.Proofs.Ythodcjjgimeeoaa.P
open Go.AI
noncomputable def P43 (a0:Forest) (a1:Int):Option (Node×Bool):=
 if(bif (decide (a1<1))then true else(decide ((a0.nodes.l.length:Int)<a1)))=true then
  some ((⟨0,⟨[],[],[]⟩,[],[],⟨true,[]⟩,⟨true,[]⟩,0,⟨true,[]⟩,0,0,0,0,false,false⟩:Node),false)
 else
  (rd a0.nodes.l (IntKind.wrap .i64 (a1-1))).bind fun y3=>
  some (y3,true)
theorem zMf (a0:Forest) (a1:Int) (r:Node×Bool) (h:P43 a0 a1=some r):pc prog 43 [zae a0,.int .i64 a1]=some ((eT2 zam D.bool) r):=by
 unfold P43 at h
 refine zbD (fn:=c43) rfl rfl ?_
 delta c43
 try simp only[go_sem]
 refine zaa (v:= .d (.int .i64 a1)) (fun hb9=>by simp only[go_sem,hb9]) ?_
 try simp only[go_sem]
 refine zaa (v:= .ptr 0 0 0) (fun hb8=>by simp only[go_sem,hb8]) ?_
 try simp only[go_sem]
 refine zaa (v:= .d (.list a0.nodes.n (a0.nodes.l.map zam))) (fun hb7=>by simp only[go_sem,hb7]) ?_
 try simp only[go_sem]
 refine zaa (v:= .d (.int .i64 (a0.nodes.l.length:Int))) (fun hb6=>by simp only[go_sem,hb6]) ?_
 try simp only[go_sem]
 refine zaa (v:= .d (.bool (decide ((a0.nodes.l.length:Int)<a1)))) (fun hb5=>by simp only[go_sem,hb5]) ?_
 try simp only[go_sem]
 refine zal (fun hc1=> ?_) (fun hc2=> ?_)
 ·rw[if_pos hc1]at h
  try simp only[go_sem]
  cases h
  rfl
 rw[if_neg (ff hc2)]at h
 try simp only[go_sem]
 obtain⟨y3,hy4,h⟩:=bs h
 try simp only[go_sem,zac hy4,zaj hy4,zad zam hy4]
 cases h
 rfl
noncomputable def zGr (a0:Forest) (x0:Int):Option ((Int)⊕((Int))):=
 (dec zam (pc prog 100 [zae a0,.int .i64 x0])).bind fun r1=>
 if(!(r1.parent==0))=true then
  (dec zam (pc prog 100 [zae a0,.int .i64 x0])).bind fun r5=>
  some (.inl r5.parent)
 else
  some (.inr x0)
def zhC (a0:Forest) (a1:Sl (Int)) (x0:Int):St:=⟨((((Regs.none.set 2 (.ptr 0 0 0)).set 17 (.d (.list a1.n (a1.l.map (D.int .i64))))).set 18 (.d (.int .i64 (a1.l.length:Int)))).set 19 (.d (.int .i64 x0))),((Heap.at 14).set 0 (some (.els 1 [.d (zae a0)] 0)))⟩
def zlH (a0:Forest) (a1:Sl (Int)):((Unit)⊕(Unit))→Ex×St:=fun r=>match r with
 |(.inl r)=>(.exit 0,⟨Regs.none,(Heap.at 14)⟩)
 |(.inr r)=>(.ret,⟨(Regs.none.set 4 (.d (.int .i64 (2)))),(Heap.at 14)⟩)
noncomputable def zen (a0:Forest) (a1:Sl (Int)) (x0:Int):Option ((Int)⊕((Unit)⊕(Unit))):=
 if(decide (x0<(a1.l.length:Int)))=true then
  (rd a1.l x0).bind fun y7=>
  if(bif (decide (y7<1))then true else(decide ((a0.nodes.l.length:Int)<y7)))=true then
   some (.inr (.inr ()))
  else
   some (.inl (IntKind.wrap .i64 (x0+1)))
 else
  some (.inr (.inl ()))
theorem zBD (a0:Forest) (a1:Sl (Int)) (x0:Int) (o:(Int)⊕((Unit)⊕(Unit))) (h:zen a0 a1 x0=some o):Wp prog zBv (zhC a0 a1 x0) (zcg (0,[]) (zhC a0 a1) (zlH a0 a1) o):=by
 unfold zen at h
 delta zBv zhC
 try simp only[go_sem]
 refine zal (fun hc5=> ?_) (fun hc6=> ?_)
 ·rw[if_pos hc5]at h
  try simp only[go_sem]
  obtain⟨y7,hy8,h⟩:=bs h
  try simp only[go_sem,zac hy8,zaj hy8,zad (D.int .i64) hy8]
  refine zaa (v:= .d (.int .i64 y7)) (fun hb15=>by simp only[go_sem,zac hy8,zaj hy8,zad (D.int .i64) hy8,hc5,hb15]) ?_
  try simp only[go_sem,zac hy8,zaj hy8,zad (D.int .i64) hy8]
  refine zaa (v:= .ptr 0 0 0) (fun hb14=>by simp only[go_sem,zac hy8,zaj hy8,zad (D.int .i64) hy8,hc5,hb14]) ?_
  try simp only[go_sem,zac hy8,zaj hy8,zad (D.int .i64) hy8]
  refine zaa (v:= .d (.list a0.nodes.n (a0.nodes.l.map zam))) (fun hb13=>by simp only[go_sem,zac hy8,zaj hy8,zad (D.int .i64) hy8,hc5,hb13]) ?_
  try simp only[go_sem,zac hy8,zaj hy8,zad (D.int .i64) hy8]
  refine zaa (v:= .d (.int .i64 (a0.nodes.l.length:Int))) (fun hb12=>by simp only[go_sem,zac hy8,zaj hy8,zad (D.int .i64) hy8,hc5,hb12]) ?_
  try simp only[go_sem,zac hy8,zaj hy8,zad (D.int .i64) hy8]
  refine zaa (v:= .d (.bool (decide ((a0.nodes.l.length:Int)<y7)))) (fun hb11=>by simp only[go_sem,zac hy8,zaj hy8,zad (D.int .i64) hy8,hc5,hb11]) ?_
  try simp only[go_sem,zac hy8,zaj hy8,zad (D.int .i64) hy8]
  refine zal (fun hc9=> ?_) (fun hc10=> ?_)
  ·rw[if_pos hc9]at h
   try simp only[go_sem,zac hy8,zaj hy8,zad (D.int .i64) hy8]
   cases h
   exact⟨rfl,by simp,Up.of (N:=14) (N':=28) [] rfl rfl (by decide) (.set (.d _) zak.none) zag.at⟩
  rw[if_neg (ff hc10)]at h
  try simp only[go_sem,zac hy8,zaj hy8,zad (D.int .i64) hy8]
  cases h
  exact⟨rfl,Up.of (N:=14) (N':=29) [] rfl rfl (by decide) (.set (.d _) (.set (.d _) (.set (.d _) (.set (.ptr' rfl) zak.none)))) (.set zaq.refl_d zag.at)⟩
 rw[if_neg (ff hc6)]at h
 try simp only[go_sem]
 cases h
 exact⟨rfl,by simp,Up.of (N:=14) (N':=15) [] rfl rfl (by decide) zak.none zag.at⟩
noncomputable def P82 (a0:Forest) (a1:Sl (Int)):Option (Int):=
 (dec (eT2 (D.int .i64) (D.int .i64)) (pc prog 124 [zae a0])).bind fun r1=>
 if(!(r1.1==0))=true then
  some r1.1
 else
  (zaU (zen a0 a1) 0).bind fun r16=>
  match r16 with
  |(.inl q18)=>
   some (0)
  |(.inr q19)=>
   some (2)
theorem zMg (a0:Forest) (a1:Sl (Int)) (r:Int) (h:P82 a0 a1=some r):pc prog 82 [zae a0,.list a1.n (a1.l.map (D.int .i64))]=some ((D.int .i64) r):=by
 unfold P82 at h
 refine zbD (fn:=c82) rfl rfl ?_
 delta c82
 try simp only[go_sem]
 obtain⟨r1,hr2,h⟩:=bs h
 replace hr2:=zao hr2
 refine zat hr2 ?_
 try simp only[go_sem]
 refine zaD (fun hc3=> ?_) (fun hc4=> ?_)
 ·rw[if_pos (show(!(r1.1==0))=true by(rw[hc3];rfl))]at h
  try simp only[go_sem]
  cases h
  rfl
 rw[if_neg (ffn hc4)]at h
 try simp only[go_sem]
 obtain⟨r16,hl17,h⟩:=bs h
 refine Wp.loopR zbd (n:=(0,[])) (a:=zBv) rfl (zhC a0 a1) (zlH a0 a1) (zBD a0 a1) hl17 ?_ (by(repeat(first|refine Clo.block ?_|refine Clo.seq zbd rfl ?_));(exact Clo.ret)) ?_
 ·show Up (0,[]) (zhC a0 a1 0) _
  delta zhC
  exact Up.of (N:=14) (N':=14) [] rfl rfl (by decide) (.set (.d _) (.set (.d _) (.set (.d _) (.set (.ptr' rfl) zak.none)))) (.set zaq.refl_d zag.at)
 rcases r16 with(q18|q19)
 ·dsimp only at h
  dsimp only[zlH]
  try simp only[go_sem]
  cases h
  rfl
 dsimp only at h
 dsimp only[zlH]
 try simp only[go_sem]
 cases h
 rfl
noncomputable def P92 (a0:Forest) (a1:Int):Option (Node):=
 if(bif (decide (a1<1))then true else(decide ((a0.nodes.l.length:Int)<a1)))=true then
  some (⟨0,⟨[],[],[]⟩,[],[],⟨true,[]⟩,⟨true,[]⟩,0,⟨true,[]⟩,0,0,0,0,false,false⟩:Node)
 else
  (rd a0.nodes.l (IntKind.wrap .i64 (a1-1))).bind fun y3=>
  some y3
theorem zMh (a0:Forest) (a1:Int) (r:Node) (h:P92 a0 a1=some r):pc prog 92 [zae a0,.int .i64 a1]=some (zam r):=by
 unfold P92 at h
 refine zbD (fn:=c92) rfl rfl ?_
 delta c92
 try simp only[go_sem]
 refine zaa (v:= .d (.int .i64 a1)) (fun hb9=>by simp only[go_sem,hb9]) ?_
 try simp only[go_sem]
 refine zaa (v:= .ptr 0 0 0) (fun hb8=>by simp only[go_sem,hb8]) ?_
 try simp only[go_sem]
 refine zaa (v:= .d (.list a0.nodes.n (a0.nodes.l.map zam))) (fun hb7=>by simp only[go_sem,hb7]) ?_
 try simp only[go_sem]
 refine zaa (v:= .d (.int .i64 (a0.nodes.l.length:Int))) (fun hb6=>by simp only[go_sem,hb6]) ?_
 try simp only[go_sem]
 refine zaa (v:= .d (.bool (decide ((a0.nodes.l.length:Int)<a1)))) (fun hb5=>by simp only[go_sem,hb5]) ?_
 try simp only[go_sem]
 refine zal (fun hc1=> ?_) (fun hc2=> ?_)
 ·rw[if_pos hc1]at h
  try simp only[go_sem]
  cases h
  rfl
 rw[if_neg (ff hc2)]at h
 try simp only[go_sem]
 obtain⟨y3,hy4,h⟩:=bs h
 try simp only[go_sem,zac hy4,zaj hy4,zad zam hy4]
 cases h
 rfl
def zhD (a0:Forest) (a1:Int) (a2:Int) (x0:Int):St:=⟨(((Regs.none.set 0 (.yld 38)).set 1 (.ptr 34 0 0)).set 2 (.ptr 33 0 0)),((((((((((Heap.at 39).set 0 (some (.els 1 [.d (zae a0)] 0))).set 1 (some (.els 1 [.d (.int .i64 a1)] 0))).set 2 (some (.els 1 [.d (.int .i64 a2)] 0))).set 9 (some (.els 1 [.d (.int .i64 a1),.d (.int .i64 a2)] 2))).set 15 (some (.els 1 [.d (zae a0)] 0))).set 29 (some (.els 1 [.d (.bool false)] 0))).set 33 (some (.els 1 [.d (zae a0)] 0))).set 34 (some (.els 1 [.d (.int .i64 x0)] 0))).set 38 (some (.loop ⟨((Regs.none.set 2 (.ptr 1 0 0)).set 3 (.ptr 29 0 0)),[8],znD,znE,.ready,none⟩)))⟩
def zlI (a0:Forest) (a1:Int) (a2:Int):((Int)⊕(Int))→Ex×St:=fun r=>match r with
 |(.inl r)=>(.exit 0,⟨Regs.none,((((((((((Heap.at 39).set 0 (some (.els 1 [.d (zae a0)] 0))).set 1 (some (.els 1 [.d (.int .i64 a1)] 0))).set 2 (some (.els 1 [.d (.int .i64 a2)] 0))).set 9 (some (.els 1 [.d (.int .i64 a1),.d (.int .i64 a2)] 2))).set 15 (some (.els 1 [.d (zae a0)] 0))).set 29 (some (.els 1 [.d (.bool false)] 0))).set 33 (some (.els 1 [.d (zae a0)] 0))).set 34 (some (.els 1 [.d (.int .i64 r)] 0))).set 38 (some (.loop ⟨((Regs.none.set 2 (.ptr 1 0 0)).set 3 (.ptr 29 0 0)),[8],znD,znE,.ready,none⟩)))⟩)
 |(.inr r)=>(.ret,⟨Regs.none,((((((((((Heap.at 39).set 0 (some (.els 1 [.d (zae a0)] 0))).set 1 (some (.els 1 [.d (.int .i64 a1)] 0))).set 2 (some (.els 1 [.d (.int .i64 a2)] 0))).set 9 (some (.els 1 [.d (.int .i64 a1),.d (.int .i64 a2)] 2))).set 15 (some (.els 1 [.d (zae a0)] 0))).set 29 (some (.els 1 [.d (.bool true)] 0))).set 33 (some (.els 1 [.d (zae a0)] 0))).set 34 (some (.els 1 [.d (.int .i64 r)] 0))).set 38 (some (.loop ⟨((Regs.none.set 2 (.ptr 1 0 0)).set 3 (.ptr 29 0 0)),[8],znD,znE,.done,(some .ret)⟩)))⟩)
noncomputable def zcN (a0:Forest) (a1:Int) (a2:Int) (x0:Int):Option ((Int)⊕((Int)⊕(Int))):=
 if(!(x0==0))=true then
  if(x0==a1)=true then
   some (.inr (.inr x0))
  else
   (dec (D.int .i64) (pc prog 174 [zae a0,.int .i64 x0])).bind fun r9=>
   some (.inl r9)
 else
  some (.inr (.inl x0))
theorem zBE (a0:Forest) (a1:Int) (a2:Int) (x0:Int) (o:(Int)⊕((Int)⊕(Int))) (h:zcN a0 a1 a2 x0=some o):Wp prog zrb (zhD a0 a1 a2 x0) (zcg (39,[]) (zhD a0 a1 a2) (zlI a0 a1 a2) o):=by
 unfold zcN at h
 delta zrb zhD
 try simp only[go_sem]
 refine zaD (fun hc5=> ?_) (fun hc6=> ?_)
 ·rw[if_pos (show(!(x0==0))=true by(rw[hc5];rfl))]at h
  try simp only[go_sem]
  refine zqO (by simp only[go_sem];rfl) rfl ?_
  delta znD
  try simp only[go_sem]
  delta znE
  try simp only[go_sem]
  refine zal (fun hc7=> ?_) (fun hc8=> ?_)
  ·rw[if_pos hc7]at h
   try simp only[go_sem]
   cases h
   exact⟨rfl,by simp,Up.of (N:=39) (N':=50) [] rfl rfl (by decide) zak.none (.set (zaq.loop (.set (.ptr' rfl) (.set (.ptr' rfl) zak.none)) rfl rfl) (.set zaq.refl_d (.set zaq.refl_d (.set zaq.refl_d (.set zaq.refl_d (.set (zaq.els (Nat.le_refl _) (.cons (.d _) (.cons (.d _) .nil))) (.set zaq.refl_d (.set zaq.refl_d (.set zaq.refl_d zag.at)))))))))⟩
  rw[if_neg (ff hc8)]at h
  try simp only[go_sem]
  obtain⟨r9,hr10,h⟩:=bs h
  replace hr10:=zao hr10
  refine zat hr10 ?_
  try simp only[go_sem]
  cases h
  exact⟨rfl,Up.of (N:=39) (N':=53) [] rfl rfl (by decide) (.set (.ptr' rfl) (.set (.ptr' rfl) (.set (.yld' rfl) zak.none))) (.set (zaq.loop (.set (.ptr' rfl) (.set (.ptr' rfl) zak.none)) rfl rfl) (.set zaq.refl_d (.set zaq.refl_d (.set zaq.refl_d (.set zaq.refl_d (.set (zaq.els (Nat.le_refl _) (.cons (.d _) (.cons (.d _) .nil))) (.set zaq.refl_d (.set zaq.refl_d (.set zaq.refl_d zag.at)))))))))⟩
 rw[if_neg (ffn hc6)]at h
 try simp only[go_sem]
 cases h
 exact⟨rfl,by simp,Up.of (N:=39) (N':=41) [] rfl rfl (by decide) zak.none (.set (zaq.loop (.set (.ptr' rfl) (.set (.ptr' rfl) zak.none)) rfl rfl) (.set zaq.refl_d (.set zaq.refl_d (.set zaq.refl_d (.set zaq.refl_d (.set (zaq.els (Nat.le_refl _) (.cons (.d _) (.cons (.d _) .nil))) (.set zaq.refl_d (.set zaq.refl_d (.set zaq.refl_d zag.at)))))))))⟩
noncomputable def P93 (a0:Forest) (a1:Int) (a2:Int):Option (Bool×Int):=
 (dec (D.int .i64) (pc prog 82 [zae a0,.list false (([a1,a2]).map (D.int .i64))])).bind fun r1=>
 if(!(r1==0))=true then
  some (false,r1)
 else
  (zaU (zcN a0 a1 a2) a2).bind fun r11=>
  match r11 with
  |(.inl q13)=>
   some (false,0)
  |(.inr q14)=>
   some (true,0)
theorem zLZ (a0:Forest) (a1:Int) (a2:Int) (r:Bool×Int) (h:P93 a0 a1 a2=some r):pc prog 93 [zae a0,.int .i64 a1,.int .i64 a2]=some ((eT2 D.bool (D.int .i64)) r):=by
 unfold P93 at h
 refine zbD (fn:=c93) rfl rfl ?_
 delta c93
 try simp only[go_sem]
 refine zbn (fn:=zJj) rfl rfl ?_
 delta zJj
 try simp only[go_sem]
 obtain⟨r1,hr2,h⟩:=bs h
 replace hr2:=zao hr2
 refine zat hr2 ?_
 try simp only[go_sem]
 refine zaD (fun hc3=> ?_) (fun hc4=> ?_)
 ·rw[if_pos (show(!(r1==0))=true by(rw[hc3];rfl))]at h
  try simp only[go_sem]
  cases h
  rfl
 rw[if_neg (ffn hc4)]at h
 try simp only[go_sem]
 refine znz (fn:=zJk) rfl rfl ?_
 delta zJk
 try simp only[go_sem]
 refine zbn (fn:=zJl) rfl rfl ?_
 delta zJl
 try simp only[go_sem]
 refine Wp.rfuncC (k:=173) (fn:=zJw) (first:=[]) (cap:=[.ptr 34 0 0,.ptr 33 0 0]) (by simp only[go_sem]) rfl rfl ?_
 delta zJw
 try simp only[go_sem]
 obtain⟨r11,hl12,h⟩:=bs h
 refine Wp.loopR zbd (n:=(39,[])) (a:=zrb) rfl (zhD a0 a1 a2) (zlI a0 a1 a2) (zBE a0 a1 a2) hl12 ?_ (by(repeat(refine Clo.block ?_));refine Clo.rf (n':=(29,[])) ?_ (by decide) (by decide) ?_;((repeat(first|refine zaI.set ?_ ?_|refine zaI.args ?_|exact zaX.nil|refine zaX.cons ?_ ?_|exact zaE.ptr (by decide)|refine zaE.clo ?_ ?_)));(repeat(first|refine Clo.block ?_|refine Clo.seq zbd rfl ?_));refine Clo.inl zbd (n':=(15,[])) rfl rfl rfl ?_ ?_ (show Fx.spans _ 25 4=true from by decide) (by decide) ?_;((repeat(first|exact zaI.no|refine zaI.set ?_ ?_|refine zaI.args ?_|exact zaX.nil|refine zaX.cons ?_ ?_|exact zaE.d|exact zaE.ptr (by decide)|exact zaE.sl (by decide)|refine zaE.clo ?_ ?_));(repeat(first|exact zaI.no|exact zaI.none|refine zaI.set ?_ ?_|refine zaI.args ?_|exact zaX.nil|refine zaX.cons ?_ ?_|exact zaE.d|exact zaE.undef|exact zaE.rp|exact zaE.ptr (by decide)|exact zaE.sl (by decide)|exact zaE.mb (by decide)|exact zaE.map (by decide)|exact zaE.yld (by decide)|exact zaE.it (by decide)|refine zaE.clo ?_ ?_|refine zaE.ofCells ?_|refine zaE.agg ?_|refine zaE.tuple ?_|refine zaE.bif ?_ ?_)));(repeat(refine Clo.seq zbd rfl ?_));refine Clo.inl zbd (n':=(0,[])) rfl rfl rfl ?_ ?_ (show Fx.spans _ 5 10=true from by decide) (by decide) ?_;((repeat(first|exact zaI.no|refine zaI.set ?_ ?_|refine zaI.args ?_|exact zaX.nil|refine zaX.cons ?_ ?_|exact zaE.d|exact zaE.ptr (by decide)|exact zaE.sl (by decide)|refine zaE.clo ?_ ?_));(repeat(first|exact zaI.no|exact zaI.none|refine zaI.set ?_ ?_|refine zaI.args ?_|exact zaX.nil|refine zaX.cons ?_ ?_|exact zaE.d|exact zaE.undef|exact zaE.rp|exact zaE.ptr (by decide)|exact zaE.sl (by decide)|exact zaE.mb (by decide)|exact zaE.map (by decide)|exact zaE.yld (by decide)|exact zaE.it (by decide)|refine zaE.clo ?_ ?_|refine zaE.ofCells ?_|refine zaE.agg ?_|refine zaE.tuple ?_|refine zaE.bif ?_ ?_)));(repeat(refine Clo.seq zbd rfl ?_));(exact Clo.ret)) ?_
 ·show Up (39,[]) (zhD a0 a1 a2 a2) _
  delta zhD
  exact Up.of (N:=39) (N':=39) [] rfl rfl (by decide) (.set (.ptr' rfl) (.set (.ptr' rfl) (.set (.yld' rfl) zak.none))) (.set (zaq.loop (.set (.ptr' rfl) (.set (.ptr' rfl) zak.none)) rfl rfl) (.set zaq.refl_d (.set zaq.refl_d (.set zaq.refl_d (.set zaq.refl_d (.set (zaq.els (Nat.le_refl _) (.cons (.d _) (.cons (.d _) .nil))) (.set zaq.refl_d (.set zaq.refl_d (.set zaq.refl_d zag.at)))))))))
 rcases r11 with(q13|q14)
 ·dsimp only at h
  dsimp only[zlI]
  try simp only[go_sem]
  cases h
  rfl
 dsimp only at h
 dsimp only[zlI]
 try simp only[go_sem]
 cases h
 rfl
def zhE (a0:Forest) (x0:Int×Int):St:=⟨(((Regs.none.set 0 (.yld 13)).set 1 (.ptr 9 0 0)).set 2 (.ptr 8 0 0)),((((((Heap.at 14).set 0 (some (.els 1 [.d (zae a0)] 0))).set 3 (some (.els 1 [.d (.int .i64 x0.1)] 0))).set 8 (some (.els 1 [.d (zae a0)] 0))).set 9 (some (.els 1 [.d (.int .i64 x0.2)] 0))).set 13 (some (.loop ⟨(Regs.none.set 5 (.ptr 3 0 0)),[11],zBz,zBA,.ready,none⟩)))⟩
def zpW (a0:Forest):((Int×Int))→Ex×St:=fun r=>(.exit 0,⟨Regs.none,((((((Heap.at 14).set 0 (some (.els 1 [.d (zae a0)] 0))).set 3 (some (.els 1 [.d (.int .i64 r.1)] 0))).set 8 (some (.els 1 [.d (zae a0)] 0))).set 9 (some (.els 1 [.d (.int .i64 r.2)] 0))).set 13 (some (.loop ⟨(Regs.none.set 5 (.ptr 3 0 0)),[11],zBz,zBA,.ready,none⟩)))⟩)
noncomputable def zdj (a0:Forest) (x0:Int×Int):Option ((Int×Int)⊕((Int×Int))):=
 if(!(x0.2==0))=true then
  (dec zam (pc prog 92 [zae a0,.int .i64 x0.2])).bind fun r3=>
  some (.inl (x0.2,r3.parent))
 else
  some (.inr (x0.1,x0.2))
theorem zBF (a0:Forest) (x0:Int×Int) (o:(Int×Int)⊕((Int×Int))) (h:zdj a0 x0=some o):Wp prog zrc (zhE a0 x0) (zcg (14,[]) (zhE a0) (zpW a0) o):=by
 unfold zdj at h
 delta zrc zhE
 try simp only[go_sem]
 refine zaD (fun hc1=> ?_) (fun hc2=> ?_)
 ·rw[if_pos (show(!(x0.2==0))=true by(rw[hc1];rfl))]at h
  try simp only[go_sem]
  refine zqO (by simp only[go_sem];rfl) rfl ?_
  delta zBz
  try simp only[go_sem]
  delta zBA
  try simp only[go_sem]
  obtain⟨r3,hr4,h⟩:=bs h
  replace hr4:=zao hr4
  refine zat hr4 ?_
  try simp only[go_sem]
  cases h
  exact⟨rfl,Up.of (N:=14) (N':=28) [] rfl rfl (by decide) (.set (.ptr' rfl) (.set (.ptr' rfl) (.set (.yld' rfl) zak.none))) (.set (zaq.loop (.set (.ptr' rfl) zak.none) rfl rfl) (.set zaq.refl_d (.set zaq.refl_d (.set zaq.refl_d (.set zaq.refl_d zag.at)))))⟩
 rw[if_neg (ffn hc2)]at h
 try simp only[go_sem]
 cases h
 exact⟨rfl,by simp,Up.of (N:=14) (N':=16) [] rfl rfl (by decide) zak.none (.set (zaq.loop (.set (.ptr' rfl) zak.none) rfl rfl) (.set zaq.refl_d (.set zaq.refl_d (.set zaq.refl_d (.set zaq.refl_d zag.at)))))⟩
noncomputable def P96 (a0:Forest) (a1:Int):Option (Int):=
 (zaU (zdj a0) (a1,a1)).bind fun r5=>
 some r5.1
theorem zMi (a0:Forest) (a1:Int) (r:Int) (h:P96 a0 a1=some r):pc prog 96 [zae a0,.int .i64 a1]=some ((D.int .i64) r):=by
 unfold P96 at h
 refine zbD (fn:=c96) rfl rfl ?_
 delta c96
 try simp only[go_sem]
 refine zbn (fn:=zJm) rfl rfl ?_
 delta zJm
 try simp only[go_sem]
 refine Wp.rfuncC (k:=175) (fn:=zJy) (first:=[]) (cap:=[.ptr 9 0 0,.ptr 8 0 0]) (by simp only[go_sem]) rfl rfl ?_
 delta zJy
 try simp only[go_sem]
 obtain⟨r5,hl6,h⟩:=bs h
 refine Wp.loopR zbd (n:=(14,[])) (a:=zrc) rfl (zhE a0) (zpW a0) (zBF a0) hl6 ?_ (by(repeat(refine Clo.block ?_));refine Clo.rf (n':=(0,[])) ?_ (by decide) (by decide) ?_;((repeat(first|refine zaI.set ?_ ?_|refine zaI.args ?_|exact zaX.nil|refine zaX.cons ?_ ?_|exact zaE.d|exact zaE.ptr (by decide)|refine zaE.clo ?_ ?_)));(repeat(first|refine Clo.block ?_|refine Clo.seq zbd rfl ?_));(exact Clo.ret)) ?_
 ·show Up (14,[]) (zhE a0 (a1,a1)) _
  delta zhE
  exact Up.of (N:=14) (N':=14) [] rfl rfl (by decide) (.set (.ptr' rfl) (.set (.ptr' rfl) (.set (.yld' rfl) zak.none))) (.set (zaq.loop (.set (.ptr' rfl) zak.none) rfl rfl) (.set zaq.refl_d (.set zaq.refl_d (.set zaq.refl_d (.set zaq.refl_d zag.at)))))
 dsimp only[zpW]
 try simp only[go_sem]
 cases h
 rfl
def zfm (a0:Forest) (r3:Sl (Bool)) (x0:Int):St:=⟨(((((Regs.none.set 1 (.ptr 0 0 0)).set 4 (.d (.list r3.n (r3.l.map D.bool)))).set 14 (.d (.list a0.nodes.n (a0.nodes.l.map zam)))).set 15 (.d (.int .i64 (a0.nodes.l.length:Int)))).set 16 (.d (.int .i64 x0))),((Heap.at 14).set 0 (some (.els 1 [.d (zae a0)] 0)))⟩
def ziB (a0:Forest) (r3:Sl (Bool)):((Unit)⊕(Int))→Ex×St:=fun r=>match r with
 |(.inl r)=>(.exit 0,⟨Regs.none,(Heap.at 14)⟩)
 |(.inr r)=>(.ret,⟨((Regs.none.set 2 (.d (.int .i64 (5)))).set 3 (.d (.int .i64 r))),(Heap.at 14)⟩)
noncomputable def zdB (a0:Forest) (r3:Sl (Bool)) (x0:Int):Option ((Int)⊕((Unit)⊕(Int))):=
 if(decide (x0<(a0.nodes.l.length:Int)))=true then
  (rd a0.nodes.l x0).bind fun y7=>
  (dec D.bool (pc prog 161 [zam y7])).bind fun r9=>
  if r9=true then
   (dec D.bool (pc prog 162 [zae a0,.int .i64 (IntKind.wrap .i64 (x0+1))])).bind fun r13=>
   if r13=true then
    (rd r3.l (IntKind.wrap .i64 (x0+1))).bind fun y17=>
    if(!y17)=true then
     some (.inr (.inr (IntKind.wrap .i64 (x0+1))))
    else
     some (.inl (IntKind.wrap .i64 (x0+1)))
   else
    some (.inr (.inr (IntKind.wrap .i64 (x0+1))))
  else
   some (.inr (.inr (IntKind.wrap .i64 (x0+1))))
 else
  some (.inr (.inl ()))
theorem zxJ (a0:Forest) (r3:Sl (Bool)) (x0:Int) (o:(Int)⊕((Unit)⊕(Int))) (h:zdB a0 r3 x0=some o):Wp prog zqT (zfm a0 r3 x0) (zcg (0,[]) (zfm a0 r3) (ziB a0 r3) o):=by
 unfold zdB at h
 delta zqT zfm
 try simp only[go_sem]
 refine zal (fun hc5=> ?_) (fun hc6=> ?_)
 ·rw[if_pos hc5]at h
  try simp only[go_sem]
  obtain⟨y7,hy8,h⟩:=bs h
  try simp only[go_sem,zac hy8,zaj hy8,zad zam hy8]
  obtain⟨r9,hr10,h⟩:=bs h
  replace hr10:=zao hr10
  refine zat hr10 ?_
  try simp only[go_sem,zac hy8,zaj hy8,zad zam hy8]
  refine zaa (v:= .d (zae a0)) (fun hb26=>by simp only[go_sem,zac hy8,zaj hy8,zad zam hy8,hc5,hb26]) ?_
  try simp only[go_sem,zac hy8,zaj hy8,zad zam hy8]
  refine zaa (v:= .d (.int .i64 x0)) (fun hb25=>by simp only[go_sem,zac hy8,zaj hy8,zad zam hy8,hc5,hb25]) ?_
  try simp only[go_sem,zac hy8,zaj hy8,zad zam hy8]
  refine zaa (v:= .d (.int .i64 (IntKind.wrap .i64 (x0+1)))) (fun hb24=>by simp only[go_sem,zac hy8,zaj hy8,zad zam hy8,hc5,hb24]) ?_
  try simp only[go_sem,zac hy8,zaj hy8,zad zam hy8]
  refine zaG (fun hc11=> ?_) (fun hc12=> ?_)
  ·rw[if_pos hc11]at h
   try simp only[go_sem,zac hy8,zaj hy8,zad zam hy8,hc11]
   obtain⟨r13,hr14,h⟩:=bs h
   replace hr14:=zao hr14
   refine zat hr14 ?_
   try simp only[go_sem,zac hy8,zaj hy8,zad zam hy8]
   refine zaa (v:= .d (.list r3.n (r3.l.map D.bool))) (fun hb23=>by simp only[go_sem,zac hy8,zaj hy8,zad zam hy8,hc5,hc11,hb23]) ?_
   try simp only[go_sem,zac hy8,zaj hy8,zad zam hy8]
   refine zaa (v:= .d (.int .i64 x0)) (fun hb22=>by simp only[go_sem,zac hy8,zaj hy8,zad zam hy8,hc5,hc11,hb22]) ?_
   try simp only[go_sem,zac hy8,zaj hy8,zad zam hy8]
   refine zaa (v:= .d (.int .i64 (IntKind.wrap .i64 (x0+1)))) (fun hb21=>by simp only[go_sem,zac hy8,zaj hy8,zad zam hy8,hc5,hc11,hb21]) ?_
   try simp only[go_sem,zac hy8,zaj hy8,zad zam hy8]
   refine zaG (fun hc15=> ?_) (fun hc16=> ?_)
   ·rw[if_pos hc15]at h
    try simp only[go_sem,zac hy8,zaj hy8,zad zam hy8,hc15]
    obtain⟨y17,hy18,h⟩:=bs h
    try simp only[go_sem,zac hy8,zaj hy8,zad zam hy8,zac hy18,zaj hy18,zad D.bool hy18]
    refine zaD (fun hc19=> ?_) (fun hc20=> ?_)
    ·rw[if_pos (show(!y17)=true by(rw[hc19];rfl))]at h
     try simp only[go_sem,zac hy8,zaj hy8,zad zam hy8,zac hy18,zaj hy18,zad D.bool hy18]
     cases h
     exact⟨rfl,by simp,Up.of (N:=14) (N':=43) [] rfl rfl (by decide) (.set (.d _) (.set (.d _) zak.none)) zag.at⟩
    rw[if_neg (ffn hc20)]at h
    try simp only[go_sem,zac hy8,zaj hy8,zad zam hy8,zac hy18,zaj hy18,zad D.bool hy18]
    cases h
    exact⟨rfl,Up.of (N:=14) (N':=41) [] rfl rfl (by decide) (.set (.d _) (.set (.d _) (.set (.d _) (.set (.d _) (.set (.ptr' rfl) zak.none))))) (.set zaq.refl_d zag.at)⟩
   rw[if_neg (ff hc16)]at h
   try simp only[go_sem,zac hy8,zaj hy8,zad zam hy8,hc16]
   cases h
   exact⟨rfl,by simp,Up.of (N:=14) (N':=43) [] rfl rfl (by decide) (.set (.d _) (.set (.d _) zak.none)) zag.at⟩
  rw[if_neg (ff hc12)]at h
  try simp only[go_sem,zac hy8,zaj hy8,zad zam hy8,hc12]
  cases h
  exact⟨rfl,by simp,Up.of (N:=14) (N':=43) [] rfl rfl (by decide) (.set (.d _) (.set (.d _) zak.none)) zag.at⟩
 rw[if_neg (ff hc6)]at h
 try simp only[go_sem]
 cases h
 exact⟨rfl,by simp,Up.of (N:=14) (N':=15) [] rfl rfl (by decide) zak.none zag.at⟩
noncomputable def zKA (a0:Forest):Option (Int×Int):=
 if(decide (4096<(a0.nodes.l.length:Int)))=true then
  some (5,0)
 else
  (dec (eSl D.bool) (pc prog 160 [zae a0])).bind fun r3=>
  (zaU (zdB a0 r3) 0).bind fun r27=>
  match r27 with
  |(.inl q29)=>
   some (0,0)
  |(.inr q30)=>
   some (5,q30)
theorem zKB (a0:Forest) (r:Int×Int) (h:zKA a0=some r):pc prog 124 [zae a0]=some ((eT2 (D.int .i64) (D.int .i64)) r):=by
 unfold zKA at h
 refine zbD (fn:=zJa) rfl rfl ?_
 delta zJa
 try simp only[go_sem]
 refine zal (fun hc1=> ?_) (fun hc2=> ?_)
 ·rw[if_pos hc1]at h
  try simp only[go_sem]
  cases h
  rfl
 rw[if_neg (ff hc2)]at h
 try simp only[go_sem]
 obtain⟨r3,hr4,h⟩:=bs h
 replace hr4:=zao hr4
 refine zat hr4 ?_
 try simp only[go_sem]
 obtain⟨r27,hl28,h⟩:=bs h
 refine Wp.loopR zbd (n:=(0,[])) (a:=zqT) rfl (zfm a0 r3) (ziB a0 r3) (zxJ a0 r3) hl28 ?_ (by(repeat(first|refine Clo.block ?_|refine Clo.seq zbd rfl ?_));(exact Clo.ret)) ?_
 ·show Up (0,[]) (zfm a0 r3 0) _
  delta zfm
  exact Up.of (N:=14) (N':=14) [] rfl rfl (by decide) (.set (.d _) (.set (.d _) (.set (.d _) (.set (.d _) (.set (.ptr' rfl) zak.none))))) (.set zaq.refl_d zag.at)
 rcases r27 with(q29|q30)
 ·dsimp only at h
  dsimp only[ziB]
  try simp only[go_sem]
  cases h
  rfl
 dsimp only at h
 dsimp only[ziB]
 try simp only[go_sem]
 cases h
 rfl
def zfn (a0:Forest) (x0:List (Int)×Int) (x1:List (Int)×List (Int)×Int):St:=⟨((((((Regs.none.set 1 (.ptr 0 0 0)).set 3 (.sl 6 0 (((IntKind.wrap .i64 ((a0.nodes.l.length:Int)+1))).toNat))).set 5 (mb 18 (x1.2.1.map fun z=>V.d ((D.int .i64) z)))).set 6 (.d (.int .i64 x1.2.2))).set 19 (.d (.int .i64 (a0.nodes.l.length:Int)))).set 20 (.d (.int .i64 x0.2))),((((Heap.at 19).set 0 (some (.els 1 [.d (zae a0)] 0))).set 6 (some (.els 1 (x1.1.map fun z=>V.d ((D.int .i64) z)) (0)))).set 18 (mbB 1 x1.2.1.length (x1.2.1.map fun z=>V.d ((D.int .i64) z))))⟩
def zlJ (a0:Forest) (x0:List (Int)×Int):((List (Int)×Int×List (Int)))→Ex×St:=fun r=>(.exit 2,⟨((((((Regs.none.set 1 (.ptr 0 0 0)).set 3 (.sl 6 0 (((IntKind.wrap .i64 ((a0.nodes.l.length:Int)+1))).toNat))).set 5 (mb 18 (r.1.map fun z=>V.d ((D.int .i64) z)))).set 6 (.d (.int .i64 r.2.1))).set 19 (.d (.int .i64 (a0.nodes.l.length:Int)))).set 20 (.d (.int .i64 x0.2))),((((Heap.at 19).set 0 (some (.els 1 [.d (zae a0)] 0))).set 6 (some (.els 1 (r.2.2.map fun z=>V.d ((D.int .i64) z)) (0)))).set 18 (mbB 1 r.1.length (r.1.map fun z=>V.d ((D.int .i64) z))))⟩)
noncomputable def zbP (a0:Forest) (x0:List (Int)×Int) (x1:List (Int)×List (Int)×Int):Option ((List (Int)×List (Int)×Int)⊕((List (Int)×Int×List (Int)))):=
 if(bif (decide (1≤x1.2.2))then(decide (x1.2.2≤(a0.nodes.l.length:Int)))else false)=true then
  (rdA x1.1 (((IntKind.wrap .i64 ((a0.nodes.l.length:Int)+1))).toNat) x1.2.2).bind fun y6=>
  if(y6==0)=true then
   if(x1.2.1.length+1)*8≤AI.roomBytes then
    (rd a0.nodes.l (IntKind.wrap .i64 (x1.2.2-1))).bind fun y11=>
    (dec (D.int .i64) (pc prog 182 [zam y11])).bind fun r13=>
    some (.inl ((x1.1.set (x1.2.2).toNat (1)),(x1.2.1++[x1.2.2]),r13))
   else none
  else
   some (.inr (x1.2.1,x1.2.2,x1.1))
 else
  some (.inr (x1.2.1,x1.2.2,x1.1))
theorem zxK (a0:Forest) (x0:List (Int)×Int) (x1:List (Int)×List (Int)×Int) (o:(List (Int)×List (Int)×Int)⊕((List (Int)×Int×List (Int)))) (h:zbP a0 x0 x1=some o):Wp prog zqV (zfn a0 x0 x1) (zcg (0,[]) (zfn a0 x0) (zlJ a0 x0) o):=by
 unfold zbP at h
 delta zqV zfn
 try simp only[go_sem]
 refine zaa (v:= .d (.int .i64 x1.2.2)) (fun hb19=>by simp only[go_sem,hb19]) ?_
 try simp only[go_sem]
 refine zaa (v:= .ptr 0 0 0) (fun hb18=>by simp only[go_sem,hb18]) ?_
 try simp only[go_sem]
 refine zaa (v:= .d (.list a0.nodes.n (a0.nodes.l.map zam))) (fun hb17=>by simp only[go_sem,hb17]) ?_
 try simp only[go_sem]
 refine zaa (v:= .d (.int .i64 (a0.nodes.l.length:Int))) (fun hb16=>by simp only[go_sem,hb16]) ?_
 try simp only[go_sem]
 refine zaa (v:= .d (.bool (decide (x1.2.2≤(a0.nodes.l.length:Int))))) (fun hb15=>by simp only[go_sem,hb15]) ?_
 try simp only[go_sem]
 refine zaG (fun hc4=> ?_) (fun hc5=> ?_)
 ·rw[if_pos hc4]at h
  try simp only[go_sem,hc4]
  obtain⟨y6,hy7,h⟩:=bs h
  try simp only[go_sem,zbk hy7,zbK hy7,zbQ hy7,zaS hy7,zbl (D.int .i64) hy7]
  refine zal (fun hc8=> ?_) (fun hc9=> ?_)
  ·rw[if_pos hc8]at h
   try simp only[go_sem,zbk hy7,zbK hy7,zbQ hy7,zaS hy7,zbl (D.int .i64) hy7]
   obtain⟨hm10,h⟩:=zck h
   refine zwz (l:=x1.2.1.map fun z=>V.d ((D.int .i64) z)) (new:=[V.d (.int .i64 x1.2.2)]) (sz:=1) (fz:=x1.2.1.length) (by simp only[go_sem,List.map_append,List.map_cons,List.map_nil,zbk hy7,zbK hy7,zbQ hy7,zaS hy7,zbl (D.int .i64) hy7,zhq (x:=1) (D.int .i64) (zaS hy7),zhp (x:=1) (zaS hy7)]) (by intro h;simpa using h) (by simp only[go_sem,zcC,zcQ,zcD,zbH,zjw]) (by simp) (by rfl) (by simpa using hm10) ?_
   try simp only[go_sem,zbk hy7,zbK hy7,zbQ hy7,zaS hy7,zbl (D.int .i64) hy7,zhq (x:=1) (D.int .i64) (zaS hy7),zhp (x:=1) (zaS hy7),hm10]
   obtain⟨y11,hy12,h⟩:=bs h
   try simp only[go_sem,zbk hy7,zbK hy7,zbQ hy7,zaS hy7,zbl (D.int .i64) hy7,zhq (x:=1) (D.int .i64) (zaS hy7),zhp (x:=1) (zaS hy7),hm10,zac hy12,zaj hy12,zad zam hy12]
   obtain⟨r13,hr14,h⟩:=bs h
   replace hr14:=zao hr14
   refine zat hr14 ?_
   try simp only[go_sem,zbk hy7,zbK hy7,zbQ hy7,zaS hy7,zbl (D.int .i64) hy7,zhq (x:=1) (D.int .i64) (zaS hy7),zhp (x:=1) (zaS hy7),hm10,zac hy12,zaj hy12,zad zam hy12]
   cases h
   refine⟨rfl,Up.of (N:=19) (N':=52) [(18,42)] rfl rfl (by decide) ?_ ?_⟩
   ·refine zak.set ?_ (zak.set ?_ (zak.set ?_ (zak.set ?_ (zak.set ?_ (zak.set ?_ zak.none)))))
    all_goals (try simp only[go_sem,List.map_append,List.map_cons,List.map_nil,zbk hy7,zbK hy7,zbQ hy7,zaS hy7,zbl (D.int .i64) hy7,zhq (x:=1) (D.int .i64) (zaS hy7),zhp (x:=1) (zaS hy7),hm10,zac hy12,zaj hy12,zad zam hy12])
    all_goals (first|exact VR.d _|exact VR.mb_sl (by(simp;done)) rfl (by simp)|exact VR.ptr' rfl|exact VR.sl'' rfl (by simp))
   refine zag.set (show zaq _ _ (Heap.get _ 42)from ?_) (zag.set (show zaq _ _ (Heap.get _ 6)from ?_) (zag.set (show zaq _ _ (Heap.get _ 0)from ?_) (zag.at)))
   all_goals (try simp only[go_sem,List.map_append,List.map_cons,List.map_nil,zbk hy7,zbK hy7,zbQ hy7,zaS hy7,zbl (D.int .i64) hy7,zhq (x:=1) (D.int .i64) (zaS hy7),zhp (x:=1) (zaS hy7),hm10,zac hy12,zaj hy12,zad zam hy12])
   all_goals (((repeat' first|exact zaq.refl_d|refine zaq.els (by simp) ?_|refine zaq.mb_els (by simp) ?_|exact VR.d _|exact VRL.nil|exact VRL.refl_d _ _|refine VRL.append ?_ ?_|refine VRL.cons ?_ ?_);done))
  rw[if_neg (ff hc9)]at h
  try simp only[go_sem,zbk hy7,zbK hy7,zbQ hy7,zaS hy7,zbl (D.int .i64) hy7]
  cases h
  refine⟨rfl,by simp,Up.of (N:=19) (N':=35) [] rfl rfl (by decide) ?_ ?_⟩
  ·refine zak.set ?_ (zak.set ?_ (zak.set ?_ (zak.set ?_ (zak.set ?_ (zak.set ?_ zak.none)))))
   all_goals (try simp only[go_sem,List.map_append,List.map_cons,List.map_nil,zbk hy7,zbK hy7,zbQ hy7,zaS hy7,zbl (D.int .i64) hy7])
   all_goals (first|exact VR.d _|exact VR.mb rfl|exact VR.ptr' rfl|exact VR.sl'' rfl (by simp))
  refine zag.set (show zaq _ _ (Heap.get _ 18)from ?_) (zag.set (show zaq _ _ (Heap.get _ 6)from ?_) (zag.set (show zaq _ _ (Heap.get _ 0)from ?_) (zag.at)))
  all_goals (try simp only[go_sem,List.map_append,List.map_cons,List.map_nil,zbk hy7,zbK hy7,zbQ hy7,zaS hy7,zbl (D.int .i64) hy7])
  all_goals (((repeat' first|exact zaq.refl_d|refine zaq.els (by simp) ?_|refine zaq.mb (by simp) ?_|exact VRL.refl_d _ _);done))
 rw[if_neg (ff hc5)]at h
 try simp only[go_sem,hc5]
 cases h
 refine⟨rfl,by simp,Up.of (N:=19) (N':=35) [] rfl rfl (by decide) ?_ ?_⟩
 ·refine zak.set ?_ (zak.set ?_ (zak.set ?_ (zak.set ?_ (zak.set ?_ (zak.set ?_ zak.none)))))
  all_goals (try simp only[go_sem,List.map_append,List.map_cons,List.map_nil])
  all_goals (first|exact VR.d _|exact VR.mb rfl|exact VR.ptr' rfl|exact VR.sl'' rfl (by simp))
 refine zag.set (show zaq _ _ (Heap.get _ 18)from ?_) (zag.set (show zaq _ _ (Heap.get _ 6)from ?_) (zag.set (show zaq _ _ (Heap.get _ 0)from ?_) (zag.at)))
 all_goals (try simp only[go_sem,List.map_append,List.map_cons,List.map_nil])
 all_goals (((repeat' first|exact zaq.refl_d|refine zaq.els (by simp) ?_|refine zaq.mb (by simp) ?_|exact VRL.refl_d _ _);done))
def zfo (a0:Forest) (x0:List (Int)×Int) (r20:List (Int)×Int×List (Int)) (r28:Int) (x2:List (Int)×Int):St:=⟨((((((((Regs.none.set 1 (.ptr 0 0 0)).set 3 (.sl 6 0 (((IntKind.wrap .i64 ((a0.nodes.l.length:Int)+1))).toNat))).set 7 (.d (.int .i64 r28))).set 19 (.d (.int .i64 (a0.nodes.l.length:Int)))).set 20 (.d (.int .i64 x0.2))).set 71 (mb 18 (r20.1.map fun z=>V.d ((D.int .i64) z)))).set 72 (.d (.int .i64 (r20.1.length:Int)))).set 73 (.d (.int .i64 x2.2))),((((Heap.at 39).set 0 (some (.els 1 [.d (zae a0)] 0))).set 6 (some (.els 1 (x2.1.map fun z=>V.d ((D.int .i64) z)) (0)))).set 18 (mbB 1 r20.1.length (r20.1.map fun z=>V.d ((D.int .i64) z))))⟩
def zlK (a0:Forest) (x0:List (Int)×Int) (r20:List (Int)×Int×List (Int)) (r28:Int):((List (Int)))→Ex×St:=fun r=>(.exit 4,⟨((((Regs.none.set 1 (.ptr 0 0 0)).set 3 (.sl 6 0 (((IntKind.wrap .i64 ((a0.nodes.l.length:Int)+1))).toNat))).set 19 (.d (.int .i64 (a0.nodes.l.length:Int)))).set 20 (.d (.int .i64 x0.2))),(((Heap.at 39).set 0 (some (.els 1 [.d (zae a0)] 0))).set 6 (some (.els 1 (r.map fun z=>V.d ((D.int .i64) z)) (0))))⟩)
noncomputable def zcb (a0:Forest) (x0:List (Int)×Int) (r20:List (Int)×Int×List (Int)) (r28:Int) (x2:List (Int)×Int):Option ((List (Int)×Int)⊕((List (Int)))):=
 if(decide (x2.2<(r20.1.length:Int)))=true then
  (rdA r20.1 r20.1.length x2.2).bind fun y32=>
  (rdA x2.1 (((IntKind.wrap .i64 ((a0.nodes.l.length:Int)+1))).toNat) y32).bind fun y34=>
  some (.inl ((x2.1.set (y32).toNat r28),(IntKind.wrap .i64 (x2.2+1))))
 else
  some (.inr x2.1)
theorem zxL (a0:Forest) (x0:List (Int)×Int) (r20:List (Int)×Int×List (Int)) (r28:Int) (x2:List (Int)×Int) (o:(List (Int)×Int)⊕((List (Int)))) (h:zcb a0 x0 r20 r28 x2=some o):Wp prog zjz (zfo a0 x0 r20 r28 x2) (zcg (0,[]) (zfo a0 x0 r20 r28) (zlK a0 x0 r20 r28) o):=by
 unfold zcb at h
 delta zjz zfo
 try simp only[go_sem]
 refine zal (fun hc30=> ?_) (fun hc31=> ?_)
 ·rw[if_pos hc30]at h
  try simp only[go_sem]
  obtain⟨y32,hy33,h⟩:=bs h
  have hne_hy33:=zfV hy33
  try simp only[go_sem,zbk hy33,zbK hy33,zbQ hy33,zaS hy33,zbl (D.int .i64) hy33,zBl (zfV hy33),zqQ (zfV hy33)]
  obtain⟨y34,hy35,h⟩:=bs h
  try simp only[go_sem,zbk hy33,zbK hy33,zbQ hy33,zaS hy33,zbl (D.int .i64) hy33,zBl (zfV hy33),zqQ (zfV hy33),zbk hy35,zbK hy35,zbQ hy35,zaS hy35,zbl (D.int .i64) hy35]
  cases h
  exact⟨rfl,Up.of (N:=39) (N':=50) [] rfl rfl (by decide) (.set (.d _) (.set (.d _) (.set (by exact VR.sl'' rfl (by rfl)) (.set (.d _) (.set (.d _) (.set (.d _) (.set (.sl'' rfl (by rfl)) (.set (.ptr' rfl) zak.none)))))))) (.set (by exact zaq.arr (e:=(D.int .i64)) (l:=r20.1) (by rfl) (Nat.le_refl _)) (.set (zaq.arr (e:=(D.int .i64)) (l:=(x2.1.set (y32).toNat r28)) (by rfl) (by exact Nat.le_refl _)) (.set zaq.refl_d zag.at)))⟩
 rw[if_neg (ff hc31)]at h
 try simp only[go_sem]
 cases h
 exact⟨rfl,by simp,Up.of (N:=39) (N':=40) [] rfl rfl (by decide) (.set (.d _) (.set (.d _) (.set (.sl'' rfl (by rfl)) (.set (.ptr' rfl) zak.none)))) (.set (zaq.arr (e:=(D.int .i64)) (l:=x2.1) (by rfl) (by exact Nat.le_refl _)) (.set zaq.refl_d zag.at))⟩
def zfp (a0:Forest) (x0:List (Int)×Int) (r20:List (Int)×Int×List (Int)) (x3:List (Int)×Int):St:=⟨((((((((Regs.none.set 1 (.ptr 0 0 0)).set 3 (.sl 6 0 (((IntKind.wrap .i64 ((a0.nodes.l.length:Int)+1))).toNat))).set 7 (.d (.int .i64 (2)))).set 19 (.d (.int .i64 (a0.nodes.l.length:Int)))).set 20 (.d (.int .i64 x0.2))).set 71 (mb 18 (r20.1.map fun z=>V.d ((D.int .i64) z)))).set 72 (.d (.int .i64 (r20.1.length:Int)))).set 73 (.d (.int .i64 x3.2))),((((Heap.at 39).set 0 (some (.els 1 [.d (zae a0)] 0))).set 6 (some (.els 1 (x3.1.map fun z=>V.d ((D.int .i64) z)) (0)))).set 18 (mbB 1 r20.1.length (r20.1.map fun z=>V.d ((D.int .i64) z))))⟩
def zlL (a0:Forest) (x0:List (Int)×Int) (r20:List (Int)×Int×List (Int)):((List (Int)))→Ex×St:=fun r=>(.exit 4,⟨((((Regs.none.set 1 (.ptr 0 0 0)).set 3 (.sl 6 0 (((IntKind.wrap .i64 ((a0.nodes.l.length:Int)+1))).toNat))).set 19 (.d (.int .i64 (a0.nodes.l.length:Int)))).set 20 (.d (.int .i64 x0.2))),(((Heap.at 39).set 0 (some (.els 1 [.d (zae a0)] 0))).set 6 (some (.els 1 (r.map fun z=>V.d ((D.int .i64) z)) (0))))⟩)
noncomputable def zcc (a0:Forest) (x0:List (Int)×Int) (r20:List (Int)×Int×List (Int)) (x3:List (Int)×Int):Option ((List (Int)×Int)⊕((List (Int)))):=
 if(decide (x3.2<(r20.1.length:Int)))=true then
  (rdA r20.1 r20.1.length x3.2).bind fun y40=>
  (rdA x3.1 (((IntKind.wrap .i64 ((a0.nodes.l.length:Int)+1))).toNat) y40).bind fun y42=>
  some (.inl ((x3.1.set (y40).toNat (2)),(IntKind.wrap .i64 (x3.2+1))))
 else
  some (.inr x3.1)
theorem zxM (a0:Forest) (x0:List (Int)×Int) (r20:List (Int)×Int×List (Int)) (x3:List (Int)×Int) (o:(List (Int)×Int)⊕((List (Int)))) (h:zcc a0 x0 r20 x3=some o):Wp prog zjz (zfp a0 x0 r20 x3) (zcg (0,[]) (zfp a0 x0 r20) (zlL a0 x0 r20) o):=by
 unfold zcc at h
 delta zjz zfp
 try simp only[go_sem]
 refine zal (fun hc38=> ?_) (fun hc39=> ?_)
 ·rw[if_pos hc38]at h
  try simp only[go_sem]
  obtain⟨y40,hy41,h⟩:=bs h
  have hne_hy41:=zfV hy41
  try simp only[go_sem,zbk hy41,zbK hy41,zbQ hy41,zaS hy41,zbl (D.int .i64) hy41,zBl (zfV hy41),zqQ (zfV hy41)]
  obtain⟨y42,hy43,h⟩:=bs h
  try simp only[go_sem,zbk hy41,zbK hy41,zbQ hy41,zaS hy41,zbl (D.int .i64) hy41,zBl (zfV hy41),zqQ (zfV hy41),zbk hy43,zbK hy43,zbQ hy43,zaS hy43,zbl (D.int .i64) hy43]
  cases h
  exact⟨rfl,Up.of (N:=39) (N':=50) [] rfl rfl (by decide) (.set (.d _) (.set (.d _) (.set (by exact VR.sl'' rfl (by rfl)) (.set (.d _) (.set (.d _) (.set (.d _) (.set (.sl'' rfl (by rfl)) (.set (.ptr' rfl) zak.none)))))))) (.set (by exact zaq.arr (e:=(D.int .i64)) (l:=r20.1) (by rfl) (Nat.le_refl _)) (.set (zaq.arr (e:=(D.int .i64)) (l:=(x3.1.set (y40).toNat (2))) (by rfl) (by exact Nat.le_refl _)) (.set zaq.refl_d zag.at)))⟩
 rw[if_neg (ff hc39)]at h
 try simp only[go_sem]
 cases h
 exact⟨rfl,by simp,Up.of (N:=39) (N':=40) [] rfl rfl (by decide) (.set (.d _) (.set (.d _) (.set (.sl'' rfl (by rfl)) (.set (.ptr' rfl) zak.none)))) (.set (zaq.arr (e:=(D.int .i64)) (l:=x3.1) (by rfl) (by exact Nat.le_refl _)) (.set zaq.refl_d zag.at))⟩
def zfq (a0:Forest) (x0:List (Int)×Int):St:=⟨((((Regs.none.set 1 (.ptr 0 0 0)).set 3 (.sl 6 0 (((IntKind.wrap .i64 ((a0.nodes.l.length:Int)+1))).toNat))).set 19 (.d (.int .i64 (a0.nodes.l.length:Int)))).set 20 (.d (.int .i64 x0.2))),(((Heap.at 12).set 0 (some (.els 1 [.d (zae a0)] 0))).set 6 (some (.els 1 (x0.1.map fun z=>V.d ((D.int .i64) z)) (0))))⟩
def zlM (a0:Forest):((List (Int)))→Ex×St:=fun r=>(.exit 0,⟨(Regs.none.set 3 (.sl 6 0 (((IntKind.wrap .i64 ((a0.nodes.l.length:Int)+1))).toNat))),((Heap.at 12).set 6 (some (.els 1 (r.map fun z=>V.d ((D.int .i64) z)) (0))))⟩)
noncomputable def zco (a0:Forest) (x0:List (Int)×Int):Option ((List (Int)×Int)⊕((List (Int)))):=
 if(decide (x0.2<(a0.nodes.l.length:Int)))=true then
  (zaU (zbP a0 x0) (x0.1,[],(IntKind.wrap .i64 (x0.2+1)))).bind fun r20=>
  if(bif (decide (1≤r20.2.1))then(decide (r20.2.1≤(a0.nodes.l.length:Int)))else false)=true then
   (rdA r20.2.2 (((IntKind.wrap .i64 ((a0.nodes.l.length:Int)+1))).toNat) r20.2.1).bind fun y24=>
   (if(!(y24==2))=true then
    some 3
   else
    some 2:Option ((Int))).bind fun r28=>
   (zaU (zcb a0 x0 r20 r28) (r20.2.2,0)).bind fun r36=>
   some (.inl (r36,(IntKind.wrap .i64 (x0.2+1))))
  else
   (zaU (zcc a0 x0 r20) (r20.2.2,0)).bind fun r44=>
   some (.inl (r44,(IntKind.wrap .i64 (x0.2+1))))
 else
  some (.inr x0.1)
theorem zxN (a0:Forest) (x0:List (Int)×Int) (o:(List (Int)×Int)⊕((List (Int)))) (h:zco a0 x0=some o):Wp prog zqW (zfq a0 x0) (zcg (0,[]) (zfq a0) (zlM a0) o):=by
 unfold zco at h
 delta zqW zfq
 try simp only[go_sem]
 refine zal (fun hc2=> ?_) (fun hc3=> ?_)
 ·rw[if_pos hc2]at h
  try simp only[go_sem]
  obtain⟨r20,hl21,h⟩:=bs h
  refine Wp.loopR zbd (n:=(0,[])) (a:=zqV) rfl (zfn a0 x0) (zlJ a0 x0) (zxK a0 x0) hl21 ?_ (by(repeat(first|refine Clo.block ?_|refine Clo.seq zbd rfl ?_));(exact Clo.lpost (by decide))) ?_
  ·show Up (0,[]) (zfn a0 x0 (x0.1,[],(IntKind.wrap .i64 (x0.2+1)))) _
   delta zfn
   refine Up.of (N:=19) (N':=19) [] rfl rfl (by decide) ?_ ?_
   ·refine zak.set ?_ (zak.set ?_ (zak.set ?_ (zak.set ?_ (zak.set ?_ (zak.set ?_ zak.none)))))
    all_goals (try simp only[go_sem,List.map_append,List.map_cons,List.map_nil])
    all_goals (first|exact VR.d _|exact VR.ptr' rfl|exact VR.sl'' rfl (by simp))
   refine zag.set (show zaq _ _ (Heap.get _ 18)from ?_) (zag.set (show zaq _ _ (Heap.get _ 6)from ?_) (zag.set (show zaq _ _ (Heap.get _ 0)from ?_) (zag.at)))
   all_goals (try simp only[go_sem,List.map_append,List.map_cons,List.map_nil])
   all_goals (((repeat' first|trivial|exact zaq.refl_d|refine zaq.els (by simp) ?_|exact VRL.refl_d _ _);done))
  dsimp only[zlJ]
  try simp only[go_sem]
  refine zaa (v:= .d (.int .i64 r20.2.1)) (fun hb50=>by simp only[go_sem,hc2,hb50]) ?_
  try simp only[go_sem]
  refine zaa (v:= .ptr 0 0 0) (fun hb49=>by simp only[go_sem,hc2,hb49]) ?_
  try simp only[go_sem]
  refine zaa (v:= .d (.list a0.nodes.n (a0.nodes.l.map zam))) (fun hb48=>by simp only[go_sem,hc2,hb48]) ?_
  try simp only[go_sem]
  refine zaa (v:= .d (.int .i64 (a0.nodes.l.length:Int))) (fun hb47=>by simp only[go_sem,hc2,hb47]) ?_
  try simp only[go_sem]
  refine zaa (v:= .d (.bool (decide (r20.2.1≤(a0.nodes.l.length:Int))))) (fun hb46=>by simp only[go_sem,hc2,hb46]) ?_
  try simp only[go_sem]
  refine zaG (fun hc22=> ?_) (fun hc23=> ?_)
  ·rw[if_pos hc22]at h
   try simp only[go_sem,hc22]
   obtain⟨y24,hy25,h⟩:=bs h
   try simp only[go_sem,zbk hy25,zbK hy25,zbQ hy25,zaS hy25,zbl (D.int .i64) hy25]
   obtain⟨r28,hl29,h⟩:=bs h
   refine WBr.cut (n:=(0,[])) .normal ⟨((((((Regs.none.set 1 (.ptr 0 0 0)).set 3 (.sl 6 0 (((IntKind.wrap .i64 ((a0.nodes.l.length:Int)+1))).toNat))).set 5 (mb 18 (r20.1.map fun z=>V.d ((D.int .i64) z)))).set 7 (.d (.int .i64 r28))).set 19 (.d (.int .i64 (a0.nodes.l.length:Int)))).set 20 (.d (.int .i64 x0.2))),((((Heap.at 36).set 0 (some (.els 1 [.d (zae a0)] 0))).set 6 (some (.els 1 (r20.2.2.map fun z=>V.d ((D.int .i64) z)) (0)))).set 18 (mbB 1 r20.1.length (r20.1.map fun z=>V.d ((D.int .i64) z))))⟩ ?_ (by(repeat(first|refine Clo.block ?_|refine Clo.seq zbd rfl ?_));(exact Clo.lpost (by decide))) ?_
   ·replace h:=hl29
    refine zaD (fun hc26=> ?_) (fun hc27=> ?_)
    ·rw[if_pos (show(!(y24==2))=true by(rw[hc26];rfl))]at h
     try simp only[go_sem,zbk hy25,zbK hy25,zbQ hy25,zaS hy25,zbl (D.int .i64) hy25]
     cases h
     exact⟨rfl,Up.of (N:=36) (N':=37) [] rfl rfl (by decide) (.set (.d _) (.set (.d _) (.set (.d _) (.set (.mb rfl) (.set (.sl'' rfl (by rfl)) (.set (.ptr' rfl) zak.none)))))) (.set (zaq.mb (Nat.le_refl _) (VRL.refl_d _ _)) (.set (zaq.arr (e:=(D.int .i64)) (l:=r20.2.2) (by rfl) (by exact Nat.le_refl _)) (.set zaq.refl_d zag.at)))⟩
    rw[if_neg (ffn hc27)]at h
    try simp only[go_sem,zbk hy25,zbK hy25,zbQ hy25,zaS hy25,zbl (D.int .i64) hy25]
    cases h
    exact⟨rfl,Up.of (N:=36) (N':=36) [] rfl rfl (by decide) (.set (.d _) (.set (.d _) (.set (.d _) (.set (.mb rfl) (.set (.sl'' rfl (by rfl)) (.set (.ptr' rfl) zak.none)))))) (.set (zaq.mb (Nat.le_refl _) (VRL.refl_d _ _)) (.set (zaq.arr (e:=(D.int .i64)) (l:=r20.2.2) (by rfl) (by exact Nat.le_refl _)) (.set zaq.refl_d zag.at)))⟩
   try simp only[go_sem,zbk hy25,zbK hy25,zbQ hy25,zaS hy25,zbl (D.int .i64) hy25]
   obtain⟨r36,hl37,h⟩:=bs h
   refine Wp.loopR zbd (n:=(0,[])) (a:=zjz) rfl (zfo a0 x0 r20 r28) (zlK a0 x0 r20 r28) (zxL a0 x0 r20 r28) hl37 ?_ (by(repeat(first|refine Clo.block ?_|refine Clo.seq zbd rfl ?_));(exact Clo.lpost (by decide))) ?_
   ·show Up (0,[]) (zfo a0 x0 r20 r28 (r20.2.2,0)) _
    delta zfo
    exact Up.of (N:=39) (N':=39) [] rfl rfl (by decide) (.set (.d _) (.set (.d _) (.set (.mb rfl) (.set (.d _) (.set (.d _) (.set (.d _) (.set (.sl'' rfl (by rfl)) (.set (.ptr' rfl) zak.none)))))))) (.set (zaq.mb (Nat.le_refl _) (VRL.refl_d _ _)) (.set (zaq.arr (e:=(D.int .i64)) (l:=r20.2.2) (by rfl) (by exact Nat.le_refl _)) (.set zaq.refl_d zag.at)))
   dsimp only[zlK]
   try simp only[go_sem,zbk hy25,zbK hy25,zbQ hy25,zaS hy25,zbl (D.int .i64) hy25]
   cases h
   exact⟨rfl,Up.of (N:=12) (N':=41) [] rfl rfl (by decide) (.set (.d _) (.set (.d _) (.set (.sl'' rfl (by rfl)) (.set (.ptr' rfl) zak.none)))) (.set (zaq.arr (e:=(D.int .i64)) (l:=r36) (by rfl) (by exact Nat.le_refl _)) (.set zaq.refl_d zag.at))⟩
  rw[if_neg (ff hc23)]at h
  try simp only[go_sem,hc23]
  obtain⟨r44,hl45,h⟩:=bs h
  refine Wp.loopR zbd (n:=(0,[])) (a:=zjz) rfl (zfp a0 x0 r20) (zlL a0 x0 r20) (zxM a0 x0 r20) hl45 ?_ (by(repeat(first|refine Clo.block ?_|refine Clo.seq zbd rfl ?_));(exact Clo.lpost (by decide))) ?_
  ·show Up (0,[]) (zfp a0 x0 r20 (r20.2.2,0)) _
   delta zfp
   exact Up.of (N:=39) (N':=39) [] rfl rfl (by decide) (.set (.d _) (.set (.d _) (.set (.mb rfl) (.set (.d _) (.set (.d _) (.set (.d _) (.set (.sl'' rfl (by rfl)) (.set (.ptr' rfl) zak.none)))))))) (.set (zaq.mb (Nat.le_refl _) (VRL.refl_d _ _)) (.set (zaq.arr (e:=(D.int .i64)) (l:=r20.2.2) (by rfl) (by exact Nat.le_refl _)) (.set zaq.refl_d zag.at)))
  dsimp only[zlL]
  try simp only[go_sem]
  cases h
  exact⟨rfl,Up.of (N:=12) (N':=41) [] rfl rfl (by decide) (.set (.d _) (.set (.d _) (.set (.sl'' rfl (by rfl)) (.set (.ptr' rfl) zak.none)))) (.set (zaq.arr (e:=(D.int .i64)) (l:=r44) (by rfl) (by exact Nat.le_refl _)) (.set zaq.refl_d zag.at))⟩
 rw[if_neg (ff hc3)]at h
 try simp only[go_sem]
 cases h
 exact⟨rfl,by simp,Up.of (N:=12) (N':=13) [] rfl rfl (by decide) (.set (.sl'' rfl (by rfl)) zak.none) (.set (zaq.arr (e:=(D.int .i64)) (l:=x0.1) (by rfl) (by exact Nat.le_refl _)) zag.at)⟩
def zfr (a0:Forest) (r51:List (Int)) (x4:List (Bool)×Int):St:=⟨((((Regs.none.set 3 (.sl 6 0 (((IntKind.wrap .i64 ((a0.nodes.l.length:Int)+1))).toNat))).set 10 (.sl 14 0 (((IntKind.wrap .i64 ((a0.nodes.l.length:Int)+1))).toNat))).set 87 (.d (.int .i64 (((((IntKind.wrap .i64 ((a0.nodes.l.length:Int)+1))).toNat):Nat):Int)))).set 88 (.d (.int .i64 x4.2))),(((Heap.at 19).set 6 (some (.els 1 (r51.map fun z=>V.d ((D.int .i64) z)) (0)))).set 14 (some (.els 1 (x4.1.map fun z=>V.d (D.bool z)) (0))))⟩
def zlN (a0:Forest) (r51:List (Int)):((List (Bool)))→Ex×St:=fun r=>(.exit 6,⟨(Regs.none.set 10 (.sl 14 0 (((IntKind.wrap .i64 ((a0.nodes.l.length:Int)+1))).toNat))),((Heap.at 19).set 14 (some (.els 1 (r.map fun z=>V.d (D.bool z)) (0))))⟩)
noncomputable def zcO (a0:Forest) (r51:List (Int)) (x4:List (Bool)×Int):Option ((List (Bool)×Int)⊕((List (Bool)))):=
 if(decide (x4.2<(((((IntKind.wrap .i64 ((a0.nodes.l.length:Int)+1))).toNat):Nat):Int)))=true then
  (rdA r51 (((IntKind.wrap .i64 ((a0.nodes.l.length:Int)+1))).toNat) x4.2).bind fun y56=>
  (rdA x4.1 (((IntKind.wrap .i64 ((a0.nodes.l.length:Int)+1))).toNat) x4.2).bind fun y58=>
  some (.inl ((x4.1.set (x4.2).toNat (y56==2)),(IntKind.wrap .i64 (x4.2+1))))
 else
  some (.inr x4.1)
theorem zxO (a0:Forest) (r51:List (Int)) (x4:List (Bool)×Int) (o:(List (Bool)×Int)⊕((List (Bool)))) (h:zcO a0 r51 x4=some o):Wp prog zqX (zfr a0 r51 x4) (zcg (0,[]) (zfr a0 r51) (zlN a0 r51) o):=by
 unfold zcO at h
 delta zqX zfr
 try simp only[go_sem]
 refine zal (fun hc54=> ?_) (fun hc55=> ?_)
 ·rw[if_pos hc54]at h
  try simp only[go_sem]
  obtain⟨y56,hy57,h⟩:=bs h
  try simp only[go_sem,zbk hy57,zbK hy57,zbQ hy57,zaS hy57,zbl (D.int .i64) hy57]
  obtain⟨y58,hy59,h⟩:=bs h
  try simp only[go_sem,zbk hy57,zbK hy57,zbQ hy57,zaS hy57,zbl (D.int .i64) hy57,zbk hy59,zbK hy59,zbQ hy59,zaS hy59,zbl D.bool hy59]
  cases h
  exact⟨rfl,Up.of (N:=19) (N':=33) [] rfl rfl (by decide) (.set (.d _) (.set (.d _) (.set (.sl'' rfl (by rfl)) (.set (.sl'' rfl (by rfl)) zak.none)))) (.set (zaq.arr (e:=D.bool) (l:=(x4.1.set (x4.2).toNat (y56==2))) (by rfl) (by exact Nat.le_refl _)) (.set (zaq.arr (e:=(D.int .i64)) (l:=r51) (by rfl) (by exact Nat.le_refl _)) zag.at))⟩
 rw[if_neg (ff hc55)]at h
 try simp only[go_sem]
 cases h
 exact⟨rfl,by simp,Up.of (N:=19) (N':=20) [] rfl rfl (by decide) (.set (.sl'' rfl (by rfl)) zak.none) (.set (zaq.arr (e:=D.bool) (l:=x4.1) (by rfl) (by exact Nat.le_refl _)) zag.at)⟩
noncomputable def zKC (a0:Forest):Option (Sl (Bool)):=
 if 0≤(IntKind.wrap .i64 ((a0.nodes.l.length:Int)+1))∧((IntKind.wrap .i64 ((a0.nodes.l.length:Int)+1))).toNat*8≤AI.roomBytes then
  (zaU (zco a0) ((List.replicate ((IntKind.wrap .i64 ((a0.nodes.l.length:Int)+1))).toNat 0),0)).bind fun r51=>
  if 0≤((((IntKind.wrap .i64 ((a0.nodes.l.length:Int)+1))).toNat:Nat):Int)∧(((IntKind.wrap .i64 ((a0.nodes.l.length:Int)+1))).toNat)*1≤AI.roomBytes then
   (zaU (zcO a0 r51) ((List.replicate (((IntKind.wrap .i64 ((a0.nodes.l.length:Int)+1))).toNat) false),0)).bind fun r60=>
   if r60.length=(((IntKind.wrap .i64 ((a0.nodes.l.length:Int)+1))).toNat)then
    some (⟨false,r60⟩)
   else none
  else none
 else none
theorem zKD (a0:Forest) (r:Sl (Bool)) (h:zKC a0=some r):pc prog 160 [zae a0]=some ((eSl D.bool) r):=by
 unfold zKC at h
 refine zbD (fn:=zJn) rfl rfl ?_
 delta zJn
 try simp only[go_sem]
 obtain⟨hm1,h⟩:=zck h
 simp only[go_sem,ziV,ziW,hm1.1,hm1.2,Nat.le_refl,and_self,if_true,Option.bind_some,zxp,zqR,zxq]
 obtain⟨r51,hl52,h⟩:=bs h
 refine Wp.loopR zbd (n:=(0,[])) (a:=zqW) rfl (zfq a0) (zlM a0) (zxN a0) hl52 ?_ (by(repeat(first|refine Clo.block ?_|refine Clo.seq zbd rfl ?_));(exact Clo.ret)) ?_
 ·show Up (0,[]) (zfq a0 ((List.replicate ((IntKind.wrap .i64 ((a0.nodes.l.length:Int)+1))).toNat 0),0)) _
  delta zfq
  exact Up.of (N:=12) (N':=12) [] rfl rfl (by decide) (.set (.d _) (.set (.d _) (.set (.sl'' rfl (by rfl)) (.set (.ptr' rfl) zak.none)))) (.set (zaq.arr (e:=(D.int .i64)) (l:=(List.replicate ((IntKind.wrap .i64 ((a0.nodes.l.length:Int)+1))).toNat 0)) (by rfl) (by exact Nat.le_refl _)) (.set zaq.refl_d zag.at))
 dsimp only[zlM]
 try simp only[go_sem,hm1.1,hm1.2]
 obtain⟨hm53,h⟩:=zck h
 simp only[go_sem,hm1.1,hm1.2,ziV,ziW,hm53.1,hm53.2,Nat.le_refl,and_self,if_true,Option.bind_some,zxp,zqR,zxq]
 obtain⟨r60,hl61,h⟩:=bs h
 refine Wp.loopR zbd (n:=(0,[])) (a:=zqX) rfl (zfr a0 r51) (zlN a0 r51) (zxO a0 r51) hl61 ?_ (by(repeat(first|refine Clo.block ?_|refine Clo.seq zbd rfl ?_));(exact Clo.ret)) ?_
 ·show Up (0,[]) (zfr a0 r51 ((List.replicate (((IntKind.wrap .i64 ((a0.nodes.l.length:Int)+1))).toNat) false),0)) _
  delta zfr
  exact Up.of (N:=19) (N':=19) [] rfl rfl (by decide) (.set (.d _) (.set (.d _) (.set (.sl'' rfl (by rfl)) (.set (.sl'' rfl (by rfl)) zak.none)))) (.set (zaq.arr (e:=D.bool) (l:=(List.replicate (((IntKind.wrap .i64 ((a0.nodes.l.length:Int)+1))).toNat) false)) (by rfl) (by exact Nat.le_refl _)) (.set (zaq.arr (e:=(D.int .i64)) (l:=r51) (by rfl) (by exact Nat.le_refl _)) zag.at))
 dsimp only[zlN]
 try simp only[go_sem,hm1.1,hm1.2,hm53.1,hm53.2]
 obtain⟨hq62,h⟩:=zck h
 cases h
 refine Reads.ofv (v':= .sl 14 0 (((IntKind.wrap .i64 ((a0.nodes.l.length:Int)+1))).toNat)) (by rfl) (Rd.sl (e:=D.bool) (l:=r60) (sz:=1) (fz:=0) (m:=r60.map fun z=>V.d (D.bool z)) (by simp only[go_sem,List.map_append,List.map_cons,List.map_nil,hm1.1,hm1.2,hm53.1,hm53.2,hq62]) rfl (by exact hq62)) rfl
noncomputable def zKE (a0:Node):Option (Bool):=
 (dec zaF (pc prog 183 [.int .u8 a0.kind])).bind fun r1=>
 (if r1.known=true then
  (dec D.bool (pc prog 184 [zam a0,zaF r1])).bind fun r5=>
  if r5=true then
   (dec D.bool (pc prog 185 [.list a0.attrs.n (a0.attrs.l.map zbm)])).bind fun r9=>
   some (!r9)
  else
   some true
 else
  some true:Option ((Bool))).bind fun r13=>
 if r13=true then
  some false
 else
  (dec D.bool (pc prog 186 [.list false (([a0.public_,a0.system]).map D.str)])).bind fun r17=>
  if r17=true then
   (if(!(a0.kind==10))=true then
    some (bif (!(a0.public_==[]))then true else(!(a0.system==[])))
   else
    some false:Option ((Bool))).bind fun r23=>
   if r23=true then
    some false
   else
    (if(!(decide (16384<(a0.data.l.length:Int))))=true then
     if(!(bif (!r1.data)then(decide (0<(a0.data.l.length:Int)))else false))=true then
      some (bif (!r1.kids)then(decide (0<(a0.kids.l.length:Int)))else false)
     else
      some true
    else
     some true:Option ((Bool))).bind fun r47=>
    (if r47=true then
     some (.inr ())
    else
     if(!(a0.kind==1))=true then
      if(!(bif (decide (0<(a0.attrs.l.length:Int)))then true else(!(a0.shadow==0))))=true then
       if(bif (!(a0.kind==9))then a0.hTML else false)=true then
        some (.inr ())
       else
        if(bif (!r1.hung)then(!(a0.parent==0))else false)=true then
         some (.inr ())
        else
         some (.inl ())
      else
       some (.inr ())
     else
      if(bif (!(a0.kind==9))then a0.hTML else false)=true then
       some (.inr ())
      else
       if(bif (!r1.hung)then(!(a0.parent==0))else false)=true then
        some (.inr ())
       else
        some (.inl ()):Option ((Unit)⊕(Unit))).bind fun r95=>
    match r95 with
    |(.inl q97)=>
     if(a0.kind==12)=true then
      some (bif (a0.mode==1)then true else(a0.mode==2))
     else
      some (bif (bif (a0.mode==0)then(!a0.manual)else false)then(a0.host==0)else false)
    |(.inr q109)=>
     some false
  else
   some false
theorem zKF (a0:Node) (r:Bool) (h:zKE a0=some r):pc prog 161 [zam a0]=some (D.bool r):=by
 unfold zKE at h
 refine zbD (fn:=zJo) rfl rfl ?_
 delta zJo
 try simp only[go_sem]
 obtain⟨r1,hr2,h⟩:=bs h
 replace hr2:=zao hr2
 refine zat hr2 ?_
 try simp only[go_sem]
 refine zaa (v:= .d (zam a0)) (fun hb158=>by simp only[go_sem,hb158]) ?_
 try simp only[go_sem]
 refine zaa (v:= .d (zaF r1)) (fun hb157=>by simp only[go_sem,hb157]) ?_
 try simp only[go_sem]
 obtain⟨r13,hl14,h⟩:=bs h
 refine zcz.cut (n:=(0,[])) .normal ⟨((((Regs.none.set 1 (.ptr 0 0 0)).set 3 (.ptr 5 0 0)).set 4 (.d (.bool (a0.kind==1)))).set 11 (.d (.bool r13))),(((Heap.at 27).set 0 (some (.els 16 [.d (zam a0)] 0))).set 5 (some (.els 6 [.d (zaF r1)] 0)))⟩ ?_ (by(repeat(first|refine Clo.block ?_|refine Clo.seq zbd rfl ?_));(exact Clo.ret)) ?_
 ·replace h:=hl14
  refine zaG (fun hc3=> ?_) (fun hc4=> ?_)
  ·rw[if_pos hc3]at h
   try simp only[go_sem,hc3]
   obtain⟨r5,hr6,h⟩:=bs h
   replace hr6:=zao hr6
   refine zat hr6 ?_
   try simp only[go_sem]
   refine zaa (v:= .ptr 0 0 7) (fun hb12=>by simp only[go_sem,hc3,hb12]) ?_
   try simp only[go_sem]
   refine zaa (v:= .d (.list a0.attrs.n (a0.attrs.l.map zbm))) (fun hb11=>by simp only[go_sem,hc3,hb11]) ?_
   try simp only[go_sem]
   refine zaG (fun hc7=> ?_) (fun hc8=> ?_)
   ·rw[if_pos hc7]at h
    try simp only[go_sem,hc7]
    obtain⟨r9,hr10,h⟩:=bs h
    replace hr10:=zao hr10
    refine zat hr10 ?_
    try simp only[go_sem]
    cases h
    exact⟨rfl,Up.of (N:=27) (N':=27) [] rfl rfl (by decide) (.set (.d _) (.set (.d _) (.set (.ptr' rfl) (.set (.ptr' rfl) zak.none)))) (.set zaq.refl_d (.set zaq.refl_d zag.at))⟩
   rw[if_neg (ff hc8)]at h
   try simp only[go_sem,hc8]
   cases h
   exact⟨rfl,Up.of (N:=27) (N':=27) [] rfl rfl (by decide) (.set (.d _) (.set (.d _) (.set (.ptr' rfl) (.set (.ptr' rfl) zak.none)))) (.set zaq.refl_d (.set zaq.refl_d zag.at))⟩
  rw[if_neg (ff hc4)]at h
  try simp only[go_sem,hc4]
  cases h
  exact⟨rfl,Up.of (N:=27) (N':=27) [] rfl rfl (by decide) (.set (.d _) (.set (.d _) (.set (.ptr' rfl) (.set (.ptr' rfl) zak.none)))) (.set zaq.refl_d (.set zaq.refl_d zag.at))⟩
 try simp only[go_sem]
 refine zal (fun hc15=> ?_) (fun hc16=> ?_)
 ·rw[if_pos hc15]at h
  try simp only[go_sem]
  cases h
  rfl
 rw[if_neg (ff hc16)]at h
 try simp only[go_sem]
 obtain⟨r17,hr18,h⟩:=bs h
 replace hr18:=zao hr18
 refine zat hr18 ?_
 try simp only[go_sem]
 refine zaa (v:= .ptr 0 0 0) (fun hb156=>by simp only[go_sem,hc16,hb156]) ?_
 try simp only[go_sem]
 refine zaa (v:= .d (.int .u8 a0.kind)) (fun hb155=>by simp only[go_sem,hc16,hb155]) ?_
 try simp only[go_sem]
 refine zaa (v:= .d (.bool (!(a0.kind==10)))) (fun hb154=>by simp only[go_sem,hc16,hb154]) ?_
 try simp only[go_sem]
 refine zaa (v:= .d (.bool (!(a0.kind==10)))) (fun hb153=>by simp only[go_sem,hc16,hb153]) ?_
 try simp only[go_sem]
 refine zaa (v:= .ptr 0 0 4) (fun hb150=>by((obtain⟨hb151,hb152⟩:=zaL hb150));simp only[go_sem,hc16,hb152,hb151]) ?_
 try simp only[go_sem]
 refine zaa (v:= .d (.str a0.public_)) (fun hb147=>by((obtain⟨hb148,hb149⟩:=zaL hb147));simp only[go_sem,hc16,hb149,hb148]) ?_
 try simp only[go_sem]
 refine zaa (v:= .d (.bool (!(a0.public_==[])))) (fun hb144=>by((obtain⟨hb145,hb146⟩:=zaL hb144));simp only[go_sem,hc16,hb146,hb145]) ?_
 try simp only[go_sem]
 refine zaa (v:= .d (.bool (!(a0.public_==[])))) (fun hb141=>by((obtain⟨hb142,hb143⟩:=zaL hb141));simp only[go_sem,hc16,hb143,hb142]) ?_
 try simp only[go_sem]
 refine zaa (v:= .ptr 0 0 5) (fun hb136=>by((obtain⟨hb137,hb138⟩:=zaL hb136);(obtain⟨hb139,hb140⟩:=zaL hb137));simp only[go_sem,hc16,hb138,hb140,hb139]) ?_
 try simp only[go_sem]
 refine zaa (v:= .d (.str a0.system)) (fun hb131=>by((obtain⟨hb132,hb133⟩:=zaL hb131);(obtain⟨hb134,hb135⟩:=zaL hb132));simp only[go_sem,hc16,hb133,hb135,hb134]) ?_
 try simp only[go_sem]
 refine zaa (v:= .d (.bool (!(a0.system==[])))) (fun hb126=>by((obtain⟨hb127,hb128⟩:=zaL hb126);(obtain⟨hb129,hb130⟩:=zaL hb127));simp only[go_sem,hc16,hb128,hb130,hb129]) ?_
 try simp only[go_sem]
 rcases Bool.eq_false_or_eq_true (r17)with hc19|hc20
 ·rw[if_pos hc19]at h
  try simp only[go_sem,hc19]
  obtain⟨r23,hl24,h⟩:=bs h
  refine zcz.cut (n:=(0,[])) .normal ⟨((((Regs.none.set 1 (.ptr 0 0 0)).set 3 (.ptr 5 0 0)).set 4 (.d (.bool (a0.kind==1)))).set 27 (.d (.bool r23))),(((Heap.at 50).set 0 (some (.els 16 [.d (zam a0)] 0))).set 5 (some (.els 6 [.d (zaF r1)] 0)))⟩ ?_ (by(repeat(first|refine Clo.block ?_|refine Clo.seq zbd rfl ?_));(exact Clo.ret)) ?_
  ·replace h:=hl24
   refine zaV (fun hc21=> ?_) (fun hc22=> ?_)
   ·rw[if_pos (show(!(a0.kind==10))=true by(rw[hc21];rfl))]at h
    try simp only[go_sem,hc21]
    try simp only[go_sem,hc16,hc19,hc21]
    cases h
    exact⟨rfl,Up.of (N:=50) (N':=50) [] rfl rfl (by decide) (.set (.d _) (.set (.d _) (.set (.ptr' rfl) (.set (.ptr' rfl) zak.none)))) (.set zaq.refl_d (.set zaq.refl_d zag.at))⟩
   rw[if_neg (ffn hc22)]at h
   try simp only[go_sem,hc22]
   try simp only[go_sem,hc16,hc19,hc22]
   cases h
   exact⟨rfl,Up.of (N:=50) (N':=50) [] rfl rfl (by decide) (.set (.d _) (.set (.d _) (.set (.ptr' rfl) (.set (.ptr' rfl) zak.none)))) (.set zaq.refl_d (.set zaq.refl_d zag.at))⟩
  try simp only[go_sem]
  refine zal (fun hc25=> ?_) (fun hc26=> ?_)
  ·rw[if_pos hc25]at h
   try simp only[go_sem]
   cases h
   rfl
  rw[if_neg (ff hc26)]at h
  try simp only[go_sem]
  refine zaa (v:= .ptr 5 0 1) (fun hb125=>by simp only[go_sem,hc16,hc19,hc26,hb125]) ?_
  try simp only[go_sem]
  refine zaa (v:= .d (.bool r1.data)) (fun hb124=>by simp only[go_sem,hc16,hc19,hc26,hb124]) ?_
  try simp only[go_sem]
  refine zaa (v:= .d (.bool (!r1.data))) (fun hb123=>by simp only[go_sem,hc16,hc19,hc26,hb123]) ?_
  try simp only[go_sem]
  refine zaa (v:= .d (.bool (!r1.data))) (fun hb122=>by simp only[go_sem,hc16,hc19,hc26,hb122]) ?_
  try simp only[go_sem]
  refine zaa (v:= .ptr 0 0 6) (fun hb119=>by((obtain⟨hb120,hb121⟩:=zaL hb119));simp only[go_sem,hc16,hc19,hc26,hb121,hb120]) ?_
  try simp only[go_sem]
  refine zaa (v:= .d (.list a0.data.n (a0.data.l.map (D.int .u16)))) (fun hb116=>by((obtain⟨hb117,hb118⟩:=zaL hb116));simp only[go_sem,hc16,hc19,hc26,hb118,hb117]) ?_
  try simp only[go_sem]
  refine zaa (v:= .d (.int .i64 (a0.data.l.length:Int))) (fun hb113=>by((obtain⟨hb114,hb115⟩:=zaL hb113));simp only[go_sem,hc16,hc19,hc26,hb115,hb114]) ?_
  try simp only[go_sem]
  refine zaa (v:= .d (.bool (decide (0<(a0.data.l.length:Int))))) (fun hb110=>by((obtain⟨hb111,hb112⟩:=zaL hb110));simp only[go_sem,hc16,hc19,hc26,hb112,hb111]) ?_
  try simp only[go_sem]
  obtain⟨r47,hl48,h⟩:=bs h
  refine zcz.cut (n:=(0,[])) .normal ⟨((((Regs.none.set 1 (.ptr 0 0 0)).set 3 (.ptr 5 0 0)).set 4 (.d (.bool (a0.kind==1)))).set 50 (.d (.bool r47))),(((Heap.at 77).set 0 (some (.els 16 [.d (zam a0)] 0))).set 5 (some (.els 6 [.d (zaF r1)] 0)))⟩ ?_ (by(repeat(first|refine Clo.block ?_|refine Clo.seq zbd rfl ?_));(exact Clo.ret)) ?_
  ·replace h:=hl48
   refine zaV (fun hc27=> ?_) (fun hc28=> ?_)
   ·rw[if_pos (show(!(decide (16384<(a0.data.l.length:Int))))=true by(rw[hc27];rfl))]at h
    try simp only[go_sem,hc27]
    refine zaa (v:= .ptr 5 0 2) (fun hb46=>by simp only[go_sem,hc16,hc19,hc26,hc27,hb46]) ?_
    try simp only[go_sem]
    refine zaa (v:= .d (.bool r1.kids)) (fun hb45=>by simp only[go_sem,hc16,hc19,hc26,hc27,hb45]) ?_
    try simp only[go_sem]
    refine zaa (v:= .d (.bool (!r1.kids))) (fun hb44=>by simp only[go_sem,hc16,hc19,hc26,hc27,hb44]) ?_
    try simp only[go_sem]
    refine zaa (v:= .d (.bool (!r1.kids))) (fun hb43=>by simp only[go_sem,hc16,hc19,hc26,hc27,hb43]) ?_
    try simp only[go_sem]
    refine zaa (v:= .ptr 0 0 9) (fun hb40=>by((obtain⟨hb41,hb42⟩:=zaL hb40));simp only[go_sem,hc16,hc19,hc26,hc27,hb42,hb41]) ?_
    try simp only[go_sem]
    refine zaa (v:= .d (.list a0.kids.n (a0.kids.l.map (D.int .i64)))) (fun hb37=>by((obtain⟨hb38,hb39⟩:=zaL hb37));simp only[go_sem,hc16,hc19,hc26,hc27,hb39,hb38]) ?_
    try simp only[go_sem]
    refine zaa (v:= .d (.int .i64 (a0.kids.l.length:Int))) (fun hb34=>by((obtain⟨hb35,hb36⟩:=zaL hb34));simp only[go_sem,hc16,hc19,hc26,hc27,hb36,hb35]) ?_
    try simp only[go_sem]
    refine zaa (v:= .d (.bool (decide (0<(a0.kids.l.length:Int))))) (fun hb31=>by((obtain⟨hb32,hb33⟩:=zaL hb31));simp only[go_sem,hc16,hc19,hc26,hc27,hb33,hb32]) ?_
    try simp only[go_sem]
    refine zaV (fun hc29=> ?_) (fun hc30=> ?_)
    ·rw[if_pos (show(!(bif (!r1.data)then(decide (0<(a0.data.l.length:Int)))else false))=true by(rw[hc29];rfl))]at h
     try simp only[go_sem,hc29]
     cases h
     exact⟨rfl,Up.of (N:=77) (N':=77) [] rfl rfl (by decide) (.set (.d _) (.set (.d _) (.set (.ptr' rfl) (.set (.ptr' rfl) zak.none)))) (.set zaq.refl_d (.set zaq.refl_d zag.at))⟩
    rw[if_neg (ffn hc30)]at h
    try simp only[go_sem,hc30]
    cases h
    exact⟨rfl,Up.of (N:=77) (N':=77) [] rfl rfl (by decide) (.set (.d _) (.set (.d _) (.set (.ptr' rfl) (.set (.ptr' rfl) zak.none)))) (.set zaq.refl_d (.set zaq.refl_d zag.at))⟩
   rw[if_neg (ffn hc28)]at h
   try simp only[go_sem,hc28]
   cases h
   exact⟨rfl,Up.of (N:=77) (N':=77) [] rfl rfl (by decide) (.set (.d _) (.set (.d _) (.set (.ptr' rfl) (.set (.ptr' rfl) zak.none)))) (.set zaq.refl_d (.set zaq.refl_d zag.at))⟩
  try simp only[go_sem]
  obtain⟨r95,hl96,h⟩:=bs h
  refine WBr.cut (n:=(0,[])) ((fun r=>match r with|(.inl r)=>(.normal,⟨(Regs.none.set 1 (.ptr 0 0 0)),((Heap.at 77).set 0 (some (.els 16 [.d (zam a0)] 0)))⟩)|(.inr r)=>(.ret,⟨(Regs.none.set 2 (.d (.bool false))),(Heap.at 77)⟩):((Unit)⊕(Unit))→Ex×St) r95).1 ((fun r=>match r with|(.inl r)=>(.normal,⟨(Regs.none.set 1 (.ptr 0 0 0)),((Heap.at 77).set 0 (some (.els 16 [.d (zam a0)] 0)))⟩)|(.inr r)=>(.ret,⟨(Regs.none.set 2 (.d (.bool false))),(Heap.at 77)⟩):((Unit)⊕(Unit))→Ex×St) r95).2 ?_ (by(repeat(first|refine Clo.block ?_|refine Clo.seq zbd rfl ?_));(exact Clo.ret)) ?_
  ·replace h:=hl96
   refine zal (fun hc49=> ?_) (fun hc50=> ?_)
   ·rw[if_pos hc49]at h
    try simp only[go_sem]
    cases h
    exact⟨rfl,Up.of (N:=77) (N':=78) [] rfl rfl (by decide) (.set (.d _) zak.none) zag.at⟩
   rw[if_neg (ff hc50)]at h
   try simp only[go_sem]
   refine zaa (v:= .ptr 0 0 7) (fun hb94=>by simp only[go_sem,hc16,hc19,hc26,hc50,hb94]) ?_
   try simp only[go_sem]
   refine zaa (v:= .d (.list a0.attrs.n (a0.attrs.l.map zbm))) (fun hb93=>by simp only[go_sem,hc16,hc19,hc26,hc50,hb93]) ?_
   try simp only[go_sem]
   refine zaa (v:= .d (.int .i64 (a0.attrs.l.length:Int))) (fun hb92=>by simp only[go_sem,hc16,hc19,hc26,hc50,hb92]) ?_
   try simp only[go_sem]
   refine zaa (v:= .d (.bool (decide (0<(a0.attrs.l.length:Int))))) (fun hb91=>by simp only[go_sem,hc16,hc19,hc26,hc50,hb91]) ?_
   try simp only[go_sem]
   refine zaa (v:= .d (.bool (decide (0<(a0.attrs.l.length:Int))))) (fun hb90=>by simp only[go_sem,hc16,hc19,hc26,hc50,hb90]) ?_
   try simp only[go_sem]
   refine zaa (v:= .ptr 0 0 12) (fun hb87=>by((obtain⟨hb88,hb89⟩:=zaL hb87));simp only[go_sem,hc16,hc19,hc26,hc50,hb89,hb88]) ?_
   try simp only[go_sem]
   refine zaa (v:= .d (.int .i64 a0.shadow)) (fun hb84=>by((obtain⟨hb85,hb86⟩:=zaL hb84));simp only[go_sem,hc16,hc19,hc26,hc50,hb86,hb85]) ?_
   try simp only[go_sem]
   refine zaa (v:= .d (.bool (!(a0.shadow==0)))) (fun hb81=>by((obtain⟨hb82,hb83⟩:=zaL hb81));simp only[go_sem,hc16,hc19,hc26,hc50,hb83,hb82]) ?_
   try simp only[go_sem]
   refine zaV (fun hc51=> ?_) (fun hc52=> ?_)
   ·rw[if_pos (show(!(a0.kind==1))=true by(rw[hc51];rfl))]at h
    try simp only[go_sem,hc51]
    refine zaa (v:= .ptr 0 0 0) (fun hb71=>by simp only[go_sem,hc16,hc19,hc26,hc50,hc51,hb71]) ?_
    try simp only[go_sem]
    refine zaa (v:= .d (.int .u8 a0.kind)) (fun hb70=>by simp only[go_sem,hc16,hc19,hc26,hc50,hc51,hb70]) ?_
    try simp only[go_sem]
    refine zaa (v:= .d (.bool (!(a0.kind==9)))) (fun hb69=>by simp only[go_sem,hc16,hc19,hc26,hc50,hc51,hb69]) ?_
    try simp only[go_sem]
    refine zaa (v:= .d (.bool (!(a0.kind==9)))) (fun hb68=>by simp only[go_sem,hc16,hc19,hc26,hc50,hc51,hb68]) ?_
    try simp only[go_sem]
    refine zaa (v:= .ptr 0 0 15) (fun hb65=>by((obtain⟨hb66,hb67⟩:=zaL hb65));simp only[go_sem,hc16,hc19,hc26,hc50,hc51,hb67,hb66]) ?_
    try simp only[go_sem]
    refine zaa (v:= .d (.bool a0.hTML)) (fun hb62=>by((obtain⟨hb63,hb64⟩:=zaL hb62));simp only[go_sem,hc16,hc19,hc26,hc50,hc51,hb64,hb63]) ?_
    try simp only[go_sem]
    refine zaV (fun hc53=> ?_) (fun hc54=> ?_)
    ·rw[if_pos (show(!(bif (decide (0<(a0.attrs.l.length:Int)))then true else(!(a0.shadow==0))))=true by(rw[hc53];rfl))]at h
     try simp only[go_sem,hc53]
     refine zal (fun hc55=> ?_) (fun hc56=> ?_)
     ·rw[if_pos hc55]at h
      try simp only[go_sem]
      cases h
      exact⟨rfl,Up.of (N:=77) (N':=101) [] rfl rfl (by decide) (.set (.d _) zak.none) zag.at⟩
     rw[if_neg (ff hc56)]at h
     try simp only[go_sem]
     refine zaa (v:= .ptr 0 0 8) (fun hb61=>by simp only[go_sem,hc16,hc19,hc26,hc50,hc51,hc53,hc56,hb61]) ?_
     try simp only[go_sem]
     refine zaa (v:= .d (.int .i64 a0.parent)) (fun hb60=>by simp only[go_sem,hc16,hc19,hc26,hc50,hc51,hc53,hc56,hb60]) ?_
     try simp only[go_sem]
     refine zaa (v:= .d (.bool (!(a0.parent==0)))) (fun hb59=>by simp only[go_sem,hc16,hc19,hc26,hc50,hc51,hc53,hc56,hb59]) ?_
     try simp only[go_sem]
     refine zal (fun hc57=> ?_) (fun hc58=> ?_)
     ·rw[if_pos hc57]at h
      try simp only[go_sem]
      cases h
      exact⟨rfl,Up.of (N:=77) (N':=110) [] rfl rfl (by decide) (.set (.d _) zak.none) zag.at⟩
     rw[if_neg (ff hc58)]at h
     try simp only[go_sem]
     cases h
     exact⟨rfl,Up.of (N:=77) (N':=109) [] rfl rfl (by decide) (.set (.ptr' rfl) zak.none) (.set zaq.refl_d zag.at)⟩
    rw[if_neg (ffn hc54)]at h
    try simp only[go_sem,hc54]
    cases h
    exact⟨rfl,Up.of (N:=77) (N':=101) [] rfl rfl (by decide) (.set (.d _) zak.none) zag.at⟩
   rw[if_neg (ffn hc52)]at h
   try simp only[go_sem,hc52]
   refine zaa (v:= .ptr 0 0 15) (fun hb80=>by simp only[go_sem,hc16,hc19,hc26,hc50,hc52,hb80]) ?_
   try simp only[go_sem]
   refine zaa (v:= .d (.bool a0.hTML)) (fun hb79=>by simp only[go_sem,hc16,hc19,hc26,hc50,hc52,hb79]) ?_
   try simp only[go_sem]
   refine zal (fun hc72=> ?_) (fun hc73=> ?_)
   ·rw[if_pos hc72]at h
    try simp only[go_sem]
    cases h
    exact⟨rfl,Up.of (N:=77) (N':=101) [] rfl rfl (by decide) (.set (.d _) zak.none) zag.at⟩
   rw[if_neg (ff hc73)]at h
   try simp only[go_sem]
   refine zaa (v:= .ptr 0 0 8) (fun hb78=>by simp only[go_sem,hc16,hc19,hc26,hc50,hc52,hc73,hb78]) ?_
   try simp only[go_sem]
   refine zaa (v:= .d (.int .i64 a0.parent)) (fun hb77=>by simp only[go_sem,hc16,hc19,hc26,hc50,hc52,hc73,hb77]) ?_
   try simp only[go_sem]
   refine zaa (v:= .d (.bool (!(a0.parent==0)))) (fun hb76=>by simp only[go_sem,hc16,hc19,hc26,hc50,hc52,hc73,hb76]) ?_
   try simp only[go_sem]
   refine zal (fun hc74=> ?_) (fun hc75=> ?_)
   ·rw[if_pos hc74]at h
    try simp only[go_sem]
    cases h
    exact⟨rfl,Up.of (N:=77) (N':=110) [] rfl rfl (by decide) (.set (.d _) zak.none) zag.at⟩
   rw[if_neg (ff hc75)]at h
   try simp only[go_sem]
   cases h
   exact⟨rfl,Up.of (N:=77) (N':=109) [] rfl rfl (by decide) (.set (.ptr' rfl) zak.none) (.set zaq.refl_d zag.at)⟩
  rcases r95 with(q97|q109)
  ·dsimp only at h⊢
   try simp only[go_sem]
   refine zal (fun hc98=> ?_) (fun hc99=> ?_)
   ·rw[if_pos hc98]at h
    try simp only[go_sem]
    refine zaa (v:= .ptr 0 0 13) (fun hb102=>by simp only[go_sem,hc16,hc19,hc26,hc98,hb102]) ?_
    try simp only[go_sem]
    refine zaa (v:= .d (.int .u8 a0.mode)) (fun hb101=>by simp only[go_sem,hc16,hc19,hc26,hc98,hb101]) ?_
    try simp only[go_sem]
    refine zaa (v:= .d (.bool (a0.mode==2))) (fun hb100=>by simp only[go_sem,hc16,hc19,hc26,hc98,hb100]) ?_
    try simp only[go_sem]
    cases h
    rfl
   rw[if_neg (ff hc99)]at h
   try simp only[go_sem]
   refine zaa (v:= .ptr 0 0 14) (fun hb108=>by simp only[go_sem,hc16,hc19,hc26,hc99,hb108]) ?_
   try simp only[go_sem]
   refine zaa (v:= .d (.bool a0.manual)) (fun hb107=>by simp only[go_sem,hc16,hc19,hc26,hc99,hb107]) ?_
   try simp only[go_sem]
   refine zaa (v:= .d (.bool (!a0.manual))) (fun hb106=>by simp only[go_sem,hc16,hc19,hc26,hc99,hb106]) ?_
   try simp only[go_sem]
   refine zaa (v:= .ptr 0 0 11) (fun hb105=>by simp only[go_sem,hc16,hc19,hc26,hc99,hb105]) ?_
   try simp only[go_sem]
   refine zaa (v:= .d (.int .i64 a0.host)) (fun hb104=>by simp only[go_sem,hc16,hc19,hc26,hc99,hb104]) ?_
   try simp only[go_sem]
   refine zaa (v:= .d (.bool (a0.host==0))) (fun hb103=>by simp only[go_sem,hc16,hc19,hc26,hc99,hb103]) ?_
   try simp only[go_sem]
   cases h
   rfl
  dsimp only at h⊢
  try simp only[go_sem]
  cases h
  rfl
 rw[if_neg (ff hc20)]at h
 try simp only[go_sem,hc20]
 cases h
 rfl
noncomputable def zKG (a0:Forest) (a1:Int):Option (Bool):=
 (rd a0.nodes.l (IntKind.wrap .i64 (a1-1))).bind fun y1=>
 (if(!(y1.parent==0))=true then
  (dec (eT2 zam D.bool) (pc prog 187 [zae a0,.int .i64 y1.parent])).bind fun r5=>
  (if r5.2=true then
   (dec D.bool (pc prog 188 [.list r5.1.kids.n (r5.1.kids.l.map (D.int .i64)),.int .i64 a1])).bind fun r9=>
   some (!r9)
  else
   some true:Option ((Bool))).bind fun r11=>
  if r11=true then
   some (.inr ())
  else
   some (.inl ())
 else
  some (.inl ()):Option ((Unit)⊕(Unit))).bind fun r18=>
 match r18 with
 |(.inl q20)=>
  (dec (D.int .u8) (pc prog 189 [zae a0,.int .i64 y1.doc])).bind fun r21=>
  (if(r21==9)=true then
   some (bif (y1.kind==9)then(!(y1.doc==a1))else false)
  else
   some true:Option ((Bool))).bind fun r25=>
  if r25=true then
   some false
  else
   (if(!(y1.shadow==0))=true then
    (dec (eT2 zam D.bool) (pc prog 187 [zae a0,.int .i64 y1.shadow])).bind fun r31=>
    if(bif (bif (!r31.2)then true else(!(r31.1.kind==12)))then true else(!(r31.1.host==a1)))=true then
     some (.inr ())
    else
     some (.inl ())
   else
    some (.inl ()):Option ((Unit)⊕(Unit))).bind fun r42=>
   match r42 with
   |(.inl q44)=>
    if(y1.kind==12)=true then
     (dec (eT2 zam D.bool) (pc prog 187 [zae a0,.int .i64 y1.host])).bind fun r47=>
     if(bif (bif (bif (!r47.2)then true else(!(r47.1.kind==1)))then true else(!(r47.1.shadow==a1)))then true else(!(r47.1.doc==y1.doc)))=true then
      some false
     else
      (dec D.bool (pc prog 190 [zae a0,.int .i64 a1,zam y1])).bind fun r51=>
      some r51
    else
     (dec D.bool (pc prog 190 [zae a0,.int .i64 a1,zam y1])).bind fun r65=>
     some r65
   |(.inr q67)=>
    some false
 |(.inr q84)=>
  some false
theorem zKH (a0:Forest) (a1:Int) (r:Bool) (h:zKG a0 a1=some r):pc prog 162 [zae a0,.int .i64 a1]=some (D.bool r):=by
 unfold zKG at h
 refine zbD (fn:=zJp) rfl rfl ?_
 delta zJp
 try simp only[go_sem]
 obtain⟨y1,hy2,h⟩:=bs h
 try simp only[go_sem,zac hy2,zaj hy2,zad zam hy2]
 obtain⟨r18,hl19,h⟩:=bs h
 refine WBr.cut (n:=(0,[])) ((fun r=>match r with|(.inl r)=>(.normal,⟨(((Regs.none.set 1 (.d (.int .i64 a1))).set 2 (.ptr 0 0 0)).set 5 (.ptr 8 0 0)),(((Heap.at 13).set 0 (some (.els 1 [.d (zae a0)] 0))).set 8 (some (.els 16 [.d (zam y1)] 0)))⟩)|(.inr r)=>(.ret,⟨(Regs.none.set 4 (.d (.bool false))),(Heap.at 13)⟩):((Unit)⊕(Unit))→Ex×St) r18).1 ((fun r=>match r with|(.inl r)=>(.normal,⟨(((Regs.none.set 1 (.d (.int .i64 a1))).set 2 (.ptr 0 0 0)).set 5 (.ptr 8 0 0)),(((Heap.at 13).set 0 (some (.els 1 [.d (zae a0)] 0))).set 8 (some (.els 16 [.d (zam y1)] 0)))⟩)|(.inr r)=>(.ret,⟨(Regs.none.set 4 (.d (.bool false))),(Heap.at 13)⟩):((Unit)⊕(Unit))→Ex×St) r18).2 ?_ (by(repeat(refine Clo.seq zbd rfl ?_));(exact Clo.ret)) ?_
 ·replace h:=hl19
  refine zaD (fun hc3=> ?_) (fun hc4=> ?_)
  ·rw[if_pos (show(!(y1.parent==0))=true by(rw[hc3];rfl))]at h
   try simp only[go_sem,zac hy2,zaj hy2,zad zam hy2]
   obtain⟨r5,hr6,h⟩:=bs h
   replace hr6:=zao hr6
   refine zat hr6 ?_
   try simp only[go_sem,zac hy2,zaj hy2,zad zam hy2]
   refine zaa (v:= .ptr 20 0 9) (fun hb17=>by simp only[go_sem,zac hy2,zaj hy2,zad zam hy2,hc3,hb17]) ?_
   try simp only[go_sem,zac hy2,zaj hy2,zad zam hy2]
   refine zaa (v:= .d (.list r5.1.kids.n (r5.1.kids.l.map (D.int .i64)))) (fun hb16=>by simp only[go_sem,zac hy2,zaj hy2,zad zam hy2,hc3,hb16]) ?_
   try simp only[go_sem,zac hy2,zaj hy2,zad zam hy2]
   refine zaa (v:= .d (.int .i64 a1)) (fun hb15=>by simp only[go_sem,zac hy2,zaj hy2,zad zam hy2,hc3,hb15]) ?_
   try simp only[go_sem,zac hy2,zaj hy2,zad zam hy2]
   obtain⟨r11,hl12,h⟩:=bs h
   refine zcz.cut (n:=(0,[])) .normal ⟨((((Regs.none.set 1 (.d (.int .i64 a1))).set 2 (.ptr 0 0 0)).set 5 (.ptr 8 0 0)).set 36 (.d (.bool r11))),(((Heap.at 32).set 0 (some (.els 1 [.d (zae a0)] 0))).set 8 (some (.els 16 [.d (zam y1)] 0)))⟩ ?_ (by(repeat(refine Clo.seq zbd rfl ?_));(exact Clo.cpost (by decide))) ?_
   ·replace h:=hl12
    refine zaG (fun hc7=> ?_) (fun hc8=> ?_)
    ·rw[if_pos hc7]at h
     try simp only[go_sem,zac hy2,zaj hy2,zad zam hy2,hc7]
     obtain⟨r9,hr10,h⟩:=bs h
     replace hr10:=zao hr10
     refine zat hr10 ?_
     try simp only[go_sem,zac hy2,zaj hy2,zad zam hy2]
     cases h
     exact⟨rfl,Up.of (N:=32) (N':=32) [] rfl rfl (by decide) (.set (.d _) (.set (.ptr' rfl) (.set (.ptr' rfl) (.set (.d _) zak.none)))) (.set zaq.refl_d (.set zaq.refl_d zag.at))⟩
    rw[if_neg (ff hc8)]at h
    try simp only[go_sem,zac hy2,zaj hy2,zad zam hy2,hc8]
    cases h
    exact⟨rfl,Up.of (N:=32) (N':=32) [] rfl rfl (by decide) (.set (.d _) (.set (.ptr' rfl) (.set (.ptr' rfl) (.set (.d _) zak.none)))) (.set zaq.refl_d (.set zaq.refl_d zag.at))⟩
   try simp only[go_sem,zac hy2,zaj hy2,zad zam hy2]
   refine zal (fun hc13=> ?_) (fun hc14=> ?_)
   ·rw[if_pos hc13]at h
    try simp only[go_sem,zac hy2,zaj hy2,zad zam hy2]
    cases h
    exact⟨rfl,Up.of (N:=13) (N':=33) [] rfl rfl (by decide) (.set (.d _) zak.none) zag.at⟩
   rw[if_neg (ff hc14)]at h
   try simp only[go_sem,zac hy2,zaj hy2,zad zam hy2]
   cases h
   exact⟨rfl,Up.of (N:=13) (N':=32) [] rfl rfl (by decide) (.set (.ptr' rfl) (.set (.ptr' rfl) (.set (.d _) zak.none))) (.set zaq.refl_d (.set zaq.refl_d zag.at))⟩
  rw[if_neg (ffn hc4)]at h
  try simp only[go_sem,zac hy2,zaj hy2,zad zam hy2]
  cases h
  exact⟨rfl,Up.of (N:=13) (N':=13) [] rfl rfl (by decide) (.set (.ptr' rfl) (.set (.ptr' rfl) (.set (.d _) zak.none))) (.set zaq.refl_d (.set zaq.refl_d zag.at))⟩
 rcases r18 with(q20|q84)
 ·dsimp only at h⊢
  try simp only[go_sem,zac hy2,zaj hy2,zad zam hy2]
  obtain⟨r21,hr22,h⟩:=bs h
  replace hr22:=zao hr22
  refine zat hr22 ?_
  try simp only[go_sem,zac hy2,zaj hy2,zad zam hy2]
  refine zaa (v:= .ptr 8 0 0) (fun hb83=>by simp only[go_sem,zac hy2,zaj hy2,zad zam hy2,hb83]) ?_
  try simp only[go_sem,zac hy2,zaj hy2,zad zam hy2]
  refine zaa (v:= .d (.int .u8 y1.kind)) (fun hb82=>by simp only[go_sem,zac hy2,zaj hy2,zad zam hy2,hb82]) ?_
  try simp only[go_sem,zac hy2,zaj hy2,zad zam hy2]
  refine zaa (v:= .d (.bool (y1.kind==9))) (fun hb81=>by simp only[go_sem,zac hy2,zaj hy2,zad zam hy2,hb81]) ?_
  try simp only[go_sem,zac hy2,zaj hy2,zad zam hy2]
  refine zaa (v:= .d (.bool (y1.kind==9))) (fun hb80=>by simp only[go_sem,zac hy2,zaj hy2,zad zam hy2,hb80]) ?_
  try simp only[go_sem,zac hy2,zaj hy2,zad zam hy2]
  refine zaa (v:= .ptr 8 0 10) (fun hb77=>by((obtain⟨hb78,hb79⟩:=zaL hb77));simp only[go_sem,zac hy2,zaj hy2,zad zam hy2,hb79,hb78]) ?_
  try simp only[go_sem,zac hy2,zaj hy2,zad zam hy2]
  refine zaa (v:= .d (.int .i64 y1.doc)) (fun hb74=>by((obtain⟨hb75,hb76⟩:=zaL hb74));simp only[go_sem,zac hy2,zaj hy2,zad zam hy2,hb76,hb75]) ?_
  try simp only[go_sem,zac hy2,zaj hy2,zad zam hy2]
  refine zaa (v:= .d (.int .i64 a1)) (fun hb71=>by((obtain⟨hb72,hb73⟩:=zaL hb71));simp only[go_sem,zac hy2,zaj hy2,zad zam hy2,hb73,hb72]) ?_
  try simp only[go_sem,zac hy2,zaj hy2,zad zam hy2]
  refine zaa (v:= .d (.bool (!(y1.doc==a1)))) (fun hb68=>by((obtain⟨hb69,hb70⟩:=zaL hb68));simp only[go_sem,zac hy2,zaj hy2,zad zam hy2,hb70,hb69]) ?_
  try simp only[go_sem,zac hy2,zaj hy2,zad zam hy2]
  obtain⟨r25,hl26,h⟩:=bs h
  refine zcz.cut (n:=(0,[])) .normal ⟨((((Regs.none.set 1 (.d (.int .i64 a1))).set 2 (.ptr 0 0 0)).set 5 (.ptr 8 0 0)).set 52 (.d (.bool r25))),(((Heap.at 29).set 0 (some (.els 1 [.d (zae a0)] 0))).set 8 (some (.els 16 [.d (zam y1)] 0)))⟩ ?_ (by(repeat(refine Clo.seq zbd rfl ?_));(exact Clo.ret)) ?_
  ·replace h:=hl26
   refine zaG (fun hc23=> ?_) (fun hc24=> ?_)
   ·rw[if_pos hc23]at h
    try simp only[go_sem,zac hy2,zaj hy2,zad zam hy2,hc23]
    cases h
    exact⟨rfl,Up.of (N:=29) (N':=29) [] rfl rfl (by decide) (.set (.d _) (.set (.ptr' rfl) (.set (.ptr' rfl) (.set (.d _) zak.none)))) (.set zaq.refl_d (.set zaq.refl_d zag.at))⟩
   rw[if_neg (ff hc24)]at h
   try simp only[go_sem,zac hy2,zaj hy2,zad zam hy2,hc24]
   cases h
   exact⟨rfl,Up.of (N:=29) (N':=29) [] rfl rfl (by decide) (.set (.d _) (.set (.ptr' rfl) (.set (.ptr' rfl) (.set (.d _) zak.none)))) (.set zaq.refl_d (.set zaq.refl_d zag.at))⟩
  try simp only[go_sem,zac hy2,zaj hy2,zad zam hy2]
  refine zal (fun hc27=> ?_) (fun hc28=> ?_)
  ·rw[if_pos hc27]at h
   try simp only[go_sem,zac hy2,zaj hy2,zad zam hy2]
   cases h
   rfl
  rw[if_neg (ff hc28)]at h
  try simp only[go_sem,zac hy2,zaj hy2,zad zam hy2]
  obtain⟨r42,hl43,h⟩:=bs h
  refine WBr.cut (n:=(0,[])) ((fun r=>match r with|(.inl r)=>(.normal,⟨(((Regs.none.set 1 (.d (.int .i64 a1))).set 2 (.ptr 0 0 0)).set 5 (.ptr 8 0 0)),(((Heap.at 32).set 0 (some (.els 1 [.d (zae a0)] 0))).set 8 (some (.els 16 [.d (zam y1)] 0)))⟩)|(.inr r)=>(.ret,⟨(Regs.none.set 4 (.d (.bool false))),(Heap.at 32)⟩):((Unit)⊕(Unit))→Ex×St) r42).1 ((fun r=>match r with|(.inl r)=>(.normal,⟨(((Regs.none.set 1 (.d (.int .i64 a1))).set 2 (.ptr 0 0 0)).set 5 (.ptr 8 0 0)),(((Heap.at 32).set 0 (some (.els 1 [.d (zae a0)] 0))).set 8 (some (.els 16 [.d (zam y1)] 0)))⟩)|(.inr r)=>(.ret,⟨(Regs.none.set 4 (.d (.bool false))),(Heap.at 32)⟩):((Unit)⊕(Unit))→Ex×St) r42).2 ?_ (by(repeat(refine Clo.seq zbd rfl ?_));(exact Clo.ret)) ?_
  ·replace h:=hl43
   refine zaD (fun hc29=> ?_) (fun hc30=> ?_)
   ·rw[if_pos (show(!(y1.shadow==0))=true by(rw[hc29];rfl))]at h
    try simp only[go_sem,zac hy2,zaj hy2,zad zam hy2]
    obtain⟨r31,hr32,h⟩:=bs h
    replace hr32:=zao hr32
    refine zat hr32 ?_
    try simp only[go_sem,zac hy2,zaj hy2,zad zam hy2]
    refine zaa (v:= .ptr 39 0 0) (fun hb41=>by simp only[go_sem,zac hy2,zaj hy2,zad zam hy2,hc28,hc29,hb41]) ?_
    try simp only[go_sem,zac hy2,zaj hy2,zad zam hy2]
    refine zaa (v:= .d (.int .u8 r31.1.kind)) (fun hb40=>by simp only[go_sem,zac hy2,zaj hy2,zad zam hy2,hc28,hc29,hb40]) ?_
    try simp only[go_sem,zac hy2,zaj hy2,zad zam hy2]
    refine zaa (v:= .d (.bool (!(r31.1.kind==12)))) (fun hb39=>by simp only[go_sem,zac hy2,zaj hy2,zad zam hy2,hc28,hc29,hb39]) ?_
    try simp only[go_sem,zac hy2,zaj hy2,zad zam hy2]
    refine zaa (v:= .ptr 39 0 11) (fun hb38=>by simp only[go_sem,zac hy2,zaj hy2,zad zam hy2,hc28,hc29,hb38]) ?_
    try simp only[go_sem,zac hy2,zaj hy2,zad zam hy2]
    refine zaa (v:= .d (.int .i64 r31.1.host)) (fun hb37=>by simp only[go_sem,zac hy2,zaj hy2,zad zam hy2,hc28,hc29,hb37]) ?_
    try simp only[go_sem,zac hy2,zaj hy2,zad zam hy2]
    refine zaa (v:= .d (.int .i64 a1)) (fun hb36=>by simp only[go_sem,zac hy2,zaj hy2,zad zam hy2,hc28,hc29,hb36]) ?_
    try simp only[go_sem,zac hy2,zaj hy2,zad zam hy2]
    refine zaa (v:= .d (.bool (!(r31.1.host==a1)))) (fun hb35=>by simp only[go_sem,zac hy2,zaj hy2,zad zam hy2,hc28,hc29,hb35]) ?_
    try simp only[go_sem,zac hy2,zaj hy2,zad zam hy2]
    refine zal (fun hc33=> ?_) (fun hc34=> ?_)
    ·rw[if_pos hc33]at h
     try simp only[go_sem,zac hy2,zaj hy2,zad zam hy2]
     cases h
     exact⟨rfl,Up.of (N:=32) (N':=56) [] rfl rfl (by decide) (.set (.d _) zak.none) zag.at⟩
    rw[if_neg (ff hc34)]at h
    try simp only[go_sem,zac hy2,zaj hy2,zad zam hy2]
    cases h
    exact⟨rfl,Up.of (N:=32) (N':=55) [] rfl rfl (by decide) (.set (.ptr' rfl) (.set (.ptr' rfl) (.set (.d _) zak.none))) (.set zaq.refl_d (.set zaq.refl_d zag.at))⟩
   rw[if_neg (ffn hc30)]at h
   try simp only[go_sem,zac hy2,zaj hy2,zad zam hy2]
   cases h
   exact⟨rfl,Up.of (N:=32) (N':=32) [] rfl rfl (by decide) (.set (.ptr' rfl) (.set (.ptr' rfl) (.set (.d _) zak.none))) (.set zaq.refl_d (.set zaq.refl_d zag.at))⟩
  rcases r42 with(q44|q67)
  ·dsimp only at h⊢
   try simp only[go_sem,zac hy2,zaj hy2,zad zam hy2]
   refine zal (fun hc45=> ?_) (fun hc46=> ?_)
   ·rw[if_pos hc45]at h
    try simp only[go_sem,zac hy2,zaj hy2,zad zam hy2]
    obtain⟨r47,hr48,h⟩:=bs h
    replace hr48:=zao hr48
    refine zat hr48 ?_
    try simp only[go_sem,zac hy2,zaj hy2,zad zam hy2]
    refine zaa (v:= .ptr 42 0 0) (fun hb64=>by simp only[go_sem,zac hy2,zaj hy2,zad zam hy2,hc28,hc45,hb64]) ?_
    try simp only[go_sem,zac hy2,zaj hy2,zad zam hy2]
    refine zaa (v:= .d (.int .u8 r47.1.kind)) (fun hb63=>by simp only[go_sem,zac hy2,zaj hy2,zad zam hy2,hc28,hc45,hb63]) ?_
    try simp only[go_sem,zac hy2,zaj hy2,zad zam hy2]
    refine zaa (v:= .d (.bool (!(r47.1.kind==1)))) (fun hb62=>by simp only[go_sem,zac hy2,zaj hy2,zad zam hy2,hc28,hc45,hb62]) ?_
    try simp only[go_sem,zac hy2,zaj hy2,zad zam hy2]
    refine zaa (v:= .ptr 42 0 12) (fun hb61=>by simp only[go_sem,zac hy2,zaj hy2,zad zam hy2,hc28,hc45,hb61]) ?_
    try simp only[go_sem,zac hy2,zaj hy2,zad zam hy2]
    refine zaa (v:= .d (.int .i64 r47.1.shadow)) (fun hb60=>by simp only[go_sem,zac hy2,zaj hy2,zad zam hy2,hc28,hc45,hb60]) ?_
    try simp only[go_sem,zac hy2,zaj hy2,zad zam hy2]
    refine zaa (v:= .d (.int .i64 a1)) (fun hb59=>by simp only[go_sem,zac hy2,zaj hy2,zad zam hy2,hc28,hc45,hb59]) ?_
    try simp only[go_sem,zac hy2,zaj hy2,zad zam hy2]
    refine zaa (v:= .d (.bool (!(r47.1.shadow==a1)))) (fun hb58=>by simp only[go_sem,zac hy2,zaj hy2,zad zam hy2,hc28,hc45,hb58]) ?_
    try simp only[go_sem,zac hy2,zaj hy2,zad zam hy2]
    refine zaa (v:= .ptr 42 0 10) (fun hb57=>by simp only[go_sem,zac hy2,zaj hy2,zad zam hy2,hc28,hc45,hb57]) ?_
    try simp only[go_sem,zac hy2,zaj hy2,zad zam hy2]
    refine zaa (v:= .d (.int .i64 r47.1.doc)) (fun hb56=>by simp only[go_sem,zac hy2,zaj hy2,zad zam hy2,hc28,hc45,hb56]) ?_
    try simp only[go_sem,zac hy2,zaj hy2,zad zam hy2]
    refine zaa (v:= .ptr 8 0 10) (fun hb55=>by simp only[go_sem,zac hy2,zaj hy2,zad zam hy2,hc28,hc45,hb55]) ?_
    try simp only[go_sem,zac hy2,zaj hy2,zad zam hy2]
    refine zaa (v:= .d (.int .i64 y1.doc)) (fun hb54=>by simp only[go_sem,zac hy2,zaj hy2,zad zam hy2,hc28,hc45,hb54]) ?_
    try simp only[go_sem,zac hy2,zaj hy2,zad zam hy2]
    refine zaa (v:= .d (.bool (!(r47.1.doc==y1.doc)))) (fun hb53=>by simp only[go_sem,zac hy2,zaj hy2,zad zam hy2,hc28,hc45,hb53]) ?_
    try simp only[go_sem,zac hy2,zaj hy2,zad zam hy2]
    refine zal (fun hc49=> ?_) (fun hc50=> ?_)
    ·rw[if_pos hc49]at h
     try simp only[go_sem,zac hy2,zaj hy2,zad zam hy2]
     cases h
     rfl
    rw[if_neg (ff hc50)]at h
    try simp only[go_sem,zac hy2,zaj hy2,zad zam hy2]
    obtain⟨r51,hr52,h⟩:=bs h
    replace hr52:=zao hr52
    refine zat hr52 ?_
    try simp only[go_sem,zac hy2,zaj hy2,zad zam hy2]
    cases h
    rfl
   rw[if_neg (ff hc46)]at h
   try simp only[go_sem,zac hy2,zaj hy2,zad zam hy2]
   obtain⟨r65,hr66,h⟩:=bs h
   replace hr66:=zao hr66
   refine zat hr66 ?_
   try simp only[go_sem,zac hy2,zaj hy2,zad zam hy2]
   cases h
   rfl
  dsimp only at h⊢
  try simp only[go_sem,zac hy2,zaj hy2,zad zam hy2]
  cases h
  rfl
 dsimp only at h⊢
 try simp only[go_sem,zac hy2,zaj hy2,zad zam hy2]
 cases h
 rfl
noncomputable def zKI (a0:Forest) (a1:Int):Option (Int):=
 (dec zam (pc prog 92 [zae a0,.int .i64 a1])).bind fun r1=>
 if(r1.kind==12)=true then
  some r1.host
 else
  some r1.parent
theorem zKJ (a0:Forest) (a1:Int) (r:Int) (h:zKI a0 a1=some r):pc prog 174 [zae a0,.int .i64 a1]=some ((D.int .i64) r):=by
 unfold zKI at h
 refine zbD (fn:=zJx) rfl rfl ?_
 delta zJx
 try simp only[go_sem]
 obtain⟨r1,hr2,h⟩:=bs h
 replace hr2:=zao hr2
 refine zat hr2 ?_
 try simp only[go_sem]
 refine zal (fun hc3=> ?_) (fun hc4=> ?_)
 ·rw[if_pos hc3]at h
  try simp only[go_sem]
  cases h
  rfl
 rw[if_neg (ff hc4)]at h
 try simp only[go_sem]
 cases h
 rfl
noncomputable def zKK (a0:Node):Option (Int):=
 if(a0.kind==12)=true then
  some a0.host
 else
  some a0.parent
theorem zKL (a0:Node) (r:Int) (h:zKK a0=some r):pc prog 182 [zam a0]=some ((D.int .i64) r):=by
 unfold zKK at h
 refine zbD (fn:=zJA) rfl rfl ?_
 delta zJA
 try simp only[go_sem]
 refine zal (fun hc1=> ?_) (fun hc2=> ?_)
 ·rw[if_pos hc1]at h
  try simp only[go_sem]
  cases h
  rfl
 rw[if_neg (ff hc2)]at h
 try simp only[go_sem]
 cases h
 rfl
noncomputable def zKM (a0:Int):Option (forest_trait):=
 if(a0==1)=true then
  some (⟨true,false,true,true,true,false⟩:forest_trait)
 else
  (if(a0==3)=true then
   some (a0==3)
  else
   (if(a0==4)=true then
    some (a0==4)
   else
    some (a0==8):Option ((Bool))).bind fun r7=>
   some r7:Option ((Bool))).bind fun r9=>
  if r9=true then
   some (⟨true,true,false,true,false,false⟩:forest_trait)
  else
   if(a0==7)=true then
    some (⟨true,true,false,true,false,true⟩:forest_trait)
   else
    if(a0==10)=true then
     some (⟨true,false,false,true,false,true⟩:forest_trait)
    else
     if(a0==9)=true then
      some (⟨true,false,true,false,false,false⟩:forest_trait)
     else
      if(a0==11)=true then
       some (⟨true,false,true,false,false,false⟩:forest_trait)
      else
       if(a0==12)=true then
        some (⟨true,false,true,false,false,false⟩:forest_trait)
       else
        some (⟨false,false,false,false,false,false⟩:forest_trait)
theorem zKN (a0:Int) (r:forest_trait) (h:zKM a0=some r):pc prog 183 [.int .u8 a0]=some (zaF r):=by
 unfold zKM at h
 refine zbD (fn:=zJB) rfl rfl ?_
 delta zJB
 try simp only[go_sem]
 refine zal (fun hc1=> ?_) (fun hc2=> ?_)
 ·rw[if_pos hc1]at h
  try simp only[go_sem]
  cases h
  rfl
 rw[if_neg (ff hc2)]at h
 try simp only[go_sem]
 obtain⟨r9,hl10,h⟩:=bs h
 refine WBr.cut (n:=(0,[])) .normal ⟨(((Regs.none.set 2 (.ptr 0 0 0)).set 3 (.d (.int .u8 a0))).set 7 (.d (.bool r9))),((Heap.at 6).set 0 (some (.els 6 [.d (.agg [.bool false,.bool false,.bool false,.bool false,.bool false,.bool false])] 0)))⟩ ?_ (by(repeat(first|refine Clo.block ?_|refine Clo.seq zbd rfl ?_));(exact Clo.ret)) ?_
 ·replace h:=hl10
  refine zal (fun hc3=> ?_) (fun hc4=> ?_)
  ·rw[if_pos hc3]at h
   try simp only[go_sem]
   cases h
   exact⟨rfl,Up.of (N:=6) (N':=6) [] rfl rfl (by decide) (.set (.d _) (.set (.d _) (.set (.ptr' rfl) zak.none))) (.set zaq.refl_d zag.at)⟩
  rw[if_neg (ff hc4)]at h
  try simp only[go_sem]
  obtain⟨r7,hl8,h⟩:=bs h
  refine WBr.cut (n:=(0,[])) .normal ⟨(((Regs.none.set 2 (.ptr 0 0 0)).set 3 (.d (.int .u8 a0))).set 7 (.d (.bool r7))),((Heap.at 8).set 0 (some (.els 6 [.d (.agg [.bool false,.bool false,.bool false,.bool false,.bool false,.bool false])] 0)))⟩ ?_ (by(repeat(first|refine Clo.block ?_|refine Clo.seq zbd rfl ?_));(exact Clo.cpost (by decide))) ?_
  ·replace h:=hl8
   refine zal (fun hc5=> ?_) (fun hc6=> ?_)
   ·rw[if_pos hc5]at h
    try simp only[go_sem]
    cases h
    exact⟨rfl,Up.of (N:=8) (N':=8) [] rfl rfl (by decide) (.set (.d _) (.set (.d _) (.set (.ptr' rfl) zak.none))) (.set zaq.refl_d zag.at)⟩
   rw[if_neg (ff hc6)]at h
   try simp only[go_sem]
   cases h
   exact⟨rfl,Up.of (N:=8) (N':=10) [] rfl rfl (by decide) (.set (.d _) (.set (.d _) (.set (.ptr' rfl) zak.none))) (.set zaq.refl_d zag.at)⟩
  skip
  cases h
  exact⟨rfl,Up.of (N:=6) (N':=8) [] rfl rfl (by decide) (.set (.d _) (.set (.d _) (.set (.ptr' rfl) zak.none))) (.set zaq.refl_d zag.at)⟩
 try simp only[go_sem]
 refine zal (fun hc11=> ?_) (fun hc12=> ?_)
 ·rw[if_pos hc11]at h
  try simp only[go_sem]
  cases h
  rfl
 rw[if_neg (ff hc12)]at h
 try simp only[go_sem]
 refine zal (fun hc13=> ?_) (fun hc14=> ?_)
 ·rw[if_pos hc13]at h
  try simp only[go_sem]
  cases h
  rfl
 rw[if_neg (ff hc14)]at h
 try simp only[go_sem]
 refine zal (fun hc15=> ?_) (fun hc16=> ?_)
 ·rw[if_pos hc15]at h
  try simp only[go_sem]
  cases h
  rfl
 rw[if_neg (ff hc16)]at h
 try simp only[go_sem]
 refine zal (fun hc17=> ?_) (fun hc18=> ?_)
 ·rw[if_pos hc17]at h
  try simp only[go_sem]
  try simp only[go_sem,hc2,hc12,hc14,hc16,hc17]
  cases h
  rfl
 rw[if_neg (ff hc18)]at h
 try simp only[go_sem]
 refine zal (fun hc19=> ?_) (fun hc20=> ?_)
 ·rw[if_pos hc19]at h
  try simp only[go_sem]
  try simp only[go_sem,hc2,hc12,hc14,hc16,hc18,hc19]
  cases h
  rfl
 rw[if_neg (ff hc20)]at h
 try simp only[go_sem]
 refine zal (fun hc21=> ?_) (fun hc22=> ?_)
 ·rw[if_pos hc21]at h
  try simp only[go_sem]
  cases h
  rfl
 rw[if_neg (ff hc22)]at h
 try simp only[go_sem]
 cases h
 rfl
noncomputable def zKO (a0:Node) (a1:forest_trait):Option (Bool):=
 if a1.full=true then
  (dec D.bool (pc prog 203 [zdf a0.name])).bind fun r3=>
  some r3
 else
  if a1.local_=true then
   if(!(a0.name.local_==[]))=true then
    (dec D.bool (pc prog 186 [.list false (([a0.name.local_]).map D.str)])).bind fun r9=>
    if r9=true then
     some (decide (a0.name=(⟨[],[],a0.name.local_⟩:Name)))
    else
     some false
   else
    some false
  else
   some (decide (a0.name=(⟨[],[],[]⟩:Name)))
theorem zKP (a0:Node) (a1:forest_trait) (r:Bool) (h:zKO a0 a1=some r):pc prog 184 [zam a0,zaF a1]=some (D.bool r):=by
 unfold zKO at h
 refine zbD (fn:=zJC) rfl rfl ?_
 delta zJC
 try simp only[go_sem]
 refine zal (fun hc1=> ?_) (fun hc2=> ?_)
 ·rw[if_pos hc1]at h
  try simp only[go_sem]
  obtain⟨r3,hr4,h⟩:=bs h
  replace hr4:=zao hr4
  refine zat hr4 ?_
  try simp only[go_sem]
  cases h
  rfl
 rw[if_neg (ff hc2)]at h
 try simp only[go_sem]
 refine zal (fun hc5=> ?_) (fun hc6=> ?_)
 ·rw[if_pos hc5]at h
  try simp only[go_sem]
  refine zaa (v:= .ptr 0 0 1) (fun hb20=>by simp only[go_sem,hc2,hc5,hb20]) ?_
  try simp only[go_sem]
  refine zaa (v:= .ptr 0 0 3) (fun hb19=>by simp only[go_sem,hc2,hc5,hb19]) ?_
  try simp only[go_sem]
  refine zaa (v:= .d (.str a0.name.local_)) (fun hb18=>by simp only[go_sem,hc2,hc5,hb18]) ?_
  try simp only[go_sem]
  refine zaV (fun hc7=> ?_) (fun hc8=> ?_)
  ·rw[if_pos (show(!(a0.name.local_==[]))=true by(rw[hc7];rfl))]at h
   try simp only[go_sem,hc7]
   obtain⟨r9,hr10,h⟩:=bs h
   replace hr10:=zao hr10
   refine zat hr10 ?_
   try simp only[go_sem]
   refine zaa (v:= .ptr 0 0 1) (fun hb17=>by simp only[go_sem,hc2,hc5,hc7,hb17]) ?_
   try simp only[go_sem]
   refine zaa (v:= .d (zdf a0.name)) (fun hb16=>by simp only[go_sem,hc2,hc5,hc7,hb16]) ?_
   try simp only[go_sem]
   refine zaa (v:= .ptr 0 0 1) (fun hb15=>by simp only[go_sem,hc2,hc5,hc7,hb15]) ?_
   try simp only[go_sem]
   refine zaa (v:= .ptr 0 0 3) (fun hb14=>by simp only[go_sem,hc2,hc5,hc7,hb14]) ?_
   try simp only[go_sem]
   refine zaa (v:= .d (.str a0.name.local_)) (fun hb13=>by simp only[go_sem,hc2,hc5,hc7,hb13]) ?_
   try simp only[go_sem]
   refine zaG (fun hc11=> ?_) (fun hc12=> ?_)
   ·rw[if_pos hc11]at h
    try simp only[go_sem,hc11]
    cases h
    rfl
   rw[if_neg (ff hc12)]at h
   try simp only[go_sem,hc12]
   cases h
   rfl
  rw[if_neg (ffn hc8)]at h
  try simp only[go_sem,hc8]
  cases h
  rfl
 rw[if_neg (ff hc6)]at h
 try simp only[go_sem]
 cases h
 rfl
def zfs (a0:Sl (Attr)) (x0:List (forest_key×Int)×Int):St:=⟨((((Regs.none.set 3 (.map 4)).set 11 (.d (.list a0.n (a0.l.map zbm)))).set 12 (.d (.int .i64 (a0.l.length:Int)))).set 13 (.d (.int .i64 x0.2))),((Heap.at 9).set 4 (some (.map (ents zai (fun z=>V.d ((D.int .i64) z)) x0.1 0) x0.1.length)))⟩
def ziC (a0:Sl (Attr)):((Unit)⊕(Unit))→Ex×St:=fun r=>match r with
 |(.inl r)=>(.exit 0,⟨Regs.none,(Heap.at 9)⟩)
 |(.inr r)=>(.ret,⟨(Regs.none.set 2 (.d (.bool false))),(Heap.at 9)⟩)
noncomputable def zdC (a0:Sl (Attr)) (x0:List (forest_key×Int)×Int):Option ((List (forest_key×Int)×Int)⊕((Unit)⊕(Unit))):=
 if(decide (x0.2<(a0.l.length:Int)))=true then
  (rd a0.l x0.2).bind fun y5=>
  (dec zai (pc prog 204 [zdf y5.name])).bind fun r7=>
  (dec D.bool (pc prog 203 [zdf y5.name])).bind fun r9=>
  if(!(bif (!r9)then true else(decide (4096<(y5.value.length:Int)))))=true then
   if(decide (0<(zhb r7 x0.1 (0))))=true then
    some (.inr (.inr ()))
   else
    some (.inl ((zeT r7 (IntKind.wrap .i64 ((zhb r7 x0.1 (0))+1)) x0.1),(IntKind.wrap .i64 (x0.2+1))))
  else
   some (.inr (.inr ()))
 else
  some (.inr (.inl ()))
theorem zxP (a0:Sl (Attr)) (x0:List (forest_key×Int)×Int) (o:(List (forest_key×Int)×Int)⊕((Unit)⊕(Unit))) (h:zdC a0 x0=some o):Wp prog zre (zfs a0 x0) (zcg (0,[]) (zfs a0) (ziC a0) o):=by
 unfold zdC at h
 delta zre zfs
 try simp only[go_sem]
 refine zal (fun hc3=> ?_) (fun hc4=> ?_)
 ·rw[if_pos hc3]at h
  try simp only[go_sem,zav (e:=zai) (ev:=(D.int .i64)) zah,zaw (e:=zai) (ev:=(D.int .i64)) zah,zar (e:=zai) (ev:=(D.int .i64)) zah,zax (e:=zai) (ev:=(D.int .i64)) zah,zay (e:=zai) (ev:=(D.int .i64))]
  obtain⟨y5,hy6,h⟩:=bs h
  try simp only[go_sem,zav (e:=zai) (ev:=(D.int .i64)) zah,zaw (e:=zai) (ev:=(D.int .i64)) zah,zar (e:=zai) (ev:=(D.int .i64)) zah,zax (e:=zai) (ev:=(D.int .i64)) zah,zay (e:=zai) (ev:=(D.int .i64)),zac hy6,zaj hy6,zad zbm hy6]
  obtain⟨r7,hr8,h⟩:=bs h
  replace hr8:=zao hr8
  refine zat hr8 ?_
  try simp only[go_sem,zav (e:=zai) (ev:=(D.int .i64)) zah,zaw (e:=zai) (ev:=(D.int .i64)) zah,zar (e:=zai) (ev:=(D.int .i64)) zah,zax (e:=zai) (ev:=(D.int .i64)) zah,zay (e:=zai) (ev:=(D.int .i64)),zac hy6,zaj hy6,zad zbm hy6]
  obtain⟨r9,hr10,h⟩:=bs h
  replace hr10:=zao hr10
  refine zat hr10 ?_
  try simp only[go_sem,zav (e:=zai) (ev:=(D.int .i64)) zah,zaw (e:=zai) (ev:=(D.int .i64)) zah,zar (e:=zai) (ev:=(D.int .i64)) zah,zax (e:=zai) (ev:=(D.int .i64)) zah,zay (e:=zai) (ev:=(D.int .i64)),zac hy6,zaj hy6,zad zbm hy6]
  refine zaa (v:= .ptr 12 0 3) (fun hb18=>by simp only[go_sem,zav (e:=zai) (ev:=(D.int .i64)) zah,zaw (e:=zai) (ev:=(D.int .i64)) zah,zar (e:=zai) (ev:=(D.int .i64)) zah,zax (e:=zai) (ev:=(D.int .i64)) zah,zay (e:=zai) (ev:=(D.int .i64)),zac hy6,zaj hy6,zad zbm hy6,hc3,hb18]) ?_
  try simp only[go_sem,zav (e:=zai) (ev:=(D.int .i64)) zah,zaw (e:=zai) (ev:=(D.int .i64)) zah,zar (e:=zai) (ev:=(D.int .i64)) zah,zax (e:=zai) (ev:=(D.int .i64)) zah,zay (e:=zai) (ev:=(D.int .i64)),zac hy6,zaj hy6,zad zbm hy6]
  refine zaa (v:= .d (.str y5.value)) (fun hb17=>by simp only[go_sem,zav (e:=zai) (ev:=(D.int .i64)) zah,zaw (e:=zai) (ev:=(D.int .i64)) zah,zar (e:=zai) (ev:=(D.int .i64)) zah,zax (e:=zai) (ev:=(D.int .i64)) zah,zay (e:=zai) (ev:=(D.int .i64)),zac hy6,zaj hy6,zad zbm hy6,hc3,hb17]) ?_
  try simp only[go_sem,zav (e:=zai) (ev:=(D.int .i64)) zah,zaw (e:=zai) (ev:=(D.int .i64)) zah,zar (e:=zai) (ev:=(D.int .i64)) zah,zax (e:=zai) (ev:=(D.int .i64)) zah,zay (e:=zai) (ev:=(D.int .i64)),zac hy6,zaj hy6,zad zbm hy6]
  refine zaa (v:= .d (.int .i64 (y5.value.length:Int))) (fun hb16=>by simp only[go_sem,zav (e:=zai) (ev:=(D.int .i64)) zah,zaw (e:=zai) (ev:=(D.int .i64)) zah,zar (e:=zai) (ev:=(D.int .i64)) zah,zax (e:=zai) (ev:=(D.int .i64)) zah,zay (e:=zai) (ev:=(D.int .i64)),zac hy6,zaj hy6,zad zbm hy6,hc3,hb16]) ?_
  try simp only[go_sem,zav (e:=zai) (ev:=(D.int .i64)) zah,zaw (e:=zai) (ev:=(D.int .i64)) zah,zar (e:=zai) (ev:=(D.int .i64)) zah,zax (e:=zai) (ev:=(D.int .i64)) zah,zay (e:=zai) (ev:=(D.int .i64)),zac hy6,zaj hy6,zad zbm hy6]
  refine zaa (v:= .d (.bool (decide (4096<(y5.value.length:Int))))) (fun hb15=>by simp only[go_sem,zav (e:=zai) (ev:=(D.int .i64)) zah,zaw (e:=zai) (ev:=(D.int .i64)) zah,zar (e:=zai) (ev:=(D.int .i64)) zah,zax (e:=zai) (ev:=(D.int .i64)) zah,zay (e:=zai) (ev:=(D.int .i64)),zac hy6,zaj hy6,zad zbm hy6,hc3,hb15]) ?_
  try simp only[go_sem,zav (e:=zai) (ev:=(D.int .i64)) zah,zaw (e:=zai) (ev:=(D.int .i64)) zah,zar (e:=zai) (ev:=(D.int .i64)) zah,zax (e:=zai) (ev:=(D.int .i64)) zah,zay (e:=zai) (ev:=(D.int .i64)),zac hy6,zaj hy6,zad zbm hy6]
  refine zaV (fun hc11=> ?_) (fun hc12=> ?_)
  ·rw[if_pos (show(!(bif (!r9)then true else(decide (4096<(y5.value.length:Int)))))=true by(rw[hc11];rfl))]at h
   try simp only[go_sem,zav (e:=zai) (ev:=(D.int .i64)) zah,zaw (e:=zai) (ev:=(D.int .i64)) zah,zar (e:=zai) (ev:=(D.int .i64)) zah,zax (e:=zai) (ev:=(D.int .i64)) zah,zay (e:=zai) (ev:=(D.int .i64)),zac hy6,zaj hy6,zad zbm hy6,hc11]
   refine zal (fun hc13=> ?_) (fun hc14=> ?_)
   ·rw[if_pos hc13]at h
    try simp only[go_sem,zav (e:=zai) (ev:=(D.int .i64)) zah,zaw (e:=zai) (ev:=(D.int .i64)) zah,zar (e:=zai) (ev:=(D.int .i64)) zah,zax (e:=zai) (ev:=(D.int .i64)) zah,zay (e:=zai) (ev:=(D.int .i64)),zac hy6,zaj hy6,zad zbm hy6]
    cases h
    exact⟨rfl,by simp,Up.of (N:=9) (N':=36) [] rfl rfl (by decide) (.set (.d _) zak.none) zag.at⟩
   rw[if_neg (ff hc14)]at h
   try simp only[go_sem,zav (e:=zai) (ev:=(D.int .i64)) zah,zaw (e:=zai) (ev:=(D.int .i64)) zah,zar (e:=zai) (ev:=(D.int .i64)) zah,zax (e:=zai) (ev:=(D.int .i64)) zah,zay (e:=zai) (ev:=(D.int .i64)),zac hy6,zaj hy6,zad zbm hy6]
   cases h
   exact⟨rfl,Up.of (N:=9) (N':=44) [] rfl rfl (by decide) (.set (.d _) (.set (.d _) (.set (.d _) (.set (.map' rfl) zak.none)))) (.set zaq.map_d zag.at)⟩
  rw[if_neg (ffn hc12)]at h
  try simp only[go_sem,zav (e:=zai) (ev:=(D.int .i64)) zah,zaw (e:=zai) (ev:=(D.int .i64)) zah,zar (e:=zai) (ev:=(D.int .i64)) zah,zax (e:=zai) (ev:=(D.int .i64)) zah,zay (e:=zai) (ev:=(D.int .i64)),zac hy6,zaj hy6,zad zbm hy6,hc12]
  cases h
  exact⟨rfl,by simp,Up.of (N:=9) (N':=36) [] rfl rfl (by decide) (.set (.d _) zak.none) zag.at⟩
 rw[if_neg (ff hc4)]at h
 try simp only[go_sem,zav (e:=zai) (ev:=(D.int .i64)) zah,zaw (e:=zai) (ev:=(D.int .i64)) zah,zar (e:=zai) (ev:=(D.int .i64)) zah,zax (e:=zai) (ev:=(D.int .i64)) zah,zay (e:=zai) (ev:=(D.int .i64))]
 cases h
 exact⟨rfl,by simp,Up.of (N:=9) (N':=10) [] rfl rfl (by decide) zak.none zag.at⟩
noncomputable def zKQ (a0:Sl (Attr)):Option (Bool):=
 if(decide (64<(a0.l.length:Int)))=true then
  some false
 else
  (zaU (zdC a0) ([],0)).bind fun r19=>
  match r19 with
  |(.inl q21)=>
   some true
  |(.inr q22)=>
   some false
theorem zKR (a0:Sl (Attr)) (r:Bool) (h:zKQ a0=some r):pc prog 185 [.list a0.n (a0.l.map zbm)]=some (D.bool r):=by
 unfold zKQ at h
 refine zbD (fn:=zJD) rfl rfl ?_
 delta zJD
 try simp only[go_sem]
 refine zal (fun hc1=> ?_) (fun hc2=> ?_)
 ·rw[if_pos hc1]at h
  try simp only[go_sem]
  cases h
  rfl
 rw[if_neg (ff hc2)]at h
 try simp only[go_sem]
 obtain⟨r19,hl20,h⟩:=bs h
 refine Wp.loopR zbd (n:=(0,[])) (a:=zre) rfl (zfs a0) (ziC a0) (zxP a0) hl20 ?_ (by(repeat(first|refine Clo.block ?_|refine Clo.seq zbd rfl ?_));(exact Clo.ret)) ?_
 ·show Up (0,[]) (zfs a0 ([],0)) _
  delta zfs
  exact Up.of (N:=9) (N':=9) [] rfl rfl (by decide) (.set (.d _) (.set (.d _) (.set (.d _) (.set (.map' rfl) zak.none)))) (.set zaq.map_d zag.at)
 rcases r19 with(q21|q22)
 ·dsimp only at h
  dsimp only[ziC]
  try simp only[go_sem]
  cases h
  rfl
 dsimp only at h
 dsimp only[ziC]
 try simp only[go_sem]
 cases h
 rfl
def zft (a0:Sl (List UInt8)) (x0:Int):St:=⟨(((Regs.none.set 5 (.d (.list a0.n (a0.l.map D.str)))).set 6 (.d (.int .i64 (a0.l.length:Int)))).set 7 (.d (.int .i64 x0))),(Heap.at 4)⟩
def ziD (a0:Sl (List UInt8)):((Unit)⊕(Unit))→Ex×St:=fun r=>match r with
 |(.inl r)=>(.exit 0,⟨Regs.none,(Heap.at 4)⟩)
 |(.inr r)=>(.ret,⟨(Regs.none.set 2 (.d (.bool false))),(Heap.at 4)⟩)
noncomputable def zdD (a0:Sl (List UInt8)) (x0:Int):Option ((Int)⊕((Unit)⊕(Unit))):=
 if(decide (x0<(a0.l.length:Int)))=true then
  (rd a0.l x0).bind fun y3=>
  if(decide (1024<(y3.length:Int)))=true then
   some (.inr (.inr ()))
  else
   some (.inl (IntKind.wrap .i64 (x0+1)))
 else
  some (.inr (.inl ()))
theorem zxQ (a0:Sl (List UInt8)) (x0:Int) (o:(Int)⊕((Unit)⊕(Unit))) (h:zdD a0 x0=some o):Wp prog zrf (zft a0 x0) (zcg (0,[]) (zft a0) (ziD a0) o):=by
 unfold zdD at h
 delta zrf zft
 try simp only[go_sem]
 refine zal (fun hc1=> ?_) (fun hc2=> ?_)
 ·rw[if_pos hc1]at h
  try simp only[go_sem]
  obtain⟨y3,hy4,h⟩:=bs h
  try simp only[go_sem,zac hy4,zaj hy4,zad D.str hy4]
  refine zal (fun hc5=> ?_) (fun hc6=> ?_)
  ·rw[if_pos hc5]at h
   try simp only[go_sem,zac hy4,zaj hy4,zad D.str hy4]
   cases h
   exact⟨rfl,by simp,Up.of (N:=4) (N':=12) [] rfl rfl (by decide) (.set (.d _) zak.none) zag.at⟩
  rw[if_neg (ff hc6)]at h
  try simp only[go_sem,zac hy4,zaj hy4,zad D.str hy4]
  cases h
  exact⟨rfl,Up.of (N:=4) (N':=13) [] rfl rfl (by decide) (.set (.d _) (.set (.d _) (.set (.d _) zak.none))) zag.at⟩
 rw[if_neg (ff hc2)]at h
 try simp only[go_sem]
 cases h
 exact⟨rfl,by simp,Up.of (N:=4) (N':=5) [] rfl rfl (by decide) zak.none zag.at⟩
noncomputable def zKS (a0:Sl (List UInt8)):Option (Bool):=
 (zaU (zdD a0) 0).bind fun r7=>
 match r7 with
 |(.inl q9)=>
  some true
 |(.inr q10)=>
  some false
theorem zKT (a0:Sl (List UInt8)) (r:Bool) (h:zKS a0=some r):pc prog 186 [.list a0.n (a0.l.map D.str)]=some (D.bool r):=by
 unfold zKS at h
 refine zbD (fn:=zJE) rfl rfl ?_
 delta zJE
 try simp only[go_sem]
 obtain⟨r7,hl8,h⟩:=bs h
 refine Wp.loopR zbd (n:=(0,[])) (a:=zrf) rfl (zft a0) (ziD a0) (zxQ a0) hl8 ?_ (by(repeat(first|refine Clo.block ?_|refine Clo.seq zbd rfl ?_));(exact Clo.ret)) ?_
 ·show Up (0,[]) (zft a0 0) _
  delta zft
  exact Up.of (N:=4) (N':=4) [] rfl rfl (by decide) (.set (.d _) (.set (.d _) (.set (.d _) zak.none))) zag.at
 rcases r7 with(q9|q10)
 ·dsimp only at h
  dsimp only[ziD]
  try simp only[go_sem]
  cases h
  rfl
 dsimp only at h
 dsimp only[ziD]
 try simp only[go_sem]
 cases h
 rfl
noncomputable def zKU (a0:Forest) (a1:Int):Option (Node×Bool):=
 if(bif (decide (a1<1))then true else(decide ((a0.nodes.l.length:Int)<a1)))=true then
  some ((⟨0,⟨[],[],[]⟩,[],[],⟨true,[]⟩,⟨true,[]⟩,0,⟨true,[]⟩,0,0,0,0,false,false⟩:Node),false)
 else
  (rd a0.nodes.l (IntKind.wrap .i64 (a1-1))).bind fun y3=>
  some (y3,true)
theorem zKV (a0:Forest) (a1:Int) (r:Node×Bool) (h:zKU a0 a1=some r):pc prog 187 [zae a0,.int .i64 a1]=some ((eT2 zam D.bool) r):=by
 unfold zKU at h
 refine zbD (fn:=zJF) rfl rfl ?_
 delta zJF
 try simp only[go_sem]
 refine zaa (v:= .d (.int .i64 a1)) (fun hb9=>by simp only[go_sem,hb9]) ?_
 try simp only[go_sem]
 refine zaa (v:= .ptr 0 0 0) (fun hb8=>by simp only[go_sem,hb8]) ?_
 try simp only[go_sem]
 refine zaa (v:= .d (.list a0.nodes.n (a0.nodes.l.map zam))) (fun hb7=>by simp only[go_sem,hb7]) ?_
 try simp only[go_sem]
 refine zaa (v:= .d (.int .i64 (a0.nodes.l.length:Int))) (fun hb6=>by simp only[go_sem,hb6]) ?_
 try simp only[go_sem]
 refine zaa (v:= .d (.bool (decide ((a0.nodes.l.length:Int)<a1)))) (fun hb5=>by simp only[go_sem,hb5]) ?_
 try simp only[go_sem]
 refine zal (fun hc1=> ?_) (fun hc2=> ?_)
 ·rw[if_pos hc1]at h
  try simp only[go_sem]
  cases h
  rfl
 rw[if_neg (ff hc2)]at h
 try simp only[go_sem]
 obtain⟨y3,hy4,h⟩:=bs h
 try simp only[go_sem,zac hy4,zaj hy4,zad zam hy4]
 cases h
 rfl
def zfu (a0:Sl (Int)) (a1:Int) (x0:Int×Int):St:=⟨(((((Regs.none.set 1 (.d (.int .i64 a1))).set 5 (.d (.int .i64 x0.2))).set 8 (.d (.list a0.n (a0.l.map (D.int .i64))))).set 9 (.d (.int .i64 (a0.l.length:Int)))).set 10 (.d (.int .i64 x0.1))),(Heap.at 5)⟩
def zlO (a0:Sl (Int)) (a1:Int):((Int))→Ex×St:=fun r=>(.exit 0,⟨(Regs.none.set 5 (.d (.int .i64 r))),(Heap.at 5)⟩)
noncomputable def zdE (a0:Sl (Int)) (a1:Int) (x0:Int×Int):Option ((Int×Int)⊕((Int))):=
 if(decide (x0.1<(a0.l.length:Int)))=true then
  (rd a0.l x0.1).bind fun y3=>
  if(y3==a1)=true then
   some (.inl ((IntKind.wrap .i64 (x0.1+1)),(IntKind.wrap .i64 (x0.2+1))))
  else
   some (.inl ((IntKind.wrap .i64 (x0.1+1)),x0.2))
 else
  some (.inr x0.2)
theorem zxR (a0:Sl (Int)) (a1:Int) (x0:Int×Int) (o:(Int×Int)⊕((Int))) (h:zdE a0 a1 x0=some o):Wp prog zrg (zfu a0 a1 x0) (zcg (0,[]) (zfu a0 a1) (zlO a0 a1) o):=by
 unfold zdE at h
 delta zrg zfu
 try simp only[go_sem]
 refine zal (fun hc1=> ?_) (fun hc2=> ?_)
 ·rw[if_pos hc1]at h
  try simp only[go_sem]
  obtain⟨y3,hy4,h⟩:=bs h
  try simp only[go_sem,zac hy4,zaj hy4,zad (D.int .i64) hy4]
  refine zal (fun hc5=> ?_) (fun hc6=> ?_)
  ·rw[if_pos hc5]at h
   try simp only[go_sem,zac hy4,zaj hy4,zad (D.int .i64) hy4]
   cases h
   exact⟨rfl,Up.of (N:=5) (N':=17) [] rfl rfl (by decide) (.set (.d _) (.set (.d _) (.set (.d _) (.set (.d _) (.set (.d _) zak.none))))) zag.at⟩
  rw[if_neg (ff hc6)]at h
  try simp only[go_sem,zac hy4,zaj hy4,zad (D.int .i64) hy4]
  cases h
  exact⟨rfl,Up.of (N:=5) (N':=14) [] rfl rfl (by decide) (.set (.d _) (.set (.d _) (.set (.d _) (.set (.d _) (.set (.d _) zak.none))))) zag.at⟩
 rw[if_neg (ff hc2)]at h
 try simp only[go_sem]
 cases h
 exact⟨rfl,by simp,Up.of (N:=5) (N':=6) [] rfl rfl (by decide) (.set (.d _) zak.none) zag.at⟩
noncomputable def zKW (a0:Sl (Int)) (a1:Int):Option (Bool):=
 (zaU (zdE a0 a1) (0,0)).bind fun r7=>
 some (r7==1)
theorem zKX (a0:Sl (Int)) (a1:Int) (r:Bool) (h:zKW a0 a1=some r):pc prog 188 [.list a0.n (a0.l.map (D.int .i64)),.int .i64 a1]=some (D.bool r):=by
 unfold zKW at h
 refine zbD (fn:=zJG) rfl rfl ?_
 delta zJG
 try simp only[go_sem]
 obtain⟨r7,hl8,h⟩:=bs h
 refine Wp.loopR zbd (n:=(0,[])) (a:=zrg) rfl (zfu a0 a1) (zlO a0 a1) (zxR a0 a1) hl8 ?_ (by(repeat(first|refine Clo.block ?_|refine Clo.seq zbd rfl ?_));(exact Clo.ret)) ?_
 ·show Up (0,[]) (zfu a0 a1 (0,0)) _
  delta zfu
  exact Up.of (N:=5) (N':=5) [] rfl rfl (by decide) (.set (.d _) (.set (.d _) (.set (.d _) (.set (.d _) (.set (.d _) zak.none))))) zag.at
 dsimp only[zlO]
 try simp only[go_sem]
 cases h
 rfl
noncomputable def zKY (a0:Forest) (a1:Int):Option (Int):=
 (dec (eT2 zam D.bool) (pc prog 187 [zae a0,.int .i64 a1])).bind fun r1=>
 some r1.1.kind
theorem zKZ (a0:Forest) (a1:Int) (r:Int) (h:zKY a0 a1=some r):pc prog 189 [zae a0,.int .i64 a1]=some ((D.int .u8) r):=by
 unfold zKY at h
 refine zbD (fn:=zJH) rfl rfl ?_
 delta zJH
 try simp only[go_sem]
 obtain⟨r1,hr2,h⟩:=bs h
 replace hr2:=zao hr2
 refine zat hr2 ?_
 try simp only[go_sem]
 cases h
 rfl
def zfv (a0:Forest) (a1:Int) (a2:Node) (x0:List (Int×Int)×Int):St:=⟨(((((((Regs.none.set 1 (.d (.int .i64 a1))).set 3 (.ptr 0 0 0)).set 5 (.ptr 1 0 0)).set 7 (.map 3)).set 14 (.d (.list a2.kids.n (a2.kids.l.map (D.int .i64))))).set 15 (.d (.int .i64 (a2.kids.l.length:Int)))).set 16 (.d (.int .i64 x0.2))),((((Heap.at 9).set 0 (some (.els 1 [.d (zae a0)] 0))).set 1 (some (.els 16 [.d (zam a2)] 0))).set 3 (some (.map (ents (D.int .i64) (fun z=>V.d ((D.int .i64) z)) x0.1 0) x0.1.length)))⟩
def ziE (a0:Forest) (a1:Int) (a2:Node):((Unit)⊕(Unit))→Ex×St:=fun r=>match r with
 |(.inl r)=>(.exit 0,⟨((Regs.none.set 3 (.ptr 0 0 0)).set 5 (.ptr 1 0 0)),(((Heap.at 9).set 0 (some (.els 1 [.d (zae a0)] 0))).set 1 (some (.els 16 [.d (zam a2)] 0)))⟩)
 |(.inr r)=>(.ret,⟨(Regs.none.set 6 (.d (.bool false))),(Heap.at 9)⟩)
noncomputable def zdF (a0:Forest) (a1:Int) (a2:Node) (x0:List (Int×Int)×Int):Option ((List (Int×Int)×Int)⊕((Unit)⊕(Unit))):=
 if(decide (x0.2<(a2.kids.l.length:Int)))=true then
  (rd a2.kids.l x0.2).bind fun y3=>
  (dec (eT2 zam D.bool) (pc prog 187 [zae a0,.int .i64 y3])).bind fun r5=>
  if r5.2=true then
   if(bif (bif (decide (0<(zhb y3 x0.1 (0))))then true else(!(r5.1.parent==a1)))then true else(!(r5.1.doc==a2.doc)))=true then
    some (.inr (.inr ()))
   else
    some (.inl ((zeT y3 (IntKind.wrap .i64 ((zhb y3 x0.1 (0))+1)) x0.1),(IntKind.wrap .i64 (x0.2+1))))
  else
   some (.inr (.inr ()))
 else
  some (.inr (.inl ()))
theorem zxS (a0:Forest) (a1:Int) (a2:Node) (x0:List (Int×Int)×Int) (o:(List (Int×Int)×Int)⊕((Unit)⊕(Unit))) (h:zdF a0 a1 a2 x0=some o):Wp prog zrh (zfv a0 a1 a2 x0) (zcg (0,[]) (zfv a0 a1 a2) (ziE a0 a1 a2) o):=by
 unfold zdF at h
 delta zrh zfv
 try simp only[go_sem]
 refine zal (fun hc1=> ?_) (fun hc2=> ?_)
 ·rw[if_pos hc1]at h
  try simp only[go_sem,zav (e:=(D.int .i64)) (ev:=(D.int .i64)) zab,zaw (e:=(D.int .i64)) (ev:=(D.int .i64)) zab,zar (e:=(D.int .i64)) (ev:=(D.int .i64)) zab,zax (e:=(D.int .i64)) (ev:=(D.int .i64)) zab,zay (e:=(D.int .i64)) (ev:=(D.int .i64))]
  obtain⟨y3,hy4,h⟩:=bs h
  try simp only[go_sem,zav (e:=(D.int .i64)) (ev:=(D.int .i64)) zab,zaw (e:=(D.int .i64)) (ev:=(D.int .i64)) zab,zar (e:=(D.int .i64)) (ev:=(D.int .i64)) zab,zax (e:=(D.int .i64)) (ev:=(D.int .i64)) zab,zay (e:=(D.int .i64)) (ev:=(D.int .i64)),zac hy4,zaj hy4,zad (D.int .i64) hy4]
  obtain⟨r5,hr6,h⟩:=bs h
  replace hr6:=zao hr6
  refine zat hr6 ?_
  try simp only[go_sem,zav (e:=(D.int .i64)) (ev:=(D.int .i64)) zab,zaw (e:=(D.int .i64)) (ev:=(D.int .i64)) zab,zar (e:=(D.int .i64)) (ev:=(D.int .i64)) zab,zax (e:=(D.int .i64)) (ev:=(D.int .i64)) zab,zay (e:=(D.int .i64)) (ev:=(D.int .i64)),zac hy4,zaj hy4,zad (D.int .i64) hy4]
  refine zaG (fun hc7=> ?_) (fun hc8=> ?_)
  ·rw[if_pos hc7]at h
   try simp only[go_sem,zav (e:=(D.int .i64)) (ev:=(D.int .i64)) zab,zaw (e:=(D.int .i64)) (ev:=(D.int .i64)) zab,zar (e:=(D.int .i64)) (ev:=(D.int .i64)) zab,zax (e:=(D.int .i64)) (ev:=(D.int .i64)) zab,zay (e:=(D.int .i64)) (ev:=(D.int .i64)),zac hy4,zaj hy4,zad (D.int .i64) hy4,hc7]
   refine zaa (v:= .ptr 19 0 8) (fun hb19=>by simp only[go_sem,zav (e:=(D.int .i64)) (ev:=(D.int .i64)) zab,zaw (e:=(D.int .i64)) (ev:=(D.int .i64)) zab,zar (e:=(D.int .i64)) (ev:=(D.int .i64)) zab,zax (e:=(D.int .i64)) (ev:=(D.int .i64)) zab,zay (e:=(D.int .i64)) (ev:=(D.int .i64)),zac hy4,zaj hy4,zad (D.int .i64) hy4,hc1,hc7,hb19]) ?_
   try simp only[go_sem,zav (e:=(D.int .i64)) (ev:=(D.int .i64)) zab,zaw (e:=(D.int .i64)) (ev:=(D.int .i64)) zab,zar (e:=(D.int .i64)) (ev:=(D.int .i64)) zab,zax (e:=(D.int .i64)) (ev:=(D.int .i64)) zab,zay (e:=(D.int .i64)) (ev:=(D.int .i64)),zac hy4,zaj hy4,zad (D.int .i64) hy4]
   refine zaa (v:= .d (.int .i64 r5.1.parent)) (fun hb18=>by simp only[go_sem,zav (e:=(D.int .i64)) (ev:=(D.int .i64)) zab,zaw (e:=(D.int .i64)) (ev:=(D.int .i64)) zab,zar (e:=(D.int .i64)) (ev:=(D.int .i64)) zab,zax (e:=(D.int .i64)) (ev:=(D.int .i64)) zab,zay (e:=(D.int .i64)) (ev:=(D.int .i64)),zac hy4,zaj hy4,zad (D.int .i64) hy4,hc1,hc7,hb18]) ?_
   try simp only[go_sem,zav (e:=(D.int .i64)) (ev:=(D.int .i64)) zab,zaw (e:=(D.int .i64)) (ev:=(D.int .i64)) zab,zar (e:=(D.int .i64)) (ev:=(D.int .i64)) zab,zax (e:=(D.int .i64)) (ev:=(D.int .i64)) zab,zay (e:=(D.int .i64)) (ev:=(D.int .i64)),zac hy4,zaj hy4,zad (D.int .i64) hy4]
   refine zaa (v:= .d (.int .i64 a1)) (fun hb17=>by simp only[go_sem,zav (e:=(D.int .i64)) (ev:=(D.int .i64)) zab,zaw (e:=(D.int .i64)) (ev:=(D.int .i64)) zab,zar (e:=(D.int .i64)) (ev:=(D.int .i64)) zab,zax (e:=(D.int .i64)) (ev:=(D.int .i64)) zab,zay (e:=(D.int .i64)) (ev:=(D.int .i64)),zac hy4,zaj hy4,zad (D.int .i64) hy4,hc1,hc7,hb17]) ?_
   try simp only[go_sem,zav (e:=(D.int .i64)) (ev:=(D.int .i64)) zab,zaw (e:=(D.int .i64)) (ev:=(D.int .i64)) zab,zar (e:=(D.int .i64)) (ev:=(D.int .i64)) zab,zax (e:=(D.int .i64)) (ev:=(D.int .i64)) zab,zay (e:=(D.int .i64)) (ev:=(D.int .i64)),zac hy4,zaj hy4,zad (D.int .i64) hy4]
   refine zaa (v:= .d (.bool (!(r5.1.parent==a1)))) (fun hb16=>by simp only[go_sem,zav (e:=(D.int .i64)) (ev:=(D.int .i64)) zab,zaw (e:=(D.int .i64)) (ev:=(D.int .i64)) zab,zar (e:=(D.int .i64)) (ev:=(D.int .i64)) zab,zax (e:=(D.int .i64)) (ev:=(D.int .i64)) zab,zay (e:=(D.int .i64)) (ev:=(D.int .i64)),zac hy4,zaj hy4,zad (D.int .i64) hy4,hc1,hc7,hb16]) ?_
   try simp only[go_sem,zav (e:=(D.int .i64)) (ev:=(D.int .i64)) zab,zaw (e:=(D.int .i64)) (ev:=(D.int .i64)) zab,zar (e:=(D.int .i64)) (ev:=(D.int .i64)) zab,zax (e:=(D.int .i64)) (ev:=(D.int .i64)) zab,zay (e:=(D.int .i64)) (ev:=(D.int .i64)),zac hy4,zaj hy4,zad (D.int .i64) hy4]
   refine zaa (v:= .ptr 19 0 10) (fun hb15=>by simp only[go_sem,zav (e:=(D.int .i64)) (ev:=(D.int .i64)) zab,zaw (e:=(D.int .i64)) (ev:=(D.int .i64)) zab,zar (e:=(D.int .i64)) (ev:=(D.int .i64)) zab,zax (e:=(D.int .i64)) (ev:=(D.int .i64)) zab,zay (e:=(D.int .i64)) (ev:=(D.int .i64)),zac hy4,zaj hy4,zad (D.int .i64) hy4,hc1,hc7,hb15]) ?_
   try simp only[go_sem,zav (e:=(D.int .i64)) (ev:=(D.int .i64)) zab,zaw (e:=(D.int .i64)) (ev:=(D.int .i64)) zab,zar (e:=(D.int .i64)) (ev:=(D.int .i64)) zab,zax (e:=(D.int .i64)) (ev:=(D.int .i64)) zab,zay (e:=(D.int .i64)) (ev:=(D.int .i64)),zac hy4,zaj hy4,zad (D.int .i64) hy4]
   refine zaa (v:= .d (.int .i64 r5.1.doc)) (fun hb14=>by simp only[go_sem,zav (e:=(D.int .i64)) (ev:=(D.int .i64)) zab,zaw (e:=(D.int .i64)) (ev:=(D.int .i64)) zab,zar (e:=(D.int .i64)) (ev:=(D.int .i64)) zab,zax (e:=(D.int .i64)) (ev:=(D.int .i64)) zab,zay (e:=(D.int .i64)) (ev:=(D.int .i64)),zac hy4,zaj hy4,zad (D.int .i64) hy4,hc1,hc7,hb14]) ?_
   try simp only[go_sem,zav (e:=(D.int .i64)) (ev:=(D.int .i64)) zab,zaw (e:=(D.int .i64)) (ev:=(D.int .i64)) zab,zar (e:=(D.int .i64)) (ev:=(D.int .i64)) zab,zax (e:=(D.int .i64)) (ev:=(D.int .i64)) zab,zay (e:=(D.int .i64)) (ev:=(D.int .i64)),zac hy4,zaj hy4,zad (D.int .i64) hy4]
   refine zaa (v:= .ptr 1 0 10) (fun hb13=>by simp only[go_sem,zav (e:=(D.int .i64)) (ev:=(D.int .i64)) zab,zaw (e:=(D.int .i64)) (ev:=(D.int .i64)) zab,zar (e:=(D.int .i64)) (ev:=(D.int .i64)) zab,zax (e:=(D.int .i64)) (ev:=(D.int .i64)) zab,zay (e:=(D.int .i64)) (ev:=(D.int .i64)),zac hy4,zaj hy4,zad (D.int .i64) hy4,hc1,hc7,hb13]) ?_
   try simp only[go_sem,zav (e:=(D.int .i64)) (ev:=(D.int .i64)) zab,zaw (e:=(D.int .i64)) (ev:=(D.int .i64)) zab,zar (e:=(D.int .i64)) (ev:=(D.int .i64)) zab,zax (e:=(D.int .i64)) (ev:=(D.int .i64)) zab,zay (e:=(D.int .i64)) (ev:=(D.int .i64)),zac hy4,zaj hy4,zad (D.int .i64) hy4]
   refine zaa (v:= .d (.int .i64 a2.doc)) (fun hb12=>by simp only[go_sem,zav (e:=(D.int .i64)) (ev:=(D.int .i64)) zab,zaw (e:=(D.int .i64)) (ev:=(D.int .i64)) zab,zar (e:=(D.int .i64)) (ev:=(D.int .i64)) zab,zax (e:=(D.int .i64)) (ev:=(D.int .i64)) zab,zay (e:=(D.int .i64)) (ev:=(D.int .i64)),zac hy4,zaj hy4,zad (D.int .i64) hy4,hc1,hc7,hb12]) ?_
   try simp only[go_sem,zav (e:=(D.int .i64)) (ev:=(D.int .i64)) zab,zaw (e:=(D.int .i64)) (ev:=(D.int .i64)) zab,zar (e:=(D.int .i64)) (ev:=(D.int .i64)) zab,zax (e:=(D.int .i64)) (ev:=(D.int .i64)) zab,zay (e:=(D.int .i64)) (ev:=(D.int .i64)),zac hy4,zaj hy4,zad (D.int .i64) hy4]
   refine zaa (v:= .d (.bool (!(r5.1.doc==a2.doc)))) (fun hb11=>by simp only[go_sem,zav (e:=(D.int .i64)) (ev:=(D.int .i64)) zab,zaw (e:=(D.int .i64)) (ev:=(D.int .i64)) zab,zar (e:=(D.int .i64)) (ev:=(D.int .i64)) zab,zax (e:=(D.int .i64)) (ev:=(D.int .i64)) zab,zay (e:=(D.int .i64)) (ev:=(D.int .i64)),zac hy4,zaj hy4,zad (D.int .i64) hy4,hc1,hc7,hb11]) ?_
   try simp only[go_sem,zav (e:=(D.int .i64)) (ev:=(D.int .i64)) zab,zaw (e:=(D.int .i64)) (ev:=(D.int .i64)) zab,zar (e:=(D.int .i64)) (ev:=(D.int .i64)) zab,zax (e:=(D.int .i64)) (ev:=(D.int .i64)) zab,zay (e:=(D.int .i64)) (ev:=(D.int .i64)),zac hy4,zaj hy4,zad (D.int .i64) hy4]
   refine zal (fun hc9=> ?_) (fun hc10=> ?_)
   ·rw[if_pos hc9]at h
    try simp only[go_sem,zav (e:=(D.int .i64)) (ev:=(D.int .i64)) zab,zaw (e:=(D.int .i64)) (ev:=(D.int .i64)) zab,zar (e:=(D.int .i64)) (ev:=(D.int .i64)) zab,zax (e:=(D.int .i64)) (ev:=(D.int .i64)) zab,zay (e:=(D.int .i64)) (ev:=(D.int .i64)),zac hy4,zaj hy4,zad (D.int .i64) hy4]
    cases h
    exact⟨rfl,by simp,Up.of (N:=9) (N':=44) [] rfl rfl (by decide) (.set (.d _) zak.none) zag.at⟩
   rw[if_neg (ff hc10)]at h
   try simp only[go_sem,zav (e:=(D.int .i64)) (ev:=(D.int .i64)) zab,zaw (e:=(D.int .i64)) (ev:=(D.int .i64)) zab,zar (e:=(D.int .i64)) (ev:=(D.int .i64)) zab,zax (e:=(D.int .i64)) (ev:=(D.int .i64)) zab,zay (e:=(D.int .i64)) (ev:=(D.int .i64)),zac hy4,zaj hy4,zad (D.int .i64) hy4]
   cases h
   exact⟨rfl,Up.of (N:=9) (N':=50) [] rfl rfl (by decide) (.set (.d _) (.set (.d _) (.set (.d _) (.set (.map' rfl) (.set (.ptr' rfl) (.set (.ptr' rfl) (.set (.d _) zak.none))))))) (.set zaq.map_d (.set zaq.refl_d (.set zaq.refl_d zag.at)))⟩
  rw[if_neg (ff hc8)]at h
  try simp only[go_sem,zav (e:=(D.int .i64)) (ev:=(D.int .i64)) zab,zaw (e:=(D.int .i64)) (ev:=(D.int .i64)) zab,zar (e:=(D.int .i64)) (ev:=(D.int .i64)) zab,zax (e:=(D.int .i64)) (ev:=(D.int .i64)) zab,zay (e:=(D.int .i64)) (ev:=(D.int .i64)),zac hy4,zaj hy4,zad (D.int .i64) hy4,hc8]
  cases h
  exact⟨rfl,by simp,Up.of (N:=9) (N':=44) [] rfl rfl (by decide) (.set (.d _) zak.none) zag.at⟩
 rw[if_neg (ff hc2)]at h
 try simp only[go_sem,zav (e:=(D.int .i64)) (ev:=(D.int .i64)) zab,zaw (e:=(D.int .i64)) (ev:=(D.int .i64)) zab,zar (e:=(D.int .i64)) (ev:=(D.int .i64)) zab,zax (e:=(D.int .i64)) (ev:=(D.int .i64)) zab,zay (e:=(D.int .i64)) (ev:=(D.int .i64))]
 cases h
 exact⟨rfl,by simp,Up.of (N:=9) (N':=10) [] rfl rfl (by decide) (.set (.ptr' rfl) (.set (.ptr' rfl) zak.none)) (.set zaq.refl_d (.set zaq.refl_d zag.at))⟩
noncomputable def zLa (a0:Forest) (a1:Int) (a2:Node):Option (Bool):=
 (zaU (zdF a0 a1 a2) ([],0)).bind fun r20=>
 match r20 with
 |(.inl q22)=>
  (dec D.bool (pc prog 205 [zae a0,zam a2])).bind fun r23=>
  some r23
 |(.inr q25)=>
  some false
theorem zLb (a0:Forest) (a1:Int) (a2:Node) (r:Bool) (h:zLa a0 a1 a2=some r):pc prog 190 [zae a0,.int .i64 a1,zam a2]=some (D.bool r):=by
 unfold zLa at h
 refine zbD (fn:=zJI) rfl rfl ?_
 delta zJI
 try simp only[go_sem]
 obtain⟨r20,hl21,h⟩:=bs h
 refine Wp.loopR zbd (n:=(0,[])) (a:=zrh) rfl (zfv a0 a1 a2) (ziE a0 a1 a2) (zxS a0 a1 a2) hl21 ?_ (by(repeat(first|refine Clo.block ?_|refine Clo.seq zbd rfl ?_));(exact Clo.ret)) ?_
 ·show Up (0,[]) (zfv a0 a1 a2 ([],0)) _
  delta zfv
  exact Up.of (N:=9) (N':=9) [] rfl rfl (by decide) (.set (.d _) (.set (.d _) (.set (.d _) (.set (.map' rfl) (.set (.ptr' rfl) (.set (.ptr' rfl) (.set (.d _) zak.none))))))) (.set zaq.map_d (.set zaq.refl_d (.set zaq.refl_d zag.at)))
 rcases r20 with(q22|q25)
 ·dsimp only at h
  dsimp only[ziE]
  try simp only[go_sem]
  obtain⟨r23,hr24,h⟩:=bs h
  replace hr24:=zao hr24
  refine zat hr24 ?_
  try simp only[go_sem]
  cases h
  rfl
 dsimp only at h
 dsimp only[ziE]
 try simp only[go_sem]
 cases h
 rfl
noncomputable def zLc (a0:Name):Option (Bool):=
 if(!(a0.local_==[]))=true then
  (dec D.bool (pc prog 186 [.list false (([a0.space,a0.prefix_,a0.local_]).map D.str)])).bind fun r3=>
  if r3=true then
   some (bif (a0.prefix_==[])then true else(!(a0.space==[])))
  else
   some false
 else
  some false
theorem zLd (a0:Name) (r:Bool) (h:zLc a0=some r):pc prog 203 [zdf a0]=some (D.bool r):=by
 unfold zLc at h
 refine zbD (fn:=zJJ) rfl rfl ?_
 delta zJJ
 try simp only[go_sem]
 refine zaa (v:= .ptr 0 0 0) (fun hb25=>by simp only[go_sem,hb25]) ?_
 try simp only[go_sem]
 refine zaa (v:= .d (.str a0.space)) (fun hb24=>by simp only[go_sem,hb24]) ?_
 try simp only[go_sem]
 refine zaa (v:= .ptr 0 0 1) (fun hb23=>by simp only[go_sem,hb23]) ?_
 try simp only[go_sem]
 refine zaa (v:= .d (.str a0.prefix_)) (fun hb22=>by simp only[go_sem,hb22]) ?_
 try simp only[go_sem]
 refine zaa (v:= .ptr 0 0 2) (fun hb21=>by simp only[go_sem,hb21]) ?_
 try simp only[go_sem]
 refine zaa (v:= .d (.str a0.local_)) (fun hb20=>by simp only[go_sem,hb20]) ?_
 try simp only[go_sem]
 refine zaV (fun hc1=> ?_) (fun hc2=> ?_)
 ·rw[if_pos (show(!(a0.local_==[]))=true by(rw[hc1];rfl))]at h
  try simp only[go_sem,hc1]
  obtain⟨r3,hr4,h⟩:=bs h
  replace hr4:=zao hr4
  refine zat hr4 ?_
  try simp only[go_sem]
  refine zaa (v:= .ptr 0 0 1) (fun hb19=>by simp only[go_sem,hc1,hb19]) ?_
  try simp only[go_sem]
  refine zaa (v:= .d (.str a0.prefix_)) (fun hb18=>by simp only[go_sem,hc1,hb18]) ?_
  try simp only[go_sem]
  refine zaa (v:= .d (.bool (a0.prefix_==[]))) (fun hb17=>by simp only[go_sem,hc1,hb17]) ?_
  try simp only[go_sem]
  refine zaa (v:= .d (.bool (a0.prefix_==[]))) (fun hb16=>by simp only[go_sem,hc1,hb16]) ?_
  try simp only[go_sem]
  refine zaa (v:= .ptr 0 0 0) (fun hb13=>by((obtain⟨hb14,hb15⟩:=zaL hb13));simp only[go_sem,hc1,hb15,hb14]) ?_
  try simp only[go_sem]
  refine zaa (v:= .d (.str a0.space)) (fun hb10=>by((obtain⟨hb11,hb12⟩:=zaL hb10));simp only[go_sem,hc1,hb12,hb11]) ?_
  try simp only[go_sem]
  refine zaa (v:= .d (.bool (!(a0.space==[])))) (fun hb7=>by((obtain⟨hb8,hb9⟩:=zaL hb7));simp only[go_sem,hc1,hb9,hb8]) ?_
  try simp only[go_sem]
  refine zaG (fun hc5=> ?_) (fun hc6=> ?_)
  ·rw[if_pos hc5]at h
   try simp only[go_sem,hc5]
   cases h
   rfl
  rw[if_neg (ff hc6)]at h
  try simp only[go_sem,hc6]
  cases h
  rfl
 rw[if_neg (ffn hc2)]at h
 try simp only[go_sem,hc2]
 cases h
 rfl
noncomputable def zMa (a0:Name):Option (forest_key):=
 some (⟨a0.space,a0.local_⟩:forest_key)
theorem zLe (a0:Name) (r:forest_key) (h:zMa a0=some r):pc prog 204 [zdf a0]=some (zai r):=by
 unfold zMa at h
 refine zbD (fn:=zJK) rfl rfl ?_
 delta zJK
 try simp only[go_sem]
 cases h
 rfl
def zfw (a0:Forest) (a1:Node) (x0:Int×Int×Int):St:=⟨(((((((Regs.none.set 2 (.ptr 0 0 0)).set 5 (.d (.bool (a1.kind==9)))).set 6 (.d (.int .i64 x0.2.1))).set 7 (.d (.int .i64 x0.2.2))).set 14 (.d (.list a1.kids.n (a1.kids.l.map (D.int .i64))))).set 15 (.d (.int .i64 (a1.kids.l.length:Int)))).set 16 (.d (.int .i64 x0.1))),((Heap.at 13).set 0 (some (.els 1 [.d (zae a0)] 0)))⟩
def ziF (a0:Forest) (a1:Node):((Int×Int)⊕(Unit))→Ex×St:=fun r=>match r with
 |(.inl r)=>(.exit 0,⟨(((Regs.none.set 5 (.d (.bool (a1.kind==9)))).set 6 (.d (.int .i64 r.1))).set 7 (.d (.int .i64 r.2))),(Heap.at 13)⟩)
 |(.inr r)=>(.ret,⟨(Regs.none.set 4 (.d (.bool false))),(Heap.at 13)⟩)
noncomputable def zdG (a0:Forest) (a1:Node) (x0:Int×Int×Int):Option ((Int×Int×Int)⊕((Int×Int)⊕(Unit))):=
 if(decide (x0.1<(a1.kids.l.length:Int)))=true then
  (rd a1.kids.l x0.1).bind fun y3=>
  (dec (D.int .u8) (pc prog 189 [zae a0,.int .i64 y3])).bind fun r5=>
  if(r5==1)=true then
   some (.inl ((IntKind.wrap .i64 (x0.1+1)),(IntKind.wrap .i64 (x0.2.1+1)),x0.2.2))
  else
   if(r5==10)=true then
    if(bif (!(a1.kind==9))then true else(decide (0<x0.2.1)))=true then
     some (.inr (.inr ()))
    else
     some (.inl ((IntKind.wrap .i64 (x0.1+1)),x0.2.1,(IntKind.wrap .i64 (x0.2.2+1))))
   else
    if(r5==3)=true then
     if(a1.kind==9)=true then
      some (.inr (.inr ()))
     else
      some (.inl ((IntKind.wrap .i64 (x0.1+1)),x0.2.1,x0.2.2))
    else
     if(r5==4)=true then
      if(a1.kind==9)=true then
       some (.inr (.inr ()))
      else
       some (.inl ((IntKind.wrap .i64 (x0.1+1)),x0.2.1,x0.2.2))
     else
      if(r5==8)=true then
       some (.inl ((IntKind.wrap .i64 (x0.1+1)),x0.2.1,x0.2.2))
      else
       if(r5==7)=true then
        some (.inl ((IntKind.wrap .i64 (x0.1+1)),x0.2.1,x0.2.2))
       else
        some (.inr (.inr ()))
 else
  some (.inr (.inl (x0.2.1,x0.2.2)))
theorem zxT (a0:Forest) (a1:Node) (x0:Int×Int×Int) (o:(Int×Int×Int)⊕((Int×Int)⊕(Unit))) (h:zdG a0 a1 x0=some o):Wp prog zri (zfw a0 a1 x0) (zcg (0,[]) (zfw a0 a1) (ziF a0 a1) o):=by
 unfold zdG at h
 delta zri zfw
 try simp only[go_sem]
 refine zal (fun hc1=> ?_) (fun hc2=> ?_)
 ·rw[if_pos hc1]at h
  try simp only[go_sem]
  obtain⟨y3,hy4,h⟩:=bs h
  try simp only[go_sem,zac hy4,zaj hy4,zad (D.int .i64) hy4]
  obtain⟨r5,hr6,h⟩:=bs h
  replace hr6:=zao hr6
  refine zat hr6 ?_
  try simp only[go_sem,zac hy4,zaj hy4,zad (D.int .i64) hy4]
  refine zal (fun hc7=> ?_) (fun hc8=> ?_)
  ·rw[if_pos hc7]at h
   try simp only[go_sem,zac hy4,zaj hy4,zad (D.int .i64) hy4]
   cases h
   exact⟨rfl,Up.of (N:=13) (N':=27) [] rfl rfl (by decide) (.set (.d _) (.set (.d _) (.set (.d _) (.set (.d _) (.set (.d _) (.set (.d _) (.set (.ptr' rfl) zak.none))))))) (.set zaq.refl_d zag.at)⟩
  rw[if_neg (ff hc8)]at h
  try simp only[go_sem,zac hy4,zaj hy4,zad (D.int .i64) hy4]
  refine zal (fun hc9=> ?_) (fun hc10=> ?_)
  ·rw[if_pos hc9]at h
   try simp only[go_sem,zac hy4,zaj hy4,zad (D.int .i64) hy4]
   refine zaa (v:= .d (.int .i64 x0.2.1)) (fun hb14=>by simp only[go_sem,zac hy4,zaj hy4,zad (D.int .i64) hy4,hc1,hc8,hc9,hb14]) ?_
   try simp only[go_sem,zac hy4,zaj hy4,zad (D.int .i64) hy4]
   refine zaa (v:= .d (.bool (decide (0<x0.2.1)))) (fun hb13=>by simp only[go_sem,zac hy4,zaj hy4,zad (D.int .i64) hy4,hc1,hc8,hc9,hb13]) ?_
   try simp only[go_sem,zac hy4,zaj hy4,zad (D.int .i64) hy4]
   refine zal (fun hc11=> ?_) (fun hc12=> ?_)
   ·rw[if_pos hc11]at h
    try simp only[go_sem,zac hy4,zaj hy4,zad (D.int .i64) hy4]
    cases h
    exact⟨rfl,by simp,Up.of (N:=13) (N':=31) [] rfl rfl (by decide) (.set (.d _) zak.none) zag.at⟩
   rw[if_neg (ff hc12)]at h
   try simp only[go_sem,zac hy4,zaj hy4,zad (D.int .i64) hy4]
   cases h
   exact⟨rfl,Up.of (N:=13) (N':=35) [] rfl rfl (by decide) (.set (.d _) (.set (.d _) (.set (.d _) (.set (.d _) (.set (.d _) (.set (.d _) (.set (.ptr' rfl) zak.none))))))) (.set zaq.refl_d zag.at)⟩
  rw[if_neg (ff hc10)]at h
  try simp only[go_sem,zac hy4,zaj hy4,zad (D.int .i64) hy4]
  refine zal (fun hc15=> ?_) (fun hc16=> ?_)
  ·rw[if_pos hc15]at h
   try simp only[go_sem,zac hy4,zaj hy4,zad (D.int .i64) hy4]
   try simp only[go_sem,zac hy4,zaj hy4,zad (D.int .i64) hy4,hc1,hc8,hc10,hc15]
   refine zal (fun hc17=> ?_) (fun hc18=> ?_)
   ·rw[if_pos hc17]at h
    try simp only[go_sem,zac hy4,zaj hy4,zad (D.int .i64) hy4]
    cases h
    exact⟨rfl,by simp,Up.of (N:=13) (N':=28) [] rfl rfl (by decide) (.set (.d _) zak.none) zag.at⟩
   rw[if_neg (ff hc18)]at h
   try simp only[go_sem,zac hy4,zaj hy4,zad (D.int .i64) hy4]
   cases h
   exact⟨rfl,Up.of (N:=13) (N':=29) [] rfl rfl (by decide) (.set (.d _) (.set (.d _) (.set (.d _) (.set (.d _) (.set (.d _) (.set (.d _) (.set (.ptr' rfl) zak.none))))))) (.set zaq.refl_d zag.at)⟩
  rw[if_neg (ff hc16)]at h
  try simp only[go_sem,zac hy4,zaj hy4,zad (D.int .i64) hy4]
  refine zal (fun hc19=> ?_) (fun hc20=> ?_)
  ·rw[if_pos hc19]at h
   try simp only[go_sem,zac hy4,zaj hy4,zad (D.int .i64) hy4]
   refine zal (fun hc21=> ?_) (fun hc22=> ?_)
   ·rw[if_pos hc21]at h
    try simp only[go_sem,zac hy4,zaj hy4,zad (D.int .i64) hy4]
    cases h
    exact⟨rfl,by simp,Up.of (N:=13) (N':=30) [] rfl rfl (by decide) (.set (.d _) zak.none) zag.at⟩
   rw[if_neg (ff hc22)]at h
   try simp only[go_sem,zac hy4,zaj hy4,zad (D.int .i64) hy4]
   cases h
   exact⟨rfl,Up.of (N:=13) (N':=31) [] rfl rfl (by decide) (.set (.d _) (.set (.d _) (.set (.d _) (.set (.d _) (.set (.d _) (.set (.d _) (.set (.ptr' rfl) zak.none))))))) (.set zaq.refl_d zag.at)⟩
  rw[if_neg (ff hc20)]at h
  try simp only[go_sem,zac hy4,zaj hy4,zad (D.int .i64) hy4]
  refine zal (fun hc23=> ?_) (fun hc24=> ?_)
  ·rw[if_pos hc23]at h
   try simp only[go_sem,zac hy4,zaj hy4,zad (D.int .i64) hy4]
   try simp only[go_sem,zac hy4,zaj hy4,zad (D.int .i64) hy4,hc1,hc8,hc10,hc16,hc20,hc23]
   cases h
   exact⟨rfl,Up.of (N:=13) (N':=32) [] rfl rfl (by decide) (.set (.d _) (.set (.d _) (.set (.d _) (.set (.d _) (.set (.d _) (.set (.d _) (.set (.ptr' rfl) zak.none))))))) (.set zaq.refl_d zag.at)⟩
  rw[if_neg (ff hc24)]at h
  try simp only[go_sem,zac hy4,zaj hy4,zad (D.int .i64) hy4]
  refine zal (fun hc25=> ?_) (fun hc26=> ?_)
  ·rw[if_pos hc25]at h
   try simp only[go_sem,zac hy4,zaj hy4,zad (D.int .i64) hy4]
   cases h
   exact⟨rfl,Up.of (N:=13) (N':=34) [] rfl rfl (by decide) (.set (.d _) (.set (.d _) (.set (.d _) (.set (.d _) (.set (.d _) (.set (.d _) (.set (.ptr' rfl) zak.none))))))) (.set zaq.refl_d zag.at)⟩
  rw[if_neg (ff hc26)]at h
  try simp only[go_sem,zac hy4,zaj hy4,zad (D.int .i64) hy4]
  cases h
  exact⟨rfl,by simp,Up.of (N:=13) (N':=33) [] rfl rfl (by decide) (.set (.d _) zak.none) zag.at⟩
 rw[if_neg (ff hc2)]at h
 try simp only[go_sem]
 cases h
 exact⟨rfl,by simp,Up.of (N:=13) (N':=14) [] rfl rfl (by decide) (.set (.d _) (.set (.d _) (.set (.d _) zak.none))) zag.at⟩
noncomputable def zLf (a0:Forest) (a1:Node):Option (Bool):=
 (zaU (zdG a0 a1) (0,0,0)).bind fun r27=>
 match r27 with
 |(.inl q29)=>
  if(a1.kind==9)=true then
   some (bif (decide (q29.1<2))then(decide (q29.2<2))else false)
  else
   some true
 |(.inr q41)=>
  some false
theorem zLg (a0:Forest) (a1:Node) (r:Bool) (h:zLf a0 a1=some r):pc prog 205 [zae a0,zam a1]=some (D.bool r):=by
 unfold zLf at h
 refine zbD (fn:=zJL) rfl rfl ?_
 delta zJL
 try simp only[go_sem]
 obtain⟨r27,hl28,h⟩:=bs h
 refine Wp.loopR zbd (n:=(0,[])) (a:=zri) rfl (zfw a0 a1) (ziF a0 a1) (zxT a0 a1) hl28 ?_ (by(repeat(first|refine Clo.block ?_|refine Clo.seq zbd rfl ?_));(exact Clo.ret)) ?_
 ·show Up (0,[]) (zfw a0 a1 (0,0,0)) _
  delta zfw
  exact Up.of (N:=13) (N':=13) [] rfl rfl (by decide) (.set (.d _) (.set (.d _) (.set (.d _) (.set (.d _) (.set (.d _) (.set (.d _) (.set (.ptr' rfl) zak.none))))))) (.set zaq.refl_d zag.at)
 rcases r27 with(q29|q41)
 ·dsimp only at h
  dsimp only[ziF]
  try simp only[go_sem]
  refine zaa (v:= .d (.int .i64 q29.1)) (fun hb40=>by simp only[go_sem,hb40]) ?_
  try simp only[go_sem]
  refine zaa (v:= .d (.bool (decide (q29.1<2)))) (fun hb39=>by simp only[go_sem,hb39]) ?_
  try simp only[go_sem]
  refine zaa (v:= .d (.bool (decide (q29.1<2)))) (fun hb38=>by simp only[go_sem,hb38]) ?_
  try simp only[go_sem]
  refine zaa (v:= .d (.int .i64 q29.2)) (fun hb35=>by((obtain⟨hb36,hb37⟩:=zaL hb35));simp only[go_sem,hb37,hb36]) ?_
  try simp only[go_sem]
  refine zaa (v:= .d (.bool (decide (q29.2<2)))) (fun hb32=>by((obtain⟨hb33,hb34⟩:=zaL hb32));simp only[go_sem,hb34,hb33]) ?_
  try simp only[go_sem]
  refine zaG (fun hc30=> ?_) (fun hc31=> ?_)
  ·rw[if_pos hc30]at h
   try simp only[go_sem,hc30]
   cases h
   rfl
  rw[if_neg (ff hc31)]at h
  try simp only[go_sem,hc31]
  cases h
  rfl
 dsimp only at h
 dsimp only[ziF]
 try simp only[go_sem]
 cases h
 rfl
def zfx (a0:Sl (Int)) (a1:Int) (x0:Int):St:=⟨((((Regs.none.set 0 (.d (.list a0.n (a0.l.map (D.int .i64))))).set 1 (.d (.int .i64 a1))).set 7 (.d (.int .i64 (a0.l.length:Int)))).set 8 (.d (.int .i64 x0))),(Heap.at 4)⟩
def ziG (a0:Sl (Int)) (a1:Int):((Unit)⊕(Int))→Ex×St:=fun r=>match r with
 |(.inl r)=>(.exit 0,⟨Regs.none,(Heap.at 4)⟩)
 |(.inr r)=>(.ret,⟨(Regs.none.set 4 (.d (.int .i64 r))),(Heap.at 4)⟩)
noncomputable def zdH (a0:Sl (Int)) (a1:Int) (x0:Int):Option ((Int)⊕((Unit)⊕(Int))):=
 if(decide (x0<(a0.l.length:Int)))=true then
  (rd a0.l x0).bind fun y3=>
  if(a1==y3)=true then
   some (.inr (.inr x0))
  else
   some (.inl (IntKind.wrap .i64 (x0+1)))
 else
  some (.inr (.inl ()))
theorem zxU (a0:Sl (Int)) (a1:Int) (x0:Int) (o:(Int)⊕((Unit)⊕(Int))) (h:zdH a0 a1 x0=some o):Wp prog zrd (zfx a0 a1 x0) (zcg (0,[]) (zfx a0 a1) (ziG a0 a1) o):=by
 unfold zdH at h
 delta zrd zfx
 try simp only[go_sem]
 refine zal (fun hc1=> ?_) (fun hc2=> ?_)
 ·rw[if_pos hc1]at h
  try simp only[go_sem]
  obtain⟨y3,hy4,h⟩:=bs h
  try simp only[go_sem,zac hy4,zaj hy4,zad (D.int .i64) hy4]
  refine zal (fun hc5=> ?_) (fun hc6=> ?_)
  ·rw[if_pos hc5]at h
   try simp only[go_sem,zac hy4,zaj hy4,zad (D.int .i64) hy4]
   cases h
   exact⟨rfl,by simp,Up.of (N:=4) (N':=15) [] rfl rfl (by decide) (.set (.d _) zak.none) zag.at⟩
  rw[if_neg (ff hc6)]at h
  try simp only[go_sem,zac hy4,zaj hy4,zad (D.int .i64) hy4]
  cases h
  exact⟨rfl,Up.of (N:=4) (N':=15) [] rfl rfl (by decide) (.set (.d _) (.set (.d _) (.set (.d _) (.set (.d _) zak.none)))) zag.at⟩
 rw[if_neg (ff hc2)]at h
 try simp only[go_sem]
 cases h
 exact⟨rfl,by simp,Up.of (N:=4) (N':=5) [] rfl rfl (by decide) zak.none zag.at⟩
noncomputable def zLh (a0:Sl (Int)) (a1:Int):Option (Int):=
 (zaU (zdH a0 a1) 0).bind fun r7=>
 match r7 with
 |(.inl q9)=>
  some (-1)
 |(.inr q10)=>
  some q10
theorem zLi (a0:Sl (Int)) (a1:Int) (r:Int) (h:zLh a0 a1=some r):pc prog 180 [.list a0.n (a0.l.map (D.int .i64)),.int .i64 a1]=some ((D.int .i64) r):=by
 unfold zLh at h
 refine zbD (fn:=zJz) rfl rfl ?_
 delta zJz
 try simp only[go_sem]
 obtain⟨r7,hl8,h⟩:=bs h
 refine Wp.loopR zbd (n:=(0,[])) (a:=zrd) rfl (zfx a0 a1) (ziG a0 a1) (zxU a0 a1) hl8 ?_ (by(repeat(first|refine Clo.block ?_|refine Clo.seq zbd rfl ?_));(exact Clo.ret)) ?_
 ·show Up (0,[]) (zfx a0 a1 0) _
  delta zfx
  exact Up.of (N:=4) (N':=4) [] rfl rfl (by decide) (.set (.d _) (.set (.d _) (.set (.d _) (.set (.d _) zak.none)))) zag.at
 rcases r7 with(q9|q10)
 ·dsimp only at h
  dsimp only[ziG]
  try simp only[go_sem]
  cases h
  rfl
 dsimp only at h
 dsimp only[ziG]
 try simp only[go_sem]
 cases h
 rfl
end Go.Proofs.Ythodcjjgimeeoaa.P
