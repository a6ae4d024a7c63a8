/- Shaken copy of a longer text: what one law needs. Its conditions: none. -/
import Derived.Test.YthodcjjgimeeoaaGreatZPDec0
set_option linter.unusedSimpArgs false
set_option linter.unusedVariables false
set_option maxHeartbeats 1000000
namespace Go.Proofs.YthodcjjgimeeoaaGreat.P
open Go.AI
theorem zaA {g:Rg} {rest:List (SOp×Option (Nat×Bool))} {i:Nat} {env:Regs} {H:Heap} {o:SOp} {b:Bool} {v:V} (k:zfm g rest (i+1) (env.set i (bif b then v else .d (.tuple []))) H) (he:b=true→zad (ans g.A) g.A.sh (g.base+i) env g.r H o=some (v,H):=by intro hb;first|(simp only[go_sem,hb];rfl)|(obtain⟨h1,h2⟩:=zdp hb;simp only[go_sem,h1,h2];rfl)|(obtain⟨h1,h2⟩:=zdp hb;obtain⟨h3,h4⟩:=zdp h1;simp only[go_sem,h2,h3,h4];rfl)):zbD g o rest i env H b:=zgY he k
theorem zek {ρ:Type} {A:AProg} {n:Fx} {a b:C} {s:St} {x:V} {Q:Ex→St→Prop} (F:ρ→Ex×St) (r:ρ) (h:WBr A (zqX n (F r).1 (F r).2) a b s x) (hQ:Clo n Q) (hq:Q (F r).1 (F r).2):WBr A Q a b s x:=WBr.cut _ _ h hQ hq
noncomputable def P81 (a0:Forest) (a1:Int):Option (Node×Bool):=
 if(bif (decide (a1<1))then true else(decide ((a0.nodes.l.length:Int)<a1)))=true then
  some ((⟨0,⟨[],[],[]⟩,[],[],⟨true,[]⟩,⟨true,[]⟩,0,⟨true,[]⟩,0,0,0,0,false,false⟩:Node),false)
 else
  (rd a0.nodes.l (IntKind.wrap .i64 (a1-1))).bind fun y3=>
  some (y3,true)
theorem zQA (a0:Forest) (a1:Int) (r:Node×Bool) (h:P81 a0 a1=some r):pc prog 81 [zaa a0,.int .i64 a1]=some ((eT2 zao D.bool) r):=by
 unfold P81 at h
 refine zaQ (fn:=c81) rfl rfl ?_
 delta c81
 try simp only[go_sem]
 iterate 5 (refine zaA ?_;try simp only[go_sem])
 refine zaf (fun hc1=> ?_) (fun hc2=> ?_)
 ·rw[if_pos hc1]at h
  try simp only[go_sem]
  cases h
  rfl
 rw[if_neg (ff hc2)]at h
 try simp only[go_sem]
 obtain⟨y3,hy4,h⟩:=bs h
 try simp only[go_sem,zab hy4,zaj hy4,zac zao hy4]
 cases h
 rfl
def ziy (a0:Forest) (x0:Int):St:=⟨((Regs.none.set 1 (.d (.int .i64 x0))).set 2 (.ptr 0 0 0)),((Heap.at 2).set 0 (some (.els 1 [.d (zaa a0)] 0)))⟩
def zrs (a0:Forest):((Int))→Ex×St:=fun r=>(.exit 0,⟨(Regs.none.set 1 (.d (.int .i64 r))),(Heap.at 2)⟩)
noncomputable def zdt (a0:Forest) (x0:Int):Option ((Int)⊕((Int))):=
 (dec zao (pc prog 86 [zaa a0,.int .i64 x0])).bind fun r1=>
 if(!(r1.parent==0))=true then
  (dec zao (pc prog 86 [zaa a0,.int .i64 x0])).bind fun r5=>
  some (.inl r5.parent)
 else
  some (.inr x0)
theorem zDS (a0:Forest) (x0:Int) (o:(Int)⊕((Int))) (h:zdt a0 x0=some o):Wp prog zDP (ziy a0 x0) (zbq (0,[]) (ziy a0) (zrs a0) o):=by
 unfold zdt at h
 delta zDP ziy
 try simp only[go_sem]
 obtain⟨r1,hr2,h⟩:=bs h
 replace hr2:=zag hr2
 refine zal hr2 ?_
 try simp only[go_sem]
 refine zaz (fun hc3=> ?_) (fun hc4=> ?_)
 ·rw[if_pos (show(!(r1.parent==0))=true by(rw[hc3];rfl))]at h
  try simp only[go_sem]
  obtain⟨r5,hr6,h⟩:=bs h
  replace hr6:=zag hr6
  refine zal hr6 ?_
  try simp only[go_sem]
  cases h
  exact⟨rfl,Up.of (N:=2) (N':=12) [] rfl rfl (by decide) (.set (.ptr' rfl) (.set (.d _) zae.none)) (.set zar.refl_d zah.at)⟩
 rw[if_neg (ffn hc4)]at h
 try simp only[go_sem]
 cases h
 exact⟨rfl,by simp,Up.of (N:=2) (N':=7) [] rfl rfl (by decide) (.set (.d _) zae.none) zah.at⟩
noncomputable def P87 (a0:Forest) (a1:Int):Option (Int):=
 (zaL (zdt a0) a1).bind fun r7=>
 some r7
theorem zQB (a0:Forest) (a1:Int) (r:Int) (h:P87 a0 a1=some r):pc prog 87 [zaa a0,.int .i64 a1]=some ((D.int .i64) r):=by
 unfold P87 at h
 refine zaQ (fn:=c87) rfl rfl ?_
 delta c87
 try simp only[go_sem]
 obtain⟨r7,hl8,h⟩:=bs h
 refine Wp.loopR zaV (n:=(0,[])) (a:=zDP) rfl (ziy a0) (zrs a0) (zDS a0) hl8 ?_ (by(repeat(first|refine Clo.block ?_|refine Clo.seq zaV rfl ?_));(exact Clo.ret)) ?_
 ·show Up (0,[]) (ziy a0 a1) _
  delta ziy
  exact Up.of (N:=2) (N':=2) [] rfl rfl (by decide) (.set (.ptr' rfl) (.set (.d _) zae.none)) (.set zar.refl_d zah.at)
 dsimp only[zrs]
 try simp only[go_sem]
 cases h
 rfl
def ziz (a0:Forest) (a1:Int) (x0:Int):St:=⟨(((Regs.none.set 1 (.d (.int .i64 a1))).set 2 (.d (.int .i64 x0))).set 3 (.ptr 0 0 0)),((Heap.at 2).set 0 (some (.els 1 [.d (zaa a0)] 0)))⟩
def zrt (a0:Forest) (a1:Int):((Int))→Ex×St:=fun r=>(.exit 0,⟨((Regs.none.set 1 (.d (.int .i64 a1))).set 2 (.d (.int .i64 r))),(Heap.at 2)⟩)
noncomputable def zcU (a0:Forest) (a1:Int) (x0:Int):Option ((Int)⊕((Int))):=
 if(bif (!(x0==0))then(!(x0==a1))else false)=true then
  (dec (D.int .i64) (pc prog 110 [zaa a0,.int .i64 x0])).bind fun r3=>
  some (.inl r3)
 else
  some (.inr x0)
theorem zDT (a0:Forest) (a1:Int) (x0:Int) (o:(Int)⊕((Int))) (h:zcU a0 a1 x0=some o):Wp prog zDN (ziz a0 a1 x0) (zbq (0,[]) (ziz a0 a1) (zrt a0 a1) o):=by
 unfold zcU at h
 delta zDN ziz
 try simp only[go_sem]
 iterate 3 (refine zaA ?_;try simp only[go_sem])
 refine zaf (fun hc1=> ?_) (fun hc2=> ?_)
 ·rw[if_pos hc1]at h
  try simp only[go_sem]
  obtain⟨r3,hr4,h⟩:=bs h
  replace hr4:=zag hr4
  refine zal hr4 ?_
  try simp only[go_sem]
  cases h
  exact⟨rfl,Up.of (N:=2) (N':=13) [] rfl rfl (by decide) (.set (.ptr' rfl) (.set (.d _) (.set (.d _) zae.none))) (.set zar.refl_d zah.at)⟩
 rw[if_neg (ff hc2)]at h
 try simp only[go_sem]
 cases h
 exact⟨rfl,by simp,Up.of (N:=2) (N':=9) [] rfl rfl (by decide) (.set (.d _) (.set (.d _) zae.none)) zah.at⟩
noncomputable def P76 (a0:Forest) (a1:Int) (a2:Int):Option (Bool):=
 (zaL (zcU a0 a1) a2).bind fun r8=>
 some (r8==a1)
theorem zQC (a0:Forest) (a1:Int) (a2:Int) (r:Bool) (h:P76 a0 a1 a2=some r):pc prog 76 [zaa a0,.int .i64 a1,.int .i64 a2]=some (D.bool r):=by
 unfold P76 at h
 refine zaQ (fn:=c76) rfl rfl ?_
 delta c76
 try simp only[go_sem]
 obtain⟨r8,hl9,h⟩:=bs h
 refine Wp.loopR zaV (n:=(0,[])) (a:=zDN) rfl (ziz a0 a1) (zrt a0 a1) (zDT a0 a1) hl9 ?_ (by(repeat(first|refine Clo.block ?_|refine Clo.seq zaV rfl ?_));(exact Clo.ret)) ?_
 ·show Up (0,[]) (ziz a0 a1 a2) _
  delta ziz
  exact Up.of (N:=2) (N':=2) [] rfl rfl (by decide) (.set (.ptr' rfl) (.set (.d _) (.set (.d _) zae.none))) (.set zar.refl_d zah.at)
 dsimp only[zrt]
 try simp only[go_sem]
 cases h
 rfl
def ziA (a0:Forest) (a1:Sl (Int)) (x0:Int):St:=⟨((((Regs.none.set 2 (.ptr 0 0 0)).set 17 (.d (.list a1.n (a1.l.map (D.int .i64))))).set 18 (.d (.int .i64 (a1.l.length:Int)))).set 19 (.d (.int .i64 x0))),((Heap.at 14).set 0 (some (.els 1 [.d (zaa a0)] 0)))⟩
def zmU (a0:Forest) (a1:Sl (Int)):((Unit)⊕(Unit))→Ex×St:=fun r=>match r with
 |(.inl r)=>(.exit 0,⟨Regs.none,(Heap.at 14)⟩)
 |(.inr r)=>(.ret,⟨(Regs.none.set 4 (.d (.int .i64 (2)))),(Heap.at 14)⟩)
noncomputable def zeF (a0:Forest) (a1:Sl (Int)) (x0:Int):Option ((Int)⊕((Unit)⊕(Unit))):=
 if(decide (x0<(a1.l.length:Int)))=true then
  (rd a1.l x0).bind fun y7=>
  if(bif (decide (y7<1))then true else(decide ((a0.nodes.l.length:Int)<y7)))=true then
   some (.inr (.inr ()))
  else
   some (.inl (IntKind.wrap .i64 (x0+1)))
 else
  some (.inr (.inl ()))
theorem zDU (a0:Forest) (a1:Sl (Int)) (x0:Int) (o:(Int)⊕((Unit)⊕(Unit))) (h:zeF a0 a1 x0=some o):Wp prog zDz (ziA a0 a1 x0) (zbq (0,[]) (ziA a0 a1) (zmU a0 a1) o):=by
 unfold zeF at h
 delta zDz ziA
 try simp only[go_sem]
 refine zaf (fun hc5=> ?_) (fun hc6=> ?_)
 ·rw[if_pos hc5]at h
  try simp only[go_sem]
  obtain⟨y7,hy8,h⟩:=bs h
  try simp only[go_sem,zab hy8,zaj hy8,zac (D.int .i64) hy8]
  iterate 5 (refine zaA ?_;try simp only[go_sem,zab hy8,zaj hy8,zac (D.int .i64) hy8])
  refine zaf (fun hc9=> ?_) (fun hc10=> ?_)
  ·rw[if_pos hc9]at h
   try simp only[go_sem,zab hy8,zaj hy8,zac (D.int .i64) hy8]
   cases h
   exact⟨rfl,by simp,Up.of (N:=14) (N':=28) [] rfl rfl (by decide) (.set (.d _) zae.none) zah.at⟩
  rw[if_neg (ff hc10)]at h
  try simp only[go_sem,zab hy8,zaj hy8,zac (D.int .i64) hy8]
  cases h
  exact⟨rfl,Up.of (N:=14) (N':=29) [] rfl rfl (by decide) (.set (.d _) (.set (.d _) (.set (.d _) (.set (.ptr' rfl) zae.none)))) (.set zar.refl_d zah.at)⟩
 rw[if_neg (ff hc6)]at h
 try simp only[go_sem]
 cases h
 exact⟨rfl,by simp,Up.of (N:=14) (N':=15) [] rfl rfl (by decide) zae.none zah.at⟩
noncomputable def P26 (a0:Forest) (a1:Sl (Int)):Option (Int):=
 (dec (eT2 (D.int .i64) (D.int .i64)) (pc prog 61 [zaa a0])).bind fun r1=>
 if(!(r1.1==0))=true then
  some r1.1
 else
  (zaL (zeF a0 a1) 0).bind fun r16=>
  match r16 with
  |(.inl q18)=>
   some (0)
  |(.inr q19)=>
   some (2)
theorem zQD (a0:Forest) (a1:Sl (Int)) (r:Int) (h:P26 a0 a1=some r):pc prog 26 [zaa a0,.list a1.n (a1.l.map (D.int .i64))]=some ((D.int .i64) r):=by
 unfold P26 at h
 refine zaQ (fn:=c26) rfl rfl ?_
 delta c26
 try simp only[go_sem]
 obtain⟨r1,hr2,h⟩:=bs h
 replace hr2:=zag hr2
 refine zal hr2 ?_
 try simp only[go_sem]
 refine zaz (fun hc3=> ?_) (fun hc4=> ?_)
 ·rw[if_pos (show(!(r1.1==0))=true by(rw[hc3];rfl))]at h
  try simp only[go_sem]
  cases h
  rfl
 rw[if_neg (ffn hc4)]at h
 try simp only[go_sem]
 obtain⟨r16,hl17,h⟩:=bs h
 refine Wp.loopR zaV (n:=(0,[])) (a:=zDz) rfl (ziA a0 a1) (zmU a0 a1) (zDU a0 a1) hl17 ?_ (by(repeat(first|refine Clo.block ?_|refine Clo.seq zaV rfl ?_));(exact Clo.ret)) ?_
 ·show Up (0,[]) (ziA a0 a1 0) _
  delta ziA
  exact Up.of (N:=14) (N':=14) [] rfl rfl (by decide) (.set (.d _) (.set (.d _) (.set (.d _) (.set (.ptr' rfl) zae.none)))) (.set zar.refl_d zah.at)
 rcases r16 with(q18|q19)
 ·dsimp only at h
  dsimp only[zmU]
  try simp only[go_sem]
  cases h
  rfl
 dsimp only at h
 dsimp only[zmU]
 try simp only[go_sem]
 cases h
 rfl
noncomputable def P33 (a0:Forest):Option (Bool):=
 (dec (eT2 (D.int .i64) (D.int .i64)) (pc prog 77 [zaa a0])).bind fun r1=>
 some (r1.1==0)
theorem zQE (a0:Forest) (r:Bool) (h:P33 a0=some r):pc prog 33 [zaa a0]=some (D.bool r):=by
 unfold P33 at h
 refine zaQ (fn:=c33) rfl rfl ?_
 delta c33
 try simp only[go_sem]
 obtain⟨r1,hr2,h⟩:=bs h
 replace hr2:=zag hr2
 refine zal hr2 ?_
 try simp only[go_sem]
 cases h
 rfl
noncomputable def P50 (a0:Forest) (a1:Int):Option (Node):=
 if(bif (decide (a1<1))then true else(decide ((a0.nodes.l.length:Int)<a1)))=true then
  some (⟨0,⟨[],[],[]⟩,[],[],⟨true,[]⟩,⟨true,[]⟩,0,⟨true,[]⟩,0,0,0,0,false,false⟩:Node)
 else
  (rd a0.nodes.l (IntKind.wrap .i64 (a1-1))).bind fun y3=>
  some y3
theorem zQF (a0:Forest) (a1:Int) (r:Node) (h:P50 a0 a1=some r):pc prog 50 [zaa a0,.int .i64 a1]=some (zao r):=by
 unfold P50 at h
 refine zaQ (fn:=c50) rfl rfl ?_
 delta c50
 try simp only[go_sem]
 iterate 5 (refine zaA ?_;try simp only[go_sem])
 refine zaf (fun hc1=> ?_) (fun hc2=> ?_)
 ·rw[if_pos hc1]at h
  try simp only[go_sem]
  cases h
  rfl
 rw[if_neg (ff hc2)]at h
 try simp only[go_sem]
 obtain⟨y3,hy4,h⟩:=bs h
 try simp only[go_sem,zab hy4,zaj hy4,zac zao hy4]
 cases h
 rfl
def ziB (a0:Forest) (a1:Int) (a2:Int) (x0:Int):St:=⟨(((Regs.none.set 0 (.yld 38)).set 1 (.ptr 34 0 0)).set 2 (.ptr 33 0 0)),((((((((((Heap.at 39).set 0 (some (.els 1 [.d (zaa a0)] 0))).set 1 (some (.els 1 [.d (.int .i64 a1)] 0))).set 2 (some (.els 1 [.d (.int .i64 a2)] 0))).set 9 (some (.els 1 [.d (.int .i64 a1),.d (.int .i64 a2)] 2))).set 15 (some (.els 1 [.d (zaa a0)] 0))).set 29 (some (.els 1 [.d (.bool false)] 0))).set 33 (some (.els 1 [.d (zaa a0)] 0))).set 34 (some (.els 1 [.d (.int .i64 x0)] 0))).set 38 (some (.loop ⟨((Regs.none.set 2 (.ptr 1 0 0)).set 3 (.ptr 29 0 0)),[8],zoU,zoV,.ready,none⟩)))⟩
def zmV (a0:Forest) (a1:Int) (a2:Int):((Int)⊕(Int))→Ex×St:=fun r=>match r with
 |(.inl r)=>(.exit 0,⟨Regs.none,((((((((((Heap.at 39).set 0 (some (.els 1 [.d (zaa a0)] 0))).set 1 (some (.els 1 [.d (.int .i64 a1)] 0))).set 2 (some (.els 1 [.d (.int .i64 a2)] 0))).set 9 (some (.els 1 [.d (.int .i64 a1),.d (.int .i64 a2)] 2))).set 15 (some (.els 1 [.d (zaa a0)] 0))).set 29 (some (.els 1 [.d (.bool false)] 0))).set 33 (some (.els 1 [.d (zaa a0)] 0))).set 34 (some (.els 1 [.d (.int .i64 r)] 0))).set 38 (some (.loop ⟨((Regs.none.set 2 (.ptr 1 0 0)).set 3 (.ptr 29 0 0)),[8],zoU,zoV,.ready,none⟩)))⟩)
 |(.inr r)=>(.ret,⟨Regs.none,((((((((((Heap.at 39).set 0 (some (.els 1 [.d (zaa a0)] 0))).set 1 (some (.els 1 [.d (.int .i64 a1)] 0))).set 2 (some (.els 1 [.d (.int .i64 a2)] 0))).set 9 (some (.els 1 [.d (.int .i64 a1),.d (.int .i64 a2)] 2))).set 15 (some (.els 1 [.d (zaa a0)] 0))).set 29 (some (.els 1 [.d (.bool true)] 0))).set 33 (some (.els 1 [.d (zaa a0)] 0))).set 34 (some (.els 1 [.d (.int .i64 r)] 0))).set 38 (some (.loop ⟨((Regs.none.set 2 (.ptr 1 0 0)).set 3 (.ptr 29 0 0)),[8],zoU,zoV,.done,(some .ret)⟩)))⟩)
noncomputable def zcV (a0:Forest) (a1:Int) (a2:Int) (x0:Int):Option ((Int)⊕((Int)⊕(Int))):=
 if(!(x0==0))=true then
  if(x0==a1)=true then
   some (.inr (.inr x0))
  else
   (dec (D.int .i64) (pc prog 150 [zaa a0,.int .i64 x0])).bind fun r9=>
   some (.inl r9)
 else
  some (.inr (.inl x0))
theorem zDV (a0:Forest) (a1:Int) (a2:Int) (x0:Int) (o:(Int)⊕((Int)⊕(Int))) (h:zcV a0 a1 a2 x0=some o):Wp prog zsL (ziB a0 a1 a2 x0) (zbq (39,[]) (ziB a0 a1 a2) (zmV a0 a1 a2) o):=by
 unfold zcV at h
 delta zsL ziB
 try simp only[go_sem]
 refine zaz (fun hc5=> ?_) (fun hc6=> ?_)
 ·rw[if_pos (show(!(x0==0))=true by(rw[hc5];rfl))]at h
  try simp only[go_sem]
  refine zsn (by simp only[go_sem];rfl) rfl ?_
  delta zoU
  try simp only[go_sem]
  delta zoV
  try simp only[go_sem]
  refine zaf (fun hc7=> ?_) (fun hc8=> ?_)
  ·rw[if_pos hc7]at h
   try simp only[go_sem]
   cases h
   exact⟨rfl,by simp,Up.of (N:=39) (N':=50) [] rfl rfl (by decide) zae.none (.set (zar.loop (.set (.ptr' rfl) (.set (.ptr' rfl) zae.none)) rfl rfl) (.set zar.refl_d (.set zar.refl_d (.set zar.refl_d (.set zar.refl_d (.set (zar.els (Nat.le_refl _) (.cons (.d _) (.cons (.d _) .nil))) (.set zar.refl_d (.set zar.refl_d (.set zar.refl_d zah.at)))))))))⟩
  rw[if_neg (ff hc8)]at h
  try simp only[go_sem]
  obtain⟨r9,hr10,h⟩:=bs h
  replace hr10:=zag hr10
  refine zal hr10 ?_
  try simp only[go_sem]
  cases h
  exact⟨rfl,Up.of (N:=39) (N':=53) [] rfl rfl (by decide) (.set (.ptr' rfl) (.set (.ptr' rfl) (.set (.yld' rfl) zae.none))) (.set (zar.loop (.set (.ptr' rfl) (.set (.ptr' rfl) zae.none)) rfl rfl) (.set zar.refl_d (.set zar.refl_d (.set zar.refl_d (.set zar.refl_d (.set (zar.els (Nat.le_refl _) (.cons (.d _) (.cons (.d _) .nil))) (.set zar.refl_d (.set zar.refl_d (.set zar.refl_d zah.at)))))))))⟩
 rw[if_neg (ffn hc6)]at h
 try simp only[go_sem]
 cases h
 exact⟨rfl,by simp,Up.of (N:=39) (N':=41) [] rfl rfl (by decide) zae.none (.set (zar.loop (.set (.ptr' rfl) (.set (.ptr' rfl) zae.none)) rfl rfl) (.set zar.refl_d (.set zar.refl_d (.set zar.refl_d (.set zar.refl_d (.set (zar.els (Nat.le_refl _) (.cons (.d _) (.cons (.d _) .nil))) (.set zar.refl_d (.set zar.refl_d (.set zar.refl_d zah.at)))))))))⟩
noncomputable def P98 (a0:Forest) (a1:Int) (a2:Int):Option (Bool×Int):=
 (dec (D.int .i64) (pc prog 26 [zaa a0,.list false (([a1,a2]).map (D.int .i64))])).bind fun r1=>
 if(!(r1==0))=true then
  some (false,r1)
 else
  (zaL (zcV a0 a1 a2) a2).bind fun r11=>
  match r11 with
  |(.inl q13)=>
   some (false,0)
  |(.inr q14)=>
   some (true,0)
theorem zQu (a0:Forest) (a1:Int) (a2:Int) (r:Bool×Int) (h:P98 a0 a1 a2=some r):pc prog 98 [zaa a0,.int .i64 a1,.int .i64 a2]=some ((eT2 D.bool (D.int .i64)) r):=by
 unfold P98 at h
 refine zaQ (fn:=c98) rfl rfl ?_
 delta c98
 try simp only[go_sem]
 refine zcm (fn:=zNd) rfl rfl ?_
 delta zNd
 try simp only[go_sem]
 obtain⟨r1,hr2,h⟩:=bs h
 replace hr2:=zag hr2
 refine zal hr2 ?_
 try simp only[go_sem]
 refine zaz (fun hc3=> ?_) (fun hc4=> ?_)
 ·rw[if_pos (show(!(r1==0))=true by(rw[hc3];rfl))]at h
  try simp only[go_sem]
  cases h
  rfl
 rw[if_neg (ffn hc4)]at h
 try simp only[go_sem]
 refine zyx (fn:=zNe) rfl rfl ?_
 delta zNe
 try simp only[go_sem]
 refine zcm (fn:=zNf) rfl rfl ?_
 delta zNf
 try simp only[go_sem]
 refine Wp.rfuncC (k:=149) (fn:=zNE) (first:=[]) (cap:=[.ptr 34 0 0,.ptr 33 0 0]) (by simp only[go_sem]) rfl rfl ?_
 delta zNE
 try simp only[go_sem]
 obtain⟨r11,hl12,h⟩:=bs h
 refine Wp.loopR zaV (n:=(39,[])) (a:=zsL) rfl (ziB a0 a1 a2) (zmV a0 a1 a2) (zDV a0 a1 a2) hl12 ?_ (by(repeat(refine Clo.block ?_));refine Clo.rf (n':=(29,[])) ?_ (by decide) (by decide) ?_;((repeat(first|refine zaN.set ?_ ?_|refine zaN.args ?_|exact zbi.nil|refine zbi.cons ?_ ?_|exact zaI.ptr (by decide)|refine zaI.clo ?_ ?_)));(repeat(first|refine Clo.block ?_|refine Clo.seq zaV rfl ?_));refine Clo.inl zaV (n':=(15,[])) rfl rfl rfl ?_ ?_ (show Fx.spans _ 25 4=true from by decide) (by decide) ?_;((repeat(first|exact zaN.no|refine zaN.set ?_ ?_|refine zaN.args ?_|exact zbi.nil|refine zbi.cons ?_ ?_|exact zaI.d|exact zaI.ptr (by decide)|exact zaI.sl (by decide)|refine zaI.clo ?_ ?_));(repeat(first|exact zaN.no|exact zaN.none|refine zaN.set ?_ ?_|refine zaN.args ?_|exact zbi.nil|refine zbi.cons ?_ ?_|exact zaI.d|exact zaI.undef|exact zaI.rp|exact zaI.ptr (by decide)|exact zaI.sl (by decide)|exact zaI.mb (by decide)|exact zaI.map (by decide)|exact zaI.yld (by decide)|exact zaI.it (by decide)|refine zaI.clo ?_ ?_|refine zaI.ofCells ?_|refine zaI.agg ?_|refine zaI.tuple ?_|refine zaI.bif ?_ ?_)));(repeat(refine Clo.seq zaV rfl ?_));refine Clo.inl zaV (n':=(0,[])) rfl rfl rfl ?_ ?_ (show Fx.spans _ 5 10=true from by decide) (by decide) ?_;((repeat(first|exact zaN.no|refine zaN.set ?_ ?_|refine zaN.args ?_|exact zbi.nil|refine zbi.cons ?_ ?_|exact zaI.d|exact zaI.ptr (by decide)|exact zaI.sl (by decide)|refine zaI.clo ?_ ?_));(repeat(first|exact zaN.no|exact zaN.none|refine zaN.set ?_ ?_|refine zaN.args ?_|exact zbi.nil|refine zbi.cons ?_ ?_|exact zaI.d|exact zaI.undef|exact zaI.rp|exact zaI.ptr (by decide)|exact zaI.sl (by decide)|exact zaI.mb (by decide)|exact zaI.map (by decide)|exact zaI.yld (by decide)|exact zaI.it (by decide)|refine zaI.clo ?_ ?_|refine zaI.ofCells ?_|refine zaI.agg ?_|refine zaI.tuple ?_|refine zaI.bif ?_ ?_)));(repeat(refine Clo.seq zaV rfl ?_));(exact Clo.ret)) ?_
 ·show Up (39,[]) (ziB a0 a1 a2 a2) _
  delta ziB
  exact Up.of (N:=39) (N':=39) [] rfl rfl (by decide) (.set (.ptr' rfl) (.set (.ptr' rfl) (.set (.yld' rfl) zae.none))) (.set (zar.loop (.set (.ptr' rfl) (.set (.ptr' rfl) zae.none)) rfl rfl) (.set zar.refl_d (.set zar.refl_d (.set zar.refl_d (.set zar.refl_d (.set (zar.els (Nat.le_refl _) (.cons (.d _) (.cons (.d _) .nil))) (.set zar.refl_d (.set zar.refl_d (.set zar.refl_d zah.at)))))))))
 rcases r11 with(q13|q14)
 ·dsimp only at h
  dsimp only[zmV]
  try simp only[go_sem]
  cases h
  rfl
 dsimp only at h
 dsimp only[zmV]
 try simp only[go_sem]
 cases h
 rfl
def ziC (a0:Forest) (x0:Int×Int):St:=⟨(((Regs.none.set 0 (.yld 13)).set 1 (.ptr 9 0 0)).set 2 (.ptr 8 0 0)),((((((Heap.at 14).set 0 (some (.els 1 [.d (zaa a0)] 0))).set 3 (some (.els 1 [.d (.int .i64 x0.1)] 0))).set 8 (some (.els 1 [.d (zaa a0)] 0))).set 9 (some (.els 1 [.d (.int .i64 x0.2)] 0))).set 13 (some (.loop ⟨(Regs.none.set 5 (.ptr 3 0 0)),[11],zDG,zDH,.ready,none⟩)))⟩
def zru (a0:Forest):((Int×Int))→Ex×St:=fun r=>(.exit 0,⟨Regs.none,((((((Heap.at 14).set 0 (some (.els 1 [.d (zaa a0)] 0))).set 3 (some (.els 1 [.d (.int .i64 r.1)] 0))).set 8 (some (.els 1 [.d (zaa a0)] 0))).set 9 (some (.els 1 [.d (.int .i64 r.2)] 0))).set 13 (some (.loop ⟨(Regs.none.set 5 (.ptr 3 0 0)),[11],zDG,zDH,.ready,none⟩)))⟩)
noncomputable def zdu (a0:Forest) (x0:Int×Int):Option ((Int×Int)⊕((Int×Int))):=
 if(!(x0.2==0))=true then
  (dec zao (pc prog 50 [zaa a0,.int .i64 x0.2])).bind fun r3=>
  some (.inl (x0.2,r3.parent))
 else
  some (.inr (x0.1,x0.2))
theorem zDW (a0:Forest) (x0:Int×Int) (o:(Int×Int)⊕((Int×Int))) (h:zdu a0 x0=some o):Wp prog zsE (ziC a0 x0) (zbq (14,[]) (ziC a0) (zru a0) o):=by
 unfold zdu at h
 delta zsE ziC
 try simp only[go_sem]
 refine zaz (fun hc1=> ?_) (fun hc2=> ?_)
 ·rw[if_pos (show(!(x0.2==0))=true by(rw[hc1];rfl))]at h
  try simp only[go_sem]
  refine zsn (by simp only[go_sem];rfl) rfl ?_
  delta zDG
  try simp only[go_sem]
  delta zDH
  try simp only[go_sem]
  obtain⟨r3,hr4,h⟩:=bs h
  replace hr4:=zag hr4
  refine zal hr4 ?_
  try simp only[go_sem]
  cases h
  exact⟨rfl,Up.of (N:=14) (N':=28) [] rfl rfl (by decide) (.set (.ptr' rfl) (.set (.ptr' rfl) (.set (.yld' rfl) zae.none))) (.set (zar.loop (.set (.ptr' rfl) zae.none) rfl rfl) (.set zar.refl_d (.set zar.refl_d (.set zar.refl_d (.set zar.refl_d zah.at)))))⟩
 rw[if_neg (ffn hc2)]at h
 try simp only[go_sem]
 cases h
 exact⟨rfl,by simp,Up.of (N:=14) (N':=16) [] rfl rfl (by decide) zae.none (.set (zar.loop (.set (.ptr' rfl) zae.none) rfl rfl) (.set zar.refl_d (.set zar.refl_d (.set zar.refl_d (.set zar.refl_d zah.at)))))⟩
noncomputable def P67 (a0:Forest) (a1:Int):Option (Int):=
 (zaL (zdu a0) (a1,a1)).bind fun r5=>
 some r5.1
theorem zQG (a0:Forest) (a1:Int) (r:Int) (h:P67 a0 a1=some r):pc prog 67 [zaa a0,.int .i64 a1]=some ((D.int .i64) r):=by
 unfold P67 at h
 refine zaQ (fn:=c67) rfl rfl ?_
 delta c67
 try simp only[go_sem]
 refine zcm (fn:=zMT) rfl rfl ?_
 delta zMT
 try simp only[go_sem]
 refine Wp.rfuncC (k:=135) (fn:=zNr) (first:=[]) (cap:=[.ptr 9 0 0,.ptr 8 0 0]) (by simp only[go_sem]) rfl rfl ?_
 delta zNr
 try simp only[go_sem]
 obtain⟨r5,hl6,h⟩:=bs h
 refine Wp.loopR zaV (n:=(14,[])) (a:=zsE) rfl (ziC a0) (zru a0) (zDW a0) hl6 ?_ (by(repeat(refine Clo.block ?_));refine Clo.rf (n':=(0,[])) ?_ (by decide) (by decide) ?_;((repeat(first|refine zaN.set ?_ ?_|refine zaN.args ?_|exact zbi.nil|refine zbi.cons ?_ ?_|exact zaI.d|exact zaI.ptr (by decide)|refine zaI.clo ?_ ?_)));(repeat(first|refine Clo.block ?_|refine Clo.seq zaV rfl ?_));(exact Clo.ret)) ?_
 ·show Up (14,[]) (ziC a0 (a1,a1)) _
  delta ziC
  exact Up.of (N:=14) (N':=14) [] rfl rfl (by decide) (.set (.ptr' rfl) (.set (.ptr' rfl) (.set (.yld' rfl) zae.none))) (.set (zar.loop (.set (.ptr' rfl) zae.none) rfl rfl) (.set zar.refl_d (.set zar.refl_d (.set zar.refl_d (.set zar.refl_d zah.at)))))
 dsimp only[zru]
 try simp only[go_sem]
 cases h
 rfl
def ziD (a0:Forest) (a1:Sl (Int)) (x0:Int):St:=⟨(((Regs.none.set 1 (.d (.list a1.n (a1.l.map (D.int .i64))))).set 2 (.ptr 0 0 0)).set 5 (.d (.int .i64 x0))),((Heap.at 6).set 0 (some (.els 1 [.d (zaa a0)] 0)))⟩
def zmW (a0:Forest) (a1:Sl (Int)):((Unit)⊕(Unit))→Ex×St:=fun r=>match r with
 |(.inl r)=>(.exit 0,⟨Regs.none,(Heap.at 6)⟩)
 |(.inr r)=>(.ret,⟨(Regs.none.set 4 (.d (.int .i64 (2)))),(Heap.at 6)⟩)
noncomputable def zeG (a0:Forest) (a1:Sl (Int)) (x0:Int):Option ((Int)⊕((Unit)⊕(Unit))):=
 if(decide (x0<(a1.l.length:Int)))=true then
  (rd a1.l x0).bind fun y7=>
  if(!(decide (y7<1)))=true then
   if(decide ((a0.nodes.l.length:Int)<y7))=true then
    some (.inr (.inr ()))
   else
    some (.inl (IntKind.wrap .i64 (x0+1)))
  else
   some (.inr (.inr ()))
 else
  some (.inr (.inl ()))
theorem zDX (a0:Forest) (a1:Sl (Int)) (x0:Int) (o:(Int)⊕((Unit)⊕(Unit))) (h:zeG a0 a1 x0=some o):Wp prog zDB (ziD a0 a1 x0) (zbq (0,[]) (ziD a0 a1) (zmW a0 a1) o):=by
 unfold zeG at h
 delta zDB ziD
 try simp only[go_sem]
 refine zaf (fun hc5=> ?_) (fun hc6=> ?_)
 ·rw[if_pos hc5]at h
  try simp only[go_sem]
  obtain⟨y7,hy8,h⟩:=bs h
  try simp only[go_sem,zab hy8,zaj hy8,zac (D.int .i64) hy8]
  iterate 2 (refine zaA ?_;try simp only[go_sem,zab hy8,zaj hy8,zac (D.int .i64) hy8])
  refine zaB (fun hc9=> ?_) (fun hc10=> ?_)
  ·rw[if_pos (show(!(decide (y7<1)))=true by(rw[hc9];rfl))]at h
   try simp only[go_sem,zab hy8,zaj hy8,zac (D.int .i64) hy8,hc9]
   refine zaf (fun hc11=> ?_) (fun hc12=> ?_)
   ·rw[if_pos hc11]at h
    try simp only[go_sem,zab hy8,zaj hy8,zac (D.int .i64) hy8]
    cases h
    exact⟨rfl,by simp,Up.of (N:=6) (N':=26) [] rfl rfl (by decide) (.set (.d _) zae.none) zah.at⟩
   rw[if_neg (ff hc12)]at h
   try simp only[go_sem,zab hy8,zaj hy8,zac (D.int .i64) hy8]
   cases h
   exact⟨rfl,Up.of (N:=6) (N':=28) [] rfl rfl (by decide) (.set (.d _) (.set (.ptr' rfl) (.set (.d _) zae.none))) (.set zar.refl_d zah.at)⟩
  rw[if_neg (ffn hc10)]at h
  try simp only[go_sem,zab hy8,zaj hy8,zac (D.int .i64) hy8,hc10]
  cases h
  exact⟨rfl,by simp,Up.of (N:=6) (N':=26) [] rfl rfl (by decide) (.set (.d _) zae.none) zah.at⟩
 rw[if_neg (ff hc6)]at h
 try simp only[go_sem]
 cases h
 exact⟨rfl,by simp,Up.of (N:=6) (N':=10) [] rfl rfl (by decide) zae.none zah.at⟩
noncomputable def P29 (a0:Forest) (a1:Sl (Int)):Option (Int):=
 (dec D.bool (pc prog 33 [zaa a0])).bind fun r1=>
 if(!r1)=true then
  some (5)
 else
  (zaL (zeG a0 a1) 0).bind fun r15=>
  match r15 with
  |(.inl q17)=>
   some (0)
  |(.inr q18)=>
   some (2)
theorem zQH (a0:Forest) (a1:Sl (Int)) (r:Int) (h:P29 a0 a1=some r):pc prog 29 [zaa a0,.list a1.n (a1.l.map (D.int .i64))]=some ((D.int .i64) r):=by
 unfold P29 at h
 refine zaQ (fn:=c29) rfl rfl ?_
 delta c29
 try simp only[go_sem]
 obtain⟨r1,hr2,h⟩:=bs h
 replace hr2:=zag hr2
 refine zal hr2 ?_
 try simp only[go_sem]
 refine zaz (fun hc3=> ?_) (fun hc4=> ?_)
 ·rw[if_pos (show(!r1)=true by(rw[hc3];rfl))]at h
  try simp only[go_sem]
  cases h
  rfl
 rw[if_neg (ffn hc4)]at h
 try simp only[go_sem]
 obtain⟨r15,hl16,h⟩:=bs h
 refine Wp.loopR zaV (n:=(0,[])) (a:=zDB) rfl (ziD a0 a1) (zmW a0 a1) (zDX a0 a1) hl16 ?_ (by(repeat(first|refine Clo.block ?_|refine Clo.seq zaV rfl ?_));(exact Clo.ret)) ?_
 ·show Up (0,[]) (ziD a0 a1 0) _
  delta ziD
  exact Up.of (N:=6) (N':=6) [] rfl rfl (by decide) (.set (.d _) (.set (.ptr' rfl) (.set (.d _) zae.none))) (.set zar.refl_d zah.at)
 rcases r15 with(q17|q18)
 ·dsimp only at h
  dsimp only[zmW]
  try simp only[go_sem]
  cases h
  rfl
 dsimp only at h
 dsimp only[zmW]
 try simp only[go_sem]
 cases h
 rfl
noncomputable def P86 (a0:Forest) (a1:Int):Option (Node):=
 (rd a0.nodes.l (IntKind.wrap .i64 (a1-1))).bind fun y1=>
 some y1
theorem zQI (a0:Forest) (a1:Int) (r:Node) (h:P86 a0 a1=some r):pc prog 86 [zaa a0,.int .i64 a1]=some (zao r):=by
 unfold P86 at h
 refine zaQ (fn:=c86) rfl rfl ?_
 delta c86
 try simp only[go_sem]
 obtain⟨y1,hy2,h⟩:=bs h
 try simp only[go_sem,zab hy2,zaj hy2,zac zao hy2]
 cases h
 rfl
noncomputable def zOv (a0:Forest) (a1:Int):Option (Int):=
 (dec zao (pc prog 86 [zaa a0,.int .i64 a1])).bind fun r1=>
 if(r1.kind==12)=true then
  (dec zao (pc prog 86 [zaa a0,.int .i64 a1])).bind fun r5=>
  some r5.host
 else
  (dec zao (pc prog 86 [zaa a0,.int .i64 a1])).bind fun r7=>
  some r7.parent
theorem zOw (a0:Forest) (a1:Int) (r:Int) (h:zOv a0 a1=some r):pc prog 110 [zaa a0,.int .i64 a1]=some ((D.int .i64) r):=by
 unfold zOv at h
 refine zaQ (fn:=zMW) rfl rfl ?_
 delta zMW
 try simp only[go_sem]
 obtain⟨r1,hr2,h⟩:=bs h
 replace hr2:=zag hr2
 refine zal hr2 ?_
 try simp only[go_sem]
 refine zaf (fun hc3=> ?_) (fun hc4=> ?_)
 ·rw[if_pos hc3]at h
  try simp only[go_sem]
  obtain⟨r5,hr6,h⟩:=bs h
  replace hr6:=zag hr6
  refine zal hr6 ?_
  try simp only[go_sem]
  cases h
  rfl
 rw[if_neg (ff hc4)]at h
 try simp only[go_sem]
 obtain⟨r7,hr8,h⟩:=bs h
 replace hr8:=zag hr8
 refine zal hr8 ?_
 try simp only[go_sem]
 cases h
 rfl
def ziE (a0:Forest) (r3:Sl (Bool)) (x0:Int):St:=⟨(((((Regs.none.set 1 (.ptr 0 0 0)).set 4 (.d (.list r3.n (r3.l.map D.bool)))).set 14 (.d (.list a0.nodes.n (a0.nodes.l.map zao)))).set 15 (.d (.int .i64 (a0.nodes.l.length:Int)))).set 16 (.d (.int .i64 x0))),((Heap.at 14).set 0 (some (.els 1 [.d (zaa a0)] 0)))⟩
def zmX (a0:Forest) (r3:Sl (Bool)):((Unit)⊕(Int))→Ex×St:=fun r=>match r with
 |(.inl r)=>(.exit 0,⟨Regs.none,(Heap.at 14)⟩)
 |(.inr r)=>(.ret,⟨((Regs.none.set 2 (.d (.int .i64 (5)))).set 3 (.d (.int .i64 r))),(Heap.at 14)⟩)
noncomputable def zeH (a0:Forest) (r3:Sl (Bool)) (x0:Int):Option ((Int)⊕((Unit)⊕(Int))):=
 if(decide (x0<(a0.nodes.l.length:Int)))=true then
  (rd a0.nodes.l x0).bind fun y7=>
  (dec D.bool (pc prog 105 [zao y7])).bind fun r9=>
  if r9=true then
   (dec D.bool (pc prog 106 [zaa a0,.int .i64 (IntKind.wrap .i64 (x0+1))])).bind fun r13=>
   if r13=true then
    (rd r3.l (IntKind.wrap .i64 (x0+1))).bind fun y17=>
    if(!y17)=true then
     some (.inr (.inr (IntKind.wrap .i64 (x0+1))))
    else
     some (.inl (IntKind.wrap .i64 (x0+1)))
   else
    some (.inr (.inr (IntKind.wrap .i64 (x0+1))))
  else
   some (.inr (.inr (IntKind.wrap .i64 (x0+1))))
 else
  some (.inr (.inl ()))
theorem zDY (a0:Forest) (r3:Sl (Bool)) (x0:Int) (o:(Int)⊕((Unit)⊕(Int))) (h:zeH a0 r3 x0=some o):Wp prog zDE (ziE a0 r3 x0) (zbq (0,[]) (ziE a0 r3) (zmX a0 r3) o):=by
 unfold zeH at h
 delta zDE ziE
 try simp only[go_sem]
 refine zaf (fun hc5=> ?_) (fun hc6=> ?_)
 ·rw[if_pos hc5]at h
  try simp only[go_sem]
  obtain⟨y7,hy8,h⟩:=bs h
  try simp only[go_sem,zab hy8,zaj hy8,zac zao hy8]
  obtain⟨r9,hr10,h⟩:=bs h
  replace hr10:=zag hr10
  refine zal hr10 ?_
  try simp only[go_sem,zab hy8,zaj hy8,zac zao hy8]
  iterate 3 (refine zaA ?_;try simp only[go_sem,zab hy8,zaj hy8,zac zao hy8])
  refine zax (fun hc11=> ?_) (fun hc12=> ?_)
  ·rw[if_pos hc11]at h
   try simp only[go_sem,zab hy8,zaj hy8,zac zao hy8,hc11]
   obtain⟨r13,hr14,h⟩:=bs h
   replace hr14:=zag hr14
   refine zal hr14 ?_
   try simp only[go_sem,zab hy8,zaj hy8,zac zao hy8]
   iterate 3 (refine zaA ?_;try simp only[go_sem,zab hy8,zaj hy8,zac zao hy8])
   refine zax (fun hc15=> ?_) (fun hc16=> ?_)
   ·rw[if_pos hc15]at h
    try simp only[go_sem,zab hy8,zaj hy8,zac zao hy8,hc15]
    obtain⟨y17,hy18,h⟩:=bs h
    try simp only[go_sem,zab hy8,zaj hy8,zac zao hy8,zab hy18,zaj hy18,zac D.bool hy18]
    refine zaz (fun hc19=> ?_) (fun hc20=> ?_)
    ·rw[if_pos (show(!y17)=true by(rw[hc19];rfl))]at h
     try simp only[go_sem,zab hy8,zaj hy8,zac zao hy8,zab hy18,zaj hy18,zac D.bool hy18]
     cases h
     exact⟨rfl,by simp,Up.of (N:=14) (N':=43) [] rfl rfl (by decide) (.set (.d _) (.set (.d _) zae.none)) zah.at⟩
    rw[if_neg (ffn hc20)]at h
    try simp only[go_sem,zab hy8,zaj hy8,zac zao hy8,zab hy18,zaj hy18,zac D.bool hy18]
    cases h
    exact⟨rfl,Up.of (N:=14) (N':=41) [] rfl rfl (by decide) (.set (.d _) (.set (.d _) (.set (.d _) (.set (.d _) (.set (.ptr' rfl) zae.none))))) (.set zar.refl_d zah.at)⟩
   rw[if_neg (ff hc16)]at h
   try simp only[go_sem,zab hy8,zaj hy8,zac zao hy8,hc16]
   cases h
   exact⟨rfl,by simp,Up.of (N:=14) (N':=43) [] rfl rfl (by decide) (.set (.d _) (.set (.d _) zae.none)) zah.at⟩
  rw[if_neg (ff hc12)]at h
  try simp only[go_sem,zab hy8,zaj hy8,zac zao hy8,hc12]
  cases h
  exact⟨rfl,by simp,Up.of (N:=14) (N':=43) [] rfl rfl (by decide) (.set (.d _) (.set (.d _) zae.none)) zah.at⟩
 rw[if_neg (ff hc6)]at h
 try simp only[go_sem]
 cases h
 exact⟨rfl,by simp,Up.of (N:=14) (N':=15) [] rfl rfl (by decide) zae.none zah.at⟩
noncomputable def P61 (a0:Forest):Option (Int×Int):=
 if(decide (4096<(a0.nodes.l.length:Int)))=true then
  some (5,0)
 else
  (dec (eSl D.bool) (pc prog 104 [zaa a0])).bind fun r3=>
  (zaL (zeH a0 r3) 0).bind fun r27=>
  match r27 with
  |(.inl q29)=>
   some (0,0)
  |(.inr q30)=>
   some (5,q30)
theorem zQJ (a0:Forest) (r:Int×Int) (h:P61 a0=some r):pc prog 61 [zaa a0]=some ((eT2 (D.int .i64) (D.int .i64)) r):=by
 unfold P61 at h
 refine zaQ (fn:=c61) rfl rfl ?_
 delta c61
 try simp only[go_sem]
 refine zaf (fun hc1=> ?_) (fun hc2=> ?_)
 ·rw[if_pos hc1]at h
  try simp only[go_sem]
  cases h
  rfl
 rw[if_neg (ff hc2)]at h
 try simp only[go_sem]
 obtain⟨r3,hr4,h⟩:=bs h
 replace hr4:=zag hr4
 refine zal hr4 ?_
 try simp only[go_sem]
 obtain⟨r27,hl28,h⟩:=bs h
 refine Wp.loopR zaV (n:=(0,[])) (a:=zDE) rfl (ziE a0 r3) (zmX a0 r3) (zDY a0 r3) hl28 ?_ (by(repeat(first|refine Clo.block ?_|refine Clo.seq zaV rfl ?_));(exact Clo.ret)) ?_
 ·show Up (0,[]) (ziE a0 r3 0) _
  delta ziE
  exact Up.of (N:=14) (N':=14) [] rfl rfl (by decide) (.set (.d _) (.set (.d _) (.set (.d _) (.set (.d _) (.set (.ptr' rfl) zae.none))))) (.set zar.refl_d zah.at)
 rcases r27 with(q29|q30)
 ·dsimp only at h
  dsimp only[zmX]
  try simp only[go_sem]
  cases h
  rfl
 dsimp only at h
 dsimp only[zmX]
 try simp only[go_sem]
 cases h
 rfl
def ziF (a0:Forest) (x0:Int):St:=⟨((((Regs.none.set 1 (.ptr 0 0 0)).set 11 (.d (.list a0.nodes.n (a0.nodes.l.map zao)))).set 12 (.d (.int .i64 (a0.nodes.l.length:Int)))).set 13 (.d (.int .i64 x0))),((Heap.at 11).set 0 (some (.els 1 [.d (zaa a0)] 0)))⟩
def zmY (a0:Forest):((Unit)⊕(Int))→Ex×St:=fun r=>match r with
 |(.inl r)=>(.exit 0,⟨Regs.none,(Heap.at 11)⟩)
 |(.inr r)=>(.ret,⟨((Regs.none.set 2 (.d (.int .i64 (5)))).set 3 (.d (.int .i64 r))),(Heap.at 11)⟩)
noncomputable def zeI (a0:Forest) (x0:Int):Option ((Int)⊕((Unit)⊕(Int))):=
 if(decide (x0<(a0.nodes.l.length:Int)))=true then
  (rd a0.nodes.l x0).bind fun y5=>
  (dec D.bool (pc prog 111 [zao y5])).bind fun r7=>
  if r7=true then
   (dec D.bool (pc prog 112 [zaa a0,.int .i64 (IntKind.wrap .i64 (x0+1))])).bind fun r11=>
   if r11=true then
    (dec D.bool (pc prog 113 [zaa a0,.int .i64 (IntKind.wrap .i64 (x0+1))])).bind fun r15=>
    if r15=true then
     some (.inr (.inr (IntKind.wrap .i64 (x0+1))))
    else
     some (.inl (IntKind.wrap .i64 (x0+1)))
   else
    some (.inr (.inr (IntKind.wrap .i64 (x0+1))))
  else
   some (.inr (.inr (IntKind.wrap .i64 (x0+1))))
 else
  some (.inr (.inl ()))
theorem zDZ (a0:Forest) (x0:Int) (o:(Int)⊕((Unit)⊕(Int))) (h:zeI a0 x0=some o):Wp prog zDO (ziF a0 x0) (zbq (0,[]) (ziF a0) (zmY a0) o):=by
 unfold zeI at h
 delta zDO ziF
 try simp only[go_sem]
 refine zaf (fun hc3=> ?_) (fun hc4=> ?_)
 ·rw[if_pos hc3]at h
  try simp only[go_sem]
  obtain⟨y5,hy6,h⟩:=bs h
  try simp only[go_sem,zab hy6,zaj hy6,zac zao hy6]
  obtain⟨r7,hr8,h⟩:=bs h
  replace hr8:=zag hr8
  refine zal hr8 ?_
  try simp only[go_sem,zab hy6,zaj hy6,zac zao hy6]
  iterate 3 (refine zaA ?_;try simp only[go_sem,zab hy6,zaj hy6,zac zao hy6])
  refine zax (fun hc9=> ?_) (fun hc10=> ?_)
  ·rw[if_pos hc9]at h
   try simp only[go_sem,zab hy6,zaj hy6,zac zao hy6,hc9]
   obtain⟨r11,hr12,h⟩:=bs h
   replace hr12:=zag hr12
   refine zal hr12 ?_
   try simp only[go_sem,zab hy6,zaj hy6,zac zao hy6]
   iterate 3 (refine zaA ?_;try simp only[go_sem,zab hy6,zaj hy6,zac zao hy6])
   refine zax (fun hc13=> ?_) (fun hc14=> ?_)
   ·rw[if_pos hc13]at h
    try simp only[go_sem,zab hy6,zaj hy6,zac zao hy6,hc13]
    obtain⟨r15,hr16,h⟩:=bs h
    replace hr16:=zag hr16
    refine zal hr16 ?_
    try simp only[go_sem,zab hy6,zaj hy6,zac zao hy6]
    refine zaf (fun hc17=> ?_) (fun hc18=> ?_)
    ·rw[if_pos hc17]at h
     try simp only[go_sem,zab hy6,zaj hy6,zac zao hy6]
     cases h
     exact⟨rfl,by simp,Up.of (N:=11) (N':=38) [] rfl rfl (by decide) (.set (.d _) (.set (.d _) zae.none)) zah.at⟩
    rw[if_neg (ff hc18)]at h
    try simp only[go_sem,zab hy6,zaj hy6,zac zao hy6]
    cases h
    exact⟨rfl,Up.of (N:=11) (N':=36) [] rfl rfl (by decide) (.set (.d _) (.set (.d _) (.set (.d _) (.set (.ptr' rfl) zae.none)))) (.set zar.refl_d zah.at)⟩
   rw[if_neg (ff hc14)]at h
   try simp only[go_sem,zab hy6,zaj hy6,zac zao hy6,hc14]
   cases h
   exact⟨rfl,by simp,Up.of (N:=11) (N':=38) [] rfl rfl (by decide) (.set (.d _) (.set (.d _) zae.none)) zah.at⟩
  rw[if_neg (ff hc10)]at h
  try simp only[go_sem,zab hy6,zaj hy6,zac zao hy6,hc10]
  cases h
  exact⟨rfl,by simp,Up.of (N:=11) (N':=38) [] rfl rfl (by decide) (.set (.d _) (.set (.d _) zae.none)) zah.at⟩
 rw[if_neg (ff hc4)]at h
 try simp only[go_sem]
 cases h
 exact⟨rfl,by simp,Up.of (N:=11) (N':=12) [] rfl rfl (by decide) zae.none zah.at⟩
noncomputable def P77 (a0:Forest):Option (Int×Int):=
 if(decide (4096<(a0.nodes.l.length:Int)))=true then
  some (5,0)
 else
  (zaL (zeI a0) 0).bind fun r25=>
  match r25 with
  |(.inl q27)=>
   some (0,0)
  |(.inr q28)=>
   some (5,q28)
theorem zQK (a0:Forest) (r:Int×Int) (h:P77 a0=some r):pc prog 77 [zaa a0]=some ((eT2 (D.int .i64) (D.int .i64)) r):=by
 unfold P77 at h
 refine zaQ (fn:=c77) rfl rfl ?_
 delta c77
 try simp only[go_sem]
 refine zaf (fun hc1=> ?_) (fun hc2=> ?_)
 ·rw[if_pos hc1]at h
  try simp only[go_sem]
  cases h
  rfl
 rw[if_neg (ff hc2)]at h
 try simp only[go_sem]
 obtain⟨r25,hl26,h⟩:=bs h
 refine Wp.loopR zaV (n:=(0,[])) (a:=zDO) rfl (ziF a0) (zmY a0) (zDZ a0) hl26 ?_ (by(repeat(first|refine Clo.block ?_|refine Clo.seq zaV rfl ?_));(exact Clo.ret)) ?_
 ·show Up (0,[]) (ziF a0 0) _
  delta ziF
  exact Up.of (N:=11) (N':=11) [] rfl rfl (by decide) (.set (.d _) (.set (.d _) (.set (.d _) (.set (.ptr' rfl) zae.none)))) (.set zar.refl_d zah.at)
 rcases r25 with(q27|q28)
 ·dsimp only at h
  dsimp only[zmY]
  try simp only[go_sem]
  cases h
  rfl
 dsimp only at h
 dsimp only[zmY]
 try simp only[go_sem]
 cases h
 rfl
def zfV (a0:Forest) (x0:List (Int)×Int) (x1:List (Int)×List (Int)×Int):St:=⟨((((((Regs.none.set 1 (.ptr 0 0 0)).set 3 (.sl 6 0 (((IntKind.wrap .i64 ((a0.nodes.l.length:Int)+1))).toNat))).set 5 (mb 18 (x1.2.1.map fun z=>V.d ((D.int .i64) z)))).set 6 (.d (.int .i64 x1.2.2))).set 19 (.d (.int .i64 (a0.nodes.l.length:Int)))).set 20 (.d (.int .i64 x0.2))),((((Heap.at 19).set 0 (some (.els 1 [.d (zaa a0)] 0))).set 6 (some (.els 1 (x1.1.map fun z=>V.d ((D.int .i64) z)) (0)))).set 18 (mbB 1 x1.2.1.length (x1.2.1.map fun z=>V.d ((D.int .i64) z))))⟩
def zmZ (a0:Forest) (x0:List (Int)×Int):((List (Int)×Int×List (Int)))→Ex×St:=fun r=>(.exit 2,⟨((((((Regs.none.set 1 (.ptr 0 0 0)).set 3 (.sl 6 0 (((IntKind.wrap .i64 ((a0.nodes.l.length:Int)+1))).toNat))).set 5 (mb 18 (r.1.map fun z=>V.d ((D.int .i64) z)))).set 6 (.d (.int .i64 r.2.1))).set 19 (.d (.int .i64 (a0.nodes.l.length:Int)))).set 20 (.d (.int .i64 x0.2))),((((Heap.at 19).set 0 (some (.els 1 [.d (zaa a0)] 0))).set 6 (some (.els 1 (r.2.2.map fun z=>V.d ((D.int .i64) z)) (0)))).set 18 (mbB 1 r.1.length (r.1.map fun z=>V.d ((D.int .i64) z))))⟩)
noncomputable def zbV (a0:Forest) (x0:List (Int)×Int) (x1:List (Int)×List (Int)×Int):Option ((List (Int)×List (Int)×Int)⊕((List (Int)×Int×List (Int)))):=
 if(bif (decide (1≤x1.2.2))then(decide (x1.2.2≤(a0.nodes.l.length:Int)))else false)=true then
  (rdA x1.1 (((IntKind.wrap .i64 ((a0.nodes.l.length:Int)+1))).toNat) x1.2.2).bind fun y6=>
  if(y6==0)=true then
   if(x1.2.1.length+1)*8≤AI.roomBytes then
    (rd a0.nodes.l (IntKind.wrap .i64 (x1.2.2-1))).bind fun y11=>
    (dec (D.int .i64) (pc prog 126 [zao y11])).bind fun r13=>
    some (.inl ((x1.1.set (x1.2.2).toNat (1)),(x1.2.1++[x1.2.2]),r13))
   else none
  else
   some (.inr (x1.2.1,x1.2.2,x1.1))
 else
  some (.inr (x1.2.1,x1.2.2,x1.1))
theorem zzw (a0:Forest) (x0:List (Int)×Int) (x1:List (Int)×List (Int)×Int) (o:(List (Int)×List (Int)×Int)⊕((List (Int)×Int×List (Int)))) (h:zbV a0 x0 x1=some o):Wp prog zst (zfV a0 x0 x1) (zbq (0,[]) (zfV a0 x0) (zmZ a0 x0) o):=by
 unfold zbV at h
 delta zst zfV
 try simp only[go_sem]
 iterate 5 (refine zaA ?_;try simp only[go_sem])
 refine zax (fun hc4=> ?_) (fun hc5=> ?_)
 ·rw[if_pos hc4]at h
  try simp only[go_sem,hc4]
  obtain⟨y6,hy7,h⟩:=bs h
  try simp only[go_sem,zbo hy7,zbP hy7,zbW hy7,zaX hy7,zbp (D.int .i64) hy7]
  refine zaf (fun hc8=> ?_) (fun hc9=> ?_)
  ·rw[if_pos hc8]at h
   try simp only[go_sem,zbo hy7,zbP hy7,zbW hy7,zaX hy7,zbp (D.int .i64) hy7]
   obtain⟨hm10,h⟩:=zbM h
   refine zfB (l:=x1.2.1.map fun z=>V.d ((D.int .i64) z)) (new:=[V.d (.int .i64 x1.2.2)]) (sz:=1) (fz:=x1.2.1.length) (by simp only[go_sem,List.map_append,List.map_cons,List.map_nil,zbo hy7,zbP hy7,zbW hy7,zaX hy7,zbp (D.int .i64) hy7,zim (x:=1) (D.int .i64) (zaX hy7),zil (x:=1) (zaX hy7)]) (by intro h;simpa using h) (by simp only[go_sem,zbv,zbL,zbG,zbb,zfh]) (by simp) (by rfl) (by simpa using hm10) ?_
   try simp only[go_sem,zbo hy7,zbP hy7,zbW hy7,zaX hy7,zbp (D.int .i64) hy7,zim (x:=1) (D.int .i64) (zaX hy7),zil (x:=1) (zaX hy7),hm10]
   obtain⟨y11,hy12,h⟩:=bs h
   try simp only[go_sem,zbo hy7,zbP hy7,zbW hy7,zaX hy7,zbp (D.int .i64) hy7,zim (x:=1) (D.int .i64) (zaX hy7),zil (x:=1) (zaX hy7),hm10,zab hy12,zaj hy12,zac zao hy12]
   obtain⟨r13,hr14,h⟩:=bs h
   replace hr14:=zag hr14
   refine zal hr14 ?_
   try simp only[go_sem,zbo hy7,zbP hy7,zbW hy7,zaX hy7,zbp (D.int .i64) hy7,zim (x:=1) (D.int .i64) (zaX hy7),zil (x:=1) (zaX hy7),hm10,zab hy12,zaj hy12,zac zao hy12]
   cases h
   refine⟨rfl,Up.of (N:=19) (N':=52) [(18,42)] rfl rfl (by decide) ?_ ?_⟩
   ·refine zae.set ?_ (zae.set ?_ (zae.set ?_ (zae.set ?_ (zae.set ?_ (zae.set ?_ zae.none)))))
    all_goals (try simp only[go_sem,List.map_append,List.map_cons,List.map_nil,zbo hy7,zbP hy7,zbW hy7,zaX hy7,zbp (D.int .i64) hy7,zim (x:=1) (D.int .i64) (zaX hy7),zil (x:=1) (zaX hy7),hm10,zab hy12,zaj hy12,zac zao hy12])
    all_goals (first|exact VR.d _|exact VR.mb_sl (by(simp;done)) rfl (by(simp;done))|exact VR.ptr' rfl|exact VR.sl'' rfl (by simp))
   refine zah.set (show zar _ _ (Heap.get _ 42)from ?_) (zah.set (show zar _ _ (Heap.get _ 6)from ?_) (zah.set (show zar _ _ (Heap.get _ 0)from ?_) (zah.at)))
   all_goals (try simp only[go_sem,List.map_append,List.map_cons,List.map_nil,zbo hy7,zbP hy7,zbW hy7,zaX hy7,zbp (D.int .i64) hy7,zim (x:=1) (D.int .i64) (zaX hy7),zil (x:=1) (zaX hy7),hm10,zab hy12,zaj hy12,zac zao hy12])
   all_goals (((repeat' first|exact zar.refl_d|refine zar.els (by simp) ?_|refine zar.mb_els (by simp) ?_|exact VR.d _|exact VRL.nil|exact VRL.refl_d _ _|refine VRL.append ?_ ?_|refine VRL.cons ?_ ?_);done))
  rw[if_neg (ff hc9)]at h
  try simp only[go_sem,zbo hy7,zbP hy7,zbW hy7,zaX hy7,zbp (D.int .i64) hy7]
  cases h
  refine⟨rfl,by simp,Up.of (N:=19) (N':=35) [] rfl rfl (by decide) ?_ ?_⟩
  ·refine zae.set ?_ (zae.set ?_ (zae.set ?_ (zae.set ?_ (zae.set ?_ (zae.set ?_ zae.none)))))
   all_goals (try simp only[go_sem,List.map_append,List.map_cons,List.map_nil,zbo hy7,zbP hy7,zbW hy7,zaX hy7,zbp (D.int .i64) hy7])
   all_goals (first|exact VR.d _|exact VR.mb rfl|exact VR.ptr' rfl|exact VR.sl'' rfl (by simp))
  refine zah.set (show zar _ _ (Heap.get _ 18)from ?_) (zah.set (show zar _ _ (Heap.get _ 6)from ?_) (zah.set (show zar _ _ (Heap.get _ 0)from ?_) (zah.at)))
  all_goals (try simp only[go_sem,List.map_append,List.map_cons,List.map_nil,zbo hy7,zbP hy7,zbW hy7,zaX hy7,zbp (D.int .i64) hy7])
  all_goals (((repeat' first|exact zar.refl_d|refine zar.els (by simp) ?_|refine zar.mb (by simp) ?_|exact VRL.refl_d _ _);done))
 rw[if_neg (ff hc5)]at h
 try simp only[go_sem,hc5]
 cases h
 refine⟨rfl,by simp,Up.of (N:=19) (N':=35) [] rfl rfl (by decide) ?_ ?_⟩
 ·refine zae.set ?_ (zae.set ?_ (zae.set ?_ (zae.set ?_ (zae.set ?_ (zae.set ?_ zae.none)))))
  all_goals (try simp only[go_sem,List.map_append,List.map_cons,List.map_nil])
  all_goals (first|exact VR.d _|exact VR.mb rfl|exact VR.ptr' rfl|exact VR.sl'' rfl (by simp))
 refine zah.set (show zar _ _ (Heap.get _ 18)from ?_) (zah.set (show zar _ _ (Heap.get _ 6)from ?_) (zah.set (show zar _ _ (Heap.get _ 0)from ?_) (zah.at)))
 all_goals (try simp only[go_sem,List.map_append,List.map_cons,List.map_nil])
 all_goals (((repeat' first|exact zar.refl_d|refine zar.els (by simp) ?_|refine zar.mb (by simp) ?_|exact VRL.refl_d _ _);done))
def zfW (a0:Forest) (x0:List (Int)×Int) (r20:List (Int)×Int×List (Int)) (r28:Int) (x2:List (Int)×Int):St:=⟨((((((((Regs.none.set 1 (.ptr 0 0 0)).set 3 (.sl 6 0 (((IntKind.wrap .i64 ((a0.nodes.l.length:Int)+1))).toNat))).set 7 (.d (.int .i64 r28))).set 19 (.d (.int .i64 (a0.nodes.l.length:Int)))).set 20 (.d (.int .i64 x0.2))).set 71 (mb 18 (r20.1.map fun z=>V.d ((D.int .i64) z)))).set 72 (.d (.int .i64 (r20.1.length:Int)))).set 73 (.d (.int .i64 x2.2))),((((Heap.at 39).set 0 (some (.els 1 [.d (zaa a0)] 0))).set 6 (some (.els 1 (x2.1.map fun z=>V.d ((D.int .i64) z)) (0)))).set 18 (mbB 1 r20.1.length (r20.1.map fun z=>V.d ((D.int .i64) z))))⟩
def zna (a0:Forest) (x0:List (Int)×Int) (r20:List (Int)×Int×List (Int)) (r28:Int):((List (Int)))→Ex×St:=fun r=>(.exit 4,⟨((((Regs.none.set 1 (.ptr 0 0 0)).set 3 (.sl 6 0 (((IntKind.wrap .i64 ((a0.nodes.l.length:Int)+1))).toNat))).set 19 (.d (.int .i64 (a0.nodes.l.length:Int)))).set 20 (.d (.int .i64 x0.2))),(((Heap.at 39).set 0 (some (.els 1 [.d (zaa a0)] 0))).set 6 (some (.els 1 (r.map fun z=>V.d ((D.int .i64) z)) (0))))⟩)
noncomputable def zcg (a0:Forest) (x0:List (Int)×Int) (r20:List (Int)×Int×List (Int)) (r28:Int) (x2:List (Int)×Int):Option ((List (Int)×Int)⊕((List (Int)))):=
 if(decide (x2.2<(r20.1.length:Int)))=true then
  (rdA r20.1 r20.1.length x2.2).bind fun y32=>
  (rdA x2.1 (((IntKind.wrap .i64 ((a0.nodes.l.length:Int)+1))).toNat) y32).bind fun y34=>
  some (.inl ((x2.1.set (y32).toNat r28),(IntKind.wrap .i64 (x2.2+1))))
 else
  some (.inr x2.1)
theorem zzx (a0:Forest) (x0:List (Int)×Int) (r20:List (Int)×Int×List (Int)) (r28:Int) (x2:List (Int)×Int) (o:(List (Int)×Int)⊕((List (Int)))) (h:zcg a0 x0 r20 r28 x2=some o):Wp prog zkM (zfW a0 x0 r20 r28 x2) (zbq (0,[]) (zfW a0 x0 r20 r28) (zna a0 x0 r20 r28) o):=by
 unfold zcg at h
 delta zkM zfW
 try simp only[go_sem]
 refine zaf (fun hc30=> ?_) (fun hc31=> ?_)
 ·rw[if_pos hc30]at h
  try simp only[go_sem]
  obtain⟨y32,hy33,h⟩:=bs h
  have hne_hy33:=zgH hy33
  try simp only[go_sem,zbo hy33,zbP hy33,zbW hy33,zaX hy33,zbp (D.int .i64) hy33,zDq (zgH hy33),zsp (zgH hy33)]
  obtain⟨y34,hy35,h⟩:=bs h
  try simp only[go_sem,zbo hy33,zbP hy33,zbW hy33,zaX hy33,zbp (D.int .i64) hy33,zDq (zgH hy33),zsp (zgH hy33),zbo hy35,zbP hy35,zbW hy35,zaX hy35,zbp (D.int .i64) hy35]
  cases h
  exact⟨rfl,Up.of (N:=39) (N':=50) [] rfl rfl (by decide) (.set (.d _) (.set (.d _) (.set (by exact VR.sl'' rfl (by rfl)) (.set (.d _) (.set (.d _) (.set (.d _) (.set (.sl'' rfl (by rfl)) (.set (.ptr' rfl) zae.none)))))))) (.set (by exact zar.arr (e:=(D.int .i64)) (l:=r20.1) (by rfl) (Nat.le_refl _)) (.set (zar.arr (e:=(D.int .i64)) (l:=(x2.1.set (y32).toNat r28)) (by rfl) (by exact Nat.le_refl _)) (.set zar.refl_d zah.at)))⟩
 rw[if_neg (ff hc31)]at h
 try simp only[go_sem]
 cases h
 exact⟨rfl,by simp,Up.of (N:=39) (N':=40) [] rfl rfl (by decide) (.set (.d _) (.set (.d _) (.set (.sl'' rfl (by rfl)) (.set (.ptr' rfl) zae.none)))) (.set (zar.arr (e:=(D.int .i64)) (l:=x2.1) (by rfl) (by exact Nat.le_refl _)) (.set zar.refl_d zah.at))⟩
def zfX (a0:Forest) (x0:List (Int)×Int) (r20:List (Int)×Int×List (Int)) (x3:List (Int)×Int):St:=⟨((((((((Regs.none.set 1 (.ptr 0 0 0)).set 3 (.sl 6 0 (((IntKind.wrap .i64 ((a0.nodes.l.length:Int)+1))).toNat))).set 7 (.d (.int .i64 (2)))).set 19 (.d (.int .i64 (a0.nodes.l.length:Int)))).set 20 (.d (.int .i64 x0.2))).set 71 (mb 18 (r20.1.map fun z=>V.d ((D.int .i64) z)))).set 72 (.d (.int .i64 (r20.1.length:Int)))).set 73 (.d (.int .i64 x3.2))),((((Heap.at 39).set 0 (some (.els 1 [.d (zaa a0)] 0))).set 6 (some (.els 1 (x3.1.map fun z=>V.d ((D.int .i64) z)) (0)))).set 18 (mbB 1 r20.1.length (r20.1.map fun z=>V.d ((D.int .i64) z))))⟩
def znb (a0:Forest) (x0:List (Int)×Int) (r20:List (Int)×Int×List (Int)):((List (Int)))→Ex×St:=fun r=>(.exit 4,⟨((((Regs.none.set 1 (.ptr 0 0 0)).set 3 (.sl 6 0 (((IntKind.wrap .i64 ((a0.nodes.l.length:Int)+1))).toNat))).set 19 (.d (.int .i64 (a0.nodes.l.length:Int)))).set 20 (.d (.int .i64 x0.2))),(((Heap.at 39).set 0 (some (.els 1 [.d (zaa a0)] 0))).set 6 (some (.els 1 (r.map fun z=>V.d ((D.int .i64) z)) (0))))⟩)
noncomputable def zch (a0:Forest) (x0:List (Int)×Int) (r20:List (Int)×Int×List (Int)) (x3:List (Int)×Int):Option ((List (Int)×Int)⊕((List (Int)))):=
 if(decide (x3.2<(r20.1.length:Int)))=true then
  (rdA r20.1 r20.1.length x3.2).bind fun y40=>
  (rdA x3.1 (((IntKind.wrap .i64 ((a0.nodes.l.length:Int)+1))).toNat) y40).bind fun y42=>
  some (.inl ((x3.1.set (y40).toNat (2)),(IntKind.wrap .i64 (x3.2+1))))
 else
  some (.inr x3.1)
theorem zzy (a0:Forest) (x0:List (Int)×Int) (r20:List (Int)×Int×List (Int)) (x3:List (Int)×Int) (o:(List (Int)×Int)⊕((List (Int)))) (h:zch a0 x0 r20 x3=some o):Wp prog zkM (zfX a0 x0 r20 x3) (zbq (0,[]) (zfX a0 x0 r20) (znb a0 x0 r20) o):=by
 unfold zch at h
 delta zkM zfX
 try simp only[go_sem]
 refine zaf (fun hc38=> ?_) (fun hc39=> ?_)
 ·rw[if_pos hc38]at h
  try simp only[go_sem]
  obtain⟨y40,hy41,h⟩:=bs h
  have hne_hy41:=zgH hy41
  try simp only[go_sem,zbo hy41,zbP hy41,zbW hy41,zaX hy41,zbp (D.int .i64) hy41,zDq (zgH hy41),zsp (zgH hy41)]
  obtain⟨y42,hy43,h⟩:=bs h
  try simp only[go_sem,zbo hy41,zbP hy41,zbW hy41,zaX hy41,zbp (D.int .i64) hy41,zDq (zgH hy41),zsp (zgH hy41),zbo hy43,zbP hy43,zbW hy43,zaX hy43,zbp (D.int .i64) hy43]
  cases h
  exact⟨rfl,Up.of (N:=39) (N':=50) [] rfl rfl (by decide) (.set (.d _) (.set (.d _) (.set (by exact VR.sl'' rfl (by rfl)) (.set (.d _) (.set (.d _) (.set (.d _) (.set (.sl'' rfl (by rfl)) (.set (.ptr' rfl) zae.none)))))))) (.set (by exact zar.arr (e:=(D.int .i64)) (l:=r20.1) (by rfl) (Nat.le_refl _)) (.set (zar.arr (e:=(D.int .i64)) (l:=(x3.1.set (y40).toNat (2))) (by rfl) (by exact Nat.le_refl _)) (.set zar.refl_d zah.at)))⟩
 rw[if_neg (ff hc39)]at h
 try simp only[go_sem]
 cases h
 exact⟨rfl,by simp,Up.of (N:=39) (N':=40) [] rfl rfl (by decide) (.set (.d _) (.set (.d _) (.set (.sl'' rfl (by rfl)) (.set (.ptr' rfl) zae.none)))) (.set (zar.arr (e:=(D.int .i64)) (l:=x3.1) (by rfl) (by exact Nat.le_refl _)) (.set zar.refl_d zah.at))⟩
def zfY (a0:Forest) (x0:List (Int)×Int):St:=⟨((((Regs.none.set 1 (.ptr 0 0 0)).set 3 (.sl 6 0 (((IntKind.wrap .i64 ((a0.nodes.l.length:Int)+1))).toNat))).set 19 (.d (.int .i64 (a0.nodes.l.length:Int)))).set 20 (.d (.int .i64 x0.2))),(((Heap.at 12).set 0 (some (.els 1 [.d (zaa a0)] 0))).set 6 (some (.els 1 (x0.1.map fun z=>V.d ((D.int .i64) z)) (0))))⟩
def znc (a0:Forest):((List (Int)))→Ex×St:=fun r=>(.exit 0,⟨(Regs.none.set 3 (.sl 6 0 (((IntKind.wrap .i64 ((a0.nodes.l.length:Int)+1))).toNat))),((Heap.at 12).set 6 (some (.els 1 (r.map fun z=>V.d ((D.int .i64) z)) (0))))⟩)
noncomputable def zcq (a0:Forest) (x0:List (Int)×Int):Option ((List (Int)×Int)⊕((List (Int)))):=
 if(decide (x0.2<(a0.nodes.l.length:Int)))=true then
  (zaL (zbV a0 x0) (x0.1,[],(IntKind.wrap .i64 (x0.2+1)))).bind fun r20=>
  if(bif (decide (1≤r20.2.1))then(decide (r20.2.1≤(a0.nodes.l.length:Int)))else false)=true then
   (rdA r20.2.2 (((IntKind.wrap .i64 ((a0.nodes.l.length:Int)+1))).toNat) r20.2.1).bind fun y24=>
   (if(!(y24==2))=true then
    some 3
   else
    some 2:Option ((Int))).bind fun r28=>
   (zaL (zcg a0 x0 r20 r28) (r20.2.2,0)).bind fun r36=>
   some (.inl (r36,(IntKind.wrap .i64 (x0.2+1))))
  else
   (zaL (zch a0 x0 r20) (r20.2.2,0)).bind fun r44=>
   some (.inl (r44,(IntKind.wrap .i64 (x0.2+1))))
 else
  some (.inr x0.1)
theorem zzz (a0:Forest) (x0:List (Int)×Int) (o:(List (Int)×Int)⊕((List (Int)))) (h:zcq a0 x0=some o):Wp prog zsu (zfY a0 x0) (zbq (0,[]) (zfY a0) (znc a0) o):=by
 unfold zcq at h
 delta zsu zfY
 try simp only[go_sem]
 refine zaf (fun hc2=> ?_) (fun hc3=> ?_)
 ·rw[if_pos hc2]at h
  try simp only[go_sem]
  obtain⟨r20,hl21,h⟩:=bs h
  refine Wp.loopR zaV (n:=(0,[])) (a:=zst) rfl (zfV a0 x0) (zmZ a0 x0) (zzw a0 x0) hl21 ?_ (by(repeat(first|refine Clo.block ?_|refine Clo.seq zaV rfl ?_));(exact Clo.lpost (by decide))) ?_
  ·show Up (0,[]) (zfV a0 x0 (x0.1,[],(IntKind.wrap .i64 (x0.2+1)))) _
   delta zfV
   refine Up.of (N:=19) (N':=19) [] rfl rfl (by decide) ?_ ?_
   ·refine zae.set ?_ (zae.set ?_ (zae.set ?_ (zae.set ?_ (zae.set ?_ (zae.set ?_ zae.none)))))
    all_goals (try simp only[go_sem,List.map_append,List.map_cons,List.map_nil])
    all_goals (first|exact VR.d _|exact VR.ptr' rfl|exact VR.sl'' rfl (by simp))
   refine zah.set (show zar _ _ (Heap.get _ 18)from ?_) (zah.set (show zar _ _ (Heap.get _ 6)from ?_) (zah.set (show zar _ _ (Heap.get _ 0)from ?_) (zah.at)))
   all_goals (try simp only[go_sem,List.map_append,List.map_cons,List.map_nil])
   all_goals (((repeat' first|trivial|exact zar.refl_d|refine zar.els (by simp) ?_|exact VRL.refl_d _ _);done))
  dsimp only[zmZ]
  try simp only[go_sem]
  iterate 5 (refine zaA ?_;try simp only[go_sem])
  refine zax (fun hc22=> ?_) (fun hc23=> ?_)
  ·rw[if_pos hc22]at h
   try simp only[go_sem,hc22]
   obtain⟨y24,hy25,h⟩:=bs h
   try simp only[go_sem,zbo hy25,zbP hy25,zbW hy25,zaX hy25,zbp (D.int .i64) hy25]
   obtain⟨r28,hl29,h⟩:=bs h
   refine WBr.cut (n:=(0,[])) .normal ⟨((((((Regs.none.set 1 (.ptr 0 0 0)).set 3 (.sl 6 0 (((IntKind.wrap .i64 ((a0.nodes.l.length:Int)+1))).toNat))).set 5 (mb 18 (r20.1.map fun z=>V.d ((D.int .i64) z)))).set 7 (.d (.int .i64 r28))).set 19 (.d (.int .i64 (a0.nodes.l.length:Int)))).set 20 (.d (.int .i64 x0.2))),((((Heap.at 36).set 0 (some (.els 1 [.d (zaa a0)] 0))).set 6 (some (.els 1 (r20.2.2.map fun z=>V.d ((D.int .i64) z)) (0)))).set 18 (mbB 1 r20.1.length (r20.1.map fun z=>V.d ((D.int .i64) z))))⟩ ?_ (by(repeat(first|refine Clo.block ?_|refine Clo.seq zaV rfl ?_));(exact Clo.lpost (by decide))) ?_
   ·replace h:=hl29
    refine zaz (fun hc26=> ?_) (fun hc27=> ?_)
    ·rw[if_pos (show(!(y24==2))=true by(rw[hc26];rfl))]at h
     try simp only[go_sem,zbo hy25,zbP hy25,zbW hy25,zaX hy25,zbp (D.int .i64) hy25]
     cases h
     exact⟨rfl,Up.of (N:=36) (N':=37) [] rfl rfl (by decide) (.set (.d _) (.set (.d _) (.set (.d _) (.set (.mb rfl) (.set (.sl'' rfl (by rfl)) (.set (.ptr' rfl) zae.none)))))) (.set (zar.mb (Nat.le_refl _) (VRL.refl_d _ _)) (.set (zar.arr (e:=(D.int .i64)) (l:=r20.2.2) (by rfl) (by exact Nat.le_refl _)) (.set zar.refl_d zah.at)))⟩
    rw[if_neg (ffn hc27)]at h
    try simp only[go_sem,zbo hy25,zbP hy25,zbW hy25,zaX hy25,zbp (D.int .i64) hy25]
    cases h
    exact⟨rfl,Up.of (N:=36) (N':=36) [] rfl rfl (by decide) (.set (.d _) (.set (.d _) (.set (.d _) (.set (.mb rfl) (.set (.sl'' rfl (by rfl)) (.set (.ptr' rfl) zae.none)))))) (.set (zar.mb (Nat.le_refl _) (VRL.refl_d _ _)) (.set (zar.arr (e:=(D.int .i64)) (l:=r20.2.2) (by rfl) (by exact Nat.le_refl _)) (.set zar.refl_d zah.at)))⟩
   try simp only[go_sem,zbo hy25,zbP hy25,zbW hy25,zaX hy25,zbp (D.int .i64) hy25]
   obtain⟨r36,hl37,h⟩:=bs h
   refine Wp.loopR zaV (n:=(0,[])) (a:=zkM) rfl (zfW a0 x0 r20 r28) (zna a0 x0 r20 r28) (zzx a0 x0 r20 r28) hl37 ?_ (by(repeat(first|refine Clo.block ?_|refine Clo.seq zaV rfl ?_));(exact Clo.lpost (by decide))) ?_
   ·show Up (0,[]) (zfW a0 x0 r20 r28 (r20.2.2,0)) _
    delta zfW
    exact Up.of (N:=39) (N':=39) [] rfl rfl (by decide) (.set (.d _) (.set (.d _) (.set (.mb rfl) (.set (.d _) (.set (.d _) (.set (.d _) (.set (.sl'' rfl (by rfl)) (.set (.ptr' rfl) zae.none)))))))) (.set (zar.mb (Nat.le_refl _) (VRL.refl_d _ _)) (.set (zar.arr (e:=(D.int .i64)) (l:=r20.2.2) (by rfl) (by exact Nat.le_refl _)) (.set zar.refl_d zah.at)))
   dsimp only[zna]
   try simp only[go_sem,zbo hy25,zbP hy25,zbW hy25,zaX hy25,zbp (D.int .i64) hy25]
   cases h
   exact⟨rfl,Up.of (N:=12) (N':=41) [] rfl rfl (by decide) (.set (.d _) (.set (.d _) (.set (.sl'' rfl (by rfl)) (.set (.ptr' rfl) zae.none)))) (.set (zar.arr (e:=(D.int .i64)) (l:=r36) (by rfl) (by exact Nat.le_refl _)) (.set zar.refl_d zah.at))⟩
  rw[if_neg (ff hc23)]at h
  try simp only[go_sem,hc23]
  obtain⟨r44,hl45,h⟩:=bs h
  refine Wp.loopR zaV (n:=(0,[])) (a:=zkM) rfl (zfX a0 x0 r20) (znb a0 x0 r20) (zzy a0 x0 r20) hl45 ?_ (by(repeat(first|refine Clo.block ?_|refine Clo.seq zaV rfl ?_));(exact Clo.lpost (by decide))) ?_
  ·show Up (0,[]) (zfX a0 x0 r20 (r20.2.2,0)) _
   delta zfX
   exact Up.of (N:=39) (N':=39) [] rfl rfl (by decide) (.set (.d _) (.set (.d _) (.set (.mb rfl) (.set (.d _) (.set (.d _) (.set (.d _) (.set (.sl'' rfl (by rfl)) (.set (.ptr' rfl) zae.none)))))))) (.set (zar.mb (Nat.le_refl _) (VRL.refl_d _ _)) (.set (zar.arr (e:=(D.int .i64)) (l:=r20.2.2) (by rfl) (by exact Nat.le_refl _)) (.set zar.refl_d zah.at)))
  dsimp only[znb]
  try simp only[go_sem]
  cases h
  exact⟨rfl,Up.of (N:=12) (N':=41) [] rfl rfl (by decide) (.set (.d _) (.set (.d _) (.set (.sl'' rfl (by rfl)) (.set (.ptr' rfl) zae.none)))) (.set (zar.arr (e:=(D.int .i64)) (l:=r44) (by rfl) (by exact Nat.le_refl _)) (.set zar.refl_d zah.at))⟩
 rw[if_neg (ff hc3)]at h
 try simp only[go_sem]
 cases h
 exact⟨rfl,by simp,Up.of (N:=12) (N':=13) [] rfl rfl (by decide) (.set (.sl'' rfl (by rfl)) zae.none) (.set (zar.arr (e:=(D.int .i64)) (l:=x0.1) (by rfl) (by exact Nat.le_refl _)) zah.at)⟩
def zfZ (a0:Forest) (r51:List (Int)) (x4:List (Bool)×Int):St:=⟨((((Regs.none.set 3 (.sl 6 0 (((IntKind.wrap .i64 ((a0.nodes.l.length:Int)+1))).toNat))).set 10 (.sl 14 0 (((IntKind.wrap .i64 ((a0.nodes.l.length:Int)+1))).toNat))).set 87 (.d (.int .i64 (((((IntKind.wrap .i64 ((a0.nodes.l.length:Int)+1))).toNat):Nat):Int)))).set 88 (.d (.int .i64 x4.2))),(((Heap.at 19).set 6 (some (.els 1 (r51.map fun z=>V.d ((D.int .i64) z)) (0)))).set 14 (some (.els 1 (x4.1.map fun z=>V.d (D.bool z)) (0))))⟩
def znd (a0:Forest) (r51:List (Int)):((List (Bool)))→Ex×St:=fun r=>(.exit 6,⟨(Regs.none.set 10 (.sl 14 0 (((IntKind.wrap .i64 ((a0.nodes.l.length:Int)+1))).toNat))),((Heap.at 19).set 14 (some (.els 1 (r.map fun z=>V.d (D.bool z)) (0))))⟩)
noncomputable def zcW (a0:Forest) (r51:List (Int)) (x4:List (Bool)×Int):Option ((List (Bool)×Int)⊕((List (Bool)))):=
 if(decide (x4.2<(((((IntKind.wrap .i64 ((a0.nodes.l.length:Int)+1))).toNat):Nat):Int)))=true then
  (rdA r51 (((IntKind.wrap .i64 ((a0.nodes.l.length:Int)+1))).toNat) x4.2).bind fun y56=>
  (rdA x4.1 (((IntKind.wrap .i64 ((a0.nodes.l.length:Int)+1))).toNat) x4.2).bind fun y58=>
  some (.inl ((x4.1.set (x4.2).toNat (y56==2)),(IntKind.wrap .i64 (x4.2+1))))
 else
  some (.inr x4.1)
theorem zzA (a0:Forest) (r51:List (Int)) (x4:List (Bool)×Int) (o:(List (Bool)×Int)⊕((List (Bool)))) (h:zcW a0 r51 x4=some o):Wp prog zsv (zfZ a0 r51 x4) (zbq (0,[]) (zfZ a0 r51) (znd a0 r51) o):=by
 unfold zcW at h
 delta zsv zfZ
 try simp only[go_sem]
 refine zaf (fun hc54=> ?_) (fun hc55=> ?_)
 ·rw[if_pos hc54]at h
  try simp only[go_sem]
  obtain⟨y56,hy57,h⟩:=bs h
  try simp only[go_sem,zbo hy57,zbP hy57,zbW hy57,zaX hy57,zbp (D.int .i64) hy57]
  obtain⟨y58,hy59,h⟩:=bs h
  try simp only[go_sem,zbo hy57,zbP hy57,zbW hy57,zaX hy57,zbp (D.int .i64) hy57,zbo hy59,zbP hy59,zbW hy59,zaX hy59,zbp D.bool hy59]
  cases h
  exact⟨rfl,Up.of (N:=19) (N':=33) [] rfl rfl (by decide) (.set (.d _) (.set (.d _) (.set (.sl'' rfl (by rfl)) (.set (.sl'' rfl (by rfl)) zae.none)))) (.set (zar.arr (e:=D.bool) (l:=(x4.1.set (x4.2).toNat (y56==2))) (by rfl) (by exact Nat.le_refl _)) (.set (zar.arr (e:=(D.int .i64)) (l:=r51) (by rfl) (by exact Nat.le_refl _)) zah.at))⟩
 rw[if_neg (ff hc55)]at h
 try simp only[go_sem]
 cases h
 exact⟨rfl,by simp,Up.of (N:=19) (N':=20) [] rfl rfl (by decide) (.set (.sl'' rfl (by rfl)) zae.none) (.set (zar.arr (e:=D.bool) (l:=x4.1) (by rfl) (by exact Nat.le_refl _)) zah.at)⟩
noncomputable def zOx (a0:Forest):Option (Sl (Bool)):=
 if 0≤(IntKind.wrap .i64 ((a0.nodes.l.length:Int)+1))∧((IntKind.wrap .i64 ((a0.nodes.l.length:Int)+1))).toNat*8≤AI.roomBytes then
  (zaL (zcq a0) ((List.replicate ((IntKind.wrap .i64 ((a0.nodes.l.length:Int)+1))).toNat 0),0)).bind fun r51=>
  if 0≤((((IntKind.wrap .i64 ((a0.nodes.l.length:Int)+1))).toNat:Nat):Int)∧(((IntKind.wrap .i64 ((a0.nodes.l.length:Int)+1))).toNat)*1≤AI.roomBytes then
   (zaL (zcW a0 r51) ((List.replicate (((IntKind.wrap .i64 ((a0.nodes.l.length:Int)+1))).toNat) false),0)).bind fun r60=>
   if r60.length=(((IntKind.wrap .i64 ((a0.nodes.l.length:Int)+1))).toNat)then
    some (⟨false,r60⟩)
   else none
  else none
 else none
theorem zOy (a0:Forest) (r:Sl (Bool)) (h:zOx a0=some r):pc prog 104 [zaa a0]=some ((eSl D.bool) r):=by
 unfold zOx at h
 refine zaQ (fn:=zMQ) rfl rfl ?_
 delta zMQ
 try simp only[go_sem]
 obtain⟨hm1,h⟩:=zbM h
 simp only[go_sem,zkh,zkj,hm1.1,hm1.2,Nat.le_refl,and_self,if_true,Option.bind_some,zzd,zsq,zze]
 obtain⟨r51,hl52,h⟩:=bs h
 refine Wp.loopR zaV (n:=(0,[])) (a:=zsu) rfl (zfY a0) (znc a0) (zzz a0) hl52 ?_ (by(repeat(first|refine Clo.block ?_|refine Clo.seq zaV rfl ?_));(exact Clo.ret)) ?_
 ·show Up (0,[]) (zfY a0 ((List.replicate ((IntKind.wrap .i64 ((a0.nodes.l.length:Int)+1))).toNat 0),0)) _
  delta zfY
  exact Up.of (N:=12) (N':=12) [] rfl rfl (by decide) (.set (.d _) (.set (.d _) (.set (.sl'' rfl (by rfl)) (.set (.ptr' rfl) zae.none)))) (.set (zar.arr (e:=(D.int .i64)) (l:=(List.replicate ((IntKind.wrap .i64 ((a0.nodes.l.length:Int)+1))).toNat 0)) (by rfl) (by exact Nat.le_refl _)) (.set zar.refl_d zah.at))
 dsimp only[znc]
 try simp only[go_sem,hm1.1,hm1.2]
 obtain⟨hm53,h⟩:=zbM h
 simp only[go_sem,hm1.1,hm1.2,zkh,zkj,hm53.1,hm53.2,Nat.le_refl,and_self,if_true,Option.bind_some,zzd,zsq,zze]
 obtain⟨r60,hl61,h⟩:=bs h
 refine Wp.loopR zaV (n:=(0,[])) (a:=zsv) rfl (zfZ a0 r51) (znd a0 r51) (zzA a0 r51) hl61 ?_ (by(repeat(first|refine Clo.block ?_|refine Clo.seq zaV rfl ?_));(exact Clo.ret)) ?_
 ·show Up (0,[]) (zfZ a0 r51 ((List.replicate (((IntKind.wrap .i64 ((a0.nodes.l.length:Int)+1))).toNat) false),0)) _
  delta zfZ
  exact Up.of (N:=19) (N':=19) [] rfl rfl (by decide) (.set (.d _) (.set (.d _) (.set (.sl'' rfl (by rfl)) (.set (.sl'' rfl (by rfl)) zae.none)))) (.set (zar.arr (e:=D.bool) (l:=(List.replicate (((IntKind.wrap .i64 ((a0.nodes.l.length:Int)+1))).toNat) false)) (by rfl) (by exact Nat.le_refl _)) (.set (zar.arr (e:=(D.int .i64)) (l:=r51) (by rfl) (by exact Nat.le_refl _)) zah.at))
 dsimp only[znd]
 try simp only[go_sem,hm1.1,hm1.2,hm53.1,hm53.2]
 obtain⟨hq62,h⟩:=zbM h
 cases h
 refine Reads.ofv (v':= .sl 14 0 (((IntKind.wrap .i64 ((a0.nodes.l.length:Int)+1))).toNat)) (by rfl) (Rd.sl (e:=D.bool) (l:=r60) (sz:=1) (fz:=0) (m:=r60.map fun z=>V.d (D.bool z)) (by simp only[go_sem,List.map_append,List.map_cons,List.map_nil,hm1.1,hm1.2,hm53.1,hm53.2,hq62]) rfl (by exact hq62)) rfl
noncomputable def zOz (a0:Node):Option (Bool):=
 (dec zaH (pc prog 127 [.int .u8 a0.kind])).bind fun r1=>
 (if r1.known=true then
  (dec D.bool (pc prog 128 [zao a0,zaH r1])).bind fun r5=>
  if r5=true then
   (dec D.bool (pc prog 129 [.list a0.attrs.n (a0.attrs.l.map zbg)])).bind fun r9=>
   some (!r9)
  else
   some true
 else
  some true:Option ((Bool))).bind fun r13=>
 if r13=true then
  some false
 else
  (dec D.bool (pc prog 130 [.list false (([a0.public_,a0.system]).map D.str)])).bind fun r17=>
  if r17=true then
   (if(!(a0.kind==10))=true then
    some (bif (!(a0.public_==[]))then true else(!(a0.system==[])))
   else
    some false:Option ((Bool))).bind fun r23=>
   if r23=true then
    some false
   else
    (if(!(decide (16384<(a0.data.l.length:Int))))=true then
     if(!(bif (!r1.data)then(decide (0<(a0.data.l.length:Int)))else false))=true then
      some (bif (!r1.kids)then(decide (0<(a0.kids.l.length:Int)))else false)
     else
      some true
    else
     some true:Option ((Bool))).bind fun r47=>
    (if r47=true then
     some (.inr ())
    else
     if(!(a0.kind==1))=true then
      if(!(bif (decide (0<(a0.attrs.l.length:Int)))then true else(!(a0.shadow==0))))=true then
       if(bif (!(a0.kind==9))then a0.hTML else false)=true then
        some (.inr ())
       else
        if(bif (!r1.hung)then(!(a0.parent==0))else false)=true then
         some (.inr ())
        else
         some (.inl ())
      else
       some (.inr ())
     else
      if(bif (!(a0.kind==9))then a0.hTML else false)=true then
       some (.inr ())
      else
       if(bif (!r1.hung)then(!(a0.parent==0))else false)=true then
        some (.inr ())
       else
        some (.inl ()):Option ((Unit)⊕(Unit))).bind fun r95=>
    match r95 with
    |(.inl q97)=>
     if(a0.kind==12)=true then
      some (bif (a0.mode==1)then true else(a0.mode==2))
     else
      some (bif (bif (a0.mode==0)then(!a0.manual)else false)then(a0.host==0)else false)
    |(.inr q109)=>
     some false
  else
   some false
theorem zOA (a0:Node) (r:Bool) (h:zOz a0=some r):pc prog 105 [zao a0]=some (D.bool r):=by
 unfold zOz at h
 refine zaQ (fn:=zMR) rfl rfl ?_
 delta zMR
 try simp only[go_sem]
 obtain⟨r1,hr2,h⟩:=bs h
 replace hr2:=zag hr2
 refine zal hr2 ?_
 try simp only[go_sem]
 iterate 2 (refine zaA ?_;try simp only[go_sem])
 obtain⟨r13,hl14,h⟩:=bs h
 refine zbD.cut (n:=(0,[])) .normal ⟨((((Regs.none.set 1 (.ptr 0 0 0)).set 3 (.ptr 5 0 0)).set 4 (.d (.bool (a0.kind==1)))).set 11 (.d (.bool r13))),(((Heap.at 27).set 0 (some (.els 16 [.d (zao a0)] 0))).set 5 (some (.els 6 [.d (zaH r1)] 0)))⟩ ?_ (by(repeat(first|refine Clo.block ?_|refine Clo.seq zaV rfl ?_));(exact Clo.ret)) ?_
 ·replace h:=hl14
  refine zax (fun hc3=> ?_) (fun hc4=> ?_)
  ·rw[if_pos hc3]at h
   try simp only[go_sem,hc3]
   obtain⟨r5,hr6,h⟩:=bs h
   replace hr6:=zag hr6
   refine zal hr6 ?_
   try simp only[go_sem]
   iterate 2 (refine zaA ?_;try simp only[go_sem])
   refine zax (fun hc7=> ?_) (fun hc8=> ?_)
   ·rw[if_pos hc7]at h
    try simp only[go_sem,hc7]
    obtain⟨r9,hr10,h⟩:=bs h
    replace hr10:=zag hr10
    refine zal hr10 ?_
    try simp only[go_sem]
    cases h
    exact⟨rfl,Up.of (N:=27) (N':=27) [] rfl rfl (by decide) (.set (.d _) (.set (.d _) (.set (.ptr' rfl) (.set (.ptr' rfl) zae.none)))) (.set zar.refl_d (.set zar.refl_d zah.at))⟩
   rw[if_neg (ff hc8)]at h
   try simp only[go_sem,hc8]
   cases h
   exact⟨rfl,Up.of (N:=27) (N':=27) [] rfl rfl (by decide) (.set (.d _) (.set (.d _) (.set (.ptr' rfl) (.set (.ptr' rfl) zae.none)))) (.set zar.refl_d (.set zar.refl_d zah.at))⟩
  rw[if_neg (ff hc4)]at h
  try simp only[go_sem,hc4]
  cases h
  exact⟨rfl,Up.of (N:=27) (N':=27) [] rfl rfl (by decide) (.set (.d _) (.set (.d _) (.set (.ptr' rfl) (.set (.ptr' rfl) zae.none)))) (.set zar.refl_d (.set zar.refl_d zah.at))⟩
 try simp only[go_sem]
 refine zaf (fun hc15=> ?_) (fun hc16=> ?_)
 ·rw[if_pos hc15]at h
  try simp only[go_sem]
  cases h
  rfl
 rw[if_neg (ff hc16)]at h
 try simp only[go_sem]
 obtain⟨r17,hr18,h⟩:=bs h
 replace hr18:=zag hr18
 refine zal hr18 ?_
 try simp only[go_sem]
 iterate 11 (refine zaA ?_;try simp only[go_sem])
 rcases Bool.eq_false_or_eq_true (r17)with hc19|hc20
 ·rw[if_pos hc19]at h
  try simp only[go_sem,hc19]
  obtain⟨r23,hl24,h⟩:=bs h
  refine zbD.cut (n:=(0,[])) .normal ⟨((((Regs.none.set 1 (.ptr 0 0 0)).set 3 (.ptr 5 0 0)).set 4 (.d (.bool (a0.kind==1)))).set 27 (.d (.bool r23))),(((Heap.at 50).set 0 (some (.els 16 [.d (zao a0)] 0))).set 5 (some (.els 6 [.d (zaH r1)] 0)))⟩ ?_ (by(repeat(first|refine Clo.block ?_|refine Clo.seq zaV rfl ?_));(exact Clo.ret)) ?_
  ·replace h:=hl24
   refine zaB (fun hc21=> ?_) (fun hc22=> ?_)
   ·rw[if_pos (show(!(a0.kind==10))=true by(rw[hc21];rfl))]at h
    try simp only[go_sem,hc21]
    try simp only[go_sem,hc16,hc19,hc21]
    cases h
    exact⟨rfl,Up.of (N:=50) (N':=50) [] rfl rfl (by decide) (.set (.d _) (.set (.d _) (.set (.ptr' rfl) (.set (.ptr' rfl) zae.none)))) (.set zar.refl_d (.set zar.refl_d zah.at))⟩
   rw[if_neg (ffn hc22)]at h
   try simp only[go_sem,hc22]
   try simp only[go_sem,hc16,hc19,hc22]
   cases h
   exact⟨rfl,Up.of (N:=50) (N':=50) [] rfl rfl (by decide) (.set (.d _) (.set (.d _) (.set (.ptr' rfl) (.set (.ptr' rfl) zae.none)))) (.set zar.refl_d (.set zar.refl_d zah.at))⟩
  try simp only[go_sem]
  refine zaf (fun hc25=> ?_) (fun hc26=> ?_)
  ·rw[if_pos hc25]at h
   try simp only[go_sem]
   cases h
   rfl
  rw[if_neg (ff hc26)]at h
  try simp only[go_sem]
  iterate 8 (refine zaA ?_;try simp only[go_sem])
  obtain⟨r47,hl48,h⟩:=bs h
  refine zbD.cut (n:=(0,[])) .normal ⟨((((Regs.none.set 1 (.ptr 0 0 0)).set 3 (.ptr 5 0 0)).set 4 (.d (.bool (a0.kind==1)))).set 50 (.d (.bool r47))),(((Heap.at 77).set 0 (some (.els 16 [.d (zao a0)] 0))).set 5 (some (.els 6 [.d (zaH r1)] 0)))⟩ ?_ (by(repeat(first|refine Clo.block ?_|refine Clo.seq zaV rfl ?_));(exact Clo.ret)) ?_
  ·replace h:=hl48
   refine zaB (fun hc27=> ?_) (fun hc28=> ?_)
   ·rw[if_pos (show(!(decide (16384<(a0.data.l.length:Int))))=true by(rw[hc27];rfl))]at h
    try simp only[go_sem,hc27]
    iterate 8 (refine zaA ?_;try simp only[go_sem])
    refine zaB (fun hc29=> ?_) (fun hc30=> ?_)
    ·rw[if_pos (show(!(bif (!r1.data)then(decide (0<(a0.data.l.length:Int)))else false))=true by(rw[hc29];rfl))]at h
     try simp only[go_sem,hc29]
     cases h
     exact⟨rfl,Up.of (N:=77) (N':=77) [] rfl rfl (by decide) (.set (.d _) (.set (.d _) (.set (.ptr' rfl) (.set (.ptr' rfl) zae.none)))) (.set zar.refl_d (.set zar.refl_d zah.at))⟩
    rw[if_neg (ffn hc30)]at h
    try simp only[go_sem,hc30]
    cases h
    exact⟨rfl,Up.of (N:=77) (N':=77) [] rfl rfl (by decide) (.set (.d _) (.set (.d _) (.set (.ptr' rfl) (.set (.ptr' rfl) zae.none)))) (.set zar.refl_d (.set zar.refl_d zah.at))⟩
   rw[if_neg (ffn hc28)]at h
   try simp only[go_sem,hc28]
   cases h
   exact⟨rfl,Up.of (N:=77) (N':=77) [] rfl rfl (by decide) (.set (.d _) (.set (.d _) (.set (.ptr' rfl) (.set (.ptr' rfl) zae.none)))) (.set zar.refl_d (.set zar.refl_d zah.at))⟩
  try simp only[go_sem]
  obtain⟨r95,hl96,h⟩:=bs h
  refine zek (n:=(0,[])) (fun r=>match r with|(.inl r)=>(.normal,⟨(Regs.none.set 1 (.ptr 0 0 0)),((Heap.at 77).set 0 (some (.els 16 [.d (zao a0)] 0)))⟩)|(.inr r)=>(.ret,⟨(Regs.none.set 2 (.d (.bool false))),(Heap.at 77)⟩):((Unit)⊕(Unit))→Ex×St) r95 ?_ (by(repeat(first|refine Clo.block ?_|refine Clo.seq zaV rfl ?_));(exact Clo.ret)) ?_
  ·replace h:=hl96
   refine zaf (fun hc49=> ?_) (fun hc50=> ?_)
   ·rw[if_pos hc49]at h
    try simp only[go_sem]
    cases h
    exact⟨rfl,Up.of (N:=77) (N':=78) [] rfl rfl (by decide) (.set (.d _) zae.none) zah.at⟩
   rw[if_neg (ff hc50)]at h
   try simp only[go_sem]
   iterate 8 (refine zaA ?_;try simp only[go_sem])
   refine zaB (fun hc51=> ?_) (fun hc52=> ?_)
   ·rw[if_pos (show(!(a0.kind==1))=true by(rw[hc51];rfl))]at h
    try simp only[go_sem,hc51]
    iterate 6 (refine zaA ?_;try simp only[go_sem])
    refine zaB (fun hc53=> ?_) (fun hc54=> ?_)
    ·rw[if_pos (show(!(bif (decide (0<(a0.attrs.l.length:Int)))then true else(!(a0.shadow==0))))=true by(rw[hc53];rfl))]at h
     try simp only[go_sem,hc53]
     refine zaf (fun hc55=> ?_) (fun hc56=> ?_)
     ·rw[if_pos hc55]at h
      try simp only[go_sem]
      cases h
      exact⟨rfl,Up.of (N:=77) (N':=101) [] rfl rfl (by decide) (.set (.d _) zae.none) zah.at⟩
     rw[if_neg (ff hc56)]at h
     try simp only[go_sem]
     iterate 3 (refine zaA ?_;try simp only[go_sem])
     refine zaf (fun hc57=> ?_) (fun hc58=> ?_)
     ·rw[if_pos hc57]at h
      try simp only[go_sem]
      cases h
      exact⟨rfl,Up.of (N:=77) (N':=110) [] rfl rfl (by decide) (.set (.d _) zae.none) zah.at⟩
     rw[if_neg (ff hc58)]at h
     try simp only[go_sem]
     cases h
     exact⟨rfl,Up.of (N:=77) (N':=109) [] rfl rfl (by decide) (.set (.ptr' rfl) zae.none) (.set zar.refl_d zah.at)⟩
    rw[if_neg (ffn hc54)]at h
    try simp only[go_sem,hc54]
    cases h
    exact⟨rfl,Up.of (N:=77) (N':=101) [] rfl rfl (by decide) (.set (.d _) zae.none) zah.at⟩
   rw[if_neg (ffn hc52)]at h
   try simp only[go_sem,hc52]
   iterate 2 (refine zaA ?_;try simp only[go_sem])
   refine zaf (fun hc72=> ?_) (fun hc73=> ?_)
   ·rw[if_pos hc72]at h
    try simp only[go_sem]
    cases h
    exact⟨rfl,Up.of (N:=77) (N':=101) [] rfl rfl (by decide) (.set (.d _) zae.none) zah.at⟩
   rw[if_neg (ff hc73)]at h
   try simp only[go_sem]
   iterate 3 (refine zaA ?_;try simp only[go_sem])
   refine zaf (fun hc74=> ?_) (fun hc75=> ?_)
   ·rw[if_pos hc74]at h
    try simp only[go_sem]
    cases h
    exact⟨rfl,Up.of (N:=77) (N':=110) [] rfl rfl (by decide) (.set (.d _) zae.none) zah.at⟩
   rw[if_neg (ff hc75)]at h
   try simp only[go_sem]
   cases h
   exact⟨rfl,Up.of (N:=77) (N':=109) [] rfl rfl (by decide) (.set (.ptr' rfl) zae.none) (.set zar.refl_d zah.at)⟩
  rcases r95 with(q97|q109)
  ·dsimp only at h⊢
   try simp only[go_sem]
   refine zaf (fun hc98=> ?_) (fun hc99=> ?_)
   ·rw[if_pos hc98]at h
    try simp only[go_sem]
    iterate 3 (refine zaA ?_;try simp only[go_sem])
    cases h
    rfl
   rw[if_neg (ff hc99)]at h
   try simp only[go_sem]
   iterate 6 (refine zaA ?_;try simp only[go_sem])
   cases h
   rfl
  dsimp only at h⊢
  try simp only[go_sem]
  cases h
  rfl
 rw[if_neg (ff hc20)]at h
 try simp only[go_sem,hc20]
 cases h
 rfl
noncomputable def zOB (a0:Forest) (a1:Int):Option (Bool):=
 (rd a0.nodes.l (IntKind.wrap .i64 (a1-1))).bind fun y1=>
 (if(!(y1.parent==0))=true then
  (dec (eT2 zao D.bool) (pc prog 131 [zaa a0,.int .i64 y1.parent])).bind fun r5=>
  (if r5.2=true then
   (dec D.bool (pc prog 132 [.list r5.1.kids.n (r5.1.kids.l.map (D.int .i64)),.int .i64 a1])).bind fun r9=>
   some (!r9)
  else
   some true:Option ((Bool))).bind fun r11=>
  if r11=true then
   some (.inr ())
  else
   some (.inl ())
 else
  some (.inl ()):Option ((Unit)⊕(Unit))).bind fun r18=>
 match r18 with
 |(.inl q20)=>
  (dec (D.int .u8) (pc prog 133 [zaa a0,.int .i64 y1.doc])).bind fun r21=>
  (if(r21==9)=true then
   some (bif (y1.kind==9)then(!(y1.doc==a1))else false)
  else
   some true:Option ((Bool))).bind fun r25=>
  if r25=true then
   some false
  else
   (if(!(y1.shadow==0))=true then
    (dec (eT2 zao D.bool) (pc prog 131 [zaa a0,.int .i64 y1.shadow])).bind fun r31=>
    if(bif (bif (!r31.2)then true else(!(r31.1.kind==12)))then true else(!(r31.1.host==a1)))=true then
     some (.inr ())
    else
     some (.inl ())
   else
    some (.inl ()):Option ((Unit)⊕(Unit))).bind fun r42=>
   match r42 with
   |(.inl q44)=>
    if(y1.kind==12)=true then
     (dec (eT2 zao D.bool) (pc prog 131 [zaa a0,.int .i64 y1.host])).bind fun r47=>
     if(bif (bif (bif (!r47.2)then true else(!(r47.1.kind==1)))then true else(!(r47.1.shadow==a1)))then true else(!(r47.1.doc==y1.doc)))=true then
      some false
     else
      (dec D.bool (pc prog 134 [zaa a0,.int .i64 a1,zao y1])).bind fun r51=>
      some r51
    else
     (dec D.bool (pc prog 134 [zaa a0,.int .i64 a1,zao y1])).bind fun r65=>
     some r65
   |(.inr q67)=>
    some false
 |(.inr q84)=>
  some false
theorem zOC (a0:Forest) (a1:Int) (r:Bool) (h:zOB a0 a1=some r):pc prog 106 [zaa a0,.int .i64 a1]=some (D.bool r):=by
 unfold zOB at h
 refine zaQ (fn:=zMS) rfl rfl ?_
 delta zMS
 try simp only[go_sem]
 obtain⟨y1,hy2,h⟩:=bs h
 try simp only[go_sem,zab hy2,zaj hy2,zac zao hy2]
 obtain⟨r18,hl19,h⟩:=bs h
 refine zek (n:=(0,[])) (fun r=>match r with|(.inl r)=>(.normal,⟨(((Regs.none.set 1 (.d (.int .i64 a1))).set 2 (.ptr 0 0 0)).set 5 (.ptr 8 0 0)),(((Heap.at 13).set 0 (some (.els 1 [.d (zaa a0)] 0))).set 8 (some (.els 16 [.d (zao y1)] 0)))⟩)|(.inr r)=>(.ret,⟨(Regs.none.set 4 (.d (.bool false))),(Heap.at 13)⟩):((Unit)⊕(Unit))→Ex×St) r18 ?_ (by(repeat(refine Clo.seq zaV rfl ?_));(exact Clo.ret)) ?_
 ·replace h:=hl19
  refine zaz (fun hc3=> ?_) (fun hc4=> ?_)
  ·rw[if_pos (show(!(y1.parent==0))=true by(rw[hc3];rfl))]at h
   try simp only[go_sem,zab hy2,zaj hy2,zac zao hy2]
   obtain⟨r5,hr6,h⟩:=bs h
   replace hr6:=zag hr6
   refine zal hr6 ?_
   try simp only[go_sem,zab hy2,zaj hy2,zac zao hy2]
   iterate 3 (refine zaA ?_;try simp only[go_sem,zab hy2,zaj hy2,zac zao hy2])
   obtain⟨r11,hl12,h⟩:=bs h
   refine zbD.cut (n:=(0,[])) .normal ⟨((((Regs.none.set 1 (.d (.int .i64 a1))).set 2 (.ptr 0 0 0)).set 5 (.ptr 8 0 0)).set 36 (.d (.bool r11))),(((Heap.at 32).set 0 (some (.els 1 [.d (zaa a0)] 0))).set 8 (some (.els 16 [.d (zao y1)] 0)))⟩ ?_ (by(repeat(refine Clo.seq zaV rfl ?_));(exact Clo.cpost (by decide))) ?_
   ·replace h:=hl12
    refine zax (fun hc7=> ?_) (fun hc8=> ?_)
    ·rw[if_pos hc7]at h
     try simp only[go_sem,zab hy2,zaj hy2,zac zao hy2,hc7]
     obtain⟨r9,hr10,h⟩:=bs h
     replace hr10:=zag hr10
     refine zal hr10 ?_
     try simp only[go_sem,zab hy2,zaj hy2,zac zao hy2]
     cases h
     exact⟨rfl,Up.of (N:=32) (N':=32) [] rfl rfl (by decide) (.set (.d _) (.set (.ptr' rfl) (.set (.ptr' rfl) (.set (.d _) zae.none)))) (.set zar.refl_d (.set zar.refl_d zah.at))⟩
    rw[if_neg (ff hc8)]at h
    try simp only[go_sem,zab hy2,zaj hy2,zac zao hy2,hc8]
    cases h
    exact⟨rfl,Up.of (N:=32) (N':=32) [] rfl rfl (by decide) (.set (.d _) (.set (.ptr' rfl) (.set (.ptr' rfl) (.set (.d _) zae.none)))) (.set zar.refl_d (.set zar.refl_d zah.at))⟩
   try simp only[go_sem,zab hy2,zaj hy2,zac zao hy2]
   refine zaf (fun hc13=> ?_) (fun hc14=> ?_)
   ·rw[if_pos hc13]at h
    try simp only[go_sem,zab hy2,zaj hy2,zac zao hy2]
    cases h
    exact⟨rfl,Up.of (N:=13) (N':=33) [] rfl rfl (by decide) (.set (.d _) zae.none) zah.at⟩
   rw[if_neg (ff hc14)]at h
   try simp only[go_sem,zab hy2,zaj hy2,zac zao hy2]
   cases h
   exact⟨rfl,Up.of (N:=13) (N':=32) [] rfl rfl (by decide) (.set (.ptr' rfl) (.set (.ptr' rfl) (.set (.d _) zae.none))) (.set zar.refl_d (.set zar.refl_d zah.at))⟩
  rw[if_neg (ffn hc4)]at h
  try simp only[go_sem,zab hy2,zaj hy2,zac zao hy2]
  cases h
  exact⟨rfl,Up.of (N:=13) (N':=13) [] rfl rfl (by decide) (.set (.ptr' rfl) (.set (.ptr' rfl) (.set (.d _) zae.none))) (.set zar.refl_d (.set zar.refl_d zah.at))⟩
 rcases r18 with(q20|q84)
 ·dsimp only at h⊢
  try simp only[go_sem,zab hy2,zaj hy2,zac zao hy2]
  obtain⟨r21,hr22,h⟩:=bs h
  replace hr22:=zag hr22
  refine zal hr22 ?_
  try simp only[go_sem,zab hy2,zaj hy2,zac zao hy2]
  iterate 8 (refine zaA ?_;try simp only[go_sem,zab hy2,zaj hy2,zac zao hy2])
  obtain⟨r25,hl26,h⟩:=bs h
  refine zbD.cut (n:=(0,[])) .normal ⟨((((Regs.none.set 1 (.d (.int .i64 a1))).set 2 (.ptr 0 0 0)).set 5 (.ptr 8 0 0)).set 52 (.d (.bool r25))),(((Heap.at 29).set 0 (some (.els 1 [.d (zaa a0)] 0))).set 8 (some (.els 16 [.d (zao y1)] 0)))⟩ ?_ (by(repeat(refine Clo.seq zaV rfl ?_));(exact Clo.ret)) ?_
  ·replace h:=hl26
   refine zax (fun hc23=> ?_) (fun hc24=> ?_)
   ·rw[if_pos hc23]at h
    try simp only[go_sem,zab hy2,zaj hy2,zac zao hy2,hc23]
    cases h
    exact⟨rfl,Up.of (N:=29) (N':=29) [] rfl rfl (by decide) (.set (.d _) (.set (.ptr' rfl) (.set (.ptr' rfl) (.set (.d _) zae.none)))) (.set zar.refl_d (.set zar.refl_d zah.at))⟩
   rw[if_neg (ff hc24)]at h
   try simp only[go_sem,zab hy2,zaj hy2,zac zao hy2,hc24]
   cases h
   exact⟨rfl,Up.of (N:=29) (N':=29) [] rfl rfl (by decide) (.set (.d _) (.set (.ptr' rfl) (.set (.ptr' rfl) (.set (.d _) zae.none)))) (.set zar.refl_d (.set zar.refl_d zah.at))⟩
  try simp only[go_sem,zab hy2,zaj hy2,zac zao hy2]
  refine zaf (fun hc27=> ?_) (fun hc28=> ?_)
  ·rw[if_pos hc27]at h
   try simp only[go_sem,zab hy2,zaj hy2,zac zao hy2]
   cases h
   rfl
  rw[if_neg (ff hc28)]at h
  try simp only[go_sem,zab hy2,zaj hy2,zac zao hy2]
  obtain⟨r42,hl43,h⟩:=bs h
  refine zek (n:=(0,[])) (fun r=>match r with|(.inl r)=>(.normal,⟨(((Regs.none.set 1 (.d (.int .i64 a1))).set 2 (.ptr 0 0 0)).set 5 (.ptr 8 0 0)),(((Heap.at 32).set 0 (some (.els 1 [.d (zaa a0)] 0))).set 8 (some (.els 16 [.d (zao y1)] 0)))⟩)|(.inr r)=>(.ret,⟨(Regs.none.set 4 (.d (.bool false))),(Heap.at 32)⟩):((Unit)⊕(Unit))→Ex×St) r42 ?_ (by(repeat(refine Clo.seq zaV rfl ?_));(exact Clo.ret)) ?_
  ·replace h:=hl43
   refine zaz (fun hc29=> ?_) (fun hc30=> ?_)
   ·rw[if_pos (show(!(y1.shadow==0))=true by(rw[hc29];rfl))]at h
    try simp only[go_sem,zab hy2,zaj hy2,zac zao hy2]
    obtain⟨r31,hr32,h⟩:=bs h
    replace hr32:=zag hr32
    refine zal hr32 ?_
    try simp only[go_sem,zab hy2,zaj hy2,zac zao hy2]
    iterate 7 (refine zaA ?_;try simp only[go_sem,zab hy2,zaj hy2,zac zao hy2])
    refine zaf (fun hc33=> ?_) (fun hc34=> ?_)
    ·rw[if_pos hc33]at h
     try simp only[go_sem,zab hy2,zaj hy2,zac zao hy2]
     cases h
     exact⟨rfl,Up.of (N:=32) (N':=56) [] rfl rfl (by decide) (.set (.d _) zae.none) zah.at⟩
    rw[if_neg (ff hc34)]at h
    try simp only[go_sem,zab hy2,zaj hy2,zac zao hy2]
    cases h
    exact⟨rfl,Up.of (N:=32) (N':=55) [] rfl rfl (by decide) (.set (.ptr' rfl) (.set (.ptr' rfl) (.set (.d _) zae.none))) (.set zar.refl_d (.set zar.refl_d zah.at))⟩
   rw[if_neg (ffn hc30)]at h
   try simp only[go_sem,zab hy2,zaj hy2,zac zao hy2]
   cases h
   exact⟨rfl,Up.of (N:=32) (N':=32) [] rfl rfl (by decide) (.set (.ptr' rfl) (.set (.ptr' rfl) (.set (.d _) zae.none))) (.set zar.refl_d (.set zar.refl_d zah.at))⟩
  rcases r42 with(q44|q67)
  ·dsimp only at h⊢
   try simp only[go_sem,zab hy2,zaj hy2,zac zao hy2]
   refine zaf (fun hc45=> ?_) (fun hc46=> ?_)
   ·rw[if_pos hc45]at h
    try simp only[go_sem,zab hy2,zaj hy2,zac zao hy2]
    obtain⟨r47,hr48,h⟩:=bs h
    replace hr48:=zag hr48
    refine zal hr48 ?_
    try simp only[go_sem,zab hy2,zaj hy2,zac zao hy2]
    iterate 12 (refine zaA ?_;try simp only[go_sem,zab hy2,zaj hy2,zac zao hy2])
    refine zaf (fun hc49=> ?_) (fun hc50=> ?_)
    ·rw[if_pos hc49]at h
     try simp only[go_sem,zab hy2,zaj hy2,zac zao hy2]
     cases h
     rfl
    rw[if_neg (ff hc50)]at h
    try simp only[go_sem,zab hy2,zaj hy2,zac zao hy2]
    obtain⟨r51,hr52,h⟩:=bs h
    replace hr52:=zag hr52
    refine zal hr52 ?_
    try simp only[go_sem,zab hy2,zaj hy2,zac zao hy2]
    cases h
    rfl
   rw[if_neg (ff hc46)]at h
   try simp only[go_sem,zab hy2,zaj hy2,zac zao hy2]
   obtain⟨r65,hr66,h⟩:=bs h
   replace hr66:=zag hr66
   refine zal hr66 ?_
   try simp only[go_sem,zab hy2,zaj hy2,zac zao hy2]
   cases h
   rfl
  dsimp only at h⊢
  try simp only[go_sem,zab hy2,zaj hy2,zac zao hy2]
  cases h
  rfl
 dsimp only at h⊢
 try simp only[go_sem,zab hy2,zaj hy2,zac zao hy2]
 cases h
 rfl
noncomputable def zOD (a0:Node):Option (Bool):=
 (dec D.bool (pc prog 136 [.int .u8 a0.kind])).bind fun r1=>
 (if(!(bif (bif (bif (!r1)then true else(decide (1024<(a0.public_.length:Int))))then true else(decide (1024<(a0.system.length:Int))))then true else(decide (16384<(a0.data.l.length:Int)))))=true then
  (dec D.bool (pc prog 137 [.list a0.attrs.n (a0.attrs.l.map zbg)])).bind fun r5=>
  some (!r5)
 else
  some true:Option ((Bool))).bind fun r7=>
 if r7=true then
  some false
 else
  (if(a0.kind==1)=true then
   (dec D.bool (pc prog 138 [zcf a0.name])).bind fun r13=>
   if(!r13)=true then
    some (.inr ())
   else
    some (.inl ())
  else
   (if(bif (a0.kind==10)then true else(a0.kind==7))=true then
    if(bif (bif (!(decide (a0.name=(⟨[],[],a0.name.local_⟩:Name))))then true else(a0.name.local_==[]))then true else(decide (1024<(a0.name.local_.length:Int))))=true then
     some (.inr ())
    else
     some (.inl ())
   else
    if(!(decide (a0.name=(⟨[],[],[]⟩:Name))))=true then
     some (.inr ())
    else
     some (.inl ()):Option ((Unit)⊕(Unit))).bind fun r32=>
   match r32 with
   |(.inl q34)=>
    some (.inl ())
   |(.inr q35)=>
    some (.inr ()):Option ((Unit)⊕(Unit))).bind fun r38=>
  match r38 with
  |(.inl q40)=>
   (if(!(a0.kind==10))=true then
    if(!(bif (!(a0.public_==[]))then true else(!(a0.system==[]))))=true then
     (dec D.bool (pc prog 139 [.int .u8 a0.kind])).bind fun r45=>
     if(!(bif (!r45)then(decide (0<(a0.data.l.length:Int)))else false))=true then
      (dec D.bool (pc prog 140 [.int .u8 a0.kind])).bind fun r49=>
      some (bif (!r49)then(decide (0<(a0.kids.l.length:Int)))else false)
     else
      some true
    else
     some true
   else
    (dec D.bool (pc prog 139 [.int .u8 a0.kind])).bind fun r61=>
    if(!(bif (!r61)then(decide (0<(a0.data.l.length:Int)))else false))=true then
     (dec D.bool (pc prog 140 [.int .u8 a0.kind])).bind fun r65=>
     some (bif (!r65)then(decide (0<(a0.kids.l.length:Int)))else false)
    else
     some true:Option ((Bool))).bind fun r76=>
   if r76=true then
    some false
   else
    (if(!(a0.kind==1))=true then
     if(!(bif (decide (0<(a0.attrs.l.length:Int)))then true else(!(a0.shadow==0))))=true then
      some (bif (!(a0.kind==9))then a0.hTML else false)
     else
      some true
    else
     some (bif (!(a0.kind==9))then a0.hTML else false):Option ((Bool))).bind fun r95=>
    if r95=true then
     some false
    else
     (if(a0.kind==12)=true then
      if(bif (!(a0.mode==1))then(!(a0.mode==2))else false)=true then
       some (.inr ())
      else
       some (.inl ())
     else
      if(bif (bif (!(a0.mode==0))then true else a0.manual)then true else(!(a0.host==0)))=true then
       some (.inr ())
      else
       some (.inl ()):Option ((Unit)⊕(Unit))).bind fun r113=>
     match r113 with
     |(.inl q115)=>
      if(!(a0.parent==0))=true then
       some (bif (bif (!(a0.kind==9))then(!(a0.kind==11))else false)then(!(a0.kind==12))else false)
      else
       some true
     |(.inr q129)=>
      some false
  |(.inr q157)=>
   some false
theorem zOE (a0:Node) (r:Bool) (h:zOD a0=some r):pc prog 111 [zao a0]=some (D.bool r):=by
 unfold zOD at h
 refine zaQ (fn:=zMX) rfl rfl ?_
 delta zMX
 try simp only[go_sem]
 obtain⟨r1,hr2,h⟩:=bs h
 replace hr2:=zag hr2
 refine zal hr2 ?_
 try simp only[go_sem]
 iterate 14 (refine zaA ?_;try simp only[go_sem])
 obtain⟨r7,hl8,h⟩:=bs h
 refine zbD.cut (n:=(0,[])) .normal ⟨(((Regs.none.set 1 (.ptr 0 0 0)).set 3 (.d (.int .u8 a0.kind))).set 32 (.d (.bool r7))),((Heap.at 32).set 0 (some (.els 16 [.d (zao a0)] 0)))⟩ ?_ (by(repeat(refine Clo.seq zaV rfl ?_));(exact Clo.ret)) ?_
 ·replace h:=hl8
  refine zaB (fun hc3=> ?_) (fun hc4=> ?_)
  ·rw[if_pos (show(!(bif (bif (bif (!r1)then true else(decide (1024<(a0.public_.length:Int))))then true else(decide (1024<(a0.system.length:Int))))then true else(decide (16384<(a0.data.l.length:Int)))))=true by(rw[hc3];rfl))]at h
   try simp only[go_sem,hc3]
   obtain⟨r5,hr6,h⟩:=bs h
   replace hr6:=zag hr6
   refine zal hr6 ?_
   try simp only[go_sem]
   cases h
   exact⟨rfl,Up.of (N:=32) (N':=32) [] rfl rfl (by decide) (.set (.d _) (.set (.d _) (.set (.ptr' rfl) zae.none))) (.set zar.refl_d zah.at)⟩
  rw[if_neg (ffn hc4)]at h
  try simp only[go_sem,hc4]
  cases h
  exact⟨rfl,Up.of (N:=32) (N':=32) [] rfl rfl (by decide) (.set (.d _) (.set (.d _) (.set (.ptr' rfl) zae.none))) (.set zar.refl_d zah.at)⟩
 try simp only[go_sem]
 refine zaf (fun hc9=> ?_) (fun hc10=> ?_)
 ·rw[if_pos hc9]at h
  try simp only[go_sem]
  cases h
  rfl
 rw[if_neg (ff hc10)]at h
 try simp only[go_sem]
 obtain⟨r38,hl39,h⟩:=bs h
 refine zek (n:=(0,[])) (fun r=>match r with|(.inl r)=>(.normal,⟨((Regs.none.set 1 (.ptr 0 0 0)).set 3 (.d (.int .u8 a0.kind))),((Heap.at 35).set 0 (some (.els 16 [.d (zao a0)] 0)))⟩)|(.inr r)=>(.ret,⟨(Regs.none.set 2 (.d (.bool false))),(Heap.at 35)⟩):((Unit)⊕(Unit))→Ex×St) r38 ?_ (by(repeat(first|refine Clo.block ?_|refine Clo.seq zaV rfl ?_));(exact Clo.ret)) ?_
 ·replace h:=hl39
  refine zaf (fun hc11=> ?_) (fun hc12=> ?_)
  ·rw[if_pos hc11]at h
   try simp only[go_sem]
   obtain⟨r13,hr14,h⟩:=bs h
   replace hr14:=zag hr14
   refine zal hr14 ?_
   try simp only[go_sem]
   refine zaz (fun hc15=> ?_) (fun hc16=> ?_)
   ·rw[if_pos (show(!r13)=true by(rw[hc15];rfl))]at h
    try simp only[go_sem]
    cases h
    exact⟨rfl,Up.of (N:=35) (N':=40) [] rfl rfl (by decide) (.set (.d _) zae.none) zah.at⟩
   rw[if_neg (ffn hc16)]at h
   try simp only[go_sem]
   cases h
   exact⟨rfl,Up.of (N:=35) (N':=39) [] rfl rfl (by decide) (.set (.d _) (.set (.ptr' rfl) zae.none)) (.set zar.refl_d zah.at)⟩
  rw[if_neg (ff hc12)]at h
  try simp only[go_sem]
  iterate 2 (refine zaA ?_;try simp only[go_sem])
  obtain⟨r32,hl33,h⟩:=bs h
  refine zek (n:=(0,[])) (fun r=>match r with|(.inl r)=>(.normal,⟨((Regs.none.set 1 (.ptr 0 0 0)).set 3 (.d (.int .u8 a0.kind))),((Heap.at 42).set 0 (some (.els 16 [.d (zao a0)] 0)))⟩)|(.inr r)=>(.ret,⟨(Regs.none.set 2 (.d (.bool false))),(Heap.at 42)⟩):((Unit)⊕(Unit))→Ex×St) r32 ?_ (by(repeat(first|refine Clo.block ?_|refine Clo.seq zaV rfl ?_));(exact Clo.cpost (by decide))) ?_
  ·replace h:=hl33
   refine zaf (fun hc17=> ?_) (fun hc18=> ?_)
   ·rw[if_pos hc17]at h
    try simp only[go_sem]
    iterate 9 (refine zaA ?_;try simp only[go_sem])
    refine zaf (fun hc19=> ?_) (fun hc20=> ?_)
    ·rw[if_pos hc19]at h
     try simp only[go_sem]
     cases h
     exact⟨rfl,Up.of (N:=42) (N':=63) [] rfl rfl (by decide) (.set (.d _) zae.none) zah.at⟩
    rw[if_neg (ff hc20)]at h
    try simp only[go_sem]
    cases h
    exact⟨rfl,Up.of (N:=42) (N':=62) [] rfl rfl (by decide) (.set (.d _) (.set (.ptr' rfl) zae.none)) (.set zar.refl_d zah.at)⟩
   rw[if_neg (ff hc18)]at h
   try simp only[go_sem]
   refine zaz (fun hc30=> ?_) (fun hc31=> ?_)
   ·rw[if_pos (show(!(decide (a0.name=(⟨[],[],[]⟩:Name))))=true by(rw[hc30];rfl))]at h
    try simp only[go_sem]
    cases h
    exact⟨rfl,Up.of (N:=42) (N':=48) [] rfl rfl (by decide) (.set (.d _) zae.none) zah.at⟩
   rw[if_neg (ffn hc31)]at h
   try simp only[go_sem]
   cases h
   exact⟨rfl,Up.of (N:=42) (N':=47) [] rfl rfl (by decide) (.set (.d _) (.set (.ptr' rfl) zae.none)) (.set zar.refl_d zah.at)⟩
  rcases r32 with(q34|q35)
  ·dsimp only at h⊢
   cases h
   exact⟨rfl,Up.of (N:=35) (N':=42) [] rfl rfl (by decide) (.set (.d _) (.set (.ptr' rfl) zae.none)) (.set zar.refl_d zah.at)⟩
  dsimp only at h⊢
  cases h
  exact⟨rfl,Up.of (N:=35) (N':=42) [] rfl rfl (by decide) (.set (.d _) zae.none) zah.at⟩
 rcases r38 with(q40|q157)
 ·dsimp only at h⊢
  try simp only[go_sem]
  iterate 7 (refine zaA ?_;try simp only[go_sem])
  obtain⟨r76,hl77,h⟩:=bs h
  refine zbD.cut (n:=(0,[])) .normal ⟨(((Regs.none.set 1 (.ptr 0 0 0)).set 3 (.d (.int .u8 a0.kind))).set 105 (.d (.bool r76))),((Heap.at 69).set 0 (some (.els 16 [.d (zao a0)] 0)))⟩ ?_ (by(repeat(refine Clo.seq zaV rfl ?_));(exact Clo.ret)) ?_
  ·replace h:=hl77
   refine zaB (fun hc41=> ?_) (fun hc42=> ?_)
   ·rw[if_pos (show(!(a0.kind==10))=true by(rw[hc41];rfl))]at h
    try simp only[go_sem,hc41]
    refine zaA ?_
    try simp only[go_sem]
    refine zaB (fun hc43=> ?_) (fun hc44=> ?_)
    ·rw[if_pos (show(!(bif (!(a0.public_==[]))then true else(!(a0.system==[]))))=true by(rw[hc43];rfl))]at h
     try simp only[go_sem,hc43]
     obtain⟨r45,hr46,h⟩:=bs h
     replace hr46:=zag hr46
     refine zal hr46 ?_
     try simp only[go_sem]
     iterate 5 (refine zaA ?_;try simp only[go_sem])
     refine zaB (fun hc47=> ?_) (fun hc48=> ?_)
     ·rw[if_pos (show(!(bif (!r45)then(decide (0<(a0.data.l.length:Int)))else false))=true by(rw[hc47];rfl))]at h
      try simp only[go_sem,hc47]
      obtain⟨r49,hr50,h⟩:=bs h
      replace hr50:=zag hr50
      refine zal hr50 ?_
      try simp only[go_sem]
      iterate 4 (refine zaA ?_;try simp only[go_sem])
      cases h
      exact⟨rfl,Up.of (N:=69) (N':=69) [] rfl rfl (by decide) (.set (.d _) (.set (.d _) (.set (.ptr' rfl) zae.none))) (.set zar.refl_d zah.at)⟩
     rw[if_neg (ffn hc48)]at h
     try simp only[go_sem,hc48]
     cases h
     exact⟨rfl,Up.of (N:=69) (N':=69) [] rfl rfl (by decide) (.set (.d _) (.set (.d _) (.set (.ptr' rfl) zae.none))) (.set zar.refl_d zah.at)⟩
    rw[if_neg (ffn hc44)]at h
    try simp only[go_sem,hc44]
    cases h
    exact⟨rfl,Up.of (N:=69) (N':=69) [] rfl rfl (by decide) (.set (.d _) (.set (.d _) (.set (.ptr' rfl) zae.none))) (.set zar.refl_d zah.at)⟩
   rw[if_neg (ffn hc42)]at h
   try simp only[go_sem,hc42]
   obtain⟨r61,hr62,h⟩:=bs h
   replace hr62:=zag hr62
   refine zal hr62 ?_
   try simp only[go_sem]
   iterate 5 (refine zaA ?_;try simp only[go_sem])
   refine zaB (fun hc63=> ?_) (fun hc64=> ?_)
   ·rw[if_pos (show(!(bif (!r61)then(decide (0<(a0.data.l.length:Int)))else false))=true by(rw[hc63];rfl))]at h
    try simp only[go_sem,hc63]
    obtain⟨r65,hr66,h⟩:=bs h
    replace hr66:=zag hr66
    refine zal hr66 ?_
    try simp only[go_sem]
    iterate 4 (refine zaA ?_;try simp only[go_sem])
    cases h
    exact⟨rfl,Up.of (N:=69) (N':=69) [] rfl rfl (by decide) (.set (.d _) (.set (.d _) (.set (.ptr' rfl) zae.none))) (.set zar.refl_d zah.at)⟩
   rw[if_neg (ffn hc64)]at h
   try simp only[go_sem,hc64]
   cases h
   exact⟨rfl,Up.of (N:=69) (N':=69) [] rfl rfl (by decide) (.set (.d _) (.set (.d _) (.set (.ptr' rfl) zae.none))) (.set zar.refl_d zah.at)⟩
  try simp only[go_sem]
  refine zaf (fun hc78=> ?_) (fun hc79=> ?_)
  ·rw[if_pos hc78]at h
   try simp only[go_sem]
   cases h
   rfl
  rw[if_neg (ff hc79)]at h
  try simp only[go_sem]
  iterate 8 (refine zaA ?_;try simp only[go_sem])
  obtain⟨r95,hl96,h⟩:=bs h
  refine zbD.cut (n:=(0,[])) .normal ⟨(((Regs.none.set 1 (.ptr 0 0 0)).set 3 (.d (.int .u8 a0.kind))).set 126 (.d (.bool r95))),((Heap.at 90).set 0 (some (.els 16 [.d (zao a0)] 0)))⟩ ?_ (by(repeat(refine Clo.seq zaV rfl ?_));(exact Clo.ret)) ?_
  ·replace h:=hl96
   refine zaB (fun hc80=> ?_) (fun hc81=> ?_)
   ·rw[if_pos (show(!(a0.kind==1))=true by(rw[hc80];rfl))]at h
    try simp only[go_sem,hc80]
    iterate 5 (refine zaA ?_;try simp only[go_sem])
    refine zaB (fun hc82=> ?_) (fun hc83=> ?_)
    ·rw[if_pos (show(!(bif (decide (0<(a0.attrs.l.length:Int)))then true else(!(a0.shadow==0))))=true by(rw[hc82];rfl))]at h
     try simp only[go_sem,hc82]
     cases h
     exact⟨rfl,Up.of (N:=90) (N':=90) [] rfl rfl (by decide) (.set (.d _) (.set (.d _) (.set (.ptr' rfl) zae.none))) (.set zar.refl_d zah.at)⟩
    rw[if_neg (ffn hc83)]at h
    try simp only[go_sem,hc83]
    cases h
    exact⟨rfl,Up.of (N:=90) (N':=90) [] rfl rfl (by decide) (.set (.d _) (.set (.d _) (.set (.ptr' rfl) zae.none))) (.set zar.refl_d zah.at)⟩
   rw[if_neg (ffn hc81)]at h
   try simp only[go_sem,hc81]
   iterate 2 (refine zaA ?_;try simp only[go_sem])
   cases h
   exact⟨rfl,Up.of (N:=90) (N':=90) [] rfl rfl (by decide) (.set (.d _) (.set (.d _) (.set (.ptr' rfl) zae.none))) (.set zar.refl_d zah.at)⟩
  try simp only[go_sem]
  refine zaf (fun hc97=> ?_) (fun hc98=> ?_)
  ·rw[if_pos hc97]at h
   try simp only[go_sem]
   cases h
   rfl
  rw[if_neg (ff hc98)]at h
  try simp only[go_sem]
  obtain⟨r113,hl114,h⟩:=bs h
  refine zek (n:=(0,[])) (fun r=>match r with|(.inl r)=>(.normal,⟨((Regs.none.set 1 (.ptr 0 0 0)).set 3 (.d (.int .u8 a0.kind))),((Heap.at 92).set 0 (some (.els 16 [.d (zao a0)] 0)))⟩)|(.inr r)=>(.ret,⟨(Regs.none.set 2 (.d (.bool false))),(Heap.at 92)⟩):((Unit)⊕(Unit))→Ex×St) r113 ?_ (by(repeat(refine Clo.seq zaV rfl ?_));(exact Clo.ret)) ?_
  ·replace h:=hl114
   refine zaf (fun hc99=> ?_) (fun hc100=> ?_)
   ·rw[if_pos hc99]at h
    try simp only[go_sem]
    iterate 3 (refine zaA ?_;try simp only[go_sem])
    refine zaf (fun hc101=> ?_) (fun hc102=> ?_)
    ·rw[if_pos hc101]at h
     try simp only[go_sem]
     cases h
     exact⟨rfl,Up.of (N:=92) (N':=101) [] rfl rfl (by decide) (.set (.d _) zae.none) zah.at⟩
    rw[if_neg (ff hc102)]at h
    try simp only[go_sem]
    cases h
    exact⟨rfl,Up.of (N:=92) (N':=100) [] rfl rfl (by decide) (.set (.d _) (.set (.ptr' rfl) zae.none)) (.set zar.refl_d zah.at)⟩
   rw[if_neg (ff hc100)]at h
   try simp only[go_sem]
   iterate 5 (refine zaA ?_;try simp only[go_sem])
   refine zaf (fun hc106=> ?_) (fun hc107=> ?_)
   ·rw[if_pos hc106]at h
    try simp only[go_sem]
    cases h
    exact⟨rfl,Up.of (N:=92) (N':=105) [] rfl rfl (by decide) (.set (.d _) zae.none) zah.at⟩
   rw[if_neg (ff hc107)]at h
   try simp only[go_sem]
   cases h
   exact⟨rfl,Up.of (N:=92) (N':=104) [] rfl rfl (by decide) (.set (.d _) (.set (.ptr' rfl) zae.none)) (.set zar.refl_d zah.at)⟩
  rcases r113 with(q115|q129)
  ·dsimp only at h⊢
   try simp only[go_sem]
   iterate 5 (refine zaA ?_;try simp only[go_sem])
   refine zaB (fun hc116=> ?_) (fun hc117=> ?_)
   ·rw[if_pos (show(!(a0.parent==0))=true by(rw[hc116];rfl))]at h
    try simp only[go_sem,hc116]
    iterate 2 (refine zaA ?_;try simp only[go_sem])
    cases h
    rfl
   rw[if_neg (ffn hc117)]at h
   try simp only[go_sem,hc117]
   cases h
   rfl
  dsimp only at h⊢
  try simp only[go_sem]
  cases h
  rfl
 dsimp only at h⊢
 try simp only[go_sem]
 cases h
 rfl
def zga (a0:Forest) (a1:Int) (y1:Node) (x0:Int):St:=⟨((((((Regs.none.set 1 (.d (.int .i64 a1))).set 2 (.ptr 0 0 0)).set 5 (.ptr 8 0 0)).set 23 (.d (.list y1.kids.n (y1.kids.l.map (D.int .i64))))).set 24 (.d (.int .i64 (y1.kids.l.length:Int)))).set 25 (.d (.int .i64 x0))),(((Heap.at 14).set 0 (some (.els 1 [.d (zaa a0)] 0))).set 8 (some (.els 16 [.d (zao y1)] 0)))⟩
def zjH (a0:Forest) (a1:Int) (y1:Node):((Unit)⊕(Unit))→Ex×St:=fun r=>match r with
 |(.inl r)=>(.exit 0,⟨(((Regs.none.set 1 (.d (.int .i64 a1))).set 2 (.ptr 0 0 0)).set 5 (.ptr 8 0 0)),(((Heap.at 14).set 0 (some (.els 1 [.d (zaa a0)] 0))).set 8 (some (.els 16 [.d (zao y1)] 0)))⟩)
 |(.inr r)=>(.ret,⟨(Regs.none.set 4 (.d (.bool false))),(Heap.at 14)⟩)
noncomputable def zdL (a0:Forest) (a1:Int) (y1:Node) (x0:Int):Option ((Int)⊕((Unit)⊕(Unit))):=
 if(decide (x0<(y1.kids.l.length:Int)))=true then
  (rd y1.kids.l x0).bind fun y5=>
  (dec (eT2 zao D.bool) (pc prog 81 [zaa a0,.int .i64 y5])).bind fun r7=>
  if(!(bif (!r7.2)then true else(!(r7.1.parent==a1))))=true then
   (dec (D.int .i64) (pc prog 141 [.list y1.kids.n (y1.kids.l.map (D.int .i64)),.int .i64 y5])).bind fun r11=>
   if(bif (!(r11==1))then true else(!(r7.1.doc==y1.doc)))=true then
    some (.inr (.inr ()))
   else
    some (.inl (IntKind.wrap .i64 (x0+1)))
  else
   some (.inr (.inr ()))
 else
  some (.inr (.inl ()))
theorem zzB (a0:Forest) (a1:Int) (y1:Node) (x0:Int) (o:(Int)⊕((Unit)⊕(Unit))) (h:zdL a0 a1 y1 x0=some o):Wp prog zsx (zga a0 a1 y1 x0) (zbq (0,[]) (zga a0 a1 y1) (zjH a0 a1 y1) o):=by
 unfold zdL at h
 delta zsx zga
 try simp only[go_sem]
 refine zaf (fun hc3=> ?_) (fun hc4=> ?_)
 ·rw[if_pos hc3]at h
  try simp only[go_sem]
  obtain⟨y5,hy6,h⟩:=bs h
  try simp only[go_sem,zab hy6,zaj hy6,zac (D.int .i64) hy6]
  obtain⟨r7,hr8,h⟩:=bs h
  replace hr8:=zag hr8
  refine zal hr8 ?_
  try simp only[go_sem,zab hy6,zaj hy6,zac (D.int .i64) hy6]
  iterate 7 (refine zaA ?_;try simp only[go_sem,zab hy6,zaj hy6,zac (D.int .i64) hy6])
  refine zaB (fun hc9=> ?_) (fun hc10=> ?_)
  ·rw[if_pos (show(!(bif (!r7.2)then true else(!(r7.1.parent==a1))))=true by(rw[hc9];rfl))]at h
   try simp only[go_sem,zab hy6,zaj hy6,zac (D.int .i64) hy6,hc9]
   obtain⟨r11,hr12,h⟩:=bs h
   replace hr12:=zag hr12
   refine zal hr12 ?_
   try simp only[go_sem,zab hy6,zaj hy6,zac (D.int .i64) hy6]
   iterate 5 (refine zaA ?_;try simp only[go_sem,zab hy6,zaj hy6,zac (D.int .i64) hy6])
   refine zaf (fun hc13=> ?_) (fun hc14=> ?_)
   ·rw[if_pos hc13]at h
    try simp only[go_sem,zab hy6,zaj hy6,zac (D.int .i64) hy6]
    cases h
    exact⟨rfl,by simp,Up.of (N:=14) (N':=50) [] rfl rfl (by decide) (.set (.d _) zae.none) zah.at⟩
   rw[if_neg (ff hc14)]at h
   try simp only[go_sem,zab hy6,zaj hy6,zac (D.int .i64) hy6]
   cases h
   exact⟨rfl,Up.of (N:=14) (N':=51) [] rfl rfl (by decide) (.set (.d _) (.set (.d _) (.set (.d _) (.set (.ptr' rfl) (.set (.ptr' rfl) (.set (.d _) zae.none)))))) (.set zar.refl_d (.set zar.refl_d zah.at))⟩
  rw[if_neg (ffn hc10)]at h
  try simp only[go_sem,zab hy6,zaj hy6,zac (D.int .i64) hy6,hc10]
  cases h
  exact⟨rfl,by simp,Up.of (N:=14) (N':=50) [] rfl rfl (by decide) (.set (.d _) zae.none) zah.at⟩
 rw[if_neg (ff hc4)]at h
 try simp only[go_sem]
 cases h
 exact⟨rfl,by simp,Up.of (N:=14) (N':=15) [] rfl rfl (by decide) (.set (.ptr' rfl) (.set (.ptr' rfl) (.set (.d _) zae.none))) (.set zar.refl_d (.set zar.refl_d zah.at))⟩
noncomputable def zOF (a0:Forest) (a1:Int):Option (Bool):=
 (rd a0.nodes.l (IntKind.wrap .i64 (a1-1))).bind fun y1=>
 (zaL (zdL a0 a1 y1) 0).bind fun r27=>
 match r27 with
 |(.inl q29)=>
  (if(!(y1.parent==0))=true then
   (dec (eT2 zao D.bool) (pc prog 81 [zaa a0,.int .i64 y1.parent])).bind fun r32=>
   (if r32.2=true then
    (dec (D.int .i64) (pc prog 141 [.list r32.1.kids.n (r32.1.kids.l.map (D.int .i64)),.int .i64 a1])).bind fun r36=>
    some (!(r36==1))
   else
    some true:Option ((Bool))).bind fun r38=>
   if r38=true then
    some (.inr ())
   else
    some (.inl ())
  else
   some (.inl ()):Option ((Unit)⊕(Unit))).bind fun r45=>
  match r45 with
  |(.inl q47)=>
   (dec (D.int .u8) (pc prog 142 [zaa a0,.int .i64 y1.doc])).bind fun r48=>
   (if(r48==9)=true then
    some (bif (y1.kind==9)then(!(y1.doc==a1))else false)
   else
    some true:Option ((Bool))).bind fun r52=>
   if r52=true then
    some false
   else
    (if(!(y1.shadow==0))=true then
     (dec (eT2 zao D.bool) (pc prog 81 [zaa a0,.int .i64 y1.shadow])).bind fun r58=>
     if(bif (bif (!r58.2)then true else(!(r58.1.kind==12)))then true else(!(r58.1.host==a1)))=true then
      some (.inr ())
     else
      some (.inl ())
    else
     some (.inl ()):Option ((Unit)⊕(Unit))).bind fun r69=>
    match r69 with
    |(.inl q71)=>
     if(y1.kind==12)=true then
      (dec (eT2 zao D.bool) (pc prog 81 [zaa a0,.int .i64 y1.host])).bind fun r74=>
      if(bif (bif (bif (!r74.2)then true else(!(r74.1.kind==1)))then true else(!(r74.1.shadow==a1)))then true else(!(r74.1.doc==y1.doc)))=true then
       some false
      else
       (dec D.bool (pc prog 143 [zaa a0,.int .u8 y1.kind,.list y1.kids.n (y1.kids.l.map (D.int .i64))])).bind fun r78=>
       some r78
     else
      (dec D.bool (pc prog 143 [zaa a0,.int .u8 y1.kind,.list y1.kids.n (y1.kids.l.map (D.int .i64))])).bind fun r92=>
      some r92
    |(.inr q94)=>
     some false
  |(.inr q111)=>
   some false
 |(.inr q112)=>
  some false
theorem zOG (a0:Forest) (a1:Int) (r:Bool) (h:zOF a0 a1=some r):pc prog 112 [zaa a0,.int .i64 a1]=some (D.bool r):=by
 unfold zOF at h
 refine zaQ (fn:=zMY) rfl rfl ?_
 delta zMY
 try simp only[go_sem]
 obtain⟨y1,hy2,h⟩:=bs h
 try simp only[go_sem,zab hy2,zaj hy2,zac zao hy2]
 obtain⟨r27,hl28,h⟩:=bs h
 refine Wp.loopR zaV (n:=(0,[])) (a:=zsx) rfl (zga a0 a1 y1) (zjH a0 a1 y1) (zzB a0 a1 y1) hl28 ?_ (by(repeat(first|refine Clo.block ?_|refine Clo.seq zaV rfl ?_));(exact Clo.ret)) ?_
 ·show Up (0,[]) (zga a0 a1 y1 0) _
  delta zga
  exact Up.of (N:=14) (N':=14) [] rfl rfl (by decide) (.set (.d _) (.set (.d _) (.set (.d _) (.set (.ptr' rfl) (.set (.ptr' rfl) (.set (.d _) zae.none)))))) (.set zar.refl_d (.set zar.refl_d zah.at))
 rcases r27 with(q29|q112)
 ·dsimp only at h
  dsimp only[zjH]
  try simp only[go_sem,zab hy2,zaj hy2,zac zao hy2]
  obtain⟨r45,hl46,h⟩:=bs h
  refine zek (n:=(0,[])) (fun r=>match r with|(.inl r)=>(.normal,⟨(((Regs.none.set 1 (.d (.int .i64 a1))).set 2 (.ptr 0 0 0)).set 5 (.ptr 8 0 0)),(((Heap.at 17).set 0 (some (.els 1 [.d (zaa a0)] 0))).set 8 (some (.els 16 [.d (zao y1)] 0)))⟩)|(.inr r)=>(.ret,⟨(Regs.none.set 4 (.d (.bool false))),(Heap.at 17)⟩):((Unit)⊕(Unit))→Ex×St) r45 ?_ (by(repeat(refine Clo.seq zaV rfl ?_));(exact Clo.ret)) ?_
  ·replace h:=hl46
   refine zaz (fun hc30=> ?_) (fun hc31=> ?_)
   ·rw[if_pos (show(!(y1.parent==0))=true by(rw[hc30];rfl))]at h
    try simp only[go_sem,zab hy2,zaj hy2,zac zao hy2]
    obtain⟨r32,hr33,h⟩:=bs h
    replace hr33:=zag hr33
    refine zal hr33 ?_
    try simp only[go_sem,zab hy2,zaj hy2,zac zao hy2]
    iterate 3 (refine zaA ?_;try simp only[go_sem,zab hy2,zaj hy2,zac zao hy2])
    obtain⟨r38,hl39,h⟩:=bs h
    refine zbD.cut (n:=(0,[])) .normal ⟨((((Regs.none.set 1 (.d (.int .i64 a1))).set 2 (.ptr 0 0 0)).set 5 (.ptr 8 0 0)).set 76 (.d (.bool r38))),(((Heap.at 36).set 0 (some (.els 1 [.d (zaa a0)] 0))).set 8 (some (.els 16 [.d (zao y1)] 0)))⟩ ?_ (by(repeat(refine Clo.seq zaV rfl ?_));(exact Clo.cpost (by decide))) ?_
    ·replace h:=hl39
     refine zax (fun hc34=> ?_) (fun hc35=> ?_)
     ·rw[if_pos hc34]at h
      try simp only[go_sem,zab hy2,zaj hy2,zac zao hy2,hc34]
      obtain⟨r36,hr37,h⟩:=bs h
      replace hr37:=zag hr37
      refine zal hr37 ?_
      try simp only[go_sem,zab hy2,zaj hy2,zac zao hy2]
      cases h
      exact⟨rfl,Up.of (N:=36) (N':=36) [] rfl rfl (by decide) (.set (.d _) (.set (.ptr' rfl) (.set (.ptr' rfl) (.set (.d _) zae.none)))) (.set zar.refl_d (.set zar.refl_d zah.at))⟩
     rw[if_neg (ff hc35)]at h
     try simp only[go_sem,zab hy2,zaj hy2,zac zao hy2,hc35]
     cases h
     exact⟨rfl,Up.of (N:=36) (N':=36) [] rfl rfl (by decide) (.set (.d _) (.set (.ptr' rfl) (.set (.ptr' rfl) (.set (.d _) zae.none)))) (.set zar.refl_d (.set zar.refl_d zah.at))⟩
    try simp only[go_sem,zab hy2,zaj hy2,zac zao hy2]
    refine zaf (fun hc40=> ?_) (fun hc41=> ?_)
    ·rw[if_pos hc40]at h
     try simp only[go_sem,zab hy2,zaj hy2,zac zao hy2]
     cases h
     exact⟨rfl,Up.of (N:=17) (N':=37) [] rfl rfl (by decide) (.set (.d _) zae.none) zah.at⟩
    rw[if_neg (ff hc41)]at h
    try simp only[go_sem,zab hy2,zaj hy2,zac zao hy2]
    cases h
    exact⟨rfl,Up.of (N:=17) (N':=36) [] rfl rfl (by decide) (.set (.ptr' rfl) (.set (.ptr' rfl) (.set (.d _) zae.none))) (.set zar.refl_d (.set zar.refl_d zah.at))⟩
   rw[if_neg (ffn hc31)]at h
   try simp only[go_sem,zab hy2,zaj hy2,zac zao hy2]
   cases h
   exact⟨rfl,Up.of (N:=17) (N':=17) [] rfl rfl (by decide) (.set (.ptr' rfl) (.set (.ptr' rfl) (.set (.d _) zae.none))) (.set zar.refl_d (.set zar.refl_d zah.at))⟩
  rcases r45 with(q47|q111)
  ·dsimp only at h⊢
   try simp only[go_sem,zab hy2,zaj hy2,zac zao hy2]
   obtain⟨r48,hr49,h⟩:=bs h
   replace hr49:=zag hr49
   refine zal hr49 ?_
   try simp only[go_sem,zab hy2,zaj hy2,zac zao hy2]
   iterate 8 (refine zaA ?_;try simp only[go_sem,zab hy2,zaj hy2,zac zao hy2])
   obtain⟨r52,hl53,h⟩:=bs h
   refine zbD.cut (n:=(0,[])) .normal ⟨((((Regs.none.set 1 (.d (.int .i64 a1))).set 2 (.ptr 0 0 0)).set 5 (.ptr 8 0 0)).set 92 (.d (.bool r52))),(((Heap.at 33).set 0 (some (.els 1 [.d (zaa a0)] 0))).set 8 (some (.els 16 [.d (zao y1)] 0)))⟩ ?_ (by(repeat(refine Clo.seq zaV rfl ?_));(exact Clo.ret)) ?_
   ·replace h:=hl53
    refine zax (fun hc50=> ?_) (fun hc51=> ?_)
    ·rw[if_pos hc50]at h
     try simp only[go_sem,zab hy2,zaj hy2,zac zao hy2,hc50]
     cases h
     exact⟨rfl,Up.of (N:=33) (N':=33) [] rfl rfl (by decide) (.set (.d _) (.set (.ptr' rfl) (.set (.ptr' rfl) (.set (.d _) zae.none)))) (.set zar.refl_d (.set zar.refl_d zah.at))⟩
    rw[if_neg (ff hc51)]at h
    try simp only[go_sem,zab hy2,zaj hy2,zac zao hy2,hc51]
    cases h
    exact⟨rfl,Up.of (N:=33) (N':=33) [] rfl rfl (by decide) (.set (.d _) (.set (.ptr' rfl) (.set (.ptr' rfl) (.set (.d _) zae.none)))) (.set zar.refl_d (.set zar.refl_d zah.at))⟩
   try simp only[go_sem,zab hy2,zaj hy2,zac zao hy2]
   refine zaf (fun hc54=> ?_) (fun hc55=> ?_)
   ·rw[if_pos hc54]at h
    try simp only[go_sem,zab hy2,zaj hy2,zac zao hy2]
    cases h
    rfl
   rw[if_neg (ff hc55)]at h
   try simp only[go_sem,zab hy2,zaj hy2,zac zao hy2]
   obtain⟨r69,hl70,h⟩:=bs h
   refine zek (n:=(0,[])) (fun r=>match r with|(.inl r)=>(.normal,⟨(((Regs.none.set 1 (.d (.int .i64 a1))).set 2 (.ptr 0 0 0)).set 5 (.ptr 8 0 0)),(((Heap.at 36).set 0 (some (.els 1 [.d (zaa a0)] 0))).set 8 (some (.els 16 [.d (zao y1)] 0)))⟩)|(.inr r)=>(.ret,⟨(Regs.none.set 4 (.d (.bool false))),(Heap.at 36)⟩):((Unit)⊕(Unit))→Ex×St) r69 ?_ (by(repeat(refine Clo.seq zaV rfl ?_));(exact Clo.ret)) ?_
   ·replace h:=hl70
    refine zaz (fun hc56=> ?_) (fun hc57=> ?_)
    ·rw[if_pos (show(!(y1.shadow==0))=true by(rw[hc56];rfl))]at h
     try simp only[go_sem,zab hy2,zaj hy2,zac zao hy2]
     obtain⟨r58,hr59,h⟩:=bs h
     replace hr59:=zag hr59
     refine zal hr59 ?_
     try simp only[go_sem,zab hy2,zaj hy2,zac zao hy2]
     iterate 7 (refine zaA ?_;try simp only[go_sem,zab hy2,zaj hy2,zac zao hy2])
     refine zaf (fun hc60=> ?_) (fun hc61=> ?_)
     ·rw[if_pos hc60]at h
      try simp only[go_sem,zab hy2,zaj hy2,zac zao hy2]
      cases h
      exact⟨rfl,Up.of (N:=36) (N':=60) [] rfl rfl (by decide) (.set (.d _) zae.none) zah.at⟩
     rw[if_neg (ff hc61)]at h
     try simp only[go_sem,zab hy2,zaj hy2,zac zao hy2]
     cases h
     exact⟨rfl,Up.of (N:=36) (N':=59) [] rfl rfl (by decide) (.set (.ptr' rfl) (.set (.ptr' rfl) (.set (.d _) zae.none))) (.set zar.refl_d (.set zar.refl_d zah.at))⟩
    rw[if_neg (ffn hc57)]at h
    try simp only[go_sem,zab hy2,zaj hy2,zac zao hy2]
    cases h
    exact⟨rfl,Up.of (N:=36) (N':=36) [] rfl rfl (by decide) (.set (.ptr' rfl) (.set (.ptr' rfl) (.set (.d _) zae.none))) (.set zar.refl_d (.set zar.refl_d zah.at))⟩
   rcases r69 with(q71|q94)
   ·dsimp only at h⊢
    try simp only[go_sem,zab hy2,zaj hy2,zac zao hy2]
    refine zaf (fun hc72=> ?_) (fun hc73=> ?_)
    ·rw[if_pos hc72]at h
     try simp only[go_sem,zab hy2,zaj hy2,zac zao hy2]
     obtain⟨r74,hr75,h⟩:=bs h
     replace hr75:=zag hr75
     refine zal hr75 ?_
     try simp only[go_sem,zab hy2,zaj hy2,zac zao hy2]
     iterate 12 (refine zaA ?_;try simp only[go_sem,zab hy2,zaj hy2,zac zao hy2])
     refine zaf (fun hc76=> ?_) (fun hc77=> ?_)
     ·rw[if_pos hc76]at h
      try simp only[go_sem,zab hy2,zaj hy2,zac zao hy2]
      cases h
      rfl
     rw[if_neg (ff hc77)]at h
     try simp only[go_sem,zab hy2,zaj hy2,zac zao hy2]
     obtain⟨r78,hr79,h⟩:=bs h
     replace hr79:=zag hr79
     refine zal hr79 ?_
     try simp only[go_sem,zab hy2,zaj hy2,zac zao hy2]
     cases h
     rfl
    rw[if_neg (ff hc73)]at h
    try simp only[go_sem,zab hy2,zaj hy2,zac zao hy2]
    obtain⟨r92,hr93,h⟩:=bs h
    replace hr93:=zag hr93
    refine zal hr93 ?_
    try simp only[go_sem,zab hy2,zaj hy2,zac zao hy2]
    cases h
    rfl
   dsimp only at h⊢
   try simp only[go_sem,zab hy2,zaj hy2,zac zao hy2]
   cases h
   rfl
  dsimp only at h⊢
  try simp only[go_sem,zab hy2,zaj hy2,zac zao hy2]
  cases h
  rfl
 dsimp only at h
 dsimp only[zjH]
 try simp only[go_sem,zab hy2,zaj hy2,zac zao hy2]
 cases h
 rfl
def zgb (a0:Forest) (x0:Int×Int):St:=⟨(((Regs.none.set 2 (.ptr 0 0 0)).set 5 (.d (.int .i64 x0.1))).set 6 (.d (.int .i64 x0.2))),((Heap.at 5).set 0 (some (.els 1 [.d (zaa a0)] 0)))⟩
def zjI (a0:Forest):((Unit)⊕(Unit))→Ex×St:=fun r=>match r with
 |(.inl r)=>(.exit 0,⟨Regs.none,(Heap.at 5)⟩)
 |(.inr r)=>(.ret,⟨(Regs.none.set 4 (.d (.bool false))),(Heap.at 5)⟩)
noncomputable def zcr (a0:Forest) (x0:Int×Int):Option ((Int×Int)⊕((Unit)⊕(Unit))):=
 if(decide (x0.2≤(a0.nodes.l.length:Int)))=true then
  (dec (eT2 zao D.bool) (pc prog 81 [zaa a0,.int .i64 x0.1])).bind fun r3=>
  if(!r3.2)=true then
   some (.inr (.inr ()))
  else
   (dec (D.int .i64) (pc prog 144 [zao r3.1])).bind fun r7=>
   some (.inl (r7,(IntKind.wrap .i64 (x0.2+1))))
 else
  some (.inr (.inl ()))
theorem zzC (a0:Forest) (x0:Int×Int) (o:(Int×Int)⊕((Unit)⊕(Unit))) (h:zcr a0 x0=some o):Wp prog zsy (zgb a0 x0) (zbq (0,[]) (zgb a0) (zjI a0) o):=by
 unfold zcr at h
 delta zsy zgb
 try simp only[go_sem]
 refine zaf (fun hc1=> ?_) (fun hc2=> ?_)
 ·rw[if_pos hc1]at h
  try simp only[go_sem]
  obtain⟨r3,hr4,h⟩:=bs h
  replace hr4:=zag hr4
  refine zal hr4 ?_
  try simp only[go_sem]
  refine zaz (fun hc5=> ?_) (fun hc6=> ?_)
  ·rw[if_pos (show(!r3.2)=true by(rw[hc5];rfl))]at h
   try simp only[go_sem]
   cases h
   exact⟨rfl,by simp,Up.of (N:=5) (N':=22) [] rfl rfl (by decide) (.set (.d _) zae.none) zah.at⟩
  rw[if_neg (ffn hc6)]at h
  try simp only[go_sem]
  obtain⟨r7,hr8,h⟩:=bs h
  replace hr8:=zag hr8
  refine zal hr8 ?_
  try simp only[go_sem]
  cases h
  exact⟨rfl,Up.of (N:=5) (N':=27) [] rfl rfl (by decide) (.set (.d _) (.set (.d _) (.set (.ptr' rfl) zae.none))) (.set zar.refl_d zah.at)⟩
 rw[if_neg (ff hc2)]at h
 try simp only[go_sem]
 cases h
 exact⟨rfl,by simp,Up.of (N:=5) (N':=10) [] rfl rfl (by decide) zae.none zah.at⟩
noncomputable def zOH (a0:Forest) (a1:Int):Option (Bool):=
 (zaL (zcr a0) (a1,0)).bind fun r9=>
 match r9 with
 |(.inl q11)=>
  some true
 |(.inr q12)=>
  some false
theorem zOI (a0:Forest) (a1:Int) (r:Bool) (h:zOH a0 a1=some r):pc prog 113 [zaa a0,.int .i64 a1]=some (D.bool r):=by
 unfold zOH at h
 refine zaQ (fn:=zMZ) rfl rfl ?_
 delta zMZ
 try simp only[go_sem]
 obtain⟨r9,hl10,h⟩:=bs h
 refine Wp.loopR zaV (n:=(0,[])) (a:=zsy) rfl (zgb a0) (zjI a0) (zzC a0) hl10 ?_ (by(repeat(first|refine Clo.block ?_|refine Clo.seq zaV rfl ?_));(exact Clo.ret)) ?_
 ·show Up (0,[]) (zgb a0 (a1,0)) _
  delta zgb
  exact Up.of (N:=5) (N':=5) [] rfl rfl (by decide) (.set (.d _) (.set (.d _) (.set (.ptr' rfl) zae.none))) (.set zar.refl_d zah.at)
 rcases r9 with(q11|q12)
 ·dsimp only at h
  dsimp only[zjI]
  try simp only[go_sem]
  cases h
  rfl
 dsimp only at h
 dsimp only[zjI]
 try simp only[go_sem]
 cases h
 rfl
noncomputable def zOJ (a0:Forest) (a1:Int):Option (Int):=
 (dec zao (pc prog 50 [zaa a0,.int .i64 a1])).bind fun r1=>
 if(r1.kind==12)=true then
  some r1.host
 else
  some r1.parent
theorem zOK (a0:Forest) (a1:Int) (r:Int) (h:zOJ a0 a1=some r):pc prog 150 [zaa a0,.int .i64 a1]=some ((D.int .i64) r):=by
 unfold zOJ at h
 refine zaQ (fn:=zNF) rfl rfl ?_
 delta zNF
 try simp only[go_sem]
 obtain⟨r1,hr2,h⟩:=bs h
 replace hr2:=zag hr2
 refine zal hr2 ?_
 try simp only[go_sem]
 refine zaf (fun hc3=> ?_) (fun hc4=> ?_)
 ·rw[if_pos hc3]at h
  try simp only[go_sem]
  cases h
  rfl
 rw[if_neg (ff hc4)]at h
 try simp only[go_sem]
 cases h
 rfl
noncomputable def zOL (a0:Node):Option (Int):=
 if(a0.kind==12)=true then
  some a0.host
 else
  some a0.parent
theorem zOM (a0:Node) (r:Int) (h:zOL a0=some r):pc prog 126 [zao a0]=some ((D.int .i64) r):=by
 unfold zOL at h
 refine zaQ (fn:=zNi) rfl rfl ?_
 delta zNi
 try simp only[go_sem]
 refine zaf (fun hc1=> ?_) (fun hc2=> ?_)
 ·rw[if_pos hc1]at h
  try simp only[go_sem]
  cases h
  rfl
 rw[if_neg (ff hc2)]at h
 try simp only[go_sem]
 cases h
 rfl
noncomputable def zON (a0:Int):Option (forest_trait):=
 if(a0==1)=true then
  some (⟨true,false,true,true,true,false⟩:forest_trait)
 else
  (if(a0==3)=true then
   some (a0==3)
  else
   (if(a0==4)=true then
    some (a0==4)
   else
    some (a0==8):Option ((Bool))).bind fun r7=>
   some r7:Option ((Bool))).bind fun r9=>
  if r9=true then
   some (⟨true,true,false,true,false,false⟩:forest_trait)
  else
   if(a0==7)=true then
    some (⟨true,true,false,true,false,true⟩:forest_trait)
   else
    if(a0==10)=true then
     some (⟨true,false,false,true,false,true⟩:forest_trait)
    else
     if(a0==9)=true then
      some (⟨true,false,true,false,false,false⟩:forest_trait)
     else
      if(a0==11)=true then
       some (⟨true,false,true,false,false,false⟩:forest_trait)
      else
       if(a0==12)=true then
        some (⟨true,false,true,false,false,false⟩:forest_trait)
       else
        some (⟨false,false,false,false,false,false⟩:forest_trait)
theorem zOO (a0:Int) (r:forest_trait) (h:zON a0=some r):pc prog 127 [.int .u8 a0]=some (zaH r):=by
 unfold zON at h
 refine zaQ (fn:=zNj) rfl rfl ?_
 delta zNj
 try simp only[go_sem]
 refine zaf (fun hc1=> ?_) (fun hc2=> ?_)
 ·rw[if_pos hc1]at h
  try simp only[go_sem]
  cases h
  rfl
 rw[if_neg (ff hc2)]at h
 try simp only[go_sem]
 obtain⟨r9,hl10,h⟩:=bs h
 refine WBr.cut (n:=(0,[])) .normal ⟨(((Regs.none.set 2 (.ptr 0 0 0)).set 3 (.d (.int .u8 a0))).set 7 (.d (.bool r9))),((Heap.at 6).set 0 (some (.els 6 [.d (.agg [.bool false,.bool false,.bool false,.bool false,.bool false,.bool false])] 0)))⟩ ?_ (by(repeat(first|refine Clo.block ?_|refine Clo.seq zaV rfl ?_));(exact Clo.ret)) ?_
 ·replace h:=hl10
  refine zaf (fun hc3=> ?_) (fun hc4=> ?_)
  ·rw[if_pos hc3]at h
   try simp only[go_sem]
   cases h
   exact⟨rfl,Up.of (N:=6) (N':=6) [] rfl rfl (by decide) (.set (.d _) (.set (.d _) (.set (.ptr' rfl) zae.none))) (.set zar.refl_d zah.at)⟩
  rw[if_neg (ff hc4)]at h
  try simp only[go_sem]
  obtain⟨r7,hl8,h⟩:=bs h
  refine WBr.cut (n:=(0,[])) .normal ⟨(((Regs.none.set 2 (.ptr 0 0 0)).set 3 (.d (.int .u8 a0))).set 7 (.d (.bool r7))),((Heap.at 8).set 0 (some (.els 6 [.d (.agg [.bool false,.bool false,.bool false,.bool false,.bool false,.bool false])] 0)))⟩ ?_ (by(repeat(first|refine Clo.block ?_|refine Clo.seq zaV rfl ?_));(exact Clo.cpost (by decide))) ?_
  ·replace h:=hl8
   refine zaf (fun hc5=> ?_) (fun hc6=> ?_)
   ·rw[if_pos hc5]at h
    try simp only[go_sem]
    cases h
    exact⟨rfl,Up.of (N:=8) (N':=8) [] rfl rfl (by decide) (.set (.d _) (.set (.d _) (.set (.ptr' rfl) zae.none))) (.set zar.refl_d zah.at)⟩
   rw[if_neg (ff hc6)]at h
   try simp only[go_sem]
   cases h
   exact⟨rfl,Up.of (N:=8) (N':=10) [] rfl rfl (by decide) (.set (.d _) (.set (.d _) (.set (.ptr' rfl) zae.none))) (.set zar.refl_d zah.at)⟩
  skip
  cases h
  exact⟨rfl,Up.of (N:=6) (N':=8) [] rfl rfl (by decide) (.set (.d _) (.set (.d _) (.set (.ptr' rfl) zae.none))) (.set zar.refl_d zah.at)⟩
 try simp only[go_sem]
 refine zaf (fun hc11=> ?_) (fun hc12=> ?_)
 ·rw[if_pos hc11]at h
  try simp only[go_sem]
  cases h
  rfl
 rw[if_neg (ff hc12)]at h
 try simp only[go_sem]
 refine zaf (fun hc13=> ?_) (fun hc14=> ?_)
 ·rw[if_pos hc13]at h
  try simp only[go_sem]
  cases h
  rfl
 rw[if_neg (ff hc14)]at h
 try simp only[go_sem]
 refine zaf (fun hc15=> ?_) (fun hc16=> ?_)
 ·rw[if_pos hc15]at h
  try simp only[go_sem]
  cases h
  rfl
 rw[if_neg (ff hc16)]at h
 try simp only[go_sem]
 refine zaf (fun hc17=> ?_) (fun hc18=> ?_)
 ·rw[if_pos hc17]at h
  try simp only[go_sem]
  try simp only[go_sem,hc2,hc12,hc14,hc16,hc17]
  cases h
  rfl
 rw[if_neg (ff hc18)]at h
 try simp only[go_sem]
 refine zaf (fun hc19=> ?_) (fun hc20=> ?_)
 ·rw[if_pos hc19]at h
  try simp only[go_sem]
  try simp only[go_sem,hc2,hc12,hc14,hc16,hc18,hc19]
  cases h
  rfl
 rw[if_neg (ff hc20)]at h
 try simp only[go_sem]
 refine zaf (fun hc21=> ?_) (fun hc22=> ?_)
 ·rw[if_pos hc21]at h
  try simp only[go_sem]
  cases h
  rfl
 rw[if_neg (ff hc22)]at h
 try simp only[go_sem]
 cases h
 rfl
noncomputable def zOP (a0:Node) (a1:forest_trait):Option (Bool):=
 if a1.full=true then
  (dec D.bool (pc prog 155 [zcf a0.name])).bind fun r3=>
  some r3
 else
  if a1.local_=true then
   if(!(a0.name.local_==[]))=true then
    (dec D.bool (pc prog 130 [.list false (([a0.name.local_]).map D.str)])).bind fun r9=>
    if r9=true then
     some (decide (a0.name=(⟨[],[],a0.name.local_⟩:Name)))
    else
     some false
   else
    some false
  else
   some (decide (a0.name=(⟨[],[],[]⟩:Name)))
theorem zOQ (a0:Node) (a1:forest_trait) (r:Bool) (h:zOP a0 a1=some r):pc prog 128 [zao a0,zaH a1]=some (D.bool r):=by
 unfold zOP at h
 refine zaQ (fn:=zNk) rfl rfl ?_
 delta zNk
 try simp only[go_sem]
 refine zaf (fun hc1=> ?_) (fun hc2=> ?_)
 ·rw[if_pos hc1]at h
  try simp only[go_sem]
  obtain⟨r3,hr4,h⟩:=bs h
  replace hr4:=zag hr4
  refine zal hr4 ?_
  try simp only[go_sem]
  cases h
  rfl
 rw[if_neg (ff hc2)]at h
 try simp only[go_sem]
 refine zaf (fun hc5=> ?_) (fun hc6=> ?_)
 ·rw[if_pos hc5]at h
  try simp only[go_sem]
  iterate 3 (refine zaA ?_;try simp only[go_sem])
  refine zaB (fun hc7=> ?_) (fun hc8=> ?_)
  ·rw[if_pos (show(!(a0.name.local_==[]))=true by(rw[hc7];rfl))]at h
   try simp only[go_sem,hc7]
   obtain⟨r9,hr10,h⟩:=bs h
   replace hr10:=zag hr10
   refine zal hr10 ?_
   try simp only[go_sem]
   iterate 5 (refine zaA ?_;try simp only[go_sem])
   refine zax (fun hc11=> ?_) (fun hc12=> ?_)
   ·rw[if_pos hc11]at h
    try simp only[go_sem,hc11]
    cases h
    rfl
   rw[if_neg (ff hc12)]at h
   try simp only[go_sem,hc12]
   cases h
   rfl
  rw[if_neg (ffn hc8)]at h
  try simp only[go_sem,hc8]
  cases h
  rfl
 rw[if_neg (ff hc6)]at h
 try simp only[go_sem]
 cases h
 rfl
def zgc (a0:Sl (Attr)) (x0:List (forest_key×Int)×Int):St:=⟨((((Regs.none.set 3 (.map 4)).set 11 (.d (.list a0.n (a0.l.map zbg)))).set 12 (.d (.int .i64 (a0.l.length:Int)))).set 13 (.d (.int .i64 x0.2))),((Heap.at 9).set 4 (some (.map (ents zaq (fun z=>V.d ((D.int .i64) z)) x0.1 0) x0.1.length)))⟩
def zjJ (a0:Sl (Attr)):((Unit)⊕(Unit))→Ex×St:=fun r=>match r with
 |(.inl r)=>(.exit 0,⟨Regs.none,(Heap.at 9)⟩)
 |(.inr r)=>(.ret,⟨(Regs.none.set 2 (.d (.bool false))),(Heap.at 9)⟩)
noncomputable def zdM (a0:Sl (Attr)) (x0:List (forest_key×Int)×Int):Option ((List (forest_key×Int)×Int)⊕((Unit)⊕(Unit))):=
 if(decide (x0.2<(a0.l.length:Int)))=true then
  (rd a0.l x0.2).bind fun y5=>
  (dec zaq (pc prog 156 [zcf y5.name])).bind fun r7=>
  (dec D.bool (pc prog 155 [zcf y5.name])).bind fun r9=>
  if(!(bif (!r9)then true else(decide (4096<(y5.value.length:Int)))))=true then
   if(decide (0<(zhW r7 x0.1 (0))))=true then
    some (.inr (.inr ()))
   else
    some (.inl ((zfy r7 (IntKind.wrap .i64 ((zhW r7 x0.1 (0))+1)) x0.1),(IntKind.wrap .i64 (x0.2+1))))
  else
   some (.inr (.inr ()))
 else
  some (.inr (.inl ()))
theorem zzD (a0:Sl (Attr)) (x0:List (forest_key×Int)×Int) (o:(List (forest_key×Int)×Int)⊕((Unit)⊕(Unit))) (h:zdM a0 x0=some o):Wp prog zsA (zgc a0 x0) (zbq (0,[]) (zgc a0) (zjJ a0) o):=by
 unfold zdM at h
 delta zsA zgc
 try simp only[go_sem]
 refine zaf (fun hc3=> ?_) (fun hc4=> ?_)
 ·rw[if_pos hc3]at h
  try simp only[go_sem,zaD (e:=zaq) (ev:=(D.int .i64)) zat,zaE (e:=zaq) (ev:=(D.int .i64)) zat,zay (e:=zaq) (ev:=(D.int .i64)) zat,zaF (e:=zaq) (ev:=(D.int .i64)) zat,zaG (e:=zaq) (ev:=(D.int .i64))]
  obtain⟨y5,hy6,h⟩:=bs h
  try simp only[go_sem,zaD (e:=zaq) (ev:=(D.int .i64)) zat,zaE (e:=zaq) (ev:=(D.int .i64)) zat,zay (e:=zaq) (ev:=(D.int .i64)) zat,zaF (e:=zaq) (ev:=(D.int .i64)) zat,zaG (e:=zaq) (ev:=(D.int .i64)),zab hy6,zaj hy6,zac zbg hy6]
  obtain⟨r7,hr8,h⟩:=bs h
  replace hr8:=zag hr8
  refine zal hr8 ?_
  try simp only[go_sem,zaD (e:=zaq) (ev:=(D.int .i64)) zat,zaE (e:=zaq) (ev:=(D.int .i64)) zat,zay (e:=zaq) (ev:=(D.int .i64)) zat,zaF (e:=zaq) (ev:=(D.int .i64)) zat,zaG (e:=zaq) (ev:=(D.int .i64)),zab hy6,zaj hy6,zac zbg hy6]
  obtain⟨r9,hr10,h⟩:=bs h
  replace hr10:=zag hr10
  refine zal hr10 ?_
  try simp only[go_sem,zaD (e:=zaq) (ev:=(D.int .i64)) zat,zaE (e:=zaq) (ev:=(D.int .i64)) zat,zay (e:=zaq) (ev:=(D.int .i64)) zat,zaF (e:=zaq) (ev:=(D.int .i64)) zat,zaG (e:=zaq) (ev:=(D.int .i64)),zab hy6,zaj hy6,zac zbg hy6]
  iterate 4 (refine zaA ?_;try simp only[go_sem,zaD (e:=zaq) (ev:=(D.int .i64)) zat,zaE (e:=zaq) (ev:=(D.int .i64)) zat,zay (e:=zaq) (ev:=(D.int .i64)) zat,zaF (e:=zaq) (ev:=(D.int .i64)) zat,zaG (e:=zaq) (ev:=(D.int .i64)),zab hy6,zaj hy6,zac zbg hy6])
  refine zaB (fun hc11=> ?_) (fun hc12=> ?_)
  ·rw[if_pos (show(!(bif (!r9)then true else(decide (4096<(y5.value.length:Int)))))=true by(rw[hc11];rfl))]at h
   try simp only[go_sem,zaD (e:=zaq) (ev:=(D.int .i64)) zat,zaE (e:=zaq) (ev:=(D.int .i64)) zat,zay (e:=zaq) (ev:=(D.int .i64)) zat,zaF (e:=zaq) (ev:=(D.int .i64)) zat,zaG (e:=zaq) (ev:=(D.int .i64)),zab hy6,zaj hy6,zac zbg hy6,hc11]
   refine zaf (fun hc13=> ?_) (fun hc14=> ?_)
   ·rw[if_pos hc13]at h
    try simp only[go_sem,zaD (e:=zaq) (ev:=(D.int .i64)) zat,zaE (e:=zaq) (ev:=(D.int .i64)) zat,zay (e:=zaq) (ev:=(D.int .i64)) zat,zaF (e:=zaq) (ev:=(D.int .i64)) zat,zaG (e:=zaq) (ev:=(D.int .i64)),zab hy6,zaj hy6,zac zbg hy6]
    cases h
    exact⟨rfl,by simp,Up.of (N:=9) (N':=36) [] rfl rfl (by decide) (.set (.d _) zae.none) zah.at⟩
   rw[if_neg (ff hc14)]at h
   try simp only[go_sem,zaD (e:=zaq) (ev:=(D.int .i64)) zat,zaE (e:=zaq) (ev:=(D.int .i64)) zat,zay (e:=zaq) (ev:=(D.int .i64)) zat,zaF (e:=zaq) (ev:=(D.int .i64)) zat,zaG (e:=zaq) (ev:=(D.int .i64)),zab hy6,zaj hy6,zac zbg hy6]
   cases h
   exact⟨rfl,Up.of (N:=9) (N':=44) [] rfl rfl (by decide) (.set (.d _) (.set (.d _) (.set (.d _) (.set (.map' rfl) zae.none)))) (.set zar.map_d zah.at)⟩
  rw[if_neg (ffn hc12)]at h
  try simp only[go_sem,zaD (e:=zaq) (ev:=(D.int .i64)) zat,zaE (e:=zaq) (ev:=(D.int .i64)) zat,zay (e:=zaq) (ev:=(D.int .i64)) zat,zaF (e:=zaq) (ev:=(D.int .i64)) zat,zaG (e:=zaq) (ev:=(D.int .i64)),zab hy6,zaj hy6,zac zbg hy6,hc12]
  cases h
  exact⟨rfl,by simp,Up.of (N:=9) (N':=36) [] rfl rfl (by decide) (.set (.d _) zae.none) zah.at⟩
 rw[if_neg (ff hc4)]at h
 try simp only[go_sem,zaD (e:=zaq) (ev:=(D.int .i64)) zat,zaE (e:=zaq) (ev:=(D.int .i64)) zat,zay (e:=zaq) (ev:=(D.int .i64)) zat,zaF (e:=zaq) (ev:=(D.int .i64)) zat,zaG (e:=zaq) (ev:=(D.int .i64))]
 cases h
 exact⟨rfl,by simp,Up.of (N:=9) (N':=10) [] rfl rfl (by decide) zae.none zah.at⟩
noncomputable def zOR (a0:Sl (Attr)):Option (Bool):=
 if(decide (64<(a0.l.length:Int)))=true then
  some false
 else
  (zaL (zdM a0) ([],0)).bind fun r19=>
  match r19 with
  |(.inl q21)=>
   some true
  |(.inr q22)=>
   some false
theorem zOS (a0:Sl (Attr)) (r:Bool) (h:zOR a0=some r):pc prog 129 [.list a0.n (a0.l.map zbg)]=some (D.bool r):=by
 unfold zOR at h
 refine zaQ (fn:=zNl) rfl rfl ?_
 delta zNl
 try simp only[go_sem]
 refine zaf (fun hc1=> ?_) (fun hc2=> ?_)
 ·rw[if_pos hc1]at h
  try simp only[go_sem]
  cases h
  rfl
 rw[if_neg (ff hc2)]at h
 try simp only[go_sem]
 obtain⟨r19,hl20,h⟩:=bs h
 refine Wp.loopR zaV (n:=(0,[])) (a:=zsA) rfl (zgc a0) (zjJ a0) (zzD a0) hl20 ?_ (by(repeat(first|refine Clo.block ?_|refine Clo.seq zaV rfl ?_));(exact Clo.ret)) ?_
 ·show Up (0,[]) (zgc a0 ([],0)) _
  delta zgc
  exact Up.of (N:=9) (N':=9) [] rfl rfl (by decide) (.set (.d _) (.set (.d _) (.set (.d _) (.set (.map' rfl) zae.none)))) (.set zar.map_d zah.at)
 rcases r19 with(q21|q22)
 ·dsimp only at h
  dsimp only[zjJ]
  try simp only[go_sem]
  cases h
  rfl
 dsimp only at h
 dsimp only[zjJ]
 try simp only[go_sem]
 cases h
 rfl
def zgd (a0:Sl (List UInt8)) (x0:Int):St:=⟨(((Regs.none.set 5 (.d (.list a0.n (a0.l.map D.str)))).set 6 (.d (.int .i64 (a0.l.length:Int)))).set 7 (.d (.int .i64 x0))),(Heap.at 4)⟩
def zjK (a0:Sl (List UInt8)):((Unit)⊕(Unit))→Ex×St:=fun r=>match r with
 |(.inl r)=>(.exit 0,⟨Regs.none,(Heap.at 4)⟩)
 |(.inr r)=>(.ret,⟨(Regs.none.set 2 (.d (.bool false))),(Heap.at 4)⟩)
noncomputable def zdN (a0:Sl (List UInt8)) (x0:Int):Option ((Int)⊕((Unit)⊕(Unit))):=
 if(decide (x0<(a0.l.length:Int)))=true then
  (rd a0.l x0).bind fun y3=>
  if(decide (1024<(y3.length:Int)))=true then
   some (.inr (.inr ()))
  else
   some (.inl (IntKind.wrap .i64 (x0+1)))
 else
  some (.inr (.inl ()))
theorem zzE (a0:Sl (List UInt8)) (x0:Int) (o:(Int)⊕((Unit)⊕(Unit))) (h:zdN a0 x0=some o):Wp prog zsB (zgd a0 x0) (zbq (0,[]) (zgd a0) (zjK a0) o):=by
 unfold zdN at h
 delta zsB zgd
 try simp only[go_sem]
 refine zaf (fun hc1=> ?_) (fun hc2=> ?_)
 ·rw[if_pos hc1]at h
  try simp only[go_sem]
  obtain⟨y3,hy4,h⟩:=bs h
  try simp only[go_sem,zab hy4,zaj hy4,zac D.str hy4]
  refine zaf (fun hc5=> ?_) (fun hc6=> ?_)
  ·rw[if_pos hc5]at h
   try simp only[go_sem,zab hy4,zaj hy4,zac D.str hy4]
   cases h
   exact⟨rfl,by simp,Up.of (N:=4) (N':=12) [] rfl rfl (by decide) (.set (.d _) zae.none) zah.at⟩
  rw[if_neg (ff hc6)]at h
  try simp only[go_sem,zab hy4,zaj hy4,zac D.str hy4]
  cases h
  exact⟨rfl,Up.of (N:=4) (N':=13) [] rfl rfl (by decide) (.set (.d _) (.set (.d _) (.set (.d _) zae.none))) zah.at⟩
 rw[if_neg (ff hc2)]at h
 try simp only[go_sem]
 cases h
 exact⟨rfl,by simp,Up.of (N:=4) (N':=5) [] rfl rfl (by decide) zae.none zah.at⟩
noncomputable def zOT (a0:Sl (List UInt8)):Option (Bool):=
 (zaL (zdN a0) 0).bind fun r7=>
 match r7 with
 |(.inl q9)=>
  some true
 |(.inr q10)=>
  some false
theorem zOU (a0:Sl (List UInt8)) (r:Bool) (h:zOT a0=some r):pc prog 130 [.list a0.n (a0.l.map D.str)]=some (D.bool r):=by
 unfold zOT at h
 refine zaQ (fn:=zNm) rfl rfl ?_
 delta zNm
 try simp only[go_sem]
 obtain⟨r7,hl8,h⟩:=bs h
 refine Wp.loopR zaV (n:=(0,[])) (a:=zsB) rfl (zgd a0) (zjK a0) (zzE a0) hl8 ?_ (by(repeat(first|refine Clo.block ?_|refine Clo.seq zaV rfl ?_));(exact Clo.ret)) ?_
 ·show Up (0,[]) (zgd a0 0) _
  delta zgd
  exact Up.of (N:=4) (N':=4) [] rfl rfl (by decide) (.set (.d _) (.set (.d _) (.set (.d _) zae.none))) zah.at
 rcases r7 with(q9|q10)
 ·dsimp only at h
  dsimp only[zjK]
  try simp only[go_sem]
  cases h
  rfl
 dsimp only at h
 dsimp only[zjK]
 try simp only[go_sem]
 cases h
 rfl
noncomputable def zOV (a0:Forest) (a1:Int):Option (Node×Bool):=
 if(bif (decide (a1<1))then true else(decide ((a0.nodes.l.length:Int)<a1)))=true then
  some ((⟨0,⟨[],[],[]⟩,[],[],⟨true,[]⟩,⟨true,[]⟩,0,⟨true,[]⟩,0,0,0,0,false,false⟩:Node),false)
 else
  (rd a0.nodes.l (IntKind.wrap .i64 (a1-1))).bind fun y3=>
  some (y3,true)
theorem zOW (a0:Forest) (a1:Int) (r:Node×Bool) (h:zOV a0 a1=some r):pc prog 131 [zaa a0,.int .i64 a1]=some ((eT2 zao D.bool) r):=by
 unfold zOV at h
 refine zaQ (fn:=zNn) rfl rfl ?_
 delta zNn
 try simp only[go_sem]
 iterate 5 (refine zaA ?_;try simp only[go_sem])
 refine zaf (fun hc1=> ?_) (fun hc2=> ?_)
 ·rw[if_pos hc1]at h
  try simp only[go_sem]
  cases h
  rfl
 rw[if_neg (ff hc2)]at h
 try simp only[go_sem]
 obtain⟨y3,hy4,h⟩:=bs h
 try simp only[go_sem,zab hy4,zaj hy4,zac zao hy4]
 cases h
 rfl
def zge (a0:Sl (Int)) (a1:Int) (x0:Int×Int):St:=⟨(((((Regs.none.set 1 (.d (.int .i64 a1))).set 5 (.d (.int .i64 x0.2))).set 8 (.d (.list a0.n (a0.l.map (D.int .i64))))).set 9 (.d (.int .i64 (a0.l.length:Int)))).set 10 (.d (.int .i64 x0.1))),(Heap.at 5)⟩
def zne (a0:Sl (Int)) (a1:Int):((Int))→Ex×St:=fun r=>(.exit 0,⟨(Regs.none.set 5 (.d (.int .i64 r))),(Heap.at 5)⟩)
noncomputable def zdO (a0:Sl (Int)) (a1:Int) (x0:Int×Int):Option ((Int×Int)⊕((Int))):=
 if(decide (x0.1<(a0.l.length:Int)))=true then
  (rd a0.l x0.1).bind fun y3=>
  if(y3==a1)=true then
   some (.inl ((IntKind.wrap .i64 (x0.1+1)),(IntKind.wrap .i64 (x0.2+1))))
  else
   some (.inl ((IntKind.wrap .i64 (x0.1+1)),x0.2))
 else
  some (.inr x0.2)
theorem zzF (a0:Sl (Int)) (a1:Int) (x0:Int×Int) (o:(Int×Int)⊕((Int))) (h:zdO a0 a1 x0=some o):Wp prog zsC (zge a0 a1 x0) (zbq (0,[]) (zge a0 a1) (zne a0 a1) o):=by
 unfold zdO at h
 delta zsC zge
 try simp only[go_sem]
 refine zaf (fun hc1=> ?_) (fun hc2=> ?_)
 ·rw[if_pos hc1]at h
  try simp only[go_sem]
  obtain⟨y3,hy4,h⟩:=bs h
  try simp only[go_sem,zab hy4,zaj hy4,zac (D.int .i64) hy4]
  refine zaf (fun hc5=> ?_) (fun hc6=> ?_)
  ·rw[if_pos hc5]at h
   try simp only[go_sem,zab hy4,zaj hy4,zac (D.int .i64) hy4]
   cases h
   exact⟨rfl,Up.of (N:=5) (N':=17) [] rfl rfl (by decide) (.set (.d _) (.set (.d _) (.set (.d _) (.set (.d _) (.set (.d _) zae.none))))) zah.at⟩
  rw[if_neg (ff hc6)]at h
  try simp only[go_sem,zab hy4,zaj hy4,zac (D.int .i64) hy4]
  cases h
  exact⟨rfl,Up.of (N:=5) (N':=14) [] rfl rfl (by decide) (.set (.d _) (.set (.d _) (.set (.d _) (.set (.d _) (.set (.d _) zae.none))))) zah.at⟩
 rw[if_neg (ff hc2)]at h
 try simp only[go_sem]
 cases h
 exact⟨rfl,by simp,Up.of (N:=5) (N':=6) [] rfl rfl (by decide) (.set (.d _) zae.none) zah.at⟩
noncomputable def zOX (a0:Sl (Int)) (a1:Int):Option (Bool):=
 (zaL (zdO a0 a1) (0,0)).bind fun r7=>
 some (r7==1)
theorem zOY (a0:Sl (Int)) (a1:Int) (r:Bool) (h:zOX a0 a1=some r):pc prog 132 [.list a0.n (a0.l.map (D.int .i64)),.int .i64 a1]=some (D.bool r):=by
 unfold zOX at h
 refine zaQ (fn:=zNo) rfl rfl ?_
 delta zNo
 try simp only[go_sem]
 obtain⟨r7,hl8,h⟩:=bs h
 refine Wp.loopR zaV (n:=(0,[])) (a:=zsC) rfl (zge a0 a1) (zne a0 a1) (zzF a0 a1) hl8 ?_ (by(repeat(first|refine Clo.block ?_|refine Clo.seq zaV rfl ?_));(exact Clo.ret)) ?_
 ·show Up (0,[]) (zge a0 a1 (0,0)) _
  delta zge
  exact Up.of (N:=5) (N':=5) [] rfl rfl (by decide) (.set (.d _) (.set (.d _) (.set (.d _) (.set (.d _) (.set (.d _) zae.none))))) zah.at
 dsimp only[zne]
 try simp only[go_sem]
 cases h
 rfl
noncomputable def zOZ (a0:Forest) (a1:Int):Option (Int):=
 (dec (eT2 zao D.bool) (pc prog 131 [zaa a0,.int .i64 a1])).bind fun r1=>
 some r1.1.kind
theorem zPa (a0:Forest) (a1:Int) (r:Int) (h:zOZ a0 a1=some r):pc prog 133 [zaa a0,.int .i64 a1]=some ((D.int .u8) r):=by
 unfold zOZ at h
 refine zaQ (fn:=zNp) rfl rfl ?_
 delta zNp
 try simp only[go_sem]
 obtain⟨r1,hr2,h⟩:=bs h
 replace hr2:=zag hr2
 refine zal hr2 ?_
 try simp only[go_sem]
 cases h
 rfl
def zgf (a0:Forest) (a1:Int) (a2:Node) (x0:List (Int×Int)×Int):St:=⟨(((((((Regs.none.set 1 (.d (.int .i64 a1))).set 3 (.ptr 0 0 0)).set 5 (.ptr 1 0 0)).set 7 (.map 3)).set 14 (.d (.list a2.kids.n (a2.kids.l.map (D.int .i64))))).set 15 (.d (.int .i64 (a2.kids.l.length:Int)))).set 16 (.d (.int .i64 x0.2))),((((Heap.at 9).set 0 (some (.els 1 [.d (zaa a0)] 0))).set 1 (some (.els 16 [.d (zao a2)] 0))).set 3 (some (.map (ents (D.int .i64) (fun z=>V.d ((D.int .i64) z)) x0.1 0) x0.1.length)))⟩
def zjL (a0:Forest) (a1:Int) (a2:Node):((Unit)⊕(Unit))→Ex×St:=fun r=>match r with
 |(.inl r)=>(.exit 0,⟨((Regs.none.set 3 (.ptr 0 0 0)).set 5 (.ptr 1 0 0)),(((Heap.at 9).set 0 (some (.els 1 [.d (zaa a0)] 0))).set 1 (some (.els 16 [.d (zao a2)] 0)))⟩)
 |(.inr r)=>(.ret,⟨(Regs.none.set 6 (.d (.bool false))),(Heap.at 9)⟩)
noncomputable def zdP (a0:Forest) (a1:Int) (a2:Node) (x0:List (Int×Int)×Int):Option ((List (Int×Int)×Int)⊕((Unit)⊕(Unit))):=
 if(decide (x0.2<(a2.kids.l.length:Int)))=true then
  (rd a2.kids.l x0.2).bind fun y3=>
  (dec (eT2 zao D.bool) (pc prog 131 [zaa a0,.int .i64 y3])).bind fun r5=>
  if r5.2=true then
   if(bif (bif (decide (0<(zhW y3 x0.1 (0))))then true else(!(r5.1.parent==a1)))then true else(!(r5.1.doc==a2.doc)))=true then
    some (.inr (.inr ()))
   else
    some (.inl ((zfy y3 (IntKind.wrap .i64 ((zhW y3 x0.1 (0))+1)) x0.1),(IntKind.wrap .i64 (x0.2+1))))
  else
   some (.inr (.inr ()))
 else
  some (.inr (.inl ()))
theorem zzG (a0:Forest) (a1:Int) (a2:Node) (x0:List (Int×Int)×Int) (o:(List (Int×Int)×Int)⊕((Unit)⊕(Unit))) (h:zdP a0 a1 a2 x0=some o):Wp prog zsD (zgf a0 a1 a2 x0) (zbq (0,[]) (zgf a0 a1 a2) (zjL a0 a1 a2) o):=by
 unfold zdP at h
 delta zsD zgf
 try simp only[go_sem]
 refine zaf (fun hc1=> ?_) (fun hc2=> ?_)
 ·rw[if_pos hc1]at h
  try simp only[go_sem,zaD (e:=(D.int .i64)) (ev:=(D.int .i64)) zak,zaE (e:=(D.int .i64)) (ev:=(D.int .i64)) zak,zay (e:=(D.int .i64)) (ev:=(D.int .i64)) zak,zaF (e:=(D.int .i64)) (ev:=(D.int .i64)) zak,zaG (e:=(D.int .i64)) (ev:=(D.int .i64))]
  obtain⟨y3,hy4,h⟩:=bs h
  try simp only[go_sem,zaD (e:=(D.int .i64)) (ev:=(D.int .i64)) zak,zaE (e:=(D.int .i64)) (ev:=(D.int .i64)) zak,zay (e:=(D.int .i64)) (ev:=(D.int .i64)) zak,zaF (e:=(D.int .i64)) (ev:=(D.int .i64)) zak,zaG (e:=(D.int .i64)) (ev:=(D.int .i64)),zab hy4,zaj hy4,zac (D.int .i64) hy4]
  obtain⟨r5,hr6,h⟩:=bs h
  replace hr6:=zag hr6
  refine zal hr6 ?_
  try simp only[go_sem,zaD (e:=(D.int .i64)) (ev:=(D.int .i64)) zak,zaE (e:=(D.int .i64)) (ev:=(D.int .i64)) zak,zay (e:=(D.int .i64)) (ev:=(D.int .i64)) zak,zaF (e:=(D.int .i64)) (ev:=(D.int .i64)) zak,zaG (e:=(D.int .i64)) (ev:=(D.int .i64)),zab hy4,zaj hy4,zac (D.int .i64) hy4]
  refine zax (fun hc7=> ?_) (fun hc8=> ?_)
  ·rw[if_pos hc7]at h
   try simp only[go_sem,zaD (e:=(D.int .i64)) (ev:=(D.int .i64)) zak,zaE (e:=(D.int .i64)) (ev:=(D.int .i64)) zak,zay (e:=(D.int .i64)) (ev:=(D.int .i64)) zak,zaF (e:=(D.int .i64)) (ev:=(D.int .i64)) zak,zaG (e:=(D.int .i64)) (ev:=(D.int .i64)),zab hy4,zaj hy4,zac (D.int .i64) hy4,hc7]
   iterate 9 (refine zaA ?_;try simp only[go_sem,zaD (e:=(D.int .i64)) (ev:=(D.int .i64)) zak,zaE (e:=(D.int .i64)) (ev:=(D.int .i64)) zak,zay (e:=(D.int .i64)) (ev:=(D.int .i64)) zak,zaF (e:=(D.int .i64)) (ev:=(D.int .i64)) zak,zaG (e:=(D.int .i64)) (ev:=(D.int .i64)),zab hy4,zaj hy4,zac (D.int .i64) hy4])
   refine zaf (fun hc9=> ?_) (fun hc10=> ?_)
   ·rw[if_pos hc9]at h
    try simp only[go_sem,zaD (e:=(D.int .i64)) (ev:=(D.int .i64)) zak,zaE (e:=(D.int .i64)) (ev:=(D.int .i64)) zak,zay (e:=(D.int .i64)) (ev:=(D.int .i64)) zak,zaF (e:=(D.int .i64)) (ev:=(D.int .i64)) zak,zaG (e:=(D.int .i64)) (ev:=(D.int .i64)),zab hy4,zaj hy4,zac (D.int .i64) hy4]
    cases h
    exact⟨rfl,by simp,Up.of (N:=9) (N':=44) [] rfl rfl (by decide) (.set (.d _) zae.none) zah.at⟩
   rw[if_neg (ff hc10)]at h
   try simp only[go_sem,zaD (e:=(D.int .i64)) (ev:=(D.int .i64)) zak,zaE (e:=(D.int .i64)) (ev:=(D.int .i64)) zak,zay (e:=(D.int .i64)) (ev:=(D.int .i64)) zak,zaF (e:=(D.int .i64)) (ev:=(D.int .i64)) zak,zaG (e:=(D.int .i64)) (ev:=(D.int .i64)),zab hy4,zaj hy4,zac (D.int .i64) hy4]
   cases h
   exact⟨rfl,Up.of (N:=9) (N':=50) [] rfl rfl (by decide) (.set (.d _) (.set (.d _) (.set (.d _) (.set (.map' rfl) (.set (.ptr' rfl) (.set (.ptr' rfl) (.set (.d _) zae.none))))))) (.set zar.map_d (.set zar.refl_d (.set zar.refl_d zah.at)))⟩
  rw[if_neg (ff hc8)]at h
  try simp only[go_sem,zaD (e:=(D.int .i64)) (ev:=(D.int .i64)) zak,zaE (e:=(D.int .i64)) (ev:=(D.int .i64)) zak,zay (e:=(D.int .i64)) (ev:=(D.int .i64)) zak,zaF (e:=(D.int .i64)) (ev:=(D.int .i64)) zak,zaG (e:=(D.int .i64)) (ev:=(D.int .i64)),zab hy4,zaj hy4,zac (D.int .i64) hy4,hc8]
  cases h
  exact⟨rfl,by simp,Up.of (N:=9) (N':=44) [] rfl rfl (by decide) (.set (.d _) zae.none) zah.at⟩
 rw[if_neg (ff hc2)]at h
 try simp only[go_sem,zaD (e:=(D.int .i64)) (ev:=(D.int .i64)) zak,zaE (e:=(D.int .i64)) (ev:=(D.int .i64)) zak,zay (e:=(D.int .i64)) (ev:=(D.int .i64)) zak,zaF (e:=(D.int .i64)) (ev:=(D.int .i64)) zak,zaG (e:=(D.int .i64)) (ev:=(D.int .i64))]
 cases h
 exact⟨rfl,by simp,Up.of (N:=9) (N':=10) [] rfl rfl (by decide) (.set (.ptr' rfl) (.set (.ptr' rfl) zae.none)) (.set zar.refl_d (.set zar.refl_d zah.at))⟩
noncomputable def zPb (a0:Forest) (a1:Int) (a2:Node):Option (Bool):=
 (zaL (zdP a0 a1 a2) ([],0)).bind fun r20=>
 match r20 with
 |(.inl q22)=>
  (dec D.bool (pc prog 157 [zaa a0,zao a2])).bind fun r23=>
  some r23
 |(.inr q25)=>
  some false
theorem zPc (a0:Forest) (a1:Int) (a2:Node) (r:Bool) (h:zPb a0 a1 a2=some r):pc prog 134 [zaa a0,.int .i64 a1,zao a2]=some (D.bool r):=by
 unfold zPb at h
 refine zaQ (fn:=zNq) rfl rfl ?_
 delta zNq
 try simp only[go_sem]
 obtain⟨r20,hl21,h⟩:=bs h
 refine Wp.loopR zaV (n:=(0,[])) (a:=zsD) rfl (zgf a0 a1 a2) (zjL a0 a1 a2) (zzG a0 a1 a2) hl21 ?_ (by(repeat(first|refine Clo.block ?_|refine Clo.seq zaV rfl ?_));(exact Clo.ret)) ?_
 ·show Up (0,[]) (zgf a0 a1 a2 ([],0)) _
  delta zgf
  exact Up.of (N:=9) (N':=9) [] rfl rfl (by decide) (.set (.d _) (.set (.d _) (.set (.d _) (.set (.map' rfl) (.set (.ptr' rfl) (.set (.ptr' rfl) (.set (.d _) zae.none))))))) (.set zar.map_d (.set zar.refl_d (.set zar.refl_d zah.at)))
 rcases r20 with(q22|q25)
 ·dsimp only at h
  dsimp only[zjL]
  try simp only[go_sem]
  obtain⟨r23,hr24,h⟩:=bs h
  replace hr24:=zag hr24
  refine zal hr24 ?_
  try simp only[go_sem]
  cases h
  rfl
 dsimp only at h
 dsimp only[zjL]
 try simp only[go_sem]
 cases h
 rfl
noncomputable def zPd (a0:Int):Option (Bool):=
 (dec D.bool (pc prog 139 [.int .u8 a0])).bind fun r1=>
 if(!r1)=true then
  (dec D.bool (pc prog 140 [.int .u8 a0])).bind fun r5=>
  some (bif r5 then true else(a0==10))
 else
  some true
theorem zPe (a0:Int) (r:Bool) (h:zPd a0=some r):pc prog 136 [.int .u8 a0]=some (D.bool r):=by
 unfold zPd at h
 refine zaQ (fn:=zNs) rfl rfl ?_
 delta zNs
 try simp only[go_sem]
 obtain⟨r1,hr2,h⟩:=bs h
 replace hr2:=zag hr2
 refine zal hr2 ?_
 try simp only[go_sem]
 refine zaA ?_
 try simp only[go_sem]
 refine zaB (fun hc3=> ?_) (fun hc4=> ?_)
 ·rw[if_pos (show(!r1)=true by(rw[hc3];rfl))]at h
  try simp only[go_sem,hc3]
  obtain⟨r5,hr6,h⟩:=bs h
  replace hr6:=zag hr6
  refine zal hr6 ?_
  try simp only[go_sem]
  iterate 2 (refine zaA ?_;try simp only[go_sem])
  cases h
  rfl
 rw[if_neg (ffn hc4)]at h
 try simp only[go_sem,hc4]
 cases h
 rfl
def zgg (a0:Sl (Attr)) (x0:Int):St:=⟨((((Regs.none.set 0 (.d (.list a0.n (a0.l.map zbg)))).set 8 (.d (.list a0.n (a0.l.map zbg)))).set 9 (.d (.int .i64 (a0.l.length:Int)))).set 10 (.d (.int .i64 x0))),(Heap.at 7)⟩
def zjM (a0:Sl (Attr)):((Unit)⊕(Unit))→Ex×St:=fun r=>match r with
 |(.inl r)=>(.exit 0,⟨Regs.none,(Heap.at 7)⟩)
 |(.inr r)=>(.ret,⟨(Regs.none.set 2 (.d (.bool false))),(Heap.at 7)⟩)
noncomputable def zdQ (a0:Sl (Attr)) (x0:Int):Option ((Int)⊕((Unit)⊕(Unit))):=
 if(decide (x0<(a0.l.length:Int)))=true then
  (rd a0.l x0).bind fun y5=>
  (dec D.bool (pc prog 138 [zcf y5.name])).bind fun r7=>
  if(!(bif (!r7)then true else(decide (4096<(y5.value.length:Int)))))=true then
   (cut a0.l (0) x0).bind fun y11=>
   (dec (D.int .i64) (pc prog 146 [.list a0.n (y11.map zbg),zcf y5.name])).bind fun r13=>
   if(decide (0≤r13))=true then
    some (.inr (.inr ()))
   else
    some (.inl (IntKind.wrap .i64 (x0+1)))
  else
   some (.inr (.inr ()))
 else
  some (.inr (.inl ()))
theorem zzH (a0:Sl (Attr)) (x0:Int) (o:(Int)⊕((Unit)⊕(Unit))) (h:zdQ a0 x0=some o):Wp prog zsF (zgg a0 x0) (zbq (0,[]) (zgg a0) (zjM a0) o):=by
 unfold zdQ at h
 delta zsF zgg
 try simp only[go_sem]
 refine zaf (fun hc3=> ?_) (fun hc4=> ?_)
 ·rw[if_pos hc3]at h
  try simp only[go_sem]
  obtain⟨y5,hy6,h⟩:=bs h
  try simp only[go_sem,zab hy6,zaj hy6,zac zbg hy6]
  obtain⟨r7,hr8,h⟩:=bs h
  replace hr8:=zag hr8
  refine zal hr8 ?_
  try simp only[go_sem,zab hy6,zaj hy6,zac zbg hy6]
  iterate 6 (refine zaA ?_;try simp only[go_sem,zab hy6,zaj hy6,zac zbg hy6])
  refine zaB (fun hc9=> ?_) (fun hc10=> ?_)
  ·rw[if_pos (show(!(bif (!r7)then true else(decide (4096<(y5.value.length:Int)))))=true by(rw[hc9];rfl))]at h
   try simp only[go_sem,zab hy6,zaj hy6,zac zbg hy6,hc9]
   obtain⟨y11,hy12,h⟩:=bs h
   refine zuR (e:=zbg) (n:=a0.n) (l:=a0.l) (sz:=4) (lo:=none) (hi:=(some x0)) (by simp only[go_sem,zab hy6,zaj hy6,zac zbg hy6,zCM];done) (by decide) (fun _=>rfl) hy12 ?_
   try simp only[go_sem,zab hy6,zaj hy6,zac zbg hy6]
   obtain⟨r13,hr14,h⟩:=bs h
   replace hr14:=zag hr14
   refine zal hr14 ?_
   try simp only[go_sem,zab hy6,zaj hy6,zac zbg hy6]
   refine zaf (fun hc15=> ?_) (fun hc16=> ?_)
   ·rw[if_pos hc15]at h
    try simp only[go_sem,zab hy6,zaj hy6,zac zbg hy6]
    cases h
    exact⟨rfl,by simp,Up.of (N:=7) (N':=34) [] rfl rfl (by decide) (.set (.d _) zae.none) zah.at⟩
   rw[if_neg (ff hc16)]at h
   try simp only[go_sem,zab hy6,zaj hy6,zac zbg hy6]
   cases h
   exact⟨rfl,Up.of (N:=7) (N':=35) [] rfl rfl (by decide) (.set (.d _) (.set (.d _) (.set (.d _) (.set (.d _) zae.none)))) zah.at⟩
  rw[if_neg (ffn hc10)]at h
  try simp only[go_sem,zab hy6,zaj hy6,zac zbg hy6,hc10]
  cases h
  exact⟨rfl,by simp,Up.of (N:=7) (N':=34) [] rfl rfl (by decide) (.set (.d _) zae.none) zah.at⟩
 rw[if_neg (ff hc4)]at h
 try simp only[go_sem]
 cases h
 exact⟨rfl,by simp,Up.of (N:=7) (N':=8) [] rfl rfl (by decide) zae.none zah.at⟩
noncomputable def zPf (a0:Sl (Attr)):Option (Bool):=
 if(decide (64<(a0.l.length:Int)))=true then
  some false
 else
  (zaL (zdQ a0) 0).bind fun r23=>
  match r23 with
  |(.inl q25)=>
   some true
  |(.inr q26)=>
   some false
theorem zPg (a0:Sl (Attr)) (r:Bool) (h:zPf a0=some r):pc prog 137 [.list a0.n (a0.l.map zbg)]=some (D.bool r):=by
 unfold zPf at h
 refine zaQ (fn:=zNt) rfl rfl ?_
 delta zNt
 try simp only[go_sem]
 refine zaf (fun hc1=> ?_) (fun hc2=> ?_)
 ·rw[if_pos hc1]at h
  try simp only[go_sem]
  cases h
  rfl
 rw[if_neg (ff hc2)]at h
 try simp only[go_sem]
 obtain⟨r23,hl24,h⟩:=bs h
 refine Wp.loopR zaV (n:=(0,[])) (a:=zsF) rfl (zgg a0) (zjM a0) (zzH a0) hl24 ?_ (by(repeat(first|refine Clo.block ?_|refine Clo.seq zaV rfl ?_));(exact Clo.ret)) ?_
 ·show Up (0,[]) (zgg a0 0) _
  delta zgg
  exact Up.of (N:=7) (N':=7) [] rfl rfl (by decide) (.set (.d _) (.set (.d _) (.set (.d _) (.set (.d _) zae.none)))) zah.at
 rcases r23 with(q25|q26)
 ·dsimp only at h
  dsimp only[zjM]
  try simp only[go_sem]
  cases h
  rfl
 dsimp only at h
 dsimp only[zjM]
 try simp only[go_sem]
 cases h
 rfl
noncomputable def zPh (a0:Name):Option (Bool):=
 if(bif (bif (bif (!(a0.local_==[]))then(decide ((a0.space.length:Int)≤1024))else false)then(decide ((a0.prefix_.length:Int)≤1024))else false)then(decide ((a0.local_.length:Int)≤1024))else false)=true then
  some (bif (a0.prefix_==[])then true else(!(a0.space==[])))
 else
  some false
theorem zPi (a0:Name) (r:Bool) (h:zPh a0=some r):pc prog 138 [zcf a0]=some (D.bool r):=by
 unfold zPh at h
 refine zaQ (fn:=zNu) rfl rfl ?_
 delta zNu
 try simp only[go_sem]
 iterate 19 (refine zaA ?_;try simp only[go_sem])
 refine zax (fun hc1=> ?_) (fun hc2=> ?_)
 ·rw[if_pos hc1]at h
  try simp only[go_sem,hc1]
  cases h
  rfl
 rw[if_neg (ff hc2)]at h
 try simp only[go_sem,hc2]
 cases h
 rfl
noncomputable def zPj (a0:Int):Option (Bool):=
 some (bif (bif (bif (a0==3)then true else(a0==4))then true else(a0==7))then true else(a0==8))
theorem zPk (a0:Int) (r:Bool) (h:zPj a0=some r):pc prog 139 [.int .u8 a0]=some (D.bool r):=by
 unfold zPj at h
 refine zaQ (fn:=zNv) rfl rfl ?_
 delta zNv
 try simp only[go_sem]
 iterate 6 (refine zaA ?_;try simp only[go_sem])
 cases h
 rfl
noncomputable def zPl (a0:Int):Option (Bool):=
 some (bif (bif (bif (a0==1)then true else(a0==9))then true else(a0==11))then true else(a0==12))
theorem zPm (a0:Int) (r:Bool) (h:zPl a0=some r):pc prog 140 [.int .u8 a0]=some (D.bool r):=by
 unfold zPl at h
 refine zaQ (fn:=zNw) rfl rfl ?_
 delta zNw
 try simp only[go_sem]
 iterate 6 (refine zaA ?_;try simp only[go_sem])
 cases h
 rfl
def zgh (a0:Sl (Int)) (a1:Int) (x0:Int×Int):St:=⟨(((((Regs.none.set 1 (.d (.int .i64 a1))).set 5 (.d (.int .i64 x0.2))).set 8 (.d (.list a0.n (a0.l.map (D.int .i64))))).set 9 (.d (.int .i64 (a0.l.length:Int)))).set 10 (.d (.int .i64 x0.1))),(Heap.at 5)⟩
def znf (a0:Sl (Int)) (a1:Int):((Int))→Ex×St:=fun r=>(.exit 0,⟨(Regs.none.set 5 (.d (.int .i64 r))),(Heap.at 5)⟩)
noncomputable def zdR (a0:Sl (Int)) (a1:Int) (x0:Int×Int):Option ((Int×Int)⊕((Int))):=
 if(decide (x0.1<(a0.l.length:Int)))=true then
  (rd a0.l x0.1).bind fun y3=>
  if(y3==a1)=true then
   some (.inl ((IntKind.wrap .i64 (x0.1+1)),(IntKind.wrap .i64 (x0.2+1))))
  else
   some (.inl ((IntKind.wrap .i64 (x0.1+1)),x0.2))
 else
  some (.inr x0.2)
theorem zzI (a0:Sl (Int)) (a1:Int) (x0:Int×Int) (o:(Int×Int)⊕((Int))) (h:zdR a0 a1 x0=some o):Wp prog zsG (zgh a0 a1 x0) (zbq (0,[]) (zgh a0 a1) (znf a0 a1) o):=by
 unfold zdR at h
 delta zsG zgh
 try simp only[go_sem]
 refine zaf (fun hc1=> ?_) (fun hc2=> ?_)
 ·rw[if_pos hc1]at h
  try simp only[go_sem]
  obtain⟨y3,hy4,h⟩:=bs h
  try simp only[go_sem,zab hy4,zaj hy4,zac (D.int .i64) hy4]
  refine zaf (fun hc5=> ?_) (fun hc6=> ?_)
  ·rw[if_pos hc5]at h
   try simp only[go_sem,zab hy4,zaj hy4,zac (D.int .i64) hy4]
   cases h
   exact⟨rfl,Up.of (N:=5) (N':=17) [] rfl rfl (by decide) (.set (.d _) (.set (.d _) (.set (.d _) (.set (.d _) (.set (.d _) zae.none))))) zah.at⟩
  rw[if_neg (ff hc6)]at h
  try simp only[go_sem,zab hy4,zaj hy4,zac (D.int .i64) hy4]
  cases h
  exact⟨rfl,Up.of (N:=5) (N':=14) [] rfl rfl (by decide) (.set (.d _) (.set (.d _) (.set (.d _) (.set (.d _) (.set (.d _) zae.none))))) zah.at⟩
 rw[if_neg (ff hc2)]at h
 try simp only[go_sem]
 cases h
 exact⟨rfl,by simp,Up.of (N:=5) (N':=6) [] rfl rfl (by decide) (.set (.d _) zae.none) zah.at⟩
noncomputable def zPn (a0:Sl (Int)) (a1:Int):Option (Int):=
 (zaL (zdR a0 a1) (0,0)).bind fun r7=>
 some r7
theorem zPo (a0:Sl (Int)) (a1:Int) (r:Int) (h:zPn a0 a1=some r):pc prog 141 [.list a0.n (a0.l.map (D.int .i64)),.int .i64 a1]=some ((D.int .i64) r):=by
 unfold zPn at h
 refine zaQ (fn:=zNx) rfl rfl ?_
 delta zNx
 try simp only[go_sem]
 obtain⟨r7,hl8,h⟩:=bs h
 refine Wp.loopR zaV (n:=(0,[])) (a:=zsG) rfl (zgh a0 a1) (znf a0 a1) (zzI a0 a1) hl8 ?_ (by(repeat(first|refine Clo.block ?_|refine Clo.seq zaV rfl ?_));(exact Clo.ret)) ?_
 ·show Up (0,[]) (zgh a0 a1 (0,0)) _
  delta zgh
  exact Up.of (N:=5) (N':=5) [] rfl rfl (by decide) (.set (.d _) (.set (.d _) (.set (.d _) (.set (.d _) (.set (.d _) zae.none))))) zah.at
 dsimp only[znf]
 try simp only[go_sem]
 cases h
 rfl
noncomputable def zPp (a0:Forest) (a1:Int):Option (Int):=
 (dec (eT2 zao D.bool) (pc prog 81 [zaa a0,.int .i64 a1])).bind fun r1=>
 some r1.1.kind
theorem zPq (a0:Forest) (a1:Int) (r:Int) (h:zPp a0 a1=some r):pc prog 142 [zaa a0,.int .i64 a1]=some ((D.int .u8) r):=by
 unfold zPp at h
 refine zaQ (fn:=zNy) rfl rfl ?_
 delta zNy
 try simp only[go_sem]
 obtain⟨r1,hr2,h⟩:=bs h
 replace hr2:=zag hr2
 refine zal hr2 ?_
 try simp only[go_sem]
 cases h
 rfl
def zgi (a0:Forest) (a1:Int) (a2:Sl (Int)) (x0:Int×Int×Int):St:=⟨(((((((Regs.none.set 1 (.d (.int .u8 a1))).set 3 (.ptr 0 0 0)).set 7 (.d (.int .i64 x0.2.1))).set 8 (.d (.int .i64 x0.2.2))).set 11 (.d (.list a2.n (a2.l.map (D.int .i64))))).set 12 (.d (.int .i64 (a2.l.length:Int)))).set 13 (.d (.int .i64 x0.1))),((Heap.at 7).set 0 (some (.els 1 [.d (zaa a0)] 0)))⟩
def zjN (a0:Forest) (a1:Int) (a2:Sl (Int)):((Int×Int)⊕(Unit))→Ex×St:=fun r=>match r with
 |(.inl r)=>(.exit 0,⟨(((Regs.none.set 1 (.d (.int .u8 a1))).set 7 (.d (.int .i64 r.1))).set 8 (.d (.int .i64 r.2))),(Heap.at 7)⟩)
 |(.inr r)=>(.ret,⟨(Regs.none.set 6 (.d (.bool false))),(Heap.at 7)⟩)
noncomputable def zdS (a0:Forest) (a1:Int) (a2:Sl (Int)) (x0:Int×Int×Int):Option ((Int×Int×Int)⊕((Int×Int)⊕(Unit))):=
 if(decide (x0.1<(a2.l.length:Int)))=true then
  (rd a2.l x0.1).bind fun y3=>
  (dec (D.int .u8) (pc prog 142 [zaa a0,.int .i64 y3])).bind fun r5=>
  if(r5==1)=true then
   some (.inl ((IntKind.wrap .i64 (x0.1+1)),(IntKind.wrap .i64 (x0.2.1+1)),x0.2.2))
  else
   (if(r5==3)=true then
    some (r5==3)
   else
    some (r5==4):Option ((Bool))).bind fun r11=>
   if r11=true then
    if(a1==9)=true then
     some (.inr (.inr ()))
    else
     some (.inl ((IntKind.wrap .i64 (x0.1+1)),x0.2.1,x0.2.2))
   else
    (if(r5==8)=true then
     some (r5==8)
    else
     some (r5==7):Option ((Bool))).bind fun r19=>
    if r19=true then
     some (.inl ((IntKind.wrap .i64 (x0.1+1)),x0.2.1,x0.2.2))
    else
     if(r5==10)=true then
      if(bif (!(a1==9))then true else(decide (0<x0.2.1)))=true then
       some (.inr (.inr ()))
      else
       some (.inl ((IntKind.wrap .i64 (x0.1+1)),x0.2.1,(IntKind.wrap .i64 (x0.2.2+1))))
     else
      some (.inr (.inr ()))
 else
  some (.inr (.inl (x0.2.1,x0.2.2)))
theorem zzJ (a0:Forest) (a1:Int) (a2:Sl (Int)) (x0:Int×Int×Int) (o:(Int×Int×Int)⊕((Int×Int)⊕(Unit))) (h:zdS a0 a1 a2 x0=some o):Wp prog zsH (zgi a0 a1 a2 x0) (zbq (0,[]) (zgi a0 a1 a2) (zjN a0 a1 a2) o):=by
 unfold zdS at h
 delta zsH zgi
 try simp only[go_sem]
 refine zaf (fun hc1=> ?_) (fun hc2=> ?_)
 ·rw[if_pos hc1]at h
  try simp only[go_sem]
  obtain⟨y3,hy4,h⟩:=bs h
  try simp only[go_sem,zab hy4,zaj hy4,zac (D.int .i64) hy4]
  obtain⟨r5,hr6,h⟩:=bs h
  replace hr6:=zag hr6
  refine zal hr6 ?_
  try simp only[go_sem,zab hy4,zaj hy4,zac (D.int .i64) hy4]
  refine zaf (fun hc7=> ?_) (fun hc8=> ?_)
  ·rw[if_pos hc7]at h
   try simp only[go_sem,zab hy4,zaj hy4,zac (D.int .i64) hy4]
   cases h
   exact⟨rfl,Up.of (N:=7) (N':=21) [] rfl rfl (by decide) (.set (.d _) (.set (.d _) (.set (.d _) (.set (.d _) (.set (.d _) (.set (.ptr' rfl) (.set (.d _) zae.none))))))) (.set zar.refl_d zah.at)⟩
  rw[if_neg (ff hc8)]at h
  try simp only[go_sem,zab hy4,zaj hy4,zac (D.int .i64) hy4]
  obtain⟨r11,hl12,h⟩:=bs h
  refine WBr.cut (n:=(0,[])) .normal ⟨(((((((((Regs.none.set 1 (.d (.int .u8 a1))).set 3 (.ptr 0 0 0)).set 7 (.d (.int .i64 x0.2.1))).set 8 (.d (.int .i64 x0.2.2))).set 11 (.d (.list a2.n (a2.l.map (D.int .i64))))).set 12 (.d (.int .i64 (a2.l.length:Int)))).set 13 (.d (.int .i64 x0.1))).set 19 (.d (.int .u8 r5))).set 24 (.d (.bool r11))),((Heap.at 18).set 0 (some (.els 1 [.d (zaa a0)] 0)))⟩ ?_ (by(repeat(first|refine Clo.block ?_|refine Clo.seq zaV rfl ?_));(exact Clo.lpost (by decide))) ?_
  ·replace h:=hl12
   refine zaf (fun hc9=> ?_) (fun hc10=> ?_)
   ·rw[if_pos hc9]at h
    try simp only[go_sem,zab hy4,zaj hy4,zac (D.int .i64) hy4]
    cases h
    exact⟨rfl,Up.of (N:=18) (N':=18) [] rfl rfl (by decide) (.set (.d _) (.set (.d _) (.set (.d _) (.set (.d _) (.set (.d _) (.set (.d _) (.set (.d _) (.set (.ptr' rfl) (.set (.d _) zae.none))))))))) (.set zar.refl_d zah.at)⟩
   rw[if_neg (ff hc10)]at h
   try simp only[go_sem,zab hy4,zaj hy4,zac (D.int .i64) hy4]
   cases h
   exact⟨rfl,Up.of (N:=18) (N':=20) [] rfl rfl (by decide) (.set (.d _) (.set (.d _) (.set (.d _) (.set (.d _) (.set (.d _) (.set (.d _) (.set (.d _) (.set (.ptr' rfl) (.set (.d _) zae.none))))))))) (.set zar.refl_d zah.at)⟩
  try simp only[go_sem,zab hy4,zaj hy4,zac (D.int .i64) hy4]
  refine zaf (fun hc13=> ?_) (fun hc14=> ?_)
  ·rw[if_pos hc13]at h
   try simp only[go_sem,zab hy4,zaj hy4,zac (D.int .i64) hy4]
   refine zaf (fun hc15=> ?_) (fun hc16=> ?_)
   ·rw[if_pos hc15]at h
    try simp only[go_sem,zab hy4,zaj hy4,zac (D.int .i64) hy4]
    cases h
    exact⟨rfl,by simp,Up.of (N:=7) (N':=21) [] rfl rfl (by decide) (.set (.d _) zae.none) zah.at⟩
   rw[if_neg (ff hc16)]at h
   try simp only[go_sem,zab hy4,zaj hy4,zac (D.int .i64) hy4]
   cases h
   exact⟨rfl,Up.of (N:=7) (N':=22) [] rfl rfl (by decide) (.set (.d _) (.set (.d _) (.set (.d _) (.set (.d _) (.set (.d _) (.set (.ptr' rfl) (.set (.d _) zae.none))))))) (.set zar.refl_d zah.at)⟩
  rw[if_neg (ff hc14)]at h
  try simp only[go_sem,zab hy4,zaj hy4,zac (D.int .i64) hy4]
  obtain⟨r19,hl20,h⟩:=bs h
  refine WBr.cut (n:=(0,[])) .normal ⟨(((((((((Regs.none.set 1 (.d (.int .u8 a1))).set 3 (.ptr 0 0 0)).set 7 (.d (.int .i64 x0.2.1))).set 8 (.d (.int .i64 x0.2.2))).set 11 (.d (.list a2.n (a2.l.map (D.int .i64))))).set 12 (.d (.int .i64 (a2.l.length:Int)))).set 13 (.d (.int .i64 x0.1))).set 19 (.d (.int .u8 r5))).set 29 (.d (.bool r19))),((Heap.at 20).set 0 (some (.els 1 [.d (zaa a0)] 0)))⟩ ?_ (by(repeat(first|refine Clo.block ?_|refine Clo.seq zaV rfl ?_));(exact Clo.lpost (by decide))) ?_
  ·replace h:=hl20
   refine zaf (fun hc17=> ?_) (fun hc18=> ?_)
   ·rw[if_pos hc17]at h
    try simp only[go_sem,zab hy4,zaj hy4,zac (D.int .i64) hy4]
    cases h
    exact⟨rfl,Up.of (N:=20) (N':=20) [] rfl rfl (by decide) (.set (.d _) (.set (.d _) (.set (.d _) (.set (.d _) (.set (.d _) (.set (.d _) (.set (.d _) (.set (.ptr' rfl) (.set (.d _) zae.none))))))))) (.set zar.refl_d zah.at)⟩
   rw[if_neg (ff hc18)]at h
   try simp only[go_sem,zab hy4,zaj hy4,zac (D.int .i64) hy4]
   cases h
   exact⟨rfl,Up.of (N:=20) (N':=22) [] rfl rfl (by decide) (.set (.d _) (.set (.d _) (.set (.d _) (.set (.d _) (.set (.d _) (.set (.d _) (.set (.d _) (.set (.ptr' rfl) (.set (.d _) zae.none))))))))) (.set zar.refl_d zah.at)⟩
  try simp only[go_sem,zab hy4,zaj hy4,zac (D.int .i64) hy4]
  refine zaf (fun hc21=> ?_) (fun hc22=> ?_)
  ·rw[if_pos hc21]at h
   try simp only[go_sem,zab hy4,zaj hy4,zac (D.int .i64) hy4]
   cases h
   exact⟨rfl,Up.of (N:=7) (N':=22) [] rfl rfl (by decide) (.set (.d _) (.set (.d _) (.set (.d _) (.set (.d _) (.set (.d _) (.set (.ptr' rfl) (.set (.d _) zae.none))))))) (.set zar.refl_d zah.at)⟩
  rw[if_neg (ff hc22)]at h
  try simp only[go_sem,zab hy4,zaj hy4,zac (D.int .i64) hy4]
  refine zaf (fun hc23=> ?_) (fun hc24=> ?_)
  ·rw[if_pos hc23]at h
   try simp only[go_sem,zab hy4,zaj hy4,zac (D.int .i64) hy4]
   iterate 2 (refine zaA ?_;try simp only[go_sem,zab hy4,zaj hy4,zac (D.int .i64) hy4])
   refine zaf (fun hc25=> ?_) (fun hc26=> ?_)
   ·rw[if_pos hc25]at h
    try simp only[go_sem,zab hy4,zaj hy4,zac (D.int .i64) hy4]
    cases h
    exact⟨rfl,by simp,Up.of (N:=7) (N':=32) [] rfl rfl (by decide) (.set (.d _) zae.none) zah.at⟩
   rw[if_neg (ff hc26)]at h
   try simp only[go_sem,zab hy4,zaj hy4,zac (D.int .i64) hy4]
   cases h
   exact⟨rfl,Up.of (N:=7) (N':=33) [] rfl rfl (by decide) (.set (.d _) (.set (.d _) (.set (.d _) (.set (.d _) (.set (.d _) (.set (.ptr' rfl) (.set (.d _) zae.none))))))) (.set zar.refl_d zah.at)⟩
  rw[if_neg (ff hc24)]at h
  try simp only[go_sem,zab hy4,zaj hy4,zac (D.int .i64) hy4]
  cases h
  exact⟨rfl,by simp,Up.of (N:=7) (N':=23) [] rfl rfl (by decide) (.set (.d _) zae.none) zah.at⟩
 rw[if_neg (ff hc2)]at h
 try simp only[go_sem]
 cases h
 exact⟨rfl,by simp,Up.of (N:=7) (N':=8) [] rfl rfl (by decide) (.set (.d _) (.set (.d _) (.set (.d _) zae.none))) zah.at⟩
noncomputable def zPr (a0:Forest) (a1:Int) (a2:Sl (Int)):Option (Bool):=
 (zaL (zdS a0 a1 a2) (0,0,0)).bind fun r29=>
 match r29 with
 |(.inl q31)=>
  if(a1==9)=true then
   some (bif (decide (q31.1≤1))then(decide (q31.2≤1))else false)
  else
   some true
 |(.inr q43)=>
  some false
theorem zPs (a0:Forest) (a1:Int) (a2:Sl (Int)) (r:Bool) (h:zPr a0 a1 a2=some r):pc prog 143 [zaa a0,.int .u8 a1,.list a2.n (a2.l.map (D.int .i64))]=some (D.bool r):=by
 unfold zPr at h
 refine zaQ (fn:=zNz) rfl rfl ?_
 delta zNz
 try simp only[go_sem]
 obtain⟨r29,hl30,h⟩:=bs h
 refine Wp.loopR zaV (n:=(0,[])) (a:=zsH) rfl (zgi a0 a1 a2) (zjN a0 a1 a2) (zzJ a0 a1 a2) hl30 ?_ (by(repeat(first|refine Clo.block ?_|refine Clo.seq zaV rfl ?_));(exact Clo.ret)) ?_
 ·show Up (0,[]) (zgi a0 a1 a2 (0,0,0)) _
  delta zgi
  exact Up.of (N:=7) (N':=7) [] rfl rfl (by decide) (.set (.d _) (.set (.d _) (.set (.d _) (.set (.d _) (.set (.d _) (.set (.ptr' rfl) (.set (.d _) zae.none))))))) (.set zar.refl_d zah.at)
 rcases r29 with(q31|q43)
 ·dsimp only at h
  dsimp only[zjN]
  try simp only[go_sem]
  iterate 5 (refine zaA ?_;try simp only[go_sem])
  refine zax (fun hc32=> ?_) (fun hc33=> ?_)
  ·rw[if_pos hc32]at h
   try simp only[go_sem,hc32]
   cases h
   rfl
  rw[if_neg (ff hc33)]at h
  try simp only[go_sem,hc33]
  cases h
  rfl
 dsimp only at h
 dsimp only[zjN]
 try simp only[go_sem]
 cases h
 rfl
noncomputable def zPt (a0:Node):Option (Int):=
 if(a0.kind==12)=true then
  some a0.host
 else
  some a0.parent
theorem zPu (a0:Node) (r:Int) (h:zPt a0=some r):pc prog 144 [zao a0]=some ((D.int .i64) r):=by
 unfold zPt at h
 refine zaQ (fn:=zNA) rfl rfl ?_
 delta zNA
 try simp only[go_sem]
 refine zaf (fun hc1=> ?_) (fun hc2=> ?_)
 ·rw[if_pos hc1]at h
  try simp only[go_sem]
  cases h
  rfl
 rw[if_neg (ff hc2)]at h
 try simp only[go_sem]
 cases h
 rfl
noncomputable def zPv (a0:Name):Option (Bool):=
 if(!(a0.local_==[]))=true then
  (dec D.bool (pc prog 130 [.list false (([a0.space,a0.prefix_,a0.local_]).map D.str)])).bind fun r3=>
  if r3=true then
   some (bif (a0.prefix_==[])then true else(!(a0.space==[])))
  else
   some false
 else
  some false
theorem zPw (a0:Name) (r:Bool) (h:zPv a0=some r):pc prog 155 [zcf a0]=some (D.bool r):=by
 unfold zPv at h
 refine zaQ (fn:=zNJ) rfl rfl ?_
 delta zNJ
 try simp only[go_sem]
 iterate 6 (refine zaA ?_;try simp only[go_sem])
 refine zaB (fun hc1=> ?_) (fun hc2=> ?_)
 ·rw[if_pos (show(!(a0.local_==[]))=true by(rw[hc1];rfl))]at h
  try simp only[go_sem,hc1]
  obtain⟨r3,hr4,h⟩:=bs h
  replace hr4:=zag hr4
  refine zal hr4 ?_
  try simp only[go_sem]
  iterate 7 (refine zaA ?_;try simp only[go_sem])
  refine zax (fun hc5=> ?_) (fun hc6=> ?_)
  ·rw[if_pos hc5]at h
   try simp only[go_sem,hc5]
   cases h
   rfl
  rw[if_neg (ff hc6)]at h
  try simp only[go_sem,hc6]
  cases h
  rfl
 rw[if_neg (ffn hc2)]at h
 try simp only[go_sem,hc2]
 cases h
 rfl
noncomputable def zQv (a0:Name):Option (forest_key):=
 some (⟨a0.space,a0.local_⟩:forest_key)
theorem zPx (a0:Name) (r:forest_key) (h:zQv a0=some r):pc prog 156 [zcf a0]=some (zaq r):=by
 unfold zQv at h
 refine zaQ (fn:=zNK) rfl rfl ?_
 delta zNK
 try simp only[go_sem]
 cases h
 rfl
def zgj (a0:Forest) (a1:Node) (x0:Int×Int×Int):St:=⟨(((((((Regs.none.set 2 (.ptr 0 0 0)).set 5 (.d (.bool (a1.kind==9)))).set 6 (.d (.int .i64 x0.2.1))).set 7 (.d (.int .i64 x0.2.2))).set 14 (.d (.list a1.kids.n (a1.kids.l.map (D.int .i64))))).set 15 (.d (.int .i64 (a1.kids.l.length:Int)))).set 16 (.d (.int .i64 x0.1))),((Heap.at 13).set 0 (some (.els 1 [.d (zaa a0)] 0)))⟩
def zjO (a0:Forest) (a1:Node):((Int×Int)⊕(Unit))→Ex×St:=fun r=>match r with
 |(.inl r)=>(.exit 0,⟨(((Regs.none.set 5 (.d (.bool (a1.kind==9)))).set 6 (.d (.int .i64 r.1))).set 7 (.d (.int .i64 r.2))),(Heap.at 13)⟩)
 |(.inr r)=>(.ret,⟨(Regs.none.set 4 (.d (.bool false))),(Heap.at 13)⟩)
noncomputable def zdT (a0:Forest) (a1:Node) (x0:Int×Int×Int):Option ((Int×Int×Int)⊕((Int×Int)⊕(Unit))):=
 if(decide (x0.1<(a1.kids.l.length:Int)))=true then
  (rd a1.kids.l x0.1).bind fun y3=>
  (dec (D.int .u8) (pc prog 133 [zaa a0,.int .i64 y3])).bind fun r5=>
  if(r5==1)=true then
   some (.inl ((IntKind.wrap .i64 (x0.1+1)),(IntKind.wrap .i64 (x0.2.1+1)),x0.2.2))
  else
   if(r5==10)=true then
    if(bif (!(a1.kind==9))then true else(decide (0<x0.2.1)))=true then
     some (.inr (.inr ()))
    else
     some (.inl ((IntKind.wrap .i64 (x0.1+1)),x0.2.1,(IntKind.wrap .i64 (x0.2.2+1))))
   else
    if(r5==3)=true then
     if(a1.kind==9)=true then
      some (.inr (.inr ()))
     else
      some (.inl ((IntKind.wrap .i64 (x0.1+1)),x0.2.1,x0.2.2))
    else
     if(r5==4)=true then
      if(a1.kind==9)=true then
       some (.inr (.inr ()))
      else
       some (.inl ((IntKind.wrap .i64 (x0.1+1)),x0.2.1,x0.2.2))
     else
      if(r5==8)=true then
       some (.inl ((IntKind.wrap .i64 (x0.1+1)),x0.2.1,x0.2.2))
      else
       if(r5==7)=true then
        some (.inl ((IntKind.wrap .i64 (x0.1+1)),x0.2.1,x0.2.2))
       else
        some (.inr (.inr ()))
 else
  some (.inr (.inl (x0.2.1,x0.2.2)))
theorem zzK (a0:Forest) (a1:Node) (x0:Int×Int×Int) (o:(Int×Int×Int)⊕((Int×Int)⊕(Unit))) (h:zdT a0 a1 x0=some o):Wp prog zsN (zgj a0 a1 x0) (zbq (0,[]) (zgj a0 a1) (zjO a0 a1) o):=by
 unfold zdT at h
 delta zsN zgj
 try simp only[go_sem]
 refine zaf (fun hc1=> ?_) (fun hc2=> ?_)
 ·rw[if_pos hc1]at h
  try simp only[go_sem]
  obtain⟨y3,hy4,h⟩:=bs h
  try simp only[go_sem,zab hy4,zaj hy4,zac (D.int .i64) hy4]
  obtain⟨r5,hr6,h⟩:=bs h
  replace hr6:=zag hr6
  refine zal hr6 ?_
  try simp only[go_sem,zab hy4,zaj hy4,zac (D.int .i64) hy4]
  refine zaf (fun hc7=> ?_) (fun hc8=> ?_)
  ·rw[if_pos hc7]at h
   try simp only[go_sem,zab hy4,zaj hy4,zac (D.int .i64) hy4]
   cases h
   exact⟨rfl,Up.of (N:=13) (N':=27) [] rfl rfl (by decide) (.set (.d _) (.set (.d _) (.set (.d _) (.set (.d _) (.set (.d _) (.set (.d _) (.set (.ptr' rfl) zae.none))))))) (.set zar.refl_d zah.at)⟩
  rw[if_neg (ff hc8)]at h
  try simp only[go_sem,zab hy4,zaj hy4,zac (D.int .i64) hy4]
  refine zaf (fun hc9=> ?_) (fun hc10=> ?_)
  ·rw[if_pos hc9]at h
   try simp only[go_sem,zab hy4,zaj hy4,zac (D.int .i64) hy4]
   iterate 2 (refine zaA ?_;try simp only[go_sem,zab hy4,zaj hy4,zac (D.int .i64) hy4])
   refine zaf (fun hc11=> ?_) (fun hc12=> ?_)
   ·rw[if_pos hc11]at h
    try simp only[go_sem,zab hy4,zaj hy4,zac (D.int .i64) hy4]
    cases h
    exact⟨rfl,by simp,Up.of (N:=13) (N':=31) [] rfl rfl (by decide) (.set (.d _) zae.none) zah.at⟩
   rw[if_neg (ff hc12)]at h
   try simp only[go_sem,zab hy4,zaj hy4,zac (D.int .i64) hy4]
   cases h
   exact⟨rfl,Up.of (N:=13) (N':=35) [] rfl rfl (by decide) (.set (.d _) (.set (.d _) (.set (.d _) (.set (.d _) (.set (.d _) (.set (.d _) (.set (.ptr' rfl) zae.none))))))) (.set zar.refl_d zah.at)⟩
  rw[if_neg (ff hc10)]at h
  try simp only[go_sem,zab hy4,zaj hy4,zac (D.int .i64) hy4]
  refine zaf (fun hc15=> ?_) (fun hc16=> ?_)
  ·rw[if_pos hc15]at h
   try simp only[go_sem,zab hy4,zaj hy4,zac (D.int .i64) hy4]
   try simp only[go_sem,zab hy4,zaj hy4,zac (D.int .i64) hy4,hc1,hc8,hc10,hc15]
   refine zaf (fun hc17=> ?_) (fun hc18=> ?_)
   ·rw[if_pos hc17]at h
    try simp only[go_sem,zab hy4,zaj hy4,zac (D.int .i64) hy4]
    cases h
    exact⟨rfl,by simp,Up.of (N:=13) (N':=28) [] rfl rfl (by decide) (.set (.d _) zae.none) zah.at⟩
   rw[if_neg (ff hc18)]at h
   try simp only[go_sem,zab hy4,zaj hy4,zac (D.int .i64) hy4]
   cases h
   exact⟨rfl,Up.of (N:=13) (N':=29) [] rfl rfl (by decide) (.set (.d _) (.set (.d _) (.set (.d _) (.set (.d _) (.set (.d _) (.set (.d _) (.set (.ptr' rfl) zae.none))))))) (.set zar.refl_d zah.at)⟩
  rw[if_neg (ff hc16)]at h
  try simp only[go_sem,zab hy4,zaj hy4,zac (D.int .i64) hy4]
  refine zaf (fun hc19=> ?_) (fun hc20=> ?_)
  ·rw[if_pos hc19]at h
   try simp only[go_sem,zab hy4,zaj hy4,zac (D.int .i64) hy4]
   refine zaf (fun hc21=> ?_) (fun hc22=> ?_)
   ·rw[if_pos hc21]at h
    try simp only[go_sem,zab hy4,zaj hy4,zac (D.int .i64) hy4]
    cases h
    exact⟨rfl,by simp,Up.of (N:=13) (N':=30) [] rfl rfl (by decide) (.set (.d _) zae.none) zah.at⟩
   rw[if_neg (ff hc22)]at h
   try simp only[go_sem,zab hy4,zaj hy4,zac (D.int .i64) hy4]
   cases h
   exact⟨rfl,Up.of (N:=13) (N':=31) [] rfl rfl (by decide) (.set (.d _) (.set (.d _) (.set (.d _) (.set (.d _) (.set (.d _) (.set (.d _) (.set (.ptr' rfl) zae.none))))))) (.set zar.refl_d zah.at)⟩
  rw[if_neg (ff hc20)]at h
  try simp only[go_sem,zab hy4,zaj hy4,zac (D.int .i64) hy4]
  refine zaf (fun hc23=> ?_) (fun hc24=> ?_)
  ·rw[if_pos hc23]at h
   try simp only[go_sem,zab hy4,zaj hy4,zac (D.int .i64) hy4]
   try simp only[go_sem,zab hy4,zaj hy4,zac (D.int .i64) hy4,hc1,hc8,hc10,hc16,hc20,hc23]
   cases h
   exact⟨rfl,Up.of (N:=13) (N':=32) [] rfl rfl (by decide) (.set (.d _) (.set (.d _) (.set (.d _) (.set (.d _) (.set (.d _) (.set (.d _) (.set (.ptr' rfl) zae.none))))))) (.set zar.refl_d zah.at)⟩
  rw[if_neg (ff hc24)]at h
  try simp only[go_sem,zab hy4,zaj hy4,zac (D.int .i64) hy4]
  refine zaf (fun hc25=> ?_) (fun hc26=> ?_)
  ·rw[if_pos hc25]at h
   try simp only[go_sem,zab hy4,zaj hy4,zac (D.int .i64) hy4]
   cases h
   exact⟨rfl,Up.of (N:=13) (N':=34) [] rfl rfl (by decide) (.set (.d _) (.set (.d _) (.set (.d _) (.set (.d _) (.set (.d _) (.set (.d _) (.set (.ptr' rfl) zae.none))))))) (.set zar.refl_d zah.at)⟩
  rw[if_neg (ff hc26)]at h
  try simp only[go_sem,zab hy4,zaj hy4,zac (D.int .i64) hy4]
  cases h
  exact⟨rfl,by simp,Up.of (N:=13) (N':=33) [] rfl rfl (by decide) (.set (.d _) zae.none) zah.at⟩
 rw[if_neg (ff hc2)]at h
 try simp only[go_sem]
 cases h
 exact⟨rfl,by simp,Up.of (N:=13) (N':=14) [] rfl rfl (by decide) (.set (.d _) (.set (.d _) (.set (.d _) zae.none))) zah.at⟩
noncomputable def zPy (a0:Forest) (a1:Node):Option (Bool):=
 (zaL (zdT a0 a1) (0,0,0)).bind fun r27=>
 match r27 with
 |(.inl q29)=>
  if(a1.kind==9)=true then
   some (bif (decide (q29.1<2))then(decide (q29.2<2))else false)
  else
   some true
 |(.inr q41)=>
  some false
theorem zPz (a0:Forest) (a1:Node) (r:Bool) (h:zPy a0 a1=some r):pc prog 157 [zaa a0,zao a1]=some (D.bool r):=by
 unfold zPy at h
 refine zaQ (fn:=zNL) rfl rfl ?_
 delta zNL
 try simp only[go_sem]
 obtain⟨r27,hl28,h⟩:=bs h
 refine Wp.loopR zaV (n:=(0,[])) (a:=zsN) rfl (zgj a0 a1) (zjO a0 a1) (zzK a0 a1) hl28 ?_ (by(repeat(first|refine Clo.block ?_|refine Clo.seq zaV rfl ?_));(exact Clo.ret)) ?_
 ·show Up (0,[]) (zgj a0 a1 (0,0,0)) _
  delta zgj
  exact Up.of (N:=13) (N':=13) [] rfl rfl (by decide) (.set (.d _) (.set (.d _) (.set (.d _) (.set (.d _) (.set (.d _) (.set (.d _) (.set (.ptr' rfl) zae.none))))))) (.set zar.refl_d zah.at)
 rcases r27 with(q29|q41)
 ·dsimp only at h
  dsimp only[zjO]
  try simp only[go_sem]
  iterate 5 (refine zaA ?_;try simp only[go_sem])
  refine zax (fun hc30=> ?_) (fun hc31=> ?_)
  ·rw[if_pos hc30]at h
   try simp only[go_sem,hc30]
   cases h
   rfl
  rw[if_neg (ff hc31)]at h
  try simp only[go_sem,hc31]
  cases h
  rfl
 dsimp only at h
 dsimp only[zjO]
 try simp only[go_sem]
 cases h
 rfl
def zgk (a0:Sl (Attr)) (a1:Name) (x0:Int):St:=⟨((((Regs.none.set 3 (.ptr 0 0 0)).set 7 (.d (.list a0.n (a0.l.map zbg)))).set 8 (.d (.int .i64 (a0.l.length:Int)))).set 9 (.d (.int .i64 x0))),((Heap.at 5).set 0 (some (.els 3 [.d (zcf a1)] 0)))⟩
def zjP (a0:Sl (Attr)) (a1:Name):((Unit)⊕(Int))→Ex×St:=fun r=>match r with
 |(.inl r)=>(.exit 0,⟨Regs.none,(Heap.at 5)⟩)
 |(.inr r)=>(.ret,⟨(Regs.none.set 4 (.d (.int .i64 r))),(Heap.at 5)⟩)
noncomputable def zdU (a0:Sl (Attr)) (a1:Name) (x0:Int):Option ((Int)⊕((Unit)⊕(Int))):=
 if(decide (x0<(a0.l.length:Int)))=true then
  (rd a0.l x0).bind fun y3=>
  if(bif (y3.name.space==a1.space)then(y3.name.local_==a1.local_)else false)=true then
   some (.inr (.inr x0))
  else
   some (.inl (IntKind.wrap .i64 (x0+1)))
 else
  some (.inr (.inl ()))
theorem zzL (a0:Sl (Attr)) (a1:Name) (x0:Int) (o:(Int)⊕((Unit)⊕(Int))) (h:zdU a0 a1 x0=some o):Wp prog zsJ (zgk a0 a1 x0) (zbq (0,[]) (zgk a0 a1) (zjP a0 a1) o):=by
 unfold zdU at h
 delta zsJ zgk
 try simp only[go_sem]
 refine zaf (fun hc1=> ?_) (fun hc2=> ?_)
 ·rw[if_pos hc1]at h
  try simp only[go_sem]
  obtain⟨y3,hy4,h⟩:=bs h
  try simp only[go_sem,zab hy4,zaj hy4,zac zbg hy4]
  iterate 6 (refine zaA ?_;try simp only[go_sem,zab hy4,zaj hy4,zac zbg hy4])
  refine zaf (fun hc5=> ?_) (fun hc6=> ?_)
  ·rw[if_pos hc5]at h
   try simp only[go_sem,zab hy4,zaj hy4,zac zbg hy4]
   cases h
   exact⟨rfl,by simp,Up.of (N:=5) (N':=28) [] rfl rfl (by decide) (.set (.d _) zae.none) zah.at⟩
  rw[if_neg (ff hc6)]at h
  try simp only[go_sem,zab hy4,zaj hy4,zac zbg hy4]
  cases h
  exact⟨rfl,Up.of (N:=5) (N':=28) [] rfl rfl (by decide) (.set (.d _) (.set (.d _) (.set (.d _) (.set (.ptr' rfl) zae.none)))) (.set zar.refl_d zah.at)⟩
 rw[if_neg (ff hc2)]at h
 try simp only[go_sem]
 cases h
 exact⟨rfl,by simp,Up.of (N:=5) (N':=6) [] rfl rfl (by decide) zae.none zah.at⟩
noncomputable def zPA (a0:Sl (Attr)) (a1:Name):Option (Int):=
 (zaL (zdU a0 a1) 0).bind fun r13=>
 match r13 with
 |(.inl q15)=>
  some (-1)
 |(.inr q16)=>
  some q16
theorem zPB (a0:Sl (Attr)) (a1:Name) (r:Int) (h:zPA a0 a1=some r):pc prog 146 [.list a0.n (a0.l.map zbg),zcf a1]=some ((D.int .i64) r):=by
 unfold zPA at h
 refine zaQ (fn:=zNC) rfl rfl ?_
 delta zNC
 try simp only[go_sem]
 obtain⟨r13,hl14,h⟩:=bs h
 refine Wp.loopR zaV (n:=(0,[])) (a:=zsJ) rfl (zgk a0 a1) (zjP a0 a1) (zzL a0 a1) hl14 ?_ (by(repeat(first|refine Clo.block ?_|refine Clo.seq zaV rfl ?_));(exact Clo.ret)) ?_
 ·show Up (0,[]) (zgk a0 a1 0) _
  delta zgk
  exact Up.of (N:=5) (N':=5) [] rfl rfl (by decide) (.set (.d _) (.set (.d _) (.set (.d _) (.set (.ptr' rfl) zae.none)))) (.set zar.refl_d zah.at)
 rcases r13 with(q15|q16)
 ·dsimp only at h
  dsimp only[zjP]
  try simp only[go_sem]
  cases h
  rfl
 dsimp only at h
 dsimp only[zjP]
 try simp only[go_sem]
 cases h
 rfl
def zgl (a0:Sl (Int)) (a1:Int) (x0:Int):St:=⟨((((Regs.none.set 0 (.d (.list a0.n (a0.l.map (D.int .i64))))).set 1 (.d (.int .i64 a1))).set 7 (.d (.int .i64 (a0.l.length:Int)))).set 8 (.d (.int .i64 x0))),(Heap.at 4)⟩
def zjQ (a0:Sl (Int)) (a1:Int):((Unit)⊕(Int))→Ex×St:=fun r=>match r with
 |(.inl r)=>(.exit 0,⟨Regs.none,(Heap.at 4)⟩)
 |(.inr r)=>(.ret,⟨(Regs.none.set 4 (.d (.int .i64 r))),(Heap.at 4)⟩)
noncomputable def zdV (a0:Sl (Int)) (a1:Int) (x0:Int):Option ((Int)⊕((Unit)⊕(Int))):=
 if(decide (x0<(a0.l.length:Int)))=true then
  (rd a0.l x0).bind fun y3=>
  if(a1==y3)=true then
   some (.inr (.inr x0))
  else
   some (.inl (IntKind.wrap .i64 (x0+1)))
 else
  some (.inr (.inl ()))
theorem zzM (a0:Sl (Int)) (a1:Int) (x0:Int) (o:(Int)⊕((Unit)⊕(Int))) (h:zdV a0 a1 x0=some o):Wp prog zsO (zgl a0 a1 x0) (zbq (0,[]) (zgl a0 a1) (zjQ a0 a1) o):=by
 unfold zdV at h
 delta zsO zgl
 try simp only[go_sem]
 refine zaf (fun hc1=> ?_) (fun hc2=> ?_)
 ·rw[if_pos hc1]at h
  try simp only[go_sem]
  obtain⟨y3,hy4,h⟩:=bs h
  try simp only[go_sem,zab hy4,zaj hy4,zac (D.int .i64) hy4]
  refine zaf (fun hc5=> ?_) (fun hc6=> ?_)
  ·rw[if_pos hc5]at h
   try simp only[go_sem,zab hy4,zaj hy4,zac (D.int .i64) hy4]
   cases h
   exact⟨rfl,by simp,Up.of (N:=4) (N':=15) [] rfl rfl (by decide) (.set (.d _) zae.none) zah.at⟩
  rw[if_neg (ff hc6)]at h
  try simp only[go_sem,zab hy4,zaj hy4,zac (D.int .i64) hy4]
  cases h
  exact⟨rfl,Up.of (N:=4) (N':=15) [] rfl rfl (by decide) (.set (.d _) (.set (.d _) (.set (.d _) (.set (.d _) zae.none)))) zah.at⟩
 rw[if_neg (ff hc2)]at h
 try simp only[go_sem]
 cases h
 exact⟨rfl,by simp,Up.of (N:=4) (N':=5) [] rfl rfl (by decide) zae.none zah.at⟩
noncomputable def zPC (a0:Sl (Int)) (a1:Int):Option (Int):=
 (zaL (zdV a0 a1) 0).bind fun r7=>
 match r7 with
 |(.inl q9)=>
  some (-1)
 |(.inr q10)=>
  some q10
theorem zPD (a0:Sl (Int)) (a1:Int) (r:Int) (h:zPC a0 a1=some r):pc prog 158 [.list a0.n (a0.l.map (D.int .i64)),.int .i64 a1]=some ((D.int .i64) r):=by
 unfold zPC at h
 refine zaQ (fn:=zNM) rfl rfl ?_
 delta zNM
 try simp only[go_sem]
 obtain⟨r7,hl8,h⟩:=bs h
 refine Wp.loopR zaV (n:=(0,[])) (a:=zsO) rfl (zgl a0 a1) (zjQ a0 a1) (zzM a0 a1) hl8 ?_ (by(repeat(first|refine Clo.block ?_|refine Clo.seq zaV rfl ?_));(exact Clo.ret)) ?_
 ·show Up (0,[]) (zgl a0 a1 0) _
  delta zgl
  exact Up.of (N:=4) (N':=4) [] rfl rfl (by decide) (.set (.d _) (.set (.d _) (.set (.d _) (.set (.d _) zae.none)))) zah.at
 rcases r7 with(q9|q10)
 ·dsimp only at h
  dsimp only[zjQ]
  try simp only[go_sem]
  cases h
  rfl
 dsimp only at h
 dsimp only[zjQ]
 try simp only[go_sem]
 cases h
 rfl
def zgm (a0:Sl (Int)) (a1:Int) (x0:Int):St:=⟨(((Regs.none.set 0 (.d (.list a0.n (a0.l.map (D.int .i64))))).set 1 (.d (.int .i64 a1))).set 5 (.d (.int .i64 x0))),(Heap.at 2)⟩
def zjR (a0:Sl (Int)) (a1:Int):((Unit)⊕(Int))→Ex×St:=fun r=>match r with
 |(.inl r)=>(.exit 0,⟨Regs.none,(Heap.at 2)⟩)
 |(.inr r)=>(.ret,⟨(Regs.none.set 4 (.d (.int .i64 r))),(Heap.at 2)⟩)
noncomputable def zdW (a0:Sl (Int)) (a1:Int) (x0:Int):Option ((Int)⊕((Unit)⊕(Int))):=
 if(decide (x0<(a0.l.length:Int)))=true then
  (rd a0.l x0).bind fun y3=>
  if(y3==a1)=true then
   some (.inr (.inr x0))
  else
   some (.inl (IntKind.wrap .i64 (x0+1)))
 else
  some (.inr (.inl ()))
theorem zzN (a0:Sl (Int)) (a1:Int) (x0:Int) (o:(Int)⊕((Unit)⊕(Int))) (h:zdW a0 a1 x0=some o):Wp prog zsw (zgm a0 a1 x0) (zbq (0,[]) (zgm a0 a1) (zjR a0 a1) o):=by
 unfold zdW at h
 delta zsw zgm
 try simp only[go_sem]
 refine zaf (fun hc1=> ?_) (fun hc2=> ?_)
 ·rw[if_pos hc1]at h
  try simp only[go_sem]
  obtain⟨y3,hy4,h⟩:=bs h
  try simp only[go_sem,zab hy4,zaj hy4,zac (D.int .i64) hy4]
  refine zaf (fun hc5=> ?_) (fun hc6=> ?_)
  ·rw[if_pos hc5]at h
   try simp only[go_sem,zab hy4,zaj hy4,zac (D.int .i64) hy4]
   cases h
   exact⟨rfl,by simp,Up.of (N:=2) (N':=14) [] rfl rfl (by decide) (.set (.d _) zae.none) zah.at⟩
  rw[if_neg (ff hc6)]at h
  try simp only[go_sem,zab hy4,zaj hy4,zac (D.int .i64) hy4]
  cases h
  exact⟨rfl,Up.of (N:=2) (N':=15) [] rfl rfl (by decide) (.set (.d _) (.set (.d _) (.set (.d _) zae.none))) zah.at⟩
 rw[if_neg (ff hc2)]at h
 try simp only[go_sem]
 cases h
 exact⟨rfl,by simp,Up.of (N:=2) (N':=6) [] rfl rfl (by decide) zae.none zah.at⟩
noncomputable def zPE (a0:Sl (Int)) (a1:Int):Option (Int):=
 (zaL (zdW a0 a1) 0).bind fun r7=>
 match r7 with
 |(.inl q9)=>
  some (-1)
 |(.inr q10)=>
  some q10
theorem zPF (a0:Sl (Int)) (a1:Int) (r:Int) (h:zPE a0 a1=some r):pc prog 108 [.list a0.n (a0.l.map (D.int .i64)),.int .i64 a1]=some ((D.int .i64) r):=by
 unfold zPE at h
 refine zaQ (fn:=zMU) rfl rfl ?_
 delta zMU
 try simp only[go_sem]
 obtain⟨r7,hl8,h⟩:=bs h
 refine Wp.loopR zaV (n:=(0,[])) (a:=zsw) rfl (zgm a0 a1) (zjR a0 a1) (zzN a0 a1) hl8 ?_ (by(repeat(first|refine Clo.block ?_|refine Clo.seq zaV rfl ?_));(exact Clo.ret)) ?_
 ·show Up (0,[]) (zgm a0 a1 0) _
  delta zgm
  exact Up.of (N:=2) (N':=2) [] rfl rfl (by decide) (.set (.d _) (.set (.d _) (.set (.d _) zae.none))) zah.at
 rcases r7 with(q9|q10)
 ·dsimp only at h
  dsimp only[zjR]
  try simp only[go_sem]
  cases h
  rfl
 dsimp only at h
 dsimp only[zjR]
 try simp only[go_sem]
 cases h
 rfl
def zgn (a0:Forest) (r1:Node) (x0:List (Int)×Int):St:=⟨((((Regs.none.set 2 (.ptr 0 0 0)).set 5 (.sl 3 0 x0.1.length)).set 6 (.d (.list r1.kids.n (r1.kids.l.map (D.int .i64))))).set 7 (.d (.int .i64 x0.2))),(((Heap.at 11).set 0 (some (.els 1 [.d (zaa a0)] 0))).set 3 (some (.els 1 (x0.1.map fun z=>V.d ((D.int .i64) z)) x0.1.length)))⟩
def zng (a0:Forest) (r1:Node):((List (Int)))→Ex×St:=fun r=>(.exit 0,⟨(Regs.none.set 5 (.sl 10 0 r.length)),((Heap.at 11).set 10 (some (.els 1 (r.map fun z=>V.d ((D.int .i64) z)) r.length)))⟩)
noncomputable def zcX (a0:Forest) (r1:Node) (x0:List (Int)×Int):Option ((List (Int)×Int)⊕((List (Int)))):=
 if(decide (x0.2<(r1.kids.l.length:Int)))=true then
  (rd r1.kids.l x0.2).bind fun y5=>
  (dec (eSl (D.int .i64)) (pc prog 145 [zaa a0,.int .i64 y5])).bind fun r7=>
  if r7.l=[]then
   some (.inl (x0.1,(IntKind.wrap .i64 (x0.2+1))))
  else
   if(x0.1.length+r7.l.length)*8≤AI.roomBytes then
    some (.inl ((x0.1++r7.l),(IntKind.wrap .i64 (x0.2+1))))
   else none
 else
  some (.inr x0.1)
theorem zzO (a0:Forest) (r1:Node) (x0:List (Int)×Int) (o:(List (Int)×Int)⊕((List (Int)))) (h:zcX a0 r1 x0=some o):Wp prog zsI (zgn a0 r1 x0) (zbq (0,[]) (zgn a0 r1) (zng a0 r1) o):=by
 unfold zcX at h
 delta zsI zgn
 try simp only[go_sem]
 refine zaf (fun hc3=> ?_) (fun hc4=> ?_)
 ·rw[if_pos hc3]at h
  try simp only[go_sem]
  obtain⟨y5,hy6,h⟩:=bs h
  try simp only[go_sem,zab hy6,zaj hy6,zac (D.int .i64) hy6]
  obtain⟨r7,hr8,h⟩:=bs h
  replace hr8:=zag hr8
  refine zal hr8 ?_
  try simp only[go_sem,zab hy6,zaj hy6,zac (D.int .i64) hy6]
  by_cases hz9:r7.l=[]
  ·rw[if_pos hz9]at h
   refine zkJ (by simp only[go_sem,zbv,zbL,zbG,zbb,zfh,List.map_nil,hz9]) (by rfl) ?_
   try simp only[go_sem,zab hy6,zaj hy6,zac (D.int .i64) hy6]
   cases h
   exact⟨rfl,Up.of (N:=11) (N':=27) [] rfl rfl (by decide) (.set (.d _) (.set (.d _) (.set (.sl'' rfl (by rfl)) (.set (.ptr' rfl) zae.none)))) (.set (zar.arr (e:=(D.int .i64)) (l:=x0.1) (by rfl) (by exact Nat.le_refl _)) (.set zar.refl_d zah.at))⟩
  have hz10:=hz9;rw[if_neg hz10]at h
  obtain⟨hm11,h⟩:=zbM h
  refine zdK (l:=x0.1.map fun z=>V.d ((D.int .i64) z)) (fz:=x0.1.length) (new:=r7.l.map fun z=>V.d ((D.int .i64) z)) (by simp only[go_sem,List.map_append,List.map_cons,List.map_nil,zab hy6,zaj hy6,zac (D.int .i64) hy6]) (by simp only[go_sem,zbv,zbL,zbG,zbb,zfh]) (by simpa using hz10) (by rw[←zfh];exact zfU (e:=(D.int .i64)) (fun _=>rfl) (fun _=>rfl) _) (by simp) (by simpa using hm11) ?_
  try rw[←List.map_append]
  try simp only[go_sem,zab hy6,zaj hy6,zac (D.int .i64) hy6,hm11]
  cases h
  exact⟨rfl,Up.of (N:=11) (N':=27) [(3,22)] rfl rfl (by decide) (.set (.d _) (.set (.d _) (.set (.sl'' rfl (by(simp;done))) (.set (.ptr' rfl) zae.none)))) (.set (zar.arr (e:=(D.int .i64)) (l:=(x0.1++r7.l)) (by rfl) (by simp)) (.set zar.refl_d zah.at))⟩
 rw[if_neg (ff hc4)]at h
 try simp only[go_sem]
 cases h
 exact⟨rfl,by simp,Up.of (N:=11) (N':=15) [(3,10),(10,3)] rfl rfl (by decide) (.set (.sl'' rfl (by rfl)) zae.none) (.set (zar.arr (e:=(D.int .i64)) (l:=x0.1) (by rfl) (by exact Nat.le_refl _)) zah.at)⟩
noncomputable def zPG (a0:Forest) (a1:Int):Option (Sl (Int)):=
 (dec zao (pc prog 86 [zaa a0,.int .i64 a1])).bind fun r1=>
 (zaL (zcX a0 r1) ([a1],0)).bind fun r12=>
 some (⟨false,r12⟩)
theorem zPH (a0:Forest) (a1:Int) (r:Sl (Int)) (h:zPG a0 a1=some r):pc prog 145 [zaa a0,.int .i64 a1]=some ((eSl (D.int .i64)) r):=by
 unfold zPG at h
 refine zaQ (fn:=zNB) rfl rfl ?_
 delta zNB
 try simp only[go_sem]
 obtain⟨r1,hr2,h⟩:=bs h
 replace hr2:=zag hr2
 refine zal hr2 ?_
 try simp only[go_sem]
 obtain⟨r12,hl13,h⟩:=bs h
 refine Wp.loopR zaV (n:=(0,[])) (a:=zsI) rfl (zgn a0 r1) (zng a0 r1) (zzO a0 r1) hl13 ?_ (by(repeat(first|refine Clo.block ?_|refine Clo.seq zaV rfl ?_));(exact Clo.ret)) ?_
 ·show Up (0,[]) (zgn a0 r1 ([a1],0)) _
  delta zgn
  refine Up.of (N:=11) (N':=11) [] rfl rfl (by decide) ?_ ?_
  ·refine zae.set ?_ (zae.set ?_ (zae.set ?_ (zae.set ?_ zae.none)))
   all_goals (try simp only[go_sem,List.map_append,List.map_cons,List.map_nil])
   all_goals (first|exact VR.d _|exact VR.ptr' rfl|exact VR.sl'' rfl (by simp))
  refine zah.set (show zar _ _ (Heap.get _ 3)from ?_) (zah.set (show zar _ _ (Heap.get _ 0)from ?_) (zah.at))
  all_goals (try simp only[go_sem,List.map_append,List.map_cons,List.map_nil])
  all_goals (((repeat' first|exact zar.refl_d|refine zar.els (by simp) ?_|exact VR.d _|exact VRL.nil|refine VRL.cons ?_ ?_);done))
 dsimp only[zng]
 try simp only[go_sem]
 cases h
 refine Reads.ofv (v':= .sl 10 0 r12.length) (by rfl) (Rd.sl (e:=(D.int .i64)) (l:=r12) (sz:=1) (fz:=r12.length) (m:=r12.map fun z=>V.d ((D.int .i64) z)) (by simp only[go_sem,List.map_append,List.map_cons,List.map_nil]) rfl (by simp)) rfl
end Go.Proofs.YthodcjjgimeeoaaGreat.P
