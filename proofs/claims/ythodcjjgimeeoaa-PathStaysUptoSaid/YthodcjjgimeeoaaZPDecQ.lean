/- Shaken copy of a longer text: what one law needs. Its conditions: none. -/
import Derived.Test.YthodcjjgimeeoaaZPDec0
import Derived.Test.YthodcjjgimeeoaaZPSpIt
set_option linter.unusedSimpArgs false
set_option linter.unusedVariables false
set_option maxHeartbeats 1000000
namespace Go.Proofs.Ythodcjjgimeeoaa.P
open Go.AI
def zhR (a0:Forest) (a1:Sl (Assign)) (a2:Int) (r5:Sl (Step)×Int) (x0:Int) (r13:Node×Bool) (x1:Int):St:=⟨(((((((Regs.none.set 1 (.d (.list a1.n (a1.l.map zap)))).set 2 (.d (.int .i64 a2))).set 5 (.ptr 0 0 0)).set 11 (.d (.list r5.1.n (r5.1.l.map zau)))).set 13 (.d (.int .i64 x0))).set 14 (.ptr 32 0 0)).set 16 (.d (.int .i64 x1))),(((Heap.at 60).set 0 (some (.els 1 [.d (zae a0)] 0))).set 32 (some (.els 16 [.d (zam r13.1)] 0)))⟩
def zmk (a0:Forest) (a1:Sl (Assign)) (a2:Int) (r5:Sl (Step)×Int) (x0:Int) (r13:Node×Bool):((Unit)⊕(Unit))→Ex×St:=fun r=>match r with
 |(.inl r)=>(.exit 2,⟨((((((Regs.none.set 1 (.d (.list a1.n (a1.l.map zap)))).set 2 (.d (.int .i64 a2))).set 5 (.ptr 0 0 0)).set 11 (.d (.list r5.1.n (r5.1.l.map zau)))).set 13 (.d (.int .i64 x0))).set 14 (.ptr 32 0 0)),(((Heap.at 60).set 0 (some (.els 1 [.d (zae a0)] 0))).set 32 (some (.els 16 [.d (zam r13.1)] 0)))⟩)
 |(.inr r)=>(.ret,⟨(Regs.none.set 10 (.d (.bool false))),(Heap.at 60)⟩)
noncomputable def zdl (a0:Forest) (a1:Sl (Assign)) (a2:Int) (r5:Sl (Step)×Int) (x0:Int) (r13:Node×Bool) (x1:Int):Option ((Int)⊕((Unit)⊕(Unit))):=
 if(decide (x1<x0))=true then
  (rd r5.1.l x1).bind fun y29=>
  (rd r5.1.l x0).bind fun y31=>
  if(y29.item==y31.item)=true then
   some (.inr (.inr ()))
  else
   some (.inl (IntKind.wrap .i64 (x1+1)))
 else
  some (.inr (.inl ()))
theorem zCf (a0:Forest) (a1:Sl (Assign)) (a2:Int) (r5:Sl (Step)×Int) (x0:Int) (r13:Node×Bool) (x1:Int) (o:(Int)⊕((Unit)⊕(Unit))) (h:zdl a0 a1 a2 r5 x0 r13 x1=some o):Wp prog zBq (zhR a0 a1 a2 r5 x0 r13 x1) (zcg (0,[]) (zhR a0 a1 a2 r5 x0 r13) (zmk a0 a1 a2 r5 x0 r13) o):=by
 unfold zdl at h
 delta zBq zhR
 try simp only[go_sem]
 refine zal (fun hc27=> ?_) (fun hc28=> ?_)
 ·rw[if_pos hc27]at h
  try simp only[go_sem]
  obtain⟨y29,hy30,h⟩:=bs h
  try simp only[go_sem,zac hy30,zaj hy30,zad zau hy30]
  obtain⟨y31,hy32,h⟩:=bs h
  try simp only[go_sem,zac hy30,zaj hy30,zad zau hy30,zac hy32,zaj hy32,zad zau hy32]
  refine zal (fun hc33=> ?_) (fun hc34=> ?_)
  ·rw[if_pos hc33]at h
   try simp only[go_sem,zac hy30,zaj hy30,zad zau hy30,zac hy32,zaj hy32,zad zau hy32]
   cases h
   exact⟨rfl,by simp,Up.of (N:=60) (N':=75) [] rfl rfl (by decide) (.set (.d _) zak.none) zag.at⟩
  rw[if_neg (ff hc34)]at h
  try simp only[go_sem,zac hy30,zaj hy30,zad zau hy30,zac hy32,zaj hy32,zad zau hy32]
  cases h
  exact⟨rfl,Up.of (N:=60) (N':=77) [] rfl rfl (by decide) (.set (.d _) (.set (.ptr' rfl) (.set (.d _) (.set (.d _) (.set (.ptr' rfl) (.set (.d _) (.set (.d _) zak.none))))))) (.set zaq.refl_d (.set zaq.refl_d zag.at))⟩
 rw[if_neg (ff hc28)]at h
 try simp only[go_sem]
 cases h
 exact⟨rfl,by simp,Up.of (N:=60) (N':=63) [] rfl rfl (by decide) (.set (.ptr' rfl) (.set (.d _) (.set (.d _) (.set (.ptr' rfl) (.set (.d _) (.set (.d _) zak.none)))))) (.set zaq.refl_d (.set zaq.refl_d zag.at))⟩
def zhS (a0:Forest) (a1:Sl (Assign)) (a2:Int) (r5:Sl (Step)×Int) (x0:Int):St:=⟨(((((Regs.none.set 1 (.d (.list a1.n (a1.l.map zap)))).set 2 (.d (.int .i64 a2))).set 5 (.ptr 0 0 0)).set 11 (.d (.list r5.1.n (r5.1.l.map zau)))).set 13 (.d (.int .i64 x0))),((Heap.at 18).set 0 (some (.els 1 [.d (zae a0)] 0)))⟩
def zml (a0:Forest) (a1:Sl (Assign)) (a2:Int) (r5:Sl (Step)×Int):((Unit)⊕(Unit))→Ex×St:=fun r=>match r with
 |(.inl r)=>(.exit 0,⟨Regs.none,(Heap.at 18)⟩)
 |(.inr r)=>(.ret,⟨(Regs.none.set 10 (.d (.bool false))),(Heap.at 18)⟩)
noncomputable def zdm (a0:Forest) (a1:Sl (Assign)) (a2:Int) (r5:Sl (Step)×Int) (x0:Int):Option ((Int)⊕((Unit)⊕(Unit))):=
 if(decide (x0<(r5.1.l.length:Int)))=true then
  (rd r5.1.l x0).bind fun y11=>
  (dec (eT2 zam D.bool) (pc prog 43 [zae a0,.int .i64 y11.item])).bind fun r13=>
  if r13.2=true then
   (if(x0==0)=true then
    if(y11.item==a2)=true then
     some (!(y11.target==a2))
    else
     some true
   else
    some false:Option ((Bool))).bind fun r23=>
   if r23=true then
    some (.inr (.inr ()))
   else
    (zaU (zdl a0 a1 a2 r5 x0 r13) 0).bind fun r35=>
    match r35 with
    |(.inl q37)=>
     if((IntKind.wrap .i64 (x0+1))==(r5.1.l.length:Int))=true then
      some (.inl (IntKind.wrap .i64 (x0+1)))
     else
      (dec (eT2 (D.int .i64) (D.int .i64)) (pc prog 44 [zae a0,.list a1.n (a1.l.map zap),.int .i64 y11.item,.bool false])).bind fun r40=>
      if(!(r40.2==0))=true then
       some (.inr (.inr ()))
      else
       (if(!(r40.1==0))=true then
        some r40.1
       else
        some r13.1.parent:Option ((Int))).bind fun r46=>
       if(r13.1.kind==12)=true then
        (rd r5.1.l (IntKind.wrap .i64 (x0+1))).bind fun y50=>
        if(!(y50.item==r13.1.host))=true then
         some (.inr (.inr ()))
        else
         some (.inl (IntKind.wrap .i64 (x0+1)))
       else
        (rd r5.1.l (IntKind.wrap .i64 (x0+1))).bind fun y54=>
        if(!(y54.item==r46))=true then
         some (.inr (.inr ()))
        else
         some (.inl (IntKind.wrap .i64 (x0+1)))
    |(.inr q58)=>
     some (.inr (.inr ()))
  else
   some (.inr (.inr ()))
 else
  some (.inr (.inl ()))
theorem zCg (a0:Forest) (a1:Sl (Assign)) (a2:Int) (r5:Sl (Step)×Int) (x0:Int) (o:(Int)⊕((Unit)⊕(Unit))) (h:zdm a0 a1 a2 r5 x0=some o):Wp prog zBr (zhS a0 a1 a2 r5 x0) (zcg (0,[]) (zhS a0 a1 a2 r5) (zml a0 a1 a2 r5) o):=by
 unfold zdm at h
 delta zBr zhS
 try simp only[go_sem]
 refine zal (fun hc9=> ?_) (fun hc10=> ?_)
 ·rw[if_pos hc9]at h
  try simp only[go_sem]
  obtain⟨y11,hy12,h⟩:=bs h
  try simp only[go_sem,zac hy12,zaj hy12,zad zau hy12]
  obtain⟨r13,hr14,h⟩:=bs h
  replace hr14:=zao hr14
  refine zat hr14 ?_
  try simp only[go_sem,zac hy12,zaj hy12,zad zau hy12]
  refine zaa (v:= .d (.int .i64 x0)) (fun hb67=>by simp only[go_sem,zac hy12,zaj hy12,zad zau hy12,hc9,hb67]) ?_
  try simp only[go_sem,zac hy12,zaj hy12,zad zau hy12]
  refine zaa (v:= .d (.bool (x0==0))) (fun hb66=>by simp only[go_sem,zac hy12,zaj hy12,zad zau hy12,hc9,hb66]) ?_
  try simp only[go_sem,zac hy12,zaj hy12,zad zau hy12]
  refine zaa (v:= .d (.bool (x0==0))) (fun hb65=>by simp only[go_sem,zac hy12,zaj hy12,zad zau hy12,hc9,hb65]) ?_
  try simp only[go_sem,zac hy12,zaj hy12,zad zau hy12]
  refine zaa (v:= .d (.list r5.1.n (r5.1.l.map zau))) (fun hb62=>by((obtain⟨hb63,hb64⟩:=zaL hb62));simp only[go_sem,zac hy12,zaj hy12,zad zau hy12,hc9,hb64,hb63]) ?_
  try simp only[go_sem,zac hy12,zaj hy12,zad zau hy12]
  refine zaa (v:= .d (.int .i64 x0)) (fun hb59=>by((obtain⟨hb60,hb61⟩:=zaL hb59));simp only[go_sem,zac hy12,zaj hy12,zad zau hy12,hc9,hb61,hb60]) ?_
  try simp only[go_sem,zac hy12,zaj hy12,zad zau hy12]
  rcases Bool.eq_false_or_eq_true (r13.2)with hc15|hc16
  ·rw[if_pos hc15]at h
   try simp only[go_sem,zac hy12,zaj hy12,zad zau hy12,hc15]
   obtain⟨r23,hl24,h⟩:=bs h
   refine zcz.cut (n:=(0,[])) .normal ⟨(((((((Regs.none.set 1 (.d (.list a1.n (a1.l.map zap)))).set 2 (.d (.int .i64 a2))).set 5 (.ptr 0 0 0)).set 11 (.d (.list r5.1.n (r5.1.l.map zau)))).set 13 (.d (.int .i64 x0))).set 14 (.ptr 32 0 0)).set 75 (.d (.bool r23))),(((Heap.at 59).set 0 (some (.els 1 [.d (zae a0)] 0))).set 32 (some (.els 16 [.d (zam r13.1)] 0)))⟩ ?_ (by(repeat(first|refine Clo.block ?_|refine Clo.seq zbd rfl ?_));(exact Clo.lpost (by decide))) ?_
   ·replace h:=hl24
    refine zaG (fun hc17=> ?_) (fun hc18=> ?_)
    ·rw[if_pos hc17]at h
     try simp only[go_sem,zac hy12,zaj hy12,zad zau hy12,hc17]
     refine zaa (v:= .d (.list r5.1.n (r5.1.l.map zau))) (fun hb22=>by simp only[go_sem,zac hy12,zaj hy12,zad zau hy12,hc9,hc15,hc17,hb22]) ?_
     try simp only[go_sem,zac hy12,zaj hy12,zad zau hy12]
     refine zaa (v:= .d (.int .i64 x0)) (fun hb21=>by simp only[go_sem,zac hy12,zaj hy12,zad zau hy12,hc9,hc15,hc17,hb21]) ?_
     try simp only[go_sem,zac hy12,zaj hy12,zad zau hy12]
     refine zaG (fun hc19=> ?_) (fun hc20=> ?_)
     ·rw[if_pos hc19]at h
      try simp only[go_sem,zac hy12,zaj hy12,zad zau hy12,hc19]
      try simp only[go_sem,zac hy12,zaj hy12,zad zau hy12,hc9,hc15,hc17,hc19]
      cases h
      exact⟨rfl,Up.of (N:=59) (N':=59) [] rfl rfl (by decide) (.set (.d _) (.set (.ptr' rfl) (.set (.d _) (.set (.d _) (.set (.ptr' rfl) (.set (.d _) (.set (.d _) zak.none))))))) (.set zaq.refl_d (.set zaq.refl_d zag.at))⟩
     rw[if_neg (ff hc20)]at h
     try simp only[go_sem,zac hy12,zaj hy12,zad zau hy12,hc20]
     try simp only[go_sem,zac hy12,zaj hy12,zad zau hy12,hc9,hc15,hc17,hc20]
     cases h
     exact⟨rfl,Up.of (N:=59) (N':=59) [] rfl rfl (by decide) (.set (.d _) (.set (.ptr' rfl) (.set (.d _) (.set (.d _) (.set (.ptr' rfl) (.set (.d _) (.set (.d _) zak.none))))))) (.set zaq.refl_d (.set zaq.refl_d zag.at))⟩
    rw[if_neg (ff hc18)]at h
    try simp only[go_sem,zac hy12,zaj hy12,zad zau hy12,hc18]
    try simp only[go_sem,zac hy12,zaj hy12,zad zau hy12,hc9,hc15,hc18]
    cases h
    exact⟨rfl,Up.of (N:=59) (N':=59) [] rfl rfl (by decide) (.set (.d _) (.set (.ptr' rfl) (.set (.d _) (.set (.d _) (.set (.ptr' rfl) (.set (.d _) (.set (.d _) zak.none))))))) (.set zaq.refl_d (.set zaq.refl_d zag.at))⟩
   try simp only[go_sem,zac hy12,zaj hy12,zad zau hy12]
   refine zal (fun hc25=> ?_) (fun hc26=> ?_)
   ·rw[if_pos hc25]at h
    try simp only[go_sem,zac hy12,zaj hy12,zad zau hy12]
    cases h
    exact⟨rfl,by simp,Up.of (N:=18) (N':=60) [] rfl rfl (by decide) (.set (.d _) zak.none) zag.at⟩
   rw[if_neg (ff hc26)]at h
   try simp only[go_sem,zac hy12,zaj hy12,zad zau hy12]
   obtain⟨r35,hl36,h⟩:=bs h
   refine Wp.loopR zbd (n:=(0,[])) (a:=zBq) rfl (zhR a0 a1 a2 r5 x0 r13) (zmk a0 a1 a2 r5 x0 r13) (zCf a0 a1 a2 r5 x0 r13) hl36 ?_ (by(repeat(first|refine Clo.block ?_|refine Clo.seq zbd rfl ?_));(exact Clo.lpost (by decide))) ?_
   ·show Up (0,[]) (zhR a0 a1 a2 r5 x0 r13 0) _
    delta zhR
    exact Up.of (N:=60) (N':=60) [] rfl rfl (by decide) (.set (.d _) (.set (.ptr' rfl) (.set (.d _) (.set (.d _) (.set (.ptr' rfl) (.set (.d _) (.set (.d _) zak.none))))))) (.set zaq.refl_d (.set zaq.refl_d zag.at))
   rcases r35 with(q37|q58)
   ·dsimp only at h
    dsimp only[zmk]
    try simp only[go_sem,zac hy12,zaj hy12,zad zau hy12]
    refine zal (fun hc38=> ?_) (fun hc39=> ?_)
    ·rw[if_pos hc38]at h
     try simp only[go_sem,zac hy12,zaj hy12,zad zau hy12]
     cases h
     exact⟨rfl,Up.of (N:=18) (N':=68) [] rfl rfl (by decide) (.set (.d _) (.set (.d _) (.set (.ptr' rfl) (.set (.d _) (.set (.d _) zak.none))))) (.set zaq.refl_d zag.at)⟩
    rw[if_neg (ff hc39)]at h
    try simp only[go_sem,zac hy12,zaj hy12,zad zau hy12]
    obtain⟨r40,hr41,h⟩:=bs h
    replace hr41:=zao hr41
    refine zat hr41 ?_
    try simp only[go_sem,zac hy12,zaj hy12,zad zau hy12]
    refine zaD (fun hc42=> ?_) (fun hc43=> ?_)
    ·rw[if_pos (show(!(r40.2==0))=true by(rw[hc42];rfl))]at h
     try simp only[go_sem,zac hy12,zaj hy12,zad zau hy12]
     cases h
     exact⟨rfl,by simp,Up.of (N:=18) (N':=84) [] rfl rfl (by decide) (.set (.d _) zak.none) zag.at⟩
    rw[if_neg (ffn hc43)]at h
    try simp only[go_sem,zac hy12,zaj hy12,zad zau hy12]
    obtain⟨r46,hl47,h⟩:=bs h
    refine WBr.cut (n:=(0,[])) .normal ⟨(((((((Regs.none.set 1 (.d (.list a1.n (a1.l.map zap)))).set 2 (.d (.int .i64 a2))).set 5 (.ptr 0 0 0)).set 11 (.d (.list r5.1.n (r5.1.l.map zau)))).set 13 (.d (.int .i64 x0))).set 14 (.ptr 32 0 0)).set 17 (.d (.int .i64 r46))),(((Heap.at 85).set 0 (some (.els 1 [.d (zae a0)] 0))).set 32 (some (.els 16 [.d (zam r13.1)] 0)))⟩ ?_ (by(repeat(first|refine Clo.block ?_|refine Clo.seq zbd rfl ?_));(exact Clo.lpost (by decide))) ?_
    ·replace h:=hl47
     refine zaD (fun hc44=> ?_) (fun hc45=> ?_)
     ·rw[if_pos (show(!(r40.1==0))=true by(rw[hc44];rfl))]at h
      try simp only[go_sem,zac hy12,zaj hy12,zad zau hy12]
      cases h
      exact⟨rfl,Up.of (N:=85) (N':=87) [] rfl rfl (by decide) (.set (.d _) (.set (.ptr' rfl) (.set (.d _) (.set (.d _) (.set (.ptr' rfl) (.set (.d _) (.set (.d _) zak.none))))))) (.set zaq.refl_d (.set zaq.refl_d zag.at))⟩
     rw[if_neg (ffn hc45)]at h
     try simp only[go_sem,zac hy12,zaj hy12,zad zau hy12]
     cases h
     exact⟨rfl,Up.of (N:=85) (N':=85) [] rfl rfl (by decide) (.set (.d _) (.set (.ptr' rfl) (.set (.d _) (.set (.d _) (.set (.ptr' rfl) (.set (.d _) (.set (.d _) zak.none))))))) (.set zaq.refl_d (.set zaq.refl_d zag.at))⟩
    try simp only[go_sem,zac hy12,zaj hy12,zad zau hy12]
    refine zal (fun hc48=> ?_) (fun hc49=> ?_)
    ·rw[if_pos hc48]at h
     try simp only[go_sem,zac hy12,zaj hy12,zad zau hy12]
     obtain⟨y50,hy51,h⟩:=bs h
     try simp only[go_sem,zac hy12,zaj hy12,zad zau hy12,zac hy51,zaj hy51,zad zau hy51]
     refine zaD (fun hc52=> ?_) (fun hc53=> ?_)
     ·rw[if_pos (show(!(y50.item==r13.1.host))=true by(rw[hc52];rfl))]at h
      try simp only[go_sem,zac hy12,zaj hy12,zad zau hy12,zac hy51,zaj hy51,zad zau hy51]
      cases h
      exact⟨rfl,by simp,Up.of (N:=18) (N':=100) [] rfl rfl (by decide) (.set (.d _) zak.none) zag.at⟩
     rw[if_neg (ffn hc53)]at h
     try simp only[go_sem,zac hy12,zaj hy12,zad zau hy12,zac hy51,zaj hy51,zad zau hy51]
     cases h
     exact⟨rfl,Up.of (N:=18) (N':=102) [] rfl rfl (by decide) (.set (.d _) (.set (.d _) (.set (.ptr' rfl) (.set (.d _) (.set (.d _) zak.none))))) (.set zaq.refl_d zag.at)⟩
    rw[if_neg (ff hc49)]at h
    try simp only[go_sem,zac hy12,zaj hy12,zad zau hy12]
    obtain⟨y54,hy55,h⟩:=bs h
    try simp only[go_sem,zac hy12,zaj hy12,zad zau hy12,zac hy55,zaj hy55,zad zau hy55]
    refine zaD (fun hc56=> ?_) (fun hc57=> ?_)
    ·rw[if_pos (show(!(y54.item==r46))=true by(rw[hc56];rfl))]at h
     try simp only[go_sem,zac hy12,zaj hy12,zad zau hy12,zac hy55,zaj hy55,zad zau hy55]
     cases h
     exact⟨rfl,by simp,Up.of (N:=18) (N':=97) [] rfl rfl (by decide) (.set (.d _) zak.none) zag.at⟩
    rw[if_neg (ffn hc57)]at h
    try simp only[go_sem,zac hy12,zaj hy12,zad zau hy12,zac hy55,zaj hy55,zad zau hy55]
    cases h
    exact⟨rfl,Up.of (N:=18) (N':=99) [] rfl rfl (by decide) (.set (.d _) (.set (.d _) (.set (.ptr' rfl) (.set (.d _) (.set (.d _) zak.none))))) (.set zaq.refl_d zag.at)⟩
   dsimp only at h
   dsimp only[zmk]
   try simp only[go_sem,zac hy12,zaj hy12,zad zau hy12]
   cases h
   exact⟨rfl,by simp,Up.of (N:=18) (N':=60) [] rfl rfl (by decide) (.set (.d _) zak.none) zag.at⟩
  rw[if_neg (ff hc16)]at h
  try simp only[go_sem,zac hy12,zaj hy12,zad zau hy12,hc16]
  try simp only[go_sem,zac hy12,zaj hy12,zad zau hy12,hc9,hc16]
  cases h
  exact⟨rfl,by simp,Up.of (N:=18) (N':=60) [] rfl rfl (by decide) (.set (.d _) zak.none) zag.at⟩
 rw[if_neg (ff hc10)]at h
 try simp only[go_sem]
 cases h
 exact⟨rfl,by simp,Up.of (N:=18) (N':=22) [] rfl rfl (by decide) zak.none zag.at⟩
noncomputable def P11 (a0:Forest) (a1:Sl (Assign)) (a2:Int) (a3:Int) (a4:Bool):Option (Bool):=
 (dec D.bool (pc prog 41 [])).bind fun r1=>
 if(!r1)=true then
  some false
 else
  (dec (eT2 (eSl zau) (D.int .i64)) (pc prog 42 [zae a0,.list a1.n (a1.l.map zap),.int .i64 a2,.int .i64 a3,.bool a4])).bind fun r5=>
  if(!(r5.2==0))=true then
   some ((r5.1.l.length:Int)==0)
  else
   (zaU (zdm a0 a1 a2 r5) 0).bind fun r68=>
   match r68 with
   |(.inl q70)=>
    some true
   |(.inr q71)=>
    some false
theorem zMm (a0:Forest) (a1:Sl (Assign)) (a2:Int) (a3:Int) (a4:Bool) (r:Bool) (h:P11 a0 a1 a2 a3 a4=some r):pc prog 11 [zae a0,.list a1.n (a1.l.map zap),.int .i64 a2,.int .i64 a3,.bool a4]=some (D.bool r):=by
 unfold P11 at h
 refine zbD (fn:=c11) rfl rfl ?_
 delta c11
 try simp only[go_sem]
 obtain⟨r1,hr2,h⟩:=bs h
 replace hr2:=zao hr2
 refine zat hr2 ?_
 try simp only[go_sem]
 refine zaD (fun hc3=> ?_) (fun hc4=> ?_)
 ·rw[if_pos (show(!r1)=true by(rw[hc3];rfl))]at h
  try simp only[go_sem]
  cases h
  rfl
 rw[if_neg (ffn hc4)]at h
 try simp only[go_sem]
 obtain⟨r5,hr6,h⟩:=bs h
 replace hr6:=zao hr6
 refine zat hr6 ?_
 try simp only[go_sem]
 refine zaD (fun hc7=> ?_) (fun hc8=> ?_)
 ·rw[if_pos (show(!(r5.2==0))=true by(rw[hc7];rfl))]at h
  try simp only[go_sem]
  cases h
  rfl
 rw[if_neg (ffn hc8)]at h
 try simp only[go_sem]
 obtain⟨r68,hl69,h⟩:=bs h
 refine Wp.loopR zbd (n:=(0,[])) (a:=zBr) rfl (zhS a0 a1 a2 r5) (zml a0 a1 a2 r5) (zCg a0 a1 a2 r5) hl69 ?_ (by(repeat(first|refine Clo.block ?_|refine Clo.seq zbd rfl ?_));(exact Clo.ret)) ?_
 ·show Up (0,[]) (zhS a0 a1 a2 r5 0) _
  delta zhS
  exact Up.of (N:=18) (N':=18) [] rfl rfl (by decide) (.set (.d _) (.set (.d _) (.set (.ptr' rfl) (.set (.d _) (.set (.d _) zak.none))))) (.set zaq.refl_d zag.at)
 rcases r68 with(q70|q71)
 ·dsimp only at h
  dsimp only[zml]
  try simp only[go_sem]
  cases h
  rfl
 dsimp only at h
 dsimp only[zml]
 try simp only[go_sem]
 cases h
 rfl
def zhT (a0:Forest) (a3:Int) (r5:Sl (Step)×Int) (x0:Int×Int):St:=⟨(((((Regs.none.set 3 (.d (.int .i64 a3))).set 5 (.ptr 0 0 0)).set 11 (.d (.list r5.1.n (r5.1.l.map zau)))).set 13 (.d (.int .i64 x0.1))).set 14 (.d (.int .i64 x0.2))),((Heap.at 19).set 0 (some (.els 1 [.d (zae a0)] 0)))⟩
def zmm (a0:Forest) (a3:Int) (r5:Sl (Step)×Int):((Unit)⊕(Unit))→Ex×St:=fun r=>match r with
 |(.inl r)=>(.exit 0,⟨Regs.none,(Heap.at 19)⟩)
 |(.inr r)=>(.ret,⟨(Regs.none.set 10 (.d (.bool false))),(Heap.at 19)⟩)
noncomputable def zdn (a0:Forest) (a3:Int) (r5:Sl (Step)×Int) (x0:Int×Int):Option ((Int×Int)⊕((Unit)⊕(Unit))):=
 if(decide (x0.2<(r5.1.l.length:Int)))=true then
  (rd r5.1.l x0.2).bind fun y11=>
  (if(!(y11.target==0))=true then
   some y11.target
  else
   some x0.1:Option ((Int))).bind fun r15=>
  (dec D.bool (pc prog 45 [zae a0,.int .i64 r15,.int .i64 y11.item])).bind fun r17=>
  if r17=true then
   if(!(y11.related==0))=true then
    (dec D.bool (pc prog 45 [zae a0,.int .i64 y11.related,.int .i64 y11.item])).bind fun r23=>
    if r23=true then
     if(!((y11.related==0)==(a3==0)))=true then
      some (.inr (.inr ()))
     else
      some (.inl (r15,(IntKind.wrap .i64 (x0.2+1))))
    else
     some (.inr (.inr ()))
   else
    if(!((y11.related==0)==(a3==0)))=true then
     some (.inr (.inr ()))
    else
     some (.inl (r15,(IntKind.wrap .i64 (x0.2+1))))
  else
   some (.inr (.inr ()))
 else
  some (.inr (.inl ()))
theorem zCh (a0:Forest) (a3:Int) (r5:Sl (Step)×Int) (x0:Int×Int) (o:(Int×Int)⊕((Unit)⊕(Unit))) (h:zdn a0 a3 r5 x0=some o):Wp prog zBs (zhT a0 a3 r5 x0) (zcg (0,[]) (zhT a0 a3 r5) (zmm a0 a3 r5) o):=by
 unfold zdn at h
 delta zBs zhT
 try simp only[go_sem]
 refine zal (fun hc9=> ?_) (fun hc10=> ?_)
 ·rw[if_pos hc9]at h
  try simp only[go_sem]
  obtain⟨y11,hy12,h⟩:=bs h
  try simp only[go_sem,zac hy12,zaj hy12,zad zau hy12]
  obtain⟨r15,hl16,h⟩:=bs h
  refine WBr.cut (n:=(0,[])) .normal ⟨(((((Regs.none.set 3 (.d (.int .i64 a3))).set 5 (.ptr 0 0 0)).set 11 (.d (.list r5.1.n (r5.1.l.map zau)))).set 13 (.d (.int .i64 r15))).set 14 (.d (.int .i64 x0.2))),((Heap.at 29).set 0 (some (.els 1 [.d (zae a0)] 0)))⟩ ?_ (by(repeat(first|refine Clo.block ?_|refine Clo.seq zbd rfl ?_));(exact Clo.lpost (by decide))) ?_
  ·replace h:=hl16
   refine zaD (fun hc13=> ?_) (fun hc14=> ?_)
   ·rw[if_pos (show(!(y11.target==0))=true by(rw[hc13];rfl))]at h
    try simp only[go_sem,zac hy12,zaj hy12,zad zau hy12]
    cases h
    exact⟨rfl,Up.of (N:=29) (N':=35) [] rfl rfl (by decide) (.set (.d _) (.set (.d _) (.set (.d _) (.set (.ptr' rfl) (.set (.d _) zak.none))))) (.set zaq.refl_d zag.at)⟩
   rw[if_neg (ffn hc14)]at h
   try simp only[go_sem,zac hy12,zaj hy12,zad zau hy12]
   cases h
   exact⟨rfl,Up.of (N:=29) (N':=29) [] rfl rfl (by decide) (.set (.d _) (.set (.d _) (.set (.d _) (.set (.ptr' rfl) (.set (.d _) zak.none))))) (.set zaq.refl_d zag.at)⟩
  try simp only[go_sem,zac hy12,zaj hy12,zad zau hy12]
  obtain⟨r17,hr18,h⟩:=bs h
  replace hr18:=zao hr18
  refine zat hr18 ?_
  try simp only[go_sem,zac hy12,zaj hy12,zad zau hy12]
  refine zaa (v:= .d (.list r5.1.n (r5.1.l.map zau))) (fun hb37=>by simp only[go_sem,zac hy12,zaj hy12,zad zau hy12,hc9,hb37]) ?_
  try simp only[go_sem,zac hy12,zaj hy12,zad zau hy12]
  refine zaa (v:= .d (.int .i64 x0.2)) (fun hb36=>by simp only[go_sem,zac hy12,zaj hy12,zad zau hy12,hc9,hb36]) ?_
  try simp only[go_sem,zac hy12,zaj hy12,zad zau hy12]
  refine zaG (fun hc19=> ?_) (fun hc20=> ?_)
  ·rw[if_pos hc19]at h
   try simp only[go_sem,zac hy12,zaj hy12,zad zau hy12,hc19]
   refine zaa (v:= .d (zae a0)) (fun hb35=>by simp only[go_sem,zac hy12,zaj hy12,zad zau hy12,hc9,hc19,hb35]) ?_
   try simp only[go_sem,zac hy12,zaj hy12,zad zau hy12]
   refine zaa (v:= .d (.list r5.1.n (r5.1.l.map zau))) (fun hb34=>by simp only[go_sem,zac hy12,zaj hy12,zad zau hy12,hc9,hc19,hb34]) ?_
   try simp only[go_sem,zac hy12,zaj hy12,zad zau hy12]
   refine zaa (v:= .d (.int .i64 x0.2)) (fun hb33=>by simp only[go_sem,zac hy12,zaj hy12,zad zau hy12,hc9,hc19,hb33]) ?_
   try simp only[go_sem,zac hy12,zaj hy12,zad zau hy12]
   refine zaV (fun hc21=> ?_) (fun hc22=> ?_)
   ·rw[if_pos (show(!(y11.related==0))=true by(rw[hc21];rfl))]at h
    try simp only[go_sem,zac hy12,zaj hy12,zad zau hy12,hc21]
    obtain⟨r23,hr24,h⟩:=bs h
    replace hr24:=zao hr24
    refine zat hr24 ?_
    try simp only[go_sem,zac hy12,zaj hy12,zad zau hy12]
    refine zaa (v:= .d (.list r5.1.n (r5.1.l.map zau))) (fun hb30=>by simp only[go_sem,zac hy12,zaj hy12,zad zau hy12,hc9,hc19,hc21,hb30]) ?_
    try simp only[go_sem,zac hy12,zaj hy12,zad zau hy12]
    refine zaa (v:= .d (.int .i64 x0.2)) (fun hb29=>by simp only[go_sem,zac hy12,zaj hy12,zad zau hy12,hc9,hc19,hc21,hb29]) ?_
    try simp only[go_sem,zac hy12,zaj hy12,zad zau hy12]
    refine zaG (fun hc25=> ?_) (fun hc26=> ?_)
    ·rw[if_pos hc25]at h
     try simp only[go_sem,zac hy12,zaj hy12,zad zau hy12,hc25]
     refine zaD (fun hc27=> ?_) (fun hc28=> ?_)
     ·rw[if_pos (show(!((y11.related==0)==(a3==0)))=true by(rw[hc27];rfl))]at h
      try simp only[go_sem,zac hy12,zaj hy12,zad zau hy12]
      cases h
      exact⟨rfl,by simp,Up.of (N:=19) (N':=73) [] rfl rfl (by decide) (.set (.d _) zak.none) zag.at⟩
     rw[if_neg (ffn hc28)]at h
     try simp only[go_sem,zac hy12,zaj hy12,zad zau hy12]
     cases h
     exact⟨rfl,Up.of (N:=19) (N':=75) [] rfl rfl (by decide) (.set (.d _) (.set (.d _) (.set (.d _) (.set (.ptr' rfl) (.set (.d _) zak.none))))) (.set zaq.refl_d zag.at)⟩
    rw[if_neg (ff hc26)]at h
    try simp only[go_sem,zac hy12,zaj hy12,zad zau hy12,hc26]
    cases h
    exact⟨rfl,by simp,Up.of (N:=19) (N':=73) [] rfl rfl (by decide) (.set (.d _) zak.none) zag.at⟩
   rw[if_neg (ffn hc22)]at h
   try simp only[go_sem,zac hy12,zaj hy12,zad zau hy12,hc22]
   refine zaD (fun hc31=> ?_) (fun hc32=> ?_)
   ·rw[if_pos (show(!((y11.related==0)==(a3==0)))=true by(simp_all;done))]at h
    try simp only[go_sem,zac hy12,zaj hy12,zad zau hy12]
    cases h
    exact⟨rfl,by simp,Up.of (N:=19) (N':=73) [] rfl rfl (by decide) (.set (.d _) zak.none) zag.at⟩
   rw[if_neg (show ¬(!((y11.related==0)==(a3==0)))=true by(simp_all;done))]at h
   try simp only[go_sem,zac hy12,zaj hy12,zad zau hy12]
   cases h
   exact⟨rfl,Up.of (N:=19) (N':=75) [] rfl rfl (by decide) (.set (.d _) (.set (.d _) (.set (.d _) (.set (.ptr' rfl) (.set (.d _) zak.none))))) (.set zaq.refl_d zag.at)⟩
  rw[if_neg (ff hc20)]at h
  try simp only[go_sem,zac hy12,zaj hy12,zad zau hy12,hc20]
  cases h
  exact⟨rfl,by simp,Up.of (N:=19) (N':=73) [] rfl rfl (by decide) (.set (.d _) zak.none) zag.at⟩
 rw[if_neg (ff hc10)]at h
 try simp only[go_sem]
 cases h
 exact⟨rfl,by simp,Up.of (N:=19) (N':=23) [] rfl rfl (by decide) zak.none zag.at⟩
noncomputable def P13 (a0:Forest) (a1:Sl (Assign)) (a2:Int) (a3:Int) (a4:Bool):Option (Bool):=
 (dec D.bool (pc prog 41 [])).bind fun r1=>
 if(!r1)=true then
  some false
 else
  (dec (eT2 (eSl zau) (D.int .i64)) (pc prog 42 [zae a0,.list a1.n (a1.l.map zap),.int .i64 a2,.int .i64 a3,.bool a4])).bind fun r5=>
  if(!(r5.2==0))=true then
   some ((r5.1.l.length:Int)==0)
  else
   (zaU (zdn a0 a3 r5) (0,0)).bind fun r38=>
   match r38 with
   |(.inl q40)=>
    some true
   |(.inr q41)=>
    some false
theorem zMn (a0:Forest) (a1:Sl (Assign)) (a2:Int) (a3:Int) (a4:Bool) (r:Bool) (h:P13 a0 a1 a2 a3 a4=some r):pc prog 13 [zae a0,.list a1.n (a1.l.map zap),.int .i64 a2,.int .i64 a3,.bool a4]=some (D.bool r):=by
 unfold P13 at h
 refine zbD (fn:=c13) rfl rfl ?_
 delta c13
 try simp only[go_sem]
 obtain⟨r1,hr2,h⟩:=bs h
 replace hr2:=zao hr2
 refine zat hr2 ?_
 try simp only[go_sem]
 refine zaD (fun hc3=> ?_) (fun hc4=> ?_)
 ·rw[if_pos (show(!r1)=true by(rw[hc3];rfl))]at h
  try simp only[go_sem]
  cases h
  rfl
 rw[if_neg (ffn hc4)]at h
 try simp only[go_sem]
 obtain⟨r5,hr6,h⟩:=bs h
 replace hr6:=zao hr6
 refine zat hr6 ?_
 try simp only[go_sem]
 refine zaD (fun hc7=> ?_) (fun hc8=> ?_)
 ·rw[if_pos (show(!(r5.2==0))=true by(rw[hc7];rfl))]at h
  try simp only[go_sem]
  cases h
  rfl
 rw[if_neg (ffn hc8)]at h
 try simp only[go_sem]
 obtain⟨r38,hl39,h⟩:=bs h
 refine Wp.loopR zbd (n:=(0,[])) (a:=zBs) rfl (zhT a0 a3 r5) (zmm a0 a3 r5) (zCh a0 a3 r5) hl39 ?_ (by(repeat(first|refine Clo.block ?_|refine Clo.seq zbd rfl ?_));(exact Clo.ret)) ?_
 ·show Up (0,[]) (zhT a0 a3 r5 (0,0)) _
  delta zhT
  exact Up.of (N:=19) (N':=19) [] rfl rfl (by decide) (.set (.d _) (.set (.d _) (.set (.d _) (.set (.ptr' rfl) (.set (.d _) zak.none))))) (.set zaq.refl_d zag.at)
 rcases r38 with(q40|q41)
 ·dsimp only at h
  dsimp only[zmm]
  try simp only[go_sem]
  cases h
  rfl
 dsimp only at h
 dsimp only[zmm]
 try simp only[go_sem]
 cases h
 rfl
def zhU (a0:Forest) (a1:Sl (Assign)) (a2:Int) (a3:Int) (r5:Sl (Step)×Int) (r9:Int×Int) (x0:Int):St:=⟨(((((((Regs.none.set 1 (.d (.list a1.n (a1.l.map zap)))).set 2 (.d (.int .i64 a2))).set 3 (.d (.int .i64 a3))).set 4 (.ptr 0 0 0)).set 9 (.d (.list r5.1.n (r5.1.l.map zau)))).set 11 (.d (.int .i64 r9.1))).set 13 (.d (.int .i64 x0))),((Heap.at 27).set 0 (some (.els 1 [.d (zae a0)] 0)))⟩
def zmn (a0:Forest) (a1:Sl (Assign)) (a2:Int) (a3:Int) (r5:Sl (Step)×Int) (r9:Int×Int):((Unit)⊕(Unit))→Ex×St:=fun r=>match r with
 |(.inl r)=>(.exit 0,⟨(((((Regs.none.set 1 (.d (.list a1.n (a1.l.map zap)))).set 2 (.d (.int .i64 a2))).set 3 (.d (.int .i64 a3))).set 4 (.ptr 0 0 0)).set 9 (.d (.list r5.1.n (r5.1.l.map zau)))),((Heap.at 27).set 0 (some (.els 1 [.d (zae a0)] 0)))⟩)
 |(.inr r)=>(.ret,⟨(Regs.none.set 8 (.d (.bool false))),(Heap.at 27)⟩)
noncomputable def zdo (a0:Forest) (a1:Sl (Assign)) (a2:Int) (a3:Int) (r5:Sl (Step)×Int) (r9:Int×Int) (x0:Int):Option ((Int)⊕((Unit)⊕(Unit))):=
 if(decide (x0<(r5.1.l.length:Int)))=true then
  (rd r5.1.l x0).bind fun y15=>
  (dec (eT2 zam D.bool) (pc prog 43 [zae a0,.int .i64 y15.item])).bind fun r17=>
  if r17.2=true then
   if(bif (bif (y15.item==r9.1)then(r17.1.kind==12)else false)then(decide ((IntKind.wrap .i64 (x0+1))<(r5.1.l.length:Int)))else false)=true then
    some (.inr (.inr ()))
   else
    some (.inl (IntKind.wrap .i64 (x0+1)))
  else
   some (.inr (.inr ()))
 else
  some (.inr (.inl ()))
theorem zCi (a0:Forest) (a1:Sl (Assign)) (a2:Int) (a3:Int) (r5:Sl (Step)×Int) (r9:Int×Int) (x0:Int) (o:(Int)⊕((Unit)⊕(Unit))) (h:zdo a0 a1 a2 a3 r5 r9 x0=some o):Wp prog zBt (zhU a0 a1 a2 a3 r5 r9 x0) (zcg (0,[]) (zhU a0 a1 a2 a3 r5 r9) (zmn a0 a1 a2 a3 r5 r9) o):=by
 unfold zdo at h
 delta zBt zhU
 try simp only[go_sem]
 refine zal (fun hc13=> ?_) (fun hc14=> ?_)
 ·rw[if_pos hc13]at h
  try simp only[go_sem]
  obtain⟨y15,hy16,h⟩:=bs h
  try simp only[go_sem,zac hy16,zaj hy16,zad zau hy16]
  obtain⟨r17,hr18,h⟩:=bs h
  replace hr18:=zao hr18
  refine zat hr18 ?_
  try simp only[go_sem,zac hy16,zaj hy16,zad zau hy16]
  refine zaa (v:= .d (.list r5.1.n (r5.1.l.map zau))) (fun hb32=>by simp only[go_sem,zac hy16,zaj hy16,zad zau hy16,hc13,hb32]) ?_
  try simp only[go_sem,zac hy16,zaj hy16,zad zau hy16]
  refine zaa (v:= .d (.int .i64 x0)) (fun hb31=>by simp only[go_sem,zac hy16,zaj hy16,zad zau hy16,hc13,hb31]) ?_
  try simp only[go_sem,zac hy16,zaj hy16,zad zau hy16]
  refine zaG (fun hc19=> ?_) (fun hc20=> ?_)
  ·rw[if_pos hc19]at h
   try simp only[go_sem,zac hy16,zaj hy16,zad zau hy16,hc19]
   refine zaa (v:= .ptr 41 0 0) (fun hb30=>by simp only[go_sem,zac hy16,zaj hy16,zad zau hy16,hc13,hc19,hb30]) ?_
   try simp only[go_sem,zac hy16,zaj hy16,zad zau hy16]
   refine zaa (v:= .d (.int .u8 r17.1.kind)) (fun hb29=>by simp only[go_sem,zac hy16,zaj hy16,zad zau hy16,hc13,hc19,hb29]) ?_
   try simp only[go_sem,zac hy16,zaj hy16,zad zau hy16]
   refine zaa (v:= .d (.bool (r17.1.kind==12))) (fun hb28=>by simp only[go_sem,zac hy16,zaj hy16,zad zau hy16,hc13,hc19,hb28]) ?_
   try simp only[go_sem,zac hy16,zaj hy16,zad zau hy16]
   refine zaa (v:= .d (.int .i64 x0)) (fun hb27=>by simp only[go_sem,zac hy16,zaj hy16,zad zau hy16,hc13,hc19,hb27]) ?_
   try simp only[go_sem,zac hy16,zaj hy16,zad zau hy16]
   refine zaa (v:= .d (.int .i64 (IntKind.wrap .i64 (x0+1)))) (fun hb26=>by simp only[go_sem,zac hy16,zaj hy16,zad zau hy16,hc13,hc19,hb26]) ?_
   try simp only[go_sem,zac hy16,zaj hy16,zad zau hy16]
   refine zaa (v:= .d (.list r5.1.n (r5.1.l.map zau))) (fun hb25=>by simp only[go_sem,zac hy16,zaj hy16,zad zau hy16,hc13,hc19,hb25]) ?_
   try simp only[go_sem,zac hy16,zaj hy16,zad zau hy16]
   refine zaa (v:= .d (.int .i64 (r5.1.l.length:Int))) (fun hb24=>by simp only[go_sem,zac hy16,zaj hy16,zad zau hy16,hc13,hc19,hb24]) ?_
   try simp only[go_sem,zac hy16,zaj hy16,zad zau hy16]
   refine zaa (v:= .d (.bool (decide ((IntKind.wrap .i64 (x0+1))<(r5.1.l.length:Int))))) (fun hb23=>by simp only[go_sem,zac hy16,zaj hy16,zad zau hy16,hc13,hc19,hb23]) ?_
   try simp only[go_sem,zac hy16,zaj hy16,zad zau hy16]
   refine zal (fun hc21=> ?_) (fun hc22=> ?_)
   ·rw[if_pos hc21]at h
    try simp only[go_sem,zac hy16,zaj hy16,zad zau hy16]
    cases h
    exact⟨rfl,by simp,Up.of (N:=27) (N':=68) [] rfl rfl (by decide) (.set (.d _) zak.none) zag.at⟩
   rw[if_neg (ff hc22)]at h
   try simp only[go_sem,zac hy16,zaj hy16,zad zau hy16]
   cases h
   exact⟨rfl,Up.of (N:=27) (N':=70) [] rfl rfl (by decide) (.set (.d _) (.set (.d _) (.set (.d _) (.set (.ptr' rfl) (.set (.d _) (.set (.d _) (.set (.d _) zak.none))))))) (.set zaq.refl_d zag.at)⟩
  rw[if_neg (ff hc20)]at h
  try simp only[go_sem,zac hy16,zaj hy16,zad zau hy16,hc20]
  cases h
  exact⟨rfl,by simp,Up.of (N:=27) (N':=68) [] rfl rfl (by decide) (.set (.d _) zak.none) zag.at⟩
 rw[if_neg (ff hc14)]at h
 try simp only[go_sem]
 cases h
 exact⟨rfl,by simp,Up.of (N:=27) (N':=31) [] rfl rfl (by decide) (.set (.d _) (.set (.ptr' rfl) (.set (.d _) (.set (.d _) (.set (.d _) zak.none))))) (.set zaq.refl_d zag.at)⟩
def zhV (r5:Sl (Step)×Int) (r36:Sl (Step)×Int) (x1:Int):St:=⟨(((Regs.none.set 9 (.d (.list r5.1.n (r5.1.l.map zau)))).set 16 (.d (.list r36.1.n (r36.1.l.map zau)))).set 17 (.d (.int .i64 x1))),(Heap.at 47)⟩
def zmo (r5:Sl (Step)×Int) (r36:Sl (Step)×Int):((Unit)⊕(Unit))→Ex×St:=fun r=>match r with
 |(.inl r)=>(.exit 2,⟨Regs.none,(Heap.at 47)⟩)
 |(.inr r)=>(.ret,⟨(Regs.none.set 8 (.d (.bool false))),(Heap.at 47)⟩)
noncomputable def zdp (r5:Sl (Step)×Int) (r36:Sl (Step)×Int) (x1:Int):Option ((Int)⊕((Unit)⊕(Unit))):=
 if(decide (x1<(r5.1.l.length:Int)))=true then
  (rd r36.1.l x1).bind fun y42=>
  (rd r5.1.l x1).bind fun y44=>
  if(!(decide (y42=y44)))=true then
   some (.inr (.inr ()))
  else
   some (.inl (IntKind.wrap .i64 (x1+1)))
 else
  some (.inr (.inl ()))
theorem zCj (r5:Sl (Step)×Int) (r36:Sl (Step)×Int) (x1:Int) (o:(Int)⊕((Unit)⊕(Unit))) (h:zdp r5 r36 x1=some o):Wp prog zBu (zhV r5 r36 x1) (zcg (0,[]) (zhV r5 r36) (zmo r5 r36) o):=by
 unfold zdp at h
 delta zBu zhV
 try simp only[go_sem]
 refine zal (fun hc40=> ?_) (fun hc41=> ?_)
 ·rw[if_pos hc40]at h
  try simp only[go_sem]
  obtain⟨y42,hy43,h⟩:=bs h
  try simp only[go_sem,zac hy43,zaj hy43,zad zau hy43]
  obtain⟨y44,hy45,h⟩:=bs h
  try simp only[go_sem,zac hy43,zaj hy43,zad zau hy43,zac hy45,zaj hy45,zad zau hy45]
  refine zaD (fun hc46=> ?_) (fun hc47=> ?_)
  ·rw[if_pos (show(!(decide (y42=y44)))=true by(rw[hc46];rfl))]at h
   try simp only[go_sem,zac hy43,zaj hy43,zad zau hy43,zac hy45,zaj hy45,zad zau hy45]
   cases h
   exact⟨rfl,by simp,Up.of (N:=47) (N':=61) [] rfl rfl (by decide) (.set (.d _) zak.none) zag.at⟩
  rw[if_neg (ffn hc47)]at h
  try simp only[go_sem,zac hy43,zaj hy43,zad zau hy43,zac hy45,zaj hy45,zad zau hy45]
  cases h
  exact⟨rfl,Up.of (N:=47) (N':=63) [] rfl rfl (by decide) (.set (.d _) (.set (.d _) (.set (.d _) zak.none))) zag.at⟩
 rw[if_neg (ff hc41)]at h
 try simp only[go_sem]
 cases h
 exact⟨rfl,by simp,Up.of (N:=47) (N':=51) [] rfl rfl (by decide) zak.none zag.at⟩
noncomputable def P14 (a0:Forest) (a1:Sl (Assign)) (a2:Int) (a3:Int):Option (Bool):=
 (dec D.bool (pc prog 41 [])).bind fun r1=>
 if(!r1)=true then
  some false
 else
  (dec (eT2 (eSl zau) (D.int .i64)) (pc prog 42 [zae a0,.list a1.n (a1.l.map zap),.int .i64 a2,.int .i64 a3,.bool false])).bind fun r5=>
  if(!(r5.2==0))=true then
   some ((r5.1.l.length:Int)==0)
  else
   (dec (eT2 (D.int .i64) (D.int .i64)) (pc prog 46 [zae a0,.int .i64 a2])).bind fun r9=>
   if(!(r9.2==0))=true then
    some false
   else
    (zaU (zdo a0 a1 a2 a3 r5 r9) 0).bind fun r33=>
    match r33 with
    |(.inl q35)=>
     (dec (eT2 (eSl zau) (D.int .i64)) (pc prog 42 [zae a0,.list a1.n (a1.l.map zap),.int .i64 a2,.int .i64 a3,.bool true])).bind fun r36=>
     if(bif (!(r36.2==0))then true else(decide ((r36.1.l.length:Int)<(r5.1.l.length:Int))))=true then
      some false
     else
      (zaU (zdp r5 r36) 0).bind fun r48=>
      match r48 with
      |(.inl q50)=>
       some true
      |(.inr q51)=>
       some false
    |(.inr q57)=>
     some false
theorem zMo (a0:Forest) (a1:Sl (Assign)) (a2:Int) (a3:Int) (r:Bool) (h:P14 a0 a1 a2 a3=some r):pc prog 14 [zae a0,.list a1.n (a1.l.map zap),.int .i64 a2,.int .i64 a3]=some (D.bool r):=by
 unfold P14 at h
 refine zbD (fn:=c14) rfl rfl ?_
 delta c14
 try simp only[go_sem]
 obtain⟨r1,hr2,h⟩:=bs h
 replace hr2:=zao hr2
 refine zat hr2 ?_
 try simp only[go_sem]
 refine zaD (fun hc3=> ?_) (fun hc4=> ?_)
 ·rw[if_pos (show(!r1)=true by(rw[hc3];rfl))]at h
  try simp only[go_sem]
  cases h
  rfl
 rw[if_neg (ffn hc4)]at h
 try simp only[go_sem]
 obtain⟨r5,hr6,h⟩:=bs h
 replace hr6:=zao hr6
 refine zat hr6 ?_
 try simp only[go_sem]
 refine zaD (fun hc7=> ?_) (fun hc8=> ?_)
 ·rw[if_pos (show(!(r5.2==0))=true by(rw[hc7];rfl))]at h
  try simp only[go_sem]
  cases h
  rfl
 rw[if_neg (ffn hc8)]at h
 try simp only[go_sem]
 obtain⟨r9,hr10,h⟩:=bs h
 replace hr10:=zao hr10
 refine zat hr10 ?_
 try simp only[go_sem]
 refine zaD (fun hc11=> ?_) (fun hc12=> ?_)
 ·rw[if_pos (show(!(r9.2==0))=true by(rw[hc11];rfl))]at h
  try simp only[go_sem]
  cases h
  rfl
 rw[if_neg (ffn hc12)]at h
 try simp only[go_sem]
 obtain⟨r33,hl34,h⟩:=bs h
 refine Wp.loopR zbd (n:=(0,[])) (a:=zBt) rfl (zhU a0 a1 a2 a3 r5 r9) (zmn a0 a1 a2 a3 r5 r9) (zCi a0 a1 a2 a3 r5 r9) hl34 ?_ (by(repeat(first|refine Clo.block ?_|refine Clo.seq zbd rfl ?_));(exact Clo.ret)) ?_
 ·show Up (0,[]) (zhU a0 a1 a2 a3 r5 r9 0) _
  delta zhU
  exact Up.of (N:=27) (N':=27) [] rfl rfl (by decide) (.set (.d _) (.set (.d _) (.set (.d _) (.set (.ptr' rfl) (.set (.d _) (.set (.d _) (.set (.d _) zak.none))))))) (.set zaq.refl_d zag.at)
 rcases r33 with(q35|q57)
 ·dsimp only at h
  dsimp only[zmn]
  try simp only[go_sem]
  obtain⟨r36,hr37,h⟩:=bs h
  replace hr37:=zao hr37
  refine zat hr37 ?_
  try simp only[go_sem]
  refine zaa (v:= .d (.list r36.1.n (r36.1.l.map zau))) (fun hb56=>by simp only[go_sem,hc4,hc8,hc12,hb56]) ?_
  try simp only[go_sem]
  refine zaa (v:= .d (.int .i64 (r36.1.l.length:Int))) (fun hb55=>by simp only[go_sem,hc4,hc8,hc12,hb55]) ?_
  try simp only[go_sem]
  refine zaa (v:= .d (.list r5.1.n (r5.1.l.map zau))) (fun hb54=>by simp only[go_sem,hc4,hc8,hc12,hb54]) ?_
  try simp only[go_sem]
  refine zaa (v:= .d (.int .i64 (r5.1.l.length:Int))) (fun hb53=>by simp only[go_sem,hc4,hc8,hc12,hb53]) ?_
  try simp only[go_sem]
  refine zaa (v:= .d (.bool (decide ((r36.1.l.length:Int)<(r5.1.l.length:Int))))) (fun hb52=>by simp only[go_sem,hc4,hc8,hc12,hb52]) ?_
  try simp only[go_sem]
  refine zal (fun hc38=> ?_) (fun hc39=> ?_)
  ·rw[if_pos hc38]at h
   try simp only[go_sem]
   cases h
   rfl
  rw[if_neg (ff hc39)]at h
  try simp only[go_sem]
  obtain⟨r48,hl49,h⟩:=bs h
  refine Wp.loopR zbd (n:=(0,[])) (a:=zBu) rfl (zhV r5 r36) (zmo r5 r36) (zCj r5 r36) hl49 ?_ (by(repeat(first|refine Clo.block ?_|refine Clo.seq zbd rfl ?_));(exact Clo.ret)) ?_
  ·show Up (0,[]) (zhV r5 r36 0) _
   delta zhV
   exact Up.of (N:=47) (N':=47) [] rfl rfl (by decide) (.set (.d _) (.set (.d _) (.set (.d _) zak.none))) zag.at
  rcases r48 with(q50|q51)
  ·dsimp only at h
   dsimp only[zmo]
   try simp only[go_sem]
   cases h
   rfl
  dsimp only at h
  dsimp only[zmo]
  try simp only[go_sem]
  cases h
  rfl
 dsimp only at h
 dsimp only[zmn]
 try simp only[go_sem]
 cases h
 rfl
def zhW (a0:Forest) (a1:Sl (Assign)) (a2:Int) (a3:Int) (a4:Bool) (x0:Int×List (Step)×Int×Bool):St:=⟨(((Regs.none.set 0 (.ptr 24 0 0)).set 3 (.d (.int .i64 x0.2.2.1))).set 4 (.d (.bool x0.2.2.2))),((((Heap.at 153).set 0 (some (.els 1 [.d (zae a0)] 0))).set 24 (some (.els 7 [V.ofCells [.d (.list a0.nodes.n (a0.nodes.l.map zam)),.d (.list a1.n (a1.l.map zap)),.d (.int .i64 x0.1),.d (.int .i64 a3),.d (.int .i64 a2),.d (.bool a4),.sl 104 0 x0.2.1.length]] 0))).set 104 (some (.els 6 (x0.2.1.map fun z=>V.d (zau z)) x0.2.1.length)))⟩
def zmp (a0:Forest) (a1:Sl (Assign)) (a2:Int) (a3:Int) (a4:Bool):((Int×List (Step))⊕(Int×List (Step)))→Ex×St:=fun r=>match r with
 |(.inl r)=>(.exit 0,⟨Regs.none,((((Heap.at 153).set 0 (some (.els 1 [.d (zae a0)] 0))).set 24 (some (.els 7 [V.ofCells [.d (.list a0.nodes.n (a0.nodes.l.map zam)),.d (.list a1.n (a1.l.map zap)),.d (.int .i64 r.1),.d (.int .i64 a3),.d (.int .i64 a2),.d (.bool a4),.sl 152 0 r.2.length]] 0))).set 152 (some (.els 6 (r.2.map fun z=>V.d (zau z)) r.2.length)))⟩)
 |(.inr r)=>(.ret,⟨Regs.none,((((Heap.at 153).set 0 (some (.els 1 [.d (zae a0)] 0))).set 24 (some (.els 7 [V.ofCells [.d (.list a0.nodes.n (a0.nodes.l.map zam)),.d (.list a1.n (a1.l.map zap)),.d (.int .i64 r.1),.d (.int .i64 a3),.d (.int .i64 a2),.d (.bool a4),.sl 152 0 r.2.length]] 0))).set 152 (some (.els 6 (r.2.map fun z=>V.d (zau z)) r.2.length)))⟩)
noncomputable def zbI (a0:Forest) (a1:Sl (Assign)) (a2:Int) (a3:Int) (a4:Bool) (x0:Int×List (Step)×Int×Bool):Option ((Int×List (Step)×Int×Bool)⊕((Int×List (Step))⊕(Int×List (Step)))):=
 if(!(x0.2.2.1==0))=true then
  (dec zam (pc prog 84 [zae a0,.int .i64 x0.2.2.1])).bind fun r58=>
  (dec (D.int .i64) (pc prog 131 [zae a0,.int .i64 a3,.int .i64 x0.2.2.1])).bind fun r60=>
  (dec (D.int .i64) (pc prog 96 [zae a0,.int .i64 x0.1])).bind fun r62=>
  (dec D.bool (pc prog 134 [zae a0,.int .i64 r62,.int .i64 x0.2.2.1])).bind fun r64=>
  (if r64=true then
   (dec zam (pc prog 92 [zae a0,.int .i64 x0.2.2.1])).bind fun r68=>
   (dec zam (pc prog 84 [zae a0,.int .i64 x0.2.2.1])).bind fun r70=>
   if(x0.2.1.length+1)*40≤AI.roomBytes then
    some (.inl (x0.1,(x0.2.1++[(⟨x0.2.2.1,(r70.kind==12),0,r60,(bif (r68.kind==12)then(r68.mode==2)else false),(bif (bif x0.2.2.2 then(r58.kind==12)else false)then(r58.mode==2)else false)⟩:Step)])))
   else none
  else
   if(x0.2.2.1==r60)=true then
    some (.inr ())
   else
    (dec zam (pc prog 92 [zae a0,.int .i64 x0.2.2.1])).bind fun r78=>
    (dec zam (pc prog 84 [zae a0,.int .i64 x0.2.2.1])).bind fun r80=>
    if(x0.2.1.length+1)*40≤AI.roomBytes then
     some (.inl (x0.2.2.1,(x0.2.1++[(⟨x0.2.2.1,(r80.kind==12),x0.2.2.1,r60,(bif (r78.kind==12)then(r78.mode==2)else false),(bif (bif x0.2.2.2 then(r58.kind==12)else false)then(r58.mode==2)else false)⟩:Step)])))
    else none:Option ((Int×List (Step))⊕(Unit))).bind fun r86=>
  match r86 with
  |(.inl q88)=>
   (dec zam (pc prog 92 [zae a0,.int .i64 x0.2.2.1])).bind fun r89=>
   (if(r89.kind==9)=true then
    some (.inr 0)
   else
    if(bif (r89.kind==12)then(!a4)else false)=true then
     (dec (D.int .i64) (pc prog 96 [zae a0,.int .i64 a2])).bind fun r95=>
     if(x0.2.2.1==r95)=true then
      some (.inr 0)
     else
      if(r89.kind==12)=true then
       some (.inr r89.host)
      else
       some (.inl ())
    else
     if(r89.kind==12)=true then
      some (.inr r89.host)
     else
      some (.inl ()):Option ((Unit)⊕(Int))).bind fun r112=>
   match r112 with
   |(.inl q114)=>
    (dec (eT2 (D.int .i64) (D.int .i64)) (pc prog 44 [zae a0,.list a1.n (a1.l.map zap),.int .i64 x0.2.2.1,.bool false])).bind fun r115=>
    if(!(r115.1==0))=true then
     some (.inl (q88.1,q88.2,r115.1,true))
    else
     some (.inl (q88.1,q88.2,r89.parent,false))
   |(.inr q119)=>
    some (.inl (q88.1,q88.2,q119,false))
  |(.inr q120)=>
   some (.inr (.inr (x0.1,x0.2.1)))
 else
  some (.inr (.inl (x0.1,x0.2.1)))
theorem zCk (a0:Forest) (a1:Sl (Assign)) (a2:Int) (a3:Int) (a4:Bool) (x0:Int×List (Step)×Int×Bool) (o:(Int×List (Step)×Int×Bool)⊕((Int×List (Step))⊕(Int×List (Step)))) (h:zbI a0 a1 a2 a3 a4 x0=some o):Wp prog zjX (zhW a0 a1 a2 a3 a4 x0) (zcg (27,[]) (zhW a0 a1 a2 a3 a4) (zmp a0 a1 a2 a3 a4) o):=by
 unfold zbI at h
 delta zjX zhW
 try simp only[go_sem]
 refine zaD (fun hc56=> ?_) (fun hc57=> ?_)
 ·rw[if_pos (show(!(x0.2.2.1==0))=true by(rw[hc56];rfl))]at h
  try simp only[go_sem]
  obtain⟨r58,hr59,h⟩:=bs h
  replace hr59:=zao hr59
  refine zat hr59 ?_
  try simp only[go_sem]
  refine zaa (v:= .ptr 161 0 0) (fun hb126=>by simp only[go_sem,hc56,hb126]) ?_
  try simp only[go_sem]
  refine zaa (v:= .d (.int .u8 r58.kind)) (fun hb125=>by simp only[go_sem,hc56,hb125]) ?_
  try simp only[go_sem]
  refine zaa (v:= .d (.bool (r58.kind==12))) (fun hb124=>by simp only[go_sem,hc56,hb124]) ?_
  try simp only[go_sem]
  refine zaa (v:= .ptr 161 0 13) (fun hb123=>by simp only[go_sem,hc56,hb123]) ?_
  try simp only[go_sem]
  refine zaa (v:= .d (.int .u8 r58.mode)) (fun hb122=>by simp only[go_sem,hc56,hb122]) ?_
  try simp only[go_sem]
  refine zaa (v:= .d (.bool (r58.mode==2))) (fun hb121=>by simp only[go_sem,hc56,hb121]) ?_
  try simp only[go_sem]
  obtain⟨r60,hr61,h⟩:=bs h
  replace hr61:=zao hr61
  refine zat hr61 ?_
  try simp only[go_sem]
  obtain⟨r62,hr63,h⟩:=bs h
  replace hr63:=zao hr63
  refine zat hr63 ?_
  try simp only[go_sem]
  obtain⟨r64,hr65,h⟩:=bs h
  replace hr65:=zao hr65
  refine zat hr65 ?_
  try simp only[go_sem]
  obtain⟨r86,hl87,h⟩:=bs h
  refine WBr.cut (n:=(27,[])) ((fun r=>match r with|(.inl r)=>(.normal,⟨((Regs.none.set 0 (.ptr 24 0 0)).set 3 (.d (.int .i64 x0.2.2.1))),((((Heap.at 202).set 0 (some (.els 1 [.d (zae a0)] 0))).set 24 (some (.els 7 [V.ofCells [.d (.list a0.nodes.n (a0.nodes.l.map zam)),.d (.list a1.n (a1.l.map zap)),.d (.int .i64 r.1),.d (.int .i64 a3),.d (.int .i64 a2),.d (.bool a4),.sl 201 0 r.2.length]] 0))).set 201 (some (.els 6 (r.2.map fun z=>V.d (zau z)) r.2.length)))⟩)|(.inr r)=>(.ret,⟨Regs.none,((((Heap.at 202).set 0 (some (.els 1 [.d (zae a0)] 0))).set 24 (some (.els 7 [V.ofCells [.d (.list a0.nodes.n (a0.nodes.l.map zam)),.d (.list a1.n (a1.l.map zap)),.d (.int .i64 x0.1),.d (.int .i64 a3),.d (.int .i64 a2),.d (.bool a4),.sl 104 0 x0.2.1.length]] 0))).set 104 (some (.els 6 (x0.2.1.map fun z=>V.d (zau z)) x0.2.1.length)))⟩):((Int×List (Step))⊕(Unit))→Ex×St) r86).1 ((fun r=>match r with|(.inl r)=>(.normal,⟨((Regs.none.set 0 (.ptr 24 0 0)).set 3 (.d (.int .i64 x0.2.2.1))),((((Heap.at 202).set 0 (some (.els 1 [.d (zae a0)] 0))).set 24 (some (.els 7 [V.ofCells [.d (.list a0.nodes.n (a0.nodes.l.map zam)),.d (.list a1.n (a1.l.map zap)),.d (.int .i64 r.1),.d (.int .i64 a3),.d (.int .i64 a2),.d (.bool a4),.sl 201 0 r.2.length]] 0))).set 201 (some (.els 6 (r.2.map fun z=>V.d (zau z)) r.2.length)))⟩)|(.inr r)=>(.ret,⟨Regs.none,((((Heap.at 202).set 0 (some (.els 1 [.d (zae a0)] 0))).set 24 (some (.els 7 [V.ofCells [.d (.list a0.nodes.n (a0.nodes.l.map zam)),.d (.list a1.n (a1.l.map zap)),.d (.int .i64 x0.1),.d (.int .i64 a3),.d (.int .i64 a2),.d (.bool a4),.sl 104 0 x0.2.1.length]] 0))).set 104 (some (.els 6 (x0.2.1.map fun z=>V.d (zau z)) x0.2.1.length)))⟩):((Int×List (Step))⊕(Unit))→Ex×St) r86).2 ?_ (by(repeat(first|refine Clo.block ?_|refine Clo.seq zbd rfl ?_));(exact Clo.lpost (by decide))) ?_
  ·replace h:=hl87
   refine zal (fun hc66=> ?_) (fun hc67=> ?_)
   ·rw[if_pos hc66]at h
    try simp only[go_sem]
    refine zbn (fn:=zox) rfl rfl ?_
    delta zox
    try simp only[go_sem]
    obtain⟨r68,hr69,h⟩:=bs h
    replace hr69:=zao hr69
    refine zat hr69 ?_
    try simp only[go_sem]
    obtain⟨r70,hr71,h⟩:=bs h
    replace hr71:=zao hr71
    refine zat hr71 ?_
    try simp only[go_sem]
    refine zaa (v:= .ptr 213 0 13) (fun hb75=>by simp only[go_sem,hc56,hc66,hb75]) ?_
    try simp only[go_sem]
    refine zaa (v:= .d (.int .u8 r68.mode)) (fun hb74=>by simp only[go_sem,hc56,hc66,hb74]) ?_
    try simp only[go_sem]
    refine zaa (v:= .d (.bool (r68.mode==2))) (fun hb73=>by simp only[go_sem,hc56,hc66,hb73]) ?_
    try simp only[go_sem]
    obtain⟨hm72,h⟩:=zck h
    refine zdz (l:=x0.2.1.map fun z=>V.d (zau z)) (fz:=x0.2.1.length) (new:=[V.d (.agg [.int .i64 x0.2.2.1,.bool (r70.kind==12),.int .i64 (0),.int .i64 r60,.bool (bif (r68.kind==12)then(r68.mode==2)else false),.bool (bif (bif x0.2.2.2 then(r58.kind==12)else false)then(r58.mode==2)else false)])]) (by simp only[go_sem,List.map_append,List.map_cons,List.map_nil]) (by simp only[go_sem,zcC,zcQ,zcD,zbH,zjw]) (by simp) (by rfl) (by simp) (by simpa using hm72) ?_
    try simp only[go_sem,hm72]
    cases h
    refine⟨rfl,Up.of (N:=202) (N':=246) [(201,242)] rfl rfl (by decide) ?_ ?_⟩
    ·refine zak.set ?_ (zak.set ?_ zak.none)
     all_goals (try simp only[go_sem,List.map_append,List.map_cons,List.map_nil,hm72])
     all_goals (first|exact VR.d _|exact VR.ptr' rfl)
    refine zag.set (show zaq _ _ (Heap.get _ 242)from ?_) (zag.set (show zaq _ _ (Heap.get _ 24)from ?_) (zag.set (show zaq _ _ (Heap.get _ 0)from ?_) (zag.at)))
    all_goals (try simp only[go_sem,List.map_append,List.map_cons,List.map_nil,hm72])
    all_goals (((repeat' first|exact zaq.refl_d|refine zaq.els (by simp) ?_|exact VR.d _|exact VR.sl'' rfl (by simp)|exact VRL.nil|exact VRL.refl_d _ _|refine VRL.append ?_ ?_|refine VRL.cons ?_ ?_|refine VRL.agg ?_);done))
   rw[if_neg (ff hc67)]at h
   try simp only[go_sem]
   refine zal (fun hc76=> ?_) (fun hc77=> ?_)
   ·rw[if_pos hc76]at h
    try simp only[go_sem]
    cases h
    refine⟨rfl,Up.of (N:=202) (N':=206) [] rfl rfl (by decide) ?_ ?_⟩
    ·exact zak.none
    refine zag.set (show zaq _ _ (Heap.get _ 104)from ?_) (zag.set (show zaq _ _ (Heap.get _ 24)from ?_) (zag.set (show zaq _ _ (Heap.get _ 0)from ?_) (zag.at)))
    all_goals (try simp only[go_sem,List.map_append,List.map_cons,List.map_nil])
    all_goals (((repeat' first|exact zaq.refl_d|refine zaq.els (by simp) ?_|exact VR.d _|exact VR.sl'' rfl (by simp)|exact VRL.nil|exact VRL.refl_d _ _|refine VRL.cons ?_ ?_|refine VRL.agg ?_);done))
   rw[if_neg (ff hc77)]at h
   try simp only[go_sem]
   refine zbn (fn:=zox) rfl rfl ?_
   delta zox
   try simp only[go_sem]
   obtain⟨r78,hr79,h⟩:=bs h
   replace hr79:=zao hr79
   refine zat hr79 ?_
   try simp only[go_sem]
   obtain⟨r80,hr81,h⟩:=bs h
   replace hr81:=zao hr81
   refine zat hr81 ?_
   try simp only[go_sem]
   refine zaa (v:= .ptr 223 0 13) (fun hb85=>by simp only[go_sem,hc56,hc67,hc77,hb85]) ?_
   try simp only[go_sem]
   refine zaa (v:= .d (.int .u8 r78.mode)) (fun hb84=>by simp only[go_sem,hc56,hc67,hc77,hb84]) ?_
   try simp only[go_sem]
   refine zaa (v:= .d (.bool (r78.mode==2))) (fun hb83=>by simp only[go_sem,hc56,hc67,hc77,hb83]) ?_
   try simp only[go_sem]
   obtain⟨hm82,h⟩:=zck h
   refine zdz (l:=x0.2.1.map fun z=>V.d (zau z)) (fz:=x0.2.1.length) (new:=[V.d (.agg [.int .i64 x0.2.2.1,.bool (r80.kind==12),.int .i64 x0.2.2.1,.int .i64 r60,.bool (bif (r78.kind==12)then(r78.mode==2)else false),.bool (bif (bif x0.2.2.2 then(r58.kind==12)else false)then(r58.mode==2)else false)])]) (by simp only[go_sem,List.map_append,List.map_cons,List.map_nil]) (by simp only[go_sem,zcC,zcQ,zcD,zbH,zjw]) (by simp) (by rfl) (by simp) (by simpa using hm82) ?_
   try simp only[go_sem,hm82]
   cases h
   refine⟨rfl,Up.of (N:=202) (N':=256) [(201,252)] rfl rfl (by decide) ?_ ?_⟩
   ·refine zak.set ?_ (zak.set ?_ zak.none)
    all_goals (try simp only[go_sem,List.map_append,List.map_cons,List.map_nil,hm82])
    all_goals (first|exact VR.d _|exact VR.ptr' rfl)
   refine zag.set (show zaq _ _ (Heap.get _ 252)from ?_) (zag.set (show zaq _ _ (Heap.get _ 24)from ?_) (zag.set (show zaq _ _ (Heap.get _ 0)from ?_) (zag.at)))
   all_goals (try simp only[go_sem,List.map_append,List.map_cons,List.map_nil,hm82])
   all_goals (((repeat' first|exact zaq.refl_d|refine zaq.els (by simp) ?_|exact VR.d _|exact VR.sl'' rfl (by simp)|exact VRL.nil|exact VRL.refl_d _ _|refine VRL.append ?_ ?_|refine VRL.cons ?_ ?_|refine VRL.agg ?_);done))
  rcases r86 with(q88|q120)
  ·dsimp only at h⊢
   try simp only[go_sem]
   refine zbn (fn:=zyI) rfl rfl ?_
   delta zyI
   try simp only[go_sem]
   obtain⟨r89,hr90,h⟩:=bs h
   replace hr90:=zao hr90
   refine zat hr90 ?_
   try simp only[go_sem]
   obtain⟨r112,hl113,h⟩:=bs h
   refine WBr.cut (n:=(210,[])) ((fun r=>match r with|(.inl r)=>(.normal,⟨(((Regs.none.set 0 (.ptr 24 0 0)).set 1 (.d (.int .i64 x0.2.2.1))).set 6 (.ptr 218 0 0)),(((((Heap.at 224).set 0 (some (.els 1 [.d (zae a0)] 0))).set 24 (some (.els 7 [V.ofCells [.d (.list a0.nodes.n (a0.nodes.l.map zam)),.d (.list a1.n (a1.l.map zap)),.d (.int .i64 q88.1),.d (.int .i64 a3),.d (.int .i64 a2),.d (.bool a4),.sl 201 0 q88.2.length]] 0))).set 201 (some (.els 6 (q88.2.map fun z=>V.d (zau z)) q88.2.length))).set 218 (some (.els 16 [.d (zam r89)] 0)))⟩)|(.inr r)=>(.ret,⟨((Regs.none.set 4 (.d (.int .i64 r))).set 5 (.d (.bool false))),((((Heap.at 224).set 0 (some (.els 1 [.d (zae a0)] 0))).set 24 (some (.els 7 [V.ofCells [.d (.list a0.nodes.n (a0.nodes.l.map zam)),.d (.list a1.n (a1.l.map zap)),.d (.int .i64 q88.1),.d (.int .i64 a3),.d (.int .i64 a2),.d (.bool a4),.sl 201 0 q88.2.length]] 0))).set 201 (some (.els 6 (q88.2.map fun z=>V.d (zau z)) q88.2.length)))⟩):((Unit)⊕(Int))→Ex×St) r112).1 ((fun r=>match r with|(.inl r)=>(.normal,⟨(((Regs.none.set 0 (.ptr 24 0 0)).set 1 (.d (.int .i64 x0.2.2.1))).set 6 (.ptr 218 0 0)),(((((Heap.at 224).set 0 (some (.els 1 [.d (zae a0)] 0))).set 24 (some (.els 7 [V.ofCells [.d (.list a0.nodes.n (a0.nodes.l.map zam)),.d (.list a1.n (a1.l.map zap)),.d (.int .i64 q88.1),.d (.int .i64 a3),.d (.int .i64 a2),.d (.bool a4),.sl 201 0 q88.2.length]] 0))).set 201 (some (.els 6 (q88.2.map fun z=>V.d (zau z)) q88.2.length))).set 218 (some (.els 16 [.d (zam r89)] 0)))⟩)|(.inr r)=>(.ret,⟨((Regs.none.set 4 (.d (.int .i64 r))).set 5 (.d (.bool false))),((((Heap.at 224).set 0 (some (.els 1 [.d (zae a0)] 0))).set 24 (some (.els 7 [V.ofCells [.d (.list a0.nodes.n (a0.nodes.l.map zam)),.d (.list a1.n (a1.l.map zap)),.d (.int .i64 q88.1),.d (.int .i64 a3),.d (.int .i64 a2),.d (.bool a4),.sl 201 0 q88.2.length]] 0))).set 201 (some (.els 6 (q88.2.map fun z=>V.d (zau z)) q88.2.length)))⟩):((Unit)⊕(Int))→Ex×St) r112).2 ?_ (by(repeat(first|refine Clo.block ?_|refine Clo.seq zbd rfl ?_));refine Clo.inl zbd (n':=(27,[])) rfl rfl rfl ?_ ?_ (show Fx.spans _ 202 8=true from by decide) (by decide) ?_;((repeat(first|exact zaI.no|refine zaI.set ?_ ?_|exact zaE.d|exact zaE.ptr (by decide)));(repeat(first|exact zaI.no|exact zaI.none|refine zaI.set ?_ ?_|refine zaI.args ?_|exact zaX.nil|refine zaX.cons ?_ ?_|exact zaE.d|exact zaE.undef|exact zaE.rp|exact zaE.ptr (by decide)|exact zaE.sl (by decide)|exact zaE.mb (by decide)|exact zaE.map (by decide)|exact zaE.yld (by decide)|exact zaE.it (by decide)|refine zaE.clo ?_ ?_|refine zaE.ofCells ?_|refine zaE.agg ?_|refine zaE.tuple ?_|refine zaE.bif ?_ ?_)));(repeat(first|refine Clo.block ?_|refine Clo.seq zbd rfl ?_));(exact Clo.lpost (by decide))) ?_
   ·replace h:=hl113
    refine zal (fun hc91=> ?_) (fun hc92=> ?_)
    ·rw[if_pos hc91]at h
     try simp only[go_sem]
     cases h
     refine⟨rfl,Up.of (N:=224) (N':=226) [] rfl rfl (by decide) ?_ ?_⟩
     ·refine zak.set ?_ (zak.set ?_ zak.none)
      all_goals (try simp only[go_sem,List.map_append,List.map_cons,List.map_nil])
      all_goals (exact VR.d _)
     refine zag.set (show zaq _ _ (Heap.get _ 201)from ?_) (zag.set (show zaq _ _ (Heap.get _ 24)from ?_) (zag.set (show zaq _ _ (Heap.get _ 0)from ?_) (zag.at)))
     all_goals (try simp only[go_sem,List.map_append,List.map_cons,List.map_nil])
     all_goals (((repeat' first|exact zaq.refl_d|refine zaq.els (by simp) ?_|exact VR.d _|exact VR.sl'' rfl (by simp)|exact VRL.nil|exact VRL.refl_d _ _|refine VRL.cons ?_ ?_|refine VRL.agg ?_);done))
    rw[if_neg (ff hc92)]at h
    try simp only[go_sem]
    refine zaa (v:= .ptr 24 0 0) (fun hb111=>by simp only[go_sem,hc56,hc92,hb111]) ?_
    try simp only[go_sem]
    refine zaa (v:= .ptr 24 0 0) (fun hb110=>by simp only[go_sem,hc56,hc92,hb110]) ?_
    try simp only[go_sem]
    refine zaa (v:= .ptr 24 0 5) (fun hb109=>by simp only[go_sem,hc56,hc92,hb109]) ?_
    try simp only[go_sem]
    refine zaa (v:= .d (.bool a4)) (fun hb108=>by simp only[go_sem,hc56,hc92,hb108]) ?_
    try simp only[go_sem]
    refine zaa (v:= .d (.bool (!a4))) (fun hb107=>by simp only[go_sem,hc56,hc92,hb107]) ?_
    try simp only[go_sem]
    refine zaa (v:= .d (.int .i64 x0.2.2.1)) (fun hb106=>by simp only[go_sem,hc56,hc92,hb106]) ?_
    try simp only[go_sem]
    refine zaa (v:= .ptr 24 0 0) (fun hb105=>by simp only[go_sem,hc56,hc92,hb105]) ?_
    try simp only[go_sem]
    refine zaa (v:= .ptr 24 0 0) (fun hb104=>by simp only[go_sem,hc56,hc92,hb104]) ?_
    try simp only[go_sem]
    refine zaa (v:= .ptr 24 0 0) (fun hb103=>by simp only[go_sem,hc56,hc92,hb103]) ?_
    try simp only[go_sem]
    refine zaG (fun hc93=> ?_) (fun hc94=> ?_)
    ·rw[if_pos hc93]at h
     try simp only[go_sem,hc93]
     obtain⟨r95,hr96,h⟩:=bs h
     replace hr96:=zao hr96
     refine zat hr96 ?_
     try simp only[go_sem]
     refine zal (fun hc97=> ?_) (fun hc98=> ?_)
     ·rw[if_pos hc97]at h
      try simp only[go_sem]
      cases h
      refine⟨rfl,Up.of (N:=224) (N':=250) [] rfl rfl (by decide) ?_ ?_⟩
      ·refine zak.set ?_ (zak.set ?_ zak.none)
       all_goals (try simp only[go_sem,List.map_append,List.map_cons,List.map_nil])
       all_goals (exact VR.d _)
      refine zag.set (show zaq _ _ (Heap.get _ 201)from ?_) (zag.set (show zaq _ _ (Heap.get _ 24)from ?_) (zag.set (show zaq _ _ (Heap.get _ 0)from ?_) (zag.at)))
      all_goals (try simp only[go_sem,List.map_append,List.map_cons,List.map_nil])
      all_goals (((repeat' first|exact zaq.refl_d|refine zaq.els (by simp) ?_|exact VR.d _|exact VR.sl'' rfl (by simp)|exact VRL.nil|exact VRL.refl_d _ _|refine VRL.cons ?_ ?_|refine VRL.agg ?_);done))
     rw[if_neg (ff hc98)]at h
     try simp only[go_sem]
     refine zal (fun hc99=> ?_) (fun hc100=> ?_)
     ·rw[if_pos hc99]at h
      try simp only[go_sem]
      cases h
      refine⟨rfl,Up.of (N:=224) (N':=256) [] rfl rfl (by decide) ?_ ?_⟩
      ·refine zak.set ?_ (zak.set ?_ zak.none)
       all_goals (try simp only[go_sem,List.map_append,List.map_cons,List.map_nil])
       all_goals (exact VR.d _)
      refine zag.set (show zaq _ _ (Heap.get _ 201)from ?_) (zag.set (show zaq _ _ (Heap.get _ 24)from ?_) (zag.set (show zaq _ _ (Heap.get _ 0)from ?_) (zag.at)))
      all_goals (try simp only[go_sem,List.map_append,List.map_cons,List.map_nil])
      all_goals (((repeat' first|exact zaq.refl_d|refine zaq.els (by simp) ?_|exact VR.d _|exact VR.sl'' rfl (by simp)|exact VRL.nil|exact VRL.refl_d _ _|refine VRL.cons ?_ ?_|refine VRL.agg ?_);done))
     rw[if_neg (ff hc100)]at h
     try simp only[go_sem]
     cases h
     refine⟨rfl,Up.of (N:=224) (N':=252) [] rfl rfl (by decide) ?_ ?_⟩
     ·refine zak.set ?_ (zak.set ?_ (zak.set ?_ zak.none))
      all_goals (try simp only[go_sem,List.map_append,List.map_cons,List.map_nil])
      all_goals (first|exact VR.d _|exact VR.ptr' rfl)
     refine zag.set (show zaq _ _ (Heap.get _ 218)from ?_) (zag.set (show zaq _ _ (Heap.get _ 201)from ?_) (zag.set (show zaq _ _ (Heap.get _ 24)from ?_) (zag.set (show zaq _ _ (Heap.get _ 0)from ?_) (zag.at))))
     all_goals (try simp only[go_sem,List.map_append,List.map_cons,List.map_nil])
     all_goals (((repeat' first|exact zaq.refl_d|refine zaq.els (by simp) ?_|exact VR.d _|exact VR.sl'' rfl (by simp)|exact VRL.nil|exact VRL.refl_d _ _|refine VRL.cons ?_ ?_|refine VRL.agg ?_);done))
    rw[if_neg (ff hc94)]at h
    try simp only[go_sem,hc94]
    refine zal (fun hc101=> ?_) (fun hc102=> ?_)
    ·rw[if_pos hc101]at h
     try simp only[go_sem]
     cases h
     refine⟨rfl,Up.of (N:=224) (N':=256) [] rfl rfl (by decide) ?_ ?_⟩
     ·refine zak.set ?_ (zak.set ?_ zak.none)
      all_goals (try simp only[go_sem,List.map_append,List.map_cons,List.map_nil])
      all_goals (exact VR.d _)
     refine zag.set (show zaq _ _ (Heap.get _ 201)from ?_) (zag.set (show zaq _ _ (Heap.get _ 24)from ?_) (zag.set (show zaq _ _ (Heap.get _ 0)from ?_) (zag.at)))
     all_goals (try simp only[go_sem,List.map_append,List.map_cons,List.map_nil])
     all_goals (((repeat' first|exact zaq.refl_d|refine zaq.els (by simp) ?_|exact VR.d _|exact VR.sl'' rfl (by simp)|exact VRL.nil|exact VRL.refl_d _ _|refine VRL.cons ?_ ?_|refine VRL.agg ?_);done))
    rw[if_neg (ff hc102)]at h
    try simp only[go_sem]
    cases h
    refine⟨rfl,Up.of (N:=224) (N':=252) [] rfl rfl (by decide) ?_ ?_⟩
    ·refine zak.set ?_ (zak.set ?_ (zak.set ?_ zak.none))
     all_goals (try simp only[go_sem,List.map_append,List.map_cons,List.map_nil])
     all_goals (first|exact VR.d _|exact VR.ptr' rfl)
    refine zag.set (show zaq _ _ (Heap.get _ 218)from ?_) (zag.set (show zaq _ _ (Heap.get _ 201)from ?_) (zag.set (show zaq _ _ (Heap.get _ 24)from ?_) (zag.set (show zaq _ _ (Heap.get _ 0)from ?_) (zag.at))))
    all_goals (try simp only[go_sem,List.map_append,List.map_cons,List.map_nil])
    all_goals (((repeat' first|exact zaq.refl_d|refine zaq.els (by simp) ?_|exact VR.d _|exact VR.sl'' rfl (by simp)|exact VRL.nil|exact VRL.refl_d _ _|refine VRL.cons ?_ ?_|refine VRL.agg ?_);done))
   rcases r112 with(q114|q119)
   ·dsimp only at h⊢
    try simp only[go_sem]
    obtain⟨r115,hr116,h⟩:=bs h
    replace hr116:=zao hr116
    refine zat hr116 ?_
    try simp only[go_sem]
    refine zaD (fun hc117=> ?_) (fun hc118=> ?_)
    ·rw[if_pos (show(!(r115.1==0))=true by(rw[hc117];rfl))]at h
     try simp only[go_sem]
     cases h
     refine⟨rfl,Up.of (N:=153) (N':=244) [(104,201)] rfl rfl (by decide) ?_ ?_⟩
     ·refine zak.set ?_ (zak.set ?_ (zak.set ?_ zak.none))
      all_goals (try simp only[go_sem,List.map_append,List.map_cons,List.map_nil])
      all_goals (first|exact VR.d _|exact VR.ptr' rfl)
     refine zag.set (show zaq _ _ (Heap.get _ 201)from ?_) (zag.set (show zaq _ _ (Heap.get _ 24)from ?_) (zag.set (show zaq _ _ (Heap.get _ 0)from ?_) (zag.at)))
     all_goals (try simp only[go_sem,List.map_append,List.map_cons,List.map_nil])
     all_goals (((repeat' first|exact zaq.refl_d|refine zaq.els (by simp) ?_|exact VR.d _|exact VR.sl'' rfl (by simp)|exact VRL.nil|exact VRL.refl_d _ _|refine VRL.cons ?_ ?_|refine VRL.agg ?_);done))
    rw[if_neg (ffn hc118)]at h
    try simp only[go_sem]
    cases h
    refine⟨rfl,Up.of (N:=153) (N':=245) [(104,201)] rfl rfl (by decide) ?_ ?_⟩
    ·refine zak.set ?_ (zak.set ?_ (zak.set ?_ zak.none))
     all_goals (try simp only[go_sem,List.map_append,List.map_cons,List.map_nil])
     all_goals (first|exact VR.d _|exact VR.ptr' rfl)
    refine zag.set (show zaq _ _ (Heap.get _ 201)from ?_) (zag.set (show zaq _ _ (Heap.get _ 24)from ?_) (zag.set (show zaq _ _ (Heap.get _ 0)from ?_) (zag.at)))
    all_goals (try simp only[go_sem,List.map_append,List.map_cons,List.map_nil])
    all_goals (((repeat' first|exact zaq.refl_d|refine zaq.els (by simp) ?_|exact VR.d _|exact VR.sl'' rfl (by simp)|exact VRL.nil|exact VRL.refl_d _ _|refine VRL.cons ?_ ?_|refine VRL.agg ?_);done))
   dsimp only at h⊢
   try simp only[go_sem]
   cases h
   refine⟨rfl,Up.of (N:=153) (N':=224) [(104,201)] rfl rfl (by decide) ?_ ?_⟩
   ·refine zak.set ?_ (zak.set ?_ (zak.set ?_ zak.none))
    all_goals (try simp only[go_sem,List.map_append,List.map_cons,List.map_nil])
    all_goals (first|exact VR.d _|exact VR.ptr' rfl)
   refine zag.set (show zaq _ _ (Heap.get _ 201)from ?_) (zag.set (show zaq _ _ (Heap.get _ 24)from ?_) (zag.set (show zaq _ _ (Heap.get _ 0)from ?_) (zag.at)))
   all_goals (try simp only[go_sem,List.map_append,List.map_cons,List.map_nil])
   all_goals (((repeat' first|exact zaq.refl_d|refine zaq.els (by simp) ?_|exact VR.d _|exact VR.sl'' rfl (by simp)|exact VRL.nil|exact VRL.refl_d _ _|refine VRL.cons ?_ ?_|refine VRL.agg ?_);done))
  dsimp only at h⊢
  try simp only[go_sem]
  cases h
  refine⟨rfl,by simp,Up.of (N:=153) (N':=202) [(104,152),(152,104)] rfl rfl (by decide) ?_ ?_⟩
  ·exact zak.none
  refine zag.set (show zaq _ _ (Heap.get _ 104)from ?_) (zag.set (show zaq _ _ (Heap.get _ 24)from ?_) (zag.set (show zaq _ _ (Heap.get _ 0)from ?_) (zag.at)))
  all_goals (try simp only[go_sem,List.map_append,List.map_cons,List.map_nil])
  all_goals (((repeat' first|exact zaq.refl_d|refine zaq.els (by simp) ?_|exact VR.d _|exact VR.sl'' rfl (by simp)|exact VRL.nil|exact VRL.refl_d _ _|refine VRL.cons ?_ ?_|refine VRL.agg ?_);done))
 rw[if_neg (ffn hc57)]at h
 try simp only[go_sem]
 cases h
 refine⟨rfl,by simp,Up.of (N:=153) (N':=155) [(104,152),(152,104)] rfl rfl (by decide) ?_ ?_⟩
 ·exact zak.none
 refine zag.set (show zaq _ _ (Heap.get _ 104)from ?_) (zag.set (show zaq _ _ (Heap.get _ 24)from ?_) (zag.set (show zaq _ _ (Heap.get _ 0)from ?_) (zag.at)))
 all_goals (try simp only[go_sem,List.map_append,List.map_cons,List.map_nil])
 all_goals (((repeat' first|exact zaq.refl_d|refine zaq.els (by simp) ?_|exact VR.d _|exact VR.sl'' rfl (by simp)|exact VRL.nil|exact VRL.refl_d _ _|refine VRL.cons ?_ ?_|refine VRL.agg ?_);done))
def zhX (a0:Forest) (a1:Sl (Assign)) (a2:Int) (a3:Int) (a4:Bool) (x1:Int×List (Step)×Int×Bool):St:=⟨(((Regs.none.set 0 (.ptr 24 0 0)).set 3 (.d (.int .i64 x1.2.2.1))).set 4 (.d (.bool x1.2.2.2))),((((Heap.at 154).set 0 (some (.els 1 [.d (zae a0)] 0))).set 24 (some (.els 7 [V.ofCells [.d (.list a0.nodes.n (a0.nodes.l.map zam)),.d (.list a1.n (a1.l.map zap)),.d (.int .i64 x1.1),.d (.int .i64 a3),.d (.int .i64 a2),.d (.bool a4),.sl 104 0 x1.2.1.length]] 0))).set 104 (some (.els 6 (x1.2.1.map fun z=>V.d (zau z)) x1.2.1.length)))⟩
def zmq (a0:Forest) (a1:Sl (Assign)) (a2:Int) (a3:Int) (a4:Bool):((Int×List (Step))⊕(Int×List (Step)))→Ex×St:=fun r=>match r with
 |(.inl r)=>(.exit 0,⟨Regs.none,((((Heap.at 154).set 0 (some (.els 1 [.d (zae a0)] 0))).set 24 (some (.els 7 [V.ofCells [.d (.list a0.nodes.n (a0.nodes.l.map zam)),.d (.list a1.n (a1.l.map zap)),.d (.int .i64 r.1),.d (.int .i64 a3),.d (.int .i64 a2),.d (.bool a4),.sl 153 0 r.2.length]] 0))).set 153 (some (.els 6 (r.2.map fun z=>V.d (zau z)) r.2.length)))⟩)
 |(.inr r)=>(.ret,⟨Regs.none,((((Heap.at 154).set 0 (some (.els 1 [.d (zae a0)] 0))).set 24 (some (.els 7 [V.ofCells [.d (.list a0.nodes.n (a0.nodes.l.map zam)),.d (.list a1.n (a1.l.map zap)),.d (.int .i64 r.1),.d (.int .i64 a3),.d (.int .i64 a2),.d (.bool a4),.sl 153 0 r.2.length]] 0))).set 153 (some (.els 6 (r.2.map fun z=>V.d (zau z)) r.2.length)))⟩)
noncomputable def zfF (a0:Forest) (a1:Sl (Assign)) (a2:Int) (a3:Int) (a4:Bool) (x1:Int×List (Step)×Int×Bool):Option ((Int×List (Step)×Int×Bool)⊕((Int×List (Step))⊕(Int×List (Step)))):=
 if(!(x1.2.2.1==0))=true then
  (dec zam (pc prog 84 [zae a0,.int .i64 x1.2.2.1])).bind fun r133=>
  (dec (D.int .i64) (pc prog 131 [zae a0,.int .i64 a3,.int .i64 x1.2.2.1])).bind fun r135=>
  (dec (D.int .i64) (pc prog 96 [zae a0,.int .i64 x1.1])).bind fun r137=>
  (dec D.bool (pc prog 134 [zae a0,.int .i64 r137,.int .i64 x1.2.2.1])).bind fun r139=>
  (if r139=true then
   (dec zam (pc prog 92 [zae a0,.int .i64 x1.2.2.1])).bind fun r143=>
   (dec zam (pc prog 84 [zae a0,.int .i64 x1.2.2.1])).bind fun r145=>
   if(x1.2.1.length+1)*40≤AI.roomBytes then
    some (.inl (x1.1,(x1.2.1++[(⟨x1.2.2.1,(r145.kind==12),0,r135,(bif (r143.kind==12)then(r143.mode==2)else false),(bif (bif x1.2.2.2 then(r133.kind==12)else false)then(r133.mode==2)else false)⟩:Step)])))
   else none
  else
   if(x1.2.2.1==r135)=true then
    some (.inr ())
   else
    (dec zam (pc prog 92 [zae a0,.int .i64 x1.2.2.1])).bind fun r153=>
    (dec zam (pc prog 84 [zae a0,.int .i64 x1.2.2.1])).bind fun r155=>
    if(x1.2.1.length+1)*40≤AI.roomBytes then
     some (.inl (x1.2.2.1,(x1.2.1++[(⟨x1.2.2.1,(r155.kind==12),x1.2.2.1,r135,(bif (r153.kind==12)then(r153.mode==2)else false),(bif (bif x1.2.2.2 then(r133.kind==12)else false)then(r133.mode==2)else false)⟩:Step)])))
    else none:Option ((Int×List (Step))⊕(Unit))).bind fun r161=>
  match r161 with
  |(.inl q163)=>
   (dec zam (pc prog 92 [zae a0,.int .i64 x1.2.2.1])).bind fun r164=>
   (if(r164.kind==9)=true then
    some (.inr 0)
   else
    if(bif (r164.kind==12)then(!a4)else false)=true then
     (dec (D.int .i64) (pc prog 96 [zae a0,.int .i64 a2])).bind fun r170=>
     if(x1.2.2.1==r170)=true then
      some (.inr 0)
     else
      if(r164.kind==12)=true then
       some (.inr r164.host)
      else
       some (.inl ())
    else
     if(r164.kind==12)=true then
      some (.inr r164.host)
     else
      some (.inl ()):Option ((Unit)⊕(Int))).bind fun r187=>
   match r187 with
   |(.inl q189)=>
    (dec (eT2 (D.int .i64) (D.int .i64)) (pc prog 44 [zae a0,.list a1.n (a1.l.map zap),.int .i64 x1.2.2.1,.bool false])).bind fun r190=>
    if(!(r190.1==0))=true then
     some (.inl (q163.1,q163.2,r190.1,true))
    else
     some (.inl (q163.1,q163.2,r164.parent,false))
   |(.inr q194)=>
    some (.inl (q163.1,q163.2,q194,false))
  |(.inr q195)=>
   some (.inr (.inr (x1.1,x1.2.1)))
 else
  some (.inr (.inl (x1.1,x1.2.1)))
theorem zCl (a0:Forest) (a1:Sl (Assign)) (a2:Int) (a3:Int) (a4:Bool) (x1:Int×List (Step)×Int×Bool) (o:(Int×List (Step)×Int×Bool)⊕((Int×List (Step))⊕(Int×List (Step)))) (h:zfF a0 a1 a2 a3 a4 x1=some o):Wp prog zjX (zhX a0 a1 a2 a3 a4 x1) (zcg (27,[]) (zhX a0 a1 a2 a3 a4) (zmq a0 a1 a2 a3 a4) o):=by
 unfold zfF at h
 delta zjX zhX
 try simp only[go_sem]
 refine zaD (fun hc131=> ?_) (fun hc132=> ?_)
 ·rw[if_pos (show(!(x1.2.2.1==0))=true by(rw[hc131];rfl))]at h
  try simp only[go_sem]
  obtain⟨r133,hr134,h⟩:=bs h
  replace hr134:=zao hr134
  refine zat hr134 ?_
  try simp only[go_sem]
  refine zaa (v:= .ptr 162 0 0) (fun hb201=>by simp only[go_sem,hc131,hb201]) ?_
  try simp only[go_sem]
  refine zaa (v:= .d (.int .u8 r133.kind)) (fun hb200=>by simp only[go_sem,hc131,hb200]) ?_
  try simp only[go_sem]
  refine zaa (v:= .d (.bool (r133.kind==12))) (fun hb199=>by simp only[go_sem,hc131,hb199]) ?_
  try simp only[go_sem]
  refine zaa (v:= .ptr 162 0 13) (fun hb198=>by simp only[go_sem,hc131,hb198]) ?_
  try simp only[go_sem]
  refine zaa (v:= .d (.int .u8 r133.mode)) (fun hb197=>by simp only[go_sem,hc131,hb197]) ?_
  try simp only[go_sem]
  refine zaa (v:= .d (.bool (r133.mode==2))) (fun hb196=>by simp only[go_sem,hc131,hb196]) ?_
  try simp only[go_sem]
  obtain⟨r135,hr136,h⟩:=bs h
  replace hr136:=zao hr136
  refine zat hr136 ?_
  try simp only[go_sem]
  obtain⟨r137,hr138,h⟩:=bs h
  replace hr138:=zao hr138
  refine zat hr138 ?_
  try simp only[go_sem]
  obtain⟨r139,hr140,h⟩:=bs h
  replace hr140:=zao hr140
  refine zat hr140 ?_
  try simp only[go_sem]
  obtain⟨r161,hl162,h⟩:=bs h
  refine WBr.cut (n:=(27,[])) ((fun r=>match r with|(.inl r)=>(.normal,⟨((Regs.none.set 0 (.ptr 24 0 0)).set 3 (.d (.int .i64 x1.2.2.1))),((((Heap.at 203).set 0 (some (.els 1 [.d (zae a0)] 0))).set 24 (some (.els 7 [V.ofCells [.d (.list a0.nodes.n (a0.nodes.l.map zam)),.d (.list a1.n (a1.l.map zap)),.d (.int .i64 r.1),.d (.int .i64 a3),.d (.int .i64 a2),.d (.bool a4),.sl 202 0 r.2.length]] 0))).set 202 (some (.els 6 (r.2.map fun z=>V.d (zau z)) r.2.length)))⟩)|(.inr r)=>(.ret,⟨Regs.none,((((Heap.at 203).set 0 (some (.els 1 [.d (zae a0)] 0))).set 24 (some (.els 7 [V.ofCells [.d (.list a0.nodes.n (a0.nodes.l.map zam)),.d (.list a1.n (a1.l.map zap)),.d (.int .i64 x1.1),.d (.int .i64 a3),.d (.int .i64 a2),.d (.bool a4),.sl 104 0 x1.2.1.length]] 0))).set 104 (some (.els 6 (x1.2.1.map fun z=>V.d (zau z)) x1.2.1.length)))⟩):((Int×List (Step))⊕(Unit))→Ex×St) r161).1 ((fun r=>match r with|(.inl r)=>(.normal,⟨((Regs.none.set 0 (.ptr 24 0 0)).set 3 (.d (.int .i64 x1.2.2.1))),((((Heap.at 203).set 0 (some (.els 1 [.d (zae a0)] 0))).set 24 (some (.els 7 [V.ofCells [.d (.list a0.nodes.n (a0.nodes.l.map zam)),.d (.list a1.n (a1.l.map zap)),.d (.int .i64 r.1),.d (.int .i64 a3),.d (.int .i64 a2),.d (.bool a4),.sl 202 0 r.2.length]] 0))).set 202 (some (.els 6 (r.2.map fun z=>V.d (zau z)) r.2.length)))⟩)|(.inr r)=>(.ret,⟨Regs.none,((((Heap.at 203).set 0 (some (.els 1 [.d (zae a0)] 0))).set 24 (some (.els 7 [V.ofCells [.d (.list a0.nodes.n (a0.nodes.l.map zam)),.d (.list a1.n (a1.l.map zap)),.d (.int .i64 x1.1),.d (.int .i64 a3),.d (.int .i64 a2),.d (.bool a4),.sl 104 0 x1.2.1.length]] 0))).set 104 (some (.els 6 (x1.2.1.map fun z=>V.d (zau z)) x1.2.1.length)))⟩):((Int×List (Step))⊕(Unit))→Ex×St) r161).2 ?_ (by(repeat(first|refine Clo.block ?_|refine Clo.seq zbd rfl ?_));(exact Clo.lpost (by decide))) ?_
  ·replace h:=hl162
   refine zal (fun hc141=> ?_) (fun hc142=> ?_)
   ·rw[if_pos hc141]at h
    try simp only[go_sem]
    refine zbn (fn:=zox) rfl rfl ?_
    delta zox
    try simp only[go_sem]
    obtain⟨r143,hr144,h⟩:=bs h
    replace hr144:=zao hr144
    refine zat hr144 ?_
    try simp only[go_sem]
    obtain⟨r145,hr146,h⟩:=bs h
    replace hr146:=zao hr146
    refine zat hr146 ?_
    try simp only[go_sem]
    refine zaa (v:= .ptr 214 0 13) (fun hb150=>by simp only[go_sem,hc131,hc141,hb150]) ?_
    try simp only[go_sem]
    refine zaa (v:= .d (.int .u8 r143.mode)) (fun hb149=>by simp only[go_sem,hc131,hc141,hb149]) ?_
    try simp only[go_sem]
    refine zaa (v:= .d (.bool (r143.mode==2))) (fun hb148=>by simp only[go_sem,hc131,hc141,hb148]) ?_
    try simp only[go_sem]
    obtain⟨hm147,h⟩:=zck h
    refine zdz (l:=x1.2.1.map fun z=>V.d (zau z)) (fz:=x1.2.1.length) (new:=[V.d (.agg [.int .i64 x1.2.2.1,.bool (r145.kind==12),.int .i64 (0),.int .i64 r135,.bool (bif (r143.kind==12)then(r143.mode==2)else false),.bool (bif (bif x1.2.2.2 then(r133.kind==12)else false)then(r133.mode==2)else false)])]) (by simp only[go_sem,List.map_append,List.map_cons,List.map_nil]) (by simp only[go_sem,zcC,zcQ,zcD,zbH,zjw]) (by simp) (by rfl) (by simp) (by simpa using hm147) ?_
    try simp only[go_sem,hm147]
    cases h
    refine⟨rfl,Up.of (N:=203) (N':=247) [(202,243)] rfl rfl (by decide) ?_ ?_⟩
    ·refine zak.set ?_ (zak.set ?_ zak.none)
     all_goals (try simp only[go_sem,List.map_append,List.map_cons,List.map_nil,hm147])
     all_goals (first|exact VR.d _|exact VR.ptr' rfl)
    refine zag.set (show zaq _ _ (Heap.get _ 243)from ?_) (zag.set (show zaq _ _ (Heap.get _ 24)from ?_) (zag.set (show zaq _ _ (Heap.get _ 0)from ?_) (zag.at)))
    all_goals (try simp only[go_sem,List.map_append,List.map_cons,List.map_nil,hm147])
    all_goals (((repeat' first|exact zaq.refl_d|refine zaq.els (by simp) ?_|exact VR.d _|exact VR.sl'' rfl (by simp)|exact VRL.nil|exact VRL.refl_d _ _|refine VRL.append ?_ ?_|refine VRL.cons ?_ ?_|refine VRL.agg ?_);done))
   rw[if_neg (ff hc142)]at h
   try simp only[go_sem]
   refine zal (fun hc151=> ?_) (fun hc152=> ?_)
   ·rw[if_pos hc151]at h
    try simp only[go_sem]
    cases h
    refine⟨rfl,Up.of (N:=203) (N':=207) [] rfl rfl (by decide) ?_ ?_⟩
    ·exact zak.none
    refine zag.set (show zaq _ _ (Heap.get _ 104)from ?_) (zag.set (show zaq _ _ (Heap.get _ 24)from ?_) (zag.set (show zaq _ _ (Heap.get _ 0)from ?_) (zag.at)))
    all_goals (try simp only[go_sem,List.map_append,List.map_cons,List.map_nil])
    all_goals (((repeat' first|exact zaq.refl_d|refine zaq.els (by simp) ?_|exact VR.d _|exact VR.sl'' rfl (by simp)|exact VRL.nil|exact VRL.refl_d _ _|refine VRL.cons ?_ ?_|refine VRL.agg ?_);done))
   rw[if_neg (ff hc152)]at h
   try simp only[go_sem]
   refine zbn (fn:=zox) rfl rfl ?_
   delta zox
   try simp only[go_sem]
   obtain⟨r153,hr154,h⟩:=bs h
   replace hr154:=zao hr154
   refine zat hr154 ?_
   try simp only[go_sem]
   obtain⟨r155,hr156,h⟩:=bs h
   replace hr156:=zao hr156
   refine zat hr156 ?_
   try simp only[go_sem]
   refine zaa (v:= .ptr 224 0 13) (fun hb160=>by simp only[go_sem,hc131,hc142,hc152,hb160]) ?_
   try simp only[go_sem]
   refine zaa (v:= .d (.int .u8 r153.mode)) (fun hb159=>by simp only[go_sem,hc131,hc142,hc152,hb159]) ?_
   try simp only[go_sem]
   refine zaa (v:= .d (.bool (r153.mode==2))) (fun hb158=>by simp only[go_sem,hc131,hc142,hc152,hb158]) ?_
   try simp only[go_sem]
   obtain⟨hm157,h⟩:=zck h
   refine zdz (l:=x1.2.1.map fun z=>V.d (zau z)) (fz:=x1.2.1.length) (new:=[V.d (.agg [.int .i64 x1.2.2.1,.bool (r155.kind==12),.int .i64 x1.2.2.1,.int .i64 r135,.bool (bif (r153.kind==12)then(r153.mode==2)else false),.bool (bif (bif x1.2.2.2 then(r133.kind==12)else false)then(r133.mode==2)else false)])]) (by simp only[go_sem,List.map_append,List.map_cons,List.map_nil]) (by simp only[go_sem,zcC,zcQ,zcD,zbH,zjw]) (by simp) (by rfl) (by simp) (by simpa using hm157) ?_
   try simp only[go_sem,hm157]
   cases h
   refine⟨rfl,Up.of (N:=203) (N':=257) [(202,253)] rfl rfl (by decide) ?_ ?_⟩
   ·refine zak.set ?_ (zak.set ?_ zak.none)
    all_goals (try simp only[go_sem,List.map_append,List.map_cons,List.map_nil,hm157])
    all_goals (first|exact VR.d _|exact VR.ptr' rfl)
   refine zag.set (show zaq _ _ (Heap.get _ 253)from ?_) (zag.set (show zaq _ _ (Heap.get _ 24)from ?_) (zag.set (show zaq _ _ (Heap.get _ 0)from ?_) (zag.at)))
   all_goals (try simp only[go_sem,List.map_append,List.map_cons,List.map_nil,hm157])
   all_goals (((repeat' first|exact zaq.refl_d|refine zaq.els (by simp) ?_|exact VR.d _|exact VR.sl'' rfl (by simp)|exact VRL.nil|exact VRL.refl_d _ _|refine VRL.append ?_ ?_|refine VRL.cons ?_ ?_|refine VRL.agg ?_);done))
  rcases r161 with(q163|q195)
  ·dsimp only at h⊢
   try simp only[go_sem]
   refine zbn (fn:=zyI) rfl rfl ?_
   delta zyI
   try simp only[go_sem]
   obtain⟨r164,hr165,h⟩:=bs h
   replace hr165:=zao hr165
   refine zat hr165 ?_
   try simp only[go_sem]
   obtain⟨r187,hl188,h⟩:=bs h
   refine WBr.cut (n:=(211,[])) ((fun r=>match r with|(.inl r)=>(.normal,⟨(((Regs.none.set 0 (.ptr 24 0 0)).set 1 (.d (.int .i64 x1.2.2.1))).set 6 (.ptr 219 0 0)),(((((Heap.at 225).set 0 (some (.els 1 [.d (zae a0)] 0))).set 24 (some (.els 7 [V.ofCells [.d (.list a0.nodes.n (a0.nodes.l.map zam)),.d (.list a1.n (a1.l.map zap)),.d (.int .i64 q163.1),.d (.int .i64 a3),.d (.int .i64 a2),.d (.bool a4),.sl 202 0 q163.2.length]] 0))).set 202 (some (.els 6 (q163.2.map fun z=>V.d (zau z)) q163.2.length))).set 219 (some (.els 16 [.d (zam r164)] 0)))⟩)|(.inr r)=>(.ret,⟨((Regs.none.set 4 (.d (.int .i64 r))).set 5 (.d (.bool false))),((((Heap.at 225).set 0 (some (.els 1 [.d (zae a0)] 0))).set 24 (some (.els 7 [V.ofCells [.d (.list a0.nodes.n (a0.nodes.l.map zam)),.d (.list a1.n (a1.l.map zap)),.d (.int .i64 q163.1),.d (.int .i64 a3),.d (.int .i64 a2),.d (.bool a4),.sl 202 0 q163.2.length]] 0))).set 202 (some (.els 6 (q163.2.map fun z=>V.d (zau z)) q163.2.length)))⟩):((Unit)⊕(Int))→Ex×St) r187).1 ((fun r=>match r with|(.inl r)=>(.normal,⟨(((Regs.none.set 0 (.ptr 24 0 0)).set 1 (.d (.int .i64 x1.2.2.1))).set 6 (.ptr 219 0 0)),(((((Heap.at 225).set 0 (some (.els 1 [.d (zae a0)] 0))).set 24 (some (.els 7 [V.ofCells [.d (.list a0.nodes.n (a0.nodes.l.map zam)),.d (.list a1.n (a1.l.map zap)),.d (.int .i64 q163.1),.d (.int .i64 a3),.d (.int .i64 a2),.d (.bool a4),.sl 202 0 q163.2.length]] 0))).set 202 (some (.els 6 (q163.2.map fun z=>V.d (zau z)) q163.2.length))).set 219 (some (.els 16 [.d (zam r164)] 0)))⟩)|(.inr r)=>(.ret,⟨((Regs.none.set 4 (.d (.int .i64 r))).set 5 (.d (.bool false))),((((Heap.at 225).set 0 (some (.els 1 [.d (zae a0)] 0))).set 24 (some (.els 7 [V.ofCells [.d (.list a0.nodes.n (a0.nodes.l.map zam)),.d (.list a1.n (a1.l.map zap)),.d (.int .i64 q163.1),.d (.int .i64 a3),.d (.int .i64 a2),.d (.bool a4),.sl 202 0 q163.2.length]] 0))).set 202 (some (.els 6 (q163.2.map fun z=>V.d (zau z)) q163.2.length)))⟩):((Unit)⊕(Int))→Ex×St) r187).2 ?_ (by(repeat(first|refine Clo.block ?_|refine Clo.seq zbd rfl ?_));refine Clo.inl zbd (n':=(27,[])) rfl rfl rfl ?_ ?_ (show Fx.spans _ 203 8=true from by decide) (by decide) ?_;((repeat(first|exact zaI.no|refine zaI.set ?_ ?_|exact zaE.d|exact zaE.ptr (by decide)));(repeat(first|exact zaI.no|exact zaI.none|refine zaI.set ?_ ?_|refine zaI.args ?_|exact zaX.nil|refine zaX.cons ?_ ?_|exact zaE.d|exact zaE.undef|exact zaE.rp|exact zaE.ptr (by decide)|exact zaE.sl (by decide)|exact zaE.mb (by decide)|exact zaE.map (by decide)|exact zaE.yld (by decide)|exact zaE.it (by decide)|refine zaE.clo ?_ ?_|refine zaE.ofCells ?_|refine zaE.agg ?_|refine zaE.tuple ?_|refine zaE.bif ?_ ?_)));(repeat(first|refine Clo.block ?_|refine Clo.seq zbd rfl ?_));(exact Clo.lpost (by decide))) ?_
   ·replace h:=hl188
    refine zal (fun hc166=> ?_) (fun hc167=> ?_)
    ·rw[if_pos hc166]at h
     try simp only[go_sem]
     cases h
     refine⟨rfl,Up.of (N:=225) (N':=227) [] rfl rfl (by decide) ?_ ?_⟩
     ·refine zak.set ?_ (zak.set ?_ zak.none)
      all_goals (try simp only[go_sem,List.map_append,List.map_cons,List.map_nil])
      all_goals (exact VR.d _)
     refine zag.set (show zaq _ _ (Heap.get _ 202)from ?_) (zag.set (show zaq _ _ (Heap.get _ 24)from ?_) (zag.set (show zaq _ _ (Heap.get _ 0)from ?_) (zag.at)))
     all_goals (try simp only[go_sem,List.map_append,List.map_cons,List.map_nil])
     all_goals (((repeat' first|exact zaq.refl_d|refine zaq.els (by simp) ?_|exact VR.d _|exact VR.sl'' rfl (by simp)|exact VRL.nil|exact VRL.refl_d _ _|refine VRL.cons ?_ ?_|refine VRL.agg ?_);done))
    rw[if_neg (ff hc167)]at h
    try simp only[go_sem]
    refine zaa (v:= .ptr 24 0 0) (fun hb186=>by simp only[go_sem,hc131,hc167,hb186]) ?_
    try simp only[go_sem]
    refine zaa (v:= .ptr 24 0 0) (fun hb185=>by simp only[go_sem,hc131,hc167,hb185]) ?_
    try simp only[go_sem]
    refine zaa (v:= .ptr 24 0 5) (fun hb184=>by simp only[go_sem,hc131,hc167,hb184]) ?_
    try simp only[go_sem]
    refine zaa (v:= .d (.bool a4)) (fun hb183=>by simp only[go_sem,hc131,hc167,hb183]) ?_
    try simp only[go_sem]
    refine zaa (v:= .d (.bool (!a4))) (fun hb182=>by simp only[go_sem,hc131,hc167,hb182]) ?_
    try simp only[go_sem]
    refine zaa (v:= .d (.int .i64 x1.2.2.1)) (fun hb181=>by simp only[go_sem,hc131,hc167,hb181]) ?_
    try simp only[go_sem]
    refine zaa (v:= .ptr 24 0 0) (fun hb180=>by simp only[go_sem,hc131,hc167,hb180]) ?_
    try simp only[go_sem]
    refine zaa (v:= .ptr 24 0 0) (fun hb179=>by simp only[go_sem,hc131,hc167,hb179]) ?_
    try simp only[go_sem]
    refine zaa (v:= .ptr 24 0 0) (fun hb178=>by simp only[go_sem,hc131,hc167,hb178]) ?_
    try simp only[go_sem]
    refine zaG (fun hc168=> ?_) (fun hc169=> ?_)
    ·rw[if_pos hc168]at h
     try simp only[go_sem,hc168]
     obtain⟨r170,hr171,h⟩:=bs h
     replace hr171:=zao hr171
     refine zat hr171 ?_
     try simp only[go_sem]
     refine zal (fun hc172=> ?_) (fun hc173=> ?_)
     ·rw[if_pos hc172]at h
      try simp only[go_sem]
      cases h
      refine⟨rfl,Up.of (N:=225) (N':=251) [] rfl rfl (by decide) ?_ ?_⟩
      ·refine zak.set ?_ (zak.set ?_ zak.none)
       all_goals (try simp only[go_sem,List.map_append,List.map_cons,List.map_nil])
       all_goals (exact VR.d _)
      refine zag.set (show zaq _ _ (Heap.get _ 202)from ?_) (zag.set (show zaq _ _ (Heap.get _ 24)from ?_) (zag.set (show zaq _ _ (Heap.get _ 0)from ?_) (zag.at)))
      all_goals (try simp only[go_sem,List.map_append,List.map_cons,List.map_nil])
      all_goals (((repeat' first|exact zaq.refl_d|refine zaq.els (by simp) ?_|exact VR.d _|exact VR.sl'' rfl (by simp)|exact VRL.nil|exact VRL.refl_d _ _|refine VRL.cons ?_ ?_|refine VRL.agg ?_);done))
     rw[if_neg (ff hc173)]at h
     try simp only[go_sem]
     refine zal (fun hc174=> ?_) (fun hc175=> ?_)
     ·rw[if_pos hc174]at h
      try simp only[go_sem]
      cases h
      refine⟨rfl,Up.of (N:=225) (N':=257) [] rfl rfl (by decide) ?_ ?_⟩
      ·refine zak.set ?_ (zak.set ?_ zak.none)
       all_goals (try simp only[go_sem,List.map_append,List.map_cons,List.map_nil])
       all_goals (exact VR.d _)
      refine zag.set (show zaq _ _ (Heap.get _ 202)from ?_) (zag.set (show zaq _ _ (Heap.get _ 24)from ?_) (zag.set (show zaq _ _ (Heap.get _ 0)from ?_) (zag.at)))
      all_goals (try simp only[go_sem,List.map_append,List.map_cons,List.map_nil])
      all_goals (((repeat' first|exact zaq.refl_d|refine zaq.els (by simp) ?_|exact VR.d _|exact VR.sl'' rfl (by simp)|exact VRL.nil|exact VRL.refl_d _ _|refine VRL.cons ?_ ?_|refine VRL.agg ?_);done))
     rw[if_neg (ff hc175)]at h
     try simp only[go_sem]
     cases h
     refine⟨rfl,Up.of (N:=225) (N':=253) [] rfl rfl (by decide) ?_ ?_⟩
     ·refine zak.set ?_ (zak.set ?_ (zak.set ?_ zak.none))
      all_goals (try simp only[go_sem,List.map_append,List.map_cons,List.map_nil])
      all_goals (first|exact VR.d _|exact VR.ptr' rfl)
     refine zag.set (show zaq _ _ (Heap.get _ 219)from ?_) (zag.set (show zaq _ _ (Heap.get _ 202)from ?_) (zag.set (show zaq _ _ (Heap.get _ 24)from ?_) (zag.set (show zaq _ _ (Heap.get _ 0)from ?_) (zag.at))))
     all_goals (try simp only[go_sem,List.map_append,List.map_cons,List.map_nil])
     all_goals (((repeat' first|exact zaq.refl_d|refine zaq.els (by simp) ?_|exact VR.d _|exact VR.sl'' rfl (by simp)|exact VRL.nil|exact VRL.refl_d _ _|refine VRL.cons ?_ ?_|refine VRL.agg ?_);done))
    rw[if_neg (ff hc169)]at h
    try simp only[go_sem,hc169]
    refine zal (fun hc176=> ?_) (fun hc177=> ?_)
    ·rw[if_pos hc176]at h
     try simp only[go_sem]
     cases h
     refine⟨rfl,Up.of (N:=225) (N':=257) [] rfl rfl (by decide) ?_ ?_⟩
     ·refine zak.set ?_ (zak.set ?_ zak.none)
      all_goals (try simp only[go_sem,List.map_append,List.map_cons,List.map_nil])
      all_goals (exact VR.d _)
     refine zag.set (show zaq _ _ (Heap.get _ 202)from ?_) (zag.set (show zaq _ _ (Heap.get _ 24)from ?_) (zag.set (show zaq _ _ (Heap.get _ 0)from ?_) (zag.at)))
     all_goals (try simp only[go_sem,List.map_append,List.map_cons,List.map_nil])
     all_goals (((repeat' first|exact zaq.refl_d|refine zaq.els (by simp) ?_|exact VR.d _|exact VR.sl'' rfl (by simp)|exact VRL.nil|exact VRL.refl_d _ _|refine VRL.cons ?_ ?_|refine VRL.agg ?_);done))
    rw[if_neg (ff hc177)]at h
    try simp only[go_sem]
    cases h
    refine⟨rfl,Up.of (N:=225) (N':=253) [] rfl rfl (by decide) ?_ ?_⟩
    ·refine zak.set ?_ (zak.set ?_ (zak.set ?_ zak.none))
     all_goals (try simp only[go_sem,List.map_append,List.map_cons,List.map_nil])
     all_goals (first|exact VR.d _|exact VR.ptr' rfl)
    refine zag.set (show zaq _ _ (Heap.get _ 219)from ?_) (zag.set (show zaq _ _ (Heap.get _ 202)from ?_) (zag.set (show zaq _ _ (Heap.get _ 24)from ?_) (zag.set (show zaq _ _ (Heap.get _ 0)from ?_) (zag.at))))
    all_goals (try simp only[go_sem,List.map_append,List.map_cons,List.map_nil])
    all_goals (((repeat' first|exact zaq.refl_d|refine zaq.els (by simp) ?_|exact VR.d _|exact VR.sl'' rfl (by simp)|exact VRL.nil|exact VRL.refl_d _ _|refine VRL.cons ?_ ?_|refine VRL.agg ?_);done))
   rcases r187 with(q189|q194)
   ·dsimp only at h⊢
    try simp only[go_sem]
    obtain⟨r190,hr191,h⟩:=bs h
    replace hr191:=zao hr191
    refine zat hr191 ?_
    try simp only[go_sem]
    refine zaD (fun hc192=> ?_) (fun hc193=> ?_)
    ·rw[if_pos (show(!(r190.1==0))=true by(rw[hc192];rfl))]at h
     try simp only[go_sem]
     cases h
     refine⟨rfl,Up.of (N:=154) (N':=245) [(104,202)] rfl rfl (by decide) ?_ ?_⟩
     ·refine zak.set ?_ (zak.set ?_ (zak.set ?_ zak.none))
      all_goals (try simp only[go_sem,List.map_append,List.map_cons,List.map_nil])
      all_goals (first|exact VR.d _|exact VR.ptr' rfl)
     refine zag.set (show zaq _ _ (Heap.get _ 202)from ?_) (zag.set (show zaq _ _ (Heap.get _ 24)from ?_) (zag.set (show zaq _ _ (Heap.get _ 0)from ?_) (zag.at)))
     all_goals (try simp only[go_sem,List.map_append,List.map_cons,List.map_nil])
     all_goals (((repeat' first|exact zaq.refl_d|refine zaq.els (by simp) ?_|exact VR.d _|exact VR.sl'' rfl (by simp)|exact VRL.nil|exact VRL.refl_d _ _|refine VRL.cons ?_ ?_|refine VRL.agg ?_);done))
    rw[if_neg (ffn hc193)]at h
    try simp only[go_sem]
    cases h
    refine⟨rfl,Up.of (N:=154) (N':=246) [(104,202)] rfl rfl (by decide) ?_ ?_⟩
    ·refine zak.set ?_ (zak.set ?_ (zak.set ?_ zak.none))
     all_goals (try simp only[go_sem,List.map_append,List.map_cons,List.map_nil])
     all_goals (first|exact VR.d _|exact VR.ptr' rfl)
    refine zag.set (show zaq _ _ (Heap.get _ 202)from ?_) (zag.set (show zaq _ _ (Heap.get _ 24)from ?_) (zag.set (show zaq _ _ (Heap.get _ 0)from ?_) (zag.at)))
    all_goals (try simp only[go_sem,List.map_append,List.map_cons,List.map_nil])
    all_goals (((repeat' first|exact zaq.refl_d|refine zaq.els (by simp) ?_|exact VR.d _|exact VR.sl'' rfl (by simp)|exact VRL.nil|exact VRL.refl_d _ _|refine VRL.cons ?_ ?_|refine VRL.agg ?_);done))
   dsimp only at h⊢
   try simp only[go_sem]
   cases h
   refine⟨rfl,Up.of (N:=154) (N':=225) [(104,202)] rfl rfl (by decide) ?_ ?_⟩
   ·refine zak.set ?_ (zak.set ?_ (zak.set ?_ zak.none))
    all_goals (try simp only[go_sem,List.map_append,List.map_cons,List.map_nil])
    all_goals (first|exact VR.d _|exact VR.ptr' rfl)
   refine zag.set (show zaq _ _ (Heap.get _ 202)from ?_) (zag.set (show zaq _ _ (Heap.get _ 24)from ?_) (zag.set (show zaq _ _ (Heap.get _ 0)from ?_) (zag.at)))
   all_goals (try simp only[go_sem,List.map_append,List.map_cons,List.map_nil])
   all_goals (((repeat' first|exact zaq.refl_d|refine zaq.els (by simp) ?_|exact VR.d _|exact VR.sl'' rfl (by simp)|exact VRL.nil|exact VRL.refl_d _ _|refine VRL.cons ?_ ?_|refine VRL.agg ?_);done))
  dsimp only at h⊢
  try simp only[go_sem]
  cases h
  refine⟨rfl,by simp,Up.of (N:=154) (N':=203) [(104,153),(153,104)] rfl rfl (by decide) ?_ ?_⟩
  ·exact zak.none
  refine zag.set (show zaq _ _ (Heap.get _ 104)from ?_) (zag.set (show zaq _ _ (Heap.get _ 24)from ?_) (zag.set (show zaq _ _ (Heap.get _ 0)from ?_) (zag.at)))
  all_goals (try simp only[go_sem,List.map_append,List.map_cons,List.map_nil])
  all_goals (((repeat' first|exact zaq.refl_d|refine zaq.els (by simp) ?_|exact VR.d _|exact VR.sl'' rfl (by simp)|exact VRL.nil|exact VRL.refl_d _ _|refine VRL.cons ?_ ?_|refine VRL.agg ?_);done))
 rw[if_neg (ffn hc132)]at h
 try simp only[go_sem]
 cases h
 refine⟨rfl,by simp,Up.of (N:=154) (N':=156) [(104,153),(153,104)] rfl rfl (by decide) ?_ ?_⟩
 ·exact zak.none
 refine zag.set (show zaq _ _ (Heap.get _ 104)from ?_) (zag.set (show zaq _ _ (Heap.get _ 24)from ?_) (zag.set (show zaq _ _ (Heap.get _ 0)from ?_) (zag.at)))
 all_goals (try simp only[go_sem,List.map_append,List.map_cons,List.map_nil])
 all_goals (((repeat' first|exact zaq.refl_d|refine zaq.els (by simp) ?_|exact VR.d _|exact VR.sl'' rfl (by simp)|exact VRL.nil|exact VRL.refl_d _ _|refine VRL.cons ?_ ?_|refine VRL.agg ?_);done))
def zhY (a0:Forest) (a1:Sl (Assign)) (a2:Int) (a3:Int) (a4:Bool) (x2:Int×List (Step)×Int×Bool):St:=⟨(((Regs.none.set 0 (.ptr 24 0 0)).set 3 (.d (.int .i64 x2.2.2.1))).set 4 (.d (.bool x2.2.2.2))),((((Heap.at 133).set 0 (some (.els 1 [.d (zae a0)] 0))).set 24 (some (.els 7 [V.ofCells [.d (.list a0.nodes.n (a0.nodes.l.map zam)),.d (.list a1.n (a1.l.map zap)),.d (.int .i64 x2.1),.d (.int .i64 a3),.d (.int .i64 a2),.d (.bool a4),.sl 104 0 x2.2.1.length]] 0))).set 104 (some (.els 6 (x2.2.1.map fun z=>V.d (zau z)) x2.2.1.length)))⟩
def zmr (a0:Forest) (a1:Sl (Assign)) (a2:Int) (a3:Int) (a4:Bool):((Int×List (Step))⊕(Int×List (Step)))→Ex×St:=fun r=>match r with
 |(.inl r)=>(.exit 0,⟨Regs.none,((((Heap.at 133).set 0 (some (.els 1 [.d (zae a0)] 0))).set 24 (some (.els 7 [V.ofCells [.d (.list a0.nodes.n (a0.nodes.l.map zam)),.d (.list a1.n (a1.l.map zap)),.d (.int .i64 r.1),.d (.int .i64 a3),.d (.int .i64 a2),.d (.bool a4),.sl 132 0 r.2.length]] 0))).set 132 (some (.els 6 (r.2.map fun z=>V.d (zau z)) r.2.length)))⟩)
 |(.inr r)=>(.ret,⟨Regs.none,((((Heap.at 133).set 0 (some (.els 1 [.d (zae a0)] 0))).set 24 (some (.els 7 [V.ofCells [.d (.list a0.nodes.n (a0.nodes.l.map zam)),.d (.list a1.n (a1.l.map zap)),.d (.int .i64 r.1),.d (.int .i64 a3),.d (.int .i64 a2),.d (.bool a4),.sl 132 0 r.2.length]] 0))).set 132 (some (.els 6 (r.2.map fun z=>V.d (zau z)) r.2.length)))⟩)
noncomputable def zfG (a0:Forest) (a1:Sl (Assign)) (a2:Int) (a3:Int) (a4:Bool) (x2:Int×List (Step)×Int×Bool):Option ((Int×List (Step)×Int×Bool)⊕((Int×List (Step))⊕(Int×List (Step)))):=
 if(!(x2.2.2.1==0))=true then
  (dec zam (pc prog 84 [zae a0,.int .i64 x2.2.2.1])).bind fun r209=>
  (dec (D.int .i64) (pc prog 131 [zae a0,.int .i64 a3,.int .i64 x2.2.2.1])).bind fun r211=>
  (dec (D.int .i64) (pc prog 96 [zae a0,.int .i64 x2.1])).bind fun r213=>
  (dec D.bool (pc prog 134 [zae a0,.int .i64 r213,.int .i64 x2.2.2.1])).bind fun r215=>
  (if r215=true then
   (dec zam (pc prog 92 [zae a0,.int .i64 x2.2.2.1])).bind fun r219=>
   (dec zam (pc prog 84 [zae a0,.int .i64 x2.2.2.1])).bind fun r221=>
   if(x2.2.1.length+1)*40≤AI.roomBytes then
    some (.inl (x2.1,(x2.2.1++[(⟨x2.2.2.1,(r221.kind==12),0,r211,(bif (r219.kind==12)then(r219.mode==2)else false),(bif (bif x2.2.2.2 then(r209.kind==12)else false)then(r209.mode==2)else false)⟩:Step)])))
   else none
  else
   if(x2.2.2.1==r211)=true then
    some (.inr ())
   else
    (dec zam (pc prog 92 [zae a0,.int .i64 x2.2.2.1])).bind fun r229=>
    (dec zam (pc prog 84 [zae a0,.int .i64 x2.2.2.1])).bind fun r231=>
    if(x2.2.1.length+1)*40≤AI.roomBytes then
     some (.inl (x2.2.2.1,(x2.2.1++[(⟨x2.2.2.1,(r231.kind==12),x2.2.2.1,r211,(bif (r229.kind==12)then(r229.mode==2)else false),(bif (bif x2.2.2.2 then(r209.kind==12)else false)then(r209.mode==2)else false)⟩:Step)])))
    else none:Option ((Int×List (Step))⊕(Unit))).bind fun r237=>
  match r237 with
  |(.inl q239)=>
   (dec zam (pc prog 92 [zae a0,.int .i64 x2.2.2.1])).bind fun r240=>
   (if(r240.kind==9)=true then
    some (.inr 0)
   else
    if(bif (r240.kind==12)then(!a4)else false)=true then
     (dec (D.int .i64) (pc prog 96 [zae a0,.int .i64 a2])).bind fun r246=>
     if(x2.2.2.1==r246)=true then
      some (.inr 0)
     else
      if(r240.kind==12)=true then
       some (.inr r240.host)
      else
       some (.inl ())
    else
     if(r240.kind==12)=true then
      some (.inr r240.host)
     else
      some (.inl ()):Option ((Unit)⊕(Int))).bind fun r263=>
   match r263 with
   |(.inl q265)=>
    (dec (eT2 (D.int .i64) (D.int .i64)) (pc prog 44 [zae a0,.list a1.n (a1.l.map zap),.int .i64 x2.2.2.1,.bool false])).bind fun r266=>
    if(!(r266.1==0))=true then
     some (.inl (q239.1,q239.2,r266.1,true))
    else
     some (.inl (q239.1,q239.2,r240.parent,false))
   |(.inr q270)=>
    some (.inl (q239.1,q239.2,q270,false))
  |(.inr q271)=>
   some (.inr (.inr (x2.1,x2.2.1)))
 else
  some (.inr (.inl (x2.1,x2.2.1)))
theorem zCm (a0:Forest) (a1:Sl (Assign)) (a2:Int) (a3:Int) (a4:Bool) (x2:Int×List (Step)×Int×Bool) (o:(Int×List (Step)×Int×Bool)⊕((Int×List (Step))⊕(Int×List (Step)))) (h:zfG a0 a1 a2 a3 a4 x2=some o):Wp prog zjX (zhY a0 a1 a2 a3 a4 x2) (zcg (27,[]) (zhY a0 a1 a2 a3 a4) (zmr a0 a1 a2 a3 a4) o):=by
 unfold zfG at h
 delta zjX zhY
 try simp only[go_sem]
 refine zaD (fun hc207=> ?_) (fun hc208=> ?_)
 ·rw[if_pos (show(!(x2.2.2.1==0))=true by(rw[hc207];rfl))]at h
  try simp only[go_sem]
  obtain⟨r209,hr210,h⟩:=bs h
  replace hr210:=zao hr210
  refine zat hr210 ?_
  try simp only[go_sem]
  refine zaa (v:= .ptr 141 0 0) (fun hb277=>by simp only[go_sem,hc207,hb277]) ?_
  try simp only[go_sem]
  refine zaa (v:= .d (.int .u8 r209.kind)) (fun hb276=>by simp only[go_sem,hc207,hb276]) ?_
  try simp only[go_sem]
  refine zaa (v:= .d (.bool (r209.kind==12))) (fun hb275=>by simp only[go_sem,hc207,hb275]) ?_
  try simp only[go_sem]
  refine zaa (v:= .ptr 141 0 13) (fun hb274=>by simp only[go_sem,hc207,hb274]) ?_
  try simp only[go_sem]
  refine zaa (v:= .d (.int .u8 r209.mode)) (fun hb273=>by simp only[go_sem,hc207,hb273]) ?_
  try simp only[go_sem]
  refine zaa (v:= .d (.bool (r209.mode==2))) (fun hb272=>by simp only[go_sem,hc207,hb272]) ?_
  try simp only[go_sem]
  obtain⟨r211,hr212,h⟩:=bs h
  replace hr212:=zao hr212
  refine zat hr212 ?_
  try simp only[go_sem]
  obtain⟨r213,hr214,h⟩:=bs h
  replace hr214:=zao hr214
  refine zat hr214 ?_
  try simp only[go_sem]
  obtain⟨r215,hr216,h⟩:=bs h
  replace hr216:=zao hr216
  refine zat hr216 ?_
  try simp only[go_sem]
  obtain⟨r237,hl238,h⟩:=bs h
  refine WBr.cut (n:=(27,[])) ((fun r=>match r with|(.inl r)=>(.normal,⟨((Regs.none.set 0 (.ptr 24 0 0)).set 3 (.d (.int .i64 x2.2.2.1))),((((Heap.at 182).set 0 (some (.els 1 [.d (zae a0)] 0))).set 24 (some (.els 7 [V.ofCells [.d (.list a0.nodes.n (a0.nodes.l.map zam)),.d (.list a1.n (a1.l.map zap)),.d (.int .i64 r.1),.d (.int .i64 a3),.d (.int .i64 a2),.d (.bool a4),.sl 181 0 r.2.length]] 0))).set 181 (some (.els 6 (r.2.map fun z=>V.d (zau z)) r.2.length)))⟩)|(.inr r)=>(.ret,⟨Regs.none,((((Heap.at 182).set 0 (some (.els 1 [.d (zae a0)] 0))).set 24 (some (.els 7 [V.ofCells [.d (.list a0.nodes.n (a0.nodes.l.map zam)),.d (.list a1.n (a1.l.map zap)),.d (.int .i64 x2.1),.d (.int .i64 a3),.d (.int .i64 a2),.d (.bool a4),.sl 104 0 x2.2.1.length]] 0))).set 104 (some (.els 6 (x2.2.1.map fun z=>V.d (zau z)) x2.2.1.length)))⟩):((Int×List (Step))⊕(Unit))→Ex×St) r237).1 ((fun r=>match r with|(.inl r)=>(.normal,⟨((Regs.none.set 0 (.ptr 24 0 0)).set 3 (.d (.int .i64 x2.2.2.1))),((((Heap.at 182).set 0 (some (.els 1 [.d (zae a0)] 0))).set 24 (some (.els 7 [V.ofCells [.d (.list a0.nodes.n (a0.nodes.l.map zam)),.d (.list a1.n (a1.l.map zap)),.d (.int .i64 r.1),.d (.int .i64 a3),.d (.int .i64 a2),.d (.bool a4),.sl 181 0 r.2.length]] 0))).set 181 (some (.els 6 (r.2.map fun z=>V.d (zau z)) r.2.length)))⟩)|(.inr r)=>(.ret,⟨Regs.none,((((Heap.at 182).set 0 (some (.els 1 [.d (zae a0)] 0))).set 24 (some (.els 7 [V.ofCells [.d (.list a0.nodes.n (a0.nodes.l.map zam)),.d (.list a1.n (a1.l.map zap)),.d (.int .i64 x2.1),.d (.int .i64 a3),.d (.int .i64 a2),.d (.bool a4),.sl 104 0 x2.2.1.length]] 0))).set 104 (some (.els 6 (x2.2.1.map fun z=>V.d (zau z)) x2.2.1.length)))⟩):((Int×List (Step))⊕(Unit))→Ex×St) r237).2 ?_ (by(repeat(first|refine Clo.block ?_|refine Clo.seq zbd rfl ?_));(exact Clo.lpost (by decide))) ?_
  ·replace h:=hl238
   refine zal (fun hc217=> ?_) (fun hc218=> ?_)
   ·rw[if_pos hc217]at h
    try simp only[go_sem]
    refine zbn (fn:=zox) rfl rfl ?_
    delta zox
    try simp only[go_sem]
    obtain⟨r219,hr220,h⟩:=bs h
    replace hr220:=zao hr220
    refine zat hr220 ?_
    try simp only[go_sem]
    obtain⟨r221,hr222,h⟩:=bs h
    replace hr222:=zao hr222
    refine zat hr222 ?_
    try simp only[go_sem]
    refine zaa (v:= .ptr 193 0 13) (fun hb226=>by simp only[go_sem,hc207,hc217,hb226]) ?_
    try simp only[go_sem]
    refine zaa (v:= .d (.int .u8 r219.mode)) (fun hb225=>by simp only[go_sem,hc207,hc217,hb225]) ?_
    try simp only[go_sem]
    refine zaa (v:= .d (.bool (r219.mode==2))) (fun hb224=>by simp only[go_sem,hc207,hc217,hb224]) ?_
    try simp only[go_sem]
    obtain⟨hm223,h⟩:=zck h
    refine zdz (l:=x2.2.1.map fun z=>V.d (zau z)) (fz:=x2.2.1.length) (new:=[V.d (.agg [.int .i64 x2.2.2.1,.bool (r221.kind==12),.int .i64 (0),.int .i64 r211,.bool (bif (r219.kind==12)then(r219.mode==2)else false),.bool (bif (bif x2.2.2.2 then(r209.kind==12)else false)then(r209.mode==2)else false)])]) (by simp only[go_sem,List.map_append,List.map_cons,List.map_nil]) (by simp only[go_sem,zcC,zcQ,zcD,zbH,zjw]) (by simp) (by rfl) (by simp) (by simpa using hm223) ?_
    try simp only[go_sem,hm223]
    cases h
    refine⟨rfl,Up.of (N:=182) (N':=226) [(181,222)] rfl rfl (by decide) ?_ ?_⟩
    ·refine zak.set ?_ (zak.set ?_ zak.none)
     all_goals (try simp only[go_sem,List.map_append,List.map_cons,List.map_nil,hm223])
     all_goals (first|exact VR.d _|exact VR.ptr' rfl)
    refine zag.set (show zaq _ _ (Heap.get _ 222)from ?_) (zag.set (show zaq _ _ (Heap.get _ 24)from ?_) (zag.set (show zaq _ _ (Heap.get _ 0)from ?_) (zag.at)))
    all_goals (try simp only[go_sem,List.map_append,List.map_cons,List.map_nil,hm223])
    all_goals (((repeat' first|exact zaq.refl_d|refine zaq.els (by simp) ?_|exact VR.d _|exact VR.sl'' rfl (by simp)|exact VRL.nil|exact VRL.refl_d _ _|refine VRL.append ?_ ?_|refine VRL.cons ?_ ?_|refine VRL.agg ?_);done))
   rw[if_neg (ff hc218)]at h
   try simp only[go_sem]
   refine zal (fun hc227=> ?_) (fun hc228=> ?_)
   ·rw[if_pos hc227]at h
    try simp only[go_sem]
    cases h
    refine⟨rfl,Up.of (N:=182) (N':=186) [] rfl rfl (by decide) ?_ ?_⟩
    ·exact zak.none
    refine zag.set (show zaq _ _ (Heap.get _ 104)from ?_) (zag.set (show zaq _ _ (Heap.get _ 24)from ?_) (zag.set (show zaq _ _ (Heap.get _ 0)from ?_) (zag.at)))
    all_goals (try simp only[go_sem,List.map_append,List.map_cons,List.map_nil])
    all_goals (((repeat' first|exact zaq.refl_d|refine zaq.els (by simp) ?_|exact VR.d _|exact VR.sl'' rfl (by simp)|exact VRL.nil|exact VRL.refl_d _ _|refine VRL.cons ?_ ?_|refine VRL.agg ?_);done))
   rw[if_neg (ff hc228)]at h
   try simp only[go_sem]
   refine zbn (fn:=zox) rfl rfl ?_
   delta zox
   try simp only[go_sem]
   obtain⟨r229,hr230,h⟩:=bs h
   replace hr230:=zao hr230
   refine zat hr230 ?_
   try simp only[go_sem]
   obtain⟨r231,hr232,h⟩:=bs h
   replace hr232:=zao hr232
   refine zat hr232 ?_
   try simp only[go_sem]
   refine zaa (v:= .ptr 203 0 13) (fun hb236=>by simp only[go_sem,hc207,hc218,hc228,hb236]) ?_
   try simp only[go_sem]
   refine zaa (v:= .d (.int .u8 r229.mode)) (fun hb235=>by simp only[go_sem,hc207,hc218,hc228,hb235]) ?_
   try simp only[go_sem]
   refine zaa (v:= .d (.bool (r229.mode==2))) (fun hb234=>by simp only[go_sem,hc207,hc218,hc228,hb234]) ?_
   try simp only[go_sem]
   obtain⟨hm233,h⟩:=zck h
   refine zdz (l:=x2.2.1.map fun z=>V.d (zau z)) (fz:=x2.2.1.length) (new:=[V.d (.agg [.int .i64 x2.2.2.1,.bool (r231.kind==12),.int .i64 x2.2.2.1,.int .i64 r211,.bool (bif (r229.kind==12)then(r229.mode==2)else false),.bool (bif (bif x2.2.2.2 then(r209.kind==12)else false)then(r209.mode==2)else false)])]) (by simp only[go_sem,List.map_append,List.map_cons,List.map_nil]) (by simp only[go_sem,zcC,zcQ,zcD,zbH,zjw]) (by simp) (by rfl) (by simp) (by simpa using hm233) ?_
   try simp only[go_sem,hm233]
   cases h
   refine⟨rfl,Up.of (N:=182) (N':=236) [(181,232)] rfl rfl (by decide) ?_ ?_⟩
   ·refine zak.set ?_ (zak.set ?_ zak.none)
    all_goals (try simp only[go_sem,List.map_append,List.map_cons,List.map_nil,hm233])
    all_goals (first|exact VR.d _|exact VR.ptr' rfl)
   refine zag.set (show zaq _ _ (Heap.get _ 232)from ?_) (zag.set (show zaq _ _ (Heap.get _ 24)from ?_) (zag.set (show zaq _ _ (Heap.get _ 0)from ?_) (zag.at)))
   all_goals (try simp only[go_sem,List.map_append,List.map_cons,List.map_nil,hm233])
   all_goals (((repeat' first|exact zaq.refl_d|refine zaq.els (by simp) ?_|exact VR.d _|exact VR.sl'' rfl (by simp)|exact VRL.nil|exact VRL.refl_d _ _|refine VRL.append ?_ ?_|refine VRL.cons ?_ ?_|refine VRL.agg ?_);done))
  rcases r237 with(q239|q271)
  ·dsimp only at h⊢
   try simp only[go_sem]
   refine zbn (fn:=zyI) rfl rfl ?_
   delta zyI
   try simp only[go_sem]
   obtain⟨r240,hr241,h⟩:=bs h
   replace hr241:=zao hr241
   refine zat hr241 ?_
   try simp only[go_sem]
   obtain⟨r263,hl264,h⟩:=bs h
   refine WBr.cut (n:=(190,[])) ((fun r=>match r with|(.inl r)=>(.normal,⟨(((Regs.none.set 0 (.ptr 24 0 0)).set 1 (.d (.int .i64 x2.2.2.1))).set 6 (.ptr 198 0 0)),(((((Heap.at 204).set 0 (some (.els 1 [.d (zae a0)] 0))).set 24 (some (.els 7 [V.ofCells [.d (.list a0.nodes.n (a0.nodes.l.map zam)),.d (.list a1.n (a1.l.map zap)),.d (.int .i64 q239.1),.d (.int .i64 a3),.d (.int .i64 a2),.d (.bool a4),.sl 181 0 q239.2.length]] 0))).set 181 (some (.els 6 (q239.2.map fun z=>V.d (zau z)) q239.2.length))).set 198 (some (.els 16 [.d (zam r240)] 0)))⟩)|(.inr r)=>(.ret,⟨((Regs.none.set 4 (.d (.int .i64 r))).set 5 (.d (.bool false))),((((Heap.at 204).set 0 (some (.els 1 [.d (zae a0)] 0))).set 24 (some (.els 7 [V.ofCells [.d (.list a0.nodes.n (a0.nodes.l.map zam)),.d (.list a1.n (a1.l.map zap)),.d (.int .i64 q239.1),.d (.int .i64 a3),.d (.int .i64 a2),.d (.bool a4),.sl 181 0 q239.2.length]] 0))).set 181 (some (.els 6 (q239.2.map fun z=>V.d (zau z)) q239.2.length)))⟩):((Unit)⊕(Int))→Ex×St) r263).1 ((fun r=>match r with|(.inl r)=>(.normal,⟨(((Regs.none.set 0 (.ptr 24 0 0)).set 1 (.d (.int .i64 x2.2.2.1))).set 6 (.ptr 198 0 0)),(((((Heap.at 204).set 0 (some (.els 1 [.d (zae a0)] 0))).set 24 (some (.els 7 [V.ofCells [.d (.list a0.nodes.n (a0.nodes.l.map zam)),.d (.list a1.n (a1.l.map zap)),.d (.int .i64 q239.1),.d (.int .i64 a3),.d (.int .i64 a2),.d (.bool a4),.sl 181 0 q239.2.length]] 0))).set 181 (some (.els 6 (q239.2.map fun z=>V.d (zau z)) q239.2.length))).set 198 (some (.els 16 [.d (zam r240)] 0)))⟩)|(.inr r)=>(.ret,⟨((Regs.none.set 4 (.d (.int .i64 r))).set 5 (.d (.bool false))),((((Heap.at 204).set 0 (some (.els 1 [.d (zae a0)] 0))).set 24 (some (.els 7 [V.ofCells [.d (.list a0.nodes.n (a0.nodes.l.map zam)),.d (.list a1.n (a1.l.map zap)),.d (.int .i64 q239.1),.d (.int .i64 a3),.d (.int .i64 a2),.d (.bool a4),.sl 181 0 q239.2.length]] 0))).set 181 (some (.els 6 (q239.2.map fun z=>V.d (zau z)) q239.2.length)))⟩):((Unit)⊕(Int))→Ex×St) r263).2 ?_ (by(repeat(first|refine Clo.block ?_|refine Clo.seq zbd rfl ?_));refine Clo.inl zbd (n':=(27,[])) rfl rfl rfl ?_ ?_ (show Fx.spans _ 182 8=true from by decide) (by decide) ?_;((repeat(first|exact zaI.no|refine zaI.set ?_ ?_|exact zaE.d|exact zaE.ptr (by decide)));(repeat(first|exact zaI.no|exact zaI.none|refine zaI.set ?_ ?_|refine zaI.args ?_|exact zaX.nil|refine zaX.cons ?_ ?_|exact zaE.d|exact zaE.undef|exact zaE.rp|exact zaE.ptr (by decide)|exact zaE.sl (by decide)|exact zaE.mb (by decide)|exact zaE.map (by decide)|exact zaE.yld (by decide)|exact zaE.it (by decide)|refine zaE.clo ?_ ?_|refine zaE.ofCells ?_|refine zaE.agg ?_|refine zaE.tuple ?_|refine zaE.bif ?_ ?_)));(repeat(first|refine Clo.block ?_|refine Clo.seq zbd rfl ?_));(exact Clo.lpost (by decide))) ?_
   ·replace h:=hl264
    refine zal (fun hc242=> ?_) (fun hc243=> ?_)
    ·rw[if_pos hc242]at h
     try simp only[go_sem]
     cases h
     refine⟨rfl,Up.of (N:=204) (N':=206) [] rfl rfl (by decide) ?_ ?_⟩
     ·refine zak.set ?_ (zak.set ?_ zak.none)
      all_goals (try simp only[go_sem,List.map_append,List.map_cons,List.map_nil])
      all_goals (exact VR.d _)
     refine zag.set (show zaq _ _ (Heap.get _ 181)from ?_) (zag.set (show zaq _ _ (Heap.get _ 24)from ?_) (zag.set (show zaq _ _ (Heap.get _ 0)from ?_) (zag.at)))
     all_goals (try simp only[go_sem,List.map_append,List.map_cons,List.map_nil])
     all_goals (((repeat' first|exact zaq.refl_d|refine zaq.els (by simp) ?_|exact VR.d _|exact VR.sl'' rfl (by simp)|exact VRL.nil|exact VRL.refl_d _ _|refine VRL.cons ?_ ?_|refine VRL.agg ?_);done))
    rw[if_neg (ff hc243)]at h
    try simp only[go_sem]
    refine zaa (v:= .ptr 24 0 0) (fun hb262=>by simp only[go_sem,hc207,hc243,hb262]) ?_
    try simp only[go_sem]
    refine zaa (v:= .ptr 24 0 0) (fun hb261=>by simp only[go_sem,hc207,hc243,hb261]) ?_
    try simp only[go_sem]
    refine zaa (v:= .ptr 24 0 5) (fun hb260=>by simp only[go_sem,hc207,hc243,hb260]) ?_
    try simp only[go_sem]
    refine zaa (v:= .d (.bool a4)) (fun hb259=>by simp only[go_sem,hc207,hc243,hb259]) ?_
    try simp only[go_sem]
    refine zaa (v:= .d (.bool (!a4))) (fun hb258=>by simp only[go_sem,hc207,hc243,hb258]) ?_
    try simp only[go_sem]
    refine zaa (v:= .d (.int .i64 x2.2.2.1)) (fun hb257=>by simp only[go_sem,hc207,hc243,hb257]) ?_
    try simp only[go_sem]
    refine zaa (v:= .ptr 24 0 0) (fun hb256=>by simp only[go_sem,hc207,hc243,hb256]) ?_
    try simp only[go_sem]
    refine zaa (v:= .ptr 24 0 0) (fun hb255=>by simp only[go_sem,hc207,hc243,hb255]) ?_
    try simp only[go_sem]
    refine zaa (v:= .ptr 24 0 0) (fun hb254=>by simp only[go_sem,hc207,hc243,hb254]) ?_
    try simp only[go_sem]
    refine zaG (fun hc244=> ?_) (fun hc245=> ?_)
    ·rw[if_pos hc244]at h
     try simp only[go_sem,hc244]
     obtain⟨r246,hr247,h⟩:=bs h
     replace hr247:=zao hr247
     refine zat hr247 ?_
     try simp only[go_sem]
     refine zal (fun hc248=> ?_) (fun hc249=> ?_)
     ·rw[if_pos hc248]at h
      try simp only[go_sem]
      cases h
      refine⟨rfl,Up.of (N:=204) (N':=230) [] rfl rfl (by decide) ?_ ?_⟩
      ·refine zak.set ?_ (zak.set ?_ zak.none)
       all_goals (try simp only[go_sem,List.map_append,List.map_cons,List.map_nil])
       all_goals (exact VR.d _)
      refine zag.set (show zaq _ _ (Heap.get _ 181)from ?_) (zag.set (show zaq _ _ (Heap.get _ 24)from ?_) (zag.set (show zaq _ _ (Heap.get _ 0)from ?_) (zag.at)))
      all_goals (try simp only[go_sem,List.map_append,List.map_cons,List.map_nil])
      all_goals (((repeat' first|exact zaq.refl_d|refine zaq.els (by simp) ?_|exact VR.d _|exact VR.sl'' rfl (by simp)|exact VRL.nil|exact VRL.refl_d _ _|refine VRL.cons ?_ ?_|refine VRL.agg ?_);done))
     rw[if_neg (ff hc249)]at h
     try simp only[go_sem]
     refine zal (fun hc250=> ?_) (fun hc251=> ?_)
     ·rw[if_pos hc250]at h
      try simp only[go_sem]
      cases h
      refine⟨rfl,Up.of (N:=204) (N':=236) [] rfl rfl (by decide) ?_ ?_⟩
      ·refine zak.set ?_ (zak.set ?_ zak.none)
       all_goals (try simp only[go_sem,List.map_append,List.map_cons,List.map_nil])
       all_goals (exact VR.d _)
      refine zag.set (show zaq _ _ (Heap.get _ 181)from ?_) (zag.set (show zaq _ _ (Heap.get _ 24)from ?_) (zag.set (show zaq _ _ (Heap.get _ 0)from ?_) (zag.at)))
      all_goals (try simp only[go_sem,List.map_append,List.map_cons,List.map_nil])
      all_goals (((repeat' first|exact zaq.refl_d|refine zaq.els (by simp) ?_|exact VR.d _|exact VR.sl'' rfl (by simp)|exact VRL.nil|exact VRL.refl_d _ _|refine VRL.cons ?_ ?_|refine VRL.agg ?_);done))
     rw[if_neg (ff hc251)]at h
     try simp only[go_sem]
     cases h
     refine⟨rfl,Up.of (N:=204) (N':=232) [] rfl rfl (by decide) ?_ ?_⟩
     ·refine zak.set ?_ (zak.set ?_ (zak.set ?_ zak.none))
      all_goals (try simp only[go_sem,List.map_append,List.map_cons,List.map_nil])
      all_goals (first|exact VR.d _|exact VR.ptr' rfl)
     refine zag.set (show zaq _ _ (Heap.get _ 198)from ?_) (zag.set (show zaq _ _ (Heap.get _ 181)from ?_) (zag.set (show zaq _ _ (Heap.get _ 24)from ?_) (zag.set (show zaq _ _ (Heap.get _ 0)from ?_) (zag.at))))
     all_goals (try simp only[go_sem,List.map_append,List.map_cons,List.map_nil])
     all_goals (((repeat' first|exact zaq.refl_d|refine zaq.els (by simp) ?_|exact VR.d _|exact VR.sl'' rfl (by simp)|exact VRL.nil|exact VRL.refl_d _ _|refine VRL.cons ?_ ?_|refine VRL.agg ?_);done))
    rw[if_neg (ff hc245)]at h
    try simp only[go_sem,hc245]
    refine zal (fun hc252=> ?_) (fun hc253=> ?_)
    ·rw[if_pos hc252]at h
     try simp only[go_sem]
     cases h
     refine⟨rfl,Up.of (N:=204) (N':=236) [] rfl rfl (by decide) ?_ ?_⟩
     ·refine zak.set ?_ (zak.set ?_ zak.none)
      all_goals (try simp only[go_sem,List.map_append,List.map_cons,List.map_nil])
      all_goals (exact VR.d _)
     refine zag.set (show zaq _ _ (Heap.get _ 181)from ?_) (zag.set (show zaq _ _ (Heap.get _ 24)from ?_) (zag.set (show zaq _ _ (Heap.get _ 0)from ?_) (zag.at)))
     all_goals (try simp only[go_sem,List.map_append,List.map_cons,List.map_nil])
     all_goals (((repeat' first|exact zaq.refl_d|refine zaq.els (by simp) ?_|exact VR.d _|exact VR.sl'' rfl (by simp)|exact VRL.nil|exact VRL.refl_d _ _|refine VRL.cons ?_ ?_|refine VRL.agg ?_);done))
    rw[if_neg (ff hc253)]at h
    try simp only[go_sem]
    cases h
    refine⟨rfl,Up.of (N:=204) (N':=232) [] rfl rfl (by decide) ?_ ?_⟩
    ·refine zak.set ?_ (zak.set ?_ (zak.set ?_ zak.none))
     all_goals (try simp only[go_sem,List.map_append,List.map_cons,List.map_nil])
     all_goals (first|exact VR.d _|exact VR.ptr' rfl)
    refine zag.set (show zaq _ _ (Heap.get _ 198)from ?_) (zag.set (show zaq _ _ (Heap.get _ 181)from ?_) (zag.set (show zaq _ _ (Heap.get _ 24)from ?_) (zag.set (show zaq _ _ (Heap.get _ 0)from ?_) (zag.at))))
    all_goals (try simp only[go_sem,List.map_append,List.map_cons,List.map_nil])
    all_goals (((repeat' first|exact zaq.refl_d|refine zaq.els (by simp) ?_|exact VR.d _|exact VR.sl'' rfl (by simp)|exact VRL.nil|exact VRL.refl_d _ _|refine VRL.cons ?_ ?_|refine VRL.agg ?_);done))
   rcases r263 with(q265|q270)
   ·dsimp only at h⊢
    try simp only[go_sem]
    obtain⟨r266,hr267,h⟩:=bs h
    replace hr267:=zao hr267
    refine zat hr267 ?_
    try simp only[go_sem]
    refine zaD (fun hc268=> ?_) (fun hc269=> ?_)
    ·rw[if_pos (show(!(r266.1==0))=true by(rw[hc268];rfl))]at h
     try simp only[go_sem]
     cases h
     refine⟨rfl,Up.of (N:=133) (N':=224) [(104,181)] rfl rfl (by decide) ?_ ?_⟩
     ·refine zak.set ?_ (zak.set ?_ (zak.set ?_ zak.none))
      all_goals (try simp only[go_sem,List.map_append,List.map_cons,List.map_nil])
      all_goals (first|exact VR.d _|exact VR.ptr' rfl)
     refine zag.set (show zaq _ _ (Heap.get _ 181)from ?_) (zag.set (show zaq _ _ (Heap.get _ 24)from ?_) (zag.set (show zaq _ _ (Heap.get _ 0)from ?_) (zag.at)))
     all_goals (try simp only[go_sem,List.map_append,List.map_cons,List.map_nil])
     all_goals (((repeat' first|exact zaq.refl_d|refine zaq.els (by simp) ?_|exact VR.d _|exact VR.sl'' rfl (by simp)|exact VRL.nil|exact VRL.refl_d _ _|refine VRL.cons ?_ ?_|refine VRL.agg ?_);done))
    rw[if_neg (ffn hc269)]at h
    try simp only[go_sem]
    cases h
    refine⟨rfl,Up.of (N:=133) (N':=225) [(104,181)] rfl rfl (by decide) ?_ ?_⟩
    ·refine zak.set ?_ (zak.set ?_ (zak.set ?_ zak.none))
     all_goals (try simp only[go_sem,List.map_append,List.map_cons,List.map_nil])
     all_goals (first|exact VR.d _|exact VR.ptr' rfl)
    refine zag.set (show zaq _ _ (Heap.get _ 181)from ?_) (zag.set (show zaq _ _ (Heap.get _ 24)from ?_) (zag.set (show zaq _ _ (Heap.get _ 0)from ?_) (zag.at)))
    all_goals (try simp only[go_sem,List.map_append,List.map_cons,List.map_nil])
    all_goals (((repeat' first|exact zaq.refl_d|refine zaq.els (by simp) ?_|exact VR.d _|exact VR.sl'' rfl (by simp)|exact VRL.nil|exact VRL.refl_d _ _|refine VRL.cons ?_ ?_|refine VRL.agg ?_);done))
   dsimp only at h⊢
   try simp only[go_sem]
   cases h
   refine⟨rfl,Up.of (N:=133) (N':=204) [(104,181)] rfl rfl (by decide) ?_ ?_⟩
   ·refine zak.set ?_ (zak.set ?_ (zak.set ?_ zak.none))
    all_goals (try simp only[go_sem,List.map_append,List.map_cons,List.map_nil])
    all_goals (first|exact VR.d _|exact VR.ptr' rfl)
   refine zag.set (show zaq _ _ (Heap.get _ 181)from ?_) (zag.set (show zaq _ _ (Heap.get _ 24)from ?_) (zag.set (show zaq _ _ (Heap.get _ 0)from ?_) (zag.at)))
   all_goals (try simp only[go_sem,List.map_append,List.map_cons,List.map_nil])
   all_goals (((repeat' first|exact zaq.refl_d|refine zaq.els (by simp) ?_|exact VR.d _|exact VR.sl'' rfl (by simp)|exact VRL.nil|exact VRL.refl_d _ _|refine VRL.cons ?_ ?_|refine VRL.agg ?_);done))
  dsimp only at h⊢
  try simp only[go_sem]
  cases h
  refine⟨rfl,by simp,Up.of (N:=133) (N':=182) [(104,132),(132,104)] rfl rfl (by decide) ?_ ?_⟩
  ·exact zak.none
  refine zag.set (show zaq _ _ (Heap.get _ 104)from ?_) (zag.set (show zaq _ _ (Heap.get _ 24)from ?_) (zag.set (show zaq _ _ (Heap.get _ 0)from ?_) (zag.at)))
  all_goals (try simp only[go_sem,List.map_append,List.map_cons,List.map_nil])
  all_goals (((repeat' first|exact zaq.refl_d|refine zaq.els (by simp) ?_|exact VR.d _|exact VR.sl'' rfl (by simp)|exact VRL.nil|exact VRL.refl_d _ _|refine VRL.cons ?_ ?_|refine VRL.agg ?_);done))
 rw[if_neg (ffn hc208)]at h
 try simp only[go_sem]
 cases h
 refine⟨rfl,by simp,Up.of (N:=133) (N':=135) [(104,132),(132,104)] rfl rfl (by decide) ?_ ?_⟩
 ·exact zak.none
 refine zag.set (show zaq _ _ (Heap.get _ 104)from ?_) (zag.set (show zaq _ _ (Heap.get _ 24)from ?_) (zag.set (show zaq _ _ (Heap.get _ 0)from ?_) (zag.at)))
 all_goals (try simp only[go_sem,List.map_append,List.map_cons,List.map_nil])
 all_goals (((repeat' first|exact zaq.refl_d|refine zaq.els (by simp) ?_|exact VR.d _|exact VR.sl'' rfl (by simp)|exact VRL.nil|exact VRL.refl_d _ _|refine VRL.cons ?_ ?_|refine VRL.agg ?_);done))
noncomputable def P42 (a0:Forest) (a1:Sl (Assign)) (a2:Int) (a3:Int) (a4:Bool):Option (Sl (Step)×Int):=
 (dec (D.int .i64) (pc prog 89 [zae a0,.list a1.n (a1.l.map zap)])).bind fun r1=>
 (if(r1==0)=true then
  (dec (D.int .i64) (pc prog 82 [zae a0,.list false (([a2]).map (D.int .i64))])).bind fun r5=>
  some r5
 else
  some r1:Option ((Int))).bind fun r7=>
 (if(bif (r7==0)then(!(a3==0))else false)=true then
  (dec (D.int .i64) (pc prog 82 [zae a0,.list false (([a3]).map (D.int .i64))])).bind fun r11=>
  some r11
 else
  some r7:Option ((Int))).bind fun r13=>
 if(!(r13==0))=true then
  some (⟨true,[]⟩,r13)
 else
  (dec (D.int .i64) (pc prog 131 [zae a0,.int .i64 a3,.int .i64 a2])).bind fun r17=>
  if(bif (a2==r17)then(!(a2==a3))else false)=true then
   some (⟨true,[]⟩,0)
  else
   (dec zam (pc prog 92 [zae a0,.int .i64 a2])).bind fun r21=>
   (dec zam (pc prog 84 [zae a0,.int .i64 a2])).bind fun r23=>
   if 1*40≤AI.roomBytes then
    (dec zam (pc prog 92 [zae a0,.int .i64 a2])).bind fun r26=>
    (if(r26.kind==9)=true then
     some (.inr 0)
    else
     (if(bif (r26.kind==12)then(!a4)else false)=true then
      (dec (D.int .i64) (pc prog 96 [zae a0,.int .i64 a2])).bind fun r32=>
      some (a2==r32)
     else
      some false:Option ((Bool))).bind fun r34=>
     if r34=true then
      some (.inr 0)
     else
      if(r26.kind==12)=true then
       some (.inr r26.host)
      else
       some (.inl ()):Option ((Unit)⊕(Int))).bind fun r49=>
    match r49 with
    |(.inl q51)=>
     (dec (eT2 (D.int .i64) (D.int .i64)) (pc prog 44 [zae a0,.list a1.n (a1.l.map zap),.int .i64 a2,.bool false])).bind fun r52=>
     if(!(r52.1==0))=true then
      (zaU (zbI a0 a1 a2 a3 a4) (a2,[(⟨a2,(r23.kind==12),a2,r17,(bif (r21.kind==12)then(r21.mode==2)else false),false⟩:Step)],r52.1,true)).bind fun r127=>
      match r127 with
      |(.inl q129)=>
       some (⟨false,q129.2⟩,0)
      |(.inr q130)=>
       some (⟨false,q130.2⟩,0)
     else
      (zaU (zfF a0 a1 a2 a3 a4) (a2,[(⟨a2,(r23.kind==12),a2,r17,(bif (r21.kind==12)then(r21.mode==2)else false),false⟩:Step)],r26.parent,false)).bind fun r202=>
      match r202 with
      |(.inl q204)=>
       some (⟨false,q204.2⟩,0)
      |(.inr q205)=>
       some (⟨false,q205.2⟩,0)
    |(.inr q206)=>
     (zaU (zfG a0 a1 a2 a3 a4) (a2,[(⟨a2,(r23.kind==12),a2,r17,(bif (r21.kind==12)then(r21.mode==2)else false),false⟩:Step)],q206,false)).bind fun r278=>
     match r278 with
     |(.inl q280)=>
      some (⟨false,q280.2⟩,0)
     |(.inr q281)=>
      some (⟨false,q281.2⟩,0)
   else none
theorem zMp (a0:Forest) (a1:Sl (Assign)) (a2:Int) (a3:Int) (a4:Bool) (r:Sl (Step)×Int) (h:P42 a0 a1 a2 a3 a4=some r):pc prog 42 [zae a0,.list a1.n (a1.l.map zap),.int .i64 a2,.int .i64 a3,.bool a4]=some ((eT2 (eSl zau) (D.int .i64)) r):=by
 unfold P42 at h
 refine zbD (fn:=c42) rfl rfl ?_
 delta c42
 try simp only[go_sem]
 obtain⟨r1,hr2,h⟩:=bs h
 replace hr2:=zao hr2
 refine zat hr2 ?_
 try simp only[go_sem]
 obtain⟨r7,hl8,h⟩:=bs h
 refine WBr.cut (n:=(0,[])) .normal ⟨((((((Regs.none.set 1 (.d (.list a1.n (a1.l.map zap)))).set 2 (.d (.int .i64 a2))).set 3 (.d (.int .i64 a3))).set 4 (.d (.bool a4))).set 5 (.ptr 0 0 0)).set 12 (.d (.int .i64 r7))),((Heap.at 9).set 0 (some (.els 1 [.d (zae a0)] 0)))⟩ ?_ (by(repeat(refine Clo.seq zbd rfl ?_));(exact Clo.ret)) ?_
 ·replace h:=hl8
  refine zal (fun hc3=> ?_) (fun hc4=> ?_)
  ·rw[if_pos hc3]at h
   try simp only[go_sem]
   obtain⟨r5,hr6,h⟩:=bs h
   replace hr6:=zao hr6
   refine zat hr6 ?_
   try simp only[go_sem]
   cases h
   exact⟨rfl,Up.of (N:=9) (N':=14) [] rfl rfl (by decide) (.set (.d _) (.set (.ptr' rfl) (.set (.d _) (.set (.d _) (.set (.d _) (.set (.d _) zak.none)))))) (.set zaq.refl_d zag.at)⟩
  rw[if_neg (ff hc4)]at h
  try simp only[go_sem]
  cases h
  exact⟨rfl,Up.of (N:=9) (N':=9) [] rfl rfl (by decide) (.set (.d _) (.set (.ptr' rfl) (.set (.d _) (.set (.d _) (.set (.d _) (.set (.d _) zak.none)))))) (.set zaq.refl_d zag.at)⟩
 try simp only[go_sem]
 refine zaa (v:= .d (.int .i64 a3)) (fun hb295=>by simp only[go_sem,hb295]) ?_
 try simp only[go_sem]
 refine zaa (v:= .d (.bool (!(a3==0)))) (fun hb294=>by simp only[go_sem,hb294]) ?_
 try simp only[go_sem]
 obtain⟨r13,hl14,h⟩:=bs h
 refine WBr.cut (n:=(0,[])) .normal ⟨((((((Regs.none.set 1 (.d (.list a1.n (a1.l.map zap)))).set 2 (.d (.int .i64 a2))).set 3 (.d (.int .i64 a3))).set 4 (.d (.bool a4))).set 5 (.ptr 0 0 0)).set 12 (.d (.int .i64 r13))),((Heap.at 15).set 0 (some (.els 1 [.d (zae a0)] 0)))⟩ ?_ (by(repeat(refine Clo.seq zbd rfl ?_));(exact Clo.ret)) ?_
 ·replace h:=hl14
  refine zal (fun hc9=> ?_) (fun hc10=> ?_)
  ·rw[if_pos hc9]at h
   try simp only[go_sem]
   obtain⟨r11,hr12,h⟩:=bs h
   replace hr12:=zao hr12
   refine zat hr12 ?_
   try simp only[go_sem]
   cases h
   exact⟨rfl,Up.of (N:=15) (N':=20) [] rfl rfl (by decide) (.set (.d _) (.set (.ptr' rfl) (.set (.d _) (.set (.d _) (.set (.d _) (.set (.d _) zak.none)))))) (.set zaq.refl_d zag.at)⟩
  rw[if_neg (ff hc10)]at h
  try simp only[go_sem]
  cases h
  exact⟨rfl,Up.of (N:=15) (N':=15) [] rfl rfl (by decide) (.set (.d _) (.set (.ptr' rfl) (.set (.d _) (.set (.d _) (.set (.d _) (.set (.d _) zak.none)))))) (.set zaq.refl_d zag.at)⟩
 try simp only[go_sem]
 refine zaD (fun hc15=> ?_) (fun hc16=> ?_)
 ·rw[if_pos (show(!(r13==0))=true by(rw[hc15];rfl))]at h
  try simp only[go_sem]
  cases h
  rfl
 rw[if_neg (ffn hc16)]at h
 try simp only[go_sem]
 refine zbn (fn:=c90) rfl rfl ?_
 delta c90
 try simp only[go_sem]
 obtain⟨r17,hr18,h⟩:=bs h
 replace hr18:=zao hr18
 refine zat hr18 ?_
 try simp only[go_sem]
 refine zaa (v:= .ptr 24 0 0) (fun hb293=>by simp only[go_sem,hc16,hb293]) ?_
 try simp only[go_sem]
 refine zaa (v:= .ptr 24 0 0) (fun hb292=>by simp only[go_sem,hc16,hb292]) ?_
 try simp only[go_sem]
 refine zaa (v:= .ptr 24 0 2) (fun hb291=>by simp only[go_sem,hc16,hb291]) ?_
 try simp only[go_sem]
 refine zaa (v:= .d (.int .i64 a2)) (fun hb290=>by simp only[go_sem,hc16,hb290]) ?_
 try simp only[go_sem]
 refine zaa (v:= .ptr 24 0 0) (fun hb289=>by simp only[go_sem,hc16,hb289]) ?_
 try simp only[go_sem]
 refine zaa (v:= .ptr 24 0 0) (fun hb288=>by simp only[go_sem,hc16,hb288]) ?_
 try simp only[go_sem]
 refine zaa (v:= .ptr 24 0 3) (fun hb287=>by simp only[go_sem,hc16,hb287]) ?_
 try simp only[go_sem]
 refine zaa (v:= .d (.int .i64 a3)) (fun hb286=>by simp only[go_sem,hc16,hb286]) ?_
 try simp only[go_sem]
 refine zaa (v:= .d (.bool (!(a2==a3)))) (fun hb285=>by simp only[go_sem,hc16,hb285]) ?_
 try simp only[go_sem]
 refine zal (fun hc19=> ?_) (fun hc20=> ?_)
 ·rw[if_pos hc19]at h
  try simp only[go_sem]
  cases h
  rfl
 rw[if_neg (ff hc20)]at h
 try simp only[go_sem]
 refine zbn (fn:=zox) rfl rfl ?_
 delta zox
 try simp only[go_sem]
 obtain⟨r21,hr22,h⟩:=bs h
 replace hr22:=zao hr22
 refine zat hr22 ?_
 try simp only[go_sem]
 obtain⟨r23,hr24,h⟩:=bs h
 replace hr24:=zao hr24
 refine zat hr24 ?_
 try simp only[go_sem]
 refine zaa (v:= .ptr 75 0 13) (fun hb284=>by simp only[go_sem,hc16,hc20,hb284]) ?_
 try simp only[go_sem]
 refine zaa (v:= .d (.int .u8 r21.mode)) (fun hb283=>by simp only[go_sem,hc16,hc20,hb283]) ?_
 try simp only[go_sem]
 refine zaa (v:= .d (.bool (r21.mode==2))) (fun hb282=>by simp only[go_sem,hc16,hc20,hb282]) ?_
 try simp only[go_sem]
 obtain⟨hm25,h⟩:=zck h
 refine zwy (new:=[V.d (.agg [.int .i64 a2,.bool (r23.kind==12),.int .i64 a2,.int .i64 r17,.bool (bif (r21.kind==12)then(r21.mode==2)else false),.bool false])]) (by simp only[go_sem,zcC,zcQ,zcD,zbH,zjw]) (by simp) (by rfl) (by simpa using hm25) ?_
 try simp only[go_sem,hm25]
 refine zbn (fn:=zyI) rfl rfl ?_
 delta zyI
 try simp only[go_sem,hm25]
 obtain⟨r26,hr27,h⟩:=bs h
 replace hr27:=zao hr27
 refine zat hr27 ?_
 try simp only[go_sem,hm25]
 obtain⟨r49,hl50,h⟩:=bs h
 refine WBr.cut (n:=(119,[])) ((fun r=>match r with|(.inl r)=>(.normal,⟨(((Regs.none.set 0 (.ptr 24 0 0)).set 1 (.d (.int .i64 a2))).set 6 (.ptr 127 0 0)),(((((Heap.at 133).set 0 (some (.els 1 [.d (zae a0)] 0))).set 24 (some (.els 7 [V.ofCells [.d (.list a0.nodes.n (a0.nodes.l.map zam)),.d (.list a1.n (a1.l.map zap)),.d (.int .i64 a2),.d (.int .i64 a3),.d (.int .i64 a2),.d (.bool a4),.sl 104 0 (([(⟨a2,(r23.kind==12),a2,r17,(bif (r21.kind==12)then(r21.mode==2)else false),false⟩:Step)]).length)]] 0))).set 104 (some (.els 6 (([(⟨a2,(r23.kind==12),a2,r17,(bif (r21.kind==12)then(r21.mode==2)else false),false⟩:Step)]).map fun z=>V.d (zau z)) (0)))).set 127 (some (.els 16 [.d (zam r26)] 0)))⟩)|(.inr r)=>(.ret,⟨((Regs.none.set 4 (.d (.int .i64 r))).set 5 (.d (.bool false))),((((Heap.at 133).set 0 (some (.els 1 [.d (zae a0)] 0))).set 24 (some (.els 7 [V.ofCells [.d (.list a0.nodes.n (a0.nodes.l.map zam)),.d (.list a1.n (a1.l.map zap)),.d (.int .i64 a2),.d (.int .i64 a3),.d (.int .i64 a2),.d (.bool a4),.sl 104 0 (([(⟨a2,(r23.kind==12),a2,r17,(bif (r21.kind==12)then(r21.mode==2)else false),false⟩:Step)]).length)]] 0))).set 104 (some (.els 6 (([(⟨a2,(r23.kind==12),a2,r17,(bif (r21.kind==12)then(r21.mode==2)else false),false⟩:Step)]).map fun z=>V.d (zau z)) (0))))⟩):((Unit)⊕(Int))→Ex×St) r49).1 ((fun r=>match r with|(.inl r)=>(.normal,⟨(((Regs.none.set 0 (.ptr 24 0 0)).set 1 (.d (.int .i64 a2))).set 6 (.ptr 127 0 0)),(((((Heap.at 133).set 0 (some (.els 1 [.d (zae a0)] 0))).set 24 (some (.els 7 [V.ofCells [.d (.list a0.nodes.n (a0.nodes.l.map zam)),.d (.list a1.n (a1.l.map zap)),.d (.int .i64 a2),.d (.int .i64 a3),.d (.int .i64 a2),.d (.bool a4),.sl 104 0 (([(⟨a2,(r23.kind==12),a2,r17,(bif (r21.kind==12)then(r21.mode==2)else false),false⟩:Step)]).length)]] 0))).set 104 (some (.els 6 (([(⟨a2,(r23.kind==12),a2,r17,(bif (r21.kind==12)then(r21.mode==2)else false),false⟩:Step)]).map fun z=>V.d (zau z)) (0)))).set 127 (some (.els 16 [.d (zam r26)] 0)))⟩)|(.inr r)=>(.ret,⟨((Regs.none.set 4 (.d (.int .i64 r))).set 5 (.d (.bool false))),((((Heap.at 133).set 0 (some (.els 1 [.d (zae a0)] 0))).set 24 (some (.els 7 [V.ofCells [.d (.list a0.nodes.n (a0.nodes.l.map zam)),.d (.list a1.n (a1.l.map zap)),.d (.int .i64 a2),.d (.int .i64 a3),.d (.int .i64 a2),.d (.bool a4),.sl 104 0 (([(⟨a2,(r23.kind==12),a2,r17,(bif (r21.kind==12)then(r21.mode==2)else false),false⟩:Step)]).length)]] 0))).set 104 (some (.els 6 (([(⟨a2,(r23.kind==12),a2,r17,(bif (r21.kind==12)then(r21.mode==2)else false),false⟩:Step)]).map fun z=>V.d (zau z)) (0))))⟩):((Unit)⊕(Int))→Ex×St) r49).2 ?_ (by(repeat(first|refine Clo.block ?_|refine Clo.seq zbd rfl ?_));refine Clo.inl zbd (n':=(27,[])) rfl rfl rfl ?_ ?_ (show Fx.spans _ 108 11=true from by decide) (by decide) ?_;((repeat(first|exact zaI.no|refine zaI.set ?_ ?_|refine zaI.args ?_|exact zaX.nil|refine zaX.cons ?_ ?_|exact zaE.d|exact zaE.ptr (by decide)));(repeat(first|exact zaI.no|exact zaI.none|refine zaI.set ?_ ?_|refine zaI.args ?_|exact zaX.nil|refine zaX.cons ?_ ?_|exact zaE.d|exact zaE.undef|exact zaE.rp|exact zaE.ptr (by decide)|exact zaE.sl (by decide)|exact zaE.mb (by decide)|exact zaE.map (by decide)|exact zaE.yld (by decide)|exact zaE.it (by decide)|refine zaE.clo ?_ ?_|refine zaE.ofCells ?_|refine zaE.agg ?_|refine zaE.tuple ?_|refine zaE.bif ?_ ?_)));(repeat(refine Clo.seq zbd rfl ?_));refine Clo.inl zbd (n':=(0,[])) rfl rfl rfl ?_ ?_ (show Fx.spans _ 26 1=true from by decide) (by decide) ?_;((repeat(first|exact zaI.no|refine zaI.set ?_ ?_|exact zaE.d|exact zaE.ptr (by decide)));(repeat(first|exact zaI.no|exact zaI.none|refine zaI.set ?_ ?_|refine zaI.args ?_|exact zaX.nil|refine zaX.cons ?_ ?_|exact zaE.d|exact zaE.undef|exact zaE.rp|exact zaE.ptr (by decide)|exact zaE.sl (by decide)|exact zaE.mb (by decide)|exact zaE.map (by decide)|exact zaE.yld (by decide)|exact zaE.it (by decide)|refine zaE.clo ?_ ?_|refine zaE.ofCells ?_|refine zaE.agg ?_|refine zaE.tuple ?_|refine zaE.bif ?_ ?_)));(repeat(refine Clo.seq zbd rfl ?_));(exact Clo.ret)) ?_
 ·replace h:=hl50
  refine zal (fun hc28=> ?_) (fun hc29=> ?_)
  ·rw[if_pos hc28]at h
   try simp only[go_sem,hm25]
   cases h
   refine⟨rfl,Up.of (N:=133) (N':=135) [] rfl rfl (by decide) ?_ ?_⟩
   ·refine zak.set ?_ (zak.set ?_ zak.none)
    all_goals (try simp only[go_sem,List.map_append,List.map_cons,List.map_nil,hm25])
    all_goals (exact VR.d _)
   refine zag.set (show zaq _ _ (Heap.get _ 104)from ?_) (zag.set (show zaq _ _ (Heap.get _ 24)from ?_) (zag.set (show zaq _ _ (Heap.get _ 0)from ?_) (zag.at)))
   all_goals (try simp only[go_sem,List.map_append,List.map_cons,List.map_nil,hm25])
   all_goals (((repeat' first|exact zaq.refl_d|refine zaq.els (by simp) ?_|exact VR.d _|exact VR.sl'' rfl (by simp)|exact VRL.nil|refine VRL.cons ?_ ?_|refine VRL.agg ?_);done))
  rw[if_neg (ff hc29)]at h
  try simp only[go_sem,hm25]
  refine zaa (v:= .ptr 24 0 0) (fun hb48=>by simp only[go_sem,hm25,hc16,hc20,hc29,hb48]) ?_
  try simp only[go_sem,hm25]
  refine zaa (v:= .ptr 24 0 0) (fun hb47=>by simp only[go_sem,hm25,hc16,hc20,hc29,hb47]) ?_
  try simp only[go_sem,hm25]
  refine zaa (v:= .ptr 24 0 5) (fun hb46=>by simp only[go_sem,hm25,hc16,hc20,hc29,hb46]) ?_
  try simp only[go_sem,hm25]
  refine zaa (v:= .d (.bool a4)) (fun hb45=>by simp only[go_sem,hm25,hc16,hc20,hc29,hb45]) ?_
  try simp only[go_sem,hm25]
  refine zaa (v:= .d (.bool (!a4))) (fun hb44=>by simp only[go_sem,hm25,hc16,hc20,hc29,hb44]) ?_
  try simp only[go_sem,hm25]
  refine zaa (v:= .d (.int .i64 a2)) (fun hb43=>by simp only[go_sem,hm25,hc16,hc20,hc29,hb43]) ?_
  try simp only[go_sem,hm25]
  refine zaa (v:= .ptr 24 0 0) (fun hb42=>by simp only[go_sem,hm25,hc16,hc20,hc29,hb42]) ?_
  try simp only[go_sem,hm25]
  refine zaa (v:= .ptr 24 0 0) (fun hb41=>by simp only[go_sem,hm25,hc16,hc20,hc29,hb41]) ?_
  try simp only[go_sem,hm25]
  refine zaa (v:= .ptr 24 0 0) (fun hb40=>by simp only[go_sem,hm25,hc16,hc20,hc29,hb40]) ?_
  try simp only[go_sem,hm25]
  obtain⟨r34,hl35,h⟩:=bs h
  refine zcz.cut (n:=(119,[])) .normal ⟨((((Regs.none.set 0 (.ptr 24 0 0)).set 1 (.d (.int .i64 a2))).set 6 (.ptr 127 0 0)).set 19 (.d (.bool r34))),(((((Heap.at 157).set 0 (some (.els 1 [.d (zae a0)] 0))).set 24 (some (.els 7 [V.ofCells [.d (.list a0.nodes.n (a0.nodes.l.map zam)),.d (.list a1.n (a1.l.map zap)),.d (.int .i64 a2),.d (.int .i64 a3),.d (.int .i64 a2),.d (.bool a4),.sl 104 0 (([(⟨a2,(r23.kind==12),a2,r17,(bif (r21.kind==12)then(r21.mode==2)else false),false⟩:Step)]).length)]] 0))).set 104 (some (.els 6 (([(⟨a2,(r23.kind==12),a2,r17,(bif (r21.kind==12)then(r21.mode==2)else false),false⟩:Step)]).map fun z=>V.d (zau z)) (0)))).set 127 (some (.els 16 [.d (zam r26)] 0)))⟩ ?_ (by(repeat(refine Clo.seq zbd rfl ?_));(exact Clo.cpost (by decide))) ?_
  ·replace h:=hl35
   refine zaG (fun hc30=> ?_) (fun hc31=> ?_)
   ·rw[if_pos hc30]at h
    try simp only[go_sem,hm25,hc30]
    obtain⟨r32,hr33,h⟩:=bs h
    replace hr33:=zao hr33
    refine zat hr33 ?_
    try simp only[go_sem,hm25]
    cases h
    refine⟨rfl,Up.of (N:=157) (N':=157) [] rfl rfl (by decide) ?_ ?_⟩
    ·refine zak.set ?_ (zak.set ?_ (zak.set ?_ (zak.set ?_ zak.none)))
     all_goals (try simp only[go_sem,List.map_append,List.map_cons,List.map_nil,hm25])
     all_goals (first|exact VR.d _|exact VR.ptr' rfl)
    refine zag.set (show zaq _ _ (Heap.get _ 127)from ?_) (zag.set (show zaq _ _ (Heap.get _ 104)from ?_) (zag.set (show zaq _ _ (Heap.get _ 24)from ?_) (zag.set (show zaq _ _ (Heap.get _ 0)from ?_) (zag.at))))
    all_goals (try simp only[go_sem,List.map_append,List.map_cons,List.map_nil,hm25])
    all_goals (((repeat' first|exact zaq.refl_d|refine zaq.els (by simp) ?_|exact VR.d _|exact VR.sl'' rfl (by simp)|exact VRL.nil|refine VRL.cons ?_ ?_|refine VRL.agg ?_);done))
   rw[if_neg (ff hc31)]at h
   try simp only[go_sem,hm25,hc31]
   cases h
   refine⟨rfl,Up.of (N:=157) (N':=157) [] rfl rfl (by decide) ?_ ?_⟩
   ·refine zak.set ?_ (zak.set ?_ (zak.set ?_ (zak.set ?_ zak.none)))
    all_goals (try simp only[go_sem,List.map_append,List.map_cons,List.map_nil,hm25])
    all_goals (first|exact VR.d _|exact VR.ptr' rfl)
   refine zag.set (show zaq _ _ (Heap.get _ 127)from ?_) (zag.set (show zaq _ _ (Heap.get _ 104)from ?_) (zag.set (show zaq _ _ (Heap.get _ 24)from ?_) (zag.set (show zaq _ _ (Heap.get _ 0)from ?_) (zag.at))))
   all_goals (try simp only[go_sem,List.map_append,List.map_cons,List.map_nil,hm25])
   all_goals (((repeat' first|exact zaq.refl_d|refine zaq.els (by simp) ?_|exact VR.d _|exact VR.sl'' rfl (by simp)|exact VRL.nil|refine VRL.cons ?_ ?_|refine VRL.agg ?_);done))
  try simp only[go_sem,hm25]
  refine zal (fun hc36=> ?_) (fun hc37=> ?_)
  ·rw[if_pos hc36]at h
   try simp only[go_sem,hm25]
   cases h
   refine⟨rfl,Up.of (N:=133) (N':=159) [] rfl rfl (by decide) ?_ ?_⟩
   ·refine zak.set ?_ (zak.set ?_ zak.none)
    all_goals (try simp only[go_sem,List.map_append,List.map_cons,List.map_nil,hm25])
    all_goals (exact VR.d _)
   refine zag.set (show zaq _ _ (Heap.get _ 104)from ?_) (zag.set (show zaq _ _ (Heap.get _ 24)from ?_) (zag.set (show zaq _ _ (Heap.get _ 0)from ?_) (zag.at)))
   all_goals (try simp only[go_sem,List.map_append,List.map_cons,List.map_nil,hm25])
   all_goals (((repeat' first|exact zaq.refl_d|refine zaq.els (by simp) ?_|exact VR.d _|exact VR.sl'' rfl (by simp)|exact VRL.nil|refine VRL.cons ?_ ?_|refine VRL.agg ?_);done))
  rw[if_neg (ff hc37)]at h
  try simp only[go_sem,hm25]
  refine zal (fun hc38=> ?_) (fun hc39=> ?_)
  ·rw[if_pos hc38]at h
   try simp only[go_sem,hm25]
   cases h
   refine⟨rfl,Up.of (N:=133) (N':=165) [] rfl rfl (by decide) ?_ ?_⟩
   ·refine zak.set ?_ (zak.set ?_ zak.none)
    all_goals (try simp only[go_sem,List.map_append,List.map_cons,List.map_nil,hm25])
    all_goals (exact VR.d _)
   refine zag.set (show zaq _ _ (Heap.get _ 104)from ?_) (zag.set (show zaq _ _ (Heap.get _ 24)from ?_) (zag.set (show zaq _ _ (Heap.get _ 0)from ?_) (zag.at)))
   all_goals (try simp only[go_sem,List.map_append,List.map_cons,List.map_nil,hm25])
   all_goals (((repeat' first|exact zaq.refl_d|refine zaq.els (by simp) ?_|exact VR.d _|exact VR.sl'' rfl (by simp)|exact VRL.nil|refine VRL.cons ?_ ?_|refine VRL.agg ?_);done))
  rw[if_neg (ff hc39)]at h
  try simp only[go_sem,hm25]
  cases h
  refine⟨rfl,Up.of (N:=133) (N':=161) [] rfl rfl (by decide) ?_ ?_⟩
  ·refine zak.set ?_ (zak.set ?_ (zak.set ?_ zak.none))
   all_goals (try simp only[go_sem,List.map_append,List.map_cons,List.map_nil,hm25])
   all_goals (first|exact VR.d _|exact VR.ptr' rfl)
  refine zag.set (show zaq _ _ (Heap.get _ 127)from ?_) (zag.set (show zaq _ _ (Heap.get _ 104)from ?_) (zag.set (show zaq _ _ (Heap.get _ 24)from ?_) (zag.set (show zaq _ _ (Heap.get _ 0)from ?_) (zag.at))))
  all_goals (try simp only[go_sem,List.map_append,List.map_cons,List.map_nil,hm25])
  all_goals (((repeat' first|exact zaq.refl_d|refine zaq.els (by simp) ?_|exact VR.d _|exact VR.sl'' rfl (by simp)|exact VRL.nil|refine VRL.cons ?_ ?_|refine VRL.agg ?_);done))
 rcases r49 with(q51|q206)
 ·dsimp only at h⊢
  try simp only[go_sem,hm25]
  obtain⟨r52,hr53,h⟩:=bs h
  replace hr53:=zao hr53
  refine zat hr53 ?_
  try simp only[go_sem,hm25]
  refine zaD (fun hc54=> ?_) (fun hc55=> ?_)
  ·rw[if_pos (show(!(r52.1==0))=true by(rw[hc54];rfl))]at h
   try simp only[go_sem,hm25]
   obtain⟨r127,hl128,h⟩:=bs h
   refine Wp.loopR zbd (n:=(27,[])) (a:=zjX) rfl (zhW a0 a1 a2 a3 a4) (zmp a0 a1 a2 a3 a4) (zCk a0 a1 a2 a3 a4) hl128 ?_ (by(repeat(refine Clo.block ?_));refine Clo.inl zbd (n':=(0,[])) rfl rfl rfl ?_ ?_ (show Fx.spans _ 26 1=true from by decide) (by decide) ?_;((repeat(first|exact zaI.no|refine zaI.set ?_ ?_|exact zaE.d|exact zaE.ptr (by decide)));(repeat(first|exact zaI.no|exact zaI.none|refine zaI.set ?_ ?_|refine zaI.args ?_|exact zaX.nil|refine zaX.cons ?_ ?_|exact zaE.d|exact zaE.undef|exact zaE.rp|exact zaE.ptr (by decide)|exact zaE.sl (by decide)|exact zaE.mb (by decide)|exact zaE.map (by decide)|exact zaE.yld (by decide)|exact zaE.it (by decide)|refine zaE.clo ?_ ?_|refine zaE.ofCells ?_|refine zaE.agg ?_|refine zaE.tuple ?_|refine zaE.bif ?_ ?_)));(repeat(refine Clo.seq zbd rfl ?_));(exact Clo.ret)) ?_
   ·show Up (27,[]) (zhW a0 a1 a2 a3 a4 (a2,[(⟨a2,(r23.kind==12),a2,r17,(bif (r21.kind==12)then(r21.mode==2)else false),false⟩:Step)],r52.1,true)) _
    delta zhW
    refine Up.of (N:=153) (N':=153) [] rfl rfl (by decide) ?_ ?_
    ·refine zak.set ?_ (zak.set ?_ (zak.set ?_ zak.none))
     all_goals (try simp only[go_sem,List.map_append,List.map_cons,List.map_nil,hm25])
     all_goals (first|exact VR.d _|exact VR.ptr' rfl)
    refine zag.set (show zaq _ _ (Heap.get _ 104)from ?_) (zag.set (show zaq _ _ (Heap.get _ 24)from ?_) (zag.set (show zaq _ _ (Heap.get _ 0)from ?_) (zag.at)))
    all_goals (try simp only[go_sem,List.map_append,List.map_cons,List.map_nil,hm25])
    all_goals (((repeat' first|exact zaq.refl_d|refine zaq.els (by simp) ?_|exact VR.d _|exact VR.sl'' rfl (by simp)|exact VRL.nil|refine VRL.cons ?_ ?_|refine VRL.agg ?_);done))
   rcases r127 with(q129|q130)
   ·dsimp only at h
    dsimp only[zmp]
    try simp only[go_sem,hm25]
    cases h
    refine Reads.ofv (v':=V.ofTuple [.sl 152 0 q129.2.length,.d (.int .i64 (0))]) (by rfl) (Rd.tuple (RdL.cons (Rd.sl (e:=zau) (l:=q129.2) (sz:=6) (fz:=q129.2.length) (m:=q129.2.map fun z=>V.d (zau z)) (by simp only[go_sem,List.map_append,List.map_cons,List.map_nil,hm25]) rfl (by simp)) (RdL.cons Rd.d RdL.nil))) rfl
   dsimp only at h
   dsimp only[zmp]
   try simp only[go_sem,hm25]
   cases h
   refine Reads.ofv (v':=V.ofTuple [.sl 152 0 q130.2.length,.d (.int .i64 (0))]) (by rfl) (Rd.tuple (RdL.cons (Rd.sl (e:=zau) (l:=q130.2) (sz:=6) (fz:=q130.2.length) (m:=q130.2.map fun z=>V.d (zau z)) (by simp only[go_sem,List.map_append,List.map_cons,List.map_nil,hm25]) rfl (by simp)) (RdL.cons Rd.d RdL.nil))) rfl
  rw[if_neg (ffn hc55)]at h
  try simp only[go_sem,hm25]
  obtain⟨r202,hl203,h⟩:=bs h
  refine Wp.loopR zbd (n:=(27,[])) (a:=zjX) rfl (zhX a0 a1 a2 a3 a4) (zmq a0 a1 a2 a3 a4) (zCl a0 a1 a2 a3 a4) hl203 ?_ (by(repeat(refine Clo.block ?_));refine Clo.inl zbd (n':=(0,[])) rfl rfl rfl ?_ ?_ (show Fx.spans _ 26 1=true from by decide) (by decide) ?_;((repeat(first|exact zaI.no|refine zaI.set ?_ ?_|exact zaE.d|exact zaE.ptr (by decide)));(repeat(first|exact zaI.no|exact zaI.none|refine zaI.set ?_ ?_|refine zaI.args ?_|exact zaX.nil|refine zaX.cons ?_ ?_|exact zaE.d|exact zaE.undef|exact zaE.rp|exact zaE.ptr (by decide)|exact zaE.sl (by decide)|exact zaE.mb (by decide)|exact zaE.map (by decide)|exact zaE.yld (by decide)|exact zaE.it (by decide)|refine zaE.clo ?_ ?_|refine zaE.ofCells ?_|refine zaE.agg ?_|refine zaE.tuple ?_|refine zaE.bif ?_ ?_)));(repeat(refine Clo.seq zbd rfl ?_));(exact Clo.ret)) ?_
  ·show Up (27,[]) (zhX a0 a1 a2 a3 a4 (a2,[(⟨a2,(r23.kind==12),a2,r17,(bif (r21.kind==12)then(r21.mode==2)else false),false⟩:Step)],r26.parent,false)) _
   delta zhX
   refine Up.of (N:=154) (N':=154) [] rfl rfl (by decide) ?_ ?_
   ·refine zak.set ?_ (zak.set ?_ (zak.set ?_ zak.none))
    all_goals (try simp only[go_sem,List.map_append,List.map_cons,List.map_nil,hm25])
    all_goals (first|exact VR.d _|exact VR.ptr' rfl)
   refine zag.set (show zaq _ _ (Heap.get _ 104)from ?_) (zag.set (show zaq _ _ (Heap.get _ 24)from ?_) (zag.set (show zaq _ _ (Heap.get _ 0)from ?_) (zag.at)))
   all_goals (try simp only[go_sem,List.map_append,List.map_cons,List.map_nil,hm25])
   all_goals (((repeat' first|exact zaq.refl_d|refine zaq.els (by simp) ?_|exact VR.d _|exact VR.sl'' rfl (by simp)|exact VRL.nil|refine VRL.cons ?_ ?_|refine VRL.agg ?_);done))
  rcases r202 with(q204|q205)
  ·dsimp only at h
   dsimp only[zmq]
   try simp only[go_sem,hm25]
   cases h
   refine Reads.ofv (v':=V.ofTuple [.sl 153 0 q204.2.length,.d (.int .i64 (0))]) (by rfl) (Rd.tuple (RdL.cons (Rd.sl (e:=zau) (l:=q204.2) (sz:=6) (fz:=q204.2.length) (m:=q204.2.map fun z=>V.d (zau z)) (by simp only[go_sem,List.map_append,List.map_cons,List.map_nil,hm25]) rfl (by simp)) (RdL.cons Rd.d RdL.nil))) rfl
  dsimp only at h
  dsimp only[zmq]
  try simp only[go_sem,hm25]
  cases h
  refine Reads.ofv (v':=V.ofTuple [.sl 153 0 q205.2.length,.d (.int .i64 (0))]) (by rfl) (Rd.tuple (RdL.cons (Rd.sl (e:=zau) (l:=q205.2) (sz:=6) (fz:=q205.2.length) (m:=q205.2.map fun z=>V.d (zau z)) (by simp only[go_sem,List.map_append,List.map_cons,List.map_nil,hm25]) rfl (by simp)) (RdL.cons Rd.d RdL.nil))) rfl
 dsimp only at h⊢
 try simp only[go_sem,hm25]
 obtain⟨r278,hl279,h⟩:=bs h
 refine Wp.loopR zbd (n:=(27,[])) (a:=zjX) rfl (zhY a0 a1 a2 a3 a4) (zmr a0 a1 a2 a3 a4) (zCm a0 a1 a2 a3 a4) hl279 ?_ (by(repeat(refine Clo.block ?_));refine Clo.inl zbd (n':=(0,[])) rfl rfl rfl ?_ ?_ (show Fx.spans _ 26 1=true from by decide) (by decide) ?_;((repeat(first|exact zaI.no|refine zaI.set ?_ ?_|exact zaE.d|exact zaE.ptr (by decide)));(repeat(first|exact zaI.no|exact zaI.none|refine zaI.set ?_ ?_|refine zaI.args ?_|exact zaX.nil|refine zaX.cons ?_ ?_|exact zaE.d|exact zaE.undef|exact zaE.rp|exact zaE.ptr (by decide)|exact zaE.sl (by decide)|exact zaE.mb (by decide)|exact zaE.map (by decide)|exact zaE.yld (by decide)|exact zaE.it (by decide)|refine zaE.clo ?_ ?_|refine zaE.ofCells ?_|refine zaE.agg ?_|refine zaE.tuple ?_|refine zaE.bif ?_ ?_)));(repeat(refine Clo.seq zbd rfl ?_));(exact Clo.ret)) ?_
 ·show Up (27,[]) (zhY a0 a1 a2 a3 a4 (a2,[(⟨a2,(r23.kind==12),a2,r17,(bif (r21.kind==12)then(r21.mode==2)else false),false⟩:Step)],q206,false)) _
  delta zhY
  refine Up.of (N:=133) (N':=133) [] rfl rfl (by decide) ?_ ?_
  ·refine zak.set ?_ (zak.set ?_ (zak.set ?_ zak.none))
   all_goals (try simp only[go_sem,List.map_append,List.map_cons,List.map_nil,hm25])
   all_goals (first|exact VR.d _|exact VR.ptr' rfl)
  refine zag.set (show zaq _ _ (Heap.get _ 104)from ?_) (zag.set (show zaq _ _ (Heap.get _ 24)from ?_) (zag.set (show zaq _ _ (Heap.get _ 0)from ?_) (zag.at)))
  all_goals (try simp only[go_sem,List.map_append,List.map_cons,List.map_nil,hm25])
  all_goals (((repeat' first|exact zaq.refl_d|refine zaq.els (by simp) ?_|exact VR.d _|exact VR.sl'' rfl (by simp)|exact VRL.nil|refine VRL.cons ?_ ?_|refine VRL.agg ?_);done))
 rcases r278 with(q280|q281)
 ·dsimp only at h
  dsimp only[zmr]
  try simp only[go_sem,hm25]
  cases h
  refine Reads.ofv (v':=V.ofTuple [.sl 132 0 q280.2.length,.d (.int .i64 (0))]) (by rfl) (Rd.tuple (RdL.cons (Rd.sl (e:=zau) (l:=q280.2) (sz:=6) (fz:=q280.2.length) (m:=q280.2.map fun z=>V.d (zau z)) (by simp only[go_sem,List.map_append,List.map_cons,List.map_nil,hm25]) rfl (by simp)) (RdL.cons Rd.d RdL.nil))) rfl
 dsimp only at h
 dsimp only[zmr]
 try simp only[go_sem,hm25]
 cases h
 refine Reads.ofv (v':=V.ofTuple [.sl 132 0 q281.2.length,.d (.int .i64 (0))]) (by rfl) (Rd.tuple (RdL.cons (Rd.sl (e:=zau) (l:=q281.2) (sz:=6) (fz:=q281.2.length) (m:=q281.2.map fun z=>V.d (zau z)) (by simp only[go_sem,List.map_append,List.map_cons,List.map_nil,hm25]) rfl (by simp)) (RdL.cons Rd.d RdL.nil))) rfl
noncomputable def P45 (a0:Forest) (a1:Int) (a2:Int):Option (Bool):=
 (dec (eT2 (D.int .i64) (D.int .i64)) (pc prog 46 [zae a0,.int .i64 a1])).bind fun r1=>
 (dec (eT2 zam D.bool) (pc prog 43 [zae a0,.int .i64 r1.1])).bind fun r3=>
 (dec (eT2 D.bool (D.int .i64)) (pc prog 93 [zae a0,.int .i64 r1.1,.int .i64 a2])).bind fun r5=>
 if(bif (bif (r1.2==0)then r3.2 else false)then(r5.2==0)else false)=true then
  some (bif r5.1 then true else(!(r3.1.kind==12)))
 else
  some false
theorem zMq (a0:Forest) (a1:Int) (a2:Int) (r:Bool) (h:P45 a0 a1 a2=some r):pc prog 45 [zae a0,.int .i64 a1,.int .i64 a2]=some (D.bool r):=by
 unfold P45 at h
 refine zbD (fn:=c45) rfl rfl ?_
 delta c45
 try simp only[go_sem]
 obtain⟨r1,hr2,h⟩:=bs h
 replace hr2:=zao hr2
 refine zat hr2 ?_
 try simp only[go_sem]
 obtain⟨r3,hr4,h⟩:=bs h
 replace hr4:=zao hr4
 refine zat hr4 ?_
 try simp only[go_sem]
 obtain⟨r5,hr6,h⟩:=bs h
 replace hr6:=zao hr6
 refine zat hr6 ?_
 try simp only[go_sem]
 refine zaa (v:= .d (.bool r3.2)) (fun hb22=>by simp only[go_sem,hb22]) ?_
 try simp only[go_sem]
 refine zaa (v:= .d (.int .i64 r5.2)) (fun hb21=>by simp only[go_sem,hb21]) ?_
 try simp only[go_sem]
 refine zaa (v:= .d (.bool (r5.2==0))) (fun hb20=>by simp only[go_sem,hb20]) ?_
 try simp only[go_sem]
 refine zaa (v:= .d (.bool r5.1)) (fun hb19=>by simp only[go_sem,hb19]) ?_
 try simp only[go_sem]
 refine zaa (v:= .d (.bool r5.1)) (fun hb18=>by simp only[go_sem,hb18]) ?_
 try simp only[go_sem]
 refine zaa (v:= .ptr 16 0 0) (fun hb15=>by((obtain⟨hb16,hb17⟩:=zaL hb15));simp only[go_sem,hb17,hb16]) ?_
 try simp only[go_sem]
 refine zaa (v:= .d (.int .u8 r3.1.kind)) (fun hb12=>by((obtain⟨hb13,hb14⟩:=zaL hb12));simp only[go_sem,hb14,hb13]) ?_
 try simp only[go_sem]
 refine zaa (v:= .d (.bool (!(r3.1.kind==12)))) (fun hb9=>by((obtain⟨hb10,hb11⟩:=zaL hb9));simp only[go_sem,hb11,hb10]) ?_
 try simp only[go_sem]
 refine zaG (fun hc7=> ?_) (fun hc8=> ?_)
 ·rw[if_pos hc7]at h
  try simp only[go_sem,hc7]
  cases h
  rfl
 rw[if_neg (ff hc8)]at h
 try simp only[go_sem,hc8]
 cases h
 rfl
noncomputable def P46 (a0:Forest) (a1:Int):Option (Int×Int):=
 (dec (D.int .i64) (pc prog 82 [zae a0,.list false (([a1]).map (D.int .i64))])).bind fun r1=>
 if(!(r1==0))=true then
  some (0,r1)
 else
  (dec (D.int .i64) (pc prog 96 [zae a0,.int .i64 a1])).bind fun r5=>
  some (r5,0)
theorem zMr (a0:Forest) (a1:Int) (r:Int×Int) (h:P46 a0 a1=some r):pc prog 46 [zae a0,.int .i64 a1]=some ((eT2 (D.int .i64) (D.int .i64)) r):=by
 unfold P46 at h
 refine zbD (fn:=c46) rfl rfl ?_
 delta c46
 try simp only[go_sem]
 refine zbn (fn:=c94) rfl rfl ?_
 delta c94
 try simp only[go_sem]
 obtain⟨r1,hr2,h⟩:=bs h
 replace hr2:=zao hr2
 refine zat hr2 ?_
 try simp only[go_sem]
 refine zaD (fun hc3=> ?_) (fun hc4=> ?_)
 ·rw[if_pos (show(!(r1==0))=true by(rw[hc3];rfl))]at h
  try simp only[go_sem]
  cases h
  rfl
 rw[if_neg (ffn hc4)]at h
 try simp only[go_sem]
 refine znz (fn:=c95) rfl rfl ?_
 delta c95
 try simp only[go_sem]
 obtain⟨r5,hr6,h⟩:=bs h
 replace hr6:=zao hr6
 refine zat hr6 ?_
 try simp only[go_sem]
 cases h
 rfl
noncomputable def P84 (a0:Forest) (a1:Int):Option (Node):=
 (dec (D.int .i64) (pc prog 96 [zae a0,.int .i64 a1])).bind fun r1=>
 (dec zam (pc prog 92 [zae a0,.int .i64 r1])).bind fun r3=>
 some r3
theorem zMs (a0:Forest) (a1:Int) (r:Node) (h:P84 a0 a1=some r):pc prog 84 [zae a0,.int .i64 a1]=some (zam r):=by
 unfold P84 at h
 refine zbD (fn:=c84) rfl rfl ?_
 delta c84
 try simp only[go_sem]
 obtain⟨r1,hr2,h⟩:=bs h
 replace hr2:=zao hr2
 refine zat hr2 ?_
 try simp only[go_sem]
 obtain⟨r3,hr4,h⟩:=bs h
 replace hr4:=zao hr4
 refine zat hr4 ?_
 try simp only[go_sem]
 cases h
 rfl
def zfH (a0:Forest) (a2:Int) (x0:Int):St:=⟨(((Regs.none.set 1 (.d (.int .i64 x0))).set 2 (.d (.int .i64 a2))).set 3 (.ptr 0 0 0)),((Heap.at 2).set 0 (some (.els 1 [.d (zae a0)] 0)))⟩
def ziP (a0:Forest) (a2:Int):((Unit)⊕(Int))→Ex×St:=fun r=>match r with
 |(.inl r)=>(.exit 0,⟨Regs.none,(Heap.at 2)⟩)
 |(.inr r)=>(.ret,⟨(Regs.none.set 6 (.d (.int .i64 r))),(Heap.at 2)⟩)
noncomputable def zcp (a0:Forest) (a2:Int) (x0:Int):Option ((Int)⊕((Unit)⊕(Int))):=
 if(!(x0==0))=true then
  (dec zam (pc prog 84 [zae a0,.int .i64 x0])).bind fun r3=>
  if(r3.kind==12)=true then
   (dec (D.int .i64) (pc prog 96 [zae a0,.int .i64 x0])).bind fun r7=>
   (dec D.bool (pc prog 134 [zae a0,.int .i64 r7,.int .i64 a2])).bind fun r9=>
   if r9=true then
    some (.inr (.inr x0))
   else
    some (.inl r3.host)
  else
   some (.inr (.inr x0))
 else
  some (.inr (.inl ()))
theorem zyA (a0:Forest) (a2:Int) (x0:Int) (o:(Int)⊕((Unit)⊕(Int))) (h:zcp a0 a2 x0=some o):Wp prog zqU (zfH a0 a2 x0) (zcg (0,[]) (zfH a0 a2) (ziP a0 a2) o):=by
 unfold zcp at h
 delta zqU zfH
 try simp only[go_sem]
 refine zaD (fun hc1=> ?_) (fun hc2=> ?_)
 ·rw[if_pos (show(!(x0==0))=true by(rw[hc1];rfl))]at h
  try simp only[go_sem]
  obtain⟨r3,hr4,h⟩:=bs h
  replace hr4:=zao hr4
  refine zat hr4 ?_
  try simp only[go_sem]
  refine zaa (v:= .d (zae a0)) (fun hb15=>by simp only[go_sem,hc1,hb15]) ?_
  try simp only[go_sem]
  refine zaa (v:= .d (zae a0)) (fun hb14=>by simp only[go_sem,hc1,hb14]) ?_
  try simp only[go_sem]
  refine zaa (v:= .d (.int .i64 x0)) (fun hb13=>by simp only[go_sem,hc1,hb13]) ?_
  try simp only[go_sem]
  refine zaG (fun hc5=> ?_) (fun hc6=> ?_)
  ·rw[if_pos hc5]at h
   try simp only[go_sem,hc5]
   obtain⟨r7,hr8,h⟩:=bs h
   replace hr8:=zao hr8
   refine zat hr8 ?_
   try simp only[go_sem]
   obtain⟨r9,hr10,h⟩:=bs h
   replace hr10:=zao hr10
   refine zat hr10 ?_
   try simp only[go_sem]
   refine zal (fun hc11=> ?_) (fun hc12=> ?_)
   ·rw[if_pos hc11]at h
    try simp only[go_sem]
    cases h
    exact⟨rfl,by simp,Up.of (N:=2) (N':=22) [] rfl rfl (by decide) (.set (.d _) zak.none) zag.at⟩
   rw[if_neg (ff hc12)]at h
   try simp only[go_sem]
   cases h
   exact⟨rfl,Up.of (N:=2) (N':=23) [] rfl rfl (by decide) (.set (.ptr' rfl) (.set (.d _) (.set (.d _) zak.none))) (.set zaq.refl_d zag.at)⟩
  rw[if_neg (ff hc6)]at h
  try simp only[go_sem,hc6]
  cases h
  exact⟨rfl,by simp,Up.of (N:=2) (N':=22) [] rfl rfl (by decide) (.set (.d _) zak.none) zag.at⟩
 rw[if_neg (ffn hc2)]at h
 try simp only[go_sem]
 cases h
 exact⟨rfl,by simp,Up.of (N:=2) (N':=4) [] rfl rfl (by decide) zak.none zag.at⟩
noncomputable def zLA (a0:Forest) (a1:Int) (a2:Int):Option (Int):=
 (zaU (zcp a0 a2) a1).bind fun r16=>
 match r16 with
 |(.inl q18)=>
  some (0)
 |(.inr q19)=>
  some q19
theorem zLB (a0:Forest) (a1:Int) (a2:Int) (r:Int) (h:zLA a0 a1 a2=some r):pc prog 131 [zae a0,.int .i64 a1,.int .i64 a2]=some ((D.int .i64) r):=by
 unfold zLA at h
 refine zbD (fn:=zJf) rfl rfl ?_
 delta zJf
 try simp only[go_sem]
 obtain⟨r16,hl17,h⟩:=bs h
 refine Wp.loopR zbd (n:=(0,[])) (a:=zqU) rfl (zfH a0 a2) (ziP a0 a2) (zyA a0 a2) hl17 ?_ (by(repeat(first|refine Clo.block ?_|refine Clo.seq zbd rfl ?_));(exact Clo.ret)) ?_
 ·show Up (0,[]) (zfH a0 a2 a1) _
  delta zfH
  exact Up.of (N:=2) (N':=2) [] rfl rfl (by decide) (.set (.ptr' rfl) (.set (.d _) (.set (.d _) zak.none))) (.set zaq.refl_d zag.at)
 rcases r16 with(q18|q19)
 ·dsimp only at h
  dsimp only[ziP]
  try simp only[go_sem]
  cases h
  rfl
 dsimp only at h
 dsimp only[ziP]
 try simp only[go_sem]
 cases h
 rfl
noncomputable def zLC (a0:Forest) (a1:Int) (a2:Int):Option (Bool):=
 (dec (eT2 D.bool (D.int .i64)) (pc prog 93 [zae a0,.int .i64 a1,.int .i64 a2])).bind fun r1=>
 some r1.1
theorem zLD (a0:Forest) (a1:Int) (a2:Int) (r:Bool) (h:zLC a0 a1 a2=some r):pc prog 134 [zae a0,.int .i64 a1,.int .i64 a2]=some (D.bool r):=by
 unfold zLC at h
 refine zbD (fn:=zJg) rfl rfl ?_
 delta zJg
 try simp only[go_sem]
 obtain⟨r1,hr2,h⟩:=bs h
 replace hr2:=zao hr2
 refine zat hr2 ?_
 try simp only[go_sem]
 cases h
 rfl
end Go.Proofs.Ythodcjjgimeeoaa.P
