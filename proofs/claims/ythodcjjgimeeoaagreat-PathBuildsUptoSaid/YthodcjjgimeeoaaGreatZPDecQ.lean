/- Shaken copy of a longer text: what one law needs. Its conditions: none. -/
import Derived.Test.YthodcjjgimeeoaaGreatZPDec0
import Derived.Test.YthodcjjgimeeoaaGreatZPSpIt
set_option linter.unusedSimpArgs false
set_option linter.unusedVariables false
set_option linter.unnecessarySimpa false
set_option maxHeartbeats 1000000
namespace Go.Proofs.YthodcjjgimeeoaaGreat.P
open Go.AI
theorem zbs {g:Rg} {rest:List (SOp×Option (Nat×Bool))} {i:Nat} {env:Regs} {H:Heap} {o:SOp} {b:Bool} {v:V} (k:zfm g rest (i+1) (env.set i (bif b then v else .d (.tuple []))) H) (he:b=true→zad (ans g.A) g.A.sh (g.base+i) env g.r H o=some (v,H):=by intro hb;first|(simp only[go_sem,hb];rfl)|(obtain⟨h1,h2⟩:=zdp hb;simp only[go_sem,h1,h2];rfl)|(obtain⟨h1,h2⟩:=zdp hb;obtain⟨h3,h4⟩:=zdp h1;simp only[go_sem,h2,h3,h4];rfl)):zbD g o rest i env H b:=zgY he k
theorem znz {ρ:Type} {A:AProg} {n:Fx} {a b:C} {s:St} {x:V} {Q:Ex→St→Prop} (F:ρ→Ex×St) (r:ρ) (h:WBr A (zqX n (F r).1 (F r).2) a b s x) (hQ:Clo n Q) (hq:Q (F r).1 (F r).2):WBr A Q a b s x:=WBr.cut _ _ h hQ hq
def ziT (a0:Sl (Int)) (a1:Sl (Int)) (x0:Int):St:=⟨(((Regs.none.set 0 (.d (.list a0.n (a0.l.map (D.int .i64))))).set 1 (.d (.list a1.n (a1.l.map (D.int .i64))))).set 5 (.d (.int .i64 x0))),(Heap.at 7)⟩
def znA (a0:Sl (Int)) (a1:Sl (Int)):((Unit)⊕(Unit))→Ex×St:=fun r=>match r with
 |(.inl r)=>(.exit 0,⟨Regs.none,(Heap.at 7)⟩)
 |(.inr r)=>(.ret,⟨(Regs.none.set 4 (.d (.bool false))),(Heap.at 7)⟩)
noncomputable def zdx (a0:Sl (Int)) (a1:Sl (Int)) (x0:Int):Option ((Int)⊕((Unit)⊕(Unit))):=
 if(decide (x0<(a0.l.length:Int)))=true then
  (rd a0.l x0).bind fun y5=>
  (rd a1.l x0).bind fun y7=>
  if(!(y5==y7))=true then
   some (.inr (.inr ()))
  else
   some (.inl (IntKind.wrap .i64 (x0+1)))
 else
  some (.inr (.inl ()))
theorem zEC (a0:Sl (Int)) (a1:Sl (Int)) (x0:Int) (o:(Int)⊕((Unit)⊕(Unit))) (h:zdx a0 a1 x0=some o):Wp prog zDD (ziT a0 a1 x0) (zbq (0,[]) (ziT a0 a1) (znA a0 a1) o):=by
 unfold zdx at h
 delta zDD ziT
 try simp only[go_sem]
 refine zaf (fun hc3=> ?_) (fun hc4=> ?_)
 ·rw[if_pos hc3]at h
  try simp only[go_sem]
  obtain⟨y5,hy6,h⟩:=bs h
  try simp only[go_sem,zab hy6,zaj hy6,zac (D.int .i64) hy6]
  obtain⟨y7,hy8,h⟩:=bs h
  try simp only[go_sem,zab hy6,zaj hy6,zac (D.int .i64) hy6,zab hy8,zaj hy8,zac (D.int .i64) hy8]
  refine zaz (fun hc9=> ?_) (fun hc10=> ?_)
  ·rw[if_pos (show(!(y5==y7))=true by(rw[hc9];rfl))]at h
   try simp only[go_sem,zab hy6,zaj hy6,zac (D.int .i64) hy6,zab hy8,zaj hy8,zac (D.int .i64) hy8]
   cases h
   exact⟨rfl,by simp,Up.of (N:=7) (N':=21) [] rfl rfl (by decide) (.set (.d _) zae.none) zah.at⟩
  rw[if_neg (ffn hc10)]at h
  try simp only[go_sem,zab hy6,zaj hy6,zac (D.int .i64) hy6,zab hy8,zaj hy8,zac (D.int .i64) hy8]
  cases h
  exact⟨rfl,Up.of (N:=7) (N':=23) [] rfl rfl (by decide) (.set (.d _) (.set (.d _) (.set (.d _) zae.none))) zah.at⟩
 rw[if_neg (ff hc4)]at h
 try simp only[go_sem]
 cases h
 exact⟨rfl,by simp,Up.of (N:=7) (N':=11) [] rfl rfl (by decide) zae.none zah.at⟩
noncomputable def P31 (a0:Sl (Int)) (a1:Sl (Int)):Option (Bool):=
 if(!((a0.l.length:Int)==(a1.l.length:Int)))=true then
  some false
 else
  (zaL (zdx a0 a1) 0).bind fun r11=>
  match r11 with
  |(.inl q13)=>
   some true
  |(.inr q14)=>
   some false
theorem zQQ (a0:Sl (Int)) (a1:Sl (Int)) (r:Bool) (h:P31 a0 a1=some r):pc prog 31 [.list a0.n (a0.l.map (D.int .i64)),.list a1.n (a1.l.map (D.int .i64))]=some (D.bool r):=by
 unfold P31 at h
 refine zaQ (fn:=c31) rfl rfl ?_
 delta c31
 try simp only[go_sem]
 refine zaz (fun hc1=> ?_) (fun hc2=> ?_)
 ·rw[if_pos (show(!((a0.l.length:Int)==(a1.l.length:Int)))=true by(rw[hc1];rfl))]at h
  try simp only[go_sem]
  cases h
  rfl
 rw[if_neg (ffn hc2)]at h
 try simp only[go_sem]
 obtain⟨r11,hl12,h⟩:=bs h
 refine Wp.loopR zaV (n:=(0,[])) (a:=zDD) rfl (ziT a0 a1) (znA a0 a1) (zEC a0 a1) hl12 ?_ (by(repeat(first|refine Clo.block ?_|refine Clo.seq zaV rfl ?_));(exact Clo.ret)) ?_
 ·show Up (0,[]) (ziT a0 a1 0) _
  delta ziT
  exact Up.of (N:=7) (N':=7) [] rfl rfl (by decide) (.set (.d _) (.set (.d _) (.set (.d _) zae.none))) zah.at
 rcases r11 with(q13|q14)
 ·dsimp only at h
  dsimp only[znA]
  try simp only[go_sem]
  cases h
  rfl
 dsimp only at h
 dsimp only[znA]
 try simp only[go_sem]
 cases h
 rfl
def zme (a0:Sl (Step)) (a1:Sl (Step)) (x0:Int):St:=⟨(((Regs.none.set 0 (.d (.list a0.n (a0.l.map zaP)))).set 1 (.d (.list a1.n (a1.l.map zaP)))).set 5 (.d (.int .i64 x0))),(Heap.at 7)⟩
def ztc (a0:Sl (Step)) (a1:Sl (Step)):((Unit)⊕(Unit))→Ex×St:=fun r=>match r with
 |(.inl r)=>(.exit 0,⟨Regs.none,(Heap.at 7)⟩)
 |(.inr r)=>(.ret,⟨(Regs.none.set 4 (.d (.bool false))),(Heap.at 7)⟩)
noncomputable def zeR (a0:Sl (Step)) (a1:Sl (Step)) (x0:Int):Option ((Int)⊕((Unit)⊕(Unit))):=
 if(decide (x0<(a0.l.length:Int)))=true then
  (rd a0.l x0).bind fun y5=>
  (rd a1.l x0).bind fun y7=>
  if(!(decide (y5=y7)))=true then
   some (.inr (.inr ()))
  else
   some (.inl (IntKind.wrap .i64 (x0+1)))
 else
  some (.inr (.inl ()))
theorem zHY (a0:Sl (Step)) (a1:Sl (Step)) (x0:Int) (o:(Int)⊕((Unit)⊕(Unit))) (h:zeR a0 a1 x0=some o):Wp prog zMM (zme a0 a1 x0) (zbq (0,[]) (zme a0 a1) (ztc a0 a1) o):=by
 unfold zeR at h
 delta zMM zme
 try simp only[go_sem]
 refine zaf (fun hc3=> ?_) (fun hc4=> ?_)
 ·rw[if_pos hc3]at h
  try simp only[go_sem]
  obtain⟨y5,hy6,h⟩:=bs h
  try simp only[go_sem,zab hy6,zaj hy6,zac zaP hy6]
  obtain⟨y7,hy8,h⟩:=bs h
  try simp only[go_sem,zab hy6,zaj hy6,zac zaP hy6,zab hy8,zaj hy8,zac zaP hy8]
  refine zaz (fun hc9=> ?_) (fun hc10=> ?_)
  ·rw[if_pos (show(!(decide (y5=y7)))=true by(rw[hc9];rfl))]at h
   try simp only[go_sem,zab hy6,zaj hy6,zac zaP hy6,zab hy8,zaj hy8,zac zaP hy8]
   cases h
   exact⟨rfl,by simp,Up.of (N:=7) (N':=21) [] rfl rfl (by decide) (.set (.d _) zae.none) zah.at⟩
  rw[if_neg (ffn hc10)]at h
  try simp only[go_sem,zab hy6,zaj hy6,zac zaP hy6,zab hy8,zaj hy8,zac zaP hy8]
  cases h
  exact⟨rfl,Up.of (N:=7) (N':=23) [] rfl rfl (by decide) (.set (.d _) (.set (.d _) (.set (.d _) zae.none))) zah.at⟩
 rw[if_neg (ff hc4)]at h
 try simp only[go_sem]
 cases h
 exact⟨rfl,by simp,Up.of (N:=7) (N':=11) [] rfl rfl (by decide) zae.none zah.at⟩
noncomputable def P9 (a0:Sl (Step)) (a1:Sl (Step)):Option (Bool):=
 if(!((a0.l.length:Int)==(a1.l.length:Int)))=true then
  some false
 else
  (zaL (zeR a0 a1) 0).bind fun r11=>
  match r11 with
  |(.inl q13)=>
   some true
  |(.inr q14)=>
   some false
theorem ok9 (a0:Sl (Step)) (a1:Sl (Step)) (r:Bool) (h:P9 a0 a1=some r):pc prog 9 [.list a0.n (a0.l.map zaP),.list a1.n (a1.l.map zaP)]=some (D.bool r):=by
 unfold P9 at h
 refine zaQ (fn:=c9) rfl rfl ?_
 delta c9
 try simp only[go_sem]
 refine zaz (fun hc1=> ?_) (fun hc2=> ?_)
 ·rw[if_pos (show(!((a0.l.length:Int)==(a1.l.length:Int)))=true by(rw[hc1];rfl))]at h
  try simp only[go_sem]
  cases h
  rfl
 rw[if_neg (ffn hc2)]at h
 try simp only[go_sem]
 obtain⟨r11,hl12,h⟩:=bs h
 refine Wp.loopR zaV (n:=(0,[])) (a:=zMM) rfl (zme a0 a1) (ztc a0 a1) (zHY a0 a1) hl12 ?_ (by(repeat(first|refine Clo.block ?_|refine Clo.seq zaV rfl ?_));(exact Clo.ret)) ?_
 ·show Up (0,[]) (zme a0 a1 0) _
  delta zme
  exact Up.of (N:=7) (N':=7) [] rfl rfl (by decide) (.set (.d _) (.set (.d _) (.set (.d _) zae.none))) zah.at
 rcases r11 with(q13|q14)
 ·dsimp only at h
  dsimp only[ztc]
  try simp only[go_sem]
  cases h
  rfl
 dsimp only at h
 dsimp only[ztc]
 try simp only[go_sem]
 cases h
 rfl
theorem zmf {A:AProg} {n:Fx} {c:C} {s:St} {Q:Ex→St→Prop} (e0:Ex) (s0:St) (h:Wp A c s (zqX n e0 s0)) (hQ:Clo n Q) (hq:Q e0 s0):Wp A c s Q:=h.mono fun e t ⟨h1,h2⟩=>by subst h1;exact hQ _ _ _ h2 hq
def zmg (a0:Forest) (a1:Sl (Assign)) (a2:Int) (a3:Int) (a4:Bool) (x0:Int×List (Step)×Int×Bool):St:=⟨(((Regs.none.set 0 (.ptr 24 0 0)).set 3 (.d (.int .i64 x0.2.2.1))).set 4 (.d (.bool x0.2.2.2))),((((Heap.at 119).set 0 (some (.els 1 [.d (zaa a0)] 0))).set 24 (some (.els 7 [V.ofCells [.d (.list a0.nodes.n (a0.nodes.l.map zao)),.d (.list a1.n (a1.l.map zai)),.d (.int .i64 x0.1),.d (.int .i64 a3),.d (.int .i64 a2),.d (.bool a4),.sl 104 0 x0.2.1.length]] 0))).set 104 (some (.els 6 (x0.2.1.map fun z=>V.d (zaP z)) x0.2.1.length)))⟩
def ztd (a0:Forest) (a1:Sl (Assign)) (a2:Int) (a3:Int) (a4:Bool):((Int×List (Step))⊕(Int×List (Step)))→Ex×St:=fun r=>match r with
 |(.inl r)=>(.exit 0,⟨Regs.none,((((Heap.at 119).set 0 (some (.els 1 [.d (zaa a0)] 0))).set 24 (some (.els 7 [V.ofCells [.d (.list a0.nodes.n (a0.nodes.l.map zao)),.d (.list a1.n (a1.l.map zai)),.d (.int .i64 r.1),.d (.int .i64 a3),.d (.int .i64 a2),.d (.bool a4),.sl 118 0 r.2.length]] 0))).set 118 (some (.els 6 (r.2.map fun z=>V.d (zaP z)) r.2.length)))⟩)
 |(.inr r)=>(.ret,⟨Regs.none,((((Heap.at 119).set 0 (some (.els 1 [.d (zaa a0)] 0))).set 24 (some (.els 7 [V.ofCells [.d (.list a0.nodes.n (a0.nodes.l.map zao)),.d (.list a1.n (a1.l.map zai)),.d (.int .i64 r.1),.d (.int .i64 a3),.d (.int .i64 a2),.d (.bool a4),.sl 118 0 r.2.length]] 0))).set 118 (some (.els 6 (r.2.map fun z=>V.d (zaP z)) r.2.length)))⟩)
noncomputable def zcM (a0:Forest) (a1:Sl (Assign)) (a2:Int) (a3:Int) (a4:Bool) (x0:Int×List (Step)×Int×Bool):Option ((Int×List (Step)×Int×Bool)⊕((Int×List (Step))⊕(Int×List (Step)))):=
 if(!(x0.2.2.1==0))=true then
  (dec zao (pc prog 65 [zaa a0,.int .i64 x0.2.2.1])).bind fun r57=>
  (dec (D.int .i64) (pc prog 62 [zaa a0,.int .i64 a3,.int .i64 x0.2.2.1])).bind fun r59=>
  (dec (D.int .i64) (pc prog 67 [zaa a0,.int .i64 x0.1])).bind fun r61=>
  (dec D.bool (pc prog 66 [zaa a0,.int .i64 r61,.int .i64 x0.2.2.1])).bind fun r63=>
  (if r63=true then
   (dec zao (pc prog 50 [zaa a0,.int .i64 x0.2.2.1])).bind fun r67=>
   (dec zao (pc prog 65 [zaa a0,.int .i64 x0.2.2.1])).bind fun r69=>
   if(x0.2.1.length+1)*40≤AI.roomBytes then
    some (.inl (x0.1,(x0.2.1++[(⟨x0.2.2.1,(r69.kind==12),0,r59,(bif (r67.kind==12)then(r67.mode==2)else false),(bif (bif x0.2.2.2 then(r57.kind==12)else false)then(r57.mode==2)else false)⟩:Step)])))
   else none
  else
   if(x0.2.2.1==r59)=true then
    some (.inr ())
   else
    (dec zao (pc prog 50 [zaa a0,.int .i64 x0.2.2.1])).bind fun r77=>
    (dec zao (pc prog 65 [zaa a0,.int .i64 x0.2.2.1])).bind fun r79=>
    if(x0.2.1.length+1)*40≤AI.roomBytes then
     some (.inl (x0.2.2.1,(x0.2.1++[(⟨x0.2.2.1,(r79.kind==12),x0.2.2.1,r59,(bif (r77.kind==12)then(r77.mode==2)else false),(bif (bif x0.2.2.2 then(r57.kind==12)else false)then(r57.mode==2)else false)⟩:Step)])))
    else none:Option ((Int×List (Step))⊕(Unit))).bind fun r85=>
  match r85 with
  |(.inl q87)=>
   ((dec zao (pc prog 50 [zaa a0,.int .i64 x0.2.2.1])).bind fun r88=>
   (if(r88.kind==9)=true then
    some (.inr 0)
   else
    if(bif (r88.kind==12)then(!a4)else false)=true then
     (dec (D.int .i64) (pc prog 67 [zaa a0,.int .i64 a2])).bind fun r94=>
     if(x0.2.2.1==r94)=true then
      some (.inr 0)
     else
      if(r88.kind==12)=true then
       some (.inr r88.host)
      else
       some (.inl ())
    else
     if(r88.kind==12)=true then
      some (.inr r88.host)
     else
      some (.inl ()):Option ((Unit)⊕(Int))).bind fun r111=>
   match r111 with
   |(.inl q113)=>
    (dec (eT2 (D.int .i64) (D.int .i64)) (pc prog 51 [zaa a0,.list a1.n (a1.l.map zai),.int .i64 x0.2.2.1,.bool false])).bind fun r114=>
    if(!(r114.1==0))=true then
     some (r114.1,true)
    else
     some (r88.parent,false)
   |(.inr q118)=>
    some (q118,false):Option ((Int×Bool))).bind fun r119=>
   some (.inl (q87.1,q87.2,r119.1,r119.2))
  |(.inr q121)=>
   some (.inr (.inr (x0.1,x0.2.1)))
 else
  some (.inr (.inl (x0.1,x0.2.1)))
theorem zHZ (a0:Forest) (a1:Sl (Assign)) (a2:Int) (a3:Int) (a4:Bool) (x0:Int×List (Step)×Int×Bool) (o:(Int×List (Step)×Int×Bool)⊕((Int×List (Step))⊕(Int×List (Step)))) (h:zcM a0 a1 a2 a3 a4 x0=some o):Wp prog zDA (zmg a0 a1 a2 a3 a4 x0) (zbq (27,[]) (zmg a0 a1 a2 a3 a4) (ztd a0 a1 a2 a3 a4) o):=by
 unfold zcM at h
 delta zDA zmg
 try simp only[go_sem]
 refine zaz (fun hc55=> ?_) (fun hc56=> ?_)
 ·rw[if_pos (show(!(x0.2.2.1==0))=true by(rw[hc55];rfl))]at h
  try simp only[go_sem]
  obtain⟨r57,hr58,h⟩:=bs h
  replace hr58:=zag hr58
  refine zal hr58 ?_
  try simp only[go_sem]
  iterate 6 (refine zbs ?_;try simp only[go_sem])
  obtain⟨r59,hr60,h⟩:=bs h
  replace hr60:=zag hr60
  refine zal hr60 ?_
  try simp only[go_sem]
  obtain⟨r61,hr62,h⟩:=bs h
  replace hr62:=zag hr62
  refine zal hr62 ?_
  try simp only[go_sem]
  obtain⟨r63,hr64,h⟩:=bs h
  replace hr64:=zag hr64
  refine zal hr64 ?_
  try simp only[go_sem]
  obtain⟨r85,hl86,h⟩:=bs h
  refine znz (n:=(27,[])) (fun r=>match r with|(.inl r)=>(.normal,⟨((Regs.none.set 0 (.ptr 24 0 0)).set 3 (.d (.int .i64 x0.2.2.1))),((((Heap.at 168).set 0 (some (.els 1 [.d (zaa a0)] 0))).set 24 (some (.els 7 [V.ofCells [.d (.list a0.nodes.n (a0.nodes.l.map zao)),.d (.list a1.n (a1.l.map zai)),.d (.int .i64 r.1),.d (.int .i64 a3),.d (.int .i64 a2),.d (.bool a4),.sl 167 0 r.2.length]] 0))).set 167 (some (.els 6 (r.2.map fun z=>V.d (zaP z)) r.2.length)))⟩)|(.inr r)=>(.ret,⟨Regs.none,((((Heap.at 168).set 0 (some (.els 1 [.d (zaa a0)] 0))).set 24 (some (.els 7 [V.ofCells [.d (.list a0.nodes.n (a0.nodes.l.map zao)),.d (.list a1.n (a1.l.map zai)),.d (.int .i64 x0.1),.d (.int .i64 a3),.d (.int .i64 a2),.d (.bool a4),.sl 104 0 x0.2.1.length]] 0))).set 104 (some (.els 6 (x0.2.1.map fun z=>V.d (zaP z)) x0.2.1.length)))⟩):((Int×List (Step))⊕(Unit))→Ex×St) r85 ?_ (by(repeat(first|refine Clo.block ?_|refine Clo.seq zaV rfl ?_));(exact Clo.lpost (by decide))) ?_
  ·replace h:=hl86
   refine zaf (fun hc65=> ?_) (fun hc66=> ?_)
   ·rw[if_pos hc65]at h
    try simp only[go_sem]
    refine zcm (fn:=c63) rfl rfl ?_
    delta c63
    try simp only[go_sem]
    obtain⟨r67,hr68,h⟩:=bs h
    replace hr68:=zag hr68
    refine zal hr68 ?_
    try simp only[go_sem]
    obtain⟨r69,hr70,h⟩:=bs h
    replace hr70:=zag hr70
    refine zal hr70 ?_
    try simp only[go_sem]
    iterate 3 (refine zbs ?_;try simp only[go_sem])
    obtain⟨hm71,h⟩:=zbM h
    refine zdK (l:=x0.2.1.map fun z=>V.d (zaP z)) (fz:=x0.2.1.length) (new:=[V.d (.agg [.int .i64 x0.2.2.1,.bool (r69.kind==12),.int .i64 (0),.int .i64 r59,.bool (bif (r67.kind==12)then(r67.mode==2)else false),.bool (bif (bif x0.2.2.2 then(r57.kind==12)else false)then(r57.mode==2)else false)])]) (by simp only[go_sem,List.map_append,List.map_cons,List.map_nil]) (by simp only[go_sem,zbv,zbL,zbG,zbb,zfh]) (by simp) (by rfl) (by simp) (by simpa using hm71) ?_
    try simp only[go_sem,hm71]
    cases h
    refine⟨rfl,Up.of (N:=168) (N':=212) [(167,208)] rfl rfl (by decide) ?_ ?_⟩
    ·refine zae.set ?_ (zae.set ?_ zae.none)
     all_goals (try simp only[go_sem,List.map_append,List.map_cons,List.map_nil,hm71])
     all_goals (first|exact VR.d _|exact VR.ptr' rfl)
    refine zah.set (show zar _ _ (Heap.get _ 208)from ?_) (zah.set (show zar _ _ (Heap.get _ 24)from ?_) (zah.set (show zar _ _ (Heap.get _ 0)from ?_) (zah.at)))
    all_goals (try simp only[go_sem,List.map_append,List.map_cons,List.map_nil,hm71])
    all_goals (((repeat' first|exact zar.refl_d|refine zar.els (by simp) ?_|exact VR.d _|exact VR.sl'' rfl (by simp)|exact VRL.nil|exact VRL.refl_d _ _|refine VRL.append ?_ ?_|refine VRL.cons ?_ ?_|refine VRL.agg ?_);done))
   rw[if_neg (ff hc66)]at h
   try simp only[go_sem]
   refine zaf (fun hc75=> ?_) (fun hc76=> ?_)
   ·rw[if_pos hc75]at h
    try simp only[go_sem]
    cases h
    refine⟨rfl,Up.of (N:=168) (N':=172) [] rfl rfl (by decide) ?_ ?_⟩
    ·exact zae.none
    refine zah.set (show zar _ _ (Heap.get _ 104)from ?_) (zah.set (show zar _ _ (Heap.get _ 24)from ?_) (zah.set (show zar _ _ (Heap.get _ 0)from ?_) (zah.at)))
    all_goals (try simp only[go_sem,List.map_append,List.map_cons,List.map_nil])
    all_goals (((repeat' first|exact zar.refl_d|refine zar.els (by simp) ?_|exact VR.d _|exact VR.sl'' rfl (by simp)|exact VRL.nil|exact VRL.refl_d _ _|refine VRL.cons ?_ ?_|refine VRL.agg ?_);done))
   rw[if_neg (ff hc76)]at h
   try simp only[go_sem]
   refine zcm (fn:=c63) rfl rfl ?_
   delta c63
   try simp only[go_sem]
   obtain⟨r77,hr78,h⟩:=bs h
   replace hr78:=zag hr78
   refine zal hr78 ?_
   try simp only[go_sem]
   obtain⟨r79,hr80,h⟩:=bs h
   replace hr80:=zag hr80
   refine zal hr80 ?_
   try simp only[go_sem]
   iterate 3 (refine zbs ?_;try simp only[go_sem])
   obtain⟨hm81,h⟩:=zbM h
   refine zdK (l:=x0.2.1.map fun z=>V.d (zaP z)) (fz:=x0.2.1.length) (new:=[V.d (.agg [.int .i64 x0.2.2.1,.bool (r79.kind==12),.int .i64 x0.2.2.1,.int .i64 r59,.bool (bif (r77.kind==12)then(r77.mode==2)else false),.bool (bif (bif x0.2.2.2 then(r57.kind==12)else false)then(r57.mode==2)else false)])]) (by simp only[go_sem,List.map_append,List.map_cons,List.map_nil]) (by simp only[go_sem,zbv,zbL,zbG,zbb,zfh]) (by simp) (by rfl) (by simp) (by simpa using hm81) ?_
   try simp only[go_sem,hm81]
   cases h
   refine⟨rfl,Up.of (N:=168) (N':=222) [(167,218)] rfl rfl (by decide) ?_ ?_⟩
   ·refine zae.set ?_ (zae.set ?_ zae.none)
    all_goals (try simp only[go_sem,List.map_append,List.map_cons,List.map_nil,hm81])
    all_goals (first|exact VR.d _|exact VR.ptr' rfl)
   refine zah.set (show zar _ _ (Heap.get _ 218)from ?_) (zah.set (show zar _ _ (Heap.get _ 24)from ?_) (zah.set (show zar _ _ (Heap.get _ 0)from ?_) (zah.at)))
   all_goals (try simp only[go_sem,List.map_append,List.map_cons,List.map_nil,hm81])
   all_goals (((repeat' first|exact zar.refl_d|refine zar.els (by simp) ?_|exact VR.d _|exact VR.sl'' rfl (by simp)|exact VRL.nil|exact VRL.refl_d _ _|refine VRL.append ?_ ?_|refine VRL.cons ?_ ?_|refine VRL.agg ?_);done))
  rcases r85 with(q87|q121)
  ·dsimp only at h⊢
   try simp only[go_sem]
   refine zcm (fn:=c64) rfl rfl ?_
   obtain⟨r119,hl120,h⟩:=bs h
   refine zmf (n:=(176,[])) .ret ⟨((Regs.none.set 4 (.d (.int .i64 r119.1))).set 5 (.d (.bool r119.2))),((((Heap.at 176).set 0 (some (.els 1 [.d (zaa a0)] 0))).set 24 (some (.els 7 [V.ofCells [.d (.list a0.nodes.n (a0.nodes.l.map zao)),.d (.list a1.n (a1.l.map zai)),.d (.int .i64 q87.1),.d (.int .i64 a3),.d (.int .i64 a2),.d (.bool a4),.sl 167 0 q87.2.length]] 0))).set 167 (some (.els 6 (q87.2.map fun z=>V.d (zaP z)) q87.2.length)))⟩ ?_ (by(repeat(first|refine Clo.block ?_|refine Clo.seq zaV rfl ?_));refine Clo.inl zaV (n':=(27,[])) rfl rfl rfl ?_ ?_ (show Fx.spans _ 168 8=true from by decide) (by decide) ?_;((repeat(first|exact zaN.no|refine zaN.set ?_ ?_|exact zaI.d|exact zaI.ptr (by decide)));(repeat(first|exact zaN.no|exact zaN.none|refine zaN.set ?_ ?_|refine zaN.args ?_|exact zbi.nil|refine zbi.cons ?_ ?_|exact zaI.d|exact zaI.undef|exact zaI.rp|exact zaI.ptr (by decide)|exact zaI.sl (by decide)|exact zaI.mb (by decide)|exact zaI.map (by decide)|exact zaI.yld (by decide)|exact zaI.it (by decide)|refine zaI.clo ?_ ?_|refine zaI.ofCells ?_|refine zaI.agg ?_|refine zaI.tuple ?_|refine zaI.bif ?_ ?_)));(repeat(first|refine Clo.block ?_|refine Clo.seq zaV rfl ?_));(exact Clo.lpost (by decide))) ?_
   ·replace h:=hl120
    delta c64
    try simp only[go_sem]
    obtain⟨r88,hr89,h⟩:=bs h
    replace hr89:=zag hr89
    refine zal hr89 ?_
    try simp only[go_sem]
    obtain⟨r111,hl112,h⟩:=bs h
    refine znz (n:=(176,[])) (fun r=>match r with|(.inl r)=>(.normal,⟨(((Regs.none.set 0 (.ptr 24 0 0)).set 1 (.d (.int .i64 x0.2.2.1))).set 6 (.ptr 184 0 0)),(((((Heap.at 190).set 0 (some (.els 1 [.d (zaa a0)] 0))).set 24 (some (.els 7 [V.ofCells [.d (.list a0.nodes.n (a0.nodes.l.map zao)),.d (.list a1.n (a1.l.map zai)),.d (.int .i64 q87.1),.d (.int .i64 a3),.d (.int .i64 a2),.d (.bool a4),.sl 167 0 q87.2.length]] 0))).set 167 (some (.els 6 (q87.2.map fun z=>V.d (zaP z)) q87.2.length))).set 184 (some (.els 16 [.d (zao r88)] 0)))⟩)|(.inr r)=>(.ret,⟨((Regs.none.set 4 (.d (.int .i64 r))).set 5 (.d (.bool false))),((((Heap.at 190).set 0 (some (.els 1 [.d (zaa a0)] 0))).set 24 (some (.els 7 [V.ofCells [.d (.list a0.nodes.n (a0.nodes.l.map zao)),.d (.list a1.n (a1.l.map zai)),.d (.int .i64 q87.1),.d (.int .i64 a3),.d (.int .i64 a2),.d (.bool a4),.sl 167 0 q87.2.length]] 0))).set 167 (some (.els 6 (q87.2.map fun z=>V.d (zaP z)) q87.2.length)))⟩):((Unit)⊕(Int))→Ex×St) r111 ?_ (by(repeat(first|refine Clo.block ?_|refine Clo.seq zaV rfl ?_));(exact Clo.cpost (by decide))) ?_
    ·replace h:=hl112
     refine zaf (fun hc90=> ?_) (fun hc91=> ?_)
     ·rw[if_pos hc90]at h
      try simp only[go_sem]
      cases h
      refine⟨rfl,Up.of (N:=190) (N':=192) [] rfl rfl (by decide) ?_ ?_⟩
      ·refine zae.set ?_ (zae.set ?_ zae.none)
       all_goals (try simp only[go_sem,List.map_append,List.map_cons,List.map_nil])
       all_goals (exact VR.d _)
      refine zah.set (show zar _ _ (Heap.get _ 167)from ?_) (zah.set (show zar _ _ (Heap.get _ 24)from ?_) (zah.set (show zar _ _ (Heap.get _ 0)from ?_) (zah.at)))
      all_goals (try simp only[go_sem,List.map_append,List.map_cons,List.map_nil])
      all_goals (((repeat' first|exact zar.refl_d|refine zar.els (by simp) ?_|exact VR.d _|exact VR.sl'' rfl (by simp)|exact VRL.nil|exact VRL.refl_d _ _|refine VRL.cons ?_ ?_|refine VRL.agg ?_);done))
     rw[if_neg (ff hc91)]at h
     try simp only[go_sem]
     iterate 9 (refine zbs ?_;try simp only[go_sem])
     refine zax (fun hc92=> ?_) (fun hc93=> ?_)
     ·rw[if_pos hc92]at h
      try simp only[go_sem,hc92]
      obtain⟨r94,hr95,h⟩:=bs h
      replace hr95:=zag hr95
      refine zal hr95 ?_
      try simp only[go_sem]
      refine zaf (fun hc96=> ?_) (fun hc97=> ?_)
      ·rw[if_pos hc96]at h
       try simp only[go_sem]
       cases h
       refine⟨rfl,Up.of (N:=190) (N':=216) [] rfl rfl (by decide) ?_ ?_⟩
       ·refine zae.set ?_ (zae.set ?_ zae.none)
        all_goals (try simp only[go_sem,List.map_append,List.map_cons,List.map_nil])
        all_goals (exact VR.d _)
       refine zah.set (show zar _ _ (Heap.get _ 167)from ?_) (zah.set (show zar _ _ (Heap.get _ 24)from ?_) (zah.set (show zar _ _ (Heap.get _ 0)from ?_) (zah.at)))
       all_goals (try simp only[go_sem,List.map_append,List.map_cons,List.map_nil])
       all_goals (((repeat' first|exact zar.refl_d|refine zar.els (by simp) ?_|exact VR.d _|exact VR.sl'' rfl (by simp)|exact VRL.nil|exact VRL.refl_d _ _|refine VRL.cons ?_ ?_|refine VRL.agg ?_);done))
      rw[if_neg (ff hc97)]at h
      try simp only[go_sem]
      refine zaf (fun hc98=> ?_) (fun hc99=> ?_)
      ·rw[if_pos hc98]at h
       try simp only[go_sem]
       cases h
       refine⟨rfl,Up.of (N:=190) (N':=222) [] rfl rfl (by decide) ?_ ?_⟩
       ·refine zae.set ?_ (zae.set ?_ zae.none)
        all_goals (try simp only[go_sem,List.map_append,List.map_cons,List.map_nil])
        all_goals (exact VR.d _)
       refine zah.set (show zar _ _ (Heap.get _ 167)from ?_) (zah.set (show zar _ _ (Heap.get _ 24)from ?_) (zah.set (show zar _ _ (Heap.get _ 0)from ?_) (zah.at)))
       all_goals (try simp only[go_sem,List.map_append,List.map_cons,List.map_nil])
       all_goals (((repeat' first|exact zar.refl_d|refine zar.els (by simp) ?_|exact VR.d _|exact VR.sl'' rfl (by simp)|exact VRL.nil|exact VRL.refl_d _ _|refine VRL.cons ?_ ?_|refine VRL.agg ?_);done))
      rw[if_neg (ff hc99)]at h
      try simp only[go_sem]
      cases h
      refine⟨rfl,Up.of (N:=190) (N':=218) [] rfl rfl (by decide) ?_ ?_⟩
      ·refine zae.set ?_ (zae.set ?_ (zae.set ?_ zae.none))
       all_goals (try simp only[go_sem,List.map_append,List.map_cons,List.map_nil])
       all_goals (first|exact VR.d _|exact VR.ptr' rfl)
      refine zah.set (show zar _ _ (Heap.get _ 184)from ?_) (zah.set (show zar _ _ (Heap.get _ 167)from ?_) (zah.set (show zar _ _ (Heap.get _ 24)from ?_) (zah.set (show zar _ _ (Heap.get _ 0)from ?_) (zah.at))))
      all_goals (try simp only[go_sem,List.map_append,List.map_cons,List.map_nil])
      all_goals (((repeat' first|exact zar.refl_d|refine zar.els (by simp) ?_|exact VR.d _|exact VR.sl'' rfl (by simp)|exact VRL.nil|exact VRL.refl_d _ _|refine VRL.cons ?_ ?_|refine VRL.agg ?_);done))
     rw[if_neg (ff hc93)]at h
     try simp only[go_sem,hc93]
     refine zaf (fun hc100=> ?_) (fun hc101=> ?_)
     ·rw[if_pos hc100]at h
      try simp only[go_sem]
      cases h
      refine⟨rfl,Up.of (N:=190) (N':=222) [] rfl rfl (by decide) ?_ ?_⟩
      ·refine zae.set ?_ (zae.set ?_ zae.none)
       all_goals (try simp only[go_sem,List.map_append,List.map_cons,List.map_nil])
       all_goals (exact VR.d _)
      refine zah.set (show zar _ _ (Heap.get _ 167)from ?_) (zah.set (show zar _ _ (Heap.get _ 24)from ?_) (zah.set (show zar _ _ (Heap.get _ 0)from ?_) (zah.at)))
      all_goals (try simp only[go_sem,List.map_append,List.map_cons,List.map_nil])
      all_goals (((repeat' first|exact zar.refl_d|refine zar.els (by simp) ?_|exact VR.d _|exact VR.sl'' rfl (by simp)|exact VRL.nil|exact VRL.refl_d _ _|refine VRL.cons ?_ ?_|refine VRL.agg ?_);done))
     rw[if_neg (ff hc101)]at h
     try simp only[go_sem]
     cases h
     refine⟨rfl,Up.of (N:=190) (N':=218) [] rfl rfl (by decide) ?_ ?_⟩
     ·refine zae.set ?_ (zae.set ?_ (zae.set ?_ zae.none))
      all_goals (try simp only[go_sem,List.map_append,List.map_cons,List.map_nil])
      all_goals (first|exact VR.d _|exact VR.ptr' rfl)
     refine zah.set (show zar _ _ (Heap.get _ 184)from ?_) (zah.set (show zar _ _ (Heap.get _ 167)from ?_) (zah.set (show zar _ _ (Heap.get _ 24)from ?_) (zah.set (show zar _ _ (Heap.get _ 0)from ?_) (zah.at))))
     all_goals (try simp only[go_sem,List.map_append,List.map_cons,List.map_nil])
     all_goals (((repeat' first|exact zar.refl_d|refine zar.els (by simp) ?_|exact VR.d _|exact VR.sl'' rfl (by simp)|exact VRL.nil|exact VRL.refl_d _ _|refine VRL.cons ?_ ?_|refine VRL.agg ?_);done))
    rcases r111 with(q113|q118)
    ·dsimp only at h⊢
     try simp only[go_sem]
     obtain⟨r114,hr115,h⟩:=bs h
     replace hr115:=zag hr115
     refine zal hr115 ?_
     try simp only[go_sem]
     refine zaz (fun hc116=> ?_) (fun hc117=> ?_)
     ·rw[if_pos (show(!(r114.1==0))=true by(rw[hc116];rfl))]at h
      try simp only[go_sem]
      cases h
      refine⟨rfl,Up.of (N:=176) (N':=210) [] rfl rfl (by decide) ?_ ?_⟩
      ·refine zae.set ?_ (zae.set ?_ zae.none)
       all_goals (try simp only[go_sem,List.map_append,List.map_cons,List.map_nil])
       all_goals (exact VR.d _)
      refine zah.set (show zar _ _ (Heap.get _ 167)from ?_) (zah.set (show zar _ _ (Heap.get _ 24)from ?_) (zah.set (show zar _ _ (Heap.get _ 0)from ?_) (zah.at)))
      all_goals (try simp only[go_sem,List.map_append,List.map_cons,List.map_nil])
      all_goals (((repeat' first|exact zar.refl_d|refine zar.els (by simp) ?_|exact VR.d _|exact VR.sl'' rfl (by simp)|exact VRL.nil|exact VRL.refl_d _ _|refine VRL.cons ?_ ?_|refine VRL.agg ?_);done))
     rw[if_neg (ffn hc117)]at h
     try simp only[go_sem]
     cases h
     refine⟨rfl,Up.of (N:=176) (N':=211) [] rfl rfl (by decide) ?_ ?_⟩
     ·refine zae.set ?_ (zae.set ?_ zae.none)
      all_goals (try simp only[go_sem,List.map_append,List.map_cons,List.map_nil])
      all_goals (exact VR.d _)
     refine zah.set (show zar _ _ (Heap.get _ 167)from ?_) (zah.set (show zar _ _ (Heap.get _ 24)from ?_) (zah.set (show zar _ _ (Heap.get _ 0)from ?_) (zah.at)))
     all_goals (try simp only[go_sem,List.map_append,List.map_cons,List.map_nil])
     all_goals (((repeat' first|exact zar.refl_d|refine zar.els (by simp) ?_|exact VR.d _|exact VR.sl'' rfl (by simp)|exact VRL.nil|exact VRL.refl_d _ _|refine VRL.cons ?_ ?_|refine VRL.agg ?_);done))
    dsimp only at h⊢
    try simp only[go_sem]
    cases h
    refine⟨rfl,Up.of (N:=176) (N':=190) [] rfl rfl (by decide) ?_ ?_⟩
    ·refine zae.set ?_ (zae.set ?_ zae.none)
     all_goals (try simp only[go_sem,List.map_append,List.map_cons,List.map_nil])
     all_goals (exact VR.d _)
    refine zah.set (show zar _ _ (Heap.get _ 167)from ?_) (zah.set (show zar _ _ (Heap.get _ 24)from ?_) (zah.set (show zar _ _ (Heap.get _ 0)from ?_) (zah.at)))
    all_goals (try simp only[go_sem,List.map_append,List.map_cons,List.map_nil])
    all_goals (((repeat' first|exact zar.refl_d|refine zar.els (by simp) ?_|exact VR.d _|exact VR.sl'' rfl (by simp)|exact VRL.nil|exact VRL.refl_d _ _|refine VRL.cons ?_ ?_|refine VRL.agg ?_);done))
   delta c64
   try simp only[go_sem]
   cases h
   refine⟨rfl,Up.of (N:=119) (N':=176) [(104,167)] rfl rfl (by decide) ?_ ?_⟩
   ·refine zae.set ?_ (zae.set ?_ (zae.set ?_ zae.none))
    all_goals (try simp only[go_sem,List.map_append,List.map_cons,List.map_nil])
    all_goals (first|exact VR.d _|exact VR.ptr' rfl)
   refine zah.set (show zar _ _ (Heap.get _ 167)from ?_) (zah.set (show zar _ _ (Heap.get _ 24)from ?_) (zah.set (show zar _ _ (Heap.get _ 0)from ?_) (zah.at)))
   all_goals (try simp only[go_sem,List.map_append,List.map_cons,List.map_nil])
   all_goals (((repeat' first|exact zar.refl_d|refine zar.els (by simp) ?_|exact VR.d _|exact VR.sl'' rfl (by simp)|exact VRL.nil|exact VRL.refl_d _ _|refine VRL.cons ?_ ?_|refine VRL.agg ?_);done))
  dsimp only at h⊢
  try simp only[go_sem]
  cases h
  refine⟨rfl,by simp,Up.of (N:=119) (N':=168) [(104,118),(118,104)] rfl rfl (by decide) ?_ ?_⟩
  ·exact zae.none
  refine zah.set (show zar _ _ (Heap.get _ 104)from ?_) (zah.set (show zar _ _ (Heap.get _ 24)from ?_) (zah.set (show zar _ _ (Heap.get _ 0)from ?_) (zah.at)))
  all_goals (try simp only[go_sem,List.map_append,List.map_cons,List.map_nil])
  all_goals (((repeat' first|exact zar.refl_d|refine zar.els (by simp) ?_|exact VR.d _|exact VR.sl'' rfl (by simp)|exact VRL.nil|exact VRL.refl_d _ _|refine VRL.cons ?_ ?_|refine VRL.agg ?_);done))
 rw[if_neg (ffn hc56)]at h
 try simp only[go_sem]
 cases h
 refine⟨rfl,by simp,Up.of (N:=119) (N':=121) [(104,118),(118,104)] rfl rfl (by decide) ?_ ?_⟩
 ·exact zae.none
 refine zah.set (show zar _ _ (Heap.get _ 104)from ?_) (zah.set (show zar _ _ (Heap.get _ 24)from ?_) (zah.set (show zar _ _ (Heap.get _ 0)from ?_) (zah.at)))
 all_goals (try simp only[go_sem,List.map_append,List.map_cons,List.map_nil])
 all_goals (((repeat' first|exact zar.refl_d|refine zar.els (by simp) ?_|exact VR.d _|exact VR.sl'' rfl (by simp)|exact VRL.nil|exact VRL.refl_d _ _|refine VRL.cons ?_ ?_|refine VRL.agg ?_);done))
noncomputable def P7 (a0:Forest) (a1:Sl (Assign)) (a2:Int) (a3:Int) (a4:Bool):Option (Sl (Step)×Int):=
 (dec (D.int .i64) (pc prog 25 [zaa a0,.list a1.n (a1.l.map zai)])).bind fun r1=>
 (if(r1==0)=true then
  (dec (D.int .i64) (pc prog 26 [zaa a0,.list false (([a2]).map (D.int .i64))])).bind fun r5=>
  some r5
 else
  some r1:Option ((Int))).bind fun r7=>
 (if(bif (r7==0)then(!(a3==0))else false)=true then
  (dec (D.int .i64) (pc prog 26 [zaa a0,.list false (([a3]).map (D.int .i64))])).bind fun r11=>
  some r11
 else
  some r7:Option ((Int))).bind fun r13=>
 if(!(r13==0))=true then
  some (⟨true,[]⟩,r13)
 else
  (dec (D.int .i64) (pc prog 62 [zaa a0,.int .i64 a3,.int .i64 a2])).bind fun r17=>
  if(bif (a2==r17)then(!(a2==a3))else false)=true then
   some (⟨true,[]⟩,0)
  else
   (dec zao (pc prog 50 [zaa a0,.int .i64 a2])).bind fun r21=>
   (dec zao (pc prog 65 [zaa a0,.int .i64 a2])).bind fun r23=>
   if 1*40≤AI.roomBytes then
    ((dec zao (pc prog 50 [zaa a0,.int .i64 a2])).bind fun r26=>
    if(r26.kind==9)=true then
     some (0,false)
    else
     (if(bif (r26.kind==12)then(!a4)else false)=true then
      (dec (D.int .i64) (pc prog 67 [zaa a0,.int .i64 a2])).bind fun r32=>
      some (a2==r32)
     else
      some false:Option ((Bool))).bind fun r34=>
     if r34=true then
      some (0,false)
     else
      if(r26.kind==12)=true then
       some (r26.host,false)
      else
       (dec (eT2 (D.int .i64) (D.int .i64)) (pc prog 51 [zaa a0,.list a1.n (a1.l.map zai),.int .i64 a2,.bool false])).bind fun r40=>
       if(!(r40.1==0))=true then
        some (r40.1,true)
       else
        some (r26.parent,false):Option ((Int×Bool))).bind fun r53=>
    (zaL (zcM a0 a1 a2 a3 a4) (a2,[(⟨a2,(r23.kind==12),a2,r17,(bif (r21.kind==12)then(r21.mode==2)else false),false⟩:Step)],r53.1,r53.2)).bind fun r128=>
    match r128 with
    |(.inl q130)=>
     some (⟨false,q130.2⟩,0)
    |(.inr q131)=>
     some (⟨false,q131.2⟩,0)
   else none
theorem ok7 (a0:Forest) (a1:Sl (Assign)) (a2:Int) (a3:Int) (a4:Bool) (r:Sl (Step)×Int) (h:P7 a0 a1 a2 a3 a4=some r):pc prog 7 [zaa a0,.list a1.n (a1.l.map zai),.int .i64 a2,.int .i64 a3,.bool a4]=some ((eT2 (eSl zaP) (D.int .i64)) r):=by
 unfold P7 at h
 refine zaQ (fn:=c7) rfl rfl ?_
 delta c7
 try simp only[go_sem]
 obtain⟨r1,hr2,h⟩:=bs h
 replace hr2:=zag hr2
 refine zal hr2 ?_
 try simp only[go_sem]
 obtain⟨r7,hl8,h⟩:=bs h
 refine WBr.cut (n:=(0,[])) .normal ⟨((((((Regs.none.set 1 (.d (.list a1.n (a1.l.map zai)))).set 2 (.d (.int .i64 a2))).set 3 (.d (.int .i64 a3))).set 4 (.d (.bool a4))).set 5 (.ptr 0 0 0)).set 12 (.d (.int .i64 r7))),((Heap.at 9).set 0 (some (.els 1 [.d (zaa a0)] 0)))⟩ ?_ (by(repeat(refine Clo.seq zaV rfl ?_));(exact Clo.ret)) ?_
 ·replace h:=hl8
  refine zaf (fun hc3=> ?_) (fun hc4=> ?_)
  ·rw[if_pos hc3]at h
   try simp only[go_sem]
   obtain⟨r5,hr6,h⟩:=bs h
   replace hr6:=zag hr6
   refine zal hr6 ?_
   try simp only[go_sem]
   cases h
   exact⟨rfl,Up.of (N:=9) (N':=14) [] rfl rfl (by decide) (.set (.d _) (.set (.ptr' rfl) (.set (.d _) (.set (.d _) (.set (.d _) (.set (.d _) zae.none)))))) (.set zar.refl_d zah.at)⟩
  rw[if_neg (ff hc4)]at h
  try simp only[go_sem]
  cases h
  exact⟨rfl,Up.of (N:=9) (N':=9) [] rfl rfl (by decide) (.set (.d _) (.set (.ptr' rfl) (.set (.d _) (.set (.d _) (.set (.d _) (.set (.d _) zae.none)))))) (.set zar.refl_d zah.at)⟩
 try simp only[go_sem]
 iterate 2 (refine zbs ?_;try simp only[go_sem])
 obtain⟨r13,hl14,h⟩:=bs h
 refine WBr.cut (n:=(0,[])) .normal ⟨((((((Regs.none.set 1 (.d (.list a1.n (a1.l.map zai)))).set 2 (.d (.int .i64 a2))).set 3 (.d (.int .i64 a3))).set 4 (.d (.bool a4))).set 5 (.ptr 0 0 0)).set 12 (.d (.int .i64 r13))),((Heap.at 15).set 0 (some (.els 1 [.d (zaa a0)] 0)))⟩ ?_ (by(repeat(refine Clo.seq zaV rfl ?_));(exact Clo.ret)) ?_
 ·replace h:=hl14
  refine zaf (fun hc9=> ?_) (fun hc10=> ?_)
  ·rw[if_pos hc9]at h
   try simp only[go_sem]
   obtain⟨r11,hr12,h⟩:=bs h
   replace hr12:=zag hr12
   refine zal hr12 ?_
   try simp only[go_sem]
   cases h
   exact⟨rfl,Up.of (N:=15) (N':=20) [] rfl rfl (by decide) (.set (.d _) (.set (.ptr' rfl) (.set (.d _) (.set (.d _) (.set (.d _) (.set (.d _) zae.none)))))) (.set zar.refl_d zah.at)⟩
  rw[if_neg (ff hc10)]at h
  try simp only[go_sem]
  cases h
  exact⟨rfl,Up.of (N:=15) (N':=15) [] rfl rfl (by decide) (.set (.d _) (.set (.ptr' rfl) (.set (.d _) (.set (.d _) (.set (.d _) (.set (.d _) zae.none)))))) (.set zar.refl_d zah.at)⟩
 try simp only[go_sem]
 refine zaz (fun hc15=> ?_) (fun hc16=> ?_)
 ·rw[if_pos (show(!(r13==0))=true by(rw[hc15];rfl))]at h
  try simp only[go_sem]
  cases h
  rfl
 rw[if_neg (ffn hc16)]at h
 try simp only[go_sem]
 refine zcm (fn:=c27) rfl rfl ?_
 delta c27
 try simp only[go_sem]
 obtain⟨r17,hr18,h⟩:=bs h
 replace hr18:=zag hr18
 refine zal hr18 ?_
 try simp only[go_sem]
 iterate 9 (refine zbs ?_;try simp only[go_sem])
 refine zaf (fun hc19=> ?_) (fun hc20=> ?_)
 ·rw[if_pos hc19]at h
  try simp only[go_sem]
  cases h
  rfl
 rw[if_neg (ff hc20)]at h
 try simp only[go_sem]
 refine zcm (fn:=c63) rfl rfl ?_
 delta c63
 try simp only[go_sem]
 obtain⟨r21,hr22,h⟩:=bs h
 replace hr22:=zag hr22
 refine zal hr22 ?_
 try simp only[go_sem]
 obtain⟨r23,hr24,h⟩:=bs h
 replace hr24:=zag hr24
 refine zal hr24 ?_
 try simp only[go_sem]
 iterate 3 (refine zbs ?_;try simp only[go_sem])
 obtain⟨hm25,h⟩:=zbM h
 refine zym (new:=[V.d (.agg [.int .i64 a2,.bool (r23.kind==12),.int .i64 a2,.int .i64 r17,.bool (bif (r21.kind==12)then(r21.mode==2)else false),.bool false])]) (by simp only[go_sem,zbv,zbL,zbG,zbb,zfh]) (by simp) (by rfl) (by simpa using hm25) ?_
 try simp only[go_sem,hm25]
 refine zcm (fn:=c64) rfl rfl ?_
 obtain⟨r53,hl54,h⟩:=bs h
 refine zmf (n:=(119,[])) .ret ⟨((Regs.none.set 4 (.d (.int .i64 r53.1))).set 5 (.d (.bool r53.2))),((((Heap.at 119).set 0 (some (.els 1 [.d (zaa a0)] 0))).set 24 (some (.els 7 [V.ofCells [.d (.list a0.nodes.n (a0.nodes.l.map zao)),.d (.list a1.n (a1.l.map zai)),.d (.int .i64 a2),.d (.int .i64 a3),.d (.int .i64 a2),.d (.bool a4),.sl 104 0 (([(⟨a2,(r23.kind==12),a2,r17,(bif (r21.kind==12)then(r21.mode==2)else false),false⟩:Step)]).length)]] 0))).set 104 (some (.els 6 (([(⟨a2,(r23.kind==12),a2,r17,(bif (r21.kind==12)then(r21.mode==2)else false),false⟩:Step)]).map fun z=>V.d (zaP z)) (0))))⟩ ?_ (by(repeat(first|refine Clo.block ?_|refine Clo.seq zaV rfl ?_));refine Clo.inl zaV (n':=(27,[])) rfl rfl rfl ?_ ?_ (show Fx.spans _ 108 11=true from by decide) (by decide) ?_;((repeat(first|exact zaN.no|refine zaN.set ?_ ?_|refine zaN.args ?_|exact zbi.nil|refine zbi.cons ?_ ?_|exact zaI.d|exact zaI.ptr (by decide)));(repeat(first|exact zaN.no|exact zaN.none|refine zaN.set ?_ ?_|refine zaN.args ?_|exact zbi.nil|refine zbi.cons ?_ ?_|exact zaI.d|exact zaI.undef|exact zaI.rp|exact zaI.ptr (by decide)|exact zaI.sl (by decide)|exact zaI.mb (by decide)|exact zaI.map (by decide)|exact zaI.yld (by decide)|exact zaI.it (by decide)|refine zaI.clo ?_ ?_|refine zaI.ofCells ?_|refine zaI.agg ?_|refine zaI.tuple ?_|refine zaI.bif ?_ ?_)));(repeat(refine Clo.seq zaV rfl ?_));refine Clo.inl zaV (n':=(0,[])) rfl rfl rfl ?_ ?_ (show Fx.spans _ 26 1=true from by decide) (by decide) ?_;((repeat(first|exact zaN.no|refine zaN.set ?_ ?_|exact zaI.d|exact zaI.ptr (by decide)));(repeat(first|exact zaN.no|exact zaN.none|refine zaN.set ?_ ?_|refine zaN.args ?_|exact zbi.nil|refine zbi.cons ?_ ?_|exact zaI.d|exact zaI.undef|exact zaI.rp|exact zaI.ptr (by decide)|exact zaI.sl (by decide)|exact zaI.mb (by decide)|exact zaI.map (by decide)|exact zaI.yld (by decide)|exact zaI.it (by decide)|refine zaI.clo ?_ ?_|refine zaI.ofCells ?_|refine zaI.agg ?_|refine zaI.tuple ?_|refine zaI.bif ?_ ?_)));(repeat(refine Clo.seq zaV rfl ?_));(exact Clo.ret)) ?_
 ·replace h:=hl54
  delta c64
  try simp only[go_sem,hm25]
  obtain⟨r26,hr27,h⟩:=bs h
  replace hr27:=zag hr27
  refine zal hr27 ?_
  try simp only[go_sem,hm25]
  refine zaf (fun hc28=> ?_) (fun hc29=> ?_)
  ·rw[if_pos hc28]at h
   try simp only[go_sem,hm25]
   cases h
   refine⟨rfl,Up.of (N:=119) (N':=135) [] rfl rfl (by decide) ?_ ?_⟩
   ·refine zae.set ?_ (zae.set ?_ zae.none)
    all_goals (try simp only[go_sem,List.map_append,List.map_cons,List.map_nil,hm25])
    all_goals (exact VR.d _)
   refine zah.set (show zar _ _ (Heap.get _ 104)from ?_) (zah.set (show zar _ _ (Heap.get _ 24)from ?_) (zah.set (show zar _ _ (Heap.get _ 0)from ?_) (zah.at)))
   all_goals (try simp only[go_sem,List.map_append,List.map_cons,List.map_nil,hm25])
   all_goals (((repeat' first|exact zar.refl_d|refine zar.els (by simp) ?_|exact VR.d _|exact VR.sl'' rfl (by simp)|exact VRL.nil|refine VRL.cons ?_ ?_|refine VRL.agg ?_);done))
  rw[if_neg (ff hc29)]at h
  try simp only[go_sem,hm25]
  iterate 9 (refine zbs ?_;try simp only[go_sem,hm25])
  obtain⟨r34,hl35,h⟩:=bs h
  refine zbD.cut (n:=(119,[])) .normal ⟨((((Regs.none.set 0 (.ptr 24 0 0)).set 1 (.d (.int .i64 a2))).set 6 (.ptr 127 0 0)).set 19 (.d (.bool r34))),(((((Heap.at 157).set 0 (some (.els 1 [.d (zaa a0)] 0))).set 24 (some (.els 7 [V.ofCells [.d (.list a0.nodes.n (a0.nodes.l.map zao)),.d (.list a1.n (a1.l.map zai)),.d (.int .i64 a2),.d (.int .i64 a3),.d (.int .i64 a2),.d (.bool a4),.sl 104 0 (([(⟨a2,(r23.kind==12),a2,r17,(bif (r21.kind==12)then(r21.mode==2)else false),false⟩:Step)]).length)]] 0))).set 104 (some (.els 6 (([(⟨a2,(r23.kind==12),a2,r17,(bif (r21.kind==12)then(r21.mode==2)else false),false⟩:Step)]).map fun z=>V.d (zaP z)) (0)))).set 127 (some (.els 16 [.d (zao r26)] 0)))⟩ ?_ (by(repeat(first|refine Clo.block ?_|refine Clo.seq zaV rfl ?_));(exact Clo.cpost (by decide))) ?_
  ·replace h:=hl35
   refine zax (fun hc30=> ?_) (fun hc31=> ?_)
   ·rw[if_pos hc30]at h
    try simp only[go_sem,hm25,hc30]
    obtain⟨r32,hr33,h⟩:=bs h
    replace hr33:=zag hr33
    refine zal hr33 ?_
    try simp only[go_sem,hm25]
    cases h
    refine⟨rfl,Up.of (N:=157) (N':=157) [] rfl rfl (by decide) ?_ ?_⟩
    ·refine zae.set ?_ (zae.set ?_ (zae.set ?_ (zae.set ?_ zae.none)))
     all_goals (try simp only[go_sem,List.map_append,List.map_cons,List.map_nil,hm25])
     all_goals (first|exact VR.d _|exact VR.ptr' rfl)
    refine zah.set (show zar _ _ (Heap.get _ 127)from ?_) (zah.set (show zar _ _ (Heap.get _ 104)from ?_) (zah.set (show zar _ _ (Heap.get _ 24)from ?_) (zah.set (show zar _ _ (Heap.get _ 0)from ?_) (zah.at))))
    all_goals (try simp only[go_sem,List.map_append,List.map_cons,List.map_nil,hm25])
    all_goals (((repeat' first|exact zar.refl_d|refine zar.els (by simp) ?_|exact VR.d _|exact VR.sl'' rfl (by simp)|exact VRL.nil|refine VRL.cons ?_ ?_|refine VRL.agg ?_);done))
   rw[if_neg (ff hc31)]at h
   try simp only[go_sem,hm25,hc31]
   cases h
   refine⟨rfl,Up.of (N:=157) (N':=157) [] rfl rfl (by decide) ?_ ?_⟩
   ·refine zae.set ?_ (zae.set ?_ (zae.set ?_ (zae.set ?_ zae.none)))
    all_goals (try simp only[go_sem,List.map_append,List.map_cons,List.map_nil,hm25])
    all_goals (first|exact VR.d _|exact VR.ptr' rfl)
   refine zah.set (show zar _ _ (Heap.get _ 127)from ?_) (zah.set (show zar _ _ (Heap.get _ 104)from ?_) (zah.set (show zar _ _ (Heap.get _ 24)from ?_) (zah.set (show zar _ _ (Heap.get _ 0)from ?_) (zah.at))))
   all_goals (try simp only[go_sem,List.map_append,List.map_cons,List.map_nil,hm25])
   all_goals (((repeat' first|exact zar.refl_d|refine zar.els (by simp) ?_|exact VR.d _|exact VR.sl'' rfl (by simp)|exact VRL.nil|refine VRL.cons ?_ ?_|refine VRL.agg ?_);done))
  try simp only[go_sem,hm25]
  refine zaf (fun hc36=> ?_) (fun hc37=> ?_)
  ·rw[if_pos hc36]at h
   try simp only[go_sem,hm25]
   cases h
   refine⟨rfl,Up.of (N:=119) (N':=159) [] rfl rfl (by decide) ?_ ?_⟩
   ·refine zae.set ?_ (zae.set ?_ zae.none)
    all_goals (try simp only[go_sem,List.map_append,List.map_cons,List.map_nil,hm25])
    all_goals (exact VR.d _)
   refine zah.set (show zar _ _ (Heap.get _ 104)from ?_) (zah.set (show zar _ _ (Heap.get _ 24)from ?_) (zah.set (show zar _ _ (Heap.get _ 0)from ?_) (zah.at)))
   all_goals (try simp only[go_sem,List.map_append,List.map_cons,List.map_nil,hm25])
   all_goals (((repeat' first|exact zar.refl_d|refine zar.els (by simp) ?_|exact VR.d _|exact VR.sl'' rfl (by simp)|exact VRL.nil|refine VRL.cons ?_ ?_|refine VRL.agg ?_);done))
  rw[if_neg (ff hc37)]at h
  try simp only[go_sem,hm25]
  refine zaf (fun hc38=> ?_) (fun hc39=> ?_)
  ·rw[if_pos hc38]at h
   try simp only[go_sem,hm25]
   cases h
   refine⟨rfl,Up.of (N:=119) (N':=165) [] rfl rfl (by decide) ?_ ?_⟩
   ·refine zae.set ?_ (zae.set ?_ zae.none)
    all_goals (try simp only[go_sem,List.map_append,List.map_cons,List.map_nil,hm25])
    all_goals (exact VR.d _)
   refine zah.set (show zar _ _ (Heap.get _ 104)from ?_) (zah.set (show zar _ _ (Heap.get _ 24)from ?_) (zah.set (show zar _ _ (Heap.get _ 0)from ?_) (zah.at)))
   all_goals (try simp only[go_sem,List.map_append,List.map_cons,List.map_nil,hm25])
   all_goals (((repeat' first|exact zar.refl_d|refine zar.els (by simp) ?_|exact VR.d _|exact VR.sl'' rfl (by simp)|exact VRL.nil|refine VRL.cons ?_ ?_|refine VRL.agg ?_);done))
  rw[if_neg (ff hc39)]at h
  try simp only[go_sem,hm25]
  obtain⟨r40,hr41,h⟩:=bs h
  replace hr41:=zag hr41
  refine zal hr41 ?_
  try simp only[go_sem,hm25]
  refine zaz (fun hc42=> ?_) (fun hc43=> ?_)
  ·rw[if_pos (show(!(r40.1==0))=true by(rw[hc42];rfl))]at h
   try simp only[go_sem,hm25]
   cases h
   refine⟨rfl,Up.of (N:=119) (N':=181) [] rfl rfl (by decide) ?_ ?_⟩
   ·refine zae.set ?_ (zae.set ?_ zae.none)
    all_goals (try simp only[go_sem,List.map_append,List.map_cons,List.map_nil,hm25])
    all_goals (exact VR.d _)
   refine zah.set (show zar _ _ (Heap.get _ 104)from ?_) (zah.set (show zar _ _ (Heap.get _ 24)from ?_) (zah.set (show zar _ _ (Heap.get _ 0)from ?_) (zah.at)))
   all_goals (try simp only[go_sem,List.map_append,List.map_cons,List.map_nil,hm25])
   all_goals (((repeat' first|exact zar.refl_d|refine zar.els (by simp) ?_|exact VR.d _|exact VR.sl'' rfl (by simp)|exact VRL.nil|refine VRL.cons ?_ ?_|refine VRL.agg ?_);done))
  rw[if_neg (ffn hc43)]at h
  try simp only[go_sem,hm25]
  cases h
  refine⟨rfl,Up.of (N:=119) (N':=182) [] rfl rfl (by decide) ?_ ?_⟩
  ·refine zae.set ?_ (zae.set ?_ zae.none)
   all_goals (try simp only[go_sem,List.map_append,List.map_cons,List.map_nil,hm25])
   all_goals (exact VR.d _)
  refine zah.set (show zar _ _ (Heap.get _ 104)from ?_) (zah.set (show zar _ _ (Heap.get _ 24)from ?_) (zah.set (show zar _ _ (Heap.get _ 0)from ?_) (zah.at)))
  all_goals (try simp only[go_sem,List.map_append,List.map_cons,List.map_nil,hm25])
  all_goals (((repeat' first|exact zar.refl_d|refine zar.els (by simp) ?_|exact VR.d _|exact VR.sl'' rfl (by simp)|exact VRL.nil|refine VRL.cons ?_ ?_|refine VRL.agg ?_);done))
 delta c64
 try simp only[go_sem,hm25]
 obtain⟨r128,hl129,h⟩:=bs h
 refine Wp.loopR zaV (n:=(27,[])) (a:=zDA) rfl (zmg a0 a1 a2 a3 a4) (ztd a0 a1 a2 a3 a4) (zHZ a0 a1 a2 a3 a4) hl129 ?_ (by(repeat(refine Clo.block ?_));refine Clo.inl zaV (n':=(0,[])) rfl rfl rfl ?_ ?_ (show Fx.spans _ 26 1=true from by decide) (by decide) ?_;((repeat(first|exact zaN.no|refine zaN.set ?_ ?_|exact zaI.d|exact zaI.ptr (by decide)));(repeat(first|exact zaN.no|exact zaN.none|refine zaN.set ?_ ?_|refine zaN.args ?_|exact zbi.nil|refine zbi.cons ?_ ?_|exact zaI.d|exact zaI.undef|exact zaI.rp|exact zaI.ptr (by decide)|exact zaI.sl (by decide)|exact zaI.mb (by decide)|exact zaI.map (by decide)|exact zaI.yld (by decide)|exact zaI.it (by decide)|refine zaI.clo ?_ ?_|refine zaI.ofCells ?_|refine zaI.agg ?_|refine zaI.tuple ?_|refine zaI.bif ?_ ?_)));(repeat(refine Clo.seq zaV rfl ?_));(exact Clo.ret)) ?_
 ·show Up (27,[]) (zmg a0 a1 a2 a3 a4 (a2,[(⟨a2,(r23.kind==12),a2,r17,(bif (r21.kind==12)then(r21.mode==2)else false),false⟩:Step)],r53.1,r53.2)) _
  delta zmg
  refine Up.of (N:=119) (N':=119) [] rfl rfl (by decide) ?_ ?_
  ·refine zae.set ?_ (zae.set ?_ (zae.set ?_ zae.none))
   all_goals (try simp only[go_sem,List.map_append,List.map_cons,List.map_nil,hm25])
   all_goals (first|exact VR.d _|exact VR.ptr' rfl)
  refine zah.set (show zar _ _ (Heap.get _ 104)from ?_) (zah.set (show zar _ _ (Heap.get _ 24)from ?_) (zah.set (show zar _ _ (Heap.get _ 0)from ?_) (zah.at)))
  all_goals (try simp only[go_sem,List.map_append,List.map_cons,List.map_nil,hm25])
  all_goals (((repeat' first|exact zar.refl_d|refine zar.els (by simp) ?_|exact VR.d _|exact VR.sl'' rfl (by simp)|exact VRL.nil|refine VRL.cons ?_ ?_|refine VRL.agg ?_);done))
 rcases r128 with(q130|q131)
 ·dsimp only at h
  dsimp only[ztd]
  try simp only[go_sem,hm25]
  cases h
  refine Reads.ofv (v':=V.ofTuple [.sl 118 0 q130.2.length,.d (.int .i64 (0))]) (by rfl) (Rd.tuple (RdL.cons (Rd.sl (e:=zaP) (l:=q130.2) (sz:=6) (fz:=q130.2.length) (m:=q130.2.map fun z=>V.d (zaP z)) (by simp only[go_sem,List.map_append,List.map_cons,List.map_nil,hm25]) rfl (by simp)) (RdL.cons Rd.d RdL.nil))) rfl
 dsimp only at h
 dsimp only[ztd]
 try simp only[go_sem,hm25]
 cases h
 refine Reads.ofv (v':=V.ofTuple [.sl 118 0 q131.2.length,.d (.int .i64 (0))]) (by rfl) (Rd.tuple (RdL.cons (Rd.sl (e:=zaP) (l:=q131.2) (sz:=6) (fz:=q131.2.length) (m:=q131.2.map fun z=>V.d (zaP z)) (by simp only[go_sem,List.map_append,List.map_cons,List.map_nil,hm25]) rfl (by simp)) (RdL.cons Rd.d RdL.nil))) rfl
noncomputable def P65 (a0:Forest) (a1:Int):Option (Node):=
 (dec (D.int .i64) (pc prog 67 [zaa a0,.int .i64 a1])).bind fun r1=>
 (dec zao (pc prog 50 [zaa a0,.int .i64 r1])).bind fun r3=>
 some r3
theorem zQR (a0:Forest) (a1:Int) (r:Node) (h:P65 a0 a1=some r):pc prog 65 [zaa a0,.int .i64 a1]=some (zao r):=by
 unfold P65 at h
 refine zaQ (fn:=c65) rfl rfl ?_
 delta c65
 try simp only[go_sem]
 obtain⟨r1,hr2,h⟩:=bs h
 replace hr2:=zag hr2
 refine zal hr2 ?_
 try simp only[go_sem]
 obtain⟨r3,hr4,h⟩:=bs h
 replace hr4:=zag hr4
 refine zal hr4 ?_
 try simp only[go_sem]
 cases h
 rfl
noncomputable def zPV (a0:Forest) (a1:Int):Option (Bool):=
 (dec (D.int .i64) (pc prog 75 [zaa a0,.int .i64 a1])).bind fun r1=>
 (dec zao (pc prog 86 [zaa a0,.int .i64 r1])).bind fun r3=>
 some (r3.kind==12)
theorem zPW (a0:Forest) (a1:Int) (r:Bool) (h:zPV a0 a1=some r):pc prog 109 [zaa a0,.int .i64 a1]=some (D.bool r):=by
 unfold zPV at h
 refine zaQ (fn:=zMV) rfl rfl ?_
 delta zMV
 try simp only[go_sem]
 obtain⟨r1,hr2,h⟩:=bs h
 replace hr2:=zag hr2
 refine zal hr2 ?_
 try simp only[go_sem]
 obtain⟨r3,hr4,h⟩:=bs h
 replace hr4:=zag hr4
 refine zal hr4 ?_
 try simp only[go_sem]
 cases h
 rfl
noncomputable def P75 (a0:Forest) (a1:Int):Option (Int):=
 (dec (D.int .i64) (pc prog 87 [zaa a0,.int .i64 a1])).bind fun r1=>
 some r1
theorem zQS (a0:Forest) (a1:Int) (r:Int) (h:P75 a0 a1=some r):pc prog 75 [zaa a0,.int .i64 a1]=some ((D.int .i64) r):=by
 unfold P75 at h
 refine zaQ (fn:=c75) rfl rfl ?_
 delta c75
 try simp only[go_sem]
 obtain⟨r1,hr2,h⟩:=bs h
 replace hr2:=zag hr2
 refine zal hr2 ?_
 try simp only[go_sem]
 cases h
 rfl
def ziU (a0:Forest) (a2:Int) (x0:Int):St:=⟨(((Regs.none.set 1 (.d (.int .i64 x0))).set 2 (.d (.int .i64 a2))).set 3 (.ptr 0 0 0)),((Heap.at 2).set 0 (some (.els 1 [.d (zaa a0)] 0)))⟩
def znB (a0:Forest) (a2:Int):((Unit)⊕(Int))→Ex×St:=fun r=>match r with
 |(.inl r)=>(.exit 0,⟨Regs.none,(Heap.at 2)⟩)
 |(.inr r)=>(.ret,⟨(Regs.none.set 6 (.d (.int .i64 r))),(Heap.at 2)⟩)
noncomputable def zcZ (a0:Forest) (a2:Int) (x0:Int):Option ((Int)⊕((Unit)⊕(Int))):=
 if(!(x0==0))=true then
  (dec zao (pc prog 65 [zaa a0,.int .i64 x0])).bind fun r3=>
  if(r3.kind==12)=true then
   (dec (D.int .i64) (pc prog 67 [zaa a0,.int .i64 x0])).bind fun r7=>
   (dec D.bool (pc prog 66 [zaa a0,.int .i64 r7,.int .i64 a2])).bind fun r9=>
   if r9=true then
    some (.inr (.inr x0))
   else
    some (.inl r3.host)
  else
   some (.inr (.inr x0))
 else
  some (.inr (.inl ()))
theorem zED (a0:Forest) (a2:Int) (x0:Int) (o:(Int)⊕((Unit)⊕(Int))) (h:zcZ a0 a2 x0=some o):Wp prog zDF (ziU a0 a2 x0) (zbq (0,[]) (ziU a0 a2) (znB a0 a2) o):=by
 unfold zcZ at h
 delta zDF ziU
 try simp only[go_sem]
 refine zaz (fun hc1=> ?_) (fun hc2=> ?_)
 ·rw[if_pos (show(!(x0==0))=true by(rw[hc1];rfl))]at h
  try simp only[go_sem]
  obtain⟨r3,hr4,h⟩:=bs h
  replace hr4:=zag hr4
  refine zal hr4 ?_
  try simp only[go_sem]
  iterate 3 (refine zbs ?_;try simp only[go_sem])
  refine zax (fun hc5=> ?_) (fun hc6=> ?_)
  ·rw[if_pos hc5]at h
   try simp only[go_sem,hc5]
   obtain⟨r7,hr8,h⟩:=bs h
   replace hr8:=zag hr8
   refine zal hr8 ?_
   try simp only[go_sem]
   obtain⟨r9,hr10,h⟩:=bs h
   replace hr10:=zag hr10
   refine zal hr10 ?_
   try simp only[go_sem]
   refine zaf (fun hc11=> ?_) (fun hc12=> ?_)
   ·rw[if_pos hc11]at h
    try simp only[go_sem]
    cases h
    exact⟨rfl,by simp,Up.of (N:=2) (N':=22) [] rfl rfl (by decide) (.set (.d _) zae.none) zah.at⟩
   rw[if_neg (ff hc12)]at h
   try simp only[go_sem]
   cases h
   exact⟨rfl,Up.of (N:=2) (N':=23) [] rfl rfl (by decide) (.set (.ptr' rfl) (.set (.d _) (.set (.d _) zae.none))) (.set zar.refl_d zah.at)⟩
  rw[if_neg (ff hc6)]at h
  try simp only[go_sem,hc6]
  cases h
  exact⟨rfl,by simp,Up.of (N:=2) (N':=22) [] rfl rfl (by decide) (.set (.d _) zae.none) zah.at⟩
 rw[if_neg (ffn hc2)]at h
 try simp only[go_sem]
 cases h
 exact⟨rfl,by simp,Up.of (N:=2) (N':=4) [] rfl rfl (by decide) zae.none zah.at⟩
noncomputable def P62 (a0:Forest) (a1:Int) (a2:Int):Option (Int):=
 (zaL (zcZ a0 a2) a1).bind fun r16=>
 match r16 with
 |(.inl q18)=>
  some (0)
 |(.inr q19)=>
  some q19
theorem zQT (a0:Forest) (a1:Int) (a2:Int) (r:Int) (h:P62 a0 a1 a2=some r):pc prog 62 [zaa a0,.int .i64 a1,.int .i64 a2]=some ((D.int .i64) r):=by
 unfold P62 at h
 refine zaQ (fn:=c62) rfl rfl ?_
 delta c62
 try simp only[go_sem]
 obtain⟨r16,hl17,h⟩:=bs h
 refine Wp.loopR zaV (n:=(0,[])) (a:=zDF) rfl (ziU a0 a2) (znB a0 a2) (zED a0 a2) hl17 ?_ (by(repeat(first|refine Clo.block ?_|refine Clo.seq zaV rfl ?_));(exact Clo.ret)) ?_
 ·show Up (0,[]) (ziU a0 a2 a1) _
  delta ziU
  exact Up.of (N:=2) (N':=2) [] rfl rfl (by decide) (.set (.ptr' rfl) (.set (.d _) (.set (.d _) zae.none))) (.set zar.refl_d zah.at)
 rcases r16 with(q18|q19)
 ·dsimp only at h
  dsimp only[znB]
  try simp only[go_sem]
  cases h
  rfl
 dsimp only at h
 dsimp only[znB]
 try simp only[go_sem]
 cases h
 rfl
noncomputable def P66 (a0:Forest) (a1:Int) (a2:Int):Option (Bool):=
 (dec (eT2 D.bool (D.int .i64)) (pc prog 98 [zaa a0,.int .i64 a1,.int .i64 a2])).bind fun r1=>
 some r1.1
theorem zQU (a0:Forest) (a1:Int) (a2:Int) (r:Bool) (h:P66 a0 a1 a2=some r):pc prog 66 [zaa a0,.int .i64 a1,.int .i64 a2]=some (D.bool r):=by
 unfold P66 at h
 refine zaQ (fn:=c66) rfl rfl ?_
 delta c66
 try simp only[go_sem]
 obtain⟨r1,hr2,h⟩:=bs h
 replace hr2:=zag hr2
 refine zal hr2 ?_
 try simp only[go_sem]
 cases h
 rfl
noncomputable def P3 (a0:Forest) (a1:Sl (Assign)) (a2:Int) (a3:Int) (a4:Bool):Option (Bool):=
 (dec (eSl zai) (pc prog 6 [.list a1.n (a1.l.map zai)])).bind fun r1=>
 (dec (eT2 (eSl zaP) (D.int .i64)) (pc prog 7 [zaa a0,.list r1.n (r1.l.map zai),.int .i64 a2,.int .i64 a3,.bool a4])).bind fun r3=>
 (dec (eT2 (eSl zaP) (D.int .i64)) (pc prog 8 [zaa a0,.list a1.n (a1.l.map zai),.int .i64 a2,.int .i64 a3,.bool a4])).bind fun r5=>
 (dec D.bool (pc prog 9 [.list r3.1.n (r3.1.l.map zaP),.list r5.1.n (r5.1.l.map zaP)])).bind fun r7=>
 if(bif r7 then(r3.2==r5.2)else false)=true then
  (dec D.bool (pc prog 10 [.list r1.n (r1.l.map zai),.list a1.n (a1.l.map zai)])).bind fun r11=>
  if r11=true then
   (dec D.bool (pc prog 11 [])).bind fun r15=>
   some r15
  else
   some false
 else
  some false
theorem ok3 (a0:Forest) (a1:Sl (Assign)) (a2:Int) (a3:Int) (a4:Bool) (r:Bool) (h:P3 a0 a1 a2 a3 a4=some r):pc prog 3 [zaa a0,.list a1.n (a1.l.map zai),.int .i64 a2,.int .i64 a3,.bool a4]=some (D.bool r):=by
 unfold P3 at h
 refine zaQ (fn:=c3) rfl rfl ?_
 delta c3
 try simp only[go_sem]
 obtain⟨r1,hr2,h⟩:=bs h
 replace hr2:=zag hr2
 refine zal hr2 ?_
 try simp only[go_sem]
 obtain⟨r3,hr4,h⟩:=bs h
 replace hr4:=zag hr4
 refine zal hr4 ?_
 try simp only[go_sem]
 obtain⟨r5,hr6,h⟩:=bs h
 replace hr6:=zag hr6
 refine zal hr6 ?_
 try simp only[go_sem]
 obtain⟨r7,hr8,h⟩:=bs h
 replace hr8:=zag hr8
 refine zal hr8 ?_
 try simp only[go_sem]
 iterate 5 (refine zbs ?_;try simp only[go_sem])
 refine zax (fun hc9=> ?_) (fun hc10=> ?_)
 ·rw[if_pos hc9]at h
  try simp only[go_sem,hc9]
  obtain⟨r11,hr12,h⟩:=bs h
  replace hr12:=zag hr12
  refine zal hr12 ?_
  try simp only[go_sem]
  refine zax (fun hc13=> ?_) (fun hc14=> ?_)
  ·rw[if_pos hc13]at h
   try simp only[go_sem,hc13]
   obtain⟨r15,hr16,h⟩:=bs h
   replace hr16:=zag hr16
   refine zal hr16 ?_
   try simp only[go_sem]
   cases h
   rfl
  rw[if_neg (ff hc14)]at h
  try simp only[go_sem,hc14]
  cases h
  rfl
 rw[if_neg (ff hc10)]at h
 try simp only[go_sem,hc10]
 cases h
 rfl
noncomputable def P8 (a0:Forest) (a1:Sl (Assign)) (a2:Int) (a3:Int) (a4:Bool):Option (Sl (Step)×Int):=
 (dec (D.int .i64) (pc prog 28 [zaa a0,.list a1.n (a1.l.map zai)])).bind fun r1=>
 (if(r1==0)=true then
  (dec (D.int .i64) (pc prog 29 [zaa a0,.list false (([a2]).map (D.int .i64))])).bind fun r5=>
  some r5
 else
  some r1:Option ((Int))).bind fun r7=>
 (if(bif (r7==0)then(!(a3==0))else false)=true then
  (dec (D.int .i64) (pc prog 29 [zaa a0,.list false (([a3]).map (D.int .i64))])).bind fun r11=>
  some r11
 else
  some r7:Option ((Int))).bind fun r13=>
 if(!(r13==0))=true then
  some (⟨true,[]⟩,r13)
 else
  (dec (eSl zaP) (pc prog 30 [zaa a0,.list a1.n (a1.l.map zai),.int .i64 a2,.int .i64 a3,.bool a4])).bind fun r17=>
  some (r17,0)
theorem ok8 (a0:Forest) (a1:Sl (Assign)) (a2:Int) (a3:Int) (a4:Bool) (r:Sl (Step)×Int) (h:P8 a0 a1 a2 a3 a4=some r):pc prog 8 [zaa a0,.list a1.n (a1.l.map zai),.int .i64 a2,.int .i64 a3,.bool a4]=some ((eT2 (eSl zaP) (D.int .i64)) r):=by
 unfold P8 at h
 refine zaQ (fn:=c8) rfl rfl ?_
 delta c8
 try simp only[go_sem]
 obtain⟨r1,hr2,h⟩:=bs h
 replace hr2:=zag hr2
 refine zal hr2 ?_
 try simp only[go_sem]
 obtain⟨r7,hl8,h⟩:=bs h
 refine WBr.cut (n:=(0,[])) .normal ⟨((((((Regs.none.set 1 (.d (.list a1.n (a1.l.map zai)))).set 2 (.d (.int .i64 a2))).set 3 (.d (.int .i64 a3))).set 4 (.d (.bool a4))).set 5 (.ptr 0 0 0)).set 12 (.d (.int .i64 r7))),((Heap.at 9).set 0 (some (.els 1 [.d (zaa a0)] 0)))⟩ ?_ (by(repeat(refine Clo.seq zaV rfl ?_));(exact Clo.ret)) ?_
 ·replace h:=hl8
  refine zaf (fun hc3=> ?_) (fun hc4=> ?_)
  ·rw[if_pos hc3]at h
   try simp only[go_sem]
   obtain⟨r5,hr6,h⟩:=bs h
   replace hr6:=zag hr6
   refine zal hr6 ?_
   try simp only[go_sem]
   cases h
   exact⟨rfl,Up.of (N:=9) (N':=14) [] rfl rfl (by decide) (.set (.d _) (.set (.ptr' rfl) (.set (.d _) (.set (.d _) (.set (.d _) (.set (.d _) zae.none)))))) (.set zar.refl_d zah.at)⟩
  rw[if_neg (ff hc4)]at h
  try simp only[go_sem]
  cases h
  exact⟨rfl,Up.of (N:=9) (N':=9) [] rfl rfl (by decide) (.set (.d _) (.set (.ptr' rfl) (.set (.d _) (.set (.d _) (.set (.d _) (.set (.d _) zae.none)))))) (.set zar.refl_d zah.at)⟩
 try simp only[go_sem]
 iterate 2 (refine zbs ?_;try simp only[go_sem])
 obtain⟨r13,hl14,h⟩:=bs h
 refine WBr.cut (n:=(0,[])) .normal ⟨((((((Regs.none.set 1 (.d (.list a1.n (a1.l.map zai)))).set 2 (.d (.int .i64 a2))).set 3 (.d (.int .i64 a3))).set 4 (.d (.bool a4))).set 5 (.ptr 0 0 0)).set 12 (.d (.int .i64 r13))),((Heap.at 15).set 0 (some (.els 1 [.d (zaa a0)] 0)))⟩ ?_ (by(repeat(refine Clo.seq zaV rfl ?_));(exact Clo.ret)) ?_
 ·replace h:=hl14
  refine zaf (fun hc9=> ?_) (fun hc10=> ?_)
  ·rw[if_pos hc9]at h
   try simp only[go_sem]
   obtain⟨r11,hr12,h⟩:=bs h
   replace hr12:=zag hr12
   refine zal hr12 ?_
   try simp only[go_sem]
   cases h
   exact⟨rfl,Up.of (N:=15) (N':=20) [] rfl rfl (by decide) (.set (.d _) (.set (.ptr' rfl) (.set (.d _) (.set (.d _) (.set (.d _) (.set (.d _) zae.none)))))) (.set zar.refl_d zah.at)⟩
  rw[if_neg (ff hc10)]at h
  try simp only[go_sem]
  cases h
  exact⟨rfl,Up.of (N:=15) (N':=15) [] rfl rfl (by decide) (.set (.d _) (.set (.ptr' rfl) (.set (.d _) (.set (.d _) (.set (.d _) (.set (.d _) zae.none)))))) (.set zar.refl_d zah.at)⟩
 try simp only[go_sem]
 refine zaz (fun hc15=> ?_) (fun hc16=> ?_)
 ·rw[if_pos (show(!(r13==0))=true by(rw[hc15];rfl))]at h
  try simp only[go_sem]
  cases h
  rfl
 rw[if_neg (ffn hc16)]at h
 try simp only[go_sem]
 obtain⟨r17,hr18,h⟩:=bs h
 replace hr18:=zag hr18
 refine zal hr18 ?_
 try simp only[go_sem]
 cases h
 rfl
def ziV (a0:Sl (Assign)) (a1:Sl (Assign)) (x0:Int):St:=⟨(((Regs.none.set 0 (.d (.list a0.n (a0.l.map zai)))).set 1 (.d (.list a1.n (a1.l.map zai)))).set 5 (.d (.int .i64 x0))),(Heap.at 7)⟩
def znC (a0:Sl (Assign)) (a1:Sl (Assign)):((Unit)⊕(Unit))→Ex×St:=fun r=>match r with
 |(.inl r)=>(.exit 0,⟨Regs.none,(Heap.at 7)⟩)
 |(.inr r)=>(.ret,⟨(Regs.none.set 4 (.d (.bool false))),(Heap.at 7)⟩)
noncomputable def zdy (a0:Sl (Assign)) (a1:Sl (Assign)) (x0:Int):Option ((Int)⊕((Unit)⊕(Unit))):=
 if(decide (x0<(a0.l.length:Int)))=true then
  (rd a0.l x0).bind fun y5=>
  (rd a1.l x0).bind fun y7=>
  if(y5.slot==y7.slot)=true then
   (dec D.bool (pc prog 31 [.list y5.nodes.n (y5.nodes.l.map (D.int .i64)),.list y7.nodes.n (y7.nodes.l.map (D.int .i64))])).bind fun r11=>
   if(!r11)=true then
    some (.inr (.inr ()))
   else
    some (.inl (IntKind.wrap .i64 (x0+1)))
  else
   some (.inr (.inr ()))
 else
  some (.inr (.inl ()))
theorem zEE (a0:Sl (Assign)) (a1:Sl (Assign)) (x0:Int) (o:(Int)⊕((Unit)⊕(Unit))) (h:zdy a0 a1 x0=some o):Wp prog zDv (ziV a0 a1 x0) (zbq (0,[]) (ziV a0 a1) (znC a0 a1) o):=by
 unfold zdy at h
 delta zDv ziV
 try simp only[go_sem]
 refine zaf (fun hc3=> ?_) (fun hc4=> ?_)
 ·rw[if_pos hc3]at h
  try simp only[go_sem]
  obtain⟨y5,hy6,h⟩:=bs h
  try simp only[go_sem,zab hy6,zaj hy6,zac zai hy6]
  obtain⟨y7,hy8,h⟩:=bs h
  try simp only[go_sem,zab hy6,zaj hy6,zac zai hy6,zab hy8,zaj hy8,zac zai hy8]
  iterate 2 (refine zbs ?_;try simp only[go_sem,zab hy6,zaj hy6,zac zai hy6,zab hy8,zaj hy8,zac zai hy8])
  refine zax (fun hc9=> ?_) (fun hc10=> ?_)
  ·rw[if_pos hc9]at h
   try simp only[go_sem,zab hy6,zaj hy6,zac zai hy6,zab hy8,zaj hy8,zac zai hy8,hc9]
   obtain⟨r11,hr12,h⟩:=bs h
   replace hr12:=zag hr12
   refine zal hr12 ?_
   try simp only[go_sem,zab hy6,zaj hy6,zac zai hy6,zab hy8,zaj hy8,zac zai hy8]
   refine zaz (fun hc13=> ?_) (fun hc14=> ?_)
   ·rw[if_pos (show(!r11)=true by(rw[hc13];rfl))]at h
    try simp only[go_sem,zab hy6,zaj hy6,zac zai hy6,zab hy8,zaj hy8,zac zai hy8]
    cases h
    exact⟨rfl,by simp,Up.of (N:=7) (N':=37) [] rfl rfl (by decide) (.set (.d _) zae.none) zah.at⟩
   rw[if_neg (ffn hc14)]at h
   try simp only[go_sem,zab hy6,zaj hy6,zac zai hy6,zab hy8,zaj hy8,zac zai hy8]
   cases h
   exact⟨rfl,Up.of (N:=7) (N':=39) [] rfl rfl (by decide) (.set (.d _) (.set (.d _) (.set (.d _) zae.none))) zah.at⟩
  rw[if_neg (ff hc10)]at h
  try simp only[go_sem,zab hy6,zaj hy6,zac zai hy6,zab hy8,zaj hy8,zac zai hy8,hc10]
  cases h
  exact⟨rfl,by simp,Up.of (N:=7) (N':=37) [] rfl rfl (by decide) (.set (.d _) zae.none) zah.at⟩
 rw[if_neg (ff hc4)]at h
 try simp only[go_sem]
 cases h
 exact⟨rfl,by simp,Up.of (N:=7) (N':=11) [] rfl rfl (by decide) zae.none zah.at⟩
noncomputable def P10 (a0:Sl (Assign)) (a1:Sl (Assign)):Option (Bool):=
 if(!((a0.l.length:Int)==(a1.l.length:Int)))=true then
  some false
 else
  (zaL (zdy a0 a1) 0).bind fun r17=>
  match r17 with
  |(.inl q19)=>
   some true
  |(.inr q20)=>
   some false
theorem zQV (a0:Sl (Assign)) (a1:Sl (Assign)) (r:Bool) (h:P10 a0 a1=some r):pc prog 10 [.list a0.n (a0.l.map zai),.list a1.n (a1.l.map zai)]=some (D.bool r):=by
 unfold P10 at h
 refine zaQ (fn:=c10) rfl rfl ?_
 delta c10
 try simp only[go_sem]
 refine zaz (fun hc1=> ?_) (fun hc2=> ?_)
 ·rw[if_pos (show(!((a0.l.length:Int)==(a1.l.length:Int)))=true by(rw[hc1];rfl))]at h
  try simp only[go_sem]
  cases h
  rfl
 rw[if_neg (ffn hc2)]at h
 try simp only[go_sem]
 obtain⟨r17,hl18,h⟩:=bs h
 refine Wp.loopR zaV (n:=(0,[])) (a:=zDv) rfl (ziV a0 a1) (znC a0 a1) (zEE a0 a1) hl18 ?_ (by(repeat(first|refine Clo.block ?_|refine Clo.seq zaV rfl ?_));(exact Clo.ret)) ?_
 ·show Up (0,[]) (ziV a0 a1 0) _
  delta ziV
  exact Up.of (N:=7) (N':=7) [] rfl rfl (by decide) (.set (.d _) (.set (.d _) (.set (.d _) zae.none))) zah.at
 rcases r17 with(q19|q20)
 ·dsimp only at h
  dsimp only[znC]
  try simp only[go_sem]
  cases h
  rfl
 dsimp only at h
 dsimp only[znC]
 try simp only[go_sem]
 cases h
 rfl
noncomputable def P28 (a0:Forest) (a1:Sl (Assign)):Option (Int):=
 (dec D.bool (pc prog 33 [zaa a0])).bind fun r1=>
 if(!r1)=true then
  some (5)
 else
  (dec D.bool (pc prog 68 [.list a1.n (a1.l.map zai)])).bind fun r5=>
  if r5=true then
   some (3)
  else
   (dec (eSl (D.int .i64)) (pc prog 69 [.list a1.n (a1.l.map zai)])).bind fun r9=>
   (dec (D.int .i64) (pc prog 29 [zaa a0,.list r9.n (r9.l.map (D.int .i64))])).bind fun r11=>
   if(r11==0)=true then
    (dec D.bool (pc prog 70 [zaa a0,.list a1.n (a1.l.map zai)])).bind fun r15=>
    if(!r15)=true then
     some (23)
    else
     some r11
   else
    some r11
theorem zQW (a0:Forest) (a1:Sl (Assign)) (r:Int) (h:P28 a0 a1=some r):pc prog 28 [zaa a0,.list a1.n (a1.l.map zai)]=some ((D.int .i64) r):=by
 unfold P28 at h
 refine zaQ (fn:=c28) rfl rfl ?_
 delta c28
 try simp only[go_sem]
 obtain⟨r1,hr2,h⟩:=bs h
 replace hr2:=zag hr2
 refine zal hr2 ?_
 try simp only[go_sem]
 refine zaz (fun hc3=> ?_) (fun hc4=> ?_)
 ·rw[if_pos (show(!r1)=true by(rw[hc3];rfl))]at h
  try simp only[go_sem]
  cases h
  rfl
 rw[if_neg (ffn hc4)]at h
 try simp only[go_sem]
 obtain⟨r5,hr6,h⟩:=bs h
 replace hr6:=zag hr6
 refine zal hr6 ?_
 try simp only[go_sem]
 refine zaf (fun hc7=> ?_) (fun hc8=> ?_)
 ·rw[if_pos hc7]at h
  try simp only[go_sem]
  cases h
  rfl
 rw[if_neg (ff hc8)]at h
 try simp only[go_sem]
 obtain⟨r9,hr10,h⟩:=bs h
 replace hr10:=zag hr10
 refine zal hr10 ?_
 try simp only[go_sem]
 obtain⟨r11,hr12,h⟩:=bs h
 replace hr12:=zag hr12
 refine zal hr12 ?_
 try simp only[go_sem]
 iterate 2 (refine zbs ?_;try simp only[go_sem])
 refine zax (fun hc13=> ?_) (fun hc14=> ?_)
 ·rw[if_pos hc13]at h
  try simp only[go_sem,hc13]
  obtain⟨r15,hr16,h⟩:=bs h
  replace hr16:=zag hr16
  refine zal hr16 ?_
  try simp only[go_sem]
  refine zaz (fun hc17=> ?_) (fun hc18=> ?_)
  ·rw[if_pos (show(!r15)=true by(rw[hc17];rfl))]at h
   try simp only[go_sem]
   cases h
   rfl
  rw[if_neg (ffn hc18)]at h
  try simp only[go_sem]
  cases h
  rfl
 rw[if_neg (ff hc14)]at h
 try simp only[go_sem,hc14]
 cases h
 rfl
def ziW (a0:Forest) (a1:Sl (Assign)) (a2:Int) (a3:Int) (a4:Bool) (x0:List (Step)×Int×Int×Bool):St:=⟨(((((((((Regs.none.set 1 (.d (.list a1.n (a1.l.map zai)))).set 2 (.d (.int .i64 a2))).set 3 (.d (.int .i64 a3))).set 4 (.d (.bool a4))).set 5 (.ptr 0 0 0)).set 12 (.sl 20 0 x0.1.length)).set 13 (.d (.int .i64 x0.2.1))).set 14 (.d (.int .i64 x0.2.2.1))).set 15 (.d (.bool x0.2.2.2))),(((Heap.at 35).set 0 (some (.els 1 [.d (zaa a0)] 0))).set 20 (some (.els 6 (x0.1.map fun z=>V.d (zaP z)) x0.1.length)))⟩
def znD (a0:Forest) (a1:Sl (Assign)) (a2:Int) (a3:Int) (a4:Bool):((List (Step))⊕(List (Step)))→Ex×St:=fun r=>match r with
 |(.inl r)=>(.exit 0,⟨(Regs.none.set 12 (.sl 34 0 r.length)),((Heap.at 35).set 34 (some (.els 6 (r.map fun z=>V.d (zaP z)) r.length)))⟩)
 |(.inr r)=>(.ret,⟨(Regs.none.set 10 (.sl 34 0 r.length)),((Heap.at 35).set 34 (some (.els 6 (r.map fun z=>V.d (zaP z)) r.length)))⟩)
noncomputable def zcA (a0:Forest) (a1:Sl (Assign)) (a2:Int) (a3:Int) (a4:Bool) (x0:List (Step)×Int×Int×Bool):Option ((List (Step)×Int×Int×Bool)⊕((List (Step))⊕(List (Step)))):=
 if(!(x0.2.2.1==0))=true then
  (if x0.2.2.2=true then
   (dec (D.int .i64) (pc prog 75 [zaa a0,.int .i64 x0.2.2.1])).bind fun r13=>
   (dec D.bool (pc prog 74 [zaa a0,.int .i64 r13])).bind fun r15=>
   some r15
  else
   some false:Option ((Bool))).bind fun r17=>
  (dec (D.int .i64) (pc prog 71 [zaa a0,.int .i64 a3,.int .i64 x0.2.2.1])).bind fun r19=>
  (dec (D.int .i64) (pc prog 75 [zaa a0,.int .i64 x0.2.1])).bind fun r21=>
  (dec D.bool (pc prog 76 [zaa a0,.int .i64 r21,.int .i64 x0.2.2.1])).bind fun r23=>
  if r23=true then
   (dec zaP (pc prog 72 [zaa a0,.int .i64 x0.2.2.1,.int .i64 (0),.int .i64 r19,.bool r17])).bind fun r27=>
   if(x0.1.length+1)*40≤AI.roomBytes then
    (dec (eT2 (D.int .i64) D.bool) (pc prog 73 [zaa a0,.list a1.n (a1.l.map zai),.int .i64 x0.2.2.1,.int .i64 a2,.bool a4])).bind fun r30=>
    some (.inl ((x0.1++[r27]),x0.2.1,r30.1,r30.2))
   else none
  else
   if(x0.2.2.1==r19)=true then
    some (.inr (.inr x0.1))
   else
    (dec zaP (pc prog 72 [zaa a0,.int .i64 x0.2.2.1,.int .i64 x0.2.2.1,.int .i64 r19,.bool r17])).bind fun r34=>
    if(x0.1.length+1)*40≤AI.roomBytes then
     (dec (eT2 (D.int .i64) D.bool) (pc prog 73 [zaa a0,.list a1.n (a1.l.map zai),.int .i64 x0.2.2.1,.int .i64 a2,.bool a4])).bind fun r37=>
     some (.inl ((x0.1++[r34]),x0.2.2.1,r37.1,r37.2))
    else none
 else
  some (.inr (.inl x0.1))
theorem zEF (a0:Forest) (a1:Sl (Assign)) (a2:Int) (a3:Int) (a4:Bool) (x0:List (Step)×Int×Int×Bool) (o:(List (Step)×Int×Int×Bool)⊕((List (Step))⊕(List (Step)))) (h:zcA a0 a1 a2 a3 a4 x0=some o):Wp prog zDC (ziW a0 a1 a2 a3 a4 x0) (zbq (0,[]) (ziW a0 a1 a2 a3 a4) (znD a0 a1 a2 a3 a4) o):=by
 unfold zcA at h
 delta zDC ziW
 try simp only[go_sem]
 refine zaz (fun hc9=> ?_) (fun hc10=> ?_)
 ·rw[if_pos (show(!(x0.2.2.1==0))=true by(rw[hc9];rfl))]at h
  try simp only[go_sem]
  iterate 3 (refine zbs ?_;try simp only[go_sem])
  obtain⟨r17,hl18,h⟩:=bs h
  refine zbD.cut (n:=(0,[])) .normal ⟨(((((((((Regs.none.set 1 (.d (.list a1.n (a1.l.map zai)))).set 2 (.d (.int .i64 a2))).set 3 (.d (.int .i64 a3))).set 4 (.d (.bool a4))).set 5 (.ptr 0 0 0)).set 12 (.sl 20 0 x0.1.length)).set 13 (.d (.int .i64 x0.2.1))).set 14 (.d (.int .i64 x0.2.2.1))).set 16 (.d (.bool r17))),(((Heap.at 46).set 0 (some (.els 1 [.d (zaa a0)] 0))).set 20 (some (.els 6 (x0.1.map fun z=>V.d (zaP z)) x0.1.length)))⟩ ?_ (by(repeat(first|refine Clo.block ?_|refine Clo.seq zaV rfl ?_));(exact Clo.lpost (by decide))) ?_
  ·replace h:=hl18
   refine zax (fun hc11=> ?_) (fun hc12=> ?_)
   ·rw[if_pos hc11]at h
    try simp only[go_sem,hc11]
    obtain⟨r13,hr14,h⟩:=bs h
    replace hr14:=zag hr14
    refine zal hr14 ?_
    try simp only[go_sem]
    obtain⟨r15,hr16,h⟩:=bs h
    replace hr16:=zag hr16
    refine zal hr16 ?_
    try simp only[go_sem]
    cases h
    exact⟨rfl,Up.of (N:=46) (N':=46) [] rfl rfl (by decide) (.set (.d _) (.set (.d _) (.set (.d _) (.set (.sl'' rfl (by rfl)) (.set (.ptr' rfl) (.set (.d _) (.set (.d _) (.set (.d _) (.set (.d _) zae.none))))))))) (.set (zar.arr (e:=zaP) (l:=x0.1) (by rfl) (by exact Nat.le_refl _)) (.set zar.refl_d zah.at))⟩
   rw[if_neg (ff hc12)]at h
   try simp only[go_sem,hc12]
   cases h
   exact⟨rfl,Up.of (N:=46) (N':=46) [] rfl rfl (by decide) (.set (.d _) (.set (.d _) (.set (.d _) (.set (.sl'' rfl (by rfl)) (.set (.ptr' rfl) (.set (.d _) (.set (.d _) (.set (.d _) (.set (.d _) zae.none))))))))) (.set (zar.arr (e:=zaP) (l:=x0.1) (by rfl) (by exact Nat.le_refl _)) (.set zar.refl_d zah.at))⟩
  try simp only[go_sem]
  obtain⟨r19,hr20,h⟩:=bs h
  replace hr20:=zag hr20
  refine zal hr20 ?_
  try simp only[go_sem]
  obtain⟨r21,hr22,h⟩:=bs h
  replace hr22:=zag hr22
  refine zal hr22 ?_
  try simp only[go_sem]
  obtain⟨r23,hr24,h⟩:=bs h
  replace hr24:=zag hr24
  refine zal hr24 ?_
  try simp only[go_sem]
  refine zaf (fun hc25=> ?_) (fun hc26=> ?_)
  ·rw[if_pos hc25]at h
   try simp only[go_sem]
   obtain⟨r27,hr28,h⟩:=bs h
   replace hr28:=zag hr28
   refine zal hr28 ?_
   try simp only[go_sem]
   obtain⟨hm29,h⟩:=zbM h
   refine zdK (l:=x0.1.map fun z=>V.d (zaP z)) (fz:=x0.1.length) (new:=[V.d (zaP r27)]) (by simp only[go_sem,List.map_append,List.map_cons,List.map_nil]) (by simp only[go_sem,zbv,zbL,zbG,zbb,zfh]) (by simp) (by rfl) (by simp) (by simpa using hm29) ?_
   try simp only[go_sem,hm29]
   obtain⟨r30,hr31,h⟩:=bs h
   replace hr31:=zag hr31
   refine zal hr31 ?_
   try simp only[go_sem,hm29]
   cases h
   exact⟨rfl,Up.of (N:=35) (N':=78) [(20,65)] rfl rfl (by decide) (.set (.d _) (.set (.d _) (.set (.d _) (.set (.sl'' rfl (by(simp;done))) (.set (.ptr' rfl) (.set (.d _) (.set (.d _) (.set (.d _) (.set (.d _) zae.none))))))))) (.set (zar.arr (e:=zaP) (l:=(x0.1++[r27])) (by(simp;done)) (by simp)) (.set zar.refl_d zah.at))⟩
  rw[if_neg (ff hc26)]at h
  try simp only[go_sem]
  refine zaf (fun hc32=> ?_) (fun hc33=> ?_)
  ·rw[if_pos hc32]at h
   try simp only[go_sem]
   cases h
   exact⟨rfl,by simp,Up.of (N:=35) (N':=64) [(20,34),(34,20)] rfl rfl (by decide) (.set (.sl'' rfl (by rfl)) zae.none) (.set (zar.arr (e:=zaP) (l:=x0.1) (by rfl) (by exact Nat.le_refl _)) zah.at)⟩
  rw[if_neg (ff hc33)]at h
  try simp only[go_sem]
  obtain⟨r34,hr35,h⟩:=bs h
  replace hr35:=zag hr35
  refine zal hr35 ?_
  try simp only[go_sem]
  obtain⟨hm36,h⟩:=zbM h
  refine zdK (l:=x0.1.map fun z=>V.d (zaP z)) (fz:=x0.1.length) (new:=[V.d (zaP r34)]) (by simp only[go_sem,List.map_append,List.map_cons,List.map_nil]) (by simp only[go_sem,zbv,zbL,zbG,zbb,zfh]) (by simp) (by rfl) (by simp) (by simpa using hm36) ?_
  try simp only[go_sem,hm36]
  obtain⟨r37,hr38,h⟩:=bs h
  replace hr38:=zag hr38
  refine zal hr38 ?_
  try simp only[go_sem,hm36]
  cases h
  exact⟨rfl,Up.of (N:=35) (N':=85) [(20,72)] rfl rfl (by decide) (.set (.d _) (.set (.d _) (.set (.d _) (.set (.sl'' rfl (by(simp;done))) (.set (.ptr' rfl) (.set (.d _) (.set (.d _) (.set (.d _) (.set (.d _) zae.none))))))))) (.set (zar.arr (e:=zaP) (l:=(x0.1++[r34])) (by(simp;done)) (by simp)) (.set zar.refl_d zah.at))⟩
 rw[if_neg (ffn hc10)]at h
 try simp only[go_sem]
 cases h
 exact⟨rfl,by simp,Up.of (N:=35) (N':=37) [(20,34),(34,20)] rfl rfl (by decide) (.set (.sl'' rfl (by rfl)) zae.none) (.set (zar.arr (e:=zaP) (l:=x0.1) (by rfl) (by exact Nat.le_refl _)) zah.at)⟩
noncomputable def P30 (a0:Forest) (a1:Sl (Assign)) (a2:Int) (a3:Int) (a4:Bool):Option (Sl (Step)):=
 (dec (D.int .i64) (pc prog 71 [zaa a0,.int .i64 a3,.int .i64 a2])).bind fun r1=>
 if(bif (a2==r1)then(!(a2==a3))else false)=true then
  some (⟨true,[]⟩)
 else
  (dec zaP (pc prog 72 [zaa a0,.int .i64 a2,.int .i64 a2,.int .i64 r1,.bool false])).bind fun r5=>
  (dec (eT2 (D.int .i64) D.bool) (pc prog 73 [zaa a0,.list a1.n (a1.l.map zai),.int .i64 a2,.int .i64 a2,.bool a4])).bind fun r7=>
  (zaL (zcA a0 a1 a2 a3 a4) ([r5],a2,r7.1,r7.2)).bind fun r42=>
  match r42 with
  |(.inl q44)=>
   some (⟨false,q44⟩)
  |(.inr q45)=>
   some (⟨false,q45⟩)
theorem zQX (a0:Forest) (a1:Sl (Assign)) (a2:Int) (a3:Int) (a4:Bool) (r:Sl (Step)) (h:P30 a0 a1 a2 a3 a4=some r):pc prog 30 [zaa a0,.list a1.n (a1.l.map zai),.int .i64 a2,.int .i64 a3,.bool a4]=some ((eSl zaP) r):=by
 unfold P30 at h
 refine zaQ (fn:=c30) rfl rfl ?_
 delta c30
 try simp only[go_sem]
 obtain⟨r1,hr2,h⟩:=bs h
 replace hr2:=zag hr2
 refine zal hr2 ?_
 try simp only[go_sem]
 iterate 3 (refine zbs ?_;try simp only[go_sem])
 refine zaf (fun hc3=> ?_) (fun hc4=> ?_)
 ·rw[if_pos hc3]at h
  try simp only[go_sem]
  cases h
  rfl
 rw[if_neg (ff hc4)]at h
 try simp only[go_sem]
 obtain⟨r5,hr6,h⟩:=bs h
 replace hr6:=zag hr6
 refine zal hr6 ?_
 try simp only[go_sem]
 obtain⟨r7,hr8,h⟩:=bs h
 replace hr8:=zag hr8
 refine zal hr8 ?_
 try simp only[go_sem]
 obtain⟨r42,hl43,h⟩:=bs h
 refine Wp.loopR zaV (n:=(0,[])) (a:=zDC) rfl (ziW a0 a1 a2 a3 a4) (znD a0 a1 a2 a3 a4) (zEF a0 a1 a2 a3 a4) hl43 ?_ (by(repeat(first|refine Clo.block ?_|refine Clo.seq zaV rfl ?_));(exact Clo.ret)) ?_
 ·show Up (0,[]) (ziW a0 a1 a2 a3 a4 ([r5],a2,r7.1,r7.2)) _
  delta ziW
  refine Up.of (N:=35) (N':=35) [] rfl rfl (by decide) ?_ ?_
  ·refine zae.set ?_ (zae.set ?_ (zae.set ?_ (zae.set ?_ (zae.set ?_ (zae.set ?_ (zae.set ?_ (zae.set ?_ (zae.set ?_ zae.none))))))))
   all_goals (try simp only[go_sem,List.map_append,List.map_cons,List.map_nil])
   all_goals (first|exact VR.d _|exact VR.ptr' rfl|exact VR.sl'' rfl (by simp))
  refine zah.set (show zar _ _ (Heap.get _ 20)from ?_) (zah.set (show zar _ _ (Heap.get _ 0)from ?_) (zah.at))
  all_goals (try simp only[go_sem,List.map_append,List.map_cons,List.map_nil])
  all_goals (((repeat' first|exact zar.refl_d|refine zar.els (by simp) ?_|exact VR.d _|exact VRL.nil|refine VRL.cons ?_ ?_);done))
 rcases r42 with(q44|q45)
 ·dsimp only at h
  dsimp only[znD]
  try simp only[go_sem]
  cases h
  refine Reads.ofv (v':= .sl 34 0 q44.length) (by rfl) (Rd.sl (e:=zaP) (l:=q44) (sz:=6) (fz:=q44.length) (m:=q44.map fun z=>V.d (zaP z)) (by simp only[go_sem,List.map_append,List.map_cons,List.map_nil]) rfl (by simp)) rfl
 dsimp only at h
 dsimp only[znD]
 try simp only[go_sem]
 cases h
 refine Reads.ofv (v':= .sl 34 0 q45.length) (by rfl) (Rd.sl (e:=zaP) (l:=q45) (sz:=6) (fz:=q45.length) (m:=q45.map fun z=>V.d (zaP z)) (by simp only[go_sem,List.map_append,List.map_cons,List.map_nil]) rfl (by simp)) rfl
def ziX (a0:Sl (Assign)) (x0:Int):St:=⟨((Regs.none.set 0 (.d (.list a0.n (a0.l.map zai)))).set 3 (.d (.int .i64 x0))),(Heap.at 2)⟩
def znE (a0:Sl (Assign)):((Unit)⊕(Unit))→Ex×St:=fun r=>match r with
 |(.inl r)=>(.exit 0,⟨(Regs.none.set 0 (.d (.list a0.n (a0.l.map zai)))),(Heap.at 2)⟩)
 |(.inr r)=>(.ret,⟨(Regs.none.set 2 (.d (.bool true))),(Heap.at 2)⟩)
noncomputable def zeS (a0:Sl (Assign)) (x0:Int):Option ((Int)⊕((Unit)⊕(Unit))):=
 if(decide (x0<(a0.l.length:Int)))=true then
  (rd a0.l x0).bind fun y3=>
  if(decide (4096<(y3.nodes.l.length:Int)))=true then
   some (.inr (.inr ()))
  else
   some (.inl (IntKind.wrap .i64 (x0+1)))
 else
  some (.inr (.inl ()))
theorem zEG (a0:Sl (Assign)) (x0:Int) (o:(Int)⊕((Unit)⊕(Unit))) (h:zeS a0 x0=some o):Wp prog zDI (ziX a0 x0) (zbq (0,[]) (ziX a0) (znE a0) o):=by
 unfold zeS at h
 delta zDI ziX
 try simp only[go_sem]
 refine zaf (fun hc1=> ?_) (fun hc2=> ?_)
 ·rw[if_pos hc1]at h
  try simp only[go_sem]
  obtain⟨y3,hy4,h⟩:=bs h
  try simp only[go_sem,zab hy4,zaj hy4,zac zai hy4]
  refine zaf (fun hc5=> ?_) (fun hc6=> ?_)
  ·rw[if_pos hc5]at h
   try simp only[go_sem,zab hy4,zaj hy4,zac zai hy4]
   cases h
   exact⟨rfl,by simp,Up.of (N:=2) (N':=14) [] rfl rfl (by decide) (.set (.d _) zae.none) zah.at⟩
  rw[if_neg (ff hc6)]at h
  try simp only[go_sem,zab hy4,zaj hy4,zac zai hy4]
  cases h
  exact⟨rfl,Up.of (N:=2) (N':=16) [] rfl rfl (by decide) (.set (.d _) (.set (.d _) zae.none)) zah.at⟩
 rw[if_neg (ff hc2)]at h
 try simp only[go_sem]
 cases h
 exact⟨rfl,by simp,Up.of (N:=2) (N':=6) [] rfl rfl (by decide) (.set (.d _) zae.none) zah.at⟩
noncomputable def P68 (a0:Sl (Assign)):Option (Bool):=
 (zaL (zeS a0) 0).bind fun r7=>
 match r7 with
 |(.inl q9)=>
  some (decide (4096<(a0.l.length:Int)))
 |(.inr q10)=>
  some true
theorem zQY (a0:Sl (Assign)) (r:Bool) (h:P68 a0=some r):pc prog 68 [.list a0.n (a0.l.map zai)]=some (D.bool r):=by
 unfold P68 at h
 refine zaQ (fn:=c68) rfl rfl ?_
 delta c68
 try simp only[go_sem]
 obtain⟨r7,hl8,h⟩:=bs h
 refine Wp.loopR zaV (n:=(0,[])) (a:=zDI) rfl (ziX a0) (znE a0) (zEG a0) hl8 ?_ (by(repeat(first|refine Clo.block ?_|refine Clo.seq zaV rfl ?_));(exact Clo.ret)) ?_
 ·show Up (0,[]) (ziX a0 0) _
  delta ziX
  exact Up.of (N:=2) (N':=2) [] rfl rfl (by decide) (.set (.d _) (.set (.d _) zae.none)) zah.at
 rcases r7 with(q9|q10)
 ·dsimp only at h
  dsimp only[znE]
  try simp only[go_sem]
  cases h
  rfl
 dsimp only at h
 dsimp only[znE]
 try simp only[go_sem]
 cases h
 rfl
def ziY (a0:Sl (Assign)) (x0:List (Int)×Int):St:=⟨(((Regs.none.set 0 (.d (.list a0.n (a0.l.map zai)))).set 3 (mb 1 (x0.1.map fun z=>V.d ((D.int .i64) z)))).set 4 (.d (.int .i64 x0.2))),((Heap.at 3).set 1 (mbB 1 x0.1.length (x0.1.map fun z=>V.d ((D.int .i64) z))))⟩
def zrE (a0:Sl (Assign)):((List (Int)))→Ex×St:=fun r=>(.exit 0,⟨(Regs.none.set 3 (mb 2 (r.map fun z=>V.d ((D.int .i64) z)))),((Heap.at 3).set 2 (mbB 1 r.length (r.map fun z=>V.d ((D.int .i64) z))))⟩)
noncomputable def zdz (a0:Sl (Assign)) (x0:List (Int)×Int):Option ((List (Int)×Int)⊕((List (Int)))):=
 if(decide (x0.2<(a0.l.length:Int)))=true then
  (rd a0.l x0.2).bind fun y3=>
  if(x0.1.length+1)*8≤AI.roomBytes then
   if y3.nodes.l=[]then
    some (.inl ((x0.1++[y3.slot]),(IntKind.wrap .i64 (x0.2+1))))
   else
    if((x0.1++[y3.slot]).length+y3.nodes.l.length)*8≤AI.roomBytes then
     some (.inl (((x0.1++[y3.slot])++y3.nodes.l),(IntKind.wrap .i64 (x0.2+1))))
    else none
  else none
 else
  some (.inr x0.1)
theorem zEH (a0:Sl (Assign)) (x0:List (Int)×Int) (o:(List (Int)×Int)⊕((List (Int)))) (h:zdz a0 x0=some o):Wp prog zDJ (ziY a0 x0) (zbq (0,[]) (ziY a0) (zrE a0) o):=by
 unfold zdz at h
 delta zDJ ziY
 try simp only[go_sem]
 refine zaf (fun hc1=> ?_) (fun hc2=> ?_)
 ·rw[if_pos hc1]at h
  try simp only[go_sem]
  obtain⟨y3,hy4,h⟩:=bs h
  try simp only[go_sem,zab hy4,zaj hy4,zac zai hy4]
  obtain⟨hm5,h⟩:=zbM h
  refine zfB (l:=x0.1.map fun z=>V.d ((D.int .i64) z)) (new:=[V.d (.int .i64 y3.slot)]) (sz:=1) (fz:=x0.1.length) (by simp only[go_sem,List.map_append,List.map_cons,List.map_nil,zab hy4,zaj hy4,zac zai hy4]) (by intro h;simpa using h) (by simp only[go_sem,zbv,zbL,zbG,zbb,zfh]) (by simp) (by rfl) (by simpa using hm5) ?_
  try simp only[go_sem,zab hy4,zaj hy4,zac zai hy4,hm5]
  by_cases hz6:y3.nodes.l=[]
  ·rw[if_pos hz6]at h
   refine zkJ (by simp only[go_sem,zbv,zbL,zbG,zbb,zfh,List.map_nil,hz6]) (by rfl) ?_
   try simp only[go_sem,zab hy4,zaj hy4,zac zai hy4,hm5]
   cases h
   refine⟨rfl,Up.of (N:=3) (N':=25) [(1,14)] rfl rfl (by decide) ?_ ?_⟩
   ·refine zae.set ?_ (zae.set ?_ (zae.set ?_ zae.none))
    all_goals (try simp only[go_sem,List.map_append,List.map_cons,List.map_nil,zab hy4,zaj hy4,zac zai hy4,hm5])
    all_goals (first|exact VR.d _|exact VR.mb_sl (by(simp;done)) rfl (by(simp;done)))
   refine zah.set (show zar _ _ (Heap.get _ 14)from ?_) (zah.at)
   all_goals (try simp only[go_sem,List.map_append,List.map_cons,List.map_nil,zab hy4,zaj hy4,zac zai hy4,hm5])
   all_goals (((repeat' first|refine zar.mb_els (by simp) ?_|exact VR.d _|exact VRL.nil|exact VRL.refl_d _ _|refine VRL.append ?_ ?_|refine VRL.cons ?_ ?_);done))
  have hz7:=hz6;rw[if_neg hz7]at h
  obtain⟨hm8,h⟩:=zbM h
  refine zdK (l:=(x0.1++[y3.slot]).map fun z=>V.d ((D.int .i64) z)) (fz:=x0.1.length) (new:=y3.nodes.l.map fun z=>V.d ((D.int .i64) z)) (by simp only[go_sem,List.map_append,List.map_cons,List.map_nil,zab hy4,zaj hy4,zac zai hy4,hm5]) (by simp only[go_sem,zbv,zbL,zbG,zbb,zfh]) (by simpa using hz7) (by rw[←zfh];exact zfU (e:=(D.int .i64)) (fun _=>rfl) (fun _=>rfl) _) (by simp) (by simpa using hm8) ?_
  try rw[←List.map_append]
  try simp only[go_sem,zab hy4,zaj hy4,zac zai hy4,hm5,hm8]
  cases h
  refine⟨rfl,Up.of (N:=3) (N':=25) [(1,20)] rfl rfl (by decide) ?_ ?_⟩
  ·refine zae.set ?_ (zae.set ?_ (zae.set ?_ zae.none))
   all_goals (try simp only[go_sem,List.map_append,List.map_cons,List.map_nil,zab hy4,zaj hy4,zac zai hy4,hm5,hm8])
   all_goals (first|exact VR.d _|exact VR.mb_sl (by(simp;done)) rfl (by(simp;omega)))
  refine zah.set (show zar _ _ (Heap.get _ 20)from ?_) (zah.at)
  all_goals (try simp only[go_sem,List.map_append,List.map_cons,List.map_nil,zab hy4,zaj hy4,zac zai hy4,hm5,hm8])
  all_goals (((repeat' first|refine zar.mb_els (by simp) ?_|exact VR.d _|exact VRL.nil|exact VRL.refl_d _ _|refine VRL.append ?_ ?_|refine VRL.cons ?_ ?_);done))
 rw[if_neg (ff hc2)]at h
 try simp only[go_sem]
 cases h
 refine⟨rfl,by simp,Up.of (N:=3) (N':=7) [(1,2),(2,1)] rfl rfl (by decide) ?_ ?_⟩
 ·refine zae.set ?_ zae.none
  all_goals (try simp only[go_sem,List.map_append,List.map_cons,List.map_nil])
  all_goals (exact VR.mb rfl)
 refine zah.set (show zar _ _ (Heap.get _ 1)from ?_) (zah.at)
 all_goals (try simp only[go_sem,List.map_append,List.map_cons,List.map_nil])
 all_goals (((repeat' first|refine zar.mb (by simp) ?_|exact VRL.refl_d _ _);done))
noncomputable def P69 (a0:Sl (Assign)):Option (Sl (Int)):=
 (zaL (zdz a0) ([],0)).bind fun r9=>
 some (⟨r9.isEmpty,r9⟩)
theorem zQZ (a0:Sl (Assign)) (r:Sl (Int)) (h:P69 a0=some r):pc prog 69 [.list a0.n (a0.l.map zai)]=some ((eSl (D.int .i64)) r):=by
 unfold P69 at h
 refine zaQ (fn:=c69) rfl rfl ?_
 delta c69
 try simp only[go_sem]
 obtain⟨r9,hl10,h⟩:=bs h
 refine Wp.loopR zaV (n:=(0,[])) (a:=zDJ) rfl (ziY a0) (zrE a0) (zEH a0) hl10 ?_ (by(repeat(first|refine Clo.block ?_|refine Clo.seq zaV rfl ?_));(exact Clo.ret)) ?_
 ·show Up (0,[]) (ziY a0 ([],0)) _
  delta ziY
  refine Up.of (N:=3) (N':=3) [] rfl rfl (by decide) ?_ ?_
  ·refine zae.set ?_ (zae.set ?_ (zae.set ?_ zae.none))
   all_goals (try simp only[go_sem,List.map_append,List.map_cons,List.map_nil])
   all_goals (exact VR.d _)
  refine zah.set (show zar _ _ (Heap.get _ 1)from ?_) (zah.at)
  all_goals (try simp only[go_sem,List.map_append,List.map_cons,List.map_nil])
  all_goals (((repeat' trivial);done))
 dsimp only[zrE]
 try simp only[go_sem]
 cases h
 refine Reads.ofv (v':=mb 2 (r9.map fun z=>V.d ((D.int .i64) z))) (by rfl) (Rd.mb (e:=(D.int .i64)) (l:=r9) (sz:=1) (fz:=r9.length) (by simp only[go_sem,List.map_append,List.map_cons,List.map_nil])) rfl
def ziZ (a0:Forest) (a1:Sl (Assign)) (x0:List (Int)×List (Int)×Int) (y3:Assign) (x1:List (Int)×Int):St:=⟨((((((Regs.none.set 1 (.d (.list a1.n (a1.l.map zai)))).set 2 (.ptr 0 0 0)).set 5 (.sl 34 0 ((x0.1++[y3.slot]).length))).set 6 (mb 3 (x1.1.map fun z=>V.d ((D.int .i64) z)))).set 7 (.d (.int .i64 x0.2.2))).set 8 (.d (.int .i64 x1.2))),((((Heap.at 37).set 0 (some (.els 1 [.d (zaa a0)] 0))).set 3 (mbB 1 x1.1.length (x1.1.map fun z=>V.d ((D.int .i64) z)))).set 34 (some (.els 1 ((x0.1++[y3.slot]).map fun z=>V.d ((D.int .i64) z)) x0.1.length)))⟩
def znF (a0:Forest) (a1:Sl (Assign)) (x0:List (Int)×List (Int)×Int) (y3:Assign):((List (Int))⊕(Unit))→Ex×St:=fun r=>match r with
 |(.inl r)=>(.exit 2,⟨(((((Regs.none.set 1 (.d (.list a1.n (a1.l.map zai)))).set 2 (.ptr 0 0 0)).set 5 (.sl 34 0 ((x0.1++[y3.slot]).length))).set 6 (mb 36 (r.map fun z=>V.d ((D.int .i64) z)))).set 7 (.d (.int .i64 x0.2.2))),((((Heap.at 37).set 0 (some (.els 1 [.d (zaa a0)] 0))).set 34 (some (.els 1 ((x0.1++[y3.slot]).map fun z=>V.d ((D.int .i64) z)) x0.1.length))).set 36 (mbB 1 r.length (r.map fun z=>V.d ((D.int .i64) z))))⟩)
 |(.inr r)=>(.ret,⟨(Regs.none.set 4 (.d (.bool false))),(Heap.at 37)⟩)
noncomputable def zcB (a0:Forest) (a1:Sl (Assign)) (x0:List (Int)×List (Int)×Int) (y3:Assign) (x1:List (Int)×Int):Option ((List (Int)×Int)⊕((List (Int))⊕(Unit))):=
 (rd a1.l x0.2.2).bind fun y16=>
 if(decide (x1.2<(y16.nodes.l.length:Int)))=true then
  (rd y16.nodes.l x1.2).bind fun y20=>
  (dec D.bool (pc prog 85 [zaa a0,.int .i64 y20])).bind fun r22=>
  if r22=true then
   (dec (D.int .i64) (pc prog 108 [.list x1.1.isEmpty (x1.1.map (D.int .i64)),.int .i64 y20])).bind fun r26=>
   if(decide (0≤r26))=true then
    some (.inr (.inr ()))
   else
    if(x1.1.length+1)*8≤AI.roomBytes then
     some (.inl ((x1.1++[y20]),(IntKind.wrap .i64 (x1.2+1))))
    else none
  else
   some (.inr (.inr ()))
 else
  some (.inr (.inl x1.1))
theorem zEI (a0:Forest) (a1:Sl (Assign)) (x0:List (Int)×List (Int)×Int) (y3:Assign) (x1:List (Int)×Int) (o:(List (Int)×Int)⊕((List (Int))⊕(Unit))) (h:zcB a0 a1 x0 y3 x1=some o):Wp prog zDK (ziZ a0 a1 x0 y3 x1) (zbq (0,[]) (ziZ a0 a1 x0 y3) (znF a0 a1 x0 y3) o):=by
 unfold zcB at h
 delta zDK ziZ
 try simp only[go_sem]
 obtain⟨y16,hy17,h⟩:=bs h
 try simp only[go_sem,zab hy17,zaj hy17,zac zai hy17]
 refine zaf (fun hc18=> ?_) (fun hc19=> ?_)
 ·rw[if_pos hc18]at h
  try simp only[go_sem,zab hy17,zaj hy17,zac zai hy17]
  obtain⟨y20,hy21,h⟩:=bs h
  try simp only[go_sem,zab hy17,zaj hy17,zac zai hy17,zab hy21,zaj hy21,zac (D.int .i64) hy21]
  obtain⟨r22,hr23,h⟩:=bs h
  replace hr23:=zag hr23
  refine zal hr23 ?_
  try simp only[go_sem,zab hy17,zaj hy17,zac zai hy17,zab hy21,zaj hy21,zac (D.int .i64) hy21]
  refine zax (fun hc24=> ?_) (fun hc25=> ?_)
  ·rw[if_pos hc24]at h
   try simp only[go_sem,zab hy17,zaj hy17,zac zai hy17,zab hy21,zaj hy21,zac (D.int .i64) hy21,hc24]
   obtain⟨r26,hr27,h⟩:=bs h
   replace hr27:=zag hr27
   refine zal hr27 ?_
   try simp only[go_sem,zab hy17,zaj hy17,zac zai hy17,zab hy21,zaj hy21,zac (D.int .i64) hy21]
   refine zaf (fun hc28=> ?_) (fun hc29=> ?_)
   ·rw[if_pos hc28]at h
    try simp only[go_sem,zab hy17,zaj hy17,zac zai hy17,zab hy21,zaj hy21,zac (D.int .i64) hy21]
    cases h
    refine⟨rfl,by simp,Up.of (N:=37) (N':=65) [] rfl (by(simp only[go_sem];done)) (by decide) ?_ ?_⟩
    ·refine zae.set ?_ zae.none
     all_goals (try simp only[go_sem,List.map_append,List.map_cons,List.map_nil,zab hy17,zaj hy17,zac zai hy17,zab hy21,zaj hy21,zac (D.int .i64) hy21])
     all_goals (exact VR.d _)
    exact zah.at
   rw[if_neg (ff hc29)]at h
   try simp only[go_sem,zab hy17,zaj hy17,zac zai hy17,zab hy21,zaj hy21,zac (D.int .i64) hy21]
   obtain⟨hm30,h⟩:=zbM h
   refine zfB (l:=x1.1.map fun z=>V.d ((D.int .i64) z)) (new:=[V.d (.int .i64 y20)]) (sz:=1) (fz:=x1.1.length) (by simp only[go_sem,List.map_append,List.map_cons,List.map_nil,zab hy17,zaj hy17,zac zai hy17,zab hy21,zaj hy21,zac (D.int .i64) hy21]) (by intro h;simpa using h) (by simp only[go_sem,zbv,zbL,zbG,zbb,zfh]) (by simp) (by rfl) (by simpa using hm30) ?_
   try simp only[go_sem,zab hy17,zaj hy17,zac zai hy17,zab hy21,zaj hy21,zac (D.int .i64) hy21,hm30]
   cases h
   refine⟨rfl,Up.of (N:=37) (N':=72) [(3,67)] rfl (by(simp only[go_sem];done)) (by decide) ?_ ?_⟩
   ·refine zae.set ?_ (zae.set ?_ (zae.set ?_ (zae.set ?_ (zae.set ?_ (zae.set ?_ zae.none)))))
    all_goals (try simp only[go_sem,List.map_append,List.map_cons,List.map_nil,zab hy17,zaj hy17,zac zai hy17,zab hy21,zaj hy21,zac (D.int .i64) hy21,hm30])
    all_goals (first|exact VR.d _|exact VR.mb_sl (by(simp;done)) rfl (by(simp;done))|exact VR.ptr' rfl|exact VR.sl'' rfl (by simp))
   refine zah.set (show zar _ _ (Heap.get _ 34)from ?_) (zah.set (show zar _ _ (Heap.get _ 67)from ?_) (zah.set (show zar _ _ (Heap.get _ 0)from ?_) (zah.at)))
   all_goals (try simp only[go_sem,List.map_append,List.map_cons,List.map_nil,zab hy17,zaj hy17,zac zai hy17,zab hy21,zaj hy21,zac (D.int .i64) hy21,hm30])
   all_goals (((repeat' first|exact zar.refl_d|refine zar.els (by simp) ?_|refine zar.mb_els (by simp) ?_|exact VR.d _|exact VRL.nil|exact VRL.refl_d _ _|refine VRL.append ?_ ?_|refine VRL.cons ?_ ?_);done))
  rw[if_neg (ff hc25)]at h
  try simp only[go_sem,zab hy17,zaj hy17,zac zai hy17,zab hy21,zaj hy21,zac (D.int .i64) hy21,hc25]
  cases h
  refine⟨rfl,by simp,Up.of (N:=37) (N':=65) [] rfl (by rfl) (by decide) ?_ ?_⟩
  ·refine zae.set ?_ zae.none
   all_goals (try simp only[go_sem,List.map_append,List.map_cons,List.map_nil,zab hy17,zaj hy17,zac zai hy17,zab hy21,zaj hy21,zac (D.int .i64) hy21])
   all_goals (exact VR.d _)
  exact zah.at
 rw[if_neg (ff hc19)]at h
 try simp only[go_sem,zab hy17,zaj hy17,zac zai hy17]
 cases h
 refine⟨rfl,by simp,Up.of (N:=37) (N':=45) [(3,36),(36,3)] rfl (by rfl) (by decide) ?_ ?_⟩
 ·refine zae.set ?_ (zae.set ?_ (zae.set ?_ (zae.set ?_ (zae.set ?_ zae.none))))
  all_goals (try simp only[go_sem,List.map_append,List.map_cons,List.map_nil,zab hy17,zaj hy17,zac zai hy17])
  all_goals (first|exact VR.d _|exact VR.mb rfl|exact VR.ptr' rfl|exact VR.sl'' rfl (by simp))
 refine zah.set (show zar _ _ (Heap.get _ 3)from ?_) (zah.set (show zar _ _ (Heap.get _ 34)from ?_) (zah.set (show zar _ _ (Heap.get _ 0)from ?_) (zah.at)))
 all_goals (try simp only[go_sem,List.map_append,List.map_cons,List.map_nil,zab hy17,zaj hy17,zac zai hy17])
 all_goals (((repeat' first|exact zar.refl_d|refine zar.els (by simp) ?_|refine zar.mb (by simp) ?_|exact VR.d _|exact VRL.nil|exact VRL.refl_d _ _|refine VRL.append ?_ ?_|refine VRL.cons ?_ ?_);done))
def zja (a0:Forest) (a1:Sl (Assign)) (x0:List (Int)×List (Int)×Int):St:=⟨(((((Regs.none.set 1 (.d (.list a1.n (a1.l.map zai)))).set 2 (.ptr 0 0 0)).set 5 (mb 4 (x0.1.map fun z=>V.d ((D.int .i64) z)))).set 6 (mb 3 (x0.2.1.map fun z=>V.d ((D.int .i64) z)))).set 7 (.d (.int .i64 x0.2.2))),((((Heap.at 5).set 0 (some (.els 1 [.d (zaa a0)] 0))).set 3 (mbB 1 x0.2.1.length (x0.2.1.map fun z=>V.d ((D.int .i64) z)))).set 4 (mbB 1 x0.1.length (x0.1.map fun z=>V.d ((D.int .i64) z))))⟩
def znG (a0:Forest) (a1:Sl (Assign)):((Unit)⊕(Unit))→Ex×St:=fun r=>match r with
 |(.inl r)=>(.exit 0,⟨Regs.none,(Heap.at 5)⟩)
 |(.inr r)=>(.ret,⟨(Regs.none.set 4 (.d (.bool false))),(Heap.at 5)⟩)
noncomputable def zcC (a0:Forest) (a1:Sl (Assign)) (x0:List (Int)×List (Int)×Int):Option ((List (Int)×List (Int)×Int)⊕((Unit)⊕(Unit))):=
 if(decide (x0.2.2<(a1.l.length:Int)))=true then
  (rd a1.l x0.2.2).bind fun y3=>
  (dec D.bool (pc prog 82 [zaa a0,.int .i64 y3.slot])).bind fun r5=>
  (if r5=true then
   (dec (D.int .i64) (pc prog 108 [.list x0.1.isEmpty (x0.1.map (D.int .i64)),.int .i64 y3.slot])).bind fun r9=>
   some (decide (0≤r9))
  else
   some true:Option ((Bool))).bind fun r11=>
  if r11=true then
   some (.inr (.inr ()))
  else
   if(x0.1.length+1)*8≤AI.roomBytes then
    (zaL (zcB a0 a1 x0 y3) (x0.2.1,0)).bind fun r31=>
    match r31 with
    |(.inl q33)=>
     some (.inl ((x0.1++[y3.slot]),q33,(IntKind.wrap .i64 (x0.2.2+1))))
    |(.inr q34)=>
     some (.inr (.inr ()))
   else none
 else
  some (.inr (.inl ()))
theorem zEJ (a0:Forest) (a1:Sl (Assign)) (x0:List (Int)×List (Int)×Int) (o:(List (Int)×List (Int)×Int)⊕((Unit)⊕(Unit))) (h:zcC a0 a1 x0=some o):Wp prog zDL (zja a0 a1 x0) (zbq (0,[]) (zja a0 a1) (znG a0 a1) o):=by
 unfold zcC at h
 delta zDL zja
 try simp only[go_sem]
 refine zaf (fun hc1=> ?_) (fun hc2=> ?_)
 ·rw[if_pos hc1]at h
  try simp only[go_sem]
  obtain⟨y3,hy4,h⟩:=bs h
  try simp only[go_sem,zab hy4,zaj hy4,zac zai hy4]
  obtain⟨r5,hr6,h⟩:=bs h
  replace hr6:=zag hr6
  refine zal hr6 ?_
  try simp only[go_sem,zab hy4,zaj hy4,zac zai hy4]
  obtain⟨r11,hl12,h⟩:=bs h
  refine zbD.cut (n:=(0,[])) .normal ⟨((((((Regs.none.set 1 (.d (.list a1.n (a1.l.map zai)))).set 2 (.ptr 0 0 0)).set 5 (mb 4 (x0.1.map fun z=>V.d ((D.int .i64) z)))).set 6 (mb 3 (x0.2.1.map fun z=>V.d ((D.int .i64) z)))).set 7 (.d (.int .i64 x0.2.2))).set 33 (.d (.bool r11))),((((Heap.at 27).set 0 (some (.els 1 [.d (zaa a0)] 0))).set 3 (mbB 1 x0.2.1.length (x0.2.1.map fun z=>V.d ((D.int .i64) z)))).set 4 (mbB 1 x0.1.length (x0.1.map fun z=>V.d ((D.int .i64) z))))⟩ ?_ (by(repeat(first|refine Clo.block ?_|refine Clo.seq zaV rfl ?_));(exact Clo.lpost (by decide))) ?_
  ·replace h:=hl12
   refine zax (fun hc7=> ?_) (fun hc8=> ?_)
   ·rw[if_pos hc7]at h
    try simp only[go_sem,zab hy4,zaj hy4,zac zai hy4,hc7]
    obtain⟨r9,hr10,h⟩:=bs h
    replace hr10:=zag hr10
    refine zal hr10 ?_
    try simp only[go_sem,zab hy4,zaj hy4,zac zai hy4]
    cases h
    refine⟨rfl,Up.of (N:=27) (N':=27) [] rfl (by(simp only[go_sem];done)) (by decide) ?_ ?_⟩
    ·refine zae.set ?_ (zae.set ?_ (zae.set ?_ (zae.set ?_ (zae.set ?_ (zae.set ?_ zae.none)))))
     all_goals (try simp only[go_sem,List.map_append,List.map_cons,List.map_nil,zab hy4,zaj hy4,zac zai hy4])
     all_goals (first|exact VR.d _|exact VR.mb rfl|exact VR.ptr' rfl)
    refine zah.set (show zar _ _ (Heap.get _ 4)from ?_) (zah.set (show zar _ _ (Heap.get _ 3)from ?_) (zah.set (show zar _ _ (Heap.get _ 0)from ?_) (zah.at)))
    all_goals (try simp only[go_sem,List.map_append,List.map_cons,List.map_nil,zab hy4,zaj hy4,zac zai hy4])
    all_goals (((repeat' first|exact zar.refl_d|refine zar.mb (by simp) ?_|exact VRL.refl_d _ _);done))
   rw[if_neg (ff hc8)]at h
   try simp only[go_sem,zab hy4,zaj hy4,zac zai hy4,hc8]
   cases h
   refine⟨rfl,Up.of (N:=27) (N':=27) [] rfl (by rfl) (by decide) ?_ ?_⟩
   ·refine zae.set ?_ (zae.set ?_ (zae.set ?_ (zae.set ?_ (zae.set ?_ (zae.set ?_ zae.none)))))
    all_goals (try simp only[go_sem,List.map_append,List.map_cons,List.map_nil,zab hy4,zaj hy4,zac zai hy4])
    all_goals (first|exact VR.d _|exact VR.mb rfl|exact VR.ptr' rfl)
   refine zah.set (show zar _ _ (Heap.get _ 4)from ?_) (zah.set (show zar _ _ (Heap.get _ 3)from ?_) (zah.set (show zar _ _ (Heap.get _ 0)from ?_) (zah.at)))
   all_goals (try simp only[go_sem,List.map_append,List.map_cons,List.map_nil,zab hy4,zaj hy4,zac zai hy4])
   all_goals (((repeat' first|exact zar.refl_d|refine zar.mb (by simp) ?_|exact VRL.refl_d _ _);done))
  try simp only[go_sem,zab hy4,zaj hy4,zac zai hy4]
  refine zaf (fun hc13=> ?_) (fun hc14=> ?_)
  ·rw[if_pos hc13]at h
   try simp only[go_sem,zab hy4,zaj hy4,zac zai hy4]
   cases h
   refine⟨rfl,by simp,Up.of (N:=5) (N':=28) [] rfl (by rfl) (by decide) ?_ ?_⟩
   ·refine zae.set ?_ zae.none
    all_goals (try simp only[go_sem,List.map_append,List.map_cons,List.map_nil,zab hy4,zaj hy4,zac zai hy4])
    all_goals (exact VR.d _)
   exact zah.at
  rw[if_neg (ff hc14)]at h
  try simp only[go_sem,zab hy4,zaj hy4,zac zai hy4]
  obtain⟨hm15,h⟩:=zbM h
  refine zfB (l:=x0.1.map fun z=>V.d ((D.int .i64) z)) (new:=[V.d (.int .i64 y3.slot)]) (sz:=1) (fz:=x0.1.length) (by simp only[go_sem,List.map_append,List.map_cons,List.map_nil,zab hy4,zaj hy4,zac zai hy4]) (by intro h;simpa using h) (by simp only[go_sem,zbv,zbL,zbG,zbb,zfh]) (by simp) (by rfl) (by simpa using hm15) ?_
  try simp only[go_sem,zab hy4,zaj hy4,zac zai hy4,hm15]
  obtain⟨r31,hl32,h⟩:=bs h
  refine Wp.loopR zaV (n:=(0,[])) (a:=zDK) rfl (ziZ a0 a1 x0 y3) (znF a0 a1 x0 y3) (zEI a0 a1 x0 y3) hl32 ?_ (by(repeat(first|refine Clo.block ?_|refine Clo.seq zaV rfl ?_));(exact Clo.lpost (by decide))) ?_
  ·show Up (0,[]) (ziZ a0 a1 x0 y3 (x0.2.1,0)) _
   delta ziZ
   refine Up.of (N:=37) (N':=37) [] rfl (by rfl) (by decide) ?_ ?_
   ·refine zae.set ?_ (zae.set ?_ (zae.set ?_ (zae.set ?_ (zae.set ?_ (zae.set ?_ zae.none)))))
    all_goals (try simp only[go_sem,List.map_append,List.map_cons,List.map_nil,zab hy4,zaj hy4,zac zai hy4,hm15])
    all_goals (first|exact VR.d _|exact VR.mb rfl|exact VR.ptr' rfl|exact VR.sl'' rfl (by simp))
   refine zah.set (show zar _ _ (Heap.get _ 34)from ?_) (zah.set (show zar _ _ (Heap.get _ 3)from ?_) (zah.set (show zar _ _ (Heap.get _ 0)from ?_) (zah.at)))
   all_goals (try simp only[go_sem,List.map_append,List.map_cons,List.map_nil,zab hy4,zaj hy4,zac zai hy4,hm15])
   all_goals (((repeat' first|exact zar.refl_d|refine zar.els (by simp) ?_|refine zar.mb (by simp) ?_|exact VR.d _|exact VRL.nil|exact VRL.refl_d _ _|refine VRL.append ?_ ?_|refine VRL.cons ?_ ?_);done))
  rcases r31 with(q33|q34)
  ·dsimp only at h
   dsimp only[znF]
   try simp only[go_sem,zab hy4,zaj hy4,zac zai hy4,hm15]
   cases h
   refine⟨rfl,Up.of (N:=5) (N':=40) [(3,36),(4,34)] rfl (by rfl) (by decide) ?_ ?_⟩
   ·refine zae.set ?_ (zae.set ?_ (zae.set ?_ (zae.set ?_ (zae.set ?_ zae.none))))
    all_goals (try simp only[go_sem,List.map_append,List.map_cons,List.map_nil,zab hy4,zaj hy4,zac zai hy4,hm15])
    all_goals (first|exact VR.d _|exact VR.mb rfl|exact VR.mb_sl (by(simp;done)) rfl (by(simp;done))|exact VR.ptr' rfl)
   refine zah.set (show zar _ _ (Heap.get _ 34)from ?_) (zah.set (show zar _ _ (Heap.get _ 36)from ?_) (zah.set (show zar _ _ (Heap.get _ 0)from ?_) (zah.at)))
   all_goals (try simp only[go_sem,List.map_append,List.map_cons,List.map_nil,zab hy4,zaj hy4,zac zai hy4,hm15])
   all_goals (((repeat' first|exact zar.refl_d|refine zar.mb_els (by simp) ?_|refine zar.mb (by simp) ?_|exact VR.d _|exact VRL.nil|exact VRL.refl_d _ _|refine VRL.append ?_ ?_|refine VRL.cons ?_ ?_);done))
  dsimp only at h
  dsimp only[znF]
  try simp only[go_sem,zab hy4,zaj hy4,zac zai hy4,hm15]
  cases h
  refine⟨rfl,by simp,Up.of (N:=5) (N':=37) [] rfl (by rfl) (by decide) ?_ ?_⟩
  ·refine zae.set ?_ zae.none
   all_goals (try simp only[go_sem,List.map_append,List.map_cons,List.map_nil,zab hy4,zaj hy4,zac zai hy4,hm15])
   all_goals (exact VR.d _)
  exact zah.at
 rw[if_neg (ff hc2)]at h
 try simp only[go_sem]
 cases h
 refine⟨rfl,by simp,Up.of (N:=5) (N':=9) [] rfl (by rfl) (by decide) ?_ ?_⟩
 ·exact zae.none
 exact zah.at
noncomputable def P70 (a0:Forest) (a1:Sl (Assign)):Option (Bool):=
 (zaL (zcC a0 a1) ([],[],0)).bind fun r35=>
 match r35 with
 |(.inl q37)=>
  some true
 |(.inr q38)=>
  some false
theorem zRa (a0:Forest) (a1:Sl (Assign)) (r:Bool) (h:P70 a0 a1=some r):pc prog 70 [zaa a0,.list a1.n (a1.l.map zai)]=some (D.bool r):=by
 unfold P70 at h
 refine zaQ (fn:=c70) rfl rfl ?_
 delta c70
 try simp only[go_sem]
 obtain⟨r35,hl36,h⟩:=bs h
 refine Wp.loopR zaV (n:=(0,[])) (a:=zDL) rfl (zja a0 a1) (znG a0 a1) (zEJ a0 a1) hl36 ?_ (by(repeat(first|refine Clo.block ?_|refine Clo.seq zaV rfl ?_));(exact Clo.ret)) ?_
 ·show Up (0,[]) (zja a0 a1 ([],[],0)) _
  delta zja
  refine Up.of (N:=5) (N':=5) [] rfl (by rfl) (by decide) ?_ ?_
  ·refine zae.set ?_ (zae.set ?_ (zae.set ?_ (zae.set ?_ (zae.set ?_ zae.none))))
   all_goals (try simp only[go_sem,List.map_append,List.map_cons,List.map_nil])
   all_goals (first|exact VR.d _|exact VR.ptr' rfl)
  refine zah.set (show zar _ _ (Heap.get _ 4)from ?_) (zah.set (show zar _ _ (Heap.get _ 3)from ?_) (zah.set (show zar _ _ (Heap.get _ 0)from ?_) (zah.at)))
  all_goals (try simp only[go_sem,List.map_append,List.map_cons,List.map_nil])
  all_goals (((repeat' first|trivial|exact zar.refl_d);done))
 rcases r35 with(q37|q38)
 ·dsimp only at h
  dsimp only[znG]
  try simp only[go_sem]
  cases h
  rfl
 dsimp only at h
 dsimp only[znG]
 try simp only[go_sem]
 cases h
 rfl
def zjb (a0:Forest) (a2:Int) (x0:Int):St:=⟨(((Regs.none.set 1 (.d (.int .i64 x0))).set 2 (.d (.int .i64 a2))).set 3 (.ptr 0 0 0)),((Heap.at 2).set 0 (some (.els 1 [.d (zaa a0)] 0)))⟩
def zrF (a0:Forest) (a2:Int):((Int))→Ex×St:=fun r=>(.exit 0,⟨(Regs.none.set 1 (.d (.int .i64 r))),(Heap.at 2)⟩)
noncomputable def zcD (a0:Forest) (a2:Int) (x0:Int):Option ((Int)⊕((Int))):=
 if(!(x0==0))=true then
  (dec D.bool (pc prog 109 [zaa a0,.int .i64 x0])).bind fun r3=>
  if r3=true then
   (dec (D.int .i64) (pc prog 75 [zaa a0,.int .i64 x0])).bind fun r7=>
   (dec D.bool (pc prog 76 [zaa a0,.int .i64 r7,.int .i64 a2])).bind fun r9=>
   if(!r9)=true then
    (dec (D.int .i64) (pc prog 75 [zaa a0,.int .i64 x0])).bind fun r13=>
    (dec zao (pc prog 86 [zaa a0,.int .i64 r13])).bind fun r15=>
    some (.inl r15.host)
   else
    some (.inr x0)
  else
   some (.inr x0)
 else
  some (.inr x0)
theorem zEK (a0:Forest) (a2:Int) (x0:Int) (o:(Int)⊕((Int))) (h:zcD a0 a2 x0=some o):Wp prog zDM (zjb a0 a2 x0) (zbq (0,[]) (zjb a0 a2) (zrF a0 a2) o):=by
 unfold zcD at h
 delta zDM zjb
 try simp only[go_sem]
 iterate 2 (refine zbs ?_;try simp only[go_sem])
 refine zaB (fun hc1=> ?_) (fun hc2=> ?_)
 ·rw[if_pos (show(!(x0==0))=true by(rw[hc1];rfl))]at h
  try simp only[go_sem,hc1]
  obtain⟨r3,hr4,h⟩:=bs h
  replace hr4:=zag hr4
  refine zal hr4 ?_
  try simp only[go_sem]
  iterate 3 (refine zbs ?_;try simp only[go_sem])
  refine zax (fun hc5=> ?_) (fun hc6=> ?_)
  ·rw[if_pos hc5]at h
   try simp only[go_sem,hc5]
   obtain⟨r7,hr8,h⟩:=bs h
   replace hr8:=zag hr8
   refine zal hr8 ?_
   try simp only[go_sem]
   obtain⟨r9,hr10,h⟩:=bs h
   replace hr10:=zag hr10
   refine zal hr10 ?_
   try simp only[go_sem]
   refine zaz (fun hc11=> ?_) (fun hc12=> ?_)
   ·rw[if_pos (show(!r9)=true by(rw[hc11];rfl))]at h
    try simp only[go_sem]
    obtain⟨r13,hr14,h⟩:=bs h
    replace hr14:=zag hr14
    refine zal hr14 ?_
    try simp only[go_sem]
    obtain⟨r15,hr16,h⟩:=bs h
    replace hr16:=zag hr16
    refine zal hr16 ?_
    try simp only[go_sem]
    cases h
    exact⟨rfl,Up.of (N:=2) (N':=25) [] rfl rfl (by decide) (.set (.ptr' rfl) (.set (.d _) (.set (.d _) zae.none))) (.set zar.refl_d zah.at)⟩
   rw[if_neg (ffn hc12)]at h
   try simp only[go_sem]
   cases h
   exact⟨rfl,by simp,Up.of (N:=2) (N':=18) [] rfl rfl (by decide) (.set (.d _) zae.none) zah.at⟩
  rw[if_neg (ff hc6)]at h
  try simp only[go_sem,hc6]
  cases h
  exact⟨rfl,by simp,Up.of (N:=2) (N':=18) [] rfl rfl (by decide) (.set (.d _) zae.none) zah.at⟩
 rw[if_neg (ffn hc2)]at h
 try simp only[go_sem,hc2]
 cases h
 exact⟨rfl,by simp,Up.of (N:=2) (N':=18) [] rfl rfl (by decide) (.set (.d _) zae.none) zah.at⟩
noncomputable def P71 (a0:Forest) (a1:Int) (a2:Int):Option (Int):=
 (zaL (zcD a0 a2) a1).bind fun r22=>
 some r22
theorem zRb (a0:Forest) (a1:Int) (a2:Int) (r:Int) (h:P71 a0 a1 a2=some r):pc prog 71 [zaa a0,.int .i64 a1,.int .i64 a2]=some ((D.int .i64) r):=by
 unfold P71 at h
 refine zaQ (fn:=c71) rfl rfl ?_
 delta c71
 try simp only[go_sem]
 obtain⟨r22,hl23,h⟩:=bs h
 refine Wp.loopR zaV (n:=(0,[])) (a:=zDM) rfl (zjb a0 a2) (zrF a0 a2) (zEK a0 a2) hl23 ?_ (by(repeat(first|refine Clo.block ?_|refine Clo.seq zaV rfl ?_));(exact Clo.ret)) ?_
 ·show Up (0,[]) (zjb a0 a2 a1) _
  delta zjb
  exact Up.of (N:=2) (N':=2) [] rfl rfl (by decide) (.set (.ptr' rfl) (.set (.d _) (.set (.d _) zae.none))) (.set zar.refl_d zah.at)
 dsimp only[zrF]
 try simp only[go_sem]
 cases h
 rfl
noncomputable def P72 (a0:Forest) (a1:Int) (a2:Int) (a3:Int) (a4:Bool):Option (Step):=
 (dec D.bool (pc prog 109 [zaa a0,.int .i64 a1])).bind fun r1=>
 (dec D.bool (pc prog 74 [zaa a0,.int .i64 a1])).bind fun r3=>
 some (⟨a1,r1,a2,a3,r3,a4⟩:Step)
theorem zRc (a0:Forest) (a1:Int) (a2:Int) (a3:Int) (a4:Bool) (r:Step) (h:P72 a0 a1 a2 a3 a4=some r):pc prog 72 [zaa a0,.int .i64 a1,.int .i64 a2,.int .i64 a3,.bool a4]=some (zaP r):=by
 unfold P72 at h
 refine zaQ (fn:=c72) rfl rfl ?_
 delta c72
 try simp only[go_sem]
 obtain⟨r1,hr2,h⟩:=bs h
 replace hr2:=zag hr2
 refine zal hr2 ?_
 try simp only[go_sem]
 obtain⟨r3,hr4,h⟩:=bs h
 replace hr4:=zag hr4
 refine zal hr4 ?_
 try simp only[go_sem]
 cases h
 rfl
noncomputable def P73 (a0:Forest) (a1:Sl (Assign)) (a2:Int) (a3:Int) (a4:Bool):Option (Int×Bool):=
 (dec zao (pc prog 86 [zaa a0,.int .i64 a2])).bind fun r1=>
 (if(r1.kind==9)=true then
  some (.inr 0)
 else
  if(bif (r1.kind==12)then(!a4)else false)=true then
   (dec (D.int .i64) (pc prog 75 [zaa a0,.int .i64 a3])).bind fun r7=>
   if(a2==r7)=true then
    some (.inr 0)
   else
    if(r1.kind==12)=true then
     some (.inr r1.host)
    else
     some (.inl ())
  else
   if(r1.kind==12)=true then
    some (.inr r1.host)
   else
    some (.inl ()):Option ((Unit)⊕(Int))).bind fun r20=>
 match r20 with
 |(.inl q22)=>
  (dec (eT2 (D.int .i64) (D.int .i64)) (pc prog 89 [zaa a0,.list a1.n (a1.l.map zai),.int .i64 a2])).bind fun r23=>
  if(!(r23.1==0))=true then
   some (r23.1,true)
  else
   some (r1.parent,false)
 |(.inr q27)=>
  some (q27,false)
theorem zRd (a0:Forest) (a1:Sl (Assign)) (a2:Int) (a3:Int) (a4:Bool) (r:Int×Bool) (h:P73 a0 a1 a2 a3 a4=some r):pc prog 73 [zaa a0,.list a1.n (a1.l.map zai),.int .i64 a2,.int .i64 a3,.bool a4]=some ((eT2 (D.int .i64) D.bool) r):=by
 unfold P73 at h
 refine zaQ (fn:=c73) rfl rfl ?_
 delta c73
 try simp only[go_sem]
 obtain⟨r1,hr2,h⟩:=bs h
 replace hr2:=zag hr2
 refine zal hr2 ?_
 try simp only[go_sem]
 obtain⟨r20,hl21,h⟩:=bs h
 refine znz (n:=(0,[])) (fun r=>match r with|(.inl r)=>(.normal,⟨((((Regs.none.set 1 (.d (.list a1.n (a1.l.map zai)))).set 2 (.d (.int .i64 a2))).set 5 (.ptr 0 0 0)).set 12 (.ptr 6 0 0)),(((Heap.at 12).set 0 (some (.els 1 [.d (zaa a0)] 0))).set 6 (some (.els 16 [.d (zao r1)] 0)))⟩)|(.inr r)=>(.ret,⟨((Regs.none.set 10 (.d (.int .i64 r))).set 11 (.d (.bool false))),(Heap.at 12)⟩):((Unit)⊕(Int))→Ex×St) r20 ?_ (by(repeat(first|refine Clo.block ?_|refine Clo.seq zaV rfl ?_));(exact Clo.ret)) ?_
 ·replace h:=hl21
  refine zaf (fun hc3=> ?_) (fun hc4=> ?_)
  ·rw[if_pos hc3]at h
   try simp only[go_sem]
   cases h
   exact⟨rfl,Up.of (N:=12) (N':=14) [] rfl rfl (by decide) (.set (.d _) (.set (.d _) zae.none)) zah.at⟩
  rw[if_neg (ff hc4)]at h
  try simp only[go_sem]
  iterate 5 (refine zbs ?_;try simp only[go_sem])
  refine zax (fun hc5=> ?_) (fun hc6=> ?_)
  ·rw[if_pos hc5]at h
   try simp only[go_sem,hc5]
   obtain⟨r7,hr8,h⟩:=bs h
   replace hr8:=zag hr8
   refine zal hr8 ?_
   try simp only[go_sem]
   refine zaf (fun hc9=> ?_) (fun hc10=> ?_)
   ·rw[if_pos hc9]at h
    try simp only[go_sem]
    cases h
    exact⟨rfl,Up.of (N:=12) (N':=29) [] rfl rfl (by decide) (.set (.d _) (.set (.d _) zae.none)) zah.at⟩
   rw[if_neg (ff hc10)]at h
   try simp only[go_sem]
   refine zaf (fun hc11=> ?_) (fun hc12=> ?_)
   ·rw[if_pos hc11]at h
    try simp only[go_sem]
    cases h
    exact⟨rfl,Up.of (N:=12) (N':=35) [] rfl rfl (by decide) (.set (.d _) (.set (.d _) zae.none)) zah.at⟩
   rw[if_neg (ff hc12)]at h
   try simp only[go_sem]
   cases h
   exact⟨rfl,Up.of (N:=12) (N':=31) [] rfl rfl (by decide) (.set (.ptr' rfl) (.set (.ptr' rfl) (.set (.d _) (.set (.d _) zae.none)))) (.set zar.refl_d (.set zar.refl_d zah.at))⟩
  rw[if_neg (ff hc6)]at h
  try simp only[go_sem,hc6]
  refine zaf (fun hc13=> ?_) (fun hc14=> ?_)
  ·rw[if_pos hc13]at h
   try simp only[go_sem]
   cases h
   exact⟨rfl,Up.of (N:=12) (N':=35) [] rfl rfl (by decide) (.set (.d _) (.set (.d _) zae.none)) zah.at⟩
  rw[if_neg (ff hc14)]at h
  try simp only[go_sem]
  cases h
  exact⟨rfl,Up.of (N:=12) (N':=31) [] rfl rfl (by decide) (.set (.ptr' rfl) (.set (.ptr' rfl) (.set (.d _) (.set (.d _) zae.none)))) (.set zar.refl_d (.set zar.refl_d zah.at))⟩
 rcases r20 with(q22|q27)
 ·dsimp only at h⊢
  try simp only[go_sem]
  obtain⟨r23,hr24,h⟩:=bs h
  replace hr24:=zag hr24
  refine zal hr24 ?_
  try simp only[go_sem]
  refine zaz (fun hc25=> ?_) (fun hc26=> ?_)
  ·rw[if_pos (show(!(r23.1==0))=true by(rw[hc25];rfl))]at h
   try simp only[go_sem]
   cases h
   rfl
  rw[if_neg (ffn hc26)]at h
  try simp only[go_sem]
  cases h
  rfl
 dsimp only at h⊢
 try simp only[go_sem]
 cases h
 rfl
noncomputable def P74 (a0:Forest) (a1:Int):Option (Bool):=
 (dec zao (pc prog 86 [zaa a0,.int .i64 a1])).bind fun r1=>
 some (bif (r1.kind==12)then(r1.mode==2)else false)
theorem zRe (a0:Forest) (a1:Int) (r:Bool) (h:P74 a0 a1=some r):pc prog 74 [zaa a0,.int .i64 a1]=some (D.bool r):=by
 unfold P74 at h
 refine zaQ (fn:=c74) rfl rfl ?_
 delta c74
 try simp only[go_sem]
 obtain⟨r1,hr2,h⟩:=bs h
 replace hr2:=zag hr2
 refine zal hr2 ?_
 try simp only[go_sem]
 iterate 3 (refine zbs ?_;try simp only[go_sem])
 cases h
 rfl
noncomputable def P82 (a0:Forest) (a1:Int):Option (Bool):=
 (dec zao (pc prog 86 [zaa a0,.int .i64 a1])).bind fun r1=>
 some (bif (bif (r1.kind==1)then(r1.name.space==[104,116,116,112,58,47,47,119,119,119,46,119,51,46,111,114,103,47,49,57,57,57,47,120,104,116,109,108])else false)then(r1.name.local_==[115,108,111,116])else false)
theorem zRf (a0:Forest) (a1:Int) (r:Bool) (h:P82 a0 a1=some r):pc prog 82 [zaa a0,.int .i64 a1]=some (D.bool r):=by
 unfold P82 at h
 refine zaQ (fn:=c82) rfl rfl ?_
 delta c82
 try simp only[go_sem]
 obtain⟨r1,hr2,h⟩:=bs h
 replace hr2:=zag hr2
 refine zal hr2 ?_
 try simp only[go_sem]
 iterate 8 (refine zbs ?_;try simp only[go_sem])
 cases h
 rfl
noncomputable def P85 (a0:Forest) (a1:Int):Option (Bool):=
 (dec zao (pc prog 86 [zaa a0,.int .i64 a1])).bind fun r1=>
 some (bif (bif (r1.kind==1)then true else(r1.kind==3))then true else(r1.kind==4))
theorem zRg (a0:Forest) (a1:Int) (r:Bool) (h:P85 a0 a1=some r):pc prog 85 [zaa a0,.int .i64 a1]=some (D.bool r):=by
 unfold P85 at h
 refine zaQ (fn:=c85) rfl rfl ?_
 delta c85
 try simp only[go_sem]
 obtain⟨r1,hr2,h⟩:=bs h
 replace hr2:=zag hr2
 refine zal hr2 ?_
 try simp only[go_sem]
 iterate 4 (refine zbs ?_;try simp only[go_sem])
 cases h
 rfl
def zjc (a0:Sl (Assign)) (a1:Int) (x0:Int):St:=⟨(((Regs.none.set 0 (.d (.list a0.n (a0.l.map zai)))).set 1 (.d (.int .i64 a1))).set 5 (.d (.int .i64 x0))),(Heap.at 2)⟩
def znH (a0:Sl (Assign)) (a1:Int):((Unit)⊕(Sl (Int)))→Ex×St:=fun r=>match r with
 |(.inl r)=>(.exit 0,⟨Regs.none,(Heap.at 2)⟩)
 |(.inr r)=>(.ret,⟨(Regs.none.set 4 (.d (.list r.n (r.l.map (D.int .i64))))),(Heap.at 2)⟩)
noncomputable def zeT (a0:Sl (Assign)) (a1:Int) (x0:Int):Option ((Int)⊕((Unit)⊕(Sl (Int)))):=
 if(decide (x0<(a0.l.length:Int)))=true then
  (rd a0.l x0).bind fun y3=>
  if(y3.slot==a1)=true then
   some (.inr (.inr y3.nodes))
  else
   some (.inl (IntKind.wrap .i64 (x0+1)))
 else
  some (.inr (.inl ()))
theorem zEL (a0:Sl (Assign)) (a1:Int) (x0:Int) (o:(Int)⊕((Unit)⊕(Sl (Int)))) (h:zeT a0 a1 x0=some o):Wp prog zDQ (zjc a0 a1 x0) (zbq (0,[]) (zjc a0 a1) (znH a0 a1) o):=by
 unfold zeT at h
 delta zDQ zjc
 try simp only[go_sem]
 refine zaf (fun hc1=> ?_) (fun hc2=> ?_)
 ·rw[if_pos hc1]at h
  try simp only[go_sem]
  obtain⟨y3,hy4,h⟩:=bs h
  try simp only[go_sem,zab hy4,zaj hy4,zac zai hy4]
  refine zaf (fun hc5=> ?_) (fun hc6=> ?_)
  ·rw[if_pos hc5]at h
   try simp only[go_sem,zab hy4,zaj hy4,zac zai hy4]
   cases h
   exact⟨rfl,by simp,Up.of (N:=2) (N':=19) [] rfl rfl (by decide) (.set (.d _) zae.none) zah.at⟩
  rw[if_neg (ff hc6)]at h
  try simp only[go_sem,zab hy4,zaj hy4,zac zai hy4]
  cases h
  exact⟨rfl,Up.of (N:=2) (N':=16) [] rfl rfl (by decide) (.set (.d _) (.set (.d _) (.set (.d _) zae.none))) zah.at⟩
 rw[if_neg (ff hc2)]at h
 try simp only[go_sem]
 cases h
 exact⟨rfl,by simp,Up.of (N:=2) (N':=6) [] rfl rfl (by decide) zae.none zah.at⟩
noncomputable def P88 (a0:Sl (Assign)) (a1:Int):Option (Sl (Int)):=
 (zaL (zeT a0 a1) 0).bind fun r7=>
 match r7 with
 |(.inl q9)=>
  some (⟨true,[]⟩)
 |(.inr q10)=>
  some q10
theorem zRh (a0:Sl (Assign)) (a1:Int) (r:Sl (Int)) (h:P88 a0 a1=some r):pc prog 88 [.list a0.n (a0.l.map zai),.int .i64 a1]=some ((eSl (D.int .i64)) r):=by
 unfold P88 at h
 refine zaQ (fn:=c88) rfl rfl ?_
 delta c88
 try simp only[go_sem]
 obtain⟨r7,hl8,h⟩:=bs h
 refine Wp.loopR zaV (n:=(0,[])) (a:=zDQ) rfl (zjc a0 a1) (znH a0 a1) (zEL a0 a1) hl8 ?_ (by(repeat(first|refine Clo.block ?_|refine Clo.seq zaV rfl ?_));(exact Clo.ret)) ?_
 ·show Up (0,[]) (zjc a0 a1 0) _
  delta zjc
  exact Up.of (N:=2) (N':=2) [] rfl rfl (by decide) (.set (.d _) (.set (.d _) (.set (.d _) zae.none))) zah.at
 rcases r7 with(q9|q10)
 ·dsimp only at h
  dsimp only[znH]
  try simp only[go_sem]
  cases h
  rfl
 dsimp only at h
 dsimp only[znH]
 try simp only[go_sem]
 cases h
 rfl
def zjd (a0:Forest) (a1:Sl (Assign)) (a2:Int) (r13:Node) (r17:Sl (Int)) (x0:Bool×Int):St:=⟨(((((((Regs.none.set 1 (.d (.list a1.n (a1.l.map zai)))).set 2 (.d (.int .i64 a2))).set 3 (.ptr 0 0 0)).set 9 (.d (.int .i64 r13.shadow))).set 10 (.d (.bool x0.1))).set 11 (.d (.list r17.n (r17.l.map (D.int .i64))))).set 12 (.d (.int .i64 x0.2))),((Heap.at 38).set 0 (some (.els 1 [.d (zaa a0)] 0)))⟩
def znI (a0:Forest) (a1:Sl (Assign)) (a2:Int) (r13:Node) (r17:Sl (Int)):((Unit)⊕(Int))→Ex×St:=fun r=>match r with
 |(.inl r)=>(.exit 0,⟨Regs.none,(Heap.at 38)⟩)
 |(.inr r)=>(.ret,⟨((Regs.none.set 6 (.d (.int .i64 r))).set 7 (.d (.int .i64 r13.shadow))),(Heap.at 38)⟩)
noncomputable def zcE (a0:Forest) (a1:Sl (Assign)) (a2:Int) (r13:Node) (r17:Sl (Int)) (x0:Bool×Int):Option ((Bool×Int)⊕((Unit)⊕(Int))):=
 if(decide (x0.2<(r17.l.length:Int)))=true then
  if x0.1=true then
   (rd r17.l x0.2).bind fun y23=>
   (dec (eSl (D.int .i64)) (pc prog 88 [.list a1.n (a1.l.map zai),.int .i64 y23])).bind fun r25=>
   (dec (D.int .i64) (pc prog 108 [.list r25.n (r25.l.map (D.int .i64)),.int .i64 a2])).bind fun r27=>
   if(bif (decide (0≤r27))then true else false)=true then
    some (.inr (.inr y23))
   else
    some (.inl (true,(IntKind.wrap .i64 (x0.2+1))))
  else
   (rd r17.l x0.2).bind fun y35=>
   (dec D.str (pc prog 115 [zaa a0,.int .i64 y35,.str ([110,97,109,101])])).bind fun r37=>
   (dec D.str (pc prog 116 [zaa a0,.int .i64 a2])).bind fun r39=>
   if(r37==r39)=true then
    some (.inr (.inr y35))
   else
    some (.inl (false,(IntKind.wrap .i64 (x0.2+1))))
 else
  some (.inr (.inl ()))
theorem zEM (a0:Forest) (a1:Sl (Assign)) (a2:Int) (r13:Node) (r17:Sl (Int)) (x0:Bool×Int) (o:(Bool×Int)⊕((Unit)⊕(Int))) (h:zcE a0 a1 a2 r13 r17 x0=some o):Wp prog zDR (zjd a0 a1 a2 r13 r17 x0) (zbq (0,[]) (zjd a0 a1 a2 r13 r17) (znI a0 a1 a2 r13 r17) o):=by
 unfold zcE at h
 delta zDR zjd
 try simp only[go_sem]
 refine zaf (fun hc19=> ?_) (fun hc20=> ?_)
 ·rw[if_pos hc19]at h
  try simp only[go_sem]
  iterate 3 (refine zbs ?_;try simp only[go_sem])
  refine zax (fun hc21=> ?_) (fun hc22=> ?_)
  ·rw[if_pos hc21]at h
   try simp only[go_sem,hc21]
   obtain⟨y23,hy24,h⟩:=bs h
   try simp only[go_sem,zab hy24,zaj hy24,zac (D.int .i64) hy24]
   obtain⟨r25,hr26,h⟩:=bs h
   replace hr26:=zag hr26
   refine zal hr26 ?_
   try simp only[go_sem,zab hy24,zaj hy24,zac (D.int .i64) hy24]
   obtain⟨r27,hr28,h⟩:=bs h
   replace hr28:=zag hr28
   refine zal hr28 ?_
   try simp only[go_sem,zab hy24,zaj hy24,zac (D.int .i64) hy24]
   iterate 4 (refine zbs ?_;try simp only[go_sem,zab hy24,zaj hy24,zac (D.int .i64) hy24])
   refine zaf (fun hc29=> ?_) (fun hc30=> ?_)
   ·rw[if_pos hc29]at h
    try simp only[go_sem,zab hy24,zaj hy24,zac (D.int .i64) hy24]
    cases h
    exact⟨rfl,by simp,Up.of (N:=38) (N':=77) [] rfl rfl (by decide) (.set (.d _) (.set (.d _) zae.none)) zah.at⟩
   rw[if_neg (ff hc30)]at h
   try simp only[go_sem,zab hy24,zaj hy24,zac (D.int .i64) hy24]
   cases h
   exact⟨rfl,Up.of (N:=38) (N':=73) [] rfl rfl (by decide) (.set (.d _) (.set (.d _) (.set (.d _) (.set (.d _) (.set (.ptr' rfl) (.set (.d _) (.set (.d _) zae.none))))))) (.set zar.refl_d zah.at)⟩
  rw[if_neg (ff hc22)]at h
  try simp only[go_sem,hc22]
  obtain⟨y35,hy36,h⟩:=bs h
  try simp only[go_sem,zab hy36,zaj hy36,zac (D.int .i64) hy36]
  obtain⟨r37,hr38,h⟩:=bs h
  replace hr38:=zag hr38
  refine zal hr38 ?_
  try simp only[go_sem,zab hy36,zaj hy36,zac (D.int .i64) hy36]
  obtain⟨r39,hr40,h⟩:=bs h
  replace hr40:=zag hr40
  refine zal hr40 ?_
  try simp only[go_sem,zab hy36,zaj hy36,zac (D.int .i64) hy36]
  refine zaf (fun hc41=> ?_) (fun hc42=> ?_)
  ·rw[if_pos hc41]at h
   try simp only[go_sem,zab hy36,zaj hy36,zac (D.int .i64) hy36]
   cases h
   exact⟨rfl,by simp,Up.of (N:=38) (N':=77) [] rfl rfl (by decide) (.set (.d _) (.set (.d _) zae.none)) zah.at⟩
  rw[if_neg (ff hc42)]at h
  try simp only[go_sem,zab hy36,zaj hy36,zac (D.int .i64) hy36]
  cases h
  exact⟨rfl,Up.of (N:=38) (N':=73) [] rfl rfl (by decide) (.set (.d _) (.set (.d _) (.set (.d _) (.set (.d _) (.set (.ptr' rfl) (.set (.d _) (.set (.d _) zae.none))))))) (.set zar.refl_d zah.at)⟩
 rw[if_neg (ff hc20)]at h
 try simp only[go_sem]
 cases h
 exact⟨rfl,by simp,Up.of (N:=38) (N':=42) [] rfl rfl (by decide) zae.none zah.at⟩
noncomputable def P89 (a0:Forest) (a1:Sl (Assign)) (a2:Int):Option (Int×Int):=
 (dec zao (pc prog 86 [zaa a0,.int .i64 a2])).bind fun r1=>
 (dec D.bool (pc prog 85 [zaa a0,.int .i64 a2])).bind fun r3=>
 (if(!(bif (!r3)then true else(r1.parent==0)))=true then
  (dec zao (pc prog 86 [zaa a0,.int .i64 r1.parent])).bind fun r7=>
  some (r7.shadow==0)
 else
  some true:Option ((Bool))).bind fun r9=>
 if r9=true then
  some (0,0)
 else
  (dec zao (pc prog 86 [zaa a0,.int .i64 r1.parent])).bind fun r13=>
  (dec zao (pc prog 86 [zaa a0,.int .i64 r13.shadow])).bind fun r15=>
  (dec (eSl (D.int .i64)) (pc prog 114 [zaa a0,.int .i64 r13.shadow])).bind fun r17=>
  (zaL (zcE a0 a1 a2 r13 r17) (r15.manual,0)).bind fun r46=>
  match r46 with
  |(.inl q48)=>
   some (0,0)
  |(.inr q49)=>
   some (q49,r13.shadow)
theorem zRi (a0:Forest) (a1:Sl (Assign)) (a2:Int) (r:Int×Int) (h:P89 a0 a1 a2=some r):pc prog 89 [zaa a0,.list a1.n (a1.l.map zai),.int .i64 a2]=some ((eT2 (D.int .i64) (D.int .i64)) r):=by
 unfold P89 at h
 refine zaQ (fn:=c89) rfl rfl ?_
 delta c89
 try simp only[go_sem]
 obtain⟨r1,hr2,h⟩:=bs h
 replace hr2:=zag hr2
 refine zal hr2 ?_
 try simp only[go_sem]
 obtain⟨r3,hr4,h⟩:=bs h
 replace hr4:=zag hr4
 refine zal hr4 ?_
 try simp only[go_sem]
 iterate 4 (refine zbs ?_;try simp only[go_sem])
 obtain⟨r9,hl10,h⟩:=bs h
 refine zbD.cut (n:=(0,[])) .normal ⟨(((((Regs.none.set 1 (.d (.list a1.n (a1.l.map zai)))).set 2 (.d (.int .i64 a2))).set 3 (.ptr 0 0 0)).set 8 (.d (.int .i64 r1.parent))).set 31 (.d (.bool r9))),((Heap.at 23).set 0 (some (.els 1 [.d (zaa a0)] 0)))⟩ ?_ (by(repeat(refine Clo.seq zaV rfl ?_));(exact Clo.ret)) ?_
 ·replace h:=hl10
  refine zaB (fun hc5=> ?_) (fun hc6=> ?_)
  ·rw[if_pos (show(!(bif (!r3)then true else(r1.parent==0)))=true by(rw[hc5];rfl))]at h
   try simp only[go_sem,hc5]
   obtain⟨r7,hr8,h⟩:=bs h
   replace hr8:=zag hr8
   refine zal hr8 ?_
   try simp only[go_sem]
   cases h
   exact⟨rfl,Up.of (N:=23) (N':=23) [] rfl rfl (by decide) (.set (.d _) (.set (.d _) (.set (.ptr' rfl) (.set (.d _) (.set (.d _) zae.none))))) (.set zar.refl_d zah.at)⟩
  rw[if_neg (ffn hc6)]at h
  try simp only[go_sem,hc6]
  cases h
  exact⟨rfl,Up.of (N:=23) (N':=23) [] rfl rfl (by decide) (.set (.d _) (.set (.d _) (.set (.ptr' rfl) (.set (.d _) (.set (.d _) zae.none))))) (.set zar.refl_d zah.at)⟩
 try simp only[go_sem]
 refine zaf (fun hc11=> ?_) (fun hc12=> ?_)
 ·rw[if_pos hc11]at h
  try simp only[go_sem]
  cases h
  rfl
 rw[if_neg (ff hc12)]at h
 try simp only[go_sem]
 obtain⟨r13,hr14,h⟩:=bs h
 replace hr14:=zag hr14
 refine zal hr14 ?_
 try simp only[go_sem]
 obtain⟨r15,hr16,h⟩:=bs h
 replace hr16:=zag hr16
 refine zal hr16 ?_
 try simp only[go_sem]
 obtain⟨r17,hr18,h⟩:=bs h
 replace hr18:=zag hr18
 refine zal hr18 ?_
 try simp only[go_sem]
 obtain⟨r46,hl47,h⟩:=bs h
 refine Wp.loopR zaV (n:=(0,[])) (a:=zDR) rfl (zjd a0 a1 a2 r13 r17) (znI a0 a1 a2 r13 r17) (zEM a0 a1 a2 r13 r17) hl47 ?_ (by(repeat(first|refine Clo.block ?_|refine Clo.seq zaV rfl ?_));(exact Clo.ret)) ?_
 ·show Up (0,[]) (zjd a0 a1 a2 r13 r17 (r15.manual,0)) _
  delta zjd
  exact Up.of (N:=38) (N':=38) [] rfl rfl (by decide) (.set (.d _) (.set (.d _) (.set (.d _) (.set (.d _) (.set (.ptr' rfl) (.set (.d _) (.set (.d _) zae.none))))))) (.set zar.refl_d zah.at)
 rcases r46 with(q48|q49)
 ·dsimp only at h
  dsimp only[znI]
  try simp only[go_sem]
  cases h
  rfl
 dsimp only at h
 dsimp only[znI]
 try simp only[go_sem]
 cases h
 rfl
def zgv (a0:Forest) (r1:Sl (Int)) (x0:List (Int)×Int):St:=⟨((((Regs.none.set 2 (.ptr 0 0 0)).set 5 (mb 7 (x0.1.map fun z=>V.d ((D.int .i64) z)))).set 6 (.d (.list r1.n (r1.l.map (D.int .i64))))).set 7 (.d (.int .i64 x0.2))),(((Heap.at 8).set 0 (some (.els 1 [.d (zaa a0)] 0))).set 7 (mbB 1 x0.1.length (x0.1.map fun z=>V.d ((D.int .i64) z))))⟩
def znJ (a0:Forest) (r1:Sl (Int)):((List (Int)))→Ex×St:=fun r=>(.exit 0,⟨(Regs.none.set 5 (mb 7 (r.map fun z=>V.d ((D.int .i64) z)))),((Heap.at 8).set 7 (mbB 1 r.length (r.map fun z=>V.d ((D.int .i64) z))))⟩)
noncomputable def zcs (a0:Forest) (r1:Sl (Int)) (x0:List (Int)×Int):Option ((List (Int)×Int)⊕((List (Int)))):=
 if(decide (x0.2<(r1.l.length:Int)))=true then
  (rd r1.l x0.2).bind fun y5=>
  (dec D.bool (pc prog 82 [zaa a0,.int .i64 y5])).bind fun r7=>
  if r7=true then
   if(x0.1.length+1)*8≤AI.roomBytes then
    some (.inl ((x0.1++[y5]),(IntKind.wrap .i64 (x0.2+1))))
   else none
  else
   some (.inl (x0.1,(IntKind.wrap .i64 (x0.2+1))))
 else
  some (.inr x0.1)
theorem zAA (a0:Forest) (r1:Sl (Int)) (x0:List (Int)×Int) (o:(List (Int)×Int)⊕((List (Int)))) (h:zcs a0 r1 x0=some o):Wp prog zsz (zgv a0 r1 x0) (zbq (0,[]) (zgv a0 r1) (znJ a0 r1) o):=by
 unfold zcs at h
 delta zsz zgv
 try simp only[go_sem]
 refine zaf (fun hc3=> ?_) (fun hc4=> ?_)
 ·rw[if_pos hc3]at h
  try simp only[go_sem]
  obtain⟨y5,hy6,h⟩:=bs h
  try simp only[go_sem,zab hy6,zaj hy6,zac (D.int .i64) hy6]
  obtain⟨r7,hr8,h⟩:=bs h
  replace hr8:=zag hr8
  refine zal hr8 ?_
  try simp only[go_sem,zab hy6,zaj hy6,zac (D.int .i64) hy6]
  refine zaf (fun hc9=> ?_) (fun hc10=> ?_)
  ·rw[if_pos hc9]at h
   try simp only[go_sem,zab hy6,zaj hy6,zac (D.int .i64) hy6]
   obtain⟨hm11,h⟩:=zbM h
   refine zfB (l:=x0.1.map fun z=>V.d ((D.int .i64) z)) (new:=[V.d (.int .i64 y5)]) (sz:=1) (fz:=x0.1.length) (by simp only[go_sem,List.map_append,List.map_cons,List.map_nil,zab hy6,zaj hy6,zac (D.int .i64) hy6]) (by intro h;simpa using h) (by simp only[go_sem,zbv,zbL,zbG,zbb,zfh]) (by simp) (by rfl) (by simpa using hm11) ?_
   try simp only[go_sem,zab hy6,zaj hy6,zac (D.int .i64) hy6,hm11]
   cases h
   refine⟨rfl,Up.of (N:=8) (N':=29) [(7,24)] rfl rfl (by decide) ?_ ?_⟩
   ·refine zae.set ?_ (zae.set ?_ (zae.set ?_ (zae.set ?_ zae.none)))
    all_goals (try simp only[go_sem,List.map_append,List.map_cons,List.map_nil,zab hy6,zaj hy6,zac (D.int .i64) hy6,hm11])
    all_goals (first|exact VR.d _|exact VR.mb_sl (by(simp;done)) rfl (by(simp;done))|exact VR.ptr' rfl)
   refine zah.set (show zar _ _ (Heap.get _ 24)from ?_) (zah.set (show zar _ _ (Heap.get _ 0)from ?_) (zah.at))
   all_goals (try simp only[go_sem,List.map_append,List.map_cons,List.map_nil,zab hy6,zaj hy6,zac (D.int .i64) hy6,hm11])
   all_goals (((repeat' first|exact zar.refl_d|refine zar.mb_els (by simp) ?_|exact VR.d _|exact VRL.nil|exact VRL.refl_d _ _|refine VRL.append ?_ ?_|refine VRL.cons ?_ ?_);done))
  rw[if_neg (ff hc10)]at h
  try simp only[go_sem,zab hy6,zaj hy6,zac (D.int .i64) hy6]
  cases h
  exact⟨rfl,Up.of (N:=8) (N':=21) [] rfl rfl (by decide) (.set (.d _) (.set (.d _) (.set (.mb rfl) (.set (.ptr' rfl) zae.none)))) (.set (zar.mb (Nat.le_refl _) (VRL.refl_d _ _)) (.set zar.refl_d zah.at))⟩
 rw[if_neg (ff hc4)]at h
 try simp only[go_sem]
 cases h
 refine⟨rfl,by simp,Up.of (N:=8) (N':=12) [] rfl rfl (by decide) ?_ ?_⟩
 ·refine zae.set ?_ zae.none
  all_goals (try simp only[go_sem,List.map_append,List.map_cons,List.map_nil])
  all_goals (exact VR.mb rfl)
 refine zah.set (show zar _ _ (Heap.get _ 7)from ?_) (zah.at)
 all_goals (try simp only[go_sem,List.map_append,List.map_cons,List.map_nil])
 all_goals (((repeat' first|refine zar.mb (by simp) ?_|exact VRL.refl_d _ _);done))
noncomputable def zPX (a0:Forest) (a1:Int):Option (Sl (Int)):=
 (dec (eSl (D.int .i64)) (pc prog 145 [zaa a0,.int .i64 a1])).bind fun r1=>
 (zaL (zcs a0 r1) ([],0)).bind fun r12=>
 some (⟨r12.isEmpty,r12⟩)
theorem zPY (a0:Forest) (a1:Int) (r:Sl (Int)) (h:zPX a0 a1=some r):pc prog 114 [zaa a0,.int .i64 a1]=some ((eSl (D.int .i64)) r):=by
 unfold zPX at h
 refine zaQ (fn:=zNa) rfl rfl ?_
 delta zNa
 try simp only[go_sem]
 obtain⟨r1,hr2,h⟩:=bs h
 replace hr2:=zag hr2
 refine zal hr2 ?_
 try simp only[go_sem]
 obtain⟨r12,hl13,h⟩:=bs h
 refine Wp.loopR zaV (n:=(0,[])) (a:=zsz) rfl (zgv a0 r1) (znJ a0 r1) (zAA a0 r1) hl13 ?_ (by(repeat(first|refine Clo.block ?_|refine Clo.seq zaV rfl ?_));(exact Clo.ret)) ?_
 ·show Up (0,[]) (zgv a0 r1 ([],0)) _
  delta zgv
  refine Up.of (N:=8) (N':=8) [] rfl rfl (by decide) ?_ ?_
  ·refine zae.set ?_ (zae.set ?_ (zae.set ?_ (zae.set ?_ zae.none)))
   all_goals (try simp only[go_sem,List.map_append,List.map_cons,List.map_nil])
   all_goals (first|exact VR.d _|exact VR.ptr' rfl)
  refine zah.set (show zar _ _ (Heap.get _ 7)from ?_) (zah.set (show zar _ _ (Heap.get _ 0)from ?_) (zah.at))
  all_goals (try simp only[go_sem,List.map_append,List.map_cons,List.map_nil])
  all_goals (((repeat' first|trivial|exact zar.refl_d);done))
 dsimp only[znJ]
 try simp only[go_sem]
 cases h
 refine Reads.ofv (v':=mb 7 (r12.map fun z=>V.d ((D.int .i64) z))) (by rfl) (Rd.mb (e:=(D.int .i64)) (l:=r12) (sz:=1) (fz:=r12.length) (by simp only[go_sem,List.map_append,List.map_cons,List.map_nil])) rfl
noncomputable def zPZ (a0:Forest) (a1:Int) (a2:List UInt8):Option (List UInt8):=
 (dec zao (pc prog 86 [zaa a0,.int .i64 a1])).bind fun r1=>
 (dec (D.int .i64) (pc prog 146 [.list r1.attrs.n (r1.attrs.l.map zbg),zcf (⟨[],[],a2⟩:Name)])).bind fun r3=>
 if(decide (r3<0))=true then
  some ([])
 else
  (rd r1.attrs.l r3).bind fun y7=>
  some y7.value
theorem zQa (a0:Forest) (a1:Int) (a2:List UInt8) (r:List UInt8) (h:zPZ a0 a1 a2=some r):pc prog 115 [zaa a0,.int .i64 a1,.str a2]=some (D.str r):=by
 unfold zPZ at h
 refine zaQ (fn:=zNb) rfl rfl ?_
 delta zNb
 try simp only[go_sem]
 obtain⟨r1,hr2,h⟩:=bs h
 replace hr2:=zag hr2
 refine zal hr2 ?_
 try simp only[go_sem]
 obtain⟨r3,hr4,h⟩:=bs h
 replace hr4:=zag hr4
 refine zal hr4 ?_
 try simp only[go_sem]
 refine zaf (fun hc5=> ?_) (fun hc6=> ?_)
 ·rw[if_pos hc5]at h
  try simp only[go_sem]
  cases h
  rfl
 rw[if_neg (ff hc6)]at h
 try simp only[go_sem]
 obtain⟨y7,hy8,h⟩:=bs h
 try simp only[go_sem,zab hy8,zaj hy8,zac zbg hy8]
 cases h
 rfl
noncomputable def zQb (a0:Forest) (a1:Int):Option (List UInt8):=
 (dec zao (pc prog 86 [zaa a0,.int .i64 a1])).bind fun r1=>
 if(!(r1.kind==1))=true then
  some ([])
 else
  (dec D.str (pc prog 115 [zaa a0,.int .i64 a1,.str ([115,108,111,116])])).bind fun r5=>
  some r5
theorem zQc (a0:Forest) (a1:Int) (r:List UInt8) (h:zQb a0 a1=some r):pc prog 116 [zaa a0,.int .i64 a1]=some (D.str r):=by
 unfold zQb at h
 refine zaQ (fn:=zNc) rfl rfl ?_
 delta zNc
 try simp only[go_sem]
 obtain⟨r1,hr2,h⟩:=bs h
 replace hr2:=zag hr2
 refine zal hr2 ?_
 try simp only[go_sem]
 refine zaz (fun hc3=> ?_) (fun hc4=> ?_)
 ·rw[if_pos (show(!(r1.kind==1))=true by(rw[hc3];rfl))]at h
  try simp only[go_sem]
  cases h
  rfl
 rw[if_neg (ffn hc4)]at h
 try simp only[go_sem]
 obtain⟨r5,hr6,h⟩:=bs h
 replace hr6:=zag hr6
 refine zal hr6 ?_
 try simp only[go_sem]
 cases h
 rfl
end Go.Proofs.YthodcjjgimeeoaaGreat.P
