/- Shaken copy of a longer text: what one law needs. Its conditions: none. -/
import Derived.Test.YthodcjjgimeeoaaGreatZPDec0
import Derived.Test.YthodcjjgimeeoaaGreatZPSpIt
set_option linter.unusedSimpArgs false
set_option linter.unusedVariables false
set_option maxHeartbeats 1000000
namespace Go.Proofs.YthodcjjgimeeoaaGreat.P
open Go.AI
theorem zeu {g:Rg} {rest:List (SOp×Option (Nat×Bool))} {i:Nat} {env:Regs} {H:Heap} {o:SOp} {b:Bool} {v:V} (k:zfm g rest (i+1) (env.set i (bif b then v else .d (.tuple []))) H) (he:b=true→zad (ans g.A) g.A.sh (g.base+i) env g.r H o=some (v,H):=by intro hb;first|(simp only[go_sem,hb];rfl)|(obtain⟨h1,h2⟩:=zdp hb;simp only[go_sem,h1,h2];rfl)|(obtain⟨h1,h2⟩:=zdp hb;obtain⟨h3,h4⟩:=zdp h1;simp only[go_sem,h2,h3,h4];rfl)):zbD g o rest i env H b:=zgY he k
noncomputable def P51 (a0:Forest) (a1:Sl (Assign)) (a2:Int) (a3:Bool):Option (Int×Int):=
 (dec (D.int .i64) (pc prog 25 [zaa a0,.list a1.n (a1.l.map zai)])).bind fun r1=>
 (if(r1==0)=true then
  (dec (D.int .i64) (pc prog 26 [zaa a0,.list false (([a2]).map (D.int .i64))])).bind fun r5=>
  some r5
 else
  some r1:Option ((Int))).bind fun r7=>
 if(!(r7==0))=true then
  some (0,r7)
 else
  (dec (eT2 (D.int .i64) (D.int .i64)) (pc prog 100 [zaW (⟨⟨a0.nodes⟩,a1⟩:shadow_by),.int .i64 a2])).bind fun r11=>
  if a3=true then
   (dec zao (pc prog 50 [zaa a0,.int .i64 r11.2])).bind fun r15=>
   if(r15.mode==2)=true then
    some (0,0)
   else
    some (r11.1,0)
  else
   some (r11.1,0)
theorem zQL (a0:Forest) (a1:Sl (Assign)) (a2:Int) (a3:Bool) (r:Int×Int) (h:P51 a0 a1 a2 a3=some r):pc prog 51 [zaa a0,.list a1.n (a1.l.map zai),.int .i64 a2,.bool a3]=some ((eT2 (D.int .i64) (D.int .i64)) r):=by
 unfold P51 at h
 refine zaQ (fn:=c51) rfl rfl ?_
 delta c51
 try simp only[go_sem]
 obtain⟨r1,hr2,h⟩:=bs h
 replace hr2:=zag hr2
 refine zal hr2 ?_
 try simp only[go_sem]
 obtain⟨r7,hl8,h⟩:=bs h
 refine WBr.cut (n:=(0,[])) .normal ⟨(((((Regs.none.set 1 (.d (.list a1.n (a1.l.map zai)))).set 2 (.d (.int .i64 a2))).set 3 (.d (.bool a3))).set 4 (.ptr 0 0 0)).set 10 (.d (.int .i64 r7))),((Heap.at 9).set 0 (some (.els 1 [.d (zaa a0)] 0)))⟩ ?_ (by(repeat(refine Clo.seq zaV rfl ?_));(exact Clo.ret)) ?_
 ·replace h:=hl8
  refine zaf (fun hc3=> ?_) (fun hc4=> ?_)
  ·rw[if_pos hc3]at h
   try simp only[go_sem]
   obtain⟨r5,hr6,h⟩:=bs h
   replace hr6:=zag hr6
   refine zal hr6 ?_
   try simp only[go_sem]
   cases h
   exact⟨rfl,Up.of (N:=9) (N':=14) [] rfl rfl (by decide) (.set (.d _) (.set (.ptr' rfl) (.set (.d _) (.set (.d _) (.set (.d _) zae.none))))) (.set zar.refl_d zah.at)⟩
  rw[if_neg (ff hc4)]at h
  try simp only[go_sem]
  cases h
  exact⟨rfl,Up.of (N:=9) (N':=9) [] rfl rfl (by decide) (.set (.d _) (.set (.ptr' rfl) (.set (.d _) (.set (.d _) (.set (.d _) zae.none))))) (.set zar.refl_d zah.at)⟩
 try simp only[go_sem]
 refine zaz (fun hc9=> ?_) (fun hc10=> ?_)
 ·rw[if_pos (show(!(r7==0))=true by(rw[hc9];rfl))]at h
  try simp only[go_sem]
  cases h
  rfl
 rw[if_neg (ffn hc10)]at h
 try simp only[go_sem]
 obtain⟨r11,hr12,h⟩:=bs h
 replace hr12:=zag hr12
 refine zal hr12 ?_
 try simp only[go_sem]
 iterate 2 (refine zeu ?_;try simp only[go_sem])
 refine zax (fun hc13=> ?_) (fun hc14=> ?_)
 ·rw[if_pos hc13]at h
  try simp only[go_sem,hc13]
  obtain⟨r15,hr16,h⟩:=bs h
  replace hr16:=zag hr16
  refine zal hr16 ?_
  try simp only[go_sem]
  refine zaf (fun hc17=> ?_) (fun hc18=> ?_)
  ·rw[if_pos hc17]at h
   try simp only[go_sem]
   cases h
   rfl
  rw[if_neg (ff hc18)]at h
  try simp only[go_sem]
  cases h
  rfl
 rw[if_neg (ff hc14)]at h
 try simp only[go_sem,hc14]
 cases h
 rfl
def ziN (a0:Forest) (a1:Sl (Assign)) (x0:Int):St:=⟨((((Regs.none.set 0 (.d (.list a1.n (a1.l.map zai)))).set 1 (.d (.fn 58))).set 7 (.d (.int .i64 (a1.l.length:Int)))).set 8 (.d (.int .i64 x0))),((Heap.at 24).set 0 (some (.els 1 [.d (zaa a0)] 0)))⟩
def znv (a0:Forest) (a1:Sl (Assign)):((Unit)⊕(Int))→Ex×St:=fun r=>match r with
 |(.inl r)=>(.exit 0,⟨Regs.none,((Heap.at 24).set 0 (some (.els 1 [.d (zaa a0)] 0)))⟩)
 |(.inr r)=>(.ret,⟨(Regs.none.set 4 (.d (.int .i64 r))),((Heap.at 24).set 0 (some (.els 1 [.d (zaa a0)] 0)))⟩)
noncomputable def zeO (a0:Forest) (a1:Sl (Assign)) (x0:Int):Option ((Int)⊕((Unit)⊕(Int))):=
 if(decide (x0<(a1.l.length:Int)))=true then
  (rd a1.l x0).bind fun y9=>
  (dec D.bool (pc prog 58 [zai y9])).bind fun r11=>
  if r11=true then
   some (.inr (.inr x0))
  else
   some (.inl (IntKind.wrap .i64 (x0+1)))
 else
  some (.inr (.inl ()))
theorem zEs (a0:Forest) (a1:Sl (Assign)) (x0:Int) (o:(Int)⊕((Unit)⊕(Int))) (h:zeO a0 a1 x0=some o):Wp prog zss (ziN a0 a1 x0) (zbq (20,[]) (ziN a0 a1) (znv a0 a1) o):=by
 unfold zeO at h
 delta zss ziN
 try simp only[go_sem]
 refine zaf (fun hc7=> ?_) (fun hc8=> ?_)
 ·rw[if_pos hc7]at h
  try simp only[go_sem]
  obtain⟨y9,hy10,h⟩:=bs h
  try simp only[go_sem,zab hy10,zaj hy10,zac zai hy10]
  obtain⟨r11,hr12,h⟩:=bs h
  replace hr12:=zag hr12
  refine zzk zaV (n:=(33,[])) (n':=(20,[])) (N:=33) (v:= .d (.bool r11)) (zDu zaV rfl hr12 _) (by repeat(first|exact zef.at|refine zef.set (by decide) ?_ ?_|refine ziq.els ?_|exact zhj.nil|refine zhj.cons ?_ ?_|exact zfq.d)) rfl (by decide) ?_ rfl rfl rfl ?_ ?_ (show Fx.spans _ 27 6=true from by decide) (by decide) (by(repeat(first|refine Clo.block ?_|refine Clo.seq zaV rfl ?_));(exact Clo.lpost (by decide))) ?_;(repeat(first|exact zaN.no|refine zaN.set ?_ ?_|exact zaI.d|exact zaI.rp));(repeat(first|exact zaN.no|exact zaN.none|refine zaN.set ?_ ?_|refine zaN.args ?_|exact zbi.nil|refine zbi.cons ?_ ?_|exact zaI.d|exact zaI.undef|exact zaI.rp|exact zaI.ptr (by decide)|exact zaI.sl (by decide)|exact zaI.mb (by decide)|exact zaI.map (by decide)|exact zaI.yld (by decide)|exact zaI.it (by decide)|refine zaI.clo ?_ ?_|refine zaI.ofCells ?_|refine zaI.agg ?_|refine zaI.tuple ?_|refine zaI.bif ?_ ?_));(repeat(first|exact zaN.no|exact zaN.none|refine zaN.set ?_ ?_|refine zaN.args ?_|exact zbi.nil|refine zbi.cons ?_ ?_|exact zaI.d|exact zaI.undef|exact zaI.rp|exact zaI.ptr (by decide)|exact zaI.sl (by decide)|exact zaI.mb (by decide)|exact zaI.map (by decide)|exact zaI.yld (by decide)|exact zaI.it (by decide)|refine zaI.clo ?_ ?_|refine zaI.ofCells ?_|refine zaI.agg ?_|refine zaI.tuple ?_|refine zaI.bif ?_ ?_))
  try simp only[go_sem,zab hy10,zaj hy10,zac zai hy10]
  refine zaf (fun hc13=> ?_) (fun hc14=> ?_)
  ·rw[if_pos hc13]at h
   try simp only[go_sem,zab hy10,zaj hy10,zac zai hy10]
   cases h
   exact⟨rfl,by simp,Up.of (N:=24) (N':=35) [] rfl rfl (by decide) (.set (.d _) zae.none) (.set zar.refl_d zah.at)⟩
  rw[if_neg (ff hc14)]at h
  try simp only[go_sem,zab hy10,zaj hy10,zac zai hy10]
  cases h
  exact⟨rfl,Up.of (N:=24) (N':=35) [] rfl rfl (by decide) (.set (.d _) (.set (.d _) (.set (.d _) (.set (.d _) zae.none)))) (.set zar.refl_d zah.at)⟩
 rw[if_neg (ff hc8)]at h
 try simp only[go_sem]
 cases h
 exact⟨rfl,by simp,Up.of (N:=24) (N':=25) [] rfl rfl (by decide) zae.none (.set zar.refl_d zah.at)⟩
def ziO (a0:Forest) (a1:Sl (Assign)) (x1:Int):St:=⟨(((((Regs.none.set 1 (.d (.list a1.n (a1.l.map zai)))).set 2 (.ptr 0 0 0)).set 26 (.d (.list a1.n (a1.l.map zai)))).set 27 (.d (.int .i64 (a1.l.length:Int)))).set 28 (.d (.int .i64 x1))),((Heap.at 17).set 0 (some (.els 1 [.d (zaa a0)] 0)))⟩
def znw (a0:Forest) (a1:Sl (Assign)):((Unit)⊕(Unit))→Ex×St:=fun r=>match r with
 |(.inl r)=>(.exit 0,⟨((Regs.none.set 1 (.d (.list a1.n (a1.l.map zai)))).set 2 (.ptr 0 0 0)),((Heap.at 17).set 0 (some (.els 1 [.d (zaa a0)] 0)))⟩)
 |(.inr r)=>(.ret,⟨(Regs.none.set 4 (.d (.int .i64 (2)))),(Heap.at 17)⟩)
noncomputable def zeP (a0:Forest) (a1:Sl (Assign)) (x1:Int):Option ((Int)⊕((Unit)⊕(Unit))):=
 if(decide (x1<(a1.l.length:Int)))=true then
  (rd a1.l x1).bind fun y25=>
  if y25.nodes.l=[]then
   (dec (D.int .i64) (pc prog 26 [zaa a0,.list false (([y25.slot]).map (D.int .i64))])).bind fun r29=>
   if(!(r29==0))=true then
    some (.inr (.inr ()))
   else
    some (.inl (IntKind.wrap .i64 (x1+1)))
  else
   if(([y25.slot]).length+y25.nodes.l.length)*8≤AI.roomBytes then
    (dec (D.int .i64) (pc prog 26 [zaa a0,.list false (([y25.slot]++y25.nodes.l).map (D.int .i64))])).bind fun r34=>
    if(!(r34==0))=true then
     some (.inr (.inr ()))
    else
     some (.inl (IntKind.wrap .i64 (x1+1)))
   else none
 else
  some (.inr (.inl ()))
theorem zEt (a0:Forest) (a1:Sl (Assign)) (x1:Int) (o:(Int)⊕((Unit)⊕(Unit))) (h:zeP a0 a1 x1=some o):Wp prog zDw (ziO a0 a1 x1) (zbq (0,[]) (ziO a0 a1) (znw a0 a1) o):=by
 unfold zeP at h
 delta zDw ziO
 try simp only[go_sem]
 refine zaf (fun hc23=> ?_) (fun hc24=> ?_)
 ·rw[if_pos hc23]at h
  try simp only[go_sem]
  obtain⟨y25,hy26,h⟩:=bs h
  try simp only[go_sem,zab hy26,zaj hy26,zac zai hy26]
  by_cases hz27:y25.nodes.l=[]
  ·rw[if_pos hz27]at h
   refine zkJ (by simp only[go_sem,zbv,zbL,zbG,zbb,zfh,List.map_nil,hz27]) (by rfl) ?_
   try simp only[go_sem,zab hy26,zaj hy26,zac zai hy26]
   obtain⟨r29,hr30,h⟩:=bs h
   replace hr30:=zag hr30
   refine zal hr30 ?_
   try simp only[go_sem,zab hy26,zaj hy26,zac zai hy26]
   refine zaz (fun hc31=> ?_) (fun hc32=> ?_)
   ·rw[if_pos (show(!(r29==0))=true by(rw[hc31];rfl))]at h
    try simp only[go_sem,zab hy26,zaj hy26,zac zai hy26]
    cases h
    exact⟨rfl,by simp,Up.of (N:=17) (N':=32) [] rfl rfl (by decide) (.set (.d _) zae.none) zah.at⟩
   rw[if_neg (ffn hc32)]at h
   try simp only[go_sem,zab hy26,zaj hy26,zac zai hy26]
   cases h
   exact⟨rfl,Up.of (N:=17) (N':=33) [] rfl rfl (by decide) (.set (.d _) (.set (.d _) (.set (.d _) (.set (.ptr' rfl) (.set (.d _) zae.none))))) (.set zar.refl_d zah.at)⟩
  have hz28:=hz27;rw[if_neg hz28]at h
  obtain⟨hm33,h⟩:=zbM h
  refine zdK (l:=([y25.slot]).map fun z=>V.d ((D.int .i64) z)) (fz:=0) (new:=y25.nodes.l.map fun z=>V.d ((D.int .i64) z)) (by simp only[go_sem,List.map_append,List.map_cons,List.map_nil,zab hy26,zaj hy26,zac zai hy26]) (by simp only[go_sem,zbv,zbL,zbG,zbb,zfh]) (by simpa using hz28) (by rw[←zfh];exact zfU (e:=(D.int .i64)) (fun _=>rfl) (fun _=>rfl) _) (by simp) (by simpa using hm33) ?_
  try rw[←List.map_append]
  try simp only[go_sem,zab hy26,zaj hy26,zac zai hy26,hm33]
  obtain⟨r34,hr35,h⟩:=bs h
  replace hr35:=zag hr35
  refine zal hr35 ?_
  try simp only[go_sem,zab hy26,zaj hy26,zac zai hy26,hm33]
  refine zaz (fun hc36=> ?_) (fun hc37=> ?_)
  ·rw[if_pos (show(!(r34==0))=true by(rw[hc36];rfl))]at h
   try simp only[go_sem,zab hy26,zaj hy26,zac zai hy26,hm33]
   cases h
   exact⟨rfl,by simp,Up.of (N:=17) (N':=32) [] rfl rfl (by decide) (.set (.d _) zae.none) zah.at⟩
  rw[if_neg (ffn hc37)]at h
  try simp only[go_sem,zab hy26,zaj hy26,zac zai hy26,hm33]
  cases h
  exact⟨rfl,Up.of (N:=17) (N':=33) [] rfl rfl (by decide) (.set (.d _) (.set (.d _) (.set (.d _) (.set (.ptr' rfl) (.set (.d _) zae.none))))) (.set zar.refl_d zah.at)⟩
 rw[if_neg (ff hc24)]at h
 try simp only[go_sem]
 cases h
 exact⟨rfl,by simp,Up.of (N:=17) (N':=18) [] rfl rfl (by decide) (.set (.ptr' rfl) (.set (.d _) zae.none)) (.set zar.refl_d zah.at)⟩
def ziP (a0:Forest) (a1:Sl (Assign)) (x2:List (Int×Bool)×List (Int×Bool)×Int) (y43:Assign) (x3:List (Int×Bool)×Int):St:=⟨(((((((((Regs.none.set 2 (.ptr 0 0 0)).set 8 (.map 17)).set 9 (.map 18)).set 44 (.d (.list a1.n (a1.l.map zai)))).set 45 (.d (.int .i64 (a1.l.length:Int)))).set 46 (.d (.int .i64 x2.2.2))).set 66 (.d (.list y43.nodes.n (y43.nodes.l.map (D.int .i64))))).set 67 (.d (.int .i64 (y43.nodes.l.length:Int)))).set 68 (.d (.int .i64 x3.2))),((((Heap.at 49).set 0 (some (.els 1 [.d (zaa a0)] 0))).set 17 (some (.map (ents (D.int .i64) (fun z=>V.d (D.bool z)) (zfy y43.slot true x2.1) 0) (zfy y43.slot true x2.1).length))).set 18 (some (.map (ents (D.int .i64) (fun z=>V.d (D.bool z)) x3.1 0) x3.1.length)))⟩
def znx (a0:Forest) (a1:Sl (Assign)) (x2:List (Int×Bool)×List (Int×Bool)×Int) (y43:Assign):((List (Int×Bool))⊕(Unit))→Ex×St:=fun r=>match r with
 |(.inl r)=>(.exit 4,⟨((((((Regs.none.set 2 (.ptr 0 0 0)).set 8 (.map 17)).set 9 (.map 18)).set 44 (.d (.list a1.n (a1.l.map zai)))).set 45 (.d (.int .i64 (a1.l.length:Int)))).set 46 (.d (.int .i64 x2.2.2))),((((Heap.at 49).set 0 (some (.els 1 [.d (zaa a0)] 0))).set 17 (some (.map (ents (D.int .i64) (fun z=>V.d (D.bool z)) (zfy y43.slot true x2.1) 0) (zfy y43.slot true x2.1).length))).set 18 (some (.map (ents (D.int .i64) (fun z=>V.d (D.bool z)) r 0) r.length)))⟩)
 |(.inr r)=>(.ret,⟨(Regs.none.set 4 (.d (.int .i64 (23)))),(Heap.at 49)⟩)
noncomputable def zcy (a0:Forest) (a1:Sl (Assign)) (x2:List (Int×Bool)×List (Int×Bool)×Int) (y43:Assign) (x3:List (Int×Bool)×Int):Option ((List (Int×Bool)×Int)⊕((List (Int×Bool))⊕(Unit))):=
 if(decide (x3.2<(y43.nodes.l.length:Int)))=true then
  (rd y43.nodes.l x3.2).bind fun y55=>
  if(!(zhW y55 x3.1 false))=true then
   (dec zao (pc prog 50 [zaa a0,.int .i64 y55])).bind fun r59=>
   (dec D.bool (pc prog 60 [zao r59])).bind fun r61=>
   if(!r61)=true then
    some (.inr (.inr ()))
   else
    some (.inl ((zfy y55 true x3.1),(IntKind.wrap .i64 (x3.2+1))))
  else
   some (.inr (.inr ()))
 else
  some (.inr (.inl x3.1))
theorem zEu (a0:Forest) (a1:Sl (Assign)) (x2:List (Int×Bool)×List (Int×Bool)×Int) (y43:Assign) (x3:List (Int×Bool)×Int) (o:(List (Int×Bool)×Int)⊕((List (Int×Bool))⊕(Unit))) (h:zcy a0 a1 x2 y43 x3=some o):Wp prog zDx (ziP a0 a1 x2 y43 x3) (zbq (0,[]) (ziP a0 a1 x2 y43) (znx a0 a1 x2 y43) o):=by
 unfold zcy at h
 delta zDx ziP
 try simp only[go_sem]
 refine zaf (fun hc53=> ?_) (fun hc54=> ?_)
 ·rw[if_pos hc53]at h
  try simp only[go_sem,zaD (e:=(D.int .i64)) (ev:=D.bool) zak,zaE (e:=(D.int .i64)) (ev:=D.bool) zak,zay (e:=(D.int .i64)) (ev:=D.bool) zak,zaF (e:=(D.int .i64)) (ev:=D.bool) zak,zaG (e:=(D.int .i64)) (ev:=D.bool)]
  obtain⟨y55,hy56,h⟩:=bs h
  try simp only[go_sem,zaD (e:=(D.int .i64)) (ev:=D.bool) zak,zaE (e:=(D.int .i64)) (ev:=D.bool) zak,zay (e:=(D.int .i64)) (ev:=D.bool) zak,zaF (e:=(D.int .i64)) (ev:=D.bool) zak,zaG (e:=(D.int .i64)) (ev:=D.bool),zab hy56,zaj hy56,zac (D.int .i64) hy56]
  iterate 2 (refine zeu ?_;try simp only[go_sem,zaD (e:=(D.int .i64)) (ev:=D.bool) zak,zaE (e:=(D.int .i64)) (ev:=D.bool) zak,zay (e:=(D.int .i64)) (ev:=D.bool) zak,zaF (e:=(D.int .i64)) (ev:=D.bool) zak,zaG (e:=(D.int .i64)) (ev:=D.bool),zab hy56,zaj hy56,zac (D.int .i64) hy56])
  refine zaB (fun hc57=> ?_) (fun hc58=> ?_)
  ·rw[if_pos (show(!(zhW y55 x3.1 false))=true by(rw[hc57];rfl))]at h
   try simp only[go_sem,zaD (e:=(D.int .i64)) (ev:=D.bool) zak,zaE (e:=(D.int .i64)) (ev:=D.bool) zak,zay (e:=(D.int .i64)) (ev:=D.bool) zak,zaF (e:=(D.int .i64)) (ev:=D.bool) zak,zaG (e:=(D.int .i64)) (ev:=D.bool),zab hy56,zaj hy56,zac (D.int .i64) hy56,hc57]
   obtain⟨r59,hr60,h⟩:=bs h
   replace hr60:=zag hr60
   refine zal hr60 ?_
   try simp only[go_sem,zaD (e:=(D.int .i64)) (ev:=D.bool) zak,zaE (e:=(D.int .i64)) (ev:=D.bool) zak,zay (e:=(D.int .i64)) (ev:=D.bool) zak,zaF (e:=(D.int .i64)) (ev:=D.bool) zak,zaG (e:=(D.int .i64)) (ev:=D.bool),zab hy56,zaj hy56,zac (D.int .i64) hy56]
   obtain⟨r61,hr62,h⟩:=bs h
   replace hr62:=zag hr62
   refine zal hr62 ?_
   try simp only[go_sem,zaD (e:=(D.int .i64)) (ev:=D.bool) zak,zaE (e:=(D.int .i64)) (ev:=D.bool) zak,zay (e:=(D.int .i64)) (ev:=D.bool) zak,zaF (e:=(D.int .i64)) (ev:=D.bool) zak,zaG (e:=(D.int .i64)) (ev:=D.bool),zab hy56,zaj hy56,zac (D.int .i64) hy56]
   refine zaz (fun hc63=> ?_) (fun hc64=> ?_)
   ·rw[if_pos (show(!r61)=true by(rw[hc63];rfl))]at h
    try simp only[go_sem,zaD (e:=(D.int .i64)) (ev:=D.bool) zak,zaE (e:=(D.int .i64)) (ev:=D.bool) zak,zay (e:=(D.int .i64)) (ev:=D.bool) zak,zaF (e:=(D.int .i64)) (ev:=D.bool) zak,zaG (e:=(D.int .i64)) (ev:=D.bool),zab hy56,zaj hy56,zac (D.int .i64) hy56]
    cases h
    exact⟨rfl,by simp,Up.of (N:=49) (N':=64) [] rfl rfl (by decide) (.set (.d _) zae.none) zah.at⟩
   rw[if_neg (ffn hc64)]at h
   try simp only[go_sem,zaD (e:=(D.int .i64)) (ev:=D.bool) zak,zaE (e:=(D.int .i64)) (ev:=D.bool) zak,zay (e:=(D.int .i64)) (ev:=D.bool) zak,zaF (e:=(D.int .i64)) (ev:=D.bool) zak,zaG (e:=(D.int .i64)) (ev:=D.bool),zab hy56,zaj hy56,zac (D.int .i64) hy56]
   cases h
   exact⟨rfl,Up.of (N:=49) (N':=68) [] rfl rfl (by decide) (.set (.d _) (.set (.d _) (.set (.d _) (.set (.d _) (.set (.d _) (.set (.d _) (.set (.map' rfl) (.set (.map' rfl) (.set (.ptr' rfl) zae.none))))))))) (.set zar.map_d (.set zar.map_d (.set zar.refl_d zah.at)))⟩
  rw[if_neg (ffn hc58)]at h
  try simp only[go_sem,zaD (e:=(D.int .i64)) (ev:=D.bool) zak,zaE (e:=(D.int .i64)) (ev:=D.bool) zak,zay (e:=(D.int .i64)) (ev:=D.bool) zak,zaF (e:=(D.int .i64)) (ev:=D.bool) zak,zaG (e:=(D.int .i64)) (ev:=D.bool),zab hy56,zaj hy56,zac (D.int .i64) hy56,hc58]
  cases h
  exact⟨rfl,by simp,Up.of (N:=49) (N':=64) [] rfl rfl (by decide) (.set (.d _) zae.none) zah.at⟩
 rw[if_neg (ff hc54)]at h
 try simp only[go_sem,zaD (e:=(D.int .i64)) (ev:=D.bool) zak,zaE (e:=(D.int .i64)) (ev:=D.bool) zak,zay (e:=(D.int .i64)) (ev:=D.bool) zak,zaF (e:=(D.int .i64)) (ev:=D.bool) zak,zaG (e:=(D.int .i64)) (ev:=D.bool)]
 cases h
 exact⟨rfl,by simp,Up.of (N:=49) (N':=50) [] rfl rfl (by decide) (.set (.d _) (.set (.d _) (.set (.d _) (.set (.map' rfl) (.set (.map' rfl) (.set (.ptr' rfl) zae.none)))))) (.set zar.map_d (.set zar.map_d (.set zar.refl_d zah.at)))⟩
def ziQ (a0:Forest) (a1:Sl (Assign)) (x2:List (Int×Bool)×List (Int×Bool)×Int):St:=⟨((((((Regs.none.set 2 (.ptr 0 0 0)).set 8 (.map 17)).set 9 (.map 18)).set 44 (.d (.list a1.n (a1.l.map zai)))).set 45 (.d (.int .i64 (a1.l.length:Int)))).set 46 (.d (.int .i64 x2.2.2))),((((Heap.at 24).set 0 (some (.els 1 [.d (zaa a0)] 0))).set 17 (some (.map (ents (D.int .i64) (fun z=>V.d (D.bool z)) x2.1 0) x2.1.length))).set 18 (some (.map (ents (D.int .i64) (fun z=>V.d (D.bool z)) x2.2.1 0) x2.2.1.length)))⟩
def zny (a0:Forest) (a1:Sl (Assign)):((Unit)⊕(Unit))→Ex×St:=fun r=>match r with
 |(.inl r)=>(.exit 2,⟨Regs.none,(Heap.at 24)⟩)
 |(.inr r)=>(.ret,⟨(Regs.none.set 4 (.d (.int .i64 (23)))),(Heap.at 24)⟩)
noncomputable def zcz (a0:Forest) (a1:Sl (Assign)) (x2:List (Int×Bool)×List (Int×Bool)×Int):Option ((List (Int×Bool)×List (Int×Bool)×Int)⊕((Unit)⊕(Unit))):=
 if(decide (x2.2.2<(a1.l.length:Int)))=true then
  (rd a1.l x2.2.2).bind fun y43=>
  if(!(zhW y43.slot x2.1 false))=true then
   (dec zao (pc prog 50 [zaa a0,.int .i64 y43.slot])).bind fun r47=>
   (dec D.bool (pc prog 59 [zao r47])).bind fun r49=>
   if(!r49)=true then
    some (.inr (.inr ()))
   else
    (zaL (zcy a0 a1 x2 y43) (x2.2.1,0)).bind fun r67=>
    match r67 with
    |(.inl q69)=>
     some (.inl ((zfy y43.slot true x2.1),q69,(IntKind.wrap .i64 (x2.2.2+1))))
    |(.inr q70)=>
     some (.inr (.inr ()))
  else
   some (.inr (.inr ()))
 else
  some (.inr (.inl ()))
theorem zEv (a0:Forest) (a1:Sl (Assign)) (x2:List (Int×Bool)×List (Int×Bool)×Int) (o:(List (Int×Bool)×List (Int×Bool)×Int)⊕((Unit)⊕(Unit))) (h:zcz a0 a1 x2=some o):Wp prog zDy (ziQ a0 a1 x2) (zbq (0,[]) (ziQ a0 a1) (zny a0 a1) o):=by
 unfold zcz at h
 delta zDy ziQ
 try simp only[go_sem]
 refine zaf (fun hc41=> ?_) (fun hc42=> ?_)
 ·rw[if_pos hc41]at h
  try simp only[go_sem,zaD (e:=(D.int .i64)) (ev:=D.bool) zak,zaE (e:=(D.int .i64)) (ev:=D.bool) zak,zay (e:=(D.int .i64)) (ev:=D.bool) zak,zaF (e:=(D.int .i64)) (ev:=D.bool) zak,zaG (e:=(D.int .i64)) (ev:=D.bool)]
  obtain⟨y43,hy44,h⟩:=bs h
  try simp only[go_sem,zaD (e:=(D.int .i64)) (ev:=D.bool) zak,zaE (e:=(D.int .i64)) (ev:=D.bool) zak,zay (e:=(D.int .i64)) (ev:=D.bool) zak,zaF (e:=(D.int .i64)) (ev:=D.bool) zak,zaG (e:=(D.int .i64)) (ev:=D.bool),zab hy44,zaj hy44,zac zai hy44]
  iterate 3 (refine zeu ?_;try simp only[go_sem,zaD (e:=(D.int .i64)) (ev:=D.bool) zak,zaE (e:=(D.int .i64)) (ev:=D.bool) zak,zay (e:=(D.int .i64)) (ev:=D.bool) zak,zaF (e:=(D.int .i64)) (ev:=D.bool) zak,zaG (e:=(D.int .i64)) (ev:=D.bool),zab hy44,zaj hy44,zac zai hy44])
  refine zaB (fun hc45=> ?_) (fun hc46=> ?_)
  ·rw[if_pos (show(!(zhW y43.slot x2.1 false))=true by(rw[hc45];rfl))]at h
   try simp only[go_sem,zaD (e:=(D.int .i64)) (ev:=D.bool) zak,zaE (e:=(D.int .i64)) (ev:=D.bool) zak,zay (e:=(D.int .i64)) (ev:=D.bool) zak,zaF (e:=(D.int .i64)) (ev:=D.bool) zak,zaG (e:=(D.int .i64)) (ev:=D.bool),zab hy44,zaj hy44,zac zai hy44,hc45]
   obtain⟨r47,hr48,h⟩:=bs h
   replace hr48:=zag hr48
   refine zal hr48 ?_
   try simp only[go_sem,zaD (e:=(D.int .i64)) (ev:=D.bool) zak,zaE (e:=(D.int .i64)) (ev:=D.bool) zak,zay (e:=(D.int .i64)) (ev:=D.bool) zak,zaF (e:=(D.int .i64)) (ev:=D.bool) zak,zaG (e:=(D.int .i64)) (ev:=D.bool),zab hy44,zaj hy44,zac zai hy44]
   obtain⟨r49,hr50,h⟩:=bs h
   replace hr50:=zag hr50
   refine zal hr50 ?_
   try simp only[go_sem,zaD (e:=(D.int .i64)) (ev:=D.bool) zak,zaE (e:=(D.int .i64)) (ev:=D.bool) zak,zay (e:=(D.int .i64)) (ev:=D.bool) zak,zaF (e:=(D.int .i64)) (ev:=D.bool) zak,zaG (e:=(D.int .i64)) (ev:=D.bool),zab hy44,zaj hy44,zac zai hy44]
   refine zaz (fun hc51=> ?_) (fun hc52=> ?_)
   ·rw[if_pos (show(!r49)=true by(rw[hc51];rfl))]at h
    try simp only[go_sem,zaD (e:=(D.int .i64)) (ev:=D.bool) zak,zaE (e:=(D.int .i64)) (ev:=D.bool) zak,zay (e:=(D.int .i64)) (ev:=D.bool) zak,zaF (e:=(D.int .i64)) (ev:=D.bool) zak,zaG (e:=(D.int .i64)) (ev:=D.bool),zab hy44,zaj hy44,zac zai hy44]
    cases h
    exact⟨rfl,by simp,Up.of (N:=24) (N':=42) [] rfl rfl (by decide) (.set (.d _) zae.none) zah.at⟩
   rw[if_neg (ffn hc52)]at h
   try simp only[go_sem,zaD (e:=(D.int .i64)) (ev:=D.bool) zak,zaE (e:=(D.int .i64)) (ev:=D.bool) zak,zay (e:=(D.int .i64)) (ev:=D.bool) zak,zaF (e:=(D.int .i64)) (ev:=D.bool) zak,zaG (e:=(D.int .i64)) (ev:=D.bool),zab hy44,zaj hy44,zac zai hy44]
   obtain⟨r67,hl68,h⟩:=bs h
   refine Wp.loopR zaV (n:=(0,[])) (a:=zDx) rfl (ziP a0 a1 x2 y43) (znx a0 a1 x2 y43) (zEu a0 a1 x2 y43) hl68 ?_ (by(repeat(first|refine Clo.block ?_|refine Clo.seq zaV rfl ?_));(exact Clo.lpost (by decide))) ?_
   ·show Up (0,[]) (ziP a0 a1 x2 y43 (x2.2.1,0)) _
    delta ziP
    exact Up.of (N:=49) (N':=49) [] rfl rfl (by decide) (.set (.d _) (.set (.d _) (.set (.d _) (.set (.d _) (.set (.d _) (.set (.d _) (.set (.map' rfl) (.set (.map' rfl) (.set (.ptr' rfl) zae.none))))))))) (.set zar.map_d (.set zar.map_d (.set zar.refl_d zah.at)))
   rcases r67 with(q69|q70)
   ·dsimp only at h
    dsimp only[znx]
    try simp only[go_sem,zaD (e:=(D.int .i64)) (ev:=D.bool) zak,zaE (e:=(D.int .i64)) (ev:=D.bool) zak,zay (e:=(D.int .i64)) (ev:=D.bool) zak,zaF (e:=(D.int .i64)) (ev:=D.bool) zak,zaG (e:=(D.int .i64)) (ev:=D.bool),zab hy44,zaj hy44,zac zai hy44]
    cases h
    exact⟨rfl,Up.of (N:=24) (N':=51) [] rfl rfl (by decide) (.set (.d _) (.set (.d _) (.set (.d _) (.set (.map' rfl) (.set (.map' rfl) (.set (.ptr' rfl) zae.none)))))) (.set zar.map_d (.set zar.map_d (.set zar.refl_d zah.at)))⟩
   dsimp only at h
   dsimp only[znx]
   try simp only[go_sem,zaD (e:=(D.int .i64)) (ev:=D.bool) zak,zaE (e:=(D.int .i64)) (ev:=D.bool) zak,zay (e:=(D.int .i64)) (ev:=D.bool) zak,zaF (e:=(D.int .i64)) (ev:=D.bool) zak,zaG (e:=(D.int .i64)) (ev:=D.bool),zab hy44,zaj hy44,zac zai hy44]
   cases h
   exact⟨rfl,by simp,Up.of (N:=24) (N':=49) [] rfl rfl (by decide) (.set (.d _) zae.none) zah.at⟩
  rw[if_neg (ffn hc46)]at h
  try simp only[go_sem,zaD (e:=(D.int .i64)) (ev:=D.bool) zak,zaE (e:=(D.int .i64)) (ev:=D.bool) zak,zay (e:=(D.int .i64)) (ev:=D.bool) zak,zaF (e:=(D.int .i64)) (ev:=D.bool) zak,zaG (e:=(D.int .i64)) (ev:=D.bool),zab hy44,zaj hy44,zac zai hy44,hc46]
  cases h
  exact⟨rfl,by simp,Up.of (N:=24) (N':=42) [] rfl rfl (by decide) (.set (.d _) zae.none) zah.at⟩
 rw[if_neg (ff hc42)]at h
 try simp only[go_sem,zaD (e:=(D.int .i64)) (ev:=D.bool) zak,zaE (e:=(D.int .i64)) (ev:=D.bool) zak,zay (e:=(D.int .i64)) (ev:=D.bool) zak,zaF (e:=(D.int .i64)) (ev:=D.bool) zak,zaG (e:=(D.int .i64)) (ev:=D.bool)]
 cases h
 exact⟨rfl,by simp,Up.of (N:=24) (N':=25) [] rfl rfl (by decide) zae.none zah.at⟩
noncomputable def P25 (a0:Forest) (a1:Sl (Assign)):Option (Int):=
 (dec (D.int .i64) (pc prog 26 [zaa a0,.list true []])).bind fun r1=>
 if(!(r1==0))=true then
  some r1
 else
  (if(!(decide (4096<(a1.l.length:Int))))=true then
   (zaL (zeO a0 a1) 0).bind fun r15=>
   match r15 with
   |(.inl q17)=>
    some false
   |(.inr q18)=>
    some (decide (0≤q18))
  else
   some true:Option ((Bool))).bind fun r19=>
  if r19=true then
   some (3)
  else
   (zaL (zeP a0 a1) 0).bind fun r38=>
   match r38 with
   |(.inl q40)=>
    (zaL (zcz a0 a1) ([],[],0)).bind fun r74=>
    match r74 with
    |(.inl q76)=>
     some (0)
    |(.inr q77)=>
     some (23)
   |(.inr q78)=>
    some (2)
theorem zQM (a0:Forest) (a1:Sl (Assign)) (r:Int) (h:P25 a0 a1=some r):pc prog 25 [zaa a0,.list a1.n (a1.l.map zai)]=some ((D.int .i64) r):=by
 unfold P25 at h
 refine zaQ (fn:=c25) rfl rfl ?_
 delta c25
 try simp only[go_sem]
 obtain⟨r1,hr2,h⟩:=bs h
 replace hr2:=zag hr2
 refine zal hr2 ?_
 try simp only[go_sem]
 refine zaz (fun hc3=> ?_) (fun hc4=> ?_)
 ·rw[if_pos (show(!(r1==0))=true by(rw[hc3];rfl))]at h
  try simp only[go_sem]
  cases h
  rfl
 rw[if_neg (ffn hc4)]at h
 try simp only[go_sem]
 refine zeu ?_
 try simp only[go_sem]
 obtain⟨r19,hl20,h⟩:=bs h
 refine zbD.cut (n:=(0,[])) .normal ⟨(((Regs.none.set 1 (.d (.list a1.n (a1.l.map zai)))).set 2 (.ptr 0 0 0)).set 25 (.d (.bool r19))),((Heap.at 14).set 0 (some (.els 1 [.d (zaa a0)] 0)))⟩ ?_ (by(repeat(refine Clo.seq zaV rfl ?_));(exact Clo.ret)) ?_
 ·replace h:=hl20
  refine zaB (fun hc5=> ?_) (fun hc6=> ?_)
  ·rw[if_pos (show(!(decide (4096<(a1.l.length:Int))))=true by(rw[hc5];rfl))]at h
   try simp only[go_sem,hc5]
   refine zcm (fn:=c57) rfl rfl ?_
   delta c57
   try simp only[go_sem]
   refine zcm (fn:=zMO) rfl rfl ?_
   delta zMO
   try simp only[go_sem]
   obtain⟨r15,hl16,h⟩:=bs h
   refine Wp.loopR zaV (n:=(20,[])) (a:=zss) rfl (ziN a0 a1) (znv a0 a1) (zEs a0 a1) hl16 ?_ (by(repeat(first|refine Clo.block ?_|refine Clo.seq zaV rfl ?_));refine Clo.inl zaV (n':=(14,[])) rfl rfl rfl ?_ ?_ (show Fx.spans _ 15 5=true from by decide) (by decide) ?_;((repeat(first|exact zaN.no|refine zaN.set ?_ ?_|refine zaN.args ?_|exact zbi.nil|refine zbi.cons ?_ ?_|exact zaI.d));(repeat(first|exact zaN.no|exact zaN.none|refine zaN.set ?_ ?_|refine zaN.args ?_|exact zbi.nil|refine zbi.cons ?_ ?_|exact zaI.d|exact zaI.undef|exact zaI.rp|exact zaI.ptr (by decide)|exact zaI.sl (by decide)|exact zaI.mb (by decide)|exact zaI.map (by decide)|exact zaI.yld (by decide)|exact zaI.it (by decide)|refine zaI.clo ?_ ?_|refine zaI.ofCells ?_|refine zaI.agg ?_|refine zaI.tuple ?_|refine zaI.bif ?_ ?_)));(repeat(refine Clo.seq zaV rfl ?_));refine Clo.inl zaV (n':=(0,[])) rfl rfl rfl ?_ ?_ (show Fx.spans _ 7 7=true from by decide) (by decide) ?_;((repeat(first|exact zaN.no|refine zaN.set ?_ ?_|refine zaN.args ?_|exact zbi.nil|refine zbi.cons ?_ ?_|exact zaI.d|exact zaI.ptr (by decide)));(repeat(first|exact zaN.no|exact zaN.none|refine zaN.set ?_ ?_|refine zaN.args ?_|exact zbi.nil|refine zbi.cons ?_ ?_|exact zaI.d|exact zaI.undef|exact zaI.rp|exact zaI.ptr (by decide)|exact zaI.sl (by decide)|exact zaI.mb (by decide)|exact zaI.map (by decide)|exact zaI.yld (by decide)|exact zaI.it (by decide)|refine zaI.clo ?_ ?_|refine zaI.ofCells ?_|refine zaI.agg ?_|refine zaI.tuple ?_|refine zaI.bif ?_ ?_)));(repeat(first|refine Clo.block ?_|refine Clo.seq zaV rfl ?_));(exact Clo.cpost (by decide))) ?_
   ·show Up (20,[]) (ziN a0 a1 0) _
    delta ziN
    exact Up.of (N:=24) (N':=24) [] rfl rfl (by decide) (.set (.d _) (.set (.d _) (.set (.d _) (.set (.d _) zae.none)))) (.set zar.refl_d zah.at)
   rcases r15 with(q17|q18)
   ·dsimp only at h
    dsimp only[znv]
    try simp only[go_sem]
    cases h
    exact⟨rfl,Up.of (N:=14) (N':=25) [] rfl rfl (by decide) (.set (.d _) (.set (.ptr' rfl) (.set (.d _) zae.none))) (.set zar.refl_d zah.at)⟩
   dsimp only at h
   dsimp only[znv]
   try simp only[go_sem]
   cases h
   exact⟨rfl,Up.of (N:=14) (N':=24) [] rfl rfl (by decide) (.set (.d _) (.set (.ptr' rfl) (.set (.d _) zae.none))) (.set zar.refl_d zah.at)⟩
  rw[if_neg (ffn hc6)]at h
  try simp only[go_sem,hc6]
  cases h
  exact⟨rfl,Up.of (N:=14) (N':=14) [] rfl rfl (by decide) (.set (.d _) (.set (.ptr' rfl) (.set (.d _) zae.none))) (.set zar.refl_d zah.at)⟩
 try simp only[go_sem]
 refine zaf (fun hc21=> ?_) (fun hc22=> ?_)
 ·rw[if_pos hc21]at h
  try simp only[go_sem]
  cases h
  rfl
 rw[if_neg (ff hc22)]at h
 try simp only[go_sem]
 obtain⟨r38,hl39,h⟩:=bs h
 refine Wp.loopR zaV (n:=(0,[])) (a:=zDw) rfl (ziO a0 a1) (znw a0 a1) (zEt a0 a1) hl39 ?_ (by(repeat(first|refine Clo.block ?_|refine Clo.seq zaV rfl ?_));(exact Clo.ret)) ?_
 ·show Up (0,[]) (ziO a0 a1 0) _
  delta ziO
  exact Up.of (N:=17) (N':=17) [] rfl rfl (by decide) (.set (.d _) (.set (.d _) (.set (.d _) (.set (.ptr' rfl) (.set (.d _) zae.none))))) (.set zar.refl_d zah.at)
 rcases r38 with(q40|q78)
 ·dsimp only at h
  dsimp only[znw]
  try simp only[go_sem]
  obtain⟨r74,hl75,h⟩:=bs h
  refine Wp.loopR zaV (n:=(0,[])) (a:=zDy) rfl (ziQ a0 a1) (zny a0 a1) (zEv a0 a1) hl75 ?_ (by(repeat(first|refine Clo.block ?_|refine Clo.seq zaV rfl ?_));(exact Clo.ret)) ?_
  ·show Up (0,[]) (ziQ a0 a1 ([],[],0)) _
   delta ziQ
   exact Up.of (N:=24) (N':=24) [] rfl rfl (by decide) (.set (.d _) (.set (.d _) (.set (.d _) (.set (.map' rfl) (.set (.map' rfl) (.set (.ptr' rfl) zae.none)))))) (.set zar.map_d (.set zar.map_d (.set zar.refl_d zah.at)))
  rcases r74 with(q76|q77)
  ·dsimp only at h
   dsimp only[zny]
   try simp only[go_sem]
   cases h
   rfl
  dsimp only at h
  dsimp only[zny]
  try simp only[go_sem]
  cases h
  rfl
 dsimp only at h
 dsimp only[znw]
 try simp only[go_sem]
 cases h
 rfl
def zeo (a0:shadow_by) (a1:Int) (r1:Node) (r3:Node) (x0:Unit):Heap:=((((((((((Heap.at 39).set 0 (some (.els 2 [.d (zaW a0)] 0))).set 1 (some (.els 1 [.d (.int .i64 a1)] 0))).set 2 (some (.els 1 [.d (.int .i64 (0))] 0))).set 3 (some (.els 1 [.d (.int .i64 (0))] 0))).set 8 (some (.els 16 [.d (zao r1)] 0))).set 16 (some (.els 1 [.d (.int .i64 r3.shadow)] 0))).set 29 (some (.els 1 [.d (zaa a0.f)] 0))).set 30 (some (.els 1 [.d (.int .i64 r3.shadow)] 0))).set 34 (some (.loop ⟨(((((Regs.none.set 2 (.ptr 0 0 0)).set 3 (.ptr 1 0 0)).set 4 (.ptr 2 0 0)).set 5 (.ptr 3 0 0)).set 7 (.ptr 16 0 0)),[30],zlR,zlS,.ready,none⟩)))
def zjX (a0:shadow_by) (a1:Int) (r1:Node) (r3:Node):((Int))→Heap:=fun r=>((((((((((Heap.at 39).set 0 (some (.els 2 [.d (zaW a0)] 0))).set 1 (some (.els 1 [.d (.int .i64 a1)] 0))).set 2 (some (.els 1 [.d (.int .i64 r)] 0))).set 3 (some (.els 1 [.d (.int .i64 r3.shadow)] 0))).set 8 (some (.els 16 [.d (zao r1)] 0))).set 16 (some (.els 1 [.d (.int .i64 r3.shadow)] 0))).set 29 (some (.els 1 [.d (zaa a0.f)] 0))).set 30 (some (.els 1 [.d (.int .i64 r3.shadow)] 0))).set 34 (some (.loop ⟨(((((Regs.none.set 2 (.ptr 0 0 0)).set 3 (.ptr 1 0 0)).set 4 (.ptr 2 0 0)).set 5 (.ptr 3 0 0)).set 7 (.ptr 16 0 0)),[30],zlR,zlS,.done,(some .ret)⟩)))
noncomputable def zfl (a0:shadow_by) (a1:Int) (r1:Node) (r3:Node) (x0:Unit) (v0:Int):Option ((Unit)⊕((Int))):=
 (dec zao (pc prog 50 [zaa a0.f,.int .i64 v0])).bind fun r9=>
 (dec D.bool (pc prog 59 [zao r9])).bind fun r11=>
 if r11=true then
  (dec zao (pc prog 50 [zaa a0.f,.int .i64 r3.shadow])).bind fun r15=>
  (dec D.bool (pc prog 125 [zaW a0,.int .i64 v0,.int .i64 a1,.bool r15.manual])).bind fun r17=>
  if r17=true then
   some (.inr v0)
  else
   some (.inl ())
 else
  some (.inl ())
theorem zAu (a0:shadow_by) (a1:Int) (r1:Node) (r3:Node):Yl prog (39,[]) 34 (D.int .i64) (zeo a0 a1 r1 r3) (zjX a0 a1 r1 r3) (zfl a0 a1 r1 r3):=by
 refine⟨by decide,fun x0=> ?_,fun r=> ?_,fun x0 v0 o h=> ?_⟩
 ·show LocH 39 _;delta zeo;repeat(first|exact LocH.at|refine LocH.set (by decide) ?_ ?_|refine zJh.some ?_|refine zri.els ?_|refine zri.loop ?_|exact zhj.nil|refine zhj.cons ?_ ?_|exact zfq.d|exact zfq.ptr (by decide)|exact zAM.none|refine zAM.set ?_ ?_)
 ·show LocH 39 (((((((((((Heap.at 39).set 0 (some (.els 2 [.d (zaW a0)] 0))).set 1 (some (.els 1 [.d (.int .i64 a1)] 0))).set 2 (some (.els 1 [.d (.int .i64 r)] 0))).set 3 (some (.els 1 [.d (.int .i64 r3.shadow)] 0))).set 8 (some (.els 16 [.d (zao r1)] 0))).set 16 (some (.els 1 [.d (.int .i64 r3.shadow)] 0))).set 29 (some (.els 1 [.d (zaa a0.f)] 0))).set 30 (some (.els 1 [.d (.int .i64 r3.shadow)] 0))).set 34 (some (.loop ⟨(((((Regs.none.set 2 (.ptr 0 0 0)).set 3 (.ptr 1 0 0)).set 4 (.ptr 2 0 0)).set 5 (.ptr 3 0 0)).set 7 (.ptr 16 0 0)),[30],zlR,zlS,.done,(some .ret)⟩))));repeat(first|exact LocH.at|refine LocH.set (by decide) ?_ ?_|refine zJh.some ?_|refine zri.els ?_|refine zri.loop ?_|exact zhj.nil|refine zhj.cons ?_ ?_|exact zfq.d|exact zfq.ptr (by decide)|exact zAM.none|refine zAM.set ?_ ?_)
 unfold zfl at h
 delta zeo
 refine zzg (L:=⟨(((((Regs.none.set 2 (.ptr 0 0 0)).set 3 (.ptr 1 0 0)).set 4 (.ptr 2 0 0)).set 5 (.ptr 3 0 0)).set 7 (.ptr 16 0 0)),[30],zlR,zlS,.ready,none⟩) (by simp only[go_sem]) rfl ?_
 delta zlR
 try simp only[go_sem]
 delta zlS
 try simp only[go_sem]
 obtain⟨r9,hr10,h⟩:=bs h
 replace hr10:=zag hr10
 refine zal hr10 ?_
 try simp only[go_sem]
 obtain⟨r11,hr12,h⟩:=bs h
 replace hr12:=zag hr12
 refine zal hr12 ?_
 try simp only[go_sem]
 iterate 6 (refine zeu ?_;try simp only[go_sem])
 refine zax (fun hc13=> ?_) (fun hc14=> ?_)
 ·rw[if_pos hc13]at h
  try simp only[go_sem,hc13]
  obtain⟨r15,hr16,h⟩:=bs h
  replace hr16:=zag hr16
  refine zal hr16 ?_
  try simp only[go_sem]
  obtain⟨r17,hr18,h⟩:=bs h
  replace hr18:=zag hr18
  refine zal hr18 ?_
  try simp only[go_sem]
  refine zaf (fun hc19=> ?_) (fun hc20=> ?_)
  ·rw[if_pos hc19]at h
   try simp only[go_sem]
   cases h
   exact⟨rfl,Up.of (N:=39) (N':=60) [] rfl rfl (by decide) zae.none (.set (zar.loop (.set (.ptr' rfl) (.set (.ptr' rfl) (.set (.ptr' rfl) (.set (.ptr' rfl) (.set (.ptr' rfl) zae.none))))) rfl rfl) (.set zar.refl_d (.set zar.refl_d (.set zar.refl_d (.set zar.refl_d (.set zar.refl_d (.set zar.refl_d (.set zar.refl_d (.set zar.refl_d zah.at)))))))))⟩
  rw[if_neg (ff hc20)]at h
  try simp only[go_sem]
  cases h
  exact⟨rfl,Up.of (N:=39) (N':=56) [] rfl rfl (by decide) zae.none (.set (zar.loop (.set (.ptr' rfl) (.set (.ptr' rfl) (.set (.ptr' rfl) (.set (.ptr' rfl) (.set (.ptr' rfl) zae.none))))) rfl rfl) (.set zar.refl_d (.set zar.refl_d (.set zar.refl_d (.set zar.refl_d (.set zar.refl_d (.set zar.refl_d (.set zar.refl_d (.set zar.refl_d zah.at)))))))))⟩
 rw[if_neg (ff hc14)]at h
 try simp only[go_sem,hc14]
 cases h
 exact⟨rfl,Up.of (N:=39) (N':=56) [] rfl rfl (by decide) zae.none (.set (zar.loop (.set (.ptr' rfl) (.set (.ptr' rfl) (.set (.ptr' rfl) (.set (.ptr' rfl) (.set (.ptr' rfl) zae.none))))) rfl rfl) (.set zar.refl_d (.set zar.refl_d (.set zar.refl_d (.set zar.refl_d (.set zar.refl_d (.set zar.refl_d (.set zar.refl_d (.set zar.refl_d zah.at)))))))))⟩
noncomputable def zPJ (a0:shadow_by) (a1:Int):Option (Int×Int):=
 (dec zao (pc prog 50 [zaa a0.f,.int .i64 a1])).bind fun r1=>
 (dec zao (pc prog 50 [zaa a0.f,.int .i64 r1.parent])).bind fun r3=>
 (dec D.bool (pc prog 60 [zao r1])).bind fun r5=>
 if(bif (!r5)then true else(r3.shadow==0))=true then
  some (0,0)
 else
  (zhR a0.f r3.shadow).bind fun l27=>
  (foldI (zfl a0 a1 r1 r3) () l27).bind fun r29=>
  match r29 with
  | .inl q31=>
   some (0,0)
  | .inr q32=>
   some (q32,r3.shadow)
theorem zPK (a0:shadow_by) (a1:Int) (r:Int×Int) (h:zPJ a0 a1=some r):pc prog 100 [zaW a0,.int .i64 a1]=some ((eT2 (D.int .i64) (D.int .i64)) r):=by
 unfold zPJ at h
 refine zaQ (fn:=zMN) rfl rfl ?_
 delta zMN
 try simp only[go_sem]
 obtain⟨r1,hr2,h⟩:=bs h
 replace hr2:=zag hr2
 refine zal hr2 ?_
 try simp only[go_sem]
 obtain⟨r3,hr4,h⟩:=bs h
 replace hr4:=zag hr4
 refine zal hr4 ?_
 try simp only[go_sem]
 obtain⟨r5,hr6,h⟩:=bs h
 replace hr6:=zag hr6
 refine zal hr6 ?_
 try simp only[go_sem]
 iterate 2 (refine zeu ?_;try simp only[go_sem])
 refine zaf (fun hc7=> ?_) (fun hc8=> ?_)
 ·rw[if_pos hc7]at h
  try simp only[go_sem]
  cases h
  rfl
 rw[if_neg (ff hc8)]at h
 try simp only[go_sem]
 refine zcm (fn:=zNg) rfl rfl ?_
 delta zNg
 try simp only[go_sem]
 refine Wp.rfuncC (k:=151) (fn:=zNG) (first:=[]) (cap:=[.ptr 29 0 0,.ptr 30 0 0]) (by simp only[go_sem]) rfl rfl ?_
 delta zNG
 try simp only[go_sem]
 obtain⟨l27,hl28,h⟩:=bs h
 obtain⟨r29,hl30,h⟩:=bs h
 refine zzh zaV (n:=(39,[])) (n':=(35,[])) (S:=zeo a0 a1 r1 r3) (F:=zjX a0 a1 r1 r3) (zpH hl28) (zAu a0 a1 r1 r3) (fun _=>Nat.le_refl _) (fun r=>Nat.le_refl _) hl30 ?_ rfl rfl rfl ?_ ?_ (show Fx.spans _ 35 4=true from by decide) (by decide) (by(repeat(first|refine Clo.block ?_|refine Clo.seq zaV rfl ?_));refine Clo.rf (n':=(0,[])) ?_ (by decide) (by decide) ?_;((repeat(first|refine zaN.set ?_ ?_|refine zaN.args ?_|exact zbi.nil|refine zbi.cons ?_ ?_|exact zaI.d|exact zaI.ptr (by decide)|refine zaI.clo ?_ ?_)));(repeat(first|refine Clo.block ?_|refine Clo.seq zaV rfl ?_));(exact Clo.ret)) rfl ?_
 ·show Up (39,[]) ⟨Regs.none,zeo a0 a1 r1 r3 ()⟩ _
  delta zeo
  exact Up.of (N:=39) (N':=39) [] rfl rfl (by decide) zae.none (.set (zar.loop (.set (.ptr' rfl) (.set (.ptr' rfl) (.set (.ptr' rfl) (.set (.ptr' rfl) (.set (.ptr' rfl) zae.none))))) rfl rfl) (.set zar.refl_d (.set zar.refl_d (.set zar.refl_d (.set zar.refl_d (.set zar.refl_d (.set zar.refl_d (.set zar.refl_d (.set zar.refl_d zah.at)))))))))
 ·repeat(first|exact zaN.no|refine zaN.set ?_ ?_|exact zaI.d|exact zaI.yld (by decide))
 ·repeat(first|refine zaN.args ?_|exact zbi.nil|refine zbi.cons ?_ ?_|exact zaI.ptr (by decide)|exact zaI.yld (by decide))
 rcases r29 with(q31|q32)
 ·dsimp only at h
  simp only[zzi,zzj,zin,zio]
  dsimp only[zeo,zjX]
  try simp only[go_sem]
  cases h
  rfl
 dsimp only at h
 simp only[zzi,zzj,zin,zio]
 dsimp only[zeo,zjX]
 try simp only[go_sem]
 cases h
 rfl
noncomputable def P59 (a0:Node):Option (Bool):=
 if(a0.kind==1)=true then
  some (decide (a0.name=(⟨[104,116,116,112,58,47,47,119,119,119,46,119,51,46,111,114,103,47,49,57,57,57,47,120,104,116,109,108],a0.name.prefix_,[115,108,111,116]⟩:Name)))
 else
  some false
theorem zQN (a0:Node) (r:Bool) (h:P59 a0=some r):pc prog 59 [zao a0]=some (D.bool r):=by
 unfold P59 at h
 refine zaQ (fn:=c59) rfl rfl ?_
 delta c59
 try simp only[go_sem]
 iterate 5 (refine zeu ?_;try simp only[go_sem])
 refine zax (fun hc1=> ?_) (fun hc2=> ?_)
 ·rw[if_pos hc1]at h
  try simp only[go_sem,hc1]
  cases h
  rfl
 rw[if_neg (ff hc2)]at h
 try simp only[go_sem,hc2]
 cases h
 rfl
noncomputable def P60 (a0:Node):Option (Bool):=
 if(!(a0.kind==1))=true then
  (dec D.bool (pc prog 103 [.int .u8 a0.kind])).bind fun r3=>
  some r3
 else
  some true
theorem zQO (a0:Node) (r:Bool) (h:P60 a0=some r):pc prog 60 [zao a0]=some (D.bool r):=by
 unfold P60 at h
 refine zaQ (fn:=c60) rfl rfl ?_
 delta c60
 try simp only[go_sem]
 iterate 2 (refine zeu ?_;try simp only[go_sem])
 refine zaB (fun hc1=> ?_) (fun hc2=> ?_)
 ·rw[if_pos (show(!(a0.kind==1))=true by(rw[hc1];rfl))]at h
  try simp only[go_sem,hc1]
  obtain⟨r3,hr4,h⟩:=bs h
  replace hr4:=zag hr4
  refine zal hr4 ?_
  try simp only[go_sem]
  cases h
  rfl
 rw[if_neg (ffn hc2)]at h
 try simp only[go_sem,hc2]
 cases h
 rfl
noncomputable def zPL (a0:shadow_by) (a1:Int) (a2:Int) (a3:Bool):Option (Bool):=
 if a3=true then
  (dec (eSl (D.int .i64)) (pc prog 148 [zaW a0,.int .i64 a1])).bind fun r3=>
  (dec D.bool (pc prog 153 [.list r3.n (r3.l.map (D.int .i64)),.int .i64 a2])).bind fun r5=>
  some r5
 else
  (dec zao (pc prog 50 [zaa a0.f,.int .i64 a1])).bind fun r7=>
  (dec (eT2 D.str D.bool) (pc prog 154 [zao r7,.str ([110,97,109,101])])).bind fun r9=>
  (dec zao (pc prog 50 [zaa a0.f,.int .i64 a2])).bind fun r11=>
  if(r11.kind==1)=true then
   (dec zao (pc prog 50 [zaa a0.f,.int .i64 a2])).bind fun r15=>
   (dec (eT2 D.str D.bool) (pc prog 154 [zao r15,.str ([115,108,111,116])])).bind fun r17=>
   some (r9.1==r17.1)
  else
   some (r9.1==[])
theorem zPM (a0:shadow_by) (a1:Int) (a2:Int) (a3:Bool) (r:Bool) (h:zPL a0 a1 a2 a3=some r):pc prog 125 [zaW a0,.int .i64 a1,.int .i64 a2,.bool a3]=some (D.bool r):=by
 unfold zPL at h
 refine zaQ (fn:=zNh) rfl rfl ?_
 delta zNh
 try simp only[go_sem]
 refine zaf (fun hc1=> ?_) (fun hc2=> ?_)
 ·rw[if_pos hc1]at h
  try simp only[go_sem]
  obtain⟨r3,hr4,h⟩:=bs h
  replace hr4:=zag hr4
  refine zal hr4 ?_
  try simp only[go_sem]
  obtain⟨r5,hr6,h⟩:=bs h
  replace hr6:=zag hr6
  refine zal hr6 ?_
  try simp only[go_sem]
  cases h
  rfl
 rw[if_neg (ff hc2)]at h
 try simp only[go_sem]
 obtain⟨r7,hr8,h⟩:=bs h
 replace hr8:=zag hr8
 refine zal hr8 ?_
 try simp only[go_sem]
 obtain⟨r9,hr10,h⟩:=bs h
 replace hr10:=zag hr10
 refine zal hr10 ?_
 try simp only[go_sem]
 obtain⟨r11,hr12,h⟩:=bs h
 replace hr12:=zag hr12
 refine zal hr12 ?_
 try simp only[go_sem]
 refine zaf (fun hc13=> ?_) (fun hc14=> ?_)
 ·rw[if_pos hc13]at h
  try simp only[go_sem]
  obtain⟨r15,hr16,h⟩:=bs h
  replace hr16:=zag hr16
  refine zal hr16 ?_
  try simp only[go_sem]
  obtain⟨r17,hr18,h⟩:=bs h
  replace hr18:=zag hr18
  refine zal hr18 ?_
  try simp only[go_sem]
  cases h
  rfl
 rw[if_neg (ff hc14)]at h
 try simp only[go_sem]
 cases h
 rfl
noncomputable def zPN (a0:Int):Option (Bool):=
 some (bif (a0==3)then true else(a0==4))
theorem zPO (a0:Int) (r:Bool) (h:zPN a0=some r):pc prog 103 [.int .u8 a0]=some (D.bool r):=by
 unfold zPN at h
 refine zaQ (fn:=zMP) rfl rfl ?_
 delta zMP
 try simp only[go_sem]
 iterate 2 (refine zeu ?_;try simp only[go_sem])
 cases h
 rfl
noncomputable def P58 (a0:Assign):Option (Bool):=
 some (decide (4096<(a0.nodes.l.length:Int)))
theorem zQP (a0:Assign) (r:Bool) (h:P58 a0=some r):pc prog 58 [zai a0]=some (D.bool r):=by
 unfold P58 at h
 refine zaQ (fn:=c58) rfl rfl ?_
 delta c58
 try simp only[go_sem]
 cases h
 rfl
noncomputable def zPP (a0:Sl (Int)) (a1:Int):Option (Bool):=
 (dec (D.int .i64) (pc prog 158 [.list a0.n (a0.l.map (D.int .i64)),.int .i64 a1])).bind fun r1=>
 some (decide (0≤r1))
theorem zPQ (a0:Sl (Int)) (a1:Int) (r:Bool) (h:zPP a0 a1=some r):pc prog 153 [.list a0.n (a0.l.map (D.int .i64)),.int .i64 a1]=some (D.bool r):=by
 unfold zPP at h
 refine zaQ (fn:=zNH) rfl rfl ?_
 delta zNH
 try simp only[go_sem]
 obtain⟨r1,hr2,h⟩:=bs h
 replace hr2:=zag hr2
 refine zal hr2 ?_
 try simp only[go_sem]
 cases h
 rfl
def zgs (a0:shadow_by) (a1:Int) (x0:Int):St:=⟨((((Regs.none.set 1 (.d (.int .i64 a1))).set 8 (.d (.list a0.hand.n (a0.hand.l.map zai)))).set 9 (.d (.int .i64 (a0.hand.l.length:Int)))).set 10 (.d (.int .i64 x0))),(Heap.at 6)⟩
def zjY (a0:shadow_by) (a1:Int):((Unit)⊕(Sl (Int)))→Ex×St:=fun r=>match r with
 |(.inl r)=>(.exit 0,⟨Regs.none,(Heap.at 6)⟩)
 |(.inr r)=>(.ret,⟨(Regs.none.set 4 (.d (.list r.n (r.l.map (D.int .i64))))),(Heap.at 6)⟩)
noncomputable def zed (a0:shadow_by) (a1:Int) (x0:Int):Option ((Int)⊕((Unit)⊕(Sl (Int)))):=
 if(decide (x0<(a0.hand.l.length:Int)))=true then
  (rd a0.hand.l x0).bind fun y3=>
  if(y3.slot==a1)=true then
   some (.inr (.inr y3.nodes))
  else
   some (.inl (IntKind.wrap .i64 (x0+1)))
 else
  some (.inr (.inl ()))
theorem zAv (a0:shadow_by) (a1:Int) (x0:Int) (o:(Int)⊕((Unit)⊕(Sl (Int)))) (h:zed a0 a1 x0=some o):Wp prog zsK (zgs a0 a1 x0) (zbq (0,[]) (zgs a0 a1) (zjY a0 a1) o):=by
 unfold zed at h
 delta zsK zgs
 try simp only[go_sem]
 refine zaf (fun hc1=> ?_) (fun hc2=> ?_)
 ·rw[if_pos hc1]at h
  try simp only[go_sem]
  obtain⟨y3,hy4,h⟩:=bs h
  try simp only[go_sem,zab hy4,zaj hy4,zac zai hy4]
  refine zaf (fun hc5=> ?_) (fun hc6=> ?_)
  ·rw[if_pos hc5]at h
   try simp only[go_sem,zab hy4,zaj hy4,zac zai hy4]
   cases h
   exact⟨rfl,by simp,Up.of (N:=6) (N':=18) [] rfl rfl (by decide) (.set (.d _) zae.none) zah.at⟩
  rw[if_neg (ff hc6)]at h
  try simp only[go_sem,zab hy4,zaj hy4,zac zai hy4]
  cases h
  exact⟨rfl,Up.of (N:=6) (N':=17) [] rfl rfl (by decide) (.set (.d _) (.set (.d _) (.set (.d _) (.set (.d _) zae.none)))) zah.at⟩
 rw[if_neg (ff hc2)]at h
 try simp only[go_sem]
 cases h
 exact⟨rfl,by simp,Up.of (N:=6) (N':=7) [] rfl rfl (by decide) zae.none zah.at⟩
noncomputable def zPR (a0:shadow_by) (a1:Int):Option (Sl (Int)):=
 (zaL (zed a0 a1) 0).bind fun r7=>
 match r7 with
 |(.inl q9)=>
  some (⟨true,[]⟩)
 |(.inr q10)=>
  some q10
theorem zPS (a0:shadow_by) (a1:Int) (r:Sl (Int)) (h:zPR a0 a1=some r):pc prog 148 [zaW a0,.int .i64 a1]=some ((eSl (D.int .i64)) r):=by
 unfold zPR at h
 refine zaQ (fn:=zND) rfl rfl ?_
 delta zND
 try simp only[go_sem]
 obtain⟨r7,hl8,h⟩:=bs h
 refine Wp.loopR zaV (n:=(0,[])) (a:=zsK) rfl (zgs a0 a1) (zjY a0 a1) (zAv a0 a1) hl8 ?_ (by(repeat(first|refine Clo.block ?_|refine Clo.seq zaV rfl ?_));(exact Clo.ret)) ?_
 ·show Up (0,[]) (zgs a0 a1 0) _
  delta zgs
  exact Up.of (N:=6) (N':=6) [] rfl rfl (by decide) (.set (.d _) (.set (.d _) (.set (.d _) (.set (.d _) zae.none)))) zah.at
 rcases r7 with(q9|q10)
 ·dsimp only at h
  dsimp only[zjY]
  try simp only[go_sem]
  cases h
  rfl
 dsimp only at h
 dsimp only[zjY]
 try simp only[go_sem]
 cases h
 rfl
def zgt (a0:Node) (a1:List UInt8) (x0:Int):St:=⟨((((Regs.none.set 1 (.d (.str a1))).set 9 (.d (.list a0.attrs.n (a0.attrs.l.map zbg)))).set 10 (.d (.int .i64 (a0.attrs.l.length:Int)))).set 11 (.d (.int .i64 x0))),(Heap.at 7)⟩
def zjZ (a0:Node) (a1:List UInt8):((Unit)⊕(List UInt8))→Ex×St:=fun r=>match r with
 |(.inl r)=>(.exit 0,⟨Regs.none,(Heap.at 7)⟩)
 |(.inr r)=>(.ret,⟨((Regs.none.set 4 (.d (.str r))).set 5 (.d (.bool true))),(Heap.at 7)⟩)
noncomputable def zee (a0:Node) (a1:List UInt8) (x0:Int):Option ((Int)⊕((Unit)⊕(List UInt8))):=
 if(decide (x0<(a0.attrs.l.length:Int)))=true then
  (rd a0.attrs.l x0).bind fun y3=>
  if(bif (y3.name.space==[])then(y3.name.local_==a1)else false)=true then
   some (.inr (.inr y3.value))
  else
   some (.inl (IntKind.wrap .i64 (x0+1)))
 else
  some (.inr (.inl ()))
theorem zAw (a0:Node) (a1:List UInt8) (x0:Int) (o:(Int)⊕((Unit)⊕(List UInt8))) (h:zee a0 a1 x0=some o):Wp prog zsM (zgt a0 a1 x0) (zbq (0,[]) (zgt a0 a1) (zjZ a0 a1) o):=by
 unfold zee at h
 delta zsM zgt
 try simp only[go_sem]
 refine zaf (fun hc1=> ?_) (fun hc2=> ?_)
 ·rw[if_pos hc1]at h
  try simp only[go_sem]
  obtain⟨y3,hy4,h⟩:=bs h
  try simp only[go_sem,zab hy4,zaj hy4,zac zbg hy4]
  iterate 5 (refine zeu ?_;try simp only[go_sem,zab hy4,zaj hy4,zac zbg hy4])
  refine zaf (fun hc5=> ?_) (fun hc6=> ?_)
  ·rw[if_pos hc5]at h
   try simp only[go_sem,zab hy4,zaj hy4,zac zbg hy4]
   cases h
   exact⟨rfl,by simp,Up.of (N:=7) (N':=27) [] rfl rfl (by decide) (.set (.d _) (.set (.d _) zae.none)) zah.at⟩
  rw[if_neg (ff hc6)]at h
  try simp only[go_sem,zab hy4,zaj hy4,zac zbg hy4]
  cases h
  exact⟨rfl,Up.of (N:=7) (N':=25) [] rfl rfl (by decide) (.set (.d _) (.set (.d _) (.set (.d _) (.set (.d _) zae.none)))) zah.at⟩
 rw[if_neg (ff hc2)]at h
 try simp only[go_sem]
 cases h
 exact⟨rfl,by simp,Up.of (N:=7) (N':=8) [] rfl rfl (by decide) zae.none zah.at⟩
noncomputable def zPT (a0:Node) (a1:List UInt8):Option (List UInt8×Bool):=
 (zaL (zee a0 a1) 0).bind fun r12=>
 match r12 with
 |(.inl q14)=>
  some ([],false)
 |(.inr q15)=>
  some (q15,true)
theorem zPU (a0:Node) (a1:List UInt8) (r:List UInt8×Bool) (h:zPT a0 a1=some r):pc prog 154 [zao a0,.str a1]=some ((eT2 D.str D.bool) r):=by
 unfold zPT at h
 refine zaQ (fn:=zNI) rfl rfl ?_
 delta zNI
 try simp only[go_sem]
 obtain⟨r12,hl13,h⟩:=bs h
 refine Wp.loopR zaV (n:=(0,[])) (a:=zsM) rfl (zgt a0 a1) (zjZ a0 a1) (zAw a0 a1) hl13 ?_ (by(repeat(first|refine Clo.block ?_|refine Clo.seq zaV rfl ?_));(exact Clo.ret)) ?_
 ·show Up (0,[]) (zgt a0 a1 0) _
  delta zgt
  exact Up.of (N:=7) (N':=7) [] rfl rfl (by decide) (.set (.d _) (.set (.d _) (.set (.d _) (.set (.d _) zae.none)))) zah.at
 rcases r12 with(q14|q15)
 ·dsimp only at h
  dsimp only[zjZ]
  try simp only[go_sem]
  cases h
  rfl
 dsimp only at h
 dsimp only[zjZ]
 try simp only[go_sem]
 cases h
 rfl
end Go.Proofs.YthodcjjgimeeoaaGreat.P
