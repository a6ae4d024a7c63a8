/- Shaken copy of a longer text: what one law needs. Its conditions: none. -/
import Derived.Test.YthodcjjgimeeoaaZPDec0
import Derived.Test.YthodcjjgimeeoaaZPSpIt
set_option linter.unusedSimpArgs false
set_option linter.unusedVariables false
set_option maxHeartbeats 1000000
namespace Go.Proofs.Ythodcjjgimeeoaa.P
open Go.AI
noncomputable def P44 (a0:Forest) (a1:Sl (Assign)) (a2:Int) (a3:Bool):Option (Int×Int):=
 (dec (D.int .i64) (pc prog 89 [zae a0,.list a1.n (a1.l.map zap)])).bind fun r1=>
 (if(r1==0)=true then
  (dec (D.int .i64) (pc prog 82 [zae a0,.list false (([a2]).map (D.int .i64))])).bind fun r5=>
  some r5
 else
  some r1:Option ((Int))).bind fun r7=>
 if(!(r7==0))=true then
  some (0,r7)
 else
  (dec (eT2 (D.int .i64) (D.int .i64)) (pc prog 91 [zaQ (⟨⟨a0.nodes⟩,a1⟩:shadow_by),.int .i64 a2])).bind fun r11=>
  if a3=true then
   (dec zam (pc prog 92 [zae a0,.int .i64 r11.2])).bind fun r15=>
   if(r15.mode==2)=true then
    some (0,0)
   else
    some (r11.1,0)
  else
   some (r11.1,0)
theorem zMj (a0:Forest) (a1:Sl (Assign)) (a2:Int) (a3:Bool) (r:Int×Int) (h:P44 a0 a1 a2 a3=some r):pc prog 44 [zae a0,.list a1.n (a1.l.map zap),.int .i64 a2,.bool a3]=some ((eT2 (D.int .i64) (D.int .i64)) r):=by
 unfold P44 at h
 refine zbD (fn:=c44) rfl rfl ?_
 delta c44
 try simp only[go_sem]
 obtain⟨r1,hr2,h⟩:=bs h
 replace hr2:=zao hr2
 refine zat hr2 ?_
 try simp only[go_sem]
 obtain⟨r7,hl8,h⟩:=bs h
 refine WBr.cut (n:=(0,[])) .normal ⟨(((((Regs.none.set 1 (.d (.list a1.n (a1.l.map zap)))).set 2 (.d (.int .i64 a2))).set 3 (.d (.bool a3))).set 4 (.ptr 0 0 0)).set 10 (.d (.int .i64 r7))),((Heap.at 9).set 0 (some (.els 1 [.d (zae a0)] 0)))⟩ ?_ (by(repeat(refine Clo.seq zbd rfl ?_));(exact Clo.ret)) ?_
 ·replace h:=hl8
  refine zal (fun hc3=> ?_) (fun hc4=> ?_)
  ·rw[if_pos hc3]at h
   try simp only[go_sem]
   obtain⟨r5,hr6,h⟩:=bs h
   replace hr6:=zao hr6
   refine zat hr6 ?_
   try simp only[go_sem]
   cases h
   exact⟨rfl,Up.of (N:=9) (N':=14) [] rfl rfl (by decide) (.set (.d _) (.set (.ptr' rfl) (.set (.d _) (.set (.d _) (.set (.d _) zak.none))))) (.set zaq.refl_d zag.at)⟩
  rw[if_neg (ff hc4)]at h
  try simp only[go_sem]
  cases h
  exact⟨rfl,Up.of (N:=9) (N':=9) [] rfl rfl (by decide) (.set (.d _) (.set (.ptr' rfl) (.set (.d _) (.set (.d _) (.set (.d _) zak.none))))) (.set zaq.refl_d zag.at)⟩
 try simp only[go_sem]
 refine zaD (fun hc9=> ?_) (fun hc10=> ?_)
 ·rw[if_pos (show(!(r7==0))=true by(rw[hc9];rfl))]at h
  try simp only[go_sem]
  cases h
  rfl
 rw[if_neg (ffn hc10)]at h
 try simp only[go_sem]
 obtain⟨r11,hr12,h⟩:=bs h
 replace hr12:=zao hr12
 refine zat hr12 ?_
 try simp only[go_sem]
 refine zaa (v:= .d (zae a0)) (fun hb20=>by simp only[go_sem,hc10,hb20]) ?_
 try simp only[go_sem]
 refine zaa (v:= .d (.int .i64 r11.2)) (fun hb19=>by simp only[go_sem,hc10,hb19]) ?_
 try simp only[go_sem]
 refine zaG (fun hc13=> ?_) (fun hc14=> ?_)
 ·rw[if_pos hc13]at h
  try simp only[go_sem,hc13]
  obtain⟨r15,hr16,h⟩:=bs h
  replace hr16:=zao hr16
  refine zat hr16 ?_
  try simp only[go_sem]
  refine zal (fun hc17=> ?_) (fun hc18=> ?_)
  ·rw[if_pos hc17]at h
   try simp only[go_sem]
   cases h
   rfl
  rw[if_neg (ff hc18)]at h
  try simp only[go_sem]
  cases h
  rfl
 rw[if_neg (ff hc14)]at h
 try simp only[go_sem,hc14]
 cases h
 rfl
def zhL (a0:Forest) (a1:Sl (Assign)) (x0:Int):St:=⟨((((Regs.none.set 0 (.d (.list a1.n (a1.l.map zap)))).set 1 (.d (.fn 128))).set 7 (.d (.int .i64 (a1.l.length:Int)))).set 8 (.d (.int .i64 x0))),((Heap.at 24).set 0 (some (.els 1 [.d (zae a0)] 0)))⟩
def zme (a0:Forest) (a1:Sl (Assign)):((Unit)⊕(Int))→Ex×St:=fun r=>match r with
 |(.inl r)=>(.exit 0,⟨Regs.none,((Heap.at 24).set 0 (some (.els 1 [.d (zae a0)] 0)))⟩)
 |(.inr r)=>(.ret,⟨(Regs.none.set 4 (.d (.int .i64 r))),((Heap.at 24).set 0 (some (.els 1 [.d (zae a0)] 0)))⟩)
noncomputable def zeq (a0:Forest) (a1:Sl (Assign)) (x0:Int):Option ((Int)⊕((Unit)⊕(Int))):=
 if(decide (x0<(a1.l.length:Int)))=true then
  (rd a1.l x0).bind fun y9=>
  (dec D.bool (pc prog 128 [zap y9])).bind fun r11=>
  if r11=true then
   some (.inr (.inr x0))
  else
   some (.inl (IntKind.wrap .i64 (x0+1)))
 else
  some (.inr (.inl ()))
theorem zBV (a0:Forest) (a1:Sl (Assign)) (x0:Int) (o:(Int)⊕((Unit)⊕(Int))) (h:zeq a0 a1 x0=some o):Wp prog zqY (zhL a0 a1 x0) (zcg (20,[]) (zhL a0 a1) (zme a0 a1) o):=by
 unfold zeq at h
 delta zqY zhL
 try simp only[go_sem]
 refine zal (fun hc7=> ?_) (fun hc8=> ?_)
 ·rw[if_pos hc7]at h
  try simp only[go_sem]
  obtain⟨y9,hy10,h⟩:=bs h
  try simp only[go_sem,zac hy10,zaj hy10,zad zap hy10]
  obtain⟨r11,hr12,h⟩:=bs h
  replace hr12:=zao hr12
  refine zxw zbd (n:=(33,[])) (n':=(20,[])) (N:=33) (v:= .d (.bool r11)) (zBp zbd rfl hr12 _) (by repeat(first|exact zdO.at|refine zdO.set (by decide) ?_ ?_|refine zht.els ?_|exact zgo.nil|refine zgo.cons ?_ ?_|exact zeL.d)) rfl (by decide) ?_ rfl rfl rfl ?_ ?_ (show Fx.spans _ 27 6=true from by decide) (by decide) (by(repeat(first|refine Clo.block ?_|refine Clo.seq zbd rfl ?_));(exact Clo.lpost (by decide))) ?_;(repeat(first|exact zaI.no|refine zaI.set ?_ ?_|exact zaE.d|exact zaE.rp));(repeat(first|exact zaI.no|exact zaI.none|refine zaI.set ?_ ?_|refine zaI.args ?_|exact zaX.nil|refine zaX.cons ?_ ?_|exact zaE.d|exact zaE.undef|exact zaE.rp|exact zaE.ptr (by decide)|exact zaE.sl (by decide)|exact zaE.mb (by decide)|exact zaE.map (by decide)|exact zaE.yld (by decide)|exact zaE.it (by decide)|refine zaE.clo ?_ ?_|refine zaE.ofCells ?_|refine zaE.agg ?_|refine zaE.tuple ?_|refine zaE.bif ?_ ?_));(repeat(first|exact zaI.no|exact zaI.none|refine zaI.set ?_ ?_|refine zaI.args ?_|exact zaX.nil|refine zaX.cons ?_ ?_|exact zaE.d|exact zaE.undef|exact zaE.rp|exact zaE.ptr (by decide)|exact zaE.sl (by decide)|exact zaE.mb (by decide)|exact zaE.map (by decide)|exact zaE.yld (by decide)|exact zaE.it (by decide)|refine zaE.clo ?_ ?_|refine zaE.ofCells ?_|refine zaE.agg ?_|refine zaE.tuple ?_|refine zaE.bif ?_ ?_))
  try simp only[go_sem,zac hy10,zaj hy10,zad zap hy10]
  refine zal (fun hc13=> ?_) (fun hc14=> ?_)
  ·rw[if_pos hc13]at h
   try simp only[go_sem,zac hy10,zaj hy10,zad zap hy10]
   cases h
   exact⟨rfl,by simp,Up.of (N:=24) (N':=35) [] rfl rfl (by decide) (.set (.d _) zak.none) (.set zaq.refl_d zag.at)⟩
  rw[if_neg (ff hc14)]at h
  try simp only[go_sem,zac hy10,zaj hy10,zad zap hy10]
  cases h
  exact⟨rfl,Up.of (N:=24) (N':=35) [] rfl rfl (by decide) (.set (.d _) (.set (.d _) (.set (.d _) (.set (.d _) zak.none)))) (.set zaq.refl_d zag.at)⟩
 rw[if_neg (ff hc8)]at h
 try simp only[go_sem]
 cases h
 exact⟨rfl,by simp,Up.of (N:=24) (N':=25) [] rfl rfl (by decide) zak.none (.set zaq.refl_d zag.at)⟩
def zhM (a0:Forest) (a1:Sl (Assign)) (x1:Int):St:=⟨(((((Regs.none.set 1 (.d (.list a1.n (a1.l.map zap)))).set 2 (.ptr 0 0 0)).set 26 (.d (.list a1.n (a1.l.map zap)))).set 27 (.d (.int .i64 (a1.l.length:Int)))).set 28 (.d (.int .i64 x1))),((Heap.at 17).set 0 (some (.els 1 [.d (zae a0)] 0)))⟩
def zmf (a0:Forest) (a1:Sl (Assign)):((Unit)⊕(Unit))→Ex×St:=fun r=>match r with
 |(.inl r)=>(.exit 0,⟨((Regs.none.set 1 (.d (.list a1.n (a1.l.map zap)))).set 2 (.ptr 0 0 0)),((Heap.at 17).set 0 (some (.els 1 [.d (zae a0)] 0)))⟩)
 |(.inr r)=>(.ret,⟨(Regs.none.set 4 (.d (.int .i64 (2)))),(Heap.at 17)⟩)
noncomputable def zer (a0:Forest) (a1:Sl (Assign)) (x1:Int):Option ((Int)⊕((Unit)⊕(Unit))):=
 if(decide (x1<(a1.l.length:Int)))=true then
  (rd a1.l x1).bind fun y25=>
  if y25.nodes.l=[]then
   (dec (D.int .i64) (pc prog 82 [zae a0,.list false (([y25.slot]).map (D.int .i64))])).bind fun r29=>
   if(!(r29==0))=true then
    some (.inr (.inr ()))
   else
    some (.inl (IntKind.wrap .i64 (x1+1)))
  else
   if(([y25.slot]).length+y25.nodes.l.length)*8≤AI.roomBytes then
    (dec (D.int .i64) (pc prog 82 [zae a0,.list false (([y25.slot]++y25.nodes.l).map (D.int .i64))])).bind fun r34=>
    if(!(r34==0))=true then
     some (.inr (.inr ()))
    else
     some (.inl (IntKind.wrap .i64 (x1+1)))
   else none
 else
  some (.inr (.inl ()))
theorem zBW (a0:Forest) (a1:Sl (Assign)) (x1:Int) (o:(Int)⊕((Unit)⊕(Unit))) (h:zer a0 a1 x1=some o):Wp prog zBw (zhM a0 a1 x1) (zcg (0,[]) (zhM a0 a1) (zmf a0 a1) o):=by
 unfold zer at h
 delta zBw zhM
 try simp only[go_sem]
 refine zal (fun hc23=> ?_) (fun hc24=> ?_)
 ·rw[if_pos hc23]at h
  try simp only[go_sem]
  obtain⟨y25,hy26,h⟩:=bs h
  try simp only[go_sem,zac hy26,zaj hy26,zad zap hy26]
  by_cases hz27:y25.nodes.l=[]
  ·rw[if_pos hz27]at h
   refine zwI (by simp only[go_sem,zcC,zcQ,zcD,zbH,zjw,List.map_nil,hz27]) (by rfl) ?_
   try simp only[go_sem,zac hy26,zaj hy26,zad zap hy26]
   obtain⟨r29,hr30,h⟩:=bs h
   replace hr30:=zao hr30
   refine zat hr30 ?_
   try simp only[go_sem,zac hy26,zaj hy26,zad zap hy26]
   refine zaD (fun hc31=> ?_) (fun hc32=> ?_)
   ·rw[if_pos (show(!(r29==0))=true by(rw[hc31];rfl))]at h
    try simp only[go_sem,zac hy26,zaj hy26,zad zap hy26]
    cases h
    exact⟨rfl,by simp,Up.of (N:=17) (N':=32) [] rfl rfl (by decide) (.set (.d _) zak.none) zag.at⟩
   rw[if_neg (ffn hc32)]at h
   try simp only[go_sem,zac hy26,zaj hy26,zad zap hy26]
   cases h
   exact⟨rfl,Up.of (N:=17) (N':=33) [] rfl rfl (by decide) (.set (.d _) (.set (.d _) (.set (.d _) (.set (.ptr' rfl) (.set (.d _) zak.none))))) (.set zaq.refl_d zag.at)⟩
  have hz28:=hz27;rw[if_neg hz28]at h
  obtain⟨hm33,h⟩:=zck h
  refine zdz (l:=([y25.slot]).map fun z=>V.d ((D.int .i64) z)) (fz:=0) (new:=y25.nodes.l.map fun z=>V.d ((D.int .i64) z)) (by simp only[go_sem,List.map_append,List.map_cons,List.map_nil,zac hy26,zaj hy26,zad zap hy26]) (by simp only[go_sem,zcC,zcQ,zcD,zbH,zjw]) (by simpa using hz28) (by rw[←zjw];exact zti (e:=(D.int .i64)) (fun _=>rfl) (fun _=>rfl) _) (by simp) (by simpa using hm33) ?_
  try rw[←List.map_append]
  try simp only[go_sem,zac hy26,zaj hy26,zad zap hy26,hm33]
  obtain⟨r34,hr35,h⟩:=bs h
  replace hr35:=zao hr35
  refine zat hr35 ?_
  try simp only[go_sem,zac hy26,zaj hy26,zad zap hy26,hm33]
  refine zaD (fun hc36=> ?_) (fun hc37=> ?_)
  ·rw[if_pos (show(!(r34==0))=true by(rw[hc36];rfl))]at h
   try simp only[go_sem,zac hy26,zaj hy26,zad zap hy26,hm33]
   cases h
   exact⟨rfl,by simp,Up.of (N:=17) (N':=32) [] rfl rfl (by decide) (.set (.d _) zak.none) zag.at⟩
  rw[if_neg (ffn hc37)]at h
  try simp only[go_sem,zac hy26,zaj hy26,zad zap hy26,hm33]
  cases h
  exact⟨rfl,Up.of (N:=17) (N':=33) [] rfl rfl (by decide) (.set (.d _) (.set (.d _) (.set (.d _) (.set (.ptr' rfl) (.set (.d _) zak.none))))) (.set zaq.refl_d zag.at)⟩
 rw[if_neg (ff hc24)]at h
 try simp only[go_sem]
 cases h
 exact⟨rfl,by simp,Up.of (N:=17) (N':=18) [] rfl rfl (by decide) (.set (.ptr' rfl) (.set (.d _) zak.none)) (.set zaq.refl_d zag.at)⟩
def zhN (a0:Forest) (a1:Sl (Assign)) (x2:List (Int×Bool)×List (Int×Bool)×Int) (y43:Assign) (x3:List (Int×Bool)×Int):St:=⟨(((((((((Regs.none.set 2 (.ptr 0 0 0)).set 8 (.map 17)).set 9 (.map 18)).set 44 (.d (.list a1.n (a1.l.map zap)))).set 45 (.d (.int .i64 (a1.l.length:Int)))).set 46 (.d (.int .i64 x2.2.2))).set 66 (.d (.list y43.nodes.n (y43.nodes.l.map (D.int .i64))))).set 67 (.d (.int .i64 (y43.nodes.l.length:Int)))).set 68 (.d (.int .i64 x3.2))),((((Heap.at 49).set 0 (some (.els 1 [.d (zae a0)] 0))).set 17 (some (.map (ents (D.int .i64) (fun z=>V.d (D.bool z)) (zeT y43.slot true x2.1) 0) (zeT y43.slot true x2.1).length))).set 18 (some (.map (ents (D.int .i64) (fun z=>V.d (D.bool z)) x3.1 0) x3.1.length)))⟩
def zmg (a0:Forest) (a1:Sl (Assign)) (x2:List (Int×Bool)×List (Int×Bool)×Int) (y43:Assign):((List (Int×Bool))⊕(Unit))→Ex×St:=fun r=>match r with
 |(.inl r)=>(.exit 4,⟨((((((Regs.none.set 2 (.ptr 0 0 0)).set 8 (.map 17)).set 9 (.map 18)).set 44 (.d (.list a1.n (a1.l.map zap)))).set 45 (.d (.int .i64 (a1.l.length:Int)))).set 46 (.d (.int .i64 x2.2.2))),((((Heap.at 49).set 0 (some (.els 1 [.d (zae a0)] 0))).set 17 (some (.map (ents (D.int .i64) (fun z=>V.d (D.bool z)) (zeT y43.slot true x2.1) 0) (zeT y43.slot true x2.1).length))).set 18 (some (.map (ents (D.int .i64) (fun z=>V.d (D.bool z)) r 0) r.length)))⟩)
 |(.inr r)=>(.ret,⟨(Regs.none.set 4 (.d (.int .i64 (23)))),(Heap.at 49)⟩)
noncomputable def zct (a0:Forest) (a1:Sl (Assign)) (x2:List (Int×Bool)×List (Int×Bool)×Int) (y43:Assign) (x3:List (Int×Bool)×Int):Option ((List (Int×Bool)×Int)⊕((List (Int×Bool))⊕(Unit))):=
 if(decide (x3.2<(y43.nodes.l.length:Int)))=true then
  (rd y43.nodes.l x3.2).bind fun y55=>
  if(!(zhb y55 x3.1 false))=true then
   (dec zam (pc prog 92 [zae a0,.int .i64 y55])).bind fun r59=>
   (dec D.bool (pc prog 130 [zam r59])).bind fun r61=>
   if(!r61)=true then
    some (.inr (.inr ()))
   else
    some (.inl ((zeT y55 true x3.1),(IntKind.wrap .i64 (x3.2+1))))
  else
   some (.inr (.inr ()))
 else
  some (.inr (.inl x3.1))
theorem zBX (a0:Forest) (a1:Sl (Assign)) (x2:List (Int×Bool)×List (Int×Bool)×Int) (y43:Assign) (x3:List (Int×Bool)×Int) (o:(List (Int×Bool)×Int)⊕((List (Int×Bool))⊕(Unit))) (h:zct a0 a1 x2 y43 x3=some o):Wp prog zBx (zhN a0 a1 x2 y43 x3) (zcg (0,[]) (zhN a0 a1 x2 y43) (zmg a0 a1 x2 y43) o):=by
 unfold zct at h
 delta zBx zhN
 try simp only[go_sem]
 refine zal (fun hc53=> ?_) (fun hc54=> ?_)
 ·rw[if_pos hc53]at h
  try simp only[go_sem,zav (e:=(D.int .i64)) (ev:=D.bool) zab,zaw (e:=(D.int .i64)) (ev:=D.bool) zab,zar (e:=(D.int .i64)) (ev:=D.bool) zab,zax (e:=(D.int .i64)) (ev:=D.bool) zab,zay (e:=(D.int .i64)) (ev:=D.bool)]
  obtain⟨y55,hy56,h⟩:=bs h
  try simp only[go_sem,zav (e:=(D.int .i64)) (ev:=D.bool) zab,zaw (e:=(D.int .i64)) (ev:=D.bool) zab,zar (e:=(D.int .i64)) (ev:=D.bool) zab,zax (e:=(D.int .i64)) (ev:=D.bool) zab,zay (e:=(D.int .i64)) (ev:=D.bool),zac hy56,zaj hy56,zad (D.int .i64) hy56]
  refine zaa (v:= .d (zae a0)) (fun hb66=>by simp only[go_sem,zav (e:=(D.int .i64)) (ev:=D.bool) zab,zaw (e:=(D.int .i64)) (ev:=D.bool) zab,zar (e:=(D.int .i64)) (ev:=D.bool) zab,zax (e:=(D.int .i64)) (ev:=D.bool) zab,zay (e:=(D.int .i64)) (ev:=D.bool),zac hy56,zaj hy56,zad (D.int .i64) hy56,hc53,hb66]) ?_
  try simp only[go_sem,zav (e:=(D.int .i64)) (ev:=D.bool) zab,zaw (e:=(D.int .i64)) (ev:=D.bool) zab,zar (e:=(D.int .i64)) (ev:=D.bool) zab,zax (e:=(D.int .i64)) (ev:=D.bool) zab,zay (e:=(D.int .i64)) (ev:=D.bool),zac hy56,zaj hy56,zad (D.int .i64) hy56]
  refine zaa (v:= .d (.int .i64 y55)) (fun hb65=>by simp only[go_sem,zav (e:=(D.int .i64)) (ev:=D.bool) zab,zaw (e:=(D.int .i64)) (ev:=D.bool) zab,zar (e:=(D.int .i64)) (ev:=D.bool) zab,zax (e:=(D.int .i64)) (ev:=D.bool) zab,zay (e:=(D.int .i64)) (ev:=D.bool),zac hy56,zaj hy56,zad (D.int .i64) hy56,hc53,hb65]) ?_
  try simp only[go_sem,zav (e:=(D.int .i64)) (ev:=D.bool) zab,zaw (e:=(D.int .i64)) (ev:=D.bool) zab,zar (e:=(D.int .i64)) (ev:=D.bool) zab,zax (e:=(D.int .i64)) (ev:=D.bool) zab,zay (e:=(D.int .i64)) (ev:=D.bool),zac hy56,zaj hy56,zad (D.int .i64) hy56]
  refine zaV (fun hc57=> ?_) (fun hc58=> ?_)
  ·rw[if_pos (show(!(zhb y55 x3.1 false))=true by(rw[hc57];rfl))]at h
   try simp only[go_sem,zav (e:=(D.int .i64)) (ev:=D.bool) zab,zaw (e:=(D.int .i64)) (ev:=D.bool) zab,zar (e:=(D.int .i64)) (ev:=D.bool) zab,zax (e:=(D.int .i64)) (ev:=D.bool) zab,zay (e:=(D.int .i64)) (ev:=D.bool),zac hy56,zaj hy56,zad (D.int .i64) hy56,hc57]
   obtain⟨r59,hr60,h⟩:=bs h
   replace hr60:=zao hr60
   refine zat hr60 ?_
   try simp only[go_sem,zav (e:=(D.int .i64)) (ev:=D.bool) zab,zaw (e:=(D.int .i64)) (ev:=D.bool) zab,zar (e:=(D.int .i64)) (ev:=D.bool) zab,zax (e:=(D.int .i64)) (ev:=D.bool) zab,zay (e:=(D.int .i64)) (ev:=D.bool),zac hy56,zaj hy56,zad (D.int .i64) hy56]
   obtain⟨r61,hr62,h⟩:=bs h
   replace hr62:=zao hr62
   refine zat hr62 ?_
   try simp only[go_sem,zav (e:=(D.int .i64)) (ev:=D.bool) zab,zaw (e:=(D.int .i64)) (ev:=D.bool) zab,zar (e:=(D.int .i64)) (ev:=D.bool) zab,zax (e:=(D.int .i64)) (ev:=D.bool) zab,zay (e:=(D.int .i64)) (ev:=D.bool),zac hy56,zaj hy56,zad (D.int .i64) hy56]
   refine zaD (fun hc63=> ?_) (fun hc64=> ?_)
   ·rw[if_pos (show(!r61)=true by(rw[hc63];rfl))]at h
    try simp only[go_sem,zav (e:=(D.int .i64)) (ev:=D.bool) zab,zaw (e:=(D.int .i64)) (ev:=D.bool) zab,zar (e:=(D.int .i64)) (ev:=D.bool) zab,zax (e:=(D.int .i64)) (ev:=D.bool) zab,zay (e:=(D.int .i64)) (ev:=D.bool),zac hy56,zaj hy56,zad (D.int .i64) hy56]
    cases h
    exact⟨rfl,by simp,Up.of (N:=49) (N':=64) [] rfl rfl (by decide) (.set (.d _) zak.none) zag.at⟩
   rw[if_neg (ffn hc64)]at h
   try simp only[go_sem,zav (e:=(D.int .i64)) (ev:=D.bool) zab,zaw (e:=(D.int .i64)) (ev:=D.bool) zab,zar (e:=(D.int .i64)) (ev:=D.bool) zab,zax (e:=(D.int .i64)) (ev:=D.bool) zab,zay (e:=(D.int .i64)) (ev:=D.bool),zac hy56,zaj hy56,zad (D.int .i64) hy56]
   cases h
   exact⟨rfl,Up.of (N:=49) (N':=68) [] rfl rfl (by decide) (.set (.d _) (.set (.d _) (.set (.d _) (.set (.d _) (.set (.d _) (.set (.d _) (.set (.map' rfl) (.set (.map' rfl) (.set (.ptr' rfl) zak.none))))))))) (.set zaq.map_d (.set zaq.map_d (.set zaq.refl_d zag.at)))⟩
  rw[if_neg (ffn hc58)]at h
  try simp only[go_sem,zav (e:=(D.int .i64)) (ev:=D.bool) zab,zaw (e:=(D.int .i64)) (ev:=D.bool) zab,zar (e:=(D.int .i64)) (ev:=D.bool) zab,zax (e:=(D.int .i64)) (ev:=D.bool) zab,zay (e:=(D.int .i64)) (ev:=D.bool),zac hy56,zaj hy56,zad (D.int .i64) hy56,hc58]
  cases h
  exact⟨rfl,by simp,Up.of (N:=49) (N':=64) [] rfl rfl (by decide) (.set (.d _) zak.none) zag.at⟩
 rw[if_neg (ff hc54)]at h
 try simp only[go_sem,zav (e:=(D.int .i64)) (ev:=D.bool) zab,zaw (e:=(D.int .i64)) (ev:=D.bool) zab,zar (e:=(D.int .i64)) (ev:=D.bool) zab,zax (e:=(D.int .i64)) (ev:=D.bool) zab,zay (e:=(D.int .i64)) (ev:=D.bool)]
 cases h
 exact⟨rfl,by simp,Up.of (N:=49) (N':=50) [] rfl rfl (by decide) (.set (.d _) (.set (.d _) (.set (.d _) (.set (.map' rfl) (.set (.map' rfl) (.set (.ptr' rfl) zak.none)))))) (.set zaq.map_d (.set zaq.map_d (.set zaq.refl_d zag.at)))⟩
def zhO (a0:Forest) (a1:Sl (Assign)) (x2:List (Int×Bool)×List (Int×Bool)×Int):St:=⟨((((((Regs.none.set 2 (.ptr 0 0 0)).set 8 (.map 17)).set 9 (.map 18)).set 44 (.d (.list a1.n (a1.l.map zap)))).set 45 (.d (.int .i64 (a1.l.length:Int)))).set 46 (.d (.int .i64 x2.2.2))),((((Heap.at 24).set 0 (some (.els 1 [.d (zae a0)] 0))).set 17 (some (.map (ents (D.int .i64) (fun z=>V.d (D.bool z)) x2.1 0) x2.1.length))).set 18 (some (.map (ents (D.int .i64) (fun z=>V.d (D.bool z)) x2.2.1 0) x2.2.1.length)))⟩
def zmh (a0:Forest) (a1:Sl (Assign)):((Unit)⊕(Unit))→Ex×St:=fun r=>match r with
 |(.inl r)=>(.exit 2,⟨Regs.none,(Heap.at 24)⟩)
 |(.inr r)=>(.ret,⟨(Regs.none.set 4 (.d (.int .i64 (23)))),(Heap.at 24)⟩)
noncomputable def zcu (a0:Forest) (a1:Sl (Assign)) (x2:List (Int×Bool)×List (Int×Bool)×Int):Option ((List (Int×Bool)×List (Int×Bool)×Int)⊕((Unit)⊕(Unit))):=
 if(decide (x2.2.2<(a1.l.length:Int)))=true then
  (rd a1.l x2.2.2).bind fun y43=>
  if(!(zhb y43.slot x2.1 false))=true then
   (dec zam (pc prog 92 [zae a0,.int .i64 y43.slot])).bind fun r47=>
   (dec D.bool (pc prog 129 [zam r47])).bind fun r49=>
   if(!r49)=true then
    some (.inr (.inr ()))
   else
    (zaU (zct a0 a1 x2 y43) (x2.2.1,0)).bind fun r67=>
    match r67 with
    |(.inl q69)=>
     some (.inl ((zeT y43.slot true x2.1),q69,(IntKind.wrap .i64 (x2.2.2+1))))
    |(.inr q70)=>
     some (.inr (.inr ()))
  else
   some (.inr (.inr ()))
 else
  some (.inr (.inl ()))
theorem zBY (a0:Forest) (a1:Sl (Assign)) (x2:List (Int×Bool)×List (Int×Bool)×Int) (o:(List (Int×Bool)×List (Int×Bool)×Int)⊕((Unit)⊕(Unit))) (h:zcu a0 a1 x2=some o):Wp prog zBy (zhO a0 a1 x2) (zcg (0,[]) (zhO a0 a1) (zmh a0 a1) o):=by
 unfold zcu at h
 delta zBy zhO
 try simp only[go_sem]
 refine zal (fun hc41=> ?_) (fun hc42=> ?_)
 ·rw[if_pos hc41]at h
  try simp only[go_sem,zav (e:=(D.int .i64)) (ev:=D.bool) zab,zaw (e:=(D.int .i64)) (ev:=D.bool) zab,zar (e:=(D.int .i64)) (ev:=D.bool) zab,zax (e:=(D.int .i64)) (ev:=D.bool) zab,zay (e:=(D.int .i64)) (ev:=D.bool)]
  obtain⟨y43,hy44,h⟩:=bs h
  try simp only[go_sem,zav (e:=(D.int .i64)) (ev:=D.bool) zab,zaw (e:=(D.int .i64)) (ev:=D.bool) zab,zar (e:=(D.int .i64)) (ev:=D.bool) zab,zax (e:=(D.int .i64)) (ev:=D.bool) zab,zay (e:=(D.int .i64)) (ev:=D.bool),zac hy44,zaj hy44,zad zap hy44]
  refine zaa (v:= .d (zae a0)) (fun hb73=>by simp only[go_sem,zav (e:=(D.int .i64)) (ev:=D.bool) zab,zaw (e:=(D.int .i64)) (ev:=D.bool) zab,zar (e:=(D.int .i64)) (ev:=D.bool) zab,zax (e:=(D.int .i64)) (ev:=D.bool) zab,zay (e:=(D.int .i64)) (ev:=D.bool),zac hy44,zaj hy44,zad zap hy44,hc41,hb73]) ?_
  try simp only[go_sem,zav (e:=(D.int .i64)) (ev:=D.bool) zab,zaw (e:=(D.int .i64)) (ev:=D.bool) zab,zar (e:=(D.int .i64)) (ev:=D.bool) zab,zax (e:=(D.int .i64)) (ev:=D.bool) zab,zay (e:=(D.int .i64)) (ev:=D.bool),zac hy44,zaj hy44,zad zap hy44]
  refine zaa (v:= .ptr 27 0 0) (fun hb72=>by simp only[go_sem,zav (e:=(D.int .i64)) (ev:=D.bool) zab,zaw (e:=(D.int .i64)) (ev:=D.bool) zab,zar (e:=(D.int .i64)) (ev:=D.bool) zab,zax (e:=(D.int .i64)) (ev:=D.bool) zab,zay (e:=(D.int .i64)) (ev:=D.bool),zac hy44,zaj hy44,zad zap hy44,hc41,hb72]) ?_
  try simp only[go_sem,zav (e:=(D.int .i64)) (ev:=D.bool) zab,zaw (e:=(D.int .i64)) (ev:=D.bool) zab,zar (e:=(D.int .i64)) (ev:=D.bool) zab,zax (e:=(D.int .i64)) (ev:=D.bool) zab,zay (e:=(D.int .i64)) (ev:=D.bool),zac hy44,zaj hy44,zad zap hy44]
  refine zaa (v:= .d (.int .i64 y43.slot)) (fun hb71=>by simp only[go_sem,zav (e:=(D.int .i64)) (ev:=D.bool) zab,zaw (e:=(D.int .i64)) (ev:=D.bool) zab,zar (e:=(D.int .i64)) (ev:=D.bool) zab,zax (e:=(D.int .i64)) (ev:=D.bool) zab,zay (e:=(D.int .i64)) (ev:=D.bool),zac hy44,zaj hy44,zad zap hy44,hc41,hb71]) ?_
  try simp only[go_sem,zav (e:=(D.int .i64)) (ev:=D.bool) zab,zaw (e:=(D.int .i64)) (ev:=D.bool) zab,zar (e:=(D.int .i64)) (ev:=D.bool) zab,zax (e:=(D.int .i64)) (ev:=D.bool) zab,zay (e:=(D.int .i64)) (ev:=D.bool),zac hy44,zaj hy44,zad zap hy44]
  refine zaV (fun hc45=> ?_) (fun hc46=> ?_)
  ·rw[if_pos (show(!(zhb y43.slot x2.1 false))=true by(rw[hc45];rfl))]at h
   try simp only[go_sem,zav (e:=(D.int .i64)) (ev:=D.bool) zab,zaw (e:=(D.int .i64)) (ev:=D.bool) zab,zar (e:=(D.int .i64)) (ev:=D.bool) zab,zax (e:=(D.int .i64)) (ev:=D.bool) zab,zay (e:=(D.int .i64)) (ev:=D.bool),zac hy44,zaj hy44,zad zap hy44,hc45]
   obtain⟨r47,hr48,h⟩:=bs h
   replace hr48:=zao hr48
   refine zat hr48 ?_
   try simp only[go_sem,zav (e:=(D.int .i64)) (ev:=D.bool) zab,zaw (e:=(D.int .i64)) (ev:=D.bool) zab,zar (e:=(D.int .i64)) (ev:=D.bool) zab,zax (e:=(D.int .i64)) (ev:=D.bool) zab,zay (e:=(D.int .i64)) (ev:=D.bool),zac hy44,zaj hy44,zad zap hy44]
   obtain⟨r49,hr50,h⟩:=bs h
   replace hr50:=zao hr50
   refine zat hr50 ?_
   try simp only[go_sem,zav (e:=(D.int .i64)) (ev:=D.bool) zab,zaw (e:=(D.int .i64)) (ev:=D.bool) zab,zar (e:=(D.int .i64)) (ev:=D.bool) zab,zax (e:=(D.int .i64)) (ev:=D.bool) zab,zay (e:=(D.int .i64)) (ev:=D.bool),zac hy44,zaj hy44,zad zap hy44]
   refine zaD (fun hc51=> ?_) (fun hc52=> ?_)
   ·rw[if_pos (show(!r49)=true by(rw[hc51];rfl))]at h
    try simp only[go_sem,zav (e:=(D.int .i64)) (ev:=D.bool) zab,zaw (e:=(D.int .i64)) (ev:=D.bool) zab,zar (e:=(D.int .i64)) (ev:=D.bool) zab,zax (e:=(D.int .i64)) (ev:=D.bool) zab,zay (e:=(D.int .i64)) (ev:=D.bool),zac hy44,zaj hy44,zad zap hy44]
    cases h
    exact⟨rfl,by simp,Up.of (N:=24) (N':=42) [] rfl rfl (by decide) (.set (.d _) zak.none) zag.at⟩
   rw[if_neg (ffn hc52)]at h
   try simp only[go_sem,zav (e:=(D.int .i64)) (ev:=D.bool) zab,zaw (e:=(D.int .i64)) (ev:=D.bool) zab,zar (e:=(D.int .i64)) (ev:=D.bool) zab,zax (e:=(D.int .i64)) (ev:=D.bool) zab,zay (e:=(D.int .i64)) (ev:=D.bool),zac hy44,zaj hy44,zad zap hy44]
   obtain⟨r67,hl68,h⟩:=bs h
   refine Wp.loopR zbd (n:=(0,[])) (a:=zBx) rfl (zhN a0 a1 x2 y43) (zmg a0 a1 x2 y43) (zBX a0 a1 x2 y43) hl68 ?_ (by(repeat(first|refine Clo.block ?_|refine Clo.seq zbd rfl ?_));(exact Clo.lpost (by decide))) ?_
   ·show Up (0,[]) (zhN a0 a1 x2 y43 (x2.2.1,0)) _
    delta zhN
    exact Up.of (N:=49) (N':=49) [] rfl rfl (by decide) (.set (.d _) (.set (.d _) (.set (.d _) (.set (.d _) (.set (.d _) (.set (.d _) (.set (.map' rfl) (.set (.map' rfl) (.set (.ptr' rfl) zak.none))))))))) (.set zaq.map_d (.set zaq.map_d (.set zaq.refl_d zag.at)))
   rcases r67 with(q69|q70)
   ·dsimp only at h
    dsimp only[zmg]
    try simp only[go_sem,zav (e:=(D.int .i64)) (ev:=D.bool) zab,zaw (e:=(D.int .i64)) (ev:=D.bool) zab,zar (e:=(D.int .i64)) (ev:=D.bool) zab,zax (e:=(D.int .i64)) (ev:=D.bool) zab,zay (e:=(D.int .i64)) (ev:=D.bool),zac hy44,zaj hy44,zad zap hy44]
    cases h
    exact⟨rfl,Up.of (N:=24) (N':=51) [] rfl rfl (by decide) (.set (.d _) (.set (.d _) (.set (.d _) (.set (.map' rfl) (.set (.map' rfl) (.set (.ptr' rfl) zak.none)))))) (.set zaq.map_d (.set zaq.map_d (.set zaq.refl_d zag.at)))⟩
   dsimp only at h
   dsimp only[zmg]
   try simp only[go_sem,zav (e:=(D.int .i64)) (ev:=D.bool) zab,zaw (e:=(D.int .i64)) (ev:=D.bool) zab,zar (e:=(D.int .i64)) (ev:=D.bool) zab,zax (e:=(D.int .i64)) (ev:=D.bool) zab,zay (e:=(D.int .i64)) (ev:=D.bool),zac hy44,zaj hy44,zad zap hy44]
   cases h
   exact⟨rfl,by simp,Up.of (N:=24) (N':=49) [] rfl rfl (by decide) (.set (.d _) zak.none) zag.at⟩
  rw[if_neg (ffn hc46)]at h
  try simp only[go_sem,zav (e:=(D.int .i64)) (ev:=D.bool) zab,zaw (e:=(D.int .i64)) (ev:=D.bool) zab,zar (e:=(D.int .i64)) (ev:=D.bool) zab,zax (e:=(D.int .i64)) (ev:=D.bool) zab,zay (e:=(D.int .i64)) (ev:=D.bool),zac hy44,zaj hy44,zad zap hy44,hc46]
  cases h
  exact⟨rfl,by simp,Up.of (N:=24) (N':=42) [] rfl rfl (by decide) (.set (.d _) zak.none) zag.at⟩
 rw[if_neg (ff hc42)]at h
 try simp only[go_sem,zav (e:=(D.int .i64)) (ev:=D.bool) zab,zaw (e:=(D.int .i64)) (ev:=D.bool) zab,zar (e:=(D.int .i64)) (ev:=D.bool) zab,zax (e:=(D.int .i64)) (ev:=D.bool) zab,zay (e:=(D.int .i64)) (ev:=D.bool)]
 cases h
 exact⟨rfl,by simp,Up.of (N:=24) (N':=25) [] rfl rfl (by decide) zak.none zag.at⟩
noncomputable def P89 (a0:Forest) (a1:Sl (Assign)):Option (Int):=
 (dec (D.int .i64) (pc prog 82 [zae a0,.list true []])).bind fun r1=>
 if(!(r1==0))=true then
  some r1
 else
  (if(!(decide (4096<(a1.l.length:Int))))=true then
   (zaU (zeq a0 a1) 0).bind fun r15=>
   match r15 with
   |(.inl q17)=>
    some false
   |(.inr q18)=>
    some (decide (0≤q18))
  else
   some true:Option ((Bool))).bind fun r19=>
  if r19=true then
   some (3)
  else
   (zaU (zer a0 a1) 0).bind fun r38=>
   match r38 with
   |(.inl q40)=>
    (zaU (zcu a0 a1) ([],[],0)).bind fun r74=>
    match r74 with
    |(.inl q76)=>
     some (0)
    |(.inr q77)=>
     some (23)
   |(.inr q78)=>
    some (2)
theorem zMk (a0:Forest) (a1:Sl (Assign)) (r:Int) (h:P89 a0 a1=some r):pc prog 89 [zae a0,.list a1.n (a1.l.map zap)]=some ((D.int .i64) r):=by
 unfold P89 at h
 refine zbD (fn:=c89) rfl rfl ?_
 delta c89
 try simp only[go_sem]
 obtain⟨r1,hr2,h⟩:=bs h
 replace hr2:=zao hr2
 refine zat hr2 ?_
 try simp only[go_sem]
 refine zaD (fun hc3=> ?_) (fun hc4=> ?_)
 ·rw[if_pos (show(!(r1==0))=true by(rw[hc3];rfl))]at h
  try simp only[go_sem]
  cases h
  rfl
 rw[if_neg (ffn hc4)]at h
 try simp only[go_sem]
 refine zaa (v:= .d (.list a1.n (a1.l.map zap))) (fun hb79=>by simp only[go_sem,hc4,hb79]) ?_
 try simp only[go_sem]
 obtain⟨r19,hl20,h⟩:=bs h
 refine zcz.cut (n:=(0,[])) .normal ⟨(((Regs.none.set 1 (.d (.list a1.n (a1.l.map zap)))).set 2 (.ptr 0 0 0)).set 25 (.d (.bool r19))),((Heap.at 14).set 0 (some (.els 1 [.d (zae a0)] 0)))⟩ ?_ (by(repeat(refine Clo.seq zbd rfl ?_));(exact Clo.ret)) ?_
 ·replace h:=hl20
  refine zaV (fun hc5=> ?_) (fun hc6=> ?_)
  ·rw[if_pos (show(!(decide (4096<(a1.l.length:Int))))=true by(rw[hc5];rfl))]at h
   try simp only[go_sem,hc5]
   refine zbn (fn:=zJb) rfl rfl ?_
   delta zJb
   try simp only[go_sem]
   refine zbn (fn:=zJq) rfl rfl ?_
   delta zJq
   try simp only[go_sem]
   obtain⟨r15,hl16,h⟩:=bs h
   refine Wp.loopR zbd (n:=(20,[])) (a:=zqY) rfl (zhL a0 a1) (zme a0 a1) (zBV a0 a1) hl16 ?_ (by(repeat(first|refine Clo.block ?_|refine Clo.seq zbd rfl ?_));refine Clo.inl zbd (n':=(14,[])) rfl rfl rfl ?_ ?_ (show Fx.spans _ 15 5=true from by decide) (by decide) ?_;((repeat(first|exact zaI.no|refine zaI.set ?_ ?_|refine zaI.args ?_|exact zaX.nil|refine zaX.cons ?_ ?_|exact zaE.d));(repeat(first|exact zaI.no|exact zaI.none|refine zaI.set ?_ ?_|refine zaI.args ?_|exact zaX.nil|refine zaX.cons ?_ ?_|exact zaE.d|exact zaE.undef|exact zaE.rp|exact zaE.ptr (by decide)|exact zaE.sl (by decide)|exact zaE.mb (by decide)|exact zaE.map (by decide)|exact zaE.yld (by decide)|exact zaE.it (by decide)|refine zaE.clo ?_ ?_|refine zaE.ofCells ?_|refine zaE.agg ?_|refine zaE.tuple ?_|refine zaE.bif ?_ ?_)));(repeat(refine Clo.seq zbd rfl ?_));refine Clo.inl zbd (n':=(0,[])) rfl rfl rfl ?_ ?_ (show Fx.spans _ 7 7=true from by decide) (by decide) ?_;((repeat(first|exact zaI.no|refine zaI.set ?_ ?_|refine zaI.args ?_|exact zaX.nil|refine zaX.cons ?_ ?_|exact zaE.d|exact zaE.ptr (by decide)));(repeat(first|exact zaI.no|exact zaI.none|refine zaI.set ?_ ?_|refine zaI.args ?_|exact zaX.nil|refine zaX.cons ?_ ?_|exact zaE.d|exact zaE.undef|exact zaE.rp|exact zaE.ptr (by decide)|exact zaE.sl (by decide)|exact zaE.mb (by decide)|exact zaE.map (by decide)|exact zaE.yld (by decide)|exact zaE.it (by decide)|refine zaE.clo ?_ ?_|refine zaE.ofCells ?_|refine zaE.agg ?_|refine zaE.tuple ?_|refine zaE.bif ?_ ?_)));(repeat(first|refine Clo.block ?_|refine Clo.seq zbd rfl ?_));(exact Clo.cpost (by decide))) ?_
   ·show Up (20,[]) (zhL a0 a1 0) _
    delta zhL
    exact Up.of (N:=24) (N':=24) [] rfl rfl (by decide) (.set (.d _) (.set (.d _) (.set (.d _) (.set (.d _) zak.none)))) (.set zaq.refl_d zag.at)
   rcases r15 with(q17|q18)
   ·dsimp only at h
    dsimp only[zme]
    try simp only[go_sem]
    cases h
    exact⟨rfl,Up.of (N:=14) (N':=25) [] rfl rfl (by decide) (.set (.d _) (.set (.ptr' rfl) (.set (.d _) zak.none))) (.set zaq.refl_d zag.at)⟩
   dsimp only at h
   dsimp only[zme]
   try simp only[go_sem]
   cases h
   exact⟨rfl,Up.of (N:=14) (N':=24) [] rfl rfl (by decide) (.set (.d _) (.set (.ptr' rfl) (.set (.d _) zak.none))) (.set zaq.refl_d zag.at)⟩
  rw[if_neg (ffn hc6)]at h
  try simp only[go_sem,hc6]
  cases h
  exact⟨rfl,Up.of (N:=14) (N':=14) [] rfl rfl (by decide) (.set (.d _) (.set (.ptr' rfl) (.set (.d _) zak.none))) (.set zaq.refl_d zag.at)⟩
 try simp only[go_sem]
 refine zal (fun hc21=> ?_) (fun hc22=> ?_)
 ·rw[if_pos hc21]at h
  try simp only[go_sem]
  cases h
  rfl
 rw[if_neg (ff hc22)]at h
 try simp only[go_sem]
 obtain⟨r38,hl39,h⟩:=bs h
 refine Wp.loopR zbd (n:=(0,[])) (a:=zBw) rfl (zhM a0 a1) (zmf a0 a1) (zBW a0 a1) hl39 ?_ (by(repeat(first|refine Clo.block ?_|refine Clo.seq zbd rfl ?_));(exact Clo.ret)) ?_
 ·show Up (0,[]) (zhM a0 a1 0) _
  delta zhM
  exact Up.of (N:=17) (N':=17) [] rfl rfl (by decide) (.set (.d _) (.set (.d _) (.set (.d _) (.set (.ptr' rfl) (.set (.d _) zak.none))))) (.set zaq.refl_d zag.at)
 rcases r38 with(q40|q78)
 ·dsimp only at h
  dsimp only[zmf]
  try simp only[go_sem]
  obtain⟨r74,hl75,h⟩:=bs h
  refine Wp.loopR zbd (n:=(0,[])) (a:=zBy) rfl (zhO a0 a1) (zmh a0 a1) (zBY a0 a1) hl75 ?_ (by(repeat(first|refine Clo.block ?_|refine Clo.seq zbd rfl ?_));(exact Clo.ret)) ?_
  ·show Up (0,[]) (zhO a0 a1 ([],[],0)) _
   delta zhO
   exact Up.of (N:=24) (N':=24) [] rfl rfl (by decide) (.set (.d _) (.set (.d _) (.set (.d _) (.set (.map' rfl) (.set (.map' rfl) (.set (.ptr' rfl) zak.none)))))) (.set zaq.map_d (.set zaq.map_d (.set zaq.refl_d zag.at)))
  rcases r74 with(q76|q77)
  ·dsimp only at h
   dsimp only[zmh]
   try simp only[go_sem]
   cases h
   rfl
  dsimp only at h
  dsimp only[zmh]
  try simp only[go_sem]
  cases h
  rfl
 dsimp only at h
 dsimp only[zmf]
 try simp only[go_sem]
 cases h
 rfl
def zfa (a0:shadow_by) (a1:Int) (r1:Node) (r3:Node) (x0:Unit):Heap:=((((((((((Heap.at 39).set 0 (some (.els 2 [.d (zaQ a0)] 0))).set 1 (some (.els 1 [.d (.int .i64 a1)] 0))).set 2 (some (.els 1 [.d (.int .i64 (0))] 0))).set 3 (some (.els 1 [.d (.int .i64 (0))] 0))).set 8 (some (.els 16 [.d (zam r1)] 0))).set 16 (some (.els 1 [.d (.int .i64 r3.shadow)] 0))).set 29 (some (.els 1 [.d (zae a0.f)] 0))).set 30 (some (.els 1 [.d (.int .i64 r3.shadow)] 0))).set 34 (some (.loop ⟨(((((Regs.none.set 2 (.ptr 0 0 0)).set 3 (.ptr 1 0 0)).set 4 (.ptr 2 0 0)).set 5 (.ptr 3 0 0)).set 7 (.ptr 16 0 0)),[30],ztv,ztw,.ready,none⟩)))
def zmi (a0:shadow_by) (a1:Int) (r1:Node) (r3:Node):((Int))→Heap:=fun r=>((((((((((Heap.at 39).set 0 (some (.els 2 [.d (zaQ a0)] 0))).set 1 (some (.els 1 [.d (.int .i64 a1)] 0))).set 2 (some (.els 1 [.d (.int .i64 r)] 0))).set 3 (some (.els 1 [.d (.int .i64 r3.shadow)] 0))).set 8 (some (.els 16 [.d (zam r1)] 0))).set 16 (some (.els 1 [.d (.int .i64 r3.shadow)] 0))).set 29 (some (.els 1 [.d (zae a0.f)] 0))).set 30 (some (.els 1 [.d (.int .i64 r3.shadow)] 0))).set 34 (some (.loop ⟨(((((Regs.none.set 2 (.ptr 0 0 0)).set 3 (.ptr 1 0 0)).set 4 (.ptr 2 0 0)).set 5 (.ptr 3 0 0)).set 7 (.ptr 16 0 0)),[30],ztv,ztw,.done,(some .ret)⟩)))
noncomputable def zfB (a0:shadow_by) (a1:Int) (r1:Node) (r3:Node) (x0:Unit) (v0:Int):Option ((Unit)⊕((Int))):=
 (dec zam (pc prog 92 [zae a0.f,.int .i64 v0])).bind fun r9=>
 (dec D.bool (pc prog 129 [zam r9])).bind fun r11=>
 if r11=true then
  (dec zam (pc prog 92 [zae a0.f,.int .i64 r3.shadow])).bind fun r15=>
  (dec D.bool (pc prog 136 [zaQ a0,.int .i64 v0,.int .i64 a1,.bool r15.manual])).bind fun r17=>
  if r17=true then
   some (.inr v0)
  else
   some (.inl ())
 else
  some (.inl ())
theorem zBZ (a0:shadow_by) (a1:Int) (r1:Node) (r3:Node):Yl prog (39,[]) 34 (D.int .i64) (zfa a0 a1 r1 r3) (zmi a0 a1 r1 r3) (zfB a0 a1 r1 r3):=by
 refine⟨by decide,fun x0=> ?_,fun r=> ?_,fun x0 v0 o h=> ?_⟩
 ·show LocH 39 _;delta zfa;repeat(first|exact LocH.at|refine LocH.set (by decide) ?_ ?_|refine zGq.some ?_|refine zpJ.els ?_|refine zpJ.loop ?_|exact zgo.nil|refine zgo.cons ?_ ?_|exact zeL.d|exact zeL.ptr (by decide)|exact zyH.none|refine zyH.set ?_ ?_)
 ·show LocH 39 (((((((((((Heap.at 39).set 0 (some (.els 2 [.d (zaQ a0)] 0))).set 1 (some (.els 1 [.d (.int .i64 a1)] 0))).set 2 (some (.els 1 [.d (.int .i64 r)] 0))).set 3 (some (.els 1 [.d (.int .i64 r3.shadow)] 0))).set 8 (some (.els 16 [.d (zam r1)] 0))).set 16 (some (.els 1 [.d (.int .i64 r3.shadow)] 0))).set 29 (some (.els 1 [.d (zae a0.f)] 0))).set 30 (some (.els 1 [.d (.int .i64 r3.shadow)] 0))).set 34 (some (.loop ⟨(((((Regs.none.set 2 (.ptr 0 0 0)).set 3 (.ptr 1 0 0)).set 4 (.ptr 2 0 0)).set 5 (.ptr 3 0 0)).set 7 (.ptr 16 0 0)),[30],ztv,ztw,.done,(some .ret)⟩))));repeat(first|exact LocH.at|refine LocH.set (by decide) ?_ ?_|refine zGq.some ?_|refine zpJ.els ?_|refine zpJ.loop ?_|exact zgo.nil|refine zgo.cons ?_ ?_|exact zeL.d|exact zeL.ptr (by decide)|exact zyH.none|refine zyH.set ?_ ?_)
 unfold zfB at h
 delta zfa
 refine zxs (L:=⟨(((((Regs.none.set 2 (.ptr 0 0 0)).set 3 (.ptr 1 0 0)).set 4 (.ptr 2 0 0)).set 5 (.ptr 3 0 0)).set 7 (.ptr 16 0 0)),[30],ztv,ztw,.ready,none⟩) (by simp only[go_sem]) rfl ?_
 delta ztv
 try simp only[go_sem]
 delta ztw
 try simp only[go_sem]
 obtain⟨r9,hr10,h⟩:=bs h
 replace hr10:=zao hr10
 refine zat hr10 ?_
 try simp only[go_sem]
 obtain⟨r11,hr12,h⟩:=bs h
 replace hr12:=zao hr12
 refine zat hr12 ?_
 try simp only[go_sem]
 refine zaa (v:= .d (zaQ a0)) (fun hb26=>by simp only[go_sem,hb26]) ?_
 try simp only[go_sem]
 refine zaa (v:= .d (.int .i64 v0)) (fun hb25=>by simp only[go_sem,hb25]) ?_
 try simp only[go_sem]
 refine zaa (v:= .d (.int .i64 a1)) (fun hb24=>by simp only[go_sem,hb24]) ?_
 try simp only[go_sem]
 refine zaa (v:= .ptr 0 0 0) (fun hb23=>by simp only[go_sem,hb23]) ?_
 try simp only[go_sem]
 refine zaa (v:= .d (zae a0.f)) (fun hb22=>by simp only[go_sem,hb22]) ?_
 try simp only[go_sem]
 refine zaa (v:= .d (.int .i64 r3.shadow)) (fun hb21=>by simp only[go_sem,hb21]) ?_
 try simp only[go_sem]
 refine zaG (fun hc13=> ?_) (fun hc14=> ?_)
 ·rw[if_pos hc13]at h
  try simp only[go_sem,hc13]
  obtain⟨r15,hr16,h⟩:=bs h
  replace hr16:=zao hr16
  refine zat hr16 ?_
  try simp only[go_sem]
  obtain⟨r17,hr18,h⟩:=bs h
  replace hr18:=zao hr18
  refine zat hr18 ?_
  try simp only[go_sem]
  refine zal (fun hc19=> ?_) (fun hc20=> ?_)
  ·rw[if_pos hc19]at h
   try simp only[go_sem]
   cases h
   exact⟨rfl,Up.of (N:=39) (N':=60) [] rfl rfl (by decide) zak.none (.set (zaq.loop (.set (.ptr' rfl) (.set (.ptr' rfl) (.set (.ptr' rfl) (.set (.ptr' rfl) (.set (.ptr' rfl) zak.none))))) rfl rfl) (.set zaq.refl_d (.set zaq.refl_d (.set zaq.refl_d (.set zaq.refl_d (.set zaq.refl_d (.set zaq.refl_d (.set zaq.refl_d (.set zaq.refl_d zag.at)))))))))⟩
  rw[if_neg (ff hc20)]at h
  try simp only[go_sem]
  cases h
  exact⟨rfl,Up.of (N:=39) (N':=56) [] rfl rfl (by decide) zak.none (.set (zaq.loop (.set (.ptr' rfl) (.set (.ptr' rfl) (.set (.ptr' rfl) (.set (.ptr' rfl) (.set (.ptr' rfl) zak.none))))) rfl rfl) (.set zaq.refl_d (.set zaq.refl_d (.set zaq.refl_d (.set zaq.refl_d (.set zaq.refl_d (.set zaq.refl_d (.set zaq.refl_d (.set zaq.refl_d zag.at)))))))))⟩
 rw[if_neg (ff hc14)]at h
 try simp only[go_sem,hc14]
 cases h
 exact⟨rfl,Up.of (N:=39) (N':=56) [] rfl rfl (by decide) zak.none (.set (zaq.loop (.set (.ptr' rfl) (.set (.ptr' rfl) (.set (.ptr' rfl) (.set (.ptr' rfl) (.set (.ptr' rfl) zak.none))))) rfl rfl) (.set zaq.refl_d (.set zaq.refl_d (.set zaq.refl_d (.set zaq.refl_d (.set zaq.refl_d (.set zaq.refl_d (.set zaq.refl_d (.set zaq.refl_d zag.at)))))))))⟩
noncomputable def P91 (a0:shadow_by) (a1:Int):Option (Int×Int):=
 (dec zam (pc prog 92 [zae a0.f,.int .i64 a1])).bind fun r1=>
 (dec zam (pc prog 92 [zae a0.f,.int .i64 r1.parent])).bind fun r3=>
 (dec D.bool (pc prog 130 [zam r1])).bind fun r5=>
 if(bif (!r5)then true else(r3.shadow==0))=true then
  some (0,0)
 else
  (zgX a0.f r3.shadow).bind fun l27=>
  (foldI (zfB a0 a1 r1 r3) () l27).bind fun r29=>
  match r29 with
  | .inl q31=>
   some (0,0)
  | .inr q32=>
   some (q32,r3.shadow)
theorem zMl (a0:shadow_by) (a1:Int) (r:Int×Int) (h:P91 a0 a1=some r):pc prog 91 [zaQ a0,.int .i64 a1]=some ((eT2 (D.int .i64) (D.int .i64)) r):=by
 unfold P91 at h
 refine zbD (fn:=c91) rfl rfl ?_
 delta c91
 try simp only[go_sem]
 obtain⟨r1,hr2,h⟩:=bs h
 replace hr2:=zao hr2
 refine zat hr2 ?_
 try simp only[go_sem]
 obtain⟨r3,hr4,h⟩:=bs h
 replace hr4:=zao hr4
 refine zat hr4 ?_
 try simp only[go_sem]
 obtain⟨r5,hr6,h⟩:=bs h
 replace hr6:=zao hr6
 refine zat hr6 ?_
 try simp only[go_sem]
 refine zaa (v:= .d (.int .i64 r3.shadow)) (fun hb34=>by simp only[go_sem,hb34]) ?_
 try simp only[go_sem]
 refine zaa (v:= .d (.bool (r3.shadow==0))) (fun hb33=>by simp only[go_sem,hb33]) ?_
 try simp only[go_sem]
 refine zal (fun hc7=> ?_) (fun hc8=> ?_)
 ·rw[if_pos hc7]at h
  try simp only[go_sem]
  cases h
  rfl
 rw[if_neg (ff hc8)]at h
 try simp only[go_sem]
 refine zbn (fn:=zJh) rfl rfl ?_
 delta zJh
 try simp only[go_sem]
 refine Wp.rfuncC (k:=168) (fn:=zJs) (first:=[]) (cap:=[.ptr 29 0 0,.ptr 30 0 0]) (by simp only[go_sem]) rfl rfl ?_
 delta zJs
 try simp only[go_sem]
 obtain⟨l27,hl28,h⟩:=bs h
 obtain⟨r29,hl30,h⟩:=bs h
 refine zxt zbd (n:=(39,[])) (n':=(35,[])) (S:=zfa a0 a1 r1 r3) (F:=zmi a0 a1 r1 r3) (zom hl28) (zBZ a0 a1 r1 r3) (fun _=>Nat.le_refl _) (fun r=>Nat.le_refl _) hl30 ?_ rfl rfl rfl ?_ ?_ (show Fx.spans _ 35 4=true from by decide) (by decide) (by(repeat(first|refine Clo.block ?_|refine Clo.seq zbd rfl ?_));refine Clo.rf (n':=(0,[])) ?_ (by decide) (by decide) ?_;((repeat(first|refine zaI.set ?_ ?_|refine zaI.args ?_|exact zaX.nil|refine zaX.cons ?_ ?_|exact zaE.d|exact zaE.ptr (by decide)|refine zaE.clo ?_ ?_)));(repeat(first|refine Clo.block ?_|refine Clo.seq zbd rfl ?_));(exact Clo.ret)) rfl ?_
 ·show Up (39,[]) ⟨Regs.none,zfa a0 a1 r1 r3 ()⟩ _
  delta zfa
  exact Up.of (N:=39) (N':=39) [] rfl rfl (by decide) zak.none (.set (zaq.loop (.set (.ptr' rfl) (.set (.ptr' rfl) (.set (.ptr' rfl) (.set (.ptr' rfl) (.set (.ptr' rfl) zak.none))))) rfl rfl) (.set zaq.refl_d (.set zaq.refl_d (.set zaq.refl_d (.set zaq.refl_d (.set zaq.refl_d (.set zaq.refl_d (.set zaq.refl_d (.set zaq.refl_d zag.at)))))))))
 ·repeat(first|exact zaI.no|refine zaI.set ?_ ?_|exact zaE.d|exact zaE.yld (by decide))
 ·repeat(first|refine zaI.args ?_|exact zaX.nil|refine zaX.cons ?_ ?_|exact zaE.ptr (by decide)|exact zaE.yld (by decide))
 rcases r29 with(q31|q32)
 ·dsimp only at h
  simp only[zxu,zxv,zhr,zhs]
  dsimp only[zfa,zmi]
  try simp only[go_sem]
  cases h
  rfl
 dsimp only at h
 simp only[zxu,zxv,zhr,zhs]
 dsimp only[zfa,zmi]
 try simp only[go_sem]
 cases h
 rfl
noncomputable def zLk (a0:Node):Option (Bool):=
 if(a0.kind==1)=true then
  some (decide (a0.name=(⟨[104,116,116,112,58,47,47,119,119,119,46,119,51,46,111,114,103,47,49,57,57,57,47,120,104,116,109,108],a0.name.prefix_,[115,108,111,116]⟩:Name)))
 else
  some false
theorem zLl (a0:Node) (r:Bool) (h:zLk a0=some r):pc prog 129 [zam a0]=some (D.bool r):=by
 unfold zLk at h
 refine zbD (fn:=zJd) rfl rfl ?_
 delta zJd
 try simp only[go_sem]
 refine zaa (v:= .ptr 0 0 1) (fun hb7=>by simp only[go_sem,hb7]) ?_
 try simp only[go_sem]
 refine zaa (v:= .d (zdf a0.name)) (fun hb6=>by simp only[go_sem,hb6]) ?_
 try simp only[go_sem]
 refine zaa (v:= .ptr 0 0 1) (fun hb5=>by simp only[go_sem,hb5]) ?_
 try simp only[go_sem]
 refine zaa (v:= .ptr 0 0 2) (fun hb4=>by simp only[go_sem,hb4]) ?_
 try simp only[go_sem]
 refine zaa (v:= .d (.str a0.name.prefix_)) (fun hb3=>by simp only[go_sem,hb3]) ?_
 try simp only[go_sem]
 refine zaG (fun hc1=> ?_) (fun hc2=> ?_)
 ·rw[if_pos hc1]at h
  try simp only[go_sem,hc1]
  cases h
  rfl
 rw[if_neg (ff hc2)]at h
 try simp only[go_sem,hc2]
 cases h
 rfl
noncomputable def zLm (a0:Node):Option (Bool):=
 if(!(a0.kind==1))=true then
  (dec D.bool (pc prog 167 [.int .u8 a0.kind])).bind fun r3=>
  some r3
 else
  some true
theorem zLn (a0:Node) (r:Bool) (h:zLm a0=some r):pc prog 130 [zam a0]=some (D.bool r):=by
 unfold zLm at h
 refine zbD (fn:=zJe) rfl rfl ?_
 delta zJe
 try simp only[go_sem]
 refine zaa (v:= .ptr 0 0 0) (fun hb6=>by simp only[go_sem,hb6]) ?_
 try simp only[go_sem]
 refine zaa (v:= .d (.int .u8 a0.kind)) (fun hb5=>by simp only[go_sem,hb5]) ?_
 try simp only[go_sem]
 refine zaV (fun hc1=> ?_) (fun hc2=> ?_)
 ·rw[if_pos (show(!(a0.kind==1))=true by(rw[hc1];rfl))]at h
  try simp only[go_sem,hc1]
  obtain⟨r3,hr4,h⟩:=bs h
  replace hr4:=zao hr4
  refine zat hr4 ?_
  try simp only[go_sem]
  cases h
  rfl
 rw[if_neg (ffn hc2)]at h
 try simp only[go_sem,hc2]
 cases h
 rfl
noncomputable def zLo (a0:shadow_by) (a1:Int) (a2:Int) (a3:Bool):Option (Bool):=
 if a3=true then
  (dec (eSl (D.int .i64)) (pc prog 171 [zaQ a0,.int .i64 a1])).bind fun r3=>
  (dec D.bool (pc prog 170 [.list r3.n (r3.l.map (D.int .i64)),.int .i64 a2])).bind fun r5=>
  some r5
 else
  (dec zam (pc prog 92 [zae a0.f,.int .i64 a1])).bind fun r7=>
  (dec (eT2 D.str D.bool) (pc prog 172 [zam r7,.str ([110,97,109,101])])).bind fun r9=>
  (dec zam (pc prog 92 [zae a0.f,.int .i64 a2])).bind fun r11=>
  if(r11.kind==1)=true then
   (dec zam (pc prog 92 [zae a0.f,.int .i64 a2])).bind fun r15=>
   (dec (eT2 D.str D.bool) (pc prog 172 [zam r15,.str ([115,108,111,116])])).bind fun r17=>
   some (r9.1==r17.1)
  else
   some (r9.1==[])
theorem zLp (a0:shadow_by) (a1:Int) (a2:Int) (a3:Bool) (r:Bool) (h:zLo a0 a1 a2 a3=some r):pc prog 136 [zaQ a0,.int .i64 a1,.int .i64 a2,.bool a3]=some (D.bool r):=by
 unfold zLo at h
 refine zbD (fn:=zJi) rfl rfl ?_
 delta zJi
 try simp only[go_sem]
 refine zal (fun hc1=> ?_) (fun hc2=> ?_)
 ·rw[if_pos hc1]at h
  try simp only[go_sem]
  obtain⟨r3,hr4,h⟩:=bs h
  replace hr4:=zao hr4
  refine zat hr4 ?_
  try simp only[go_sem]
  obtain⟨r5,hr6,h⟩:=bs h
  replace hr6:=zao hr6
  refine zat hr6 ?_
  try simp only[go_sem]
  cases h
  rfl
 rw[if_neg (ff hc2)]at h
 try simp only[go_sem]
 obtain⟨r7,hr8,h⟩:=bs h
 replace hr8:=zao hr8
 refine zat hr8 ?_
 try simp only[go_sem]
 obtain⟨r9,hr10,h⟩:=bs h
 replace hr10:=zao hr10
 refine zat hr10 ?_
 try simp only[go_sem]
 obtain⟨r11,hr12,h⟩:=bs h
 replace hr12:=zao hr12
 refine zat hr12 ?_
 try simp only[go_sem]
 refine zal (fun hc13=> ?_) (fun hc14=> ?_)
 ·rw[if_pos hc13]at h
  try simp only[go_sem]
  obtain⟨r15,hr16,h⟩:=bs h
  replace hr16:=zao hr16
  refine zat hr16 ?_
  try simp only[go_sem]
  obtain⟨r17,hr18,h⟩:=bs h
  replace hr18:=zao hr18
  refine zat hr18 ?_
  try simp only[go_sem]
  cases h
  rfl
 rw[if_neg (ff hc14)]at h
 try simp only[go_sem]
 cases h
 rfl
noncomputable def zLq (a0:Int):Option (Bool):=
 some (bif (a0==3)then true else(a0==4))
theorem zLr (a0:Int) (r:Bool) (h:zLq a0=some r):pc prog 167 [.int .u8 a0]=some (D.bool r):=by
 unfold zLq at h
 refine zbD (fn:=zJr) rfl rfl ?_
 delta zJr
 try simp only[go_sem]
 refine zaa (v:= .d (.int .u8 a0)) (fun hb2=>by simp only[go_sem,hb2]) ?_
 try simp only[go_sem]
 refine zaa (v:= .d (.bool (a0==4))) (fun hb1=>by simp only[go_sem,hb1]) ?_
 try simp only[go_sem]
 cases h
 rfl
noncomputable def zLs (a0:Assign):Option (Bool):=
 some (decide (4096<(a0.nodes.l.length:Int)))
theorem zLt (a0:Assign) (r:Bool) (h:zLs a0=some r):pc prog 128 [zap a0]=some (D.bool r):=by
 unfold zLs at h
 refine zbD (fn:=zJc) rfl rfl ?_
 delta zJc
 try simp only[go_sem]
 cases h
 rfl
noncomputable def zLu (a0:Sl (Int)) (a1:Int):Option (Bool):=
 (dec (D.int .i64) (pc prog 180 [.list a0.n (a0.l.map (D.int .i64)),.int .i64 a1])).bind fun r1=>
 some (decide (0≤r1))
theorem zLv (a0:Sl (Int)) (a1:Int) (r:Bool) (h:zLu a0 a1=some r):pc prog 170 [.list a0.n (a0.l.map (D.int .i64)),.int .i64 a1]=some (D.bool r):=by
 unfold zLu at h
 refine zbD (fn:=zJt) rfl rfl ?_
 delta zJt
 try simp only[go_sem]
 obtain⟨r1,hr2,h⟩:=bs h
 replace hr2:=zao hr2
 refine zat hr2 ?_
 try simp only[go_sem]
 cases h
 rfl
def zfC (a0:shadow_by) (a1:Int) (x0:Int):St:=⟨((((Regs.none.set 1 (.d (.int .i64 a1))).set 8 (.d (.list a0.hand.n (a0.hand.l.map zap)))).set 9 (.d (.int .i64 (a0.hand.l.length:Int)))).set 10 (.d (.int .i64 x0))),(Heap.at 6)⟩
def ziM (a0:shadow_by) (a1:Int):((Unit)⊕(Sl (Int)))→Ex×St:=fun r=>match r with
 |(.inl r)=>(.exit 0,⟨Regs.none,(Heap.at 6)⟩)
 |(.inr r)=>(.ret,⟨(Regs.none.set 4 (.d (.list r.n (r.l.map (D.int .i64))))),(Heap.at 6)⟩)
noncomputable def zdL (a0:shadow_by) (a1:Int) (x0:Int):Option ((Int)⊕((Unit)⊕(Sl (Int)))):=
 if(decide (x0<(a0.hand.l.length:Int)))=true then
  (rd a0.hand.l x0).bind fun y3=>
  if(y3.slot==a1)=true then
   some (.inr (.inr y3.nodes))
  else
   some (.inl (IntKind.wrap .i64 (x0+1)))
 else
  some (.inr (.inl ()))
theorem zyu (a0:shadow_by) (a1:Int) (x0:Int) (o:(Int)⊕((Unit)⊕(Sl (Int)))) (h:zdL a0 a1 x0=some o):Wp prog zqZ (zfC a0 a1 x0) (zcg (0,[]) (zfC a0 a1) (ziM a0 a1) o):=by
 unfold zdL at h
 delta zqZ zfC
 try simp only[go_sem]
 refine zal (fun hc1=> ?_) (fun hc2=> ?_)
 ·rw[if_pos hc1]at h
  try simp only[go_sem]
  obtain⟨y3,hy4,h⟩:=bs h
  try simp only[go_sem,zac hy4,zaj hy4,zad zap hy4]
  refine zal (fun hc5=> ?_) (fun hc6=> ?_)
  ·rw[if_pos hc5]at h
   try simp only[go_sem,zac hy4,zaj hy4,zad zap hy4]
   cases h
   exact⟨rfl,by simp,Up.of (N:=6) (N':=18) [] rfl rfl (by decide) (.set (.d _) zak.none) zag.at⟩
  rw[if_neg (ff hc6)]at h
  try simp only[go_sem,zac hy4,zaj hy4,zad zap hy4]
  cases h
  exact⟨rfl,Up.of (N:=6) (N':=17) [] rfl rfl (by decide) (.set (.d _) (.set (.d _) (.set (.d _) (.set (.d _) zak.none)))) zag.at⟩
 rw[if_neg (ff hc2)]at h
 try simp only[go_sem]
 cases h
 exact⟨rfl,by simp,Up.of (N:=6) (N':=7) [] rfl rfl (by decide) zak.none zag.at⟩
noncomputable def zLw (a0:shadow_by) (a1:Int):Option (Sl (Int)):=
 (zaU (zdL a0 a1) 0).bind fun r7=>
 match r7 with
 |(.inl q9)=>
  some (⟨true,[]⟩)
 |(.inr q10)=>
  some q10
theorem zLx (a0:shadow_by) (a1:Int) (r:Sl (Int)) (h:zLw a0 a1=some r):pc prog 171 [zaQ a0,.int .i64 a1]=some ((eSl (D.int .i64)) r):=by
 unfold zLw at h
 refine zbD (fn:=zJu) rfl rfl ?_
 delta zJu
 try simp only[go_sem]
 obtain⟨r7,hl8,h⟩:=bs h
 refine Wp.loopR zbd (n:=(0,[])) (a:=zqZ) rfl (zfC a0 a1) (ziM a0 a1) (zyu a0 a1) hl8 ?_ (by(repeat(first|refine Clo.block ?_|refine Clo.seq zbd rfl ?_));(exact Clo.ret)) ?_
 ·show Up (0,[]) (zfC a0 a1 0) _
  delta zfC
  exact Up.of (N:=6) (N':=6) [] rfl rfl (by decide) (.set (.d _) (.set (.d _) (.set (.d _) (.set (.d _) zak.none)))) zag.at
 rcases r7 with(q9|q10)
 ·dsimp only at h
  dsimp only[ziM]
  try simp only[go_sem]
  cases h
  rfl
 dsimp only at h
 dsimp only[ziM]
 try simp only[go_sem]
 cases h
 rfl
def zfD (a0:Node) (a1:List UInt8) (x0:Int):St:=⟨((((Regs.none.set 1 (.d (.str a1))).set 9 (.d (.list a0.attrs.n (a0.attrs.l.map zbm)))).set 10 (.d (.int .i64 (a0.attrs.l.length:Int)))).set 11 (.d (.int .i64 x0))),(Heap.at 7)⟩
def ziN (a0:Node) (a1:List UInt8):((Unit)⊕(List UInt8))→Ex×St:=fun r=>match r with
 |(.inl r)=>(.exit 0,⟨Regs.none,(Heap.at 7)⟩)
 |(.inr r)=>(.ret,⟨((Regs.none.set 4 (.d (.str r))).set 5 (.d (.bool true))),(Heap.at 7)⟩)
noncomputable def zdM (a0:Node) (a1:List UInt8) (x0:Int):Option ((Int)⊕((Unit)⊕(List UInt8))):=
 if(decide (x0<(a0.attrs.l.length:Int)))=true then
  (rd a0.attrs.l x0).bind fun y3=>
  if(bif (y3.name.space==[])then(y3.name.local_==a1)else false)=true then
   some (.inr (.inr y3.value))
  else
   some (.inl (IntKind.wrap .i64 (x0+1)))
 else
  some (.inr (.inl ()))
theorem zyv (a0:Node) (a1:List UInt8) (x0:Int) (o:(Int)⊕((Unit)⊕(List UInt8))) (h:zdM a0 a1 x0=some o):Wp prog zra (zfD a0 a1 x0) (zcg (0,[]) (zfD a0 a1) (ziN a0 a1) o):=by
 unfold zdM at h
 delta zra zfD
 try simp only[go_sem]
 refine zal (fun hc1=> ?_) (fun hc2=> ?_)
 ·rw[if_pos hc1]at h
  try simp only[go_sem]
  obtain⟨y3,hy4,h⟩:=bs h
  try simp only[go_sem,zac hy4,zaj hy4,zad zbm hy4]
  refine zaa (v:= .ptr 10 0 0) (fun hb11=>by simp only[go_sem,zac hy4,zaj hy4,zad zbm hy4,hc1,hb11]) ?_
  try simp only[go_sem,zac hy4,zaj hy4,zad zbm hy4]
  refine zaa (v:= .ptr 10 0 2) (fun hb10=>by simp only[go_sem,zac hy4,zaj hy4,zad zbm hy4,hc1,hb10]) ?_
  try simp only[go_sem,zac hy4,zaj hy4,zad zbm hy4]
  refine zaa (v:= .d (.str y3.name.local_)) (fun hb9=>by simp only[go_sem,zac hy4,zaj hy4,zad zbm hy4,hc1,hb9]) ?_
  try simp only[go_sem,zac hy4,zaj hy4,zad zbm hy4]
  refine zaa (v:= .d (.str a1)) (fun hb8=>by simp only[go_sem,zac hy4,zaj hy4,zad zbm hy4,hc1,hb8]) ?_
  try simp only[go_sem,zac hy4,zaj hy4,zad zbm hy4]
  refine zaa (v:= .d (.bool (y3.name.local_==a1))) (fun hb7=>by simp only[go_sem,zac hy4,zaj hy4,zad zbm hy4,hc1,hb7]) ?_
  try simp only[go_sem,zac hy4,zaj hy4,zad zbm hy4]
  refine zal (fun hc5=> ?_) (fun hc6=> ?_)
  ·rw[if_pos hc5]at h
   try simp only[go_sem,zac hy4,zaj hy4,zad zbm hy4]
   cases h
   exact⟨rfl,by simp,Up.of (N:=7) (N':=27) [] rfl rfl (by decide) (.set (.d _) (.set (.d _) zak.none)) zag.at⟩
  rw[if_neg (ff hc6)]at h
  try simp only[go_sem,zac hy4,zaj hy4,zad zbm hy4]
  cases h
  exact⟨rfl,Up.of (N:=7) (N':=25) [] rfl rfl (by decide) (.set (.d _) (.set (.d _) (.set (.d _) (.set (.d _) zak.none)))) zag.at⟩
 rw[if_neg (ff hc2)]at h
 try simp only[go_sem]
 cases h
 exact⟨rfl,by simp,Up.of (N:=7) (N':=8) [] rfl rfl (by decide) zak.none zag.at⟩
noncomputable def zLy (a0:Node) (a1:List UInt8):Option (List UInt8×Bool):=
 (zaU (zdM a0 a1) 0).bind fun r12=>
 match r12 with
 |(.inl q14)=>
  some ([],false)
 |(.inr q15)=>
  some (q15,true)
theorem zLz (a0:Node) (a1:List UInt8) (r:List UInt8×Bool) (h:zLy a0 a1=some r):pc prog 172 [zam a0,.str a1]=some ((eT2 D.str D.bool) r):=by
 unfold zLy at h
 refine zbD (fn:=zJv) rfl rfl ?_
 delta zJv
 try simp only[go_sem]
 obtain⟨r12,hl13,h⟩:=bs h
 refine Wp.loopR zbd (n:=(0,[])) (a:=zra) rfl (zfD a0 a1) (ziN a0 a1) (zyv a0 a1) hl13 ?_ (by(repeat(first|refine Clo.block ?_|refine Clo.seq zbd rfl ?_));(exact Clo.ret)) ?_
 ·show Up (0,[]) (zfD a0 a1 0) _
  delta zfD
  exact Up.of (N:=7) (N':=7) [] rfl rfl (by decide) (.set (.d _) (.set (.d _) (.set (.d _) (.set (.d _) zak.none)))) zag.at
 rcases r12 with(q14|q15)
 ·dsimp only at h
  dsimp only[ziN]
  try simp only[go_sem]
  cases h
  rfl
 dsimp only at h
 dsimp only[ziN]
 try simp only[go_sem]
 cases h
 rfl
end Go.Proofs.Ythodcjjgimeeoaa.P
