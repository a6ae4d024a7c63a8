/- Shaken copy of a longer text: what one law needs. Its conditions: none. -/
import Derived.Test.YtfleilibjdgcjaaZODec0
set_option linter.unusedSimpArgs false
set_option linter.unusedVariables false
set_option maxHeartbeats 1000000
namespace Go.Proofs.Ytfleilibjdgcjaa.O
open Go.AI
noncomputable def P20 (a0:Forest) (a1:Int) (a2:Int):Option (Int×Int):=
 (dec (eT3 (D.int .i64) D.bool (D.int .i64)) (pc prog 54 [zae a0,.int .i64 a1,.int .i64 a2])).bind fun r1=>
 if(!(r1.2.2==0))=true then
  some (0,r1.2.2)
 else
  if(a1==a2)=true then
   some (0,0)
  else
   if(bif (!r1.2.1)then(decide (a2<a1))else false)=true then
    some (35,0)
   else
    if(!r1.2.1)=true then
     some (37,0)
    else
     (dec D.bool (pc prog 86 [zae a0,.int .i64 a2,.int .i64 a1])).bind fun r11=>
     if r11=true then
      some (10,0)
     else
      (dec D.bool (pc prog 86 [zae a0,.int .i64 a1,.int .i64 a2])).bind fun r15=>
      if r15=true then
       some (20,0)
      else
       if(decide (0<r1.1))=true then
        some (2,0)
       else
        some (4,0)
theorem zML (a0:Forest) (a1:Int) (a2:Int) (r:Int×Int) (h:P20 a0 a1 a2=some r):pc prog 20 [zae a0,.int .i64 a1,.int .i64 a2]=some ((eT2 (D.int .i64) (D.int .i64)) r):=by
 unfold P20 at h
 refine zaZ (fn:=c20) rfl rfl ?_
 delta c20
 try simp only[go_sem]
 obtain⟨r1,hr2,h⟩:=bs h
 replace hr2:=zam hr2
 refine zaq hr2 ?_
 try simp only[go_sem]
 refine zaF (fun hc3=> ?_) (fun hc4=> ?_)
 ·rw[if_pos (show(!(r1.2.2==0))=true by(rw[hc3];rfl))]at h
  try simp only[go_sem]
  cases h
  rfl
 rw[if_neg (ffn hc4)]at h
 try simp only[go_sem]
 refine zaj (fun hc5=> ?_) (fun hc6=> ?_)
 ·rw[if_pos hc5]at h
  try simp only[go_sem]
  cases h
  rfl
 rw[if_neg (ff hc6)]at h
 try simp only[go_sem]
 refine zaa (v:= .d (.int .i64 a2)) (fun hb23=>by simp only[go_sem,hc4,hc6,hb23]) ?_
 try simp only[go_sem]
 refine zaa (v:= .d (.int .i64 a1)) (fun hb22=>by simp only[go_sem,hc4,hc6,hb22]) ?_
 try simp only[go_sem]
 refine zaa (v:= .d (.bool (decide (a2<a1)))) (fun hb21=>by simp only[go_sem,hc4,hc6,hb21]) ?_
 try simp only[go_sem]
 refine zaj (fun hc7=> ?_) (fun hc8=> ?_)
 ·rw[if_pos hc7]at h
  try simp only[go_sem]
  cases h
  rfl
 rw[if_neg (ff hc8)]at h
 try simp only[go_sem]
 refine zaF (fun hc9=> ?_) (fun hc10=> ?_)
 ·rw[if_pos (show(!r1.2.1)=true by(rw[hc9];rfl))]at h
  try simp only[go_sem]
  cases h
  rfl
 rw[if_neg (ffn hc10)]at h
 try simp only[go_sem]
 obtain⟨r11,hr12,h⟩:=bs h
 replace hr12:=zam hr12
 refine zaq hr12 ?_
 try simp only[go_sem]
 refine zaj (fun hc13=> ?_) (fun hc14=> ?_)
 ·rw[if_pos hc13]at h
  try simp only[go_sem]
  cases h
  rfl
 rw[if_neg (ff hc14)]at h
 try simp only[go_sem]
 obtain⟨r15,hr16,h⟩:=bs h
 replace hr16:=zam hr16
 refine zaq hr16 ?_
 try simp only[go_sem]
 refine zaj (fun hc17=> ?_) (fun hc18=> ?_)
 ·rw[if_pos hc17]at h
  try simp only[go_sem]
  cases h
  rfl
 rw[if_neg (ff hc18)]at h
 try simp only[go_sem]
 refine zaj (fun hc19=> ?_) (fun hc20=> ?_)
 ·rw[if_pos hc19]at h
  try simp only[go_sem]
  cases h
  rfl
 rw[if_neg (ff hc20)]at h
 try simp only[go_sem]
 cases h
 rfl
noncomputable def P28 (a0:Forest):Option (Bool):=
 (dec (eT2 (D.int .i64) (D.int .i64)) (pc prog 93 [zae a0])).bind fun r1=>
 some (r1.1==0)
theorem zMM (a0:Forest) (r:Bool) (h:P28 a0=some r):pc prog 28 [zae a0]=some (D.bool r):=by
 unfold P28 at h
 refine zaZ (fn:=c28) rfl rfl ?_
 delta c28
 try simp only[go_sem]
 obtain⟨r1,hr2,h⟩:=bs h
 replace hr2:=zam hr2
 refine zaq hr2 ?_
 try simp only[go_sem]
 cases h
 rfl
noncomputable def P31 (a0:Forest) (a1:Int):Option (Node×Bool):=
 if(bif (decide (a1<1))then true else(decide ((a0.nodes.l.length:Int)<a1)))=true then
  some ((⟨0,⟨[],[],[]⟩,[],[],⟨true,[]⟩,⟨true,[]⟩,0,⟨true,[]⟩,0,0,0,0,false,false⟩:Node),false)
 else
  (rd a0.nodes.l (IntKind.wrap .i64 (a1-1))).bind fun y3=>
  some (y3,true)
theorem zMN (a0:Forest) (a1:Int) (r:Node×Bool) (h:P31 a0 a1=some r):pc prog 31 [zae a0,.int .i64 a1]=some ((eT2 zai D.bool) r):=by
 unfold P31 at h
 refine zaZ (fn:=c31) rfl rfl ?_
 delta c31
 try simp only[go_sem]
 refine zaa (v:= .d (.int .i64 a1)) (fun hb9=>by simp only[go_sem,hb9]) ?_
 try simp only[go_sem]
 refine zaa (v:= .ptr 0 0 0) (fun hb8=>by simp only[go_sem,hb8]) ?_
 try simp only[go_sem]
 refine zaa (v:= .d (.list a0.nodes.n (a0.nodes.l.map zai))) (fun hb7=>by simp only[go_sem,hb7]) ?_
 try simp only[go_sem]
 refine zaa (v:= .d (.int .i64 (a0.nodes.l.length:Int))) (fun hb6=>by simp only[go_sem,hb6]) ?_
 try simp only[go_sem]
 refine zaa (v:= .d (.bool (decide ((a0.nodes.l.length:Int)<a1)))) (fun hb5=>by simp only[go_sem,hb5]) ?_
 try simp only[go_sem]
 refine zaj (fun hc1=> ?_) (fun hc2=> ?_)
 ·rw[if_pos hc1]at h
  try simp only[go_sem]
  cases h
  rfl
 rw[if_neg (ff hc2)]at h
 try simp only[go_sem]
 obtain⟨y3,hy4,h⟩:=bs h
 try simp only[go_sem,zab hy4,zaf hy4,zac zai hy4]
 cases h
 rfl
noncomputable def P35 (a0:Forest) (a1:Int) (a2:Int):Option (Bool×Int):=
 (dec (D.int .i64) (pc prog 87 [zae a0,.list false (([a1,a2]).map (D.int .i64))])).bind fun r1=>
 if(!(r1==0))=true then
  some (false,r1)
 else
  (dec D.bool (pc prog 86 [zae a0,.int .i64 a1,.int .i64 a2])).bind fun r5=>
  some (r5,0)
theorem zMO (a0:Forest) (a1:Int) (a2:Int) (r:Bool×Int) (h:P35 a0 a1 a2=some r):pc prog 35 [zae a0,.int .i64 a1,.int .i64 a2]=some ((eT2 D.bool (D.int .i64)) r):=by
 unfold P35 at h
 refine zaZ (fn:=c35) rfl rfl ?_
 delta c35
 try simp only[go_sem]
 refine zcB (fn:=c98) rfl rfl ?_
 delta c98
 try simp only[go_sem]
 obtain⟨r1,hr2,h⟩:=bs h
 replace hr2:=zam hr2
 refine zaq hr2 ?_
 try simp only[go_sem]
 refine zaF (fun hc3=> ?_) (fun hc4=> ?_)
 ·rw[if_pos (show(!(r1==0))=true by(rw[hc3];rfl))]at h
  try simp only[go_sem]
  cases h
  rfl
 rw[if_neg (ffn hc4)]at h
 try simp only[go_sem]
 refine ziZ (fn:=c99) rfl rfl ?_
 delta c99
 try simp only[go_sem]
 obtain⟨r5,hr6,h⟩:=bs h
 replace hr6:=zam hr6
 refine zaq hr6 ?_
 try simp only[go_sem]
 cases h
 rfl
def zhf (a0:Forest) (a1:Int) (a2:Int) (x0:Int):St:=⟨(((Regs.none.set 0 (.yld 38)).set 1 (.ptr 34 0 0)).set 2 (.ptr 33 0 0)),((((((((((Heap.at 39).set 0 (some (.els 1 [.d (zae a0)] 0))).set 1 (some (.els 1 [.d (.int .i64 a1)] 0))).set 2 (some (.els 1 [.d (.int .i64 a2)] 0))).set 9 (some (.els 1 [.d (.int .i64 a1),.d (.int .i64 a2)] 2))).set 15 (some (.els 1 [.d (zae a0)] 0))).set 29 (some (.els 1 [.d (.int .i64 (0))] 0))).set 33 (some (.els 1 [.d (zae a0)] 0))).set 34 (some (.els 1 [.d (.int .i64 x0)] 0))).set 38 (some (.loop ⟨(((Regs.none.set 0 (.ptr 0 0 0)).set 2 (.ptr 2 0 0)).set 3 (.ptr 29 0 0)),[8],zmG,zmH,.ready,none⟩)))⟩
def zkT (a0:Forest) (a1:Int) (a2:Int):((Int)⊕(Int×Int))→Ex×St:=fun r=>match r with
 |(.inl r)=>(.exit 0,⟨Regs.none,((((((((((Heap.at 39).set 0 (some (.els 1 [.d (zae a0)] 0))).set 1 (some (.els 1 [.d (.int .i64 a1)] 0))).set 2 (some (.els 1 [.d (.int .i64 a2)] 0))).set 9 (some (.els 1 [.d (.int .i64 a1),.d (.int .i64 a2)] 2))).set 15 (some (.els 1 [.d (zae a0)] 0))).set 29 (some (.els 1 [.d (.int .i64 (0))] 0))).set 33 (some (.els 1 [.d (zae a0)] 0))).set 34 (some (.els 1 [.d (.int .i64 r)] 0))).set 38 (some (.loop ⟨(((Regs.none.set 0 (.ptr 0 0 0)).set 2 (.ptr 2 0 0)).set 3 (.ptr 29 0 0)),[8],zmG,zmH,.ready,none⟩)))⟩)
 |(.inr r)=>(.ret,⟨Regs.none,((((((((((Heap.at 39).set 0 (some (.els 1 [.d (zae a0)] 0))).set 1 (some (.els 1 [.d (.int .i64 a1)] 0))).set 2 (some (.els 1 [.d (.int .i64 a2)] 0))).set 9 (some (.els 1 [.d (.int .i64 a1),.d (.int .i64 a2)] 2))).set 15 (some (.els 1 [.d (zae a0)] 0))).set 29 (some (.els 1 [.d (.int .i64 r.1)] 0))).set 33 (some (.els 1 [.d (zae a0)] 0))).set 34 (some (.els 1 [.d (.int .i64 r.2)] 0))).set 38 (some (.loop ⟨(((Regs.none.set 0 (.ptr 0 0 0)).set 2 (.ptr 2 0 0)).set 3 (.ptr 29 0 0)),[8],zmG,zmH,.done,(some .ret)⟩)))⟩)
noncomputable def zct (a0:Forest) (a1:Int) (a2:Int) (x0:Int):Option ((Int)⊕((Int)⊕(Int×Int))):=
 if(!(x0==0))=true then
  (dec D.bool (pc prog 86 [zae a0,.int .i64 x0,.int .i64 a2])).bind fun r7=>
  if r7=true then
   some (.inr (.inr (x0,x0)))
  else
   (dec zai (pc prog 91 [zae a0,.int .i64 x0])).bind fun r11=>
   some (.inl r11.parent)
 else
  some (.inr (.inl x0))
theorem zzS (a0:Forest) (a1:Int) (a2:Int) (x0:Int) (o:(Int)⊕((Int)⊕(Int×Int))) (h:zct a0 a1 a2 x0=some o):Wp prog zdt (zhf a0 a1 a2 x0) (zbJ (39,[]) (zhf a0 a1 a2) (zkT a0 a1 a2) o):=by
 unfold zct at h
 delta zdt zhf
 try simp only[go_sem]
 refine zaF (fun hc5=> ?_) (fun hc6=> ?_)
 ·rw[if_pos (show(!(x0==0))=true by(rw[hc5];rfl))]at h
  try simp only[go_sem]
  refine zeH (by simp only[go_sem];rfl) rfl ?_
  delta zmG
  try simp only[go_sem]
  delta zmH
  try simp only[go_sem]
  obtain⟨r7,hr8,h⟩:=bs h
  replace hr8:=zam hr8
  refine zaq hr8 ?_
  try simp only[go_sem]
  refine zaj (fun hc9=> ?_) (fun hc10=> ?_)
  ·rw[if_pos hc9]at h
   try simp only[go_sem]
   cases h
   exact⟨rfl,by simp,Up.of (N:=39) (N':=52) [] rfl rfl (by decide) zan.none (.set (zat.loop (.set (.ptr' rfl) (.set (.ptr' rfl) (.set (.ptr' rfl) zan.none))) rfl rfl) (.set zat.refl_d (.set zat.refl_d (.set zat.refl_d (.set zat.refl_d (.set (zat.els (Nat.le_refl _) (.cons (.d _) (.cons (.d _) .nil))) (.set zat.refl_d (.set zat.refl_d (.set zat.refl_d zao.at)))))))))⟩
  rw[if_neg (ff hc10)]at h
  try simp only[go_sem]
  obtain⟨r11,hr12,h⟩:=bs h
  replace hr12:=zam hr12
  refine zaq hr12 ?_
  try simp only[go_sem]
  cases h
  exact⟨rfl,Up.of (N:=39) (N':=55) [] rfl rfl (by decide) (.set (.ptr' rfl) (.set (.ptr' rfl) (.set (.yld' rfl) zan.none))) (.set (zat.loop (.set (.ptr' rfl) (.set (.ptr' rfl) (.set (.ptr' rfl) zan.none))) rfl rfl) (.set zat.refl_d (.set zat.refl_d (.set zat.refl_d (.set zat.refl_d (.set (zat.els (Nat.le_refl _) (.cons (.d _) (.cons (.d _) .nil))) (.set zat.refl_d (.set zat.refl_d (.set zat.refl_d zao.at)))))))))⟩
 rw[if_neg (ffn hc6)]at h
 try simp only[go_sem]
 cases h
 exact⟨rfl,by simp,Up.of (N:=39) (N':=41) [] rfl rfl (by decide) zan.none (.set (zat.loop (.set (.ptr' rfl) (.set (.ptr' rfl) (.set (.ptr' rfl) zan.none))) rfl rfl) (.set zat.refl_d (.set zat.refl_d (.set zat.refl_d (.set zat.refl_d (.set (zat.els (Nat.le_refl _) (.cons (.d _) (.cons (.d _) .nil))) (.set zat.refl_d (.set zat.refl_d (.set zat.refl_d zao.at)))))))))⟩
noncomputable def P36 (a0:Forest) (a1:Int) (a2:Int):Option (Int×Int):=
 (dec (D.int .i64) (pc prog 87 [zae a0,.list false (([a1,a2]).map (D.int .i64))])).bind fun r1=>
 if(!(r1==0))=true then
  some (0,r1)
 else
  (zaP (zct a0 a1 a2) a1).bind fun r13=>
  match r13 with
  |(.inl q15)=>
   some (0,0)
  |(.inr q16)=>
   some (q16.1,0)
theorem zMP (a0:Forest) (a1:Int) (a2:Int) (r:Int×Int) (h:P36 a0 a1 a2=some r):pc prog 36 [zae a0,.int .i64 a1,.int .i64 a2]=some ((eT2 (D.int .i64) (D.int .i64)) r):=by
 unfold P36 at h
 refine zaZ (fn:=c36) rfl rfl ?_
 delta c36
 try simp only[go_sem]
 refine zcB (fn:=zHO) rfl rfl ?_
 delta zHO
 try simp only[go_sem]
 obtain⟨r1,hr2,h⟩:=bs h
 replace hr2:=zam hr2
 refine zaq hr2 ?_
 try simp only[go_sem]
 refine zaF (fun hc3=> ?_) (fun hc4=> ?_)
 ·rw[if_pos (show(!(r1==0))=true by(rw[hc3];rfl))]at h
  try simp only[go_sem]
  cases h
  rfl
 rw[if_neg (ffn hc4)]at h
 try simp only[go_sem]
 refine ziZ (fn:=zHP) rfl rfl ?_
 delta zHP
 try simp only[go_sem]
 refine zcB (fn:=zxf) rfl rfl ?_
 delta zxf
 try simp only[go_sem]
 refine Wp.rfuncC (k:=173) (fn:=zxg) (first:=[]) (cap:=[.ptr 34 0 0,.ptr 33 0 0]) (by simp only[go_sem]) rfl rfl ?_
 delta zxg
 try simp only[go_sem]
 obtain⟨r13,hl14,h⟩:=bs h
 refine Wp.loopR zbi (n:=(39,[])) (a:=zdt) rfl (zhf a0 a1 a2) (zkT a0 a1 a2) (zzS a0 a1 a2) hl14 ?_ (by(repeat(refine Clo.block ?_));refine Clo.rf (n':=(29,[])) ?_ (by decide) (by decide) ?_;((repeat(first|refine zaS.set ?_ ?_|refine zaS.args ?_|exact zbe.nil|refine zbe.cons ?_ ?_|exact zaO.ptr (by decide)|refine zaO.clo ?_ ?_)));(repeat(first|refine Clo.block ?_|refine Clo.seq zbi rfl ?_));refine Clo.inl zbi (n':=(15,[])) rfl rfl rfl ?_ ?_ (show Fx.spans _ 25 4=true from by decide) (by decide) ?_;((repeat(first|exact zaS.no|refine zaS.set ?_ ?_|refine zaS.args ?_|exact zbe.nil|refine zbe.cons ?_ ?_|exact zaO.d|exact zaO.ptr (by decide)|exact zaO.sl (by decide)|refine zaO.clo ?_ ?_));(repeat(first|exact zaS.no|exact zaS.none|refine zaS.set ?_ ?_|refine zaS.args ?_|exact zbe.nil|refine zbe.cons ?_ ?_|exact zaO.d|exact zaO.undef|exact zaO.rp|exact zaO.ptr (by decide)|exact zaO.sl (by decide)|exact zaO.mb (by decide)|exact zaO.map (by decide)|exact zaO.yld (by decide)|exact zaO.it (by decide)|refine zaO.clo ?_ ?_|refine zaO.ofCells ?_|refine zaO.agg ?_|refine zaO.tuple ?_|refine zaO.bif ?_ ?_)));(repeat(refine Clo.seq zbi rfl ?_));refine Clo.inl zbi (n':=(0,[])) rfl rfl rfl ?_ ?_ (show Fx.spans _ 5 10=true from by decide) (by decide) ?_;((repeat(first|exact zaS.no|refine zaS.set ?_ ?_|refine zaS.args ?_|exact zbe.nil|refine zbe.cons ?_ ?_|exact zaO.d|exact zaO.ptr (by decide)|exact zaO.sl (by decide)|refine zaO.clo ?_ ?_));(repeat(first|exact zaS.no|exact zaS.none|refine zaS.set ?_ ?_|refine zaS.args ?_|exact zbe.nil|refine zbe.cons ?_ ?_|exact zaO.d|exact zaO.undef|exact zaO.rp|exact zaO.ptr (by decide)|exact zaO.sl (by decide)|exact zaO.mb (by decide)|exact zaO.map (by decide)|exact zaO.yld (by decide)|exact zaO.it (by decide)|refine zaO.clo ?_ ?_|refine zaO.ofCells ?_|refine zaO.agg ?_|refine zaO.tuple ?_|refine zaO.bif ?_ ?_)));(repeat(refine Clo.seq zbi rfl ?_));(exact Clo.ret)) ?_
 ·show Up (39,[]) (zhf a0 a1 a2 a1) _
  delta zhf
  exact Up.of (N:=39) (N':=39) [] rfl rfl (by decide) (.set (.ptr' rfl) (.set (.ptr' rfl) (.set (.yld' rfl) zan.none))) (.set (zat.loop (.set (.ptr' rfl) (.set (.ptr' rfl) (.set (.ptr' rfl) zan.none))) rfl rfl) (.set zat.refl_d (.set zat.refl_d (.set zat.refl_d (.set zat.refl_d (.set (zat.els (Nat.le_refl _) (.cons (.d _) (.cons (.d _) .nil))) (.set zat.refl_d (.set zat.refl_d (.set zat.refl_d zao.at)))))))))
 rcases r13 with(q15|q16)
 ·dsimp only at h
  dsimp only[zkT]
  try simp only[go_sem]
  cases h
  rfl
 dsimp only at h
 dsimp only[zkT]
 try simp only[go_sem]
 cases h
 rfl
def zhg (a0:Forest) (a1:Sl (Int)) (x0:Int):St:=⟨(((Regs.none.set 1 (.d (.list a1.n (a1.l.map (D.int .i64))))).set 2 (.ptr 0 0 0)).set 5 (.d (.int .i64 x0))),((Heap.at 6).set 0 (some (.els 1 [.d (zae a0)] 0)))⟩
def zkU (a0:Forest) (a1:Sl (Int)):((Unit)⊕(Unit))→Ex×St:=fun r=>match r with
 |(.inl r)=>(.exit 0,⟨Regs.none,(Heap.at 6)⟩)
 |(.inr r)=>(.ret,⟨(Regs.none.set 4 (.d (.int .i64 (2)))),(Heap.at 6)⟩)
noncomputable def zdN (a0:Forest) (a1:Sl (Int)) (x0:Int):Option ((Int)⊕((Unit)⊕(Unit))):=
 if(decide (x0<(a1.l.length:Int)))=true then
  (rd a1.l x0).bind fun y7=>
  if(!(decide (y7<1)))=true then
   if(decide ((a0.nodes.l.length:Int)<y7))=true then
    some (.inr (.inr ()))
   else
    some (.inl (IntKind.wrap .i64 (x0+1)))
  else
   some (.inr (.inr ()))
 else
  some (.inr (.inl ()))
theorem zzT (a0:Forest) (a1:Sl (Int)) (x0:Int) (o:(Int)⊕((Unit)⊕(Unit))) (h:zdN a0 a1 x0=some o):Wp prog zzO (zhg a0 a1 x0) (zbJ (0,[]) (zhg a0 a1) (zkU a0 a1) o):=by
 unfold zdN at h
 delta zzO zhg
 try simp only[go_sem]
 refine zaj (fun hc5=> ?_) (fun hc6=> ?_)
 ·rw[if_pos hc5]at h
  try simp only[go_sem]
  obtain⟨y7,hy8,h⟩:=bs h
  try simp only[go_sem,zab hy8,zaf hy8,zac (D.int .i64) hy8]
  refine zaa (v:= .d (.list a1.n (a1.l.map (D.int .i64)))) (fun hb14=>by simp only[go_sem,zab hy8,zaf hy8,zac (D.int .i64) hy8,hc5,hb14]) ?_
  try simp only[go_sem,zab hy8,zaf hy8,zac (D.int .i64) hy8]
  refine zaa (v:= .d (.int .i64 x0)) (fun hb13=>by simp only[go_sem,zab hy8,zaf hy8,zac (D.int .i64) hy8,hc5,hb13]) ?_
  try simp only[go_sem,zab hy8,zaf hy8,zac (D.int .i64) hy8]
  refine zaE (fun hc9=> ?_) (fun hc10=> ?_)
  ·rw[if_pos (show(!(decide (y7<1)))=true by(rw[hc9];rfl))]at h
   try simp only[go_sem,zab hy8,zaf hy8,zac (D.int .i64) hy8,hc9]
   refine zaj (fun hc11=> ?_) (fun hc12=> ?_)
   ·rw[if_pos hc11]at h
    try simp only[go_sem,zab hy8,zaf hy8,zac (D.int .i64) hy8]
    cases h
    exact⟨rfl,by simp,Up.of (N:=6) (N':=26) [] rfl rfl (by decide) (.set (.d _) zan.none) zao.at⟩
   rw[if_neg (ff hc12)]at h
   try simp only[go_sem,zab hy8,zaf hy8,zac (D.int .i64) hy8]
   cases h
   exact⟨rfl,Up.of (N:=6) (N':=28) [] rfl rfl (by decide) (.set (.d _) (.set (.ptr' rfl) (.set (.d _) zan.none))) (.set zat.refl_d zao.at)⟩
  rw[if_neg (ffn hc10)]at h
  try simp only[go_sem,zab hy8,zaf hy8,zac (D.int .i64) hy8,hc10]
  cases h
  exact⟨rfl,by simp,Up.of (N:=6) (N':=26) [] rfl rfl (by decide) (.set (.d _) zan.none) zao.at⟩
 rw[if_neg (ff hc6)]at h
 try simp only[go_sem]
 cases h
 exact⟨rfl,by simp,Up.of (N:=6) (N':=10) [] rfl rfl (by decide) zan.none zao.at⟩
noncomputable def P45 (a0:Forest) (a1:Sl (Int)):Option (Int):=
 (dec D.bool (pc prog 28 [zae a0])).bind fun r1=>
 if(!r1)=true then
  some (5)
 else
  (zaP (zdN a0 a1) 0).bind fun r15=>
  match r15 with
  |(.inl q17)=>
   some (0)
  |(.inr q18)=>
   some (2)
theorem zMQ (a0:Forest) (a1:Sl (Int)) (r:Int) (h:P45 a0 a1=some r):pc prog 45 [zae a0,.list a1.n (a1.l.map (D.int .i64))]=some ((D.int .i64) r):=by
 unfold P45 at h
 refine zaZ (fn:=c45) rfl rfl ?_
 delta c45
 try simp only[go_sem]
 obtain⟨r1,hr2,h⟩:=bs h
 replace hr2:=zam hr2
 refine zaq hr2 ?_
 try simp only[go_sem]
 refine zaF (fun hc3=> ?_) (fun hc4=> ?_)
 ·rw[if_pos (show(!r1)=true by(rw[hc3];rfl))]at h
  try simp only[go_sem]
  cases h
  rfl
 rw[if_neg (ffn hc4)]at h
 try simp only[go_sem]
 obtain⟨r15,hl16,h⟩:=bs h
 refine Wp.loopR zbi (n:=(0,[])) (a:=zzO) rfl (zhg a0 a1) (zkU a0 a1) (zzT a0 a1) hl16 ?_ (by(repeat(first|refine Clo.block ?_|refine Clo.seq zbi rfl ?_));(exact Clo.ret)) ?_
 ·show Up (0,[]) (zhg a0 a1 0) _
  delta zhg
  exact Up.of (N:=6) (N':=6) [] rfl rfl (by decide) (.set (.d _) (.set (.ptr' rfl) (.set (.d _) zan.none))) (.set zat.refl_d zao.at)
 rcases r15 with(q17|q18)
 ·dsimp only at h
  dsimp only[zkU]
  try simp only[go_sem]
  cases h
  rfl
 dsimp only at h
 dsimp only[zkU]
 try simp only[go_sem]
 cases h
 rfl
noncomputable def P54 (a0:Forest) (a1:Int) (a2:Int):Option (Int×Bool×Int):=
 (dec (D.int .i64) (pc prog 87 [zae a0,.list false (([a1,a2]).map (D.int .i64))])).bind fun r1=>
 if(!(r1==0))=true then
  some (0,false,r1)
 else
  (dec (D.int .i64) (pc prog 104 [zae a0,.int .i64 a1])).bind fun r5=>
  (dec (D.int .i64) (pc prog 104 [zae a0,.int .i64 a2])).bind fun r7=>
  if(!(r5==r7))=true then
   some (0,false,0)
  else
   (dec (eSl (D.int .i64)) (pc prog 123 [zae a0,.int .i64 a1])).bind fun r11=>
   (dec (eSl (D.int .i64)) (pc prog 123 [zae a0,.int .i64 a2])).bind fun r13=>
   (dec (D.int .i64) (pc prog 122 [.list r11.n (r11.l.map (D.int .i64)),.list r13.n (r13.l.map (D.int .i64))])).bind fun r15=>
   some (r15,true,0)
theorem zMR (a0:Forest) (a1:Int) (a2:Int) (r:Int×Bool×Int) (h:P54 a0 a1 a2=some r):pc prog 54 [zae a0,.int .i64 a1,.int .i64 a2]=some ((eT3 (D.int .i64) D.bool (D.int .i64)) r):=by
 unfold P54 at h
 refine zaZ (fn:=c54) rfl rfl ?_
 delta c54
 try simp only[go_sem]
 obtain⟨r1,hr2,h⟩:=bs h
 replace hr2:=zam hr2
 refine zaq hr2 ?_
 try simp only[go_sem]
 refine zaF (fun hc3=> ?_) (fun hc4=> ?_)
 ·rw[if_pos (show(!(r1==0))=true by(rw[hc3];rfl))]at h
  try simp only[go_sem]
  cases h
  rfl
 rw[if_neg (ffn hc4)]at h
 try simp only[go_sem]
 obtain⟨r5,hr6,h⟩:=bs h
 replace hr6:=zam hr6
 refine zaq hr6 ?_
 try simp only[go_sem]
 obtain⟨r7,hr8,h⟩:=bs h
 replace hr8:=zam hr8
 refine zaq hr8 ?_
 try simp only[go_sem]
 refine zaF (fun hc9=> ?_) (fun hc10=> ?_)
 ·rw[if_pos (show(!(r5==r7))=true by(rw[hc9];rfl))]at h
  try simp only[go_sem]
  cases h
  rfl
 rw[if_neg (ffn hc10)]at h
 try simp only[go_sem]
 obtain⟨r11,hr12,h⟩:=bs h
 replace hr12:=zam hr12
 refine zaq hr12 ?_
 try simp only[go_sem]
 obtain⟨r13,hr14,h⟩:=bs h
 replace hr14:=zam hr14
 refine zaq hr14 ?_
 try simp only[go_sem]
 obtain⟨r15,hr16,h⟩:=bs h
 replace hr16:=zam hr16
 refine zaq hr16 ?_
 try simp only[go_sem]
 cases h
 rfl
noncomputable def P55 (a0:Forest) (a1:Int) (a2:Int):Option (Int×Bool):=
 (dec (D.int .i64) (pc prog 125 [zae a0,.int .i64 a1])).bind fun r1=>
 (dec (eSl (D.int .i64)) (pc prog 124 [zae a0,.int .i64 r1])).bind fun r3=>
 (dec (D.int .i64) (pc prog 126 [.list r3.n (r3.l.map (D.int .i64)),.int .i64 a2])).bind fun r5=>
 if(decide (r5<0))=true then
  some (0,false)
 else
  (dec (D.int .i64) (pc prog 126 [.list r3.n (r3.l.map (D.int .i64)),.int .i64 a1])).bind fun r9=>
  if(decide (r9<r5))=true then
   some ((-1),true)
  else
   if(decide (r5<r9))=true then
    some (1,true)
   else
    some (0,true)
theorem zMS (a0:Forest) (a1:Int) (a2:Int) (r:Int×Bool) (h:P55 a0 a1 a2=some r):pc prog 55 [zae a0,.int .i64 a1,.int .i64 a2]=some ((eT2 (D.int .i64) D.bool) r):=by
 unfold P55 at h
 refine zaZ (fn:=c55) rfl rfl ?_
 delta c55
 try simp only[go_sem]
 obtain⟨r1,hr2,h⟩:=bs h
 replace hr2:=zam hr2
 refine zaq hr2 ?_
 try simp only[go_sem]
 obtain⟨r3,hr4,h⟩:=bs h
 replace hr4:=zam hr4
 refine zaq hr4 ?_
 try simp only[go_sem]
 obtain⟨r5,hr6,h⟩:=bs h
 replace hr6:=zam hr6
 refine zaq hr6 ?_
 try simp only[go_sem]
 refine zaj (fun hc7=> ?_) (fun hc8=> ?_)
 ·rw[if_pos hc7]at h
  try simp only[go_sem]
  cases h
  rfl
 rw[if_neg (ff hc8)]at h
 try simp only[go_sem]
 obtain⟨r9,hr10,h⟩:=bs h
 replace hr10:=zam hr10
 refine zaq hr10 ?_
 try simp only[go_sem]
 refine zaj (fun hc11=> ?_) (fun hc12=> ?_)
 ·rw[if_pos hc11]at h
  try simp only[go_sem]
  cases h
  rfl
 rw[if_neg (ff hc12)]at h
 try simp only[go_sem]
 refine zaj (fun hc13=> ?_) (fun hc14=> ?_)
 ·rw[if_pos hc13]at h
  try simp only[go_sem]
  cases h
  rfl
 rw[if_neg (ff hc14)]at h
 try simp only[go_sem]
 cases h
 rfl
noncomputable def P56 (a0:Forest) (a1:Int) (a2:Int):Option (Bool):=
 if(!(a1==a2))=true then
  (dec (eSl (D.int .i64)) (pc prog 127 [zae a0,.int .i64 a2])).bind fun r3=>
  (dec (D.int .i64) (pc prog 126 [.list r3.n (r3.l.map (D.int .i64)),.int .i64 a1])).bind fun r5=>
  some (decide (0≤r5))
 else
  some true
theorem zMT (a0:Forest) (a1:Int) (a2:Int) (r:Bool) (h:P56 a0 a1 a2=some r):pc prog 56 [zae a0,.int .i64 a1,.int .i64 a2]=some (D.bool r):=by
 unfold P56 at h
 refine zaZ (fn:=c56) rfl rfl ?_
 delta c56
 try simp only[go_sem]
 refine zaa (v:= .d (zae a0)) (fun hb8=>by simp only[go_sem,hb8]) ?_
 try simp only[go_sem]
 refine zaa (v:= .d (.int .i64 a2)) (fun hb7=>by simp only[go_sem,hb7]) ?_
 try simp only[go_sem]
 refine zaE (fun hc1=> ?_) (fun hc2=> ?_)
 ·rw[if_pos (show(!(a1==a2))=true by(rw[hc1];rfl))]at h
  try simp only[go_sem,hc1]
  obtain⟨r3,hr4,h⟩:=bs h
  replace hr4:=zam hr4
  refine zaq hr4 ?_
  try simp only[go_sem]
  obtain⟨r5,hr6,h⟩:=bs h
  replace hr6:=zam hr6
  refine zaq hr6 ?_
  try simp only[go_sem]
  cases h
  rfl
 rw[if_neg (ffn hc2)]at h
 try simp only[go_sem,hc2]
 cases h
 rfl
def zhh (a0:Forest) (a2:Int) (x0:Int):St:=⟨(((Regs.none.set 1 (.d (.int .i64 x0))).set 2 (.d (.int .i64 a2))).set 3 (.ptr 0 0 0)),((Heap.at 2).set 0 (some (.els 1 [.d (zae a0)] 0)))⟩
def zoV (a0:Forest) (a2:Int):((Int))→Ex×St:=fun r=>(.exit 0,⟨(Regs.none.set 1 (.d (.int .i64 r))),(Heap.at 2)⟩)
noncomputable def zcu (a0:Forest) (a2:Int) (x0:Int):Option ((Int)⊕((Int))):=
 if(!(x0==0))=true then
  (dec D.bool (pc prog 56 [zae a0,.int .i64 x0,.int .i64 a2])).bind fun r3=>
  if(!r3)=true then
   (dec zai (pc prog 128 [zae a0,.int .i64 x0])).bind fun r7=>
   some (.inl r7.parent)
  else
   some (.inr x0)
 else
  some (.inr x0)
theorem zzU (a0:Forest) (a2:Int) (x0:Int) (o:(Int)⊕((Int))) (h:zcu a0 a2 x0=some o):Wp prog zzP (zhh a0 a2 x0) (zbJ (0,[]) (zhh a0 a2) (zoV a0 a2) o):=by
 unfold zcu at h
 delta zzP zhh
 try simp only[go_sem]
 refine zaa (v:= .d (zae a0)) (fun hb11=>by simp only[go_sem,hb11]) ?_
 try simp only[go_sem]
 refine zaa (v:= .d (.int .i64 x0)) (fun hb10=>by simp only[go_sem,hb10]) ?_
 try simp only[go_sem]
 refine zaa (v:= .d (.int .i64 a2)) (fun hb9=>by simp only[go_sem,hb9]) ?_
 try simp only[go_sem]
 refine zaE (fun hc1=> ?_) (fun hc2=> ?_)
 ·rw[if_pos (show(!(x0==0))=true by(rw[hc1];rfl))]at h
  try simp only[go_sem,hc1]
  obtain⟨r3,hr4,h⟩:=bs h
  replace hr4:=zam hr4
  refine zaq hr4 ?_
  try simp only[go_sem]
  refine zaF (fun hc5=> ?_) (fun hc6=> ?_)
  ·rw[if_pos (show(!r3)=true by(rw[hc5];rfl))]at h
   try simp only[go_sem]
   obtain⟨r7,hr8,h⟩:=bs h
   replace hr8:=zam hr8
   refine zaq hr8 ?_
   try simp only[go_sem]
   cases h
   exact⟨rfl,Up.of (N:=2) (N':=16) [] rfl rfl (by decide) (.set (.ptr' rfl) (.set (.d _) (.set (.d _) zan.none))) (.set zat.refl_d zao.at)⟩
  rw[if_neg (ffn hc6)]at h
  try simp only[go_sem]
  cases h
  exact⟨rfl,by simp,Up.of (N:=2) (N':=11) [] rfl rfl (by decide) (.set (.d _) zan.none) zao.at⟩
 rw[if_neg (ffn hc2)]at h
 try simp only[go_sem,hc2]
 cases h
 exact⟨rfl,by simp,Up.of (N:=2) (N':=11) [] rfl rfl (by decide) (.set (.d _) zan.none) zao.at⟩
noncomputable def P57 (a0:Forest) (a1:Int) (a2:Int):Option (Int):=
 (zaP (zcu a0 a2) a1).bind fun r12=>
 some r12
theorem zMU (a0:Forest) (a1:Int) (a2:Int) (r:Int) (h:P57 a0 a1 a2=some r):pc prog 57 [zae a0,.int .i64 a1,.int .i64 a2]=some ((D.int .i64) r):=by
 unfold P57 at h
 refine zaZ (fn:=c57) rfl rfl ?_
 delta c57
 try simp only[go_sem]
 obtain⟨r12,hl13,h⟩:=bs h
 refine Wp.loopR zbi (n:=(0,[])) (a:=zzP) rfl (zhh a0 a2) (zoV a0 a2) (zzU a0 a2) hl13 ?_ (by(repeat(first|refine Clo.block ?_|refine Clo.seq zbi rfl ?_));(exact Clo.ret)) ?_
 ·show Up (0,[]) (zhh a0 a2 a1) _
  delta zhh
  exact Up.of (N:=2) (N':=2) [] rfl rfl (by decide) (.set (.ptr' rfl) (.set (.d _) (.set (.d _) zan.none))) (.set zat.refl_d zao.at)
 dsimp only[zoV]
 try simp only[go_sem]
 cases h
 rfl
noncomputable def P58 (a0:Forest) (a1:Int) (a2:Int):Option (Int):=
 if(a1==a2)=true then
  some (0)
 else
  (dec (eT2 (D.int .i64) D.bool) (pc prog 55 [zae a0,.int .i64 a1,.int .i64 a2])).bind fun r3=>
  if(bif (!r3.2)then(decide (a2<a1))else false)=true then
   some (35)
  else
   if(!r3.2)=true then
    some (37)
   else
    (dec D.bool (pc prog 56 [zae a0,.int .i64 a2,.int .i64 a1])).bind fun r9=>
    if r9=true then
     some (10)
    else
     (dec D.bool (pc prog 56 [zae a0,.int .i64 a1,.int .i64 a2])).bind fun r13=>
     if r13=true then
      some (20)
     else
      if(decide (0<r3.1))=true then
       some (2)
      else
       some (4)
theorem zMV (a0:Forest) (a1:Int) (a2:Int) (r:Int) (h:P58 a0 a1 a2=some r):pc prog 58 [zae a0,.int .i64 a1,.int .i64 a2]=some ((D.int .i64) r):=by
 unfold P58 at h
 refine zaZ (fn:=c58) rfl rfl ?_
 delta c58
 try simp only[go_sem]
 refine zaj (fun hc1=> ?_) (fun hc2=> ?_)
 ·rw[if_pos hc1]at h
  try simp only[go_sem]
  cases h
  rfl
 rw[if_neg (ff hc2)]at h
 try simp only[go_sem]
 obtain⟨r3,hr4,h⟩:=bs h
 replace hr4:=zam hr4
 refine zaq hr4 ?_
 try simp only[go_sem]
 refine zaa (v:= .d (.int .i64 a2)) (fun hb21=>by simp only[go_sem,hc2,hb21]) ?_
 try simp only[go_sem]
 refine zaa (v:= .d (.int .i64 a1)) (fun hb20=>by simp only[go_sem,hc2,hb20]) ?_
 try simp only[go_sem]
 refine zaa (v:= .d (.bool (decide (a2<a1)))) (fun hb19=>by simp only[go_sem,hc2,hb19]) ?_
 try simp only[go_sem]
 refine zaj (fun hc5=> ?_) (fun hc6=> ?_)
 ·rw[if_pos hc5]at h
  try simp only[go_sem]
  cases h
  rfl
 rw[if_neg (ff hc6)]at h
 try simp only[go_sem]
 refine zaF (fun hc7=> ?_) (fun hc8=> ?_)
 ·rw[if_pos (show(!r3.2)=true by(rw[hc7];rfl))]at h
  try simp only[go_sem]
  cases h
  rfl
 rw[if_neg (ffn hc8)]at h
 try simp only[go_sem]
 obtain⟨r9,hr10,h⟩:=bs h
 replace hr10:=zam hr10
 refine zaq hr10 ?_
 try simp only[go_sem]
 refine zaj (fun hc11=> ?_) (fun hc12=> ?_)
 ·rw[if_pos hc11]at h
  try simp only[go_sem]
  cases h
  rfl
 rw[if_neg (ff hc12)]at h
 try simp only[go_sem]
 obtain⟨r13,hr14,h⟩:=bs h
 replace hr14:=zam hr14
 refine zaq hr14 ?_
 try simp only[go_sem]
 refine zaj (fun hc15=> ?_) (fun hc16=> ?_)
 ·rw[if_pos hc15]at h
  try simp only[go_sem]
  cases h
  rfl
 rw[if_neg (ff hc16)]at h
 try simp only[go_sem]
 refine zaj (fun hc17=> ?_) (fun hc18=> ?_)
 ·rw[if_pos hc17]at h
  try simp only[go_sem]
  cases h
  rfl
 rw[if_neg (ff hc18)]at h
 try simp only[go_sem]
 cases h
 rfl
def zhi (a0:Forest) (a1:Int) (a2:Int) (x0:Int):St:=⟨(((Regs.none.set 0 (.yld 38)).set 1 (.ptr 34 0 0)).set 2 (.ptr 33 0 0)),((((((((((Heap.at 39).set 0 (some (.els 1 [.d (zae a0)] 0))).set 1 (some (.els 1 [.d (.int .i64 a1)] 0))).set 2 (some (.els 1 [.d (.int .i64 a2)] 0))).set 9 (some (.els 1 [.d (.int .i64 a1),.d (.int .i64 a2)] 2))).set 15 (some (.els 1 [.d (zae a0)] 0))).set 29 (some (.els 1 [.d (.bool false)] 0))).set 33 (some (.els 1 [.d (zae a0)] 0))).set 34 (some (.els 1 [.d (.int .i64 x0)] 0))).set 38 (some (.loop ⟨((Regs.none.set 2 (.ptr 1 0 0)).set 3 (.ptr 29 0 0)),[8],zmK,zmL,.ready,none⟩)))⟩
def zkV (a0:Forest) (a1:Int) (a2:Int):((Int)⊕(Int))→Ex×St:=fun r=>match r with
 |(.inl r)=>(.exit 0,⟨Regs.none,((((((((((Heap.at 39).set 0 (some (.els 1 [.d (zae a0)] 0))).set 1 (some (.els 1 [.d (.int .i64 a1)] 0))).set 2 (some (.els 1 [.d (.int .i64 a2)] 0))).set 9 (some (.els 1 [.d (.int .i64 a1),.d (.int .i64 a2)] 2))).set 15 (some (.els 1 [.d (zae a0)] 0))).set 29 (some (.els 1 [.d (.bool false)] 0))).set 33 (some (.els 1 [.d (zae a0)] 0))).set 34 (some (.els 1 [.d (.int .i64 r)] 0))).set 38 (some (.loop ⟨((Regs.none.set 2 (.ptr 1 0 0)).set 3 (.ptr 29 0 0)),[8],zmK,zmL,.ready,none⟩)))⟩)
 |(.inr r)=>(.ret,⟨Regs.none,((((((((((Heap.at 39).set 0 (some (.els 1 [.d (zae a0)] 0))).set 1 (some (.els 1 [.d (.int .i64 a1)] 0))).set 2 (some (.els 1 [.d (.int .i64 a2)] 0))).set 9 (some (.els 1 [.d (.int .i64 a1),.d (.int .i64 a2)] 2))).set 15 (some (.els 1 [.d (zae a0)] 0))).set 29 (some (.els 1 [.d (.bool true)] 0))).set 33 (some (.els 1 [.d (zae a0)] 0))).set 34 (some (.els 1 [.d (.int .i64 r)] 0))).set 38 (some (.loop ⟨((Regs.none.set 2 (.ptr 1 0 0)).set 3 (.ptr 29 0 0)),[8],zmK,zmL,.done,(some .ret)⟩)))⟩)
noncomputable def zhj (a0:Forest) (a1:Int) (a2:Int) (x0:Int):Option ((Int)⊕((Int)⊕(Int))):=
 if(!(x0==0))=true then
  if(x0==a1)=true then
   some (.inr (.inr x0))
  else
   (dec (D.int .i64) (pc prog 183 [zae a0,.int .i64 x0])).bind fun r9=>
   some (.inl r9)
 else
  some (.inr (.inl x0))
theorem zzV (a0:Forest) (a1:Int) (a2:Int) (x0:Int) (o:(Int)⊕((Int)⊕(Int))) (h:zhj a0 a1 a2 x0=some o):Wp prog zpR (zhi a0 a1 a2 x0) (zbJ (39,[]) (zhi a0 a1 a2) (zkV a0 a1 a2) o):=by
 unfold zhj at h
 delta zpR zhi
 try simp only[go_sem]
 refine zaF (fun hc5=> ?_) (fun hc6=> ?_)
 ·rw[if_pos (show(!(x0==0))=true by(rw[hc5];rfl))]at h
  try simp only[go_sem]
  refine zeH (by simp only[go_sem];rfl) rfl ?_
  delta zmK
  try simp only[go_sem]
  delta zmL
  try simp only[go_sem]
  refine zaj (fun hc7=> ?_) (fun hc8=> ?_)
  ·rw[if_pos hc7]at h
   try simp only[go_sem]
   cases h
   exact⟨rfl,by simp,Up.of (N:=39) (N':=50) [] rfl rfl (by decide) zan.none (.set (zat.loop (.set (.ptr' rfl) (.set (.ptr' rfl) zan.none)) rfl rfl) (.set zat.refl_d (.set zat.refl_d (.set zat.refl_d (.set zat.refl_d (.set (zat.els (Nat.le_refl _) (.cons (.d _) (.cons (.d _) .nil))) (.set zat.refl_d (.set zat.refl_d (.set zat.refl_d zao.at)))))))))⟩
  rw[if_neg (ff hc8)]at h
  try simp only[go_sem]
  obtain⟨r9,hr10,h⟩:=bs h
  replace hr10:=zam hr10
  refine zaq hr10 ?_
  try simp only[go_sem]
  cases h
  exact⟨rfl,Up.of (N:=39) (N':=53) [] rfl rfl (by decide) (.set (.ptr' rfl) (.set (.ptr' rfl) (.set (.yld' rfl) zan.none))) (.set (zat.loop (.set (.ptr' rfl) (.set (.ptr' rfl) zan.none)) rfl rfl) (.set zat.refl_d (.set zat.refl_d (.set zat.refl_d (.set zat.refl_d (.set (zat.els (Nat.le_refl _) (.cons (.d _) (.cons (.d _) .nil))) (.set zat.refl_d (.set zat.refl_d (.set zat.refl_d zao.at)))))))))⟩
 rw[if_neg (ffn hc6)]at h
 try simp only[go_sem]
 cases h
 exact⟨rfl,by simp,Up.of (N:=39) (N':=41) [] rfl rfl (by decide) zan.none (.set (zat.loop (.set (.ptr' rfl) (.set (.ptr' rfl) zan.none)) rfl rfl) (.set zat.refl_d (.set zat.refl_d (.set zat.refl_d (.set zat.refl_d (.set (zat.els (Nat.le_refl _) (.cons (.d _) (.cons (.d _) .nil))) (.set zat.refl_d (.set zat.refl_d (.set zat.refl_d zao.at)))))))))⟩
noncomputable def P61 (a0:Forest) (a1:Int) (a2:Int):Option (Bool×Int):=
 (dec (D.int .i64) (pc prog 87 [zae a0,.list false (([a1,a2]).map (D.int .i64))])).bind fun r1=>
 if(!(r1==0))=true then
  some (false,r1)
 else
  (zaP (zhj a0 a1 a2) a2).bind fun r11=>
  match r11 with
  |(.inl q13)=>
   some (false,0)
  |(.inr q14)=>
   some (true,0)
theorem zMW (a0:Forest) (a1:Int) (a2:Int) (r:Bool×Int) (h:P61 a0 a1 a2=some r):pc prog 61 [zae a0,.int .i64 a1,.int .i64 a2]=some ((eT2 D.bool (D.int .i64)) r):=by
 unfold P61 at h
 refine zaZ (fn:=c61) rfl rfl ?_
 delta c61
 try simp only[go_sem]
 refine zcB (fn:=c98) rfl rfl ?_
 delta c98
 try simp only[go_sem]
 obtain⟨r1,hr2,h⟩:=bs h
 replace hr2:=zam hr2
 refine zaq hr2 ?_
 try simp only[go_sem]
 refine zaF (fun hc3=> ?_) (fun hc4=> ?_)
 ·rw[if_pos (show(!(r1==0))=true by(rw[hc3];rfl))]at h
  try simp only[go_sem]
  cases h
  rfl
 rw[if_neg (ffn hc4)]at h
 try simp only[go_sem]
 refine ziZ (fn:=zHZ) rfl rfl ?_
 delta zHZ
 try simp only[go_sem]
 refine zcB (fn:=zIa) rfl rfl ?_
 delta zIa
 try simp only[go_sem]
 refine Wp.rfuncC (k:=182) (fn:=zIh) (first:=[]) (cap:=[.ptr 34 0 0,.ptr 33 0 0]) (by simp only[go_sem]) rfl rfl ?_
 delta zIh
 try simp only[go_sem]
 obtain⟨r11,hl12,h⟩:=bs h
 refine Wp.loopR zbi (n:=(39,[])) (a:=zpR) rfl (zhi a0 a1 a2) (zkV a0 a1 a2) (zzV a0 a1 a2) hl12 ?_ (by(repeat(refine Clo.block ?_));refine Clo.rf (n':=(29,[])) ?_ (by decide) (by decide) ?_;((repeat(first|refine zaS.set ?_ ?_|refine zaS.args ?_|exact zbe.nil|refine zbe.cons ?_ ?_|exact zaO.ptr (by decide)|refine zaO.clo ?_ ?_)));(repeat(first|refine Clo.block ?_|refine Clo.seq zbi rfl ?_));refine Clo.inl zbi (n':=(15,[])) rfl rfl rfl ?_ ?_ (show Fx.spans _ 25 4=true from by decide) (by decide) ?_;((repeat(first|exact zaS.no|refine zaS.set ?_ ?_|refine zaS.args ?_|exact zbe.nil|refine zbe.cons ?_ ?_|exact zaO.d|exact zaO.ptr (by decide)|exact zaO.sl (by decide)|refine zaO.clo ?_ ?_));(repeat(first|exact zaS.no|exact zaS.none|refine zaS.set ?_ ?_|refine zaS.args ?_|exact zbe.nil|refine zbe.cons ?_ ?_|exact zaO.d|exact zaO.undef|exact zaO.rp|exact zaO.ptr (by decide)|exact zaO.sl (by decide)|exact zaO.mb (by decide)|exact zaO.map (by decide)|exact zaO.yld (by decide)|exact zaO.it (by decide)|refine zaO.clo ?_ ?_|refine zaO.ofCells ?_|refine zaO.agg ?_|refine zaO.tuple ?_|refine zaO.bif ?_ ?_)));(repeat(refine Clo.seq zbi rfl ?_));refine Clo.inl zbi (n':=(0,[])) rfl rfl rfl ?_ ?_ (show Fx.spans _ 5 10=true from by decide) (by decide) ?_;((repeat(first|exact zaS.no|refine zaS.set ?_ ?_|refine zaS.args ?_|exact zbe.nil|refine zbe.cons ?_ ?_|exact zaO.d|exact zaO.ptr (by decide)|exact zaO.sl (by decide)|refine zaO.clo ?_ ?_));(repeat(first|exact zaS.no|exact zaS.none|refine zaS.set ?_ ?_|refine zaS.args ?_|exact zbe.nil|refine zbe.cons ?_ ?_|exact zaO.d|exact zaO.undef|exact zaO.rp|exact zaO.ptr (by decide)|exact zaO.sl (by decide)|exact zaO.mb (by decide)|exact zaO.map (by decide)|exact zaO.yld (by decide)|exact zaO.it (by decide)|refine zaO.clo ?_ ?_|refine zaO.ofCells ?_|refine zaO.agg ?_|refine zaO.tuple ?_|refine zaO.bif ?_ ?_)));(repeat(refine Clo.seq zbi rfl ?_));(exact Clo.ret)) ?_
 ·show Up (39,[]) (zhi a0 a1 a2 a2) _
  delta zhi
  exact Up.of (N:=39) (N':=39) [] rfl rfl (by decide) (.set (.ptr' rfl) (.set (.ptr' rfl) (.set (.yld' rfl) zan.none))) (.set (zat.loop (.set (.ptr' rfl) (.set (.ptr' rfl) zan.none)) rfl rfl) (.set zat.refl_d (.set zat.refl_d (.set zat.refl_d (.set zat.refl_d (.set (zat.els (Nat.le_refl _) (.cons (.d _) (.cons (.d _) .nil))) (.set zat.refl_d (.set zat.refl_d (.set zat.refl_d zao.at)))))))))
 rcases r11 with(q13|q14)
 ·dsimp only at h
  dsimp only[zkV]
  try simp only[go_sem]
  cases h
  rfl
 dsimp only at h
 dsimp only[zkV]
 try simp only[go_sem]
 cases h
 rfl
noncomputable def zEI (a0:Forest) (r1:Node) (x0:List (Int)×Int):Option ((List (Int)×Int)⊕((List (Int)))):=
 if(decide (x0.2<(r1.kids.l.length:Int)))=true then
  (rd r1.kids.l x0.2).bind fun y14=>
  (dec (eSl (D.int .i64)) (pc prog 67 [zae a0,.int .i64 y14])).bind fun r16=>
  if r16.l=[]then
   some (.inl (x0.1,(IntKind.wrap .i64 (x0.2+1))))
  else
   if(x0.1.length+r16.l.length)*8≤AI.roomBytes then
    some (.inl ((x0.1++r16.l),(IntKind.wrap .i64 (x0.2+1))))
   else none
 else
  some (.inr x0.1)
noncomputable def P73 (a0:Int):Option (Bool):=
 some (bif (bif (bif (a0==1)then true else(a0==9))then true else(a0==11))then true else(a0==12))
theorem zMX (a0:Int) (r:Bool) (h:P73 a0=some r):pc prog 73 [.int .u8 a0]=some (D.bool r):=by
 unfold P73 at h
 refine zaZ (fn:=c73) rfl rfl ?_
 delta c73
 try simp only[go_sem]
 refine zaa (v:= .d (.int .u8 a0)) (fun hb6=>by simp only[go_sem,hb6]) ?_
 try simp only[go_sem]
 refine zaa (v:= .d (.bool (a0==9))) (fun hb5=>by simp only[go_sem,hb5]) ?_
 try simp only[go_sem]
 refine zaa (v:= .d (.int .u8 a0)) (fun hb4=>by simp only[go_sem,hb4]) ?_
 try simp only[go_sem]
 refine zaa (v:= .d (.bool (a0==11))) (fun hb3=>by simp only[go_sem,hb3]) ?_
 try simp only[go_sem]
 refine zaa (v:= .d (.int .u8 a0)) (fun hb2=>by simp only[go_sem,hb2]) ?_
 try simp only[go_sem]
 refine zaa (v:= .d (.bool (a0==12))) (fun hb1=>by simp only[go_sem,hb1]) ?_
 try simp only[go_sem]
 cases h
 rfl
def zhk (a0:Forest) (a1:Int) (x0:Int):St:=⟨(((Regs.none.set 0 (.yld 11)).set 1 (.ptr 7 0 0)).set 2 (.ptr 6 0 0)),(((((((Heap.at 12).set 0 (some (.els 1 [.d (zae a0)] 0))).set 1 (some (.els 1 [.d (.int .i64 a1)] 0))).set 2 (some (.els 1 [.d (.bool false)] 0))).set 6 (some (.els 1 [.d (zae a0)] 0))).set 7 (some (.els 1 [.d (.int .i64 x0)] 0))).set 11 (some (.loop ⟨((Regs.none.set 4 (.ptr 1 0 0)).set 6 (.ptr 2 0 0)),[11],zvL,zvM,.ready,none⟩)))⟩
def zkW (a0:Forest) (a1:Int):((Int)⊕(Int))→Ex×St:=fun r=>match r with
 |(.inl r)=>(.exit 0,⟨Regs.none,(((((((Heap.at 12).set 0 (some (.els 1 [.d (zae a0)] 0))).set 1 (some (.els 1 [.d (.int .i64 a1)] 0))).set 2 (some (.els 1 [.d (.bool false)] 0))).set 6 (some (.els 1 [.d (zae a0)] 0))).set 7 (some (.els 1 [.d (.int .i64 r)] 0))).set 11 (some (.loop ⟨((Regs.none.set 4 (.ptr 1 0 0)).set 6 (.ptr 2 0 0)),[11],zvL,zvM,.ready,none⟩)))⟩)
 |(.inr r)=>(.ret,⟨Regs.none,(((((((Heap.at 12).set 0 (some (.els 1 [.d (zae a0)] 0))).set 1 (some (.els 1 [.d (.int .i64 a1)] 0))).set 2 (some (.els 1 [.d (.bool true)] 0))).set 6 (some (.els 1 [.d (zae a0)] 0))).set 7 (some (.els 1 [.d (.int .i64 r)] 0))).set 11 (some (.loop ⟨((Regs.none.set 4 (.ptr 1 0 0)).set 6 (.ptr 2 0 0)),[11],zvL,zvM,.done,(some .ret)⟩)))⟩)
noncomputable def zcd (a0:Forest) (a1:Int) (x0:Int):Option ((Int)⊕((Int)⊕(Int))):=
 if(!(x0==0))=true then
  if(x0==a1)=true then
   some (.inr (.inr x0))
  else
   (dec zai (pc prog 91 [zae a0,.int .i64 x0])).bind fun r5=>
   some (.inl r5.parent)
 else
  some (.inr (.inl x0))
theorem zzW (a0:Forest) (a1:Int) (x0:Int) (o:(Int)⊕((Int)⊕(Int))) (h:zcd a0 a1 x0=some o):Wp prog zdt (zhk a0 a1 x0) (zbJ (12,[]) (zhk a0 a1) (zkW a0 a1) o):=by
 unfold zcd at h
 delta zdt zhk
 try simp only[go_sem]
 refine zaF (fun hc1=> ?_) (fun hc2=> ?_)
 ·rw[if_pos (show(!(x0==0))=true by(rw[hc1];rfl))]at h
  try simp only[go_sem]
  refine zeH (by simp only[go_sem];rfl) rfl ?_
  delta zvL
  try simp only[go_sem]
  delta zvM
  try simp only[go_sem]
  refine zaj (fun hc3=> ?_) (fun hc4=> ?_)
  ·rw[if_pos hc3]at h
   try simp only[go_sem]
   cases h
   exact⟨rfl,by simp,Up.of (N:=12) (N':=23) [] rfl rfl (by decide) zan.none (.set (zat.loop (.set (.ptr' rfl) (.set (.ptr' rfl) zan.none)) rfl rfl) (.set zat.refl_d (.set zat.refl_d (.set zat.refl_d (.set zat.refl_d (.set zat.refl_d zao.at))))))⟩
  rw[if_neg (ff hc4)]at h
  try simp only[go_sem]
  obtain⟨r5,hr6,h⟩:=bs h
  replace hr6:=zam hr6
  refine zaq hr6 ?_
  try simp only[go_sem]
  cases h
  exact⟨rfl,Up.of (N:=12) (N':=27) [] rfl rfl (by decide) (.set (.ptr' rfl) (.set (.ptr' rfl) (.set (.yld' rfl) zan.none))) (.set (zat.loop (.set (.ptr' rfl) (.set (.ptr' rfl) zan.none)) rfl rfl) (.set zat.refl_d (.set zat.refl_d (.set zat.refl_d (.set zat.refl_d (.set zat.refl_d zao.at))))))⟩
 rw[if_neg (ffn hc2)]at h
 try simp only[go_sem]
 cases h
 exact⟨rfl,by simp,Up.of (N:=12) (N':=14) [] rfl rfl (by decide) zan.none (.set (zat.loop (.set (.ptr' rfl) (.set (.ptr' rfl) zan.none)) rfl rfl) (.set zat.refl_d (.set zat.refl_d (.set zat.refl_d (.set zat.refl_d (.set zat.refl_d zao.at))))))⟩
noncomputable def P86 (a0:Forest) (a1:Int) (a2:Int):Option (Bool):=
 (zaP (zcd a0 a1) a2).bind fun r7=>
 match r7 with
 |(.inl q9)=>
  some false
 |(.inr q10)=>
  some true
theorem zMY (a0:Forest) (a1:Int) (a2:Int) (r:Bool) (h:P86 a0 a1 a2=some r):pc prog 86 [zae a0,.int .i64 a1,.int .i64 a2]=some (D.bool r):=by
 unfold P86 at h
 refine zaZ (fn:=c86) rfl rfl ?_
 delta c86
 try simp only[go_sem]
 refine zcB (fn:=zxf) rfl rfl ?_
 delta zxf
 try simp only[go_sem]
 refine Wp.rfuncC (k:=173) (fn:=zxg) (first:=[]) (cap:=[.ptr 7 0 0,.ptr 6 0 0]) (by simp only[go_sem]) rfl rfl ?_
 delta zxg
 try simp only[go_sem]
 obtain⟨r7,hl8,h⟩:=bs h
 refine Wp.loopR zbi (n:=(12,[])) (a:=zdt) rfl (zhk a0 a1) (zkW a0 a1) (zzW a0 a1) hl8 ?_ (by(repeat(refine Clo.block ?_));refine Clo.rf (n':=(0,[])) ?_ (by decide) (by decide) ?_;((repeat(first|refine zaS.set ?_ ?_|refine zaS.args ?_|exact zbe.nil|refine zbe.cons ?_ ?_|exact zaO.d|exact zaO.ptr (by decide)|refine zaO.clo ?_ ?_)));(repeat(first|refine Clo.block ?_|refine Clo.seq zbi rfl ?_));(exact Clo.ret)) ?_
 ·show Up (12,[]) (zhk a0 a1 a2) _
  delta zhk
  exact Up.of (N:=12) (N':=12) [] rfl rfl (by decide) (.set (.ptr' rfl) (.set (.ptr' rfl) (.set (.yld' rfl) zan.none))) (.set (zat.loop (.set (.ptr' rfl) (.set (.ptr' rfl) zan.none)) rfl rfl) (.set zat.refl_d (.set zat.refl_d (.set zat.refl_d (.set zat.refl_d (.set zat.refl_d zao.at))))))
 rcases r7 with(q9|q10)
 ·dsimp only at h
  dsimp only[zkW]
  try simp only[go_sem]
  cases h
  rfl
 dsimp only at h
 dsimp only[zkW]
 try simp only[go_sem]
 cases h
 rfl
def zhl (a0:Forest) (a1:Sl (Int)) (x0:Int):St:=⟨((((Regs.none.set 2 (.ptr 0 0 0)).set 17 (.d (.list a1.n (a1.l.map (D.int .i64))))).set 18 (.d (.int .i64 (a1.l.length:Int)))).set 19 (.d (.int .i64 x0))),((Heap.at 14).set 0 (some (.els 1 [.d (zae a0)] 0)))⟩
def zkX (a0:Forest) (a1:Sl (Int)):((Unit)⊕(Unit))→Ex×St:=fun r=>match r with
 |(.inl r)=>(.exit 0,⟨Regs.none,(Heap.at 14)⟩)
 |(.inr r)=>(.ret,⟨(Regs.none.set 4 (.d (.int .i64 (2)))),(Heap.at 14)⟩)
noncomputable def zdO (a0:Forest) (a1:Sl (Int)) (x0:Int):Option ((Int)⊕((Unit)⊕(Unit))):=
 if(decide (x0<(a1.l.length:Int)))=true then
  (rd a1.l x0).bind fun y7=>
  if(bif (decide (y7<1))then true else(decide ((a0.nodes.l.length:Int)<y7)))=true then
   some (.inr (.inr ()))
  else
   some (.inl (IntKind.wrap .i64 (x0+1)))
 else
  some (.inr (.inl ()))
theorem zzX (a0:Forest) (a1:Sl (Int)) (x0:Int) (o:(Int)⊕((Unit)⊕(Unit))) (h:zdO a0 a1 x0=some o):Wp prog zzQ (zhl a0 a1 x0) (zbJ (0,[]) (zhl a0 a1) (zkX a0 a1) o):=by
 unfold zdO at h
 delta zzQ zhl
 try simp only[go_sem]
 refine zaj (fun hc5=> ?_) (fun hc6=> ?_)
 ·rw[if_pos hc5]at h
  try simp only[go_sem]
  obtain⟨y7,hy8,h⟩:=bs h
  try simp only[go_sem,zab hy8,zaf hy8,zac (D.int .i64) hy8]
  refine zaa (v:= .d (.int .i64 y7)) (fun hb15=>by simp only[go_sem,zab hy8,zaf hy8,zac (D.int .i64) hy8,hc5,hb15]) ?_
  try simp only[go_sem,zab hy8,zaf hy8,zac (D.int .i64) hy8]
  refine zaa (v:= .ptr 0 0 0) (fun hb14=>by simp only[go_sem,zab hy8,zaf hy8,zac (D.int .i64) hy8,hc5,hb14]) ?_
  try simp only[go_sem,zab hy8,zaf hy8,zac (D.int .i64) hy8]
  refine zaa (v:= .d (.list a0.nodes.n (a0.nodes.l.map zai))) (fun hb13=>by simp only[go_sem,zab hy8,zaf hy8,zac (D.int .i64) hy8,hc5,hb13]) ?_
  try simp only[go_sem,zab hy8,zaf hy8,zac (D.int .i64) hy8]
  refine zaa (v:= .d (.int .i64 (a0.nodes.l.length:Int))) (fun hb12=>by simp only[go_sem,zab hy8,zaf hy8,zac (D.int .i64) hy8,hc5,hb12]) ?_
  try simp only[go_sem,zab hy8,zaf hy8,zac (D.int .i64) hy8]
  refine zaa (v:= .d (.bool (decide ((a0.nodes.l.length:Int)<y7)))) (fun hb11=>by simp only[go_sem,zab hy8,zaf hy8,zac (D.int .i64) hy8,hc5,hb11]) ?_
  try simp only[go_sem,zab hy8,zaf hy8,zac (D.int .i64) hy8]
  refine zaj (fun hc9=> ?_) (fun hc10=> ?_)
  ·rw[if_pos hc9]at h
   try simp only[go_sem,zab hy8,zaf hy8,zac (D.int .i64) hy8]
   cases h
   exact⟨rfl,by simp,Up.of (N:=14) (N':=28) [] rfl rfl (by decide) (.set (.d _) zan.none) zao.at⟩
  rw[if_neg (ff hc10)]at h
  try simp only[go_sem,zab hy8,zaf hy8,zac (D.int .i64) hy8]
  cases h
  exact⟨rfl,Up.of (N:=14) (N':=29) [] rfl rfl (by decide) (.set (.d _) (.set (.d _) (.set (.d _) (.set (.ptr' rfl) zan.none)))) (.set zat.refl_d zao.at)⟩
 rw[if_neg (ff hc6)]at h
 try simp only[go_sem]
 cases h
 exact⟨rfl,by simp,Up.of (N:=14) (N':=15) [] rfl rfl (by decide) zan.none zao.at⟩
noncomputable def P87 (a0:Forest) (a1:Sl (Int)):Option (Int):=
 (dec (eT2 (D.int .i64) (D.int .i64)) (pc prog 157 [zae a0])).bind fun r1=>
 if(!(r1.1==0))=true then
  some r1.1
 else
  (zaP (zdO a0 a1) 0).bind fun r16=>
  match r16 with
  |(.inl q18)=>
   some (0)
  |(.inr q19)=>
   some (2)
theorem zMZ (a0:Forest) (a1:Sl (Int)) (r:Int) (h:P87 a0 a1=some r):pc prog 87 [zae a0,.list a1.n (a1.l.map (D.int .i64))]=some ((D.int .i64) r):=by
 unfold P87 at h
 refine zaZ (fn:=c87) rfl rfl ?_
 delta c87
 try simp only[go_sem]
 obtain⟨r1,hr2,h⟩:=bs h
 replace hr2:=zam hr2
 refine zaq hr2 ?_
 try simp only[go_sem]
 refine zaF (fun hc3=> ?_) (fun hc4=> ?_)
 ·rw[if_pos (show(!(r1.1==0))=true by(rw[hc3];rfl))]at h
  try simp only[go_sem]
  cases h
  rfl
 rw[if_neg (ffn hc4)]at h
 try simp only[go_sem]
 obtain⟨r16,hl17,h⟩:=bs h
 refine Wp.loopR zbi (n:=(0,[])) (a:=zzQ) rfl (zhl a0 a1) (zkX a0 a1) (zzX a0 a1) hl17 ?_ (by(repeat(first|refine Clo.block ?_|refine Clo.seq zbi rfl ?_));(exact Clo.ret)) ?_
 ·show Up (0,[]) (zhl a0 a1 0) _
  delta zhl
  exact Up.of (N:=14) (N':=14) [] rfl rfl (by decide) (.set (.d _) (.set (.d _) (.set (.d _) (.set (.ptr' rfl) zan.none)))) (.set zat.refl_d zao.at)
 rcases r16 with(q18|q19)
 ·dsimp only at h
  dsimp only[zkX]
  try simp only[go_sem]
  cases h
  rfl
 dsimp only at h
 dsimp only[zkX]
 try simp only[go_sem]
 cases h
 rfl
noncomputable def P91 (a0:Forest) (a1:Int):Option (Node):=
 if(bif (decide (a1<1))then true else(decide ((a0.nodes.l.length:Int)<a1)))=true then
  some (⟨0,⟨[],[],[]⟩,[],[],⟨true,[]⟩,⟨true,[]⟩,0,⟨true,[]⟩,0,0,0,0,false,false⟩:Node)
 else
  (rd a0.nodes.l (IntKind.wrap .i64 (a1-1))).bind fun y3=>
  some y3
theorem zNa (a0:Forest) (a1:Int) (r:Node) (h:P91 a0 a1=some r):pc prog 91 [zae a0,.int .i64 a1]=some (zai r):=by
 unfold P91 at h
 refine zaZ (fn:=c91) rfl rfl ?_
 delta c91
 try simp only[go_sem]
 refine zaa (v:= .d (.int .i64 a1)) (fun hb9=>by simp only[go_sem,hb9]) ?_
 try simp only[go_sem]
 refine zaa (v:= .ptr 0 0 0) (fun hb8=>by simp only[go_sem,hb8]) ?_
 try simp only[go_sem]
 refine zaa (v:= .d (.list a0.nodes.n (a0.nodes.l.map zai))) (fun hb7=>by simp only[go_sem,hb7]) ?_
 try simp only[go_sem]
 refine zaa (v:= .d (.int .i64 (a0.nodes.l.length:Int))) (fun hb6=>by simp only[go_sem,hb6]) ?_
 try simp only[go_sem]
 refine zaa (v:= .d (.bool (decide ((a0.nodes.l.length:Int)<a1)))) (fun hb5=>by simp only[go_sem,hb5]) ?_
 try simp only[go_sem]
 refine zaj (fun hc1=> ?_) (fun hc2=> ?_)
 ·rw[if_pos hc1]at h
  try simp only[go_sem]
  cases h
  rfl
 rw[if_neg (ff hc2)]at h
 try simp only[go_sem]
 obtain⟨y3,hy4,h⟩:=bs h
 try simp only[go_sem,zab hy4,zaf hy4,zac zai hy4]
 cases h
 rfl
def zhm (a0:Forest) (x0:Int):St:=⟨((((Regs.none.set 1 (.ptr 0 0 0)).set 11 (.d (.list a0.nodes.n (a0.nodes.l.map zai)))).set 12 (.d (.int .i64 (a0.nodes.l.length:Int)))).set 13 (.d (.int .i64 x0))),((Heap.at 11).set 0 (some (.els 1 [.d (zae a0)] 0)))⟩
def zkY (a0:Forest):((Unit)⊕(Int))→Ex×St:=fun r=>match r with
 |(.inl r)=>(.exit 0,⟨Regs.none,(Heap.at 11)⟩)
 |(.inr r)=>(.ret,⟨((Regs.none.set 2 (.d (.int .i64 (5)))).set 3 (.d (.int .i64 r))),(Heap.at 11)⟩)
noncomputable def zdP (a0:Forest) (x0:Int):Option ((Int)⊕((Unit)⊕(Int))):=
 if(decide (x0<(a0.nodes.l.length:Int)))=true then
  (rd a0.nodes.l x0).bind fun y5=>
  (dec D.bool (pc prog 162 [zai y5])).bind fun r7=>
  if r7=true then
   (dec D.bool (pc prog 163 [zae a0,.int .i64 (IntKind.wrap .i64 (x0+1))])).bind fun r11=>
   if r11=true then
    (dec D.bool (pc prog 164 [zae a0,.int .i64 (IntKind.wrap .i64 (x0+1))])).bind fun r15=>
    if r15=true then
     some (.inr (.inr (IntKind.wrap .i64 (x0+1))))
    else
     some (.inl (IntKind.wrap .i64 (x0+1)))
   else
    some (.inr (.inr (IntKind.wrap .i64 (x0+1))))
  else
   some (.inr (.inr (IntKind.wrap .i64 (x0+1))))
 else
  some (.inr (.inl ()))
theorem zzY (a0:Forest) (x0:Int) (o:(Int)⊕((Unit)⊕(Int))) (h:zdP a0 x0=some o):Wp prog zzR (zhm a0 x0) (zbJ (0,[]) (zhm a0) (zkY a0) o):=by
 unfold zdP at h
 delta zzR zhm
 try simp only[go_sem]
 refine zaj (fun hc3=> ?_) (fun hc4=> ?_)
 ·rw[if_pos hc3]at h
  try simp only[go_sem]
  obtain⟨y5,hy6,h⟩:=bs h
  try simp only[go_sem,zab hy6,zaf hy6,zac zai hy6]
  obtain⟨r7,hr8,h⟩:=bs h
  replace hr8:=zam hr8
  refine zaq hr8 ?_
  try simp only[go_sem,zab hy6,zaf hy6,zac zai hy6]
  refine zaa (v:= .d (zae a0)) (fun hb24=>by simp only[go_sem,zab hy6,zaf hy6,zac zai hy6,hc3,hb24]) ?_
  try simp only[go_sem,zab hy6,zaf hy6,zac zai hy6]
  refine zaa (v:= .d (.int .i64 x0)) (fun hb23=>by simp only[go_sem,zab hy6,zaf hy6,zac zai hy6,hc3,hb23]) ?_
  try simp only[go_sem,zab hy6,zaf hy6,zac zai hy6]
  refine zaa (v:= .d (.int .i64 (IntKind.wrap .i64 (x0+1)))) (fun hb22=>by simp only[go_sem,zab hy6,zaf hy6,zac zai hy6,hc3,hb22]) ?_
  try simp only[go_sem,zab hy6,zaf hy6,zac zai hy6]
  refine zaG (fun hc9=> ?_) (fun hc10=> ?_)
  ·rw[if_pos hc9]at h
   try simp only[go_sem,zab hy6,zaf hy6,zac zai hy6,hc9]
   obtain⟨r11,hr12,h⟩:=bs h
   replace hr12:=zam hr12
   refine zaq hr12 ?_
   try simp only[go_sem,zab hy6,zaf hy6,zac zai hy6]
   refine zaa (v:= .d (zae a0)) (fun hb21=>by simp only[go_sem,zab hy6,zaf hy6,zac zai hy6,hc3,hc9,hb21]) ?_
   try simp only[go_sem,zab hy6,zaf hy6,zac zai hy6]
   refine zaa (v:= .d (.int .i64 x0)) (fun hb20=>by simp only[go_sem,zab hy6,zaf hy6,zac zai hy6,hc3,hc9,hb20]) ?_
   try simp only[go_sem,zab hy6,zaf hy6,zac zai hy6]
   refine zaa (v:= .d (.int .i64 (IntKind.wrap .i64 (x0+1)))) (fun hb19=>by simp only[go_sem,zab hy6,zaf hy6,zac zai hy6,hc3,hc9,hb19]) ?_
   try simp only[go_sem,zab hy6,zaf hy6,zac zai hy6]
   refine zaG (fun hc13=> ?_) (fun hc14=> ?_)
   ·rw[if_pos hc13]at h
    try simp only[go_sem,zab hy6,zaf hy6,zac zai hy6,hc13]
    obtain⟨r15,hr16,h⟩:=bs h
    replace hr16:=zam hr16
    refine zaq hr16 ?_
    try simp only[go_sem,zab hy6,zaf hy6,zac zai hy6]
    refine zaj (fun hc17=> ?_) (fun hc18=> ?_)
    ·rw[if_pos hc17]at h
     try simp only[go_sem,zab hy6,zaf hy6,zac zai hy6]
     cases h
     exact⟨rfl,by simp,Up.of (N:=11) (N':=38) [] rfl rfl (by decide) (.set (.d _) (.set (.d _) zan.none)) zao.at⟩
    rw[if_neg (ff hc18)]at h
    try simp only[go_sem,zab hy6,zaf hy6,zac zai hy6]
    cases h
    exact⟨rfl,Up.of (N:=11) (N':=36) [] rfl rfl (by decide) (.set (.d _) (.set (.d _) (.set (.d _) (.set (.ptr' rfl) zan.none)))) (.set zat.refl_d zao.at)⟩
   rw[if_neg (ff hc14)]at h
   try simp only[go_sem,zab hy6,zaf hy6,zac zai hy6,hc14]
   cases h
   exact⟨rfl,by simp,Up.of (N:=11) (N':=38) [] rfl rfl (by decide) (.set (.d _) (.set (.d _) zan.none)) zao.at⟩
  rw[if_neg (ff hc10)]at h
  try simp only[go_sem,zab hy6,zaf hy6,zac zai hy6,hc10]
  cases h
  exact⟨rfl,by simp,Up.of (N:=11) (N':=38) [] rfl rfl (by decide) (.set (.d _) (.set (.d _) zan.none)) zao.at⟩
 rw[if_neg (ff hc4)]at h
 try simp only[go_sem]
 cases h
 exact⟨rfl,by simp,Up.of (N:=11) (N':=12) [] rfl rfl (by decide) zan.none zao.at⟩
noncomputable def P93 (a0:Forest):Option (Int×Int):=
 if(decide (4096<(a0.nodes.l.length:Int)))=true then
  some (5,0)
 else
  (zaP (zdP a0) 0).bind fun r25=>
  match r25 with
  |(.inl q27)=>
   some (0,0)
  |(.inr q28)=>
   some (5,q28)
theorem zNb (a0:Forest) (r:Int×Int) (h:P93 a0=some r):pc prog 93 [zae a0]=some ((eT2 (D.int .i64) (D.int .i64)) r):=by
 unfold P93 at h
 refine zaZ (fn:=c93) rfl rfl ?_
 delta c93
 try simp only[go_sem]
 refine zaj (fun hc1=> ?_) (fun hc2=> ?_)
 ·rw[if_pos hc1]at h
  try simp only[go_sem]
  cases h
  rfl
 rw[if_neg (ff hc2)]at h
 try simp only[go_sem]
 obtain⟨r25,hl26,h⟩:=bs h
 refine Wp.loopR zbi (n:=(0,[])) (a:=zzR) rfl (zhm a0) (zkY a0) (zzY a0) hl26 ?_ (by(repeat(first|refine Clo.block ?_|refine Clo.seq zbi rfl ?_));(exact Clo.ret)) ?_
 ·show Up (0,[]) (zhm a0 0) _
  delta zhm
  exact Up.of (N:=11) (N':=11) [] rfl rfl (by decide) (.set (.d _) (.set (.d _) (.set (.d _) (.set (.ptr' rfl) zan.none)))) (.set zat.refl_d zao.at)
 rcases r25 with(q27|q28)
 ·dsimp only at h
  dsimp only[zkY]
  try simp only[go_sem]
  cases h
  rfl
 dsimp only at h
 dsimp only[zkY]
 try simp only[go_sem]
 cases h
 rfl
def zeI (a0:Forest) (x0:Int×Int):St:=⟨(((Regs.none.set 0 (.yld 13)).set 1 (.ptr 9 0 0)).set 2 (.ptr 8 0 0)),((((((Heap.at 14).set 0 (some (.els 1 [.d (zae a0)] 0))).set 3 (some (.els 1 [.d (.int .i64 x0.1)] 0))).set 8 (some (.els 1 [.d (zae a0)] 0))).set 9 (some (.els 1 [.d (.int .i64 x0.2)] 0))).set 13 (some (.loop ⟨(Regs.none.set 5 (.ptr 3 0 0)),[11],zpH,zpI,.ready,none⟩)))⟩
def zkZ (a0:Forest):((Int×Int))→Ex×St:=fun r=>(.exit 0,⟨Regs.none,((((((Heap.at 14).set 0 (some (.els 1 [.d (zae a0)] 0))).set 3 (some (.els 1 [.d (.int .i64 r.1)] 0))).set 8 (some (.els 1 [.d (zae a0)] 0))).set 9 (some (.els 1 [.d (.int .i64 r.2)] 0))).set 13 (some (.loop ⟨(Regs.none.set 5 (.ptr 3 0 0)),[11],zpH,zpI,.ready,none⟩)))⟩)
noncomputable def zcv (a0:Forest) (x0:Int×Int):Option ((Int×Int)⊕((Int×Int))):=
 if(!(x0.2==0))=true then
  (dec zai (pc prog 91 [zae a0,.int .i64 x0.2])).bind fun r3=>
  some (.inl (x0.2,r3.parent))
 else
  some (.inr (x0.1,x0.2))
theorem zvW (a0:Forest) (x0:Int×Int) (o:(Int×Int)⊕((Int×Int))) (h:zcv a0 x0=some o):Wp prog zdt (zeI a0 x0) (zbJ (14,[]) (zeI a0) (zkZ a0) o):=by
 unfold zcv at h
 delta zdt zeI
 try simp only[go_sem]
 refine zaF (fun hc1=> ?_) (fun hc2=> ?_)
 ·rw[if_pos (show(!(x0.2==0))=true by(rw[hc1];rfl))]at h
  try simp only[go_sem]
  refine zeH (by simp only[go_sem];rfl) rfl ?_
  delta zpH
  try simp only[go_sem]
  delta zpI
  try simp only[go_sem]
  obtain⟨r3,hr4,h⟩:=bs h
  replace hr4:=zam hr4
  refine zaq hr4 ?_
  try simp only[go_sem]
  cases h
  exact⟨rfl,Up.of (N:=14) (N':=28) [] rfl rfl (by decide) (.set (.ptr' rfl) (.set (.ptr' rfl) (.set (.yld' rfl) zan.none))) (.set (zat.loop (.set (.ptr' rfl) zan.none) rfl rfl) (.set zat.refl_d (.set zat.refl_d (.set zat.refl_d (.set zat.refl_d zao.at)))))⟩
 rw[if_neg (ffn hc2)]at h
 try simp only[go_sem]
 cases h
 exact⟨rfl,by simp,Up.of (N:=14) (N':=16) [] rfl rfl (by decide) zan.none (.set (zat.loop (.set (.ptr' rfl) zan.none) rfl rfl) (.set zat.refl_d (.set zat.refl_d (.set zat.refl_d (.set zat.refl_d zao.at)))))⟩
noncomputable def zKb (a0:Forest) (a1:Int):Option (Int):=
 (zaP (zcv a0) (a1,a1)).bind fun r5=>
 some r5.1
theorem zKc (a0:Forest) (a1:Int) (r:Int) (h:zKb a0 a1=some r):pc prog 104 [zae a0,.int .i64 a1]=some ((D.int .i64) r):=by
 unfold zKb at h
 refine zaZ (fn:=zHQ) rfl rfl ?_
 delta zHQ
 try simp only[go_sem]
 refine zcB (fn:=zxf) rfl rfl ?_
 delta zxf
 try simp only[go_sem]
 refine Wp.rfuncC (k:=173) (fn:=zxg) (first:=[]) (cap:=[.ptr 9 0 0,.ptr 8 0 0]) (by simp only[go_sem]) rfl rfl ?_
 delta zxg
 try simp only[go_sem]
 obtain⟨r5,hl6,h⟩:=bs h
 refine Wp.loopR zbi (n:=(14,[])) (a:=zdt) rfl (zeI a0) (zkZ a0) (zvW a0) hl6 ?_ (by(repeat(refine Clo.block ?_));refine Clo.rf (n':=(0,[])) ?_ (by decide) (by decide) ?_;((repeat(first|refine zaS.set ?_ ?_|refine zaS.args ?_|exact zbe.nil|refine zbe.cons ?_ ?_|exact zaO.d|exact zaO.ptr (by decide)|refine zaO.clo ?_ ?_)));(repeat(first|refine Clo.block ?_|refine Clo.seq zbi rfl ?_));(exact Clo.ret)) ?_
 ·show Up (14,[]) (zeI a0 (a1,a1)) _
  delta zeI
  exact Up.of (N:=14) (N':=14) [] rfl rfl (by decide) (.set (.ptr' rfl) (.set (.ptr' rfl) (.set (.yld' rfl) zan.none))) (.set (zat.loop (.set (.ptr' rfl) zan.none) rfl rfl) (.set zat.refl_d (.set zat.refl_d (.set zat.refl_d (.set zat.refl_d zao.at)))))
 dsimp only[zkZ]
 try simp only[go_sem]
 cases h
 rfl
noncomputable def zKd (a0:Int):Option (Bool):=
 some (bif (bif (bif (a0==3)then true else(a0==4))then true else(a0==7))then true else(a0==8))
theorem zKe (a0:Int) (r:Bool) (h:zKd a0=some r):pc prog 115 [.int .u8 a0]=some (D.bool r):=by
 unfold zKd at h
 refine zaZ (fn:=zHR) rfl rfl ?_
 delta zHR
 try simp only[go_sem]
 refine zaa (v:= .d (.int .u8 a0)) (fun hb6=>by simp only[go_sem,hb6]) ?_
 try simp only[go_sem]
 refine zaa (v:= .d (.bool (a0==4))) (fun hb5=>by simp only[go_sem,hb5]) ?_
 try simp only[go_sem]
 refine zaa (v:= .d (.int .u8 a0)) (fun hb4=>by simp only[go_sem,hb4]) ?_
 try simp only[go_sem]
 refine zaa (v:= .d (.bool (a0==7))) (fun hb3=>by simp only[go_sem,hb3]) ?_
 try simp only[go_sem]
 refine zaa (v:= .d (.int .u8 a0)) (fun hb2=>by simp only[go_sem,hb2]) ?_
 try simp only[go_sem]
 refine zaa (v:= .d (.bool (a0==8))) (fun hb1=>by simp only[go_sem,hb1]) ?_
 try simp only[go_sem]
 cases h
 rfl
def zeJ (a0:Sl (Int)) (a1:Sl (Int)) (x0:Int):St:=⟨(((((Regs.none.set 0 (.d (.list a0.n (a0.l.map (D.int .i64))))).set 1 (.d (.list a1.n (a1.l.map (D.int .i64))))).set 9 (.d (.list a0.n (a0.l.map (D.int .i64))))).set 10 (.d (.int .i64 (a0.l.length:Int)))).set 11 (.d (.int .i64 x0))),(Heap.at 4)⟩
def zhZ (a0:Sl (Int)) (a1:Sl (Int)):((Unit)⊕(Int))→Ex×St:=fun r=>match r with
 |(.inl r)=>(.exit 0,⟨((Regs.none.set 0 (.d (.list a0.n (a0.l.map (D.int .i64))))).set 1 (.d (.list a1.n (a1.l.map (D.int .i64))))),(Heap.at 4)⟩)
 |(.inr r)=>(.ret,⟨(Regs.none.set 4 (.d (.int .i64 r))),(Heap.at 4)⟩)
noncomputable def zbC (a0:Sl (Int)) (a1:Sl (Int)) (x0:Int):Option ((Int)⊕((Unit)⊕(Int))):=
 if(decide (x0<(a0.l.length:Int)))=true then
  (rd a0.l x0).bind fun y3=>
  if(decide ((a1.l.length:Int)≤x0))=true then
   some (.inr (.inr 1))
  else
   (rd a1.l x0).bind fun y7=>
   (dec (D.int .i64) (pc prog 180 [.int .i64 y3,.int .i64 y7])).bind fun r9=>
   if(!(r9==0))=true then
    some (.inr (.inr r9))
   else
    some (.inl (IntKind.wrap .i64 (x0+1)))
 else
  some (.inr (.inl ()))
theorem zvX (a0:Sl (Int)) (a1:Sl (Int)) (x0:Int) (o:(Int)⊕((Unit)⊕(Int))) (h:zbC a0 a1 x0=some o):Wp prog zpJ (zeJ a0 a1 x0) (zbJ (0,[]) (zeJ a0 a1) (zhZ a0 a1) o):=by
 unfold zbC at h
 delta zpJ zeJ
 try simp only[go_sem]
 refine zaj (fun hc1=> ?_) (fun hc2=> ?_)
 ·rw[if_pos hc1]at h
  try simp only[go_sem]
  obtain⟨y3,hy4,h⟩:=bs h
  try simp only[go_sem,zab hy4,zaf hy4,zac (D.int .i64) hy4]
  refine zaj (fun hc5=> ?_) (fun hc6=> ?_)
  ·rw[if_pos hc5]at h
   try simp only[go_sem,zab hy4,zaf hy4,zac (D.int .i64) hy4]
   cases h
   exact⟨rfl,by simp,Up.of (N:=4) (N':=15) [] rfl rfl (by decide) (.set (.d _) zan.none) zao.at⟩
  rw[if_neg (ff hc6)]at h
  try simp only[go_sem,zab hy4,zaf hy4,zac (D.int .i64) hy4]
  obtain⟨y7,hy8,h⟩:=bs h
  try simp only[go_sem,zab hy4,zaf hy4,zac (D.int .i64) hy4,zab hy8,zaf hy8,zac (D.int .i64) hy8]
  obtain⟨r9,hr10,h⟩:=bs h
  replace hr10:=zam hr10
  refine zaq hr10 ?_
  try simp only[go_sem,zab hy4,zaf hy4,zac (D.int .i64) hy4,zab hy8,zaf hy8,zac (D.int .i64) hy8]
  refine zaF (fun hc11=> ?_) (fun hc12=> ?_)
  ·rw[if_pos (show(!(r9==0))=true by(rw[hc11];rfl))]at h
   try simp only[go_sem,zab hy4,zaf hy4,zac (D.int .i64) hy4,zab hy8,zaf hy8,zac (D.int .i64) hy8]
   cases h
   exact⟨rfl,by simp,Up.of (N:=4) (N':=27) [] rfl rfl (by decide) (.set (.d _) zan.none) zao.at⟩
  rw[if_neg (ffn hc12)]at h
  try simp only[go_sem,zab hy4,zaf hy4,zac (D.int .i64) hy4,zab hy8,zaf hy8,zac (D.int .i64) hy8]
  cases h
  exact⟨rfl,Up.of (N:=4) (N':=27) [] rfl rfl (by decide) (.set (.d _) (.set (.d _) (.set (.d _) (.set (.d _) (.set (.d _) zan.none))))) zao.at⟩
 rw[if_neg (ff hc2)]at h
 try simp only[go_sem]
 cases h
 exact⟨rfl,by simp,Up.of (N:=4) (N':=5) [] rfl rfl (by decide) (.set (.d _) (.set (.d _) zan.none)) zao.at⟩
noncomputable def zKf (a0:Sl (Int)) (a1:Sl (Int)):Option (Int):=
 (zaP (zbC a0 a1) 0).bind fun r13=>
 match r13 with
 |(.inl q15)=>
  if(decide ((a0.l.length:Int)<(a1.l.length:Int)))=true then
   some (-1)
  else
   some (0)
 |(.inr q18)=>
  some q18
theorem zKg (a0:Sl (Int)) (a1:Sl (Int)) (r:Int) (h:zKf a0 a1=some r):pc prog 122 [.list a0.n (a0.l.map (D.int .i64)),.list a1.n (a1.l.map (D.int .i64))]=some ((D.int .i64) r):=by
 unfold zKf at h
 refine zaZ (fn:=zHS) rfl rfl ?_
 delta zHS
 try simp only[go_sem]
 obtain⟨r13,hl14,h⟩:=bs h
 refine Wp.loopR zbi (n:=(0,[])) (a:=zpJ) rfl (zeJ a0 a1) (zhZ a0 a1) (zvX a0 a1) hl14 ?_ (by(repeat(first|refine Clo.block ?_|refine Clo.seq zbi rfl ?_));(exact Clo.ret)) ?_
 ·show Up (0,[]) (zeJ a0 a1 0) _
  delta zeJ
  exact Up.of (N:=4) (N':=4) [] rfl rfl (by decide) (.set (.d _) (.set (.d _) (.set (.d _) (.set (.d _) (.set (.d _) zan.none))))) zao.at
 rcases r13 with(q15|q18)
 ·dsimp only at h
  dsimp only[zhZ]
  try simp only[go_sem]
  refine zaj (fun hc16=> ?_) (fun hc17=> ?_)
  ·rw[if_pos hc16]at h
   try simp only[go_sem]
   cases h
   rfl
  rw[if_neg (ff hc17)]at h
  try simp only[go_sem]
  cases h
  rfl
 dsimp only at h
 dsimp only[zhZ]
 try simp only[go_sem]
 cases h
 rfl
def zeK (a0:Forest) (x0:List (Int)×Int):St:=⟨(((Regs.none.set 0 (.yld 11)).set 1 (.ptr 7 0 0)).set 2 (.ptr 6 0 0)),(((((((Heap.at 31).set 0 (some (.els 1 [.d (zae a0)] 0))).set 2 (some (.els 1 [.sl 24 0 x0.1.length] 0))).set 6 (some (.els 1 [.d (zae a0)] 0))).set 7 (some (.els 1 [.d (.int .i64 x0.2)] 0))).set 11 (some (.loop ⟨((Regs.none.set 2 (.ptr 0 0 0)).set 5 (.ptr 2 0 0)),[10],zmI,zmJ,.ready,none⟩))).set 24 (some (.els 1 (x0.1.map fun z=>V.d ((D.int .i64) z)) (0))))⟩
def zla (a0:Forest):((Int×List (Int)))→Ex×St:=fun r=>(.exit 0,⟨Regs.none,(((((((Heap.at 31).set 0 (some (.els 1 [.d (zae a0)] 0))).set 2 (some (.els 1 [.sl 30 0 r.2.length] 0))).set 6 (some (.els 1 [.d (zae a0)] 0))).set 7 (some (.els 1 [.d (.int .i64 r.1)] 0))).set 11 (some (.loop ⟨((Regs.none.set 2 (.ptr 0 0 0)).set 5 (.ptr 2 0 0)),[10],zmI,zmJ,.ready,none⟩))).set 30 (some (.els 1 (r.2.map fun z=>V.d ((D.int .i64) z)) (0))))⟩)
noncomputable def zcw (a0:Forest) (x0:List (Int)×Int):Option ((List (Int)×Int)⊕((Int×List (Int)))):=
 if(!(x0.2==0))=true then
  (dec (D.int .i64) (pc prog 146 [zae a0,.int .i64 x0.2])).bind fun r10=>
  if(x0.1.length+1)*8≤AI.roomBytes then
   (dec zai (pc prog 91 [zae a0,.int .i64 x0.2])).bind fun r13=>
   some (.inl ((x0.1++[r10]),r13.parent))
  else none
 else
  some (.inr (x0.2,x0.1))
theorem zvY (a0:Forest) (x0:List (Int)×Int) (o:(List (Int)×Int)⊕((Int×List (Int)))) (h:zcw a0 x0=some o):Wp prog zdt (zeK a0 x0) (zbJ (12,[]) (zeK a0) (zla a0) o):=by
 unfold zcw at h
 delta zdt zeK
 try simp only[go_sem]
 refine zaF (fun hc8=> ?_) (fun hc9=> ?_)
 ·rw[if_pos (show(!(x0.2==0))=true by(rw[hc8];rfl))]at h
  try simp only[go_sem]
  refine zeH (by simp only[go_sem];rfl) rfl ?_
  delta zmI
  try simp only[go_sem]
  delta zmJ
  try simp only[go_sem]
  obtain⟨r10,hr11,h⟩:=bs h
  replace hr11:=zam hr11
  refine zaq hr11 ?_
  try simp only[go_sem]
  obtain⟨hm12,h⟩:=zcQ h
  refine zmC (l:=x0.1.map fun z=>V.d ((D.int .i64) z)) (fz:=0) (new:=[V.d (.int .i64 r10)]) (by simp only[go_sem,List.map_append,List.map_cons,List.map_nil]) (by simp only[go_sem,zee,zeG,zef,zcs,zoD]) (by simp) (by simp only[go_sem]) (by simp) (by simpa using hm12) ?_
  try simp only[go_sem,hm12]
  obtain⟨r13,hr14,h⟩:=bs h
  replace hr14:=zam hr14
  refine zaq hr14 ?_
  try simp only[go_sem,hm12]
  cases h
  exact⟨rfl,Up.of (N:=31) (N':=50) [(24,43)] rfl rfl (by decide) (.set (.ptr' rfl) (.set (.ptr' rfl) (.set (.yld' rfl) zan.none))) (.set (zat.arr (e:=(D.int .i64)) (l:=(x0.1++[r10])) (by simp) (by exact Nat.le_refl _)) (.set (zat.loop (.set (.ptr' rfl) (.set (.ptr' rfl) zan.none)) rfl rfl) (.set zat.refl_d (.set zat.refl_d (.set (zat.els (Nat.le_refl _) (.cons (.sl'' rfl (by(simp;done))) .nil)) (.set zat.refl_d zao.at))))))⟩
 rw[if_neg (ffn hc9)]at h
 try simp only[go_sem]
 cases h
 exact⟨rfl,by simp,Up.of (N:=31) (N':=33) [(24,30),(30,24)] rfl rfl (by decide) zan.none (.set (zat.arr (e:=(D.int .i64)) (l:=x0.1) (by rfl) (by exact Nat.le_refl _)) (.set (zat.loop (.set (.ptr' rfl) (.set (.ptr' rfl) zan.none)) rfl rfl) (.set zat.refl_d (.set zat.refl_d (.set (zat.els (Nat.le_refl _) (.cons (.sl'' rfl (by rfl)) .nil)) (.set zat.refl_d zao.at))))))⟩
def zeL (a0:Forest) (r15:Int×List (Int)) (x1:List (Int)×Int×Int):St:=⟨(((Regs.none.set 0 (.sl 30 0 r15.2.length)).set 2 (.d (.int .i64 x1.2.1))).set 3 (.d (.int .i64 x1.2.2))),((((((Heap.at 38).set 0 (some (.els 1 [.d (zae a0)] 0))).set 2 (some (.els 1 [.sl 30 0 r15.2.length] 0))).set 6 (some (.els 1 [.d (zae a0)] 0))).set 7 (some (.els 1 [.d (.int .i64 r15.1)] 0))).set 30 (some (.els 1 (x1.1.map fun z=>V.d ((D.int .i64) z)) (0))))⟩
def zlb (a0:Forest) (r15:Int×List (Int)):((List (Int)))→Ex×St:=fun r=>(.exit 0,⟨Regs.none,((((((Heap.at 38).set 0 (some (.els 1 [.d (zae a0)] 0))).set 2 (some (.els 1 [.sl 30 0 r15.2.length] 0))).set 6 (some (.els 1 [.d (zae a0)] 0))).set 7 (some (.els 1 [.d (.int .i64 r15.1)] 0))).set 30 (some (.els 1 (r.map fun z=>V.d ((D.int .i64) z)) (0))))⟩)
noncomputable def zdb (a0:Forest) (r15:Int×List (Int)) (x1:List (Int)×Int×Int):Option ((List (Int)×Int×Int)⊕((List (Int)))):=
 if(decide (x1.2.1<x1.2.2))=true then
  (rdA x1.1 r15.2.length x1.2.2).bind fun y19=>
  (rdA x1.1 r15.2.length x1.2.1).bind fun y21=>
  (rdA (x1.1.set (x1.2.1).toNat y19) r15.2.length x1.2.2).bind fun y23=>
  some (.inl (((x1.1.set (x1.2.1).toNat y19).set (x1.2.2).toNat y21),(IntKind.wrap .i64 (x1.2.1+1)),(IntKind.wrap .i64 (x1.2.2-1))))
 else
  some (.inr x1.1)
theorem zvZ (a0:Forest) (r15:Int×List (Int)) (x1:List (Int)×Int×Int) (o:(List (Int)×Int×Int)⊕((List (Int)))) (h:zdb a0 r15 x1=some o):Wp prog zjd (zeL a0 r15 x1) (zbJ (33,[]) (zeL a0 r15) (zlb a0 r15) o):=by
 unfold zdb at h
 delta zjd zeL
 try simp only[go_sem]
 refine zaj (fun hc17=> ?_) (fun hc18=> ?_)
 ·rw[if_pos hc17]at h
  try simp only[go_sem]
  obtain⟨y19,hy20,h⟩:=bs h
  try simp only[go_sem,zaV hy20,zbj hy20,zbk hy20,zaI hy20,zaW (D.int .i64) hy20]
  obtain⟨y21,hy22,h⟩:=bs h
  try simp only[go_sem,zaV hy20,zbj hy20,zbk hy20,zaI hy20,zaW (D.int .i64) hy20,zaV hy22,zbj hy22,zbk hy22,zaI hy22,zaW (D.int .i64) hy22]
  obtain⟨y23,hy24,h⟩:=bs h
  try simp only[go_sem,zaV hy20,zbj hy20,zbk hy20,zaI hy20,zaW (D.int .i64) hy20,zaV hy22,zbj hy22,zbk hy22,zaI hy22,zaW (D.int .i64) hy22,zfM (x:=y19) (D.int .i64) (zaI hy22),zfL (x:=y19) (zaI hy22),zaV hy24,zbj hy24,zbk hy24,zaI hy24,zaW (D.int .i64) hy24]
  cases h
  exact⟨rfl,Up.of (N:=38) (N':=63) [] rfl rfl (by decide) (.set (.d _) (.set (.d _) (.set (.sl'' rfl (by rfl)) zan.none))) (.set (zat.arr (e:=(D.int .i64)) (l:=((x1.1.set (x1.2.1).toNat y19).set (x1.2.2).toNat y21)) (by rfl) (by exact Nat.le_refl _)) (.set zat.refl_d (.set zat.refl_d (.set (zat.els (Nat.le_refl _) (.cons (.sl'' rfl (by rfl)) .nil)) (.set zat.refl_d zao.at)))))⟩
 rw[if_neg (ff hc18)]at h
 try simp only[go_sem]
 cases h
 exact⟨rfl,by simp,Up.of (N:=38) (N':=41) [] rfl rfl (by decide) zan.none (.set (zat.arr (e:=(D.int .i64)) (l:=x1.1) (by rfl) (by exact Nat.le_refl _)) (.set zat.refl_d (.set zat.refl_d (.set (zat.els (Nat.le_refl _) (.cons (.sl'' rfl (by rfl)) .nil)) (.set zat.refl_d zao.at)))))⟩
def zeM (a0:Forest) (a1:Int) (x2:Unit):St:=⟨(((Regs.none.set 0 (.d (.list true []))).set 2 (.d (.int .i64 (0)))).set 3 (.d (.int .i64 (IntKind.wrap .i64 (0-1))))),(((((Heap.at 21).set 0 (some (.els 1 [.d (zae a0)] 0))).set 2 (some (.els 1 [.d (.list true [])] 0))).set 6 (some (.els 1 [.d (zae a0)] 0))).set 7 (some (.els 1 [.d (.int .i64 a1)] 0)))⟩
def zlc (a0:Forest) (a1:Int):((Unit))→Ex×St:=fun r=>(.exit 0,⟨Regs.none,(((((Heap.at 21).set 0 (some (.els 1 [.d (zae a0)] 0))).set 2 (some (.els 1 [.d (.list true [])] 0))).set 6 (some (.els 1 [.d (zae a0)] 0))).set 7 (some (.els 1 [.d (.int .i64 a1)] 0)))⟩)
noncomputable def zfV (a0:Forest) (a1:Int) (x2:Unit):Option ((Unit)⊕((Unit))):=
 if(decide (0<(IntKind.wrap .i64 (0-1))))=true then
  none
 else
  some (.inr ())
theorem zwa (a0:Forest) (a1:Int) (x2:Unit) (o:(Unit)⊕((Unit))) (h:zfV a0 a1 x2=some o):Wp prog zjd (zeM a0 a1 x2) (zbJ (16,[]) (zeM a0 a1) (zlc a0 a1) o):=by
 unfold zfV at h
 delta zjd zeM
 try simp only[go_sem]
 refine zaj (fun hc28=> ?_) (fun hc29=> ?_)
 ·rw[if_pos (show(decide (0<(IntKind.wrap .i64 (0-1))))=true by exact hc28)]at h
  try simp only[go_sem]
  cases h
 rw[if_neg (show ¬(decide (0<(IntKind.wrap .i64 (0-1))))=true by simpa using hc29)]at h
 try simp only[go_sem]
 cases h
 exact⟨rfl,by simp,Up.of (N:=21) (N':=24) [] rfl rfl (by decide) zan.none (.set zat.refl_d (.set zat.refl_d (.set zat.refl_d (.set zat.refl_d zao.at))))⟩
noncomputable def zKh (a0:Forest) (a1:Int):Option (Sl (Int)):=
 if(!(a1==0))=true then
  (dec (D.int .i64) (pc prog 146 [zae a0,.int .i64 a1])).bind fun r3=>
  if 1*8≤AI.roomBytes then
   (dec zai (pc prog 91 [zae a0,.int .i64 a1])).bind fun r6=>
   (zaP (zcw a0) ([r3],r6.parent)).bind fun r15=>
   (zaP (zdb a0 r15) (r15.2,0,(IntKind.wrap .i64 (((r15.2.length:Nat):Int)-1)))).bind fun r25=>
   if r25.length=r15.2.length then
    some (⟨false,r25⟩)
   else none
  else none
 else
  (zaP (zfV a0 a1) ()).bind fun r30=>
  some (⟨true,[]⟩)
theorem zKi (a0:Forest) (a1:Int) (r:Sl (Int)) (h:zKh a0 a1=some r):pc prog 123 [zae a0,.int .i64 a1]=some ((eSl (D.int .i64)) r):=by
 unfold zKh at h
 refine zaZ (fn:=zHT) rfl rfl ?_
 delta zHT
 try simp only[go_sem]
 refine zcB (fn:=zxf) rfl rfl ?_
 delta zxf
 try simp only[go_sem]
 refine Wp.rfuncC (k:=173) (fn:=zxg) (first:=[]) (cap:=[.ptr 7 0 0,.ptr 6 0 0]) (by simp only[go_sem]) rfl rfl ?_
 delta zxg
 try simp only[go_sem]
 refine Wp.peel ?_
 delta zdt
 try simp only[go_sem]
 refine zaF (fun hc1=> ?_) (fun hc2=> ?_)
 ·rw[if_pos (show(!(a1==0))=true by(rw[hc1];rfl))]at h
  try simp only[go_sem]
  refine zeH (by simp only[go_sem];rfl) rfl ?_
  delta zmI
  try simp only[go_sem]
  delta zmJ
  try simp only[go_sem]
  obtain⟨r3,hr4,h⟩:=bs h
  replace hr4:=zam hr4
  refine zaq hr4 ?_
  try simp only[go_sem]
  obtain⟨hm5,h⟩:=zcQ h
  refine zuP (new:=[V.d (.int .i64 r3)]) (by simp only[go_sem,zee,zeG,zef,zcs,zoD]) (by simp) (by simp only[go_sem]) (by simpa using hm5) ?_
  try simp only[go_sem,hm5]
  obtain⟨r6,hr7,h⟩:=bs h
  replace hr7:=zam hr7
  refine zaq hr7 ?_
  try simp only[go_sem,hm5]
  obtain⟨r15,hl16,h⟩:=bs h
  refine Wp.loopR zbi (n:=(12,[])) (a:=zdt) rfl (zeK a0) (zla a0) (zvY a0) hl16 ?_ (by(repeat(refine Clo.block ?_));refine Clo.rf (n':=(0,[])) ?_ (by decide) (by decide) ?_;((repeat(first|refine zaS.set ?_ ?_|refine zaS.args ?_|exact zbe.nil|refine zbe.cons ?_ ?_|exact zaO.d|exact zaO.ptr (by decide)|refine zaO.clo ?_ ?_)));(repeat(first|refine Clo.block ?_|refine Clo.seq zbi rfl ?_));(exact Clo.ret)) ?_
  ·show Up (12,[]) (zeK a0 ([r3],r6.parent)) _
   delta zeK
   exact Up.of (N:=31) (N':=31) [] rfl rfl (by decide) (.set (.ptr' rfl) (.set (.ptr' rfl) (.set (.yld' rfl) zan.none))) (.set (zat.arr (e:=(D.int .i64)) (l:=([r3])) (by rfl) (by exact Nat.le_refl _)) (.set (zat.loop (.set (.ptr' rfl) (.set (.ptr' rfl) zan.none)) rfl rfl) (.set zat.refl_d (.set zat.refl_d (.set (zat.els (Nat.le_refl _) (.cons (.sl'' rfl (by rfl)) .nil)) (.set zat.refl_d zao.at))))))
  dsimp only[zla]
  try simp only[go_sem,hm5]
  refine zcB (fn:=zEH) rfl rfl ?_
  delta zEH
  try simp only[go_sem,hm5]
  obtain⟨r25,hl26,h⟩:=bs h
  refine Wp.loopR zbi (n:=(33,[])) (a:=zjd) rfl (zeL a0 r15) (zlb a0 r15) (zvZ a0 r15) hl26 ?_ (by(repeat(refine Clo.block ?_));refine Clo.inl zbi (n':=(0,[])) rfl rfl rfl ?_ ?_ (show Fx.spans _ 31 2=true from by decide) (by decide) ?_;((repeat(first|exact zaS.no|refine zaS.set ?_ ?_|refine zaS.args ?_|exact zbe.nil|refine zbe.cons ?_ ?_|exact zaO.d|exact zaO.ptr (by decide)|exact zaO.sl (by decide)|refine zaO.clo ?_ ?_));(repeat(first|exact zaS.no|exact zaS.none|refine zaS.set ?_ ?_|refine zaS.args ?_|exact zbe.nil|refine zbe.cons ?_ ?_|exact zaO.d|exact zaO.undef|exact zaO.rp|exact zaO.ptr (by decide)|exact zaO.sl (by decide)|exact zaO.mb (by decide)|exact zaO.map (by decide)|exact zaO.yld (by decide)|exact zaO.it (by decide)|refine zaO.clo ?_ ?_|refine zaO.ofCells ?_|refine zaO.agg ?_|refine zaO.tuple ?_|refine zaO.bif ?_ ?_)));(repeat(refine Clo.seq zbi rfl ?_));(exact Clo.ret)) ?_
  ·show Up (33,[]) (zeL a0 r15 (r15.2,0,(IntKind.wrap .i64 (((r15.2.length:Nat):Int)-1)))) _
   delta zeL
   exact Up.of (N:=38) (N':=38) [] rfl rfl (by decide) (.set (.d _) (.set (.d _) (.set (.sl'' rfl (by rfl)) zan.none))) (.set (zat.arr (e:=(D.int .i64)) (l:=r15.2) (by rfl) (by exact Nat.le_refl _)) (.set zat.refl_d (.set zat.refl_d (.set (zat.els (Nat.le_refl _) (.cons (.sl'' rfl (by rfl)) .nil)) (.set zat.refl_d zao.at)))))
  dsimp only[zlb]
  try simp only[go_sem,hm5]
  obtain⟨hq27,h⟩:=zcQ h
  cases h
  refine Reads.ofv (v':= .sl 30 0 r15.2.length) (by rfl) (Rd.sl (e:=(D.int .i64)) (l:=r25) (sz:=1) (fz:=0) (m:=r25.map fun z=>V.d ((D.int .i64) z)) (by simp only[go_sem,List.map_append,List.map_cons,List.map_nil,hm5,hq27]) rfl (by exact hq27)) rfl
 rw[if_neg (ffn hc2)]at h
 try simp only[go_sem]
 refine zcB (fn:=zEH) rfl rfl ?_
 delta zEH
 try simp only[go_sem]
 obtain⟨r30,hl31,h⟩:=bs h
 refine Wp.loopR zbi (n:=(16,[])) (a:=zjd) rfl (zeM a0 a1) (zlc a0 a1) (zwa a0 a1) hl31 ?_ (by(repeat(refine Clo.block ?_));refine Clo.inl zbi (n':=(0,[])) rfl rfl rfl ?_ ?_ (show Fx.spans _ 14 2=true from by decide) (by decide) ?_;((repeat(first|exact zaS.no|refine zaS.set ?_ ?_|refine zaS.args ?_|exact zbe.nil|refine zbe.cons ?_ ?_|exact zaO.d|exact zaO.ptr (by decide)|refine zaO.clo ?_ ?_));(repeat(first|exact zaS.no|exact zaS.none|refine zaS.set ?_ ?_|refine zaS.args ?_|exact zbe.nil|refine zbe.cons ?_ ?_|exact zaO.d|exact zaO.undef|exact zaO.rp|exact zaO.ptr (by decide)|exact zaO.sl (by decide)|exact zaO.mb (by decide)|exact zaO.map (by decide)|exact zaO.yld (by decide)|exact zaO.it (by decide)|refine zaO.clo ?_ ?_|refine zaO.ofCells ?_|refine zaO.agg ?_|refine zaO.tuple ?_|refine zaO.bif ?_ ?_)));(repeat(refine Clo.seq zbi rfl ?_));(exact Clo.ret)) ?_
 ·show Up (16,[]) (zeM a0 a1 ()) _
  delta zeM
  exact Up.of (N:=21) (N':=21) [] rfl rfl (by decide) (.set (.d _) (.set (.d _) (.set (.d _) zan.none))) (.set zat.refl_d (.set zat.refl_d (.set zat.refl_d (.set zat.refl_d zao.at))))
 dsimp only[zlc]
 try simp only[go_sem]
 cases h
 rfl
def zeN (a0:Forest) (r1:Node) (x0:List (Int)×Int):St:=⟨((((Regs.none.set 2 (.ptr 0 0 0)).set 5 (.sl 3 0 x0.1.length)).set 6 (.d (.list r1.kids.n (r1.kids.l.map (D.int .i64))))).set 7 (.d (.int .i64 x0.2))),(((Heap.at 11).set 0 (some (.els 1 [.d (zae a0)] 0))).set 3 (some (.els 1 (x0.1.map fun z=>V.d ((D.int .i64) z)) x0.1.length)))⟩
def zld (a0:Forest) (r1:Node):((List (Int)))→Ex×St:=fun r=>(.exit 0,⟨(Regs.none.set 5 (.sl 10 0 r.length)),((Heap.at 11).set 10 (some (.els 1 (r.map fun z=>V.d ((D.int .i64) z)) r.length)))⟩)
noncomputable def zcx (a0:Forest) (r1:Node) (x0:List (Int)×Int):Option ((List (Int)×Int)⊕((List (Int)))):=
 if(decide (x0.2<(r1.kids.l.length:Int)))=true then
  (rd r1.kids.l x0.2).bind fun y5=>
  (dec (eSl (D.int .i64)) (pc prog 124 [zae a0,.int .i64 y5])).bind fun r7=>
  if r7.l=[]then
   some (.inl (x0.1,(IntKind.wrap .i64 (x0.2+1))))
  else
   if(x0.1.length+r7.l.length)*8≤AI.roomBytes then
    some (.inl ((x0.1++r7.l),(IntKind.wrap .i64 (x0.2+1))))
   else none
 else
  some (.inr x0.1)
theorem zwb (a0:Forest) (r1:Node) (x0:List (Int)×Int) (o:(List (Int)×Int)⊕((List (Int)))) (h:zcx a0 r1 x0=some o):Wp prog zpK (zeN a0 r1 x0) (zbJ (0,[]) (zeN a0 r1) (zld a0 r1) o):=by
 unfold zcx at h
 delta zpK zeN
 try simp only[go_sem]
 refine zaj (fun hc3=> ?_) (fun hc4=> ?_)
 ·rw[if_pos hc3]at h
  try simp only[go_sem]
  obtain⟨y5,hy6,h⟩:=bs h
  try simp only[go_sem,zab hy6,zaf hy6,zac (D.int .i64) hy6]
  obtain⟨r7,hr8,h⟩:=bs h
  replace hr8:=zam hr8
  refine zaq hr8 ?_
  try simp only[go_sem,zab hy6,zaf hy6,zac (D.int .i64) hy6]
  by_cases hz9:r7.l=[]
  ·rw[if_pos hz9]at h
   refine zuZ (by simp only[go_sem,zee,zeG,zef,zcs,zoD,List.map_nil,hz9]) (by rfl) ?_
   try simp only[go_sem,zab hy6,zaf hy6,zac (D.int .i64) hy6]
   cases h
   exact⟨rfl,Up.of (N:=11) (N':=27) [] rfl rfl (by decide) (.set (.d _) (.set (.d _) (.set (.sl'' rfl (by rfl)) (.set (.ptr' rfl) zan.none)))) (.set (zat.arr (e:=(D.int .i64)) (l:=x0.1) (by rfl) (by exact Nat.le_refl _)) (.set zat.refl_d zao.at))⟩
  have hz10:=hz9;rw[if_neg hz10]at h
  obtain⟨hm11,h⟩:=zcQ h
  refine zmC (l:=x0.1.map fun z=>V.d ((D.int .i64) z)) (fz:=x0.1.length) (new:=r7.l.map fun z=>V.d ((D.int .i64) z)) (by simp only[go_sem,List.map_append,List.map_cons,List.map_nil,zab hy6,zaf hy6,zac (D.int .i64) hy6]) (by simp only[go_sem,zee,zeG,zef,zcs,zoD]) (by simpa using hz10) (by rw[←zoD];exact zrQ (e:=(D.int .i64)) (fun _=>rfl) (fun _=>rfl) _) (by simp) (by simpa using hm11) ?_
  try simp only[go_sem,zab hy6,zaf hy6,zac (D.int .i64) hy6,hm11]
  cases h
  exact⟨rfl,Up.of (N:=11) (N':=27) [(3,22)] rfl rfl (by decide) (.set (.d _) (.set (.d _) (.set (.sl'' rfl (by(simp;done))) (.set (.ptr' rfl) zan.none)))) (.set (zat.arr (e:=(D.int .i64)) (l:=(x0.1++r7.l)) (by simp) (by simp)) (.set zat.refl_d zao.at))⟩
 rw[if_neg (ff hc4)]at h
 try simp only[go_sem]
 cases h
 exact⟨rfl,by simp,Up.of (N:=11) (N':=15) [(3,10),(10,3)] rfl rfl (by decide) (.set (.sl'' rfl (by rfl)) zan.none) (.set (zat.arr (e:=(D.int .i64)) (l:=x0.1) (by rfl) (by exact Nat.le_refl _)) zao.at)⟩
noncomputable def zKj (a0:Forest) (a1:Int):Option (Sl (Int)):=
 (dec zai (pc prog 128 [zae a0,.int .i64 a1])).bind fun r1=>
 (zaP (zcx a0 r1) ([a1],0)).bind fun r12=>
 some (⟨false,r12⟩)
theorem zKk (a0:Forest) (a1:Int) (r:Sl (Int)) (h:zKj a0 a1=some r):pc prog 124 [zae a0,.int .i64 a1]=some ((eSl (D.int .i64)) r):=by
 unfold zKj at h
 refine zaZ (fn:=zHU) rfl rfl ?_
 delta zHU
 try simp only[go_sem]
 obtain⟨r1,hr2,h⟩:=bs h
 replace hr2:=zam hr2
 refine zaq hr2 ?_
 try simp only[go_sem]
 obtain⟨r12,hl13,h⟩:=bs h
 refine Wp.loopR zbi (n:=(0,[])) (a:=zpK) rfl (zeN a0 r1) (zld a0 r1) (zwb a0 r1) hl13 ?_ (by(repeat(first|refine Clo.block ?_|refine Clo.seq zbi rfl ?_));(exact Clo.ret)) ?_
 ·show Up (0,[]) (zeN a0 r1 ([a1],0)) _
  delta zeN
  refine Up.of (N:=11) (N':=11) [] rfl rfl (by decide) ?_ ?_
  ·refine zan.set ?_ (zan.set ?_ (zan.set ?_ (zan.set ?_ zan.none)))
   all_goals (try simp only[go_sem,List.map_append,List.map_cons,List.map_nil])
   all_goals (first|exact VR.d _|exact VR.ptr' rfl|exact VR.sl'' rfl (by simp))
  refine zao.set (show zat _ _ (Heap.get _ 3)from ?_) (zao.set (show zat _ _ (Heap.get _ 0)from ?_) (zao.at))
  all_goals (try simp only[go_sem,List.map_append,List.map_cons,List.map_nil])
  all_goals (((repeat' first|exact zat.refl_d|refine zat.els (by simp) ?_|exact VR.d _|exact VRL.nil|refine VRL.cons ?_ ?_);done))
 dsimp only[zld]
 try simp only[go_sem]
 cases h
 refine Reads.ofv (v':= .sl 10 0 r12.length) (by rfl) (Rd.sl (e:=(D.int .i64)) (l:=r12) (sz:=1) (fz:=r12.length) (m:=r12.map fun z=>V.d ((D.int .i64) z)) (by simp only[go_sem,List.map_append,List.map_cons,List.map_nil]) rfl (by simp)) rfl
def zeO (a0:Forest) (x0:Int):St:=⟨((Regs.none.set 1 (.d (.int .i64 x0))).set 2 (.ptr 0 0 0)),((Heap.at 2).set 0 (some (.els 1 [.d (zae a0)] 0)))⟩
def zle (a0:Forest):((Int))→Ex×St:=fun r=>(.exit 0,⟨(Regs.none.set 1 (.d (.int .i64 r))),(Heap.at 2)⟩)
noncomputable def zcy (a0:Forest) (x0:Int):Option ((Int)⊕((Int))):=
 (dec zai (pc prog 128 [zae a0,.int .i64 x0])).bind fun r1=>
 if(!(r1.parent==0))=true then
  (dec zai (pc prog 128 [zae a0,.int .i64 x0])).bind fun r5=>
  some (.inl r5.parent)
 else
  some (.inr x0)
theorem zwc (a0:Forest) (x0:Int) (o:(Int)⊕((Int))) (h:zcy a0 x0=some o):Wp prog zpL (zeO a0 x0) (zbJ (0,[]) (zeO a0) (zle a0) o):=by
 unfold zcy at h
 delta zpL zeO
 try simp only[go_sem]
 obtain⟨r1,hr2,h⟩:=bs h
 replace hr2:=zam hr2
 refine zaq hr2 ?_
 try simp only[go_sem]
 refine zaF (fun hc3=> ?_) (fun hc4=> ?_)
 ·rw[if_pos (show(!(r1.parent==0))=true by(rw[hc3];rfl))]at h
  try simp only[go_sem]
  obtain⟨r5,hr6,h⟩:=bs h
  replace hr6:=zam hr6
  refine zaq hr6 ?_
  try simp only[go_sem]
  cases h
  exact⟨rfl,Up.of (N:=2) (N':=12) [] rfl rfl (by decide) (.set (.ptr' rfl) (.set (.d _) zan.none)) (.set zat.refl_d zao.at)⟩
 rw[if_neg (ffn hc4)]at h
 try simp only[go_sem]
 cases h
 exact⟨rfl,by simp,Up.of (N:=2) (N':=7) [] rfl rfl (by decide) (.set (.d _) zan.none) zao.at⟩
noncomputable def zKl (a0:Forest) (a1:Int):Option (Int):=
 (zaP (zcy a0) a1).bind fun r7=>
 some r7
theorem zKm (a0:Forest) (a1:Int) (r:Int) (h:zKl a0 a1=some r):pc prog 125 [zae a0,.int .i64 a1]=some ((D.int .i64) r):=by
 unfold zKl at h
 refine zaZ (fn:=zHV) rfl rfl ?_
 delta zHV
 try simp only[go_sem]
 obtain⟨r7,hl8,h⟩:=bs h
 refine Wp.loopR zbi (n:=(0,[])) (a:=zpL) rfl (zeO a0) (zle a0) (zwc a0) hl8 ?_ (by(repeat(first|refine Clo.block ?_|refine Clo.seq zbi rfl ?_));(exact Clo.ret)) ?_
 ·show Up (0,[]) (zeO a0 a1) _
  delta zeO
  exact Up.of (N:=2) (N':=2) [] rfl rfl (by decide) (.set (.ptr' rfl) (.set (.d _) zan.none)) (.set zat.refl_d zao.at)
 dsimp only[zle]
 try simp only[go_sem]
 cases h
 rfl
def zeP (a0:Sl (Int)) (a1:Int) (x0:Int):St:=⟨(((Regs.none.set 0 (.d (.list a0.n (a0.l.map (D.int .i64))))).set 1 (.d (.int .i64 a1))).set 5 (.d (.int .i64 x0))),(Heap.at 2)⟩
def zia (a0:Sl (Int)) (a1:Int):((Unit)⊕(Int))→Ex×St:=fun r=>match r with
 |(.inl r)=>(.exit 0,⟨Regs.none,(Heap.at 2)⟩)
 |(.inr r)=>(.ret,⟨(Regs.none.set 4 (.d (.int .i64 r))),(Heap.at 2)⟩)
noncomputable def zdc (a0:Sl (Int)) (a1:Int) (x0:Int):Option ((Int)⊕((Unit)⊕(Int))):=
 if(decide (x0<(a0.l.length:Int)))=true then
  (rd a0.l x0).bind fun y3=>
  if(y3==a1)=true then
   some (.inr (.inr x0))
  else
   some (.inl (IntKind.wrap .i64 (x0+1)))
 else
  some (.inr (.inl ()))
theorem zwd (a0:Sl (Int)) (a1:Int) (x0:Int) (o:(Int)⊕((Unit)⊕(Int))) (h:zdc a0 a1 x0=some o):Wp prog zpM (zeP a0 a1 x0) (zbJ (0,[]) (zeP a0 a1) (zia a0 a1) o):=by
 unfold zdc at h
 delta zpM zeP
 try simp only[go_sem]
 refine zaj (fun hc1=> ?_) (fun hc2=> ?_)
 ·rw[if_pos hc1]at h
  try simp only[go_sem]
  obtain⟨y3,hy4,h⟩:=bs h
  try simp only[go_sem,zab hy4,zaf hy4,zac (D.int .i64) hy4]
  refine zaj (fun hc5=> ?_) (fun hc6=> ?_)
  ·rw[if_pos hc5]at h
   try simp only[go_sem,zab hy4,zaf hy4,zac (D.int .i64) hy4]
   cases h
   exact⟨rfl,by simp,Up.of (N:=2) (N':=14) [] rfl rfl (by decide) (.set (.d _) zan.none) zao.at⟩
  rw[if_neg (ff hc6)]at h
  try simp only[go_sem,zab hy4,zaf hy4,zac (D.int .i64) hy4]
  cases h
  exact⟨rfl,Up.of (N:=2) (N':=15) [] rfl rfl (by decide) (.set (.d _) (.set (.d _) (.set (.d _) zan.none))) zao.at⟩
 rw[if_neg (ff hc2)]at h
 try simp only[go_sem]
 cases h
 exact⟨rfl,by simp,Up.of (N:=2) (N':=6) [] rfl rfl (by decide) zan.none zao.at⟩
noncomputable def zKn (a0:Sl (Int)) (a1:Int):Option (Int):=
 (zaP (zdc a0 a1) 0).bind fun r7=>
 match r7 with
 |(.inl q9)=>
  some (-1)
 |(.inr q10)=>
  some q10
theorem zKo (a0:Sl (Int)) (a1:Int) (r:Int) (h:zKn a0 a1=some r):pc prog 126 [.list a0.n (a0.l.map (D.int .i64)),.int .i64 a1]=some ((D.int .i64) r):=by
 unfold zKn at h
 refine zaZ (fn:=zHW) rfl rfl ?_
 delta zHW
 try simp only[go_sem]
 obtain⟨r7,hl8,h⟩:=bs h
 refine Wp.loopR zbi (n:=(0,[])) (a:=zpM) rfl (zeP a0 a1) (zia a0 a1) (zwd a0 a1) hl8 ?_ (by(repeat(first|refine Clo.block ?_|refine Clo.seq zbi rfl ?_));(exact Clo.ret)) ?_
 ·show Up (0,[]) (zeP a0 a1 0) _
  delta zeP
  exact Up.of (N:=2) (N':=2) [] rfl rfl (by decide) (.set (.d _) (.set (.d _) (.set (.d _) zan.none))) zao.at
 rcases r7 with(q9|q10)
 ·dsimp only at h
  dsimp only[zia]
  try simp only[go_sem]
  cases h
  rfl
 dsimp only at h
 dsimp only[zia]
 try simp only[go_sem]
 cases h
 rfl
def zeQ (a0:Forest) (x0:Int×List (Int)):St:=⟨(((Regs.none.set 1 (.d (.int .i64 x0.1))).set 2 (.ptr 0 0 0)).set 5 (mb 2 (x0.2.map fun z=>V.d ((D.int .i64) z)))),(((Heap.at 3).set 0 (some (.els 1 [.d (zae a0)] 0))).set 2 (mbB 1 x0.2.length (x0.2.map fun z=>V.d ((D.int .i64) z))))⟩
def zlf (a0:Forest):((List (Int)))→Ex×St:=fun r=>(.exit 0,⟨(Regs.none.set 5 (mb 2 (r.map fun z=>V.d ((D.int .i64) z)))),((Heap.at 3).set 2 (mbB 1 r.length (r.map fun z=>V.d ((D.int .i64) z))))⟩)
noncomputable def zcz (a0:Forest) (x0:Int×List (Int)):Option ((Int×List (Int))⊕((List (Int)))):=
 (dec zai (pc prog 128 [zae a0,.int .i64 x0.1])).bind fun r1=>
 if(!(r1.parent==0))=true then
  (dec zai (pc prog 128 [zae a0,.int .i64 x0.1])).bind fun r5=>
  if(x0.2.length+1)*8≤AI.roomBytes then
   some (.inl (r5.parent,(x0.2++[r5.parent])))
  else none
 else
  some (.inr x0.2)
theorem zwe (a0:Forest) (x0:Int×List (Int)) (o:(Int×List (Int))⊕((List (Int)))) (h:zcz a0 x0=some o):Wp prog zpN (zeQ a0 x0) (zbJ (0,[]) (zeQ a0) (zlf a0) o):=by
 unfold zcz at h
 delta zpN zeQ
 try simp only[go_sem]
 obtain⟨r1,hr2,h⟩:=bs h
 replace hr2:=zam hr2
 refine zaq hr2 ?_
 try simp only[go_sem]
 refine zaF (fun hc3=> ?_) (fun hc4=> ?_)
 ·rw[if_pos (show(!(r1.parent==0))=true by(rw[hc3];rfl))]at h
  try simp only[go_sem]
  obtain⟨r5,hr6,h⟩:=bs h
  replace hr6:=zam hr6
  refine zaq hr6 ?_
  try simp only[go_sem]
  obtain⟨hm7,h⟩:=zcQ h
  refine zmB (l:=x0.2.map fun z=>V.d ((D.int .i64) z)) (new:=[V.d (.int .i64 r5.parent)]) (sz:=1) (fz:=x0.2.length) (by simp only[go_sem,List.map_append,List.map_cons,List.map_nil]) (by intro h;simpa using h) (by simp only[go_sem,zee,zeG,zef,zcs,zoD]) (by simp) (by simp only[go_sem]) (by simpa using hm7) ?_
  try simp only[go_sem,hm7]
  cases h
  refine⟨rfl,Up.of (N:=3) (N':=18) [(2,16)] rfl rfl (by decide) ?_ ?_⟩
  ·refine zan.set ?_ (zan.set ?_ (zan.set ?_ zan.none))
   all_goals (try simp only[go_sem,List.map_append,List.map_cons,List.map_nil,hm7])
   all_goals (first|exact VR.d _|exact VR.mb_sl (by simp) rfl (by simp)|exact VR.ptr' rfl)
  refine zao.set (show zat _ _ (Heap.get _ 16)from ?_) (zao.set (show zat _ _ (Heap.get _ 0)from ?_) (zao.at))
  all_goals (try simp only[go_sem,List.map_append,List.map_cons,List.map_nil,hm7])
  all_goals (((repeat' first|exact zat.refl_d|refine zat.mb_els (by simp) ?_|exact VR.d _|exact VRL.nil|exact VRL.refl_d _ _|refine VRL.append ?_ ?_|refine VRL.cons ?_ ?_);done))
 rw[if_neg (ffn hc4)]at h
 try simp only[go_sem]
 cases h
 refine⟨rfl,by simp,Up.of (N:=3) (N':=8) [] rfl rfl (by decide) ?_ ?_⟩
 ·refine zan.set ?_ zan.none
  all_goals (try simp only[go_sem,List.map_append,List.map_cons,List.map_nil])
  all_goals (exact VR.mb rfl)
 refine zao.set (show zat _ _ (Heap.get _ 2)from ?_) (zao.at)
 all_goals (try simp only[go_sem,List.map_append,List.map_cons,List.map_nil])
 all_goals (((repeat' first|refine zat.mb (by simp) ?_|exact VRL.refl_d _ _);done))
noncomputable def zKp (a0:Forest) (a1:Int):Option (Sl (Int)):=
 (zaP (zcz a0) (a1,[])).bind fun r8=>
 some (⟨r8.isEmpty,r8⟩)
theorem zKq (a0:Forest) (a1:Int) (r:Sl (Int)) (h:zKp a0 a1=some r):pc prog 127 [zae a0,.int .i64 a1]=some ((eSl (D.int .i64)) r):=by
 unfold zKp at h
 refine zaZ (fn:=zHX) rfl rfl ?_
 delta zHX
 try simp only[go_sem]
 obtain⟨r8,hl9,h⟩:=bs h
 refine Wp.loopR zbi (n:=(0,[])) (a:=zpN) rfl (zeQ a0) (zlf a0) (zwe a0) hl9 ?_ (by(repeat(first|refine Clo.block ?_|refine Clo.seq zbi rfl ?_));(exact Clo.ret)) ?_
 ·show Up (0,[]) (zeQ a0 (a1,[])) _
  delta zeQ
  refine Up.of (N:=3) (N':=3) [] rfl rfl (by decide) ?_ ?_
  ·refine zan.set ?_ (zan.set ?_ (zan.set ?_ zan.none))
   all_goals (try simp only[go_sem,List.map_append,List.map_cons,List.map_nil])
   all_goals (first|exact VR.d _|exact VR.ptr' rfl)
  refine zao.set (show zat _ _ (Heap.get _ 2)from ?_) (zao.set (show zat _ _ (Heap.get _ 0)from ?_) (zao.at))
  all_goals (try simp only[go_sem,List.map_append,List.map_cons,List.map_nil])
  all_goals (((repeat' first|trivial|exact zat.refl_d);done))
 dsimp only[zlf]
 try simp only[go_sem]
 cases h
 refine Reads.ofv (v':=mb 2 (r8.map fun z=>V.d ((D.int .i64) z))) (by rfl) (Rd.mb (e:=(D.int .i64)) (l:=r8) (sz:=1) (fz:=r8.length) (by simp only[go_sem,List.map_append,List.map_cons,List.map_nil])) rfl
noncomputable def zKr (a0:Forest) (a1:Int):Option (Node):=
 (rd a0.nodes.l (IntKind.wrap .i64 (a1-1))).bind fun y1=>
 some y1
theorem zKs (a0:Forest) (a1:Int) (r:Node) (h:zKr a0 a1=some r):pc prog 128 [zae a0,.int .i64 a1]=some (zai r):=by
 unfold zKr at h
 refine zaZ (fn:=zHY) rfl rfl ?_
 delta zHY
 try simp only[go_sem]
 obtain⟨y1,hy2,h⟩:=bs h
 try simp only[go_sem,zab hy2,zaf hy2,zac zai hy2]
 cases h
 rfl
noncomputable def zKt (a0:Forest) (a1:Int):Option (Int):=
 (dec zai (pc prog 91 [zae a0,.int .i64 a1])).bind fun r1=>
 (dec zai (pc prog 91 [zae a0,.int .i64 r1.parent])).bind fun r3=>
 (dec (D.int .i64) (pc prog 188 [.list r3.kids.n (r3.kids.l.map (D.int .i64)),.int .i64 a1])).bind fun r5=>
 some (max r5 (0))
theorem zKu (a0:Forest) (a1:Int) (r:Int) (h:zKt a0 a1=some r):pc prog 146 [zae a0,.int .i64 a1]=some ((D.int .i64) r):=by
 unfold zKt at h
 refine zaZ (fn:=zIb) rfl rfl ?_
 delta zIb
 try simp only[go_sem]
 obtain⟨r1,hr2,h⟩:=bs h
 replace hr2:=zam hr2
 refine zaq hr2 ?_
 try simp only[go_sem]
 obtain⟨r3,hr4,h⟩:=bs h
 replace hr4:=zam hr4
 refine zaq hr4 ?_
 try simp only[go_sem]
 obtain⟨r5,hr6,h⟩:=bs h
 replace hr6:=zam hr6
 refine zaq hr6 ?_
 try simp only[go_sem]
 cases h
 rfl
def zeR (a0:Forest) (r3:Sl (Bool)) (x0:Int):St:=⟨(((((Regs.none.set 1 (.ptr 0 0 0)).set 4 (.d (.list r3.n (r3.l.map D.bool)))).set 14 (.d (.list a0.nodes.n (a0.nodes.l.map zai)))).set 15 (.d (.int .i64 (a0.nodes.l.length:Int)))).set 16 (.d (.int .i64 x0))),((Heap.at 14).set 0 (some (.els 1 [.d (zae a0)] 0)))⟩
def zib (a0:Forest) (r3:Sl (Bool)):((Unit)⊕(Int))→Ex×St:=fun r=>match r with
 |(.inl r)=>(.exit 0,⟨Regs.none,(Heap.at 14)⟩)
 |(.inr r)=>(.ret,⟨((Regs.none.set 2 (.d (.int .i64 (5)))).set 3 (.d (.int .i64 r))),(Heap.at 14)⟩)
noncomputable def zdd (a0:Forest) (r3:Sl (Bool)) (x0:Int):Option ((Int)⊕((Unit)⊕(Int))):=
 if(decide (x0<(a0.nodes.l.length:Int)))=true then
  (rd a0.nodes.l x0).bind fun y7=>
  (dec D.bool (pc prog 192 [zai y7])).bind fun r9=>
  if r9=true then
   (dec D.bool (pc prog 193 [zae a0,.int .i64 (IntKind.wrap .i64 (x0+1))])).bind fun r13=>
   if r13=true then
    (rd r3.l (IntKind.wrap .i64 (x0+1))).bind fun y17=>
    if(!y17)=true then
     some (.inr (.inr (IntKind.wrap .i64 (x0+1))))
    else
     some (.inl (IntKind.wrap .i64 (x0+1)))
   else
    some (.inr (.inr (IntKind.wrap .i64 (x0+1))))
  else
   some (.inr (.inr (IntKind.wrap .i64 (x0+1))))
 else
  some (.inr (.inl ()))
theorem zwf (a0:Forest) (r3:Sl (Bool)) (x0:Int) (o:(Int)⊕((Unit)⊕(Int))) (h:zdd a0 r3 x0=some o):Wp prog zpO (zeR a0 r3 x0) (zbJ (0,[]) (zeR a0 r3) (zib a0 r3) o):=by
 unfold zdd at h
 delta zpO zeR
 try simp only[go_sem]
 refine zaj (fun hc5=> ?_) (fun hc6=> ?_)
 ·rw[if_pos hc5]at h
  try simp only[go_sem]
  obtain⟨y7,hy8,h⟩:=bs h
  try simp only[go_sem,zab hy8,zaf hy8,zac zai hy8]
  obtain⟨r9,hr10,h⟩:=bs h
  replace hr10:=zam hr10
  refine zaq hr10 ?_
  try simp only[go_sem,zab hy8,zaf hy8,zac zai hy8]
  refine zaa (v:= .d (zae a0)) (fun hb26=>by simp only[go_sem,zab hy8,zaf hy8,zac zai hy8,hc5,hb26]) ?_
  try simp only[go_sem,zab hy8,zaf hy8,zac zai hy8]
  refine zaa (v:= .d (.int .i64 x0)) (fun hb25=>by simp only[go_sem,zab hy8,zaf hy8,zac zai hy8,hc5,hb25]) ?_
  try simp only[go_sem,zab hy8,zaf hy8,zac zai hy8]
  refine zaa (v:= .d (.int .i64 (IntKind.wrap .i64 (x0+1)))) (fun hb24=>by simp only[go_sem,zab hy8,zaf hy8,zac zai hy8,hc5,hb24]) ?_
  try simp only[go_sem,zab hy8,zaf hy8,zac zai hy8]
  refine zaG (fun hc11=> ?_) (fun hc12=> ?_)
  ·rw[if_pos hc11]at h
   try simp only[go_sem,zab hy8,zaf hy8,zac zai hy8,hc11]
   obtain⟨r13,hr14,h⟩:=bs h
   replace hr14:=zam hr14
   refine zaq hr14 ?_
   try simp only[go_sem,zab hy8,zaf hy8,zac zai hy8]
   refine zaa (v:= .d (.list r3.n (r3.l.map D.bool))) (fun hb23=>by simp only[go_sem,zab hy8,zaf hy8,zac zai hy8,hc5,hc11,hb23]) ?_
   try simp only[go_sem,zab hy8,zaf hy8,zac zai hy8]
   refine zaa (v:= .d (.int .i64 x0)) (fun hb22=>by simp only[go_sem,zab hy8,zaf hy8,zac zai hy8,hc5,hc11,hb22]) ?_
   try simp only[go_sem,zab hy8,zaf hy8,zac zai hy8]
   refine zaa (v:= .d (.int .i64 (IntKind.wrap .i64 (x0+1)))) (fun hb21=>by simp only[go_sem,zab hy8,zaf hy8,zac zai hy8,hc5,hc11,hb21]) ?_
   try simp only[go_sem,zab hy8,zaf hy8,zac zai hy8]
   refine zaG (fun hc15=> ?_) (fun hc16=> ?_)
   ·rw[if_pos hc15]at h
    try simp only[go_sem,zab hy8,zaf hy8,zac zai hy8,hc15]
    obtain⟨y17,hy18,h⟩:=bs h
    try simp only[go_sem,zab hy8,zaf hy8,zac zai hy8,zab hy18,zaf hy18,zac D.bool hy18]
    refine zaF (fun hc19=> ?_) (fun hc20=> ?_)
    ·rw[if_pos (show(!y17)=true by(rw[hc19];rfl))]at h
     try simp only[go_sem,zab hy8,zaf hy8,zac zai hy8,zab hy18,zaf hy18,zac D.bool hy18]
     cases h
     exact⟨rfl,by simp,Up.of (N:=14) (N':=43) [] rfl rfl (by decide) (.set (.d _) (.set (.d _) zan.none)) zao.at⟩
    rw[if_neg (ffn hc20)]at h
    try simp only[go_sem,zab hy8,zaf hy8,zac zai hy8,zab hy18,zaf hy18,zac D.bool hy18]
    cases h
    exact⟨rfl,Up.of (N:=14) (N':=41) [] rfl rfl (by decide) (.set (.d _) (.set (.d _) (.set (.d _) (.set (.d _) (.set (.ptr' rfl) zan.none))))) (.set zat.refl_d zao.at)⟩
   rw[if_neg (ff hc16)]at h
   try simp only[go_sem,zab hy8,zaf hy8,zac zai hy8,hc16]
   cases h
   exact⟨rfl,by simp,Up.of (N:=14) (N':=43) [] rfl rfl (by decide) (.set (.d _) (.set (.d _) zan.none)) zao.at⟩
  rw[if_neg (ff hc12)]at h
  try simp only[go_sem,zab hy8,zaf hy8,zac zai hy8,hc12]
  cases h
  exact⟨rfl,by simp,Up.of (N:=14) (N':=43) [] rfl rfl (by decide) (.set (.d _) (.set (.d _) zan.none)) zao.at⟩
 rw[if_neg (ff hc6)]at h
 try simp only[go_sem]
 cases h
 exact⟨rfl,by simp,Up.of (N:=14) (N':=15) [] rfl rfl (by decide) zan.none zao.at⟩
noncomputable def zKv (a0:Forest):Option (Int×Int):=
 if(decide (4096<(a0.nodes.l.length:Int)))=true then
  some (5,0)
 else
  (dec (eSl D.bool) (pc prog 191 [zae a0])).bind fun r3=>
  (zaP (zdd a0 r3) 0).bind fun r27=>
  match r27 with
  |(.inl q29)=>
   some (0,0)
  |(.inr q30)=>
   some (5,q30)
theorem zKw (a0:Forest) (r:Int×Int) (h:zKv a0=some r):pc prog 157 [zae a0]=some ((eT2 (D.int .i64) (D.int .i64)) r):=by
 unfold zKv at h
 refine zaZ (fn:=zIc) rfl rfl ?_
 delta zIc
 try simp only[go_sem]
 refine zaj (fun hc1=> ?_) (fun hc2=> ?_)
 ·rw[if_pos hc1]at h
  try simp only[go_sem]
  cases h
  rfl
 rw[if_neg (ff hc2)]at h
 try simp only[go_sem]
 obtain⟨r3,hr4,h⟩:=bs h
 replace hr4:=zam hr4
 refine zaq hr4 ?_
 try simp only[go_sem]
 obtain⟨r27,hl28,h⟩:=bs h
 refine Wp.loopR zbi (n:=(0,[])) (a:=zpO) rfl (zeR a0 r3) (zib a0 r3) (zwf a0 r3) hl28 ?_ (by(repeat(first|refine Clo.block ?_|refine Clo.seq zbi rfl ?_));(exact Clo.ret)) ?_
 ·show Up (0,[]) (zeR a0 r3 0) _
  delta zeR
  exact Up.of (N:=14) (N':=14) [] rfl rfl (by decide) (.set (.d _) (.set (.d _) (.set (.d _) (.set (.d _) (.set (.ptr' rfl) zan.none))))) (.set zat.refl_d zao.at)
 rcases r27 with(q29|q30)
 ·dsimp only at h
  dsimp only[zib]
  try simp only[go_sem]
  cases h
  rfl
 dsimp only at h
 dsimp only[zib]
 try simp only[go_sem]
 cases h
 rfl
noncomputable def zKx (a0:Node):Option (Bool):=
 (dec D.bool (pc prog 202 [.int .u8 a0.kind])).bind fun r1=>
 (if(!(bif (bif (bif (!r1)then true else(decide (1024<(a0.public_.length:Int))))then true else(decide (1024<(a0.system.length:Int))))then true else(decide (16384<(a0.data.l.length:Int)))))=true then
  (dec D.bool (pc prog 203 [.list a0.attrs.n (a0.attrs.l.map zaJ)])).bind fun r5=>
  some (!r5)
 else
  some true:Option ((Bool))).bind fun r7=>
 if r7=true then
  some false
 else
  (if(a0.kind==1)=true then
   (dec D.bool (pc prog 204 [zbH a0.name])).bind fun r13=>
   if(!r13)=true then
    some (.inr ())
   else
    some (.inl ())
  else
   (if(bif (a0.kind==10)then true else(a0.kind==7))=true then
    if(bif (bif (!(decide (a0.name=(⟨[],[],a0.name.local_⟩:Name))))then true else(a0.name.local_==[]))then true else(decide (1024<(a0.name.local_.length:Int))))=true then
     some (.inr ())
    else
     some (.inl ())
   else
    if(!(decide (a0.name=(⟨[],[],[]⟩:Name))))=true then
     some (.inr ())
    else
     some (.inl ()):Option ((Unit)⊕(Unit))).bind fun r32=>
   match r32 with
   |(.inl q34)=>
    some (.inl ())
   |(.inr q35)=>
    some (.inr ()):Option ((Unit)⊕(Unit))).bind fun r38=>
  match r38 with
  |(.inl q40)=>
   (if(!(a0.kind==10))=true then
    if(!(bif (!(a0.public_==[]))then true else(!(a0.system==[]))))=true then
     (dec D.bool (pc prog 115 [.int .u8 a0.kind])).bind fun r45=>
     if(!(bif (!r45)then(decide (0<(a0.data.l.length:Int)))else false))=true then
      (dec D.bool (pc prog 73 [.int .u8 a0.kind])).bind fun r49=>
      some (bif (!r49)then(decide (0<(a0.kids.l.length:Int)))else false)
     else
      some true
    else
     some true
   else
    (dec D.bool (pc prog 115 [.int .u8 a0.kind])).bind fun r61=>
    if(!(bif (!r61)then(decide (0<(a0.data.l.length:Int)))else false))=true then
     (dec D.bool (pc prog 73 [.int .u8 a0.kind])).bind fun r65=>
     some (bif (!r65)then(decide (0<(a0.kids.l.length:Int)))else false)
    else
     some true:Option ((Bool))).bind fun r76=>
   if r76=true then
    some false
   else
    (if(!(a0.kind==1))=true then
     if(!(bif (decide (0<(a0.attrs.l.length:Int)))then true else(!(a0.shadow==0))))=true then
      some (bif (!(a0.kind==9))then a0.hTML else false)
     else
      some true
    else
     some (bif (!(a0.kind==9))then a0.hTML else false):Option ((Bool))).bind fun r95=>
    if r95=true then
     some false
    else
     (if(a0.kind==12)=true then
      if(bif (!(a0.mode==1))then(!(a0.mode==2))else false)=true then
       some (.inr ())
      else
       some (.inl ())
     else
      if(bif (bif (!(a0.mode==0))then true else a0.manual)then true else(!(a0.host==0)))=true then
       some (.inr ())
      else
       some (.inl ()):Option ((Unit)⊕(Unit))).bind fun r113=>
     match r113 with
     |(.inl q115)=>
      if(!(a0.parent==0))=true then
       some (bif (bif (!(a0.kind==9))then(!(a0.kind==11))else false)then(!(a0.kind==12))else false)
      else
       some true
     |(.inr q129)=>
      some false
  |(.inr q157)=>
   some false
theorem zKy (a0:Node) (r:Bool) (h:zKx a0=some r):pc prog 162 [zai a0]=some (D.bool r):=by
 unfold zKx at h
 refine zaZ (fn:=zId) rfl rfl ?_
 delta zId
 try simp only[go_sem]
 obtain⟨r1,hr2,h⟩:=bs h
 replace hr2:=zam hr2
 refine zaq hr2 ?_
 try simp only[go_sem]
 refine zaa (v:= .ptr 0 0 4) (fun hb171=>by simp only[go_sem,hb171]) ?_
 try simp only[go_sem]
 refine zaa (v:= .d (.str a0.public_)) (fun hb170=>by simp only[go_sem,hb170]) ?_
 try simp only[go_sem]
 refine zaa (v:= .d (.int .i64 (a0.public_.length:Int))) (fun hb169=>by simp only[go_sem,hb169]) ?_
 try simp only[go_sem]
 refine zaa (v:= .d (.bool (decide (1024<(a0.public_.length:Int))))) (fun hb168=>by simp only[go_sem,hb168]) ?_
 try simp only[go_sem]
 refine zaa (v:= .ptr 0 0 5) (fun hb167=>by simp only[go_sem,hb167]) ?_
 try simp only[go_sem]
 refine zaa (v:= .d (.str a0.system)) (fun hb166=>by simp only[go_sem,hb166]) ?_
 try simp only[go_sem]
 refine zaa (v:= .d (.int .i64 (a0.system.length:Int))) (fun hb165=>by simp only[go_sem,hb165]) ?_
 try simp only[go_sem]
 refine zaa (v:= .d (.bool (decide (1024<(a0.system.length:Int))))) (fun hb164=>by simp only[go_sem,hb164]) ?_
 try simp only[go_sem]
 refine zaa (v:= .ptr 0 0 6) (fun hb163=>by simp only[go_sem,hb163]) ?_
 try simp only[go_sem]
 refine zaa (v:= .d (.list a0.data.n (a0.data.l.map (D.int .u16)))) (fun hb162=>by simp only[go_sem,hb162]) ?_
 try simp only[go_sem]
 refine zaa (v:= .d (.int .i64 (a0.data.l.length:Int))) (fun hb161=>by simp only[go_sem,hb161]) ?_
 try simp only[go_sem]
 refine zaa (v:= .d (.bool (decide (16384<(a0.data.l.length:Int))))) (fun hb160=>by simp only[go_sem,hb160]) ?_
 try simp only[go_sem]
 refine zaa (v:= .ptr 0 0 7) (fun hb159=>by simp only[go_sem,hb159]) ?_
 try simp only[go_sem]
 refine zaa (v:= .d (.list a0.attrs.n (a0.attrs.l.map zaJ))) (fun hb158=>by simp only[go_sem,hb158]) ?_
 try simp only[go_sem]
 obtain⟨r7,hl8,h⟩:=bs h
 refine zbW.cut (n:=(0,[])) .normal ⟨(((Regs.none.set 1 (.ptr 0 0 0)).set 3 (.d (.int .u8 a0.kind))).set 32 (.d (.bool r7))),((Heap.at 32).set 0 (some (.els 16 [.d (zai a0)] 0)))⟩ ?_ (by(repeat(refine Clo.seq zbi rfl ?_));(exact Clo.ret)) ?_
 ·replace h:=hl8
  refine zaE (fun hc3=> ?_) (fun hc4=> ?_)
  ·rw[if_pos (show(!(bif (bif (bif (!r1)then true else(decide (1024<(a0.public_.length:Int))))then true else(decide (1024<(a0.system.length:Int))))then true else(decide (16384<(a0.data.l.length:Int)))))=true by(rw[hc3];rfl))]at h
   try simp only[go_sem,hc3]
   obtain⟨r5,hr6,h⟩:=bs h
   replace hr6:=zam hr6
   refine zaq hr6 ?_
   try simp only[go_sem]
   cases h
   exact⟨rfl,Up.of (N:=32) (N':=32) [] rfl rfl (by decide) (.set (.d _) (.set (.d _) (.set (.ptr' rfl) zan.none))) (.set zat.refl_d zao.at)⟩
  rw[if_neg (ffn hc4)]at h
  try simp only[go_sem,hc4]
  cases h
  exact⟨rfl,Up.of (N:=32) (N':=32) [] rfl rfl (by decide) (.set (.d _) (.set (.d _) (.set (.ptr' rfl) zan.none))) (.set zat.refl_d zao.at)⟩
 try simp only[go_sem]
 refine zaj (fun hc9=> ?_) (fun hc10=> ?_)
 ·rw[if_pos hc9]at h
  try simp only[go_sem]
  cases h
  rfl
 rw[if_neg (ff hc10)]at h
 try simp only[go_sem]
 obtain⟨r38,hl39,h⟩:=bs h
 refine WBr.cut (n:=(0,[])) ((fun r=>match r with|(.inl r)=>(.normal,⟨((Regs.none.set 1 (.ptr 0 0 0)).set 3 (.d (.int .u8 a0.kind))),((Heap.at 35).set 0 (some (.els 16 [.d (zai a0)] 0)))⟩)|(.inr r)=>(.ret,⟨(Regs.none.set 2 (.d (.bool false))),(Heap.at 35)⟩):((Unit)⊕(Unit))→Ex×St) r38).1 ((fun r=>match r with|(.inl r)=>(.normal,⟨((Regs.none.set 1 (.ptr 0 0 0)).set 3 (.d (.int .u8 a0.kind))),((Heap.at 35).set 0 (some (.els 16 [.d (zai a0)] 0)))⟩)|(.inr r)=>(.ret,⟨(Regs.none.set 2 (.d (.bool false))),(Heap.at 35)⟩):((Unit)⊕(Unit))→Ex×St) r38).2 ?_ (by(repeat(first|refine Clo.block ?_|refine Clo.seq zbi rfl ?_));(exact Clo.ret)) ?_
 ·replace h:=hl39
  refine zaj (fun hc11=> ?_) (fun hc12=> ?_)
  ·rw[if_pos hc11]at h
   try simp only[go_sem]
   obtain⟨r13,hr14,h⟩:=bs h
   replace hr14:=zam hr14
   refine zaq hr14 ?_
   try simp only[go_sem]
   refine zaF (fun hc15=> ?_) (fun hc16=> ?_)
   ·rw[if_pos (show(!r13)=true by(rw[hc15];rfl))]at h
    try simp only[go_sem]
    cases h
    exact⟨rfl,Up.of (N:=35) (N':=40) [] rfl rfl (by decide) (.set (.d _) zan.none) zao.at⟩
   rw[if_neg (ffn hc16)]at h
   try simp only[go_sem]
   cases h
   exact⟨rfl,Up.of (N:=35) (N':=39) [] rfl rfl (by decide) (.set (.d _) (.set (.ptr' rfl) zan.none)) (.set zat.refl_d zao.at)⟩
  rw[if_neg (ff hc12)]at h
  try simp only[go_sem]
  refine zaa (v:= .d (.int .u8 a0.kind)) (fun hb37=>by simp only[go_sem,hc10,hc12,hb37]) ?_
  try simp only[go_sem]
  refine zaa (v:= .d (.bool (a0.kind==7))) (fun hb36=>by simp only[go_sem,hc10,hc12,hb36]) ?_
  try simp only[go_sem]
  obtain⟨r32,hl33,h⟩:=bs h
  refine WBr.cut (n:=(0,[])) ((fun r=>match r with|(.inl r)=>(.normal,⟨((Regs.none.set 1 (.ptr 0 0 0)).set 3 (.d (.int .u8 a0.kind))),((Heap.at 42).set 0 (some (.els 16 [.d (zai a0)] 0)))⟩)|(.inr r)=>(.ret,⟨(Regs.none.set 2 (.d (.bool false))),(Heap.at 42)⟩):((Unit)⊕(Unit))→Ex×St) r32).1 ((fun r=>match r with|(.inl r)=>(.normal,⟨((Regs.none.set 1 (.ptr 0 0 0)).set 3 (.d (.int .u8 a0.kind))),((Heap.at 42).set 0 (some (.els 16 [.d (zai a0)] 0)))⟩)|(.inr r)=>(.ret,⟨(Regs.none.set 2 (.d (.bool false))),(Heap.at 42)⟩):((Unit)⊕(Unit))→Ex×St) r32).2 ?_ (by(repeat(first|refine Clo.block ?_|refine Clo.seq zbi rfl ?_));(exact Clo.cpost (by decide))) ?_
  ·replace h:=hl33
   refine zaj (fun hc17=> ?_) (fun hc18=> ?_)
   ·rw[if_pos hc17]at h
    try simp only[go_sem]
    refine zaa (v:= .ptr 0 0 1) (fun hb29=>by simp only[go_sem,hc10,hc12,hc17,hb29]) ?_
    try simp only[go_sem]
    refine zaa (v:= .ptr 0 0 3) (fun hb28=>by simp only[go_sem,hc10,hc12,hc17,hb28]) ?_
    try simp only[go_sem]
    refine zaa (v:= .d (.str a0.name.local_)) (fun hb27=>by simp only[go_sem,hc10,hc12,hc17,hb27]) ?_
    try simp only[go_sem]
    refine zaa (v:= .d (.bool (a0.name.local_==[]))) (fun hb26=>by simp only[go_sem,hc10,hc12,hc17,hb26]) ?_
    try simp only[go_sem]
    refine zaa (v:= .ptr 0 0 1) (fun hb25=>by simp only[go_sem,hc10,hc12,hc17,hb25]) ?_
    try simp only[go_sem]
    refine zaa (v:= .ptr 0 0 3) (fun hb24=>by simp only[go_sem,hc10,hc12,hc17,hb24]) ?_
    try simp only[go_sem]
    refine zaa (v:= .d (.str a0.name.local_)) (fun hb23=>by simp only[go_sem,hc10,hc12,hc17,hb23]) ?_
    try simp only[go_sem]
    refine zaa (v:= .d (.int .i64 (a0.name.local_.length:Int))) (fun hb22=>by simp only[go_sem,hc10,hc12,hc17,hb22]) ?_
    try simp only[go_sem]
    refine zaa (v:= .d (.bool (decide (1024<(a0.name.local_.length:Int))))) (fun hb21=>by simp only[go_sem,hc10,hc12,hc17,hb21]) ?_
    try simp only[go_sem]
    refine zaj (fun hc19=> ?_) (fun hc20=> ?_)
    ·rw[if_pos hc19]at h
     try simp only[go_sem]
     cases h
     exact⟨rfl,Up.of (N:=42) (N':=63) [] rfl rfl (by decide) (.set (.d _) zan.none) zao.at⟩
    rw[if_neg (ff hc20)]at h
    try simp only[go_sem]
    cases h
    exact⟨rfl,Up.of (N:=42) (N':=62) [] rfl rfl (by decide) (.set (.d _) (.set (.ptr' rfl) zan.none)) (.set zat.refl_d zao.at)⟩
   rw[if_neg (ff hc18)]at h
   try simp only[go_sem]
   refine zaF (fun hc30=> ?_) (fun hc31=> ?_)
   ·rw[if_pos (show(!(decide (a0.name=(⟨[],[],[]⟩:Name))))=true by(rw[hc30];rfl))]at h
    try simp only[go_sem]
    cases h
    exact⟨rfl,Up.of (N:=42) (N':=48) [] rfl rfl (by decide) (.set (.d _) zan.none) zao.at⟩
   rw[if_neg (ffn hc31)]at h
   try simp only[go_sem]
   cases h
   exact⟨rfl,Up.of (N:=42) (N':=47) [] rfl rfl (by decide) (.set (.d _) (.set (.ptr' rfl) zan.none)) (.set zat.refl_d zao.at)⟩
  rcases r32 with(q34|q35)
  ·dsimp only at h⊢
   cases h
   exact⟨rfl,Up.of (N:=35) (N':=42) [] rfl rfl (by decide) (.set (.d _) (.set (.ptr' rfl) zan.none)) (.set zat.refl_d zao.at)⟩
  dsimp only at h⊢
  cases h
  exact⟨rfl,Up.of (N:=35) (N':=42) [] rfl rfl (by decide) (.set (.d _) zan.none) zao.at⟩
 rcases r38 with(q40|q157)
 ·dsimp only at h⊢
  try simp only[go_sem]
  refine zaa (v:= .ptr 0 0 4) (fun hb156=>by simp only[go_sem,hc10,hb156]) ?_
  try simp only[go_sem]
  refine zaa (v:= .d (.str a0.public_)) (fun hb155=>by simp only[go_sem,hc10,hb155]) ?_
  try simp only[go_sem]
  refine zaa (v:= .d (.bool (!(a0.public_==[])))) (fun hb154=>by simp only[go_sem,hc10,hb154]) ?_
  try simp only[go_sem]
  refine zaa (v:= .d (.bool (!(a0.public_==[])))) (fun hb153=>by simp only[go_sem,hc10,hb153]) ?_
  try simp only[go_sem]
  refine zaa (v:= .ptr 0 0 5) (fun hb150=>by((obtain⟨hb151,hb152⟩:=zaB hb150));simp only[go_sem,hc10,hb152,hb151]) ?_
  try simp only[go_sem]
  refine zaa (v:= .d (.str a0.system)) (fun hb147=>by((obtain⟨hb148,hb149⟩:=zaB hb147));simp only[go_sem,hc10,hb149,hb148]) ?_
  try simp only[go_sem]
  refine zaa (v:= .d (.bool (!(a0.system==[])))) (fun hb144=>by((obtain⟨hb145,hb146⟩:=zaB hb144));simp only[go_sem,hc10,hb146,hb145]) ?_
  try simp only[go_sem]
  obtain⟨r76,hl77,h⟩:=bs h
  refine zbW.cut (n:=(0,[])) .normal ⟨(((Regs.none.set 1 (.ptr 0 0 0)).set 3 (.d (.int .u8 a0.kind))).set 105 (.d (.bool r76))),((Heap.at 69).set 0 (some (.els 16 [.d (zai a0)] 0)))⟩ ?_ (by(repeat(refine Clo.seq zbi rfl ?_));(exact Clo.ret)) ?_
  ·replace h:=hl77
   refine zaE (fun hc41=> ?_) (fun hc42=> ?_)
   ·rw[if_pos (show(!(a0.kind==10))=true by(rw[hc41];rfl))]at h
    try simp only[go_sem,hc41]
    refine zaa (v:= .d (.int .u8 a0.kind)) (fun hb60=>by simp only[go_sem,hc10,hc41,hb60]) ?_
    try simp only[go_sem]
    refine zaE (fun hc43=> ?_) (fun hc44=> ?_)
    ·rw[if_pos (show(!(bif (!(a0.public_==[]))then true else(!(a0.system==[]))))=true by(rw[hc43];rfl))]at h
     try simp only[go_sem,hc43]
     obtain⟨r45,hr46,h⟩:=bs h
     replace hr46:=zam hr46
     refine zaq hr46 ?_
     try simp only[go_sem]
     refine zaa (v:= .ptr 0 0 6) (fun hb59=>by simp only[go_sem,hc10,hc41,hc43,hb59]) ?_
     try simp only[go_sem]
     refine zaa (v:= .d (.list a0.data.n (a0.data.l.map (D.int .u16)))) (fun hb58=>by simp only[go_sem,hc10,hc41,hc43,hb58]) ?_
     try simp only[go_sem]
     refine zaa (v:= .d (.int .i64 (a0.data.l.length:Int))) (fun hb57=>by simp only[go_sem,hc10,hc41,hc43,hb57]) ?_
     try simp only[go_sem]
     refine zaa (v:= .d (.bool (decide (0<(a0.data.l.length:Int))))) (fun hb56=>by simp only[go_sem,hc10,hc41,hc43,hb56]) ?_
     try simp only[go_sem]
     refine zaa (v:= .d (.int .u8 a0.kind)) (fun hb55=>by simp only[go_sem,hc10,hc41,hc43,hb55]) ?_
     try simp only[go_sem]
     refine zaE (fun hc47=> ?_) (fun hc48=> ?_)
     ·rw[if_pos (show(!(bif (!r45)then(decide (0<(a0.data.l.length:Int)))else false))=true by(rw[hc47];rfl))]at h
      try simp only[go_sem,hc47]
      obtain⟨r49,hr50,h⟩:=bs h
      replace hr50:=zam hr50
      refine zaq hr50 ?_
      try simp only[go_sem]
      refine zaa (v:= .ptr 0 0 9) (fun hb54=>by simp only[go_sem,hc10,hc41,hc43,hc47,hb54]) ?_
      try simp only[go_sem]
      refine zaa (v:= .d (.list a0.kids.n (a0.kids.l.map (D.int .i64)))) (fun hb53=>by simp only[go_sem,hc10,hc41,hc43,hc47,hb53]) ?_
      try simp only[go_sem]
      refine zaa (v:= .d (.int .i64 (a0.kids.l.length:Int))) (fun hb52=>by simp only[go_sem,hc10,hc41,hc43,hc47,hb52]) ?_
      try simp only[go_sem]
      refine zaa (v:= .d (.bool (decide (0<(a0.kids.l.length:Int))))) (fun hb51=>by simp only[go_sem,hc10,hc41,hc43,hc47,hb51]) ?_
      try simp only[go_sem]
      cases h
      exact⟨rfl,Up.of (N:=69) (N':=69) [] rfl rfl (by decide) (.set (.d _) (.set (.d _) (.set (.ptr' rfl) zan.none))) (.set zat.refl_d zao.at)⟩
     rw[if_neg (ffn hc48)]at h
     try simp only[go_sem,hc48]
     cases h
     exact⟨rfl,Up.of (N:=69) (N':=69) [] rfl rfl (by decide) (.set (.d _) (.set (.d _) (.set (.ptr' rfl) zan.none))) (.set zat.refl_d zao.at)⟩
    rw[if_neg (ffn hc44)]at h
    try simp only[go_sem,hc44]
    cases h
    exact⟨rfl,Up.of (N:=69) (N':=69) [] rfl rfl (by decide) (.set (.d _) (.set (.d _) (.set (.ptr' rfl) zan.none))) (.set zat.refl_d zao.at)⟩
   rw[if_neg (ffn hc42)]at h
   try simp only[go_sem,hc42]
   obtain⟨r61,hr62,h⟩:=bs h
   replace hr62:=zam hr62
   refine zaq hr62 ?_
   try simp only[go_sem]
   refine zaa (v:= .ptr 0 0 6) (fun hb75=>by simp only[go_sem,hc10,hc42,hb75]) ?_
   try simp only[go_sem]
   refine zaa (v:= .d (.list a0.data.n (a0.data.l.map (D.int .u16)))) (fun hb74=>by simp only[go_sem,hc10,hc42,hb74]) ?_
   try simp only[go_sem]
   refine zaa (v:= .d (.int .i64 (a0.data.l.length:Int))) (fun hb73=>by simp only[go_sem,hc10,hc42,hb73]) ?_
   try simp only[go_sem]
   refine zaa (v:= .d (.bool (decide (0<(a0.data.l.length:Int))))) (fun hb72=>by simp only[go_sem,hc10,hc42,hb72]) ?_
   try simp only[go_sem]
   refine zaa (v:= .d (.int .u8 a0.kind)) (fun hb71=>by simp only[go_sem,hc10,hc42,hb71]) ?_
   try simp only[go_sem]
   refine zaE (fun hc63=> ?_) (fun hc64=> ?_)
   ·rw[if_pos (show(!(bif (!r61)then(decide (0<(a0.data.l.length:Int)))else false))=true by(rw[hc63];rfl))]at h
    try simp only[go_sem,hc63]
    obtain⟨r65,hr66,h⟩:=bs h
    replace hr66:=zam hr66
    refine zaq hr66 ?_
    try simp only[go_sem]
    refine zaa (v:= .ptr 0 0 9) (fun hb70=>by simp only[go_sem,hc10,hc42,hc63,hb70]) ?_
    try simp only[go_sem]
    refine zaa (v:= .d (.list a0.kids.n (a0.kids.l.map (D.int .i64)))) (fun hb69=>by simp only[go_sem,hc10,hc42,hc63,hb69]) ?_
    try simp only[go_sem]
    refine zaa (v:= .d (.int .i64 (a0.kids.l.length:Int))) (fun hb68=>by simp only[go_sem,hc10,hc42,hc63,hb68]) ?_
    try simp only[go_sem]
    refine zaa (v:= .d (.bool (decide (0<(a0.kids.l.length:Int))))) (fun hb67=>by simp only[go_sem,hc10,hc42,hc63,hb67]) ?_
    try simp only[go_sem]
    cases h
    exact⟨rfl,Up.of (N:=69) (N':=69) [] rfl rfl (by decide) (.set (.d _) (.set (.d _) (.set (.ptr' rfl) zan.none))) (.set zat.refl_d zao.at)⟩
   rw[if_neg (ffn hc64)]at h
   try simp only[go_sem,hc64]
   cases h
   exact⟨rfl,Up.of (N:=69) (N':=69) [] rfl rfl (by decide) (.set (.d _) (.set (.d _) (.set (.ptr' rfl) zan.none))) (.set zat.refl_d zao.at)⟩
  try simp only[go_sem]
  refine zaj (fun hc78=> ?_) (fun hc79=> ?_)
  ·rw[if_pos hc78]at h
   try simp only[go_sem]
   cases h
   rfl
  rw[if_neg (ff hc79)]at h
  try simp only[go_sem]
  refine zaa (v:= .ptr 0 0 7) (fun hb143=>by simp only[go_sem,hc10,hc79,hb143]) ?_
  try simp only[go_sem]
  refine zaa (v:= .d (.list a0.attrs.n (a0.attrs.l.map zaJ))) (fun hb142=>by simp only[go_sem,hc10,hc79,hb142]) ?_
  try simp only[go_sem]
  refine zaa (v:= .d (.int .i64 (a0.attrs.l.length:Int))) (fun hb141=>by simp only[go_sem,hc10,hc79,hb141]) ?_
  try simp only[go_sem]
  refine zaa (v:= .d (.bool (decide (0<(a0.attrs.l.length:Int))))) (fun hb140=>by simp only[go_sem,hc10,hc79,hb140]) ?_
  try simp only[go_sem]
  refine zaa (v:= .d (.bool (decide (0<(a0.attrs.l.length:Int))))) (fun hb139=>by simp only[go_sem,hc10,hc79,hb139]) ?_
  try simp only[go_sem]
  refine zaa (v:= .ptr 0 0 12) (fun hb136=>by((obtain⟨hb137,hb138⟩:=zaB hb136));simp only[go_sem,hc10,hc79,hb138,hb137]) ?_
  try simp only[go_sem]
  refine zaa (v:= .d (.int .i64 a0.shadow)) (fun hb133=>by((obtain⟨hb134,hb135⟩:=zaB hb133));simp only[go_sem,hc10,hc79,hb135,hb134]) ?_
  try simp only[go_sem]
  refine zaa (v:= .d (.bool (!(a0.shadow==0)))) (fun hb130=>by((obtain⟨hb131,hb132⟩:=zaB hb130));simp only[go_sem,hc10,hc79,hb132,hb131]) ?_
  try simp only[go_sem]
  obtain⟨r95,hl96,h⟩:=bs h
  refine zbW.cut (n:=(0,[])) .normal ⟨(((Regs.none.set 1 (.ptr 0 0 0)).set 3 (.d (.int .u8 a0.kind))).set 126 (.d (.bool r95))),((Heap.at 90).set 0 (some (.els 16 [.d (zai a0)] 0)))⟩ ?_ (by(repeat(refine Clo.seq zbi rfl ?_));(exact Clo.ret)) ?_
  ·replace h:=hl96
   refine zaE (fun hc80=> ?_) (fun hc81=> ?_)
   ·rw[if_pos (show(!(a0.kind==1))=true by(rw[hc80];rfl))]at h
    try simp only[go_sem,hc80]
    refine zaa (v:= .d (.int .u8 a0.kind)) (fun hb92=>by simp only[go_sem,hc10,hc79,hc80,hb92]) ?_
    try simp only[go_sem]
    refine zaa (v:= .d (.bool (!(a0.kind==9)))) (fun hb91=>by simp only[go_sem,hc10,hc79,hc80,hb91]) ?_
    try simp only[go_sem]
    refine zaa (v:= .d (.bool (!(a0.kind==9)))) (fun hb90=>by simp only[go_sem,hc10,hc79,hc80,hb90]) ?_
    try simp only[go_sem]
    refine zaa (v:= .ptr 0 0 15) (fun hb87=>by((obtain⟨hb88,hb89⟩:=zaB hb87));simp only[go_sem,hc10,hc79,hc80,hb89,hb88]) ?_
    try simp only[go_sem]
    refine zaa (v:= .d (.bool a0.hTML)) (fun hb84=>by((obtain⟨hb85,hb86⟩:=zaB hb84));simp only[go_sem,hc10,hc79,hc80,hb86,hb85]) ?_
    try simp only[go_sem]
    refine zaE (fun hc82=> ?_) (fun hc83=> ?_)
    ·rw[if_pos (show(!(bif (decide (0<(a0.attrs.l.length:Int)))then true else(!(a0.shadow==0))))=true by(rw[hc82];rfl))]at h
     try simp only[go_sem,hc82]
     cases h
     exact⟨rfl,Up.of (N:=90) (N':=90) [] rfl rfl (by decide) (.set (.d _) (.set (.d _) (.set (.ptr' rfl) zan.none))) (.set zat.refl_d zao.at)⟩
    rw[if_neg (ffn hc83)]at h
    try simp only[go_sem,hc83]
    cases h
    exact⟨rfl,Up.of (N:=90) (N':=90) [] rfl rfl (by decide) (.set (.d _) (.set (.d _) (.set (.ptr' rfl) zan.none))) (.set zat.refl_d zao.at)⟩
   rw[if_neg (ffn hc81)]at h
   try simp only[go_sem,hc81]
   refine zaa (v:= .ptr 0 0 15) (fun hb94=>by simp only[go_sem,hc10,hc79,hc81,hb94]) ?_
   try simp only[go_sem]
   refine zaa (v:= .d (.bool a0.hTML)) (fun hb93=>by simp only[go_sem,hc10,hc79,hc81,hb93]) ?_
   try simp only[go_sem]
   cases h
   exact⟨rfl,Up.of (N:=90) (N':=90) [] rfl rfl (by decide) (.set (.d _) (.set (.d _) (.set (.ptr' rfl) zan.none))) (.set zat.refl_d zao.at)⟩
  try simp only[go_sem]
  refine zaj (fun hc97=> ?_) (fun hc98=> ?_)
  ·rw[if_pos hc97]at h
   try simp only[go_sem]
   cases h
   rfl
  rw[if_neg (ff hc98)]at h
  try simp only[go_sem]
  obtain⟨r113,hl114,h⟩:=bs h
  refine WBr.cut (n:=(0,[])) ((fun r=>match r with|(.inl r)=>(.normal,⟨((Regs.none.set 1 (.ptr 0 0 0)).set 3 (.d (.int .u8 a0.kind))),((Heap.at 92).set 0 (some (.els 16 [.d (zai a0)] 0)))⟩)|(.inr r)=>(.ret,⟨(Regs.none.set 2 (.d (.bool false))),(Heap.at 92)⟩):((Unit)⊕(Unit))→Ex×St) r113).1 ((fun r=>match r with|(.inl r)=>(.normal,⟨((Regs.none.set 1 (.ptr 0 0 0)).set 3 (.d (.int .u8 a0.kind))),((Heap.at 92).set 0 (some (.els 16 [.d (zai a0)] 0)))⟩)|(.inr r)=>(.ret,⟨(Regs.none.set 2 (.d (.bool false))),(Heap.at 92)⟩):((Unit)⊕(Unit))→Ex×St) r113).2 ?_ (by(repeat(refine Clo.seq zbi rfl ?_));(exact Clo.ret)) ?_
  ·replace h:=hl114
   refine zaj (fun hc99=> ?_) (fun hc100=> ?_)
   ·rw[if_pos hc99]at h
    try simp only[go_sem]
    refine zaa (v:= .ptr 0 0 13) (fun hb105=>by simp only[go_sem,hc10,hc79,hc98,hc99,hb105]) ?_
    try simp only[go_sem]
    refine zaa (v:= .d (.int .u8 a0.mode)) (fun hb104=>by simp only[go_sem,hc10,hc79,hc98,hc99,hb104]) ?_
    try simp only[go_sem]
    refine zaa (v:= .d (.bool (!(a0.mode==2)))) (fun hb103=>by simp only[go_sem,hc10,hc79,hc98,hc99,hb103]) ?_
    try simp only[go_sem]
    refine zaj (fun hc101=> ?_) (fun hc102=> ?_)
    ·rw[if_pos hc101]at h
     try simp only[go_sem]
     cases h
     exact⟨rfl,Up.of (N:=92) (N':=101) [] rfl rfl (by decide) (.set (.d _) zan.none) zao.at⟩
    rw[if_neg (ff hc102)]at h
    try simp only[go_sem]
    cases h
    exact⟨rfl,Up.of (N:=92) (N':=100) [] rfl rfl (by decide) (.set (.d _) (.set (.ptr' rfl) zan.none)) (.set zat.refl_d zao.at)⟩
   rw[if_neg (ff hc100)]at h
   try simp only[go_sem]
   refine zaa (v:= .ptr 0 0 14) (fun hb112=>by simp only[go_sem,hc10,hc79,hc98,hc100,hb112]) ?_
   try simp only[go_sem]
   refine zaa (v:= .d (.bool a0.manual)) (fun hb111=>by simp only[go_sem,hc10,hc79,hc98,hc100,hb111]) ?_
   try simp only[go_sem]
   refine zaa (v:= .ptr 0 0 11) (fun hb110=>by simp only[go_sem,hc10,hc79,hc98,hc100,hb110]) ?_
   try simp only[go_sem]
   refine zaa (v:= .d (.int .i64 a0.host)) (fun hb109=>by simp only[go_sem,hc10,hc79,hc98,hc100,hb109]) ?_
   try simp only[go_sem]
   refine zaa (v:= .d (.bool (!(a0.host==0)))) (fun hb108=>by simp only[go_sem,hc10,hc79,hc98,hc100,hb108]) ?_
   try simp only[go_sem]
   refine zaj (fun hc106=> ?_) (fun hc107=> ?_)
   ·rw[if_pos hc106]at h
    try simp only[go_sem]
    cases h
    exact⟨rfl,Up.of (N:=92) (N':=105) [] rfl rfl (by decide) (.set (.d _) zan.none) zao.at⟩
   rw[if_neg (ff hc107)]at h
   try simp only[go_sem]
   cases h
   exact⟨rfl,Up.of (N:=92) (N':=104) [] rfl rfl (by decide) (.set (.d _) (.set (.ptr' rfl) zan.none)) (.set zat.refl_d zao.at)⟩
  rcases r113 with(q115|q129)
  ·dsimp only at h⊢
   try simp only[go_sem]
   refine zaa (v:= .d (.int .u8 a0.kind)) (fun hb128=>by simp only[go_sem,hc10,hc79,hc98,hb128]) ?_
   try simp only[go_sem]
   refine zaa (v:= .d (.bool (!(a0.kind==9)))) (fun hb127=>by simp only[go_sem,hc10,hc79,hc98,hb127]) ?_
   try simp only[go_sem]
   refine zaa (v:= .d (.bool (!(a0.kind==9)))) (fun hb126=>by simp only[go_sem,hc10,hc79,hc98,hb126]) ?_
   try simp only[go_sem]
   refine zaa (v:= .d (.int .u8 a0.kind)) (fun hb123=>by((obtain⟨hb124,hb125⟩:=zaB hb123));simp only[go_sem,hc10,hc79,hc98,hb125,hb124]) ?_
   try simp only[go_sem]
   refine zaa (v:= .d (.bool (!(a0.kind==11)))) (fun hb120=>by((obtain⟨hb121,hb122⟩:=zaB hb120));simp only[go_sem,hc10,hc79,hc98,hb122,hb121]) ?_
   try simp only[go_sem]
   refine zaE (fun hc116=> ?_) (fun hc117=> ?_)
   ·rw[if_pos (show(!(a0.parent==0))=true by(rw[hc116];rfl))]at h
    try simp only[go_sem,hc116]
    refine zaa (v:= .d (.int .u8 a0.kind)) (fun hb119=>by simp only[go_sem,hc10,hc79,hc98,hc116,hb119]) ?_
    try simp only[go_sem]
    refine zaa (v:= .d (.bool (!(a0.kind==12)))) (fun hb118=>by simp only[go_sem,hc10,hc79,hc98,hc116,hb118]) ?_
    try simp only[go_sem]
    cases h
    rfl
   rw[if_neg (ffn hc117)]at h
   try simp only[go_sem,hc117]
   cases h
   rfl
  dsimp only at h⊢
  try simp only[go_sem]
  cases h
  rfl
 dsimp only at h⊢
 try simp only[go_sem]
 cases h
 rfl
def zeS (a0:Forest) (a1:Int) (y1:Node) (x0:Int):St:=⟨((((((Regs.none.set 1 (.d (.int .i64 a1))).set 2 (.ptr 0 0 0)).set 5 (.ptr 8 0 0)).set 23 (.d (.list y1.kids.n (y1.kids.l.map (D.int .i64))))).set 24 (.d (.int .i64 (y1.kids.l.length:Int)))).set 25 (.d (.int .i64 x0))),(((Heap.at 14).set 0 (some (.els 1 [.d (zae a0)] 0))).set 8 (some (.els 16 [.d (zai y1)] 0)))⟩
def zic (a0:Forest) (a1:Int) (y1:Node):((Unit)⊕(Unit))→Ex×St:=fun r=>match r with
 |(.inl r)=>(.exit 0,⟨(((Regs.none.set 1 (.d (.int .i64 a1))).set 2 (.ptr 0 0 0)).set 5 (.ptr 8 0 0)),(((Heap.at 14).set 0 (some (.els 1 [.d (zae a0)] 0))).set 8 (some (.els 16 [.d (zai y1)] 0)))⟩)
 |(.inr r)=>(.ret,⟨(Regs.none.set 4 (.d (.bool false))),(Heap.at 14)⟩)
noncomputable def zde (a0:Forest) (a1:Int) (y1:Node) (x0:Int):Option ((Int)⊕((Unit)⊕(Unit))):=
 if(decide (x0<(y1.kids.l.length:Int)))=true then
  (rd y1.kids.l x0).bind fun y5=>
  (dec (eT2 zai D.bool) (pc prog 31 [zae a0,.int .i64 y5])).bind fun r7=>
  if(!(bif (!r7.2)then true else(!(r7.1.parent==a1))))=true then
   (dec (D.int .i64) (pc prog 205 [.list y1.kids.n (y1.kids.l.map (D.int .i64)),.int .i64 y5])).bind fun r11=>
   if(bif (!(r11==1))then true else(!(r7.1.doc==y1.doc)))=true then
    some (.inr (.inr ()))
   else
    some (.inl (IntKind.wrap .i64 (x0+1)))
  else
   some (.inr (.inr ()))
 else
  some (.inr (.inl ()))
theorem zwg (a0:Forest) (a1:Int) (y1:Node) (x0:Int) (o:(Int)⊕((Unit)⊕(Unit))) (h:zde a0 a1 y1 x0=some o):Wp prog zpP (zeS a0 a1 y1 x0) (zbJ (0,[]) (zeS a0 a1 y1) (zic a0 a1 y1) o):=by
 unfold zde at h
 delta zpP zeS
 try simp only[go_sem]
 refine zaj (fun hc3=> ?_) (fun hc4=> ?_)
 ·rw[if_pos hc3]at h
  try simp only[go_sem]
  obtain⟨y5,hy6,h⟩:=bs h
  try simp only[go_sem,zab hy6,zaf hy6,zac (D.int .i64) hy6]
  obtain⟨r7,hr8,h⟩:=bs h
  replace hr8:=zam hr8
  refine zaq hr8 ?_
  try simp only[go_sem,zab hy6,zaf hy6,zac (D.int .i64) hy6]
  refine zaa (v:= .ptr 24 0 8) (fun hb26=>by simp only[go_sem,zab hy6,zaf hy6,zac (D.int .i64) hy6,hc3,hb26]) ?_
  try simp only[go_sem,zab hy6,zaf hy6,zac (D.int .i64) hy6]
  refine zaa (v:= .d (.int .i64 r7.1.parent)) (fun hb25=>by simp only[go_sem,zab hy6,zaf hy6,zac (D.int .i64) hy6,hc3,hb25]) ?_
  try simp only[go_sem,zab hy6,zaf hy6,zac (D.int .i64) hy6]
  refine zaa (v:= .d (.int .i64 a1)) (fun hb24=>by simp only[go_sem,zab hy6,zaf hy6,zac (D.int .i64) hy6,hc3,hb24]) ?_
  try simp only[go_sem,zab hy6,zaf hy6,zac (D.int .i64) hy6]
  refine zaa (v:= .d (.bool (!(r7.1.parent==a1)))) (fun hb23=>by simp only[go_sem,zab hy6,zaf hy6,zac (D.int .i64) hy6,hc3,hb23]) ?_
  try simp only[go_sem,zab hy6,zaf hy6,zac (D.int .i64) hy6]
  refine zaa (v:= .ptr 8 0 9) (fun hb22=>by simp only[go_sem,zab hy6,zaf hy6,zac (D.int .i64) hy6,hc3,hb22]) ?_
  try simp only[go_sem,zab hy6,zaf hy6,zac (D.int .i64) hy6]
  refine zaa (v:= .d (.list y1.kids.n (y1.kids.l.map (D.int .i64)))) (fun hb21=>by simp only[go_sem,zab hy6,zaf hy6,zac (D.int .i64) hy6,hc3,hb21]) ?_
  try simp only[go_sem,zab hy6,zaf hy6,zac (D.int .i64) hy6]
  refine zaa (v:= .d (.int .i64 y5)) (fun hb20=>by simp only[go_sem,zab hy6,zaf hy6,zac (D.int .i64) hy6,hc3,hb20]) ?_
  try simp only[go_sem,zab hy6,zaf hy6,zac (D.int .i64) hy6]
  refine zaE (fun hc9=> ?_) (fun hc10=> ?_)
  ·rw[if_pos (show(!(bif (!r7.2)then true else(!(r7.1.parent==a1))))=true by(rw[hc9];rfl))]at h
   try simp only[go_sem,zab hy6,zaf hy6,zac (D.int .i64) hy6,hc9]
   obtain⟨r11,hr12,h⟩:=bs h
   replace hr12:=zam hr12
   refine zaq hr12 ?_
   try simp only[go_sem,zab hy6,zaf hy6,zac (D.int .i64) hy6]
   refine zaa (v:= .ptr 24 0 10) (fun hb19=>by simp only[go_sem,zab hy6,zaf hy6,zac (D.int .i64) hy6,hc3,hc9,hb19]) ?_
   try simp only[go_sem,zab hy6,zaf hy6,zac (D.int .i64) hy6]
   refine zaa (v:= .d (.int .i64 r7.1.doc)) (fun hb18=>by simp only[go_sem,zab hy6,zaf hy6,zac (D.int .i64) hy6,hc3,hc9,hb18]) ?_
   try simp only[go_sem,zab hy6,zaf hy6,zac (D.int .i64) hy6]
   refine zaa (v:= .ptr 8 0 10) (fun hb17=>by simp only[go_sem,zab hy6,zaf hy6,zac (D.int .i64) hy6,hc3,hc9,hb17]) ?_
   try simp only[go_sem,zab hy6,zaf hy6,zac (D.int .i64) hy6]
   refine zaa (v:= .d (.int .i64 y1.doc)) (fun hb16=>by simp only[go_sem,zab hy6,zaf hy6,zac (D.int .i64) hy6,hc3,hc9,hb16]) ?_
   try simp only[go_sem,zab hy6,zaf hy6,zac (D.int .i64) hy6]
   refine zaa (v:= .d (.bool (!(r7.1.doc==y1.doc)))) (fun hb15=>by simp only[go_sem,zab hy6,zaf hy6,zac (D.int .i64) hy6,hc3,hc9,hb15]) ?_
   try simp only[go_sem,zab hy6,zaf hy6,zac (D.int .i64) hy6]
   refine zaj (fun hc13=> ?_) (fun hc14=> ?_)
   ·rw[if_pos hc13]at h
    try simp only[go_sem,zab hy6,zaf hy6,zac (D.int .i64) hy6]
    cases h
    exact⟨rfl,by simp,Up.of (N:=14) (N':=50) [] rfl rfl (by decide) (.set (.d _) zan.none) zao.at⟩
   rw[if_neg (ff hc14)]at h
   try simp only[go_sem,zab hy6,zaf hy6,zac (D.int .i64) hy6]
   cases h
   exact⟨rfl,Up.of (N:=14) (N':=51) [] rfl rfl (by decide) (.set (.d _) (.set (.d _) (.set (.d _) (.set (.ptr' rfl) (.set (.ptr' rfl) (.set (.d _) zan.none)))))) (.set zat.refl_d (.set zat.refl_d zao.at))⟩
  rw[if_neg (ffn hc10)]at h
  try simp only[go_sem,zab hy6,zaf hy6,zac (D.int .i64) hy6,hc10]
  cases h
  exact⟨rfl,by simp,Up.of (N:=14) (N':=50) [] rfl rfl (by decide) (.set (.d _) zan.none) zao.at⟩
 rw[if_neg (ff hc4)]at h
 try simp only[go_sem]
 cases h
 exact⟨rfl,by simp,Up.of (N:=14) (N':=15) [] rfl rfl (by decide) (.set (.ptr' rfl) (.set (.ptr' rfl) (.set (.d _) zan.none))) (.set zat.refl_d (.set zat.refl_d zao.at))⟩
noncomputable def zKz (a0:Forest) (a1:Int):Option (Bool):=
 (rd a0.nodes.l (IntKind.wrap .i64 (a1-1))).bind fun y1=>
 (zaP (zde a0 a1 y1) 0).bind fun r27=>
 match r27 with
 |(.inl q29)=>
  (if(!(y1.parent==0))=true then
   (dec (eT2 zai D.bool) (pc prog 31 [zae a0,.int .i64 y1.parent])).bind fun r32=>
   (if r32.2=true then
    (dec (D.int .i64) (pc prog 205 [.list r32.1.kids.n (r32.1.kids.l.map (D.int .i64)),.int .i64 a1])).bind fun r36=>
    some (!(r36==1))
   else
    some true:Option ((Bool))).bind fun r38=>
   if r38=true then
    some (.inr ())
   else
    some (.inl ())
  else
   some (.inl ()):Option ((Unit)⊕(Unit))).bind fun r45=>
  match r45 with
  |(.inl q47)=>
   (dec (D.int .u8) (pc prog 206 [zae a0,.int .i64 y1.doc])).bind fun r48=>
   (if(r48==9)=true then
    some (bif (y1.kind==9)then(!(y1.doc==a1))else false)
   else
    some true:Option ((Bool))).bind fun r52=>
   if r52=true then
    some false
   else
    (if(!(y1.shadow==0))=true then
     (dec (eT2 zai D.bool) (pc prog 31 [zae a0,.int .i64 y1.shadow])).bind fun r58=>
     if(bif (bif (!r58.2)then true else(!(r58.1.kind==12)))then true else(!(r58.1.host==a1)))=true then
      some (.inr ())
     else
      some (.inl ())
    else
     some (.inl ()):Option ((Unit)⊕(Unit))).bind fun r69=>
    match r69 with
    |(.inl q71)=>
     if(y1.kind==12)=true then
      (dec (eT2 zai D.bool) (pc prog 31 [zae a0,.int .i64 y1.host])).bind fun r74=>
      if(bif (bif (bif (!r74.2)then true else(!(r74.1.kind==1)))then true else(!(r74.1.shadow==a1)))then true else(!(r74.1.doc==y1.doc)))=true then
       some false
      else
       (dec D.bool (pc prog 207 [zae a0,.int .u8 y1.kind,.list y1.kids.n (y1.kids.l.map (D.int .i64))])).bind fun r78=>
       some r78
     else
      (dec D.bool (pc prog 207 [zae a0,.int .u8 y1.kind,.list y1.kids.n (y1.kids.l.map (D.int .i64))])).bind fun r92=>
      some r92
    |(.inr q94)=>
     some false
  |(.inr q111)=>
   some false
 |(.inr q112)=>
  some false
theorem zKA (a0:Forest) (a1:Int) (r:Bool) (h:zKz a0 a1=some r):pc prog 163 [zae a0,.int .i64 a1]=some (D.bool r):=by
 unfold zKz at h
 refine zaZ (fn:=zIe) rfl rfl ?_
 delta zIe
 try simp only[go_sem]
 obtain⟨y1,hy2,h⟩:=bs h
 try simp only[go_sem,zab hy2,zaf hy2,zac zai hy2]
 obtain⟨r27,hl28,h⟩:=bs h
 refine Wp.loopR zbi (n:=(0,[])) (a:=zpP) rfl (zeS a0 a1 y1) (zic a0 a1 y1) (zwg a0 a1 y1) hl28 ?_ (by(repeat(first|refine Clo.block ?_|refine Clo.seq zbi rfl ?_));(exact Clo.ret)) ?_
 ·show Up (0,[]) (zeS a0 a1 y1 0) _
  delta zeS
  exact Up.of (N:=14) (N':=14) [] rfl rfl (by decide) (.set (.d _) (.set (.d _) (.set (.d _) (.set (.ptr' rfl) (.set (.ptr' rfl) (.set (.d _) zan.none)))))) (.set zat.refl_d (.set zat.refl_d zao.at))
 rcases r27 with(q29|q112)
 ·dsimp only at h
  dsimp only[zic]
  try simp only[go_sem,zab hy2,zaf hy2,zac zai hy2]
  obtain⟨r45,hl46,h⟩:=bs h
  refine WBr.cut (n:=(0,[])) ((fun r=>match r with|(.inl r)=>(.normal,⟨(((Regs.none.set 1 (.d (.int .i64 a1))).set 2 (.ptr 0 0 0)).set 5 (.ptr 8 0 0)),(((Heap.at 17).set 0 (some (.els 1 [.d (zae a0)] 0))).set 8 (some (.els 16 [.d (zai y1)] 0)))⟩)|(.inr r)=>(.ret,⟨(Regs.none.set 4 (.d (.bool false))),(Heap.at 17)⟩):((Unit)⊕(Unit))→Ex×St) r45).1 ((fun r=>match r with|(.inl r)=>(.normal,⟨(((Regs.none.set 1 (.d (.int .i64 a1))).set 2 (.ptr 0 0 0)).set 5 (.ptr 8 0 0)),(((Heap.at 17).set 0 (some (.els 1 [.d (zae a0)] 0))).set 8 (some (.els 16 [.d (zai y1)] 0)))⟩)|(.inr r)=>(.ret,⟨(Regs.none.set 4 (.d (.bool false))),(Heap.at 17)⟩):((Unit)⊕(Unit))→Ex×St) r45).2 ?_ (by(repeat(refine Clo.seq zbi rfl ?_));(exact Clo.ret)) ?_
  ·replace h:=hl46
   refine zaF (fun hc30=> ?_) (fun hc31=> ?_)
   ·rw[if_pos (show(!(y1.parent==0))=true by(rw[hc30];rfl))]at h
    try simp only[go_sem,zab hy2,zaf hy2,zac zai hy2]
    obtain⟨r32,hr33,h⟩:=bs h
    replace hr33:=zam hr33
    refine zaq hr33 ?_
    try simp only[go_sem,zab hy2,zaf hy2,zac zai hy2]
    refine zaa (v:= .ptr 24 0 9) (fun hb44=>by simp only[go_sem,zab hy2,zaf hy2,zac zai hy2,hc30,hb44]) ?_
    try simp only[go_sem,zab hy2,zaf hy2,zac zai hy2]
    refine zaa (v:= .d (.list r32.1.kids.n (r32.1.kids.l.map (D.int .i64)))) (fun hb43=>by simp only[go_sem,zab hy2,zaf hy2,zac zai hy2,hc30,hb43]) ?_
    try simp only[go_sem,zab hy2,zaf hy2,zac zai hy2]
    refine zaa (v:= .d (.int .i64 a1)) (fun hb42=>by simp only[go_sem,zab hy2,zaf hy2,zac zai hy2,hc30,hb42]) ?_
    try simp only[go_sem,zab hy2,zaf hy2,zac zai hy2]
    obtain⟨r38,hl39,h⟩:=bs h
    refine zbW.cut (n:=(0,[])) .normal ⟨((((Regs.none.set 1 (.d (.int .i64 a1))).set 2 (.ptr 0 0 0)).set 5 (.ptr 8 0 0)).set 76 (.d (.bool r38))),(((Heap.at 36).set 0 (some (.els 1 [.d (zae a0)] 0))).set 8 (some (.els 16 [.d (zai y1)] 0)))⟩ ?_ (by(repeat(refine Clo.seq zbi rfl ?_));(exact Clo.cpost (by decide))) ?_
    ·replace h:=hl39
     refine zaG (fun hc34=> ?_) (fun hc35=> ?_)
     ·rw[if_pos hc34]at h
      try simp only[go_sem,zab hy2,zaf hy2,zac zai hy2,hc34]
      obtain⟨r36,hr37,h⟩:=bs h
      replace hr37:=zam hr37
      refine zaq hr37 ?_
      try simp only[go_sem,zab hy2,zaf hy2,zac zai hy2]
      cases h
      exact⟨rfl,Up.of (N:=36) (N':=36) [] rfl rfl (by decide) (.set (.d _) (.set (.ptr' rfl) (.set (.ptr' rfl) (.set (.d _) zan.none)))) (.set zat.refl_d (.set zat.refl_d zao.at))⟩
     rw[if_neg (ff hc35)]at h
     try simp only[go_sem,zab hy2,zaf hy2,zac zai hy2,hc35]
     cases h
     exact⟨rfl,Up.of (N:=36) (N':=36) [] rfl rfl (by decide) (.set (.d _) (.set (.ptr' rfl) (.set (.ptr' rfl) (.set (.d _) zan.none)))) (.set zat.refl_d (.set zat.refl_d zao.at))⟩
    try simp only[go_sem,zab hy2,zaf hy2,zac zai hy2]
    refine zaj (fun hc40=> ?_) (fun hc41=> ?_)
    ·rw[if_pos hc40]at h
     try simp only[go_sem,zab hy2,zaf hy2,zac zai hy2]
     cases h
     exact⟨rfl,Up.of (N:=17) (N':=37) [] rfl rfl (by decide) (.set (.d _) zan.none) zao.at⟩
    rw[if_neg (ff hc41)]at h
    try simp only[go_sem,zab hy2,zaf hy2,zac zai hy2]
    cases h
    exact⟨rfl,Up.of (N:=17) (N':=36) [] rfl rfl (by decide) (.set (.ptr' rfl) (.set (.ptr' rfl) (.set (.d _) zan.none))) (.set zat.refl_d (.set zat.refl_d zao.at))⟩
   rw[if_neg (ffn hc31)]at h
   try simp only[go_sem,zab hy2,zaf hy2,zac zai hy2]
   cases h
   exact⟨rfl,Up.of (N:=17) (N':=17) [] rfl rfl (by decide) (.set (.ptr' rfl) (.set (.ptr' rfl) (.set (.d _) zan.none))) (.set zat.refl_d (.set zat.refl_d zao.at))⟩
  rcases r45 with(q47|q111)
  ·dsimp only at h⊢
   try simp only[go_sem,zab hy2,zaf hy2,zac zai hy2]
   obtain⟨r48,hr49,h⟩:=bs h
   replace hr49:=zam hr49
   refine zaq hr49 ?_
   try simp only[go_sem,zab hy2,zaf hy2,zac zai hy2]
   refine zaa (v:= .ptr 8 0 0) (fun hb110=>by simp only[go_sem,zab hy2,zaf hy2,zac zai hy2,hb110]) ?_
   try simp only[go_sem,zab hy2,zaf hy2,zac zai hy2]
   refine zaa (v:= .d (.int .u8 y1.kind)) (fun hb109=>by simp only[go_sem,zab hy2,zaf hy2,zac zai hy2,hb109]) ?_
   try simp only[go_sem,zab hy2,zaf hy2,zac zai hy2]
   refine zaa (v:= .d (.bool (y1.kind==9))) (fun hb108=>by simp only[go_sem,zab hy2,zaf hy2,zac zai hy2,hb108]) ?_
   try simp only[go_sem,zab hy2,zaf hy2,zac zai hy2]
   refine zaa (v:= .d (.bool (y1.kind==9))) (fun hb107=>by simp only[go_sem,zab hy2,zaf hy2,zac zai hy2,hb107]) ?_
   try simp only[go_sem,zab hy2,zaf hy2,zac zai hy2]
   refine zaa (v:= .ptr 8 0 10) (fun hb104=>by((obtain⟨hb105,hb106⟩:=zaB hb104));simp only[go_sem,zab hy2,zaf hy2,zac zai hy2,hb106,hb105]) ?_
   try simp only[go_sem,zab hy2,zaf hy2,zac zai hy2]
   refine zaa (v:= .d (.int .i64 y1.doc)) (fun hb101=>by((obtain⟨hb102,hb103⟩:=zaB hb101));simp only[go_sem,zab hy2,zaf hy2,zac zai hy2,hb103,hb102]) ?_
   try simp only[go_sem,zab hy2,zaf hy2,zac zai hy2]
   refine zaa (v:= .d (.int .i64 a1)) (fun hb98=>by((obtain⟨hb99,hb100⟩:=zaB hb98));simp only[go_sem,zab hy2,zaf hy2,zac zai hy2,hb100,hb99]) ?_
   try simp only[go_sem,zab hy2,zaf hy2,zac zai hy2]
   refine zaa (v:= .d (.bool (!(y1.doc==a1)))) (fun hb95=>by((obtain⟨hb96,hb97⟩:=zaB hb95));simp only[go_sem,zab hy2,zaf hy2,zac zai hy2,hb97,hb96]) ?_
   try simp only[go_sem,zab hy2,zaf hy2,zac zai hy2]
   obtain⟨r52,hl53,h⟩:=bs h
   refine zbW.cut (n:=(0,[])) .normal ⟨((((Regs.none.set 1 (.d (.int .i64 a1))).set 2 (.ptr 0 0 0)).set 5 (.ptr 8 0 0)).set 92 (.d (.bool r52))),(((Heap.at 33).set 0 (some (.els 1 [.d (zae a0)] 0))).set 8 (some (.els 16 [.d (zai y1)] 0)))⟩ ?_ (by(repeat(refine Clo.seq zbi rfl ?_));(exact Clo.ret)) ?_
   ·replace h:=hl53
    refine zaG (fun hc50=> ?_) (fun hc51=> ?_)
    ·rw[if_pos hc50]at h
     try simp only[go_sem,zab hy2,zaf hy2,zac zai hy2,hc50]
     cases h
     exact⟨rfl,Up.of (N:=33) (N':=33) [] rfl rfl (by decide) (.set (.d _) (.set (.ptr' rfl) (.set (.ptr' rfl) (.set (.d _) zan.none)))) (.set zat.refl_d (.set zat.refl_d zao.at))⟩
    rw[if_neg (ff hc51)]at h
    try simp only[go_sem,zab hy2,zaf hy2,zac zai hy2,hc51]
    cases h
    exact⟨rfl,Up.of (N:=33) (N':=33) [] rfl rfl (by decide) (.set (.d _) (.set (.ptr' rfl) (.set (.ptr' rfl) (.set (.d _) zan.none)))) (.set zat.refl_d (.set zat.refl_d zao.at))⟩
   try simp only[go_sem,zab hy2,zaf hy2,zac zai hy2]
   refine zaj (fun hc54=> ?_) (fun hc55=> ?_)
   ·rw[if_pos hc54]at h
    try simp only[go_sem,zab hy2,zaf hy2,zac zai hy2]
    cases h
    rfl
   rw[if_neg (ff hc55)]at h
   try simp only[go_sem,zab hy2,zaf hy2,zac zai hy2]
   obtain⟨r69,hl70,h⟩:=bs h
   refine WBr.cut (n:=(0,[])) ((fun r=>match r with|(.inl r)=>(.normal,⟨(((Regs.none.set 1 (.d (.int .i64 a1))).set 2 (.ptr 0 0 0)).set 5 (.ptr 8 0 0)),(((Heap.at 36).set 0 (some (.els 1 [.d (zae a0)] 0))).set 8 (some (.els 16 [.d (zai y1)] 0)))⟩)|(.inr r)=>(.ret,⟨(Regs.none.set 4 (.d (.bool false))),(Heap.at 36)⟩):((Unit)⊕(Unit))→Ex×St) r69).1 ((fun r=>match r with|(.inl r)=>(.normal,⟨(((Regs.none.set 1 (.d (.int .i64 a1))).set 2 (.ptr 0 0 0)).set 5 (.ptr 8 0 0)),(((Heap.at 36).set 0 (some (.els 1 [.d (zae a0)] 0))).set 8 (some (.els 16 [.d (zai y1)] 0)))⟩)|(.inr r)=>(.ret,⟨(Regs.none.set 4 (.d (.bool false))),(Heap.at 36)⟩):((Unit)⊕(Unit))→Ex×St) r69).2 ?_ (by(repeat(refine Clo.seq zbi rfl ?_));(exact Clo.ret)) ?_
   ·replace h:=hl70
    refine zaF (fun hc56=> ?_) (fun hc57=> ?_)
    ·rw[if_pos (show(!(y1.shadow==0))=true by(rw[hc56];rfl))]at h
     try simp only[go_sem,zab hy2,zaf hy2,zac zai hy2]
     obtain⟨r58,hr59,h⟩:=bs h
     replace hr59:=zam hr59
     refine zaq hr59 ?_
     try simp only[go_sem,zab hy2,zaf hy2,zac zai hy2]
     refine zaa (v:= .ptr 43 0 0) (fun hb68=>by simp only[go_sem,zab hy2,zaf hy2,zac zai hy2,hc55,hc56,hb68]) ?_
     try simp only[go_sem,zab hy2,zaf hy2,zac zai hy2]
     refine zaa (v:= .d (.int .u8 r58.1.kind)) (fun hb67=>by simp only[go_sem,zab hy2,zaf hy2,zac zai hy2,hc55,hc56,hb67]) ?_
     try simp only[go_sem,zab hy2,zaf hy2,zac zai hy2]
     refine zaa (v:= .d (.bool (!(r58.1.kind==12)))) (fun hb66=>by simp only[go_sem,zab hy2,zaf hy2,zac zai hy2,hc55,hc56,hb66]) ?_
     try simp only[go_sem,zab hy2,zaf hy2,zac zai hy2]
     refine zaa (v:= .ptr 43 0 11) (fun hb65=>by simp only[go_sem,zab hy2,zaf hy2,zac zai hy2,hc55,hc56,hb65]) ?_
     try simp only[go_sem,zab hy2,zaf hy2,zac zai hy2]
     refine zaa (v:= .d (.int .i64 r58.1.host)) (fun hb64=>by simp only[go_sem,zab hy2,zaf hy2,zac zai hy2,hc55,hc56,hb64]) ?_
     try simp only[go_sem,zab hy2,zaf hy2,zac zai hy2]
     refine zaa (v:= .d (.int .i64 a1)) (fun hb63=>by simp only[go_sem,zab hy2,zaf hy2,zac zai hy2,hc55,hc56,hb63]) ?_
     try simp only[go_sem,zab hy2,zaf hy2,zac zai hy2]
     refine zaa (v:= .d (.bool (!(r58.1.host==a1)))) (fun hb62=>by simp only[go_sem,zab hy2,zaf hy2,zac zai hy2,hc55,hc56,hb62]) ?_
     try simp only[go_sem,zab hy2,zaf hy2,zac zai hy2]
     refine zaj (fun hc60=> ?_) (fun hc61=> ?_)
     ·rw[if_pos hc60]at h
      try simp only[go_sem,zab hy2,zaf hy2,zac zai hy2]
      cases h
      exact⟨rfl,Up.of (N:=36) (N':=60) [] rfl rfl (by decide) (.set (.d _) zan.none) zao.at⟩
     rw[if_neg (ff hc61)]at h
     try simp only[go_sem,zab hy2,zaf hy2,zac zai hy2]
     cases h
     exact⟨rfl,Up.of (N:=36) (N':=59) [] rfl rfl (by decide) (.set (.ptr' rfl) (.set (.ptr' rfl) (.set (.d _) zan.none))) (.set zat.refl_d (.set zat.refl_d zao.at))⟩
    rw[if_neg (ffn hc57)]at h
    try simp only[go_sem,zab hy2,zaf hy2,zac zai hy2]
    cases h
    exact⟨rfl,Up.of (N:=36) (N':=36) [] rfl rfl (by decide) (.set (.ptr' rfl) (.set (.ptr' rfl) (.set (.d _) zan.none))) (.set zat.refl_d (.set zat.refl_d zao.at))⟩
   rcases r69 with(q71|q94)
   ·dsimp only at h⊢
    try simp only[go_sem,zab hy2,zaf hy2,zac zai hy2]
    refine zaj (fun hc72=> ?_) (fun hc73=> ?_)
    ·rw[if_pos hc72]at h
     try simp only[go_sem,zab hy2,zaf hy2,zac zai hy2]
     obtain⟨r74,hr75,h⟩:=bs h
     replace hr75:=zam hr75
     refine zaq hr75 ?_
     try simp only[go_sem,zab hy2,zaf hy2,zac zai hy2]
     refine zaa (v:= .ptr 46 0 0) (fun hb91=>by simp only[go_sem,zab hy2,zaf hy2,zac zai hy2,hc55,hc72,hb91]) ?_
     try simp only[go_sem,zab hy2,zaf hy2,zac zai hy2]
     refine zaa (v:= .d (.int .u8 r74.1.kind)) (fun hb90=>by simp only[go_sem,zab hy2,zaf hy2,zac zai hy2,hc55,hc72,hb90]) ?_
     try simp only[go_sem,zab hy2,zaf hy2,zac zai hy2]
     refine zaa (v:= .d (.bool (!(r74.1.kind==1)))) (fun hb89=>by simp only[go_sem,zab hy2,zaf hy2,zac zai hy2,hc55,hc72,hb89]) ?_
     try simp only[go_sem,zab hy2,zaf hy2,zac zai hy2]
     refine zaa (v:= .ptr 46 0 12) (fun hb88=>by simp only[go_sem,zab hy2,zaf hy2,zac zai hy2,hc55,hc72,hb88]) ?_
     try simp only[go_sem,zab hy2,zaf hy2,zac zai hy2]
     refine zaa (v:= .d (.int .i64 r74.1.shadow)) (fun hb87=>by simp only[go_sem,zab hy2,zaf hy2,zac zai hy2,hc55,hc72,hb87]) ?_
     try simp only[go_sem,zab hy2,zaf hy2,zac zai hy2]
     refine zaa (v:= .d (.int .i64 a1)) (fun hb86=>by simp only[go_sem,zab hy2,zaf hy2,zac zai hy2,hc55,hc72,hb86]) ?_
     try simp only[go_sem,zab hy2,zaf hy2,zac zai hy2]
     refine zaa (v:= .d (.bool (!(r74.1.shadow==a1)))) (fun hb85=>by simp only[go_sem,zab hy2,zaf hy2,zac zai hy2,hc55,hc72,hb85]) ?_
     try simp only[go_sem,zab hy2,zaf hy2,zac zai hy2]
     refine zaa (v:= .ptr 46 0 10) (fun hb84=>by simp only[go_sem,zab hy2,zaf hy2,zac zai hy2,hc55,hc72,hb84]) ?_
     try simp only[go_sem,zab hy2,zaf hy2,zac zai hy2]
     refine zaa (v:= .d (.int .i64 r74.1.doc)) (fun hb83=>by simp only[go_sem,zab hy2,zaf hy2,zac zai hy2,hc55,hc72,hb83]) ?_
     try simp only[go_sem,zab hy2,zaf hy2,zac zai hy2]
     refine zaa (v:= .ptr 8 0 10) (fun hb82=>by simp only[go_sem,zab hy2,zaf hy2,zac zai hy2,hc55,hc72,hb82]) ?_
     try simp only[go_sem,zab hy2,zaf hy2,zac zai hy2]
     refine zaa (v:= .d (.int .i64 y1.doc)) (fun hb81=>by simp only[go_sem,zab hy2,zaf hy2,zac zai hy2,hc55,hc72,hb81]) ?_
     try simp only[go_sem,zab hy2,zaf hy2,zac zai hy2]
     refine zaa (v:= .d (.bool (!(r74.1.doc==y1.doc)))) (fun hb80=>by simp only[go_sem,zab hy2,zaf hy2,zac zai hy2,hc55,hc72,hb80]) ?_
     try simp only[go_sem,zab hy2,zaf hy2,zac zai hy2]
     refine zaj (fun hc76=> ?_) (fun hc77=> ?_)
     ·rw[if_pos hc76]at h
      try simp only[go_sem,zab hy2,zaf hy2,zac zai hy2]
      cases h
      rfl
     rw[if_neg (ff hc77)]at h
     try simp only[go_sem,zab hy2,zaf hy2,zac zai hy2]
     obtain⟨r78,hr79,h⟩:=bs h
     replace hr79:=zam hr79
     refine zaq hr79 ?_
     try simp only[go_sem,zab hy2,zaf hy2,zac zai hy2]
     cases h
     rfl
    rw[if_neg (ff hc73)]at h
    try simp only[go_sem,zab hy2,zaf hy2,zac zai hy2]
    obtain⟨r92,hr93,h⟩:=bs h
    replace hr93:=zam hr93
    refine zaq hr93 ?_
    try simp only[go_sem,zab hy2,zaf hy2,zac zai hy2]
    cases h
    rfl
   dsimp only at h⊢
   try simp only[go_sem,zab hy2,zaf hy2,zac zai hy2]
   cases h
   rfl
  dsimp only at h⊢
  try simp only[go_sem,zab hy2,zaf hy2,zac zai hy2]
  cases h
  rfl
 dsimp only at h
 dsimp only[zic]
 try simp only[go_sem,zab hy2,zaf hy2,zac zai hy2]
 cases h
 rfl
def zeT (a0:Forest) (x0:Int×Int):St:=⟨(((Regs.none.set 2 (.ptr 0 0 0)).set 5 (.d (.int .i64 x0.1))).set 6 (.d (.int .i64 x0.2))),((Heap.at 5).set 0 (some (.els 1 [.d (zae a0)] 0)))⟩
def zid (a0:Forest):((Unit)⊕(Unit))→Ex×St:=fun r=>match r with
 |(.inl r)=>(.exit 0,⟨Regs.none,(Heap.at 5)⟩)
 |(.inr r)=>(.ret,⟨(Regs.none.set 4 (.d (.bool false))),(Heap.at 5)⟩)
noncomputable def zca (a0:Forest) (x0:Int×Int):Option ((Int×Int)⊕((Unit)⊕(Unit))):=
 if(decide (x0.2≤(a0.nodes.l.length:Int)))=true then
  (dec (eT2 zai D.bool) (pc prog 31 [zae a0,.int .i64 x0.1])).bind fun r3=>
  if(!r3.2)=true then
   some (.inr (.inr ()))
  else
   (dec (D.int .i64) (pc prog 208 [zai r3.1])).bind fun r7=>
   some (.inl (r7,(IntKind.wrap .i64 (x0.2+1))))
 else
  some (.inr (.inl ()))
theorem zwh (a0:Forest) (x0:Int×Int) (o:(Int×Int)⊕((Unit)⊕(Unit))) (h:zca a0 x0=some o):Wp prog zpQ (zeT a0 x0) (zbJ (0,[]) (zeT a0) (zid a0) o):=by
 unfold zca at h
 delta zpQ zeT
 try simp only[go_sem]
 refine zaj (fun hc1=> ?_) (fun hc2=> ?_)
 ·rw[if_pos hc1]at h
  try simp only[go_sem]
  obtain⟨r3,hr4,h⟩:=bs h
  replace hr4:=zam hr4
  refine zaq hr4 ?_
  try simp only[go_sem]
  refine zaF (fun hc5=> ?_) (fun hc6=> ?_)
  ·rw[if_pos (show(!r3.2)=true by(rw[hc5];rfl))]at h
   try simp only[go_sem]
   cases h
   exact⟨rfl,by simp,Up.of (N:=5) (N':=22) [] rfl rfl (by decide) (.set (.d _) zan.none) zao.at⟩
  rw[if_neg (ffn hc6)]at h
  try simp only[go_sem]
  obtain⟨r7,hr8,h⟩:=bs h
  replace hr8:=zam hr8
  refine zaq hr8 ?_
  try simp only[go_sem]
  cases h
  exact⟨rfl,Up.of (N:=5) (N':=27) [] rfl rfl (by decide) (.set (.d _) (.set (.d _) (.set (.ptr' rfl) zan.none))) (.set zat.refl_d zao.at)⟩
 rw[if_neg (ff hc2)]at h
 try simp only[go_sem]
 cases h
 exact⟨rfl,by simp,Up.of (N:=5) (N':=10) [] rfl rfl (by decide) zan.none zao.at⟩
noncomputable def zKB (a0:Forest) (a1:Int):Option (Bool):=
 (zaP (zca a0) (a1,0)).bind fun r9=>
 match r9 with
 |(.inl q11)=>
  some true
 |(.inr q12)=>
  some false
theorem zKC (a0:Forest) (a1:Int) (r:Bool) (h:zKB a0 a1=some r):pc prog 164 [zae a0,.int .i64 a1]=some (D.bool r):=by
 unfold zKB at h
 refine zaZ (fn:=zIf) rfl rfl ?_
 delta zIf
 try simp only[go_sem]
 obtain⟨r9,hl10,h⟩:=bs h
 refine Wp.loopR zbi (n:=(0,[])) (a:=zpQ) rfl (zeT a0) (zid a0) (zwh a0) hl10 ?_ (by(repeat(first|refine Clo.block ?_|refine Clo.seq zbi rfl ?_));(exact Clo.ret)) ?_
 ·show Up (0,[]) (zeT a0 (a1,0)) _
  delta zeT
  exact Up.of (N:=5) (N':=5) [] rfl rfl (by decide) (.set (.d _) (.set (.d _) (.set (.ptr' rfl) zan.none))) (.set zat.refl_d zao.at)
 rcases r9 with(q11|q12)
 ·dsimp only at h
  dsimp only[zid]
  try simp only[go_sem]
  cases h
  rfl
 dsimp only at h
 dsimp only[zid]
 try simp only[go_sem]
 cases h
 rfl
noncomputable def zKD (a0:Int) (a1:Int):Option (Int):=
 (dec D.bool (pc prog 213 [.int .i64 a0])).bind fun r1=>
 (dec D.bool (pc prog 213 [.int .i64 a1])).bind fun r3=>
 if r1=true then
  if r3=true then
   some (0)
  else
   some (-1)
 else
  if r3=true then
   some (1)
  else
   if(decide (a0<a1))=true then
    some (-1)
   else
    if(decide (a1<a0))=true then
     some (1)
    else
     some (0)
theorem zKE (a0:Int) (a1:Int) (r:Int) (h:zKD a0 a1=some r):pc prog 180 [.int .i64 a0,.int .i64 a1]=some ((D.int .i64) r):=by
 unfold zKD at h
 refine zaZ (fn:=zIg) rfl rfl ?_
 delta zIg
 try simp only[go_sem]
 obtain⟨r1,hr2,h⟩:=bs h
 replace hr2:=zam hr2
 refine zaq hr2 ?_
 try simp only[go_sem]
 obtain⟨r3,hr4,h⟩:=bs h
 replace hr4:=zam hr4
 refine zaq hr4 ?_
 try simp only[go_sem]
 refine zaj (fun hc5=> ?_) (fun hc6=> ?_)
 ·rw[if_pos hc5]at h
  try simp only[go_sem]
  refine zaj (fun hc7=> ?_) (fun hc8=> ?_)
  ·rw[if_pos hc7]at h
   try simp only[go_sem]
   cases h
   rfl
  rw[if_neg (ff hc8)]at h
  try simp only[go_sem]
  cases h
  rfl
 rw[if_neg (ff hc6)]at h
 try simp only[go_sem]
 refine zaj (fun hc9=> ?_) (fun hc10=> ?_)
 ·rw[if_pos hc9]at h
  try simp only[go_sem]
  cases h
  rfl
 rw[if_neg (ff hc10)]at h
 try simp only[go_sem]
 refine zaj (fun hc11=> ?_) (fun hc12=> ?_)
 ·rw[if_pos hc11]at h
  try simp only[go_sem]
  cases h
  rfl
 rw[if_neg (ff hc12)]at h
 try simp only[go_sem]
 refine zaj (fun hc13=> ?_) (fun hc14=> ?_)
 ·rw[if_pos hc13]at h
  try simp only[go_sem]
  cases h
  rfl
 rw[if_neg (ff hc14)]at h
 try simp only[go_sem]
 cases h
 rfl
def zeU (a0:Sl (Int)) (a1:Int) (x0:Int):St:=⟨((((Regs.none.set 0 (.d (.list a0.n (a0.l.map (D.int .i64))))).set 1 (.d (.int .i64 a1))).set 7 (.d (.int .i64 (a0.l.length:Int)))).set 8 (.d (.int .i64 x0))),(Heap.at 4)⟩
def zie (a0:Sl (Int)) (a1:Int):((Unit)⊕(Int))→Ex×St:=fun r=>match r with
 |(.inl r)=>(.exit 0,⟨Regs.none,(Heap.at 4)⟩)
 |(.inr r)=>(.ret,⟨(Regs.none.set 4 (.d (.int .i64 r))),(Heap.at 4)⟩)
noncomputable def zdf (a0:Sl (Int)) (a1:Int) (x0:Int):Option ((Int)⊕((Unit)⊕(Int))):=
 if(decide (x0<(a0.l.length:Int)))=true then
  (rd a0.l x0).bind fun y3=>
  if(a1==y3)=true then
   some (.inr (.inr x0))
  else
   some (.inl (IntKind.wrap .i64 (x0+1)))
 else
  some (.inr (.inl ()))
theorem zwi (a0:Sl (Int)) (a1:Int) (x0:Int) (o:(Int)⊕((Unit)⊕(Int))) (h:zdf a0 a1 x0=some o):Wp prog zpS (zeU a0 a1 x0) (zbJ (0,[]) (zeU a0 a1) (zie a0 a1) o):=by
 unfold zdf at h
 delta zpS zeU
 try simp only[go_sem]
 refine zaj (fun hc1=> ?_) (fun hc2=> ?_)
 ·rw[if_pos hc1]at h
  try simp only[go_sem]
  obtain⟨y3,hy4,h⟩:=bs h
  try simp only[go_sem,zab hy4,zaf hy4,zac (D.int .i64) hy4]
  refine zaj (fun hc5=> ?_) (fun hc6=> ?_)
  ·rw[if_pos hc5]at h
   try simp only[go_sem,zab hy4,zaf hy4,zac (D.int .i64) hy4]
   cases h
   exact⟨rfl,by simp,Up.of (N:=4) (N':=15) [] rfl rfl (by decide) (.set (.d _) zan.none) zao.at⟩
  rw[if_neg (ff hc6)]at h
  try simp only[go_sem,zab hy4,zaf hy4,zac (D.int .i64) hy4]
  cases h
  exact⟨rfl,Up.of (N:=4) (N':=15) [] rfl rfl (by decide) (.set (.d _) (.set (.d _) (.set (.d _) (.set (.d _) zan.none)))) zao.at⟩
 rw[if_neg (ff hc2)]at h
 try simp only[go_sem]
 cases h
 exact⟨rfl,by simp,Up.of (N:=4) (N':=5) [] rfl rfl (by decide) zan.none zao.at⟩
noncomputable def zKF (a0:Sl (Int)) (a1:Int):Option (Int):=
 (zaP (zdf a0 a1) 0).bind fun r7=>
 match r7 with
 |(.inl q9)=>
  some (-1)
 |(.inr q10)=>
  some q10
theorem zKG (a0:Sl (Int)) (a1:Int) (r:Int) (h:zKF a0 a1=some r):pc prog 188 [.list a0.n (a0.l.map (D.int .i64)),.int .i64 a1]=some ((D.int .i64) r):=by
 unfold zKF at h
 refine zaZ (fn:=zIi) rfl rfl ?_
 delta zIi
 try simp only[go_sem]
 obtain⟨r7,hl8,h⟩:=bs h
 refine Wp.loopR zbi (n:=(0,[])) (a:=zpS) rfl (zeU a0 a1) (zie a0 a1) (zwi a0 a1) hl8 ?_ (by(repeat(first|refine Clo.block ?_|refine Clo.seq zbi rfl ?_));(exact Clo.ret)) ?_
 ·show Up (0,[]) (zeU a0 a1 0) _
  delta zeU
  exact Up.of (N:=4) (N':=4) [] rfl rfl (by decide) (.set (.d _) (.set (.d _) (.set (.d _) (.set (.d _) zan.none)))) zao.at
 rcases r7 with(q9|q10)
 ·dsimp only at h
  dsimp only[zie]
  try simp only[go_sem]
  cases h
  rfl
 dsimp only at h
 dsimp only[zie]
 try simp only[go_sem]
 cases h
 rfl
def zeV (a0:Forest) (x0:List (Int)×Int) (x1:List (Int)×List (Int)×Int):St:=⟨((((((Regs.none.set 1 (.ptr 0 0 0)).set 3 (.sl 6 0 (((IntKind.wrap .i64 ((a0.nodes.l.length:Int)+1))).toNat))).set 5 (mb 18 (x1.2.1.map fun z=>V.d ((D.int .i64) z)))).set 6 (.d (.int .i64 x1.2.2))).set 19 (.d (.int .i64 (a0.nodes.l.length:Int)))).set 20 (.d (.int .i64 x0.2))),((((Heap.at 19).set 0 (some (.els 1 [.d (zae a0)] 0))).set 6 (some (.els 1 (x1.1.map fun z=>V.d ((D.int .i64) z)) (0)))).set 18 (mbB 1 x1.2.1.length (x1.2.1.map fun z=>V.d ((D.int .i64) z))))⟩
def zlg (a0:Forest) (x0:List (Int)×Int):((List (Int)×Int×List (Int)))→Ex×St:=fun r=>(.exit 2,⟨((((((Regs.none.set 1 (.ptr 0 0 0)).set 3 (.sl 6 0 (((IntKind.wrap .i64 ((a0.nodes.l.length:Int)+1))).toNat))).set 5 (mb 18 (r.1.map fun z=>V.d ((D.int .i64) z)))).set 6 (.d (.int .i64 r.2.1))).set 19 (.d (.int .i64 (a0.nodes.l.length:Int)))).set 20 (.d (.int .i64 x0.2))),((((Heap.at 19).set 0 (some (.els 1 [.d (zae a0)] 0))).set 6 (some (.els 1 (r.2.2.map fun z=>V.d ((D.int .i64) z)) (0)))).set 18 (mbB 1 r.1.length (r.1.map fun z=>V.d ((D.int .i64) z))))⟩)
noncomputable def zbD (a0:Forest) (x0:List (Int)×Int) (x1:List (Int)×List (Int)×Int):Option ((List (Int)×List (Int)×Int)⊕((List (Int)×Int×List (Int)))):=
 if(bif (decide (1≤x1.2.2))then(decide (x1.2.2≤(a0.nodes.l.length:Int)))else false)=true then
  (rdA x1.1 (((IntKind.wrap .i64 ((a0.nodes.l.length:Int)+1))).toNat) x1.2.2).bind fun y6=>
  if(y6==0)=true then
   if(x1.2.1.length+1)*8≤AI.roomBytes then
    (rd a0.nodes.l (IntKind.wrap .i64 (x1.2.2-1))).bind fun y11=>
    (dec (D.int .i64) (pc prog 214 [zai y11])).bind fun r13=>
    some (.inl ((x1.1.set (x1.2.2).toNat (1)),(x1.2.1++[x1.2.2]),r13))
   else none
  else
   some (.inr (x1.2.1,x1.2.2,x1.1))
 else
  some (.inr (x1.2.1,x1.2.2,x1.1))
theorem zwj (a0:Forest) (x0:List (Int)×Int) (x1:List (Int)×List (Int)×Int) (o:(List (Int)×List (Int)×Int)⊕((List (Int)×Int×List (Int)))) (h:zbD a0 x0 x1=some o):Wp prog zpT (zeV a0 x0 x1) (zbJ (0,[]) (zeV a0 x0) (zlg a0 x0) o):=by
 unfold zbD at h
 delta zpT zeV
 try simp only[go_sem]
 refine zaa (v:= .d (.int .i64 x1.2.2)) (fun hb19=>by simp only[go_sem,hb19]) ?_
 try simp only[go_sem]
 refine zaa (v:= .ptr 0 0 0) (fun hb18=>by simp only[go_sem,hb18]) ?_
 try simp only[go_sem]
 refine zaa (v:= .d (.list a0.nodes.n (a0.nodes.l.map zai))) (fun hb17=>by simp only[go_sem,hb17]) ?_
 try simp only[go_sem]
 refine zaa (v:= .d (.int .i64 (a0.nodes.l.length:Int))) (fun hb16=>by simp only[go_sem,hb16]) ?_
 try simp only[go_sem]
 refine zaa (v:= .d (.bool (decide (x1.2.2≤(a0.nodes.l.length:Int))))) (fun hb15=>by simp only[go_sem,hb15]) ?_
 try simp only[go_sem]
 refine zaG (fun hc4=> ?_) (fun hc5=> ?_)
 ·rw[if_pos hc4]at h
  try simp only[go_sem,hc4]
  obtain⟨y6,hy7,h⟩:=bs h
  try simp only[go_sem,zaV hy7,zbj hy7,zbk hy7,zaI hy7,zaW (D.int .i64) hy7]
  refine zaj (fun hc8=> ?_) (fun hc9=> ?_)
  ·rw[if_pos hc8]at h
   try simp only[go_sem,zaV hy7,zbj hy7,zbk hy7,zaI hy7,zaW (D.int .i64) hy7]
   obtain⟨hm10,h⟩:=zcQ h
   refine zmB (l:=x1.2.1.map fun z=>V.d ((D.int .i64) z)) (new:=[V.d (.int .i64 x1.2.2)]) (sz:=1) (fz:=x1.2.1.length) (by simp only[go_sem,List.map_append,List.map_cons,List.map_nil,zaV hy7,zbj hy7,zbk hy7,zaI hy7,zaW (D.int .i64) hy7,zfM (x:=1) (D.int .i64) (zaI hy7),zfL (x:=1) (zaI hy7)]) (by intro h;simpa using h) (by simp only[go_sem,zee,zeG,zef,zcs,zoD]) (by simp) (by simp only[go_sem]) (by simpa using hm10) ?_
   try simp only[go_sem,zaV hy7,zbj hy7,zbk hy7,zaI hy7,zaW (D.int .i64) hy7,zfM (x:=1) (D.int .i64) (zaI hy7),zfL (x:=1) (zaI hy7),hm10]
   obtain⟨y11,hy12,h⟩:=bs h
   try simp only[go_sem,zaV hy7,zbj hy7,zbk hy7,zaI hy7,zaW (D.int .i64) hy7,zfM (x:=1) (D.int .i64) (zaI hy7),zfL (x:=1) (zaI hy7),hm10,zab hy12,zaf hy12,zac zai hy12]
   obtain⟨r13,hr14,h⟩:=bs h
   replace hr14:=zam hr14
   refine zaq hr14 ?_
   try simp only[go_sem,zaV hy7,zbj hy7,zbk hy7,zaI hy7,zaW (D.int .i64) hy7,zfM (x:=1) (D.int .i64) (zaI hy7),zfL (x:=1) (zaI hy7),hm10,zab hy12,zaf hy12,zac zai hy12]
   cases h
   refine⟨rfl,Up.of (N:=19) (N':=52) [(18,42)] rfl rfl (by decide) ?_ ?_⟩
   ·refine zan.set ?_ (zan.set ?_ (zan.set ?_ (zan.set ?_ (zan.set ?_ (zan.set ?_ zan.none)))))
    all_goals (try simp only[go_sem,List.map_append,List.map_cons,List.map_nil,zaV hy7,zbj hy7,zbk hy7,zaI hy7,zaW (D.int .i64) hy7,zfM (x:=1) (D.int .i64) (zaI hy7),zfL (x:=1) (zaI hy7),hm10,zab hy12,zaf hy12,zac zai hy12])
    all_goals (first|exact VR.d _|exact VR.mb_sl (by simp) rfl (by simp)|exact VR.ptr' rfl|exact VR.sl'' rfl (by simp))
   refine zao.set (show zat _ _ (Heap.get _ 42)from ?_) (zao.set (show zat _ _ (Heap.get _ 6)from ?_) (zao.set (show zat _ _ (Heap.get _ 0)from ?_) (zao.at)))
   all_goals (try simp only[go_sem,List.map_append,List.map_cons,List.map_nil,zaV hy7,zbj hy7,zbk hy7,zaI hy7,zaW (D.int .i64) hy7,zfM (x:=1) (D.int .i64) (zaI hy7),zfL (x:=1) (zaI hy7),hm10,zab hy12,zaf hy12,zac zai hy12])
   all_goals (((repeat' first|exact zat.refl_d|refine zat.els (by simp) ?_|refine zat.mb_els (by simp) ?_|exact VR.d _|exact VRL.nil|exact VRL.refl_d _ _|refine VRL.append ?_ ?_|refine VRL.cons ?_ ?_);done))
  rw[if_neg (ff hc9)]at h
  try simp only[go_sem,zaV hy7,zbj hy7,zbk hy7,zaI hy7,zaW (D.int .i64) hy7]
  cases h
  refine⟨rfl,by simp,Up.of (N:=19) (N':=35) [] rfl rfl (by decide) ?_ ?_⟩
  ·refine zan.set ?_ (zan.set ?_ (zan.set ?_ (zan.set ?_ (zan.set ?_ (zan.set ?_ zan.none)))))
   all_goals (try simp only[go_sem,List.map_append,List.map_cons,List.map_nil,zaV hy7,zbj hy7,zbk hy7,zaI hy7,zaW (D.int .i64) hy7])
   all_goals (first|exact VR.d _|exact VR.mb rfl|exact VR.ptr' rfl|exact VR.sl'' rfl (by simp))
  refine zao.set (show zat _ _ (Heap.get _ 18)from ?_) (zao.set (show zat _ _ (Heap.get _ 6)from ?_) (zao.set (show zat _ _ (Heap.get _ 0)from ?_) (zao.at)))
  all_goals (try simp only[go_sem,List.map_append,List.map_cons,List.map_nil,zaV hy7,zbj hy7,zbk hy7,zaI hy7,zaW (D.int .i64) hy7])
  all_goals (((repeat' first|exact zat.refl_d|refine zat.els (by simp) ?_|refine zat.mb (by simp) ?_|exact VRL.refl_d _ _);done))
 rw[if_neg (ff hc5)]at h
 try simp only[go_sem,hc5]
 cases h
 refine⟨rfl,by simp,Up.of (N:=19) (N':=35) [] rfl rfl (by decide) ?_ ?_⟩
 ·refine zan.set ?_ (zan.set ?_ (zan.set ?_ (zan.set ?_ (zan.set ?_ (zan.set ?_ zan.none)))))
  all_goals (try simp only[go_sem,List.map_append,List.map_cons,List.map_nil])
  all_goals (first|exact VR.d _|exact VR.mb rfl|exact VR.ptr' rfl|exact VR.sl'' rfl (by simp))
 refine zao.set (show zat _ _ (Heap.get _ 18)from ?_) (zao.set (show zat _ _ (Heap.get _ 6)from ?_) (zao.set (show zat _ _ (Heap.get _ 0)from ?_) (zao.at)))
 all_goals (try simp only[go_sem,List.map_append,List.map_cons,List.map_nil])
 all_goals (((repeat' first|exact zat.refl_d|refine zat.els (by simp) ?_|refine zat.mb (by simp) ?_|exact VRL.refl_d _ _);done))
def zeW (a0:Forest) (x0:List (Int)×Int) (r20:List (Int)×Int×List (Int)) (r28:Int) (x2:List (Int)×Int):St:=⟨((((((((Regs.none.set 1 (.ptr 0 0 0)).set 3 (.sl 6 0 (((IntKind.wrap .i64 ((a0.nodes.l.length:Int)+1))).toNat))).set 7 (.d (.int .i64 r28))).set 19 (.d (.int .i64 (a0.nodes.l.length:Int)))).set 20 (.d (.int .i64 x0.2))).set 71 (mb 18 (r20.1.map fun z=>V.d ((D.int .i64) z)))).set 72 (.d (.int .i64 (r20.1.length:Int)))).set 73 (.d (.int .i64 x2.2))),((((Heap.at 39).set 0 (some (.els 1 [.d (zae a0)] 0))).set 6 (some (.els 1 (x2.1.map fun z=>V.d ((D.int .i64) z)) (0)))).set 18 (mbB 1 r20.1.length (r20.1.map fun z=>V.d ((D.int .i64) z))))⟩
def zlh (a0:Forest) (x0:List (Int)×Int) (r20:List (Int)×Int×List (Int)) (r28:Int):((List (Int)))→Ex×St:=fun r=>(.exit 4,⟨((((Regs.none.set 1 (.ptr 0 0 0)).set 3 (.sl 6 0 (((IntKind.wrap .i64 ((a0.nodes.l.length:Int)+1))).toNat))).set 19 (.d (.int .i64 (a0.nodes.l.length:Int)))).set 20 (.d (.int .i64 x0.2))),(((Heap.at 39).set 0 (some (.els 1 [.d (zae a0)] 0))).set 6 (some (.els 1 (r.map fun z=>V.d ((D.int .i64) z)) (0))))⟩)
noncomputable def zbQ (a0:Forest) (x0:List (Int)×Int) (r20:List (Int)×Int×List (Int)) (r28:Int) (x2:List (Int)×Int):Option ((List (Int)×Int)⊕((List (Int)))):=
 if(decide (x2.2<(r20.1.length:Int)))=true then
  (rdA r20.1 r20.1.length x2.2).bind fun y32=>
  (rdA x2.1 (((IntKind.wrap .i64 ((a0.nodes.l.length:Int)+1))).toNat) y32).bind fun y34=>
  some (.inl ((x2.1.set (y32).toNat r28),(IntKind.wrap .i64 (x2.2+1))))
 else
  some (.inr x2.1)
theorem zwk (a0:Forest) (x0:List (Int)×Int) (r20:List (Int)×Int×List (Int)) (r28:Int) (x2:List (Int)×Int) (o:(List (Int)×Int)⊕((List (Int)))) (h:zbQ a0 x0 r20 r28 x2=some o):Wp prog zje (zeW a0 x0 r20 r28 x2) (zbJ (0,[]) (zeW a0 x0 r20 r28) (zlh a0 x0 r20 r28) o):=by
 unfold zbQ at h
 delta zje zeW
 try simp only[go_sem]
 refine zaj (fun hc30=> ?_) (fun hc31=> ?_)
 ·rw[if_pos hc30]at h
  try simp only[go_sem]
  obtain⟨y32,hy33,h⟩:=bs h
  have hne_hy33:=zfx hy33
  try simp only[go_sem,zaV hy33,zbj hy33,zbk hy33,zaI hy33,zaW (D.int .i64) hy33,zzK (zfx hy33),zpF (zfx hy33)]
  obtain⟨y34,hy35,h⟩:=bs h
  try simp only[go_sem,zaV hy33,zbj hy33,zbk hy33,zaI hy33,zaW (D.int .i64) hy33,zzK (zfx hy33),zpF (zfx hy33),zaV hy35,zbj hy35,zbk hy35,zaI hy35,zaW (D.int .i64) hy35]
  cases h
  exact⟨rfl,Up.of (N:=39) (N':=50) [] rfl rfl (by decide) (.set (.d _) (.set (.d _) (.set (by exact VR.sl'' rfl (by rfl)) (.set (.d _) (.set (.d _) (.set (.d _) (.set (.sl'' rfl (by rfl)) (.set (.ptr' rfl) zan.none)))))))) (.set (by exact zat.arr (e:=(D.int .i64)) (l:=r20.1) (by rfl) (Nat.le_refl _)) (.set (zat.arr (e:=(D.int .i64)) (l:=(x2.1.set (y32).toNat r28)) (by rfl) (by exact Nat.le_refl _)) (.set zat.refl_d zao.at)))⟩
 rw[if_neg (ff hc31)]at h
 try simp only[go_sem]
 cases h
 exact⟨rfl,by simp,Up.of (N:=39) (N':=40) [] rfl rfl (by decide) (.set (.d _) (.set (.d _) (.set (.sl'' rfl (by rfl)) (.set (.ptr' rfl) zan.none)))) (.set (zat.arr (e:=(D.int .i64)) (l:=x2.1) (by rfl) (by exact Nat.le_refl _)) (.set zat.refl_d zao.at))⟩
def zeX (a0:Forest) (x0:List (Int)×Int) (r20:List (Int)×Int×List (Int)) (x3:List (Int)×Int):St:=⟨((((((((Regs.none.set 1 (.ptr 0 0 0)).set 3 (.sl 6 0 (((IntKind.wrap .i64 ((a0.nodes.l.length:Int)+1))).toNat))).set 7 (.d (.int .i64 (2)))).set 19 (.d (.int .i64 (a0.nodes.l.length:Int)))).set 20 (.d (.int .i64 x0.2))).set 71 (mb 18 (r20.1.map fun z=>V.d ((D.int .i64) z)))).set 72 (.d (.int .i64 (r20.1.length:Int)))).set 73 (.d (.int .i64 x3.2))),((((Heap.at 39).set 0 (some (.els 1 [.d (zae a0)] 0))).set 6 (some (.els 1 (x3.1.map fun z=>V.d ((D.int .i64) z)) (0)))).set 18 (mbB 1 r20.1.length (r20.1.map fun z=>V.d ((D.int .i64) z))))⟩
def zli (a0:Forest) (x0:List (Int)×Int) (r20:List (Int)×Int×List (Int)):((List (Int)))→Ex×St:=fun r=>(.exit 4,⟨((((Regs.none.set 1 (.ptr 0 0 0)).set 3 (.sl 6 0 (((IntKind.wrap .i64 ((a0.nodes.l.length:Int)+1))).toNat))).set 19 (.d (.int .i64 (a0.nodes.l.length:Int)))).set 20 (.d (.int .i64 x0.2))),(((Heap.at 39).set 0 (some (.els 1 [.d (zae a0)] 0))).set 6 (some (.els 1 (r.map fun z=>V.d ((D.int .i64) z)) (0))))⟩)
noncomputable def zbR (a0:Forest) (x0:List (Int)×Int) (r20:List (Int)×Int×List (Int)) (x3:List (Int)×Int):Option ((List (Int)×Int)⊕((List (Int)))):=
 if(decide (x3.2<(r20.1.length:Int)))=true then
  (rdA r20.1 r20.1.length x3.2).bind fun y40=>
  (rdA x3.1 (((IntKind.wrap .i64 ((a0.nodes.l.length:Int)+1))).toNat) y40).bind fun y42=>
  some (.inl ((x3.1.set (y40).toNat (2)),(IntKind.wrap .i64 (x3.2+1))))
 else
  some (.inr x3.1)
theorem zwl (a0:Forest) (x0:List (Int)×Int) (r20:List (Int)×Int×List (Int)) (x3:List (Int)×Int) (o:(List (Int)×Int)⊕((List (Int)))) (h:zbR a0 x0 r20 x3=some o):Wp prog zje (zeX a0 x0 r20 x3) (zbJ (0,[]) (zeX a0 x0 r20) (zli a0 x0 r20) o):=by
 unfold zbR at h
 delta zje zeX
 try simp only[go_sem]
 refine zaj (fun hc38=> ?_) (fun hc39=> ?_)
 ·rw[if_pos hc38]at h
  try simp only[go_sem]
  obtain⟨y40,hy41,h⟩:=bs h
  have hne_hy41:=zfx hy41
  try simp only[go_sem,zaV hy41,zbj hy41,zbk hy41,zaI hy41,zaW (D.int .i64) hy41,zzK (zfx hy41),zpF (zfx hy41)]
  obtain⟨y42,hy43,h⟩:=bs h
  try simp only[go_sem,zaV hy41,zbj hy41,zbk hy41,zaI hy41,zaW (D.int .i64) hy41,zzK (zfx hy41),zpF (zfx hy41),zaV hy43,zbj hy43,zbk hy43,zaI hy43,zaW (D.int .i64) hy43]
  cases h
  exact⟨rfl,Up.of (N:=39) (N':=50) [] rfl rfl (by decide) (.set (.d _) (.set (.d _) (.set (by exact VR.sl'' rfl (by rfl)) (.set (.d _) (.set (.d _) (.set (.d _) (.set (.sl'' rfl (by rfl)) (.set (.ptr' rfl) zan.none)))))))) (.set (by exact zat.arr (e:=(D.int .i64)) (l:=r20.1) (by rfl) (Nat.le_refl _)) (.set (zat.arr (e:=(D.int .i64)) (l:=(x3.1.set (y40).toNat (2))) (by rfl) (by exact Nat.le_refl _)) (.set zat.refl_d zao.at)))⟩
 rw[if_neg (ff hc39)]at h
 try simp only[go_sem]
 cases h
 exact⟨rfl,by simp,Up.of (N:=39) (N':=40) [] rfl rfl (by decide) (.set (.d _) (.set (.d _) (.set (.sl'' rfl (by rfl)) (.set (.ptr' rfl) zan.none)))) (.set (zat.arr (e:=(D.int .i64)) (l:=x3.1) (by rfl) (by exact Nat.le_refl _)) (.set zat.refl_d zao.at))⟩
def zeY (a0:Forest) (x0:List (Int)×Int):St:=⟨((((Regs.none.set 1 (.ptr 0 0 0)).set 3 (.sl 6 0 (((IntKind.wrap .i64 ((a0.nodes.l.length:Int)+1))).toNat))).set 19 (.d (.int .i64 (a0.nodes.l.length:Int)))).set 20 (.d (.int .i64 x0.2))),(((Heap.at 12).set 0 (some (.els 1 [.d (zae a0)] 0))).set 6 (some (.els 1 (x0.1.map fun z=>V.d ((D.int .i64) z)) (0))))⟩
def zlj (a0:Forest):((List (Int)))→Ex×St:=fun r=>(.exit 0,⟨(Regs.none.set 3 (.sl 6 0 (((IntKind.wrap .i64 ((a0.nodes.l.length:Int)+1))).toNat))),((Heap.at 12).set 6 (some (.els 1 (r.map fun z=>V.d ((D.int .i64) z)) (0))))⟩)
noncomputable def zcb (a0:Forest) (x0:List (Int)×Int):Option ((List (Int)×Int)⊕((List (Int)))):=
 if(decide (x0.2<(a0.nodes.l.length:Int)))=true then
  (zaP (zbD a0 x0) (x0.1,[],(IntKind.wrap .i64 (x0.2+1)))).bind fun r20=>
  if(bif (decide (1≤r20.2.1))then(decide (r20.2.1≤(a0.nodes.l.length:Int)))else false)=true then
   (rdA r20.2.2 (((IntKind.wrap .i64 ((a0.nodes.l.length:Int)+1))).toNat) r20.2.1).bind fun y24=>
   (if(!(y24==2))=true then
    some 3
   else
    some 2:Option ((Int))).bind fun r28=>
   (zaP (zbQ a0 x0 r20 r28) (r20.2.2,0)).bind fun r36=>
   some (.inl (r36,(IntKind.wrap .i64 (x0.2+1))))
  else
   (zaP (zbR a0 x0 r20) (r20.2.2,0)).bind fun r44=>
   some (.inl (r44,(IntKind.wrap .i64 (x0.2+1))))
 else
  some (.inr x0.1)
theorem zwm (a0:Forest) (x0:List (Int)×Int) (o:(List (Int)×Int)⊕((List (Int)))) (h:zcb a0 x0=some o):Wp prog zpU (zeY a0 x0) (zbJ (0,[]) (zeY a0) (zlj a0) o):=by
 unfold zcb at h
 delta zpU zeY
 try simp only[go_sem]
 refine zaj (fun hc2=> ?_) (fun hc3=> ?_)
 ·rw[if_pos hc2]at h
  try simp only[go_sem]
  obtain⟨r20,hl21,h⟩:=bs h
  refine Wp.loopR zbi (n:=(0,[])) (a:=zpT) rfl (zeV a0 x0) (zlg a0 x0) (zwj a0 x0) hl21 ?_ (by(repeat(first|refine Clo.block ?_|refine Clo.seq zbi rfl ?_));(exact Clo.lpost (by decide))) ?_
  ·show Up (0,[]) (zeV a0 x0 (x0.1,[],(IntKind.wrap .i64 (x0.2+1)))) _
   delta zeV
   refine Up.of (N:=19) (N':=19) [] rfl rfl (by decide) ?_ ?_
   ·refine zan.set ?_ (zan.set ?_ (zan.set ?_ (zan.set ?_ (zan.set ?_ (zan.set ?_ zan.none)))))
    all_goals (try simp only[go_sem,List.map_append,List.map_cons,List.map_nil])
    all_goals (first|exact VR.d _|exact VR.ptr' rfl|exact VR.sl'' rfl (by simp))
   refine zao.set (show zat _ _ (Heap.get _ 18)from ?_) (zao.set (show zat _ _ (Heap.get _ 6)from ?_) (zao.set (show zat _ _ (Heap.get _ 0)from ?_) (zao.at)))
   all_goals (try simp only[go_sem,List.map_append,List.map_cons,List.map_nil])
   all_goals (((repeat' first|trivial|exact zat.refl_d|refine zat.els (by simp) ?_|exact VRL.refl_d _ _);done))
  dsimp only[zlg]
  try simp only[go_sem]
  refine zaa (v:= .d (.int .i64 r20.2.1)) (fun hb50=>by simp only[go_sem,hc2,hb50]) ?_
  try simp only[go_sem]
  refine zaa (v:= .ptr 0 0 0) (fun hb49=>by simp only[go_sem,hc2,hb49]) ?_
  try simp only[go_sem]
  refine zaa (v:= .d (.list a0.nodes.n (a0.nodes.l.map zai))) (fun hb48=>by simp only[go_sem,hc2,hb48]) ?_
  try simp only[go_sem]
  refine zaa (v:= .d (.int .i64 (a0.nodes.l.length:Int))) (fun hb47=>by simp only[go_sem,hc2,hb47]) ?_
  try simp only[go_sem]
  refine zaa (v:= .d (.bool (decide (r20.2.1≤(a0.nodes.l.length:Int))))) (fun hb46=>by simp only[go_sem,hc2,hb46]) ?_
  try simp only[go_sem]
  refine zaG (fun hc22=> ?_) (fun hc23=> ?_)
  ·rw[if_pos hc22]at h
   try simp only[go_sem,hc22]
   obtain⟨y24,hy25,h⟩:=bs h
   try simp only[go_sem,zaV hy25,zbj hy25,zbk hy25,zaI hy25,zaW (D.int .i64) hy25]
   obtain⟨r28,hl29,h⟩:=bs h
   refine WBr.cut (n:=(0,[])) .normal ⟨((((((Regs.none.set 1 (.ptr 0 0 0)).set 3 (.sl 6 0 (((IntKind.wrap .i64 ((a0.nodes.l.length:Int)+1))).toNat))).set 5 (mb 18 (r20.1.map fun z=>V.d ((D.int .i64) z)))).set 7 (.d (.int .i64 r28))).set 19 (.d (.int .i64 (a0.nodes.l.length:Int)))).set 20 (.d (.int .i64 x0.2))),((((Heap.at 36).set 0 (some (.els 1 [.d (zae a0)] 0))).set 6 (some (.els 1 (r20.2.2.map fun z=>V.d ((D.int .i64) z)) (0)))).set 18 (mbB 1 r20.1.length (r20.1.map fun z=>V.d ((D.int .i64) z))))⟩ ?_ (by(repeat(first|refine Clo.block ?_|refine Clo.seq zbi rfl ?_));(exact Clo.lpost (by decide))) ?_
   ·replace h:=hl29
    refine zaF (fun hc26=> ?_) (fun hc27=> ?_)
    ·rw[if_pos (show(!(y24==2))=true by(rw[hc26];rfl))]at h
     try simp only[go_sem,zaV hy25,zbj hy25,zbk hy25,zaI hy25,zaW (D.int .i64) hy25]
     cases h
     exact⟨rfl,Up.of (N:=36) (N':=37) [] rfl rfl (by decide) (.set (.d _) (.set (.d _) (.set (.d _) (.set (.mb rfl) (.set (.sl'' rfl (by rfl)) (.set (.ptr' rfl) zan.none)))))) (.set (zat.mb (Nat.le_refl _) (VRL.refl_d _ _)) (.set (zat.arr (e:=(D.int .i64)) (l:=r20.2.2) (by rfl) (by exact Nat.le_refl _)) (.set zat.refl_d zao.at)))⟩
    rw[if_neg (ffn hc27)]at h
    try simp only[go_sem,zaV hy25,zbj hy25,zbk hy25,zaI hy25,zaW (D.int .i64) hy25]
    cases h
    exact⟨rfl,Up.of (N:=36) (N':=36) [] rfl rfl (by decide) (.set (.d _) (.set (.d _) (.set (.d _) (.set (.mb rfl) (.set (.sl'' rfl (by rfl)) (.set (.ptr' rfl) zan.none)))))) (.set (zat.mb (Nat.le_refl _) (VRL.refl_d _ _)) (.set (zat.arr (e:=(D.int .i64)) (l:=r20.2.2) (by rfl) (by exact Nat.le_refl _)) (.set zat.refl_d zao.at)))⟩
   try simp only[go_sem,zaV hy25,zbj hy25,zbk hy25,zaI hy25,zaW (D.int .i64) hy25]
   obtain⟨r36,hl37,h⟩:=bs h
   refine Wp.loopR zbi (n:=(0,[])) (a:=zje) rfl (zeW a0 x0 r20 r28) (zlh a0 x0 r20 r28) (zwk a0 x0 r20 r28) hl37 ?_ (by(repeat(first|refine Clo.block ?_|refine Clo.seq zbi rfl ?_));(exact Clo.lpost (by decide))) ?_
   ·show Up (0,[]) (zeW a0 x0 r20 r28 (r20.2.2,0)) _
    delta zeW
    exact Up.of (N:=39) (N':=39) [] rfl rfl (by decide) (.set (.d _) (.set (.d _) (.set (.mb rfl) (.set (.d _) (.set (.d _) (.set (.d _) (.set (.sl'' rfl (by rfl)) (.set (.ptr' rfl) zan.none)))))))) (.set (zat.mb (Nat.le_refl _) (VRL.refl_d _ _)) (.set (zat.arr (e:=(D.int .i64)) (l:=r20.2.2) (by rfl) (by exact Nat.le_refl _)) (.set zat.refl_d zao.at)))
   dsimp only[zlh]
   try simp only[go_sem,zaV hy25,zbj hy25,zbk hy25,zaI hy25,zaW (D.int .i64) hy25]
   cases h
   exact⟨rfl,Up.of (N:=12) (N':=41) [] rfl rfl (by decide) (.set (.d _) (.set (.d _) (.set (.sl'' rfl (by rfl)) (.set (.ptr' rfl) zan.none)))) (.set (zat.arr (e:=(D.int .i64)) (l:=r36) (by rfl) (by exact Nat.le_refl _)) (.set zat.refl_d zao.at))⟩
  rw[if_neg (ff hc23)]at h
  try simp only[go_sem,hc23]
  obtain⟨r44,hl45,h⟩:=bs h
  refine Wp.loopR zbi (n:=(0,[])) (a:=zje) rfl (zeX a0 x0 r20) (zli a0 x0 r20) (zwl a0 x0 r20) hl45 ?_ (by(repeat(first|refine Clo.block ?_|refine Clo.seq zbi rfl ?_));(exact Clo.lpost (by decide))) ?_
  ·show Up (0,[]) (zeX a0 x0 r20 (r20.2.2,0)) _
   delta zeX
   exact Up.of (N:=39) (N':=39) [] rfl rfl (by decide) (.set (.d _) (.set (.d _) (.set (.mb rfl) (.set (.d _) (.set (.d _) (.set (.d _) (.set (.sl'' rfl (by rfl)) (.set (.ptr' rfl) zan.none)))))))) (.set (zat.mb (Nat.le_refl _) (VRL.refl_d _ _)) (.set (zat.arr (e:=(D.int .i64)) (l:=r20.2.2) (by rfl) (by exact Nat.le_refl _)) (.set zat.refl_d zao.at)))
  dsimp only[zli]
  try simp only[go_sem]
  cases h
  exact⟨rfl,Up.of (N:=12) (N':=41) [] rfl rfl (by decide) (.set (.d _) (.set (.d _) (.set (.sl'' rfl (by rfl)) (.set (.ptr' rfl) zan.none)))) (.set (zat.arr (e:=(D.int .i64)) (l:=r44) (by rfl) (by exact Nat.le_refl _)) (.set zat.refl_d zao.at))⟩
 rw[if_neg (ff hc3)]at h
 try simp only[go_sem]
 cases h
 exact⟨rfl,by simp,Up.of (N:=12) (N':=13) [] rfl rfl (by decide) (.set (.sl'' rfl (by rfl)) zan.none) (.set (zat.arr (e:=(D.int .i64)) (l:=x0.1) (by rfl) (by exact Nat.le_refl _)) zao.at)⟩
def zeZ (a0:Forest) (r51:List (Int)) (x4:List (Bool)×Int):St:=⟨((((Regs.none.set 3 (.sl 6 0 (((IntKind.wrap .i64 ((a0.nodes.l.length:Int)+1))).toNat))).set 10 (.sl 14 0 (((IntKind.wrap .i64 ((a0.nodes.l.length:Int)+1))).toNat))).set 87 (.d (.int .i64 (((((IntKind.wrap .i64 ((a0.nodes.l.length:Int)+1))).toNat):Nat):Int)))).set 88 (.d (.int .i64 x4.2))),(((Heap.at 19).set 6 (some (.els 1 (r51.map fun z=>V.d ((D.int .i64) z)) (0)))).set 14 (some (.els 1 (x4.1.map fun z=>V.d (D.bool z)) (0))))⟩
def zlk (a0:Forest) (r51:List (Int)):((List (Bool)))→Ex×St:=fun r=>(.exit 6,⟨(Regs.none.set 10 (.sl 14 0 (((IntKind.wrap .i64 ((a0.nodes.l.length:Int)+1))).toNat))),((Heap.at 19).set 14 (some (.els 1 (r.map fun z=>V.d (D.bool z)) (0))))⟩)
noncomputable def zcA (a0:Forest) (r51:List (Int)) (x4:List (Bool)×Int):Option ((List (Bool)×Int)⊕((List (Bool)))):=
 if(decide (x4.2<(((((IntKind.wrap .i64 ((a0.nodes.l.length:Int)+1))).toNat):Nat):Int)))=true then
  (rdA r51 (((IntKind.wrap .i64 ((a0.nodes.l.length:Int)+1))).toNat) x4.2).bind fun y56=>
  (rdA x4.1 (((IntKind.wrap .i64 ((a0.nodes.l.length:Int)+1))).toNat) x4.2).bind fun y58=>
  some (.inl ((x4.1.set (x4.2).toNat (y56==2)),(IntKind.wrap .i64 (x4.2+1))))
 else
  some (.inr x4.1)
theorem zwn (a0:Forest) (r51:List (Int)) (x4:List (Bool)×Int) (o:(List (Bool)×Int)⊕((List (Bool)))) (h:zcA a0 r51 x4=some o):Wp prog zpV (zeZ a0 r51 x4) (zbJ (0,[]) (zeZ a0 r51) (zlk a0 r51) o):=by
 unfold zcA at h
 delta zpV zeZ
 try simp only[go_sem]
 refine zaj (fun hc54=> ?_) (fun hc55=> ?_)
 ·rw[if_pos hc54]at h
  try simp only[go_sem]
  obtain⟨y56,hy57,h⟩:=bs h
  try simp only[go_sem,zaV hy57,zbj hy57,zbk hy57,zaI hy57,zaW (D.int .i64) hy57]
  obtain⟨y58,hy59,h⟩:=bs h
  try simp only[go_sem,zaV hy57,zbj hy57,zbk hy57,zaI hy57,zaW (D.int .i64) hy57,zaV hy59,zbj hy59,zbk hy59,zaI hy59,zaW D.bool hy59]
  cases h
  exact⟨rfl,Up.of (N:=19) (N':=33) [] rfl rfl (by decide) (.set (.d _) (.set (.d _) (.set (.sl'' rfl (by rfl)) (.set (.sl'' rfl (by rfl)) zan.none)))) (.set (zat.arr (e:=D.bool) (l:=(x4.1.set (x4.2).toNat (y56==2))) (by rfl) (by exact Nat.le_refl _)) (.set (zat.arr (e:=(D.int .i64)) (l:=r51) (by rfl) (by exact Nat.le_refl _)) zao.at))⟩
 rw[if_neg (ff hc55)]at h
 try simp only[go_sem]
 cases h
 exact⟨rfl,by simp,Up.of (N:=19) (N':=20) [] rfl rfl (by decide) (.set (.sl'' rfl (by rfl)) zan.none) (.set (zat.arr (e:=D.bool) (l:=x4.1) (by rfl) (by exact Nat.le_refl _)) zao.at)⟩
noncomputable def zKH (a0:Forest):Option (Sl (Bool)):=
 if 0≤(IntKind.wrap .i64 ((a0.nodes.l.length:Int)+1))∧((IntKind.wrap .i64 ((a0.nodes.l.length:Int)+1))).toNat*8≤AI.roomBytes then
  (zaP (zcb a0) ((List.replicate ((IntKind.wrap .i64 ((a0.nodes.l.length:Int)+1))).toNat 0),0)).bind fun r51=>
  if 0≤((((IntKind.wrap .i64 ((a0.nodes.l.length:Int)+1))).toNat:Nat):Int)∧(((IntKind.wrap .i64 ((a0.nodes.l.length:Int)+1))).toNat)*1≤AI.roomBytes then
   (zaP (zcA a0 r51) ((List.replicate (((IntKind.wrap .i64 ((a0.nodes.l.length:Int)+1))).toNat) false),0)).bind fun r60=>
   if r60.length=(((IntKind.wrap .i64 ((a0.nodes.l.length:Int)+1))).toNat)then
    some (⟨false,r60⟩)
   else none
  else none
 else none
theorem zKI (a0:Forest) (r:Sl (Bool)) (h:zKH a0=some r):pc prog 191 [zae a0]=some ((eSl D.bool) r):=by
 unfold zKH at h
 refine zaZ (fn:=zIj) rfl rfl ?_
 delta zIj
 try simp only[go_sem]
 obtain⟨hm1,h⟩:=zcQ h
 simp only[go_sem,ziw,ziy,hm1.1,hm1.2,Nat.le_refl,and_self,if_true,Option.bind_some,zvG,zpG,zvH]
 obtain⟨r51,hl52,h⟩:=bs h
 refine Wp.loopR zbi (n:=(0,[])) (a:=zpU) rfl (zeY a0) (zlj a0) (zwm a0) hl52 ?_ (by(repeat(first|refine Clo.block ?_|refine Clo.seq zbi rfl ?_));(exact Clo.ret)) ?_
 ·show Up (0,[]) (zeY a0 ((List.replicate ((IntKind.wrap .i64 ((a0.nodes.l.length:Int)+1))).toNat 0),0)) _
  delta zeY
  exact Up.of (N:=12) (N':=12) [] rfl rfl (by decide) (.set (.d _) (.set (.d _) (.set (.sl'' rfl (by rfl)) (.set (.ptr' rfl) zan.none)))) (.set (zat.arr (e:=(D.int .i64)) (l:=(List.replicate ((IntKind.wrap .i64 ((a0.nodes.l.length:Int)+1))).toNat 0)) (by rfl) (by exact Nat.le_refl _)) (.set zat.refl_d zao.at))
 dsimp only[zlj]
 try simp only[go_sem,hm1.1,hm1.2]
 obtain⟨hm53,h⟩:=zcQ h
 simp only[go_sem,hm1.1,hm1.2,ziw,ziy,hm53.1,hm53.2,Nat.le_refl,and_self,if_true,Option.bind_some,zvG,zpG,zvH]
 obtain⟨r60,hl61,h⟩:=bs h
 refine Wp.loopR zbi (n:=(0,[])) (a:=zpV) rfl (zeZ a0 r51) (zlk a0 r51) (zwn a0 r51) hl61 ?_ (by(repeat(first|refine Clo.block ?_|refine Clo.seq zbi rfl ?_));(exact Clo.ret)) ?_
 ·show Up (0,[]) (zeZ a0 r51 ((List.replicate (((IntKind.wrap .i64 ((a0.nodes.l.length:Int)+1))).toNat) false),0)) _
  delta zeZ
  exact Up.of (N:=19) (N':=19) [] rfl rfl (by decide) (.set (.d _) (.set (.d _) (.set (.sl'' rfl (by rfl)) (.set (.sl'' rfl (by rfl)) zan.none)))) (.set (zat.arr (e:=D.bool) (l:=(List.replicate (((IntKind.wrap .i64 ((a0.nodes.l.length:Int)+1))).toNat) false)) (by rfl) (by exact Nat.le_refl _)) (.set (zat.arr (e:=(D.int .i64)) (l:=r51) (by rfl) (by exact Nat.le_refl _)) zao.at))
 dsimp only[zlk]
 try simp only[go_sem,hm1.1,hm1.2,hm53.1,hm53.2]
 obtain⟨hq62,h⟩:=zcQ h
 cases h
 refine Reads.ofv (v':= .sl 14 0 (((IntKind.wrap .i64 ((a0.nodes.l.length:Int)+1))).toNat)) (by rfl) (Rd.sl (e:=D.bool) (l:=r60) (sz:=1) (fz:=0) (m:=r60.map fun z=>V.d (D.bool z)) (by simp only[go_sem,List.map_append,List.map_cons,List.map_nil,hm1.1,hm1.2,hm53.1,hm53.2,hq62]) rfl (by exact hq62)) rfl
noncomputable def zKJ (a0:Node):Option (Bool):=
 (dec zaC (pc prog 215 [.int .u8 a0.kind])).bind fun r1=>
 (if r1.known=true then
  (dec D.bool (pc prog 216 [zai a0,zaC r1])).bind fun r5=>
  if r5=true then
   (dec D.bool (pc prog 217 [.list a0.attrs.n (a0.attrs.l.map zaJ)])).bind fun r9=>
   some (!r9)
  else
   some true
 else
  some true:Option ((Bool))).bind fun r13=>
 if r13=true then
  some false
 else
  (dec D.bool (pc prog 218 [.list false (([a0.public_,a0.system]).map D.str)])).bind fun r17=>
  if r17=true then
   (if(!(a0.kind==10))=true then
    some (bif (!(a0.public_==[]))then true else(!(a0.system==[])))
   else
    some false:Option ((Bool))).bind fun r23=>
   if r23=true then
    some false
   else
    (if(!(decide (16384<(a0.data.l.length:Int))))=true then
     if(!(bif (!r1.data)then(decide (0<(a0.data.l.length:Int)))else false))=true then
      some (bif (!r1.kids)then(decide (0<(a0.kids.l.length:Int)))else false)
     else
      some true
    else
     some true:Option ((Bool))).bind fun r47=>
    (if r47=true then
     some (.inr ())
    else
     if(!(a0.kind==1))=true then
      if(!(bif (decide (0<(a0.attrs.l.length:Int)))then true else(!(a0.shadow==0))))=true then
       if(bif (!(a0.kind==9))then a0.hTML else false)=true then
        some (.inr ())
       else
        if(bif (!r1.hung)then(!(a0.parent==0))else false)=true then
         some (.inr ())
        else
         some (.inl ())
      else
       some (.inr ())
     else
      if(bif (!(a0.kind==9))then a0.hTML else false)=true then
       some (.inr ())
      else
       if(bif (!r1.hung)then(!(a0.parent==0))else false)=true then
        some (.inr ())
       else
        some (.inl ()):Option ((Unit)⊕(Unit))).bind fun r95=>
    match r95 with
    |(.inl q97)=>
     if(a0.kind==12)=true then
      some (bif (a0.mode==1)then true else(a0.mode==2))
     else
      some (bif (bif (a0.mode==0)then(!a0.manual)else false)then(a0.host==0)else false)
    |(.inr q109)=>
     some false
  else
   some false
theorem zKK (a0:Node) (r:Bool) (h:zKJ a0=some r):pc prog 192 [zai a0]=some (D.bool r):=by
 unfold zKJ at h
 refine zaZ (fn:=zIk) rfl rfl ?_
 delta zIk
 try simp only[go_sem]
 obtain⟨r1,hr2,h⟩:=bs h
 replace hr2:=zam hr2
 refine zaq hr2 ?_
 try simp only[go_sem]
 refine zaa (v:= .d (zai a0)) (fun hb158=>by simp only[go_sem,hb158]) ?_
 try simp only[go_sem]
 refine zaa (v:= .d (zaC r1)) (fun hb157=>by simp only[go_sem,hb157]) ?_
 try simp only[go_sem]
 obtain⟨r13,hl14,h⟩:=bs h
 refine zbW.cut (n:=(0,[])) .normal ⟨((((Regs.none.set 1 (.ptr 0 0 0)).set 3 (.ptr 5 0 0)).set 4 (.d (.bool (a0.kind==1)))).set 11 (.d (.bool r13))),(((Heap.at 27).set 0 (some (.els 16 [.d (zai a0)] 0))).set 5 (some (.els 6 [.d (zaC r1)] 0)))⟩ ?_ (by(repeat(first|refine Clo.block ?_|refine Clo.seq zbi rfl ?_));(exact Clo.ret)) ?_
 ·replace h:=hl14
  refine zaG (fun hc3=> ?_) (fun hc4=> ?_)
  ·rw[if_pos hc3]at h
   try simp only[go_sem,hc3]
   obtain⟨r5,hr6,h⟩:=bs h
   replace hr6:=zam hr6
   refine zaq hr6 ?_
   try simp only[go_sem]
   refine zaa (v:= .ptr 0 0 7) (fun hb12=>by simp only[go_sem,hc3,hb12]) ?_
   try simp only[go_sem]
   refine zaa (v:= .d (.list a0.attrs.n (a0.attrs.l.map zaJ))) (fun hb11=>by simp only[go_sem,hc3,hb11]) ?_
   try simp only[go_sem]
   refine zaG (fun hc7=> ?_) (fun hc8=> ?_)
   ·rw[if_pos hc7]at h
    try simp only[go_sem,hc7]
    obtain⟨r9,hr10,h⟩:=bs h
    replace hr10:=zam hr10
    refine zaq hr10 ?_
    try simp only[go_sem]
    cases h
    exact⟨rfl,Up.of (N:=27) (N':=27) [] rfl rfl (by decide) (.set (.d _) (.set (.d _) (.set (.ptr' rfl) (.set (.ptr' rfl) zan.none)))) (.set zat.refl_d (.set zat.refl_d zao.at))⟩
   rw[if_neg (ff hc8)]at h
   try simp only[go_sem,hc8]
   cases h
   exact⟨rfl,Up.of (N:=27) (N':=27) [] rfl rfl (by decide) (.set (.d _) (.set (.d _) (.set (.ptr' rfl) (.set (.ptr' rfl) zan.none)))) (.set zat.refl_d (.set zat.refl_d zao.at))⟩
  rw[if_neg (ff hc4)]at h
  try simp only[go_sem,hc4]
  cases h
  exact⟨rfl,Up.of (N:=27) (N':=27) [] rfl rfl (by decide) (.set (.d _) (.set (.d _) (.set (.ptr' rfl) (.set (.ptr' rfl) zan.none)))) (.set zat.refl_d (.set zat.refl_d zao.at))⟩
 try simp only[go_sem]
 refine zaj (fun hc15=> ?_) (fun hc16=> ?_)
 ·rw[if_pos hc15]at h
  try simp only[go_sem]
  cases h
  rfl
 rw[if_neg (ff hc16)]at h
 try simp only[go_sem]
 obtain⟨r17,hr18,h⟩:=bs h
 replace hr18:=zam hr18
 refine zaq hr18 ?_
 try simp only[go_sem]
 refine zaa (v:= .ptr 0 0 0) (fun hb156=>by simp only[go_sem,hc16,hb156]) ?_
 try simp only[go_sem]
 refine zaa (v:= .d (.int .u8 a0.kind)) (fun hb155=>by simp only[go_sem,hc16,hb155]) ?_
 try simp only[go_sem]
 refine zaa (v:= .d (.bool (!(a0.kind==10)))) (fun hb154=>by simp only[go_sem,hc16,hb154]) ?_
 try simp only[go_sem]
 refine zaa (v:= .d (.bool (!(a0.kind==10)))) (fun hb153=>by simp only[go_sem,hc16,hb153]) ?_
 try simp only[go_sem]
 refine zaa (v:= .ptr 0 0 4) (fun hb150=>by((obtain⟨hb151,hb152⟩:=zaB hb150));simp only[go_sem,hc16,hb152,hb151]) ?_
 try simp only[go_sem]
 refine zaa (v:= .d (.str a0.public_)) (fun hb147=>by((obtain⟨hb148,hb149⟩:=zaB hb147));simp only[go_sem,hc16,hb149,hb148]) ?_
 try simp only[go_sem]
 refine zaa (v:= .d (.bool (!(a0.public_==[])))) (fun hb144=>by((obtain⟨hb145,hb146⟩:=zaB hb144));simp only[go_sem,hc16,hb146,hb145]) ?_
 try simp only[go_sem]
 refine zaa (v:= .d (.bool (!(a0.public_==[])))) (fun hb141=>by((obtain⟨hb142,hb143⟩:=zaB hb141));simp only[go_sem,hc16,hb143,hb142]) ?_
 try simp only[go_sem]
 refine zaa (v:= .ptr 0 0 5) (fun hb136=>by((obtain⟨hb137,hb138⟩:=zaB hb136);(obtain⟨hb139,hb140⟩:=zaB hb137));simp only[go_sem,hc16,hb138,hb140,hb139]) ?_
 try simp only[go_sem]
 refine zaa (v:= .d (.str a0.system)) (fun hb131=>by((obtain⟨hb132,hb133⟩:=zaB hb131);(obtain⟨hb134,hb135⟩:=zaB hb132));simp only[go_sem,hc16,hb133,hb135,hb134]) ?_
 try simp only[go_sem]
 refine zaa (v:= .d (.bool (!(a0.system==[])))) (fun hb126=>by((obtain⟨hb127,hb128⟩:=zaB hb126);(obtain⟨hb129,hb130⟩:=zaB hb127));simp only[go_sem,hc16,hb128,hb130,hb129]) ?_
 try simp only[go_sem]
 rcases Bool.eq_false_or_eq_true (r17)with hc19|hc20
 ·rw[if_pos hc19]at h
  try simp only[go_sem,hc19]
  obtain⟨r23,hl24,h⟩:=bs h
  refine zbW.cut (n:=(0,[])) .normal ⟨((((Regs.none.set 1 (.ptr 0 0 0)).set 3 (.ptr 5 0 0)).set 4 (.d (.bool (a0.kind==1)))).set 27 (.d (.bool r23))),(((Heap.at 50).set 0 (some (.els 16 [.d (zai a0)] 0))).set 5 (some (.els 6 [.d (zaC r1)] 0)))⟩ ?_ (by(repeat(first|refine Clo.block ?_|refine Clo.seq zbi rfl ?_));(exact Clo.ret)) ?_
  ·replace h:=hl24
   refine zaE (fun hc21=> ?_) (fun hc22=> ?_)
   ·rw[if_pos (show(!(a0.kind==10))=true by(rw[hc21];rfl))]at h
    try simp only[go_sem,hc21]
    try simp only[go_sem,hc16,hc19,hc21]
    cases h
    exact⟨rfl,Up.of (N:=50) (N':=50) [] rfl rfl (by decide) (.set (.d _) (.set (.d _) (.set (.ptr' rfl) (.set (.ptr' rfl) zan.none)))) (.set zat.refl_d (.set zat.refl_d zao.at))⟩
   rw[if_neg (ffn hc22)]at h
   try simp only[go_sem,hc22]
   try simp only[go_sem,hc16,hc19,hc22]
   cases h
   exact⟨rfl,Up.of (N:=50) (N':=50) [] rfl rfl (by decide) (.set (.d _) (.set (.d _) (.set (.ptr' rfl) (.set (.ptr' rfl) zan.none)))) (.set zat.refl_d (.set zat.refl_d zao.at))⟩
  try simp only[go_sem]
  refine zaj (fun hc25=> ?_) (fun hc26=> ?_)
  ·rw[if_pos hc25]at h
   try simp only[go_sem]
   cases h
   rfl
  rw[if_neg (ff hc26)]at h
  try simp only[go_sem]
  refine zaa (v:= .ptr 5 0 1) (fun hb125=>by simp only[go_sem,hc16,hc19,hc26,hb125]) ?_
  try simp only[go_sem]
  refine zaa (v:= .d (.bool r1.data)) (fun hb124=>by simp only[go_sem,hc16,hc19,hc26,hb124]) ?_
  try simp only[go_sem]
  refine zaa (v:= .d (.bool (!r1.data))) (fun hb123=>by simp only[go_sem,hc16,hc19,hc26,hb123]) ?_
  try simp only[go_sem]
  refine zaa (v:= .d (.bool (!r1.data))) (fun hb122=>by simp only[go_sem,hc16,hc19,hc26,hb122]) ?_
  try simp only[go_sem]
  refine zaa (v:= .ptr 0 0 6) (fun hb119=>by((obtain⟨hb120,hb121⟩:=zaB hb119));simp only[go_sem,hc16,hc19,hc26,hb121,hb120]) ?_
  try simp only[go_sem]
  refine zaa (v:= .d (.list a0.data.n (a0.data.l.map (D.int .u16)))) (fun hb116=>by((obtain⟨hb117,hb118⟩:=zaB hb116));simp only[go_sem,hc16,hc19,hc26,hb118,hb117]) ?_
  try simp only[go_sem]
  refine zaa (v:= .d (.int .i64 (a0.data.l.length:Int))) (fun hb113=>by((obtain⟨hb114,hb115⟩:=zaB hb113));simp only[go_sem,hc16,hc19,hc26,hb115,hb114]) ?_
  try simp only[go_sem]
  refine zaa (v:= .d (.bool (decide (0<(a0.data.l.length:Int))))) (fun hb110=>by((obtain⟨hb111,hb112⟩:=zaB hb110));simp only[go_sem,hc16,hc19,hc26,hb112,hb111]) ?_
  try simp only[go_sem]
  obtain⟨r47,hl48,h⟩:=bs h
  refine zbW.cut (n:=(0,[])) .normal ⟨((((Regs.none.set 1 (.ptr 0 0 0)).set 3 (.ptr 5 0 0)).set 4 (.d (.bool (a0.kind==1)))).set 50 (.d (.bool r47))),(((Heap.at 77).set 0 (some (.els 16 [.d (zai a0)] 0))).set 5 (some (.els 6 [.d (zaC r1)] 0)))⟩ ?_ (by(repeat(first|refine Clo.block ?_|refine Clo.seq zbi rfl ?_));(exact Clo.ret)) ?_
  ·replace h:=hl48
   refine zaE (fun hc27=> ?_) (fun hc28=> ?_)
   ·rw[if_pos (show(!(decide (16384<(a0.data.l.length:Int))))=true by(rw[hc27];rfl))]at h
    try simp only[go_sem,hc27]
    refine zaa (v:= .ptr 5 0 2) (fun hb46=>by simp only[go_sem,hc16,hc19,hc26,hc27,hb46]) ?_
    try simp only[go_sem]
    refine zaa (v:= .d (.bool r1.kids)) (fun hb45=>by simp only[go_sem,hc16,hc19,hc26,hc27,hb45]) ?_
    try simp only[go_sem]
    refine zaa (v:= .d (.bool (!r1.kids))) (fun hb44=>by simp only[go_sem,hc16,hc19,hc26,hc27,hb44]) ?_
    try simp only[go_sem]
    refine zaa (v:= .d (.bool (!r1.kids))) (fun hb43=>by simp only[go_sem,hc16,hc19,hc26,hc27,hb43]) ?_
    try simp only[go_sem]
    refine zaa (v:= .ptr 0 0 9) (fun hb40=>by((obtain⟨hb41,hb42⟩:=zaB hb40));simp only[go_sem,hc16,hc19,hc26,hc27,hb42,hb41]) ?_
    try simp only[go_sem]
    refine zaa (v:= .d (.list a0.kids.n (a0.kids.l.map (D.int .i64)))) (fun hb37=>by((obtain⟨hb38,hb39⟩:=zaB hb37));simp only[go_sem,hc16,hc19,hc26,hc27,hb39,hb38]) ?_
    try simp only[go_sem]
    refine zaa (v:= .d (.int .i64 (a0.kids.l.length:Int))) (fun hb34=>by((obtain⟨hb35,hb36⟩:=zaB hb34));simp only[go_sem,hc16,hc19,hc26,hc27,hb36,hb35]) ?_
    try simp only[go_sem]
    refine zaa (v:= .d (.bool (decide (0<(a0.kids.l.length:Int))))) (fun hb31=>by((obtain⟨hb32,hb33⟩:=zaB hb31));simp only[go_sem,hc16,hc19,hc26,hc27,hb33,hb32]) ?_
    try simp only[go_sem]
    refine zaE (fun hc29=> ?_) (fun hc30=> ?_)
    ·rw[if_pos (show(!(bif (!r1.data)then(decide (0<(a0.data.l.length:Int)))else false))=true by(rw[hc29];rfl))]at h
     try simp only[go_sem,hc29]
     cases h
     exact⟨rfl,Up.of (N:=77) (N':=77) [] rfl rfl (by decide) (.set (.d _) (.set (.d _) (.set (.ptr' rfl) (.set (.ptr' rfl) zan.none)))) (.set zat.refl_d (.set zat.refl_d zao.at))⟩
    rw[if_neg (ffn hc30)]at h
    try simp only[go_sem,hc30]
    cases h
    exact⟨rfl,Up.of (N:=77) (N':=77) [] rfl rfl (by decide) (.set (.d _) (.set (.d _) (.set (.ptr' rfl) (.set (.ptr' rfl) zan.none)))) (.set zat.refl_d (.set zat.refl_d zao.at))⟩
   rw[if_neg (ffn hc28)]at h
   try simp only[go_sem,hc28]
   cases h
   exact⟨rfl,Up.of (N:=77) (N':=77) [] rfl rfl (by decide) (.set (.d _) (.set (.d _) (.set (.ptr' rfl) (.set (.ptr' rfl) zan.none)))) (.set zat.refl_d (.set zat.refl_d zao.at))⟩
  try simp only[go_sem]
  obtain⟨r95,hl96,h⟩:=bs h
  refine WBr.cut (n:=(0,[])) ((fun r=>match r with|(.inl r)=>(.normal,⟨(Regs.none.set 1 (.ptr 0 0 0)),((Heap.at 77).set 0 (some (.els 16 [.d (zai a0)] 0)))⟩)|(.inr r)=>(.ret,⟨(Regs.none.set 2 (.d (.bool false))),(Heap.at 77)⟩):((Unit)⊕(Unit))→Ex×St) r95).1 ((fun r=>match r with|(.inl r)=>(.normal,⟨(Regs.none.set 1 (.ptr 0 0 0)),((Heap.at 77).set 0 (some (.els 16 [.d (zai a0)] 0)))⟩)|(.inr r)=>(.ret,⟨(Regs.none.set 2 (.d (.bool false))),(Heap.at 77)⟩):((Unit)⊕(Unit))→Ex×St) r95).2 ?_ (by(repeat(first|refine Clo.block ?_|refine Clo.seq zbi rfl ?_));(exact Clo.ret)) ?_
  ·replace h:=hl96
   refine zaj (fun hc49=> ?_) (fun hc50=> ?_)
   ·rw[if_pos hc49]at h
    try simp only[go_sem]
    cases h
    exact⟨rfl,Up.of (N:=77) (N':=78) [] rfl rfl (by decide) (.set (.d _) zan.none) zao.at⟩
   rw[if_neg (ff hc50)]at h
   try simp only[go_sem]
   refine zaa (v:= .ptr 0 0 7) (fun hb94=>by simp only[go_sem,hc16,hc19,hc26,hc50,hb94]) ?_
   try simp only[go_sem]
   refine zaa (v:= .d (.list a0.attrs.n (a0.attrs.l.map zaJ))) (fun hb93=>by simp only[go_sem,hc16,hc19,hc26,hc50,hb93]) ?_
   try simp only[go_sem]
   refine zaa (v:= .d (.int .i64 (a0.attrs.l.length:Int))) (fun hb92=>by simp only[go_sem,hc16,hc19,hc26,hc50,hb92]) ?_
   try simp only[go_sem]
   refine zaa (v:= .d (.bool (decide (0<(a0.attrs.l.length:Int))))) (fun hb91=>by simp only[go_sem,hc16,hc19,hc26,hc50,hb91]) ?_
   try simp only[go_sem]
   refine zaa (v:= .d (.bool (decide (0<(a0.attrs.l.length:Int))))) (fun hb90=>by simp only[go_sem,hc16,hc19,hc26,hc50,hb90]) ?_
   try simp only[go_sem]
   refine zaa (v:= .ptr 0 0 12) (fun hb87=>by((obtain⟨hb88,hb89⟩:=zaB hb87));simp only[go_sem,hc16,hc19,hc26,hc50,hb89,hb88]) ?_
   try simp only[go_sem]
   refine zaa (v:= .d (.int .i64 a0.shadow)) (fun hb84=>by((obtain⟨hb85,hb86⟩:=zaB hb84));simp only[go_sem,hc16,hc19,hc26,hc50,hb86,hb85]) ?_
   try simp only[go_sem]
   refine zaa (v:= .d (.bool (!(a0.shadow==0)))) (fun hb81=>by((obtain⟨hb82,hb83⟩:=zaB hb81));simp only[go_sem,hc16,hc19,hc26,hc50,hb83,hb82]) ?_
   try simp only[go_sem]
   refine zaE (fun hc51=> ?_) (fun hc52=> ?_)
   ·rw[if_pos (show(!(a0.kind==1))=true by(rw[hc51];rfl))]at h
    try simp only[go_sem,hc51]
    refine zaa (v:= .ptr 0 0 0) (fun hb71=>by simp only[go_sem,hc16,hc19,hc26,hc50,hc51,hb71]) ?_
    try simp only[go_sem]
    refine zaa (v:= .d (.int .u8 a0.kind)) (fun hb70=>by simp only[go_sem,hc16,hc19,hc26,hc50,hc51,hb70]) ?_
    try simp only[go_sem]
    refine zaa (v:= .d (.bool (!(a0.kind==9)))) (fun hb69=>by simp only[go_sem,hc16,hc19,hc26,hc50,hc51,hb69]) ?_
    try simp only[go_sem]
    refine zaa (v:= .d (.bool (!(a0.kind==9)))) (fun hb68=>by simp only[go_sem,hc16,hc19,hc26,hc50,hc51,hb68]) ?_
    try simp only[go_sem]
    refine zaa (v:= .ptr 0 0 15) (fun hb65=>by((obtain⟨hb66,hb67⟩:=zaB hb65));simp only[go_sem,hc16,hc19,hc26,hc50,hc51,hb67,hb66]) ?_
    try simp only[go_sem]
    refine zaa (v:= .d (.bool a0.hTML)) (fun hb62=>by((obtain⟨hb63,hb64⟩:=zaB hb62));simp only[go_sem,hc16,hc19,hc26,hc50,hc51,hb64,hb63]) ?_
    try simp only[go_sem]
    refine zaE (fun hc53=> ?_) (fun hc54=> ?_)
    ·rw[if_pos (show(!(bif (decide (0<(a0.attrs.l.length:Int)))then true else(!(a0.shadow==0))))=true by(rw[hc53];rfl))]at h
     try simp only[go_sem,hc53]
     refine zaj (fun hc55=> ?_) (fun hc56=> ?_)
     ·rw[if_pos hc55]at h
      try simp only[go_sem]
      cases h
      exact⟨rfl,Up.of (N:=77) (N':=101) [] rfl rfl (by decide) (.set (.d _) zan.none) zao.at⟩
     rw[if_neg (ff hc56)]at h
     try simp only[go_sem]
     refine zaa (v:= .ptr 0 0 8) (fun hb61=>by simp only[go_sem,hc16,hc19,hc26,hc50,hc51,hc53,hc56,hb61]) ?_
     try simp only[go_sem]
     refine zaa (v:= .d (.int .i64 a0.parent)) (fun hb60=>by simp only[go_sem,hc16,hc19,hc26,hc50,hc51,hc53,hc56,hb60]) ?_
     try simp only[go_sem]
     refine zaa (v:= .d (.bool (!(a0.parent==0)))) (fun hb59=>by simp only[go_sem,hc16,hc19,hc26,hc50,hc51,hc53,hc56,hb59]) ?_
     try simp only[go_sem]
     refine zaj (fun hc57=> ?_) (fun hc58=> ?_)
     ·rw[if_pos hc57]at h
      try simp only[go_sem]
      cases h
      exact⟨rfl,Up.of (N:=77) (N':=110) [] rfl rfl (by decide) (.set (.d _) zan.none) zao.at⟩
     rw[if_neg (ff hc58)]at h
     try simp only[go_sem]
     cases h
     exact⟨rfl,Up.of (N:=77) (N':=109) [] rfl rfl (by decide) (.set (.ptr' rfl) zan.none) (.set zat.refl_d zao.at)⟩
    rw[if_neg (ffn hc54)]at h
    try simp only[go_sem,hc54]
    cases h
    exact⟨rfl,Up.of (N:=77) (N':=101) [] rfl rfl (by decide) (.set (.d _) zan.none) zao.at⟩
   rw[if_neg (ffn hc52)]at h
   try simp only[go_sem,hc52]
   refine zaa (v:= .ptr 0 0 15) (fun hb80=>by simp only[go_sem,hc16,hc19,hc26,hc50,hc52,hb80]) ?_
   try simp only[go_sem]
   refine zaa (v:= .d (.bool a0.hTML)) (fun hb79=>by simp only[go_sem,hc16,hc19,hc26,hc50,hc52,hb79]) ?_
   try simp only[go_sem]
   refine zaj (fun hc72=> ?_) (fun hc73=> ?_)
   ·rw[if_pos hc72]at h
    try simp only[go_sem]
    cases h
    exact⟨rfl,Up.of (N:=77) (N':=101) [] rfl rfl (by decide) (.set (.d _) zan.none) zao.at⟩
   rw[if_neg (ff hc73)]at h
   try simp only[go_sem]
   refine zaa (v:= .ptr 0 0 8) (fun hb78=>by simp only[go_sem,hc16,hc19,hc26,hc50,hc52,hc73,hb78]) ?_
   try simp only[go_sem]
   refine zaa (v:= .d (.int .i64 a0.parent)) (fun hb77=>by simp only[go_sem,hc16,hc19,hc26,hc50,hc52,hc73,hb77]) ?_
   try simp only[go_sem]
   refine zaa (v:= .d (.bool (!(a0.parent==0)))) (fun hb76=>by simp only[go_sem,hc16,hc19,hc26,hc50,hc52,hc73,hb76]) ?_
   try simp only[go_sem]
   refine zaj (fun hc74=> ?_) (fun hc75=> ?_)
   ·rw[if_pos hc74]at h
    try simp only[go_sem]
    cases h
    exact⟨rfl,Up.of (N:=77) (N':=110) [] rfl rfl (by decide) (.set (.d _) zan.none) zao.at⟩
   rw[if_neg (ff hc75)]at h
   try simp only[go_sem]
   cases h
   exact⟨rfl,Up.of (N:=77) (N':=109) [] rfl rfl (by decide) (.set (.ptr' rfl) zan.none) (.set zat.refl_d zao.at)⟩
  rcases r95 with(q97|q109)
  ·dsimp only at h⊢
   try simp only[go_sem]
   refine zaj (fun hc98=> ?_) (fun hc99=> ?_)
   ·rw[if_pos hc98]at h
    try simp only[go_sem]
    refine zaa (v:= .ptr 0 0 13) (fun hb102=>by simp only[go_sem,hc16,hc19,hc26,hc98,hb102]) ?_
    try simp only[go_sem]
    refine zaa (v:= .d (.int .u8 a0.mode)) (fun hb101=>by simp only[go_sem,hc16,hc19,hc26,hc98,hb101]) ?_
    try simp only[go_sem]
    refine zaa (v:= .d (.bool (a0.mode==2))) (fun hb100=>by simp only[go_sem,hc16,hc19,hc26,hc98,hb100]) ?_
    try simp only[go_sem]
    cases h
    rfl
   rw[if_neg (ff hc99)]at h
   try simp only[go_sem]
   refine zaa (v:= .ptr 0 0 14) (fun hb108=>by simp only[go_sem,hc16,hc19,hc26,hc99,hb108]) ?_
   try simp only[go_sem]
   refine zaa (v:= .d (.bool a0.manual)) (fun hb107=>by simp only[go_sem,hc16,hc19,hc26,hc99,hb107]) ?_
   try simp only[go_sem]
   refine zaa (v:= .d (.bool (!a0.manual))) (fun hb106=>by simp only[go_sem,hc16,hc19,hc26,hc99,hb106]) ?_
   try simp only[go_sem]
   refine zaa (v:= .ptr 0 0 11) (fun hb105=>by simp only[go_sem,hc16,hc19,hc26,hc99,hb105]) ?_
   try simp only[go_sem]
   refine zaa (v:= .d (.int .i64 a0.host)) (fun hb104=>by simp only[go_sem,hc16,hc19,hc26,hc99,hb104]) ?_
   try simp only[go_sem]
   refine zaa (v:= .d (.bool (a0.host==0))) (fun hb103=>by simp only[go_sem,hc16,hc19,hc26,hc99,hb103]) ?_
   try simp only[go_sem]
   cases h
   rfl
  dsimp only at h⊢
  try simp only[go_sem]
  cases h
  rfl
 rw[if_neg (ff hc20)]at h
 try simp only[go_sem,hc20]
 cases h
 rfl
noncomputable def zKL (a0:Forest) (a1:Int):Option (Bool):=
 (rd a0.nodes.l (IntKind.wrap .i64 (a1-1))).bind fun y1=>
 (if(!(y1.parent==0))=true then
  (dec (eT2 zai D.bool) (pc prog 219 [zae a0,.int .i64 y1.parent])).bind fun r5=>
  (if r5.2=true then
   (dec D.bool (pc prog 220 [.list r5.1.kids.n (r5.1.kids.l.map (D.int .i64)),.int .i64 a1])).bind fun r9=>
   some (!r9)
  else
   some true:Option ((Bool))).bind fun r11=>
  if r11=true then
   some (.inr ())
  else
   some (.inl ())
 else
  some (.inl ()):Option ((Unit)⊕(Unit))).bind fun r18=>
 match r18 with
 |(.inl q20)=>
  (dec (D.int .u8) (pc prog 221 [zae a0,.int .i64 y1.doc])).bind fun r21=>
  (if(r21==9)=true then
   some (bif (y1.kind==9)then(!(y1.doc==a1))else false)
  else
   some true:Option ((Bool))).bind fun r25=>
  if r25=true then
   some false
  else
   (if(!(y1.shadow==0))=true then
    (dec (eT2 zai D.bool) (pc prog 219 [zae a0,.int .i64 y1.shadow])).bind fun r31=>
    if(bif (bif (!r31.2)then true else(!(r31.1.kind==12)))then true else(!(r31.1.host==a1)))=true then
     some (.inr ())
    else
     some (.inl ())
   else
    some (.inl ()):Option ((Unit)⊕(Unit))).bind fun r42=>
   match r42 with
   |(.inl q44)=>
    if(y1.kind==12)=true then
     (dec (eT2 zai D.bool) (pc prog 219 [zae a0,.int .i64 y1.host])).bind fun r47=>
     if(bif (bif (bif (!r47.2)then true else(!(r47.1.kind==1)))then true else(!(r47.1.shadow==a1)))then true else(!(r47.1.doc==y1.doc)))=true then
      some false
     else
      (dec D.bool (pc prog 222 [zae a0,.int .i64 a1,zai y1])).bind fun r51=>
      some r51
    else
     (dec D.bool (pc prog 222 [zae a0,.int .i64 a1,zai y1])).bind fun r65=>
     some r65
   |(.inr q67)=>
    some false
 |(.inr q84)=>
  some false
theorem zKM (a0:Forest) (a1:Int) (r:Bool) (h:zKL a0 a1=some r):pc prog 193 [zae a0,.int .i64 a1]=some (D.bool r):=by
 unfold zKL at h
 refine zaZ (fn:=zIl) rfl rfl ?_
 delta zIl
 try simp only[go_sem]
 obtain⟨y1,hy2,h⟩:=bs h
 try simp only[go_sem,zab hy2,zaf hy2,zac zai hy2]
 obtain⟨r18,hl19,h⟩:=bs h
 refine WBr.cut (n:=(0,[])) ((fun r=>match r with|(.inl r)=>(.normal,⟨(((Regs.none.set 1 (.d (.int .i64 a1))).set 2 (.ptr 0 0 0)).set 5 (.ptr 8 0 0)),(((Heap.at 13).set 0 (some (.els 1 [.d (zae a0)] 0))).set 8 (some (.els 16 [.d (zai y1)] 0)))⟩)|(.inr r)=>(.ret,⟨(Regs.none.set 4 (.d (.bool false))),(Heap.at 13)⟩):((Unit)⊕(Unit))→Ex×St) r18).1 ((fun r=>match r with|(.inl r)=>(.normal,⟨(((Regs.none.set 1 (.d (.int .i64 a1))).set 2 (.ptr 0 0 0)).set 5 (.ptr 8 0 0)),(((Heap.at 13).set 0 (some (.els 1 [.d (zae a0)] 0))).set 8 (some (.els 16 [.d (zai y1)] 0)))⟩)|(.inr r)=>(.ret,⟨(Regs.none.set 4 (.d (.bool false))),(Heap.at 13)⟩):((Unit)⊕(Unit))→Ex×St) r18).2 ?_ (by(repeat(refine Clo.seq zbi rfl ?_));(exact Clo.ret)) ?_
 ·replace h:=hl19
  refine zaF (fun hc3=> ?_) (fun hc4=> ?_)
  ·rw[if_pos (show(!(y1.parent==0))=true by(rw[hc3];rfl))]at h
   try simp only[go_sem,zab hy2,zaf hy2,zac zai hy2]
   obtain⟨r5,hr6,h⟩:=bs h
   replace hr6:=zam hr6
   refine zaq hr6 ?_
   try simp only[go_sem,zab hy2,zaf hy2,zac zai hy2]
   refine zaa (v:= .ptr 20 0 9) (fun hb17=>by simp only[go_sem,zab hy2,zaf hy2,zac zai hy2,hc3,hb17]) ?_
   try simp only[go_sem,zab hy2,zaf hy2,zac zai hy2]
   refine zaa (v:= .d (.list r5.1.kids.n (r5.1.kids.l.map (D.int .i64)))) (fun hb16=>by simp only[go_sem,zab hy2,zaf hy2,zac zai hy2,hc3,hb16]) ?_
   try simp only[go_sem,zab hy2,zaf hy2,zac zai hy2]
   refine zaa (v:= .d (.int .i64 a1)) (fun hb15=>by simp only[go_sem,zab hy2,zaf hy2,zac zai hy2,hc3,hb15]) ?_
   try simp only[go_sem,zab hy2,zaf hy2,zac zai hy2]
   obtain⟨r11,hl12,h⟩:=bs h
   refine zbW.cut (n:=(0,[])) .normal ⟨((((Regs.none.set 1 (.d (.int .i64 a1))).set 2 (.ptr 0 0 0)).set 5 (.ptr 8 0 0)).set 36 (.d (.bool r11))),(((Heap.at 32).set 0 (some (.els 1 [.d (zae a0)] 0))).set 8 (some (.els 16 [.d (zai y1)] 0)))⟩ ?_ (by(repeat(refine Clo.seq zbi rfl ?_));(exact Clo.cpost (by decide))) ?_
   ·replace h:=hl12
    refine zaG (fun hc7=> ?_) (fun hc8=> ?_)
    ·rw[if_pos hc7]at h
     try simp only[go_sem,zab hy2,zaf hy2,zac zai hy2,hc7]
     obtain⟨r9,hr10,h⟩:=bs h
     replace hr10:=zam hr10
     refine zaq hr10 ?_
     try simp only[go_sem,zab hy2,zaf hy2,zac zai hy2]
     cases h
     exact⟨rfl,Up.of (N:=32) (N':=32) [] rfl rfl (by decide) (.set (.d _) (.set (.ptr' rfl) (.set (.ptr' rfl) (.set (.d _) zan.none)))) (.set zat.refl_d (.set zat.refl_d zao.at))⟩
    rw[if_neg (ff hc8)]at h
    try simp only[go_sem,zab hy2,zaf hy2,zac zai hy2,hc8]
    cases h
    exact⟨rfl,Up.of (N:=32) (N':=32) [] rfl rfl (by decide) (.set (.d _) (.set (.ptr' rfl) (.set (.ptr' rfl) (.set (.d _) zan.none)))) (.set zat.refl_d (.set zat.refl_d zao.at))⟩
   try simp only[go_sem,zab hy2,zaf hy2,zac zai hy2]
   refine zaj (fun hc13=> ?_) (fun hc14=> ?_)
   ·rw[if_pos hc13]at h
    try simp only[go_sem,zab hy2,zaf hy2,zac zai hy2]
    cases h
    exact⟨rfl,Up.of (N:=13) (N':=33) [] rfl rfl (by decide) (.set (.d _) zan.none) zao.at⟩
   rw[if_neg (ff hc14)]at h
   try simp only[go_sem,zab hy2,zaf hy2,zac zai hy2]
   cases h
   exact⟨rfl,Up.of (N:=13) (N':=32) [] rfl rfl (by decide) (.set (.ptr' rfl) (.set (.ptr' rfl) (.set (.d _) zan.none))) (.set zat.refl_d (.set zat.refl_d zao.at))⟩
  rw[if_neg (ffn hc4)]at h
  try simp only[go_sem,zab hy2,zaf hy2,zac zai hy2]
  cases h
  exact⟨rfl,Up.of (N:=13) (N':=13) [] rfl rfl (by decide) (.set (.ptr' rfl) (.set (.ptr' rfl) (.set (.d _) zan.none))) (.set zat.refl_d (.set zat.refl_d zao.at))⟩
 rcases r18 with(q20|q84)
 ·dsimp only at h⊢
  try simp only[go_sem,zab hy2,zaf hy2,zac zai hy2]
  obtain⟨r21,hr22,h⟩:=bs h
  replace hr22:=zam hr22
  refine zaq hr22 ?_
  try simp only[go_sem,zab hy2,zaf hy2,zac zai hy2]
  refine zaa (v:= .ptr 8 0 0) (fun hb83=>by simp only[go_sem,zab hy2,zaf hy2,zac zai hy2,hb83]) ?_
  try simp only[go_sem,zab hy2,zaf hy2,zac zai hy2]
  refine zaa (v:= .d (.int .u8 y1.kind)) (fun hb82=>by simp only[go_sem,zab hy2,zaf hy2,zac zai hy2,hb82]) ?_
  try simp only[go_sem,zab hy2,zaf hy2,zac zai hy2]
  refine zaa (v:= .d (.bool (y1.kind==9))) (fun hb81=>by simp only[go_sem,zab hy2,zaf hy2,zac zai hy2,hb81]) ?_
  try simp only[go_sem,zab hy2,zaf hy2,zac zai hy2]
  refine zaa (v:= .d (.bool (y1.kind==9))) (fun hb80=>by simp only[go_sem,zab hy2,zaf hy2,zac zai hy2,hb80]) ?_
  try simp only[go_sem,zab hy2,zaf hy2,zac zai hy2]
  refine zaa (v:= .ptr 8 0 10) (fun hb77=>by((obtain⟨hb78,hb79⟩:=zaB hb77));simp only[go_sem,zab hy2,zaf hy2,zac zai hy2,hb79,hb78]) ?_
  try simp only[go_sem,zab hy2,zaf hy2,zac zai hy2]
  refine zaa (v:= .d (.int .i64 y1.doc)) (fun hb74=>by((obtain⟨hb75,hb76⟩:=zaB hb74));simp only[go_sem,zab hy2,zaf hy2,zac zai hy2,hb76,hb75]) ?_
  try simp only[go_sem,zab hy2,zaf hy2,zac zai hy2]
  refine zaa (v:= .d (.int .i64 a1)) (fun hb71=>by((obtain⟨hb72,hb73⟩:=zaB hb71));simp only[go_sem,zab hy2,zaf hy2,zac zai hy2,hb73,hb72]) ?_
  try simp only[go_sem,zab hy2,zaf hy2,zac zai hy2]
  refine zaa (v:= .d (.bool (!(y1.doc==a1)))) (fun hb68=>by((obtain⟨hb69,hb70⟩:=zaB hb68));simp only[go_sem,zab hy2,zaf hy2,zac zai hy2,hb70,hb69]) ?_
  try simp only[go_sem,zab hy2,zaf hy2,zac zai hy2]
  obtain⟨r25,hl26,h⟩:=bs h
  refine zbW.cut (n:=(0,[])) .normal ⟨((((Regs.none.set 1 (.d (.int .i64 a1))).set 2 (.ptr 0 0 0)).set 5 (.ptr 8 0 0)).set 52 (.d (.bool r25))),(((Heap.at 29).set 0 (some (.els 1 [.d (zae a0)] 0))).set 8 (some (.els 16 [.d (zai y1)] 0)))⟩ ?_ (by(repeat(refine Clo.seq zbi rfl ?_));(exact Clo.ret)) ?_
  ·replace h:=hl26
   refine zaG (fun hc23=> ?_) (fun hc24=> ?_)
   ·rw[if_pos hc23]at h
    try simp only[go_sem,zab hy2,zaf hy2,zac zai hy2,hc23]
    cases h
    exact⟨rfl,Up.of (N:=29) (N':=29) [] rfl rfl (by decide) (.set (.d _) (.set (.ptr' rfl) (.set (.ptr' rfl) (.set (.d _) zan.none)))) (.set zat.refl_d (.set zat.refl_d zao.at))⟩
   rw[if_neg (ff hc24)]at h
   try simp only[go_sem,zab hy2,zaf hy2,zac zai hy2,hc24]
   cases h
   exact⟨rfl,Up.of (N:=29) (N':=29) [] rfl rfl (by decide) (.set (.d _) (.set (.ptr' rfl) (.set (.ptr' rfl) (.set (.d _) zan.none)))) (.set zat.refl_d (.set zat.refl_d zao.at))⟩
  try simp only[go_sem,zab hy2,zaf hy2,zac zai hy2]
  refine zaj (fun hc27=> ?_) (fun hc28=> ?_)
  ·rw[if_pos hc27]at h
   try simp only[go_sem,zab hy2,zaf hy2,zac zai hy2]
   cases h
   rfl
  rw[if_neg (ff hc28)]at h
  try simp only[go_sem,zab hy2,zaf hy2,zac zai hy2]
  obtain⟨r42,hl43,h⟩:=bs h
  refine WBr.cut (n:=(0,[])) ((fun r=>match r with|(.inl r)=>(.normal,⟨(((Regs.none.set 1 (.d (.int .i64 a1))).set 2 (.ptr 0 0 0)).set 5 (.ptr 8 0 0)),(((Heap.at 32).set 0 (some (.els 1 [.d (zae a0)] 0))).set 8 (some (.els 16 [.d (zai y1)] 0)))⟩)|(.inr r)=>(.ret,⟨(Regs.none.set 4 (.d (.bool false))),(Heap.at 32)⟩):((Unit)⊕(Unit))→Ex×St) r42).1 ((fun r=>match r with|(.inl r)=>(.normal,⟨(((Regs.none.set 1 (.d (.int .i64 a1))).set 2 (.ptr 0 0 0)).set 5 (.ptr 8 0 0)),(((Heap.at 32).set 0 (some (.els 1 [.d (zae a0)] 0))).set 8 (some (.els 16 [.d (zai y1)] 0)))⟩)|(.inr r)=>(.ret,⟨(Regs.none.set 4 (.d (.bool false))),(Heap.at 32)⟩):((Unit)⊕(Unit))→Ex×St) r42).2 ?_ (by(repeat(refine Clo.seq zbi rfl ?_));(exact Clo.ret)) ?_
  ·replace h:=hl43
   refine zaF (fun hc29=> ?_) (fun hc30=> ?_)
   ·rw[if_pos (show(!(y1.shadow==0))=true by(rw[hc29];rfl))]at h
    try simp only[go_sem,zab hy2,zaf hy2,zac zai hy2]
    obtain⟨r31,hr32,h⟩:=bs h
    replace hr32:=zam hr32
    refine zaq hr32 ?_
    try simp only[go_sem,zab hy2,zaf hy2,zac zai hy2]
    refine zaa (v:= .ptr 39 0 0) (fun hb41=>by simp only[go_sem,zab hy2,zaf hy2,zac zai hy2,hc28,hc29,hb41]) ?_
    try simp only[go_sem,zab hy2,zaf hy2,zac zai hy2]
    refine zaa (v:= .d (.int .u8 r31.1.kind)) (fun hb40=>by simp only[go_sem,zab hy2,zaf hy2,zac zai hy2,hc28,hc29,hb40]) ?_
    try simp only[go_sem,zab hy2,zaf hy2,zac zai hy2]
    refine zaa (v:= .d (.bool (!(r31.1.kind==12)))) (fun hb39=>by simp only[go_sem,zab hy2,zaf hy2,zac zai hy2,hc28,hc29,hb39]) ?_
    try simp only[go_sem,zab hy2,zaf hy2,zac zai hy2]
    refine zaa (v:= .ptr 39 0 11) (fun hb38=>by simp only[go_sem,zab hy2,zaf hy2,zac zai hy2,hc28,hc29,hb38]) ?_
    try simp only[go_sem,zab hy2,zaf hy2,zac zai hy2]
    refine zaa (v:= .d (.int .i64 r31.1.host)) (fun hb37=>by simp only[go_sem,zab hy2,zaf hy2,zac zai hy2,hc28,hc29,hb37]) ?_
    try simp only[go_sem,zab hy2,zaf hy2,zac zai hy2]
    refine zaa (v:= .d (.int .i64 a1)) (fun hb36=>by simp only[go_sem,zab hy2,zaf hy2,zac zai hy2,hc28,hc29,hb36]) ?_
    try simp only[go_sem,zab hy2,zaf hy2,zac zai hy2]
    refine zaa (v:= .d (.bool (!(r31.1.host==a1)))) (fun hb35=>by simp only[go_sem,zab hy2,zaf hy2,zac zai hy2,hc28,hc29,hb35]) ?_
    try simp only[go_sem,zab hy2,zaf hy2,zac zai hy2]
    refine zaj (fun hc33=> ?_) (fun hc34=> ?_)
    ·rw[if_pos hc33]at h
     try simp only[go_sem,zab hy2,zaf hy2,zac zai hy2]
     cases h
     exact⟨rfl,Up.of (N:=32) (N':=56) [] rfl rfl (by decide) (.set (.d _) zan.none) zao.at⟩
    rw[if_neg (ff hc34)]at h
    try simp only[go_sem,zab hy2,zaf hy2,zac zai hy2]
    cases h
    exact⟨rfl,Up.of (N:=32) (N':=55) [] rfl rfl (by decide) (.set (.ptr' rfl) (.set (.ptr' rfl) (.set (.d _) zan.none))) (.set zat.refl_d (.set zat.refl_d zao.at))⟩
   rw[if_neg (ffn hc30)]at h
   try simp only[go_sem,zab hy2,zaf hy2,zac zai hy2]
   cases h
   exact⟨rfl,Up.of (N:=32) (N':=32) [] rfl rfl (by decide) (.set (.ptr' rfl) (.set (.ptr' rfl) (.set (.d _) zan.none))) (.set zat.refl_d (.set zat.refl_d zao.at))⟩
  rcases r42 with(q44|q67)
  ·dsimp only at h⊢
   try simp only[go_sem,zab hy2,zaf hy2,zac zai hy2]
   refine zaj (fun hc45=> ?_) (fun hc46=> ?_)
   ·rw[if_pos hc45]at h
    try simp only[go_sem,zab hy2,zaf hy2,zac zai hy2]
    obtain⟨r47,hr48,h⟩:=bs h
    replace hr48:=zam hr48
    refine zaq hr48 ?_
    try simp only[go_sem,zab hy2,zaf hy2,zac zai hy2]
    refine zaa (v:= .ptr 42 0 0) (fun hb64=>by simp only[go_sem,zab hy2,zaf hy2,zac zai hy2,hc28,hc45,hb64]) ?_
    try simp only[go_sem,zab hy2,zaf hy2,zac zai hy2]
    refine zaa (v:= .d (.int .u8 r47.1.kind)) (fun hb63=>by simp only[go_sem,zab hy2,zaf hy2,zac zai hy2,hc28,hc45,hb63]) ?_
    try simp only[go_sem,zab hy2,zaf hy2,zac zai hy2]
    refine zaa (v:= .d (.bool (!(r47.1.kind==1)))) (fun hb62=>by simp only[go_sem,zab hy2,zaf hy2,zac zai hy2,hc28,hc45,hb62]) ?_
    try simp only[go_sem,zab hy2,zaf hy2,zac zai hy2]
    refine zaa (v:= .ptr 42 0 12) (fun hb61=>by simp only[go_sem,zab hy2,zaf hy2,zac zai hy2,hc28,hc45,hb61]) ?_
    try simp only[go_sem,zab hy2,zaf hy2,zac zai hy2]
    refine zaa (v:= .d (.int .i64 r47.1.shadow)) (fun hb60=>by simp only[go_sem,zab hy2,zaf hy2,zac zai hy2,hc28,hc45,hb60]) ?_
    try simp only[go_sem,zab hy2,zaf hy2,zac zai hy2]
    refine zaa (v:= .d (.int .i64 a1)) (fun hb59=>by simp only[go_sem,zab hy2,zaf hy2,zac zai hy2,hc28,hc45,hb59]) ?_
    try simp only[go_sem,zab hy2,zaf hy2,zac zai hy2]
    refine zaa (v:= .d (.bool (!(r47.1.shadow==a1)))) (fun hb58=>by simp only[go_sem,zab hy2,zaf hy2,zac zai hy2,hc28,hc45,hb58]) ?_
    try simp only[go_sem,zab hy2,zaf hy2,zac zai hy2]
    refine zaa (v:= .ptr 42 0 10) (fun hb57=>by simp only[go_sem,zab hy2,zaf hy2,zac zai hy2,hc28,hc45,hb57]) ?_
    try simp only[go_sem,zab hy2,zaf hy2,zac zai hy2]
    refine zaa (v:= .d (.int .i64 r47.1.doc)) (fun hb56=>by simp only[go_sem,zab hy2,zaf hy2,zac zai hy2,hc28,hc45,hb56]) ?_
    try simp only[go_sem,zab hy2,zaf hy2,zac zai hy2]
    refine zaa (v:= .ptr 8 0 10) (fun hb55=>by simp only[go_sem,zab hy2,zaf hy2,zac zai hy2,hc28,hc45,hb55]) ?_
    try simp only[go_sem,zab hy2,zaf hy2,zac zai hy2]
    refine zaa (v:= .d (.int .i64 y1.doc)) (fun hb54=>by simp only[go_sem,zab hy2,zaf hy2,zac zai hy2,hc28,hc45,hb54]) ?_
    try simp only[go_sem,zab hy2,zaf hy2,zac zai hy2]
    refine zaa (v:= .d (.bool (!(r47.1.doc==y1.doc)))) (fun hb53=>by simp only[go_sem,zab hy2,zaf hy2,zac zai hy2,hc28,hc45,hb53]) ?_
    try simp only[go_sem,zab hy2,zaf hy2,zac zai hy2]
    refine zaj (fun hc49=> ?_) (fun hc50=> ?_)
    ·rw[if_pos hc49]at h
     try simp only[go_sem,zab hy2,zaf hy2,zac zai hy2]
     cases h
     rfl
    rw[if_neg (ff hc50)]at h
    try simp only[go_sem,zab hy2,zaf hy2,zac zai hy2]
    obtain⟨r51,hr52,h⟩:=bs h
    replace hr52:=zam hr52
    refine zaq hr52 ?_
    try simp only[go_sem,zab hy2,zaf hy2,zac zai hy2]
    cases h
    rfl
   rw[if_neg (ff hc46)]at h
   try simp only[go_sem,zab hy2,zaf hy2,zac zai hy2]
   obtain⟨r65,hr66,h⟩:=bs h
   replace hr66:=zam hr66
   refine zaq hr66 ?_
   try simp only[go_sem,zab hy2,zaf hy2,zac zai hy2]
   cases h
   rfl
  dsimp only at h⊢
  try simp only[go_sem,zab hy2,zaf hy2,zac zai hy2]
  cases h
  rfl
 dsimp only at h⊢
 try simp only[go_sem,zab hy2,zaf hy2,zac zai hy2]
 cases h
 rfl
noncomputable def zKN (a0:Int):Option (Bool):=
 (dec D.bool (pc prog 115 [.int .u8 a0])).bind fun r1=>
 if(!r1)=true then
  (dec D.bool (pc prog 73 [.int .u8 a0])).bind fun r5=>
  some (bif r5 then true else(a0==10))
 else
  some true
theorem zKO (a0:Int) (r:Bool) (h:zKN a0=some r):pc prog 202 [.int .u8 a0]=some (D.bool r):=by
 unfold zKN at h
 refine zaZ (fn:=zIm) rfl rfl ?_
 delta zIm
 try simp only[go_sem]
 obtain⟨r1,hr2,h⟩:=bs h
 replace hr2:=zam hr2
 refine zaq hr2 ?_
 try simp only[go_sem]
 refine zaa (v:= .d (.int .u8 a0)) (fun hb9=>by simp only[go_sem,hb9]) ?_
 try simp only[go_sem]
 refine zaE (fun hc3=> ?_) (fun hc4=> ?_)
 ·rw[if_pos (show(!r1)=true by(rw[hc3];rfl))]at h
  try simp only[go_sem,hc3]
  obtain⟨r5,hr6,h⟩:=bs h
  replace hr6:=zam hr6
  refine zaq hr6 ?_
  try simp only[go_sem]
  refine zaa (v:= .d (.int .u8 a0)) (fun hb8=>by simp only[go_sem,hc3,hb8]) ?_
  try simp only[go_sem]
  refine zaa (v:= .d (.bool (a0==10))) (fun hb7=>by simp only[go_sem,hc3,hb7]) ?_
  try simp only[go_sem]
  cases h
  rfl
 rw[if_neg (ffn hc4)]at h
 try simp only[go_sem,hc4]
 cases h
 rfl
def zfa (a0:Sl (Attr)) (x0:Int):St:=⟨((((Regs.none.set 0 (.d (.list a0.n (a0.l.map zaJ)))).set 8 (.d (.list a0.n (a0.l.map zaJ)))).set 9 (.d (.int .i64 (a0.l.length:Int)))).set 10 (.d (.int .i64 x0))),(Heap.at 7)⟩
def zif (a0:Sl (Attr)):((Unit)⊕(Unit))→Ex×St:=fun r=>match r with
 |(.inl r)=>(.exit 0,⟨Regs.none,(Heap.at 7)⟩)
 |(.inr r)=>(.ret,⟨(Regs.none.set 2 (.d (.bool false))),(Heap.at 7)⟩)
noncomputable def zdg (a0:Sl (Attr)) (x0:Int):Option ((Int)⊕((Unit)⊕(Unit))):=
 if(decide (x0<(a0.l.length:Int)))=true then
  (rd a0.l x0).bind fun y5=>
  (dec D.bool (pc prog 204 [zbH y5.name])).bind fun r7=>
  if(!(bif (!r7)then true else(decide (4096<(y5.value.length:Int)))))=true then
   (cut a0.l (0) x0).bind fun y11=>
   (dec (D.int .i64) (pc prog 211 [.list a0.n (y11.map zaJ),zbH y5.name])).bind fun r13=>
   if(decide (0≤r13))=true then
    some (.inr (.inr ()))
   else
    some (.inl (IntKind.wrap .i64 (x0+1)))
  else
   some (.inr (.inr ()))
 else
  some (.inr (.inl ()))
theorem zwo (a0:Sl (Attr)) (x0:Int) (o:(Int)⊕((Unit)⊕(Unit))) (h:zdg a0 x0=some o):Wp prog zpW (zfa a0 x0) (zbJ (0,[]) (zfa a0) (zif a0) o):=by
 unfold zdg at h
 delta zpW zfa
 try simp only[go_sem]
 refine zaj (fun hc3=> ?_) (fun hc4=> ?_)
 ·rw[if_pos hc3]at h
  try simp only[go_sem]
  obtain⟨y5,hy6,h⟩:=bs h
  try simp only[go_sem,zab hy6,zaf hy6,zac zaJ hy6]
  obtain⟨r7,hr8,h⟩:=bs h
  replace hr8:=zam hr8
  refine zaq hr8 ?_
  try simp only[go_sem,zab hy6,zaf hy6,zac zaJ hy6]
  refine zaa (v:= .ptr 11 0 3) (fun hb22=>by simp only[go_sem,zab hy6,zaf hy6,zac zaJ hy6,hc3,hb22]) ?_
  try simp only[go_sem,zab hy6,zaf hy6,zac zaJ hy6]
  refine zaa (v:= .d (.str y5.value)) (fun hb21=>by simp only[go_sem,zab hy6,zaf hy6,zac zaJ hy6,hc3,hb21]) ?_
  try simp only[go_sem,zab hy6,zaf hy6,zac zaJ hy6]
  refine zaa (v:= .d (.int .i64 (y5.value.length:Int))) (fun hb20=>by simp only[go_sem,zab hy6,zaf hy6,zac zaJ hy6,hc3,hb20]) ?_
  try simp only[go_sem,zab hy6,zaf hy6,zac zaJ hy6]
  refine zaa (v:= .d (.bool (decide (4096<(y5.value.length:Int))))) (fun hb19=>by simp only[go_sem,zab hy6,zaf hy6,zac zaJ hy6,hc3,hb19]) ?_
  try simp only[go_sem,zab hy6,zaf hy6,zac zaJ hy6]
  refine zaa (v:= .d (.list a0.n (a0.l.map zaJ))) (fun hb18=>by simp only[go_sem,zab hy6,zaf hy6,zac zaJ hy6,hc3,hb18]) ?_
  try simp only[go_sem,zab hy6,zaf hy6,zac zaJ hy6]
  refine zaa (v:= .d (.int .i64 x0)) (fun hb17=>by simp only[go_sem,zab hy6,zaf hy6,zac zaJ hy6,hc3,hb17]) ?_
  try simp only[go_sem,zab hy6,zaf hy6,zac zaJ hy6]
  refine zaE (fun hc9=> ?_) (fun hc10=> ?_)
  ·rw[if_pos (show(!(bif (!r7)then true else(decide (4096<(y5.value.length:Int)))))=true by(rw[hc9];rfl))]at h
   try simp only[go_sem,zab hy6,zaf hy6,zac zaJ hy6,hc9]
   obtain⟨y11,hy12,h⟩:=bs h
   refine zrP (e:=zaJ) (n:=a0.n) (l:=a0.l) (sz:=4) (lo:=none) (hi:=(some x0)) (by simp only[go_sem,zab hy6,zaf hy6,zac zaJ hy6,zzg];done) (by decide) (fun _=>rfl) hy12 ?_
   try simp only[go_sem,zab hy6,zaf hy6,zac zaJ hy6]
   obtain⟨r13,hr14,h⟩:=bs h
   replace hr14:=zam hr14
   refine zaq hr14 ?_
   try simp only[go_sem,zab hy6,zaf hy6,zac zaJ hy6]
   refine zaj (fun hc15=> ?_) (fun hc16=> ?_)
   ·rw[if_pos hc15]at h
    try simp only[go_sem,zab hy6,zaf hy6,zac zaJ hy6]
    cases h
    exact⟨rfl,by simp,Up.of (N:=7) (N':=34) [] rfl rfl (by decide) (.set (.d _) zan.none) zao.at⟩
   rw[if_neg (ff hc16)]at h
   try simp only[go_sem,zab hy6,zaf hy6,zac zaJ hy6]
   cases h
   exact⟨rfl,Up.of (N:=7) (N':=35) [] rfl rfl (by decide) (.set (.d _) (.set (.d _) (.set (.d _) (.set (.d _) zan.none)))) zao.at⟩
  rw[if_neg (ffn hc10)]at h
  try simp only[go_sem,zab hy6,zaf hy6,zac zaJ hy6,hc10]
  cases h
  exact⟨rfl,by simp,Up.of (N:=7) (N':=34) [] rfl rfl (by decide) (.set (.d _) zan.none) zao.at⟩
 rw[if_neg (ff hc4)]at h
 try simp only[go_sem]
 cases h
 exact⟨rfl,by simp,Up.of (N:=7) (N':=8) [] rfl rfl (by decide) zan.none zao.at⟩
noncomputable def zKP (a0:Sl (Attr)):Option (Bool):=
 if(decide (64<(a0.l.length:Int)))=true then
  some false
 else
  (zaP (zdg a0) 0).bind fun r23=>
  match r23 with
  |(.inl q25)=>
   some true
  |(.inr q26)=>
   some false
theorem zKQ (a0:Sl (Attr)) (r:Bool) (h:zKP a0=some r):pc prog 203 [.list a0.n (a0.l.map zaJ)]=some (D.bool r):=by
 unfold zKP at h
 refine zaZ (fn:=zIn) rfl rfl ?_
 delta zIn
 try simp only[go_sem]
 refine zaj (fun hc1=> ?_) (fun hc2=> ?_)
 ·rw[if_pos hc1]at h
  try simp only[go_sem]
  cases h
  rfl
 rw[if_neg (ff hc2)]at h
 try simp only[go_sem]
 obtain⟨r23,hl24,h⟩:=bs h
 refine Wp.loopR zbi (n:=(0,[])) (a:=zpW) rfl (zfa a0) (zif a0) (zwo a0) hl24 ?_ (by(repeat(first|refine Clo.block ?_|refine Clo.seq zbi rfl ?_));(exact Clo.ret)) ?_
 ·show Up (0,[]) (zfa a0 0) _
  delta zfa
  exact Up.of (N:=7) (N':=7) [] rfl rfl (by decide) (.set (.d _) (.set (.d _) (.set (.d _) (.set (.d _) zan.none)))) zao.at
 rcases r23 with(q25|q26)
 ·dsimp only at h
  dsimp only[zif]
  try simp only[go_sem]
  cases h
  rfl
 dsimp only at h
 dsimp only[zif]
 try simp only[go_sem]
 cases h
 rfl
noncomputable def zKR (a0:Name):Option (Bool):=
 if(bif (bif (bif (!(a0.local_==[]))then(decide ((a0.space.length:Int)≤1024))else false)then(decide ((a0.prefix_.length:Int)≤1024))else false)then(decide ((a0.local_.length:Int)≤1024))else false)=true then
  some (bif (a0.prefix_==[])then true else(!(a0.space==[])))
 else
  some false
theorem zKS (a0:Name) (r:Bool) (h:zKR a0=some r):pc prog 204 [zbH a0]=some (D.bool r):=by
 unfold zKR at h
 refine zaZ (fn:=zIo) rfl rfl ?_
 delta zIo
 try simp only[go_sem]
 refine zaa (v:= .ptr 0 0 0) (fun hb27=>by simp only[go_sem,hb27]) ?_
 try simp only[go_sem]
 refine zaa (v:= .d (.str a0.space)) (fun hb26=>by simp only[go_sem,hb26]) ?_
 try simp only[go_sem]
 refine zaa (v:= .d (.int .i64 (a0.space.length:Int))) (fun hb25=>by simp only[go_sem,hb25]) ?_
 try simp only[go_sem]
 refine zaa (v:= .d (.bool (decide ((a0.space.length:Int)≤1024)))) (fun hb24=>by simp only[go_sem,hb24]) ?_
 try simp only[go_sem]
 refine zaa (v:= .ptr 0 0 1) (fun hb23=>by simp only[go_sem,hb23]) ?_
 try simp only[go_sem]
 refine zaa (v:= .d (.str a0.prefix_)) (fun hb22=>by simp only[go_sem,hb22]) ?_
 try simp only[go_sem]
 refine zaa (v:= .d (.int .i64 (a0.prefix_.length:Int))) (fun hb21=>by simp only[go_sem,hb21]) ?_
 try simp only[go_sem]
 refine zaa (v:= .d (.bool (decide ((a0.prefix_.length:Int)≤1024)))) (fun hb20=>by simp only[go_sem,hb20]) ?_
 try simp only[go_sem]
 refine zaa (v:= .ptr 0 0 2) (fun hb19=>by simp only[go_sem,hb19]) ?_
 try simp only[go_sem]
 refine zaa (v:= .d (.str a0.local_)) (fun hb18=>by simp only[go_sem,hb18]) ?_
 try simp only[go_sem]
 refine zaa (v:= .d (.int .i64 (a0.local_.length:Int))) (fun hb17=>by simp only[go_sem,hb17]) ?_
 try simp only[go_sem]
 refine zaa (v:= .d (.bool (decide ((a0.local_.length:Int)≤1024)))) (fun hb16=>by simp only[go_sem,hb16]) ?_
 try simp only[go_sem]
 refine zaa (v:= .ptr 0 0 1) (fun hb15=>by simp only[go_sem,hb15]) ?_
 try simp only[go_sem]
 refine zaa (v:= .d (.str a0.prefix_)) (fun hb14=>by simp only[go_sem,hb14]) ?_
 try simp only[go_sem]
 refine zaa (v:= .d (.bool (a0.prefix_==[]))) (fun hb13=>by simp only[go_sem,hb13]) ?_
 try simp only[go_sem]
 refine zaa (v:= .d (.bool (a0.prefix_==[]))) (fun hb12=>by simp only[go_sem,hb12]) ?_
 try simp only[go_sem]
 refine zaa (v:= .ptr 0 0 0) (fun hb9=>by((obtain⟨hb10,hb11⟩:=zaB hb9));simp only[go_sem,hb11,hb10]) ?_
 try simp only[go_sem]
 refine zaa (v:= .d (.str a0.space)) (fun hb6=>by((obtain⟨hb7,hb8⟩:=zaB hb6));simp only[go_sem,hb8,hb7]) ?_
 try simp only[go_sem]
 refine zaa (v:= .d (.bool (!(a0.space==[])))) (fun hb3=>by((obtain⟨hb4,hb5⟩:=zaB hb3));simp only[go_sem,hb5,hb4]) ?_
 try simp only[go_sem]
 refine zaG (fun hc1=> ?_) (fun hc2=> ?_)
 ·rw[if_pos hc1]at h
  try simp only[go_sem,hc1]
  cases h
  rfl
 rw[if_neg (ff hc2)]at h
 try simp only[go_sem,hc2]
 cases h
 rfl
def zfb (a0:Sl (Int)) (a1:Int) (x0:Int×Int):St:=⟨(((((Regs.none.set 1 (.d (.int .i64 a1))).set 5 (.d (.int .i64 x0.2))).set 8 (.d (.list a0.n (a0.l.map (D.int .i64))))).set 9 (.d (.int .i64 (a0.l.length:Int)))).set 10 (.d (.int .i64 x0.1))),(Heap.at 5)⟩
def zll (a0:Sl (Int)) (a1:Int):((Int))→Ex×St:=fun r=>(.exit 0,⟨(Regs.none.set 5 (.d (.int .i64 r))),(Heap.at 5)⟩)
noncomputable def zdh (a0:Sl (Int)) (a1:Int) (x0:Int×Int):Option ((Int×Int)⊕((Int))):=
 if(decide (x0.1<(a0.l.length:Int)))=true then
  (rd a0.l x0.1).bind fun y3=>
  if(y3==a1)=true then
   some (.inl ((IntKind.wrap .i64 (x0.1+1)),(IntKind.wrap .i64 (x0.2+1))))
  else
   some (.inl ((IntKind.wrap .i64 (x0.1+1)),x0.2))
 else
  some (.inr x0.2)
theorem zwp (a0:Sl (Int)) (a1:Int) (x0:Int×Int) (o:(Int×Int)⊕((Int))) (h:zdh a0 a1 x0=some o):Wp prog zpX (zfb a0 a1 x0) (zbJ (0,[]) (zfb a0 a1) (zll a0 a1) o):=by
 unfold zdh at h
 delta zpX zfb
 try simp only[go_sem]
 refine zaj (fun hc1=> ?_) (fun hc2=> ?_)
 ·rw[if_pos hc1]at h
  try simp only[go_sem]
  obtain⟨y3,hy4,h⟩:=bs h
  try simp only[go_sem,zab hy4,zaf hy4,zac (D.int .i64) hy4]
  refine zaj (fun hc5=> ?_) (fun hc6=> ?_)
  ·rw[if_pos hc5]at h
   try simp only[go_sem,zab hy4,zaf hy4,zac (D.int .i64) hy4]
   cases h
   exact⟨rfl,Up.of (N:=5) (N':=17) [] rfl rfl (by decide) (.set (.d _) (.set (.d _) (.set (.d _) (.set (.d _) (.set (.d _) zan.none))))) zao.at⟩
  rw[if_neg (ff hc6)]at h
  try simp only[go_sem,zab hy4,zaf hy4,zac (D.int .i64) hy4]
  cases h
  exact⟨rfl,Up.of (N:=5) (N':=14) [] rfl rfl (by decide) (.set (.d _) (.set (.d _) (.set (.d _) (.set (.d _) (.set (.d _) zan.none))))) zao.at⟩
 rw[if_neg (ff hc2)]at h
 try simp only[go_sem]
 cases h
 exact⟨rfl,by simp,Up.of (N:=5) (N':=6) [] rfl rfl (by decide) (.set (.d _) zan.none) zao.at⟩
noncomputable def zKT (a0:Sl (Int)) (a1:Int):Option (Int):=
 (zaP (zdh a0 a1) (0,0)).bind fun r7=>
 some r7
theorem zKU (a0:Sl (Int)) (a1:Int) (r:Int) (h:zKT a0 a1=some r):pc prog 205 [.list a0.n (a0.l.map (D.int .i64)),.int .i64 a1]=some ((D.int .i64) r):=by
 unfold zKT at h
 refine zaZ (fn:=zIp) rfl rfl ?_
 delta zIp
 try simp only[go_sem]
 obtain⟨r7,hl8,h⟩:=bs h
 refine Wp.loopR zbi (n:=(0,[])) (a:=zpX) rfl (zfb a0 a1) (zll a0 a1) (zwp a0 a1) hl8 ?_ (by(repeat(first|refine Clo.block ?_|refine Clo.seq zbi rfl ?_));(exact Clo.ret)) ?_
 ·show Up (0,[]) (zfb a0 a1 (0,0)) _
  delta zfb
  exact Up.of (N:=5) (N':=5) [] rfl rfl (by decide) (.set (.d _) (.set (.d _) (.set (.d _) (.set (.d _) (.set (.d _) zan.none))))) zao.at
 dsimp only[zll]
 try simp only[go_sem]
 cases h
 rfl
noncomputable def zKV (a0:Forest) (a1:Int):Option (Int):=
 (dec (eT2 zai D.bool) (pc prog 31 [zae a0,.int .i64 a1])).bind fun r1=>
 some r1.1.kind
theorem zKW (a0:Forest) (a1:Int) (r:Int) (h:zKV a0 a1=some r):pc prog 206 [zae a0,.int .i64 a1]=some ((D.int .u8) r):=by
 unfold zKV at h
 refine zaZ (fn:=zIq) rfl rfl ?_
 delta zIq
 try simp only[go_sem]
 obtain⟨r1,hr2,h⟩:=bs h
 replace hr2:=zam hr2
 refine zaq hr2 ?_
 try simp only[go_sem]
 cases h
 rfl
def zfc (a0:Forest) (a1:Int) (a2:Sl (Int)) (x0:Int×Int×Int):St:=⟨(((((((Regs.none.set 1 (.d (.int .u8 a1))).set 3 (.ptr 0 0 0)).set 7 (.d (.int .i64 x0.2.1))).set 8 (.d (.int .i64 x0.2.2))).set 11 (.d (.list a2.n (a2.l.map (D.int .i64))))).set 12 (.d (.int .i64 (a2.l.length:Int)))).set 13 (.d (.int .i64 x0.1))),((Heap.at 7).set 0 (some (.els 1 [.d (zae a0)] 0)))⟩
def zig (a0:Forest) (a1:Int) (a2:Sl (Int)):((Int×Int)⊕(Unit))→Ex×St:=fun r=>match r with
 |(.inl r)=>(.exit 0,⟨(((Regs.none.set 1 (.d (.int .u8 a1))).set 7 (.d (.int .i64 r.1))).set 8 (.d (.int .i64 r.2))),(Heap.at 7)⟩)
 |(.inr r)=>(.ret,⟨(Regs.none.set 6 (.d (.bool false))),(Heap.at 7)⟩)
noncomputable def zdi (a0:Forest) (a1:Int) (a2:Sl (Int)) (x0:Int×Int×Int):Option ((Int×Int×Int)⊕((Int×Int)⊕(Unit))):=
 if(decide (x0.1<(a2.l.length:Int)))=true then
  (rd a2.l x0.1).bind fun y3=>
  (dec (D.int .u8) (pc prog 206 [zae a0,.int .i64 y3])).bind fun r5=>
  if(r5==1)=true then
   some (.inl ((IntKind.wrap .i64 (x0.1+1)),(IntKind.wrap .i64 (x0.2.1+1)),x0.2.2))
  else
   (if(r5==3)=true then
    some (r5==3)
   else
    some (r5==4):Option ((Bool))).bind fun r11=>
   if r11=true then
    if(a1==9)=true then
     some (.inr (.inr ()))
    else
     some (.inl ((IntKind.wrap .i64 (x0.1+1)),x0.2.1,x0.2.2))
   else
    (if(r5==8)=true then
     some (r5==8)
    else
     some (r5==7):Option ((Bool))).bind fun r19=>
    if r19=true then
     some (.inl ((IntKind.wrap .i64 (x0.1+1)),x0.2.1,x0.2.2))
    else
     if(r5==10)=true then
      if(bif (!(a1==9))then true else(decide (0<x0.2.1)))=true then
       some (.inr (.inr ()))
      else
       some (.inl ((IntKind.wrap .i64 (x0.1+1)),x0.2.1,(IntKind.wrap .i64 (x0.2.2+1))))
     else
      some (.inr (.inr ()))
 else
  some (.inr (.inl (x0.2.1,x0.2.2)))
theorem zwq (a0:Forest) (a1:Int) (a2:Sl (Int)) (x0:Int×Int×Int) (o:(Int×Int×Int)⊕((Int×Int)⊕(Unit))) (h:zdi a0 a1 a2 x0=some o):Wp prog zpY (zfc a0 a1 a2 x0) (zbJ (0,[]) (zfc a0 a1 a2) (zig a0 a1 a2) o):=by
 unfold zdi at h
 delta zpY zfc
 try simp only[go_sem]
 refine zaj (fun hc1=> ?_) (fun hc2=> ?_)
 ·rw[if_pos hc1]at h
  try simp only[go_sem]
  obtain⟨y3,hy4,h⟩:=bs h
  try simp only[go_sem,zab hy4,zaf hy4,zac (D.int .i64) hy4]
  obtain⟨r5,hr6,h⟩:=bs h
  replace hr6:=zam hr6
  refine zaq hr6 ?_
  try simp only[go_sem,zab hy4,zaf hy4,zac (D.int .i64) hy4]
  refine zaj (fun hc7=> ?_) (fun hc8=> ?_)
  ·rw[if_pos hc7]at h
   try simp only[go_sem,zab hy4,zaf hy4,zac (D.int .i64) hy4]
   cases h
   exact⟨rfl,Up.of (N:=7) (N':=21) [] rfl rfl (by decide) (.set (.d _) (.set (.d _) (.set (.d _) (.set (.d _) (.set (.d _) (.set (.ptr' rfl) (.set (.d _) zan.none))))))) (.set zat.refl_d zao.at)⟩
  rw[if_neg (ff hc8)]at h
  try simp only[go_sem,zab hy4,zaf hy4,zac (D.int .i64) hy4]
  obtain⟨r11,hl12,h⟩:=bs h
  refine WBr.cut (n:=(0,[])) .normal ⟨(((((((((Regs.none.set 1 (.d (.int .u8 a1))).set 3 (.ptr 0 0 0)).set 7 (.d (.int .i64 x0.2.1))).set 8 (.d (.int .i64 x0.2.2))).set 11 (.d (.list a2.n (a2.l.map (D.int .i64))))).set 12 (.d (.int .i64 (a2.l.length:Int)))).set 13 (.d (.int .i64 x0.1))).set 19 (.d (.int .u8 r5))).set 24 (.d (.bool r11))),((Heap.at 18).set 0 (some (.els 1 [.d (zae a0)] 0)))⟩ ?_ (by(repeat(first|refine Clo.block ?_|refine Clo.seq zbi rfl ?_));(exact Clo.lpost (by decide))) ?_
  ·replace h:=hl12
   refine zaj (fun hc9=> ?_) (fun hc10=> ?_)
   ·rw[if_pos hc9]at h
    try simp only[go_sem,zab hy4,zaf hy4,zac (D.int .i64) hy4]
    cases h
    exact⟨rfl,Up.of (N:=18) (N':=18) [] rfl rfl (by decide) (.set (.d _) (.set (.d _) (.set (.d _) (.set (.d _) (.set (.d _) (.set (.d _) (.set (.d _) (.set (.ptr' rfl) (.set (.d _) zan.none))))))))) (.set zat.refl_d zao.at)⟩
   rw[if_neg (ff hc10)]at h
   try simp only[go_sem,zab hy4,zaf hy4,zac (D.int .i64) hy4]
   cases h
   exact⟨rfl,Up.of (N:=18) (N':=20) [] rfl rfl (by decide) (.set (.d _) (.set (.d _) (.set (.d _) (.set (.d _) (.set (.d _) (.set (.d _) (.set (.d _) (.set (.ptr' rfl) (.set (.d _) zan.none))))))))) (.set zat.refl_d zao.at)⟩
  try simp only[go_sem,zab hy4,zaf hy4,zac (D.int .i64) hy4]
  refine zaj (fun hc13=> ?_) (fun hc14=> ?_)
  ·rw[if_pos hc13]at h
   try simp only[go_sem,zab hy4,zaf hy4,zac (D.int .i64) hy4]
   refine zaj (fun hc15=> ?_) (fun hc16=> ?_)
   ·rw[if_pos hc15]at h
    try simp only[go_sem,zab hy4,zaf hy4,zac (D.int .i64) hy4]
    cases h
    exact⟨rfl,by simp,Up.of (N:=7) (N':=21) [] rfl rfl (by decide) (.set (.d _) zan.none) zao.at⟩
   rw[if_neg (ff hc16)]at h
   try simp only[go_sem,zab hy4,zaf hy4,zac (D.int .i64) hy4]
   cases h
   exact⟨rfl,Up.of (N:=7) (N':=22) [] rfl rfl (by decide) (.set (.d _) (.set (.d _) (.set (.d _) (.set (.d _) (.set (.d _) (.set (.ptr' rfl) (.set (.d _) zan.none))))))) (.set zat.refl_d zao.at)⟩
  rw[if_neg (ff hc14)]at h
  try simp only[go_sem,zab hy4,zaf hy4,zac (D.int .i64) hy4]
  obtain⟨r19,hl20,h⟩:=bs h
  refine WBr.cut (n:=(0,[])) .normal ⟨(((((((((Regs.none.set 1 (.d (.int .u8 a1))).set 3 (.ptr 0 0 0)).set 7 (.d (.int .i64 x0.2.1))).set 8 (.d (.int .i64 x0.2.2))).set 11 (.d (.list a2.n (a2.l.map (D.int .i64))))).set 12 (.d (.int .i64 (a2.l.length:Int)))).set 13 (.d (.int .i64 x0.1))).set 19 (.d (.int .u8 r5))).set 29 (.d (.bool r19))),((Heap.at 20).set 0 (some (.els 1 [.d (zae a0)] 0)))⟩ ?_ (by(repeat(first|refine Clo.block ?_|refine Clo.seq zbi rfl ?_));(exact Clo.lpost (by decide))) ?_
  ·replace h:=hl20
   refine zaj (fun hc17=> ?_) (fun hc18=> ?_)
   ·rw[if_pos hc17]at h
    try simp only[go_sem,zab hy4,zaf hy4,zac (D.int .i64) hy4]
    cases h
    exact⟨rfl,Up.of (N:=20) (N':=20) [] rfl rfl (by decide) (.set (.d _) (.set (.d _) (.set (.d _) (.set (.d _) (.set (.d _) (.set (.d _) (.set (.d _) (.set (.ptr' rfl) (.set (.d _) zan.none))))))))) (.set zat.refl_d zao.at)⟩
   rw[if_neg (ff hc18)]at h
   try simp only[go_sem,zab hy4,zaf hy4,zac (D.int .i64) hy4]
   cases h
   exact⟨rfl,Up.of (N:=20) (N':=22) [] rfl rfl (by decide) (.set (.d _) (.set (.d _) (.set (.d _) (.set (.d _) (.set (.d _) (.set (.d _) (.set (.d _) (.set (.ptr' rfl) (.set (.d _) zan.none))))))))) (.set zat.refl_d zao.at)⟩
  try simp only[go_sem,zab hy4,zaf hy4,zac (D.int .i64) hy4]
  refine zaj (fun hc21=> ?_) (fun hc22=> ?_)
  ·rw[if_pos hc21]at h
   try simp only[go_sem,zab hy4,zaf hy4,zac (D.int .i64) hy4]
   cases h
   exact⟨rfl,Up.of (N:=7) (N':=22) [] rfl rfl (by decide) (.set (.d _) (.set (.d _) (.set (.d _) (.set (.d _) (.set (.d _) (.set (.ptr' rfl) (.set (.d _) zan.none))))))) (.set zat.refl_d zao.at)⟩
  rw[if_neg (ff hc22)]at h
  try simp only[go_sem,zab hy4,zaf hy4,zac (D.int .i64) hy4]
  refine zaj (fun hc23=> ?_) (fun hc24=> ?_)
  ·rw[if_pos hc23]at h
   try simp only[go_sem,zab hy4,zaf hy4,zac (D.int .i64) hy4]
   refine zaa (v:= .d (.int .i64 x0.2.1)) (fun hb28=>by simp only[go_sem,zab hy4,zaf hy4,zac (D.int .i64) hy4,hc1,hc8,hc14,hc22,hc23,hb28]) ?_
   try simp only[go_sem,zab hy4,zaf hy4,zac (D.int .i64) hy4]
   refine zaa (v:= .d (.bool (decide (0<x0.2.1)))) (fun hb27=>by simp only[go_sem,zab hy4,zaf hy4,zac (D.int .i64) hy4,hc1,hc8,hc14,hc22,hc23,hb27]) ?_
   try simp only[go_sem,zab hy4,zaf hy4,zac (D.int .i64) hy4]
   refine zaj (fun hc25=> ?_) (fun hc26=> ?_)
   ·rw[if_pos hc25]at h
    try simp only[go_sem,zab hy4,zaf hy4,zac (D.int .i64) hy4]
    cases h
    exact⟨rfl,by simp,Up.of (N:=7) (N':=32) [] rfl rfl (by decide) (.set (.d _) zan.none) zao.at⟩
   rw[if_neg (ff hc26)]at h
   try simp only[go_sem,zab hy4,zaf hy4,zac (D.int .i64) hy4]
   cases h
   exact⟨rfl,Up.of (N:=7) (N':=33) [] rfl rfl (by decide) (.set (.d _) (.set (.d _) (.set (.d _) (.set (.d _) (.set (.d _) (.set (.ptr' rfl) (.set (.d _) zan.none))))))) (.set zat.refl_d zao.at)⟩
  rw[if_neg (ff hc24)]at h
  try simp only[go_sem,zab hy4,zaf hy4,zac (D.int .i64) hy4]
  cases h
  exact⟨rfl,by simp,Up.of (N:=7) (N':=23) [] rfl rfl (by decide) (.set (.d _) zan.none) zao.at⟩
 rw[if_neg (ff hc2)]at h
 try simp only[go_sem]
 cases h
 exact⟨rfl,by simp,Up.of (N:=7) (N':=8) [] rfl rfl (by decide) (.set (.d _) (.set (.d _) (.set (.d _) zan.none))) zao.at⟩
noncomputable def zKX (a0:Forest) (a1:Int) (a2:Sl (Int)):Option (Bool):=
 (zaP (zdi a0 a1 a2) (0,0,0)).bind fun r29=>
 match r29 with
 |(.inl q31)=>
  if(a1==9)=true then
   some (bif (decide (q31.1≤1))then(decide (q31.2≤1))else false)
  else
   some true
 |(.inr q43)=>
  some false
theorem zKY (a0:Forest) (a1:Int) (a2:Sl (Int)) (r:Bool) (h:zKX a0 a1 a2=some r):pc prog 207 [zae a0,.int .u8 a1,.list a2.n (a2.l.map (D.int .i64))]=some (D.bool r):=by
 unfold zKX at h
 refine zaZ (fn:=zIr) rfl rfl ?_
 delta zIr
 try simp only[go_sem]
 obtain⟨r29,hl30,h⟩:=bs h
 refine Wp.loopR zbi (n:=(0,[])) (a:=zpY) rfl (zfc a0 a1 a2) (zig a0 a1 a2) (zwq a0 a1 a2) hl30 ?_ (by(repeat(first|refine Clo.block ?_|refine Clo.seq zbi rfl ?_));(exact Clo.ret)) ?_
 ·show Up (0,[]) (zfc a0 a1 a2 (0,0,0)) _
  delta zfc
  exact Up.of (N:=7) (N':=7) [] rfl rfl (by decide) (.set (.d _) (.set (.d _) (.set (.d _) (.set (.d _) (.set (.d _) (.set (.ptr' rfl) (.set (.d _) zan.none))))))) (.set zat.refl_d zao.at)
 rcases r29 with(q31|q43)
 ·dsimp only at h
  dsimp only[zig]
  try simp only[go_sem]
  refine zaa (v:= .d (.int .i64 q31.1)) (fun hb42=>by simp only[go_sem,hb42]) ?_
  try simp only[go_sem]
  refine zaa (v:= .d (.bool (decide (q31.1≤1)))) (fun hb41=>by simp only[go_sem,hb41]) ?_
  try simp only[go_sem]
  refine zaa (v:= .d (.bool (decide (q31.1≤1)))) (fun hb40=>by simp only[go_sem,hb40]) ?_
  try simp only[go_sem]
  refine zaa (v:= .d (.int .i64 q31.2)) (fun hb37=>by((obtain⟨hb38,hb39⟩:=zaB hb37));simp only[go_sem,hb39,hb38]) ?_
  try simp only[go_sem]
  refine zaa (v:= .d (.bool (decide (q31.2≤1)))) (fun hb34=>by((obtain⟨hb35,hb36⟩:=zaB hb34));simp only[go_sem,hb36,hb35]) ?_
  try simp only[go_sem]
  refine zaG (fun hc32=> ?_) (fun hc33=> ?_)
  ·rw[if_pos hc32]at h
   try simp only[go_sem,hc32]
   cases h
   rfl
  rw[if_neg (ff hc33)]at h
  try simp only[go_sem,hc33]
  cases h
  rfl
 dsimp only at h
 dsimp only[zig]
 try simp only[go_sem]
 cases h
 rfl
noncomputable def zKZ (a0:Node):Option (Int):=
 if(a0.kind==12)=true then
  some a0.host
 else
  some a0.parent
theorem zLa (a0:Node) (r:Int) (h:zKZ a0=some r):pc prog 208 [zai a0]=some ((D.int .i64) r):=by
 unfold zKZ at h
 refine zaZ (fn:=zIs) rfl rfl ?_
 delta zIs
 try simp only[go_sem]
 refine zaj (fun hc1=> ?_) (fun hc2=> ?_)
 ·rw[if_pos hc1]at h
  try simp only[go_sem]
  cases h
  rfl
 rw[if_neg (ff hc2)]at h
 try simp only[go_sem]
 cases h
 rfl
def zfd (a0:Sl (Attr)) (a1:Name) (x0:Int):St:=⟨((((Regs.none.set 3 (.ptr 0 0 0)).set 7 (.d (.list a0.n (a0.l.map zaJ)))).set 8 (.d (.int .i64 (a0.l.length:Int)))).set 9 (.d (.int .i64 x0))),((Heap.at 5).set 0 (some (.els 3 [.d (zbH a1)] 0)))⟩
def zih (a0:Sl (Attr)) (a1:Name):((Unit)⊕(Int))→Ex×St:=fun r=>match r with
 |(.inl r)=>(.exit 0,⟨Regs.none,(Heap.at 5)⟩)
 |(.inr r)=>(.ret,⟨(Regs.none.set 4 (.d (.int .i64 r))),(Heap.at 5)⟩)
noncomputable def zdj (a0:Sl (Attr)) (a1:Name) (x0:Int):Option ((Int)⊕((Unit)⊕(Int))):=
 if(decide (x0<(a0.l.length:Int)))=true then
  (rd a0.l x0).bind fun y3=>
  if(bif (y3.name.space==a1.space)then(y3.name.local_==a1.local_)else false)=true then
   some (.inr (.inr x0))
  else
   some (.inl (IntKind.wrap .i64 (x0+1)))
 else
  some (.inr (.inl ()))
theorem zwr (a0:Sl (Attr)) (a1:Name) (x0:Int) (o:(Int)⊕((Unit)⊕(Int))) (h:zdj a0 a1 x0=some o):Wp prog zpZ (zfd a0 a1 x0) (zbJ (0,[]) (zfd a0 a1) (zih a0 a1) o):=by
 unfold zdj at h
 delta zpZ zfd
 try simp only[go_sem]
 refine zaj (fun hc1=> ?_) (fun hc2=> ?_)
 ·rw[if_pos hc1]at h
  try simp only[go_sem]
  obtain⟨y3,hy4,h⟩:=bs h
  try simp only[go_sem,zab hy4,zaf hy4,zac zaJ hy4]
  refine zaa (v:= .ptr 9 0 0) (fun hb12=>by simp only[go_sem,zab hy4,zaf hy4,zac zaJ hy4,hc1,hb12]) ?_
  try simp only[go_sem,zab hy4,zaf hy4,zac zaJ hy4]
  refine zaa (v:= .ptr 9 0 2) (fun hb11=>by simp only[go_sem,zab hy4,zaf hy4,zac zaJ hy4,hc1,hb11]) ?_
  try simp only[go_sem,zab hy4,zaf hy4,zac zaJ hy4]
  refine zaa (v:= .d (.str y3.name.local_)) (fun hb10=>by simp only[go_sem,zab hy4,zaf hy4,zac zaJ hy4,hc1,hb10]) ?_
  try simp only[go_sem,zab hy4,zaf hy4,zac zaJ hy4]
  refine zaa (v:= .ptr 0 0 2) (fun hb9=>by simp only[go_sem,zab hy4,zaf hy4,zac zaJ hy4,hc1,hb9]) ?_
  try simp only[go_sem,zab hy4,zaf hy4,zac zaJ hy4]
  refine zaa (v:= .d (.str a1.local_)) (fun hb8=>by simp only[go_sem,zab hy4,zaf hy4,zac zaJ hy4,hc1,hb8]) ?_
  try simp only[go_sem,zab hy4,zaf hy4,zac zaJ hy4]
  refine zaa (v:= .d (.bool (y3.name.local_==a1.local_))) (fun hb7=>by simp only[go_sem,zab hy4,zaf hy4,zac zaJ hy4,hc1,hb7]) ?_
  try simp only[go_sem,zab hy4,zaf hy4,zac zaJ hy4]
  refine zaj (fun hc5=> ?_) (fun hc6=> ?_)
  ·rw[if_pos hc5]at h
   try simp only[go_sem,zab hy4,zaf hy4,zac zaJ hy4]
   cases h
   exact⟨rfl,by simp,Up.of (N:=5) (N':=28) [] rfl rfl (by decide) (.set (.d _) zan.none) zao.at⟩
  rw[if_neg (ff hc6)]at h
  try simp only[go_sem,zab hy4,zaf hy4,zac zaJ hy4]
  cases h
  exact⟨rfl,Up.of (N:=5) (N':=28) [] rfl rfl (by decide) (.set (.d _) (.set (.d _) (.set (.d _) (.set (.ptr' rfl) zan.none)))) (.set zat.refl_d zao.at)⟩
 rw[if_neg (ff hc2)]at h
 try simp only[go_sem]
 cases h
 exact⟨rfl,by simp,Up.of (N:=5) (N':=6) [] rfl rfl (by decide) zan.none zao.at⟩
noncomputable def zLb (a0:Sl (Attr)) (a1:Name):Option (Int):=
 (zaP (zdj a0 a1) 0).bind fun r13=>
 match r13 with
 |(.inl q15)=>
  some (-1)
 |(.inr q16)=>
  some q16
theorem zLc (a0:Sl (Attr)) (a1:Name) (r:Int) (h:zLb a0 a1=some r):pc prog 211 [.list a0.n (a0.l.map zaJ),zbH a1]=some ((D.int .i64) r):=by
 unfold zLb at h
 refine zaZ (fn:=zIt) rfl rfl ?_
 delta zIt
 try simp only[go_sem]
 obtain⟨r13,hl14,h⟩:=bs h
 refine Wp.loopR zbi (n:=(0,[])) (a:=zpZ) rfl (zfd a0 a1) (zih a0 a1) (zwr a0 a1) hl14 ?_ (by(repeat(first|refine Clo.block ?_|refine Clo.seq zbi rfl ?_));(exact Clo.ret)) ?_
 ·show Up (0,[]) (zfd a0 a1 0) _
  delta zfd
  exact Up.of (N:=5) (N':=5) [] rfl rfl (by decide) (.set (.d _) (.set (.d _) (.set (.d _) (.set (.ptr' rfl) zan.none)))) (.set zat.refl_d zao.at)
 rcases r13 with(q15|q16)
 ·dsimp only at h
  dsimp only[zih]
  try simp only[go_sem]
  cases h
  rfl
 dsimp only at h
 dsimp only[zih]
 try simp only[go_sem]
 cases h
 rfl
noncomputable def zLd (a0:Int):Option (Bool):=
 some (!(a0==a0))
theorem zLe (a0:Int) (r:Bool) (h:zLd a0=some r):pc prog 213 [.int .i64 a0]=some (D.bool r):=by
 unfold zLd at h
 refine zaZ (fn:=zIu) rfl rfl ?_
 delta zIu
 try simp only[go_sem]
 cases h
 rfl
noncomputable def zLf (a0:Node):Option (Int):=
 if(a0.kind==12)=true then
  some a0.host
 else
  some a0.parent
theorem zLg (a0:Node) (r:Int) (h:zLf a0=some r):pc prog 214 [zai a0]=some ((D.int .i64) r):=by
 unfold zLf at h
 refine zaZ (fn:=zIv) rfl rfl ?_
 delta zIv
 try simp only[go_sem]
 refine zaj (fun hc1=> ?_) (fun hc2=> ?_)
 ·rw[if_pos hc1]at h
  try simp only[go_sem]
  cases h
  rfl
 rw[if_neg (ff hc2)]at h
 try simp only[go_sem]
 cases h
 rfl
noncomputable def zLh (a0:Int):Option (forest_trait):=
 if(a0==1)=true then
  some (⟨true,false,true,true,true,false⟩:forest_trait)
 else
  (if(a0==3)=true then
   some (a0==3)
  else
   (if(a0==4)=true then
    some (a0==4)
   else
    some (a0==8):Option ((Bool))).bind fun r7=>
   some r7:Option ((Bool))).bind fun r9=>
  if r9=true then
   some (⟨true,true,false,true,false,false⟩:forest_trait)
  else
   if(a0==7)=true then
    some (⟨true,true,false,true,false,true⟩:forest_trait)
   else
    if(a0==10)=true then
     some (⟨true,false,false,true,false,true⟩:forest_trait)
    else
     if(a0==9)=true then
      some (⟨true,false,true,false,false,false⟩:forest_trait)
     else
      if(a0==11)=true then
       some (⟨true,false,true,false,false,false⟩:forest_trait)
      else
       if(a0==12)=true then
        some (⟨true,false,true,false,false,false⟩:forest_trait)
       else
        some (⟨false,false,false,false,false,false⟩:forest_trait)
theorem zLi (a0:Int) (r:forest_trait) (h:zLh a0=some r):pc prog 215 [.int .u8 a0]=some (zaC r):=by
 unfold zLh at h
 refine zaZ (fn:=zIw) rfl rfl ?_
 delta zIw
 try simp only[go_sem]
 refine zaj (fun hc1=> ?_) (fun hc2=> ?_)
 ·rw[if_pos hc1]at h
  try simp only[go_sem]
  cases h
  rfl
 rw[if_neg (ff hc2)]at h
 try simp only[go_sem]
 obtain⟨r9,hl10,h⟩:=bs h
 refine WBr.cut (n:=(0,[])) .normal ⟨(((Regs.none.set 2 (.ptr 0 0 0)).set 3 (.d (.int .u8 a0))).set 7 (.d (.bool r9))),((Heap.at 6).set 0 (some (.els 6 [.d (.agg [.bool false,.bool false,.bool false,.bool false,.bool false,.bool false])] 0)))⟩ ?_ (by(repeat(first|refine Clo.block ?_|refine Clo.seq zbi rfl ?_));(exact Clo.ret)) ?_
 ·replace h:=hl10
  refine zaj (fun hc3=> ?_) (fun hc4=> ?_)
  ·rw[if_pos hc3]at h
   try simp only[go_sem]
   cases h
   exact⟨rfl,Up.of (N:=6) (N':=6) [] rfl rfl (by decide) (.set (.d _) (.set (.d _) (.set (.ptr' rfl) zan.none))) (.set zat.refl_d zao.at)⟩
  rw[if_neg (ff hc4)]at h
  try simp only[go_sem]
  obtain⟨r7,hl8,h⟩:=bs h
  refine WBr.cut (n:=(0,[])) .normal ⟨(((Regs.none.set 2 (.ptr 0 0 0)).set 3 (.d (.int .u8 a0))).set 7 (.d (.bool r7))),((Heap.at 8).set 0 (some (.els 6 [.d (.agg [.bool false,.bool false,.bool false,.bool false,.bool false,.bool false])] 0)))⟩ ?_ (by(repeat(first|refine Clo.block ?_|refine Clo.seq zbi rfl ?_));(exact Clo.cpost (by decide))) ?_
  ·replace h:=hl8
   refine zaj (fun hc5=> ?_) (fun hc6=> ?_)
   ·rw[if_pos hc5]at h
    try simp only[go_sem]
    cases h
    exact⟨rfl,Up.of (N:=8) (N':=8) [] rfl rfl (by decide) (.set (.d _) (.set (.d _) (.set (.ptr' rfl) zan.none))) (.set zat.refl_d zao.at)⟩
   rw[if_neg (ff hc6)]at h
   try simp only[go_sem]
   cases h
   exact⟨rfl,Up.of (N:=8) (N':=10) [] rfl rfl (by decide) (.set (.d _) (.set (.d _) (.set (.ptr' rfl) zan.none))) (.set zat.refl_d zao.at)⟩
  skip
  cases h
  exact⟨rfl,Up.of (N:=6) (N':=8) [] rfl rfl (by decide) (.set (.d _) (.set (.d _) (.set (.ptr' rfl) zan.none))) (.set zat.refl_d zao.at)⟩
 try simp only[go_sem]
 refine zaj (fun hc11=> ?_) (fun hc12=> ?_)
 ·rw[if_pos hc11]at h
  try simp only[go_sem]
  cases h
  rfl
 rw[if_neg (ff hc12)]at h
 try simp only[go_sem]
 refine zaj (fun hc13=> ?_) (fun hc14=> ?_)
 ·rw[if_pos hc13]at h
  try simp only[go_sem]
  cases h
  rfl
 rw[if_neg (ff hc14)]at h
 try simp only[go_sem]
 refine zaj (fun hc15=> ?_) (fun hc16=> ?_)
 ·rw[if_pos hc15]at h
  try simp only[go_sem]
  cases h
  rfl
 rw[if_neg (ff hc16)]at h
 try simp only[go_sem]
 refine zaj (fun hc17=> ?_) (fun hc18=> ?_)
 ·rw[if_pos hc17]at h
  try simp only[go_sem]
  try simp only[go_sem,hc2,hc12,hc14,hc16,hc17]
  cases h
  rfl
 rw[if_neg (ff hc18)]at h
 try simp only[go_sem]
 refine zaj (fun hc19=> ?_) (fun hc20=> ?_)
 ·rw[if_pos hc19]at h
  try simp only[go_sem]
  try simp only[go_sem,hc2,hc12,hc14,hc16,hc18,hc19]
  cases h
  rfl
 rw[if_neg (ff hc20)]at h
 try simp only[go_sem]
 refine zaj (fun hc21=> ?_) (fun hc22=> ?_)
 ·rw[if_pos hc21]at h
  try simp only[go_sem]
  cases h
  rfl
 rw[if_neg (ff hc22)]at h
 try simp only[go_sem]
 cases h
 rfl
noncomputable def zLj (a0:Node) (a1:forest_trait):Option (Bool):=
 if a1.full=true then
  (dec D.bool (pc prog 229 [zbH a0.name])).bind fun r3=>
  some r3
 else
  if a1.local_=true then
   if(!(a0.name.local_==[]))=true then
    (dec D.bool (pc prog 218 [.list false (([a0.name.local_]).map D.str)])).bind fun r9=>
    if r9=true then
     some (decide (a0.name=(⟨[],[],a0.name.local_⟩:Name)))
    else
     some false
   else
    some false
  else
   some (decide (a0.name=(⟨[],[],[]⟩:Name)))
theorem zLk (a0:Node) (a1:forest_trait) (r:Bool) (h:zLj a0 a1=some r):pc prog 216 [zai a0,zaC a1]=some (D.bool r):=by
 unfold zLj at h
 refine zaZ (fn:=zIx) rfl rfl ?_
 delta zIx
 try simp only[go_sem]
 refine zaj (fun hc1=> ?_) (fun hc2=> ?_)
 ·rw[if_pos hc1]at h
  try simp only[go_sem]
  obtain⟨r3,hr4,h⟩:=bs h
  replace hr4:=zam hr4
  refine zaq hr4 ?_
  try simp only[go_sem]
  cases h
  rfl
 rw[if_neg (ff hc2)]at h
 try simp only[go_sem]
 refine zaj (fun hc5=> ?_) (fun hc6=> ?_)
 ·rw[if_pos hc5]at h
  try simp only[go_sem]
  refine zaa (v:= .ptr 0 0 1) (fun hb20=>by simp only[go_sem,hc2,hc5,hb20]) ?_
  try simp only[go_sem]
  refine zaa (v:= .ptr 0 0 3) (fun hb19=>by simp only[go_sem,hc2,hc5,hb19]) ?_
  try simp only[go_sem]
  refine zaa (v:= .d (.str a0.name.local_)) (fun hb18=>by simp only[go_sem,hc2,hc5,hb18]) ?_
  try simp only[go_sem]
  refine zaE (fun hc7=> ?_) (fun hc8=> ?_)
  ·rw[if_pos (show(!(a0.name.local_==[]))=true by(rw[hc7];rfl))]at h
   try simp only[go_sem,hc7]
   obtain⟨r9,hr10,h⟩:=bs h
   replace hr10:=zam hr10
   refine zaq hr10 ?_
   try simp only[go_sem]
   refine zaa (v:= .ptr 0 0 1) (fun hb17=>by simp only[go_sem,hc2,hc5,hc7,hb17]) ?_
   try simp only[go_sem]
   refine zaa (v:= .d (zbH a0.name)) (fun hb16=>by simp only[go_sem,hc2,hc5,hc7,hb16]) ?_
   try simp only[go_sem]
   refine zaa (v:= .ptr 0 0 1) (fun hb15=>by simp only[go_sem,hc2,hc5,hc7,hb15]) ?_
   try simp only[go_sem]
   refine zaa (v:= .ptr 0 0 3) (fun hb14=>by simp only[go_sem,hc2,hc5,hc7,hb14]) ?_
   try simp only[go_sem]
   refine zaa (v:= .d (.str a0.name.local_)) (fun hb13=>by simp only[go_sem,hc2,hc5,hc7,hb13]) ?_
   try simp only[go_sem]
   refine zaG (fun hc11=> ?_) (fun hc12=> ?_)
   ·rw[if_pos hc11]at h
    try simp only[go_sem,hc11]
    cases h
    rfl
   rw[if_neg (ff hc12)]at h
   try simp only[go_sem,hc12]
   cases h
   rfl
  rw[if_neg (ffn hc8)]at h
  try simp only[go_sem,hc8]
  cases h
  rfl
 rw[if_neg (ff hc6)]at h
 try simp only[go_sem]
 cases h
 rfl
def zfe (a0:Sl (Attr)) (x0:List (forest_key×Int)×Int):St:=⟨((((Regs.none.set 3 (.map 4)).set 11 (.d (.list a0.n (a0.l.map zaJ)))).set 12 (.d (.int .i64 (a0.l.length:Int)))).set 13 (.d (.int .i64 x0.2))),((Heap.at 9).set 4 (some (.map (ents zah (fun z=>V.d ((D.int .i64) z)) x0.1 0) x0.1.length)))⟩
def zii (a0:Sl (Attr)):((Unit)⊕(Unit))→Ex×St:=fun r=>match r with
 |(.inl r)=>(.exit 0,⟨Regs.none,(Heap.at 9)⟩)
 |(.inr r)=>(.ret,⟨(Regs.none.set 2 (.d (.bool false))),(Heap.at 9)⟩)
noncomputable def zdk (a0:Sl (Attr)) (x0:List (forest_key×Int)×Int):Option ((List (forest_key×Int)×Int)⊕((Unit)⊕(Unit))):=
 if(decide (x0.2<(a0.l.length:Int)))=true then
  (rd a0.l x0.2).bind fun y5=>
  (dec zah (pc prog 230 [zbH y5.name])).bind fun r7=>
  (dec D.bool (pc prog 229 [zbH y5.name])).bind fun r9=>
  if(!(bif (!r9)then true else(decide (4096<(y5.value.length:Int)))))=true then
   if(decide (0<(zjc r7 x0.1 (0))))=true then
    some (.inr (.inr ()))
   else
    some (.inl ((zhB r7 (IntKind.wrap .i64 ((zjc r7 x0.1 (0))+1)) x0.1),(IntKind.wrap .i64 (x0.2+1))))
  else
   some (.inr (.inr ()))
 else
  some (.inr (.inl ()))
theorem zws (a0:Sl (Attr)) (x0:List (forest_key×Int)×Int) (o:(List (forest_key×Int)×Int)⊕((Unit)⊕(Unit))) (h:zdk a0 x0=some o):Wp prog zqa (zfe a0 x0) (zbJ (0,[]) (zfe a0) (zii a0) o):=by
 unfold zdk at h
 delta zqa zfe
 try simp only[go_sem]
 refine zaj (fun hc3=> ?_) (fun hc4=> ?_)
 ·rw[if_pos hc3]at h
  try simp only[go_sem,zax (e:=zah) (ev:=(D.int .i64)) zag,zay (e:=zah) (ev:=(D.int .i64)) zag,zav (e:=zah) (ev:=(D.int .i64)) zag,zaz (e:=zah) (ev:=(D.int .i64)) zag,zaA (e:=zah) (ev:=(D.int .i64))]
  obtain⟨y5,hy6,h⟩:=bs h
  try simp only[go_sem,zax (e:=zah) (ev:=(D.int .i64)) zag,zay (e:=zah) (ev:=(D.int .i64)) zag,zav (e:=zah) (ev:=(D.int .i64)) zag,zaz (e:=zah) (ev:=(D.int .i64)) zag,zaA (e:=zah) (ev:=(D.int .i64)),zab hy6,zaf hy6,zac zaJ hy6]
  obtain⟨r7,hr8,h⟩:=bs h
  replace hr8:=zam hr8
  refine zaq hr8 ?_
  try simp only[go_sem,zax (e:=zah) (ev:=(D.int .i64)) zag,zay (e:=zah) (ev:=(D.int .i64)) zag,zav (e:=zah) (ev:=(D.int .i64)) zag,zaz (e:=zah) (ev:=(D.int .i64)) zag,zaA (e:=zah) (ev:=(D.int .i64)),zab hy6,zaf hy6,zac zaJ hy6]
  obtain⟨r9,hr10,h⟩:=bs h
  replace hr10:=zam hr10
  refine zaq hr10 ?_
  try simp only[go_sem,zax (e:=zah) (ev:=(D.int .i64)) zag,zay (e:=zah) (ev:=(D.int .i64)) zag,zav (e:=zah) (ev:=(D.int .i64)) zag,zaz (e:=zah) (ev:=(D.int .i64)) zag,zaA (e:=zah) (ev:=(D.int .i64)),zab hy6,zaf hy6,zac zaJ hy6]
  refine zaa (v:= .ptr 12 0 3) (fun hb18=>by simp only[go_sem,zax (e:=zah) (ev:=(D.int .i64)) zag,zay (e:=zah) (ev:=(D.int .i64)) zag,zav (e:=zah) (ev:=(D.int .i64)) zag,zaz (e:=zah) (ev:=(D.int .i64)) zag,zaA (e:=zah) (ev:=(D.int .i64)),zab hy6,zaf hy6,zac zaJ hy6,hc3,hb18]) ?_
  try simp only[go_sem,zax (e:=zah) (ev:=(D.int .i64)) zag,zay (e:=zah) (ev:=(D.int .i64)) zag,zav (e:=zah) (ev:=(D.int .i64)) zag,zaz (e:=zah) (ev:=(D.int .i64)) zag,zaA (e:=zah) (ev:=(D.int .i64)),zab hy6,zaf hy6,zac zaJ hy6]
  refine zaa (v:= .d (.str y5.value)) (fun hb17=>by simp only[go_sem,zax (e:=zah) (ev:=(D.int .i64)) zag,zay (e:=zah) (ev:=(D.int .i64)) zag,zav (e:=zah) (ev:=(D.int .i64)) zag,zaz (e:=zah) (ev:=(D.int .i64)) zag,zaA (e:=zah) (ev:=(D.int .i64)),zab hy6,zaf hy6,zac zaJ hy6,hc3,hb17]) ?_
  try simp only[go_sem,zax (e:=zah) (ev:=(D.int .i64)) zag,zay (e:=zah) (ev:=(D.int .i64)) zag,zav (e:=zah) (ev:=(D.int .i64)) zag,zaz (e:=zah) (ev:=(D.int .i64)) zag,zaA (e:=zah) (ev:=(D.int .i64)),zab hy6,zaf hy6,zac zaJ hy6]
  refine zaa (v:= .d (.int .i64 (y5.value.length:Int))) (fun hb16=>by simp only[go_sem,zax (e:=zah) (ev:=(D.int .i64)) zag,zay (e:=zah) (ev:=(D.int .i64)) zag,zav (e:=zah) (ev:=(D.int .i64)) zag,zaz (e:=zah) (ev:=(D.int .i64)) zag,zaA (e:=zah) (ev:=(D.int .i64)),zab hy6,zaf hy6,zac zaJ hy6,hc3,hb16]) ?_
  try simp only[go_sem,zax (e:=zah) (ev:=(D.int .i64)) zag,zay (e:=zah) (ev:=(D.int .i64)) zag,zav (e:=zah) (ev:=(D.int .i64)) zag,zaz (e:=zah) (ev:=(D.int .i64)) zag,zaA (e:=zah) (ev:=(D.int .i64)),zab hy6,zaf hy6,zac zaJ hy6]
  refine zaa (v:= .d (.bool (decide (4096<(y5.value.length:Int))))) (fun hb15=>by simp only[go_sem,zax (e:=zah) (ev:=(D.int .i64)) zag,zay (e:=zah) (ev:=(D.int .i64)) zag,zav (e:=zah) (ev:=(D.int .i64)) zag,zaz (e:=zah) (ev:=(D.int .i64)) zag,zaA (e:=zah) (ev:=(D.int .i64)),zab hy6,zaf hy6,zac zaJ hy6,hc3,hb15]) ?_
  try simp only[go_sem,zax (e:=zah) (ev:=(D.int .i64)) zag,zay (e:=zah) (ev:=(D.int .i64)) zag,zav (e:=zah) (ev:=(D.int .i64)) zag,zaz (e:=zah) (ev:=(D.int .i64)) zag,zaA (e:=zah) (ev:=(D.int .i64)),zab hy6,zaf hy6,zac zaJ hy6]
  refine zaE (fun hc11=> ?_) (fun hc12=> ?_)
  ·rw[if_pos (show(!(bif (!r9)then true else(decide (4096<(y5.value.length:Int)))))=true by(rw[hc11];rfl))]at h
   try simp only[go_sem,zax (e:=zah) (ev:=(D.int .i64)) zag,zay (e:=zah) (ev:=(D.int .i64)) zag,zav (e:=zah) (ev:=(D.int .i64)) zag,zaz (e:=zah) (ev:=(D.int .i64)) zag,zaA (e:=zah) (ev:=(D.int .i64)),zab hy6,zaf hy6,zac zaJ hy6,hc11]
   refine zaj (fun hc13=> ?_) (fun hc14=> ?_)
   ·rw[if_pos hc13]at h
    try simp only[go_sem,zax (e:=zah) (ev:=(D.int .i64)) zag,zay (e:=zah) (ev:=(D.int .i64)) zag,zav (e:=zah) (ev:=(D.int .i64)) zag,zaz (e:=zah) (ev:=(D.int .i64)) zag,zaA (e:=zah) (ev:=(D.int .i64)),zab hy6,zaf hy6,zac zaJ hy6]
    cases h
    exact⟨rfl,by simp,Up.of (N:=9) (N':=36) [] rfl rfl (by decide) (.set (.d _) zan.none) zao.at⟩
   rw[if_neg (ff hc14)]at h
   try simp only[go_sem,zax (e:=zah) (ev:=(D.int .i64)) zag,zay (e:=zah) (ev:=(D.int .i64)) zag,zav (e:=zah) (ev:=(D.int .i64)) zag,zaz (e:=zah) (ev:=(D.int .i64)) zag,zaA (e:=zah) (ev:=(D.int .i64)),zab hy6,zaf hy6,zac zaJ hy6]
   cases h
   exact⟨rfl,Up.of (N:=9) (N':=44) [] rfl rfl (by decide) (.set (.d _) (.set (.d _) (.set (.d _) (.set (.map' rfl) zan.none)))) (.set zat.map_d zao.at)⟩
  rw[if_neg (ffn hc12)]at h
  try simp only[go_sem,zax (e:=zah) (ev:=(D.int .i64)) zag,zay (e:=zah) (ev:=(D.int .i64)) zag,zav (e:=zah) (ev:=(D.int .i64)) zag,zaz (e:=zah) (ev:=(D.int .i64)) zag,zaA (e:=zah) (ev:=(D.int .i64)),zab hy6,zaf hy6,zac zaJ hy6,hc12]
  cases h
  exact⟨rfl,by simp,Up.of (N:=9) (N':=36) [] rfl rfl (by decide) (.set (.d _) zan.none) zao.at⟩
 rw[if_neg (ff hc4)]at h
 try simp only[go_sem,zax (e:=zah) (ev:=(D.int .i64)) zag,zay (e:=zah) (ev:=(D.int .i64)) zag,zav (e:=zah) (ev:=(D.int .i64)) zag,zaz (e:=zah) (ev:=(D.int .i64)) zag,zaA (e:=zah) (ev:=(D.int .i64))]
 cases h
 exact⟨rfl,by simp,Up.of (N:=9) (N':=10) [] rfl rfl (by decide) zan.none zao.at⟩
noncomputable def zLl (a0:Sl (Attr)):Option (Bool):=
 if(decide (64<(a0.l.length:Int)))=true then
  some false
 else
  (zaP (zdk a0) ([],0)).bind fun r19=>
  match r19 with
  |(.inl q21)=>
   some true
  |(.inr q22)=>
   some false
theorem zLm (a0:Sl (Attr)) (r:Bool) (h:zLl a0=some r):pc prog 217 [.list a0.n (a0.l.map zaJ)]=some (D.bool r):=by
 unfold zLl at h
 refine zaZ (fn:=zIy) rfl rfl ?_
 delta zIy
 try simp only[go_sem]
 refine zaj (fun hc1=> ?_) (fun hc2=> ?_)
 ·rw[if_pos hc1]at h
  try simp only[go_sem]
  cases h
  rfl
 rw[if_neg (ff hc2)]at h
 try simp only[go_sem]
 obtain⟨r19,hl20,h⟩:=bs h
 refine Wp.loopR zbi (n:=(0,[])) (a:=zqa) rfl (zfe a0) (zii a0) (zws a0) hl20 ?_ (by(repeat(first|refine Clo.block ?_|refine Clo.seq zbi rfl ?_));(exact Clo.ret)) ?_
 ·show Up (0,[]) (zfe a0 ([],0)) _
  delta zfe
  exact Up.of (N:=9) (N':=9) [] rfl rfl (by decide) (.set (.d _) (.set (.d _) (.set (.d _) (.set (.map' rfl) zan.none)))) (.set zat.map_d zao.at)
 rcases r19 with(q21|q22)
 ·dsimp only at h
  dsimp only[zii]
  try simp only[go_sem]
  cases h
  rfl
 dsimp only at h
 dsimp only[zii]
 try simp only[go_sem]
 cases h
 rfl
def zff (a0:Sl (List UInt8)) (x0:Int):St:=⟨(((Regs.none.set 5 (.d (.list a0.n (a0.l.map D.str)))).set 6 (.d (.int .i64 (a0.l.length:Int)))).set 7 (.d (.int .i64 x0))),(Heap.at 4)⟩
def zij (a0:Sl (List UInt8)):((Unit)⊕(Unit))→Ex×St:=fun r=>match r with
 |(.inl r)=>(.exit 0,⟨Regs.none,(Heap.at 4)⟩)
 |(.inr r)=>(.ret,⟨(Regs.none.set 2 (.d (.bool false))),(Heap.at 4)⟩)
noncomputable def zdl (a0:Sl (List UInt8)) (x0:Int):Option ((Int)⊕((Unit)⊕(Unit))):=
 if(decide (x0<(a0.l.length:Int)))=true then
  (rd a0.l x0).bind fun y3=>
  if(decide (1024<(y3.length:Int)))=true then
   some (.inr (.inr ()))
  else
   some (.inl (IntKind.wrap .i64 (x0+1)))
 else
  some (.inr (.inl ()))
theorem zwt (a0:Sl (List UInt8)) (x0:Int) (o:(Int)⊕((Unit)⊕(Unit))) (h:zdl a0 x0=some o):Wp prog zqb (zff a0 x0) (zbJ (0,[]) (zff a0) (zij a0) o):=by
 unfold zdl at h
 delta zqb zff
 try simp only[go_sem]
 refine zaj (fun hc1=> ?_) (fun hc2=> ?_)
 ·rw[if_pos hc1]at h
  try simp only[go_sem]
  obtain⟨y3,hy4,h⟩:=bs h
  try simp only[go_sem,zab hy4,zaf hy4,zac D.str hy4]
  refine zaj (fun hc5=> ?_) (fun hc6=> ?_)
  ·rw[if_pos hc5]at h
   try simp only[go_sem,zab hy4,zaf hy4,zac D.str hy4]
   cases h
   exact⟨rfl,by simp,Up.of (N:=4) (N':=12) [] rfl rfl (by decide) (.set (.d _) zan.none) zao.at⟩
  rw[if_neg (ff hc6)]at h
  try simp only[go_sem,zab hy4,zaf hy4,zac D.str hy4]
  cases h
  exact⟨rfl,Up.of (N:=4) (N':=13) [] rfl rfl (by decide) (.set (.d _) (.set (.d _) (.set (.d _) zan.none))) zao.at⟩
 rw[if_neg (ff hc2)]at h
 try simp only[go_sem]
 cases h
 exact⟨rfl,by simp,Up.of (N:=4) (N':=5) [] rfl rfl (by decide) zan.none zao.at⟩
noncomputable def zLn (a0:Sl (List UInt8)):Option (Bool):=
 (zaP (zdl a0) 0).bind fun r7=>
 match r7 with
 |(.inl q9)=>
  some true
 |(.inr q10)=>
  some false
theorem zLo (a0:Sl (List UInt8)) (r:Bool) (h:zLn a0=some r):pc prog 218 [.list a0.n (a0.l.map D.str)]=some (D.bool r):=by
 unfold zLn at h
 refine zaZ (fn:=zIz) rfl rfl ?_
 delta zIz
 try simp only[go_sem]
 obtain⟨r7,hl8,h⟩:=bs h
 refine Wp.loopR zbi (n:=(0,[])) (a:=zqb) rfl (zff a0) (zij a0) (zwt a0) hl8 ?_ (by(repeat(first|refine Clo.block ?_|refine Clo.seq zbi rfl ?_));(exact Clo.ret)) ?_
 ·show Up (0,[]) (zff a0 0) _
  delta zff
  exact Up.of (N:=4) (N':=4) [] rfl rfl (by decide) (.set (.d _) (.set (.d _) (.set (.d _) zan.none))) zao.at
 rcases r7 with(q9|q10)
 ·dsimp only at h
  dsimp only[zij]
  try simp only[go_sem]
  cases h
  rfl
 dsimp only at h
 dsimp only[zij]
 try simp only[go_sem]
 cases h
 rfl
noncomputable def zLp (a0:Forest) (a1:Int):Option (Node×Bool):=
 if(bif (decide (a1<1))then true else(decide ((a0.nodes.l.length:Int)<a1)))=true then
  some ((⟨0,⟨[],[],[]⟩,[],[],⟨true,[]⟩,⟨true,[]⟩,0,⟨true,[]⟩,0,0,0,0,false,false⟩:Node),false)
 else
  (rd a0.nodes.l (IntKind.wrap .i64 (a1-1))).bind fun y3=>
  some (y3,true)
theorem zLq (a0:Forest) (a1:Int) (r:Node×Bool) (h:zLp a0 a1=some r):pc prog 219 [zae a0,.int .i64 a1]=some ((eT2 zai D.bool) r):=by
 unfold zLp at h
 refine zaZ (fn:=zIA) rfl rfl ?_
 delta zIA
 try simp only[go_sem]
 refine zaa (v:= .d (.int .i64 a1)) (fun hb9=>by simp only[go_sem,hb9]) ?_
 try simp only[go_sem]
 refine zaa (v:= .ptr 0 0 0) (fun hb8=>by simp only[go_sem,hb8]) ?_
 try simp only[go_sem]
 refine zaa (v:= .d (.list a0.nodes.n (a0.nodes.l.map zai))) (fun hb7=>by simp only[go_sem,hb7]) ?_
 try simp only[go_sem]
 refine zaa (v:= .d (.int .i64 (a0.nodes.l.length:Int))) (fun hb6=>by simp only[go_sem,hb6]) ?_
 try simp only[go_sem]
 refine zaa (v:= .d (.bool (decide ((a0.nodes.l.length:Int)<a1)))) (fun hb5=>by simp only[go_sem,hb5]) ?_
 try simp only[go_sem]
 refine zaj (fun hc1=> ?_) (fun hc2=> ?_)
 ·rw[if_pos hc1]at h
  try simp only[go_sem]
  cases h
  rfl
 rw[if_neg (ff hc2)]at h
 try simp only[go_sem]
 obtain⟨y3,hy4,h⟩:=bs h
 try simp only[go_sem,zab hy4,zaf hy4,zac zai hy4]
 cases h
 rfl
def zfg (a0:Sl (Int)) (a1:Int) (x0:Int×Int):St:=⟨(((((Regs.none.set 1 (.d (.int .i64 a1))).set 5 (.d (.int .i64 x0.2))).set 8 (.d (.list a0.n (a0.l.map (D.int .i64))))).set 9 (.d (.int .i64 (a0.l.length:Int)))).set 10 (.d (.int .i64 x0.1))),(Heap.at 5)⟩
def zlm (a0:Sl (Int)) (a1:Int):((Int))→Ex×St:=fun r=>(.exit 0,⟨(Regs.none.set 5 (.d (.int .i64 r))),(Heap.at 5)⟩)
noncomputable def zdm (a0:Sl (Int)) (a1:Int) (x0:Int×Int):Option ((Int×Int)⊕((Int))):=
 if(decide (x0.1<(a0.l.length:Int)))=true then
  (rd a0.l x0.1).bind fun y3=>
  if(y3==a1)=true then
   some (.inl ((IntKind.wrap .i64 (x0.1+1)),(IntKind.wrap .i64 (x0.2+1))))
  else
   some (.inl ((IntKind.wrap .i64 (x0.1+1)),x0.2))
 else
  some (.inr x0.2)
theorem zwu (a0:Sl (Int)) (a1:Int) (x0:Int×Int) (o:(Int×Int)⊕((Int))) (h:zdm a0 a1 x0=some o):Wp prog zqc (zfg a0 a1 x0) (zbJ (0,[]) (zfg a0 a1) (zlm a0 a1) o):=by
 unfold zdm at h
 delta zqc zfg
 try simp only[go_sem]
 refine zaj (fun hc1=> ?_) (fun hc2=> ?_)
 ·rw[if_pos hc1]at h
  try simp only[go_sem]
  obtain⟨y3,hy4,h⟩:=bs h
  try simp only[go_sem,zab hy4,zaf hy4,zac (D.int .i64) hy4]
  refine zaj (fun hc5=> ?_) (fun hc6=> ?_)
  ·rw[if_pos hc5]at h
   try simp only[go_sem,zab hy4,zaf hy4,zac (D.int .i64) hy4]
   cases h
   exact⟨rfl,Up.of (N:=5) (N':=17) [] rfl rfl (by decide) (.set (.d _) (.set (.d _) (.set (.d _) (.set (.d _) (.set (.d _) zan.none))))) zao.at⟩
  rw[if_neg (ff hc6)]at h
  try simp only[go_sem,zab hy4,zaf hy4,zac (D.int .i64) hy4]
  cases h
  exact⟨rfl,Up.of (N:=5) (N':=14) [] rfl rfl (by decide) (.set (.d _) (.set (.d _) (.set (.d _) (.set (.d _) (.set (.d _) zan.none))))) zao.at⟩
 rw[if_neg (ff hc2)]at h
 try simp only[go_sem]
 cases h
 exact⟨rfl,by simp,Up.of (N:=5) (N':=6) [] rfl rfl (by decide) (.set (.d _) zan.none) zao.at⟩
noncomputable def zLr (a0:Sl (Int)) (a1:Int):Option (Bool):=
 (zaP (zdm a0 a1) (0,0)).bind fun r7=>
 some (r7==1)
theorem zLs (a0:Sl (Int)) (a1:Int) (r:Bool) (h:zLr a0 a1=some r):pc prog 220 [.list a0.n (a0.l.map (D.int .i64)),.int .i64 a1]=some (D.bool r):=by
 unfold zLr at h
 refine zaZ (fn:=zIB) rfl rfl ?_
 delta zIB
 try simp only[go_sem]
 obtain⟨r7,hl8,h⟩:=bs h
 refine Wp.loopR zbi (n:=(0,[])) (a:=zqc) rfl (zfg a0 a1) (zlm a0 a1) (zwu a0 a1) hl8 ?_ (by(repeat(first|refine Clo.block ?_|refine Clo.seq zbi rfl ?_));(exact Clo.ret)) ?_
 ·show Up (0,[]) (zfg a0 a1 (0,0)) _
  delta zfg
  exact Up.of (N:=5) (N':=5) [] rfl rfl (by decide) (.set (.d _) (.set (.d _) (.set (.d _) (.set (.d _) (.set (.d _) zan.none))))) zao.at
 dsimp only[zlm]
 try simp only[go_sem]
 cases h
 rfl
noncomputable def zLt (a0:Forest) (a1:Int):Option (Int):=
 (dec (eT2 zai D.bool) (pc prog 219 [zae a0,.int .i64 a1])).bind fun r1=>
 some r1.1.kind
theorem zLu (a0:Forest) (a1:Int) (r:Int) (h:zLt a0 a1=some r):pc prog 221 [zae a0,.int .i64 a1]=some ((D.int .u8) r):=by
 unfold zLt at h
 refine zaZ (fn:=zIC) rfl rfl ?_
 delta zIC
 try simp only[go_sem]
 obtain⟨r1,hr2,h⟩:=bs h
 replace hr2:=zam hr2
 refine zaq hr2 ?_
 try simp only[go_sem]
 cases h
 rfl
def zfh (a0:Forest) (a1:Int) (a2:Node) (x0:List (Int×Int)×Int):St:=⟨(((((((Regs.none.set 1 (.d (.int .i64 a1))).set 3 (.ptr 0 0 0)).set 5 (.ptr 1 0 0)).set 7 (.map 3)).set 14 (.d (.list a2.kids.n (a2.kids.l.map (D.int .i64))))).set 15 (.d (.int .i64 (a2.kids.l.length:Int)))).set 16 (.d (.int .i64 x0.2))),((((Heap.at 9).set 0 (some (.els 1 [.d (zae a0)] 0))).set 1 (some (.els 16 [.d (zai a2)] 0))).set 3 (some (.map (ents (D.int .i64) (fun z=>V.d ((D.int .i64) z)) x0.1 0) x0.1.length)))⟩
def zik (a0:Forest) (a1:Int) (a2:Node):((Unit)⊕(Unit))→Ex×St:=fun r=>match r with
 |(.inl r)=>(.exit 0,⟨((Regs.none.set 3 (.ptr 0 0 0)).set 5 (.ptr 1 0 0)),(((Heap.at 9).set 0 (some (.els 1 [.d (zae a0)] 0))).set 1 (some (.els 16 [.d (zai a2)] 0)))⟩)
 |(.inr r)=>(.ret,⟨(Regs.none.set 6 (.d (.bool false))),(Heap.at 9)⟩)
noncomputable def zdn (a0:Forest) (a1:Int) (a2:Node) (x0:List (Int×Int)×Int):Option ((List (Int×Int)×Int)⊕((Unit)⊕(Unit))):=
 if(decide (x0.2<(a2.kids.l.length:Int)))=true then
  (rd a2.kids.l x0.2).bind fun y3=>
  (dec (eT2 zai D.bool) (pc prog 219 [zae a0,.int .i64 y3])).bind fun r5=>
  if r5.2=true then
   if(bif (bif (decide (0<(zjc y3 x0.1 (0))))then true else(!(r5.1.parent==a1)))then true else(!(r5.1.doc==a2.doc)))=true then
    some (.inr (.inr ()))
   else
    some (.inl ((zhB y3 (IntKind.wrap .i64 ((zjc y3 x0.1 (0))+1)) x0.1),(IntKind.wrap .i64 (x0.2+1))))
  else
   some (.inr (.inr ()))
 else
  some (.inr (.inl ()))
theorem zwv (a0:Forest) (a1:Int) (a2:Node) (x0:List (Int×Int)×Int) (o:(List (Int×Int)×Int)⊕((Unit)⊕(Unit))) (h:zdn a0 a1 a2 x0=some o):Wp prog zqd (zfh a0 a1 a2 x0) (zbJ (0,[]) (zfh a0 a1 a2) (zik a0 a1 a2) o):=by
 unfold zdn at h
 delta zqd zfh
 try simp only[go_sem]
 refine zaj (fun hc1=> ?_) (fun hc2=> ?_)
 ·rw[if_pos hc1]at h
  try simp only[go_sem,zax (e:=(D.int .i64)) (ev:=(D.int .i64)) zal,zay (e:=(D.int .i64)) (ev:=(D.int .i64)) zal,zav (e:=(D.int .i64)) (ev:=(D.int .i64)) zal,zaz (e:=(D.int .i64)) (ev:=(D.int .i64)) zal,zaA (e:=(D.int .i64)) (ev:=(D.int .i64))]
  obtain⟨y3,hy4,h⟩:=bs h
  try simp only[go_sem,zax (e:=(D.int .i64)) (ev:=(D.int .i64)) zal,zay (e:=(D.int .i64)) (ev:=(D.int .i64)) zal,zav (e:=(D.int .i64)) (ev:=(D.int .i64)) zal,zaz (e:=(D.int .i64)) (ev:=(D.int .i64)) zal,zaA (e:=(D.int .i64)) (ev:=(D.int .i64)),zab hy4,zaf hy4,zac (D.int .i64) hy4]
  obtain⟨r5,hr6,h⟩:=bs h
  replace hr6:=zam hr6
  refine zaq hr6 ?_
  try simp only[go_sem,zax (e:=(D.int .i64)) (ev:=(D.int .i64)) zal,zay (e:=(D.int .i64)) (ev:=(D.int .i64)) zal,zav (e:=(D.int .i64)) (ev:=(D.int .i64)) zal,zaz (e:=(D.int .i64)) (ev:=(D.int .i64)) zal,zaA (e:=(D.int .i64)) (ev:=(D.int .i64)),zab hy4,zaf hy4,zac (D.int .i64) hy4]
  refine zaG (fun hc7=> ?_) (fun hc8=> ?_)
  ·rw[if_pos hc7]at h
   try simp only[go_sem,zax (e:=(D.int .i64)) (ev:=(D.int .i64)) zal,zay (e:=(D.int .i64)) (ev:=(D.int .i64)) zal,zav (e:=(D.int .i64)) (ev:=(D.int .i64)) zal,zaz (e:=(D.int .i64)) (ev:=(D.int .i64)) zal,zaA (e:=(D.int .i64)) (ev:=(D.int .i64)),zab hy4,zaf hy4,zac (D.int .i64) hy4,hc7]
   refine zaa (v:= .ptr 19 0 8) (fun hb19=>by simp only[go_sem,zax (e:=(D.int .i64)) (ev:=(D.int .i64)) zal,zay (e:=(D.int .i64)) (ev:=(D.int .i64)) zal,zav (e:=(D.int .i64)) (ev:=(D.int .i64)) zal,zaz (e:=(D.int .i64)) (ev:=(D.int .i64)) zal,zaA (e:=(D.int .i64)) (ev:=(D.int .i64)),zab hy4,zaf hy4,zac (D.int .i64) hy4,hc1,hc7,hb19]) ?_
   try simp only[go_sem,zax (e:=(D.int .i64)) (ev:=(D.int .i64)) zal,zay (e:=(D.int .i64)) (ev:=(D.int .i64)) zal,zav (e:=(D.int .i64)) (ev:=(D.int .i64)) zal,zaz (e:=(D.int .i64)) (ev:=(D.int .i64)) zal,zaA (e:=(D.int .i64)) (ev:=(D.int .i64)),zab hy4,zaf hy4,zac (D.int .i64) hy4]
   refine zaa (v:= .d (.int .i64 r5.1.parent)) (fun hb18=>by simp only[go_sem,zax (e:=(D.int .i64)) (ev:=(D.int .i64)) zal,zay (e:=(D.int .i64)) (ev:=(D.int .i64)) zal,zav (e:=(D.int .i64)) (ev:=(D.int .i64)) zal,zaz (e:=(D.int .i64)) (ev:=(D.int .i64)) zal,zaA (e:=(D.int .i64)) (ev:=(D.int .i64)),zab hy4,zaf hy4,zac (D.int .i64) hy4,hc1,hc7,hb18]) ?_
   try simp only[go_sem,zax (e:=(D.int .i64)) (ev:=(D.int .i64)) zal,zay (e:=(D.int .i64)) (ev:=(D.int .i64)) zal,zav (e:=(D.int .i64)) (ev:=(D.int .i64)) zal,zaz (e:=(D.int .i64)) (ev:=(D.int .i64)) zal,zaA (e:=(D.int .i64)) (ev:=(D.int .i64)),zab hy4,zaf hy4,zac (D.int .i64) hy4]
   refine zaa (v:= .d (.int .i64 a1)) (fun hb17=>by simp only[go_sem,zax (e:=(D.int .i64)) (ev:=(D.int .i64)) zal,zay (e:=(D.int .i64)) (ev:=(D.int .i64)) zal,zav (e:=(D.int .i64)) (ev:=(D.int .i64)) zal,zaz (e:=(D.int .i64)) (ev:=(D.int .i64)) zal,zaA (e:=(D.int .i64)) (ev:=(D.int .i64)),zab hy4,zaf hy4,zac (D.int .i64) hy4,hc1,hc7,hb17]) ?_
   try simp only[go_sem,zax (e:=(D.int .i64)) (ev:=(D.int .i64)) zal,zay (e:=(D.int .i64)) (ev:=(D.int .i64)) zal,zav (e:=(D.int .i64)) (ev:=(D.int .i64)) zal,zaz (e:=(D.int .i64)) (ev:=(D.int .i64)) zal,zaA (e:=(D.int .i64)) (ev:=(D.int .i64)),zab hy4,zaf hy4,zac (D.int .i64) hy4]
   refine zaa (v:= .d (.bool (!(r5.1.parent==a1)))) (fun hb16=>by simp only[go_sem,zax (e:=(D.int .i64)) (ev:=(D.int .i64)) zal,zay (e:=(D.int .i64)) (ev:=(D.int .i64)) zal,zav (e:=(D.int .i64)) (ev:=(D.int .i64)) zal,zaz (e:=(D.int .i64)) (ev:=(D.int .i64)) zal,zaA (e:=(D.int .i64)) (ev:=(D.int .i64)),zab hy4,zaf hy4,zac (D.int .i64) hy4,hc1,hc7,hb16]) ?_
   try simp only[go_sem,zax (e:=(D.int .i64)) (ev:=(D.int .i64)) zal,zay (e:=(D.int .i64)) (ev:=(D.int .i64)) zal,zav (e:=(D.int .i64)) (ev:=(D.int .i64)) zal,zaz (e:=(D.int .i64)) (ev:=(D.int .i64)) zal,zaA (e:=(D.int .i64)) (ev:=(D.int .i64)),zab hy4,zaf hy4,zac (D.int .i64) hy4]
   refine zaa (v:= .ptr 19 0 10) (fun hb15=>by simp only[go_sem,zax (e:=(D.int .i64)) (ev:=(D.int .i64)) zal,zay (e:=(D.int .i64)) (ev:=(D.int .i64)) zal,zav (e:=(D.int .i64)) (ev:=(D.int .i64)) zal,zaz (e:=(D.int .i64)) (ev:=(D.int .i64)) zal,zaA (e:=(D.int .i64)) (ev:=(D.int .i64)),zab hy4,zaf hy4,zac (D.int .i64) hy4,hc1,hc7,hb15]) ?_
   try simp only[go_sem,zax (e:=(D.int .i64)) (ev:=(D.int .i64)) zal,zay (e:=(D.int .i64)) (ev:=(D.int .i64)) zal,zav (e:=(D.int .i64)) (ev:=(D.int .i64)) zal,zaz (e:=(D.int .i64)) (ev:=(D.int .i64)) zal,zaA (e:=(D.int .i64)) (ev:=(D.int .i64)),zab hy4,zaf hy4,zac (D.int .i64) hy4]
   refine zaa (v:= .d (.int .i64 r5.1.doc)) (fun hb14=>by simp only[go_sem,zax (e:=(D.int .i64)) (ev:=(D.int .i64)) zal,zay (e:=(D.int .i64)) (ev:=(D.int .i64)) zal,zav (e:=(D.int .i64)) (ev:=(D.int .i64)) zal,zaz (e:=(D.int .i64)) (ev:=(D.int .i64)) zal,zaA (e:=(D.int .i64)) (ev:=(D.int .i64)),zab hy4,zaf hy4,zac (D.int .i64) hy4,hc1,hc7,hb14]) ?_
   try simp only[go_sem,zax (e:=(D.int .i64)) (ev:=(D.int .i64)) zal,zay (e:=(D.int .i64)) (ev:=(D.int .i64)) zal,zav (e:=(D.int .i64)) (ev:=(D.int .i64)) zal,zaz (e:=(D.int .i64)) (ev:=(D.int .i64)) zal,zaA (e:=(D.int .i64)) (ev:=(D.int .i64)),zab hy4,zaf hy4,zac (D.int .i64) hy4]
   refine zaa (v:= .ptr 1 0 10) (fun hb13=>by simp only[go_sem,zax (e:=(D.int .i64)) (ev:=(D.int .i64)) zal,zay (e:=(D.int .i64)) (ev:=(D.int .i64)) zal,zav (e:=(D.int .i64)) (ev:=(D.int .i64)) zal,zaz (e:=(D.int .i64)) (ev:=(D.int .i64)) zal,zaA (e:=(D.int .i64)) (ev:=(D.int .i64)),zab hy4,zaf hy4,zac (D.int .i64) hy4,hc1,hc7,hb13]) ?_
   try simp only[go_sem,zax (e:=(D.int .i64)) (ev:=(D.int .i64)) zal,zay (e:=(D.int .i64)) (ev:=(D.int .i64)) zal,zav (e:=(D.int .i64)) (ev:=(D.int .i64)) zal,zaz (e:=(D.int .i64)) (ev:=(D.int .i64)) zal,zaA (e:=(D.int .i64)) (ev:=(D.int .i64)),zab hy4,zaf hy4,zac (D.int .i64) hy4]
   refine zaa (v:= .d (.int .i64 a2.doc)) (fun hb12=>by simp only[go_sem,zax (e:=(D.int .i64)) (ev:=(D.int .i64)) zal,zay (e:=(D.int .i64)) (ev:=(D.int .i64)) zal,zav (e:=(D.int .i64)) (ev:=(D.int .i64)) zal,zaz (e:=(D.int .i64)) (ev:=(D.int .i64)) zal,zaA (e:=(D.int .i64)) (ev:=(D.int .i64)),zab hy4,zaf hy4,zac (D.int .i64) hy4,hc1,hc7,hb12]) ?_
   try simp only[go_sem,zax (e:=(D.int .i64)) (ev:=(D.int .i64)) zal,zay (e:=(D.int .i64)) (ev:=(D.int .i64)) zal,zav (e:=(D.int .i64)) (ev:=(D.int .i64)) zal,zaz (e:=(D.int .i64)) (ev:=(D.int .i64)) zal,zaA (e:=(D.int .i64)) (ev:=(D.int .i64)),zab hy4,zaf hy4,zac (D.int .i64) hy4]
   refine zaa (v:= .d (.bool (!(r5.1.doc==a2.doc)))) (fun hb11=>by simp only[go_sem,zax (e:=(D.int .i64)) (ev:=(D.int .i64)) zal,zay (e:=(D.int .i64)) (ev:=(D.int .i64)) zal,zav (e:=(D.int .i64)) (ev:=(D.int .i64)) zal,zaz (e:=(D.int .i64)) (ev:=(D.int .i64)) zal,zaA (e:=(D.int .i64)) (ev:=(D.int .i64)),zab hy4,zaf hy4,zac (D.int .i64) hy4,hc1,hc7,hb11]) ?_
   try simp only[go_sem,zax (e:=(D.int .i64)) (ev:=(D.int .i64)) zal,zay (e:=(D.int .i64)) (ev:=(D.int .i64)) zal,zav (e:=(D.int .i64)) (ev:=(D.int .i64)) zal,zaz (e:=(D.int .i64)) (ev:=(D.int .i64)) zal,zaA (e:=(D.int .i64)) (ev:=(D.int .i64)),zab hy4,zaf hy4,zac (D.int .i64) hy4]
   refine zaj (fun hc9=> ?_) (fun hc10=> ?_)
   ·rw[if_pos hc9]at h
    try simp only[go_sem,zax (e:=(D.int .i64)) (ev:=(D.int .i64)) zal,zay (e:=(D.int .i64)) (ev:=(D.int .i64)) zal,zav (e:=(D.int .i64)) (ev:=(D.int .i64)) zal,zaz (e:=(D.int .i64)) (ev:=(D.int .i64)) zal,zaA (e:=(D.int .i64)) (ev:=(D.int .i64)),zab hy4,zaf hy4,zac (D.int .i64) hy4]
    cases h
    exact⟨rfl,by simp,Up.of (N:=9) (N':=44) [] rfl rfl (by decide) (.set (.d _) zan.none) zao.at⟩
   rw[if_neg (ff hc10)]at h
   try simp only[go_sem,zax (e:=(D.int .i64)) (ev:=(D.int .i64)) zal,zay (e:=(D.int .i64)) (ev:=(D.int .i64)) zal,zav (e:=(D.int .i64)) (ev:=(D.int .i64)) zal,zaz (e:=(D.int .i64)) (ev:=(D.int .i64)) zal,zaA (e:=(D.int .i64)) (ev:=(D.int .i64)),zab hy4,zaf hy4,zac (D.int .i64) hy4]
   cases h
   exact⟨rfl,Up.of (N:=9) (N':=50) [] rfl rfl (by decide) (.set (.d _) (.set (.d _) (.set (.d _) (.set (.map' rfl) (.set (.ptr' rfl) (.set (.ptr' rfl) (.set (.d _) zan.none))))))) (.set zat.map_d (.set zat.refl_d (.set zat.refl_d zao.at)))⟩
  rw[if_neg (ff hc8)]at h
  try simp only[go_sem,zax (e:=(D.int .i64)) (ev:=(D.int .i64)) zal,zay (e:=(D.int .i64)) (ev:=(D.int .i64)) zal,zav (e:=(D.int .i64)) (ev:=(D.int .i64)) zal,zaz (e:=(D.int .i64)) (ev:=(D.int .i64)) zal,zaA (e:=(D.int .i64)) (ev:=(D.int .i64)),zab hy4,zaf hy4,zac (D.int .i64) hy4,hc8]
  cases h
  exact⟨rfl,by simp,Up.of (N:=9) (N':=44) [] rfl rfl (by decide) (.set (.d _) zan.none) zao.at⟩
 rw[if_neg (ff hc2)]at h
 try simp only[go_sem,zax (e:=(D.int .i64)) (ev:=(D.int .i64)) zal,zay (e:=(D.int .i64)) (ev:=(D.int .i64)) zal,zav (e:=(D.int .i64)) (ev:=(D.int .i64)) zal,zaz (e:=(D.int .i64)) (ev:=(D.int .i64)) zal,zaA (e:=(D.int .i64)) (ev:=(D.int .i64))]
 cases h
 exact⟨rfl,by simp,Up.of (N:=9) (N':=10) [] rfl rfl (by decide) (.set (.ptr' rfl) (.set (.ptr' rfl) zan.none)) (.set zat.refl_d (.set zat.refl_d zao.at))⟩
noncomputable def zLv (a0:Forest) (a1:Int) (a2:Node):Option (Bool):=
 (zaP (zdn a0 a1 a2) ([],0)).bind fun r20=>
 match r20 with
 |(.inl q22)=>
  (dec D.bool (pc prog 231 [zae a0,zai a2])).bind fun r23=>
  some r23
 |(.inr q25)=>
  some false
theorem zLw (a0:Forest) (a1:Int) (a2:Node) (r:Bool) (h:zLv a0 a1 a2=some r):pc prog 222 [zae a0,.int .i64 a1,zai a2]=some (D.bool r):=by
 unfold zLv at h
 refine zaZ (fn:=zID) rfl rfl ?_
 delta zID
 try simp only[go_sem]
 obtain⟨r20,hl21,h⟩:=bs h
 refine Wp.loopR zbi (n:=(0,[])) (a:=zqd) rfl (zfh a0 a1 a2) (zik a0 a1 a2) (zwv a0 a1 a2) hl21 ?_ (by(repeat(first|refine Clo.block ?_|refine Clo.seq zbi rfl ?_));(exact Clo.ret)) ?_
 ·show Up (0,[]) (zfh a0 a1 a2 ([],0)) _
  delta zfh
  exact Up.of (N:=9) (N':=9) [] rfl rfl (by decide) (.set (.d _) (.set (.d _) (.set (.d _) (.set (.map' rfl) (.set (.ptr' rfl) (.set (.ptr' rfl) (.set (.d _) zan.none))))))) (.set zat.map_d (.set zat.refl_d (.set zat.refl_d zao.at)))
 rcases r20 with(q22|q25)
 ·dsimp only at h
  dsimp only[zik]
  try simp only[go_sem]
  obtain⟨r23,hr24,h⟩:=bs h
  replace hr24:=zam hr24
  refine zaq hr24 ?_
  try simp only[go_sem]
  cases h
  rfl
 dsimp only at h
 dsimp only[zik]
 try simp only[go_sem]
 cases h
 rfl
noncomputable def zLx (a0:Name):Option (Bool):=
 if(!(a0.local_==[]))=true then
  (dec D.bool (pc prog 218 [.list false (([a0.space,a0.prefix_,a0.local_]).map D.str)])).bind fun r3=>
  if r3=true then
   some (bif (a0.prefix_==[])then true else(!(a0.space==[])))
  else
   some false
 else
  some false
theorem zLy (a0:Name) (r:Bool) (h:zLx a0=some r):pc prog 229 [zbH a0]=some (D.bool r):=by
 unfold zLx at h
 refine zaZ (fn:=zIE) rfl rfl ?_
 delta zIE
 try simp only[go_sem]
 refine zaa (v:= .ptr 0 0 0) (fun hb25=>by simp only[go_sem,hb25]) ?_
 try simp only[go_sem]
 refine zaa (v:= .d (.str a0.space)) (fun hb24=>by simp only[go_sem,hb24]) ?_
 try simp only[go_sem]
 refine zaa (v:= .ptr 0 0 1) (fun hb23=>by simp only[go_sem,hb23]) ?_
 try simp only[go_sem]
 refine zaa (v:= .d (.str a0.prefix_)) (fun hb22=>by simp only[go_sem,hb22]) ?_
 try simp only[go_sem]
 refine zaa (v:= .ptr 0 0 2) (fun hb21=>by simp only[go_sem,hb21]) ?_
 try simp only[go_sem]
 refine zaa (v:= .d (.str a0.local_)) (fun hb20=>by simp only[go_sem,hb20]) ?_
 try simp only[go_sem]
 refine zaE (fun hc1=> ?_) (fun hc2=> ?_)
 ·rw[if_pos (show(!(a0.local_==[]))=true by(rw[hc1];rfl))]at h
  try simp only[go_sem,hc1]
  obtain⟨r3,hr4,h⟩:=bs h
  replace hr4:=zam hr4
  refine zaq hr4 ?_
  try simp only[go_sem]
  refine zaa (v:= .ptr 0 0 1) (fun hb19=>by simp only[go_sem,hc1,hb19]) ?_
  try simp only[go_sem]
  refine zaa (v:= .d (.str a0.prefix_)) (fun hb18=>by simp only[go_sem,hc1,hb18]) ?_
  try simp only[go_sem]
  refine zaa (v:= .d (.bool (a0.prefix_==[]))) (fun hb17=>by simp only[go_sem,hc1,hb17]) ?_
  try simp only[go_sem]
  refine zaa (v:= .d (.bool (a0.prefix_==[]))) (fun hb16=>by simp only[go_sem,hc1,hb16]) ?_
  try simp only[go_sem]
  refine zaa (v:= .ptr 0 0 0) (fun hb13=>by((obtain⟨hb14,hb15⟩:=zaB hb13));simp only[go_sem,hc1,hb15,hb14]) ?_
  try simp only[go_sem]
  refine zaa (v:= .d (.str a0.space)) (fun hb10=>by((obtain⟨hb11,hb12⟩:=zaB hb10));simp only[go_sem,hc1,hb12,hb11]) ?_
  try simp only[go_sem]
  refine zaa (v:= .d (.bool (!(a0.space==[])))) (fun hb7=>by((obtain⟨hb8,hb9⟩:=zaB hb7));simp only[go_sem,hc1,hb9,hb8]) ?_
  try simp only[go_sem]
  refine zaG (fun hc5=> ?_) (fun hc6=> ?_)
  ·rw[if_pos hc5]at h
   try simp only[go_sem,hc5]
   cases h
   rfl
  rw[if_neg (ff hc6)]at h
  try simp only[go_sem,hc6]
  cases h
  rfl
 rw[if_neg (ffn hc2)]at h
 try simp only[go_sem,hc2]
 cases h
 rfl
noncomputable def zMl (a0:Name):Option (forest_key):=
 some (⟨a0.space,a0.local_⟩:forest_key)
theorem zLz (a0:Name) (r:forest_key) (h:zMl a0=some r):pc prog 230 [zbH a0]=some (zah r):=by
 unfold zMl at h
 refine zaZ (fn:=zIF) rfl rfl ?_
 delta zIF
 try simp only[go_sem]
 cases h
 rfl
def zfi (a0:Forest) (a1:Node) (x0:Int×Int×Int):St:=⟨(((((((Regs.none.set 2 (.ptr 0 0 0)).set 5 (.d (.bool (a1.kind==9)))).set 6 (.d (.int .i64 x0.2.1))).set 7 (.d (.int .i64 x0.2.2))).set 14 (.d (.list a1.kids.n (a1.kids.l.map (D.int .i64))))).set 15 (.d (.int .i64 (a1.kids.l.length:Int)))).set 16 (.d (.int .i64 x0.1))),((Heap.at 13).set 0 (some (.els 1 [.d (zae a0)] 0)))⟩
def zil (a0:Forest) (a1:Node):((Int×Int)⊕(Unit))→Ex×St:=fun r=>match r with
 |(.inl r)=>(.exit 0,⟨(((Regs.none.set 5 (.d (.bool (a1.kind==9)))).set 6 (.d (.int .i64 r.1))).set 7 (.d (.int .i64 r.2))),(Heap.at 13)⟩)
 |(.inr r)=>(.ret,⟨(Regs.none.set 4 (.d (.bool false))),(Heap.at 13)⟩)
noncomputable def zdo (a0:Forest) (a1:Node) (x0:Int×Int×Int):Option ((Int×Int×Int)⊕((Int×Int)⊕(Unit))):=
 if(decide (x0.1<(a1.kids.l.length:Int)))=true then
  (rd a1.kids.l x0.1).bind fun y3=>
  (dec (D.int .u8) (pc prog 221 [zae a0,.int .i64 y3])).bind fun r5=>
  if(r5==1)=true then
   some (.inl ((IntKind.wrap .i64 (x0.1+1)),(IntKind.wrap .i64 (x0.2.1+1)),x0.2.2))
  else
   if(r5==10)=true then
    if(bif (!(a1.kind==9))then true else(decide (0<x0.2.1)))=true then
     some (.inr (.inr ()))
    else
     some (.inl ((IntKind.wrap .i64 (x0.1+1)),x0.2.1,(IntKind.wrap .i64 (x0.2.2+1))))
   else
    if(r5==3)=true then
     if(a1.kind==9)=true then
      some (.inr (.inr ()))
     else
      some (.inl ((IntKind.wrap .i64 (x0.1+1)),x0.2.1,x0.2.2))
    else
     if(r5==4)=true then
      if(a1.kind==9)=true then
       some (.inr (.inr ()))
      else
       some (.inl ((IntKind.wrap .i64 (x0.1+1)),x0.2.1,x0.2.2))
     else
      if(r5==8)=true then
       some (.inl ((IntKind.wrap .i64 (x0.1+1)),x0.2.1,x0.2.2))
      else
       if(r5==7)=true then
        some (.inl ((IntKind.wrap .i64 (x0.1+1)),x0.2.1,x0.2.2))
       else
        some (.inr (.inr ()))
 else
  some (.inr (.inl (x0.2.1,x0.2.2)))
theorem zww (a0:Forest) (a1:Node) (x0:Int×Int×Int) (o:(Int×Int×Int)⊕((Int×Int)⊕(Unit))) (h:zdo a0 a1 x0=some o):Wp prog zqe (zfi a0 a1 x0) (zbJ (0,[]) (zfi a0 a1) (zil a0 a1) o):=by
 unfold zdo at h
 delta zqe zfi
 try simp only[go_sem]
 refine zaj (fun hc1=> ?_) (fun hc2=> ?_)
 ·rw[if_pos hc1]at h
  try simp only[go_sem]
  obtain⟨y3,hy4,h⟩:=bs h
  try simp only[go_sem,zab hy4,zaf hy4,zac (D.int .i64) hy4]
  obtain⟨r5,hr6,h⟩:=bs h
  replace hr6:=zam hr6
  refine zaq hr6 ?_
  try simp only[go_sem,zab hy4,zaf hy4,zac (D.int .i64) hy4]
  refine zaj (fun hc7=> ?_) (fun hc8=> ?_)
  ·rw[if_pos hc7]at h
   try simp only[go_sem,zab hy4,zaf hy4,zac (D.int .i64) hy4]
   cases h
   exact⟨rfl,Up.of (N:=13) (N':=27) [] rfl rfl (by decide) (.set (.d _) (.set (.d _) (.set (.d _) (.set (.d _) (.set (.d _) (.set (.d _) (.set (.ptr' rfl) zan.none))))))) (.set zat.refl_d zao.at)⟩
  rw[if_neg (ff hc8)]at h
  try simp only[go_sem,zab hy4,zaf hy4,zac (D.int .i64) hy4]
  refine zaj (fun hc9=> ?_) (fun hc10=> ?_)
  ·rw[if_pos hc9]at h
   try simp only[go_sem,zab hy4,zaf hy4,zac (D.int .i64) hy4]
   refine zaa (v:= .d (.int .i64 x0.2.1)) (fun hb14=>by simp only[go_sem,zab hy4,zaf hy4,zac (D.int .i64) hy4,hc1,hc8,hc9,hb14]) ?_
   try simp only[go_sem,zab hy4,zaf hy4,zac (D.int .i64) hy4]
   refine zaa (v:= .d (.bool (decide (0<x0.2.1)))) (fun hb13=>by simp only[go_sem,zab hy4,zaf hy4,zac (D.int .i64) hy4,hc1,hc8,hc9,hb13]) ?_
   try simp only[go_sem,zab hy4,zaf hy4,zac (D.int .i64) hy4]
   refine zaj (fun hc11=> ?_) (fun hc12=> ?_)
   ·rw[if_pos hc11]at h
    try simp only[go_sem,zab hy4,zaf hy4,zac (D.int .i64) hy4]
    cases h
    exact⟨rfl,by simp,Up.of (N:=13) (N':=31) [] rfl rfl (by decide) (.set (.d _) zan.none) zao.at⟩
   rw[if_neg (ff hc12)]at h
   try simp only[go_sem,zab hy4,zaf hy4,zac (D.int .i64) hy4]
   cases h
   exact⟨rfl,Up.of (N:=13) (N':=35) [] rfl rfl (by decide) (.set (.d _) (.set (.d _) (.set (.d _) (.set (.d _) (.set (.d _) (.set (.d _) (.set (.ptr' rfl) zan.none))))))) (.set zat.refl_d zao.at)⟩
  rw[if_neg (ff hc10)]at h
  try simp only[go_sem,zab hy4,zaf hy4,zac (D.int .i64) hy4]
  refine zaj (fun hc15=> ?_) (fun hc16=> ?_)
  ·rw[if_pos hc15]at h
   try simp only[go_sem,zab hy4,zaf hy4,zac (D.int .i64) hy4]
   try simp only[go_sem,zab hy4,zaf hy4,zac (D.int .i64) hy4,hc1,hc8,hc10,hc15]
   refine zaj (fun hc17=> ?_) (fun hc18=> ?_)
   ·rw[if_pos hc17]at h
    try simp only[go_sem,zab hy4,zaf hy4,zac (D.int .i64) hy4]
    cases h
    exact⟨rfl,by simp,Up.of (N:=13) (N':=28) [] rfl rfl (by decide) (.set (.d _) zan.none) zao.at⟩
   rw[if_neg (ff hc18)]at h
   try simp only[go_sem,zab hy4,zaf hy4,zac (D.int .i64) hy4]
   cases h
   exact⟨rfl,Up.of (N:=13) (N':=29) [] rfl rfl (by decide) (.set (.d _) (.set (.d _) (.set (.d _) (.set (.d _) (.set (.d _) (.set (.d _) (.set (.ptr' rfl) zan.none))))))) (.set zat.refl_d zao.at)⟩
  rw[if_neg (ff hc16)]at h
  try simp only[go_sem,zab hy4,zaf hy4,zac (D.int .i64) hy4]
  refine zaj (fun hc19=> ?_) (fun hc20=> ?_)
  ·rw[if_pos hc19]at h
   try simp only[go_sem,zab hy4,zaf hy4,zac (D.int .i64) hy4]
   refine zaj (fun hc21=> ?_) (fun hc22=> ?_)
   ·rw[if_pos hc21]at h
    try simp only[go_sem,zab hy4,zaf hy4,zac (D.int .i64) hy4]
    cases h
    exact⟨rfl,by simp,Up.of (N:=13) (N':=30) [] rfl rfl (by decide) (.set (.d _) zan.none) zao.at⟩
   rw[if_neg (ff hc22)]at h
   try simp only[go_sem,zab hy4,zaf hy4,zac (D.int .i64) hy4]
   cases h
   exact⟨rfl,Up.of (N:=13) (N':=31) [] rfl rfl (by decide) (.set (.d _) (.set (.d _) (.set (.d _) (.set (.d _) (.set (.d _) (.set (.d _) (.set (.ptr' rfl) zan.none))))))) (.set zat.refl_d zao.at)⟩
  rw[if_neg (ff hc20)]at h
  try simp only[go_sem,zab hy4,zaf hy4,zac (D.int .i64) hy4]
  refine zaj (fun hc23=> ?_) (fun hc24=> ?_)
  ·rw[if_pos hc23]at h
   try simp only[go_sem,zab hy4,zaf hy4,zac (D.int .i64) hy4]
   try simp only[go_sem,zab hy4,zaf hy4,zac (D.int .i64) hy4,hc1,hc8,hc10,hc16,hc20,hc23]
   cases h
   exact⟨rfl,Up.of (N:=13) (N':=32) [] rfl rfl (by decide) (.set (.d _) (.set (.d _) (.set (.d _) (.set (.d _) (.set (.d _) (.set (.d _) (.set (.ptr' rfl) zan.none))))))) (.set zat.refl_d zao.at)⟩
  rw[if_neg (ff hc24)]at h
  try simp only[go_sem,zab hy4,zaf hy4,zac (D.int .i64) hy4]
  refine zaj (fun hc25=> ?_) (fun hc26=> ?_)
  ·rw[if_pos hc25]at h
   try simp only[go_sem,zab hy4,zaf hy4,zac (D.int .i64) hy4]
   cases h
   exact⟨rfl,Up.of (N:=13) (N':=34) [] rfl rfl (by decide) (.set (.d _) (.set (.d _) (.set (.d _) (.set (.d _) (.set (.d _) (.set (.d _) (.set (.ptr' rfl) zan.none))))))) (.set zat.refl_d zao.at)⟩
  rw[if_neg (ff hc26)]at h
  try simp only[go_sem,zab hy4,zaf hy4,zac (D.int .i64) hy4]
  cases h
  exact⟨rfl,by simp,Up.of (N:=13) (N':=33) [] rfl rfl (by decide) (.set (.d _) zan.none) zao.at⟩
 rw[if_neg (ff hc2)]at h
 try simp only[go_sem]
 cases h
 exact⟨rfl,by simp,Up.of (N:=13) (N':=14) [] rfl rfl (by decide) (.set (.d _) (.set (.d _) (.set (.d _) zan.none))) zao.at⟩
noncomputable def zLA (a0:Forest) (a1:Node):Option (Bool):=
 (zaP (zdo a0 a1) (0,0,0)).bind fun r27=>
 match r27 with
 |(.inl q29)=>
  if(a1.kind==9)=true then
   some (bif (decide (q29.1<2))then(decide (q29.2<2))else false)
  else
   some true
 |(.inr q41)=>
  some false
theorem zLB (a0:Forest) (a1:Node) (r:Bool) (h:zLA a0 a1=some r):pc prog 231 [zae a0,zai a1]=some (D.bool r):=by
 unfold zLA at h
 refine zaZ (fn:=zIG) rfl rfl ?_
 delta zIG
 try simp only[go_sem]
 obtain⟨r27,hl28,h⟩:=bs h
 refine Wp.loopR zbi (n:=(0,[])) (a:=zqe) rfl (zfi a0 a1) (zil a0 a1) (zww a0 a1) hl28 ?_ (by(repeat(first|refine Clo.block ?_|refine Clo.seq zbi rfl ?_));(exact Clo.ret)) ?_
 ·show Up (0,[]) (zfi a0 a1 (0,0,0)) _
  delta zfi
  exact Up.of (N:=13) (N':=13) [] rfl rfl (by decide) (.set (.d _) (.set (.d _) (.set (.d _) (.set (.d _) (.set (.d _) (.set (.d _) (.set (.ptr' rfl) zan.none))))))) (.set zat.refl_d zao.at)
 rcases r27 with(q29|q41)
 ·dsimp only at h
  dsimp only[zil]
  try simp only[go_sem]
  refine zaa (v:= .d (.int .i64 q29.1)) (fun hb40=>by simp only[go_sem,hb40]) ?_
  try simp only[go_sem]
  refine zaa (v:= .d (.bool (decide (q29.1<2)))) (fun hb39=>by simp only[go_sem,hb39]) ?_
  try simp only[go_sem]
  refine zaa (v:= .d (.bool (decide (q29.1<2)))) (fun hb38=>by simp only[go_sem,hb38]) ?_
  try simp only[go_sem]
  refine zaa (v:= .d (.int .i64 q29.2)) (fun hb35=>by((obtain⟨hb36,hb37⟩:=zaB hb35));simp only[go_sem,hb37,hb36]) ?_
  try simp only[go_sem]
  refine zaa (v:= .d (.bool (decide (q29.2<2)))) (fun hb32=>by((obtain⟨hb33,hb34⟩:=zaB hb32));simp only[go_sem,hb34,hb33]) ?_
  try simp only[go_sem]
  refine zaG (fun hc30=> ?_) (fun hc31=> ?_)
  ·rw[if_pos hc30]at h
   try simp only[go_sem,hc30]
   cases h
   rfl
  rw[if_neg (ff hc31)]at h
  try simp only[go_sem,hc31]
  cases h
  rfl
 dsimp only at h
 dsimp only[zil]
 try simp only[go_sem]
 cases h
 rfl
end Go.Proofs.Ytfleilibjdgcjaa.O
