/- Shaken copy of a longer text: what one law needs. Its conditions: none. -/
import Derived.Test.YthodcjjgimeeoaaGreatZAiE
set_option linter.unusedSimpArgs false
set_option linter.unusedVariables false
set_option linter.unusedSectionVars false
set_option linter.unnecessarySimpa false
namespace Go.AI
variable {f:Nat→Nat}
inductive VR (f:Nat→Nat):V→V→Prop
 |undef (v:V):VR f .undef v
 |d (x:D):VR f (.d x) (.d x)
 |ptr (b i o:Nat):VR f (.ptr b i o) (.ptr (f b) i o)
 |rp (x:D) (o:Nat):VR f (.rp x o) (.rp x o)
 |sl (b o n:Nat):VR f (.sl b o n) (.sl (f b) o n)
 |agg {cs cs':List V} (hl:cs'.length=cs.length) (h:∀(j:Nat) x v,cs[j]? =some x→cs'[j]? =some v→VR f x v):VR f (.agg cs) (.agg cs')
 |aggd {cs:List V} {ds:List D} (hl:(ds.map V.d).length=cs.length) (h:∀(j:Nat) x v,cs[j]? =some x→(ds.map V.d)[j]? =some v→VR f x v):VR f (.agg cs) (.d (.agg ds))
 |tuple {cs cs':List V} (hl:cs'.length=cs.length) (h:∀(j:Nat) x v,cs[j]? =some x→cs'[j]? =some v→VR f x v):VR f (.tuple cs) (.tuple cs')
 |tupled {cs:List V} {ds:List D} (hl:(ds.map V.d).length=cs.length) (h:∀(j:Nat) x v,cs[j]? =some x→(ds.map V.d)[j]? =some v→VR f x v):VR f (.tuple cs) (.d (.tuple ds))
 |clo {g:FuncId} {a a' b b':List V} (hl:a'.length=a.length) (h:∀(j:Nat) x v,a[j]? =some x→a'[j]? =some v→VR f x v) (hl2:b'.length=b.length) (h2:∀(j:Nat) x v,b[j]? =some x→b'[j]? =some v→VR f x v):VR f (.clo g a b) (.clo g a' b')
 |map (b:Nat):VR f (.map b) (.map (f b))
 |it (b:Nat):VR f (.it b) (.it (f b))
 |yld (b:Nat):VR f (.yld b) (.yld (f b))
structure VRL (f:Nat→Nat) (l l':List V):Prop where
 len:l'.length=l.length
 get:∀(j:Nat) x v,l[j]? =some x→l'[j]? =some v→VR f x v
theorem VRL.agg {l l':List V} (h:VRL f l l'):VR f (.agg l) (.agg l'):= .agg h.len h.get
theorem VRL.tuple {l l':List V} (h:VRL f l l'):VR f (.tuple l) (.tuple l'):= .tuple h.len h.get
theorem VRL.nil:VRL f [] []:=⟨rfl,fun j x v h=>by simp at h⟩
theorem VRL.cons {x v:V} {l l':List V} (hx:VR f x v) (h:VRL f l l'):VRL f (x::l) (v::l'):=⟨by simp[h.len],fun j y w hy hw=>by
 cases j with
 |zero=>simp at hy hw;subst hy;subst hw;exact hx
 |succ j=>simp at hy hw;exact h.get j y w hy hw⟩
theorem VRL.cons_inv {x:V} {l l':List V} (h:VRL f (x::l) l'):∃v m,l'=v::m∧VR f x v∧VRL f l m:=by
 cases l' with
 |nil=>have:=h.len;simp at this
 |cons v m=>exact⟨v,m,rfl,h.get 0 x v rfl rfl,⟨by have:=h.len;simpa using this,fun j y w hy hw=>h.get (j+1) y w (by simpa using hy) (by simpa using hw)⟩⟩
theorem VRL.nil_inv {l':List V} (h:VRL f [] l'):l'=[]:=List.length_eq_zero_iff.1 (by simpa using h.len)
theorem VRL.dd (l:List D):VRL f (l.map V.d) (l.map V.d):=⟨rfl,fun j x v h h'=>by
 rw[h]at h';cases h'
 simp only[List.getElem?_map,Option.map_eq_some_iff]at h
 obtain⟨y,_,rfl⟩:=h
 exact .d y⟩
theorem VRL.some {l l':List V} (h:VRL f l l') {i:Nat} {x:V} (hx:l[i]? =some x):∃v,l'[i]? =some v∧VR f x v:=by
 have hi:i<l.length:=by
  rcases Nat.lt_or_ge i l.length with h1|h1
  ·exact h1
  ·rw[List.getElem?_eq_none h1]at hx;cases hx
 have hi':i<l'.length:=by rw[h.len];exact hi
 exact⟨l'[i],List.getElem?_eq_getElem hi',h.get i x _ hx (List.getElem?_eq_getElem hi')⟩
theorem VRL.append {a a' b b':List V} (h:VRL f a a') (g:VRL f b b'):VRL f (a++b) (a'++b'):=by
 induction a generalizing a' with
 |nil=>rw[h.nil_inv];exact g
 |cons x a ih=>obtain⟨v,m,rfl,h1,h2⟩:=h.cons_inv;exact .cons h1 (ih h2)
theorem VRL.take {l l':List V} (h:VRL f l l') (n:Nat):VRL f (l.take n) (l'.take n):=by
 induction l generalizing l' n with
 |nil=>rw[h.nil_inv];simpa using VRL.nil
 |cons x l ih=>
  obtain⟨v,m,rfl,h1,h2⟩:=h.cons_inv
  cases n with
  |zero=>exact .nil
  |succ n=>exact .cons h1 (ih h2 n)
theorem VRL.drop {l l':List V} (h:VRL f l l') (n:Nat):VRL f (l.drop n) (l'.drop n):=by
 induction l generalizing l' n with
 |nil=>rw[h.nil_inv];simpa using VRL.nil
 |cons x l ih=>
  obtain⟨v,m,rfl,h1,h2⟩:=h.cons_inv
  cases n with
  |zero=>exact .cons h1 h2
  |succ n=>exact ih h2 n
theorem VRL.set {l l':List V} (h:VRL f l l') {x v:V} (hx:VR f x v) (n:Nat):VRL f (l.set n x) (l'.set n v):=by
 induction l generalizing l' n with
 |nil=>rw[h.nil_inv];simpa using VRL.nil
 |cons y l ih=>
  obtain⟨w,m,rfl,h1,h2⟩:=h.cons_inv
  cases n with
  |zero=>exact .cons hx h2
  |succ n=>exact .cons h1 (ih h2 n)
theorem VRL.replicate {x v:V} (hx:VR f x v) (n:Nat):VRL f (List.replicate n x) (List.replicate n v):=by
 induction n with
 |zero=>exact .nil
 |succ n ih=>exact .cons hx ih
theorem VRL.splice {l l' m m':List V} (h:VRL f l l') (g:VRL f m m') (n:Nat):VRL f (splice l n m) (splice l' n m'):=by
 unfold Go.AI.splice
 rw[g.len]
 exact((h.take n).append g).append (h.drop _)
theorem VRL.map {l:List Opd} {e e' r r':Regs} (he:∀i,VR f (e i) (e' i)) (hr:∀i,VR f (r i) (r' i)):VRL f (l.map (opd e r)) (l.map (opd e' r')):=by
 induction l with
 |nil=>exact .nil
 |cons x l ih=>exact .cons (by cases x<;>simp only[opd]<;>first|exact he _|exact hr _|exact .d _) ih
theorem VR.opd {e e' r r':Regs} (he:∀i,VR f (e i) (e' i)) (hr:∀i,VR f (r i) (r' i)) (x:Opd):VR f (opd e r x) (opd e' r' x):=by
 cases x<;>simp only[AI.opd]<;>first|exact he _|exact hr _|exact .d _
theorem zdo {l:List V} {ds:List D} (h:allD l=some ds):l=ds.map V.d:=by
 induction l generalizing ds with
 |nil=>simp[allD]at h;subst h;rfl
 |cons x l ih=>
  cases x with
  |d y=>
   simp only[allD,Option.map_eq_some_iff]at h
   obtain⟨es,h1,rfl⟩:=h
   rw[ih h1];rfl
  |_=>simp[allD]at h
theorem VR.d_inv {x:D} {v:V} (h:VR f (.d x) v):v= .d x:=by cases h;rfl
theorem VR.ptr_inv {b i o:Nat} {v:V} (h:VR f (.ptr b i o) v):v= .ptr (f b) i o:=by cases h;rfl
theorem VR.rp_inv {x:D} {o:Nat} {v:V} (h:VR f (.rp x o) v):v= .rp x o:=by cases h;rfl
theorem VR.sl_inv {b i o:Nat} {v:V} (h:VR f (.sl b i o) v):v= .sl (f b) i o:=by cases h;rfl
theorem VR.map_inv {b:Nat} {v:V} (h:VR f (.map b) v):v= .map (f b):=by cases h;rfl
theorem VR.it_inv {b:Nat} {v:V} (h:VR f (.it b) v):v= .it (f b):=by cases h;rfl
theorem VR.yld_inv {b:Nat} {v:V} (h:VR f (.yld b) v):v= .yld (f b):=by cases h;rfl
theorem VR.clo_inv {g:FuncId} {a b:List V} {v:V} (h:VR f (.clo g a b) v):∃a' b',v= .clo g a' b'∧VRL f a a'∧VRL f b b':=by
 cases h with
 |clo h1 h2 h3 h4=>exact⟨_,_,rfl,⟨h1,h2⟩,⟨h3,h4⟩⟩
theorem VRL.dd_inv {ds:List D} {l':List V} (h:VRL f (ds.map V.d) l'):l'=ds.map V.d:=by
 induction ds generalizing l' with
 |nil=>exact h.nil_inv
 |cons x ds ih=>obtain⟨v,m,rfl,h1,h2⟩:=VRL.cons_inv (x:= .d x) (l:=ds.map V.d) h;rw[h1.d_inv,ih h2];rfl
theorem VRL.allD {l l':List V} (h:VRL f l l') {ds:List D} (hd:AI.allD l=Option.some ds):l'=l:=by
 have:=zdo hd;subst this;exact h.dd_inv
theorem VRL.ofCells {l l':List V} (h:VRL f l l'):VR f (V.ofCells l) (V.ofCells l'):=by
 unfold V.ofCells
 cases hd:AI.allD l with
 |some ds=>rw[h.allD hd,hd];exact .d _
 |none=>
  cases hd':AI.allD l' with
  |none=>exact h.agg
  |some ds=>have:=zdo hd';subst this;exact .aggd h.len h.get
theorem VRL.ofTuple {l l':List V} (h:VRL f l l'):VR f (V.ofTuple l) (V.ofTuple l'):=by
 unfold V.ofTuple
 cases hd:AI.allD l with
 |some ds=>rw[h.allD hd,hd];exact .d _
 |none=>
  cases hd':AI.allD l' with
  |none=>exact h.tuple
  |some ds=>have:=zdo hd';subst this;exact .tupled h.len h.get
theorem VRL.oneOr {l l':List V} (h:VRL f l l'):VR f (oneOr l) (oneOr l'):=by
 cases l with
 |nil=>rw[h.nil_inv];exact VRL.ofTuple .nil
 |cons x l=>
  obtain⟨v,m,rfl,h1,h2⟩:=h.cons_inv
  cases l with
  |nil=>rw[h2.nil_inv];exact h1
  |cons y l=>
   obtain⟨w,m',rfl,h3,h4⟩:=h2.cons_inv
   exact VRL.ofTuple (.cons h1 (.cons h3 h4))
theorem VR.cells {x v:V} (h:VR f x v) (hn:x≠.undef):VRL f x.cells v.cells:=by
 cases h with
 |undef=>exact absurd rfl hn
 |d x=>rw[zki];exact .dd _
 |agg hl h=>exact⟨hl,h⟩
 |aggd hl h=>exact⟨hl,h⟩
 |tuple hl h=>exact .cons (.tuple hl h) .nil
 |tupled hl h=>exact .cons (.tupled hl h) .nil
 |clo a b c d=>exact .cons (.clo a b c d) .nil
 |ptr=>exact .cons (.ptr ..) .nil
 |rp=>exact .cons (.rp ..) .nil
 |sl=>exact .cons (.sl ..) .nil
 |map=>exact .cons (.map ..) .nil
 |it=>exact .cons (.it ..) .nil
 |yld=>exact .cons (.yld ..) .nil
theorem VR.cells' {x v:V} (h:VR f x v) (hn:0<x.cells.length):VRL f x.cells v.cells:=h.cells (by rintro rfl;simp[V.cells]at hn)
theorem VR.one {x v:V} (h:VR f x v) (hx:x.one=true):v.one=true:=by
 cases h<;>first|assumption|rfl|(simp[V.one]at hx;done)
theorem VRL.all_one {l l':List V} (h:VRL f l l') (hx:l.all V.one=true):l'.all V.one=true:=by
 induction l generalizing l' with
 |nil=>rw[h.nil_inv];rfl
 |cons x l ih=>
  obtain⟨v,m,rfl,h1,h2⟩:=h.cons_inv
  simp only[List.all_cons,Bool.and_eq_true]at hx⊢
  exact⟨h1.one hx.1,ih h2 hx.2⟩
theorem VR.sub {x v y:V} (h:VR f x v) {off:Nat} {n:Option Nat} (hs:x.sub off n=some y):∃w,v.sub off n=some w∧VR f y w:=by
 by_cases hu:x= .undef
 ·subst hu
  cases n with
  |none=>simp[V.sub,V.cells]at hs
  |some n=>
   have hs:(if off+n≤([]:List V).length then some (V.ofCells ((([]:List V).drop off).take n))else none)=some y:=hs
   rw[List.length_nil]at hs
   by_cases h0:off+n≤0
   ·rw[if_pos h0]at hs
    obtain⟨rfl,rfl⟩:off=0∧n=0:=by omega
    simp only[List.drop_nil,List.take_nil,Option.some.injEq]at hs
    subst hs
    refine⟨_,by simp only[V.sub];rw[if_pos (by omega)],?_⟩
    simp only[List.take_zero]
    exact VRL.ofCells .nil
   ·rw[if_neg h0]at hs;cases hs
 ·have hc:=h.cells hu
  cases n with
  |none=>exact hc.some hs
  |some n=>
   simp only[V.sub]at hs
   split at hs
   ·rename_i h0
    simp only[Option.some.injEq]at hs
    subst hs
    refine⟨_,by simp only[V.sub];rw[if_pos (by rw[hc.len];exact h0)],?_⟩
    exact((hc.drop off).take n).ofCells
   ·cases hs
theorem VR.fld {x v y:V} (h:VR f x v) {off:Nat} {n:Option Nat} (hs:V.fld off n x=some y):∃w,V.fld off n v=some w∧VR f y w:=by
 cases h with
 |d x=>exact⟨y,hs,by
  cases x with
  |agg cs=>simp only[V.fld,zFx,Option.map_eq_some_iff]at hs;obtain⟨z,_,rfl⟩:=hs;exact .d _
  |_=>simp[V.fld]at hs⟩
 |agg hl h=>exact(VR.agg hl h).sub hs
 |aggd hl h=>exact(VR.aggd hl h).sub hs
 |_=>simp[V.fld]at hs
theorem VR.like {x v:V} (h:VR f x v) (hn:x≠.undef) {l l':List V} (hl:VRL f l l'):VR f (V.like x l) (V.like v l'):=by
 have hh:VR f (l.headD .undef) (l'.headD .undef):=by
  cases l with
  |nil=>rw[hl.nil_inv];exact .undef _
  |cons y l=>obtain⟨w,m,rfl,h1,_⟩:=hl.cons_inv;exact h1
 cases h with
 |undef=>exact absurd rfl hn
 |agg=>exact hl.ofCells
 |aggd=>exact hl.ofCells
 |d x=>cases x<;>first|exact hl.ofCells|exact hh
 |_=>exact hh
theorem VR.upd {e e' v v' y:V} (he:VR f e e') (hv:VR f v v') {off n:Nat} (h:e.upd off n v=some y):∃y',e'.upd off n v'=some y'∧VR f y y':=by
 unfold V.upd at h
 split at h
 ·rename_i hc
  obtain⟨c1,c2,c3,c4⟩:=hc
  simp only[Option.some.injEq]at h
  subst h
  have hvc:=hv.cells' (by omega)
  have hen:e≠.undef:=by rintro rfl;simp[V.cells]at c3;omega
  have hec:=he.cells hen
  refine⟨_,by unfold V.upd;rw[if_pos ⟨by rw[hvc.len];exact c1,c2,by rw[hec.len];exact c3,hvc.all_one c4⟩],?_⟩
  exact he.like hen (hec.splice hvc off)
 ·cases h
theorem VR.isNil {x v:V} (h:VR f x v) {b:Bool} (hb:isNil x=some b):isNil v=some b:=by
 cases h<;>first|assumption|(simp[AI.isNil]at hb;done)|(simpa[AI.isNil]using hb)
theorem VR.kindOf {x v:V} (h:VR f x v) {b:Bool} (hb:AI.isNil x=some b):kindOf v=kindOf x:=by
 cases h<;>first|rfl|(simp[AI.isNil]at hb;done)
theorem zkF {ty:ETy} {x y:V} (h:¬((∃a,x= .d a)∧∃b,y= .d b)):eqV ty x y=if kindOf x=ty∧kindOf y=ty then(isNil x).bind fun a=>(isNil y).bind fun b=>if a||b then some (a&&b)else none else none:=by
 unfold eqV
 split
 ·exact absurd ⟨⟨_,rfl⟩,⟨_,rfl⟩⟩ h
 ·exact absurd ⟨⟨_,rfl⟩,⟨_,rfl⟩⟩ h
 ·rfl
theorem VR.eqV {ty:ETy} {x y x' y':V} (hx:VR f x x') (hy:VR f y y') {b:Bool} (h:eqV ty x y=some b):eqV ty x' y'=some b:=by
 by_cases hd:(∃a,x= .d a)∧∃b,y= .d b
 ·obtain⟨⟨a,rfl⟩,c,rfl⟩:=hd;rw[hx.d_inv,hy.d_inv];exact h
 ·rw[zkF hd]at h
  split at h
  ·rename_i hk
   obtain⟨p,hp,h⟩:=Option.bind_eq_some_iff.1 h
   obtain⟨q,hq,h⟩:=Option.bind_eq_some_iff.1 h
   have hd':¬((∃a,x'= .d a)∧∃b,y'= .d b):=by
    rintro⟨⟨a,rfl⟩,c,rfl⟩
    refine hd ⟨?_,?_⟩
    ·cases hx<;>first|exact⟨_,rfl⟩|(simp[AI.isNil]at hp;done)
    ·cases hy<;>first|exact⟨_,rfl⟩|(simp[AI.isNil]at hq;done)
   rw[zkF hd',hx.kindOf hp,hy.kindOf hq,if_pos hk,hx.isNil hp,hy.isNil hq]
   exact h
  ·cases h
def zMK (op:BinOp) (x:Option Bool):Option V:=
 match op with
 | .eql=>x.map fun b=> .d (.bool b)
 | .neq=>x.map fun b=> .d (.bool !b)
 |_=>none
theorem VR.binV {op:BinOp} {ty:ETy} {x y x' y' w:V} (hx:VR f x x') (hy:VR f y y') (h:binV op ty x y=some w):binV op ty x' y'=some w∧∃z,w= .d z:=by
 by_cases hd:(∃a,x= .d a)∧∃b,y= .d b
 ·obtain⟨⟨a,rfl⟩,c,rfl⟩:=hd
  rw[hx.d_inv,hy.d_inv]
  refine⟨h,?_⟩
  unfold AI.binV at h
  split at h
  ·obtain⟨z,_,rfl⟩:=Option.map_eq_some_iff.1 h;exact⟨_,rfl⟩
  ·obtain⟨z,_,rfl⟩:=Option.map_eq_some_iff.1 h;exact⟨_,rfl⟩
  ·split at h
   ·obtain⟨z,_,rfl⟩:=Option.map_eq_some_iff.1 h;exact⟨_,rfl⟩
   ·obtain⟨z,_,rfl⟩:=Option.map_eq_some_iff.1 h;exact⟨_,rfl⟩
   ·cases h
 ·have third:∀{u v:V},¬((∃a,u= .d a)∧∃b,v= .d b)→AI.binV op ty u v=zMK op (AI.eqV ty u v):=by
   intro u v hn
   unfold AI.binV
   split
   ·exact absurd ⟨⟨_,rfl⟩,⟨_,rfl⟩⟩ hn
   ·exact absurd ⟨⟨_,rfl⟩,⟨_,rfl⟩⟩ hn
   ·cases op<;>rfl
  rw[third hd]at h
  have key:∀{b:Bool},AI.eqV ty x y=some b→¬((∃a,x'= .d a)∧∃b,y'= .d b):=by
   intro b hb
   rw[zkF hd]at hb
   split at hb
   ·obtain⟨p,hp,hb⟩:=Option.bind_eq_some_iff.1 hb
    obtain⟨q,hq,hb⟩:=Option.bind_eq_some_iff.1 hb
    rintro⟨⟨a,rfl⟩,c,rfl⟩
    refine hd ⟨?_,?_⟩
    ·cases hx<;>first|exact⟨_,rfl⟩|(simp[AI.isNil]at hp;done)
    ·cases hy<;>first|exact⟨_,rfl⟩|(simp[AI.isNil]at hq;done)
   ·cases hb
  cases op<;>simp only[zMK]at h<;>try(cases h;done)
  ·obtain⟨z,hz,rfl⟩:=Option.map_eq_some_iff.1 h
   refine⟨?_,_,rfl⟩
   rw[third (key hz)]
   simp only[hx.eqV hy hz,Option.map_some,zMK]
  ·obtain⟨z,hz,rfl⟩:=Option.map_eq_some_iff.1 h
   refine⟨?_,_,rfl⟩
   rw[third (key hz)]
   simp only[hx.eqV hy hz,Option.map_some,zMK]
theorem VR.unV {op:UnOp} {x x' w:V} (hx:VR f x x') (h:unV op x=some w):AI.unV op x'=some w∧∃z,w= .d z:=by
 cases hx with
 |d x=>refine⟨h,?_⟩;unfold AI.unV at h;split at h<;>first|(cases h;exact⟨_,rfl⟩)|cases h
 |_=>cases op<;>simp[AI.unV]at h
theorem VR.convV {k:Cv} {x x' w:V} (hx:VR f x x') (h:convV k x=some w):AI.convV k x'=some w∧∃z,w= .d z:=by
 cases hx with
 |d x=>refine⟨h,?_⟩;unfold AI.convV at h;split at h<;>first|(cases h;exact⟨_,rfl⟩)|cases h
 |_=>cases k<;>simp[AI.convV]at h
theorem VR.asNat {x x':V} (hx:VR f x x') {n:Nat} (h:asNat x=some n):AI.asNat x'=some n:=by
 cases hx<;>first|exact h|(simp[AI.asNat]at h;done)
theorem VR.max2 {g:Int→Int→Int} {x y x' y' w:V} (hx:VR f x x') (hy:VR f y y') (h:max2 g x y=some w):AI.max2 g x' y'=some w∧∃z,w= .d z:=by
 unfold AI.max2 at h
 split at h
 ·rw[hx.d_inv,hy.d_inv]
  refine⟨h,?_⟩
  split at h
  ·cases h;exact⟨_,rfl⟩
  ·cases h
 ·cases h
theorem VR.foldV {g:Int→Int→Int} {x x' w:V} {l l':List V} (hx:VR f x x') (hl:VRL f l l') (h:foldV g x l=some w):∃w',AI.foldV g x' l'=some w'∧VR f w w':=by
 induction l generalizing x x' l' with
 |nil=>rw[hl.nil_inv];cases h;exact⟨_,rfl,hx⟩
 |cons y l ih=>
  obtain⟨v,m,rfl,h1,h2⟩:=hl.cons_inv
  simp only[AI.foldV]at h⊢
  obtain⟨z,hz,h⟩:=Option.bind_eq_some_iff.1 h
  obtain⟨e1,q,rfl⟩:=hx.max2 h1 hz
  rw[e1]
  exact ih (.d q) h2 h
theorem VRL.maxV {l l':List V} {w:V} (hl:VRL f l l') (h:maxV l=Option.some w):∃w',AI.maxV l'=Option.some w'∧VR f w w':=by
 cases l with
 |nil=>simp[AI.maxV]at h
 |cons x l=>obtain⟨v,m,rfl,h1,h2⟩:=hl.cons_inv;exact h1.foldV h2 h
theorem VRL.minV {l l':List V} {w:V} (hl:VRL f l l') (h:minV l=Option.some w):∃w',AI.minV l'=Option.some w'∧VR f w w':=by
 cases l with
 |nil=>simp[AI.minV]at h
 |cons x l=>obtain⟨v,m,rfl,h1,h2⟩:=hl.cons_inv;exact h1.foldV h2 h
theorem VR.extractV {i:Nat} {x x' w:V} (hx:VR f x x') (h:extractV i x=some w):∃w',AI.extractV i x'=some w'∧VR f w w':=by
 cases hx with
 |d x=>
  refine⟨w,h,?_⟩
  cases x with
  |tuple l=>simp only[AI.extractV,Option.map_eq_some_iff]at h;obtain⟨y,_,rfl⟩:=h;exact .d _
  |_=>simp[AI.extractV]at h
 |tuple hl hg=>exact(VRL.mk hl hg).some h
 |tupled hl hg=>
  obtain⟨v,h1,h2⟩:=(VRL.mk hl hg).some h
  exact⟨v,by simpa[AI.extractV]using h1,h2⟩
 |_=>simp[AI.extractV]at h
theorem VR.indexV {i:Nat} {x x' w:V} (hx:VR f x x') (h:indexV i x=some w):AI.indexV i x'=some w∧∃z,w= .d z:=by
 cases hx with
 |d x=>
  refine⟨h,?_⟩
  cases x with
  |str l=>simp only[AI.indexV,Option.map_eq_some_iff]at h;obtain⟨y,_,rfl⟩:=h;exact⟨_,rfl⟩
  |_=>simp[AI.indexV]at h
 |_=>simp[AI.indexV]at h
theorem VR.faddrV {n:Nat} {x x' w:V} (hx:VR f x x') (h:faddrV n x=some w):∃w',AI.faddrV n x'=some w'∧VR f w w':=by
 cases hx with
 |ptr b i o=>cases h;exact⟨_,rfl,.ptr ..⟩
 |rp x o=>cases h;exact⟨_,rfl,.rp ..⟩
 |_=>simp[AI.faddrV]at h
theorem VR.isSl {x x':V} (hx:VR f x x') (h:x.isSl=true):x'.isSl=true:=by
 cases hx<;>first|exact h|rfl|(simp[V.isSl]at h;done)
theorem VR.isFn {x x':V} (hx:VR f x x') (h:x.isFn=true):x'.isFn=true:=by
 cases hx<;>first|exact h|rfl|(simp[V.isFn]at h;done)
def MR (f:Nat→Nat) (e e':D×V×Nat):Prop:=e'.1=e.1∧VR f e.2.1 e'.2.1∧e'.2.2=e.2.2
def SOp.okz:SOp→Bool
 | .app sz _ _ _| .copy sz _ _=>sz !=0
 | .bslice _ z _=>z.cells.length !=0
 |_=>true
def zhu (pairs:List (Nat×Nat)) (x:(SOp×Option (Nat×Bool))×Nat):Bool:=x.1.1.okz&&match x.1.2 with|none=>true|some (j,_)=>decide (j<x.2)&&pairs.contains (j,j)
def C.loc:C→Bool
 | .region ops _ pairs=>ops.zipIdx.all (zhu pairs)
 | .seq a b| .cond _ a b| .rfunc _ _ a b=>a.loc&&b.loc
 | .block _ a| .loop a=>a.loc
 |_=>true
inductive MRL (f:Nat→Nat):List (D×V×Nat)→List (D×V×Nat)→Prop
 |nil:MRL f [] []
 |cons {e e':D×V×Nat} {l l':List (D×V×Nat)} (h:MR f e e') (t:MRL f l l'):MRL f (e::l) (e'::l')
inductive BR (f:Nat→Nat):Blk→Blk→Prop
 |els {z fz fz':Nat} {l l':List V} (hz:fz'≤fz) (h:VRL f l l'):BR f (.els z l fz) (.els z l' fz')
 |map {es es':List (D×V×Nat)} {c:Nat} (h:MRL f es es'):BR f (.map es c) (.map es' c)
 |it (s:List UInt8) (p:Nat):BR f (.it s p) (.it s p)
 |loop {L L':LoopB} (hr:∀t,VR f (L.regs t) (L'.regs t)) (hp:L'.params=L.params) (ha:L'.assign=L.assign) (hb:L'.body=L.body) (hs:L'.state=L.state) (hj:L'.pending=L.pending) (la:L.assign.loc=true) (lb:L.body.loc=true):BR f (.loop L) (.loop L')
structure HR (E:Nat→Option Blk) (f:Nat→Nat) (h h':Heap):Prop where
 blk:∀b x,h.get b=some x→∃x',h'.get (f b)=some x'∧BR f x x'
 next:∀i,f (h.next+i)=h'.next+i
 inj:∀a b,f a=f b→a=b
 out:∀c,(∀b,f b≠c)→h'.get c=E c
variable {h h':Heap} {E:Nat→Option Blk}
theorem HR.put (H:HR E f h h') {x x':Blk} (hx:BR f x x') (b:Nat):HR E f (h.put b x) (h'.put (f b) x') where
 out:=fun c hc=>by rw[Heap.put_ne _ _ (fun e=>hc b e.symm)];exact H.out c hc
 blk:=fun c y hy=>by
  by_cases hc:c=b
  ·subst hc;rw[Heap.put_eq]at hy⊢;cases hy;exact⟨x',rfl,hx⟩
  ·rw[Heap.put_ne _ _ hc]at hy;rw[Heap.put_ne _ _ (fun e=>hc (H.inj _ _ e))];exact H.blk c y hy
 next:=H.next
 inj:=H.inj
theorem HR.del (H:HR E f h h') (b:Nat):HR E f (h.del b) (h'.del (f b)) where
 out:=fun c hc=>by rw[Heap.del_ne _ (fun e=>hc b e.symm)];exact H.out c hc
 blk:=fun c y hy=>by
  by_cases hc:c=b
  ·subst hc;rw[Heap.del_eq]at hy;cases hy
  ·rw[Heap.del_ne _ hc]at hy;rw[Heap.del_ne _ (fun e=>hc (H.inj _ _ e))];exact H.blk c y hy
 next:=H.next
 inj:=H.inj
theorem HR.bump (H:HR E f h h') (n:Nat):HR E f (h.bump n) (h'.bump n) where
 out:=H.out
 blk:=H.blk
 next:=fun i=>by show f (h.next+n+i)=h'.next+n+i;rw[Nat.add_assoc,H.next,Nat.add_assoc]
 inj:=H.inj
theorem HR.els (H:HR E f h h') {b z fz:Nat} {l:List V} (hb:h.get b=some (.els z l fz)):∃l' fz',h'.get (f b)=some (.els z l' fz')∧VRL f l l'∧fz'≤fz:=by
 obtain⟨x',h1,h2⟩:=H.blk b _ hb
 cases h2 with
 |els hz h=>exact⟨_,_,h1,h,hz⟩
theorem HR.map (H:HR E f h h') {b c:Nat} {es:List (D×V×Nat)} (hb:h.get b=some (.map es c)):∃es',h'.get (f b)=some (.map es' c)∧MRL f es es':=by
 obtain⟨x',h1,h2⟩:=H.blk b _ hb
 cases h2 with
 |map h=>exact⟨_,h1,h⟩
theorem HR.it (H:HR E f h h') {b p:Nat} {s:List UInt8} (hb:h.get b=some (.it s p)):h'.get (f b)=some (.it s p):=by
 obtain⟨x',h1,h2⟩:=H.blk b _ hb
 cases h2 with
 |it=>exact h1
theorem HR.freeze (H:HR E f h h') {b n z fz:Nat} {l:List V} (hb:h.get b=some (.els z l fz)):HR E f (freeze h b n) (freeze h' (f b) n):=by
 obtain⟨l',fz',h1,h2,hz⟩:=H.els hb
 unfold AI.freeze
 rw[hb,h1]
 dsimp only
 split
 ·split
  ·exact H
  ·rename_i h3 h4
   refine⟨fun c y hy=> ?_,H.next,H.inj,fun c hc=>by rw[Heap.put_ne _ _ (fun e=>hc b e.symm)];exact H.out c hc⟩
   by_cases hc:c=b
   ·subst hc;rw[hb]at hy;cases hy;exact⟨_,Heap.put_eq ..,.els h3 h2⟩
   ·rw[Heap.put_ne _ _ (fun e=>hc (H.inj _ _ e))];exact H.blk c y hy
 ·rename_i h3
  rw[if_neg (by omega)]
  exact H.put (.els (Nat.le_refl _) h2) b
theorem zhv:∀(n:Nat) {h h1:Heap} {v:V} {x y:D},res n h v=some (x,h1)→VR f v (.d y)→x=y∧h1=h
 |0,h,h1,v,x,y,e,hv=>by
  cases hv with
  |d x=>simp only[zhZ,Option.some.injEq,Prod.mk.injEq]at e;exact⟨e.1.symm,e.2.symm⟩
  |undef=>simp[res]at e
  |aggd=>simp[res]at e
  |tupled=>simp[res]at e
 |n+1,h,h1,v,x,y,e,hv=>by
  have go:∀(cs:List V) (ds:List D) (h h1:Heap) (xs:List D),VRL f cs (ds.map V.d)→zbI (res n) h cs=some (xs,h1)→xs=ds∧h1=h:=by
   intro cs
   induction cs with
   |nil=>
    intro ds h h1 xs hl e
    have:=hl.nil_inv
    simp only[List.map_eq_nil_iff]at this
    subst this
    simp only[zbI,Option.some.injEq,Prod.mk.injEq]at e
    exact⟨e.1.symm,e.2.symm⟩
   |cons c cs ih=>
    intro ds h h1 xs hl e
    obtain⟨w,m,e1,h2,h3⟩:=hl.cons_inv
    cases ds with
    |nil=>simp at e1
    |cons d ds=>
     simp only[List.map_cons,List.cons.injEq]at e1
     obtain⟨rfl,rfl⟩:=e1
     simp only[zbI]at e
     obtain⟨⟨y1,g1⟩,e2,e⟩:=Option.bind_eq_some_iff.1 e
     obtain⟨⟨y2,g2⟩,e3,e4⟩:=Option.map_eq_some_iff.1 e
     simp only[Prod.mk.injEq]at e4
     obtain⟨q1,q2⟩:=zhv n e2 h2
     obtain⟨q3,q4⟩:=ih ds _ _ _ h3 e3
     subst q1;subst q3
     exact⟨e4.1.symm,e4.2.symm.trans (q4.trans q2)⟩
  have all:∀(cs:List V) (ds:List D) (h h1:Heap) (xs:List D),VRL f cs (ds.map V.d)→zba (res n) h cs=some (xs,h1)→xs=ds∧h1=h:=by
   intro cs ds h h1 xs hl e
   unfold zba at e
   cases hd:AI.allD cs with
   |none=>rw[hd]at e;exact go cs ds h h1 xs hl e
   |some es=>
    rw[hd]at e
    simp only[Option.some.injEq,Prod.mk.injEq]at e
    have h2:=hl.allD hd
    have h3:=zdo hd
    rw[h3]at h2
    have:ds=es:=by
     have hinj:Function.Injective V.d:=fun a b hab=>by cases hab;rfl
     exact(List.map_inj_right (fun a b hab=>hinj hab)).1 h2
    exact⟨e.1.symm.trans this.symm,e.2.symm⟩
  cases hv with
  |d x=>simp only[zhZ,Option.some.injEq,Prod.mk.injEq]at e;exact⟨e.1.symm,e.2.symm⟩
  |undef=>simp[res]at e
  |aggd hl hg=>
   simp only[res]at e
   obtain⟨⟨xs,g⟩,e1,e4⟩:=Option.map_eq_some_iff.1 e
   simp only[Prod.mk.injEq]at e4
   obtain⟨q1,q2⟩:=all _ _ _ _ _ ⟨hl,hg⟩ e1
   subst q1
   exact⟨e4.1.symm,e4.2.symm.trans q2⟩
  |tupled hl hg=>
   simp only[res]at e
   obtain⟨⟨xs,g⟩,e1,e4⟩:=Option.map_eq_some_iff.1 e
   simp only[Prod.mk.injEq]at e4
   obtain⟨q1,q2⟩:=all _ _ _ _ _ ⟨hl,hg⟩ e1
   subst q1
   exact⟨e4.1.symm,e4.2.symm.trans q2⟩
theorem zqT:∀(n:Nat) {h h' h1:Heap} {v v':V} {x:D},res n h v=some (x,h1)→VR f v v'→HR E f h h'→∃h1',res n h' v'=some (x,h1')∧HR E f h1 h1'
 |0,h,h',h1,v,v',x,e,hv,H=>by
  cases v with
  |d y=>rw[hv.d_inv];simp only[zhZ,Option.some.injEq,Prod.mk.injEq]at e⊢;obtain⟨rfl,rfl⟩:=e;exact⟨h',⟨rfl,rfl⟩,H⟩
  |_=>simp[res]at e
 |n+1,h,h',h1,v,v',x,e,hv,H=>by
  have go:∀(cs cs':List V) (h h' h1:Heap) (xs:List D),VRL f cs cs'→HR E f h h'→zbI (res n) h cs=some (xs,h1)→∃h1',zbI (res n) h' cs'=some (xs,h1')∧HR E f h1 h1':=by
   intro cs
   induction cs with
   |nil=>
    intro cs' h h' h1 xs hl H e
    rw[hl.nil_inv]
    simp only[zbI,Option.some.injEq,Prod.mk.injEq]at e⊢
    obtain⟨rfl,rfl⟩:=e
    exact⟨h',⟨rfl,rfl⟩,H⟩
   |cons c cs ih=>
    intro cs' h h' h1 xs hl H e
    obtain⟨w,m,rfl,h2,h3⟩:=hl.cons_inv
    simp only[zbI]at e
    obtain⟨⟨y1,g1⟩,e2,e⟩:=Option.bind_eq_some_iff.1 e
    obtain⟨⟨y2,g2⟩,e3,e⟩:=Option.map_eq_some_iff.1 e
    simp only[Prod.mk.injEq]at e
    obtain⟨rfl,rfl⟩:=e
    obtain⟨k1,a1,K1⟩:=zqT n e2 h2 H
    obtain⟨k2,a2,K2⟩:=ih m _ _ _ _ h3 K1 e3
    exact⟨k2,by simp only[zbI,a1,Option.bind_some,a2,Option.map_some],K2⟩
  have all:∀(cs cs':List V) (h h' h1:Heap) (xs:List D),VRL f cs cs'→HR E f h h'→zba (res n) h cs=some (xs,h1)→∃h1',zba (res n) h' cs'=some (xs,h1')∧HR E f h1 h1':=by
   intro cs cs' h h' h1 xs hl H e
   unfold zba at e⊢
   cases hd:AI.allD cs with
   |some es=>
    rw[hd]at e
    rw[hl.allD hd,hd]
    simp only[Option.some.injEq,Prod.mk.injEq]at e⊢
    obtain⟨rfl,rfl⟩:=e
    exact⟨h',⟨rfl,rfl⟩,H⟩
   |none=>
    rw[hd]at e
    cases hd':AI.allD cs' with
    |none=>exact go _ _ _ _ _ _ hl H e
    |some ds=>
     have h2:=zdo hd'
     subst h2
     have:VR f (.agg cs) (.d (.agg ds)):= .aggd hl.len hl.get
     have e2:res (n+1) h (.agg cs)=some (.agg xs,h1):=by
      have e3:zba (res n) h cs=some (xs,h1):=by unfold zba;rw[hd];exact e
      simp only[res,e3,Option.map_some]
     obtain⟨q1,q2⟩:=zhv (n+1) e2 this
     cases q1
     subst q2
     exact⟨h',rfl,H⟩
  cases v with
  |d y=>rw[hv.d_inv];simp only[zhZ,Option.some.injEq,Prod.mk.injEq]at e⊢;obtain⟨rfl,rfl⟩:=e;exact⟨h',⟨rfl,rfl⟩,H⟩
  |sl b off len=>
   rw[hv.sl_inv]
   simp only[res]at e⊢
   split at e
   ·rename_i z l fz hb
    obtain⟨l',fz',hb',hl,hz'⟩:=H.els hb
    simp only[hb']
    split at e
    ·rename_i hle
     rw[if_pos (by rw[hl.len];exact hle)]
     obtain⟨⟨xs,g⟩,e1,e⟩:=Option.map_eq_some_iff.1 e
     simp only[Prod.mk.injEq]at e
     obtain⟨rfl,rfl⟩:=e
     obtain⟨k,a,K⟩:=all _ _ _ _ _ _ ((hl.drop off).take len) (H.freeze hb) e1
     exact⟨k,by rw[a];rfl,K⟩
    ·cases e
   ·cases e
  |agg cs=>
   by_cases hn:∃ds,v'= .d (.agg ds)
   ·obtain⟨ds,rfl⟩:=hn
    obtain⟨q1,q2⟩:=zhv (n+1) e hv
    subst q1;subst q2
    exact⟨h',zhZ,H⟩
   ·have:∃cs',v'= .agg cs'∧VRL f cs cs':=by
     cases hv with
     |agg hl hg=>exact⟨_,rfl,⟨hl,hg⟩⟩
     |aggd=>exact absurd ⟨_,rfl⟩ hn
    obtain⟨cs',rfl,hl⟩:=this
    simp only[res]at e⊢
    obtain⟨⟨xs,g⟩,e1,e⟩:=Option.map_eq_some_iff.1 e
    simp only[Prod.mk.injEq]at e
    obtain⟨rfl,rfl⟩:=e
    obtain⟨k,a,K⟩:=all _ _ _ _ _ _ hl H e1
    exact⟨k,by rw[a];rfl,K⟩
  |tuple cs=>
   by_cases hn:∃ds,v'= .d (.tuple ds)
   ·obtain⟨ds,rfl⟩:=hn
    obtain⟨q1,q2⟩:=zhv (n+1) e hv
    subst q1;subst q2
    exact⟨h',zhZ,H⟩
   ·have:∃cs',v'= .tuple cs'∧VRL f cs cs':=by
     cases hv with
     |tuple hl hg=>exact⟨_,rfl,⟨hl,hg⟩⟩
     |tupled=>exact absurd ⟨_,rfl⟩ hn
    obtain⟨cs',rfl,hl⟩:=this
    simp only[res]at e⊢
    obtain⟨⟨xs,g⟩,e1,e⟩:=Option.map_eq_some_iff.1 e
    simp only[Prod.mk.injEq]at e
    obtain⟨rfl,rfl⟩:=e
    obtain⟨k,a,K⟩:=all _ _ _ _ _ _ hl H e1
    exact⟨k,by rw[a];rfl,K⟩
  |_=>simp[res]at e
theorem zCE {n:Nat} {h h' h1:Heap} {cs cs':List V} {xs:List D} (e:zba (res n) h cs=some (xs,h1)) (hl:VRL f cs cs') (H:HR E f h h'):∃h1',zba (res n) h' cs'=some (xs,h1')∧HR E f h1 h1':=by
 have e2:res (n+1) h (.tuple cs)=some (.tuple xs,h1):=by simp only[res,e,Option.map_some]
 obtain⟨k,a,K⟩:=zqT (n+1) e2 hl.tuple H
 simp only[res]at a
 obtain⟨⟨ys,g⟩,e1,a⟩:=Option.map_eq_some_iff.1 a
 simp only[Prod.mk.injEq,D.tuple.injEq]at a
 obtain⟨rfl,rfl⟩:=a
 exact⟨_,e1,K⟩
theorem zoM (H:HR E f h h') {n:Option Nat} {a a' v:V} (ha:VR f a a') (e:zdA h n a=some v):∃v',zdA h' n a'=some v'∧VR f v v':=by
 cases ha with
 |ptr b i o=>
  simp only[zdA]at e⊢
  split at e
  ·rename_i z l fz hb
   obtain⟨l',fz',hb',hl,hz'⟩:=H.els hb
   obtain⟨y,hy,e⟩:=Option.bind_eq_some_iff.1 e
   obtain⟨y',hy',hv⟩:=hl.some hy
   rw[hb']
   simp only[hy',Option.bind_some]
   exact hv.sub e
  ·cases e
 |rp x o=>
  refine⟨v,e,?_⟩
  simp only[zdA,Option.map_eq_some_iff]at e
  obtain⟨y,_,rfl⟩:=e
  exact .d _
 |_=>simp[zdA]at e
theorem zuL (H:HR E f h h') {n:Nat} {a a' x x':V} {h1:Heap} (ha:VR f a a') (hx:VR f x x') (e:zbK h n a x=some h1):∃h1',zbK h' n a' x'=some h1'∧HR E f h1 h1':=by
 cases ha with
 |ptr b i o=>
  simp only[zbK]at e⊢
  split at e
  ·rename_i z l fz hb
   obtain⟨l',fz',hb',hl,hz'⟩:=H.els hb
   split at e
   ·rename_i hfz
    obtain⟨y,hy,e⟩:=Option.bind_eq_some_iff.1 e
    obtain⟨w,hw,rfl⟩:=Option.map_eq_some_iff.1 e
    obtain⟨y',hy',hv⟩:=hl.some hy
    obtain⟨w',hw',hvw⟩:=hv.upd hx hw
    rw[hb']
    dsimp only
    rw[if_pos (Nat.le_trans hz' hfz),hy']
    simp only[Option.bind_some,hw',Option.map_some]
    exact⟨_,rfl,H.put (.els hz' (hl.set hvw i)) b⟩
   ·cases e
  ·cases e
 |_=>simp[zbK]at e
theorem zoN {e e' r r':Regs} (he:∀i,VR f (e i) (e' i)) (hr:∀i,VR f (r i) (r' i)):∀(ps:List (Nat×Nat×Opd)) {cs cs' cs1:List V},VRL f cs cs'→zca cs (ps.map fun(o,n,x)=>(o,n,opd e r x))=some cs1→∃cs1',zca cs' (ps.map fun(o,n,x)=>(o,n,opd e' r' x))=some cs1'∧VRL f cs1 cs1'
 |[],cs,cs',cs1,hl,h=>by simp only[List.map_nil,zca,Option.some.injEq]at h⊢;subst h;exact⟨_,rfl,hl⟩
 |(o,n,x)::ps,cs,cs',cs1,hl,h=>by
  simp only[List.map_cons,zca]at h⊢
  split at h
  ·rename_i hc
   have hv:=(VR.opd he hr x).cells' (by omega)
   rw[if_pos (by rw[hv.len,hl.len];exact hc)]
   exact zoN he hr ps (hl.splice hv o) h
  ·cases h
theorem zlP {e e' r r':Regs} (he:∀i,VR f (e i) (e' i)) (hr:∀i,VR f (r i) (r' i)) {n:Nat} (hn:0<n):∀(ps:List (Nat×Opd)) {cs cs' cs1:List V},VRL f cs cs'→zaS n cs (ps.map fun(i,x)=>(i,opd e r x))=some cs1→∃cs1',zaS n cs' (ps.map fun(i,x)=>(i,opd e' r' x))=some cs1'∧VRL f cs1 cs1'
 |[],cs,cs',cs1,hl,h=>by simp only[List.map_nil,zaS,Option.some.injEq]at h⊢;subst h;exact⟨_,rfl,hl⟩
 |(i,x)::ps,cs,cs',cs1,hl,h=>by
  simp only[List.map_cons,zaS]at h⊢
  split at h
  ·rename_i hc
   have hv:=(VR.opd he hr x).cells' (by omega)
   rw[if_pos (by rw[hv.len,hl.len];exact hc)]
   exact zlP he hr hn ps (hl.set (VR.opd he hr x) i) h
  ·cases h
theorem zoO (H:HR E f h h') {x x':V} (hx:VR f x x') {l:List V} (e:zbC h x=some l):∃l',zbC h' x'=some l'∧VRL f l l':=by
 cases x with
 |d y=>
  rw[hx.d_inv]
  refine⟨l,?_,?_⟩
  ·cases y<;>first|exact e|(simp[zbC]at e;done)
  ·cases y<;>first|(simp[zbC]at e;done)|(simp only[zbC,Option.some.injEq]at e;subst e;first|exact .dd _|(rw[show(fun c:UInt8=>V.d (.int .u8 c.toNat))=V.d∘(fun c:UInt8=>D.int .u8 c.toNat)from rfl,←List.map_map];exact .dd _))
 |sl b off len=>
  rw[hx.sl_inv]
  simp only[zbC]at e⊢
  split at e
  ·rename_i z m fz hb
   obtain⟨m',fz',hb',hm,hz'⟩:=H.els hb
   split at e
   ·rename_i hle
    simp only[Option.some.injEq]at e
    subst e
    rw[hb']
    dsimp only
    rw[if_pos (by rw[hm.len];exact hle)]
    exact⟨_,rfl,(hm.drop off).take len⟩
   ·cases e
  ·cases e
 |_=>simp[zbC]at e
theorem zkG {sz:Nat} (hz:0<sz):∀{l l':List V},VRL f l l'→sized sz l=true→sized sz l'=true
 |[],l',hl,_=>by rw[hl.nil_inv];rfl
 |x::l,l',hl,h=>by
  obtain⟨v,m,rfl,h1,h2⟩:=hl.cons_inv
  simp only[sized,List.all_cons,Bool.and_eq_true,beq_iff_eq]at h⊢
  have hc:=h1.cells' (by omega)
  exact⟨⟨by rw[hc.len];exact h.1.1,hc.all_one h.1.2⟩,zkG hz h2 (by simpa[sized]using h.2)⟩
theorem zCF (H:HR E f h h') {fr sz bytes:Nat} (hz:0<sz) {x x' y y' v:V} {h1:Heap} (hx:VR f x x') (hy:VR f y y') (e:zlw h fr sz bytes x y=some (v,h1)):∃v' h1',zlw h' (f fr) sz bytes x' y'=some (v',h1')∧VR f v v'∧HR E f h1 h1':=by
 unfold zlw at e
 obtain⟨new,hnew,e⟩:=Option.bind_eq_some_iff.1 e
 obtain⟨new',hnew',hl⟩:=zoO H hy hnew
 unfold zlw
 rw[hnew']
 simp only[Option.bind_some]
 have hem:new'.isEmpty=new.isEmpty:=by
  have:=hl.len
  cases new<;>cases new'<;>simp_all
 rw[hem]
 split at e
 ·rename_i h0
  rw[if_pos h0]
  split at e
  ·rename_i hs
   simp only[Option.some.injEq,Prod.mk.injEq]at e
   obtain⟨rfl,rfl⟩:=e
   rw[if_pos (hx.isSl hs)]
   exact⟨_,_,rfl,hx,H⟩
  ·cases e
 ·rename_i h0
  rw[if_neg h0]
  split at e
  ·rename_i hs
   rw[if_pos (zkG hz hl hs)]
   split at e
   ·rw[hx.d_inv]
    split at e
    ·rename_i hr
     simp only[Option.some.injEq,Prod.mk.injEq]at e
     obtain⟨rfl,rfl⟩:=e
     dsimp only
     rw[if_pos (by rw[hl.len];exact hr),hl.len]
     exact⟨_,_,rfl,.sl ..,H.put (.els (Nat.le_refl _) hl) fr⟩
    ·cases e
   ·rename_i b _
    rw[hx.sl_inv]
    split at e
    ·rename_i z l fz hb
     obtain⟨l',fz',hb',hll,hz'⟩:=H.els hb
     split at e
     ·rename_i hc
      simp only[Option.some.injEq,Prod.mk.injEq]at e
      obtain⟨rfl,rfl⟩:=e
      simp only[hb']
      rw[if_pos (by rw[hll.len,hl.len];exact hc),hl.len]
      exact⟨_,_,rfl,.sl ..,(H.del _).put (.els hz' (hll.append hl)) fr⟩
     ·cases e
    ·cases e
   ·cases e
  ·cases e
theorem zyi (H:HR E f h h') {sz:Nat} (hz:0<sz) {x x' y y' v:V} {h1:Heap} (hx:VR f x x') (hy:VR f y y') (e:copyV h sz x y=some (v,h1)):∃v' h1',copyV h' sz x' y'=some (v',h1')∧VR f v v'∧HR E f h1 h1':=by
 unfold copyV at e
 obtain⟨new,hnew,e⟩:=Option.bind_eq_some_iff.1 e
 obtain⟨new',hnew',hl⟩:=zoO H hy hnew
 unfold copyV
 rw[hnew']
 simp only[Option.bind_some]
 split at e
 ·rename_i b off len
  rw[hx.sl_inv]
  split at e
  ·rename_i z l fz hb
   obtain⟨l',fz',hb',hll,hz'⟩:=H.els hb
   split at e
   ·rename_i hc
    simp only[Option.some.injEq,Prod.mk.injEq]at e
    obtain⟨rfl,rfl⟩:=e
    simp only[hb']
    rw[if_pos ⟨hc.1,Nat.le_trans hz' hc.2.1,by rw[hll.len];exact hc.2.2.1,zkG hz hl hc.2.2.2⟩,hl.len]
    exact⟨_,_,rfl,.d _,H.put (.els hz' (hll.splice (hl.take _) _)) _⟩
   ·cases e
  ·cases e
 ·cases e
theorem zuM (H:HR E f h h') {sz i:Nat} {x x' v:V} (hx:VR f x x') (e:zbO h sz x i=some v):∃v',zbO h' sz x' i=some v'∧VR f v v':=by
 cases x with
 |d y=>
  rw[hx.d_inv]
  refine⟨v,?_,?_⟩
  ·cases y<;>first|exact e|(simp[zbO]at e;done)
  ·cases y with
   |list n l=>
    simp only[zbO]at e
    obtain⟨z,_,e⟩:=Option.bind_eq_some_iff.1 e
    split at e
    ·cases e;exact .rp ..
    ·cases e
   |_=>simp[zbO]at e
 |sl b off len=>
  rw[hx.sl_inv]
  simp only[zbO]at e⊢
  split at e
  ·rename_i hi
   rw[if_pos hi]
   split at e
   ·rename_i z l fz hb
    obtain⟨l',fz',hb',hll,hz'⟩:=H.els hb
    split at e
    ·rename_i hc
     cases e
     rw[hb']
     dsimp only
     rw[if_pos (by rw[hll.len];exact hc)]
     exact⟨_,rfl,.ptr ..⟩
    ·cases e
   ·cases e
  ·cases e
 |_=>simp[zbO]at e
theorem zuN (H:HR E f h h') {sz:Nat} {lo hi mx:Option Nat} {x x' v:V} (hx:VR f x x') (e:zbx h sz x lo hi mx=some v):∃v',zbx h' sz x' lo hi mx=some v'∧VR f v v':=by
 cases x with
 |d y=>
  rw[hx.d_inv]
  refine⟨v,?_,?_⟩
  ·cases mx<;>cases y<;>first|exact e|(simp[zbx]at e;done)
  ·cases mx<;>cases y<;>first|(simp[zbx]at e;done)|(simp only[zbx]at e;split at e<;>first|(cases e;exact .d _)|cases e)
 |sl k off len=>
  rw[hx.sl_inv]
  cases mx with
  |some m=>simp[zbx]at e
  |none=>
   simp only[zbx]at e⊢
   split at e
   ·rename_i hc
    rw[if_pos hc]
    split at e
    ·rename_i z l fz hb
     obtain⟨l',fz',hb',hll,hz'⟩:=H.els hb
     split at e
     ·rename_i hd
      rw[hb']
      dsimp only
      rw[if_pos (by rw[hll.len];exact hd)]
      split at e
      ·rename_i he;cases e;rw[if_pos he];exact⟨_,rfl,.d _⟩
      ·rename_i he;cases e;rw[if_neg he];exact⟨_,rfl,.sl ..⟩
     ·cases e
    ·cases e
   ·cases e
 |_=>cases mx<;>simp[zbx]at e
theorem zCG (H:HR E f h h') {k:LK} {x x':V} {n:Nat} (hx:VR f x x') (e:zlv h k x=some n):zlv h' k x'=some n:=by
 cases x with
 |d y=>rw[hx.d_inv];cases k<;>cases y<;>first|exact e|(simp[zlv]at e;done)
 |sl b off len=>rw[hx.sl_inv];cases k<;>first|exact e|(simp[zlv]at e;done)
 |map b=>
  rw[hx.map_inv]
  cases k with
  |map=>
   simp only[zlv]at e⊢
   split at e
   ·rename_i es c hb
    obtain⟨es',hb',hm⟩:=H.map hb
    rw[hb']
    have:es'.length=es.length:=by clear e hb hb';induction hm with
     |nil=>rfl
     |cons _ _ ih=>simp[ih]
    simpa[this]using e
   ·cases e
  |_=>simp[zlv]at e
 |_=>cases k<;>simp[zlv]at e
def zFh (f:Nat→Nat):Option (V×Nat)→Option (V×Nat)→Prop
 |none,r=>r=none
 |some (v,t),r=>∃v',r=some (v',t)∧VR f v v'
theorem MRL.find {ks:List CK} {k:D} {es es':List (D×V×Nat)} (h:MRL f es es'):∀{r:Option (V×Nat)},zep ks k es=some r→∃r',zep ks k es'=some r'∧zFh f r r':=by
 induction h with
 |nil=>intro r e;simp only[zep,Option.some.injEq]at e⊢;subst e;exact⟨none,rfl,rfl⟩
 |cons h t ih=>
  intro r e
  rename_i x x' l l'
  obtain⟨a,b,c⟩:=x
  obtain⟨a',b',c'⟩:=x'
  obtain⟨h1,h2,h3⟩:=h
  dsimp only at h1 h2 h3
  subst h1;subst h3
  simp only[zep]at e⊢
  obtain⟨p,hp,e⟩:=Option.bind_eq_some_iff.1 e
  rw[hp]
  simp only[Option.bind_some]
  split at e
  ·rename_i hpt
   cases e
   rw[if_pos hpt]
   exact⟨_,rfl,b',rfl,h2⟩
  ·rename_i hpt
   rw[if_neg hpt]
   exact ih e
theorem MRL.get {ks:List CK} {k:D} {es es':List (D×V×Nat)} (h:MRL f es es') {r:Option (V×Nat)} (e:zhV ks k es=some r):∃r',zhV ks k es'=some r'∧zFh f r r':=by
 unfold zhV at e⊢
 split at e
 ·rename_i hk;rw[if_pos hk];exact h.find e
 ·cases e
theorem MRL.set {ks:List CK} {k:D} {v v':V} (hv:VR f v v') {es es':List (D×V×Nat)} (h:MRL f es es'):∀{r:List (D×V×Nat)},zrK ks k v es=some r→∃r',zrK ks k v' es'=some r'∧MRL f r r':=by
 induction h with
 |nil=>intro r e;simp[zrK]at e
 |cons h t ih=>
  intro r e
  rename_i x x' l l'
  obtain⟨a,b,c⟩:=x
  obtain⟨a',b',c'⟩:=x'
  obtain⟨h1,h2,h3⟩:=h
  dsimp only at h1 h2 h3
  subst h1;subst h3
  simp only[zrK]at e⊢
  obtain⟨p,hp,e⟩:=Option.bind_eq_some_iff.1 e
  rw[hp]
  simp only[Option.bind_some]
  split at e
  ·rename_i hpt
   cases e
   rw[if_pos hpt]
   exact⟨_,rfl,.cons ⟨rfl,hv,rfl⟩ t⟩
  ·rename_i hpt
   rw[if_neg hpt]
   obtain⟨z,hz,rfl⟩:=Option.map_eq_some_iff.1 e
   obtain⟨z',hz',hm⟩:=ih hz
   rw[hz']
   exact⟨_,rfl,.cons ⟨rfl,h2,rfl⟩ hm⟩
theorem MRL.append {a a' b b':List (D×V×Nat)} (h:MRL f a a') (g:MRL f b b'):MRL f (a++b) (a'++b'):=by
 induction h with
 |nil=>exact g
 |cons h t ih=>exact .cons h ih
theorem MRL.any {es es':List (D×V×Nat)} (h:MRL f es es') (t:Nat):(es'.any fun e=>e.2.2==t)=es.any fun e=>e.2.2==t:=by
 induction h with
 |nil=>rfl
 |cons h _ ih=>simp only[List.any_cons,ih,h.2.2]
theorem MRL.estore {es es':List (D×V×Nat)} (h:MRL f es es') {v v':V} (hv:VR f v v') (t:Nat):MRL f (es.map fun e=>if e.2.2==t then(e.1,v,t)else e) (es'.map fun e=>if e.2.2==t then(e.1,v',t)else e):=by
 induction h with
 |nil=>exact .nil
 |cons h _ ih=>
  refine .cons ?_ ih
  dsimp only
  rw[h.2.2]
  split
  ·exact⟨h.1,hv,rfl⟩
  ·exact h
theorem zqU (H:HR E f h h') {ks:List CK} {z:D} {m m' v:V} {k:D} {b:Bool} (hm:VR f m m') (e:zcP ks z h m k=some (v,b)):∃v',zcP ks z h' m' k=some (v',b)∧VR f v v':=by
 cases m with
 |d y=>
  rw[hm.d_inv]
  refine⟨v,?_,?_⟩
  ·cases y<;>first|exact e|(simp[zcP]at e;done)
  ·cases y with
   |nilm=>
    simp only[zcP]at e
    obtain⟨r,_,e⟩:=Option.map_eq_some_iff.1 e
    cases e;exact .d _
   |_=>simp[zcP]at e
 |map b=>
  rw[hm.map_inv]
  simp only[zcP]at e⊢
  split at e
  ·rename_i es c hb
   obtain⟨es',hb',hl⟩:=H.map hb
   obtain⟨r,hr,e⟩:=Option.map_eq_some_iff.1 e
   obtain⟨r',hr',hrr⟩:=hl.get hr
   rw[hb']
   simp only[hr',Option.map_some]
   cases r with
   |none=>have hrr:r'=none:=hrr;subst hrr;cases e;exact⟨_,rfl,.d _⟩
   |some p=>
    obtain⟨w,t⟩:=p
    obtain⟨w',rfl,hw⟩:=hrr
    cases e;exact⟨_,rfl,hw⟩
  ·cases e
 |_=>simp[zcP]at e
def zJU (E:Nat→Option Blk) (f:Nat→Nat) (app:App):Prop:=∀g g' x x' h h' v h1,app g x h=some (v,h1)→VR f g g'→VRL f x x'→HR E f h h'→∃v' h1',app g' x' h'=some (v',h1')∧VR f v v'∧HR E f h1 h1'
section
variable {app:App} {sh:FuncId→Bool} {fr:Nat} {env env' r r':Regs}
theorem zqV {lo:Option Opd} (he:∀i,VR f (env i) (env' i)) (hr:∀i,VR f (r i) (r' i)) {x:Option Nat} (e:zby (lo.map (opd env r))=some x):zby (lo.map (opd env' r'))=some x:=by
 cases lo with
 |none=>exact e
 |some o=>
  simp only[Option.map_some,zby,Option.map_eq_some_iff]at e⊢
  obtain⟨n,hn,rfl⟩:=e
  exact⟨n,(VR.opd he hr o).asNat hn,rfl⟩
theorem zuO (happ:zJU E f app) (he:∀i,VR f (env i) (env' i)) (hr:∀i,VR f (r i) (r' i)) (H:HR E f h h') {o:SOp} (ho:o.okz=true) {v:V} {h1:Heap} (e:zad app sh fr env r h o=some (v,h1)):
 ∃v' h1',zad app sh (f fr) env' r' h' o=some (v',h1')∧VR f v v'∧HR E f h1 h1':=by
 have op:=fun x=>VR.opd he hr x
 cases o with
 |move x=>cases e;exact⟨_,_,rfl,op x,H⟩
 |pick c a b=>
  simp only[zad]at e⊢
  split at e
  ·rename_i t hc
   have:=op c
   rw[hc]at this
   rw[this.d_inv]
   simp only[Option.some.injEq,Prod.mk.injEq]at e⊢
   obtain⟨rfl,rfl⟩:=e
   refine⟨_,_,⟨rfl,rfl⟩,?_,H⟩
   split<;>exact op _
  ·cases e
 |alloc z=>cases e;exact⟨_,_,rfl,.ptr ..,H.put (.els (Nat.le_refl _) (VRL.dd [z])) fr⟩
 |box x=>
  rw[zJq]at e⊢
  cases hx:opd env r x with
  |undef=>rw[hx]at e;simp[boxed,zEX]at e
  |_=>
   have hn:opd env r x≠.undef:=by rw[hx];simp
   have hc:=(op x).cells hn
   have b1:∀{y:V},y≠.undef→boxed y=some (.els y.cells.length [y] 0):=fun{y} hy=>by cases y<;>first|rfl|exact absurd rfl hy
   have hn':opd env' r' x≠.undef:=by
    intro hu
    have:=op x
    rw[hu,hx]at this
    cases this
   rw[b1 hn]at e
   rw[b1 hn',hc.len]
   simp only[zEX,Option.some.injEq,Prod.mk.injEq]at e⊢
   obtain⟨rfl,rfl⟩:=e
   exact⟨_,_,⟨rfl,rfl⟩,.ptr ..,H.put (.els (Nat.le_refl _) (.cons (op x) .nil)) fr⟩
 |build z ps=>
  simp only[zad]at e⊢
  obtain⟨cs,hcs,e⟩:=Option.map_eq_some_iff.1 e
  cases e
  obtain⟨cs',h2,h3⟩:=zoN he hr ps (VRL.dd z) hcs
  rw[h2]
  exact⟨_,_,rfl,h3.ofCells,H⟩
 |bslice len z ps=>
  simp only[zad]at e⊢
  obtain⟨cs,hcs,e⟩:=Option.map_eq_some_iff.1 e
  cases e
  have hz:0<z.cells.length:=by simp only[SOp.okz,bne_iff_ne]at ho;omega
  obtain⟨cs',h2,h3⟩:=zlP he hr hz ps (VRL.replicate (.d z) len) hcs
  rw[h2]
  exact⟨_,_,rfl,.sl ..,H.put (.els (Nat.le_refl _) h3) fr⟩
 |load n a=>
  simp only[zad]at e⊢
  obtain⟨w,hw,e⟩:=Option.map_eq_some_iff.1 e
  cases e
  obtain⟨w',h2,h3⟩:=zoM H (op a) hw
  rw[h2]
  exact⟨_,_,rfl,h3,H⟩
 |store n a x=>
  simp only[zad]at e⊢
  obtain⟨w,hw,e⟩:=Option.map_eq_some_iff.1 e
  cases e
  obtain⟨w',h2,h3⟩:=zuL H (op a) (op x) hw
  rw[h2]
  exact⟨_,_,rfl,.undef _,h3⟩
 |nilCheck x=>
  simp only[zad]at e⊢
  split at e
  ·rename_i hx
   cases e
   rw[(op x).isNil hx]
   exact⟨_,_,rfl,op x,H⟩
  ·cases e
 |bin op2 ty x y=>
  simp only[zad]at e⊢
  obtain⟨w,hw,e⟩:=Option.map_eq_some_iff.1 e
  cases e
  obtain⟨h2,z,rfl⟩:=(op x).binV (op y) hw
  rw[h2]
  exact⟨_,_,rfl,.d _,H⟩
 |un op2 x=>
  simp only[zad]at e⊢
  obtain⟨w,hw,e⟩:=Option.map_eq_some_iff.1 e
  cases e
  obtain⟨h2,z,rfl⟩:=(op x).unV hw
  rw[h2]
  exact⟨_,_,rfl,.d _,H⟩
 |conv k x=>
  simp only[zad]at e⊢
  obtain⟨w,hw,e⟩:=Option.map_eq_some_iff.1 e
  cases e
  obtain⟨h2,z,rfl⟩:=(op x).convV hw
  rw[h2]
  exact⟨_,_,rfl,.d _,H⟩
 |mkFunc g a b=>
  simp only[zad]at e⊢
  split at e
  ·rename_i hc;cases e;rw[if_pos hc];exact⟨_,_,rfl,.d _,H⟩
  ·rename_i hc
   cases e;rw[if_neg hc]
   have h1:=VRL.map (l:=a) he hr
   have h2:=VRL.map (l:=b) he hr
   exact⟨_,_,rfl,.clo h1.len h1.get h2.len h2.get,H⟩
 |mkMap=>cases e;exact⟨_,_,rfl,.map _,H.put (.map .nil) fr⟩
 |mkSlice z n l c=>
  simp only[zad]at e⊢
  obtain⟨l1,hl1,e⟩:=Option.bind_eq_some_iff.1 e
  obtain⟨c1,hc1,e⟩:=Option.bind_eq_some_iff.1 e
  rw[(op l).asNat hl1,(op c).asNat hc1]
  simp only[Option.bind_some]
  split at e
  ·rename_i hc
   cases e
   rw[if_pos hc]
   exact⟨_,_,rfl,.sl ..,H.put (.els (Nat.le_refl _) (.replicate (.d z) _)) fr⟩
  ·cases e
 |slice sz x lo hi mx=>
  simp only[zad]at e⊢
  obtain⟨l1,hl1,e⟩:=Option.bind_eq_some_iff.1 e
  obtain⟨l2,hl2,e⟩:=Option.bind_eq_some_iff.1 e
  obtain⟨l3,hl3,e⟩:=Option.bind_eq_some_iff.1 e
  obtain⟨w,hw,e⟩:=Option.map_eq_some_iff.1 e
  cases e
  obtain⟨w',h2,h3⟩:=zuN H (op x) hw
  rw[zqV he hr hl1,zqV he hr hl2,zqV he hr hl3]
  simp only[Option.bind_some,h2,Option.map_some]
  exact⟨_,_,rfl,h3,H⟩
 |faddr off x=>
  rw[zwa]at e⊢
  cases hw:faddrV off (opd env r x)with
  |none=>rw[hw]at e;cases e
  |some w=>
   rw[hw]at e;cases e
   obtain⟨w',h2,h3⟩:=(op x).faddrV hw
   rw[h2]
   exact⟨_,_,rfl,h3,H⟩
 |field off n x=>
  simp only[zad]at e⊢
  obtain⟨w,hw,e⟩:=Option.map_eq_some_iff.1 e
  cases e
  obtain⟨w',h2,h3⟩:=(op x).fld hw
  rw[h2]
  exact⟨_,_,rfl,h3,H⟩
 |iaddr sz x i=>
  simp only[zad]at e⊢
  obtain⟨j,hj,e⟩:=Option.bind_eq_some_iff.1 e
  obtain⟨w,hw,e⟩:=Option.map_eq_some_iff.1 e
  cases e
  obtain⟨w',h2,h3⟩:=zuM H (op x) hw
  rw[(op i).asNat hj]
  simp only[Option.bind_some,h2,Option.map_some]
  exact⟨_,_,rfl,h3,H⟩
 |aaddr len sz x i=>
  rw[zwc]at e⊢
  cases hj:asNat (opd env r i)with
  |none=>rw[hj]at e;cases e
  |some j=>
   rw[hj,zhk]at e
   rw[(op i).asNat hj,zhk]
   unfold zwb at e⊢
   split at e
   ·rename_i hc
    rw[if_pos hc]
    cases hw:faddrV (j*sz) (opd env r x)with
    |none=>rw[hw]at e;cases e
    |some w=>
     rw[hw]at e;cases e
     obtain⟨w',h2,h3⟩:=(op x).faddrV hw
     rw[h2]
     exact⟨_,_,rfl,h3,H⟩
   ·cases e
 |index x i=>
  rw[zwd]at e⊢
  cases hj:asNat (opd env r i)with
  |none=>rw[hj]at e;cases e
  |some j=>
   rw[hj,zhk]at e
   rw[(op i).asNat hj,zhk]
   cases hw:indexV j (opd env r x)with
   |none=>rw[hw]at e;cases e
   |some w=>
    rw[hw]at e;cases e
    obtain⟨h2,z,rfl⟩:=(op x).indexV hw
    rw[h2]
    exact⟨_,_,rfl,.d _,H⟩
 |aindex len sz n x i=>
  simp only[zad]at e⊢
  obtain⟨j,hj,e⟩:=Option.bind_eq_some_iff.1 e
  rw[(op i).asNat hj]
  simp only[Option.bind_some]
  split at e
  ·rename_i hc
   rw[if_pos hc]
   obtain⟨w,hw,e⟩:=Option.map_eq_some_iff.1 e
   cases e
   obtain⟨w',h2,h3⟩:=(op x).fld hw
   rw[h2]
   exact⟨_,_,rfl,h3,H⟩
  ·cases e
 |lookup ks z m k ok=>
  simp only[zad]at e⊢
  split at e
  ·rename_i kd hk
   have:=op k
   rw[hk]at this
   rw[this.d_inv]
   dsimp only
   obtain⟨⟨w,b⟩,hw,e⟩:=Option.map_eq_some_iff.1 e
   obtain⟨w',h2,h3⟩:=zqU H (op m) hw
   rw[h2]
   simp only[Option.map_some,Option.some.injEq,Prod.mk.injEq]at e⊢
   obtain⟨rfl,rfl⟩:=e
   refine⟨_,_,⟨rfl,rfl⟩,?_,H⟩
   split
   ·exact VRL.ofTuple (.cons h3 (.cons (.d _) .nil))
   ·exact h3
  ·cases e
 |mupd ks m k x=>
  simp only[zad]at e⊢
  split at e
  ·rename_i b kd hm hk
   have h1:=op m;rw[hm]at h1;rw[h1.map_inv]
   have h2:=op k;rw[hk]at h2;rw[h2.d_inv]
   dsimp only
   split at e
   ·rename_i es c hb
    obtain⟨es',hb',hl⟩:=H.map hb
    rw[hb']
    dsimp only
    obtain⟨q,hq,e⟩:=Option.bind_eq_some_iff.1 e
    obtain⟨q',hq',hqq⟩:=hl.get hq
    rw[hq']
    simp only[Option.bind_some]
    cases q with
    |none=>
     have hqq:q'=none:=hqq;dsimp only at e;subst hqq
     cases e
     exact⟨_,_,rfl,.undef _,H.put (.map (hl.append (.cons (e:=(kd,opd env r x,c)) (e':=(kd,opd env' r' x,c)) ⟨rfl,op x,rfl⟩ .nil))) b⟩
    |some p=>
     obtain⟨w,t⟩:=p
     obtain⟨w',rfl,_⟩:=hqq
     dsimp only at e⊢
     obtain⟨es1,h5,e⟩:=Option.map_eq_some_iff.1 e
     cases e
     obtain⟨es1',h6,h7⟩:=hl.set (op x) h5
     rw[h6]
     exact⟨_,_,rfl,.undef _,H.put (.map h7) b⟩
   ·cases e
  ·cases e
 |mentry ks z m k=>
  simp only[zad]at e⊢
  split at e
  ·rename_i b kd hm hk
   have h1:=op m;rw[hm]at h1;rw[h1.map_inv]
   have h2:=op k;rw[hk]at h2;rw[h2.d_inv]
   dsimp only
   split at e
   ·rename_i es c hb
    obtain⟨es',hb',hl⟩:=H.map hb
    rw[hb']
    dsimp only
    obtain⟨q,hq,e⟩:=Option.map_eq_some_iff.1 e
    obtain⟨q',hq',hqq⟩:=hl.get hq
    rw[hq']
    simp only[Option.map_some]
    cases q with
    |none=>
     have hqq:q'=none:=hqq;dsimp only at e;subst hqq
     cases e
     exact⟨_,_,rfl,VRL.ofTuple (VRL.dd [z,.int .i64 c]),H.put (.map (hl.append (.cons (e:=(kd,.d z,c)) (e':=(kd,.d z,c)) ⟨rfl,.d _,rfl⟩ .nil))) b⟩
    |some p=>
     obtain⟨w,t⟩:=p
     obtain⟨w',rfl,hw⟩:=hqq
     dsimp only at e⊢
     cases e
     exact⟨_,_,rfl,VRL.ofTuple (.cons hw (.cons (.d _) .nil)),H⟩
   ·cases e
  ·cases e
 |estore m s x=>
  simp only[zad]at e⊢
  split at e
  ·rename_i b t hm hs
   have h1:=op m;rw[hm]at h1;rw[h1.map_inv,(op s).asNat hs]
   dsimp only
   split at e
   ·rename_i es c hb
    obtain⟨es',hb',hl⟩:=H.map hb
    rw[hb']
    dsimp only
    split at e
    ·rename_i ha
     cases e
     rw[if_pos (by rw[hl.any];exact ha)]
     exact⟨_,_,rfl,.undef _,H.put (.map (hl.estore (op x) t)) b⟩
    ·cases e
   ·cases e
  ·cases e
 |rangeS x=>
  simp only[zad]at e⊢
  split at e
  ·rename_i s hs
   have h1:=op x;rw[hs]at h1;rw[h1.d_inv]
   cases e
   exact⟨_,_,rfl,.it _,H.put (.it s 0) fr⟩
  ·cases e
 |nextS x=>
  simp only[zad]at e⊢
  split at e
  ·rename_i b hs
   have h1:=op x;rw[hs]at h1;rw[h1.it_inv]
   dsimp only
   split at e
   ·rename_i s pos hb
    rw[H.it hb]
    dsimp only
    split at e
    ·rename_i hp
     cases e
     rw[if_pos hp]
     exact⟨_,_,rfl,.d _,H.put (.it ..) b⟩
    ·rename_i hp
     cases e
     rw[if_neg hp]
     exact⟨_,_,rfl,.d _,H⟩
   ·cases e
  ·cases e
 |extract x i=>
  simp only[zad]at e⊢
  obtain⟨w,hw,e⟩:=Option.map_eq_some_iff.1 e
  cases e
  obtain⟨w',h2,h3⟩:=(op x).extractV hw
  rw[h2]
  exact⟨_,_,rfl,h3,H⟩
 |call g args=>
  simp only[zad]at e⊢
  split at e
  ·rename_i hs
   rw[if_pos hs]
   exact happ _ _ _ _ _ _ _ _ e (.d _) (VRL.map he hr) H
  ·rename_i hs
   rw[if_neg hs]
   obtain⟨⟨ds,g1⟩,e1,e⟩:=Option.bind_eq_some_iff.1 e
   obtain⟨⟨w,g2⟩,e2,e⟩:=Option.bind_eq_some_iff.1 e
   obtain⟨⟨x,g3⟩,e3,e⟩:=Option.map_eq_some_iff.1 e
   cases e
   obtain⟨k,h2,h3⟩:=zCE e1 (VRL.map (l:=args) he hr) H
   rw[h2]
   simp only[Option.bind_some,e2,e3,Option.map_some]
   exact⟨_,_,rfl,.d _,h3⟩
 |callv g args=>exact happ _ _ _ _ _ _ _ _ e (op g) (VRL.map he hr) H
 |len k x=>
  simp only[zad]at e⊢
  obtain⟨w,hw,e⟩:=Option.map_eq_some_iff.1 e
  cases e
  rw[zCG H (op x) hw]
  exact⟨_,_,rfl,.d _,H⟩
 |app sz n a b=>exact zCF H (by simp only[SOp.okz,bne_iff_ne]at ho;omega) (op a) (op b) e
 |copy sz a b=>exact zyi H (by simp only[SOp.okz,bne_iff_ne]at ho;omega) (op a) (op b) e
 |mx a=>
  simp only[zad]at e⊢
  obtain⟨w,hw,e⟩:=Option.map_eq_some_iff.1 e
  cases e
  obtain⟨w',h2,h3⟩:=(VRL.map (l:=a) he hr).maxV hw
  rw[h2]
  exact⟨_,_,rfl,h3,H⟩
 |mn a=>
  simp only[zad]at e⊢
  obtain⟨w,hw,e⟩:=Option.map_eq_some_iff.1 e
  cases e
  obtain⟨w',h2,h3⟩:=(VRL.map (l:=a) he hr).minV hw
  rw[h2]
  exact⟨_,_,rfl,h3,H⟩
 |clear z x=>
  simp only[zad]at e⊢
  split at e
  ·rename_i b off len hx
   have h1:=op x;rw[hx]at h1;rw[h1.sl_inv]
   dsimp only
   split at e
   ·rename_i zs l fz hb
    obtain⟨l',fz',hb',hl,hz'⟩:=H.els hb
    rw[hb']
    dsimp only
    split at e
    ·rename_i hc
     cases e
     rw[if_pos ⟨hc.1,Nat.le_trans hz' hc.2.1,by rw[hl.len];exact hc.2.2⟩]
     exact⟨_,_,rfl,.undef _,H.put (.els hz' (hl.splice (.replicate (.d z) len) off)) b⟩
    ·cases e
   ·cases e
  ·rename_i hx
   have h1:=op x;rw[hx]at h1;rw[h1.d_inv]
   cases e
   exact⟨_,_,rfl,.undef _,H⟩
  ·cases e
end
def Foot.ren (f:Nat→Nat):Foot→Foot
 | .cells b i o n=> .cells (f b) i o n
 | .blocks l=> .blocks (l.map f)
theorem zyj (hf:∀a b,f a=f b→a=b) {x y:Foot} (h:zdj x y=true):zdj (x.ren f) (y.ren f)=true:=by
 have ne:∀{a b:Nat},(a !=b)=true→(f a !=f b)=true:=fun{a b} h=>by
  simp only[bne_iff_ne,ne_eq]at h⊢;exact fun e=>h (hf _ _ e)
 have al:∀{b:Nat} {l:List Nat},(l.all (· !=b))=true→((l.map f).all (· !=f b))=true:=fun{b l} h=>by
  simp only[List.all_eq_true,List.mem_map,forall_exists_index,and_imp,forall_apply_eq_imp_iff₂]at h⊢
  exact fun a ha=>ne (h a ha)
 cases x with
 |cells b i o n=>cases y with
  |cells b' i' o' n'=>
   simp only[zdj,Foot.ren,Bool.or_eq_true]at h⊢
   rcases h with((h|h)|h)|h
   ·exact .inl (.inl (.inl (ne h)))
   ·exact .inl (.inl (.inr h))
   ·exact .inl (.inr h)
   ·exact .inr h
  |blocks l=>exact al h
 |blocks l=>cases y with
  |cells b i o n=>exact al h
  |blocks l'=>
   simp only[zdj,Foot.ren,List.all_eq_true,List.mem_map,forall_exists_index,and_imp,forall_apply_eq_imp_iff₂]at h⊢
   exact fun a ha b hb=>ne (h a ha b hb)
section
variable {app:App} {sh:FuncId→Bool} {fr:Nat} {env env' r r':Regs}
theorem zsj (he:∀i,VR f (env i) (env' i)) (hr:∀i,VR f (r i) (r' i)) {o:SOp} {x:Foot} (e:zcG env r fr o=some x):zcG env' r' (f fr) o=some (x.ren f):=by
 have op:=fun x=>VR.opd he hr x
 cases o with
 |load n a=>
  simp only[zcG]at e⊢
  split at e
  ·rename_i hx;have:=op a;rw[hx]at this;rw[this.ptr_inv];cases e;rfl
  ·rename_i hx;have:=op a;rw[hx]at this;rw[this.rp_inv];cases e;rfl
  ·cases e
 |store n a y=>
  simp only[zcG]at e⊢
  split at e
  ·rename_i hx;have:=op a;rw[hx]at this;rw[this.ptr_inv];cases e;rfl
  ·cases e
 |alloc z=>cases e;rfl
 |box z=>cases e;rfl
 |bslice n z ps=>cases e;rfl
 |mkMap=>cases e;rfl
 |mkSlice z n a b=>cases e;rfl
 |rangeS y=>cases e;rfl
 |iaddr n y i=>
  simp only[zcG]at e⊢
  split at e
  ·rename_i hx;have:=op y;rw[hx]at this;rw[this.sl_inv];cases e;rfl
  ·rename_i hx;have:=op y;rw[hx]at this;rw[this.d_inv];cases e;rfl
  ·cases e
 |slice n y lo hi mx=>
  simp only[zcG]at e⊢
  split at e
  ·rename_i hx;have:=op y;rw[hx]at this;rw[this.sl_inv];cases e;rfl
  ·rename_i hx;have:=op y;rw[hx]at this;rw[this.d_inv];cases e;rfl
  ·cases e
 |app n m a b=>
  simp only[zcG]at e⊢
  split at e
  ·rename_i ha hb;have h1:=op a;have h2:=op b;rw[ha]at h1;rw[hb]at h2;rw[h1.d_inv,h2.d_inv];cases e;rfl
  ·rename_i ha hb;have h1:=op a;have h2:=op b;rw[ha]at h1;rw[hb]at h2;rw[h1.sl_inv,h2.d_inv];cases e;rfl
  ·rename_i ha hb;have h1:=op a;have h2:=op b;rw[ha]at h1;rw[hb]at h2;rw[h1.d_inv,h2.sl_inv];cases e;rfl
  ·rename_i ha hb;have h1:=op a;have h2:=op b;rw[ha]at h1;rw[hb]at h2;rw[h1.sl_inv,h2.sl_inv];cases e;rfl
  ·cases e
 |call g args=>
  simp only[zcG]at e⊢
  split at e
  ·rename_i ds hd
   rw[(VRL.map (l:=args) he hr).allD hd,hd];cases e;rfl
  ·cases e
 |_=>simp[zcG]at e
theorem zqW {x x':V} (h:VR f x x') (hb:zbR x=true):zbR x'=true:=by
 cases h<;>first|exact hb|(simp[zbR]at hb;done)
theorem zii (he:∀i,VR f (env i) (env' i)) {g:Option (Nat×Bool)} (hg:∀j w,g=some (j,w)→zbR (env j)=true):zbc env' g=zbc env g:=by
 cases g with
 |none=>rfl
 |some p=>
  obtain⟨j,w⟩:=p
  have h1:=hg j w rfl
  have h2:=he j
  simp only[zbc]
  cases hx:env j with
  |d x=>rw[hx]at h2;rw[h2.d_inv]
  |_=>rw[hx]at h1;simp[zbR]at h1
theorem zfA {base:Nat}:∀(ops:List (SOp×Option (Nat×Bool))) {i:Nat} {env envF:Regs} {h hF:Heap},zbj app sh base r ops i env h=some (envF,hF)→∀k,k<i→envF k=env k
 |[],i,env,envF,h,hF,e,k,hk=>by simp only[zbj,Option.some.injEq,Prod.mk.injEq]at e;rw[e.1]
 |(o,g)::ops,i,env,envF,h,hF,e,k,hk=>by
  simp only[zbj]at e
  split at e
  ·obtain⟨⟨v,h1⟩,_,e⟩:=Option.bind_eq_some_iff.1 e
   rw[zfA ops e k (by omega),Regs.set_ne _ _ (by omega)]
  ·rw[zfA ops e k (by omega),Regs.set_ne _ _ (by omega)]
theorem zij (he:∀i,VR f (env i) (env' i)) {v v':V} (hv:VR f v v') (t:Nat):∀i,VR f (env.set t v i) (env'.set t v' i):=fun i=>by
 rw[Regs.set_at,Regs.set_at]
 split
 ·exact hv
 ·exact he i
theorem zfg (happ:zJU E f app) {base base' N:Nat} (hbase:∀i,i<N→f (base+i)=base'+i) (hr:∀i,VR f (r i) (r' i)) {envF:Regs} {hF:Heap} {pairs:List (Nat×Nat)} (hp:∀j,pairs.contains (j,j)=true→zbR (envF j)=true):
 ∀(ops:List (SOp×Option (Nat×Bool))) {i:Nat} {env env':Regs} {h h':Heap},i+ops.length≤N→(∀x∈ops.zipIdx i,zhu pairs x=true)→(∀i,VR f (env i) (env' i))→HR E f h h'→zbj app sh base r ops i env h=some (envF,hF)→
 ∃envF' hF',zbj app sh base' r' ops i env' h'=some (envF',hF')∧(∀i,VR f (envF i) (envF' i))∧HR E f hF hF'
 |[],i,env,env',h,h',hN,hl,he,H,e=>by simp only[zbj,Option.some.injEq,Prod.mk.injEq]at e;obtain⟨rfl,rfl⟩:=e;exact⟨_,_,rfl,he,H⟩
 |(o,g)::ops,i,env,env',h,h',hN,hl,he,H,e=>by
  have hN':i+1+ops.length≤N:=by simp only[List.length_cons]at hN;omega
  have hl0:=hl ((o,g),i) (by simp)
  simp only[zhu,Bool.and_eq_true]at hl0
  have hw:zbc env' g=zbc env g:=by
   refine zii he fun j w hg=> ?_
   subst hg
   simp only[Bool.and_eq_true,decide_eq_true_eq]at hl0
   have h1:=hp j hl0.2.2
   rw[zfA ((o,some (j,w))::ops) e j hl0.2.1]at h1
   exact h1
  have hl1:∀x∈ops.zipIdx (i+1),zhu pairs x=true:=fun x hx=>hl x (by simp only[List.zipIdx_cons,List.mem_cons];exact .inr hx)
  simp only[zbj]at e⊢
  rw[hw]
  split at e
  ·rename_i ht
   rw[if_pos ht]
   obtain⟨⟨v,h1⟩,e1,e⟩:=Option.bind_eq_some_iff.1 e
   obtain⟨v',h1',e2,hv,H1⟩:=zuO happ he hr H hl0.1 e1
   rw[hbase i (by omega)]at e2
   rw[e2]
   simp only[Option.bind_some]
   exact zfg happ hbase hr hp ops hN' hl1 (zij he hv i) H1 e
  ·rename_i ht
   rw[if_neg ht]
   exact zfg happ hbase hr hp ops hN' hl1 (zij he (.d _) i) H e
theorem zjD (he:∀i,VR f (env i) (env' i)):∀(outs:List (Nat×Nat)) {r r':Regs},(∀i,VR f (r i) (r' i))→∀i,VR f (zew env outs r i) (zew env' outs r' i)
 |[],_,_,hr=>hr
 |(t,j)::outs,r,r',hr=>zjD he outs (zij hr (he j) t)
theorem zkH (hf:∀a b,f a=f b→a=b) {base base':Nat} {ops:List (SOp×Option (Nat×Bool))} (hbase:∀i,i<ops.length→f (base+i)=base'+i) (he:∀i,VR f (env i) (env' i)) (hr:∀i,VR f (r i) (r' i)) {pairs:List (Nat×Nat)}
 (hg:∀(k:Nat) o j w,ops[k]? =some (o,some (j,w))→zbR (env j)=true) (h:zbn base ops env r pairs=true):zbn base' ops env' r' pairs=true:=by
 simp only[zbn,List.all_eq_true]at h⊢
 intro x hx
 have h1:=h x hx
 obtain⟨i,j⟩:=x
 dsimp only at h1⊢
 split at h1
 ·rename_i hij;rw[if_pos hij];exact zqW (he i) h1
 ·rename_i hij
  rw[if_neg hij]
  split at h1
  ·rename_i a g b g' ea eb
   have w1:zbc env' g=zbc env g:=zii he fun k w hk=>hg i a k w (by rw[ea,hk])
   have w2:zbc env' g'=zbc env g':=zii he fun k w hk=>hg j b k w (by rw[eb,hk])
   rw[w1,w2]
   simp only[Bool.or_eq_true]at h1⊢
   rcases h1 with h1|h1
   ·exact .inl h1
   ·right
    split at h1
    ·rename_i x y fx fy
     have f1:=zsj he hr fx
     have f2:=zsj he hr fy
     rw[hbase _ (List.getElem?_eq_some_iff.1 ea).1]at f1
     rw[hbase _ (List.getElem?_eq_some_iff.1 eb).1]at f2
     rw[f1,f2]
     exact zyj hf h1
    ·cases h1
  ·cases h1
end
structure SR (E:Nat→Option Blk) (f:Nat→Nat) (s s':St):Prop where
 r:∀t,VR f (s.r t) (s'.r t)
 h:HR E f s.h s'.h
section
variable {app:App} {sh:FuncId→Bool} {n:Nat}
theorem zsk {g:St→Option (Ex×St)} (hg:∀s s' e s1,SR E f s s'→g s=some (e,s1)→∃s1',g s'=some (e,s1')∧SR E f s1 s1'):∀(n:Nat) {s s' s1:St} {e:Ex},SR E f s s'→iter g n s=some (e,s1)→∃s1',iter g n s'=some (e,s1')∧SR E f s1 s1'
 |0,s,s',s1,e,S,h=>by simp[iter]at h
 |n+1,s,s',s1,e,S,h=>by
  simp only[iter]at h⊢
  cases h1:g s with
  |none=>rw[h1]at h;cases h
  |some p=>
   obtain⟨ex,st⟩:=p
   rw[h1]at h
   obtain⟨st',h2,S2⟩:=hg s s' ex st S h1
   rw[h2]
   cases ex with
   |normal=>exact zsk hg n S2 h
   |exit id=>cases h;exact⟨_,rfl,S2⟩
   |ret=>cases h;exact⟨_,rfl,S2⟩
theorem HR.loop {h h':Heap} (H:HR E f h h') {b:Nat} {L:LoopB} (hb:h.get b=some (.loop L)):∃L',h'.get (f b)=some (.loop L')∧(∀t,VR f (L.regs t) (L'.regs t))∧L'.params=L.params∧L'.assign=L.assign∧L'.body=L.body∧L'.state=L.state∧L'.pending=L.pending∧L.assign.loc=true∧L.body.loc=true:=by
 obtain⟨x',h1,h2⟩:=H.blk b _ hb
 cases h2 with
 |loop a b c d e f g h=>exact⟨_,h1,a,b,c,d,e,f,g,h⟩
theorem zcL (happ:zJU E f app):∀(c:C),c.loc=true→∀{s s' s1:St} {e:Ex},SR E f s s'→zbw app sh n c s=some (e,s1)→∃s1',zbw app sh n c s'=some (e,s1')∧SR E f s1 s1'
 | .skip,_,s,s',s1,e,S,h=>by cases h;exact⟨_,rfl,S⟩
 | .exit _,_,s,s',s1,e,S,h=>by cases h;exact⟨_,rfl,S⟩
 | .ret,_,s,s',s1,e,S,h=>by cases h;exact⟨_,rfl,S⟩
 | .region ops outs pairs,hc,s,s',s1,e,S,h=>by
  simp only[zbw]at h⊢
  obtain⟨⟨env,h1⟩,e1,h⟩:=Option.bind_eq_some_iff.1 h
  dsimp only at h
  split at h
  ·rename_i hp
   cases h
   have hl:∀x∈ops.zipIdx 0,zhu pairs x=true:=by simpa[C.loc,List.all_eq_true]using hc
   have hb:∀j,pairs.contains (j,j)=true→zbR (env j)=true:=fun j hj=>by
    simp only[zbn,List.all_eq_true]at hp
    have:=hp (j,j) (by simpa using hj)
    simpa using this
   have hg:∀(k:Nat) o j w,ops[k]? =some (o,some (j,w))→zbR (env j)=true:=fun k o j w hk=>by
    have:=hl ((o,some (j,w)),k) (List.mem_zipIdx_iff_getElem?.2 (by simpa using hk))
    simp only[zhu,Bool.and_eq_true]at this
    exact hb j this.2.2
   obtain⟨env',h1',e2,he,H⟩:=zfg happ (N:=ops.length) (fun i _=>S.h.next i) S.r hb ops (by omega) hl (fun _=> .undef _) (S.h.bump ops.length) e1
   rw[show(s'.h.bump ops.length)=s'.h.bump ops.length from rfl,e2]
   simp only[Option.bind_some]
   rw[if_pos (zkH S.h.inj (fun i _=>S.h.next i) he S.r hg hp)]
   exact⟨_,rfl,zjD he outs S.r,H⟩
  ·cases h
 | .seq a b,hc,s,s',s1,e,S,h=>by
  simp only[C.loc,Bool.and_eq_true]at hc
  simp only[zbw]at h⊢
  cases h1:zbw app sh n a s with
  |none=>rw[h1]at h;cases h
  |some p=>
   obtain⟨ex,st⟩:=p
   rw[h1]at h
   obtain⟨st',h2,S2⟩:=zcL happ a hc.1 S h1
   rw[h2]
   cases ex with
   |normal=>exact zcL happ b hc.2 S2 h
   |exit id=>cases h;exact⟨_,rfl,S2⟩
   |ret=>cases h;exact⟨_,rfl,S2⟩
 | .cond c a b,hc,s,s',s1,e,S,h=>by
  simp only[C.loc,Bool.and_eq_true]at hc
  simp only[zbw]at h⊢
  have hv:VR f (opd zdd s.r c) (opd zdd s'.r c):=VR.opd (fun _=> .undef _) S.r c
  split at h
  ·rename_i hx;rw[hx]at hv;rw[hv.d_inv];exact zcL happ a hc.1 S h
  ·rename_i hx;rw[hx]at hv;rw[hv.d_inv];exact zcL happ b hc.2 S h
  ·cases h
 | .block id a,hc,s,s',s1,e,S,h=>by
  simp only[zbw]at h⊢
  cases h1:zbw app sh n a s with
  |none=>rw[h1]at h;cases h
  |some p=>
   obtain⟨ex,st⟩:=p
   rw[h1]at h
   obtain⟨st',h2,S2⟩:=zcL happ a (by simpa[C.loc]using hc) S h1
   rw[h2]
   cases ex with
   |normal=>cases h;exact⟨_,rfl,S2⟩
   |ret=>cases h;exact⟨_,rfl,S2⟩
   |exit id'=>
    dsimp only at h⊢
    split at h
    ·rename_i hi;cases h;rw[if_pos hi];exact⟨_,rfl,S2⟩
    ·rename_i hi;cases h;rw[if_neg hi];exact⟨_,rfl,S2⟩
 | .loop a,hc,s,s',s1,e,S,h=>by
  simp only[zbw]at h⊢
  exact zsk (fun s s' e s1 S h=>zcL happ a (by simpa[C.loc]using hc) S h) n S h
 | .rfunc g ps a b,hc,s,s',s1,e,S,h=>by
  simp only[C.loc,Bool.and_eq_true]at hc
  simp only[zbw]at h⊢
  have hv:VR f (opd zdd s.r g) (opd zdd s'.r g):=VR.opd (fun _=> .undef _) S.r g
  split at h
  ·cases h
  rename_i hfn
  have hfn1:(opd zdd s.r g).isFn=true:=by simpa using hfn
  rw[if_neg (by simp[hv.isFn hfn1])]
  obtain⟨⟨v,h1⟩,e1,h⟩:=Option.bind_eq_some_iff.1 h
  dsimp only at h
  have hn:f s.h.next=s'.h.next:=by simpa using S.h.next 0
  have hy:VRL f [.yld s.h.next] [.yld s'.h.next]:=by rw[←hn];exact .cons (.yld _) .nil
  have H0:=(S.h.put (.loop (L:={regs:=s.r,params:=ps,assign:=a,body:=b,state:= .ready,pending:=none}) (L':={regs:=s'.r,params:=ps,assign:=a,body:=b,state:= .ready,pending:=none}) S.r rfl rfl rfl rfl rfl hc.1 hc.2) s.h.next).bump 1
  rw[hn]at H0
  obtain⟨v',h1',e2,_,H1⟩:=happ _ _ _ _ _ _ _ _ e1 hv hy H0
  rw[e2]
  simp only[Option.bind_some]
  split at h
  ·rename_i L hL
   obtain⟨L',hL',r1,r2,r3,r4,r5,r6,r7,r8⟩:=H1.loop hL
   rw[hn]at hL'
   rw[hL']
   dsimp only
   split at h
   ·cases h
   rename_i hb
   rw[if_neg (by rw[r5];exact hb),r6]
   have H2:=H1.put (.loop (L:={L with state:= .exhausted}) (L':={L' with state:= .exhausted}) r1 r2 r3 r4 rfl r6 r7 r8) s.h.next
   rw[hn]at H2
   simp only[Option.some.injEq]at h
   cases hp:L.pending with
   |none=>rw[hp]at h;cases h;rw[r6,hp]at H2;exact⟨_,rfl,S.r,H2⟩
   |some j=>rw[hp]at h;cases h;rw[r6,hp]at H2;exact⟨_,rfl,S.r,H2⟩
  ·cases h
def AProg.Loc (A:AProg):Prop:=∀g fn,A.fns g=some fn→fn.body.loc=true
theorem zhw:∀{ts:List Nat} {vs vs':List V} {r r' r1:Regs},VRL f vs vs'→(∀i,VR f (r i) (r' i))→zbh ts vs r=some r1→∃r1',zbh ts vs' r'=some r1'∧∀i,VR f (r1 i) (r1' i)
 |[],[],vs',r,r',r1,hv,hr,e=>by rw[hv.nil_inv];cases e;exact⟨_,rfl,hr⟩
 |[],v::vs,vs',r,r',r1,hv,hr,e=>by simp[zbh]at e
 |t::ts,[],vs',r,r',r1,hv,hr,e=>by simp[zbh]at e
 |t::ts,v::vs,vs',r,r',r1,hv,hr,e=>by
  obtain⟨w,m,rfl,h1,h2⟩:=hv.cons_inv
  simp only[zbh]at e⊢
  exact zhw h2 (zij hr h1 t) e
theorem zco {s s':St} (S:SR E f s s'):∀{rs:List RV} {vs:List V},zaY s rs=some vs→∃vs',zaY s' rs=some vs'∧VRL f vs vs'
 |[],vs,e=>by cases e;exact⟨_,rfl,.nil⟩
 | .reg t::rs,vs,e=>by
  simp only[zaY]at e⊢
  obtain⟨ws,h1,rfl⟩:=Option.map_eq_some_iff.1 e
  obtain⟨ws',h2,h3⟩:=zco S h1
  rw[h2]
  exact⟨_,rfl,.cons (S.r t) h3⟩
 | .cell t n::rs,vs,e=>by
  simp only[zaY]at e⊢
  obtain⟨v,hv,e⟩:=Option.bind_eq_some_iff.1 e
  obtain⟨ws,h1,rfl⟩:=Option.map_eq_some_iff.1 e
  obtain⟨v',hv',hvv⟩:=zoM S.h (S.r t) hv
  obtain⟨ws',h2,h3⟩:=zco S h1
  rw[hv',h2]
  exact⟨_,rfl,.cons hvv h3⟩
theorem zCH {x x':List V} (hx:VRL f x x') (i:Nat):VR f (x.getD i .undef) (x'.getD i .undef):=by
 simp only[List.getD]
 cases hi:x[i]? with
 |none=>exact .undef _
 |some v=>obtain⟨w,h1,h2⟩:=hx.some hi;rw[h1];exact h2
theorem zjE {A:AProg} (hA:A.Loc):∀n,zJU E f (zeq A n)
 |0=>fun g g' x x' h h' v h1 e=>by simp[zeq]at e
 |n+1=>fun g g' x x' h h' v h1 e hg hx H=>by
  have ih:=zjE hA n
  have rf:∀{k:FuncId} {a a':List V},VRL f a a'→zfr A (zeq A n) n k a h=some (v,h1)→∃v' h1',zfr A (zeq A n) n k a' h'=some (v',h1')∧VR f v v'∧HR E f h1 h1':=by
   intro k a a' ha e
   cases hp:A.prim k with
   |some p=>
    simp only[zfr,hp]at e⊢
    obtain⟨ds,h2,e⟩:=Option.bind_eq_some_iff.1 e
    obtain⟨y,h3,e⟩:=Option.map_eq_some_iff.1 e
    cases e
    rw[ha.allD h2,h2]
    simp only[Option.bind_some,h3,Option.map_some]
    exact⟨_,_,rfl,.d _,H⟩
   |none=>
    simp only[zfr,hp]at e⊢
    obtain⟨fn,h2,e⟩:=Option.bind_eq_some_iff.1 e
    rw[h2]
    simp only[Option.bind_some]
    have S:SR E f {r:=fun i=>a.getD i .undef,h} {r:=fun i=>a'.getD i .undef,h:=h'}:=⟨zCH ha,H⟩
    split at e
    ·rename_i st hst
     obtain⟨st',k1,S1⟩:=zcL ih fn.body (hA _ _ h2) S hst
     rw[k1]
     dsimp only
     obtain⟨vs,k2,e⟩:=Option.map_eq_some_iff.1 e
     cases e
     obtain⟨vs',k3,k4⟩:=zco S1 k2
     rw[k3]
     exact⟨_,_,rfl,k4.oneOr,S1.h⟩
    ·rename_i st hst
     obtain⟨st',k1,S1⟩:=zcL ih fn.body (hA _ _ h2) S hst
     rw[k1]
     dsimp only
     obtain⟨vs,k2,e⟩:=Option.map_eq_some_iff.1 e
     cases e
     obtain⟨vs',k3,k4⟩:=zco S1 k2
     rw[k3]
     exact⟨_,_,rfl,k4.oneOr,S1.h⟩
    ·cases e
  simp only[zeq]at e⊢
  split at e
  ·rw[hg.d_inv];exact rf hx e
  ·obtain⟨a',b',rfl,h2,h3⟩:=hg.clo_inv
   exact rf ((h2.append hx).append h3) e
  ·rename_i b
   rw[hg.yld_inv]
   dsimp only
   unfold round at e⊢
   split at e
   ·rename_i L hL
    obtain⟨L',hL',r1,r2,r3,r4,r5,r6,r7,r8⟩:=H.loop hL
    rw[hL']
    dsimp only
    obtain⟨r,hr,e⟩:=Option.bind_eq_some_iff.1 e
    rw[r2,r3,r4]
    obtain⟨r',hr',hrr⟩:=zhw hx r1 hr
    rw[hr']
    simp only[Option.bind_some]
    split at e
    ·rename_i st hst
     obtain⟨st',k1,S1⟩:=zcL ih L.assign r7 (s:={r:=r,h:=h}) (s':={r:=r',h:=h'}) ⟨hrr,H⟩ hst
     rw[k1]
     dsimp only
     split at e
     ·rename_i L1 hL1
      obtain⟨L1',hL1',p1,p2,p3,p4,p5,p6,p7,p8⟩:=S1.h.loop hL1
      rw[hL1']
      dsimp only
      split at e
      ·rename_i hs
       rw[if_pos (by rw[p5];exact hs)]
       obtain⟨⟨ex,st2⟩,hst2,e⟩:=Option.bind_eq_some_iff.1 e
       have H2:=S1.h.put (.loop (L:={L1 with state:= .busy}) (L':={L1' with state:= .busy}) p1 p2 p3 p4 rfl p6 p7 p8) b
       obtain⟨st2',k2,S2⟩:=zcL ih L.body r8 (s:={st with h:=st.h.put b (.loop {L1 with state:= .busy})}) (s':={st' with h:=st'.h.put (f b) (.loop {L1' with state:= .busy})}) ⟨S1.r,H2⟩ hst2
       rw[k2]
       simp only[Option.bind_some]
       dsimp only at e
       split at e
       ·rename_i L2 hL2
        obtain⟨L2',hL2',q1,q2,q3,q4,q5,q6,q7,q8⟩:=S2.h.loop hL2
        rw[hL2']
        cases e
        refine⟨_,_,rfl,.d _,S2.h.put ?_ b⟩
        exact .loop q1 q2 q3 q4 rfl rfl q7 q8
       ·cases e
      ·cases e
     ·cases e
    ·cases e
   ·cases e
  ·cases e
theorem zyk {A:AProg} (hA:A.Loc):zJU E f (ans A):=fun g g' x x' h h' v h1 e hg hx H=>by
 obtain⟨n,hn⟩:=zcQ.1 e
 obtain⟨v',h1',h2,h3⟩:=zjE hA n _ _ _ _ _ _ _ _ hn hg hx H
 exact⟨v',h1',zcQ.2 ⟨n,h2⟩,h3⟩
theorem zyl {A:AProg} (hA:A.Loc) {c:C} (hc:c.loc=true) {s s':St} (S:SR E f s s') {Q:Ex→St→Prop} (h:Wp A c s Q):Wp A c s' fun e t=>∃t0,Q e t0∧SR E f t0 t:=by
 obtain⟨n,e,t,h1,hq⟩:=h
 obtain⟨t',h2,S2⟩:=zcL (zjE hA n) c hc S h1
 exact⟨n,e,t',h2,t,hq,S2⟩
end
end Go.AI
