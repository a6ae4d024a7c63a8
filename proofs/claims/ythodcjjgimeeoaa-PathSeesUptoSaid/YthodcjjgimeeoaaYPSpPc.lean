/- Shaken copy of a longer text: what one law needs. Its conditions: none. -/
import Derived.Test.YthodcjjgimeeoaaYPSpPs
import Derived.Test.YthodcjjgimeeoaaYPSpPp
set_option linter.unusedSimpArgs false
set_option linter.unusedVariables false
set_option linter.unusedSimpArgs false
set_option linter.unusedVariables false
set_option linter.unusedSectionVars false
set_option linter.unnecessarySimpa false
namespace Go.Proofs.Ythodcjjgimeeoaa.P
open Go.AI
theorem zxd (f:Forest) (h:Int) (hf:Fit f.nodes.l) (hr:zcE f.nodes.l) (hh:isN f.nodes.l h):pc prog 126 [zam f,.int .i64 h]=some (.int .i64 (root f.nodes.l h)):=by
 refine zJV f h _ ?_
 unfold zJU
 rw[zsM f h hf hr hh,zaz (e:=D.int .i64),Option.bind_some]
theorem zhO (f:Forest) (h:Int) (hf:Fit f.nodes.l) (hr:zcE f.nodes.l) (hh:isN f.nodes.l h):pc prog 86 [zam f,.int .i64 h]=some (.bool ((nodeD f.nodes.l (root f.nodes.l h)).kind==12)):=by
 refine zKT f h _ ?_
 unfold P86
 rw[zxd f h hf hr hh,zaz (e:=D.int .i64),Option.bind_some,zBo f _ hf.1 (zAy hr h hh).2.2,zaz (e:=zaj),Option.bind_some]
def hOk (f:List Node) (h:Int):Bool:=h==0||decide (isN f h)
def okS (f:List Node) (s:Step):Bool:=hOk f s.target&&hOk f s.related
theorem zBp {f:List Node} {h:Int} (e:hOk f h=true):h=0∨isN f h:=by
 unfold hOk at e
 rw[Bool.or_eq_true,beq_iff_eq,decide_eq_true_iff]at e
 exact e
theorem zxe {f:List Node} {h:Int}:hOk f h=(!(decide (h<0))&& !(decide ((f.length:Int)<h))):=by
 unfold hOk
 by_cases h1:h<0
 ·rw[decide_eq_true h1,decide_eq_false (by unfold isN;omega)];simp;omega
 ·rw[decide_eq_false h1]
  by_cases h2:(f.length:Int)<h
  ·rw[decide_eq_true h2,decide_eq_false (by unfold isN;omega)];simp;omega
  ·rw[decide_eq_false h2]
   by_cases h3:h=0
   ·simp[h3]
   ·rw[decide_eq_true (show isN f h by unfold isN;omega)];simp
theorem zAT (f:Forest) (l:Sl Step) (hf:Fit f.nodes.l) (hr:zcE f.nodes.l) (x:Int×Bool×Int×Int×Bool×Bool×Int) (y:Step):zaR (zcl f l x y) 0=some (if okS f.nodes.l y=true then .inl ()else .inr ()):=by
 have h0:rdA ([y.target,y.related]:List Int) 2 0=some y.target:=rfl
 have h1:rdA ([y.target,y.related]:List Int) 2 1=some y.related:=rfl
 have hw0:IntKind.wrap .i64 ((0:Int)+1)=1:=rfl
 have hw1:IntKind.wrap .i64 ((1:Int)+1)=2:=rfl
 have hone:∀z:Int,(if(!(z==0))=true then(dec (D.int .i64) (pc prog 82 [zam f,.list false (([z]).map (D.int .i64))]))else some 0)=some (if hOk f.nodes.l z=true then 0 else 2):=fun z=>by
  unfold hOk
  by_cases hz:z=0
  ·rw[if_neg (by simp[hz]),if_pos (by simp[hz])]
  ·rw[if_pos (by simpa using hz),zwX f z hf,zaz (e:=D.int .i64),zGE hr]
   by_cases hi:isN f.nodes.l z
   ·rw[if_pos hi,if_pos (by simp[hi])]
   ·rw[if_neg hi,if_neg (by simp[hi,hz])]
 have st:∀(i i' z:Int),i<2→rdA ([y.target,y.related]:List Int) 2 i=some z→IntKind.wrap .i64 (i+1)=i'→zcl f l x y i=some (if hOk f.nodes.l z=true then .inl i' else .inr (.inr ())):=by
  intro i i' z hi hz hw
  simp only[zcl,hz,Option.bind_some,hw]
  rw[if_pos (decide_eq_true (show i<((2:Nat):Int)from hi))]
  have:=hone z
  by_cases h:z=0
  ·rw[if_neg (by simp[h]),if_pos (by simp[hOk,h])]
  ·rw[if_pos (by simpa using h)]at this⊢
   rw[this,Option.bind_some]
   by_cases h2:hOk f.nodes.l z=true
   ·rw[if_pos h2,if_pos h2,if_neg (by decide)]
   ·rw[if_neg h2,if_neg h2,if_pos (by decide)]
 have s0:=st 0 1 _ (by decide) h0 hw0
 have s1:=st 1 2 _ (by decide) h1 hw1
 have s2:zcl f l x y 2=some (.inr (.inl ())):=by
  simp only[zcl];rfl
 unfold okS
 by_cases a:hOk f.nodes.l y.target=true
 ·rw[if_pos a]at s0
  rw[zaH s0,a,Bool.true_and]
  by_cases b:hOk f.nodes.l y.related=true
  ·rw[if_pos b]at s1
   rw[zaH s1,if_pos b]
   exact zaB s2
  ·rw[if_neg b]at s1
   rw[if_neg b]
   exact zaB s1
 ·rw[if_neg a]at s0
  rw[if_neg (by rw[Bool.and_eq_true];exact fun h=>a h.1)]
  exact zaB s0
def Rel (l:List Step) (s:Step) (j:Int):Prop:=(j<0∧s.target=0)∨∃(i:Nat) (hi:i<l.length),j=(i:Int)∧l[i]=s∧s.target≠0
theorem zpf (f:Forest) (l:Sl Step) (hf:Fit f.nodes.l) (hr:zcE f.nodes.l) (hl:l.l.length≤4096):∀n k,k+n=l.l.length→∀(s:Step) (j:Int),Rel l.l s j→
 ((l.l.drop k).all (okS f.nodes.l)=true∧∃s' j',zaR (zcm f l) (s.item,s.inShadow,s.target,s.related,s.closed,s.slot,(k:Int))=some (.inl s')∧zaR (zcn f l) (j,(k:Int))=some (.inl j')∧Rel l.l s' j')∨
 ((l.l.drop k).all (okS f.nodes.l)=false∧zaR (zcm f l) (s.item,s.inShadow,s.target,s.related,s.closed,s.slot,(k:Int))=some (.inr ())∧zaR (zcn f l) (j,(k:Int))=some (.inr ())):=by
 intro n
 induction n with
 |zero=>
  intro k hk s j hR
  obtain rfl:k=l.l.length:=by omega
  left
  rw[List.drop_length]
  refine⟨rfl,s,j,zaB ?_,zaB ?_,hR⟩
  ·simp only[zcm]
   rw[if_neg (by simp)]
  ·simp only[zcn]
   rw[if_neg (by simp)]
 |succ n ih=>
  intro k hk s j hR
  have hlt:k<l.l.length:=by omega
  have hw:=zaU (show k<2^62 by omega)
  rw[List.drop_eq_getElem_cons hlt,List.all_cons]
  have href:zcn f l (j,(k:Int))=some (if okS f.nodes.l l.l[k]=true then .inl (if l.l[k].target=0 then j else(k:Int),((k+1:Nat):Int))else .inr (.inr ())):=by
   simp only[zcn,zbi hlt,Option.bind_some,hw]
   rw[if_pos (decide_eq_true (by omega))]
   unfold okS
   rw[zxe,zxe]
   cases decide (l.l[k].target<0)<;>cases decide ((f.nodes.l.length:Int)<l.l[k].target)<;>cases decide (l.l[k].related<0)<;>cases decide ((f.nodes.l.length:Int)<l.l[k].related)<;>first|rfl|(by_cases ht:l.l[k].target=0<;>simp[ht])
  have hprg:zcm f l (s.item,s.inShadow,s.target,s.related,s.closed,s.slot,(k:Int))=some (if okS f.nodes.l l.l[k]=true then(if l.l[k].target=0 then .inl (s.item,s.inShadow,s.target,s.related,s.closed,s.slot,((k+1:Nat):Int))else .inl (l.l[k].item,l.l[k].inShadow,l.l[k].target,l.l[k].related,l.l[k].closed,l.l[k].slot,((k+1:Nat):Int)))else .inr (.inr ())):=by
   simp only[zcm,zbi hlt,Option.bind_some,hw,zAT f l hf hr]
   rw[if_pos (decide_eq_true (by omega))]
   cases okS f.nodes.l l.l[k]
   ·rfl
   ·simp only[if_true]
    by_cases ht:l.l[k].target=0<;>simp[ht]
  by_cases ho:okS f.nodes.l l.l[k]=true
  ·rw[ho,Bool.true_and]
   rw[if_pos ho]at href hprg
   by_cases ht:l.l[k].target=0
   ·rw[if_pos ht]at href hprg
    rw[zaH href,zaH hprg]
    exact ih (k+1) (by omega) s j hR
   ·rw[if_neg ht]at href hprg
    rw[zaH href,zaH hprg]
    exact ih (k+1) (by omega) l.l[k] (k:Int) (.inr ⟨k,hlt,rfl,rfl,ht⟩)
  ·right
   rw[if_neg ho]at href hprg
   exact⟨by simp[ho],zaB hprg,zaB href⟩
theorem zpg (f:Forest) (l:Sl Step) (hf:Fit f.nodes.l):∃r,P37 f l=some r∧P38 f l=some r:=by
 have h0:pc prog 82 [zam f,.list true []]=some (.int .i64 (zfB f.nodes.l [])):=znn f ⟨true,[]⟩ hf (by simp)
 by_cases hrb:zhN f.nodes.l=true
 case neg=>
  have e:zfB f.nodes.l []=5:=by unfold zfB;rw[if_neg hrb]
  refine⟨(false,5),?_,?_⟩
  ·unfold P37
   rw[h0,zaz (e:=D.int .i64),Option.bind_some,e,if_pos (by decide)]
  ·unfold P38
   rw[zeJ f hf,zaz (e:=D.bool),Option.bind_some,if_pos (by simpa using hrb)]
 have hr:=zhj.1 hrb
 have e:zfB f.nodes.l []=0:=by unfold zfB;rw[if_pos hrb];rfl
 by_cases hm:4096<l.l.length
 ·refine⟨(false,3),?_,?_⟩
  ·unfold P37
   rw[h0,zaz (e:=D.int .i64),Option.bind_some,e,if_neg (by decide),if_pos (decide_eq_true (by omega))]
  ·unfold P38
   rw[zeJ f hf,zaz (e:=D.bool),Option.bind_some,if_neg (by simp[hrb]),if_pos (decide_eq_true (by omega))]
 have hl:l.l.length≤4096:=by omega
 have hloop:=zpf f l hf hr hl l.l.length 0 (by omega) (⟨0,false,0,0,false,false⟩:Step) (-1) (.inl ⟨by decide,rfl⟩)
 rw[show((0:Nat):Int)=0 from rfl,List.drop_zero]at hloop
 dsimp only at hloop
 rcases hloop with⟨g0,s,j,g1,g2,g3⟩|⟨g0,g1,g2⟩
 case inr=>
  refine⟨(false,2),?_,?_⟩
  ·unfold P37
   rw[h0,zaz (e:=D.int .i64),Option.bind_some,e,if_neg (by decide),if_neg (by simp;omega),g1,Option.bind_some]
  ·unfold P38
   rw[zeJ f hf,zaz (e:=D.bool),Option.bind_some,if_neg (by simp[hrb]),if_neg (by simp;omega),g2,Option.bind_some]
 rcases g3 with⟨h1,h2⟩|⟨i,hi,rfl,h1,h2⟩
 ·refine⟨(false,0),?_,?_⟩
  ·unfold P37
   rw[h0,zaz (e:=D.int .i64),Option.bind_some,e,if_neg (by decide),if_neg (by simp;omega),g1,Option.bind_some]
   dsimp only
   rw[if_neg (by simp[h2])]
  ·unfold P38
   rw[zeJ f hf,zaz (e:=D.bool),Option.bind_some,if_neg (by simp[hrb]),if_neg (by simp;omega),g2,Option.bind_some]
   dsimp only
   rw[if_pos (decide_eq_true h1)]
 ·have hok:=List.all_eq_true.1 g0 _ (List.getElem_mem hi)
  rw[h1]at hok
  unfold okS at hok
  rw[Bool.and_eq_true]at hok
  have ht:=(zBp hok.1).resolve_left h2
  have hrel:=zBp hok.2
  refine⟨((nodeD f.nodes.l (root f.nodes.l s.target)).kind==12||(!(s.related==0)&&((nodeD f.nodes.l (root f.nodes.l s.related)).kind==12)),0),?_,?_⟩
  ·unfold P37
   rw[h0,zaz (e:=D.int .i64),Option.bind_some,e,if_neg (by decide),if_neg (by simp;omega),g1,Option.bind_some]
   dsimp only
   rw[if_pos (by simpa using h2),znt f _ hf hr ht,zaz (e:=zaj),Option.bind_some]
   by_cases hz:s.related=0
   ·rw[show(!(s.related==0))=false by simp[hz]]
    cases(nodeD f.nodes.l (root f.nodes.l s.target)).kind==12<;>rfl
   ·rw[znt f _ hf hr (hrel.resolve_left hz),zaz (e:=zaj),Option.bind_some,show(!(s.related==0))=true by simpa using hz]
    cases(nodeD f.nodes.l (root f.nodes.l s.target)).kind==12<;>rfl
  ·unfold P38
   rw[zeJ f hf,zaz (e:=D.bool),Option.bind_some,if_neg (by simp[hrb]),if_neg (by simp;omega),g2,Option.bind_some]
   dsimp only
   rw[if_neg (by simp),zbi hi,Option.bind_some,h1,zhO f _ hf hr ht,zaz (e:=D.bool),Option.bind_some]
   by_cases hz:s.related=0
   ·rw[show(!(s.related==0))=false by simp[hz]]
    cases(nodeD f.nodes.l (root f.nodes.l s.target)).kind==12<;>rfl
   ·rw[zhO f _ hf hr (hrel.resolve_left hz),zaz (e:=D.bool),Option.bind_some,show(!(s.related==0))=true by simpa using hz]
    cases(nodeD f.nodes.l (root f.nodes.l s.target)).kind==12<;>rfl
theorem zko {f:Forest} {l:Sl Step} {r:Bool×Int} (h:P37 f l=some r) (n:Bool):pc prog 37 [zam f,.list n (l.l.map zan)]=some (eT2 D.bool (D.int .i64) r):=zKO f ⟨n,l.l⟩ r h
theorem zkp {f:Forest} {l:Sl Step} {r:Bool×Int} (h:P38 f l=some r) (n:Bool):pc prog 38 [zam f,.list n (l.l.map zan)]=some (eT2 D.bool (D.int .i64) r):=zKP f ⟨n,l.l⟩ r h
theorem zxf (a:Sl Int) (hl:a.l.length≤2^40):pc prog 39 [eSl (D.int .i64) a,eSl (D.int .i64) a]=some (.bool true):=by
 refine zKQ a a _ ?_
 unfold P39
 have key:∀n k,k+n=a.l.length→zaR (zde a a) (k:Int)=some (.inl ()):=by
  intro n
  induction n with
  |zero=>
   intro k hk
   obtain rfl:k=a.l.length:=by omega
   refine zaB ?_
   simp only[zde]
   rw[if_neg (by simp)]
  |succ n ih=>
   intro k hk
   have hlt:k<a.l.length:=by omega
   have hw:=zaU (show k<2^62 by omega)
   rw[zaH (y:=((k+1:Nat):Int))]
   ·exact ih (k+1) (by omega)
   ·simp only[zde,zbi hlt,Option.bind_some,hw]
    rw[if_pos (decide_eq_true (by omega)),if_neg (by simp)]
 have:=key a.l.length 0 (by omega)
 rw[show((0:Nat):Int)=0 from rfl]at this
 rw[if_neg (by simp),this,Option.bind_some]
theorem zxg (a b:Sl Step) (hab:a.l=b.l) (hl:a.l.length≤2^40):pc prog 40 [eSl zan a,eSl zan b]=some (.bool true):=by
 refine zKR a b _ ?_
 unfold P40
 have key:∀n k,k+n=a.l.length→zaR (zdf a b) (k:Int)=some (.inl ()):=by
  intro n
  induction n with
  |zero=>
   intro k hk
   obtain rfl:k=a.l.length:=by omega
   refine zaB ?_
   simp only[zdf]
   rw[if_neg (by simp)]
  |succ n ih=>
   intro k hk
   have hlt:k<a.l.length:=by omega
   have hw:=zaU (show k<2^62 by omega)
   have hrb:rd b.l (k:Int)=some a.l[k]:=by rw[←hab];exact zbi hlt
   rw[zaH (y:=((k+1:Nat):Int))]
   ·exact ih (k+1) (by omega)
   ·simp only[zdf,zbi hlt,hrb,Option.bind_some,hw]
    rw[if_pos (decide_eq_true (by omega)),if_neg (by simp)]
 have:=key a.l.length 0 (by omega)
 rw[show((0:Nat):Int)=0 from rfl]at this
 rw[if_neg (by rw[hab];simp),this,Option.bind_some]
theorem zph (f:Forest) (l:Sl Step) (a:Int) (_:Forest.ok f) (hn:Sl.ok (fun y=>Step.ok y) l) (ho:IntKind.i64.min≤a∧a≤IntKind.i64.max) (hb:D.bulkAll [zam f,eSl zan l,.int .i64 a]≤1048576):pc prog 10 [zam f,eSl zan l,.int .i64 a]=some (.bool true):=by
 have ho': -9223372036854775808≤a∧a≤9223372036854775807:=ho
 have hf:Fit f.nodes.l:=zAO hb
 have hroom:AI.roomBytes=2^46:=rfl
 have hlen:l.l.length≤2^40:=by
  have h1:=zly (x:=eSl zan l) (l:=[zam f,eSl zan l,.int .i64 a]) (by simp)
  have h1:=Nat.le_trans h1 hb
  simp only[eSl,D.bulk]at h1
  have h0:=zdq (l.l.map zan)
  simp only[List.length_map]at h0
  omega
 refine zKK f l a _ ?_
 unfold P10
 have hC:∃r:Sl Int×Int,r.1.l.length≤2^40∧P35 l a=some r∧P36 l a=some r:=by
  rcases zns l a ho' with⟨h1,h2,h3⟩|⟨h1,h2,h3⟩|⟨k,hk,h,hak,h40,h1,h2,h3⟩
  ·exact⟨_,by simp,h2,h3⟩
  ·exact⟨_,by simp,h2,h3⟩
  ·have hsub:=(zqw hk h).length_le
   rw[List.length_map]at hsub
   exact⟨_,by dsimp only;omega,h2,h3⟩
 obtain⟨r1,c0,c1,c2⟩:=hC
 obtain⟨r2,d1,d2⟩:=zpg f l hf
 have hI:pc prog 39 [.list r1.1.n (r1.1.l.map (D.int .i64)),.list r1.1.n (r1.1.l.map (D.int .i64))]=some (.bool true):=zxf r1.1 c0
 have hS:∀n,pc prog 40 [.list n (l.l.map zan),.list l.n (l.l.map zan)]=some (.bool true):=fun n=>zxg ⟨n,l.l⟩ l rfl hlen
 by_cases hz:l.l=[]
 ·rw[if_pos hz]
  have e1:=zgG c1 false
  have e2:=zko d1 false
  have e3:=hS false
  rw[show l.l.map zan=[] by rw[hz];rfl]at e1 e2
  rw[show(D.list false (l.l.map zan))= .list false [] by rw[hz];rfl]at e3
  rw[e1,zqv c2 l.n,e2,zkp d2 l.n,e3,zeu]
  simp only[zaz (e:=eT2 (eSl (D.int .i64)) (D.int .i64)),zaz (e:=eT2 D.bool (D.int .i64)),Option.bind_some,hI,zaz (e:=D.bool)]
  simp
 ·rw[if_neg hz,if_pos (by rw[hroom];omega),zgG c1 false,zqv c2 l.n,zko d1 false,zkp d2 l.n,hS false,zeu]
  simp only[zaz (e:=eT2 (eSl (D.int .i64)) (D.int .i64)),zaz (e:=eT2 D.bool (D.int .i64)),Option.bind_some,hI,zaz (e:=D.bool)]
  simp
end Go.Proofs.Ythodcjjgimeeoaa.P
