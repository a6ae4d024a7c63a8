/- Shaken copy of a longer text: what one law needs. Its conditions: none. -/
import Derived.Test.YthodcjjgimeeoaaYAiD
import Derived.ChangeSame
import Derived.ChangeReads
import Derived.Carry
import Derived.Deep.Slices
import Derived.RowKit
set_option linter.unusedSimpArgs false
set_option linter.unusedVariables false
set_option linter.unusedSectionVars false
set_option linter.unnecessarySimpa false
namespace Go.AI
open Go.ChangeShapes
inductive Ty where
 |bool|int (k:IntKind)|str|list (e:Ty)|agg (cs:List Ty)
 deriving Inhabited
inductive HasTy:Ty→D→Prop
 |bool (b:Bool):HasTy .bool (.bool b)
 |int {k:IntKind} {n:Int} (h1:k.min≤n) (h2:n≤k.max):HasTy (.int k) (.int k n)
 |str {s:List UInt8} (h:s.length≤maxLen):HasTy .str (.str s)
 |nil {e:Ty}:HasTy (.list e) (.list true [])
 |list {e:Ty} {l:List D} (h:∀x∈l,HasTy e x):HasTy (.list e) (.list false l)
 |agg {ts:List Ty} {xs:List D} (hl:xs.length=ts.length) (h:∀(j:Nat) (t:Ty) (x:D),ts[j]? =some t→xs[j]? =some x→HasTy t x):HasTy (.agg ts) (.agg xs)
mutual
def D.bulk:D→Nat
 | .str s=>s.length+1
 | .list _ l=>D.bulkAll l+1
 | .agg l=>D.bulkAll l+1
 |_=>1
def D.bulkAll:List D→Nat
 |[]=>0
 |x::r=>D.bulk x+D.bulkAll r
end
theorem zfz (a b:List D):D.bulkAll (a++b)=D.bulkAll a+D.bulkAll b:=by
 induction a with
 |nil=>simp[D.bulkAll]
 |cons x a ih=>simp only[List.cons_append,D.bulkAll,ih];omega
section
variable (P:Program)
def zbQ (t:TypeId):Bool:=match P.underlying t with|some (.struct _)=>true|_=>false
def zuy (agg:Bool) (l:List Ty):Option Ty:=if agg then some (.agg l)else match l with|[x]=>some x|_=>none
def zuz (f:TypeId→Option (List Ty)):Nat→List Field→Option (List Ty)
 |_,[]=>some []
 |off,x::r=>if x.offset==off then(f x.type).bind fun ts=>if ts.length==P.cellsOf x.type then(zuz f (off+ts.length) r).map fun l=>ts++l else none else none
def zoi:Nat→TypeId→Option (List Ty)
 |0,_=>none
 |n+1,t=>match P.underlying t with
  |some .bool=>some [.bool]
  |some (.int k)=>some [.int k]
  |some .string=>some [.str]
  |some (.slice e)=>(zoi n e).bind fun l=>if l.length==P.cellsOf e&&l.length !=0 then(zuy (zbQ P e) l).map fun x=>[.list x]else none
  |some (.struct fs)=>(zuz P (zoi n) 0 fs.toList).bind fun l=>if l.length==P.cellsOf t then some l else none
  |_=>none
end
structure Cells (w:World) (S:Nat→Nat→Prop) (ts:List Ty) (cs:List Value) (xs:List D):Prop where
 len:xs.length=cs.length
 tlen:ts.length=cs.length
 ty:∀(j:Nat) t x,ts[j]? =some t→xs[j]? =some x→HasTy t x
 rd:∀(j:Nat) x v,xs[j]? =some x→cs[j]? =some v→RD w S x v
theorem Cells.append {w:World} {S:Nat→Nat→Prop} {ts ts':List Ty} {cs cs':List Value} {xs xs':List D} (h:Cells w S ts cs xs) (h':Cells w S ts' cs' xs'):Cells w S (ts++ts') (cs++cs') (xs++xs'):=by
 obtain⟨h1,h2,h3,h4⟩:=h
 obtain⟨g1,g2,g3,g4⟩:=h'
 refine⟨by simp[h1,g1],by simp[h2,g2],fun j t x ht hx=> ?_,fun j x v hx hv=> ?_⟩
 ·rcases Nat.lt_or_ge j cs.length with hj|hj
  ·rw[List.getElem?_append_left (by omega)]at ht hx;exact h3 j t x ht hx
  ·rw[List.getElem?_append_right (by omega)]at ht hx
   rw[h2]at ht;rw[h1]at hx;exact g3 _ t x ht hx
 ·rcases Nat.lt_or_ge j cs.length with hj|hj
  ·rw[List.getElem?_append_left (by omega)]at hv hx;exact h4 j x v hx hv
  ·rw[List.getElem?_append_right (by omega)]at hv hx
   rw[h1]at hx;exact g4 _ x v hx hv
theorem Cells.one {w:World} {S:Nat→Nat→Prop} {t:Ty} {v:Value} {x:D} (h:HasTy t x) (h':RD w S x v):Cells w S [t] [v] [x]:=by
 refine⟨rfl,rfl,fun j t' x' ht hx=> ?_,fun j x' v' hx hv=> ?_⟩
 ·cases j with
  |zero=>cases ht;cases hx;exact h
  |succ j=>cases ht
 ·cases j with
  |zero=>cases hx;cases hv;exact h'
  |succ j=>cases hx
def zBe (agg:Bool) (xs:List D):D:=if agg then .agg xs else xs.headD .nili
structure Bulk (H:Type) where
 one:DataW H→Nat
 all:List (DataW H)→Nat
 nil:all []=0
 cons:∀d r,all (d::r)=one d+all r
 pos:∀d,1≤one d
 str:∀s,one (.lit (.string s))=s.length+1
 slice:∀a b,one (.slice a b)=all a+all b+1
 agg:∀a,one (.agg a)=all a+1
variable {H:Type} {enc:TypeId×Value→H} {P:Program} {w:World} {base:Nat} {spare:Nat→Bool} {held:Bool}
theorem zyF {α β:Type} {f:α→Option β}:∀{l:List α} {r:List β},l.mapM f=some r→r.length=l.length∧∀(i:Nat) x y,l[i]? =some x→r[i]? =some y→f x=some y:=fun h=>⟨mapM_some_length h,fun i x y hx hy=>by rw[mapM_some_get h i x hx];exact hy⟩
theorem ziR {α β:Type} {f:α→Option β}:∀(l:List α) (r:List β),r.length=l.length→(∀(i:Nat) (x:α),l[i]? =some x→f x=r[i]?)→l.mapM f=some r
 |[],[],_,_=>rfl
 |x::l,y::r,hl,h=>by
  rw[List.mapM_cons,h 0 x rfl]
  have:=ziR l r (by simpa using hl) fun i z hz=>by simpa using h (i+1) z (by simpa using hz)
  rw[this];rfl
 |[],_::_,hl,_=>by simp at hl
 |_::_,[],hl,_=>by simp at hl
def D.flat:D→Bool| .agg _=>false|_=>true
theorem zry {x:D} (h:x.flat=true):x.cells=[x]:=by cases x<;>first|rfl|cases h
theorem zhG {a:Addr} {n:Nat} {cs:List Value} (h:w.cells? base a n=some cs):cs.length=n∧∀(j:Nat) v,cs[j]? =some v→w.cell? (a.add j)=some v:=by
 unfold World.cells? at h
 split at h
 ·obtain⟨h1,h2⟩:=zyF h
  simp only[List.length_range]at h1
  refine⟨h1,fun j v hv=> ?_⟩
  have hj:j<n:=by have:=zas hv;omega
  exact h2 j j v (by rw[List.getElem?_range hj]) hv
 ·cases h
theorem cell_spot {a:Addr} {v:Value} (h:w.cell? a=some v):a.spot=none:=by
 unfold World.cell? at h
 split at h
 ·split at h
  ·cases h
  ·rename_i hs;simpa using hs
 ·cases h
def zBf (P:Program) (w:World) (B:Bulk H) (t:TypeId) (ts:List Ty) (cs:List Value) (d:DataW H):Prop:=
 ∃xs,Cells w (fun _ _=>True) ts cs xs∧D.bulkAll xs+(if zbQ P t then 1 else 0)≤B.one d∧(zbQ P t=false→∃x,xs=[x]∧x.flat=true)
theorem zgO {S:Nat→Nat→Prop} {agg:Bool} {ts:List Ty} {T:Ty} {cs:List Value} {xs:List D} (h:Cells w S ts cs xs) (hT:zuy agg ts=some T) (hf:agg=false→∃x,xs=[x]∧x.flat=true):HasTy T (zBe agg xs)∧(zBe agg xs).cells=xs:=by
 cases agg with
 |true=>
  simp only[zuy,if_true,Option.some.injEq]at hT
  subst hT
  exact⟨.agg (by rw[h.len,h.tlen]) h.ty,rfl⟩
 |false=>
  obtain⟨x,rfl,hx⟩:=hf rfl
  have h1:=h.tlen
  have h2:=h.len
  simp only[zuy,Bool.false_eq_true,if_false]at hT
  split at hT
  ·simp only[Option.some.injEq]at hT;subst hT
   exact⟨h.ty 0 _ _ rfl rfl,zry hx⟩
  ·cases hT
theorem zpB {B:Bulk H} {agg:Bool} {xs:List D} {d:DataW H} (h:D.bulkAll xs+(if agg then 1 else 0)≤B.one d) (hx:agg=false→∃x,xs=[x]∧x.flat=true):D.bulk (zBe agg xs)≤B.one d:=by
 cases agg with
 |true=>simp only[zBe,if_true,D.bulk];simpa using h
 |false=>
  obtain⟨x,rfl,_⟩:=hx rfl
  simpa[zBe,D.bulkAll]using h
theorem ziS {B:Bulk H} {f:TypeId→Option (List Ty)} {fuel:Nat} (ih:∀t ts cs d p,f t=some ts→DataW.trod enc P w base spare held fuel t cs=some (d,p)→zBf P w B t ts cs d):
 ∀(fs:List Field) (off:Nat) (ts:List Ty) (cs:List Value) (xs:List (DataW H×List MemPlace)),zuz P f off fs=some ts→(fs.mapM fun g=>DataW.trod enc P w base spare held fuel g.type ((cs.drop g.offset).take (P.cellsOf g.type)))=some xs→off+ts.length≤cs.length→
  ∃ys,Cells w (fun _ _=>True) ts ((cs.drop off).take ts.length) ys∧D.bulkAll ys≤B.all (xs.map (·.1))
 |[],off,ts,cs,xs,hf,hm,_=>by
  simp only[zuz,Option.some.injEq]at hf;subst hf
  exact⟨[],⟨by simp,by simp,fun j t x ht=>(by cases ht),fun j x v hx=>(by cases hx)⟩,by simp[D.bulkAll]⟩
 |g::fs,off,ts,cs,xs,hf,hm,hle=>by
  simp only[zuz]at hf
  split at hf
  case isFalse=>cases hf
  rename_i hoff
  have hoff:g.offset=off:=by simpa using hoff
  obtain⟨ts1,h1,hf⟩:=zap hf
  split at hf
  case isFalse=>cases hf
  rename_i hlen
  have hlen:ts1.length=P.cellsOf g.type:=by simpa using hlen
  obtain⟨ts2,h2,rfl⟩:=zav hf
  rw[List.mapM_cons]at hm
  obtain⟨y,hy,hm⟩:=zap hm
  obtain⟨ys,hys,hm⟩:=zap hm
  simp only[Option.pure_def,Option.some.injEq]at hm;subst hm
  rw[List.length_append]at hle
  obtain⟨zs1,c1,b1,_⟩:=ih _ _ _ y.1 y.2 h1 hy
  obtain⟨zs2,c2,b2⟩:=ziS ih fs _ _ _ _ h2 hys (by omega)
  refine⟨zs1++zs2,?_,by rw[zfz,List.map_cons,B.cons];omega⟩
  have he:((cs.drop off).take (ts1++ts2).length)=((cs.drop g.offset).take (P.cellsOf g.type))++((cs.drop (off+ts1.length)).take ts2.length):=by
   rw[hoff,←hlen,List.length_append,List.take_add,List.drop_drop]
  rw[he]
  exact c1.append c2
theorem zjY {B:Bulk H} {S:Nat→Nat→Prop}:∀(n:Nat) (D0:Nat→DataW H) (g:Nat→D),(∀i,i<n→D.bulk (g i)≤B.one (D0 i))→D.bulkAll ((List.range n).map g)≤B.all ((List.range n).map D0)
 |0,_,_,_=>by simp[D.bulkAll]
 |n+1,D0,g,h=>by
  have ha:∀l:List (DataW H),∀r,B.all (l++r)=B.all l+B.all r:=by
   intro l r
   induction l with
   |nil=>simp[B.nil]
   |cons x l ih=>simp only[List.cons_append,B.cons,ih];omega
  rw[List.range_succ,List.map_append,List.map_append,zfz,ha]
  have:=zjY (B:=B) (S:=S) n D0 g fun i hi=>h i (by omega)
  have h1:=h n (by omega)
  simp only[List.map_cons,List.map_nil,D.bulkAll,B.cons,B.nil]
  omega
theorem zoj {B:Bulk H}:∀(n fuel:Nat) (t:TypeId) (ts:List Ty) (cs:List Value) (d:DataW H) (p:List MemPlace),zoi P n t=some ts→DataW.trod enc P w base (fun _=>true) held fuel t cs=some (d,p)→zBf P w B t ts cs d
 |0,_,_,_,_,_,_,h,_=>by cases h
 |n+1,fuel,t,ts,cs,d,p,h,ht=>by
  unfold zoi at h
  split at h
  ·rename_i hu
   cases h
   obtain⟨b,rfl,hx⟩:=DataW.trod_bool hu ht
   cases hx
   exact⟨[.bool b],.one (.bool b) (.bool b),by simp only[zbQ,hu,D.bulkAll,D.bulk];exact B.pos _,fun _=>⟨_,rfl,rfl⟩⟩
  ·rename_i k hu
   cases h
   obtain⟨m,rfl,hx,hw⟩:=DataW.trod_int hu ht
   cases hx
   have hw':k.min≤m∧m≤k.max:=by simpa[Lit.wf]using hw
   exact⟨[.int k m],.one (.int hw'.1 hw'.2) (.int k m),by simp only[zbQ,hu,D.bulkAll,D.bulk];exact B.pos _,fun _=>⟨_,rfl,rfl⟩⟩
  ·rename_i hu
   cases h
   obtain⟨s,rfl,hx,hw⟩:=DataW.trod_string hu ht
   cases hx
   have hlen:s.data.toList.length=s.size:=by rw[Array.length_toList];rfl
   exact⟨[.str s.data.toList],.one (.str (by omega)) (.str s),by simp only[zbQ,hu,D.bulkAll,D.bulk,B.str];simp,fun _=>⟨_,rfl,rfl⟩⟩
  ·rename_i e hu
   have hagg:zbQ P t=false:=by simp[zbQ,hu]
   obtain⟨l,hl,h⟩:=zap h
   split at h
   case isFalse=>cases h
   rename_i hlc
   simp only[Bool.and_eq_true,beq_iff_eq,bne_iff_ne,ne_eq]at hlc
   obtain⟨T,hT,rfl⟩:=zav h
   rcases DataW.trod_slice hu ht with⟨rfl,hx⟩|⟨a,len,cap,elems,rest,m,_,rfl,hx,_,hle,_,hel,hE,hR,_⟩
   ·cases hx
    exact⟨[.list true []],.one .nil .nil,by rw[hagg];simp only[D.bulkAll,D.bulk];exact B.pos _,fun _=>⟨_,rfl,rfl⟩⟩
   ·cases hx
    have hsz:P.cellsOf e≠0:=by rw[←hlc.1];exact hlc.2
    have hex:∀i,i<len→∃cs' y xs,elems[i]? =some y∧w.cells? base (a.add (i*P.cellsOf e)) (P.cellsOf e)=some cs'∧Cells w (fun _ _=>True) l cs' xs∧D.bulkAll xs+(if zbQ P e then 1 else 0)≤B.one y.1∧(zbQ P e=false→∃x,xs=[x]∧x.flat=true):=by
     intro i hi
     have h1:=hE i hi
     have hi':i<elems.length:=by omega
     rw[List.getElem?_eq_getElem hi']at h1
     obtain⟨cs',h2,h3⟩:=zap h1
     obtain⟨xs,h4,h5,h6⟩:=zoj (B:=B) n m e l cs' elems[i].1 elems[i].2 hl h3
     exact⟨cs',elems[i],xs,List.getElem?_eq_getElem hi',h2,h4,h5,h6⟩
    let G:Nat→List D:=fun i=>if hi:i<len then Classical.choose (Classical.choose_spec (Classical.choose_spec (hex i hi)))else[]
    have hG:∀i,i<len→∃cs' y,elems[i]? =some y∧w.cells? base (a.add (i*P.cellsOf e)) (P.cellsOf e)=some cs'∧Cells w (fun _ _=>True) l cs' (G i)∧D.bulkAll (G i)+(if zbQ P e then 1 else 0)≤B.one y.1∧(zbQ P e=false→∃x,G i=[x]∧x.flat=true):=by
     intro i hi
     have:=Classical.choose_spec (Classical.choose_spec (Classical.choose_spec (hex i hi)))
     simp only[G,dif_pos hi]
     exact⟨_,_,this⟩
    let g:Nat→D:=fun i=>zBe (zbQ P e) (G i)
    have hlen:((List.range len).map g).length=len:=by simp
    refine⟨[.list false ((List.range len).map g)],.one (.list fun x hx=> ?_) ?_,?_,fun _=>⟨_,rfl,rfl⟩⟩
    ·obtain⟨i,hi,rfl⟩:=List.mem_map.1 hx
     obtain⟨cs',y,_,_,c,_,f⟩:=hG i (List.mem_range.1 hi)
     exact(zgO c hT f).1
    ·by_cases hc0:cap=0
     ·have:len=0:=by omega
      subst this;subst hc0
      exact .empty a
     have hsp:a.spot=none:=by
      have key:∀cs',w.cells? base (a.add (0*P.cellsOf e)) (P.cellsOf e)=some cs'→a.spot=none:=by
       intro cs' hcs
       obtain⟨h1,h2⟩:=zhG hcs
       have h0:0<cs'.length:=by omega
       have:=h2 0 _ (List.getElem?_eq_getElem h0)
       rw[Nat.zero_mul]at this
       exact cell_spot this
      by_cases hl0:len=0
      ·obtain⟨hr1,hr2⟩:=hR rfl
       have h1:=hr2 0 (by omega)
       have h0:0<rest.length:=by omega
       rw[List.getElem?_eq_getElem h0]at h1
       obtain⟨cs',h2,_⟩:=zap h1
       rw[hl0]at h2
       exact key cs' h2
      ·obtain⟨cs',y,_,h2,_⟩:=hG 0 (by omega)
       exact key cs' h2
     obtain⟨m0,off,sp⟩:=a
     dsimp only at hsp
     subst hsp
     have hcell:∀i j,i<len→j<P.cellsOf e→∃v,w.cell? ⟨m0,off+(i*P.cellsOf e+j),none⟩=some v∧∀x,(G i)[j]? =some x→RD w (fun _ _=>True) x v:=by
      intro i j hi hj
      obtain⟨cs',y,_,h2,c,_,_⟩:=hG i hi
      obtain⟨h3,h4⟩:=zhG h2
      have hj':j<cs'.length:=by omega
      have h5:=h4 j _ (List.getElem?_eq_getElem hj')
      rw[Addr.add_lit,Addr.add_lit,Nat.add_assoc]at h5
      exact⟨_,h5,fun x hx=>c.rd j x _ hx (List.getElem?_eq_getElem hj')⟩
     have hgi:∀(i:Nat) (x:D),((List.range len).map g)[i]? =some x→i<len∧x=g i:=by
      intro i x hx
      have hi:=zas hx
      rw[hlen]at hi
      rw[List.getElem?_map,List.getElem?_range hi]at hx
      simp only[Option.map_some,Option.some.injEq]at hx
      exact⟨hi,hx.symm⟩
     have hcells:∀i,i<len→(g i).cells=G i:=fun i hi=>by
      obtain⟨cs',y,_,_,c,_,f⟩:=hG i hi
      exact(zgO c hT f).2
     have hlenG:∀i,i<len→(G i).length=P.cellsOf e:=fun i hi=>by
      obtain⟨cs',y,_,_,c,_,f⟩:=hG i hi
      rw[c.len,←c.tlen];exact hlc.1
     have:=RD.list (w:=w) (S:=fun _ _=>True) (l:=(List.range len).map g) (m:=m0) (off:=off) (cap:=cap) (sz:=P.cellsOf e) (fun i j=>(w.cell? ⟨m0,off+(i*P.cellsOf e+j),none⟩).getD undef) (by rw[hlen];exact hle) trivial
      (fun i x hx=>by obtain⟨hi,rfl⟩:=hgi i x hx;rw[hcells i hi,hlenG i hi])
      (fun i x j hx hj=>by
       obtain⟨hi,rfl⟩:=hgi i x hx
       obtain⟨v,hv,_⟩:=hcell i j hi hj
       exact⟨by rw[hv];rfl,trivial⟩)
      (fun i x j y hx hy=>by
       obtain⟨hi,rfl⟩:=hgi i x hx
       rw[hcells i hi]at hy
       have hj:j<P.cellsOf e:=by rw[←hlenG i hi];exact zas hy
       obtain⟨v,hv,h9⟩:=hcell i j hi hj
       rw[hv];exact h9 y hy)
     rw[hlen]at this
     exact this
    ·rw[hagg]
     simp only[D.bulkAll,D.bulk,B.slice]
     have:=zjY (B:=B) (S:=fun _ _=>True) len (fun i=>((elems.map (·.1))[i]?).getD .nil) g (fun i hi=>by
      obtain⟨cs',y,h1,_,c,b,f⟩:=hG i hi
      have:(((elems.map (·.1))[i]?).getD .nil)=y.1:=by rw[List.getElem?_map,h1];rfl
      rw[this]
      exact zpB b f)
     have he:(List.range len).map (fun i=>((elems.map (·.1))[i]?).getD .nil)=elems.map (·.1):=by
      apply List.ext_getElem?
      intro i
      by_cases hi:i<len
      ·have hi':i<elems.length:=by omega
       simp[hi,hi']
      ·rw[List.getElem?_eq_none (by simp;omega),List.getElem?_eq_none (by simp;omega)]
     rw[he]at this
     simp;omega
  ·rename_i fs hu
   have hagg:zbQ P t=true:=by simp[zbQ,hu]
   obtain⟨xs,m,_,hx,hlen,hxl,hF⟩:=DataW.trod_struct hu ht
   cases hx
   obtain⟨l,hl,h⟩:=zap h
   split at h
   case isFalse=>cases h
   rename_i hlc
   cases h
   have hlc:ts.length=P.cellsOf t:=by simpa using hlc
   have hm:(fs.toList.mapM fun g=>DataW.trod enc P w base (fun _=>true) held m g.type ((cs.drop g.offset).take (P.cellsOf g.type)))=some xs:=
    ziR fs.toList xs (by rw[hxl,Array.length_toList]) fun i g hg=>hF i g (by simpa using hg)
   obtain⟨ys,c,b⟩:=ziS (B:=B) (fun t ts cs d p h ht=>zoj n m t ts cs d p h ht) fs.toList 0 ts cs xs hl hm (by omega)
   have he:(cs.drop 0).take ts.length=cs:=by rw[List.drop_zero,hlc,←hlen,List.take_length]
   rw[he]at c
   exact⟨ys,c,by rw[hagg,B.agg];simpa using b,fun h=>by rw[hagg]at h;cases h⟩
  ·cases h
def zFs (P:Program) (t:TypeId):Option Ty:=(zoi P 20 t).bind (zuy (zbQ P t))
def zjZ (P:Program):List TypeId→Option (List Ty)
 |[]=>some []
 |t::r=>(zFs P t).bind fun x=>(zjZ P r).map (x:: ·)
inductive HasAll:List Ty→List D→Prop
 |nil:HasAll [] []
 |cons {t:Ty} {x:D} {ts:List Ty} {xs:List D} (h:HasTy t x) (r:HasAll ts xs):HasAll (t::ts) (x::xs)
theorem zuA {b0:Nat} {n:Nat} {t:TypeId} {ts:List Ty} {v:Value} (h:zoi P n t=some ts) (hagg:zbQ P t=false) (hv:Value.okWide P w .any b0 t v):v.cells.toList=[v]:=by
 cases n with
 |zero=>cases h
 |succ n=>
  unfold zoi at h
  unfold Value.okWide at hv
  split at h
  ·rename_i hu
   rw[hu]at hv
   simp only[Cell.okWide,hu]at hv
   cases v<;>first|rfl|(simp[Cell.ok,hu]at hv;done)
  ·rename_i hu
   rw[hu]at hv
   simp only[Cell.okWide,hu]at hv
   cases v<;>first|rfl|(simp[Cell.ok,hu]at hv;done)
  ·rename_i hu
   rw[hu]at hv
   simp only[Cell.okWide,hu]at hv
   cases v<;>first|rfl|(simp[Cell.ok,hu]at hv;done)
  ·rename_i hu
   rw[hu]at hv
   simp only[Cell.okWide,hu]at hv
   cases v<;>first|rfl|(simp[Cell.ok,hu]at hv;done)
  ·rename_i hu
   simp[zbQ,hu]at hagg
  ·cases h
theorem zuB {b0:Nat} {t:TypeId} {v:Value} (hagg:zbQ P t=true) (hv:Value.okWide P w .any b0 t v):∃cs,v= .agg cs:=by
 unfold zbQ at hagg
 unfold Value.okWide at hv
 split at hagg
 ·rename_i hu
  rw[hu]at hv
  obtain⟨cs,h,_⟩:=hv
  exact⟨cs,h⟩
 ·cases hagg
theorem zmq {B:Bulk H} {b0:Nat}:∀(ts:List TypeId) (Ts:List Ty) (vs:List Value) (ds:List (DataW H)) (p:List MemPlace),zjZ P ts=some Ts→DataW.TrodAll enc P w base (fun _=>true) held ts vs ds p→
 (∀(j:Nat) t v,ts[j]? =some t→vs[j]? =some v→Value.okWide P w .any b0 t v)→
 ∃xs,xs.length=vs.length∧HasAll Ts xs∧(∀(j:Nat) x,xs[j]? =some x→RD w (fun _ _=>True) x (vs.getD j undef))∧D.bulkAll xs≤B.all ds∧ds.length=ts.length
 |[],Ts,[],[],p,h,ht,hv=>by
  cases h
  exact⟨[],rfl,.nil,fun j x hx=>(by cases hx),by simp[D.bulkAll],rfl⟩
 |t::ts,Ts,v::vs,d::ds,p,h,⟨p1,q,h1,h2,_⟩,hv=>by
  simp only[zjZ]at h
  obtain⟨T,hT,h⟩:=zap h
  obtain⟨Ts',hTs,rfl⟩:=zav h
  unfold zFs at hT
  obtain⟨l,hl,hT⟩:=zap hT
  obtain⟨xs,x1,x2,x3,x4,x5⟩:=zmq (B:=B) ts Ts' vs ds q hTs h2 (fun j t v ht hv'=>hv (j+1) t v (by simpa using ht) (by simpa using hv'))
  obtain⟨fuel,hf⟩:=h1
  obtain⟨ys,c,b,f⟩:=zoj (B:=B) 20 fuel t l _ d p1 hl hf
  obtain⟨y1,y2⟩:=zgO c hT f
  have hb:=zpB b f
  have hrd:RD w (fun _ _=>True) (zBe (zbQ P t) ys) v:=by
   cases ha:zbQ P t with
   |true=>
    obtain⟨cs,rfl⟩:=zuB ha (hv 0 t v rfl rfl)
    have hcl:=c.len
    simp only[Value.cells,Array.length_toList]at hcl
    exact .agg hcl.symm fun j x u hx hu=>c.rd j x u hx (by simpa[Value.cells]using hu)
   |false=>
    obtain⟨x,rfl,_⟩:=f ha
    have h1:=zuA hl ha (hv 0 t v rfl rfl)
    rw[h1]at c
    exact c.rd 0 x v rfl rfl
  refine⟨zBe (zbQ P t) ys::xs,by simp[x1],.cons y1 x2,fun j x hx=> ?_,by rw[B.cons];simp only[D.bulkAll];omega,by simp[x5]⟩
  cases j with
  |zero=>cases hx;exact hrd
  |succ j=>simpa using x3 j x (by simpa using hx)
theorem HasAll.length {ts:List Ty} {xs:List D} (h:HasAll ts xs):ts.length=xs.length:=by
 induction h with
 |nil=>rfl
 |cons _ _ ih=>simp[ih]
theorem zuC {f:Func} {s:ChangeSpec} {apart fresh handsOn again:Bool} {W W':World} {args:Array Value} {v:Value} {ds gs:List (DataW H)} {before pa pv:List MemPlace}
 (hW:DataW.Whole enc P f.params.toList s.vars apart W args.toList ds gs before)
 (hres:∀(b:Nat) (sp:Nat→Bool) (hd:Bool),DataW.TrodAll enc P W' b sp hd f.resultTypes.toList (v.resultList f.resultTypes.size) (s.fn H (ds++gs)).results [])
 (hargs:∀sp:Nat→Bool,(∀p∈before,sp p.block=true)→DataW.TrodAll enc P W' 0 sp true f.params.toList args.toList (s.fn H (ds++gs)).args pa)
 (hvars:∀sp:Nat→Bool,(∀p∈before,sp p.block=true)→DataW.TrodVars enc P W' sp s.vars (s.fn H (ds++gs)).vars pv)
 (hps:before=pa++pv) (hk:W.keptBut W' (·∈before)) (hfz:∀a,a.block<W.heap.size→W'.frozen? a=W.frozen? a)
 (hok:∀(j:Nat) (t:TypeId) (r:Value),f.resultTypes[j]? =some t→(v.resultList f.resultTypes.size)[j]? =some r→Value.okWide P W' .any 0 t r):
 s.post enc P f apart fresh handsOn again W args v W':=by
 have hold:∀p∈before,(fun b=>decide (b<W.heap.size)) p.block=true:=fun p hp=>by simpa using hW.lt p hp
 have hlt:=hW.lt
 refine⟨ds,gs,before,[],pa,pv,hW,hres _ _ _,hargs _ hold,hvars _ hold,World.keptBut_mono (fun p hp=>⟨hp,?_⟩) hk,fun _=> ?_⟩
 ·rw[hps,List.mem_append]at hp
  exact Or.inr hp
 ·obtain⟨_,_,_,_,_,hz,hn⟩:=hW
  refine⟨hok,_,_,([]++pa)++pv,⟨[]++pa,pv,trodAll_append (hargs _ (fun _ _=>rfl)) (hres _ _ _),hvars _ (fun _ _=>rfl),rfl,?_,?_⟩,?_⟩
  ·intro b off hp
   have hin:MemPlace.cell b off∈before:=by rw[hps];simpa using hp
   rw[hfz _ (hlt _ hin)]
   exact hz b off hin
  ·intro ha
   have:=hn ha
   rw[hps]at this
   simpa using this
  ·intro p hp _
   rw[hps]
   simpa using hp
theorem zmr {S:TypeId→Prop} (hlaid:laidOutB P=true) {W W':World} (hk:∀m,m<W.heap.size→W'.heap[m]? =W.heap[m]?) (hs:W.heap.size≤W'.heap.size) (ho:W'.os=W.os) (ht:W'.tape=W.tape) (hu:W'.output=W.output) {sp:Nat→Bool}:
 ∀(ts:List TypeId) (vs:List Value) (ds:List (DataW H)) (p:List MemPlace),ts.all (fun t=>P.readableRec t&&decide (t<P.types.size))=true→DataW.TrodAll enc P W 0 (fun _=>true) true ts vs ds p→(∀x∈p,x.block<W.heap.size)→(∀x∈p,sp x.block=true)→DataW.TrodAll enc P W' 0 sp true ts vs ds p
 |[],[],[],p,_,h,_,_=>h
 |t::ts,v::vs,d::ds,p,hr,⟨p1,q,h1,h2,hp⟩,hlt,hsp=>by
  subst hp
  rw[List.all_cons,Bool.and_eq_true,Bool.and_eq_true,decide_eq_true_eq]at hr
  obtain⟨⟨r1,r2⟩,r3⟩:=hr
  have hb:RowKit.Below W.heap.size W W':=⟨ho,ht,hu,hs,hk⟩
  exact⟨p1,q,WideElems.Trod_stays hlaid r1 r2 h1 (fun x hx=>hb.same (hlt x (by simp[hx]))) (fun x hx=>hsp x (by simp[hx])),zmr (S:=S) hlaid hk hs ho ht hu ts vs ds q r3 h2 (fun x hx=>hlt x (by simp[hx])) (fun x hx=>hsp x (by simp[hx])),rfl⟩
theorem law_contract {T:Tabs} {A:AProg} (hL:Linked T A P) (B:Bulk H) (enc:TypeId×Value→H) {N:Nat} {f:FuncId} {fn:Func} (hf:P.funcs[f]? =some fn) {Ts:List Ty} (hT:zjZ P fn.params.toList=some Ts) {tb:TypeId} (hres:fn.resultTypes= #[tb]) (hb:P.underlying tb=some .bool)
 (hlaid:laidOutB P=true) (hread:fn.params.toList.all (fun t=>P.readableRec t&&decide (t<P.types.size))=true) {s:ChangeSpec} (hv:s.vars=[]) (hs:∀ds:List (DataW H),ds.length=Ts.length→s.fn H ds={results:=[.lit (.bool true)],args:=ds})
 (hlaw:∀xs,HasAll Ts xs→D.bulkAll xs≤N→pc A f xs=some (.bool true)) {apart fresh handsOn again:Bool} (W:World) (hTab:Met T (fun _ _=>True) W) (b0:Nat) (args:Array Value) (ds gs:List (DataW H)) (before:List MemPlace)
 (hval:∀(j:Nat) t v,fn.params[j]? =some t→args[j]? =some v→Value.okWide P W .any b0 t v) (hW:DataW.Whole enc P fn.params.toList s.vars apart W args.toList ds gs before) (hk:B.all (ds++gs)≤N):
 Calls P f args W fun e W'=>∃v,e= .returned v∧s.post enc P fn apart fresh handsOn again W args v W':=by
 have hW':=hW
 obtain⟨p,q,hA,hV,rfl,hfz,hnd⟩:=hW
 rw[hv]at hV
 obtain⟨rfl,rfl⟩:=trodVars_none hV
 rw[List.append_nil]at hk
 obtain⟨xs,x1,x2,x3,x4,x5⟩:=zmq (B:=B) fn.params.toList Ts args.toList ds p hT hA (fun j t v ht hv'=>hval j t v (by simpa using ht) (by simpa using hv'))
 have hpc:=hlaw xs x2 (Nat.le_trans x4 hk)
 obtain⟨_,_,_,_,hc⟩:=zIr hL hpc hTab x1.symm x3
 refine(hc.calls (fun k=>room_wide k)).mono fun e W' hp=> ?_
 cases e with
 |panicked c=>exact hp.elim
 |outgrown=>exact hp.elim
 |returned mv=>
  obtain⟨k1,k2,k3,k4,k5,k6⟩:=hp
  cases k6
  have hsf:=hs ds (by
   have h7:Ts.length=fn.params.toList.length:=by
    have:∀(ts:List TypeId) (Ts:List Ty),zjZ P ts=some Ts→Ts.length=ts.length:=by
     intro ts
     induction ts with
     |nil=>intro Ts h;cases h;rfl
     |cons t ts ih=>
      intro Ts h
      simp only[zjZ]at h
      obtain⟨T,_,h⟩:=zap h
      obtain⟨Ts',h8,rfl⟩:=zav h
      simp[ih Ts' h8]
    exact this _ _ hT
   rw[x5,h7])
  have hltp:∀x∈p,x.block<W.heap.size:=fun x hx=>hW'.lt x (by simp[hx])
  refine⟨.bool true,rfl,zuC (pa:=p) (pv:=[]) hW' (fun b sp hd=> ?_) (fun sp hsp=> ?_) (fun sp _=> ?_) rfl ?_ ?_ ?_⟩
  ·rw[List.append_nil,hsf,hres]
   exact⟨[],[],⟨1,by simp[DataW.trod,hb,Value.cells]⟩,rfl,rfl⟩
  ·rw[List.append_nil,hsf]
   exact zmr (S:=fun _=>True) hlaid k1 k2 k3 k4 k5 _ _ _ _ hread hA hltp (fun x hx=>hsp x (by simp[hx]))
  ·rw[List.append_nil,hsf,hv];rfl
  ·refine⟨k3,k5,fun i hi=> ?_⟩
   rw[k1 i hi]
   split
   ·rename_i c t fr c' t' fr' h1 h2
    rw[h1]at h2;cases h2
    exact⟨rfl,rfl,rfl,fun _ _=>rfl⟩
   ·rename_i es c es' c' h1 h2
    rw[h1]at h2;cases h2
    exact .inr ⟨rfl,rfl⟩
   ·rfl
  ·intro a ha
   simp only[World.frozen?,k1 a.block ha]
  ·exact RowKit.ok_one hres rfl (RowKit.okWide_bool_mk hb true)
end Go.AI
namespace Go.AI
structure Sl (α:Type) where
 n:Bool
 l:List α
 deriving DecidableEq,Inhabited
def eSl {α:Type} (e:α→D) (s:Sl α):D:= .list s.n (s.l.map e)
theorem zFt {α:Type} (e:α→D) (s:Sl α):eSl e s= .list s.n (s.l.map e):=rfl
attribute [go_sem] zFt
def Sl.ok {α:Type} (p:α→Prop) (s:Sl α):Prop:=(s.n=true→s.l=[])∧∀x∈s.l,p x
theorem zdp {t:Ty} {ts:List Ty} {xs:List D} (h:HasAll (t::ts) xs):∃x r,xs=x::r∧HasTy t x∧HasAll ts r:=by
 cases h with
 |cons h r=>exact⟨_,_,rfl,h,r⟩
theorem zka {xs:List D} (h:HasAll [] xs):xs=[]:=by cases h;rfl
theorem zdq:∀l:List D,l.length≤D.bulkAll l
 |[]=>Nat.le_refl _
 |x::r=>by
  have:=zdq r
  have:1≤D.bulk x:=by cases x<;>simp[D.bulk]
  simp only[List.length_cons,D.bulkAll];omega
theorem HasTy.agg_inv {ts:List Ty} {d:D} (h:HasTy (.agg ts) d):∃xs,d= .agg xs∧xs.length=ts.length∧∀(j:Nat) (t:Ty) (x:D),ts[j]? =some t→xs[j]? =some x→HasTy t x:=by
 cases h with
 |agg hl h=>exact⟨_,rfl,hl,h⟩
theorem HasTy.int_inv {k:IntKind} {d:D} (h:HasTy (.int k) d):∃n,d= .int k n∧(k.min≤n∧n≤k.max):=by
 cases h with
 |int h1 h2=>exact⟨_,rfl,h1,h2⟩
theorem HasTy.bool_inv {d:D} (h:HasTy .bool d):∃b,d= .bool b∧True:=by
 cases h with
 |bool b=>exact⟨_,rfl,trivial⟩
theorem HasTy.str_inv {d:D} (h:HasTy .str d):∃s,d= .str s∧s.length≤maxLen:=by
 cases h with
 |str h=>exact⟨_,rfl,h⟩
theorem zpC {α:Type} {e:α→D} {T:Ty} {p:α→Prop} (inv:∀d,HasTy T d→∃x,d=e x∧p x):∀l:List D,(∀x∈l,HasTy T x)→∃l':List α,l=l'.map e∧∀x∈l',p x
 |[],_=>⟨[],rfl,fun x hx=>by cases hx⟩
 |d::l,h=>by
  obtain⟨x,rfl,hp⟩:=inv d (h d (by simp))
  obtain⟨l',rfl,hp'⟩:=zpC inv l fun y hy=>h y (by simp[hy])
  refine⟨x::l',rfl,fun y hy=> ?_⟩
  rcases List.mem_cons.1 hy with rfl|hy
  ·exact hp
  ·exact hp' y hy
theorem HasTy.sl_inv {α:Type} {e:α→D} {T:Ty} {p:α→Prop} (inv:∀d,HasTy T d→∃x,d=e x∧p x) {d:D} (h:HasTy (.list T) d):∃s:Sl α,d=eSl e s∧Sl.ok p s:=by
 cases h with
 |nil=>exact⟨⟨true,[]⟩,rfl,fun _=>rfl,fun x hx=>by cases hx⟩
 |list h=>
  obtain⟨l',rfl,hp⟩:=zpC inv _ h
  exact⟨⟨false,l'⟩,rfl,fun h=>by(cases h),hp⟩
theorem zgP {cs xs:List D} {n:Nat} (h:cs.length=n) (hx:xs.length=n) (h0:0<n) (h1:(xs.map V.d).all V.one=true):V.upd (.d (.agg cs)) 0 n (.d (.agg xs))=some (.d (.agg xs)):=by
 have hc:V.cells (.d (.agg xs))=xs.map .d:=rfl
 have hd:V.cells (.d (.agg cs))=cs.map .d:=rfl
 unfold V.upd
 rw[hc,hd]
 simp only[List.length_map,hx,h,Nat.zero_add,Nat.le_refl,h0,h1,and_self,if_true,V.like]
 congr 1
 unfold splice
 simp only[List.take_zero,List.nil_append,Nat.zero_add,List.length_map,hx]
 rw[List.drop_eq_nil_of_le (by simp[h]),List.append_nil,ziB]
theorem zpD {cs ys zs:List D} {v:V} {off n:Nat} (hv:v.cells=ys.map .d) (hy:ys.length=n) (h0':Nat.ble 1 n=true) (hl':Nat.ble (off+n) cs.length=true) (h1:(ys.map V.d).all V.one=true) (hz:cs.take off++ys++cs.drop (off+ys.length)=zs):V.upd (.d (.agg cs)) off n v=some (.d (.agg zs)):=by
 have h0:0<n:=Nat.le_of_ble_eq_true h0'
 have hl:off+n≤cs.length:=Nat.le_of_ble_eq_true hl'
 have hd:V.cells (.d (.agg cs))=cs.map .d:=rfl
 unfold V.upd
 rw[hv,hd]
 simp only[List.length_map,hy,h0,hl,h1,and_self,if_true,V.like]
 congr 1
 have:splice (cs.map V.d) off (ys.map V.d)=zs.map V.d:=by
  rw[←hz];simp[splice,List.map_append]
 rw[this,ziB]
theorem zFu {ks:List CK} {xs ys:List D} {b:Bool} (h:eqV (.agg ks) (.d (.agg xs)) (.d (.agg ys))=some b):binV .eql (.agg ks) (.d (.agg xs)) (.d (.agg ys))=some (.d (.bool b)):=by
 simp[binV,h]
theorem zBg {ks:List CK} {xs ys:List D} {b:Bool} (h:eqV (.agg ks) (.d (.agg xs)) (.d (.agg ys))=some b):binV .neq (.agg ks) (.d (.agg xs)) (.d (.agg ys))=some (.d (.bool !b)):=by
 simp[binV,h]
def ofC (cs:List V):Option (List D)→V
 |some ds=> .d (.agg ds)
 |none=> .agg cs
theorem zdV {cs:List V}:V.ofCells cs=ofC cs (allD cs):=by
 unfold V.ofCells ofC
 cases allD cs<;>rfl
theorem zyG {cs:List V} {ds:List D}:ofC cs (some ds)= .d (.agg ds):=rfl
theorem zyH {cs:List V}:ofC cs none= .agg cs:=rfl
def ofT (cs:List V):Option (List D)→V
 |some ds=> .d (.tuple ds)
 |none=> .tuple cs
theorem zrz {cs:List V}:V.ofTuple cs=ofT cs (allD cs):=by
 unfold V.ofTuple ofT
 cases allD cs<;>rfl
theorem zyI {cs:List V} {ds:List D}:ofT cs (some ds)= .d (.tuple ds):=rfl
theorem zyJ {cs:List V}:ofT cs none= .tuple cs:=rfl
theorem zuD {a b:V} {l:List V}:oneOr (a::b::l)=V.ofTuple (a::b::l):=rfl
theorem zuE:oneOr []=V.ofTuple []:=rfl
theorem zuF {cs:List V}:zco cs []=some cs:=rfl
theorem zdW {α:Type}:∀(cs:List α) (off:Nat) (v:α),off<cs.length→splice cs off [v]=cs.set off v
 |[],off,v,h=>by simp at h
 |x::cs,0,v,_=>rfl
 |x::cs,off+1,v,h=>by
  have:=zdW cs off v (by simpa using h)
  simp only[splice,List.length_cons,List.length_nil,Nat.zero_add]at this⊢
  simp only[List.take_succ_cons,List.cons_append,List.drop_succ_cons,List.set_cons_succ,this]
theorem zdX {cs:List V} {off:Nat} {v:V} {r:List (Nat×Nat×V)} (hv:v.cells=[v]) (h:off<cs.length):zco cs ((off,1,v)::r)=zco (cs.set off v) r:=by
 simp only[zco,hv,List.length_cons,List.length_nil,Nat.zero_add,Nat.zero_lt_one,true_and]
 rw[if_pos (by omega),zdW _ _ _ h]
theorem zuG {cs:List V} {off:Nat} {k:IntKind} {n:Int} {r:List (Nat×Nat×V)} (h:off<cs.length):zco cs ((off,1,.d (.int k n))::r)=zco (cs.set off (.d (.int k n))) r:=zdX rfl h
theorem zrA {cs:List V} {off:Nat} {b:Bool} {r:List (Nat×Nat×V)} (h:off<cs.length):zco cs ((off,1,.d (.bool b))::r)=zco (cs.set off (.d (.bool b))) r:=zdX rfl h
theorem zuH {cs:List V} {off:Nat} {b:List UInt8} {r:List (Nat×Nat×V)} (h:off<cs.length):zco cs ((off,1,.d (.str b))::r)=zco (cs.set off (.d (.str b))) r:=zdX rfl h
theorem zrB {cs:List V} {off:Nat} {b:Bool} {l:List D} {r:List (Nat×Nat×V)} (h:off<cs.length):zco cs ((off,1,.d (.list b l))::r)=zco (cs.set off (.d (.list b l))) r:=zdX rfl h
theorem zyK {cs:List V} {off:Nat} {a b c:Nat} {r:List (Nat×Nat×V)} (h:off<cs.length):zco cs ((off,1,.sl a b c)::r)=zco (cs.set off (.sl a b c)) r:=zdX rfl h
theorem zuI {cs:List V} {off:Nat} {a b c:Nat} {r:List (Nat×Nat×V)} (h:off<cs.length):zco cs ((off,1,.ptr a b c)::r)=zco (cs.set off (.ptr a b c)) r:=zdX rfl h
theorem zrC {α:Type} {new:List α}:splice [] 0 new=new:=by simp[splice]
theorem zhP {α:Type} {x y:α} {cs new:List α}:splice (x::cs) 0 (y::new)=y::splice cs 0 new:=by
 simp[splice]
theorem ziT {α:Type} {cs:List α}:splice cs 0 []=cs:=by simp[splice]
theorem zok {α:Type} {x:α} {cs new:List α} {n:Nat}:splice (x::cs) (n+1) new=x::splice cs n new:=by
 simp only[splice,List.take_succ_cons,List.cons_append]
 rw[Nat.add_right_comm,List.drop_succ_cons]
attribute [go_sem] zdV zyG zyH zrz zyI zyJ zuD zuE zuF zuG zrA zuH zrB zyK zuI zrC zhP ziT zok
theorem zic {cs:List D} {off:Nat} {x:D} (hx:(V.d x).cells=[.d x]) (h1:(V.d x).one=true) (h:off<cs.length):V.upd (.d (.agg cs)) off 1 (.d x)=some (.d (.agg (cs.set off x))):=by
 have hd:V.cells (.d (.agg cs))=cs.map .d:=rfl
 unfold V.upd
 rw[hx,hd]
 simp only[List.length_map,List.length_cons,List.length_nil,Nat.zero_add,Nat.zero_lt_one,true_and,List.all_cons,h1,List.all_nil,Bool.and_true,and_true]
 rw[if_pos (by omega),zdW _ _ _ (by simpa using h)]
 simp only[V.like]
 rw[←List.map_set,ziB]
theorem zuJ {cs:List D} {off:Nat} {k:IntKind} {n:Int} (h:off<cs.length):V.upd (.d (.agg cs)) off 1 (.d (.int k n))=some (.d (.agg (cs.set off (.int k n)))):=zic rfl rfl h
theorem zrD {cs:List D} {off:Nat} {b:Bool} (h:off<cs.length):V.upd (.d (.agg cs)) off 1 (.d (.bool b))=some (.d (.agg (cs.set off (.bool b)))):=zic rfl rfl h
theorem zuK {cs:List D} {off:Nat} {b:List UInt8} (h:off<cs.length):V.upd (.d (.agg cs)) off 1 (.d (.str b))=some (.d (.agg (cs.set off (.str b)))):=zic rfl rfl h
theorem zrE {cs:List D} {off:Nat} {b:Bool} {l:List D} (h:off<cs.length):V.upd (.d (.agg cs)) off 1 (.d (.list b l))=some (.d (.agg (cs.set off (.list b l)))):=zic rfl rfl h
theorem zFv {cs:List D} {off:Nat} {v:V} (hx:v.cells=[v]) (h1:v.one=true) (h:off<cs.length):V.upd (.d (.agg cs)) off 1 v=some (V.ofCells ((cs.map V.d).set off v)):=by
 have hd:V.cells (.d (.agg cs))=cs.map .d:=rfl
 unfold V.upd
 rw[hx,hd]
 simp only[List.length_map,List.length_cons,List.length_nil,Nat.zero_add,Nat.zero_lt_one,true_and,List.all_cons,h1,List.all_nil,Bool.and_true,and_true]
 rw[if_pos (by omega),zdW _ _ _ (by simpa using h)]
 rfl
theorem zyL {cs:List D} {off a b c:Nat} (h:off<cs.length):V.upd (.d (.agg cs)) off 1 (.sl a b c)=some (V.ofCells ((cs.map V.d).set off (.sl a b c))):=zFv rfl rfl h
theorem zms {cs:List V} {off:Nat} {v:V} (hx:v.cells=[v]) (h1:v.one=true) (h:off<cs.length):V.upd (.agg cs) off 1 v=some (V.ofCells (cs.set off v)):=by
 have hd:V.cells (.agg cs)=cs:=rfl
 unfold V.upd
 rw[hx,hd]
 simp only[List.length_cons,List.length_nil,Nat.zero_add,Nat.zero_lt_one,true_and,List.all_cons,h1,List.all_nil,Bool.and_true,and_true]
 rw[if_pos (by omega),zdW _ _ _ h]
 rfl
theorem zyM {cs:List V} {off a b c:Nat} (h:off<cs.length):V.upd (.agg cs) off 1 (.sl a b c)=some (V.ofCells (cs.set off (.sl a b c))):=zms rfl rfl h
theorem zuL {cs:List V} {off:Nat} {k:IntKind} {n:Int} (h:off<cs.length):V.upd (.agg cs) off 1 (.d (.int k n))=some (V.ofCells (cs.set off (.d (.int k n)))):=zms rfl rfl h
theorem zrF {cs:List V} {off:Nat} {b:Bool} (h:off<cs.length):V.upd (.agg cs) off 1 (.d (.bool b))=some (V.ofCells (cs.set off (.d (.bool b)))):=zms rfl rfl h
theorem zuM {cs:List V} {off:Nat} {b:List UInt8} (h:off<cs.length):V.upd (.agg cs) off 1 (.d (.str b))=some (V.ofCells (cs.set off (.d (.str b)))):=zms rfl rfl h
theorem zrG {cs:List V} {off:Nat} {b:Bool} {l:List D} (h:off<cs.length):V.upd (.agg cs) off 1 (.d (.list b l))=some (V.ofCells (cs.set off (.d (.list b l)))):=zms rfl rfl h
theorem zuN {e v:V} {n:Nat} (h1:v.cells.length=n) (h0:0<n) (h2:e.cells.length=n) (h3:v.cells.all V.one=true):V.upd e 0 n v=some (V.like e v.cells):=by
 unfold V.upd
 rw[if_pos ⟨h1,h0,by omega,h3⟩]
 congr 2
 simp only[splice,List.take_zero,List.nil_append,Nat.zero_add,h1]
 rw[List.drop_eq_nil_of_le (by omega),List.append_nil]
attribute [go_sem] zuJ zrD zuK zrE zyL zyM zuL zrF zuM zrG
theorem zCl {cs xs:List D} {n:Nat} (hx:xs.length=n) (h:cs.length=n) (h0:0<n) (h1:(xs.map V.d).all V.one=true):V.upd (.d (.agg cs)) 0 n (.d (.agg xs))=some (.d (.agg xs)):=zgP h hx h0 h1
theorem zuO {cs:List D} {xs:List V} {n:Nat} (hx:xs.length=n) (h:cs.length=n) (h0:0<n) (h1:xs.all V.one=true):V.upd (.d (.agg cs)) 0 n (.agg xs)=some (V.ofCells xs):=by
 rw[zuN (v:= .agg xs) hx h0 (by simpa[V.cells,D.cells]using h) h1];rfl
theorem zrH {cs:List D}:D.cells (.agg cs)=cs:=rfl
theorem zCm {k:IntKind} {n:Int}:V.one (.d (.int k n))=true:=rfl
theorem zyN {b:Bool}:V.one (.d (.bool b))=true:=rfl
theorem zCn {b:List UInt8}:V.one (.d (.str b))=true:=rfl
theorem zyO {b:Bool} {l:List D}:V.one (.d (.list b l))=true:=rfl
theorem zFw {a b c:Nat}:V.one (.sl a b c)=true:=rfl
theorem zCo {a b c:Nat}:V.one (.ptr a b c)=true:=rfl
attribute [go_sem] zCl zuO zrH zCm zyN zCn zyO zFw zCo
theorem zrI {k:IntKind} {n:Int}:D.cells (.int k n)=[.int k n]:=rfl
theorem zol {b:Bool}:D.cells (.bool b)=[.bool b]:=rfl
theorem zrJ {b:List UInt8}:D.cells (.str b)=[.str b]:=rfl
theorem zom {b:Bool} {l:List D}:D.cells (.list b l)=[.list b l]:=rfl
attribute [go_sem] zrI zol zrJ zom Nat.add_zero List.nil_append List.cons_append
theorem zmt {cs:List D} {n:Nat} (h:cs.length=n):D.sub (.agg cs) 0 (some n)=some (.agg cs):=by
 subst h;simp[D.sub,D.cells]
theorem zmu {cs:List V} {n:Nat} (h:cs.length=n):V.sub (.agg cs) 0 (some n)=some (V.ofCells cs):=by
 subst h;simp[V.sub,V.cells]
theorem zkM {cs:List D} {o n:Nat} (h:o+n≤cs.length):D.sub (.agg cs) o (some n)=some (.agg ((cs.drop o).take n)):=by
 simp[D.sub,D.cells,h]
theorem zkN {cs:List V} {o n:Nat} (h:o+n≤cs.length):V.sub (.agg cs) o (some n)=some (V.ofCells ((cs.drop o).take n)):=by
 simp[V.sub,V.cells,h]
attribute [go_sem] zmt zmu zkM zkN List.drop_zero List.drop_succ_cons List.take_succ_cons List.take_zero
end Go.AI
namespace Go.AI
variable {app:App} {sh:FuncId→Bool} {fr:Nat} {env r:Regs} {h:Heap}
def ents {K α:Type} (e:K→D) (f:α→V):List (K×α)→Nat→List (D×V×Nat)
 |[],_=>[]
 |(k,a)::l,t=>(e k,f a,t)::ents e f l (t+1)
def zbs {K α:Type} [DecidableEq K] (k:K):List (K×α)→Nat→Option (α×Nat)
 |[],_=>none
 |(k',a)::l,t=>if k=k' then some (a,t)else zbs k l (t+1)
def zhH {K α:Type} [DecidableEq K] (k:K) (a:α):List (K×α)→List (K×α)
 |[]=>[(k,a)]
 |(k',b)::l=>if k=k' then(k,a)::l else(k',b)::zhH k a l
def Keyed {K:Type} [DecidableEq K] (ks:List CK) (e:K→D):Prop:=∀a b,zed ks (e a) (e b)=some (decide (a=b))
theorem zao {k:IntKind}:Keyed [.int] (D.int k):=fun a b=>by simp[zed,D.isAgg,D.cells,zaI,zbm];rfl
section
variable {K α:Type} [DecidableEq K] {ks:List CK} {e:K→D} {f:α→V}
theorem ziU:∀(l:List (K×α)) (t:Nat),(ents e f l t).length=l.length
 |[],_=>rfl
 |(k,a)::l,t=>by simp[ents,ziU l]
theorem zfM:∀(l m:List (K×α)) (t:Nat),ents e f (l++m) t=ents e f l t++ents e f m (t+l.length)
 |[],m,t=>by simp[ents]
 |(k,a)::l,m,t=>by simp[ents,zfM l m,Nat.add_assoc,Nat.add_comm 1]
theorem zkb (hk:Keyed ks e) (k:K):∀(l:List (K×α)) (t:Nat),zdJ ks (e k) (ents e f l t)=some ((zbs k l t).map fun x=>(f x.1,x.2))
 |[],t=>rfl
 |(k',a)::l,t=>by
  simp only[ents,zdJ,hk k k',Option.bind_some,zbs]
  by_cases h:k=k'
  ·simp[h]
  ·simp[h,zkb hk k l (t+1)]
theorem zgg (hk:Keyed ks e) (k:K) (l:List (K×α)) (t:Nat):zgH ks (e k) (ents e f l t)=some ((zbs k l t).map fun x=>(f x.1,x.2)):=by
 unfold zgH
 rw[hk k k,zkb hk]
 simp
theorem zmv (hk:Keyed ks e) (k:K) (a:α):∀(l:List (K×α)) (t:Nat),(zbs k l t).isSome=true→zpi ks (e k) (f a) (ents e f l t)=some (ents e f (zhH k a l) t)
 |[],t,hh=>by simp[zbs]at hh
 |(k',b)::l,t,hh=>by
  simp only[ents,zpi,hk k k',Option.bind_some,zhH]
  by_cases h:k=k'
  ·subst h;simp[ents]
  ·simp only[zbs,h,if_false]at hh
   simp[h,zmv hk k a l (t+1) hh,ents]
theorem ziV (k:K) (a:α):∀(l:List (K×α)) (t:Nat),zbs k l t=none→zhH k a l=l++[(k,a)]
 |[],t,_=>rfl
 |(k',b)::l,t,hh=>by
  simp only[zbs]at hh
  split at hh
  ·cases hh
  ·rename_i h;simp[zhH,h,ziV k a l (t+1) hh]
theorem zpE (k:K):∀(l:List (K×α)) (t:Nat) (a:α) (i:Nat),zbs k l t=some (a,i)→t≤i∧i<t+l.length
 |[],t,a,i,hh=>by simp[zbs]at hh
 |(k',b)::l,t,a,i,hh=>by
  simp only[zbs]at hh
  split at hh
  ·cases hh;simp
  ·have:=zpE k l (t+1) a i hh;simp;omega
theorem ziW (k:K) (a b:α) (i:Nat):∀(l:List (K×α)) (t:Nat),zbs k l t=some (b,i)→((ents e f l t).map fun x=>if x.2.2==i then(x.1,f a,i)else x)=ents e f (zhH k a l) t∧((ents e f l t).any fun x=>x.2.2==i)=true
 |[],t,hh=>by simp[zbs]at hh
 |(k',b')::l,t,hh=>by
  simp only[zbs]at hh
  split at hh
  ·rename_i h
   cases hh
   subst h
   have hrest:∀(m:List (K×α)) (u:Nat),i<u→((ents e f m u).map fun x=>if x.2.2==i then(x.1,f a,i)else x)=ents e f m u:=by
    intro m
    induction m with
    |nil=>intro u _;rfl
    |cons y m ih=>
     intro u hu
     obtain⟨k2,a2⟩:=y
     have hne:(u==i)=false:=by simp;omega
     simp only[ents,List.map_cons,hne,Bool.false_eq_true,if_false,ih (u+1) (by omega)]
   have:=hrest l (i+1) (by omega)
   simp only[ents,zhH,List.map_cons,beq_self_eq_true,if_true,List.any_cons,Bool.true_or,and_true]
   rw[this]
  ·rename_i h
   obtain⟨h1,h2⟩:=ziW k a b i l (t+1) hh
   have:=zpE k l (t+1) b i hh
   have hne:(t==i)=false:=by simp;omega
   simp only[ents,zhH,h,if_false,List.map_cons,hne,Bool.false_eq_true,List.any_cons,Bool.false_or,h2,and_true]
   rw[h1]
end
def zon (ks:List CK) (z k:D) (ok:Bool) (h:Heap):Option Blk→Option (V×Heap)
 |some (.map es _)=>(zgH ks k es).map fun x=>match x with
  |some (v,_)=>(if ok then V.ofTuple [v,.d (.bool true)]else v,h)
  |none=>(if ok then V.ofTuple [.d z,.d (.bool false)]else .d z,h)
 |_=>none
def lookO (ks:List CK) (z:D) (ok:Bool) (h:Heap):V→V→Option (V×Heap)
 | .map b,.d k=>zon ks z k ok h (h.get b)
 | .d .nilm,.d k=>(zgH ks k []).map fun _=>(if ok then V.ofTuple [.d z,.d (.bool false)]else .d z,h)
 |_,_=>none
theorem zyP {ks:List CK} {z:D} {m k:Opd} {ok:Bool}:zae app sh fr env r h (.lookup ks z m k ok)=lookO ks z ok h (opd env r m) (opd env r k):=by
 simp only[zae]
 cases opd env r k with
 |d kd=>
  cases opd env r m with
  |map b=>
   simp only[lookO,zon,zcz]
   cases h.get b with
   |none=>rfl
   |some x=>cases x with
    |map es c=>simp only;cases zgH ks kd es with
     |none=>rfl
     |some y=>cases y with
      |none=>rfl
      |some vt=>rfl
    |_=>rfl
  |d x=>cases x with
   |nilm=>simp only[lookO,zcz];cases zgH ks kd []<;>rfl
   |_=>rfl
  |_=>rfl
 |_=>cases opd env r m<;>first|rfl|(rename_i x;cases x<;>rfl)
def zhI (ks:List CK) (z k:D) (b:Nat) (h:Heap):Option Blk→Option (V×Heap)
 |some (.map es clock)=>(zgH ks k es).map fun x=>match x with
  |some (v,t)=>(V.ofTuple [v,.d (.int .i64 t)],h)
  |none=>(V.ofTuple [.d z,.d (.int .i64 clock)],h.put b (.map (es++[(k,.d z,clock)]) (clock+1)))
 |_=>none
def zuP (ks:List CK) (z:D) (h:Heap):V→V→Option (V×Heap)
 | .map b,.d k=>zhI ks z k b h (h.get b)
 |_,_=>none
theorem zyQ {ks:List CK} {z:D} {m k:Opd}:zae app sh fr env r h (.mentry ks z m k)=zuP ks z h (opd env r m) (opd env r k):=by
 simp only[zae]
 cases opd env r m with
 |map b=>cases opd env r k with
  |d kd=>
   simp only[zuP,zhI]
   cases h.get b with
   |none=>rfl
   |some x=>cases x with
    |map es c=>simp only;cases zgH ks kd es with
     |none=>rfl
     |some y=>cases y with
      |none=>rfl
      |some vt=>rfl
    |_=>rfl
  |_=>rfl
 |_=>cases opd env r k<;>rfl
def zgQ (i:Nat) (v:V) (b:Nat) (h:Heap):Option Blk→Option (V×Heap)
 |some (.map es clock)=>if es.any (fun e=>e.2.2==i)then some (.undef,h.put b (.map (es.map fun e=>if e.2.2==i then(e.1,v,i)else e) clock))else none
 |_=>none
def zoo (h:Heap) (v:V):V→Option Nat→Option (V×Heap)
 | .map b,some i=>zgQ i v b h (h.get b)
 |_,_=>none
theorem zyR {m s v:Opd}:zae app sh fr env r h (.estore m s v)=zoo h (opd env r v) (opd env r m) (asNat (opd env r s)):=by
 simp only[zae]
 cases opd env r m with
 |map b=>cases asNat (opd env r s)with
  |some i=>
   simp only[zoo,zgQ]
   cases h.get b with
   |none=>rfl
   |some x=>cases x<;>rfl
  |none=>rfl
 |_=>cases asNat (opd env r s)<;>rfl
def zrK (ks:List CK) (k:D) (v:V) (b:Nat) (h:Heap):Option Blk→Option (V×Heap)
 |some (.map es clock)=>(zgH ks k es).bind fun x=>match x with
  |some _=>(zpi ks k v es).map fun es=>(.undef,h.put b (.map es clock))
  |none=>some (.undef,h.put b (.map (es++[(k,v,clock)]) (clock+1)))
 |_=>none
def zCp (ks:List CK) (h:Heap) (v:V):V→V→Option (V×Heap)
 | .map b,.d k=>zrK ks k v b h (h.get b)
 |_,_=>none
theorem zFx {ks:List CK} {m k v:Opd}:zae app sh fr env r h (.mupd ks m k v)=zCp ks h (opd env r v) (opd env r m) (opd env r k):=by
 simp only[zae]
 cases opd env r m with
 |map b=>cases opd env r k with
  |d kd=>
   simp only[zCp,zrK]
   cases h.get b with
   |none=>rfl
   |some x=>cases x with
    |map es c=>simp only;cases zgH ks kd es with
     |none=>rfl
     |some y=>cases y with
      |none=>rfl
      |some vt=>rfl
    |_=>rfl
  |_=>rfl
 |_=>cases opd env r k<;>rfl
theorem zuQ {ks:List CK} {z k:D} {ok:Bool} {b:Nat}:lookO ks z ok h (.map b) (.d k)=zon ks z k ok h (h.get b):=rfl
theorem zrL {ks:List CK} {z k:D} {b:Nat}:zuP ks z h (.map b) (.d k)=zhI ks z k b h (h.get b):=rfl
theorem zop {i:Nat} {v:V} {b:Nat}:zoo h v (.map b) (some i)=zgQ i v b h (h.get b):=rfl
theorem zuR {ks:List CK} {k:D} {v:V} {b:Nat}:zCp ks h v (.map b) (.d k)=zrK ks k v b h (h.get b):=rfl
attribute [go_sem] zyP zyQ zyR zFx zuQ zrL zop zuR
section
variable {K α:Type} [DecidableEq K] {ks:List CK} {e:K→D} {f:α→V}
def zCq (f:α→V) (z:D) (ok:Bool):Option (α×Nat)→V
 |some (a,_)=>if ok then V.ofTuple [f a,.d (.bool true)]else f a
 |none=>if ok then V.ofTuple [.d z,.d (.bool false)]else .d z
theorem zrM {z:D}:zCq f z false (none:Option (α×Nat))= .d z:=rfl
theorem zrN {z:D} {a:α} {i:Nat}:zCq f z false (some (a,i))=f a:=rfl
attribute [go_sem] zrM zrN
theorem zkc (hk:Keyed ks e) {z:D} {ok:Bool} {k:K} {l:List (K×α)} {c:Nat}:zon ks z (e k) ok h (some (.map (ents e f l 0) c))=some (zCq f z ok (zbs k l 0),h):=by
 simp only[zon,zgg hk,Option.map_some]
 cases zbs k l 0<;>rfl
theorem zoq (hk:Keyed ks e) {z:D} {k:K} {l:List (K×α)} {c b i:Nat} {a:α} (hf:zbs k l 0=some (a,i)):zhI ks z (e k) b h (some (.map (ents e f l 0) c))=some (V.ofTuple [f a,.d (.int .i64 i)],h):=by
 simp only[zhI,zgg hk,Option.map_some,hf]
theorem zor (hk:Keyed ks e) {z:α} {zd:D} (hz:f z= .d zd) {k:K} {l:List (K×α)} {b c:Nat} (hf:zbs k l 0=none) (hc:c=l.length):
 zhI ks zd (e k) b h (some (.map (ents e f l 0) c))=some (V.ofTuple [.d zd,.d (.int .i64 c)],h.put b (.map (ents e f (l++[(k,z)]) 0) (c+1))):=by
 subst hc
 simp only[zhI,zgg hk,Option.map_some,hf,Option.map_none]
 rw[zfM]
 simp[ents,hz]
theorem zmw {k:K} {a:α}:∀{l:List (K×α)} {t:Nat},zbs k l t=none→zbs k (l++[(k,a)]) t=some (a,t+l.length)
 |[],t,_=>by simp[zbs]
 |(k',b)::l,t,hh=>by
  simp only[zbs]at hh
  split at hh
  ·cases hh
  ·rename_i hne
   simp only[List.cons_append,zbs,hne,if_false,List.length_cons]
   rw[zmw hh];congr 2;omega
theorem zpF {k:K} {a b:α}:∀{l:List (K×α)} {t:Nat},zbs k l t=none→zhH k a (l++[(k,b)])=l++[(k,a)]
 |[],t,_=>by simp[zhH]
 |(k',b')::l,t,hh=>by
  simp only[zbs]at hh
  split at hh
  ·cases hh
  ·rename_i hne
   simp only[List.cons_append,zhH,hne,if_false]
   rw[zpF hh]
theorem zhJ {k:K} {l:List (K×α)} {c b i:Nat} {a a':α} (hf:zbs k l 0=some (a',i)):zgQ i (f a) b h (some (.map (ents e f l 0) c))=some (.undef,h.put b (.map (ents e f (zhH k a l) 0) c)):=by
 obtain⟨h1,h2⟩:=ziW (e:=e) (f:=f) k a a' i l 0 hf
 simp only[zgQ,h1,h2,if_true]
theorem zcS {k:K} {a:α}:∀(l:List (K×α)) (t:Nat),(zbs k l t).isSome=true→(zhH k a l).length=l.length
 |[],t,hh=>by simp[zbs]at hh
 |(k',b)::l,t,hh=>by
  simp only[zbs]at hh
  simp only[zhH]
  split
  ·rfl
  ·rename_i h;rw[if_neg h]at hh;simp[zcS l (t+1) hh]
theorem zrO (hk:Keyed ks e) {k:K} {l:List (K×α)} {b c:Nat} {a:α} (hc:c=l.length):zrK ks (e k) (f a) b h (some (.map (ents e f l 0) c))=some (.undef,h.put b (.map (ents e f (zhH k a l) 0) (zhH k a l).length)):=by
 subst hc
 simp only[zrK,zgg hk,Option.bind_some]
 cases hf:zbs k l 0 with
 |some x=>
  simp only[Option.map_some]
  rw[zmv hk k a l 0 (by rw[hf];rfl),zcS l 0 (by rw[hf];rfl)];rfl
 |none=>
  simp only[Option.map_none]
  rw[ziV k a l 0 hf,zfM]
  simp[ents]
end
end Go.AI
namespace Go.AI
variable {fr:Nat} {env r:Regs} {h:Heap}
def zEK (fr sz bytes len b:Nat) (new:List V) (h:Heap):Option Blk→Option (V×Heap)
 |some (.els z l fz)=>if z=sz∧l.length=len∧(len+new.length)*bytes≤roomBytes then some (.sl fr 0 (len+new.length),(h.del b).put fr (.els z (l++new) fz))else none
 |_=>none
def zCr (fr sz bytes:Nat) (h:Heap) (new:List V):V→Option (V×Heap)
 | .d (.list true [])=>if new.length*bytes≤roomBytes then some (.sl fr 0 new.length,h.put fr (.els sz new 0))else none
 | .sl b 0 len=>zEK fr sz bytes len b new h (h.get b)
 |_=>none
def zBh (fr sz bytes:Nat) (h:Heap) (dst:V):Option (List V)→Option (V×Heap)
 |some new=>if new.isEmpty then(if dst.isSl then some (dst,h)else none)else if sized sz new then zCr fr sz bytes h new dst else none
 |none=>none
theorem zkO {sz bytes:Nat} {dst src:V}:zlz h fr sz bytes dst src=zBh fr sz bytes h dst (zbt h src):=by
 unfold zlz zBh
 cases zbt h src with
 |none=>rfl
 |some new=>
  simp only[Option.bind_some]
  split
  ·rfl
  ·split
   ·cases dst with
    |d x=>cases x with
     |list n l=>cases n<;>cases l<;>rfl
     |_=>rfl
    |sl b off len=>cases off with
     |zero=>
      simp only[zCr,zEK]
      cases h.get b with
      |none=>rfl
      |some y=>cases y<;>rfl
     |succ k=>rfl
    |_=>rfl
   ·rfl
theorem zos {sz bytes len b:Nat} {new:List V}:zCr fr sz bytes h new (.sl b 0 len)=zEK fr sz bytes len b new h (h.get b):=rfl
theorem zmx {sz bytes len b fz:Nat} {l new:List V} (hl:l.length=len) (hr:(len+new.length)*bytes≤roomBytes):zEK fr sz bytes len b new h (some (.els sz l fz))=some (.sl fr 0 (len+new.length),(h.del b).put fr (.els sz (l++new) fz)):=by
 simp only[zEK,hl,hr,true_and,if_true]
theorem zuS {sz bytes:Nat} {dst:V} {new:List V} (hne:new≠[]) (hs:sized sz new=true):zBh fr sz bytes h dst (some new)=zCr fr sz bytes h new dst:=by
 have:new.isEmpty=false:=List.isEmpty_eq_false_iff.2 hne
 simp only[zBh,this,hs,Bool.false_eq_true,if_false,if_true]
theorem zuT {sz bytes:Nat} {dst:V} (hs:dst.isSl=true):zBh fr sz bytes h dst (some [])=some (dst,h):=by
 simp only[zBh,List.isEmpty_nil,if_true,hs]
theorem zbC {n:Bool} {l:List D}:zbt h (.d (.list n l))=some (l.map .d):=rfl
def zHp (off len:Nat):Option Blk→Option (List V)
 |some (.els _ l _)=>if off+len≤l.length then some ((l.drop off).take len)else none
 |_=>none
theorem zcu {b off len:Nat}:zbt h (.sl b off len)=zHp off len (h.get b):=rfl
theorem zcv {z fz:Nat} {x:V}:zHp 0 1 (some (.els z [x] fz))=some [x]:=rfl
theorem zcJ {z fz len:Nat} {l:List V} (hl:l.length=len):zHp 0 len (some (.els z l fz))=some l:=by
 subst hl;simp[zHp]
theorem zrP {sz:Nat} {z v:V} (h:v.cells.length=sz):zaN sz [z] [(0,v)]=some [v]:=by simp[zaN,h]
theorem zrQ {sz:Nat} {l:List V}:zaN sz l []=some l:=rfl
theorem zkP {α:Type} {x:α}:List.replicate 1 x=[x]:=rfl
theorem zjw {α:Type} {x:α}:List.replicate 0 x=[]:=rfl
theorem sized_map {α:Type} {sz:Nat} {f:α→V} (h1:∀x,(f x).cells.length=sz) (h2:∀x,(f x).cells.all V.one=true) (l:List α):sized sz (l.map f)=true:=by
 simp only[sized,List.all_map,List.all_eq_true,Function.comp_apply,Bool.and_eq_true,beq_iff_eq]
 exact fun x _=>⟨h1 x,List.all_eq_true.1 (h2 x)⟩
theorem zuU {k:IntKind} {n:Int}:sized 1 [V.d (.int k n)]=true:=Eq.trans rfl rfl
theorem zrR {b:Bool}:sized 1 [V.d (.bool b)]=true:=Eq.trans rfl rfl
theorem zuV {b:List UInt8}:sized 1 [V.d (.str b)]=true:=Eq.trans rfl rfl
theorem zrS {k:IntKind} (l:List Int):sized 1 ((l.map (D.int k)).map V.d)=true:=by rw[List.map_map];exact sized_map (f:=fun x=>V.d (.int k x)) (fun _=>rfl) (fun _=>rfl) l
theorem zrT (l:List (List UInt8)):sized 1 ((l.map D.str).map V.d)=true:=by rw[List.map_map];exact sized_map (f:=fun x=>V.d (.str x)) (fun _=>rfl) (fun _=>rfl) l
attribute [go_sem] zuU zrR zuV zrS zrT
theorem zyS {k:IntKind} {n:Int}:(V.d (.int k n)).cells.length=1:=Eq.trans rfl rfl
theorem zuW {b:Bool}:(V.d (.bool b)).cells.length=1:=Eq.trans rfl rfl
theorem zyT {b:List UInt8}:(V.d (.str b)).cells.length=1:=Eq.trans rfl rfl
theorem zuX {b:Bool} {l:List D}:(V.d (.list b l)).cells.length=1:=Eq.trans rfl rfl
theorem zyU {l:List D}:(V.d (.agg l)).cells.length=l.length:=by simp[V.cells,D.cells]
attribute [go_sem] zyS zuW zyT zuX zyU zrP
attribute [go_sem] zbC zcu zcv zrQ zkP zjw zos
def zxi (lo sz:Nat) (h:Heap) (v:V) (l:List V):Prop:=
 (l=[]∧v= .d (.list true []))∨∃b,v= .sl b 0 l.length∧lo≤b∧b<h.next∧h.get b=some (.els sz l 0)∧l≠[]
theorem zxi.nil {lo sz:Nat}:zxi lo sz h (.d (.list true [])) []:= .inl ⟨rfl,rfl⟩
theorem zxi.keep {lo sz:Nat} {h h':Heap} {v:V} {l:List V} (g:zxi lo sz h v l) (hn:h.next≤h'.next) (hk:∀b,lo≤b→b<h.next→h'.get b=h.get b):zxi lo sz h' v l:=by
 rcases g with g|⟨b,h1,h2,h3,h4,h5⟩
 ·exact .inl g
 ·exact .inr ⟨b,h1,h2,Nat.lt_of_lt_of_le h3 hn,(hk b h2 h3).trans h4,h5⟩
theorem zxi.app {lo sz bytes:Nat} {v src:V} {l new:List V} (g:zxi lo sz h v l) (hs:zbt h src=some new) (hsz:sized sz new=true) (hr:(l.length+new.length)*bytes≤roomBytes) (h1:lo≤fr) (h2:fr<h.next) (h3:∀b,v≠.sl fr 0 b):
 ∃v' h',zlz h fr sz bytes v src=some (v',h')∧zxi lo sz h' v' (l++new)∧h'.next=h.next∧∀c,c<lo→h'.get c=h.get c:=by
 rw[zkO,hs]
 by_cases hne:new=[]
 ·subst hne
  have hsl:v.isSl=true:=by
   rcases g with⟨_,rfl⟩|⟨b,rfl,_⟩<;>rfl
  exact⟨v,h,by simp[zBh,hsl],by rw[List.append_nil];exact g,rfl,fun _ _=>rfl⟩
 ·have he:new.isEmpty=false:=by cases new<;>simp at hne⊢
  simp only[zBh,he,hsz,Bool.false_eq_true,if_false,if_true]
  rcases g with⟨rfl,rfl⟩|⟨b,rfl,g1,g2,g3,g4⟩
  ·simp only[List.length_nil,Nat.zero_add]at hr
   refine⟨.sl fr 0 new.length,h.put fr (.els sz new 0),by simp only[zCr];rw[if_pos hr],.inr ⟨fr,by simp,h1,h2,by rw[List.nil_append];exact Heap.put_eq _ _ _,by simpa using hne⟩,rfl,fun c hc=>Heap.put_ne _ _ (by omega)⟩
  ·have hbf:b≠fr:=fun hb=>h3 l.length (by rw[hb])
   refine⟨.sl fr 0 (l.length+new.length),(h.del b).put fr (.els sz (l++new) 0),?_,.inr ⟨fr,by simp,h1,h2,Heap.put_eq _ _ _,by simp[hne]⟩,rfl,fun c hc=>by rw[Heap.put_ne _ _ (by omega),Heap.del_ne _ (by omega)]⟩
   simp only[zCr,zEK,g3,true_and]
   rw[if_pos hr]
theorem zxi.res {lo sz n:Nat} {v:V} {l:List D} (g:zxi lo sz h v (l.map .d)):(res (n+1) h v).map Prod.fst=some (.list (v.isSl&&match v with| .d _=>true|_=>false) l):=by
 rcases g with⟨h1,rfl⟩|⟨b,rfl,_,_,h3,_⟩
 ·have:l=[]:=by simpa using h1
  subst this;rfl
 ·simp only[AI.res,h3,Nat.zero_add,List.length_map,Nat.le_refl,if_true,List.drop_zero]
  rw[List.take_of_length_le (by simp)]
  simp[zbj,zeO,V.isSl]
theorem zot:zbp none=some none:=rfl
theorem zou {v:V}:zbp (some v)=(asNat v).map some:=rfl
attribute [go_sem] zot zou
theorem zuY {n:Bool} {l:List D}:binV .eql .slice (.d (.list n l)) (.d (.list true []))=some (.d (.bool n)):=by
 cases n<;>rfl
theorem zuZ {n:Bool} {l:List D}:binV .neq .slice (.d (.list n l)) (.d (.list true []))=some (.d (.bool !n)):=by
 cases n<;>rfl
attribute [go_sem] zuY zuZ
end Go.AI
namespace Go.AI
variable {A:AProg}
structure Le (h h':Heap):Prop where
 next:h.next≤h'.next
 get:∀b,b<h.next→h'.get b=h.get b
theorem Le.refl {h:Heap}:Le h h:=⟨Nat.le_refl _,fun _ _=>rfl⟩
theorem Le.trans {a b c:Heap} (x:Le a b) (y:Le b c):Le a c:=⟨Nat.le_trans x.next y.next,fun k hk=>(y.get k (Nat.lt_of_lt_of_le hk x.next)).trans (x.get k hk)⟩
theorem Le.bump {h h':Heap} (x:Le h h') (n:Nat):Le h (h'.bump n):=⟨Nat.le_trans x.next (Nat.le_add_right _ _),x.get⟩
theorem Le.put {h h':Heap} (x:Le h h') {b:Nat} {y:Blk} (hb:h.next≤b):Le h (h'.put b y):=⟨x.next,fun k hk=>by rw[Heap.put_ne _ _ (by omega)];exact x.get k hk⟩
theorem Le.del {h h':Heap} (x:Le h h') {b:Nat} (hb:h.next≤b):Le h (h'.del b):=⟨x.next,fun k hk=>by rw[Heap.del_ne _ (by omega)];exact x.get k hk⟩
def zva {T:Type} (A:AProg) (fv:V) (e:T→D) (p:T→Bool) (h:Heap):Prop:=∀h1 x,Le h h1→∃h2,ans A fv [.d (e x)] h1=some (.d (.bool (p x)),h2)∧Le h1 h2
theorem zva.le {T:Type} {fv:V} {e:T→D} {p:T→Bool} {h h':Heap} (t:zva A fv e p h) (l:Le h h'):zva A fv e p h':=fun h1 x hl=>t h1 x (l.trans hl)
def idx {T:Type} (p:T→Bool):List T→Int→Int
 |[],_=> -1
 |x::r,k=>if p x then k else idx p r (k+1)
theorem Wp.rfunc {s:St} {Q:Ex→St→Prop} {f:Opd} {ps:List Nat} {c d:C} (hf:(opd zcO s.r f).isFn=true)
 (hx:∃v h',ans A (opd zcO s.r f) [.yld s.h.next] ((s.h.put s.h.next (.loop {regs:=s.r,params:=ps,assign:=c,body:=d,state:= .ready,pending:=none})).bump 1)=some (v,h')∧∃l,h'.get s.h.next=some (.loop l)∧l.state≠.busy∧
  Q (match l.pending with|none=> .normal|some j=>j.ex) {r:=s.r,h:=h'.put s.h.next (.loop {l with state:= .exhausted})}):Wp A (.rfunc f ps c d) s Q:=by
 obtain⟨v,h',e,l,hl,hb,hq⟩:=hx
 obtain⟨n,hn⟩:=zcP.1 e
 refine⟨n,_,_,?_,hq⟩
 simp only[zbn,hf,Bool.true_eq_false,if_false]
 rw[hn]
 simp only[Option.bind_some,hl,if_neg hb]
 cases l.pending<;>rfl
end Go.AI
namespace Go.AI
variable {h:Heap}
def zCs (n:Nat):Blk→Blk
 | .els z l fz=> .els z l (if n≤fz then fz else n)
 |x=>x
theorem zeT {b n c:Nat}:(freeze h b n).get c=if c=b then(h.get b).map (zCs n)else h.get c:=by
 unfold freeze
 by_cases hc:c=b
 ·subst hc
  rw[if_pos rfl]
  cases hg:h.get c with
  |none=>simp[hg]
  |some x=>
   cases x with
   |els z l fz=>
    simp only[Option.map_some,zCs]
    split
    ·rename_i hle;simp[hg,hle]
    ·rename_i hle;rw[Heap.put_eq]
   |_=>simp[hg,zCs]
 ·rw[if_neg hc]
  split
  ·split
   ·rfl
   ·rw[Heap.put_ne _ _ hc]
  ·rfl
def zyV (n b len:Nat) (h:Heap):Option Blk→Option (D×Heap)
 |some (.els _ l _)=>if len≤l.length then(zbj (res n) (freeze h b len) (l.take len)).map fun x=>(.list false x.1,x.2)else none
 |_=>none
theorem zvb {n b len:Nat}:res (n+1) h (.sl b 0 len)=zyV n b len h (h.get b):=by
 simp only[res,zyV]
 cases h.get b with
 |none=>rfl
 |some x=>cases x<;>simp
theorem zpG {n b len z fz:Nat} {xs:List D} (hl:xs.length=len):zyV n b len h (some (.els z (xs.map V.d) fz))=some (.list false xs,freeze h b len):=by
 subst hl
 have:((xs.map V.d).take xs.length)=xs.map V.d:=List.take_of_length_le (by simp)
 simp[zyV,this,zbj,zeO]
theorem ziX {α:Type} {f:α→D} {n b len z fz:Nat} {xs:List α} (hl:xs.length=len):zyV n b len h (some (.els z (xs.map fun x=>V.d (f x)) fz))=some (.list false (xs.map f),freeze h b len):=by
 have:=zpG (h:=h) (n:=n) (b:=b) (z:=z) (fz:=fz) (xs:=xs.map f) (len:=len) (by simpa using hl)
 rw[List.map_map]at this
 exact this
theorem zvc {n b z fz:Nat} {l:List V}:zyV n b 0 h (some (.els z l fz))=some (.list false [],freeze h b 0):=by
 simp[zyV,zbj,allD]
theorem zCt {n:Nat} {cs:List V}:res (n+1) h (.agg cs)=(zbj (res n) h cs).map fun x=>(.agg x.1,x.2):=rfl
theorem zvd {n:Nat} {cs:List V}:res (n+1) h (.tuple cs)=(zbj (res n) h cs).map fun x=>(.tuple x.1,x.2):=rfl
theorem zve {f:Heap→V→Option (D×Heap)}:zbw f h []=some ([],h):=rfl
def zvf (f:Heap→V→Option (D×Heap)) (r:List V):Option (D×Heap)→Option (List D×Heap)
 |some (x,h)=>(zbw f h r).map fun y=>(x::y.1,y.2)
 |none=>none
theorem zrU {f:Heap→V→Option (D×Heap)} {v:V} {r:List V}:zbw f h (v::r)=zvf f r (f h v):=by
 simp only[zbw]
 cases f h v<;>rfl
theorem zmy {f:Heap→V→Option (D×Heap)} {r:List V} {x:D}:zvf f r (some (x,h))=(zbw f h r).map fun y=>(x::y.1,y.2):=rfl
def zyW (f:Heap→V→Option (D×Heap)) (h:Heap) (l:List V):Option (List D)→Option (List D×Heap)
 |some ds=>some (ds,h)
 |none=>zbw f h l
theorem zCu {f:Heap→V→Option (D×Heap)} {l:List V}:zbj f h l=zyW f h l (allD l):=by
 unfold zbj
 cases allD l<;>rfl
theorem zrV {f:Heap→V→Option (D×Heap)} {l:List V} {ds:List D}:zyW f h l (some ds)=some (ds,h):=rfl
theorem zrW {f:Heap→V→Option (D×Heap)} {l:List V}:zyW f h l none=zbw f h l:=rfl
theorem zCv {a b c:Nat} {r:List V}:allD (.sl a b c::r)=none:=rfl
theorem zyX {cs:List V} {r:List V}:allD (.agg cs::r)=none:=rfl
theorem zrX {cs:List V} {r:List V}:allD (.tuple cs::r)=none:=rfl
theorem zyY {a b c:Nat} {r:List V}:allD (.ptr a b c::r)=none:=rfl
theorem zvg {α:Type} {f:α→D} {l:List α}:allD (l.map fun x=>V.d (f x))=some (l.map f):=by
 have:=zeO (l.map f)
 rw[List.map_map]at this
 exact this
theorem zyZ {n z fz:Nat} {l:List V}:zCs n (.els z l fz)= .els z l (if n≤fz then fz else n):=rfl
attribute [go_sem] zCu zfF zeT zvb zvc zCt zvd zve zrU zmy zrV zrW zCv zyX zrX zyY zeO zvg zyZ
structure StepsS {T σ:Type} (A:AProg) (fv:V) (e:T→D) (step:σ→T→Bool×σ) (lo:Nat) (I:σ→Heap→Prop):Prop where
 keep:∀s h h',I s h→h.next≤h'.next→(∀b,b<lo→h'.get b=h.get b)→I s h'
 call:∀s h1 x,lo≤h1.next→I s h1→∃h2,ans A fv [.d (e x)] h1=some (.d (.bool (step s x).1),h2)∧I (step s x).2 h2∧h1.next≤h2.next∧∀b,lo≤b→b<h1.next→h2.get b=h1.get b
theorem zva.steps {T:Type} {A:AProg} {fv:V} {e:T→D} {p:T→Bool} {h:Heap} (t:zva A fv e p h):StepsS A fv e (fun(_:Unit) x=>(p x,())) h.next (fun _ g=>Le h g) where
 keep:=fun _ g g' l hn hg=>⟨Nat.le_trans l.next hn,fun b hb=>(hg b hb).trans (l.get b hb)⟩
 call:=fun _ h1 x hl l=>by
  obtain⟨h2,e2,l2⟩:=t h1 x l
  exact⟨h2,e2,l.trans l2,l2.next,fun b _ hb=>l2.get b hb⟩
theorem zCw {k:IntKind} {a b:Int}:maxV [.d (.int k a),.d (.int k b)]=some (.d (.int k (max a b))):=by
 have:(if b>a then b else a)=max a b:=by omega
 rw[←this];simp[maxV,foldV,max2]
theorem zCx {k:IntKind} {a b:Int}:minV [.d (.int k a),.d (.int k b)]=some (.d (.int k (min a b))):=by
 have:(if b<a then b else a)=min a b:=by omega
 rw[←this];simp[minV,foldV,max2]
attribute [go_sem] zCw zCx
end Go.AI
