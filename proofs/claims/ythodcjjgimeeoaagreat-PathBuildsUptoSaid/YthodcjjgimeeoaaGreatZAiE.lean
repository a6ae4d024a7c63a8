/- Shaken copy of a longer text: what one law needs. Its conditions: none. -/
import Derived.Test.YthodcjjgimeeoaaGreatZAiD
import Derived.ChangeSame
import Derived.ChangeReads
import Derived.Carry
import Derived.Deep.Slices
import Derived.RowKit
set_option linter.unusedSimpArgs false
set_option linter.unusedVariables false
set_option linter.unusedSectionVars false
set_option linter.unnecessarySimpa false
namespace Go.AI
open Go.ChangeShapes
inductive Ty where
 |bool|int (k:IntKind)|str|list (e:Ty)|agg (cs:List Ty)
 deriving Inhabited
inductive HasTy:Ty→D→Prop
 |bool (b:Bool):HasTy .bool (.bool b)
 |int {k:IntKind} {n:Int} (h1:k.min≤n) (h2:n≤k.max):HasTy (.int k) (.int k n)
 |str {s:List UInt8} (h:s.length≤maxLen):HasTy .str (.str s)
 |nil {e:Ty}:HasTy (.list e) (.list true [])
 |list {e:Ty} {l:List D} (h:∀x∈l,HasTy e x):HasTy (.list e) (.list false l)
 |agg {ts:List Ty} {xs:List D} (hl:xs.length=ts.length) (h:∀(j:Nat) (t:Ty) (x:D),ts[j]? =some t→xs[j]? =some x→HasTy t x):HasTy (.agg ts) (.agg xs)
mutual
def D.bulk:D→Nat
 | .str s=>s.length+1
 | .list _ l=>D.bulkAll l+1
 | .agg l=>D.bulkAll l+1
 |_=>1
def D.bulkAll:List D→Nat
 |[]=>0
 |x::r=>D.bulk x+D.bulkAll r
end
theorem zgG (a b:List D):D.bulkAll (a++b)=D.bulkAll a+D.bulkAll b:=by
 induction a with
 |nil=>simp[D.bulkAll]
 |cons x a ih=>simp only[List.cons_append,D.bulkAll,ih];omega
section
variable (P:Program)
def zce (t:TypeId):Bool:=match P.underlying t with|some (.struct _)=>true|_=>false
def zxz (agg:Bool) (l:List Ty):Option Ty:=if agg then some (.agg l)else match l with|[x]=>some x|_=>none
def zxA (f:TypeId→Option (List Ty)):Nat→List Field→Option (List Ty)
 |_,[]=>some []
 |off,x::r=>if x.offset==off then(f x.type).bind fun ts=>if ts.length==P.cellsOf x.type then(zxA f (off+ts.length) r).map fun l=>ts++l else none else none
def zqH:Nat→TypeId→Option (List Ty)
 |0,_=>none
 |n+1,t=>match P.underlying t with
  |some .bool=>some [.bool]
  |some (.int k)=>some [.int k]
  |some .string=>some [.str]
  |some (.slice e)=>(zqH n e).bind fun l=>if l.length==P.cellsOf e&&l.length !=0 then(zxz (zce P e) l).map fun x=>[.list x]else none
  |some (.struct fs)=>(zxA P (zqH n) 0 fs.toList).bind fun l=>if l.length==P.cellsOf t then some l else none
  |_=>none
end
structure Cells (w:World) (S:Nat→Nat→Prop) (ts:List Ty) (cs:List Value) (xs:List D):Prop where
 len:xs.length=cs.length
 tlen:ts.length=cs.length
 ty:∀(j:Nat) t x,ts[j]? =some t→xs[j]? =some x→HasTy t x
 rd:∀(j:Nat) x v,xs[j]? =some x→cs[j]? =some v→RD w S x v
theorem Cells.append {w:World} {S:Nat→Nat→Prop} {ts ts':List Ty} {cs cs':List Value} {xs xs':List D} (h:Cells w S ts cs xs) (h':Cells w S ts' cs' xs'):Cells w S (ts++ts') (cs++cs') (xs++xs'):=by
 obtain⟨h1,h2,h3,h4⟩:=h
 obtain⟨g1,g2,g3,g4⟩:=h'
 refine⟨by simp[h1,g1],by simp[h2,g2],fun j t x ht hx=> ?_,fun j x v hx hv=> ?_⟩
 ·rcases Nat.lt_or_ge j cs.length with hj|hj
  ·rw[List.getElem?_append_left (by omega)]at ht hx;exact h3 j t x ht hx
  ·rw[List.getElem?_append_right (by omega)]at ht hx
   rw[h2]at ht;rw[h1]at hx;exact g3 _ t x ht hx
 ·rcases Nat.lt_or_ge j cs.length with hj|hj
  ·rw[List.getElem?_append_left (by omega)]at hv hx;exact h4 j x v hx hv
  ·rw[List.getElem?_append_right (by omega)]at hv hx
   rw[h1]at hx;exact g4 _ x v hx hv
theorem Cells.one {w:World} {S:Nat→Nat→Prop} {t:Ty} {v:Value} {x:D} (h:HasTy t x) (h':RD w S x v):Cells w S [t] [v] [x]:=by
 refine⟨rfl,rfl,fun j t' x' ht hx=> ?_,fun j x' v' hx hv=> ?_⟩
 ·cases j with
  |zero=>cases ht;cases hx;exact h
  |succ j=>cases ht
 ·cases j with
  |zero=>cases hx;cases hv;exact h'
  |succ j=>cases hx
def zFe (agg:Bool) (xs:List D):D:=if agg then .agg xs else xs.headD .nili
structure Bulk (H:Type) where
 one:DataW H→Nat
 all:List (DataW H)→Nat
 nil:all []=0
 cons:∀d r,all (d::r)=one d+all r
 pos:∀d,1≤one d
 str:∀s,one (.lit (.string s))=s.length+1
 slice:∀a b,one (.slice a b)=all a+all b+1
 agg:∀a,one (.agg a)=all a+1
variable {H:Type} {enc:TypeId×Value→H} {P:Program} {w:World} {base:Nat} {spare:Nat→Bool} {held:Bool}
theorem zCh {α β:Type} {f:α→Option β}:∀{l:List α} {r:List β},l.mapM f=some r→r.length=l.length∧∀(i:Nat) x y,l[i]? =some x→r[i]? =some y→f x=some y:=fun h=>⟨mapM_some_length h,fun i x y hx hy=>by rw[mapM_some_get h i x hx];exact hy⟩
theorem zkx {α β:Type} {f:α→Option β}:∀(l:List α) (r:List β),r.length=l.length→(∀(i:Nat) (x:α),l[i]? =some x→f x=r[i]?)→l.mapM f=some r
 |[],[],_,_=>rfl
 |x::l,y::r,hl,h=>by
  rw[List.mapM_cons,h 0 x rfl]
  have:=zkx l r (by simpa using hl) fun i z hz=>by simpa using h (i+1) z (by simpa using hz)
  rw[this];rfl
 |[],_::_,hl,_=>by simp at hl
 |_::_,[],hl,_=>by simp at hl
def D.flat:D→Bool| .agg _=>false|_=>true
theorem zuk {x:D} (h:x.flat=true):x.cells=[x]:=by cases x<;>first|rfl|cases h
theorem zjl {a:Addr} {n:Nat} {cs:List Value} (h:w.cells? base a n=some cs):cs.length=n∧∀(j:Nat) v,cs[j]? =some v→w.cell? (a.add j)=some v:=by
 unfold World.cells? at h
 split at h
 ·obtain⟨h1,h2⟩:=zCh h
  simp only[List.length_range]at h1
  refine⟨h1,fun j v hv=> ?_⟩
  have hj:j<n:=by have:=zav hv;omega
  exact h2 j j v (by rw[List.getElem?_range hj]) hv
 ·cases h
theorem cell_spot {a:Addr} {v:Value} (h:w.cell? a=some v):a.spot=none:=by
 unfold World.cell? at h
 split at h
 ·split at h
  ·cases h
  ·rename_i hs;simpa using hs
 ·cases h
def zFf (P:Program) (w:World) (B:Bulk H) (t:TypeId) (ts:List Ty) (cs:List Value) (d:DataW H):Prop:=
 ∃xs,Cells w (fun _ _=>True) ts cs xs∧D.bulkAll xs+(if zce P t then 1 else 0)≤B.one d∧(zce P t=false→∃x,xs=[x]∧x.flat=true)
theorem zie {S:Nat→Nat→Prop} {agg:Bool} {ts:List Ty} {T:Ty} {cs:List Value} {xs:List D} (h:Cells w S ts cs xs) (hT:zxz agg ts=some T) (hf:agg=false→∃x,xs=[x]∧x.flat=true):HasTy T (zFe agg xs)∧(zFe agg xs).cells=xs:=by
 cases agg with
 |true=>
  simp only[zxz,if_true,Option.some.injEq]at hT
  subst hT
  exact⟨.agg (by rw[h.len,h.tlen]) h.ty,rfl⟩
 |false=>
  obtain⟨x,rfl,hx⟩:=hf rfl
  have h1:=h.tlen
  have h2:=h.len
  simp only[zxz,Bool.false_eq_true,if_false]at hT
  split at hT
  ·simp only[Option.some.injEq]at hT;subst hT
   exact⟨h.ty 0 _ _ rfl rfl,zuk hx⟩
  ·cases hT
theorem zse {B:Bulk H} {agg:Bool} {xs:List D} {d:DataW H} (h:D.bulkAll xs+(if agg then 1 else 0)≤B.one d) (hx:agg=false→∃x,xs=[x]∧x.flat=true):D.bulk (zFe agg xs)≤B.one d:=by
 cases agg with
 |true=>simp only[zFe,if_true,D.bulk];simpa using h
 |false=>
  obtain⟨x,rfl,_⟩:=hx rfl
  simpa[zFe,D.bulkAll]using h
theorem zky {B:Bulk H} {f:TypeId→Option (List Ty)} {fuel:Nat} (ih:∀t ts cs d p,f t=some ts→DataW.trod enc P w base spare held fuel t cs=some (d,p)→zFf P w B t ts cs d):
 ∀(fs:List Field) (off:Nat) (ts:List Ty) (cs:List Value) (xs:List (DataW H×List MemPlace)),zxA P f off fs=some ts→(fs.mapM fun g=>DataW.trod enc P w base spare held fuel g.type ((cs.drop g.offset).take (P.cellsOf g.type)))=some xs→off+ts.length≤cs.length→
  ∃ys,Cells w (fun _ _=>True) ts ((cs.drop off).take ts.length) ys∧D.bulkAll ys≤B.all (xs.map (·.1))
 |[],off,ts,cs,xs,hf,hm,_=>by
  simp only[zxA,Option.some.injEq]at hf;subst hf
  exact⟨[],⟨by simp,by simp,fun j t x ht=>(by cases ht),fun j x v hx=>(by cases hx)⟩,by simp[D.bulkAll]⟩
 |g::fs,off,ts,cs,xs,hf,hm,hle=>by
  simp only[zxA]at hf
  split at hf
  case isFalse=>cases hf
  rename_i hoff
  have hoff:g.offset=off:=by simpa using hoff
  obtain⟨ts1,h1,hf⟩:=zas hf
  split at hf
  case isFalse=>cases hf
  rename_i hlen
  have hlen:ts1.length=P.cellsOf g.type:=by simpa using hlen
  obtain⟨ts2,h2,rfl⟩:=zaw hf
  rw[List.mapM_cons]at hm
  obtain⟨y,hy,hm⟩:=zas hm
  obtain⟨ys,hys,hm⟩:=zas hm
  simp only[Option.pure_def,Option.some.injEq]at hm;subst hm
  rw[List.length_append]at hle
  obtain⟨zs1,c1,b1,_⟩:=ih _ _ _ y.1 y.2 h1 hy
  obtain⟨zs2,c2,b2⟩:=zky ih fs _ _ _ _ h2 hys (by omega)
  refine⟨zs1++zs2,?_,by rw[zgG,List.map_cons,B.cons];omega⟩
  have he:((cs.drop off).take (ts1++ts2).length)=((cs.drop g.offset).take (P.cellsOf g.type))++((cs.drop (off+ts1.length)).take ts2.length):=by
   rw[hoff,←hlen,List.length_append,List.take_add,List.drop_drop]
  rw[he]
  exact c1.append c2
theorem zlL {B:Bulk H} {S:Nat→Nat→Prop}:∀(n:Nat) (D0:Nat→DataW H) (g:Nat→D),(∀i,i<n→D.bulk (g i)≤B.one (D0 i))→D.bulkAll ((List.range n).map g)≤B.all ((List.range n).map D0)
 |0,_,_,_=>by simp[D.bulkAll]
 |n+1,D0,g,h=>by
  have ha:∀l:List (DataW H),∀r,B.all (l++r)=B.all l+B.all r:=by
   intro l r
   induction l with
   |nil=>simp[B.nil]
   |cons x l ih=>simp only[List.cons_append,B.cons,ih];omega
  rw[List.range_succ,List.map_append,List.map_append,zgG,ha]
  have:=zlL (B:=B) (S:=S) n D0 g fun i hi=>h i (by omega)
  have h1:=h n (by omega)
  simp only[List.map_cons,List.map_nil,D.bulkAll,B.cons,B.nil]
  omega
theorem zqI {B:Bulk H}:∀(n fuel:Nat) (t:TypeId) (ts:List Ty) (cs:List Value) (d:DataW H) (p:List MemPlace),zqH P n t=some ts→DataW.trod enc P w base (fun _=>true) held fuel t cs=some (d,p)→zFf P w B t ts cs d
 |0,_,_,_,_,_,_,h,_=>by cases h
 |n+1,fuel,t,ts,cs,d,p,h,ht=>by
  unfold zqH at h
  split at h
  ·rename_i hu
   cases h
   obtain⟨b,rfl,hx⟩:=DataW.trod_bool hu ht
   cases hx
   exact⟨[.bool b],.one (.bool b) (.bool b),by simp only[zce,hu,D.bulkAll,D.bulk];exact B.pos _,fun _=>⟨_,rfl,rfl⟩⟩
  ·rename_i k hu
   cases h
   obtain⟨m,rfl,hx,hw⟩:=DataW.trod_int hu ht
   cases hx
   have hw':k.min≤m∧m≤k.max:=by simpa[Lit.wf]using hw
   exact⟨[.int k m],.one (.int hw'.1 hw'.2) (.int k m),by simp only[zce,hu,D.bulkAll,D.bulk];exact B.pos _,fun _=>⟨_,rfl,rfl⟩⟩
  ·rename_i hu
   cases h
   obtain⟨s,rfl,hx,hw⟩:=DataW.trod_string hu ht
   cases hx
   have hlen:s.data.toList.length=s.size:=by rw[Array.length_toList];rfl
   exact⟨[.str s.data.toList],.one (.str (by omega)) (.str s),by simp only[zce,hu,D.bulkAll,D.bulk,B.str];simp,fun _=>⟨_,rfl,rfl⟩⟩
  ·rename_i e hu
   have hagg:zce P t=false:=by simp[zce,hu]
   obtain⟨l,hl,h⟩:=zas h
   split at h
   case isFalse=>cases h
   rename_i hlc
   simp only[Bool.and_eq_true,beq_iff_eq,bne_iff_ne,ne_eq]at hlc
   obtain⟨T,hT,rfl⟩:=zaw h
   rcases DataW.trod_slice hu ht with⟨rfl,hx⟩|⟨a,len,cap,elems,rest,m,_,rfl,hx,_,hle,_,hel,hE,hR,_⟩
   ·cases hx
    exact⟨[.list true []],.one .nil .nil,by rw[hagg];simp only[D.bulkAll,D.bulk];exact B.pos _,fun _=>⟨_,rfl,rfl⟩⟩
   ·cases hx
    have hsz:P.cellsOf e≠0:=by rw[←hlc.1];exact hlc.2
    have hex:∀i,i<len→∃cs' y xs,elems[i]? =some y∧w.cells? base (a.add (i*P.cellsOf e)) (P.cellsOf e)=some cs'∧Cells w (fun _ _=>True) l cs' xs∧D.bulkAll xs+(if zce P e then 1 else 0)≤B.one y.1∧(zce P e=false→∃x,xs=[x]∧x.flat=true):=by
     intro i hi
     have h1:=hE i hi
     have hi':i<elems.length:=by omega
     rw[List.getElem?_eq_getElem hi']at h1
     obtain⟨cs',h2,h3⟩:=zas h1
     obtain⟨xs,h4,h5,h6⟩:=zqI (B:=B) n m e l cs' elems[i].1 elems[i].2 hl h3
     exact⟨cs',elems[i],xs,List.getElem?_eq_getElem hi',h2,h4,h5,h6⟩
    let G:Nat→List D:=fun i=>if hi:i<len then Classical.choose (Classical.choose_spec (Classical.choose_spec (hex i hi)))else[]
    have hG:∀i,i<len→∃cs' y,elems[i]? =some y∧w.cells? base (a.add (i*P.cellsOf e)) (P.cellsOf e)=some cs'∧Cells w (fun _ _=>True) l cs' (G i)∧D.bulkAll (G i)+(if zce P e then 1 else 0)≤B.one y.1∧(zce P e=false→∃x,G i=[x]∧x.flat=true):=by
     intro i hi
     have:=Classical.choose_spec (Classical.choose_spec (Classical.choose_spec (hex i hi)))
     simp only[G,dif_pos hi]
     exact⟨_,_,this⟩
    let g:Nat→D:=fun i=>zFe (zce P e) (G i)
    have hlen:((List.range len).map g).length=len:=by simp
    refine⟨[.list false ((List.range len).map g)],.one (.list fun x hx=> ?_) ?_,?_,fun _=>⟨_,rfl,rfl⟩⟩
    ·obtain⟨i,hi,rfl⟩:=List.mem_map.1 hx
     obtain⟨cs',y,_,_,c,_,f⟩:=hG i (List.mem_range.1 hi)
     exact(zie c hT f).1
    ·by_cases hc0:cap=0
     ·have:len=0:=by omega
      subst this;subst hc0
      exact .empty a
     have hsp:a.spot=none:=by
      have key:∀cs',w.cells? base (a.add (0*P.cellsOf e)) (P.cellsOf e)=some cs'→a.spot=none:=by
       intro cs' hcs
       obtain⟨h1,h2⟩:=zjl hcs
       have h0:0<cs'.length:=by omega
       have:=h2 0 _ (List.getElem?_eq_getElem h0)
       rw[Nat.zero_mul]at this
       exact cell_spot this
      by_cases hl0:len=0
      ·obtain⟨hr1,hr2⟩:=hR rfl
       have h1:=hr2 0 (by omega)
       have h0:0<rest.length:=by omega
       rw[List.getElem?_eq_getElem h0]at h1
       obtain⟨cs',h2,_⟩:=zas h1
       rw[hl0]at h2
       exact key cs' h2
      ·obtain⟨cs',y,_,h2,_⟩:=hG 0 (by omega)
       exact key cs' h2
     obtain⟨m0,off,sp⟩:=a
     dsimp only at hsp
     subst hsp
     have hcell:∀i j,i<len→j<P.cellsOf e→∃v,w.cell? ⟨m0,off+(i*P.cellsOf e+j),none⟩=some v∧∀x,(G i)[j]? =some x→RD w (fun _ _=>True) x v:=by
      intro i j hi hj
      obtain⟨cs',y,_,h2,c,_,_⟩:=hG i hi
      obtain⟨h3,h4⟩:=zjl h2
      have hj':j<cs'.length:=by omega
      have h5:=h4 j _ (List.getElem?_eq_getElem hj')
      rw[Addr.add_lit,Addr.add_lit,Nat.add_assoc]at h5
      exact⟨_,h5,fun x hx=>c.rd j x _ hx (List.getElem?_eq_getElem hj')⟩
     have hgi:∀(i:Nat) (x:D),((List.range len).map g)[i]? =some x→i<len∧x=g i:=by
      intro i x hx
      have hi:=zav hx
      rw[hlen]at hi
      rw[List.getElem?_map,List.getElem?_range hi]at hx
      simp only[Option.map_some,Option.some.injEq]at hx
      exact⟨hi,hx.symm⟩
     have hcells:∀i,i<len→(g i).cells=G i:=fun i hi=>by
      obtain⟨cs',y,_,_,c,_,f⟩:=hG i hi
      exact(zie c hT f).2
     have hlenG:∀i,i<len→(G i).length=P.cellsOf e:=fun i hi=>by
      obtain⟨cs',y,_,_,c,_,f⟩:=hG i hi
      rw[c.len,←c.tlen];exact hlc.1
     have:=RD.list (w:=w) (S:=fun _ _=>True) (l:=(List.range len).map g) (m:=m0) (off:=off) (cap:=cap) (sz:=P.cellsOf e) (fun i j=>(w.cell? ⟨m0,off+(i*P.cellsOf e+j),none⟩).getD undef) (by rw[hlen];exact hle) trivial
      (fun i x hx=>by obtain⟨hi,rfl⟩:=hgi i x hx;rw[hcells i hi,hlenG i hi])
      (fun i x j hx hj=>by
       obtain⟨hi,rfl⟩:=hgi i x hx
       obtain⟨v,hv,_⟩:=hcell i j hi hj
       exact⟨by rw[hv];rfl,trivial⟩)
      (fun i x j y hx hy=>by
       obtain⟨hi,rfl⟩:=hgi i x hx
       rw[hcells i hi]at hy
       have hj:j<P.cellsOf e:=by rw[←hlenG i hi];exact zav hy
       obtain⟨v,hv,h9⟩:=hcell i j hi hj
       rw[hv];exact h9 y hy)
     rw[hlen]at this
     exact this
    ·rw[hagg]
     simp only[D.bulkAll,D.bulk,B.slice]
     have:=zlL (B:=B) (S:=fun _ _=>True) len (fun i=>((elems.map (·.1))[i]?).getD .nil) g (fun i hi=>by
      obtain⟨cs',y,h1,_,c,b,f⟩:=hG i hi
      have:(((elems.map (·.1))[i]?).getD .nil)=y.1:=by rw[List.getElem?_map,h1];rfl
      rw[this]
      exact zse b f)
     have he:(List.range len).map (fun i=>((elems.map (·.1))[i]?).getD .nil)=elems.map (·.1):=by
      apply List.ext_getElem?
      intro i
      by_cases hi:i<len
      ·have hi':i<elems.length:=by omega
       simp[hi,hi']
      ·rw[List.getElem?_eq_none (by simp;omega),List.getElem?_eq_none (by simp;omega)]
     rw[he]at this
     simp;omega
  ·rename_i fs hu
   have hagg:zce P t=true:=by simp[zce,hu]
   obtain⟨xs,m,_,hx,hlen,hxl,hF⟩:=DataW.trod_struct hu ht
   cases hx
   obtain⟨l,hl,h⟩:=zas h
   split at h
   case isFalse=>cases h
   rename_i hlc
   cases h
   have hlc:ts.length=P.cellsOf t:=by simpa using hlc
   have hm:(fs.toList.mapM fun g=>DataW.trod enc P w base (fun _=>true) held m g.type ((cs.drop g.offset).take (P.cellsOf g.type)))=some xs:=
    zkx fs.toList xs (by rw[hxl,Array.length_toList]) fun i g hg=>hF i g (by simpa using hg)
   obtain⟨ys,c,b⟩:=zky (B:=B) (fun t ts cs d p h ht=>zqI n m t ts cs d p h ht) fs.toList 0 ts cs xs hl hm (by omega)
   have he:(cs.drop 0).take ts.length=cs:=by rw[List.drop_zero,hlc,←hlen,List.take_length]
   rw[he]at c
   exact⟨ys,c,by rw[hagg,B.agg];simpa using b,fun h=>by rw[hagg]at h;cases h⟩
  ·cases h
def zJO (P:Program) (t:TypeId):Option Ty:=(zqH P 20 t).bind (zxz (zce P t))
def zlM (P:Program):List TypeId→Option (List Ty)
 |[]=>some []
 |t::r=>(zJO P t).bind fun x=>(zlM P r).map (x:: ·)
inductive HasAll:List Ty→List D→Prop
 |nil:HasAll [] []
 |cons {t:Ty} {x:D} {ts:List Ty} {xs:List D} (h:HasTy t x) (r:HasAll ts xs):HasAll (t::ts) (x::xs)
theorem zxB {b0:Nat} {n:Nat} {t:TypeId} {ts:List Ty} {v:Value} (h:zqH P n t=some ts) (hagg:zce P t=false) (hv:Value.okWide P w .any b0 t v):v.cells.toList=[v]:=by
 cases n with
 |zero=>cases h
 |succ n=>
  unfold zqH at h
  unfold Value.okWide at hv
  split at h
  ·rename_i hu
   rw[hu]at hv
   simp only[Cell.okWide,hu]at hv
   cases v<;>first|rfl|(simp[Cell.ok,hu]at hv;done)
  ·rename_i hu
   rw[hu]at hv
   simp only[Cell.okWide,hu]at hv
   cases v<;>first|rfl|(simp[Cell.ok,hu]at hv;done)
  ·rename_i hu
   rw[hu]at hv
   simp only[Cell.okWide,hu]at hv
   cases v<;>first|rfl|(simp[Cell.ok,hu]at hv;done)
  ·rename_i hu
   rw[hu]at hv
   simp only[Cell.okWide,hu]at hv
   cases v<;>first|rfl|(simp[Cell.ok,hu]at hv;done)
  ·rename_i hu
   simp[zce,hu]at hagg
  ·cases h
theorem zxC {b0:Nat} {t:TypeId} {v:Value} (hagg:zce P t=true) (hv:Value.okWide P w .any b0 t v):∃cs,v= .agg cs:=by
 unfold zce at hagg
 unfold Value.okWide at hv
 split at hagg
 ·rename_i hu
  rw[hu]at hv
  obtain⟨cs,h,_⟩:=hv
  exact⟨cs,h⟩
 ·cases hagg
theorem zoD {B:Bulk H} {b0:Nat}:∀(ts:List TypeId) (Ts:List Ty) (vs:List Value) (ds:List (DataW H)) (p:List MemPlace),zlM P ts=some Ts→DataW.TrodAll enc P w base (fun _=>true) held ts vs ds p→
 (∀(j:Nat) t v,ts[j]? =some t→vs[j]? =some v→Value.okWide P w .any b0 t v)→
 ∃xs,xs.length=vs.length∧HasAll Ts xs∧(∀(j:Nat) x,xs[j]? =some x→RD w (fun _ _=>True) x (vs.getD j undef))∧D.bulkAll xs≤B.all ds∧ds.length=ts.length
 |[],Ts,[],[],p,h,ht,hv=>by
  cases h
  exact⟨[],rfl,.nil,fun j x hx=>(by cases hx),by simp[D.bulkAll],rfl⟩
 |t::ts,Ts,v::vs,d::ds,p,h,⟨p1,q,h1,h2,_⟩,hv=>by
  simp only[zlM]at h
  obtain⟨T,hT,h⟩:=zas h
  obtain⟨Ts',hTs,rfl⟩:=zaw h
  unfold zJO at hT
  obtain⟨l,hl,hT⟩:=zas hT
  obtain⟨xs,x1,x2,x3,x4,x5⟩:=zoD (B:=B) ts Ts' vs ds q hTs h2 (fun j t v ht hv'=>hv (j+1) t v (by simpa using ht) (by simpa using hv'))
  obtain⟨fuel,hf⟩:=h1
  obtain⟨ys,c,b,f⟩:=zqI (B:=B) 20 fuel t l _ d p1 hl hf
  obtain⟨y1,y2⟩:=zie c hT f
  have hb:=zse b f
  have hrd:RD w (fun _ _=>True) (zFe (zce P t) ys) v:=by
   cases ha:zce P t with
   |true=>
    obtain⟨cs,rfl⟩:=zxC ha (hv 0 t v rfl rfl)
    have hcl:=c.len
    simp only[Value.cells,Array.length_toList]at hcl
    exact .agg hcl.symm fun j x u hx hu=>c.rd j x u hx (by simpa[Value.cells]using hu)
   |false=>
    obtain⟨x,rfl,_⟩:=f ha
    have h1:=zxB hl ha (hv 0 t v rfl rfl)
    rw[h1]at c
    exact c.rd 0 x v rfl rfl
  refine⟨zFe (zce P t) ys::xs,by simp[x1],.cons y1 x2,fun j x hx=> ?_,by rw[B.cons];simp only[D.bulkAll];omega,by simp[x5]⟩
  cases j with
  |zero=>cases hx;exact hrd
  |succ j=>simpa using x3 j x (by simpa using hx)
theorem HasAll.length {ts:List Ty} {xs:List D} (h:HasAll ts xs):ts.length=xs.length:=by
 induction h with
 |nil=>rfl
 |cons _ _ ih=>simp[ih]
theorem zxD {f:Func} {s:ChangeSpec} {apart fresh handsOn again:Bool} {W W':World} {args:Array Value} {v:Value} {ds gs:List (DataW H)} {before pa pv:List MemPlace}
 (hW:DataW.Whole enc P f.params.toList s.vars apart W args.toList ds gs before)
 (hres:∀(b:Nat) (sp:Nat→Bool) (hd:Bool),DataW.TrodAll enc P W' b sp hd f.resultTypes.toList (v.resultList f.resultTypes.size) (s.fn H (ds++gs)).results [])
 (hargs:∀sp:Nat→Bool,(∀p∈before,sp p.block=true)→DataW.TrodAll enc P W' 0 sp true f.params.toList args.toList (s.fn H (ds++gs)).args pa)
 (hvars:∀sp:Nat→Bool,(∀p∈before,sp p.block=true)→DataW.TrodVars enc P W' sp s.vars (s.fn H (ds++gs)).vars pv)
 (hps:before=pa++pv) (hk:W.keptBut W' (·∈before)) (hfz:∀a,a.block<W.heap.size→W'.frozen? a=W.frozen? a)
 (hok:∀(j:Nat) (t:TypeId) (r:Value),f.resultTypes[j]? =some t→(v.resultList f.resultTypes.size)[j]? =some r→Value.okWide P W' .any 0 t r):
 s.post enc P f apart fresh handsOn again W args v W':=by
 have hold:∀p∈before,(fun b=>decide (b<W.heap.size)) p.block=true:=fun p hp=>by simpa using hW.lt p hp
 have hlt:=hW.lt
 refine⟨ds,gs,before,[],pa,pv,hW,hres _ _ _,hargs _ hold,hvars _ hold,World.keptBut_mono (fun p hp=>⟨hp,?_⟩) hk,fun _=> ?_⟩
 ·rw[hps,List.mem_append]at hp
  exact Or.inr hp
 ·obtain⟨_,_,_,_,_,hz,hn⟩:=hW
  refine⟨hok,_,_,([]++pa)++pv,⟨[]++pa,pv,trodAll_append (hargs _ (fun _ _=>rfl)) (hres _ _ _),hvars _ (fun _ _=>rfl),rfl,?_,?_⟩,?_⟩
  ·intro b off hp
   have hin:MemPlace.cell b off∈before:=by rw[hps];simpa using hp
   rw[hfz _ (hlt _ hin)]
   exact hz b off hin
  ·intro ha
   have:=hn ha
   rw[hps]at this
   simpa using this
  ·intro p hp _
   rw[hps]
   simpa using hp
theorem zoE {S:TypeId→Prop} (hlaid:laidOutB P=true) {W W':World} (hk:∀m,m<W.heap.size→W'.heap[m]? =W.heap[m]?) (hs:W.heap.size≤W'.heap.size) (ho:W'.os=W.os) (ht:W'.tape=W.tape) (hu:W'.output=W.output) {sp:Nat→Bool}:
 ∀(ts:List TypeId) (vs:List Value) (ds:List (DataW H)) (p:List MemPlace),ts.all (fun t=>P.readableRec t&&decide (t<P.types.size))=true→DataW.TrodAll enc P W 0 (fun _=>true) true ts vs ds p→(∀x∈p,x.block<W.heap.size)→(∀x∈p,sp x.block=true)→DataW.TrodAll enc P W' 0 sp true ts vs ds p
 |[],[],[],p,_,h,_,_=>h
 |t::ts,v::vs,d::ds,p,hr,⟨p1,q,h1,h2,hp⟩,hlt,hsp=>by
  subst hp
  rw[List.all_cons,Bool.and_eq_true,Bool.and_eq_true,decide_eq_true_eq]at hr
  obtain⟨⟨r1,r2⟩,r3⟩:=hr
  have hb:RowKit.Below W.heap.size W W':=⟨ho,ht,hu,hs,hk⟩
  exact⟨p1,q,WideElems.Trod_stays hlaid r1 r2 h1 (fun x hx=>hb.same (hlt x (by simp[hx]))) (fun x hx=>hsp x (by simp[hx])),zoE (S:=S) hlaid hk hs ho ht hu ts vs ds q r3 h2 (fun x hx=>hlt x (by simp[hx])) (fun x hx=>hsp x (by simp[hx])),rfl⟩
theorem law_contract {T:Tabs} {A:AProg} (hL:Linked T A P) (B:Bulk H) (enc:TypeId×Value→H) {N:Nat} {f:FuncId} {fn:Func} (hf:P.funcs[f]? =some fn) {Ts:List Ty} (hT:zlM P fn.params.toList=some Ts) {tb:TypeId} (hres:fn.resultTypes= #[tb]) (hb:P.underlying tb=some .bool)
 (hlaid:laidOutB P=true) (hread:fn.params.toList.all (fun t=>P.readableRec t&&decide (t<P.types.size))=true) {s:ChangeSpec} (hv:s.vars=[]) (hs:∀ds:List (DataW H),ds.length=Ts.length→s.fn H ds={results:=[.lit (.bool true)],args:=ds})
 (zQj:∀xs,HasAll Ts xs→D.bulkAll xs≤N→pc A f xs=some (.bool true)) {apart fresh handsOn again:Bool} (W:World) (hTab:Met T (fun _ _=>True) W) (b0:Nat) (args:Array Value) (ds gs:List (DataW H)) (before:List MemPlace)
 (hval:∀(j:Nat) t v,fn.params[j]? =some t→args[j]? =some v→Value.okWide P W .any b0 t v) (hW:DataW.Whole enc P fn.params.toList s.vars apart W args.toList ds gs before) (hk:B.all (ds++gs)≤N):
 Calls P f args W fun e W'=>∃v,e= .returned v∧s.post enc P fn apart fresh handsOn again W args v W':=by
 have hW':=hW
 obtain⟨p,q,hA,hV,rfl,hfz,hnd⟩:=hW
 rw[hv]at hV
 obtain⟨rfl,rfl⟩:=trodVars_none hV
 rw[List.append_nil]at hk
 obtain⟨xs,x1,x2,x3,x4,x5⟩:=zoD (B:=B) fn.params.toList Ts args.toList ds p hT hA (fun j t v ht hv'=>hval j t v (by simpa using ht) (by simpa using hv'))
 have hpc:=zQj xs x2 (Nat.le_trans x4 hk)
 obtain⟨_,_,_,_,hc⟩:=zOd hL hpc hTab x1.symm x3
 refine(hc.calls (fun k=>room_wide k)).mono fun e W' hp=> ?_
 cases e with
 |panicked c=>exact hp.elim
 |outgrown=>exact hp.elim
 |returned mv=>
  obtain⟨k1,k2,k3,k4,k5,k6⟩:=hp
  cases k6
  have hsf:=hs ds (by
   have h7:Ts.length=fn.params.toList.length:=by
    have:∀(ts:List TypeId) (Ts:List Ty),zlM P ts=some Ts→Ts.length=ts.length:=by
     intro ts
     induction ts with
     |nil=>intro Ts h;cases h;rfl
     |cons t ts ih=>
      intro Ts h
      simp only[zlM]at h
      obtain⟨T,_,h⟩:=zas h
      obtain⟨Ts',h8,rfl⟩:=zaw h
      simp[ih Ts' h8]
    exact this _ _ hT
   rw[x5,h7])
  have hltp:∀x∈p,x.block<W.heap.size:=fun x hx=>hW'.lt x (by simp[hx])
  refine⟨.bool true,rfl,zxD (pa:=p) (pv:=[]) hW' (fun b sp hd=> ?_) (fun sp hsp=> ?_) (fun sp _=> ?_) rfl ?_ ?_ ?_⟩
  ·rw[List.append_nil,hsf,hres]
   exact⟨[],[],⟨1,by simp[DataW.trod,hb,Value.cells]⟩,rfl,rfl⟩
  ·rw[List.append_nil,hsf]
   exact zoE (S:=fun _=>True) hlaid k1 k2 k3 k4 k5 _ _ _ _ hread hA hltp (fun x hx=>hsp x (by simp[hx]))
  ·rw[List.append_nil,hsf,hv];rfl
  ·refine⟨k3,k5,fun i hi=> ?_⟩
   rw[k1 i hi]
   split
   ·rename_i c t fr c' t' fr' h1 h2
    rw[h1]at h2;cases h2
    exact⟨rfl,rfl,rfl,fun _ _=>rfl⟩
   ·rename_i es c es' c' h1 h2
    rw[h1]at h2;cases h2
    exact .inr ⟨rfl,rfl⟩
   ·rfl
  ·intro a ha
   simp only[World.frozen?,k1 a.block ha]
  ·exact RowKit.ok_one hres rfl (RowKit.okWide_bool_mk hb true)
end Go.AI
namespace Go.AI
structure Sl (α:Type) where
 n:Bool
 l:List α
 deriving DecidableEq,Inhabited
def eSl {α:Type} (e:α→D) (s:Sl α):D:= .list s.n (s.l.map e)
theorem zJP {α:Type} (e:α→D) (s:Sl α):eSl e s= .list s.n (s.l.map e):=rfl
attribute [go_sem] zJP
def Sl.ok {α:Type} (p:α→Prop) (s:Sl α):Prop:=(s.n=true→s.l=[])∧∀x∈s.l,p x
theorem zdJ {t:Ty} {ts:List Ty} {xs:List D} (h:HasAll (t::ts) xs):∃x r,xs=x::r∧HasTy t x∧HasAll ts r:=by
 cases h with
 |cons h r=>exact⟨_,_,rfl,h,r⟩
theorem zul {xs:List D} (h:HasAll [] xs):xs=[]:=by cases h;rfl
theorem zcT:∀l:List D,l.length≤D.bulkAll l
 |[]=>Nat.le_refl _
 |x::r=>by
  have:=zcT r
  have:1≤D.bulk x:=by cases x<;>simp[D.bulk]
  simp only[List.length_cons,D.bulkAll];omega
theorem HasTy.agg_inv {ts:List Ty} {d:D} (h:HasTy (.agg ts) d):∃xs,d= .agg xs∧xs.length=ts.length∧∀(j:Nat) (t:Ty) (x:D),ts[j]? =some t→xs[j]? =some x→HasTy t x:=by
 cases h with
 |agg hl h=>exact⟨_,rfl,hl,h⟩
theorem HasTy.int_inv {k:IntKind} {d:D} (h:HasTy (.int k) d):∃n,d= .int k n∧(k.min≤n∧n≤k.max):=by
 cases h with
 |int h1 h2=>exact⟨_,rfl,h1,h2⟩
theorem HasTy.bool_inv {d:D} (h:HasTy .bool d):∃b,d= .bool b∧True:=by
 cases h with
 |bool b=>exact⟨_,rfl,trivial⟩
theorem HasTy.str_inv {d:D} (h:HasTy .str d):∃s,d= .str s∧s.length≤maxLen:=by
 cases h with
 |str h=>exact⟨_,rfl,h⟩
theorem zsf {α:Type} {e:α→D} {T:Ty} {p:α→Prop} (inv:∀d,HasTy T d→∃x,d=e x∧p x):∀l:List D,(∀x∈l,HasTy T x)→∃l':List α,l=l'.map e∧∀x∈l',p x
 |[],_=>⟨[],rfl,fun x hx=>by cases hx⟩
 |d::l,h=>by
  obtain⟨x,rfl,hp⟩:=inv d (h d (by simp))
  obtain⟨l',rfl,hp'⟩:=zsf inv l fun y hy=>h y (by simp[hy])
  refine⟨x::l',rfl,fun y hy=> ?_⟩
  rcases List.mem_cons.1 hy with rfl|hy
  ·exact hp
  ·exact hp' y hy
theorem HasTy.sl_inv {α:Type} {e:α→D} {T:Ty} {p:α→Prop} (inv:∀d,HasTy T d→∃x,d=e x∧p x) {d:D} (h:HasTy (.list T) d):∃s:Sl α,d=eSl e s∧Sl.ok p s:=by
 cases h with
 |nil=>exact⟨⟨true,[]⟩,rfl,fun _=>rfl,fun x hx=>by cases hx⟩
 |list h=>
  obtain⟨l',rfl,hp⟩:=zsf inv _ h
  exact⟨⟨false,l'⟩,rfl,fun h=>by(cases h),hp⟩
theorem zif {cs xs:List D} {n:Nat} (h:cs.length=n) (hx:xs.length=n) (h0:0<n) (h1:(xs.map V.d).all V.one=true):V.upd (.d (.agg cs)) 0 n (.d (.agg xs))=some (.d (.agg xs)):=by
 have hc:V.cells (.d (.agg xs))=xs.map .d:=rfl
 have hd:V.cells (.d (.agg cs))=cs.map .d:=rfl
 unfold V.upd
 rw[hc,hd]
 simp only[List.length_map,hx,h,Nat.zero_add,Nat.le_refl,h0,h1,and_self,if_true,V.like]
 congr 1
 unfold splice
 simp only[List.take_zero,List.nil_append,Nat.zero_add,List.length_map,hx]
 rw[List.drop_eq_nil_of_le (by simp[h]),List.append_nil,znW]
theorem zJQ {ks:List CK} {xs ys:List D} {b:Bool} (h:eqV (.agg ks) (.d (.agg xs)) (.d (.agg ys))=some b):binV .eql (.agg ks) (.d (.agg xs)) (.d (.agg ys))=some (.d (.bool b)):=by
 simp[binV,h]
theorem zFg {ks:List CK} {xs ys:List D} {b:Bool} (h:eqV (.agg ks) (.d (.agg xs)) (.d (.agg ys))=some b):binV .neq (.agg ks) (.d (.agg xs)) (.d (.agg ys))=some (.d (.bool !b)):=by
 simp[binV,h]
def ofC (cs:List V):Option (List D)→V
 |some ds=> .d (.agg ds)
 |none=> .agg cs
theorem zeC {cs:List V}:V.ofCells cs=ofC cs (allD cs):=by
 unfold V.ofCells ofC
 cases allD cs<;>rfl
theorem zCi {cs:List V} {ds:List D}:ofC cs (some ds)= .d (.agg ds):=rfl
theorem zCj {cs:List V}:ofC cs none= .agg cs:=rfl
def ofT (cs:List V):Option (List D)→V
 |some ds=> .d (.tuple ds)
 |none=> .tuple cs
theorem zum {cs:List V}:V.ofTuple cs=ofT cs (allD cs):=by
 unfold V.ofTuple ofT
 cases allD cs<;>rfl
theorem zCk {cs:List V} {ds:List D}:ofT cs (some ds)= .d (.tuple ds):=rfl
theorem zCl {cs:List V}:ofT cs none= .tuple cs:=rfl
theorem zxE {a b:V} {l:List V}:oneOr (a::b::l)=V.ofTuple (a::b::l):=rfl
theorem zxF:oneOr []=V.ofTuple []:=rfl
theorem zxG {cs:List V}:zca cs []=some cs:=rfl
theorem zeD {α:Type}:∀(cs:List α) (off:Nat) (v:α),off<cs.length→splice cs off [v]=cs.set off v
 |[],off,v,h=>by simp at h
 |x::cs,0,v,_=>rfl
 |x::cs,off+1,v,h=>by
  have:=zeD cs off v (by simpa using h)
  simp only[splice,List.length_cons,List.length_nil,Nat.zero_add]at this⊢
  simp only[List.take_succ_cons,List.cons_append,List.drop_succ_cons,List.set_cons_succ,this]
theorem zeE {cs:List V} {off:Nat} {v:V} {r:List (Nat×Nat×V)} (hv:v.cells=[v]) (h:off<cs.length):zca cs ((off,1,v)::r)=zca (cs.set off v) r:=by
 simp only[zca,hv,List.length_cons,List.length_nil,Nat.zero_add,Nat.zero_lt_one,true_and]
 rw[if_pos (by omega),zeD _ _ _ h]
theorem zxH {cs:List V} {off:Nat} {k:IntKind} {n:Int} {r:List (Nat×Nat×V)} (h:off<cs.length):zca cs ((off,1,.d (.int k n))::r)=zca (cs.set off (.d (.int k n))) r:=zeE rfl h
theorem zun {cs:List V} {off:Nat} {b:Bool} {r:List (Nat×Nat×V)} (h:off<cs.length):zca cs ((off,1,.d (.bool b))::r)=zca (cs.set off (.d (.bool b))) r:=zeE rfl h
theorem zxI {cs:List V} {off:Nat} {b:List UInt8} {r:List (Nat×Nat×V)} (h:off<cs.length):zca cs ((off,1,.d (.str b))::r)=zca (cs.set off (.d (.str b))) r:=zeE rfl h
theorem zuo {cs:List V} {off:Nat} {b:Bool} {l:List D} {r:List (Nat×Nat×V)} (h:off<cs.length):zca cs ((off,1,.d (.list b l))::r)=zca (cs.set off (.d (.list b l))) r:=zeE rfl h
theorem zCm {cs:List V} {off:Nat} {a b c:Nat} {r:List (Nat×Nat×V)} (h:off<cs.length):zca cs ((off,1,.sl a b c)::r)=zca (cs.set off (.sl a b c)) r:=zeE rfl h
theorem zxJ {cs:List V} {off:Nat} {a b c:Nat} {r:List (Nat×Nat×V)} (h:off<cs.length):zca cs ((off,1,.ptr a b c)::r)=zca (cs.set off (.ptr a b c)) r:=zeE rfl h
theorem zxK {cs:List V} {off n:Nat} {l:List D} {r:List (Nat×Nat×V)} (hn:l.length=n) (h0:0<n) (h:off+n≤cs.length):zca cs ((off,n,.d (.agg l))::r)=zca (splice cs off (l.map .d)) r:=by
 have hc:V.cells (.d (.agg l))=l.map .d:=rfl
 simp only[zca,hc,List.length_map,hn,true_and]
 rw[if_pos ⟨h0,h⟩]
theorem zup {α:Type} {new:List α}:splice [] 0 new=new:=by simp[splice]
theorem zjs {α:Type} {x y:α} {cs new:List α}:splice (x::cs) 0 (y::new)=y::splice cs 0 new:=by
 simp[splice]
theorem zkz {α:Type} {cs:List α}:splice cs 0 []=cs:=by simp[splice]
theorem zqJ {α:Type} {x:α} {cs new:List α} {n:Nat}:splice (x::cs) (n+1) new=x::splice cs n new:=by
 simp only[splice,List.take_succ_cons,List.cons_append]
 rw[Nat.add_right_comm,List.drop_succ_cons]
attribute [go_sem] zeC zCi zCj zum zCk zCl zxE zxF zxG zxH zun zxI zuo zCm zxJ zup zjs zkz zqJ
theorem zjC {cs:List D} {off:Nat} {x:D} (hx:(V.d x).cells=[.d x]) (h1:(V.d x).one=true) (h:off<cs.length):V.upd (.d (.agg cs)) off 1 (.d x)=some (.d (.agg (cs.set off x))):=by
 have hd:V.cells (.d (.agg cs))=cs.map .d:=rfl
 unfold V.upd
 rw[hx,hd]
 simp only[List.length_map,List.length_cons,List.length_nil,Nat.zero_add,Nat.zero_lt_one,true_and,List.all_cons,h1,List.all_nil,Bool.and_true,and_true]
 rw[if_pos (by omega),zeD _ _ _ (by simpa using h)]
 simp only[V.like]
 rw[←List.map_set,znW]
theorem zxL {cs:List D} {off:Nat} {k:IntKind} {n:Int} (h:off<cs.length):V.upd (.d (.agg cs)) off 1 (.d (.int k n))=some (.d (.agg (cs.set off (.int k n)))):=zjC rfl rfl h
theorem zuq {cs:List D} {off:Nat} {b:Bool} (h:off<cs.length):V.upd (.d (.agg cs)) off 1 (.d (.bool b))=some (.d (.agg (cs.set off (.bool b)))):=zjC rfl rfl h
theorem zxM {cs:List D} {off:Nat} {b:List UInt8} (h:off<cs.length):V.upd (.d (.agg cs)) off 1 (.d (.str b))=some (.d (.agg (cs.set off (.str b)))):=zjC rfl rfl h
theorem zur {cs:List D} {off:Nat} {b:Bool} {l:List D} (h:off<cs.length):V.upd (.d (.agg cs)) off 1 (.d (.list b l))=some (.d (.agg (cs.set off (.list b l)))):=zjC rfl rfl h
theorem zJR {cs:List D} {off:Nat} {v:V} (hx:v.cells=[v]) (h1:v.one=true) (h:off<cs.length):V.upd (.d (.agg cs)) off 1 v=some (V.ofCells ((cs.map V.d).set off v)):=by
 have hd:V.cells (.d (.agg cs))=cs.map .d:=rfl
 unfold V.upd
 rw[hx,hd]
 simp only[List.length_map,List.length_cons,List.length_nil,Nat.zero_add,Nat.zero_lt_one,true_and,List.all_cons,h1,List.all_nil,Bool.and_true,and_true]
 rw[if_pos (by omega),zeD _ _ _ (by simpa using h)]
 rfl
theorem zCn {cs:List D} {off a b c:Nat} (h:off<cs.length):V.upd (.d (.agg cs)) off 1 (.sl a b c)=some (V.ofCells ((cs.map V.d).set off (.sl a b c))):=zJR rfl rfl h
theorem zoF {cs:List V} {off:Nat} {v:V} (hx:v.cells=[v]) (h1:v.one=true) (h:off<cs.length):V.upd (.agg cs) off 1 v=some (V.ofCells (cs.set off v)):=by
 have hd:V.cells (.agg cs)=cs:=rfl
 unfold V.upd
 rw[hx,hd]
 simp only[List.length_cons,List.length_nil,Nat.zero_add,Nat.zero_lt_one,true_and,List.all_cons,h1,List.all_nil,Bool.and_true,and_true]
 rw[if_pos (by omega),zeD _ _ _ h]
 rfl
theorem zCo {cs:List V} {off a b c:Nat} (h:off<cs.length):V.upd (.agg cs) off 1 (.sl a b c)=some (V.ofCells (cs.set off (.sl a b c))):=zoF rfl rfl h
theorem zxN {cs:List V} {off:Nat} {k:IntKind} {n:Int} (h:off<cs.length):V.upd (.agg cs) off 1 (.d (.int k n))=some (V.ofCells (cs.set off (.d (.int k n)))):=zoF rfl rfl h
theorem zus {cs:List V} {off:Nat} {b:Bool} (h:off<cs.length):V.upd (.agg cs) off 1 (.d (.bool b))=some (V.ofCells (cs.set off (.d (.bool b)))):=zoF rfl rfl h
theorem zxO {cs:List V} {off:Nat} {b:List UInt8} (h:off<cs.length):V.upd (.agg cs) off 1 (.d (.str b))=some (V.ofCells (cs.set off (.d (.str b)))):=zoF rfl rfl h
theorem zut {cs:List V} {off:Nat} {b:Bool} {l:List D} (h:off<cs.length):V.upd (.agg cs) off 1 (.d (.list b l))=some (V.ofCells (cs.set off (.d (.list b l)))):=zoF rfl rfl h
theorem zxP {e v:V} {n:Nat} (h1:v.cells.length=n) (h0:0<n) (h2:e.cells.length=n) (h3:v.cells.all V.one=true):V.upd e 0 n v=some (V.like e v.cells):=by
 unfold V.upd
 rw[if_pos ⟨h1,h0,by omega,h3⟩]
 congr 2
 simp only[splice,List.take_zero,List.nil_append,Nat.zero_add,h1]
 rw[List.drop_eq_nil_of_le (by omega),List.append_nil]
attribute [go_sem] zxL zuq zxM zur zCn zCo zxN zus zxO zut
theorem zGj {cs xs:List D} {n:Nat} (hx:xs.length=n) (h:cs.length=n) (h0:0<n) (h1:(xs.map V.d).all V.one=true):V.upd (.d (.agg cs)) 0 n (.d (.agg xs))=some (.d (.agg xs)):=zif h hx h0 h1
theorem zxQ {cs:List D} {xs:List V} {n:Nat} (hx:xs.length=n) (h:cs.length=n) (h0:0<n) (h1:xs.all V.one=true):V.upd (.d (.agg cs)) 0 n (.agg xs)=some (V.ofCells xs):=by
 rw[zxP (v:= .agg xs) hx h0 (by simpa[V.cells,D.cells]using h) h1];rfl
theorem zuu {cs:List D}:D.cells (.agg cs)=cs:=rfl
theorem zGk {k:IntKind} {n:Int}:V.one (.d (.int k n))=true:=rfl
theorem zCp {b:Bool}:V.one (.d (.bool b))=true:=rfl
theorem zGl {b:List UInt8}:V.one (.d (.str b))=true:=rfl
theorem zCq {b:Bool} {l:List D}:V.one (.d (.list b l))=true:=rfl
theorem zJS {a b c:Nat}:V.one (.sl a b c)=true:=rfl
theorem zGm {a b c:Nat}:V.one (.ptr a b c)=true:=rfl
attribute [go_sem] zGj zxQ zuu zGk zCp zGl zCq zJS zGm
theorem zuv {k:IntKind} {n:Int}:D.cells (.int k n)=[.int k n]:=rfl
theorem zqK {b:Bool}:D.cells (.bool b)=[.bool b]:=rfl
theorem zuw {b:List UInt8}:D.cells (.str b)=[.str b]:=rfl
theorem zqL {b:Bool} {l:List D}:D.cells (.list b l)=[.list b l]:=rfl
attribute [go_sem] zuv zqK zuw zqL Nat.add_zero List.nil_append List.cons_append
theorem zoG {cs:List D} {n:Nat} (h:cs.length=n):D.sub (.agg cs) 0 (some n)=some (.agg cs):=by
 subst h;simp[D.sub,D.cells]
theorem zoH {cs:List V} {n:Nat} (h:cs.length=n):V.sub (.agg cs) 0 (some n)=some (V.ofCells cs):=by
 subst h;simp[V.sub,V.cells]
theorem zmJ {cs:List D} {o n:Nat} (h:o+n≤cs.length):D.sub (.agg cs) o (some n)=some (.agg ((cs.drop o).take n)):=by
 simp[D.sub,D.cells,h]
theorem zmK {cs:List V} {o n:Nat} (h:o+n≤cs.length):V.sub (.agg cs) o (some n)=some (V.ofCells ((cs.drop o).take n)):=by
 simp[V.sub,V.cells,h]
attribute [go_sem] zoG zoH zmJ zmK List.drop_zero List.drop_succ_cons List.take_succ_cons List.take_zero
end Go.AI
namespace Go.AI
variable {app:App} {sh:FuncId→Bool} {fr:Nat} {env r:Regs} {h:Heap}
def ents {K α:Type} (e:K→D) (f:α→V):List (K×α)→Nat→List (D×V×Nat)
 |[],_=>[]
 |(k,a)::l,t=>(e k,f a,t)::ents e f l (t+1)
def zbB {K α:Type} [DecidableEq K] (k:K):List (K×α)→Nat→Option (α×Nat)
 |[],_=>none
 |(k',a)::l,t=>if k=k' then some (a,t)else zbB k l (t+1)
def zfy {K α:Type} [DecidableEq K] (k:K) (a:α):List (K×α)→List (K×α)
 |[]=>[(k,a)]
 |(k',b)::l=>if k=k' then(k,a)::l else(k',b)::zfy k a l
def Keyed {K:Type} [DecidableEq K] (ks:List CK) (e:K→D):Prop:=∀a b,zeV ks (e a) (e b)=some (decide (a=b))
theorem zak {k:IntKind}:Keyed [.int] (D.int k):=fun a b=>by simp[zeV,D.isAgg,D.cells,zaM,zbt];rfl
section
variable {K α:Type} [DecidableEq K] {ks:List CK} {e:K→D} {f:α→V}
theorem zkA:∀(l:List (K×α)) (t:Nat),(ents e f l t).length=l.length
 |[],_=>rfl
 |(k,a)::l,t=>by simp[ents,zkA l]
theorem zgV:∀(l m:List (K×α)) (t:Nat),ents e f (l++m) t=ents e f l t++ents e f m (t+l.length)
 |[],m,t=>by simp[ents]
 |(k,a)::l,m,t=>by simp[ents,zgV l m,Nat.add_assoc,Nat.add_comm 1]
theorem zlN (hk:Keyed ks e) (k:K):∀(l:List (K×α)) (t:Nat),zep ks (e k) (ents e f l t)=some ((zbB k l t).map fun x=>(f x.1,x.2))
 |[],t=>rfl
 |(k',a)::l,t=>by
  simp only[ents,zep,hk k k',Option.bind_some,zbB]
  by_cases h:k=k'
  ·simp[h]
  ·simp[h,zlN hk k l (t+1)]
theorem zhs (hk:Keyed ks e) (k:K) (l:List (K×α)) (t:Nat):zhV ks (e k) (ents e f l t)=some ((zbB k l t).map fun x=>(f x.1,x.2)):=by
 unfold zhV
 rw[hk k k,zlN hk]
 simp
theorem zoI (hk:Keyed ks e) (k:K) (a:α):∀(l:List (K×α)) (t:Nat),(zbB k l t).isSome=true→zrK ks (e k) (f a) (ents e f l t)=some (ents e f (zfy k a l) t)
 |[],t,hh=>by simp[zbB]at hh
 |(k',b)::l,t,hh=>by
  simp only[ents,zrK,hk k k',Option.bind_some,zfy]
  by_cases h:k=k'
  ·subst h;simp[ents]
  ·simp only[zbB,h,if_false]at hh
   simp[h,zoI hk k a l (t+1) hh,ents]
theorem zkB (k:K) (a:α):∀(l:List (K×α)) (t:Nat),zbB k l t=none→zfy k a l=l++[(k,a)]
 |[],t,_=>rfl
 |(k',b)::l,t,hh=>by
  simp only[zbB]at hh
  split at hh
  ·cases hh
  ·rename_i h;simp[zfy,h,zkB k a l (t+1) hh]
theorem zsg (k:K):∀(l:List (K×α)) (t:Nat) (a:α) (i:Nat),zbB k l t=some (a,i)→t≤i∧i<t+l.length
 |[],t,a,i,hh=>by simp[zbB]at hh
 |(k',b)::l,t,a,i,hh=>by
  simp only[zbB]at hh
  split at hh
  ·cases hh;simp
  ·have:=zsg k l (t+1) a i hh;simp;omega
theorem zkC (k:K) (a b:α) (i:Nat):∀(l:List (K×α)) (t:Nat),zbB k l t=some (b,i)→((ents e f l t).map fun x=>if x.2.2==i then(x.1,f a,i)else x)=ents e f (zfy k a l) t∧((ents e f l t).any fun x=>x.2.2==i)=true
 |[],t,hh=>by simp[zbB]at hh
 |(k',b')::l,t,hh=>by
  simp only[zbB]at hh
  split at hh
  ·rename_i h
   cases hh
   subst h
   have hrest:∀(m:List (K×α)) (u:Nat),i<u→((ents e f m u).map fun x=>if x.2.2==i then(x.1,f a,i)else x)=ents e f m u:=by
    intro m
    induction m with
    |nil=>intro u _;rfl
    |cons y m ih=>
     intro u hu
     obtain⟨k2,a2⟩:=y
     have hne:(u==i)=false:=by simp;omega
     simp only[ents,List.map_cons,hne,Bool.false_eq_true,if_false,ih (u+1) (by omega)]
   have:=hrest l (i+1) (by omega)
   simp only[ents,zfy,List.map_cons,beq_self_eq_true,if_true,List.any_cons,Bool.true_or,and_true]
   rw[this]
  ·rename_i h
   obtain⟨h1,h2⟩:=zkC k a b i l (t+1) hh
   have:=zsg k l (t+1) b i hh
   have hne:(t==i)=false:=by simp;omega
   simp only[ents,zfy,h,if_false,List.map_cons,hne,Bool.false_eq_true,List.any_cons,Bool.false_or,h2,and_true]
   rw[h1]
end
def zqM (ks:List CK) (z k:D) (ok:Bool) (h:Heap):Option Blk→Option (V×Heap)
 |some (.map es _)=>(zhV ks k es).map fun x=>match x with
  |some (v,_)=>(if ok then V.ofTuple [v,.d (.bool true)]else v,h)
  |none=>(if ok then V.ofTuple [.d z,.d (.bool false)]else .d z,h)
 |_=>none
def lookO (ks:List CK) (z:D) (ok:Bool) (h:Heap):V→V→Option (V×Heap)
 | .map b,.d k=>zqM ks z k ok h (h.get b)
 | .d .nilm,.d k=>(zhV ks k []).map fun _=>(if ok then V.ofTuple [.d z,.d (.bool false)]else .d z,h)
 |_,_=>none
theorem zCr {ks:List CK} {z:D} {m k:Opd} {ok:Bool}:zad app sh fr env r h (.lookup ks z m k ok)=lookO ks z ok h (opd env r m) (opd env r k):=by
 simp only[zad]
 cases opd env r k with
 |d kd=>
  cases opd env r m with
  |map b=>
   simp only[lookO,zqM,zcP]
   cases h.get b with
   |none=>rfl
   |some x=>cases x with
    |map es c=>simp only;cases zhV ks kd es with
     |none=>rfl
     |some y=>cases y with
      |none=>rfl
      |some vt=>rfl
    |_=>rfl
  |d x=>cases x with
   |nilm=>simp only[lookO,zcP];cases zhV ks kd []<;>rfl
   |_=>rfl
  |_=>rfl
 |_=>cases opd env r m<;>first|rfl|(rename_i x;cases x<;>rfl)
def zjm (ks:List CK) (z k:D) (b:Nat) (h:Heap):Option Blk→Option (V×Heap)
 |some (.map es clock)=>(zhV ks k es).map fun x=>match x with
  |some (v,t)=>(V.ofTuple [v,.d (.int .i64 t)],h)
  |none=>(V.ofTuple [.d z,.d (.int .i64 clock)],h.put b (.map (es++[(k,.d z,clock)]) (clock+1)))
 |_=>none
def zxR (ks:List CK) (z:D) (h:Heap):V→V→Option (V×Heap)
 | .map b,.d k=>zjm ks z k b h (h.get b)
 |_,_=>none
theorem zCs {ks:List CK} {z:D} {m k:Opd}:zad app sh fr env r h (.mentry ks z m k)=zxR ks z h (opd env r m) (opd env r k):=by
 simp only[zad]
 cases opd env r m with
 |map b=>cases opd env r k with
  |d kd=>
   simp only[zxR,zjm]
   cases h.get b with
   |none=>rfl
   |some x=>cases x with
    |map es c=>simp only;cases zhV ks kd es with
     |none=>rfl
     |some y=>cases y with
      |none=>rfl
      |some vt=>rfl
    |_=>rfl
  |_=>rfl
 |_=>cases opd env r k<;>rfl
def zig (i:Nat) (v:V) (b:Nat) (h:Heap):Option Blk→Option (V×Heap)
 |some (.map es clock)=>if es.any (fun e=>e.2.2==i)then some (.undef,h.put b (.map (es.map fun e=>if e.2.2==i then(e.1,v,i)else e) clock))else none
 |_=>none
def zqN (h:Heap) (v:V):V→Option Nat→Option (V×Heap)
 | .map b,some i=>zig i v b h (h.get b)
 |_,_=>none
theorem zCt {m s v:Opd}:zad app sh fr env r h (.estore m s v)=zqN h (opd env r v) (opd env r m) (asNat (opd env r s)):=by
 simp only[zad]
 cases opd env r m with
 |map b=>cases asNat (opd env r s)with
  |some i=>
   simp only[zqN,zig]
   cases h.get b with
   |none=>rfl
   |some x=>cases x<;>rfl
  |none=>rfl
 |_=>cases asNat (opd env r s)<;>rfl
def zux (ks:List CK) (k:D) (v:V) (b:Nat) (h:Heap):Option Blk→Option (V×Heap)
 |some (.map es clock)=>(zhV ks k es).bind fun x=>match x with
  |some _=>(zrK ks k v es).map fun es=>(.undef,h.put b (.map es clock))
  |none=>some (.undef,h.put b (.map (es++[(k,v,clock)]) (clock+1)))
 |_=>none
def zGn (ks:List CK) (h:Heap) (v:V):V→V→Option (V×Heap)
 | .map b,.d k=>zux ks k v b h (h.get b)
 |_,_=>none
theorem zJT {ks:List CK} {m k v:Opd}:zad app sh fr env r h (.mupd ks m k v)=zGn ks h (opd env r v) (opd env r m) (opd env r k):=by
 simp only[zad]
 cases opd env r m with
 |map b=>cases opd env r k with
  |d kd=>
   simp only[zGn,zux]
   cases h.get b with
   |none=>rfl
   |some x=>cases x with
    |map es c=>simp only;cases zhV ks kd es with
     |none=>rfl
     |some y=>cases y with
      |none=>rfl
      |some vt=>rfl
    |_=>rfl
  |_=>rfl
 |_=>cases opd env r k<;>rfl
theorem zxS {ks:List CK} {z k:D} {ok:Bool} {b:Nat}:lookO ks z ok h (.map b) (.d k)=zqM ks z k ok h (h.get b):=rfl
theorem zuy {ks:List CK} {z k:D} {b:Nat}:zxR ks z h (.map b) (.d k)=zjm ks z k b h (h.get b):=rfl
theorem zqO {i:Nat} {v:V} {b:Nat}:zqN h v (.map b) (some i)=zig i v b h (h.get b):=rfl
theorem zxT {ks:List CK} {k:D} {v:V} {b:Nat}:zGn ks h v (.map b) (.d k)=zux ks k v b h (h.get b):=rfl
attribute [go_sem] zCr zCs zCt zJT zxS zuy zqO zxT
section
variable {K α:Type} [DecidableEq K] {ks:List CK} {e:K→D} {f:α→V}
def zGo (f:α→V) (z:D) (ok:Bool):Option (α×Nat)→V
 |some (a,_)=>if ok then V.ofTuple [f a,.d (.bool true)]else f a
 |none=>if ok then V.ofTuple [.d z,.d (.bool false)]else .d z
theorem zuz {z:D}:zGo f z false (none:Option (α×Nat))= .d z:=rfl
theorem zuA {z:D} {a:α} {i:Nat}:zGo f z false (some (a,i))=f a:=rfl
attribute [go_sem] zuz zuA
theorem zlO (hk:Keyed ks e) {z:D} {ok:Bool} {k:K} {l:List (K×α)} {c:Nat}:zqM ks z (e k) ok h (some (.map (ents e f l 0) c))=some (zGo f z ok (zbB k l 0),h):=by
 simp only[zqM,zhs hk,Option.map_some]
 cases zbB k l 0<;>rfl
theorem zqP (hk:Keyed ks e) {z:D} {k:K} {l:List (K×α)} {c b i:Nat} {a:α} (hf:zbB k l 0=some (a,i)):zjm ks z (e k) b h (some (.map (ents e f l 0) c))=some (V.ofTuple [f a,.d (.int .i64 i)],h):=by
 simp only[zjm,zhs hk,Option.map_some,hf]
theorem zqQ (hk:Keyed ks e) {z:α} {zd:D} (hz:f z= .d zd) {k:K} {l:List (K×α)} {b c:Nat} (hf:zbB k l 0=none) (hc:c=l.length):
 zjm ks zd (e k) b h (some (.map (ents e f l 0) c))=some (V.ofTuple [.d zd,.d (.int .i64 c)],h.put b (.map (ents e f (l++[(k,z)]) 0) (c+1))):=by
 subst hc
 simp only[zjm,zhs hk,Option.map_some,hf,Option.map_none]
 rw[zgV]
 simp[ents,hz]
theorem zoJ {k:K} {a:α}:∀{l:List (K×α)} {t:Nat},zbB k l t=none→zbB k (l++[(k,a)]) t=some (a,t+l.length)
 |[],t,_=>by simp[zbB]
 |(k',b)::l,t,hh=>by
  simp only[zbB]at hh
  split at hh
  ·cases hh
  ·rename_i hne
   simp only[List.cons_append,zbB,hne,if_false,List.length_cons]
   rw[zoJ hh];congr 2;omega
theorem zsh {k:K} {a b:α}:∀{l:List (K×α)} {t:Nat},zbB k l t=none→zfy k a (l++[(k,b)])=l++[(k,a)]
 |[],t,_=>by simp[zfy]
 |(k',b')::l,t,hh=>by
  simp only[zbB]at hh
  split at hh
  ·cases hh
  ·rename_i hne
   simp only[List.cons_append,zfy,hne,if_false]
   rw[zsh hh]
theorem zjn {k:K} {l:List (K×α)} {c b i:Nat} {a a':α} (hf:zbB k l 0=some (a',i)):zig i (f a) b h (some (.map (ents e f l 0) c))=some (.undef,h.put b (.map (ents e f (zfy k a l) 0) c)):=by
 obtain⟨h1,h2⟩:=zkC (e:=e) (f:=f) k a a' i l 0 hf
 simp only[zig,h1,h2,if_true]
theorem zdg {k:K} {a:α}:∀(l:List (K×α)) (t:Nat),(zbB k l t).isSome=true→(zfy k a l).length=l.length
 |[],t,hh=>by simp[zbB]at hh
 |(k',b)::l,t,hh=>by
  simp only[zbB]at hh
  simp only[zfy]
  split
  ·rfl
  ·rename_i h;rw[if_neg h]at hh;simp[zdg l (t+1) hh]
theorem zuB (hk:Keyed ks e) {k:K} {l:List (K×α)} {b c:Nat} {a:α} (hc:c=l.length):zux ks (e k) (f a) b h (some (.map (ents e f l 0) c))=some (.undef,h.put b (.map (ents e f (zfy k a l) 0) (zfy k a l).length)):=by
 subst hc
 simp only[zux,zhs hk,Option.bind_some]
 cases hf:zbB k l 0 with
 |some x=>
  simp only[Option.map_some]
  rw[zoI hk k a l 0 (by rw[hf];rfl),zdg l 0 (by rw[hf];rfl)];rfl
 |none=>
  simp only[Option.map_none]
  rw[zkB k a l 0 hf,zgV]
  simp[ents]
end
end Go.AI
namespace Go.AI
variable {fr:Nat} {env r:Regs} {h:Heap}
def zJf (fr sz bytes len b:Nat) (new:List V) (h:Heap):Option Blk→Option (V×Heap)
 |some (.els z l fz)=>if z=sz∧l.length=len∧(len+new.length)*bytes≤roomBytes then some (.sl fr 0 (len+new.length),(h.del b).put fr (.els z (l++new) fz))else none
 |_=>none
def zCu (fr sz bytes:Nat) (h:Heap) (new:List V):V→Option (V×Heap)
 | .d (.list true [])=>if new.length*bytes≤roomBytes then some (.sl fr 0 new.length,h.put fr (.els sz new 0))else none
 | .sl b 0 len=>zJf fr sz bytes len b new h (h.get b)
 |_=>none
def zCv (fr sz bytes:Nat) (h:Heap) (dst:V):Option (List V)→Option (V×Heap)
 |some new=>if new.isEmpty then(if dst.isSl then some (dst,h)else none)else if sized sz new then zCu fr sz bytes h new dst else none
 |none=>none
theorem zfz {sz bytes:Nat} {dst src:V}:zlw h fr sz bytes dst src=zCv fr sz bytes h dst (zbC h src):=by
 unfold zlw zCv
 cases zbC h src with
 |none=>rfl
 |some new=>
  simp only[Option.bind_some]
  split
  ·rfl
  ·split
   ·cases dst with
    |d x=>cases x with
     |list n l=>cases n<;>cases l<;>rfl
     |_=>rfl
    |sl b off len=>cases off with
     |zero=>
      simp only[zCu,zJf]
      cases h.get b with
      |none=>rfl
      |some y=>cases y<;>rfl
     |succ k=>rfl
    |_=>rfl
   ·rfl
theorem zkD {sz bytes len b:Nat} {new:List V}:zCu fr sz bytes h new (.sl b 0 len)=zJf fr sz bytes len b new h (h.get b):=rfl
theorem zht {sz bytes len b fz:Nat} {l new:List V} (hl:l.length=len) (hr:(len+new.length)*bytes≤roomBytes):zJf fr sz bytes len b new h (some (.els sz l fz))=some (.sl fr 0 (len+new.length),(h.del b).put fr (.els sz (l++new) fz)):=by
 simp only[zJf,hl,hr,true_and,if_true]
theorem zih {sz bytes:Nat} {dst:V} {new:List V} (hne:new≠[]) (hs:sized sz new=true):zCv fr sz bytes h dst (some new)=zCu fr sz bytes h new dst:=by
 have:new.isEmpty=false:=List.isEmpty_eq_false_iff.2 hne
 simp only[zCv,this,hs,Bool.false_eq_true,if_false,if_true]
theorem zoK {sz bytes:Nat} {dst:V} (hs:dst.isSl=true):zCv fr sz bytes h dst (some [])=some (dst,h):=by
 simp only[zCv,List.isEmpty_nil,if_true,hs]
theorem zbb {n:Bool} {l:List D}:zbC h (.d (.list n l))=some (l.map .d):=rfl
def zMJ (off len:Nat):Option Blk→Option (List V)
 |some (.els _ l _)=>if off+len≤l.length then some ((l.drop off).take len)else none
 |_=>none
theorem zbv {b off len:Nat}:zbC h (.sl b off len)=zMJ off len (h.get b):=rfl
theorem zbG {z fz:Nat} {x:V}:zMJ 0 1 (some (.els z [x] fz))=some [x]:=rfl
theorem zbL {z fz len:Nat} {l:List V} (hl:l.length=len):zMJ 0 len (some (.els z l fz))=some l:=by
 subst hl;simp[zMJ]
theorem zuC {sz:Nat} {z v:V} (h:v.cells.length=sz):zaS sz [z] [(0,v)]=some [v]:=by simp[zaS,h]
theorem zuD {sz:Nat} {l:List V}:zaS sz l []=some l:=rfl
theorem zmL {α:Type} {x:α}:List.replicate 1 x=[x]:=rfl
theorem zlj {α:Type} {x:α}:List.replicate 0 x=[]:=rfl
theorem sized_map {α:Type} {sz:Nat} {f:α→V} (h1:∀x,(f x).cells.length=sz) (h2:∀x,(f x).cells.all V.one=true) (l:List α):sized sz (l.map f)=true:=by
 simp only[sized,List.all_map,List.all_eq_true,Function.comp_apply,Bool.and_eq_true,beq_iff_eq]
 exact fun x _=>⟨h1 x,List.all_eq_true.1 (h2 x)⟩
theorem zxU {k:IntKind} {n:Int}:sized 1 [V.d (.int k n)]=true:=Eq.trans rfl rfl
theorem zuE {b:Bool}:sized 1 [V.d (.bool b)]=true:=Eq.trans rfl rfl
theorem zxV {b:List UInt8}:sized 1 [V.d (.str b)]=true:=Eq.trans rfl rfl
theorem zuF {k:IntKind} (l:List Int):sized 1 ((l.map (D.int k)).map V.d)=true:=by rw[List.map_map];exact sized_map (f:=fun x=>V.d (.int k x)) (fun _=>rfl) (fun _=>rfl) l
theorem zuG (l:List (List UInt8)):sized 1 ((l.map D.str).map V.d)=true:=by rw[List.map_map];exact sized_map (f:=fun x=>V.d (.str x)) (fun _=>rfl) (fun _=>rfl) l
attribute [go_sem] zxU zuE zxV zuF zuG
theorem zCw {k:IntKind} {n:Int}:(V.d (.int k n)).cells.length=1:=Eq.trans rfl rfl
theorem zxW {b:Bool}:(V.d (.bool b)).cells.length=1:=Eq.trans rfl rfl
theorem zCx {b:List UInt8}:(V.d (.str b)).cells.length=1:=Eq.trans rfl rfl
theorem zxX {b:Bool} {l:List D}:(V.d (.list b l)).cells.length=1:=Eq.trans rfl rfl
theorem zCy {l:List D}:(V.d (.agg l)).cells.length=l.length:=by simp[V.cells,D.cells]
attribute [go_sem] zCw zxW zCx zxX zCy zuC
attribute [go_sem] zbb zbv zbG zuD zmL zlj zkD
def zAL (lo sz:Nat) (h:Heap) (v:V) (l:List V):Prop:=
 (l=[]∧v= .d (.list true []))∨∃b,v= .sl b 0 l.length∧lo≤b∧b<h.next∧h.get b=some (.els sz l 0)∧l≠[]
theorem zAL.nil {lo sz:Nat}:zAL lo sz h (.d (.list true [])) []:= .inl ⟨rfl,rfl⟩
theorem zAL.keep {lo sz:Nat} {h h':Heap} {v:V} {l:List V} (g:zAL lo sz h v l) (hn:h.next≤h'.next) (hk:∀b,lo≤b→b<h.next→h'.get b=h.get b):zAL lo sz h' v l:=by
 rcases g with g|⟨b,h1,h2,h3,h4,h5⟩
 ·exact .inl g
 ·exact .inr ⟨b,h1,h2,Nat.lt_of_lt_of_le h3 hn,(hk b h2 h3).trans h4,h5⟩
theorem zAL.app {lo sz bytes:Nat} {v src:V} {l new:List V} (g:zAL lo sz h v l) (hs:zbC h src=some new) (hsz:sized sz new=true) (hr:(l.length+new.length)*bytes≤roomBytes) (h1:lo≤fr) (h2:fr<h.next) (h3:∀b,v≠.sl fr 0 b):
 ∃v' h',zlw h fr sz bytes v src=some (v',h')∧zAL lo sz h' v' (l++new)∧h'.next=h.next∧∀c,c<lo→h'.get c=h.get c:=by
 rw[zfz,hs]
 by_cases hne:new=[]
 ·subst hne
  have hsl:v.isSl=true:=by
   rcases g with⟨_,rfl⟩|⟨b,rfl,_⟩<;>rfl
  exact⟨v,h,by simp[zCv,hsl],by rw[List.append_nil];exact g,rfl,fun _ _=>rfl⟩
 ·have he:new.isEmpty=false:=by cases new<;>simp at hne⊢
  simp only[zCv,he,hsz,Bool.false_eq_true,if_false,if_true]
  rcases g with⟨rfl,rfl⟩|⟨b,rfl,g1,g2,g3,g4⟩
  ·simp only[List.length_nil,Nat.zero_add]at hr
   refine⟨.sl fr 0 new.length,h.put fr (.els sz new 0),by simp only[zCu];rw[if_pos hr],.inr ⟨fr,by simp,h1,h2,by rw[List.nil_append];exact Heap.put_eq _ _ _,by simpa using hne⟩,rfl,fun c hc=>Heap.put_ne _ _ (by omega)⟩
  ·have hbf:b≠fr:=fun hb=>h3 l.length (by rw[hb])
   refine⟨.sl fr 0 (l.length+new.length),(h.del b).put fr (.els sz (l++new) 0),?_,.inr ⟨fr,by simp,h1,h2,Heap.put_eq _ _ _,by simp[hne]⟩,rfl,fun c hc=>by rw[Heap.put_ne _ _ (by omega),Heap.del_ne _ (by omega)]⟩
   simp only[zCu,zJf,g3,true_and]
   rw[if_pos hr]
theorem zAL.res {lo sz n:Nat} {v:V} {l:List D} (g:zAL lo sz h v (l.map .d)):(res (n+1) h v).map Prod.fst=some (.list (v.isSl&&match v with| .d _=>true|_=>false) l):=by
 rcases g with⟨h1,rfl⟩|⟨b,rfl,_,_,h3,_⟩
 ·have:l=[]:=by simpa using h1
  subst this;rfl
 ·simp only[AI.res,h3,Nat.zero_add,List.length_map,Nat.le_refl,if_true,List.drop_zero]
  rw[List.take_of_length_le (by simp)]
  simp[zba,zfO,V.isSl]
theorem zqR:zby none=some none:=rfl
theorem zqS {v:V}:zby (some v)=(asNat v).map some:=rfl
attribute [go_sem] zqR zqS
theorem zxY {sz bytes b:Nat} {new:List V} (hb:h.get b=some (.els sz [] 0)) (hs:sized sz new=true) (hr:new.length*bytes≤roomBytes):
 ∃c h',zCv fr sz bytes h (.sl b 0 0) (some new)=some (.sl c 0 new.length,h')∧h'.get c=some (.els sz new 0)∧h'.next=h.next∧(c=b∨c=fr)∧∀k,k≠b→k≠fr→h'.get k=h.get k:=by
 by_cases hne:new=[]
 ·subst hne
  exact⟨b,h,zoK rfl,hb,rfl,.inl rfl,fun _ _ _=>rfl⟩
 ·refine⟨fr,(h.del b).put fr (.els sz new 0),?_,Heap.put_eq _ _ _,rfl,.inr rfl,fun k h1 h2=>by rw[Heap.put_ne _ _ h2,Heap.del_ne _ h1]⟩
  rw[zih hne hs,zkD,hb]
  have:=zht (fr:=fr) (h:=h) (sz:=sz) (bytes:=bytes) (len:=0) (b:=b) (fz:=0) (l:=[]) (new:=new) rfl (by simpa using hr)
  simpa using this
theorem zxZ {n:Bool} {l:List D}:binV .eql .slice (.d (.list n l)) (.d (.list true []))=some (.d (.bool n)):=by
 cases n<;>rfl
theorem zya {n:Bool} {l:List D}:binV .neq .slice (.d (.list n l)) (.d (.list true []))=some (.d (.bool !n)):=by
 cases n<;>rfl
attribute [go_sem] zxZ zya
end Go.AI
namespace Go.AI
variable {A:AProg}
structure Le (h h':Heap):Prop where
 next:h.next≤h'.next
 get:∀b,b<h.next→h'.get b=h.get b
theorem Le.refl {h:Heap}:Le h h:=⟨Nat.le_refl _,fun _ _=>rfl⟩
theorem Le.trans {a b c:Heap} (x:Le a b) (y:Le b c):Le a c:=⟨Nat.le_trans x.next y.next,fun k hk=>(y.get k (Nat.lt_of_lt_of_le hk x.next)).trans (x.get k hk)⟩
theorem Le.bump {h h':Heap} (x:Le h h') (n:Nat):Le h (h'.bump n):=⟨Nat.le_trans x.next (Nat.le_add_right _ _),x.get⟩
theorem Le.put {h h':Heap} (x:Le h h') {b:Nat} {y:Blk} (hb:h.next≤b):Le h (h'.put b y):=⟨x.next,fun k hk=>by rw[Heap.put_ne _ _ (by omega)];exact x.get k hk⟩
theorem Le.del {h h':Heap} (x:Le h h') {b:Nat} (hb:h.next≤b):Le h (h'.del b):=⟨x.next,fun k hk=>by rw[Heap.del_ne _ (by omega)];exact x.get k hk⟩
def zyb {T:Type} (A:AProg) (fv:V) (e:T→D) (p:T→Bool) (h:Heap):Prop:=∀h1 x,Le h h1→∃h2,ans A fv [.d (e x)] h1=some (.d (.bool (p x)),h2)∧Le h1 h2
theorem zyb.le {T:Type} {fv:V} {e:T→D} {p:T→Bool} {h h':Heap} (t:zyb A fv e p h) (l:Le h h'):zyb A fv e p h':=fun h1 x hl=>t h1 x (l.trans hl)
def idx {T:Type} (p:T→Bool):List T→Int→Int
 |[],_=> -1
 |x::r,k=>if p x then k else idx p r (k+1)
theorem Wp.rfunc {s:St} {Q:Ex→St→Prop} {f:Opd} {ps:List Nat} {c d:C} (hf:(opd zdd s.r f).isFn=true)
 (hx:∃v h',ans A (opd zdd s.r f) [.yld s.h.next] ((s.h.put s.h.next (.loop {regs:=s.r,params:=ps,assign:=c,body:=d,state:= .ready,pending:=none})).bump 1)=some (v,h')∧∃l,h'.get s.h.next=some (.loop l)∧l.state≠.busy∧
  Q (match l.pending with|none=> .normal|some j=>j.ex) {r:=s.r,h:=h'.put s.h.next (.loop {l with state:= .exhausted})}):Wp A (.rfunc f ps c d) s Q:=by
 obtain⟨v,h',e,l,hl,hb,hq⟩:=hx
 obtain⟨n,hn⟩:=zcQ.1 e
 refine⟨n,_,_,?_,hq⟩
 simp only[zbw,hf,Bool.true_eq_false,if_false]
 rw[hn]
 simp only[Option.bind_some,hl,if_neg hb]
 cases l.pending<;>rfl
end Go.AI
namespace Go.AI
variable {h:Heap}
def zGp (n:Nat):Blk→Blk
 | .els z l fz=> .els z l (if n≤fz then fz else n)
 |x=>x
theorem zfT {b n c:Nat}:(freeze h b n).get c=if c=b then(h.get b).map (zGp n)else h.get c:=by
 unfold freeze
 by_cases hc:c=b
 ·subst hc
  rw[if_pos rfl]
  cases hg:h.get c with
  |none=>simp[hg]
  |some x=>
   cases x with
   |els z l fz=>
    simp only[Option.map_some,zGp]
    split
    ·rename_i hle;simp[hg,hle]
    ·rename_i hle;rw[Heap.put_eq]
   |_=>simp[hg,zGp]
 ·rw[if_neg hc]
  split
  ·split
   ·rfl
   ·rw[Heap.put_ne _ _ hc]
  ·rfl
def zCz (n b len:Nat) (h:Heap):Option Blk→Option (D×Heap)
 |some (.els _ l _)=>if len≤l.length then(zba (res n) (freeze h b len) (l.take len)).map fun x=>(.list false x.1,x.2)else none
 |_=>none
theorem zyc {n b len:Nat}:res (n+1) h (.sl b 0 len)=zCz n b len h (h.get b):=by
 simp only[res,zCz]
 cases h.get b with
 |none=>rfl
 |some x=>cases x<;>simp
theorem zsi {n b len z fz:Nat} {xs:List D} (hl:xs.length=len):zCz n b len h (some (.els z (xs.map V.d) fz))=some (.list false xs,freeze h b len):=by
 subst hl
 have:((xs.map V.d).take xs.length)=xs.map V.d:=List.take_of_length_le (by simp)
 simp[zCz,this,zba,zfO]
theorem zkE {α:Type} {f:α→D} {n b len z fz:Nat} {xs:List α} (hl:xs.length=len):zCz n b len h (some (.els z (xs.map fun x=>V.d (f x)) fz))=some (.list false (xs.map f),freeze h b len):=by
 have:=zsi (h:=h) (n:=n) (b:=b) (z:=z) (fz:=fz) (xs:=xs.map f) (len:=len) (by simpa using hl)
 rw[List.map_map]at this
 exact this
theorem zyd {n b z fz:Nat} {l:List V}:zCz n b 0 h (some (.els z l fz))=some (.list false [],freeze h b 0):=by
 simp[zCz,zba,allD]
theorem zGq {n:Nat} {cs:List V}:res (n+1) h (.agg cs)=(zba (res n) h cs).map fun x=>(.agg x.1,x.2):=rfl
theorem zye {n:Nat} {cs:List V}:res (n+1) h (.tuple cs)=(zba (res n) h cs).map fun x=>(.tuple x.1,x.2):=rfl
theorem zyf {f:Heap→V→Option (D×Heap)}:zbI f h []=some ([],h):=rfl
def zyg (f:Heap→V→Option (D×Heap)) (r:List V):Option (D×Heap)→Option (List D×Heap)
 |some (x,h)=>(zbI f h r).map fun y=>(x::y.1,y.2)
 |none=>none
theorem zuH {f:Heap→V→Option (D×Heap)} {v:V} {r:List V}:zbI f h (v::r)=zyg f r (f h v):=by
 simp only[zbI]
 cases f h v<;>rfl
theorem zoL {f:Heap→V→Option (D×Heap)} {r:List V} {x:D}:zyg f r (some (x,h))=(zbI f h r).map fun y=>(x::y.1,y.2):=rfl
def zCA (f:Heap→V→Option (D×Heap)) (h:Heap) (l:List V):Option (List D)→Option (List D×Heap)
 |some ds=>some (ds,h)
 |none=>zbI f h l
theorem zGr {f:Heap→V→Option (D×Heap)} {l:List V}:zba f h l=zCA f h l (allD l):=by
 unfold zba
 cases allD l<;>rfl
theorem zuI {f:Heap→V→Option (D×Heap)} {l:List V} {ds:List D}:zCA f h l (some ds)=some (ds,h):=rfl
theorem zuJ {f:Heap→V→Option (D×Heap)} {l:List V}:zCA f h l none=zbI f h l:=rfl
theorem zGs {a b c:Nat} {r:List V}:allD (.sl a b c::r)=none:=rfl
theorem zCB {cs:List V} {r:List V}:allD (.agg cs::r)=none:=rfl
theorem zuK {cs:List V} {r:List V}:allD (.tuple cs::r)=none:=rfl
theorem zCC {a b c:Nat} {r:List V}:allD (.ptr a b c::r)=none:=rfl
theorem zyh {α:Type} {f:α→D} {l:List α}:allD (l.map fun x=>V.d (f x))=some (l.map f):=by
 have:=zfO (l.map f)
 rw[List.map_map]at this
 exact this
theorem zCD {n z fz:Nat} {l:List V}:zGp n (.els z l fz)= .els z l (if n≤fz then fz else n):=rfl
attribute [go_sem] zGr zgO zfT zyc zyd zGq zye zyf zuH zoL zuI zuJ zGs zCB zuK zCC zfO zyh zCD
structure StepsS {T σ:Type} (A:AProg) (fv:V) (e:T→D) (step:σ→T→Bool×σ) (lo:Nat) (I:σ→Heap→Prop):Prop where
 keep:∀s h h',I s h→h.next≤h'.next→(∀b,b<lo→h'.get b=h.get b)→I s h'
 call:∀s h1 x,lo≤h1.next→I s h1→∃h2,ans A fv [.d (e x)] h1=some (.d (.bool (step s x).1),h2)∧I (step s x).2 h2∧h1.next≤h2.next∧∀b,lo≤b→b<h1.next→h2.get b=h1.get b
theorem zyb.steps {T:Type} {A:AProg} {fv:V} {e:T→D} {p:T→Bool} {h:Heap} (t:zyb A fv e p h):StepsS A fv e (fun(_:Unit) x=>(p x,())) h.next (fun _ g=>Le h g) where
 keep:=fun _ g g' l hn hg=>⟨Nat.le_trans l.next hn,fun b hb=>(hg b hb).trans (l.get b hb)⟩
 call:=fun _ h1 x hl l=>by
  obtain⟨h2,e2,l2⟩:=t h1 x l
  exact⟨h2,e2,l.trans l2,l2.next,fun b _ hb=>l2.get b hb⟩
theorem zGt {k:IntKind} {a b:Int}:maxV [.d (.int k a),.d (.int k b)]=some (.d (.int k (max a b))):=by
 have:(if b>a then b else a)=max a b:=by omega
 rw[←this];simp[maxV,foldV,max2]
theorem zGu {k:IntKind} {a b:Int}:minV [.d (.int k a),.d (.int k b)]=some (.d (.int k (min a b))):=by
 have:(if b<a then b else a)=min a b:=by omega
 rw[←this];simp[minV,foldV,max2]
attribute [go_sem] zGt zGu
end Go.AI
