/- Shaken copy of a longer text: what one law needs. Its conditions: none. -/
import Derived.Test.YthodcjjgimeeoaaGreatZAiB
import Derived.Deep.AppendSrc
import Derived.Laws.AppendOwn
import Derived.Deep.Upon
import Derived.Laws.MakeOwn
import Derived.RangeFuncRecord
set_option linter.unusedSimpArgs false
set_option linter.unusedVariables false
set_option linter.unusedSectionVars false
set_option linter.unnecessarySimpa false
namespace Go.AI
variable {P:Program} {sh:FuncId→Bool} {T:Tabs} {κ:Ctx T} {φ φ':Place} {H H':Heap} {w w' w'':World} {S S':Nat→Nat→Prop} {fr:Nat}
theorem zez {sz:Nat} {l:List V} (h:sized sz l=true) {i:Nat} {e:V} (he:l[i]? =some e):e.cells.length=sz∧∀(j:Nat) x,e.cells[j]? =some x→x.one=true:=by
 unfold sized at h
 rw[List.all_eq_true]at h
 have:=h e (List.mem_of_getElem? he)
 simp only[Bool.and_eq_true,beq_iff_eq,List.all_eq_true]at this
 exact⟨this.1,fun j x hx=>this.2 x (List.mem_of_getElem? hx)⟩
theorem zqp (s:Sim P sh κ φ H w) {x:V} {v:Value} {new:List V} (hr:Rel φ w (stab κ φ H) x v) (h:zbC H x=some new) (w':World):(Builtin.lenOf v).run P w'= .ok new.length w':=by
 cases hr with
 |d hd=>
  cases hd with
  |nil=>simp only[zbC,Option.some.injEq]at h;subst h;rfl
  |list=>simp only[zbC,Option.some.injEq]at h;subst h;simp[Builtin.lenOf]
  |empty ad=>simp only[zbC,Option.some.injEq]at h;subst h;simp[Builtin.lenOf]
  |str s'=>
   simp only[zbC,Option.some.injEq]at h;subst h
   simp only[Builtin.lenOf,Sem.run_pure,List.length_map,Array.length_toList];rfl
  |_=>simp[zbC]at h
 |sl hc hp=>
  rename_i b off len a cap
  simp only[zbC]at h
  cases hb:H.get b with
  |none=>rw[hb]at h;simp at h
  |some y=>
   rw[hb]at h
   cases y with
   |els z l fz=>
    simp only at h
    split at h
    case isFalse=>cases h
    rename_i hl
    simp only[Option.some.injEq]at h;subst h
    simp only[Builtin.lenOf,Sem.run_pure,List.length_take,List.length_drop]
    congr 1;omega
   |_=>simp at h
 |_=>simp[zbC]at h
theorem flat_get {sz n:Nat} {g:Nat→Nat→Value} {i j:Nat} (hi:i<n) (hj:j<sz):((List.range (n*sz)).map fun k=>g (k/sz) (k %sz))[i*sz+j]? =some (g i j):=by
 have:=zeg (sz:=sz) hi
 rw[List.getElem?_map,List.getElem?_range (by omega)]
 have hs:0<sz:=by omega
 have h1:(i*sz+j)/sz=i:=by rw[Nat.add_comm,Nat.add_mul_div_right _ _ hs,Nat.div_eq_of_lt hj,Nat.zero_add]
 have h2:(i*sz+j)%sz=j:=by rw[Nat.add_comm,Nat.add_mul_mod_self_right];exact Nat.mod_eq_of_lt hj
 simp[h1,h2]
theorem zBF {sz n:Nat} {g:Nat→Nat→Value} {u:Value} (h:u∈(List.range (n*sz)).map fun k=>g (k/sz) (k %sz)):∃i j,i<n∧j<sz∧u=g i j:=by
 obtain⟨k,hk,rfl⟩:=List.mem_map.1 h
 have hk':k<n*sz:=List.mem_range.1 hk
 have hs:0<sz:=Nat.pos_of_ne_zero (fun h=>by subst h;simp at hk')
 exact⟨k/sz,k %sz,(Nat.div_lt_iff_lt_mul hs).2 hk',Nat.mod_lt _ hs,rfl⟩
theorem src_ok (s:Sim P sh κ φ H w) {x:V} {v:Value} {new:List V} {sz:Nat} (hr:Rel φ w (stab κ φ H) x v) (h:zbC H x=some new) (hsz:sized sz new=true) (h0:sz≠0) {n:Nat} (hn:n≤new.length):
 ∃news:List Value,news.length=n*sz∧(∀u∈news,u.oneCell'=true)∧zdf φ w (stab κ φ H) sz (new.take n) news.toArray∧∀w',w'.heap=w.heap→(Builtin.firstCells sz n v).run P w'= .ok news.toArray w':=by
 have fin:∀(g:Nat→Nat→Value),(∀i e j x,i<n→new[i]? =some e→e.cells[j]? =some x→Rel φ w (stab κ φ H) x (g i j))→
  let news:=(List.range (n*sz)).map fun k=>g (k/sz) (k %sz)
  news.length=n*sz∧(∀u∈news,u.oneCell'=true)∧zdf φ w (stab κ φ H) sz (new.take n) news.toArray:=by
  intro g hg news
  refine⟨by simp[news],fun u hu=> ?_,by simp[news];exact Nat.mul_le_mul_right _ (Nat.min_le_left _ _),fun i e he=> ?_⟩
  ·obtain⟨i,j,hi,hj,rfl⟩:=zBF hu
   have hi':i<new.length:=by omega
   obtain⟨h1,h2⟩:=zez hsz (List.getElem?_eq_getElem hi')
   have hj':j<(new[i]).cells.length:=by omega
   exact zwW (hg i _ j _ hi (List.getElem?_eq_getElem hi') (List.getElem?_eq_getElem hj')) (h2 j _ (List.getElem?_eq_getElem hj'))
  ·rw[List.getElem?_take]at he
   split at he
   case isFalse=>cases he
   rename_i hi
   refine⟨(zez hsz he).1,fun j y u hy hu=> ?_⟩
   have hj:j<sz:=by have:=zav hy;have:=(zez hsz he).1;omega
   have:=flat_get (g:=g) hi hj
   rw[List.getElem?_toArray]at hu
   rw[this]at hu;cases hu
   exact hg i e j y hi he hy
 have cellsRun:∀(g:Nat→Nat→Value) (m o:Nat) (len cap:Nat),(∀i j,i<n→j<sz→w.cell? ⟨m,o+(i*sz+j),none⟩=some (g i j))→
  ∀w':World,w'.heap=w.heap→(Builtin.firstCells sz n (.slice (some ⟨m,o,none⟩) len cap)).run P w'= .ok ((List.range (n*sz)).map fun k=>g (k/sz) (k %sz)).toArray w':=by
  intro g m o len cap hc w' hw
  refine run_firstCells_some w' sz n ⟨m,o,none⟩ len cap _ (by simp) fun k u hk=> ?_
  have hk':=zav hk
  simp at hk'
  have hs:0<sz:=Nat.pos_of_ne_zero h0
  have hkd:k=k/sz*sz+k %sz:=by rw[Nat.mul_comm];exact(Nat.div_add_mod k sz).symm
  have h1:k/sz<n:=(Nat.div_lt_iff_lt_mul hs).2 hk'
  have h2:k %sz<sz:=Nat.mod_lt _ hs
  rw[List.getElem?_map,List.getElem?_range hk']at hk
  simp only[Option.map_some,Option.some.injEq]at hk;subst hk
  rw[Addr.add_lit]
  simp only[World.cell?,hw]
  have:=hc _ _ h1 h2
  rw[←hkd]at this
  exact this
 cases hr with
 |d hd=>
  cases hd with
  |nil=>
   simp only[zbC,List.map_nil,Option.some.injEq]at h;subst h
   have:n=0:=by simpa using hn
   subst this
   exact⟨[],by simp,by simp,⟨by simp,by simp⟩,fun w' _=>by simp[Builtin.firstCells]⟩
  |empty ad=>
   simp only[zbC,List.map_nil,Option.some.injEq]at h;subst h
   have:n=0:=by simpa using hn
   subst this
   exact⟨[],by simp,by simp,⟨by simp,by simp⟩,fun w' _=>run_firstCells_some w' sz 0 ad 0 0 [] (by simp) (by simp)⟩
  | @list l m off cap sz' f hc _ hs hcell hv=>
   simp only[zbC,Option.some.injEq]at h;subst h
   simp only[List.length_map]at hn
   have hes:∀i,i<n→∃e,l[i]? =some e∧e.cells.length=sz:=by
    intro i hi
    have hi':i<l.length:=by omega
    refine⟨l[i],List.getElem?_eq_getElem hi',?_⟩
    have:=(zez hsz (i:=i) (e:= .d l[i]) (by simp[hi'])).1
    simpa[V.cells]using this
   obtain⟨a1,a2,a3⟩:=fin f (fun i e j x hi he hx=>by
    rw[List.getElem?_map]at he
    cases hl:l[i]? with
    |none=>rw[hl]at he;simp at he
    |some e'=>
     rw[hl]at he;simp at he;subst he
     simp only[V.cells,List.getElem?_map]at hx
     cases hc':e'.cells[j]? with
     |none=>rw[hc']at hx;simp at hx
     |some y=>rw[hc']at hx;simp at hx;subst hx;exact .d (hv i e' j y hl hc'))
   refine⟨_,a1,a2,a3,cellsRun f m off _ _ fun i j hi hj=> ?_⟩
   obtain⟨e,he,hel⟩:=hes i hi
   have:sz'=sz:=by rw[←hs i e he,hel]
   subst this
   exact(hcell i e j he hj).1
  |str s'=>
   simp only[zbC,Option.some.injEq]at h;subst h
   simp only[List.length_map]at hn
   by_cases hn0:n=0
   ·subst hn0
    exact⟨[],by simp,by simp,⟨by simp,by simp⟩,fun w' _=>by simp[Builtin.firstCells]⟩
   have hlen:s'.data.toList.length=s'.size:=by rw[Array.length_toList];rfl
   have hsz1:sz=1:=by
    have h1:0<(s'.data.toList.map fun c=>V.d (.int .u8 c.toNat)).length:=by simp;omega
    have:=(zez hsz (List.getElem?_eq_getElem h1)).1
    simp[V.cells,D.cells]at this;omega
   subst hsz1
   obtain⟨a1,a2,a3⟩:=fin (fun i _=> .int .u8 ((s'.data.toList.getD i 0).toNat)) (fun i e j x hi he hx=>by
    rw[List.getElem?_map]at he
    cases hl:s'.data.toList[i]? with
    |none=>rw[hl]at he;simp at he
    |some c=>
     rw[hl]at he;simp only[Option.map_some,Option.some.injEq]at he;subst he
     simp only[V.cells,D.cells,List.map_cons,List.map_nil]at hx
     cases j with
     |zero=>simp only[List.getElem?_cons_zero,Option.some.injEq]at hx;subst hx;simp only[List.getD,hl,Option.getD_some];exact .d (.int _ _)
     |succ j=>simp at hx)
   refine⟨_,a1,a2,a3,fun w' _=> ?_⟩
   simp only[Builtin.firstCells,Sem.run_pure]
   congr 1
   apply Array.ext_getElem?
   intro k
   rw[Array.getElem?_map,ByteArray.data_extract]
   have hsz2:s'.data.size=s'.size:=rfl
   by_cases hk:k<n
   ·have h2:=flat_get (sz:=1) (n:=n) (g:=fun i _=>Value.int .u8 ((s'.data.toList.getD i 0).toNat)) hk (Nat.zero_lt_one)
    simp only[Nat.mul_one,Nat.add_zero]at h2
    have h3:((List.range (n*1)).map fun k=>Value.int .u8 ((s'.data.toList.getD (k/1) 0).toNat)).toArray[k]? =some (Value.int .u8 ((s'.data.toList.getD k 0).toNat)):=by
     rw[List.getElem?_toArray];simpa using h2
    rw[h3,Array.getElem?_extract,if_pos (by omega)]
    have hk':k<s'.data.size:=by omega
    rw[Array.getElem?_eq_getElem (by omega:0+k<s'.data.size)]
    simp[List.getD,hk']
    rw[Array.getElem?_eq_getElem hk'];rfl
   ·rw[Array.getElem?_eq_none (by simp;omega),Array.getElem?_eq_none (by simp;omega)];rfl
  |_=>simp[zbC]at h
 |sl hc hp=>
  rename_i b off len a cap
  simp only[zbC]at h
  cases hb:H.get b with
  |none=>rw[hb]at h;simp at h
  |some y=>
   rw[hb]at h
   cases y with
   |els z l fz=>
    simp only at h
    split at h
    case isFalse=>cases h
    rename_i hll
    simp only[Option.some.injEq]at h;subst h
    obtain⟨m,sz',hφ,_,_,cs,ty,h5,h6,h7⟩:=s.get hb
    obtain rfl:a=⟨m,off*sz',none⟩:=by
     rcases hp with hp|⟨m',sz'',t',k',hφ',ha,hshp,hk'⟩
     ·rw[hp]at hφ;cases hφ
     ·rw[hφ]at hφ';cases hφ';exact ha
    simp only[List.length_take,List.length_drop]at hn
    have hget:∀i,i<n→((l.drop off).take len)[i]? =l[off+i]? :=fun i hi=>by
     rw[List.getElem?_take,if_pos (by omega),List.getElem?_drop]
    by_cases hn0:n=0
    ·subst hn0
     exact⟨[],by simp,by simp,⟨by simp,by simp⟩,fun w' _=>by
      have:=run_firstCells_some (P:=P) w' sz 0 ⟨m,off*sz',none⟩ len cap [] (by simp) (by simp)
      exact this⟩
    have hsz':sz'=sz:=by
     have h1:off+0<l.length:=by omega
     have h2:=hget 0 (by omega)
     rw[List.getElem?_eq_getElem h1]at h2
     have:=(zez hsz h2).1
     rw[←(h7 _ _ (List.getElem?_eq_getElem h1)).1,this]
    subst hsz'
    obtain⟨a1,a2,a3⟩:=fin (fun i j=>cs.getD ((off+i)*sz'+j) undef) (fun i e j x hi he hx=>by
     rw[hget i hi]at he
     have hlt:=zav he
     have:=zeg (sz:=sz') hlt
     have hj:j<sz':=by have:=zav hx;have:=(h7 _ _ he).1;omega
     refine(h7 _ _ he).2 j x _ hx ?_
     have:(off+i)*sz'+j<cs.size:=by omega
     simp[Array.getD,this])
    refine⟨_,a1,a2,a3,cellsRun (fun i j=>cs.getD ((off+i)*sz'+j) undef) m (off*sz') _ _ fun i j hi hj=> ?_⟩
    have hlt:off+i<l.length:=by omega
    have:=zeg (sz:=sz') hlt
    have hlt':(off+i)*sz'+j<cs.size:=by omega
    have he:off*sz'+(i*sz'+j)=(off+i)*sz'+j:=by rw[Nat.add_mul];omega
    rw[he]
    simp[World.cell?,h5,Array.getD,hlt']
   |_=>simp at h
 |_=>simp[zbC]at h
def zxh (P:Program) (sh:FuncId→Bool) (κ:Ctx T) (φ:Place) (H:Heap) (w:World) (fr:Nat) (r:Result Value) (v:V) (H':Heap):Prop:=
 ∃mv w' φ',r= .ok mv w'∧Sim P sh κ φ' H' w'∧Ext κ φ H w φ' H' w'∧Rel φ' w' (stab κ φ' H') v mv∧∀b,φ b= .unborn→b≠fr→φ' b= .unborn
theorem zxh.keep (s:Sim P sh κ φ H w) {r:Result Value} {v:V} {mv:Value} (hr:r= .ok mv w) (h:Rel φ w (stab κ φ H) v mv):zxh P sh κ φ H w fr r v H:=
 ⟨mv,w,φ,hr,s,.refl,h,fun _ h _=>h⟩
theorem zmA (s:Sim P sh κ φ H w) (hfr:φ fr= .unborn) (hlt:fr<H.next) {l:List V} {sz fz:Nat} {cs:Array Value} {t:TypeId} (hfz:fz≤l.length) (h:zdf φ w (stab κ φ H) sz l cs):
 let w':World:={w with heap:=w.heap.push (.cells cs t)}
 Sim P sh κ (φ.set fr (.at w.heap.size sz)) (H.put fr (.els sz l fz)) w'∧Ext κ φ H w (φ.set fr (.at w.heap.size sz)) (H.put fr (.els sz l fz)) w'∧
  (∀b,φ b= .unborn→b≠fr→(φ.set fr (.at w.heap.size sz)) b= .unborn)∧w'.shape? w.heap.size=some (t,cs.size):=by
 intro w'
 have hnew:w'.heap[w.heap.size]? =some (.cells cs t (0,0)):=by
  show(w.heap.push _)[w.heap.size]? =_
  rw[Array.getElem?_push,if_pos rfl]
 obtain⟨s1,e1⟩:=zko (sz:=sz) (x:= .els sz l fz) (o:= .cells cs t) s hfr hlt (fun ex ho=>⟨rfl,hfz,cs,t,ho,h.1,fun i e he=>let⟨a,b⟩:=h.2 i e he;⟨a,fun j x v hx hv=>ex.rv (b j x v hx hv)⟩⟩)
 exact⟨s1,e1,fun b hb hne=>by rw[zaR _ _ hne];exact hb,by simp only[World.shape?,hnew]⟩
theorem zdf.append {sz:Nat} {l1 l2:List V} {cs1 cs2:Array Value} (h1:zdf φ w S sz l1 cs1) (h2:zdf φ w S sz l2 cs2) (hs:cs1.size=l1.length*sz) {cs3:Array Value}:zdf φ w S sz (l1++l2) (cs1++cs2++cs3):=by
 refine⟨?_,fun i e he=> ?_⟩
 ·have:=h1.1;have:=h2.1
  simp only[List.length_append,Array.size_append,Nat.add_mul];omega
 ·by_cases hi:i<l1.length
  ·rw[List.getElem?_append_left hi]at he
   obtain⟨a,b⟩:=h1.2 i e he
   refine⟨a,fun j x v hx hv=>b j x v hx ?_⟩
   have:=zeg (sz:=sz) hi
   have hj:=zav hx
   rw[Array.append_assoc,Array.getElem?_append_left (by omega)]at hv
   exact hv
  ·rw[List.getElem?_append_right (by omega)]at he
   obtain⟨a,b⟩:=h2.2 _ e he
   refine⟨a,fun j x v hx hv=>b j x v hx ?_⟩
   have:=zeg (sz:=sz) (zav he)
   have hj:=zav hx
   have h9:=h2.1
   have hii:i*sz=l1.length*sz+(i-l1.length)*sz:=by rw[←Nat.add_mul];congr 1;omega
   rw[Array.append_assoc,Array.getElem?_append_right (by omega),Array.getElem?_append_left (by omega)]at hv
   rw[←hv];congr 1;omega
theorem zdf.ext (e:Ext κ φ H w φ' H' w') {sz:Nat} {l:List V} {cs:Array Value} (h:zdf φ w (stab κ φ H) sz l cs):zdf φ' w' (stab κ φ' H') sz l cs:=
 ⟨h.1,fun i x hx=>let⟨a,b⟩:=h.2 i x hx;⟨a,fun j y v hy hv=>e.rv (b j y v hy hv)⟩⟩
theorem zFa {x:Value} {n sz:Nat} {tx:TypeId} {news:List Value} (hk:(∃e',P.underlying tx=some (.slice e'))∨P.underlying tx=some .string) (hl:∀w',(Builtin.lenOf x).run P w'= .ok n w')
 (h1:news.length=n*sz) (h2:∀u∈news,u.oneCell'=true) (h3:∀w',w'.heap=w.heap→(Builtin.firstCells sz n x).run P w'= .ok news.toArray w'):Src P sz tx x n news w:=
 ⟨hk,hl,h3 w rfl,h3 w.drew rfl,h1,h2⟩
theorem zom (w:World):Drew w w.drew:=⟨rfl,rfl,rfl,rfl⟩
theorem zJG {e:TypeId} {i:TypeInfo} (hi:P.info? e=some i):i.size=P.cellsOf e∧i.bytes=P.bytesOf e:=by
 simp[Program.cellsOf,Program.bytesOf,hi]
theorem zxi (n:Nat):∀(r c:Nat),c≤2*n+192→Builtin.growBy n r c≤2*n+192
 |0,c,h=>h
 |r+1,c,h=>by
  unfold Builtin.growBy
  split
  ·exact h
  ·exact zxi n r _ (by omega)
theorem zFU {n c:Nat} (h:c<n):Builtin.nextslicecap n c≤4*n:=by
 unfold Builtin.nextslicecap
 split
 ·omega
 ·split
  ·omega
  ·have:=zxi n 4 c (by omega)
   omega
theorem zJH (s:Sim P sh κ φ H w) (hfr:φ fr= .unborn) (hlt:fr<H.next) {t tx ty e:TypeId} (ht:P.underlying t=some (.slice e)) (hk:(∃e',P.underlying tx=some (.slice e'))∨P.underlying tx=some .string)
 {z:D} (hz:zfp P e=some z) (hzl:z.cells.length=P.cellsOf e) (h0:P.cellsOf e≠0) (hb0:P.bytesOf e≠0) {x y:V} {v u:Value} (hx:Rel φ w (stab κ φ H) x v) (hy:Rel φ w (stab κ φ H) y u) {r:V}
 (h:zlw H fr (P.cellsOf e) (P.bytesOf e) x y=some (r,H')):zxh P sh κ φ H w fr ((Builtin.append_ #[t,tx] ty #[v,u]).run P w) r H':=by
 obtain⟨i,zv,hi,hiz,hzc⟩:=zcv hz
 have hrz:=(zbX (w:=w) (S:=stab κ φ H) hzc)
 have hzs:zv.cells.size=P.cellsOf e:=by rw[hrz.cells.1,hzl]
 obtain⟨hsz,hbz⟩:=zJG hi
 unfold zlw at h
 cases hel:zbC H y with
 |none=>rw[hel]at h;simp at h
 |some new=>
  rw[hel]at h
  simp only[Option.bind_some]at h
  split at h
  ·rename_i hem
   split at h
   case isFalse=>cases h
   rename_i hsl
   simp only[Option.some.injEq,Prod.mk.injEq]at h
   obtain⟨rfl,rfl⟩:=h
   have hnil:new=[]:=by simpa using hem
   subst hnil
   have hl:=fun w'=>zqp s hy hel (w':=w')
   obtain⟨base,len,cap,rfl,hle⟩:∃base len cap,v= .slice base len cap∧len≤cap:=by
    cases hx with
    |d hd=>cases hd with
     |nil=>exact⟨_,_,_,rfl,Nat.le_refl _⟩
     |list f hc=>exact⟨_,_,_,rfl,hc⟩
     |empty ad=>exact⟨_,_,_,rfl,Nat.le_refl _⟩
     |_=>simp[V.isSl]at hsl
    |sl hc hp=>exact⟨_,_,_,rfl,hc⟩
    |_=>simp[V.isSl]at hsl
   obtain⟨news,n1,n2,_,n4⟩:=src_ok s hy hel (sz:=P.cellsOf e) (by simp[sized]) h0 (Nat.zero_le _)
   have hnn:news=[]:=List.eq_nil_of_length_eq_zero (by simpa using n1)
   subst hnn
   refine .keep s (mv:= .slice base len cap) ?_ hx
   have hs:=zFa (w:=w) (sz:=i.size) (news:=[]) hk hl (by simp) (by simp) (by rw[hsz];exact n4)
   exact run_append_nothing w t tx ty e i ht hi base len cap hle u hs
  ·rename_i hem
   split at h
   case isFalse=>cases h
   rename_i hszd
   have hl:=fun w'=>zqp s hy hel (w':=w')
   obtain⟨news,n1,n2,n3,n4⟩:=src_ok s hy hel hszd h0 (Nat.le_refl _)
   rw[List.take_length]at n3
   have hs:=zFa (w:=w) (sz:=i.size) (news:=news) hk hl (by rw[n1,hsz]) n2 (by rw[hsz];exact n4)
   have hn0:0<new.length:=by
    cases new with
    |nil=>simp at hem
    |cons _ _=>simp
   have big:∀m,m*P.bytesOf e≤roomBytes→((m:Nat):Int)≤9223372036854775807:=by
    intro m hm
    have:m≤m*P.bytesOf e:=Nat.le_mul_of_pos_right _ (Nat.pos_of_ne_zero hb0)
    have:roomBytes=70368744177664:=rfl
    omega
   split at h
   ·split at h
    case isFalse=>cases h
    rename_i hroom
    simp only[Option.some.injEq,Prod.mk.injEq]at h
    obtain⟨rfl,rfl⟩:=h
    have hxd:=hx.d_inv
    cases hxd
    have hnc:Builtin.nextslicecap (0+new.length) 0=new.length:=by unfold Builtin.nextslicecap;rw[if_pos (by omega)];omega
    have hrun:=run_append_grow_src (P:=P) w t tx ty e i zv ht hi hiz none 0 0 [] (by simp[Builtin.firstCells]) u new.length news hs (by omega) (by rw[Nat.zero_add];exact big _ hroom)
     (by rw[hnc,hbz];exact Nat.le_trans hroom (by decide))
    simp only[List.nil_append,Nat.zero_add]at hrun
    have hge:=grownCap_ge w new.length 0 e
    obtain⟨sd,ed⟩:=zfP s (zom w)
    have hel':zdf φ w.drew (stab κ φ H) (P.cellsOf e) new (news.toArray++Builtin.zeroCells zv.cells (grownCap w new.length 0 e-new.length)):=by
     have:=zdf.append (φ:=φ) (w:=w.drew) (S:=stab κ φ H) (l1:=[]) (cs1:= #[]) (sz:=P.cellsOf e) ⟨by simp,by simp⟩ (n3.ext ed) (by simp) (cs3:=Builtin.zeroCells zv.cells (grownCap w new.length 0 e-new.length))
     simpa using this
    obtain⟨s1,x1,u1,sh1⟩:=zmA (t:=e) (fz:=0) sd hfr hlt (Nat.zero_le _) hel'
    refine⟨_,_,_,hrun,s1,ed.trans x1,?_,u1⟩
    refine .sl hge (.inr ⟨w.heap.size,P.cellsOf e,e,_,zaU _ _ _,by simp,sh1,?_⟩)
    simp[Builtin.zeroCells,n1,hzs,←Nat.add_mul]
    exact Nat.mul_le_mul_right _ (by omega)
   ·rename_i b len
    cases hb:H.get b with
    |none=>rw[hb]at h;simp at h
    |some yb=>
     rw[hb]at h
     cases yb with
     |els z0 l fz=>
      simp only at h
      split at h
      case isFalse=>cases h
      rename_i hc
      obtain⟨hz0,hlen,hroom⟩:=hc
      simp only[Option.some.injEq,Prod.mk.injEq]at h
      obtain⟨rfl,rfl⟩:=h
      obtain⟨m,sz,hφ,hzz,hfz,cs,tt,h5,h6,h7⟩:=s.get hb
      have hsz0:sz=P.cellsOf e:=hzz.trans hz0
      subst hzz
      subst hsz0
      have hbf:b≠fr:=fun h=>by rw[h,hfr]at hφ;cases hφ
      cases hx with
      |sl hcap hp=>
       rename_i a cap
       obtain⟨t',k',rfl,hshp,hk'⟩:∃t' k',a=⟨m,0*P.cellsOf e,none⟩∧w.shape? m=some (t',k')∧(0+cap)*P.cellsOf e≤k':=by
        rcases hp with hp|⟨m',sz'',t',k',hφ',ha,hshp,hk'⟩
        ·rw[hp]at hφ;cases hφ
        ·rw[hφ]at hφ';cases hφ';exact⟨t',k',ha,hshp,hk'⟩
       rw[Nat.zero_mul]at*
       rw[Nat.zero_add]at hk'
       have hshm:w.shape? m=some (tt,cs.size):=by simp[World.shape?,h5]
       rw[hshm]at hshp;cases hshp
       subst hlen
       have hul:φ fr= .unborn→∀c,φ c= .unborn→c≠fr→c≠b:=fun _ c hc _ hcb=>by rw[hcb,hφ]at hc;cases hc
       by_cases hfit:l.length+new.length≤cap
       ·have hbound:l.length*P.cellsOf e+news.length≤cs.size:=by
         rw[n1,←Nat.add_mul]
         exact Nat.le_trans (Nat.mul_le_mul_right _ hfit) hk'
        obtain⟨w1,e1,u1⟩:=zer (P:=P) (m:=m) (off:=l.length*P.cellsOf e) news 0 w cs h5 n2 (by omega)
        rw[Nat.add_zero]at u1
        have hrun:(Builtin.append_ #[t,tx] ty #[.slice (some ⟨m,0,none⟩) l.length cap,u]).run P w= .ok (.slice (some ⟨m,0,none⟩) (l.length+new.length) cap) w1:=by
         have hsc:=hs.cells
         rw[hsz]at hsc
         rcases hk with⟨e',hk⟩|hk<;>simp[Builtin.append_,run_underlying ht,run_underlying hk,sizeOf,typeInfo,hi,hl,hfit,hsc,Addr.add_lit,hsz,e1]
        have hget:=fun o=>zcR news cs (l.length*P.cellsOf e) o hbound
        have hmv:=zBt s hφ hfr hlt (x':= .els (P.cellsOf e) (l++new) fz) u1 (fun k hk=> ?_) (fun k vv hk hv=> ?_) ?_ (fun ex=> ?_)
        ·refine⟨_,w1,_,hrun,hmv.1,hmv.2,?_,fun c hc hcf=>by rw[zaR _ _ hcf,zaR _ _ (hul hfr c hc hcf)];exact hc⟩
         refine .sl hfit (.inr ⟨m,P.cellsOf e,tt,cs.size,zaU _ _ _,by rw[Nat.zero_mul],?_,by rw[Nat.zero_add];exact hk'⟩)
         simp only[World.shape?,u1.at_,zbm]
        ·refine⟨hk.1,fun c sz' hc=> ?_⟩
         by_cases hcf:c=fr
         ·subst hcf;rw[zaU]at hc;cases hc
          obtain⟨l',fz',hl',hlt'⟩:=hk.2 b _ hφ
          rw[hb]at hl';cases hl'
          exact⟨_,_,zcc _ _ _,hlt'⟩
         ·rw[zaR _ _ hcf]at hc
          by_cases hcb:c=b
          ·subst hcb;rw[zaU]at hc;cases hc
          ·rw[zaR _ _ hcb]at hc
           exact absurd (s.inj _ _ _ _ _ hc hφ) hcb
        ·obtain⟨l',fz',hl',hlt'⟩:=hk.2 b _ hφ
         rw[hb]at hl';cases hl'
         simp only[World.cell?,h5,u1.at_,Option.isSome_none,Bool.false_eq_true,if_false]at hv⊢
         rw[hget,if_neg,hv]
         have:fz*P.cellsOf e≤l.length*P.cellsOf e:=Nat.mul_le_mul_right _ hfz
         omega
        ·simp only[World.shape?,h5,u1.at_,zbm]
        ·refine⟨rfl,by simp;omega,_,_,u1.at_,by simp[zbm,Nat.add_mul];omega,fun k el hk=> ?_⟩
         by_cases hkl:k<l.length
         ·rw[List.getElem?_append_left hkl]at hk
          obtain⟨a1,a2⟩:=h7 k el hk
          refine⟨a1,fun j y vv hy hv=>ex.rv (a2 j y vv hy ?_)⟩
          have:=zeg (sz:=P.cellsOf e) hkl
          have:=zav hy
          rw[hget,if_neg (by omega)]at hv
          exact hv
         ·rw[List.getElem?_append_right (by omega)]at hk
          obtain⟨a1,a2⟩:=n3.2 _ el hk
          refine⟨a1,fun j y vv hy hv=>ex.rv (a2 j y vv hy ?_)⟩
          have:=zeg (sz:=P.cellsOf e) (zav hk)
          have:=zav hy
          have hkk:k*P.cellsOf e=l.length*P.cellsOf e+(k-l.length)*P.cellsOf e:=by rw[←Nat.add_mul];congr 1;omega
          rw[hget,if_pos (by omega)]at hv
          rw[List.getElem?_toArray,←hv];congr 1;omega
       ·have hold:(Builtin.firstCells i.size l.length (.slice (some ⟨m,0,none⟩) l.length cap)).run P w.drew= .ok (cs.toList.take (l.length*P.cellsOf e)).toArray w.drew:=by
         refine run_firstCells_some w.drew i.size l.length ⟨m,0,none⟩ l.length cap _ (by simp[hsz];omega) fun j vv hj=> ?_
         rw[List.getElem?_take]at hj
         split at hj
         case isFalse=>cases hj
         rw[Addr.add_lit,Nat.zero_add]
         have hdh:w.drew.heap=w.heap:=rfl
         simp only[World.cell?,hdh,h5,Option.isSome_none,Bool.false_eq_true,if_false]
         simpa using hj
        have hnc:Builtin.nextslicecap (l.length+new.length) cap*i.bytes≤281474976710656:=by
         have h3:Builtin.nextslicecap (l.length+new.length) cap≤4*(l.length+new.length):=zFU (by omega)
         rw[hbz]
         have h4:=Nat.mul_le_mul_right (P.bytesOf e) h3
         rw[Nat.mul_assoc]at h4
         have h5:4*((l.length+new.length)*P.bytesOf e)≤4*70368744177664:=Nat.mul_le_mul_left 4 hroom
         omega
        have hrun:=run_append_grow_src (P:=P) w t tx ty e i zv ht hi hiz (some ⟨m,0,none⟩) l.length cap (cs.toList.take (l.length*P.cellsOf e)) hold u new.length news hs (by omega) (big _ hroom) hnc
        have hge:=grownCap_ge w (l.length+new.length) cap e
        obtain⟨sd,ed⟩:=zfP s (zom w)
        have hφd:φ b= .at m (P.cellsOf e):=hφ
        obtain⟨s2,e2⟩:=zFP sd hφd
        have hfr2:(φ.set b .dead) fr= .unborn:=by rw[zaR _ _ (Ne.symm hbf)];exact hfr
        have holds:zdf φ w (stab κ φ H) (P.cellsOf e) l (cs.toList.take (l.length*P.cellsOf e)).toArray:=by
         refine⟨by simp;omega,fun k el hk=> ?_⟩
         obtain⟨a1,a2⟩:=h7 k el hk
         refine⟨a1,fun j y vv hy hv=>a2 j y vv hy ?_⟩
         rw[List.getElem?_toArray,List.getElem?_take]at hv
         split at hv
         ·simpa using hv
         ·cases hv
        have hel':zdf (φ.set b .dead) w.drew (stab κ (φ.set b .dead) (H.del b)) (P.cellsOf e) (l++new) ((cs.toList.take (l.length*P.cellsOf e)).toArray++news.toArray++Builtin.zeroCells zv.cells (grownCap w (l.length+new.length) cap e-(l.length+new.length))):=
         zdf.append (holds.ext (ed.trans e2)) (n3.ext (ed.trans e2)) (by simp;omega)
        obtain⟨s3,x3,u3,sh3⟩:=zmA (t:=e) (fz:=fz) s2 hfr2 hlt (by simp;omega) hel'
        rw[←List.append_toArray]at hrun
        refine⟨_,_,_,hrun,s3,(ed.trans e2).trans x3,?_,fun c hc hcf=>by rw[zaR _ _ hcf,zaR _ _ (hul hfr c hc hcf)];exact hc⟩
        refine .sl hge (.inr ⟨w.heap.size,P.cellsOf e,e,_,zaU _ _ _,by simp,sh3,?_⟩)
        have hsize:(cs.toList.take (l.length*P.cellsOf e)).toArray.size=l.length*P.cellsOf e:=by simp;omega
        rw[Array.size_append,Array.size_append,hsize]
        simp only[Builtin.zeroCells,Array.size_map,Array.size_range,List.size_toArray,n1,hzs,←Nat.add_mul]
        exact Nat.mul_le_mul_right _ (by omega)
      |_=>skip
     |_=>simp at h
   ·cases h
end Go.AI
namespace Go.AI
variable {P:Program} {sh:FuncId→Bool} {T:Tabs} {κ:Ctx T} {φ φ':Place} {H H':Heap} {w w' w'':World} {S S':Nat→Nat→Prop} {fr:Nat}
theorem wrap_small {n:Nat} (h:n≤70368744177664):IntKind.i64.wrap (n:Int)=(n:Int):=by rw[IntKind.wrap_i64];omega
theorem ztS (s:Sim P sh κ φ H w) (hfr:φ fr= .unborn) (hlt:fr<H.next) {t e:TypeId} (ht:P.underlying t=some (.slice e))
 {z:D} (hz:zfp P e=some z) (hzl:z.cells.length=P.cellsOf e) (h0:P.cellsOf e≠0) (hb0:P.bytesOf e≠0) {x y:V} {v u:Value} {l c:Nat} (hx:Rel φ w S x v) (hl:asNat x=some l) (hy:Rel φ w S y u) (hc:asNat y=some c)
 (h1:l≤c) (h2:c*P.bytesOf e≤roomBytes):zxh P sh κ φ H w fr ((Instr.makeSlice t v u).run P w) (.sl fr 0 l) (H.put fr (.els z.cells.length (List.replicate l (.d z)) 0)):=by
 obtain⟨i,zv,hi,hiz,hzc⟩:=zcv hz
 have hrz:=(zbX (w:=w) (S:=stab κ φ H) hzc)
 have hzs:zv.cells.size=P.cellsOf e:=by rw[hrz.cells.1,hzl]
 obtain⟨hsz,hbz⟩:=zJG hi
 obtain⟨k1,rfl,e1⟩:=zdb (P:=P) (w:=w) hx hl
 obtain⟨k2,rfl,e2⟩:=zdb (P:=P) (w:=w) hy hc
 have h2':c*P.bytesOf e≤70368744177664:=h2
 have hcb:c≤c*P.bytesOf e:=Nat.le_mul_of_pos_right _ (Nat.pos_of_ne_zero hb0)
 have hw1:=wrap_small (n:=l) (by omega)
 have hw2:=wrap_small (n:=c) (by omega)
 rw[hzl]
 obtain⟨s1,x1,u1,sh1⟩:=zmA (t:=e) (fz:=0) (l:=List.replicate l (.d z)) (cs:=(Array.range (c*P.cellsOf e)).map (zv.cells[· %zv.cells.size]!)) (sz:=P.cellsOf e) s hfr hlt (Nat.zero_le _)
  (.replicate hrz hzl (by simp;exact Nat.mul_le_mul_right _ h1) (fun a b ha hb=>zkr hzs (by omega) hb))
 have hrun:=run_make (P:=P) w t e i zv ht hi hiz k1 k2 l c (by omega) (by omega) (by rw[hbz,Int.mul_comm,←Int.natCast_mul];omega) (by omega)
 simp only[Int.toNat_natCast,hsz]at hrun
 exact⟨_,_,_,hrun,s1,x1,.sl h1 (.inr ⟨w.heap.size,P.cellsOf e,e,_,zaU _ _ _,by simp,sh1,by simp⟩),u1⟩
theorem zxj (s:Sim P sh κ φ H w) {b z:Nat} {l:List V} {fz off:Nat} (hb:H.get b=some (.els z l fz)) {xs:List V} (hfz:fz≤off) (hn:off+xs.length≤l.length) {m sz:Nat} (hφ:φ b= .at m sz) {news:List Value}
 (h1:news.length=xs.length*sz) (h2:∀u∈news,u.oneCell'=true) (h3:zdf φ w (stab κ φ H) sz xs news.toArray):
 ∃w',(storeCells ⟨m,off*sz,none⟩ news).run P w= .ok () w'∧Sim P sh κ φ (H.put b (.els z (splice l off xs) fz)) w'∧Ext κ φ H w φ (H.put b (.els z (splice l off xs) fz)) w':=by
 obtain⟨m',sz',hφ',hzz,hfl,cs,tt,h5,h6,h7⟩:=s.get hb
 rw[hφ]at hφ';cases hφ'
 subst hzz
 have hbound:off*sz+news.length≤cs.size:=by
  rw[h1,←Nat.add_mul]
  exact Nat.le_trans (Nat.mul_le_mul_right _ hn) h6
 obtain⟨w1,e1,u1⟩:=zer (P:=P) (m:=m) (off:=off*sz) news 0 w cs h5 h2 (by omega)
 rw[Nat.add_zero]at u1
 have hget:=fun o=>zcR news cs (off*sz) o hbound
 have hmv:=zkn s hφ (x':= .els sz (splice l off xs) fz) u1 (fun k hk=> ?_) (fun k vv hk hv=> ?_) ?_ (fun ex=> ?_)
 ·exact⟨w1,e1,hmv.1,hmv.2⟩
 ·refine⟨hk.1,fun c sz' hc=> ?_⟩
  have:c=b:=s.inj _ _ _ _ _ hc hφ
  subst this
  rw[hφ]at hc;cases hc
  obtain⟨l',fz',hl',hlt⟩:=hk.2 c sz hφ
  rw[hb]at hl';cases hl'
  exact⟨_,_,zcc _ _ _,hlt⟩
 ·obtain⟨l',fz',hl',hlt⟩:=hk.2 b sz hφ
  rw[hb]at hl';cases hl'
  simp only[World.cell?,h5,u1.at_,Option.isSome_none,Bool.false_eq_true,if_false]at hv⊢
  rw[hget,if_neg,hv]
  have:fz*sz≤off*sz:=Nat.mul_le_mul_right sz hfz
  omega
 ·simp only[World.shape?,h5,u1.at_,zbm]
 ·refine⟨rfl,by rw[zdm (by omega)];exact hfl,_,_,u1.at_,by rw[zdm (by omega),zbm];exact h6,fun k el hk=> ?_⟩
  rw[zfQ (by omega)]at hk
  by_cases hkl:off≤k∧k<off+xs.length
  ·rw[if_pos hkl]at hk
   obtain⟨a1,a2⟩:=h3.2 _ el hk
   refine⟨a1,fun j y vv hy hv=>ex.rv (a2 j y vv hy ?_)⟩
   have:=zeg (sz:=sz) (zav hk)
   have:=zav hy
   have hkk:k*sz=off*sz+(k-off)*sz:=by rw[←Nat.add_mul];congr 1;omega
   rw[hget,if_pos (by omega)]at hv
   rw[List.getElem?_toArray,←hv];congr 1;omega
  ·rw[if_neg hkl]at hk
   obtain⟨a1,a2⟩:=h7 k el hk
   refine⟨a1,fun j y vv hy hv=>ex.rv (a2 j y vv hy ?_)⟩
   have hj:=zav hy
   rw[hget,if_neg]at hv
   ·exact hv
   ·intro hh
    have hxl:off*sz+news.length=(off+xs.length)*sz:=by rw[h1,Nat.add_mul]
    rcases Nat.lt_or_ge k off with h9|h9
    ·have:=zeg (sz:=sz) h9;omega
    ·have:(off+xs.length)*sz≤k*sz:=Nat.mul_le_mul_right sz (by omega)
     omega
theorem zFV (s:Sim P sh κ φ H w) {t tx ty e:TypeId} (ht:P.underlying t=some (.slice e)) (h0:P.cellsOf e≠0) {x y:V} {v u:Value} (hx:Rel φ w (stab κ φ H) x v) (hy:Rel φ w (stab κ φ H) y u) {r:V}
 (h:copyV H (P.cellsOf e) x y=some (r,H')):zxh P sh κ φ H w fr ((Builtin.copy_ #[t,tx] ty #[v,u]).run P w) r H':=by
 unfold copyV at h
 cases hel:zbC H y with
 |none=>rw[hel]at h;simp at h
 |some new=>
  rw[hel]at h
  simp only[Option.bind_some]at h
  split at h
  ·rename_i b off len
   cases hb:H.get b with
   |none=>rw[hb]at h;simp at h
   |some yb=>
    rw[hb]at h
    cases yb with
    |els z l fz=>
     simp only at h
     split at h
     case isFalse=>cases h
     rename_i hc
     obtain⟨hz0,hfz,hle,hszd⟩:=hc
     simp only[Option.some.injEq,Prod.mk.injEq]at h
     obtain⟨rfl,rfl⟩:=h
     obtain⟨m,sz,hφ,hzz,_⟩:=s.get hb
     have hsz:sz=P.cellsOf e:=hzz.trans hz0
     subst hsz
     obtain⟨ie,hie⟩:∃i,P.info? e=some i:=by
      cases hi:P.info? e with
      |none=>simp[Program.cellsOf,hi]at h0
      |some i=>exact⟨i,rfl⟩
     cases hx with
     |sl hcap hp=>
      rename_i a cap
      obtain rfl:a=⟨m,off*P.cellsOf e,none⟩:=by
       rcases hp with hp|⟨m',sz'',t',k',hφ',ha,hshp,hk'⟩
       ·rw[hp]at hφ;cases hφ
       ·rw[hφ]at hφ';cases hφ';exact ha
      obtain⟨news,n1,n2,n3,n4⟩:=src_ok s hy hel hszd h0 (n:=min new.length len) (Nat.min_le_left _ _)
      have hxl:(new.take (min new.length len)).length=min new.length len:=by simp
      obtain⟨w1,e1,s1,x1⟩:=zxj s hb (xs:=new.take (min new.length len)) hfz (by rw[hxl];omega) hφ (by rw[hxl];exact n1) n2 n3
      refine⟨.int .i64 (min new.length len:Nat),w1,φ,?_,s1,x1,.d (.int _ _),fun _ h _=>h⟩
      have hl:=zqp s hy hel w
      have hn4:=n4 w rfl
      have hmin:Nat.min new.length len=min new.length len:=rfl
      simp only[Builtin.copy_,List.getElem?_toArray,List.getElem?_cons_zero,List.getElem?_cons_succ,Sem.run_bind,zan ht,Result.andThen_ok,hl,run_sizeOf hie,hmin,hn4,e1,Sem.run_pure,goInt]
     |_=>skip
    |_=>simp at h
  ·cases h
theorem ztT {v:Value} {x:D} (h:zke v=some x):∀u∈v.cells.toList,u.oneCell'=true:=by
 have key:∀{v:Value} {x:D},zfs v=some x→v.cells= #[v]∧v.oneCell'=true:=by
  intro v x h
  refine⟨(zgP (w:=default) (S:=fun _ _=>False) h).2.2,?_⟩
  unfold zfs at h
  split at h<;>first|rfl|cases h
 have keys:∀{l:List Value} {ds:List D},zcI l=some ds→∀u∈l,u.oneCell'=true:=by
  intro l
  induction l with
  |nil=>intro ds _ u hu;cases hu
  |cons v r ih=>
   intro ds h u hu
   simp only[zcI]at h
   cases h1:zfs v with
   |none=>rw[h1]at h;simp at h
   |some x=>
    rw[h1]at h
    simp only[Option.bind_some]at h
    cases h2:zcI r with
    |none=>rw[h2]at h;simp at h
    |some xs=>
     rcases List.mem_cons.1 hu with rfl|hu
     ·exact(key h1).2
     ·exact ih h2 u hu
 unfold zke at h
 split at h
 ·rename_i cs
  cases h1:zcI cs.toList with
  |none=>rw[h1]at h;simp at h
  |some ds=>exact keys h1
 ·obtain⟨h1,h2⟩:=key h
  intro u hu
  rw[h1]at hu
  simp at hu;subst hu;exact h2
def zFb (H:Heap) (z:D):V→Option (V×Heap)
 | .sl b off len=>match H.get b with
  |some (.els zs l fz)=>if zs=z.cells.length∧fz≤off∧off+len≤l.length then some (.undef,H.put b (.els zs (splice l off (List.replicate len (.d z))) fz))else none
  |_=>none
 | .d (.list _ [])=>some (.undef,H)
 |_=>none
theorem zBG (s:Sim P sh κ φ H w) {t ty e:TypeId} (ht:P.underlying t=some (.slice e)) (h0:P.cellsOf e≠0) {z:D} (hz:zfp P e=some z) (hzl:z.cells.length=P.cellsOf e) {x y:V} {v:Value} (hx:Rel φ w (stab κ φ H) x v)
 (h:zFb H z x=some (y,H')):zxh P sh κ φ H w fr ((Builtin.clear_ #[t] ty #[v]).run P w) y H':=by
 obtain⟨i,zv,hi,hiz,hzc⟩:=zcv hz
 have hrz:=(zbX (w:=w) (S:=stab κ φ H) hzc)
 have hzs:zv.cells.size=P.cellsOf e:=by rw[hrz.cells.1,hzl]
 unfold zFb at h
 split at h
 ·rename_i b off len
  cases hb:H.get b with
  |none=>rw[hb]at h;simp at h
  |some yb=>
   rw[hb]at h
   cases yb with
   |els zz l fz=>
    simp only at h
    split at h
    case isFalse=>cases h
    rename_i hc
    obtain⟨hz0,hfz,hle⟩:=hc
    simp only[Option.some.injEq,Prod.mk.injEq]at h
    obtain⟨rfl,rfl⟩:=h
    obtain⟨m,sz,hφ,hzz,_⟩:=s.get hb
    have hsz:sz=P.cellsOf e:=by rw[hzz,hz0,hzl]
    subst hsz
    cases hx with
    |sl hcap hp=>
     rename_i a cap
     obtain rfl:a=⟨m,off*P.cellsOf e,none⟩:=by
      rcases hp with hp|⟨m',sz'',t',k',hφ',ha,hshp,hk'⟩
      ·rw[hp]at hφ;cases hφ
      ·rw[hφ]at hφ';cases hφ';exact ha
     have hel:zdf φ w (stab κ φ H) (P.cellsOf e) (List.replicate len (.d z)) (Builtin.zeroCells zv.cells len).toList.toArray:=by
      refine .replicate hrz hzl (by simp[Builtin.zeroCells,hzs]) fun a b ha hb=> ?_
      have:=zkr (n:=len) hzs ha hb
      simp only[Array.toArray_toList,Builtin.zeroCells,hzs]at this⊢
      exact this
     obtain⟨w1,e1,s1,x1⟩:=zxj s hb (xs:=List.replicate len (.d z)) hfz (by simpa using hle) hφ (by simp[Builtin.zeroCells,hzs]) (fun u hu=>by
      simp only[Builtin.zeroCells,Array.toList_map,List.mem_map]at hu
      obtain⟨k,hk,rfl⟩:=hu
      have hk':k<len*zv.cells.size:=by simpa using hk
      have hp:0<zv.cells.size:=by rw[hzs];omega
      have hlt:k %zv.cells.size<zv.cells.size:=Nat.mod_lt _ hp
      refine ztT hzc _ ?_
      simp[getElem!_pos,hlt]) hel
     refine⟨.tuple #[],w1,φ,?_,s1,x1,.undef _,fun _ h _=>h⟩
     simp only[Builtin.clear_,List.getElem?_toArray,List.getElem?_cons_zero,Sem.run_bind,zan ht,Result.andThen_ok]
     cases len with
     |zero=>
      have hw:w=w1:=by simpa[Builtin.zeroCells,storeCells]using e1
      rw[←hw]
      simp only[Sem.run_pure,Result.andThen_ok]
     |succ n=>
      simp only[Sem.run_bind,zbT hi hiz,Result.andThen_ok,e1,Sem.run_pure]
    |_=>skip
   |_=>simp at h
 ·simp only[Option.some.injEq,Prod.mk.injEq]at h
  obtain⟨rfl,rfl⟩:=h
  refine .keep s (mv:= .tuple #[]) ?_ (.undef _)
  have hd:=hx.d_inv
  cases hd<;>simp[Builtin.clear_,zan ht]
 ·cases h
inductive Args (φ:Place) (w:World) (S:Nat→Nat→Prop):List V→List Value→Prop
 |nil:Args φ w S [] []
 |cons {x:V} {v:Value} {l:List V} {m:List Value} (hr:Rel φ w S x v) (h:Args φ w S l m):Args φ w S (x::l) (v::m)
theorem zBH {l:List V} {m:List Value} (ha:Args φ w S l m):∀{x y:V} {v:Value},Rel φ w S x v→foldV (fun a b=>if b>a then b else a) x l=some y→∃u,(m.foldlM Builtin.max2 v).run P w= .ok u w∧Rel φ w S y u:=by
 induction ha with
 |nil=>intro x y v hx h;simp only[foldV,Option.some.injEq]at h;subst h;exact⟨v,by simp,hx⟩
 | @cons x' v' l m hr _ ih=>
  intro x y v hx h
  simp only[foldV]at h
  cases h1:max2 (fun a b=>if b>a then b else a) x x' with
  |none=>rw[h1]at h;simp at h
  |some z=>
   rw[h1]at h
   simp only[Option.bind_some]at h
   unfold max2 at h1
   split at h1
   ·have d1:=hx.d_inv;have d2:=hr.d_inv
    cases d1;cases d2
    split at h1
    case isFalse=>cases h1
    rename_i hk;subst hk
    simp only[Option.some.injEq]at h1;subst h1
    obtain⟨u,e,r⟩:=ih (.d (.int _ _)) h
    refine⟨u,?_,r⟩
    simp only[List.foldlM_cons,Sem.run_bind,Builtin.max2,Sem.run_pure,Result.andThen_ok]
    exact e
   ·cases h1
theorem zBI {l:List V} {m:List Value} (ha:Args φ w S l m):∀{x y:V} {v:Value},Rel φ w S x v→foldV (fun a b=>if b<a then b else a) x l=some y→∃u,(m.foldlM Builtin.min2 v).run P w= .ok u w∧Rel φ w S y u:=by
 induction ha with
 |nil=>intro x y v hx h;simp only[foldV,Option.some.injEq]at h;subst h;exact⟨v,by simp,hx⟩
 | @cons x' v' l m hr _ ih=>
  intro x y v hx h
  simp only[foldV]at h
  cases h1:max2 (fun a b=>if b<a then b else a) x x' with
  |none=>rw[h1]at h;simp at h
  |some z=>
   rw[h1]at h
   simp only[Option.bind_some]at h
   unfold max2 at h1
   split at h1
   ·have d1:=hx.d_inv;have d2:=hr.d_inv
    cases d1;cases d2
    split at h1
    case isFalse=>cases h1
    rename_i hk;subst hk
    simp only[Option.some.injEq]at h1;subst h1
    obtain⟨u,e,r⟩:=ih (.d (.int _ _)) h
    refine⟨u,?_,r⟩
    simp only[List.foldlM_cons,Sem.run_bind,Builtin.min2,Sem.run_pure,Result.andThen_ok]
    exact e
   ·cases h1
theorem zJI {l:List V} {m:Array Value} (ha:Args φ w S l m.toList) {y:V} (h:maxV l=some y) {ts:Array TypeId} {ty:TypeId}:∃u,(Builtin.max_ ts ty m).run P w= .ok u w∧Rel φ w S y u:=by
 unfold maxV at h
 split at h
 ·unfold Builtin.max_
  generalize m.toList=ml at ha
  cases ha with
  |cons hr hl=>exact zBH hl hr h
 ·cases h
theorem zJJ {l:List V} {m:Array Value} (ha:Args φ w S l m.toList) {y:V} (h:minV l=some y) {ts:Array TypeId} {ty:TypeId}:∃u,(Builtin.min_ ts ty m).run P w= .ok u w∧Rel φ w S y u:=by
 unfold minV at h
 split at h
 ·unfold Builtin.min_
  generalize m.toList=ml at ha
  cases ha with
  |cons hr hl=>exact zBI hl hr h
 ·cases h
theorem ztU {m:Nat} {o o':Obj} (h:w.heap[m]? =some o) (hc:∀c e f,o≠.cells c e f):∃w',(setObj m o').run P w= .ok () w'∧Upd w m o' w':=by
 have hm:m<w.heap.size:=by
  rcases Nat.lt_or_ge m w.heap.size with h1|h1
  ·exact h1
  ·rw[Array.getElem?_eq_none h1]at h;cases h
 refine⟨{w with heap:=w.heap.setIfInBounds m o'},?_,by simp,?_,fun k hk=> ?_,rfl,rfl,rfl⟩
 ·simp only[setObj,Sem.run,h]
 ·simp[hm]
 ·rw[Array.getElem?_setIfInBounds_ne (Ne.symm hk)]
theorem zBJ (s:Sim P sh κ φ H w) (hfr:φ fr= .unborn) (hlt:fr<H.next):zxh P sh κ φ H w fr ((do pure (.map (some (←newObj (.map #[] 0)))):Sem Value).run P w) (.map fr) (H.put fr (.map [] 0)):=by
 obtain⟨s1,e1⟩:=zko (sz:=0) (x:= .map [] 0) (o:= .map #[] 0) s hfr hlt (fun ex ho=>⟨#[],ho,rfl,by simp,by simp⟩)
 exact⟨_,_,_,by simp[run_newObj],s1,e1,.map (.inr ⟨0,zaU _ _ _⟩),fun b hb hne=>by rw[zaR _ _ hne];exact hb⟩
theorem zxk (s:Sim P sh κ φ H w) (hfr:φ fr= .unborn) (hlt:fr<H.next) {t:TypeId} (ht:P.underlying t=some .string) {l:List UInt8} {v:Value} (hx:Rel φ w S (.d (.str l)) v):
 zxh P sh κ φ H w fr ((Instr.range t v).run P w) (.it fr) (H.put fr (.it l 0)):=by
 obtain⟨s',rfl,hs⟩:=str_inv hx.d_inv
 obtain⟨s1,e1⟩:=zko (sz:=0) (x:= .it l 0) (o:= .stringIter s' 0) s hfr hlt (fun ex ho=>⟨s',ho,hs⟩)
 exact⟨_,_,_,by simp[Instr.range,zan ht],s1,e1,.it (.inr ⟨0,zaU _ _ _⟩),fun b hb hne=>by rw[zaR _ _ hne];exact hb⟩
theorem zic (s:Sim P sh κ φ H w) {b m sz:Nat} (hφ:φ b= .at m sz) {x x':Blk} (hb:H.get b=some x) (hx:∀z l fz,x≠.els z l fz) {o o':Obj} (ho:w.heap[m]? =some o) (hc:∀c e f,o≠.cells c e f) (hc':∀c e f,o'≠.cells c e f)
 (hr:∀w',Ext κ φ H w φ (H.put b x') w'→w'.heap[m]? =some o'→RB P sh φ w' (stab κ φ (H.put b x')) m sz x'):
 ∃w',(setObj m o').run P w= .ok () w'∧Sim P sh κ φ (H.put b x') w'∧Ext κ φ H w φ (H.put b x') w':=by
 obtain⟨w',e1,u1⟩:=ztU (P:=P) (o':=o') ho hc
 have nos:∀k,¬stab κ φ H m k:=fun k hk=>by
  obtain⟨l,fz,h1,_⟩:=hk.2 b sz hφ
  rw[hb]at h1;cases h1
  exact hx _ _ _ rfl
 have hp:=zkn s hφ (x':=x') u1 (fun k hk=>absurd hk (nos k)) (fun k v hk _=>absurd hk (nos k)) ?_ (fun ex=>hr w' ex u1.at_)
 ·exact⟨w',e1,hp.1,hp.2⟩
 ·simp only[World.shape?,ho,u1.at_]
  cases o<;>first|exact absurd rfl (hc _ _ _)|(cases o'<;>first|rfl|exact absurd rfl (hc' _ _ _))
theorem zbU {m:Nat} {o:Obj} (h:w.heap[m]? =some o) (hc:∀c e f,o≠.cells c e f):(getObj m).run P w= .ok o w:=by
 simp only[getObj,Sem.run,h]
theorem zBK (s:Sim P sh κ φ H w) {b:Nat} {v:Value} (hx:Rel φ w (stab κ φ H) (.it b) v) {t:TypeId} {r:V} (h:(match H.get b with
 |some (.it s pos)=>if pos<s.length then
  let(c,w):=Utf8.decode ⟨s.toArray⟩ pos
  some (V.d (.tuple [.bool true,.int .i64 pos,.int .i32 c]),H.put b (.it s (pos+w)))
  else some (.d (.tuple [.bool false]),H)
 |_=>none)=some (r,H')):zxh P sh κ φ H w fr ((Instr.next v true t).run P w) r H':=by
 cases hb:H.get b with
 |none=>rw[hb]at h;simp at h
 |some yb=>
  rw[hb]at h
  cases yb with
  |it l pos=>
   simp only at h
   obtain⟨m,sz,hφ,s',h5,h6⟩:=s.get hb
   cases hx with
   |it hp=>
    rename_i m'
    obtain rfl:m'=m:=by
     rcases hp with hp|⟨sz',hp⟩
     ·rw[hp]at hφ;cases hφ
     ·rw[hφ]at hp;cases hp;rfl
    have hl:l.length=s'.size:=by rw[←h6,Array.length_toList];rfl
    have hs':(⟨l.toArray⟩:ByteArray)=s':=by rw[←h6]
    split at h
    ·rename_i hlt
     rw[hs']at h
     have hlt':pos<s'.size:=by omega
     generalize hd:Utf8.decode s' pos=cw at h
     obtain⟨c,wd⟩:=cw
     simp only[Option.some.injEq,Prod.mk.injEq]at h
     obtain⟨rfl,rfl⟩:=h
     obtain⟨w1,e1,s1,x1⟩:=zic s hφ (x':= .it l (pos+wd)) (o':= .stringIter s' (pos+wd)) hb (by simp) h5 (by simp) (by simp) (fun w' _ ho=>⟨s',ho,h6⟩)
     refine⟨.tuple #[.bool true,goInt pos,.int .i32 c],w1,φ,?_,s1,x1,.d (.tuple rfl ?_),fun _ h _=>h⟩
     ·simp only[Instr.next,Sem.run_bind,zbU h5 (by simp),Result.andThen_ok]
      rw[if_pos hlt',hd]
      simp only[Sem.run_bind,e1,Result.andThen_ok,Sem.run_pure]
     ·intro j x v hx hv
      match j with
      |0=>simp at hx hv;subst hx hv;exact .bool _
      |1=>simp at hx hv;subst hx hv;exact .int _ _
      |2=>simp at hx hv;subst hx hv;exact .int _ _
      |k+3=>simp at hx
    ·rename_i hlt
     have hlt':¬pos<s'.size:=by omega
     simp only[Option.some.injEq,Prod.mk.injEq]at h
     obtain⟨rfl,rfl⟩:=h
     refine .keep s (mv:= .tuple #[.bool false]) ?_ (.d (.tuple rfl ?_))
     ·simp only[Instr.next,Sem.run_bind,zbU h5 (by simp),Result.andThen_ok]
      rw[if_neg hlt']
      simp only[Sem.run_pure]
     ·intro j x v hx hv
      match j with
      |0=>simp at hx hv;subst hx hv;exact .bool _
      |k+1=>simp at hx
  |_=>simp at h
end Go.AI
namespace Go.AI
variable {P:Program} {sh:FuncId→Bool} {T:Tabs} {κ:Ctx T} {φ φ':Place} {H H':Heap} {w w' w'':World} {S S':Nat→Nat→Prop} {fr:Nat}
theorem zjg {n:Nat} {d:Nat} {em:Bool} (ih:∀t ks,flatK P n t=some ks→∀(vs:Array Value) (off:Nat),off+ks.length≤vs.size→(Instr.checkKey em d t (zfa P t vs off)).run P w= .ok () w):
 ∀(fs:List Field) (off:Nat) (ks:List CK),zdB (flatK P n) off fs=some ks→∀(vs:Array Value),off+ks.length≤vs.size→
 (forIn fs () (fun(f:Field) (_:Unit)=>if f.name≠ "_" then(do let x←part f.type vs f.offset;Instr.checkKey em d f.type x;pure (ForInStep.yield ()):Sem (ForInStep Unit))else pure (ForInStep.yield ()))).run P w= .ok () w
 |[],off,ks,h,vs,hv=>by simp
 |f::fs,off,ks,h,vs,hv=>by
  simp only[zdB]at h
  split at h
  case isFalse=>cases h
  rename_i hf
  simp only[Bool.and_eq_true,bne_iff_ne,ne_eq,beq_iff_eq]at hf
  obtain⟨hf1,hf2⟩:=hf
  cases h1:flatK P n f.type with
  |none=>rw[h1]at h;simp at h
  |some k1=>
   rw[h1]at h
   simp only[Option.bind_some]at h
   cases h2:zdB (flatK P n) (off+k1.length) fs with
   |none=>rw[h2]at h;simp at h
   |some k2=>
    rw[h2]at h
    simp only[Option.map_some,Option.some.injEq]at h
    subst h
    simp only[List.length_append]at hv
    obtain⟨⟨z,hz,hz1,hz2⟩,_⟩:=zFS (P:=P) (w:=w) (S:=fun _ _=>False) n f.type k1 h1
    have pv:=zfb (w:=w) (vs:=vs) (off:=off) hz (fun hn=>by have:=hz1 hn;omega)
    have r1:=ih f.type k1 h1 vs off (by omega)
    have r2:=zjg ih fs (off+k1.length) k2 h2 vs (by omega)
    rw[List.forIn_cons]
    simp only[Sem.run_bind]
    rw[if_pos hf1,hf2]
    simp only[Sem.run_bind,pv,Result.andThen_ok,r1,Sem.run_pure]
    exact r2
theorem zBL {em:Bool} (n:Nat):∀(t:TypeId) (ks:List CK),flatK P n t=some ks→∀(vs:Array Value) (off:Nat),off+ks.length≤vs.size→∀d,n≤d→(Instr.checkKey em d t (zfa P t vs off)).run P w= .ok () w:=by
 induction n with
 |zero=>intro t ks h;simp[flatK]at h
 |succ n ih=>
  intro t ks h vs off hv d hd
  obtain⟨d,rfl⟩:∃k,d=k+1:=⟨d-1,by omega⟩
  simp only[flatK]at h
  split at h
  ·rename_i hu
   simp only[Instr.checkKey,Sem.run_bind,zan hu,Result.andThen_ok,Sem.run_pure]
  ·rename_i k hu
   simp only[Instr.checkKey,Sem.run_bind,zan hu,Result.andThen_ok,Sem.run_pure]
  ·rename_i hu
   simp only[Instr.checkKey,Sem.run_bind,zan hu,Result.andThen_ok,Sem.run_pure]
  ·rename_i fs hu
   split at h
   ·cases h
   cases h1:zdB (flatK P n) 0 fs.toList with
   |none=>rw[h1]at h;simp at h
   |some k1=>
    rw[h1]at h
    simp only[Option.bind_some]at h
    split at h
    case isFalse=>cases h
    rename_i hlen
    simp only[Option.some.injEq]at h;subst h
    simp only[beq_iff_eq]at hlen
    have ha:zcn P t=some (some (P.cellsOf t)):=by simp[zcn,hu]
    simp only[zfa,ha,Instr.checkKey,Sem.run_bind,zan hu,Result.andThen_ok]
    rw[←Array.forIn_toList]
    have:=zjg (w:=w) (em:=em) (d:=d) (fun t ks ht vs off hv=>ih t ks ht vs off hv d (by omega)) fs.toList 0 k1 h1 (vs.extract off (off+P.cellsOf t)) (by simp;omega)
    rw[this];rfl
  ·cases h
theorem zdF {ks:List CK} {k k':D} {b:Bool} (h:zeV ks k k'=some b):k.isAgg=(ks.length !=1)∧k'.isAgg=(ks.length !=1)∧zaM ks k.cells k'.cells=some b:=by
 unfold zeV at h
 split at h
 ·rename_i hc;exact⟨hc.1,hc.2,h⟩
 ·cases h
theorem zqq {c:CK} {x y:D} (h:zbt c x y=some true):x=y:=by
 unfold zbt at h
 split at h
 ·split at h
  ·rename_i hk;subst hk;simp at h;subst h;rfl
  ·cases h
 ·simp at h;subst h;rfl
 ·simp at h;subst h;rfl
 ·cases h
theorem zjh:∀{ks:List CK} {xs ys:List D},zaM ks xs ys=some true→xs=ys
 |[],[],[],_=>rfl
 |c::cs,x::xs,y::ys,h=>by
  simp only[zaM]at h
  cases h1:zbt c x y with
  |none=>rw[h1]at h;simp at h
  |some a=>
   rw[h1]at h
   simp only[Option.bind_some]at h
   cases h2:zaM cs xs ys with
   |none=>rw[h2]at h;simp at h
   |some b=>
    rw[h2]at h
    simp only[Option.map_some,Option.some.injEq,Bool.and_eq_true]at h
    obtain⟨rfl,rfl⟩:=h
    rw[zqq h1,zjh h2]
 |[],[],_::_,h=>by simp[zaM]at h
 |[],_::_,_,h=>by simp[zaM]at h
 |_::_,[],_,h=>by simp[zaM]at h
 |_::_,_::_,[],h=>by simp[zaM]at h
theorem D.cells_one {k:D} (h:k.isAgg=false):k.cells=[k]:=by
 cases k<;>first|rfl|simp[D.isAgg]at h
theorem D.cells_agg {k:D} (h:k.isAgg=true):∃cs,k= .agg cs:=by
 cases k<;>first|exact⟨_,rfl⟩|simp[D.isAgg]at h
theorem zlD {ks:List CK} {k k':D} (h:zeV ks k k'=some true):k=k':=by
 obtain⟨h1,h2,h3⟩:=zdF h
 have h4:=zjh h3
 cases hb:(ks.length !=1)with
 |false=>rw[hb]at h1 h2;rw[D.cells_one h1,D.cells_one h2]at h4;simpa using h4
 |true=>
  rw[hb]at h1 h2
  obtain⟨c1,rfl⟩:=D.cells_agg h1
  obtain⟨c2,rfl⟩:=D.cells_agg h2
  simp only[D.cells]at h4;rw[h4]
theorem zon {c:CK} {x:D} (h:zbt c x x=some true) {v u:Value} (hv:RD w S x v) (hu:RD w S x u) (n:Nat):Instr.sameBits n v u=true:=by
 unfold zbt at h
 split at h
 ·cases hv;cases hu;cases n<;>simp[Instr.sameBits]
 ·obtain⟨s1,rfl,e1⟩:=str_inv hv
  obtain⟨s2,rfl,e2⟩:=str_inv hu
  have:s1=s2:=by
   have h9:s1.data=s2.data:=Array.ext' (by rw[e1,e2])
   cases s1;cases s2;simp at h9;rw[h9]
  subst this
  have hb:(s1==s1)=true:=by rw[beq_toListBytes];simp
  cases n<;>simp[Instr.sameBits,hb]
 ·cases hv;cases hu;cases n<;>simp[Instr.sameBits]
 ·cases h
theorem zlE:∀{ks:List CK} {xs:List D},zaM ks xs xs=some true→∀{vs us:List Value},vs.length=xs.length→us.length=xs.length→(∀(j:Nat) x v,xs[j]? =some x→vs[j]? =some v→RD w S x v)→(∀(j:Nat) x v,xs[j]? =some x→us[j]? =some v→RD w S x v)→
 ∀n,((vs.zip us).all fun(x,y)=>Instr.sameBits n x y)=true
 |[],[],_,vs,us,hv,hu,_,_,n=>by
  have:=List.eq_nil_of_length_eq_zero hv
  subst this;simp
 |c::cs,x::xs,h,vs,us,hv,hu,rv,ru,n=>by
  match vs,us,hv,hu with
  |v::vs,u::us,hv,hu=>
   simp only[zaM]at h
   cases h1:zbt c x x with
   |none=>rw[h1]at h;simp at h
   |some a=>
    rw[h1]at h
    simp only[Option.bind_some]at h
    cases h2:zaM cs xs xs with
    |none=>rw[h2]at h;simp at h
    |some b=>
     rw[h2]at h
     simp only[Option.map_some,Option.some.injEq,Bool.and_eq_true]at h
     obtain⟨rfl,rfl⟩:=h
     simp only[List.zip_cons_cons,List.all_cons,Bool.and_eq_true]
     exact⟨zon h1 (rv 0 x v rfl rfl) (ru 0 x u rfl rfl) n,zlE h2 (by simpa using hv) (by simpa using hu) (fun j y z hy hz=>rv (j+1) y z hy hz) (fun j y z hy hz=>ru (j+1) y z hy hz) n⟩
 |[],_::_,h,_,_,_,_,_,_,_=>by simp[zaM]at h
 |_::_,[],h,_,_,_,_,_,_,_=>by simp[zaM]at h
theorem zrW {ks:List CK} {k:D} (h:zeV ks k k=some true) {v u:Value} (hv:RD w S k v) (hu:RD w S k u) (n:Nat):Instr.sameBits (n+1) v u=true:=by
 obtain⟨h1,_,h3⟩:=zdF h
 cases hb:(ks.length !=1)with
 |false=>
  rw[hb]at h1;rw[D.cells_one h1]at h3
  obtain⟨l1,_⟩:=zbJ h3
  match ks,l1 with
  |[c],_=>
   simp only[zaM]at h3
   cases h4:zbt c k k with
   |none=>rw[h4]at h3;simp at h3
   |some a=>rw[h4]at h3;simp at h3;subst h3;exact zon h4 hv hu _
 |true=>
  rw[hb]at h1
  obtain⟨c1,rfl⟩:=D.cells_agg h1
  simp only[D.cells]at h3
  cases hv with
  |agg hs1 hh1=>
   cases hu with
   |agg hs2 hh2=>
    simp only[Instr.sameBits,Bool.and_eq_true,beq_iff_eq]
    exact⟨by rw[hs1,hs2],zlE h3 (by simpa using hs1) (by simpa using hs2) (fun j x v hx hv=>hh1 j x v hx (by simpa using hv)) (fun j x v hx hv=>hh2 j x v hx (by simpa using hv)) n⟩
theorem zqr {kt:TypeId} {ks:List CK} (hk:zAK P kt=some ks) (hl:ks.length=1):∃d c,P.underlying kt=some d∧ks=[c]∧((d= .bool∧c= .bool)∨(∃k,d= .int k∧c= .int)∨(d= .string∧c= .str)):=by
 unfold zAK at hk
 cases hf:flatK P 20 kt with
 |none=>rw[hf]at hk;simp at hk
 |some k1=>
  rw[hf]at hk
  simp only[Option.bind_some]at hk
  split at hk
  ·split at hk
   ·rename_i hc
    simp only[Option.some.injEq]at hk;subst hk
    simp[hl]at hc
   ·cases hk
  ·rename_i hns
   split at hk
   case isFalse=>cases hk
   simp only[Option.some.injEq]at hk;subst hk
   simp only[flatK]at hf
   split at hf
   ·rename_i hu;simp only[Option.some.injEq]at hf;exact⟨_,_,hu,hf.symm,.inl ⟨rfl,rfl⟩⟩
   ·rename_i k hu;simp only[Option.some.injEq]at hf;exact⟨_,_,hu,hf.symm,.inr (.inl ⟨k,rfl,rfl⟩)⟩
   ·rename_i hu;simp only[Option.some.injEq]at hf;exact⟨_,_,hu,hf.symm,.inr (.inr ⟨rfl,rfl⟩)⟩
   ·rename_i fs hu;exact absurd hu (by simpa using hns fs)
   ·cases hf
theorem zBM {kt:TypeId} {ks:List CK} (hk:zAK P kt=some ks) (hl:ks.length≠1):∃fs,P.underlying kt=some (.struct fs)∧flatK P 20 kt=some ks∧zeX P kt= .agg ks:=by
 unfold zAK at hk
 cases hf:flatK P 20 kt with
 |none=>rw[hf]at hk;simp at hk
 |some k1=>
  rw[hf]at hk
  simp only[Option.bind_some]at hk
  split at hk
  ·rename_i fs hu
   split at hk
   ·rename_i hc
    simp only[Option.some.injEq]at hk;subst hk
    simp only[Bool.and_eq_true,decide_eq_true_eq]at hc
    exact⟨fs,hu,rfl,by simp only[zeX,hu,hf];rw[if_pos hc.2]⟩
   ·cases hk
  ·split at hk
   ·rename_i hc
    simp only[Option.some.injEq]at hk;subst hk
    simp at hc;exact absurd hc hl
   ·cases hk
theorem zFW {ks:List CK} {k k':D} {b:Bool} (h:zeV ks k k'=some b) {d:TypeDesc} {c:CK} (hc:ks=[c]) (hd:(d= .bool∧c= .bool)∨(∃k,d= .int k∧c= .int)∨(d= .string∧c= .str)) {v u:Value} (hv:RD w S k v) (hu:RD w S k' u):Instr.sameNow d v u=some b:=by
 subst hc
 obtain⟨h1,h2,h3⟩:=zdF h
 have h1':k.isAgg=false:=h1
 have h2':k'.isAgg=false:=h2
 rw[D.cells_one h1',D.cells_one h2']at h3
 simp only[zaM]at h3
 cases h4:zbt c k k' with
 |none=>rw[h4]at h3;simp at h3
 |some a=>
  rw[h4]at h3
  simp only[Option.map_some,Option.bind_some,Bool.and_true,Option.some.injEq]at h3
  subst h3
  rcases hd with⟨rfl,rfl⟩|⟨kk,rfl,rfl⟩|⟨rfl,rfl⟩
  ·unfold zbt at h4
   split at h4<;>first|(cases‹CK.bool=_›)|cases h4|skip
   cases hv;cases hu;simpa[Instr.sameNow]using h4
  ·unfold zbt at h4
   split at h4<;>first|(cases‹CK.int=_›)|cases h4|skip
   cases hv;cases hu;simpa[Instr.sameNow]using h4
  ·unfold zbt at h4
   split at h4<;>first|(cases‹CK.str=_›)|cases h4|skip
   obtain⟨s1,rfl,e1⟩:=str_inv hv
   obtain⟨s2,rfl,e2⟩:=str_inv hu
   simp only[Instr.sameNow]
   rw[←h4,←e1,←e2,beq_toListBytes,zjx]
inductive Ents (φ:Place) (w:World) (S:Nat→Nat→Prop):List (D×V×Nat)→List MapEntry→Prop
 |nil:Ents φ w S [] []
 |cons {k:D} {x:V} {t:Nat} {me:MapEntry} {l:List (D×V×Nat)} {m:List MapEntry} (h1:RD w S k me.key) (h2:Rel φ w S x me.val) (h3:me.born=t) (h:Ents φ w S l m):Ents φ w S ((k,x,t)::l) (me::m)
theorem zxl:∀{es:List (D×V×Nat)} {mes:List MapEntry},mes.length=es.length→(∀(i:Nat) (e:D×V×Nat) (me:MapEntry),es[i]? =some e→mes[i]? =some me→RD w S e.1 me.key∧Rel φ w S e.2.1 me.val∧me.born=e.2.2)→Ents φ w S es mes
 |[],mes,hl,_=>by
  have:=List.eq_nil_of_length_eq_zero hl
  subst this;exact .nil
 |(k,x,t)::es,me::mes,hl,h=>by
  obtain⟨h1,h2,h3⟩:=h 0 (k,x,t) me rfl rfl
  exact .cons h1 h2 h3 (zxl (by simpa using hl) fun i e me he hm=>h (i+1) e me he hm)
 |_::_,[],hl,_=>by simp at hl
def At (ks:List CK) (k:D) (es:List (D×V×Nat)) (mes:List MapEntry) (off:Nat) (r:Option (V×Nat)) (mr:Option (Nat×Value)):Prop:=
 (r=none∧mr=none)∨∃(i:Nat) (k':D) (x:V) (t:Nat) (me:MapEntry),r=some (x,t)∧es[i]? =some (k',x,t)∧mes[i]? =some me∧mr=some (off+i,me.val)∧zeV ks k k'=some true∧∀v,zrK ks k v es=some (es.set i (k,v,t))
theorem At.cons {ks:List CK} {k:D} {es:List (D×V×Nat)} {mes:List MapEntry} {off:Nat} {r:Option (V×Nat)} {mr:Option (Nat×Value)} (h:At ks k es mes (off+1) r mr) {e:D×V×Nat} {me:MapEntry} (hn:zeV ks k e.1=some false):
 At ks k (e::es) (me::mes) off r mr:=by
 rcases h with⟨h1,h2⟩|⟨i,k',x,t,me',h1,h2,h3,h4,h5,h6⟩
 ·exact .inl ⟨h1,h2⟩
 ·refine .inr ⟨i+1,k',x,t,me',h1,by simpa using h2,by simpa using h3,by rw[h4];congr 2;omega,h5,fun v=> ?_⟩
  obtain⟨ek,ev,et⟩:=e
  simp only[zrK,hn,Option.bind_some,Bool.false_eq_true,if_false,h6 v,Option.map_some,List.set_cons_succ]
theorem zBN {kt:TypeId} {ks:List CK} {c:CK} {d:TypeDesc} (hc:ks=[c]) (hd:(d= .bool∧c= .bool)∨(∃k,d= .int k∧c= .int)∨(d= .string∧c= .str)) {k:D} {v:Value} (hv:RD w S k v) {es:List (D×V×Nat)} {mes:List MapEntry}
 (he:Ents φ w S es mes):∀{off:Nat} {r:Option (V×Nat)},zep ks k es=some r→∃mr,Instr.findNow d v mes off=some mr∧At ks k es mes off r mr:=by
 induction he with
 |nil=>intro off r h;simp only[zep,Option.some.injEq]at h;subst h;exact⟨none,rfl,.inl ⟨rfl,rfl⟩⟩
 | @cons k' x t me l m h1 h2 h3 _ ih=>
  intro off r h
  simp only[zep]at h
  cases hq:zeV ks k k' with
  |none=>rw[hq]at h;simp at h
  |some b=>
   rw[hq]at h
   simp only[Option.bind_some]at h
   have hn:=zFW hq hc hd hv h1
   cases b with
   |true=>
    simp only[if_true,Option.some.injEq]at h;subst h
    refine⟨some (off,me.val),by simp only[Instr.findNow,hn],.inr ⟨0,k',x,t,me,rfl,rfl,rfl,rfl,hq,fun v=> ?_⟩⟩
    simp only[zrK,hq,Option.bind_some,if_true,List.set_cons_zero]
   |false=>
    simp only[Bool.false_eq_true,if_false]at h
    obtain⟨mr,e1,e2⟩:=ih (off:=off+1) h
    exact⟨mr,by simp only[Instr.findNow,hn,e1],e2.cons hq⟩
theorem zqs {kt:TypeId} {ks:List CK} (he:zeX P kt= .agg ks) (hl:ks.length≠1) {k:D} {v:Value} (hv:RD w S k v) {es:List (D×V×Nat)} {mes:List MapEntry}
 (hes:Ents φ w S es mes):∀{off:Nat} {r:Option (V×Nat)},zep ks k es=some r→∃mr,(Instr.findAsking kt v mes off).run P w= .ok mr w∧At ks k es mes off r mr:=by
 induction hes with
 |nil=>intro off r h;simp only[zep,Option.some.injEq]at h;subst h;exact⟨none,by simp[Instr.findAsking],.inl ⟨rfl,rfl⟩⟩
 | @cons k' x t me l m h1 h2 h3 _ ih=>
  intro off r h
  simp only[zep]at h
  cases hq:zeV ks k k' with
  |none=>rw[hq]at h;simp at h
  |some b=>
   rw[hq]at h
   simp only[Option.bind_some]at h
   have hn:(Op.equal kt v me.key).run P w= .ok b w:=by
    obtain⟨a1,a2,a3⟩:=zdF hq
    have hb:(ks.length !=1)=true:=by simpa using hl
    rw[hb]at a1 a2
    obtain⟨c1,rfl⟩:=D.cells_agg a1
    obtain⟨c2,rfl⟩:=D.cells_agg a2
    exact(zmz (P:=P) (t:=kt) (φ:=φ) (x:= .d (.agg c1)) (y:= .d (.agg c2)) (by rw[he];exact a3) (.d hv) (.d h1)).1
   cases b with
   |true=>
    simp only[if_true,Option.some.injEq]at h;subst h
    refine⟨some (off,me.val),by simp only[Instr.findAsking,Sem.run_bind,hn,Result.andThen_ok,if_true,Sem.run_pure],.inr ⟨0,k',x,t,me,rfl,rfl,rfl,rfl,hq,fun v=> ?_⟩⟩
    simp only[zrK,hq,Option.bind_some,if_true,List.set_cons_zero]
   |false=>
    simp only[Bool.false_eq_true,if_false]at h
    obtain⟨mr,e1,e2⟩:=ih (off:=off+1) h
    exact⟨mr,by simp only[Instr.findAsking,Sem.run_bind,hn,Result.andThen_ok,Bool.false_eq_true,if_false,e1],e2.cons hq⟩
theorem zks {em:Bool} {kt:TypeId} {d:TypeDesc} {v:Value} (n:Nat) (hu:P.underlying kt=some d) (h1:∀x,d≠.interface x) (h2:∀x y,d≠.array x y) (h3:∀x,d≠.struct x):(Instr.checkKey em (n+1) kt v).run P w= .ok () w:=by
 simp only[Instr.checkKey,Sem.run_bind,zan hu,Result.andThen_ok]
 cases d<;>first|exact absurd rfl (h1 _)|exact absurd rfl (h2 _ _)|exact absurd rfl (h3 _)|simp only[Sem.run_pure]
theorem find_ok {kt:TypeId} {ks:List CK} (hk:zAK P kt=some ks) {k:D} {v:Value} (hv:RD w S k v) {es:List (D×V×Nat)} {mes:List MapEntry} (hes:Ents φ w S es mes) {r:Option (V×Nat)} (h:zhV ks k es=some r):
 (∀em,(Instr.checkKey em 10000 kt v).run P w= .ok () w)∧zeV ks k k=some true∧∃mr,(Instr.findKey kt v mes).run P w= .ok mr w∧At ks k es mes 0 r mr:=by
 unfold zhV at h
 split at h
 case isFalse=>cases h
 rename_i hkk
 have hcells:=zdF hkk
 by_cases hl:ks.length=1
 ·obtain⟨d,c,hu,hc,hd⟩:=zqr hk hl
  obtain⟨mr,e1,e2⟩:=zBN (kt:=kt) hc hd hv hes (off:=0) h
  refine⟨fun em=> ?_,hkk,mr,?_,e2⟩
  ·rcases hd with⟨rfl,_⟩|⟨kk,rfl,_⟩|⟨rfl,_⟩
   ·exact zks 9999 hu (by simp) (by simp) (by simp)
   ·exact zks 9999 hu (by simp) (by simp) (by simp)
   ·exact zks 9999 hu (by simp) (by simp) (by simp)
  ·simp only[Instr.findKey,Sem.run_bind,zan hu,Result.andThen_ok,e1,Sem.run_pure]
 ·obtain⟨fs,hu,hf,he⟩:=zBM hk hl
  obtain⟨mr,e1,e2⟩:=zqs (P:=P) he hl hv hes (off:=0) h
  have hb:(ks.length !=1)=true:=by simpa using hl
  rw[hb]at hcells
  obtain⟨c1,rfl⟩:=D.cells_agg hcells.1
  cases hv with
  | @agg _ vs hs hh=>
   have hlen:=(zbJ hcells.2.2).1
   simp only[D.cells]at hlen
   obtain⟨⟨x,hx,hx1,hx2⟩,_⟩:=zFS (P:=P) (w:=w) (S:=S) 20 kt ks hf
   have ha:zcn P kt=some (some (P.cellsOf kt)):=by simp[zcn,hu]
   rw[ha]at hx;cases hx
   have hsz:=hx2 _ rfl
   have hval:zfa P kt vs 0= .agg vs:=by
    simp only[zfa,ha,Nat.zero_add]
    congr 1
    rw[←hsz,←hlen,←hs]
    exact Array.extract_size
   refine⟨fun em=> ?_,hkk,mr,?_,e2⟩
   ·have:=zBL (P:=P) (w:=w) (em:=em) 20 kt ks hf vs 0 (by omega) 10000 (by omega)
    rw[hval]at this;exact this
   ·have hnow:Instr.findNow (.struct fs) (.agg vs) mes 0=some none∧mes=[]∨Instr.findNow (.struct fs) (.agg vs) mes 0=none:=by
     cases mes with
     |nil=>exact .inl ⟨rfl,rfl⟩
     |cons me r=>exact .inr rfl
    rcases hnow with⟨h1,rfl⟩|h1
    ·simp only[Instr.findKey,Sem.run_bind,zan hu,Result.andThen_ok,h1,Sem.run_pure]
     simpa[Instr.findAsking]using e1
    ·simp only[Instr.findKey,Sem.run_bind,zan hu,Result.andThen_ok,h1]
     exact e1
end Go.AI
namespace Go.AI
variable {P:Program} {sh:FuncId→Bool} {T:Tabs} {κ:Ctx T} {φ φ':Place} {H H':Heap} {w w' w'':World} {S S':Nat→Nat→Prop} {fr:Nat}
def MapAt (φ:Place) (w:World) (S:Nat→Nat→Prop) (es:List (D×V×Nat)) (clock:Nat) (mes:Array MapEntry):Prop:=
 mes.size=es.length∧(∀(i:Nat) (e:D×V×Nat) (me:MapEntry),es[i]? =some e→mes[i]? =some me→RD w S e.1 me.key∧Rel φ w S e.2.1 me.val∧me.born=e.2.2∧e.2.2<clock)∧
  ∀(i j:Nat) (e e':D×V×Nat),es[i]? =some e→es[j]? =some e'→e.2.2=e'.2.2→i=j
theorem MapAt.ents {es:List (D×V×Nat)} {clock:Nat} {mes:Array MapEntry} (h:MapAt φ w S es clock mes):Ents φ w S es mes.toList:=
 zxl (by simpa using h.1) fun i e me he hm=>let⟨a,b,c,_⟩:=h.2.1 i e me he (by simpa using hm);⟨a,b,c⟩
theorem MapAt.ext (x:Ext κ φ H w φ' H' w') {es:List (D×V×Nat)} {clock:Nat} {mes:Array MapEntry} (h:MapAt φ w (stab κ φ H) es clock mes):MapAt φ' w' (stab κ φ' H') es clock mes:=
 ⟨h.1,fun i e me he hm=>let⟨a,b,c,d⟩:=h.2.1 i e me he hm;⟨x.rd a,x.rv b,c,d⟩,h.2.2⟩
theorem MapAt.set {es:List (D×V×Nat)} {clock:Nat} {mes:Array MapEntry} (h:MapAt φ w S es clock mes) {i:Nat} {k0 k:D} {x0 x:V} {t:Nat} (he:es[i]? =some (k0,x0,t)) {f:MapEntry→MapEntry}
 (hf:∀me,mes[i]? =some me→RD w S k (f me).key∧Rel φ w S x (f me).val∧(f me).born=me.born):MapAt φ w S (es.set i (k,x,t)) clock (mes.modify i f):=by
 have hi:=zav he
 refine⟨by simp[h.1],fun j e me hj hm=> ?_,fun a b e e' ha hb hh=> ?_⟩
 ·rw[Array.getElem?_modify]at hm
  rw[List.getElem?_set]at hj
  by_cases hij:i=j
  ·subst hij
   rw[if_pos rfl,if_pos hi]at hj
   rw[if_pos rfl]at hm
   simp only[Option.some.injEq]at hj;subst hj
   cases hmi:mes[i]? with
   |none=>rw[hmi]at hm;simp at hm
   |some m0=>
    rw[hmi]at hm
    simp only[Option.map_some,Option.some.injEq]at hm;subst hm
    obtain⟨a,b,c⟩:=hf m0 hmi
    obtain⟨_,_,c',d'⟩:=h.2.1 i _ m0 he hmi
    exact⟨a,b,c.trans c',d'⟩
  ·rw[if_neg hij]at hj hm
   exact h.2.1 j e me hj hm
 ·have key:∀(c:Nat) (e:D×V×Nat),(es.set i (k,x,t))[c]? =some e→∃e0,es[c]? =some e0∧e0.2.2=e.2.2:=by
   intro c e hc
   rw[List.getElem?_set]at hc
   by_cases hic:i=c
   ·subst hic
    rw[if_pos rfl,if_pos hi]at hc
    simp only[Option.some.injEq]at hc;subst hc
    exact⟨_,he,rfl⟩
   ·rw[if_neg hic]at hc;exact⟨e,hc,rfl⟩
  obtain⟨e0,h1,h2⟩:=key a e ha
  obtain⟨e1,h3,h4⟩:=key b e' hb
  exact h.2.2 a b e0 e1 h1 h3 (by rw[h2,h4,hh])
theorem MapAt.push {es:List (D×V×Nat)} {clock:Nat} {mes:Array MapEntry} (h:MapAt φ w S es clock mes) {k:D} {x:V} {ku xu:Value} (hk:RD w S k ku) (hx:Rel φ w S x xu):
 MapAt φ w S (es++[(k,x,clock)]) (clock+1) (mes.push {key:=ku,val:=xu,born:=clock}):=by
 have key:∀(c:Nat) (e:D×V×Nat),(es++[(k,x,clock)])[c]? =some e→(es[c]? =some e∧c<es.length)∨(c=es.length∧e=(k,x,clock)):=by
  intro c e hc
  by_cases hcl:c<es.length
  ·rw[List.getElem?_append_left hcl]at hc;exact .inl ⟨hc,hcl⟩
  ·rw[List.getElem?_append_right (by omega)]at hc
   cases hd:c-es.length with
   |zero=>rw[hd]at hc;simp at hc;exact .inr ⟨by omega,hc.symm⟩
   |succ n=>rw[hd]at hc;simp at hc
 refine⟨by simp[h.1],fun j e me hj hm=> ?_,fun a b e e' ha hb hh=> ?_⟩
 ·rw[Array.getElem?_push]at hm
  rcases key j e hj with⟨h1,h2⟩|⟨rfl,rfl⟩
  ·rw[if_neg (by have:=h.1;omega)]at hm
   obtain⟨a,b,c,d⟩:=h.2.1 j e me h1 hm
   exact⟨a,b,c,by omega⟩
  ·rw[if_pos h.1.symm]at hm
   simp only[Option.some.injEq]at hm;subst hm
   exact⟨hk,hx,rfl,Nat.lt_succ_self _⟩
 ·have lt:∀(c:Nat) (e:D×V×Nat),es[c]? =some e→e.2.2<clock:=fun c e hc=>by
   have hcl:=zav hc
   have hm:c<mes.size:=by have:=h.1;omega
   exact(h.2.1 c e mes[c] hc (Array.getElem?_eq_getElem hm)).2.2.2
  rcases key a e ha with⟨h1,_⟩|⟨rfl,rfl⟩<;>rcases key b e' hb with⟨h2,_⟩|⟨rfl,rfl⟩
  ·exact h.2.2 a b e e' h1 h2 hh
  ·have:=lt _ _ h1;simp at hh;omega
  ·have:=lt _ _ h2;simp at hh;omega
  ·rfl
theorem zBO {b : Nat} {x : Blk} (h : H.get b = some x) : H.put b x = H := by
  unfold Heap.put Heap.set
  cases H with
  | mk g n =>
    simp only [Heap.mk.injEq, and_true]
    funext c
    cases hc : (c == b) with
    | false => rfl
    | true => have : c = b := by simpa using hc
              subst this; exact h.symm
theorem zrX (s:Sim P sh κ φ H w) {b:Nat} {es:List (D×V×Nat)} {clock:Nat} (hb:H.get b=some (.map es clock)) {v:Value} (hr:Rel φ w (stab κ φ H) (.map b) v):
 ∃m sz mes,v= .map (some m)∧φ b= .at m sz∧w.heap[m]? =some (.map mes clock)∧MapAt φ w (stab κ φ H) es clock mes:=by
 obtain⟨m,sz,hφ,mes,h1,h2,h3,h4⟩:=s.get hb
 cases hr with
 |map hp=>
  rename_i r
  obtain rfl:r=m:=by
   rcases hp with hp|⟨sz',hp⟩
   ·rw[hp]at hφ;cases hφ
   ·rw[hφ]at hp;cases hp;rfl
  exact⟨r,sz,mes,rfl,hφ,h1,h2,h3,h4⟩
theorem zxm (s:Sim P sh κ φ H w) {t kt e:TypeId} (ht:P.underlying t=some (.map kt e)) {ks:List CK} (hk:zAK P kt=some ks) {z:D} (hz:zfp P e=some z) {m:V} {k:D} {v u:Value}
 (hm:Rel φ w (stab κ φ H) m v) (hu:Rel φ w (stab κ φ H) (.d k) u) {x:V} {is:Bool} (h:zcP ks z H m k=some (x,is)) (ok:Bool):
 ∃mv,(Instr.lookup t v u ok).run P w= .ok mv w∧Rel φ w (stab κ φ H) (if ok then V.ofTuple [x,.d (.bool is)]else x) mv:=by
 obtain⟨zi,zv,hi,hiz,hzc⟩:=zcv hz
 have hrz:=(zbX (w:=w) (S:=stab κ φ H) hzc)
 have fin:∀xv,Rel φ w (stab κ φ H) x xv→Rel φ w (stab κ φ H) (if ok then V.ofTuple [x,.d (.bool is)]else x) (if ok then .tuple #[xv,.bool is]else xv):=by
  intro xv hx
  cases ok with
  |false=>exact hx
  |true=>
   refine zeZ rfl fun j y yv hy hv=> ?_
   match j with
   |0=>simp at hy hv;subst hy hv;exact hx
   |1=>simp at hy hv;subst hy hv;exact .d (.bool _)
   |n+2=>simp at hy
 unfold zcP at h
 split at h
 ·cases hg:zhV ks k []with
  |none=>rw[hg]at h;simp at h
  |some r=>
   rw[hg]at h
   simp only[Option.map_some,Option.some.injEq,Prod.mk.injEq]at h
   obtain⟨rfl,rfl⟩:=h
   have hmd:=hm.d_inv
   cases hmd
   obtain⟨f1,f2,mr,f3,f4⟩:=find_ok hk hu.d_inv (φ:=φ) (es:=[]) (mes:=[]) .nil hg
   have hmr:mr=none:=by
    rcases f4 with⟨_,h9⟩|⟨i,_,_,_,_,_,h9,_⟩
    ·exact h9
    ·simp at h9
   subst hmr
   refine⟨_,?_,fin zv (.d hrz)⟩
   simp only[Instr.lookup,Sem.run_bind,zan ht,Result.andThen_ok,Sem.run_pure,f1,f3,zbT hi hiz]
 ·rename_i b
  cases hb:H.get b with
  |none=>rw[hb]at h;simp at h
  |some yb=>
   rw[hb]at h
   cases yb with
   |map es clock=>
    simp only at h
    cases hg:zhV ks k es with
    |none=>rw[hg]at h;simp at h
    |some r=>
     rw[hg]at h
     simp only[Option.map_some,Option.some.injEq]at h
     obtain⟨r',sz,mes,rfl,hφ,h5,h6⟩:=zrX s hb hm
     obtain⟨f1,f2,mr,f3,f4⟩:=find_ok hk hu.d_inv h6.ents hg
     rcases f4 with⟨rfl,rfl⟩|⟨i,k',x',t',me,rfl,h7,h8,rfl,h9,_⟩
     ·simp only[Prod.mk.injEq]at h
      obtain⟨rfl,rfl⟩:=h
      refine⟨_,?_,fin zv (.d hrz)⟩
      simp only[Instr.lookup,Sem.run_bind,zan ht,Result.andThen_ok,Sem.run_pure,zbU h5 (by simp),f1,f3,zbT hi hiz]
     ·simp only[Prod.mk.injEq]at h
      obtain⟨rfl,rfl⟩:=h
      refine⟨_,?_,fin me.val (h6.2.1 i _ me h7 (by simpa using h8)).2.1⟩
      simp only[Instr.lookup,Sem.run_bind,zan ht,Result.andThen_ok,Sem.run_pure,zbU h5 (by simp),f1,f3]
   |_=>simp at h
 ·cases h
theorem run_keyThatStays {old new:Value} (h:Instr.sameBits (9999+1) old new=true):(Instr.keyThatStays old new).run P w= .ok new w:=by
 unfold Instr.keyThatStays
 rw[if_pos h];rfl
theorem zxn (s:Sim P sh κ φ H w) {t kt e:TypeId} (ht:P.underlying t=some (.map kt e)) {ks:List CK} (hk:zAK P kt=some ks) {b:Nat} {k:D} {x:V} {v u xv:Value}
 (hm:Rel φ w (stab κ φ H) (.map b) v) (hu:Rel φ w (stab κ φ H) (.d k) u) (hx:Rel φ w (stab κ φ H) x xv) {y:V}
 (h:(match H.get b with
  |some (.map es clock)=>(zhV ks k es).bind fun
   |some _=>(zrK ks k x es).map fun es=>(V.undef,H.put b (.map es clock))
   |none=>some (.undef,H.put b (.map (es++[(k,x,clock)]) (clock+1)))
  |_=>none)=some (y,H')):∃w',(Instr.mapUpdate t v u xv).run P w= .ok () w'∧Sim P sh κ φ H' w'∧Ext κ φ H w φ H' w'∧y= .undef:=by
 cases hb:H.get b with
 |none=>rw[hb]at h;simp at h
 |some yb=>
  rw[hb]at h
  cases yb with
  |map es clock=>
   simp only at h
   cases hg:zhV ks k es with
   |none=>rw[hg]at h;simp at h
   |some r=>
    rw[hg]at h
    simp only[Option.bind_some]at h
    obtain⟨r',sz,mes,rfl,hφ,h5,h6⟩:=zrX s hb hm
    obtain⟨f1,f2,mr,f3,f4⟩:=find_ok hk hu.d_inv h6.ents hg
    rcases f4 with⟨rfl,rfl⟩|⟨i,k',x',t',me,rfl,h7,h8,rfl,h9,h10⟩
    ·simp only[Option.some.injEq,Prod.mk.injEq]at h
     obtain⟨rfl,rfl⟩:=h
     obtain⟨w1,e1,s1,x1⟩:=zic (P:=P) s hφ (x':= .map (es++[(k,x,clock)]) (clock+1)) (o':= .map (mes.push {key:=u,val:=xv,born:=clock}) (clock+1)) hb (by simp) h5 (by simp) (by simp)
      (fun w' ex ho=>⟨_,ho,(h6.ext ex).push (ex.rd hu.d_inv) (ex.rv hx)⟩)
     refine⟨w1,?_,s1,x1,rfl⟩
     simp only[Instr.mapUpdate,Sem.run_bind,zan ht,Result.andThen_ok,zbU h5 (by simp),f1,f3,e1]
    ·simp only[h10,Option.map_some,Option.some.injEq,Prod.mk.injEq]at h
     obtain⟨rfl,rfl⟩:=h
     have h8':mes[i]? =some me:=by simpa using h8
     have hkk:=zlD h9;subst hkk
     have hst:=run_keyThatStays (P:=P) (w:=w) (zrW f2 (h6.2.1 i _ me h7 h8').1 hu.d_inv 9999)
     obtain⟨w1,e1,s1,x1⟩:=zic (P:=P) s hφ (x':= .map (es.set i (k,x,t')) clock) (o':= .map (mes.modify i fun e=>{e with key:=u,val:=xv}) clock) hb (by simp) h5 (by simp) (by simp)
      (fun w' ex ho=>⟨_,ho,(h6.ext ex).set h7 (fun me _=>⟨ex.rd hu.d_inv,ex.rv hx,rfl⟩)⟩)
     refine⟨w1,?_,s1,x1,rfl⟩
     simp only[Nat.zero_add]at f3
     simp only[Instr.mapUpdate,Sem.run_bind,zan ht,Result.andThen_ok,zbU h5 (by simp),f1,f3,h8',Option.map_some,Option.getD_some,hst,e1]
  |_=>simp at h
theorem zxo (s:Sim P sh κ φ H w) {t kt e:TypeId} (ht:P.underlying t=some (.map kt e)) {ks:List CK} (hk:zAK P kt=some ks) {z:D} (hz:zfp P e=some z) {b:Nat} {k:D} {v u:Value}
 (hm:Rel φ w (stab κ φ H) (.map b) v) (hu:Rel φ w (stab κ φ H) (.d k) u) {y:V}
 (h:(match H.get b with
  |some (.map es clock)=>(zhV ks k es).map fun
   |some (v,t)=>(V.ofTuple [v,.d (.int .i64 t)],H)
   |none=>(V.ofTuple [.d z,.d (.int .i64 clock)],H.put b (.map (es++[(k,.d z,clock)]) (clock+1)))
  |_=>none)=some (y,H')):zxh P sh κ φ H w fr ((Instr.mapEntry t v u).run P w) y H':=by
 obtain⟨zi,zv,hi,hiz,hzc⟩:=zcv hz
 have fin:∀{φ w S} {a b:V} {x y:Value},Rel φ w S a x→Rel φ w S b y→Rel φ w S (V.ofTuple [a,b]) (.tuple #[x,y]):=by
  intro φ w S a b x y h1 h2
  refine zeZ rfl fun j z zv hy hv=> ?_
  match j with
  |0=>simp at hy hv;subst hy hv;exact h1
  |1=>simp at hy hv;subst hy hv;exact h2
  |n+2=>simp at hy
 cases hb:H.get b with
 |none=>rw[hb]at h;simp at h
 |some yb=>
  rw[hb]at h
  cases yb with
  |map es clock=>
   simp only at h
   cases hg:zhV ks k es with
   |none=>rw[hg]at h;simp at h
   |some r=>
    rw[hg]at h
    simp only[Option.map_some,Option.some.injEq]at h
    obtain⟨r',sz,mes,rfl,hφ,h5,h6⟩:=zrX s hb hm
    obtain⟨f1,f2,mr,f3,f4⟩:=find_ok hk hu.d_inv h6.ents hg
    rcases f4 with⟨rfl,rfl⟩|⟨i,k',x',t',me,rfl,h7,h8,rfl,h9,h10⟩
    ·simp only[Prod.mk.injEq]at h
     obtain⟨rfl,rfl⟩:=h
     obtain⟨w1,e1,s1,x1⟩:=zic (P:=P) s hφ (x':= .map (es++[(k,.d z,clock)]) (clock+1)) (o':= .map (mes.push {key:=u,val:=zv,born:=clock}) (clock+1)) hb (by simp) h5 (by simp) (by simp)
      (fun w' ex ho=>⟨_,ho,(h6.ext ex).push (ex.rd hu.d_inv) (.d (zbX hzc))⟩)
     refine⟨.tuple #[zv,goInt clock],w1,φ,?_,s1,x1,fin (.d (zbX hzc)) (.d (.int _ _)),fun _ h _=>h⟩
     simp only[Instr.mapEntry,Sem.run_bind,zan ht,Result.andThen_ok,zbU h5 (by simp),f1,f3,zbT hi hiz,e1,Sem.run_pure]
    ·simp only[Prod.mk.injEq]at h
     obtain⟨rfl,rfl⟩:=h
     have h8':mes[i]? =some me:=by simpa using h8
     have hkk:=zlD h9;subst hkk
     obtain⟨g1,g2,g3,g4⟩:=h6.2.1 i _ me h7 h8'
     have hst:=run_keyThatStays (P:=P) (w:=w) (zrW f2 g1 hu.d_inv 9999)
     have hset:es.set i (k,x',t')=es:=by
      have hi:=zav h7
      rw[List.getElem?_eq_getElem hi]at h7
      simp only[Option.some.injEq]at h7
      rw[←h7];simp
     obtain⟨w1,e1,s1,x1⟩:=zic (P:=P) s hφ (x':= .map es clock) (o':= .map (mes.modify i fun e=>{e with key:=u}) clock) hb (by simp) h5 (by simp) (by simp)
      (fun w' ex ho=>⟨_,ho,by
       have:=(h6.ext ex).set (f:=fun e=>{e with key:=u}) h7 (k:=k) (x:=x') (fun me' hm'=>by rw[h8']at hm';cases hm';exact⟨ex.rd hu.d_inv,ex.rv g2,rfl⟩)
       rw[hset]at this;exact this⟩)
     rw[zBO hb]at s1 x1
     refine⟨.tuple #[me.val,goInt t'],w1,φ,?_,s1,x1,fin (x1.rv g2) (.d (.int _ _)),fun _ h _=>h⟩
     simp only[Nat.zero_add]at f3
     have g3':me.born=t':=g3
     simp only[Instr.mapEntry,Sem.run_bind,zan ht,Result.andThen_ok,zbU h5 (by simp),f1,f3,h8',Option.map_some,Option.getD_some,hst,e1,Sem.run_pure,g3']
  |_=>simp at h
theorem zxp (s:Sim P sh κ φ H w) {t:TypeId} {b:Nat} {c x:V} {v u xv:Value} {n:Nat}
 (hm:Rel φ w (stab κ φ H) (.map b) v) (hu:Rel φ w (stab κ φ H) c u) (hn:asNat c=some n) (hx:Rel φ w (stab κ φ H) x xv) {y:V}
 (h:(match H.get b with
  |some (.map es clock)=>if es.any (fun e=>e.2.2==n)then
   some (V.undef,H.put b (.map (es.map fun e=>if e.2.2==n then(e.1,x,n)else e) clock))else none
  |_=>none)=some (y,H')):∃w',(Instr.entryStore t v u xv).run P w= .ok () w'∧Sim P sh κ φ H' w'∧Ext κ φ H w φ H' w'∧y= .undef:=by
 cases hb:H.get b with
 |none=>rw[hb]at h;simp at h
 |some yb=>
  rw[hb]at h
  cases yb with
  |map es clock=>
   simp only at h
   split at h
   case isFalse=>cases h
   rename_i hany
   simp only[Option.some.injEq,Prod.mk.injEq]at h
   obtain⟨rfl,rfl⟩:=h
   obtain⟨r',sz,mes,rfl,hφ,h5,h6⟩:=zrX s hb hm
   obtain⟨kk,rfl,hk2⟩:=zdb (P:=P) (w:=w) hu hn
   obtain⟨i,k0,x0,h7⟩:∃(i:Nat) (k0:D) (x0:V),es[i]? =some (k0,x0,n):=by
    rw[List.any_eq_true]at hany
    obtain⟨e,he,hq⟩:=hany
    obtain⟨i,hi⟩:=List.mem_iff_getElem?.1 he
    have:e.2.2=n:=by simpa using hq
    exact⟨i,e.1,e.2.1,by rw[hi,←this]⟩
   have hi:=zav h7
   have him:i<mes.size:=by have:=h6.1;omega
   have hset:(es.map fun e=>if e.2.2==n then(e.1,x,n)else e)=es.set i (k0,x,n):=by
    apply List.ext_getElem?
    intro j
    rw[List.getElem?_map,List.getElem?_set]
    by_cases hij:i=j
    ·subst hij
     rw[if_pos rfl,if_pos hi,h7];simp
    ·rw[if_neg hij]
     cases hj:es[j]? with
     |none=>rfl
     |some e=>
      have:e.2.2≠n:=fun hh=>hij (h6.2.2 i j _ e h7 hj hh.symm)
      simp[this]
   have hfind:mes.findIdx? (fun e=>(e.born:Int)==(n:Int))=some i:=by
    rw[Array.findIdx?_eq_some_iff_getElem]
    refine⟨him,?_,fun j hj=> ?_⟩
    ·have:=(h6.2.1 i _ mes[i] h7 (Array.getElem?_eq_getElem him)).2.2.1
     simp[this]
    ·have hjl:j<es.length:=by omega
     have hjm:j<mes.size:=by omega
     obtain⟨_,_,h9,_⟩:=h6.2.1 j es[j] mes[j] (List.getElem?_eq_getElem hjl) (Array.getElem?_eq_getElem hjm)
     have hne:es[j].2.2≠n:=fun hh=>by
      have:=h6.2.2 i j _ es[j] h7 (List.getElem?_eq_getElem hjl) hh.symm
      omega
     simp only[h9]
     simp;omega
   rw[hset]
   obtain⟨w1,e1,s1,x1⟩:=zic (P:=P) s hφ (x':= .map (es.set i (k0,x,n)) clock) (o':= .map (mes.modify i fun e=>{e with val:=xv}) clock) hb (by simp) h5 (by simp) (by simp)
    (fun w' ex ho=>⟨_,ho,(h6.ext ex).set h7 (fun me hme=>⟨ex.rd (h6.2.1 i _ me h7 hme).1,ex.rv hx,rfl⟩)⟩)
   refine⟨w1,?_,s1,x1,rfl⟩
   simp only[Instr.entryStore,Sem.run_bind,Result.andThen_ok,zbU h5 (by simp),asInt,hk2,Sem.run_pure,hfind,e1]
  |_=>simp at h
end Go.AI
namespace Go.AI
variable {P:Program} {sh:FuncId→Bool} {T:Tabs} {κ:Ctx T} {φ φ':Place} {H H':Heap} {w w' w'':World} {S S':Nat→Nat→Prop} {fr:Nat}
def zbA (K:Opd→Prop) (U:Nat→Bool) (nt:Nat) (wr:List (Nat×Nat)) (env r:Regs) (ρ:Operand→Value) (φ:Place) (w:World) (S:Nat→Nat→Prop):Prop:=
 ∀x y,zbz U nt wr x=some y→K y→Rel φ w S (opd env r y) (ρ x)
section
variable {K:Opd→Prop} {U:Nat→Bool} {nt:Nat} {wr:List (Nat×Nat)} {env r:Regs} {ρ:Operand→Value}
theorem zas {α β:Type} {x:Option α} {f:α→Option β} {y:β} (h:x.bind f=some y):∃a,x=some a∧f a=some y:=by
 cases x with
 |none=>cases h
 |some a=>exact⟨a,rfl,h⟩
theorem zaw {α β:Type} {x:Option α} {f:α→β} {y:β} (h:x.map f=some y):∃a,x=some a∧f a=y:=by
 cases x with
 |none=>cases h
 |some a=>exact⟨a,rfl,by simpa using h⟩
theorem zbA.all (h:zbA K U nt wr env r ρ φ w S):∀{l:List Operand} {m:List Opd},zeW U nt wr l=some m→(∀y∈m,K y)→Args φ w S (m.map (opd env r)) (l.map ρ)
 |[],m,hm,_=>by simp only[zeW,Option.some.injEq]at hm;subst hm;exact .nil
 |x::l,m,hm,hV=>by
  simp only[zeW]at hm
  obtain⟨y,h1,hm⟩:=zas hm
  obtain⟨m',h2,rfl⟩:=zaw hm
  exact .cons (h x y h1 (hV _ (by simp))) (h.all h2 (fun z hz=>hV z (by simp[hz])))
theorem zbA.parts (h:zbA K U nt wr env r ρ φ w S) {place:Nat→Option (Nat×Nat)}:∀{l:List (Nat×Operand)} {m:List (Nat×Nat×Opd)},zft U nt wr place l=some m→(∀y∈m,K y.2.2)→Parts φ w S place (m.map fun(o,n,x)=>(o,n,opd env r x)) (l.map fun(i,x)=>(i,ρ x))
 |[],m,hm,_=>by simp only[zft,Option.some.injEq]at hm;subst hm;exact .nil
 |(i,x)::l,m,hm,hV=>by
  simp only[zft]at hm
  obtain⟨⟨o,n⟩,h0,hm⟩:=zas hm
  obtain⟨y,h1,hm⟩:=zas hm
  obtain⟨m',h2,rfl⟩:=zaw hm
  exact .cons h0 (h x y h1 (hV (o,n,y) (by simp))) (h.parts h2 (fun z hz=>hV z (by simp[hz])))
theorem zbA.elems (h:zbA K U nt wr env r ρ φ w S):∀{l:List (Nat×Operand)} {m:List (Nat×Opd)},zfu U nt wr l=some m→(∀y∈m,K y.2)→PartsE φ w S (m.map fun(i,x)=>(i,opd env r x)) (l.map fun(i,x)=>(i,ρ x))
 |[],m,hm,_=>by simp only[zfu,Option.some.injEq]at hm;subst hm;exact .nil
 |(i,x)::l,m,hm,hV=>by
  simp only[zfu]at hm
  obtain⟨y,h1,hm⟩:=zas hm
  obtain⟨m',h2,rfl⟩:=zaw hm
  exact .cons (h x y h1 (hV (i,y) (by simp))) (h.elems h2 (fun z hz=>hV z (by simp[hz])))
theorem zbA.opt (h:zbA K U nt wr env r ρ φ w S) {x:Option Operand} {y:Option Opd} (hp:zgL U nt wr x=some y) (hV:∀b,y=some b→K b):
 (y=none∧x=none)∨∃a b,y=some b∧x=some a∧Rel φ w S (opd env r b) (ρ a):=by
 cases x with
 |none=>simp only[zgL,Option.some.injEq]at hp;subst hp;exact .inl ⟨rfl,rfl⟩
 |some x=>simp only[zgL]at hp;obtain⟨b,h1,rfl⟩:=zaw hp;exact .inr ⟨x,b,rfl,rfl,h x b h1 (hV b rfl)⟩
theorem zbA.bound (h:zbA K U nt wr env r ρ φ w S) {x:Option Operand} {y:Option Opd} (hp:zgL U nt wr x=some y) (hV:∀b,y=some b→K b) {n:Option Nat} (hn:zby (y.map (opd env r))=some n):
 (n=none∧x.map ρ=none)∨∃k i u,n=some k∧x.map ρ=some u∧u= .int i k:=by
 refine zBD (φ:=φ) (w:=w) (S:=S) hn (fun z hz=> ?_) (fun hz=> ?_)
 ·rcases h.opt hp hV with⟨rfl,rfl⟩|⟨a,b,rfl,rfl,hr⟩
  ·cases hz
  ·cases hz;exact⟨ρ a,rfl,hr⟩
 ·rcases h.opt hp hV with⟨rfl,rfl⟩|⟨a,b,rfl,rfl,hr⟩
  ·rfl
  ·cases hz
theorem zbl (s:Sim P sh κ φ H w) {m:Sem Value} {v:V} (h:∃mv,m.run P w= .ok mv w∧Rel φ w (stab κ φ H) v mv):zbE P sh κ φ H w fr ((do pure (.value (←m)):Sem Next).run P w) v H:=by
 obtain⟨mv,e,r⟩:=h
 exact .keep s (by simp only[Sem.run_bind,e,Result.andThen_ok,Sem.run_pure]) r
theorem zfc {m:Sem Value} {v:V} (h:zxh P sh κ φ H w fr (m.run P w) v H'):zbE P sh κ φ H w fr ((do pure (.value (←m)):Sem Next).run P w) v H':=by
 obtain⟨mv,w',φ',e,a,b,c,d⟩:=h
 exact⟨mv,w',φ',.inl (by simp only[Sem.run_bind,e,Result.andThen_ok,Sem.run_pure]),a,b,c,d⟩
theorem zmB {m:Sem Unit} (h:∃w',m.run P w= .ok () w'∧Sim P sh κ φ H' w'∧Ext κ φ H w φ H' w'):zbE P sh κ φ H w fr ((do m;pure .skip:Sem Next).run P w) .undef H':=by
 obtain⟨w',e,a,b⟩:=h
 exact⟨undef,w',φ,.inr ⟨by simp only[Sem.run_bind,e,Result.andThen_ok,Sem.run_pure],rfl⟩,a,b,.undef _,fun _ h _=>h⟩
theorem zFX {first cap:List V} {vs us:Array Value} (ha:Args φ w S first vs.toList) (hb:Args φ w S cap us.toList) {f:FuncId}:Rel φ w S (.clo f first cap) (.func (.func f) vs us):=by
 have key:∀{l:List V} {m:List Value},Args φ w S l m→m.length=l.length∧∀(j:Nat) x v,l[j]? =some x→m[j]? =some v→Rel φ w S x v:=by
  intro l m h
  induction h with
  |nil=>exact⟨rfl,fun j x v h=>by simp at h⟩
  |cons hr _ ih=>
   refine⟨by simp[ih.1],fun j x v hx hv=> ?_⟩
   cases j with
   |zero=>simp at hx hv;subst hx hv;exact hr
   |succ j=>exact ih.2 j x v hx hv
 obtain⟨a1,a2⟩:=key ha
 obtain⟨b1,b2⟩:=key hb
 exact .clo (by simpa using a1) (fun j x v hx hv=>a2 j x v hx (by simpa using hv)) (by simpa using b1) (fun j x v hx hv=>b2 j x v hx (by simpa using hv))
theorem zji {st:TypeId} {f:Nat} {fd:Field} (h:zml P st f=some fd):∃fs,P.underlying st=some (.struct fs)∧fs[f]? =some fd:=by
 unfold zml at h
 split at h
 ·rename_i fs hu;exact⟨fs,hu,h⟩
 ·cases h
theorem zFc {t:TypeId} (h:zAN P t=true):P.underlying t=some .string:=by
 unfold zAN at h
 split at h
 ·assumption
 ·cases h
theorem zfR {t:TypeId} {ks:List CK} {e:TypeId} (h:mapOf P t=some (ks,e)):∃kt,P.underlying t=some (.map kt e)∧zAK P kt=some ks:=by
 unfold mapOf at h
 split at h
 ·rename_i kt e' hu
  obtain⟨k,h1,h2⟩:=zaw h
  simp only[Prod.mk.injEq]at h2
  obtain⟨rfl,rfl⟩:=h2
  exact⟨kt,hu,h1⟩
 ·cases h
theorem zFY (s:Sim P sh κ φ H w) (hfr:φ fr= .unborn) (hlt:fr<H.next) (ho:zbA K U nt wr env r ρ φ w (stab κ φ H)) (hcon:∀v,ρ (.const v)=v) {o:Oper} {so:SOp} {app:App} {v:V}:∀{x},o.op= .move x→prepOp P U nt wr o=some so→(∀y∈so.opds,K y)→
 zad app sh fr env r H so=some (v,H')→zbE P sh κ φ H w fr ((execOp ρ o).run P w) v H':=by
 intro x hop hp hV h
 unfold prepOp at hp;rw[hop]at hp;dsimp only at hp
 unfold execOp;rw[hop];dsimp only
 obtain⟨y,h1,rfl⟩:=zaw hp
 simp only[zad,Option.some.injEq,Prod.mk.injEq]at h;obtain⟨rfl,rfl⟩:=h
 exact .keep s (by simp only[Sem.run_pure]) (ho x y h1 (hV _ (by simp[SOp.opds])))
theorem zxq (s:Sim P sh κ φ H w) (hfr:φ fr= .unborn) (hlt:fr<H.next) (ho:zbA K U nt wr env r ρ φ w (stab κ φ H)) (hcon:∀v,ρ (.const v)=v) {o:Oper} {so:SOp} {app:App} {v:V}:∀{x},o.op= .assign x→prepOp P U nt wr o=some so→(∀y∈so.opds,K y)→
 zad app sh fr env r H so=some (v,H')→zbE P sh κ φ H w fr ((execOp ρ o).run P w) v H':=by
 intro x hop hp hV h
 unfold prepOp at hp;rw[hop]at hp;dsimp only at hp
 unfold execOp;rw[hop];dsimp only
 obtain⟨y,h1,rfl⟩:=zaw hp
 simp only[zad,Option.some.injEq,Prod.mk.injEq]at h;obtain⟨rfl,rfl⟩:=h
 exact .keep s (by simp only[Sem.run_pure]) (ho x y h1 (hV _ (by simp[SOp.opds])))
theorem zFZ (s:Sim P sh κ φ H w) (hfr:φ fr= .unborn) (hlt:fr<H.next) (ho:zbA K U nt wr env r ρ φ w (stab κ φ H)) (hcon:∀v,ρ (.const v)=v) {o:Oper} {so:SOp} {app:App} {v:V}:∀{c a b},o.op= .pick c a b→prepOp P U nt wr o=some so→(∀y∈so.opds,K y)→
 zad app sh fr env r H so=some (v,H')→zbE P sh κ φ H w fr ((execOp ρ o).run P w) v H':=by
 intro c a b hop hp hV h
 unfold prepOp at hp;rw[hop]at hp;dsimp only at hp
 unfold execOp;rw[hop];dsimp only
 obtain⟨c',h1,hp⟩:=zas hp
 obtain⟨a',h2,hp⟩:=zas hp
 obtain⟨b',h3,rfl⟩:=zaw hp
 simp only[zad]at h
 split at h
 ·rename_i t ht
  simp only[Option.some.injEq,Prod.mk.injEq]at h;obtain⟨rfl,rfl⟩:=h
  obtain⟨e,rr⟩:=zFQ (P:=P) (ho c c' h1 (hV _ (by simp[SOp.opds]))) (ho a a' h2 (hV _ (by simp[SOp.opds]))) (ho b b' h3 (hV _ (by simp[SOp.opds]))) ht
  exact .keep s e rr
 ·cases h
theorem zBP (s:Sim P sh κ φ H w) (hfr:φ fr= .unborn) (hlt:fr<H.next) (ho:zbA K U nt wr env r ρ φ w (stab κ φ H)) (hcon:∀v,ρ (.const v)=v) {o:Oper} {so:SOp} {app:App} {v:V}:∀{t},o.op= .alloc t→prepOp P U nt wr o=some so→(∀y∈so.opds,K y)→
 zad app sh fr env r H so=some (v,H')→zbE P sh κ φ H w fr ((execOp ρ o).run P w) v H':=by
 intro t hop hp hV h
 unfold prepOp at hp;rw[hop]at hp;dsimp only at hp
 unfold execOp;rw[hop];dsimp only
 obtain⟨z,h1,rfl⟩:=zaw hp
 simp only[zad,Option.some.injEq,Prod.mk.injEq]at h;obtain⟨rfl,rfl⟩:=h
 exact zBx s hfr hlt h1
theorem zJK (s:Sim P sh κ φ H w) (hfr:φ fr= .unborn) (hlt:fr<H.next) (ho:zbA K U nt wr env r ρ φ w (stab κ φ H)) (hcon:∀v,ρ (.const v)=v) {o:Oper} {so:SOp} {app:App} {v:V}:∀{t x},o.op= .box t x→prepOp P U nt wr o=some so→(∀y∈so.opds,K y)→
 zad app sh fr env r H so=some (v,H')→zbE P sh κ φ H w fr ((execOp ρ o).run P w) v H':=by
 intro t x hop hp hV h
 unfold prepOp at hp;rw[hop]at hp;dsimp only at hp
 unfold execOp;rw[hop];dsimp only
 obtain⟨y,h1,rfl⟩:=zaw hp
 simp only[zad]at h
 obtain⟨b,h2,h3⟩:=zaw h
 simp only[Prod.mk.injEq]at h3;obtain⟨rfl,rfl⟩:=h3
 exact zJB s hfr hlt (ho x y h1 (hV _ (by simp[SOp.opds]))) h2
theorem zBQ (s:Sim P sh κ φ H w) (hfr:φ fr= .unborn) (hlt:fr<H.next) (ho:zbA K U nt wr env r ρ φ w (stab κ φ H)) (hcon:∀v,ρ (.const v)=v) {o:Oper} {so:SOp} {app:App} {v:V}:∀{t ps},o.op= .build t ps→prepOp P U nt wr o=some so→(∀y∈so.opds,K y)→
 zad app sh fr env r H so=some (v,H')→zbE P sh κ φ H w fr ((execOp ρ o).run P w) v H':=by
 intro t ps hop hp hV h
 unfold prepOp at hp;rw[hop]at hp;dsimp only at hp
 unfold execOp;rw[hop];dsimp only
 unfold znM at hp
 split at hp
 ·rename_i fs z hu hz
  split at hp
  ·cases hp
  rename_i hi
  obtain⟨m,h1,rfl⟩:=zaw hp
  simp only[zad]at h
  obtain⟨cs,h2,h3⟩:=zaw h
  simp only[Prod.mk.injEq]at h3;obtain⟨rfl,rfl⟩:=h3
  refine zbl s (zBy hu (fun f hf=> ?_) hz (m:=ps.map fun(i,x)=>(i,ρ x)) (by rw[Array.toList_map];exact ho.parts h1 (fun y hy=>hV _ (by simp only[SOp.opds,List.mem_map];exact⟨y,hy,rfl⟩))) h2)
  simp only[Bool.not_eq_true,Bool.not_eq_false']at hi
  rw[←Array.all_toList,List.all_eq_true]at hi
  exact hi f hf
 ·cases hp
theorem zmC (s:Sim P sh κ φ H w) (hfr:φ fr= .unborn) (hlt:fr<H.next) (ho:zbA K U nt wr env r ρ φ w (stab κ φ H)) (hcon:∀v,ρ (.const v)=v) {o:Oper} {so:SOp} {app:App} {v:V}:∀{t len ps},o.op= .buildSlice t len ps→prepOp P U nt wr o=some so→(∀y∈so.opds,K y)→
 zad app sh fr env r H so=some (v,H')→zbE P sh κ φ H w fr ((execOp ρ o).run P w) v H':=by
 intro t len ps hop hp hV h
 unfold prepOp at hp;rw[hop]at hp;dsimp only at hp
 unfold execOp;rw[hop];dsimp only
 unfold zlx at hp
 split at hp
 ·rename_i e hu
  obtain⟨z,hz,hp⟩:=zas hp
  split at hp
  case isFalse=>cases hp
  rename_i hc
  simp only[Bool.and_eq_true,decide_eq_true_eq,beq_iff_eq,bne_iff_ne,ne_eq]at hc
  obtain⟨⟨hc1,hc2⟩,hc3⟩:=hc
  obtain⟨m,h1,rfl⟩:=zaw hp
  simp only[zad]at h
  obtain⟨l,h2,h3⟩:=zaw h
  simp only[Prod.mk.injEq]at h3;obtain⟨rfl,rfl⟩:=h3
  have hpe:PartsE φ w (stab κ φ H) (m.map fun(i,x)=>(i,opd env r x)) (ps.map fun(i,x)=>(i,ρ x)).toList:=by rw[Array.toList_map];exact ho.elems h1 (fun y hy=>hV _ (by simp only[SOp.opds,List.mem_map];exact⟨y,hy,rfl⟩))
  have hh:=zxf s hfr hlt hu hz hc3 hc2 hc1 hpe h2
  exact hh
 ·cases hp
theorem zGa (s:Sim P sh κ φ H w) (hfr:φ fr= .unborn) (hlt:fr<H.next) (ho:zbA K U nt wr env r ρ φ w (stab κ φ H)) (hcon:∀v,ρ (.const v)=v) {o:Oper} {so:SOp} {app:App} {v:V}:∀{t a},o.op= .load t a→prepOp P U nt wr o=some so→(∀y∈so.opds,K y)→
 zad app sh fr env r H so=some (v,H')→zbE P sh κ φ H w fr ((execOp ρ o).run P w) v H':=by
 intro t a hop hp hV h
 unfold prepOp at hp;rw[hop]at hp;dsimp only at hp
 unfold execOp;rw[hop];dsimp only
 obtain⟨n,h0,hp⟩:=zas hp
 obtain⟨y,h1,rfl⟩:=zaw hp
 simp only[zad]at h
 obtain⟨v',h2,h3⟩:=zaw h
 simp only[Prod.mk.injEq]at h3;obtain⟨rfl,rfl⟩:=h3
 obtain⟨ad,mv,e1,e2,e3⟩:=zwV s h2 (ho a y h1 (hV _ (by simp[SOp.opds]))) h0
 refine zbl s ⟨mv,?_,e3⟩
 simp only[Instr.loadAt,e1,Instr.sureAddr,Sem.run_bind,Sem.run_pure,Result.andThen_ok,e2]
theorem zBR (s:Sim P sh κ φ H w) (hfr:φ fr= .unborn) (hlt:fr<H.next) (ho:zbA K U nt wr env r ρ φ w (stab κ φ H)) (hcon:∀v,ρ (.const v)=v) {o:Oper} {so:SOp} {app:App} {v:V}:∀{t a x},o.op= .store t a x→prepOp P U nt wr o=some so→(∀y∈so.opds,K y)→
 zad app sh fr env r H so=some (v,H')→zbE P sh κ φ H w fr ((execOp ρ o).run P w) v H':=by
 intro t a x hop hp hV h
 unfold prepOp at hp;rw[hop]at hp;dsimp only at hp
 unfold execOp;rw[hop];dsimp only
 obtain⟨n,h0,hp⟩:=zas hp
 obtain⟨a',h1,hp⟩:=zas hp
 obtain⟨x',h2,rfl⟩:=zaw hp
 simp only[zad]at h
 obtain⟨h',h3,h4⟩:=zaw h
 simp only[Prod.mk.injEq]at h4;obtain⟨rfl,rfl⟩:=h4
 obtain⟨m,off,w',e1,e2,e3,e4,e5⟩:=zBv s h3 (ho a a' h1 (hV _ (by simp[SOp.opds]))) (ho x x' h2 (hV _ (by simp[SOp.opds])))
 obtain⟨i,hi⟩:=zia h0
 refine zmB ⟨w',?_,e4,e5⟩
 simp only[Instr.storeAt,e1,Instr.sureAddr,Sem.run_bind,Sem.run_pure,Result.andThen_ok,storeVar,run_sizeOf hi]
 rw[if_neg (by rw[e2];simp)]
 exact e3
theorem zqt (s:Sim P sh κ φ H w) (hfr:φ fr= .unborn) (hlt:fr<H.next) (ho:zbA K U nt wr env r ρ φ w (stab κ φ H)) (hcon:∀v,ρ (.const v)=v) {o:Oper} {so:SOp} {app:App} {v:V}:∀{x},o.op= .nilCheck x→prepOp P U nt wr o=some so→(∀y∈so.opds,K y)→
 zad app sh fr env r H so=some (v,H')→zbE P sh κ φ H w fr ((execOp ρ o).run P w) v H':=by
 intro x hop hp hV h
 unfold prepOp at hp;rw[hop]at hp;dsimp only at hp
 unfold execOp;rw[hop];dsimp only
 obtain⟨y,h1,rfl⟩:=zaw hp
 simp only[zad]at h
 split at h
 ·rename_i hn
  simp only[Option.some.injEq,Prod.mk.injEq]at h;obtain⟨rfl,rfl⟩:=h
  refine .keep s ?_ (ho x y h1 (hV _ (by simp[SOp.opds])))
  rcases zqn (ho x y h1 (hV _ (by simp[SOp.opds]))) hn with⟨a,e⟩|⟨f,a,b,e⟩|⟨a,l,c,e⟩|⟨r',e⟩<;>rw[e]<;>rfl
 ·cases h
theorem zBS (s:Sim P sh κ φ H w) (hfr:φ fr= .unborn) (hlt:fr<H.next) (ho:zbA K U nt wr env r ρ φ w (stab κ φ H)) (hcon:∀v,ρ (.const v)=v) {o:Oper} {so:SOp} {app:App} {v:V}:∀{op t x y yt},o.op= .binOp op t x y yt→prepOp P U nt wr o=some so→(∀y∈so.opds,K y)→
 zad app sh fr env r H so=some (v,H')→zbE P sh κ φ H w fr ((execOp ρ o).run P w) v H':=by
 intro op t x y yt hop hp hV h
 unfold prepOp at hp;rw[hop]at hp;dsimp only at hp
 unfold execOp;rw[hop];dsimp only
 obtain⟨x',h1,hp⟩:=zas hp
 obtain⟨y',h2,rfl⟩:=zaw hp
 simp only[zad]at h
 obtain⟨v',h3,h4⟩:=zaw h
 simp only[Prod.mk.injEq]at h4;obtain⟨rfl,rfl⟩:=h4
 exact zbl s (zJE h3 (ho x x' h1 (hV _ (by simp[SOp.opds]))) (ho y y' h2 (hV _ (by simp[SOp.opds]))))
theorem zGb (s:Sim P sh κ φ H w) (hfr:φ fr= .unborn) (hlt:fr<H.next) (ho:zbA K U nt wr env r ρ φ w (stab κ φ H)) (hcon:∀v,ρ (.const v)=v) {o:Oper} {so:SOp} {app:App} {v:V}:∀{op t x},o.op= .unOp op t x→prepOp P U nt wr o=some so→(∀y∈so.opds,K y)→
 zad app sh fr env r H so=some (v,H')→zbE P sh κ φ H w fr ((execOp ρ o).run P w) v H':=by
 intro op t x hop hp hV h
 unfold prepOp at hp;rw[hop]at hp;dsimp only at hp
 unfold execOp;rw[hop];dsimp only
 obtain⟨x',h1,rfl⟩:=zaw hp
 simp only[zad]at h
 obtain⟨v',h3,h4⟩:=zaw h
 simp only[Prod.mk.injEq]at h4;obtain⟨rfl,rfl⟩:=h4
 exact zbl s (zNZ (ho x x' h1 (hV _ (by simp[SOp.opds]))) h3)
theorem ztV (s:Sim P sh κ φ H w) (hfr:φ fr= .unborn) (hlt:fr<H.next) (ho:zbA K U nt wr env r ρ φ w (stab κ φ H)) (hcon:∀v,ρ (.const v)=v) {o:Oper} {so:SOp} {app:App} {v:V}:∀{sc dt x},o.op= .convert sc dt x→prepOp P U nt wr o=some so→(∀y∈so.opds,K y)→
 zad app sh fr env r H so=some (v,H')→zbE P sh κ φ H w fr ((execOp ρ o).run P w) v H':=by
 intro sc dt x hop hp hV h
 unfold prepOp at hp;rw[hop]at hp;dsimp only at hp
 unfold execOp;rw[hop];dsimp only
 obtain⟨k,h0,hp⟩:=zas hp
 obtain⟨x',h1,rfl⟩:=zaw hp
 simp only[zad]at h
 obtain⟨v',h3,h4⟩:=zaw h
 simp only[Prod.mk.injEq]at h4;obtain⟨rfl,rfl⟩:=h4
 refine zbl s (zFR (ho x x' h1 (hV _ (by simp[SOp.opds]))) h3 ?_)
 unfold zrL at h0
 split at h0<;>try simp only[Option.some.injEq]at h0
 ·rename_i j k hs hd;subst h0;exact⟨⟨j,hs⟩,hd⟩
 ·rename_i j hs hd;subst h0;exact⟨⟨j,hs⟩,hd⟩
 ·rename_i hs hd;subst h0;exact⟨hs,hd⟩
 ·cases h0
theorem zqu (s:Sim P sh κ φ H w) (hfr:φ fr= .unborn) (hlt:fr<H.next) (ho:zbA K U nt wr env r ρ φ w (stab κ φ H)) (hcon:∀v,ρ (.const v)=v) {o:Oper} {so:SOp} {app:App} {v:V}:∀{fn first cap},o.op= .makeFunc fn first cap→prepOp P U nt wr o=some so→(∀y∈so.opds,K y)→
 zad app sh fr env r H so=some (v,H')→zbE P sh κ φ H w fr ((execOp ρ o).run P w) v H':=by
 intro fn first cap hop hp hV h
 unfold prepOp at hp;rw[hop]at hp;dsimp only at hp
 unfold execOp;rw[hop];dsimp only
 unfold zEW at hp
 cases fn with
 |func f=>
  obtain⟨a,h1,hp⟩:=zas hp
  obtain⟨b,h2,rfl⟩:=zaw hp
  have ra:=ho.all h1 (fun y hy=>hV y (by simp[SOp.opds,hy]))
  have rb:=ho.all h2 (fun y hy=>hV y (by simp[SOp.opds,hy]))
  simp only[zad]at h
  split at h
  ·rename_i hc
   simp only[Option.some.injEq,Prod.mk.injEq]at h;obtain⟨rfl,rfl⟩:=h
   simp only[Bool.and_eq_true,List.isEmpty_iff]at hc
   obtain⟨rfl,rfl⟩:=hc
   simp only[List.map_nil]at ra rb
   have e1:first.map ρ= #[]:=by
    apply Array.ext';rw[Array.toList_map]
    generalize List.map ρ first.toList=l at ra
    cases ra;rfl
   have e2:cap.map ρ= #[]:=by
    apply Array.ext';rw[Array.toList_map]
    generalize List.map ρ cap.toList=l at rb
    cases rb;rfl
   refine zbl s ⟨_,by simp only[Instr.makeFunc,Sem.run_pure,e1,e2],.d (.fn f)⟩
  ·simp only[Option.some.injEq,Prod.mk.injEq]at h;obtain⟨rfl,rfl⟩:=h
   refine zbl s ⟨.func (.func f) (first.map ρ) (cap.map ρ),by simp only[Instr.makeFunc,Sem.run_pure],zFX (by rw[Array.toList_map];exact ra) (by rw[Array.toList_map];exact rb)⟩
 |_=>cases hp
theorem ztW (s:Sim P sh κ φ H w) (hfr:φ fr= .unborn) (hlt:fr<H.next) (ho:zbA K U nt wr env r ρ φ w (stab κ φ H)) (hcon:∀v,ρ (.const v)=v) {o:Oper} {so:SOp} {app:App} {v:V}:∀{t rs},o.op= .makeMap t rs→prepOp P U nt wr o=some so→(∀y∈so.opds,K y)→
 zad app sh fr env r H so=some (v,H')→zbE P sh κ φ H w fr ((execOp ρ o).run P w) v H':=by
 intro t rs hop hp hV h
 unfold prepOp at hp;rw[hop]at hp;dsimp only at hp
 unfold execOp;rw[hop];dsimp only
 unfold znN at hp
 split at hp
 ·rename_i kt e hu
  have:=zBJ s hfr hlt (P:=P)
  split at hp
  ·simp only[Option.some.injEq]at hp;subst hp
   simp only[zad,Option.some.injEq,Prod.mk.injEq]at h;obtain⟨rfl,rfl⟩:=h
   refine zfc ?_
   simpa[Instr.makeMap]using this
  ·rename_i k n
   simp only[Option.some.injEq]at hp;subst hp
   simp only[zad,Option.some.injEq,Prod.mk.injEq]at h;obtain⟨rfl,rfl⟩:=h
   refine zfc ?_
   have hc:ρ (.const (.int k n))= .int k n:=hcon _
   simpa[Instr.makeMap,zan hu,asInt,asIntOf,hc]using this
  ·cases hp
 ·cases hp
theorem zoo (s:Sim P sh κ φ H w) (hfr:φ fr= .unborn) (hlt:fr<H.next) (ho:zbA K U nt wr env r ρ φ w (stab κ φ H)) (hcon:∀v,ρ (.const v)=v) {o:Oper} {so:SOp} {app:App} {v:V}:∀{t l c},o.op= .makeSlice t l c→prepOp P U nt wr o=some so→(∀y∈so.opds,K y)→
 zad app sh fr env r H so=some (v,H')→zbE P sh κ φ H w fr ((execOp ρ o).run P w) v H':=by
 intro t l c hop hp hV h
 unfold prepOp at hp;rw[hop]at hp;dsimp only at hp
 unfold execOp;rw[hop];dsimp only
 unfold zkf at hp
 split at hp
 ·rename_i e hu
  obtain⟨z,hz,hp⟩:=zas hp
  split at hp
  case isFalse=>cases hp
  rename_i hc
  simp only[Bool.and_eq_true,beq_iff_eq,bne_iff_ne,ne_eq]at hc
  obtain⟨⟨hc1,hc2⟩,hc3⟩:=hc
  obtain⟨l',h1,hp⟩:=zas hp
  obtain⟨c',h2,rfl⟩:=zaw hp
  simp only[zad]at h
  obtain⟨ln,h3,h⟩:=zas h
  obtain⟨cn,h4,h⟩:=zas h
  split at h
  case isFalse=>cases h
  rename_i hcc
  simp only[Option.some.injEq,Prod.mk.injEq]at h;obtain⟨rfl,rfl⟩:=h
  exact zfc (ztS s hfr hlt hu hz hc1 hc2 hc3 (ho l l' h1 (hV _ (by simp[SOp.opds]))) h3 (ho c c' h2 (hV _ (by simp[SOp.opds]))) h4 hcc.1 hcc.2)
 ·cases hp
theorem zBT (s:Sim P sh κ φ H w) (hfr:φ fr= .unborn) (hlt:fr<H.next) (ho:zbA K U nt wr env r ρ φ w (stab κ φ H)) (hcon:∀v,ρ (.const v)=v) {o:Oper} {so:SOp} {app:App} {v:V}:∀{t x lo hi mx},o.op= .slice t x lo hi mx→prepOp P U nt wr o=some so→(∀y∈so.opds,K y)→
 zad app sh fr env r H so=some (v,H')→zbE P sh κ φ H w fr ((execOp ρ o).run P w) v H':=by
 intro t x lo hi mx hop hp hV h
 unfold prepOp at hp;rw[hop]at hp;dsimp only at hp
 unfold execOp;rw[hop];dsimp only
 obtain⟨sz,h0,hp⟩:=zas hp
 obtain⟨x',h1,hp⟩:=zas hp
 obtain⟨lo',h2,hp⟩:=zas hp
 obtain⟨hi',h3,hp⟩:=zas hp
 obtain⟨mx',h4,rfl⟩:=zaw hp
 simp only[zad]at h
 obtain⟨lo2,g2,h⟩:=zas h
 obtain⟨hi2,g3,h⟩:=zas h
 obtain⟨mx2,g4,h⟩:=zas h
 obtain⟨v',g5,h5⟩:=zaw h
 simp only[Prod.mk.injEq]at h5;obtain⟨rfl,rfl⟩:=h5
 have hm:mx2=none∧mx.map ρ=none:=by
  rcases ho.bound h4 (fun b hb=>hV b (by simp[SOp.opds,hb])) g4 with hm|⟨k,i,u,rfl,_,_⟩
  ·exact hm
  ·unfold zbx at g5;split at g5<;>simp_all
 obtain⟨rfl,hm⟩:=hm
 rw[hm]
 refine zbl s (zBE s (ho.bound h2 (fun b hb=>hV b (by simp[SOp.opds,hb])) g2) (ho.bound h3 (fun b hb=>hV b (by simp[SOp.opds,hb])) g3) (ho x x' h1 (hV _ (by simp[SOp.opds]))) g5 ?_)
 unfold zJk at h0
 split at h0
 ·rename_i e hu
  split at h0
  ·rename_i hc
   simp only[Option.some.injEq]at h0;subst h0
   exact .inr ⟨e,hu,rfl,by simpa using hc⟩
  ·cases h0
 ·rename_i hu
  simp only[Option.some.injEq]at h0;subst h0
  exact .inl ⟨hu,rfl⟩
 ·cases h0
theorem zop (s:Sim P sh κ φ H w) (hfr:φ fr= .unborn) (hlt:fr<H.next) (ho:zbA K U nt wr env r ρ φ w (stab κ φ H)) (hcon:∀v,ρ (.const v)=v) {o:Oper} {so:SOp} {app:App} {v:V}:∀{st x f},o.op= .fieldAddr st x f→prepOp P U nt wr o=some so→(∀y∈so.opds,K y)→
 zad app sh fr env r H so=some (v,H')→zbE P sh κ φ H w fr ((execOp ρ o).run P w) v H':=by
 intro st x f hop hp hV h
 unfold prepOp at hp;rw[hop]at hp;dsimp only at hp
 unfold execOp;rw[hop];dsimp only
 obtain⟨fd,h0',hp⟩:=zas hp
 obtain⟨fs,hu,h0⟩:=zji h0'
 split at hp
 case isFalse=>cases hp
 rename_i hc
 simp only[bne_iff_ne,ne_eq]at hc
 obtain⟨x',h1,rfl⟩:=zaw hp
 simp only[zad]at h
 split at h
 ·rename_i b i' o' hx
  simp only[Option.some.injEq,Prod.mk.injEq]at h;obtain⟨rfl,rfl⟩:=h
  exact zbl s (zrU hu h0 hc (ho x x' h1 (hV _ (by simp[SOp.opds]))) (by rw[hx];rfl))
 ·rename_i y' o' hx
  simp only[Option.some.injEq,Prod.mk.injEq]at h;obtain⟨rfl,rfl⟩:=h
  exact zbl s (zrU hu h0 hc (ho x x' h1 (hV _ (by simp[SOp.opds]))) (by rw[hx];rfl))
 ·cases h
theorem zBU (s:Sim P sh κ φ H w) (hfr:φ fr= .unborn) (hlt:fr<H.next) (ho:zbA K U nt wr env r ρ φ w (stab κ φ H)) (hcon:∀v,ρ (.const v)=v) {o:Oper} {so:SOp} {app:App} {v:V}:∀{st x f},o.op= .field st x f→prepOp P U nt wr o=some so→(∀y∈so.opds,K y)→
 zad app sh fr env r H so=some (v,H')→zbE P sh κ φ H w fr ((execOp ρ o).run P w) v H':=by
 intro st x f hop hp hV h
 unfold prepOp at hp;rw[hop]at hp;dsimp only at hp
 unfold execOp;rw[hop];dsimp only
 obtain⟨fd,h0',hp⟩:=zas hp
 obtain⟨fs,hu,h0⟩:=zji h0'
 obtain⟨n,h2,hp⟩:=zas hp
 obtain⟨x',h1,rfl⟩:=zaw hp
 simp only[zad]at h
 obtain⟨v',h3,h4⟩:=zaw h
 simp only[Prod.mk.injEq]at h4;obtain⟨rfl,rfl⟩:=h4
 exact zbl s (zBA hu h0 h2 h3 (ho x x' h1 (hV _ (by simp[SOp.opds]))))
theorem zoq (s:Sim P sh κ φ H w) (hfr:φ fr= .unborn) (hlt:fr<H.next) (ho:zbA K U nt wr env r ρ φ w (stab κ φ H)) (hcon:∀v,ρ (.const v)=v) {o:Oper} {so:SOp} {app:App} {v:V}:∀{t x i},o.op= .indexAddr t x i→prepOp P U nt wr o=some so→(∀y∈so.opds,K y)→
 zad app sh fr env r H so=some (v,H')→zbE P sh κ φ H w fr ((execOp ρ o).run P w) v H':=by
 intro t x i hop hp hV h
 unfold prepOp at hp;rw[hop]at hp;dsimp only at hp
 unfold execOp;rw[hop];dsimp only
 unfold znO at hp
 split at hp
 ·rename_i e hu
  split at hp
  case isFalse=>cases hp
  rename_i hc
  simp only[bne_iff_ne,ne_eq]at hc
  obtain⟨x',h1,hp⟩:=zas hp
  obtain⟨i',h2,rfl⟩:=zaw hp
  simp only[zad]at h
  obtain⟨n,h3,h⟩:=zas h
  obtain⟨v',h5,h4⟩:=zaw h
  simp only[Prod.mk.injEq]at h4;obtain⟨rfl,rfl⟩:=h4
  exact zbl s (zBB s hu hc (ho x x' h1 (hV _ (by simp[SOp.opds]))) h3 (ho i i' h2 (hV _ (by simp[SOp.opds]))) h5)
 ·rename_i n e hu
  split at hp
  case isFalse=>cases hp
  rename_i hc
  simp only[bne_iff_ne,ne_eq]at hc
  obtain⟨x',h1,hp⟩:=zas hp
  obtain⟨i',h2,rfl⟩:=zaw hp
  simp only[zad]at h
  obtain⟨k,h3,h⟩:=zas h
  split at h
  case isFalse=>cases h
  rename_i hkn
  split at h
  ·rename_i b k' o' hx
   simp only[Option.some.injEq,Prod.mk.injEq]at h;obtain⟨rfl,rfl⟩:=h
   exact zbl s (zrV hu hc (ho x x' h1 (hV _ (by simp[SOp.opds]))) h3 (ho i i' h2 (hV _ (by simp[SOp.opds]))) hkn (by rw[hx];rfl))
  ·rename_i y' o' hx
   simp only[Option.some.injEq,Prod.mk.injEq]at h;obtain⟨rfl,rfl⟩:=h
   exact zbl s (zrV hu hc (ho x x' h1 (hV _ (by simp[SOp.opds]))) h3 (ho i i' h2 (hV _ (by simp[SOp.opds]))) hkn (by rw[hx];rfl))
  ·cases h
 ·cases hp
theorem zBV (s:Sim P sh κ φ H w) (hfr:φ fr= .unborn) (hlt:fr<H.next) (ho:zbA K U nt wr env r ρ φ w (stab κ φ H)) (hcon:∀v,ρ (.const v)=v) {o:Oper} {so:SOp} {app:App} {v:V}:∀{t x i},o.op= .index t x i→prepOp P U nt wr o=some so→(∀y∈so.opds,K y)→
 zad app sh fr env r H so=some (v,H')→zbE P sh κ φ H w fr ((execOp ρ o).run P w) v H':=by
 intro t x i hop hp hV h
 unfold prepOp at hp;rw[hop]at hp;dsimp only at hp
 unfold execOp;rw[hop];dsimp only
 split at hp
 ·rename_i hu'
  have hu:=zFc hu'
  obtain⟨x',h1,hp⟩:=zas hp
  obtain⟨i',h2,rfl⟩:=zaw hp
  simp only[zad]at h
  obtain⟨k,h3,h⟩:=zas h
  split at h
  ·rename_i l hl
   obtain⟨c,h5,h4⟩:=zaw h
   simp only[Prod.mk.injEq]at h4;obtain⟨rfl,rfl⟩:=h4
   exact zbl s ⟨_,zBC hu (ho x x' h1 (hV _ (by simp[SOp.opds]))) h3 (ho i i' h2 (hV _ (by simp[SOp.opds]))) hl h5,.d (.int _ _)⟩
  ·cases h
 ·unfold zrM at hp
  split at hp
  ·rename_i n e hu
   obtain⟨m,hm,hp⟩:=zas hp
   split at hp
   case isFalse=>cases hp
   rename_i hc
   simp only[bne_iff_ne,ne_eq]at hc
   obtain⟨x',h1,hp⟩:=zas hp
   obtain⟨i',h2,rfl⟩:=zaw hp
   simp only[zad]at h
   obtain⟨k,h3,h⟩:=zas h
   split at h
   case isFalse=>cases h
   rename_i hkn
   obtain⟨v',h5,h4⟩:=zaw h
   simp only[Prod.mk.injEq]at h4;obtain⟨rfl,rfl⟩:=h4
   exact zbl s (zxg hu hc hm h3 (ho i i' h2 (hV _ (by simp[SOp.opds]))) hkn h5 (ho x x' h1 (hV _ (by simp[SOp.opds]))))
  ·cases hp
theorem zxr (s:Sim P sh κ φ H w) (hfr:φ fr= .unborn) (hlt:fr<H.next) (ho:zbA K U nt wr env r ρ φ w (stab κ φ H)) (hcon:∀v,ρ (.const v)=v) {o:Oper} {so:SOp} {app:App} {v:V}:∀{t m k ok},o.op= .lookup t m k ok→prepOp P U nt wr o=some so→(∀y∈so.opds,K y)→
 zad app sh fr env r H so=some (v,H')→zbE P sh κ φ H w fr ((execOp ρ o).run P w) v H':=by
 intro t m k ok hop hp hV h
 unfold prepOp at hp;rw[hop]at hp;dsimp only at hp
 unfold execOp;rw[hop];dsimp only
 obtain⟨⟨ks,e⟩,hm0,hp⟩:=zas hp
 obtain⟨kt,hu,h0⟩:=zfR hm0
 dsimp only at hp
 obtain⟨z,hz,hp⟩:=zas hp
 obtain⟨m',h1,hp⟩:=zas hp
 obtain⟨k',h2,rfl⟩:=zaw hp
 simp only[zad]at h
 split at h
 ·rename_i kd hk
  obtain⟨⟨x,is⟩,h5,h4⟩:=zaw h
  simp only[Prod.mk.injEq]at h4;obtain⟨rfl,rfl⟩:=h4
  have hkr:=ho k k' h2 (hV _ (by simp[SOp.opds]))
  rw[hk]at hkr
  exact zbl s (zxm s hu h0 hz (ho m m' h1 (hV _ (by simp[SOp.opds]))) hkr h5 ok)
 ·cases h
theorem zor (s:Sim P sh κ φ H w) (hfr:φ fr= .unborn) (hlt:fr<H.next) (ho:zbA K U nt wr env r ρ φ w (stab κ φ H)) (hcon:∀v,ρ (.const v)=v) {o:Oper} {so:SOp} {app:App} {v:V}:∀{t m k x},o.op= .mapUpdate t m k x→prepOp P U nt wr o=some so→(∀y∈so.opds,K y)→
 zad app sh fr env r H so=some (v,H')→zbE P sh κ φ H w fr ((execOp ρ o).run P w) v H':=by
 intro t m k x hop hp hV h
 unfold prepOp at hp;rw[hop]at hp;dsimp only at hp
 unfold execOp;rw[hop];dsimp only
 obtain⟨⟨ks,e⟩,hm0,hp⟩:=zas hp
 obtain⟨kt,hu,h0⟩:=zfR hm0
 dsimp only at hp
 obtain⟨m',h1,hp⟩:=zas hp
 obtain⟨k',h2,hp⟩:=zas hp
 obtain⟨x',h3,rfl⟩:=zaw hp
 simp only[zad]at h
 split at h
 ·rename_i b kd hm hk
  have hkr:=ho k k' h2 (hV _ (by simp[SOp.opds]))
  rw[hk]at hkr
  have hmr:=ho m m' h1 (hV _ (by simp[SOp.opds]))
  rw[hm]at hmr
  obtain⟨w',e1,e2,e3,rfl⟩:=zxn s hu h0 hmr hkr (ho x x' h3 (hV _ (by simp[SOp.opds]))) h
  exact zmB ⟨w',e1,e2,e3⟩
 ·cases h
theorem zxs (s:Sim P sh κ φ H w) (hfr:φ fr= .unborn) (hlt:fr<H.next) (ho:zbA K U nt wr env r ρ φ w (stab κ φ H)) (hcon:∀v,ρ (.const v)=v) {o:Oper} {so:SOp} {app:App} {v:V}:∀{t m k x},o.op= .insert t m k x→prepOp P U nt wr o=some so→(∀y∈so.opds,K y)→
 zad app sh fr env r H so=some (v,H')→zbE P sh κ φ H w fr ((execOp ρ o).run P w) v H':=by
 intro t m k x hop hp hV h
 unfold prepOp at hp;rw[hop]at hp;dsimp only at hp
 unfold execOp;rw[hop];dsimp only
 obtain⟨⟨ks,e⟩,hm0,hp⟩:=zas hp
 obtain⟨kt,hu,h0⟩:=zfR hm0
 dsimp only at hp
 obtain⟨m',h1,hp⟩:=zas hp
 obtain⟨k',h2,hp⟩:=zas hp
 obtain⟨x',h3,rfl⟩:=zaw hp
 simp only[zad]at h
 split at h
 ·rename_i b kd hm hk
  have hkr:=ho k k' h2 (hV _ (by simp[SOp.opds]))
  rw[hk]at hkr
  have hmr:=ho m m' h1 (hV _ (by simp[SOp.opds]))
  rw[hm]at hmr
  obtain⟨w',e1,e2,e3,rfl⟩:=zxn s hu h0 hmr hkr (ho x x' h3 (hV _ (by simp[SOp.opds]))) h
  exact zmB ⟨w',e1,e2,e3⟩
 ·cases h
theorem zqv (s:Sim P sh κ φ H w) (hfr:φ fr= .unborn) (hlt:fr<H.next) (ho:zbA K U nt wr env r ρ φ w (stab κ φ H)) (hcon:∀v,ρ (.const v)=v) {o:Oper} {so:SOp} {app:App} {v:V}:∀{t m k},o.op= .mapEntry t m k→prepOp P U nt wr o=some so→(∀y∈so.opds,K y)→
 zad app sh fr env r H so=some (v,H')→zbE P sh κ φ H w fr ((execOp ρ o).run P w) v H':=by
 intro t m k hop hp hV h
 unfold prepOp at hp;rw[hop]at hp;dsimp only at hp
 unfold execOp;rw[hop];dsimp only
 obtain⟨⟨ks,e⟩,hm0,hp⟩:=zas hp
 obtain⟨kt,hu,h0⟩:=zfR hm0
 dsimp only at hp
 obtain⟨z,hz,hp⟩:=zas hp
 obtain⟨m',h1,hp⟩:=zas hp
 obtain⟨k',h2,rfl⟩:=zaw hp
 simp only[zad]at h
 split at h
 ·rename_i b kd hm hk
  have hkr:=ho k k' h2 (hV _ (by simp[SOp.opds]))
  rw[hk]at hkr
  have hmr:=ho m m' h1 (hV _ (by simp[SOp.opds]))
  rw[hm]at hmr
  exact zfc (zxo s hu h0 hz hmr hkr h)
 ·cases h
theorem zmD (s:Sim P sh κ φ H w) (hfr:φ fr= .unborn) (hlt:fr<H.next) (ho:zbA K U nt wr env r ρ φ w (stab κ φ H)) (hcon:∀v,ρ (.const v)=v) {o:Oper} {so:SOp} {app:App} {v:V}:∀{t m st x},o.op= .entryStore t m st x→prepOp P U nt wr o=some so→(∀y∈so.opds,K y)→
 zad app sh fr env r H so=some (v,H')→zbE P sh κ φ H w fr ((execOp ρ o).run P w) v H':=by
 intro t m st x hop hp hV h
 unfold prepOp at hp;rw[hop]at hp;dsimp only at hp
 unfold execOp;rw[hop];dsimp only
 obtain⟨m',h1,hp⟩:=zas hp
 obtain⟨s',h2,hp⟩:=zas hp
 obtain⟨x',h3,rfl⟩:=zaw hp
 simp only[zad]at h
 split at h
 ·rename_i b n hm hn
  have hmr:=ho m m' h1 (hV _ (by simp[SOp.opds]))
  rw[hm]at hmr
  obtain⟨w',e1,e2,e3,rfl⟩:=zxp s hmr (ho st s' h2 (hV _ (by simp[SOp.opds]))) hn (ho x x' h3 (hV _ (by simp[SOp.opds]))) h
  exact zmB ⟨w',e1,e2,e3⟩
 ·cases h
theorem zBW (s:Sim P sh κ φ H w) (hfr:φ fr= .unborn) (hlt:fr<H.next) (ho:zbA K U nt wr env r ρ φ w (stab κ φ H)) (hcon:∀v,ρ (.const v)=v) {o:Oper} {so:SOp} {app:App} {v:V}:∀{t x},o.op= .range t x→prepOp P U nt wr o=some so→(∀y∈so.opds,K y)→
 zad app sh fr env r H so=some (v,H')→zbE P sh κ φ H w fr ((execOp ρ o).run P w) v H':=by
 intro t x hop hp hV h
 unfold prepOp at hp;rw[hop]at hp;dsimp only at hp
 unfold execOp;rw[hop];dsimp only
 split at hp
 ·rename_i hu'
  have hu:=zFc hu'
  obtain⟨x',h1,rfl⟩:=zaw hp
  simp only[zad]at h
  split at h
  ·rename_i l hl
   simp only[Option.some.injEq,Prod.mk.injEq]at h;obtain⟨rfl,rfl⟩:=h
   have hxr:=ho x x' h1 (hV _ (by simp[SOp.opds]))
   rw[hl]at hxr
   exact zfc (zxk s hfr hlt hu hxr)
  ·cases h
 ·cases hp
theorem zGc (s:Sim P sh κ φ H w) (hfr:φ fr= .unborn) (hlt:fr<H.next) (ho:zbA K U nt wr env r ρ φ w (stab κ φ H)) (hcon:∀v,ρ (.const v)=v) {o:Oper} {so:SOp} {app:App} {v:V}:∀{it b},o.op= .next it b→prepOp P U nt wr o=some so→(∀y∈so.opds,K y)→
 zad app sh fr env r H so=some (v,H')→zbE P sh κ φ H w fr ((execOp ρ o).run P w) v H':=by
 intro it b hop hp hV h
 unfold prepOp at hp;rw[hop]at hp;dsimp only at hp
 unfold execOp;rw[hop];dsimp only
 cases b with
 |true=>
  obtain⟨x',h1,rfl⟩:=zaw hp
  simp only[zad]at h
  split at h
  ·rename_i b hb
   have hxr:=ho it x' h1 (hV _ (by simp[SOp.opds]))
   rw[hb]at hxr
   exact zfc (zBK s hxr h)
  ·cases h
 |false=>cases hp
theorem ztX (s:Sim P sh κ φ H w) (hfr:φ fr= .unborn) (hlt:fr<H.next) (ho:zbA K U nt wr env r ρ φ w (stab κ φ H)) (hcon:∀v,ρ (.const v)=v) {o:Oper} {so:SOp} {app:App} {v:V}:∀{x i},o.op= .extract x i→prepOp P U nt wr o=some so→(∀y∈so.opds,K y)→
 zad app sh fr env r H so=some (v,H')→zbE P sh κ φ H w fr ((execOp ρ o).run P w) v H':=by
 intro x i hop hp hV h
 unfold prepOp at hp;rw[hop]at hp;dsimp only at hp
 unfold execOp;rw[hop];dsimp only
 obtain⟨x',h1,rfl⟩:=zaw hp
 simp only[zad]at h
 obtain⟨v',h3,h4⟩:=zaw h
 simp only[Prod.mk.injEq]at h4;obtain⟨rfl,rfl⟩:=h4
 exact zbl s (ztP (ho x x' h1 (hV _ (by simp[SOp.opds]))) h3)
theorem zgQ {t e:TypeId} (h:elemOf P t=some e):P.underlying t=some (.slice e):=by
 unfold elemOf at h
 split at h
 ·rename_i e' hu;simp only[Option.some.injEq]at h;subst h;exact hu
 ·cases h
theorem ztY {u:TypeId} (h:isRow P u=true):(∃e',P.underlying u=some (.slice e'))∨P.underlying u=some .string:=by
 unfold isRow at h
 split at h
 ·rename_i e hu;exact .inl ⟨e,hu⟩
 ·rename_i hu;exact .inr hu
 ·cases h
theorem zJL {x:V} {l:List Value} (h:Args φ w S [x] l):∃v,l=[v]∧Rel φ w S x v:=by
 cases h with|cons hx hr=>cases hr;exact⟨_,rfl,hx⟩
theorem zJM {x y:V} {l:List Value} (h:Args φ w S [x,y] l):∃v u,l=[v,u]∧Rel φ w S x v∧Rel φ w S y u:=by
 cases h with|cons hx hr=>cases hr with|cons hy hr=>cases hr;exact⟨_,_,rfl,hx,hy⟩
theorem ztZ (s:Sim P sh κ φ H w) (hfr:φ fr= .unborn) (hlt:fr<H.next) {b:Builtin} {a:List Opd} {args:Array Value} {ts:Array TypeId} {ty:TypeId} {cs:Array Bool} {so:SOp} {app:App} {v:V}
 (ha:Args φ w (stab κ φ H) (a.map (opd env r)) args.toList) (hp:zdC P b a ts.toList=some so) (h:zad app sh fr env r H so=some (v,H')):
 zbE P sh κ φ H w fr ((builtin b ts ty cs args).run P w) v H':=by
 obtain⟨args⟩:=args
 obtain⟨ts⟩:=ts
 dsimp only at ha hp
 unfold zdC at hp
 split at hp
 ·split at hp
  ·rename_i x t
   simp only[List.map_cons,List.map_nil]at ha
   obtain⟨v1,rfl,hx⟩:=zJL ha
   unfold zpV at hp
   have key:∀k:LK,k.is P t→some (SOp.len k x)=some so→zbE P sh κ φ H w fr ((builtin .len ⟨[t]⟩ ty cs ⟨[v1]⟩).run P w) v H':=by
    intro k hk hso
    simp only[Option.some.injEq]at hso;subst hso
    simp only[zad]at h
    obtain⟨n,h1,h2⟩:=zaw h
    simp only[Prod.mk.injEq]at h2;obtain⟨rfl,rfl⟩:=h2
    exact zbl s ⟨_,zJF s hx h1 hk,.d (.int _ _)⟩
   split at hp
   ·rename_i hu;exact key .str hu hp
   ·rename_i e hu;exact key .sl ⟨e,hu⟩ hp
   ·rename_i k e hu;exact key .map ⟨k,e,hu⟩ hp
   ·cases hp
  ·cases hp
 ·split at hp
  ·rename_i x y t u
   simp only[List.map_cons,List.map_nil]at ha
   obtain⟨v1,v2,rfl,hx,hy⟩:=zJM ha
   obtain⟨e,h1,hp⟩:=zas hp
   obtain⟨z,hz,hp⟩:=zas hp
   split at hp
   case isFalse=>cases hp
   rename_i hc
   simp only[Bool.and_eq_true,beq_iff_eq,bne_iff_ne,ne_eq]at hc
   obtain⟨⟨⟨hc1,hc2⟩,hc3⟩,hc4⟩:=hc
   simp only[Option.some.injEq]at hp;subst hp
   simp only[zad]at h
   exact zfc (zJH s hfr hlt (zgQ h1) (ztY hc4) hz hc1 hc2 hc3 hx hy h)
  ·cases hp
 ·split at hp
  ·rename_i x y t u
   simp only[List.map_cons,List.map_nil]at ha
   obtain⟨v1,v2,rfl,hx,hy⟩:=zJM ha
   obtain⟨e,h1,hp⟩:=zas hp
   split at hp
   case isFalse=>cases hp
   rename_i hc
   simp only[Option.some.injEq]at hp;subst hp
   simp only[zad]at h
   exact zfc (zFV s (zgQ h1) (by simpa using hc) hx hy h)
  ·cases hp
 ·simp only[Option.some.injEq]at hp;subst hp
  simp only[zad]at h
  obtain⟨n,h1,h2⟩:=zaw h
  simp only[Prod.mk.injEq]at h2;obtain⟨rfl,rfl⟩:=h2
  exact zbl s (zJI ha h1)
 ·simp only[Option.some.injEq]at hp;subst hp
  simp only[zad]at h
  obtain⟨n,h1,h2⟩:=zaw h
  simp only[Prod.mk.injEq]at h2;obtain⟨rfl,rfl⟩:=h2
  exact zbl s (zJJ ha h1)
 ·split at hp
  ·rename_i x t
   simp only[List.map_cons,List.map_nil]at ha
   obtain⟨v1,rfl,hx⟩:=zJL ha
   obtain⟨e,h1,hp⟩:=zas hp
   obtain⟨z,hz,hp⟩:=zas hp
   split at hp
   case isFalse=>cases hp
   rename_i hc
   simp only[Bool.and_eq_true,beq_iff_eq,bne_iff_ne,ne_eq]at hc
   simp only[Option.some.injEq]at hp;subst hp
   simp only[zad]at h
   exact zfc (zBG s (zgQ h1) hc.2 hz hc.1 hx h)
  ·cases hp
 ·cases hp
theorem zos {b:Builtin} {a:List Opd} {ts:List TypeId} {so:SOp} (hp:zdC P b a ts=some so):so.opds=a:=by
 unfold zdC at hp
 split at hp
 ·split at hp
  ·unfold zpV at hp
   split at hp<;>first|(simp only[Option.some.injEq]at hp;subst hp;rfl)|cases hp
  ·cases hp
 ·split at hp
  ·obtain⟨e,h1,hp⟩:=zas hp
   obtain⟨z,hz,hp⟩:=zas hp
   split at hp
   ·simp only[Option.some.injEq]at hp;subst hp;rfl
   ·cases hp
  ·cases hp
 ·split at hp
  ·obtain⟨e,h1,hp⟩:=zas hp
   split at hp
   ·simp only[Option.some.injEq]at hp;subst hp;rfl
   ·cases hp
  ·cases hp
 ·simp only[Option.some.injEq]at hp;subst hp;rfl
 ·simp only[Option.some.injEq]at hp;subst hp;rfl
 ·split at hp
  ·obtain⟨e,h1,hp⟩:=zas hp
   obtain⟨z,hz,hp⟩:=zas hp
   split at hp
   ·simp only[Option.some.injEq]at hp;subst hp;rfl
   ·cases hp
  ·cases hp
 ·cases hp
theorem zGd (s:Sim P sh κ φ H w) (hfr:φ fr= .unborn) (hlt:fr<H.next) (ho:zbA K U nt wr env r ρ φ w (stab κ φ H)) {o:Oper} {so:SOp} {app:App} {v:V}:∀{c},o.op= .call c→prepOp P U nt wr o=some so→(∀y∈so.opds,K y)→(∀g,c.callee≠.value g)→
 zad app sh fr env r H so=some (v,H')→zbE P sh κ φ H w fr ((execOp ρ o).run P w) v H':=by
 intro c hop hp hV hcl h
 unfold prepOp at hp;rw[hop]at hp;dsimp only at hp
 unfold execOp;rw[hop];dsimp only
 unfold zmm at hp
 split at hp
 ·rename_i g hg
  exact absurd hg (hcl g)
 ·rename_i b hb
  obtain⟨a,h1,hp⟩:=zas hp
  have hargs:Args φ w (stab κ φ H) (a.map (opd env r)) (c.args.map ρ).toList:=by rw[Array.toList_map];exact ho.all h1 (fun y hy=>hV y (by rw[zos hp];exact hy))
  have:=ztZ (ty:=o.type) (cs:=c.args.map fun| .const _=>true|_=>false) s hfr hlt hargs hp h
  unfold resolve
  rw[hb]
  simp only[Sem.run_bind,Sem.run_pure,Result.andThen_ok,invoke]
  exact this
 ·cases hp
theorem zOa (s:Sim P sh κ φ H w) (hfr:φ fr= .unborn) (hlt:fr<H.next) (ho:zbA K U nt wr env r ρ φ w (stab κ φ H)) (hcon:∀v,ρ (.const v)=v) {o:Oper} {so:SOp} {app:App} {v:V} (hp:prepOp P U nt wr o=some so) (hV:∀y∈so.opds,K y) (hc:∀c g,o.op= .call c→c.callee≠.value g)
 (h:zad app sh fr env r H so=some (v,H')):zbE P sh κ φ H w fr ((execOp ρ o).run P w) v H':=by
 cases hop:o.op with
 |move=>exact zFY s hfr hlt ho hcon hop hp hV h
 |assign=>exact zxq s hfr hlt ho hcon hop hp hV h
 |pick=>exact zFZ s hfr hlt ho hcon hop hp hV h
 |alloc=>exact zBP s hfr hlt ho hcon hop hp hV h
 |box=>exact zJK s hfr hlt ho hcon hop hp hV h
 |build=>exact zBQ s hfr hlt ho hcon hop hp hV h
 |buildSlice=>exact zmC s hfr hlt ho hcon hop hp hV h
 |load=>exact zGa s hfr hlt ho hcon hop hp hV h
 |store=>exact zBR s hfr hlt ho hcon hop hp hV h
 |nilCheck=>exact zqt s hfr hlt ho hcon hop hp hV h
 |binOp=>exact zBS s hfr hlt ho hcon hop hp hV h
 |unOp=>exact zGb s hfr hlt ho hcon hop hp hV h
 |convert=>exact ztV s hfr hlt ho hcon hop hp hV h
 |makeFunc=>exact zqu s hfr hlt ho hcon hop hp hV h
 |makeMap=>exact ztW s hfr hlt ho hcon hop hp hV h
 |makeSlice=>exact zoo s hfr hlt ho hcon hop hp hV h
 |slice=>exact zBT s hfr hlt ho hcon hop hp hV h
 |fieldAddr=>exact zop s hfr hlt ho hcon hop hp hV h
 |field=>exact zBU s hfr hlt ho hcon hop hp hV h
 |indexAddr=>exact zoq s hfr hlt ho hcon hop hp hV h
 |index=>exact zBV s hfr hlt ho hcon hop hp hV h
 |lookup=>exact zxr s hfr hlt ho hcon hop hp hV h
 |mapUpdate=>exact zor s hfr hlt ho hcon hop hp hV h
 |insert=>exact zxs s hfr hlt ho hcon hop hp hV h
 |mapEntry=>exact zqv s hfr hlt ho hcon hop hp hV h
 |entryStore=>exact zmD s hfr hlt ho hcon hop hp hV h
 |range=>exact zBW s hfr hlt ho hcon hop hp hV h
 |next=>exact zGc s hfr hlt ho hcon hop hp hV h
 |extract=>exact ztX s hfr hlt ho hcon hop hp hV h
 |call c=>exact zGd s hfr hlt ho hop hp hV (fun g=>hc c g hop) h
 |_=>unfold prepOp at hp;rw[hop]at hp;cases hp
end
end Go.AI
namespace Go.AI
variable {P:Program} {sh:FuncId→Bool} {T:Tabs} {κ:Ctx T} {φ φ':Place} {H H':Heap} {w w' w'':World} {S S':Nat→Nat→Prop} {fr:Nat}
def zfd (P:Program) (sh:FuncId→Bool) (κ:Ctx T) (φ:Place) (H:Heap) (w:World) (v:V) (H':Heap):Ending→World→Prop
 | .returned mv,w'=>∃φ',Sim P sh κ φ' H' w'∧Ext κ φ H w φ' H' w'∧Rel φ' w' (stab κ φ' H') v mv∧∀b,b<H.next→φ b= .unborn→φ' b= .unborn
 |_,_=>False
inductive Does (P:Program) (w:World) (mf:Value) (margs:List Value) (R:Ending→World→Prop):Prop
 |fn (f:FuncId) (first cap:Array Value) (fn:Func) (h:mf= .func (.func f) first cap) (hf:P.funcs[f]? =some fn) (hn:(fn.name== "runtime.NumGoroutine")=false) (hb:fn.body.isSome=true)
  (hc:CallsIn Fence.wide 0 P f (first++margs.toArray++cap) w R)
 |yld (l:Nat) (r:Loop) (h:mf= .func (.yield l) #[] #[]) (hl:w.heap[l]? =some (.loop r)) (hs:margs.length=r.params.size)
  (hc:RoundIn Fence.wide 0 P l r.fn ((r.params.zip margs.toArray).foldl (fun tmps (t,a)=>tmps.setIfInBounds t a) r.tmps) r.assign r.body w R)
theorem Does.mono {mf:Value} {margs:List Value} {R R':Ending→World→Prop} (h:Does P w mf margs R) (hr:∀e w',R e w'→R' e w'):Does P w mf margs R':=by
 cases h with
 |fn f first cap fn h hf hn hb hc=>exact .fn f first cap fn h hf hn hb (hc.mono hr)
 |yld l r h hl hs hc=>exact .yld l r h hl hs (hc.mono hr)
def zli (T:Tabs) (P:Program) (sh:FuncId→Bool) (app:App):Prop:=
 ∀(κ:Ctx T) (φ:Place) (H:Heap) (w:World) (fv:V) (args:List V) (v:V) (H':Heap) (mf:Value) (margs:List Value),Sim P sh κ φ H w→Rel φ w (stab κ φ H) fv mf→Args φ w (stab κ φ H) args margs→
  app fv args H=some (v,H')→Does P w mf margs (zfd P sh κ φ H w v H')
theorem zmE (s:Sim P sh κ φ H w) (hf:∀m,m<w.heap.size→w'.heap[m]? =w.heap[m]?) (hs:w.heap.size≤w'.heap.size) (ho:w'.os=w.os) (ht:w'.tape=w.tape) (hu:w'.output=w.output):Sim P sh κ φ H w'∧Ext κ φ H w φ H w':=by
 have lt:∀(m o:Nat) v,w.cell? ⟨m,o,none⟩=some v→m<w.heap.size:=fun m o v h=>by
  rcases Nat.lt_or_ge m w.heap.size with h1|h1
  ·exact h1
  ·simp[World.cell?,Array.getElem?_eq_none h1]at h
 have e:Ext κ φ H w φ H w':=⟨fun _ _=> .inl rfl,fun m o v h h'=>⟨h,(cell_of (hf m (lt m o v h'))).trans h'⟩,fun m hm h=>⟨hf m hm,h⟩,hs,ho,ht,hu,fun m t k h=>by
  have hm:m<w.heap.size:=by
   rcases Nat.lt_or_ge m w.heap.size with h1|h1
   ·exact h1
   ·simp[World.shape?,Array.getElem?_eq_none h1]at h
  rw[zhm (hf m hm)];exact h,Nat.le_refl _⟩
 exact⟨⟨Nat.le_trans s.base hs,fun b m sz h=>let⟨h1,x,h2,h3⟩:=s.blk b m sz h;⟨h1,x,h2,h3.mono e (hf m h3.lt)⟩,s.live,s.next,s.inj,s.tab.mono e.cell⟩,e⟩
theorem Args.mono (e:Ext κ φ H w φ' H' w') {l:List V} {m:List Value} (h:Args φ w (stab κ φ H) l m):Args φ' w' (stab κ φ' H') l m:=by
 induction h with
 |nil=>exact .nil
 |cons hr _ ih=>exact .cons (e.rv hr) ih
theorem zjy {l:List V} {m:List Value} (h:Args φ w S l m):m.length=l.length∧∀(j:Nat) x,l[j]? =some x→Rel φ w S x (m.getD j undef):=by
 induction h with
 |nil=>exact⟨rfl,fun j x h=>by simp at h⟩
 |cons hr _ ih=>
  refine⟨by simp[ih.1],fun j x hx=> ?_⟩
  cases j with
  |zero=>simp at hx;subst hx;simpa using hr
  |succ j=>simpa using ih.2 j x (by simpa using hx)
theorem zqw:∀{l:List D} {m:List Value},m.length=l.length→(∀(j:Nat) x,l[j]? =some x→RD w S x (m.getD j undef))→Args φ w S (l.map .d) m
 |[],m,hl,_=>by
  have:=List.eq_nil_of_length_eq_zero hl
  subst this;exact .nil
 |x::l,v::m,hl,h=> .cons (.d (by simpa using h 0 x rfl)) (zqw (by simpa using hl) fun j y hy=>by simpa using h (j+1) y (by simpa using hy))
 |_::_,[],hl,_=>by simp at hl
theorem zBX {app:App} (happ:zli T P sh app) (s:Sim P sh κ φ H w) {f:FuncId} {args:List V} {margs:List Value} (ha:Args φ w (stab κ φ H) args margs) {v:V}
 (h:((zba (res 8) H args).bind fun(ds,h')=>(app (.d (.fn f)) (ds.map .d) Heap.empty).bind fun(v,h2)=>(res 8 h2 v).map fun(x,_)=>(V.d x,h'))=some (v,H')):
 Does P w (.func (.func f) #[] #[]) margs (zfd P sh κ φ H w v H'):=by
 obtain⟨⟨ds,H1⟩,h1,h⟩:=zas h
 obtain⟨⟨v2,h2⟩,h3,h⟩:=zas h
 obtain⟨⟨x,h4⟩,h5,h6⟩:=zaw h
 simp only[Prod.mk.injEq]at h6
 obtain⟨rfl,rfl⟩:=h6
 obtain⟨a1,a2⟩:=zjy ha
 obtain⟨s1,e1,l1,r1⟩:=zmy (zwY 8) args H ds H1 (fun j=>margs.getD j undef) s h1 a2
 let κ':Ctx T:=⟨w.heap.size,stab κ φ H1⟩
 let φ0:Place:=fun _=> .unborn
 have s0:Sim P sh κ' φ0 Heap.empty w:=⟨Nat.le_refl _,fun b m sz h=>(by cases h),fun b x h=>(by simp[Heap.empty]at h),fun _ _=>rfl,fun b b' m sz sz' h=>(by cases h),fun x hx=>⟨⟨fun _=>(s1.tab x hx).1,fun b sz hb=>(by cases hb)⟩,(s1.tab x hx).2⟩⟩
 have ha':Args φ0 w (stab κ' φ0 Heap.empty) (ds.map .d) margs:=zqw (by rw[a1,l1]) fun j y hy=>
  (r1 j y hy).mono fun m o v hs hc=>⟨⟨fun _=>hs,fun b sz hb=>(by cases hb)⟩,hc⟩
 refine(happ κ' φ0 Heap.empty w (.d (.fn f)) (ds.map .d) v2 h2 _ margs s0 (.d (.fn f)) ha' h3).mono fun e w2 hp=> ?_
 cases e with
 |returned mv=>
  obtain⟨φ2,s2,e2,r2,_⟩:=hp
  obtain⟨s3,e3,r3⟩:=zwY (P:=P) (sh:=sh) (κ:=κ') (φ:=φ2) (w:=w2) 8 h2 v2 x h4 mv s2 h5 r2
  obtain⟨s4,e4⟩:=zmE s1 (w':=w2) (fun m hm=>(e2.frame m hm (fun b sz hb=>by cases hb)).1) e2.size e2.os e2.tape e2.output
  refine⟨φ,s4,e1.trans e4,.d (r3.mono fun m o v hs hc=>⟨?_,hc⟩),fun _ _ h=>h⟩
  rcases Nat.lt_or_ge m w.heap.size with hm|hm
  ·exact hs.1 hm
  ·refine⟨fun hB=> ?_,fun b sz hb=> ?_⟩
   ·have:=s1.base;omega
   ·have:=s1.lt hb;omega
 |panicked c=>exact hp.elim
 |outgrown=>exact hp.elim
section
variable {K:Opd→Prop} {U:Nat→Bool} {nt:Nat} {wr:List (Nat×Nat)} {env r:Regs} {ρ:Operand→Value}
theorem zxt {app:App} (happ:zli T P sh app) (s:Sim P sh κ φ H w) (ho:zbA K U nt wr env r ρ φ w (stab κ φ H)) (hfn:∀f,ρ (.func f)= .func (.func f) #[] #[]) {o:Oper} {so:SOp} (hp:prepOp P U nt wr o=some so) (hV:∀y∈so.opds,K y) {c:_root_.Go.Call} {g:Operand} (hop:o.op= .call c) (hg:c.callee= .value g) {v:V}
 (h:zad app sh fr env r H so=some (v,H')):Does P w (ρ g) (c.args.map ρ).toList (zfd P sh κ φ H w v H'):=by
 unfold prepOp at hp;rw[hop]at hp;dsimp only at hp
 unfold zmm at hp
 rw[hg]at hp
 dsimp only at hp
 split at hp
 ·rename_i f
  obtain⟨a,h1,rfl⟩:=zaw hp
  have ha:Args φ w (stab κ φ H) (a.map (opd env r)) (c.args.map ρ).toList:=by rw[Array.toList_map];exact ho.all h1 hV
  rw[hfn]
  simp only[zad]at h
  split at h
  ·exact happ κ φ H w _ _ v H' _ _ s (.d (.fn f)) ha h
  ·exact zBX happ s ha h
 ·obtain⟨g',h0,hp⟩:=zas hp
  obtain⟨a,h1,rfl⟩:=zaw hp
  have ha:Args φ w (stab κ φ H) (a.map (opd env r)) (c.args.map ρ).toList:=by rw[Array.toList_map];exact ho.all h1 (fun y hy=>hV y (by simp[SOp.opds,hy]))
  simp only[zad]at h
  exact happ κ φ H w _ _ v H' _ _ s (ho g g' h0 (hV _ (by simp[SOp.opds]))) ha h
end
end Go.AI
namespace Go.AI
variable {P:Program} {sh:FuncId→Bool} {T:Tabs} {κ:Ctx T} {φ φ':Place} {H H':Heap} {w w' w'':World} {S S':Nat→Nat→Prop} {fr:Nat}
def zua (ro:Option Nat):Fence:={Fence.wide with round:=ro}
theorem zhp {ro:Option Nat} {n:Nat} {f:FuncId} {args:Array Value} {R:Ending→World→Prop}:CallsIn (zua ro) n P f args w R↔CallsIn Fence.wide n P f args w R:=Iff.rfl
theorem zmF {ro:Option Nat} {n l:Nat} {f:FuncId} {tmps:Array Value} {a b:Code} {R:Ending→World→Prop}:RoundIn (zua ro) n P l f tmps a b w R↔RoundIn Fence.wide n P l f tmps a b w R:=Iff.rfl
section
variable {K:Opd→Prop} {U:Nat→Bool} {nt:Nat} {wr:List (Nat×Nat)} {env r:Regs}
theorem zOb {ro : Option Nat} {app : App} (happ : zli T P sh app) (s : Sim P sh κ φ H w) (hfr : φ fr = .unborn) (hlt : fr < H.next) {a : Act} (ho : zbA K U nt wr env r a.eval φ w (stab κ φ H)) {o : Oper} {so : SOp} (hp : prepOp P U nt wr o = some so)
    (hV : ∀ y ∈ so.opds, K y) {v : V} (h : zad app sh fr env r H so = some (v, H')) {next : Act → World → Prop} {Q : Exit → Act → World → Prop}
    (hn : ∀ mv w' φ', Sim P sh κ φ' H' w' → Ext κ φ H w φ' H' w' → Rel φ' w' (stab κ φ' H') v mv → (∀ b, b < H.next → φ b = .unborn → b ≠ fr → φ' b = .unborn) → next (a.put o.dst mv) w') :
    o.wpIn (zua ro) 0 P a w next Q := by
  refine ⟨fun _ _ => trivial, ?_⟩
  have hnd : ∀ c, o.op ≠ .defer c := fun c hc => by unfold prepOp at hp; rw [hc] at hp; cases hp
  rw [Oper.semAt_eq _ _ _ hnd]
  by_cases hcall : ∃ c g, o.op = .call c ∧ c.callee = .value g
  · obtain ⟨c, g, hop, hg⟩ := hcall
    have hd := zxt happ s ho (fun _ => rfl) hp hV hop hg h
    have hex : execOp a.eval o = (do let d ← Deferred.ofValue (a.eval g) (c.args.map a.eval); invoke d.target d.args) := by
      unfold execOp; rw [hop]; dsimp only; unfold resolve; rw [hg]
    rw [hex]
    cases hd with
    | fn f first cap fn hv hf hname hb hc =>
      rw [Array.toArray_toList] at hc
      have hne : fn.name ≠ "runtime.NumGoroutine" := by simpa using hname
      have hbn' : fn.body ≠ none := fun hbb => by rw [hbb] at hb; cases hb
      have hbn : fn.body.isNone = false := by
        cases hbb : fn.body with
        | none => rw [hbb] at hb; cases hb
        | some c => rfl
      have hrun : ((do let d ← Deferred.ofValue (a.eval g) (c.args.map a.eval); invoke d.target d.args : Sem Next)).run P w = .ok (.enter f (first ++ (c.args.map a.eval) ++ cap)) w := by
        rw [hv]
        simp [Deferred.ofValue, invoke, callFunc, hf, hne, hbn']
      rw [hrun, Oper.uponIn_enter]
      refine ⟨fun h => (by cases h), CallsIn.mono (zhp.2 hc) fun e w' hp => ?_⟩
      cases e with
      | returned mv =>
        obtain ⟨φ', s1, e1, r1, u1⟩ := hp
        exact hn mv w' φ' s1 e1 r1 (fun b hb hu _ => u1 b hb hu)
      | panicked c => exact hp.elim
      | outgrown => exact hp.elim
    | yld l rl hv hl hs hc =>
      rw [Array.toArray_toList] at hc
      have hrun : ((do let d ← Deferred.ofValue (a.eval g) (c.args.map a.eval); invoke d.target d.args : Sem Next)).run P w = .ok (.round l rl.fn ((rl.params.zip (c.args.map a.eval)).foldl (fun tmps (t, a) => tmps.setIfInBounds t a) rl.tmps) rl.assign rl.body) w := by
        rw [hv]
        have hy := run_yield (P := P) (w := w) (args := c.args.map a.eval) hl (by simpa using hs)
        simp only [Deferred.ofValue, Sem.run_bind, Sem.run_pure, Result.andThen_ok, invoke]
        rw [Array.empty_append]
        exact hy
      rw [hrun, Oper.uponIn_round]
      refine ⟨fun h => (by cases h), RoundIn.mono (zmF.2 hc) fun e w' hp => ?_⟩
      cases e with
      | returned mv =>
        obtain ⟨φ', s1, e1, r1, u1⟩ := hp
        exact hn mv w' φ' s1 e1 r1 (fun b hb hu _ => u1 b hb hu)
      | panicked c => exact hp.elim
      | outgrown => exact hp.elim
  · have hopr := zOa s hfr hlt ho (fun _ => rfl) hp hV (fun c g hop hg => hcall ⟨c, g, hop, hg⟩) h
    obtain ⟨mv, w', φ', hr, s1, e1, r1, u1⟩ := hopr
    rcases hr with hr | ⟨hr, rfl⟩
    · rw [hr, Oper.uponIn_value]
      exact hn mv w' φ' s1 e1 r1 (fun b _ hu hb => u1 b hu hb)
    · rw [hr, Oper.uponIn_skip]
      exact hn undef w' φ' s1 e1 r1 (fun b _ hu hb => u1 b hu hb)
end
end Go.AI
