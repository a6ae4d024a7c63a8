/- Shaken copy of a longer text: what one law needs. Its conditions: none. -/
import Derived.Test.YthodcjjgimeeoaaGreatZAiA
import Derived.CallsIn
import Derived.RangeFuncIn
import Derived.Laws.Cells
import Derived.Laws.StructEq
import Derived.Laws.Append
import Derived.Laws.MakeOwn
import Derived.Laws.Build
import Derived.Laws.RangeString
import Derived.Laws.Entries
set_option linter.unusedSimpArgs false
set_option linter.unusedVariables false
set_option linter.unusedSectionVars false
set_option linter.unnecessarySimpa false
namespace Go.AI
inductive Loc where
 |unborn|at(m sz:Nat)|dead
abbrev Place:=Nat→Loc
inductive RD (w:World) (S:Nat→Nat→Prop):D→Value→Prop
 |bool (b:Bool):RD w S (.bool b) (.bool b)
 |int (k:IntKind) (n:Int):RD w S (.int k n) (.int k n)
 |str (s:ByteArray):RD w S (.str s.data.toList) (.string s)
 |nil:RD w S (.list true []) (.slice none 0 0)
 |empty (a:Addr):RD w S (.list false []) (.slice (some a) 0 0)
 |list {l:List D} {m off cap sz:Nat} (f:Nat→Nat→Value) (hc:l.length≤cap) (hz:True)
  (hs:∀(i:Nat) (e:D),l[i]? =some e→e.cells.length=sz)
  (hcell:∀(i:Nat) (e:D) (j:Nat),l[i]? =some e→j<sz→w.cell? ⟨m,off+(i*sz+j),none⟩=some (f i j)∧S m (off+(i*sz+j)))
  (hv:∀(i:Nat) (e:D) (j:Nat) (x:D),l[i]? =some e→e.cells[j]? =some x→RD w S x (f i j)):RD w S (.list false l) (.slice (some ⟨m,off,none⟩) l.length cap)
 |agg {cs:List D} {vs:Array Value} (hs:vs.size=cs.length) (h:∀(j:Nat) x v,cs[j]? =some x→vs[j]? =some v→RD w S x v):RD w S (.agg cs) (.agg vs)
 |tuple {cs:List D} {vs:Array Value} (hs:vs.size=cs.length) (h:∀(j:Nat) x v,cs[j]? =some x→vs[j]? =some v→RD w S x v):RD w S (.tuple cs) (.tuple vs)
 |fn (f:FuncId):RD w S (.fn f) (.func (.func f) #[] #[])
 |nilp:RD w S .nilp (.pointer none)
 |nilf:RD w S .nilf .nilFunc
 |nilm:RD w S .nilm (.map none)
 |nili:RD w S .nili .nilIface
inductive Rel (φ:Place) (w:World) (S:Nat→Nat→Prop):V→Value→Prop
 |d {x:D} {v:Value} (h:RD w S x v):Rel φ w S (.d x) v
 |ptr {b i off:Nat} {a:Addr} (h:φ b= .dead∨∃m sz,φ b= .at m sz∧a=⟨m,i*sz+off,none⟩):Rel φ w S (.ptr b i off) (.pointer (some a))
 |rp {x:D} {off m o:Nat} (f:Nat→Value) (hcell:∀j,j<x.cells.length→w.cell? ⟨m,o+j,none⟩=some (f j)∧S m (o+j))
  (hv:∀(j:Nat) y,x.cells[j]? =some y→RD w S y (f j)):Rel φ w S (.rp x off) (.pointer (some ⟨m,o+off,none⟩))
 |sl {b off len:Nat} {a:Addr} {cap:Nat} (hc:len≤cap)
  (h:φ b= .dead∨∃m sz t k,φ b= .at m sz∧a=⟨m,off*sz,none⟩∧w.shape? m=some (t,k)∧(off+cap)*sz≤k):Rel φ w S (.sl b off len) (.slice (some a) len cap)
 |agg {cs:List V} {vs:Array Value} (hs:vs.size=cs.length) (h:∀(j:Nat) x v,cs[j]? =some x→vs[j]? =some v→Rel φ w S x v):Rel φ w S (.agg cs) (.agg vs)
 |tuple {cs:List V} {vs:Array Value} (hs:vs.size=cs.length) (h:∀(j:Nat) x v,cs[j]? =some x→vs[j]? =some v→Rel φ w S x v):Rel φ w S (.tuple cs) (.tuple vs)
 |clo {f:FuncId} {as bs:List V} {vs us:Array Value} (hs:vs.size=as.length) (h:∀(j:Nat) x v,as[j]? =some x→vs[j]? =some v→Rel φ w S x v)
  (ht:us.size=bs.length) (h':∀(j:Nat) x v,bs[j]? =some x→us[j]? =some v→Rel φ w S x v):Rel φ w S (.clo f as bs) (.func (.func f) vs us)
 |map {b r:Nat} (h:φ b= .dead∨∃sz,φ b= .at r sz):Rel φ w S (.map b) (.map (some r))
 |it {b m:Nat} (h:φ b= .dead∨∃sz,φ b= .at m sz):Rel φ w S (.it b) (.pointer (some ⟨m,0,none⟩))
 |yld {b m:Nat} (h:φ b= .dead∨∃sz,φ b= .at m sz):Rel φ w S (.yld b) (.func (.yield m) #[] #[])
 |undef (v:Value):Rel φ w S .undef v
abbrev Tabs:=List (Nat×Nat×Value)
def Met (T:Tabs) (S:Nat→Nat→Prop) (w:World):Prop:=∀x∈T,S x.1 x.2.1∧w.cell? ⟨x.1,x.2.1,none⟩=some x.2.2
theorem Met.mono {T:Tabs} {S S':Nat→Nat→Prop} {w w':World} (h:Met T S w) (hS:∀m o v,S m o→w.cell? ⟨m,o,none⟩=some v→S' m o∧w'.cell? ⟨m,o,none⟩=some v):Met T S' w':=
 fun x hx=>hS _ _ _ (h x hx).1 (h x hx).2
structure Ctx (T:Tabs) where
 B:Nat
 S0:Nat→Nat→Prop
def stab {T:Tabs} (κ:Ctx T) (φ:Place) (H:Heap) (m o:Nat):Prop:=
 (m<κ.B→κ.S0 m o)∧∀b sz,φ b= .at m sz→∃l fz,H.get b=some (.els sz l fz)∧o<fz*sz
def RR (φ:Place) (w:World) (S:Nat→Nat→Prop) (U:Nat→Bool) (nt:Nat) (r:Regs) (tmps:Array Value):Prop:=
 nt≤tmps.size∧∀t,U t=true→t<nt→Rel φ w S (r t) (tmps.getD t undef)
def LSt.is:LSt→LoopState→Prop
 | .ready,.ready| .busy,.busy| .done,.done| .exhausted,.exhausted=>True
 |_,_=>False
def Jump.is:Option Jump→Option Code→Prop
 |none,none=>True
 |some .ret,some .ret=>True
 |some (.exit i),some (.exit j)=>i=j
 |_,_=>False
def RB (P:Program) (sh:FuncId→Bool) (φ:Place) (w:World) (S:Nat→Nat→Prop) (m sz:Nat):Blk→Prop
 | .els z l fz=>sz=z∧fz≤l.length∧∃cs t,w.heap[m]? =some (.cells cs t (0,0))∧l.length*sz≤cs.size∧
  ∀(i:Nat) (e:V),l[i]? =some e→e.cells.length=sz∧∀(j:Nat) x v,e.cells[j]? =some x→cs[i*sz+j]? =some v→Rel φ w S x v
 | .map es clock=>∃mes,w.heap[m]? =some (.map mes clock)∧mes.size=es.length∧
  (∀(i:Nat) (e:D×V×Nat) (me:MapEntry),es[i]? =some e→mes[i]? =some me→RD w S e.1 me.key∧Rel φ w S e.2.1 me.val∧me.born=e.2.2∧e.2.2<clock)∧
  ∀(i j:Nat) (e e':D×V×Nat),es[i]? =some e→es[j]? =some e'→e.2.2=e'.2.2→i=j
 | .it s pos=>∃s',w.heap[m]? =some (.stringIter s' pos)∧s'.data.toList=s
 | .loop L=>∃r U nt,w.heap[m]? =some (.loop r)∧L.state.is r.state∧Jump.is L.pending r.pending∧L.params=r.params.toList∧
  zcN P U nt sh true r.assign=some L.assign∧zcN P U nt sh true r.body=some L.body∧(∀t∈L.params,t<nt)∧RR φ w S U nt L.regs r.tmps
structure Sim {T:Tabs} (P:Program) (sh:FuncId→Bool) (κ:Ctx T) (φ:Place) (H:Heap) (w:World):Prop where
 base:κ.B≤w.heap.size
 blk:∀b m sz,φ b= .at m sz→κ.B≤m∧∃x,H.get b=some x∧RB P sh φ w (stab κ φ H) m sz x
 live:∀b x,H.get b=some x→∃m sz,φ b= .at m sz
 next:∀b,H.next≤b→φ b= .unborn
 inj:∀b b' m sz sz',φ b= .at m sz→φ b'= .at m sz'→b=b'
 tab:Met T (stab κ φ H) w
structure Ext {T:Tabs} (κ:Ctx T) (φ:Place) (H:Heap) (w:World) (φ':Place) (H':Heap) (w':World):Prop where
 loc:∀b,φ b≠.unborn→φ' b=φ b∨φ' b= .dead
 cell:∀m o v,stab κ φ H m o→w.cell? ⟨m,o,none⟩=some v→stab κ φ' H' m o∧w'.cell? ⟨m,o,none⟩=some v
 frame:∀m,m<w.heap.size→(∀b sz,φ b≠.at m sz)→w'.heap[m]? =w.heap[m]?∧∀b sz,φ' b≠.at m sz
 size:w.heap.size≤w'.heap.size
 os:w'.os=w.os
 tape:w'.tape=w.tape
 output:w'.output=w.output
 shape:∀m t k,w.shape? m=some (t,k)→w'.shape? m=some (t,k)
 next:H.next≤H'.next
variable {P:Program} {sh:FuncId→Bool} {T:Tabs} {κ:Ctx T} {φ φ' φ'':Place} {H H' H'':Heap} {w w' w'':World} {S S':Nat→Nat→Prop}
theorem Ext.refl:Ext κ φ H w φ H w:=
 ⟨fun _ _=> .inl rfl,fun _ _ _ h h'=>⟨h,h'⟩,fun _ _ h=>⟨rfl,h⟩,Nat.le_refl _,rfl,rfl,rfl,fun _ _ _ h=>h,Nat.le_refl _⟩
theorem Ext.trans (a:Ext κ φ H w φ' H' w') (b:Ext κ φ' H' w' φ'' H'' w''):Ext κ φ H w φ'' H'' w'' where
 loc:=fun k h=>by
  rcases a.loc k h with h1|h1
  ·rcases b.loc k (h1▸h)with h2|h2
   ·exact .inl (h2.trans h1)
   ·exact .inr h2
  ·rcases b.loc k (by rw[h1];simp)with h2|h2
   ·exact .inr (h2.trans h1)
   ·exact .inr h2
 cell:=fun m o v h h'=>let⟨h1,h2⟩:=a.cell m o v h h';b.cell m o v h1 h2
 frame:=fun m hm h=>by
  obtain⟨h1,h2⟩:=a.frame m hm h
  obtain⟨h3,h4⟩:=b.frame m (Nat.lt_of_lt_of_le hm a.size) h2
  exact⟨h3.trans h1,h4⟩
 size:=Nat.le_trans a.size b.size
 os:=b.os.trans a.os
 tape:=b.tape.trans a.tape
 output:=b.output.trans a.output
 shape:=fun m t k h=>b.shape m t k (a.shape m t k h)
 next:=Nat.le_trans a.next b.next
theorem RD.mono (hS:∀m o v,S m o→w.cell? ⟨m,o,none⟩=some v→S' m o∧w'.cell? ⟨m,o,none⟩=some v) {x:D} {v:Value} (h:RD w S x v):RD w' S' x v:=by
 induction h with
 |bool b=>exact .bool b
 |int k n=>exact .int k n
 |str s=>exact .str s
 |nil=>exact .nil
 |empty a=>exact .empty a
 |list f hc hz hs hcell _ ih=>
  exact .list f hc hz hs (fun i e j he hj=>let⟨h1,h2⟩:=hcell i e j he hj;let⟨h3,h4⟩:=hS _ _ _ h2 h1;⟨h4,h3⟩) ih
 |agg hs _ ih=>exact .agg hs ih
 |tuple hs _ ih=>exact .tuple hs ih
 |fn f=>exact .fn f
 |nilp=>exact .nilp
 |nilf=>exact .nilf
 |nilm=>exact .nilm
 |nili=>exact .nili
theorem Rel.mono (hloc:∀b,φ b≠.unborn→φ' b=φ b∨φ' b= .dead)
 (hS:∀m o v,S m o→w.cell? ⟨m,o,none⟩=some v→S' m o∧w'.cell? ⟨m,o,none⟩=some v)
 (hsh:∀m t k,w.shape? m=some (t,k)→w'.shape? m=some (t,k)) {x:V} {v:Value} (h:Rel φ w S x v):Rel φ' w' S' x v:=by
 have keep:∀{b m sz},φ b= .at m sz→φ' b= .dead∨φ' b= .at m sz:=by
  intro b m sz e
  rcases hloc b (by rw[e];simp)with h|h
  ·exact .inr (h.trans e)
  ·exact .inl h
 have kept:∀{b},φ b= .dead→φ' b= .dead:=by
  intro b e
  rcases hloc b (by rw[e];simp)with h|h
  ·exact h.trans e
  ·exact h
 induction h with
 |d h=>exact .d (h.mono hS)
 |ptr h=>
  refine .ptr ?_
  rcases h with h|⟨m,sz,h,ha⟩
  ·exact .inl (kept h)
  ·rcases keep h with h'|h'
   ·exact .inl h'
   ·exact .inr ⟨m,sz,h',ha⟩
 |rp f hcell hv=>exact .rp f (fun j hj=>let⟨h1,h2⟩:=hcell j hj;let⟨h3,h4⟩:=hS _ _ _ h2 h1;⟨h4,h3⟩) (fun j y hy=>(hv j y hy).mono hS)
 |sl hc h=>
  refine .sl hc ?_
  rcases h with h|⟨m,sz,t,k,h,ha,hk,hb⟩
  ·exact .inl (kept h)
  ·rcases keep h with h'|h'
   ·exact .inl h'
   ·exact .inr ⟨m,sz,t,k,h',ha,hsh _ _ _ hk,hb⟩
 |agg hs _ ih=>exact .agg hs ih
 |tuple hs _ ih=>exact .tuple hs ih
 |clo hs _ ht _ ih ih'=>exact .clo hs ih ht ih'
 |map h=>
  refine .map ?_
  rcases h with h|⟨sz,h⟩
  ·exact .inl (kept h)
  ·rcases keep h with h'|h'
   ·exact .inl h'
   ·exact .inr ⟨sz,h'⟩
 |it h=>
  refine .it ?_
  rcases h with h|⟨sz,h⟩
  ·exact .inl (kept h)
  ·rcases keep h with h'|h'
   ·exact .inl h'
   ·exact .inr ⟨sz,h'⟩
 |yld h=>
  refine .yld ?_
  rcases h with h|⟨sz,h⟩
  ·exact .inl (kept h)
  ·rcases keep h with h'|h'
   ·exact .inl h'
   ·exact .inr ⟨sz,h'⟩
 |undef v=>exact .undef v
theorem Ext.rd (e:Ext κ φ H w φ' H' w') {x:D} {v:Value} (h:RD w (stab κ φ H) x v):RD w' (stab κ φ' H') x v:=h.mono e.cell
theorem Ext.rv (e:Ext κ φ H w φ' H' w') {x:V} {v:Value} (h:Rel φ w (stab κ φ H) x v):Rel φ' w' (stab κ φ' H') x v:=h.mono e.loc e.cell e.shape
theorem Ext.rr (e:Ext κ φ H w φ' H' w') {U:Nat→Bool} {nt:Nat} {r:Regs} {tmps:Array Value} (h:RR φ w (stab κ φ H) U nt r tmps):RR φ' w' (stab κ φ' H') U nt r tmps:=
 ⟨h.1,fun t hu ht=>e.rv (h.2 t hu ht)⟩
end Go.AI
namespace Go.AI
variable {P:Program} {sh:FuncId→Bool} {T:Tabs} {κ:Ctx T} {φ φ':Place} {H H':Heap} {w w':World} {S S':Nat→Nat→Prop}
theorem zcc (H:Heap) (b:Nat) (x:Blk):(H.put b x).get b=some x:=by simp[Heap.put,Heap.set]
theorem zcd (H:Heap) {b c:Nat} (x:Blk) (hn:c≠b):(H.put b x).get c=H.get c:=by simp[Heap.put,Heap.set,beq_false_of_ne hn]
theorem zkm (H:Heap) (b:Nat):(H.del b).get b=none:=by simp[Heap.del,Heap.set]
theorem zeY (H:Heap) {b c:Nat} (hn:c≠b):(H.del b).get c=H.get c:=by simp[Heap.del,Heap.set,beq_false_of_ne hn]
theorem zmv (H:Heap) (b:Nat) (x:Blk):(H.put b x).next=H.next:=rfl
def Place.set (φ:Place) (b:Nat) (l:Loc):Place:=fun c=>if c=b then l else φ c
theorem zaU (φ:Place) (b:Nat) (l:Loc):φ.set b l b=l:=by simp[Place.set]
theorem zaR (φ:Place) {b c:Nat} (l:Loc) (hn:c≠b):φ.set b l c=φ c:=by simp[Place.set,hn]
theorem RB.mono (e:Ext κ φ H w φ' H' w') {m sz:Nat} (hm:w'.heap[m]? =w.heap[m]?) {x:Blk} (h:RB P sh φ w (stab κ φ H) m sz x):RB P sh φ' w' (stab κ φ' H') m sz x:=by
 cases x with
 |els z l fz=>
  obtain⟨h0,h1,cs,t,h2,h3,h4⟩:=h
  exact⟨h0,h1,cs,t,hm.trans h2,h3,fun i e' he=>let⟨h5,h6⟩:=h4 i e' he;⟨h5,fun j x v hx hv=>e.rv (h6 j x v hx hv)⟩⟩
 |map es clock=>
  obtain⟨mes,h1,h2,h3,h4⟩:=h
  exact⟨mes,hm.trans h1,h2,fun i e' me h5 h6=>let⟨a,b,c,d⟩:=h3 i e' me h5 h6;⟨e.rd a,e.rv b,c,d⟩,h4⟩
 |it s pos=>obtain⟨s',h1,h2⟩:=h;exact⟨s',hm.trans h1,h2⟩
 |loop L=>
  obtain⟨r,U,nt,h1,h2,h3,h4,h5,h6,h7,h8⟩:=h
  exact⟨r,U,nt,hm.trans h1,h2,h3,h4,h5,h6,h7,e.rr h8⟩
theorem RB.lt {m sz:Nat} {x:Blk} (h:RB P sh φ w S m sz x):m<w.heap.size:=by
 have key:∀o,w.heap[m]? =some o→m<w.heap.size:=fun o ho=>by
  rcases Nat.lt_or_ge m w.heap.size with h|h
  ·exact h
  ·rw[Array.getElem?_eq_none h]at ho;cases ho
 cases x with
 |els z l fz=>obtain⟨_,_,cs,t,h2,_⟩:=h;exact key _ h2
 |map es clock=>obtain⟨mes,h1,_⟩:=h;exact key _ h1
 |it s pos=>obtain⟨s',h1,_⟩:=h;exact key _ h1
 |loop L=>obtain⟨r,U,nt,h1,_⟩:=h;exact key _ h1
theorem Sim.lt (s:Sim P sh κ φ H w) {b m sz:Nat} (h:φ b= .at m sz):m<w.heap.size:=let⟨_,_,_,hr⟩:=s.blk b m sz h;hr.lt
theorem Sim.get (s:Sim P sh κ φ H w) {b:Nat} {x:Blk} (h:H.get b=some x):∃m sz,φ b= .at m sz∧RB P sh φ w (stab κ φ H) m sz x:=by
 obtain⟨m,sz,hφ⟩:=s.live b x h
 obtain⟨_,y,hy,hr⟩:=s.blk b m sz hφ
 rw[h]at hy;cases hy
 exact⟨m,sz,hφ,hr⟩
theorem Sim.born (s:Sim P sh κ φ H w) {b:Nat} {x:Blk} (h:H.get b=some x):b<H.next:=by
 obtain⟨m,sz,hφ,_⟩:=s.get h
 rcases Nat.lt_or_ge b H.next with h|h
 ·exact h
 ·rw[s.next b h]at hφ;cases hφ
structure Upd (w:World) (m:Nat) (o:Obj) (w':World):Prop where
 size:w'.heap.size=w.heap.size
 at_:w'.heap[m]? =some o
 other:∀k,k≠m→w'.heap[k]? =w.heap[k]?
 os:w'.os=w.os
 tape:w'.tape=w.tape
 output:w'.output=w.output
theorem cell_of {a:Addr} (h:w'.heap[a.block]? =w.heap[a.block]?):w'.cell? a=w.cell? a:=by simp only[World.cell?,h]
theorem zhm {m:Nat} (h:w'.heap[m]? =w.heap[m]?):w'.shape? m=w.shape? m:=by simp only[World.shape?,h]
theorem zkn (s:Sim P sh κ φ H w) {b m sz:Nat} (hφ:φ b= .at m sz) {x':Blk} {o:Obj} (hu:Upd w m o w')
 (hst:∀k,stab κ φ H m k→stab κ φ (H.put b x') m k)
 (hcell:∀k v,stab κ φ H m k→w.cell? ⟨m,k,none⟩=some v→w'.cell? ⟨m,k,none⟩=some v)
 (hsh:w'.shape? m=w.shape? m)
 (hb:Ext κ φ H w φ (H.put b x') w'→RB P sh φ w' (stab κ φ (H.put b x')) m sz x'):
 Sim P sh κ φ (H.put b x') w'∧Ext κ φ H w φ (H.put b x') w':=by
 have hne:∀k sz',φ k= .at m sz'→k=b:=fun k sz' h=>s.inj k b m sz' sz h hφ
 have e:Ext κ φ H w φ (H.put b x') w':=by
  refine⟨fun _ _=> .inl rfl,?_,?_,Nat.le_of_eq hu.size.symm,hu.os,hu.tape,hu.output,?_,Nat.le_refl _⟩
  ·intro m' o' v h1 h2
   by_cases hm:m'=m
   ·subst hm;exact⟨hst _ h1,hcell _ _ h1 h2⟩
   ·refine⟨⟨h1.1,fun k sz' hk=> ?_⟩,(cell_of (hu.other _ hm)).trans h2⟩
    obtain⟨l,fz,h3,h4⟩:=h1.2 k sz' hk
    refine⟨l,fz,?_,h4⟩
    rw[zcd _ _ (fun hkb=>hm (by rw[hkb,hφ]at hk;cases hk;rfl))]
    exact h3
  ·intro m' _ hno
   have hm:m'≠m:=fun hm=>hno b sz (hm▸hφ)
   exact⟨hu.other _ hm,hno⟩
  ·intro m' t k h
   by_cases hm:m'=m
   ·subst hm;rw[hsh];exact h
   ·rw[zhm (hu.other _ hm)];exact h
 refine⟨⟨Nat.le_trans s.base e.size,?_,?_,s.next,s.inj,s.tab.mono e.cell⟩,e⟩
 ·intro k m' sz' hk
  by_cases hkb:k=b
  ·subst hkb;rw[hφ]at hk;cases hk
   exact⟨(s.blk k m sz hφ).1,x',zcc _ _ _,hb e⟩
  ·obtain⟨h1,x,h2,h3⟩:=s.blk k m' sz' hk
   have hm:m'≠m:=fun hm=>hkb (hne k sz' (hm▸hk))
   exact⟨h1,x,by rw[zcd _ _ hkb];exact h2,h3.mono e (hu.other _ hm)⟩
 ·intro k x h
  by_cases hkb:k=b
  ·subst hkb;exact⟨m,sz,hφ⟩
  ·rw[zcd _ _ hkb]at h;exact s.live k x h
theorem zko (s:Sim P sh κ φ H w) {fr sz:Nat} (hfr:φ fr= .unborn) (hlt:fr<H.next) {x:Blk} {o:Obj}
 (hb:let w':World:={w with heap:=w.heap.push o};Ext κ φ H w (φ.set fr (.at w.heap.size sz)) (H.put fr x) w'→w'.heap[w.heap.size]? =some o→
  RB P sh (φ.set fr (.at w.heap.size sz)) w' (stab κ (φ.set fr (.at w.heap.size sz)) (H.put fr x)) w.heap.size sz x):
 let w':World:={w with heap:=w.heap.push o}
 Sim P sh κ (φ.set fr (.at w.heap.size sz)) (H.put fr x) w'∧Ext κ φ H w (φ.set fr (.at w.heap.size sz)) (H.put fr x) w':=by
 intro w'
 have hother:∀k,k<w.heap.size→w'.heap[k]? =w.heap[k]? :=fun k hk=>by
  show(w.heap.push o)[k]? =_
  rw[Array.getElem?_push,if_neg (by omega)]
 have hnew:w'.heap[w.heap.size]? =some o:=by
  show(w.heap.push o)[w.heap.size]? =_
  rw[Array.getElem?_push,if_pos rfl]
 have hcelllt:∀(m k:Nat) v,w.cell? ⟨m,k,none⟩=some v→m<w.heap.size:=fun m k v h=>by
  rcases Nat.lt_or_ge m w.heap.size with h1|h1
  ·exact h1
  ·simp[World.cell?,Array.getElem?_eq_none h1]at h
 have e:Ext κ φ H w (φ.set fr (.at w.heap.size sz)) (H.put fr x) w':=by
  refine⟨?_,?_,?_,by show _≤(w.heap.push o).size;simp,rfl,rfl,rfl,?_,Nat.le_refl _⟩
  ·intro b hbn
   have:b≠fr:=fun h=>hbn (h▸hfr)
   exact .inl (zaR _ _ this)
  ·intro m k v h1 h2
   have hm:=hcelllt m k v h2
   refine⟨⟨h1.1,fun b sz' hb'=> ?_⟩,(cell_of (hother _ hm)).trans h2⟩
   by_cases hbf:b=fr
   ·subst hbf;rw[zaU]at hb';cases hb';omega
   ·rw[zaR _ _ hbf]at hb'
    obtain⟨l,fz,h3,h4⟩:=h1.2 b sz' hb'
    exact⟨l,fz,by rw[zcd _ _ hbf];exact h3,h4⟩
  ·intro m hm hno
   refine⟨hother _ hm,fun b sz' hb'=> ?_⟩
   by_cases hbf:b=fr
   ·subst hbf;rw[zaU]at hb';cases hb';omega
   ·rw[zaR _ _ hbf]at hb';exact hno _ _ hb'
  ·intro m t k h
   have hm:m<w.heap.size:=by
    rcases Nat.lt_or_ge m w.heap.size with h1|h1
    ·exact h1
    ·simp[World.shape?,Array.getElem?_eq_none h1]at h
   rw[zhm (hother _ hm)];exact h
 refine⟨⟨Nat.le_trans s.base e.size,?_,?_,?_,?_,s.tab.mono e.cell⟩,e⟩
 ·intro b m sz' hb'
  by_cases hbf:b=fr
  ·subst hbf;rw[zaU]at hb';cases hb'
   exact⟨s.base,x,zcc _ _ _,hb e hnew⟩
  ·rw[zaR _ _ hbf]at hb'
   obtain⟨h1,y,h2,h3⟩:=s.blk b m sz' hb'
   exact⟨h1,y,by rw[zcd _ _ hbf];exact h2,h3.mono e (hother _ h3.lt)⟩
 ·intro b y h
  by_cases hbf:b=fr
  ·subst hbf;exact⟨_,_,zaU _ _ _⟩
  ·rw[zcd _ _ hbf]at h
   obtain⟨m,sz',h'⟩:=s.live b y h
   exact⟨m,sz',by rw[zaR _ _ hbf];exact h'⟩
 ·intro b hbn
  have:b≠fr:=by intro h;rw[zmv]at hbn;omega
  rw[zaR _ _ this];exact s.next b hbn
 ·intro b b' m sz1 sz2 h1 h2
  by_cases hb1:b=fr<;>by_cases hb2:b'=fr
  ·rw[hb1,hb2]
  ·subst hb1;rw[zaU]at h1;cases h1;rw[zaR _ _ hb2]at h2;have:=s.lt h2;omega
  ·subst hb2;rw[zaU]at h2;cases h2;rw[zaR _ _ hb1]at h1;have:=s.lt h1;omega
  ·rw[zaR _ _ hb1]at h1;rw[zaR _ _ hb2]at h2;exact s.inj b b' m _ _ h1 h2
theorem zFP (s:Sim P sh κ φ H w) {b m sz:Nat} (hφ:φ b= .at m sz):Sim P sh κ (φ.set b .dead) (H.del b) w∧Ext κ φ H w (φ.set b .dead) (H.del b) w:=by
 have e:Ext κ φ H w (φ.set b .dead) (H.del b) w:=by
  refine⟨?_,?_,?_,Nat.le_refl _,rfl,rfl,rfl,fun _ _ _ h=>h,Nat.le_refl _⟩
  ·intro k _
   by_cases hk:k=b
   ·subst hk;exact .inr (zaU _ _ _)
   ·exact .inl (zaR _ _ hk)
  ·intro m' o v h1 h2
   refine⟨⟨h1.1,fun k sz' hk=> ?_⟩,h2⟩
   by_cases hkb:k=b
   ·subst hkb;rw[zaU]at hk;cases hk
   ·rw[zaR _ _ hkb]at hk
    obtain⟨l,fz,h3,h4⟩:=h1.2 k sz' hk
    exact⟨l,fz,by rw[zeY _ hkb];exact h3,h4⟩
  ·intro m' _ hno
   refine⟨rfl,fun k sz' hk=> ?_⟩
   by_cases hkb:k=b
   ·subst hkb;rw[zaU]at hk;cases hk
   ·rw[zaR _ _ hkb]at hk;exact hno _ _ hk
 refine⟨⟨Nat.le_trans s.base e.size,?_,?_,?_,?_,s.tab.mono e.cell⟩,e⟩
 ·intro k m' sz' hk
  by_cases hkb:k=b
  ·subst hkb;rw[zaU]at hk;cases hk
  ·rw[zaR _ _ hkb]at hk
   obtain⟨h1,x,h2,h3⟩:=s.blk k m' sz' hk
   exact⟨h1,x,by rw[zeY _ hkb];exact h2,h3.mono e rfl⟩
 ·intro k x h
  by_cases hkb:k=b
  ·subst hkb;rw[zkm]at h;cases h
  ·rw[zeY _ hkb]at h
   obtain⟨m',sz',h'⟩:=s.live k x h
   exact⟨m',sz',by rw[zaR _ _ hkb];exact h'⟩
 ·intro k hk
  have:k≠b:=by intro h;subst h;rw[s.next k hk]at hφ;cases hφ
  rw[zaR _ _ this];exact s.next k hk
 ·intro k k' m' sz1 sz2 h1 h2
  by_cases hb1:k=b
  ·subst hb1;rw[zaU]at h1;cases h1
  ·by_cases hb2:k'=b
   ·subst hb2;rw[zaU]at h2;cases h2
   ·rw[zaR _ _ hb1]at h1;rw[zaR _ _ hb2]at h2;exact s.inj k k' m' _ _ h1 h2
theorem zBt (s:Sim P sh κ φ H w) {b fr m sz:Nat} (hφ:φ b= .at m sz) (hfr:φ fr= .unborn) (hlt:fr<H.next) {x':Blk} {o:Obj} (hu:Upd w m o w')
 (hst:∀k,stab κ φ H m k→stab κ ((φ.set b .dead).set fr (.at m sz)) ((H.del b).put fr x') m k)
 (hcell:∀k v,stab κ φ H m k→w.cell? ⟨m,k,none⟩=some v→w'.cell? ⟨m,k,none⟩=some v)
 (hsh:w'.shape? m=w.shape? m)
 (hb:Ext κ φ H w ((φ.set b .dead).set fr (.at m sz)) ((H.del b).put fr x') w'→RB P sh ((φ.set b .dead).set fr (.at m sz)) w' (stab κ ((φ.set b .dead).set fr (.at m sz)) ((H.del b).put fr x')) m sz x'):
 Sim P sh κ ((φ.set b .dead).set fr (.at m sz)) ((H.del b).put fr x') w'∧Ext κ φ H w ((φ.set b .dead).set fr (.at m sz)) ((H.del b).put fr x') w':=by
 have hbf:b≠fr:=fun h=>by rw[h,hfr]at hφ;cases hφ
 have hne:∀k sz',φ k= .at m sz'→k=b:=fun k sz' h=>s.inj k b m sz' sz h hφ
 have hpl:∀k,k≠fr→k≠b→((φ.set b .dead).set fr (.at m sz)) k=φ k:=fun k h1 h2=>by rw[zaR _ _ h1,zaR _ _ h2]
 have hget:∀k,k≠fr→k≠b→((H.del b).put fr x').get k=H.get k:=fun k h1 h2=>by rw[zcd _ _ h1,zeY _ h2]
 have hplb:((φ.set b .dead).set fr (.at m sz)) b= .dead:=by rw[zaR _ _ hbf,zaU]
 have e:Ext κ φ H w ((φ.set b .dead).set fr (.at m sz)) ((H.del b).put fr x') w':=by
  refine⟨?_,?_,?_,Nat.le_of_eq hu.size.symm,hu.os,hu.tape,hu.output,?_,Nat.le_refl _⟩
  ·intro k hk
   by_cases hkf:k=fr
   ·exact absurd (hkf▸hfr) hk
   ·by_cases hkb:k=b
    ·subst hkb;exact .inr hplb
    ·exact .inl (hpl k hkf hkb)
  ·intro m' o' v h1 h2
   by_cases hm:m'=m
   ·subst hm;exact⟨hst _ h1,hcell _ _ h1 h2⟩
   ·refine⟨⟨h1.1,fun k sz' hk=> ?_⟩,(cell_of (hu.other _ hm)).trans h2⟩
    by_cases hkf:k=fr
    ·subst hkf;rw[zaU]at hk;cases hk;exact absurd rfl hm
    ·by_cases hkb:k=b
     ·subst hkb;rw[hplb]at hk;cases hk
     ·rw[hpl k hkf hkb]at hk
      obtain⟨l,fz,h3,h4⟩:=h1.2 k sz' hk
      exact⟨l,fz,by rw[hget k hkf hkb];exact h3,h4⟩
  ·intro m' _ hno
   have hm:m'≠m:=fun hm=>hno b sz (hm▸hφ)
   refine⟨hu.other _ hm,fun k sz' hk=> ?_⟩
   by_cases hkf:k=fr
   ·subst hkf;rw[zaU]at hk;cases hk;exact absurd rfl hm
   ·by_cases hkb:k=b
    ·subst hkb;rw[hplb]at hk;cases hk
    ·rw[hpl k hkf hkb]at hk;exact hno _ _ hk
  ·intro m' t k h
   by_cases hm:m'=m
   ·subst hm;rw[hsh];exact h
   ·rw[zhm (hu.other _ hm)];exact h
 refine⟨⟨Nat.le_trans s.base e.size,?_,?_,?_,?_,s.tab.mono e.cell⟩,e⟩
 ·intro k m' sz' hk
  by_cases hkf:k=fr
  ·subst hkf;rw[zaU]at hk;cases hk
   exact⟨(s.blk b m sz hφ).1,x',zcc _ _ _,hb e⟩
  ·by_cases hkb:k=b
   ·subst hkb;rw[hplb]at hk;cases hk
   ·rw[hpl k hkf hkb]at hk
    obtain⟨h1,x,h2,h3⟩:=s.blk k m' sz' hk
    have hm:m'≠m:=fun hm=>hkb (hne k sz' (hm▸hk))
    exact⟨h1,x,by rw[hget k hkf hkb];exact h2,h3.mono e (hu.other _ hm)⟩
 ·intro k x h
  by_cases hkf:k=fr
  ·subst hkf;exact⟨m,sz,zaU _ _ _⟩
  ·by_cases hkb:k=b
   ·subst hkb;rw[zcd _ _ hkf,zkm]at h;cases h
   ·rw[hget k hkf hkb]at h
    obtain⟨m',sz',h'⟩:=s.live k x h
    exact⟨m',sz',by rw[hpl k hkf hkb];exact h'⟩
 ·intro k hk
  have hk':H.next≤k:=hk
  have h1:k≠fr:=by omega
  have h2:k≠b:=by intro h;subst h;rw[s.next k hk']at hφ;cases hφ
  rw[hpl k h1 h2];exact s.next k hk'
 ·intro k k' m' sz1 sz2 h1 h2
  have key:∀k sz1,((φ.set b .dead).set fr (.at m sz)) k= .at m' sz1→(k=fr∧m'=m)∨(k≠fr∧k≠b∧φ k= .at m' sz1):=by
   intro k sz1 h
   by_cases hkf:k=fr
   ·subst hkf;rw[zaU]at h;cases h;exact .inl ⟨rfl,rfl⟩
   ·by_cases hkb:k=b
    ·subst hkb;rw[hplb]at h;cases h
    ·rw[hpl k hkf hkb]at h;exact .inr ⟨hkf,hkb,h⟩
  rcases key k sz1 h1 with⟨ha,hb1⟩|⟨ha,hb1,hc⟩<;>rcases key k' sz2 h2 with⟨ha',hb2⟩|⟨ha',hb2,hc'⟩
  ·rw[ha,ha']
  ·subst hb1;exact absurd (hne k' _ hc') hb2
  ·subst hb2;exact absurd (hne k _ hc) hb1
  ·exact s.inj k k' m' _ _ hc hc'
structure Drew (w w':World):Prop where
 heap:w'.heap=w.heap
 os:w'.os=w.os
 tape:w'.tape=w.tape
 output:w'.output=w.output
theorem Drew.refl:Drew w w:=⟨rfl,rfl,rfl,rfl⟩
theorem zfP (s:Sim P sh κ φ H w) (d:Drew w w'):Sim P sh κ φ H w'∧Ext κ φ H w φ H w':=by
 have hc:∀a,w'.cell? a=w.cell? a:=fun a=>by simp only[World.cell?,d.heap]
 have e:Ext κ φ H w φ H w':=⟨fun _ _=> .inl rfl,fun _ _ _ h h'=>⟨h,(hc _).trans h'⟩,fun m _ h=>⟨by rw[d.heap],h⟩,by rw[d.heap];exact Nat.le_refl _,d.os,d.tape,d.output,fun m t k h=>by simp only[World.shape?,d.heap];exact h,Nat.le_refl _⟩
 exact⟨⟨Nat.le_trans s.base e.size,fun b m sz h=>let⟨h1,x,h2,h3⟩:=s.blk b m sz h;⟨h1,x,h2,h3.mono e (by rw[d.heap])⟩,s.live,s.next,s.inj,s.tab.mono e.cell⟩,e⟩
theorem zmw (s:Sim P sh κ φ H w) (n:Nat):Sim P sh κ φ (H.bump n) w∧Ext κ φ H w φ (H.bump n) w:=by
 have e:Ext κ φ H w φ (H.bump n) w:=⟨fun _ _=> .inl rfl,fun _ _ _ h h'=>⟨h,h'⟩,fun m _ h=>⟨rfl,h⟩,Nat.le_refl _,rfl,rfl,rfl,fun _ _ _ h=>h,Nat.le_add_right _ _⟩
 exact⟨⟨Nat.le_trans s.base e.size,fun b m sz h=>let⟨h1,x,h2,h3⟩:=s.blk b m sz h;⟨h1,x,h2,h3.mono e rfl⟩,s.live,fun b h=>s.next b (Nat.le_trans (Nat.le_add_right _ _) h),s.inj,s.tab.mono e.cell⟩,e⟩
end Go.AI
namespace Go.AI
variable {P:Program} {sh:FuncId→Bool} {T:Tabs} {κ:Ctx T} {φ φ':Place} {H H':Heap} {w w':World} {S S':Nat→Nat→Prop}
theorem zdE:∀{l:List V} {ds:List D},allD l=some ds→l=ds.map .d
 |[],ds,h=>by simp[allD]at h;subst h;rfl
 | .d x::r,ds,h=>by
  simp only[allD]at h
  cases h1:allD r with
  |none=>rw[h1]at h;simp at h
  |some xs=>rw[h1]at h;simp at h;subst h;rw[zdE h1];rfl
 | .ptr .. ::_,_,h| .rp .. ::_,_,h| .sl .. ::_,_,h| .agg _::_,_,h| .tuple _::_,_,h| .clo .. ::_,_,h| .map _::_,_,h| .it _::_,_,h| .yld _::_,_,h| .undef::_,_,h=>by simp[allD]at h
theorem zwT (l:List D):allD (l.map V.d)=some l:=by
 induction l with
 |nil=>rfl
 |cons x l ih=>simp[allD,ih]
theorem Rel.d_inv {x:D} {v:Value} (h:Rel φ w S (.d x) v):RD w S x v:=by cases h with|d h=>exact h
theorem RD.cells {x:D} {v:Value} (h:RD w S x v):v.cells.size=x.cells.length∧∀(j:Nat) y u,x.cells[j]? =some y→v.cells[j]? =some u→RD w S y u:=by
 have one:∀{x:D} {v:Value},RD w S x v→x.cells=[x]→v.cells= #[v]→v.cells.size=x.cells.length∧∀(j:Nat) y u,x.cells[j]? =some y→v.cells[j]? =some u→RD w S y u:=by
  intro x v h h1 h2
  rw[h1,h2]
  refine⟨rfl,fun j y u hy hu=> ?_⟩
  cases j with
  |zero=>simp at hy hu;subst hy hu;exact h
  |succ j=>simp at hy
 cases h with
 |agg hs hh=>exact⟨hs,hh⟩
 |bool b=>exact one (.bool b) rfl rfl
 |int k n=>exact one (.int k n) rfl rfl
 |str s=>exact one (.str s) rfl rfl
 |nil=>exact one .nil rfl rfl
 |empty a=>exact one (.empty a) rfl rfl
 |list f hc hz hs hcell hv=>exact one (.list f hc hz hs hcell hv) rfl rfl
 |tuple hs hh=>exact one (.tuple hs hh) rfl rfl
 |fn f=>exact one (.fn f) rfl rfl
 |nilp=>exact one .nilp rfl rfl
 |nilf=>exact one .nilf rfl rfl
 |nilm=>exact one .nilm rfl rfl
 |nili=>exact one .nili rfl rfl
theorem Rel.cells {x:V} {v:Value} (h:Rel φ w S x v) (hx:x≠.undef):v.cells.size=x.cells.length∧∀(j:Nat) y u,x.cells[j]? =some y→v.cells[j]? =some u→Rel φ w S y u:=by
 have one:∀{x:V} {v:Value},Rel φ w S x v→x.cells=[x]→v.cells= #[v]→v.cells.size=x.cells.length∧∀(j:Nat) y u,x.cells[j]? =some y→v.cells[j]? =some u→Rel φ w S y u:=by
  intro x v h h1 h2
  rw[h1,h2]
  refine⟨rfl,fun j y u hy hu=> ?_⟩
  cases j with
  |zero=>simp at hy hu;subst hy hu;exact h
  |succ j=>simp at hy
 cases h with
 |d h=>
  obtain⟨h1,h2⟩:=h.cells
  refine⟨by simpa[V.cells]using h1,fun j y u hy hu=> ?_⟩
  simp only[V.cells,List.getElem?_map]at hy
  cases hz:(D.cells _)[j]? with
  |none=>rw[hz]at hy;simp at hy
  |some z=>rw[hz]at hy;simp at hy;subst hy;exact .d (h2 j z u hz hu)
 |agg hs hh=>exact⟨hs,hh⟩
 |ptr h=>exact one (.ptr h) rfl rfl
 |rp f hc hv=>exact one (.rp f hc hv) rfl rfl
 |sl hc h=>exact one (.sl hc h) rfl rfl
 |tuple hs hh=>exact one (.tuple hs hh) rfl rfl
 |clo hs h ht h'=>exact one (.clo hs h ht h') rfl rfl
 |map h=>exact one (.map h) rfl rfl
 |it h=>exact one (.it h) rfl rfl
 |yld h=>exact one (.yld h) rfl rfl
 |undef=>exact absurd rfl hx
theorem zkp {cs:List V} {vs:Array Value} (hs:vs.size=cs.length) (h:∀(j:Nat) x v,cs[j]? =some x→vs[j]? =some v→Rel φ w S x v):Rel φ w S (V.ofCells cs) (.agg vs):=by
 unfold V.ofCells
 split
 ·rename_i ds hd
  have:=zdE hd
  subst this
  refine .d (.agg (by simpa using hs) fun j x v hx hv=> ?_)
  exact(h j (.d x) v (by simp[hx]) hv).d_inv
 ·exact .agg hs h
theorem zeZ {cs:List V} {vs:Array Value} (hs:vs.size=cs.length) (h:∀(j:Nat) x v,cs[j]? =some x→vs[j]? =some v→Rel φ w S x v):Rel φ w S (V.ofTuple cs) (.tuple vs):=by
 unfold V.ofTuple
 split
 ·rename_i ds hd
  have:=zdE hd
  subst this
  refine .d (.tuple (by simpa using hs) fun j x v hx hv=> ?_)
  exact(h j (.d x) v (by simp[hx]) hv).d_inv
 ·exact .tuple hs h
theorem zhn (cs:List V):(V.ofCells cs).cells=cs:=by
 unfold V.ofCells
 split
 ·rename_i ds hd;rw[zdE hd];rfl
 ·rfl
theorem zwU {v:V} (h:v.one=true):v.cells=[v]:=by
 cases v with
 |d x=>cases x<;>first|rfl|simp[V.one]at h
 |undef=>simp[V.one]at h
 |agg _=>simp[V.one]at h
 |_=>rfl
theorem zlA {e:V} {cs:List V} (hl:cs.length=e.cells.length) (h:∀v∈cs,v.one=true∨v∈e.cells):(V.like e cs).cells=cs:=by
 unfold V.like
 split
 ·exact zhn cs
 ·exact zhn cs
 ·rename_i h1 h2
  have he:e.cells=[e]∨e= .undef:=by
   cases e with
   |d x=>left;cases x<;>first|rfl|exact absurd rfl (h2 _)
   |undef=>exact .inr rfl
   |agg l=>exact absurd rfl (h1 _)
   |_=>exact .inl rfl
  rcases he with he|he
  ·rw[he]at hl h
   match cs,hl with
   |[v],_=>
    show v.cells=[v]
    rcases h v (by simp)with h|h
    ·exact zwU h
    ·simp at h;subst h;exact he
  ·subst he
   simp[V.cells]at hl
   subst hl
   rfl
theorem zan {t:TypeId} {d:TypeDesc} (h:P.underlying t=some d):(underlying t).run P w= .ok d w:=by
 simp[underlying,h]
theorem zlB {t:TypeId} {n:Nat} (h:zcn P t=some (some n)):(isAgg t).run P w= .ok true w∧n=P.cellsOf t:=by
 unfold zcn at h
 split at h<;>rename_i hu<;>simp at h
 ·exact⟨by simp[isAgg,zan hu],h.symm⟩
 ·exact⟨by simp[isAgg,zan hu],h.symm⟩
theorem zlC {t:TypeId} (h:zcn P t=some none):(isAgg t).run P w= .ok false w:=by
 unfold zcn at h
 split at h<;>simp at h
 rename_i d hd h1 h2
 simp only[isAgg,Sem.run_bind,zan (P:=P) (w:=w) (t:=t) (d:=d) (by assumption),Result.andThen_ok]
 cases d<;>first|rfl|exact absurd rfl (h1 _)|exact absurd rfl (h2 _ _)
theorem info_of_underlying {t:TypeId} {d:TypeDesc} (h:P.underlying t=some d):∃i,P.info? t=some i:=by
 unfold Program.underlying at h
 split at h<;>first|exact⟨_,by assumption⟩|cases h
theorem zia {t:TypeId} {x:Option Nat} (h:zcn P t=some x):∃i,P.info? t=some i:=by
 unfold zcn at h
 split at h<;>rename_i hu
 ·exact info_of_underlying hu
 ·exact info_of_underlying hu
 ·exact info_of_underlying (by assumption)
 ·cases h
theorem run_sizeOf {t:TypeId} {i:TypeInfo} (h:P.info? t=some i):(sizeOf t).run P w= .ok (P.cellsOf t) w:=by
 simp[sizeOf,typeInfo,h,Program.cellsOf]
def zvP (n:Option Nat) (l:List Value):Value:=match n with|some _=> .agg l.toArray|none=>l.headD undef
theorem zkq {t:TypeId} {x:Option Nat} (ha:zcn P t=some x) {m o:Nat} (cs:List Value)
 (hc:∀(j:Nat) v,cs[j]? =some v→w.cell? ⟨m,o+j,none⟩=some v) (hl:cs.length=x.getD 1):
 (loadVar t ⟨m,o,none⟩).run P w= .ok (zvP x cs) w:=by
 have hadd:∀j,(⟨m,o,none⟩:Addr).add j=⟨m,o+j,none⟩:=fun j=>Addr.add_lit m o j
 cases x with
 |none=>
  match cs,hl with
  |[v],_=>
   have h0:=hc 0 v rfl
   simp only[Nat.add_zero]at h0
   simp[loadVar,zlC ha,load,Sem.run,h0,zvP]
 |some n=>
  obtain⟨i,hi⟩:=zia ha
  obtain⟨h1,h2⟩:=zlB (w:=w) ha
  have h3:=run_loadCells_list (P:=P) (w:=w) ⟨m,o,none⟩ cs (fun j v hj=>by rw[hadd];exact hc j v hj)
  simp only[Option.getD_some]at hl
  simp only[loadVar,Sem.run_bind,h1,Result.andThen_ok,if_true,run_sizeOf hi,←h2,←hl,h3,Sem.run_pure,zvP]
theorem zmx {x:V} {g:Nat→Value} (hg:∀(j:Nat) y,x.cells[j]? =some y→Rel φ w S y (g j)) {off:Nat} {n:Option Nat} {y:V} (h:V.sub x off n=some y):
 Rel φ w S y (zvP n ((List.range (n.getD 1)).map fun j=>g (off+j)))∧off+n.getD 1≤x.cells.length:=by
 cases n with
 |none=>
  simp only[V.sub]at h
  have hlt:off<x.cells.length:=by
   rcases Nat.lt_or_ge off x.cells.length with h1|h1
   ·exact h1
   ·rw[List.getElem?_eq_none h1]at h;cases h
  exact⟨by simpa[zvP]using hg off y h,by simp;omega⟩
 |some n=>
  simp only[V.sub]at h
  split at h
  ·rename_i hle
   simp only[Option.some.injEq]at h
   subst h
   refine⟨zkp (by simp;omega) fun j z v hz hv=> ?_,hle⟩
   simp only[Option.getD_some,List.getElem?_toArray,List.getElem?_map]at hv
   have hj:j<n:=by
    rcases Nat.lt_or_ge j n with h1|h1
    ·exact h1
    ·rw[List.getElem?_eq_none (by simp;exact h1)]at hv;simp at hv
   rw[List.getElem?_range hj]at hv
   simp only[Option.map_some,Option.some.injEq]at hv
   subst hv
   rw[List.getElem?_take,if_pos hj,List.getElem?_drop]at hz
   exact hg _ _ hz
  ·cases h
theorem zBu {x:D} {g:Nat→Value} (hg:∀(j:Nat) y,x.cells[j]? =some y→RD w S y (g j)) {off:Nat} {n:Option Nat} {y:D} (h:D.sub x off n=some y):
 RD w S y (zvP n ((List.range (n.getD 1)).map fun j=>g (off+j)))∧off+n.getD 1≤x.cells.length:=by
 have hv:V.sub (.d x) off n=some (.d y):=by
  cases n with
  |none=>simp only[D.sub]at h;simp only[V.sub,V.cells,List.getElem?_map,h,Option.map_some]
  |some n=>
   simp only[D.sub]at h
   split at h
   ·rename_i hle
    simp only[Option.some.injEq]at h
    simp only[V.sub,V.cells,List.length_map,hle,if_true,←List.map_drop,←List.map_take,V.ofCells,zwT,h]
   ·cases h
 have:=zmx (φ:=fun _=> .unborn) (w:=w) (S:=S) (x:= .d x) (g:=g) (fun j y hy=>by
  simp only[V.cells,List.getElem?_map]at hy
  cases hz:x.cells[j]? with
  |none=>rw[hz]at hy;simp at hy
  |some z=>rw[hz]at hy;simp at hy;subst hy;exact .d (hg j z hz)) hv
 obtain⟨h1,h2⟩:=this
 exact⟨h1.d_inv,by simpa[V.cells]using h2⟩
theorem zwV (s:Sim P sh κ φ H w) {n:Option Nat} {v y:V} (h:zdA H n v=some y) {mv:Value} (hr:Rel φ w (stab κ φ H) v mv) {t:TypeId} (ht:zcn P t=some n):
 ∃a mv',mv= .pointer (some a)∧(loadVar t a).run P w= .ok mv' w∧Rel φ w (stab κ φ H) y mv':=by
 cases hr with
 |ptr hp=>
  rename_i b i off a
  simp only[zdA]at h
  cases hb:H.get b with
  |none=>rw[hb]at h;simp at h
  |some x=>
   rw[hb]at h
   cases x with
   |els z l fz=>
    simp only at h
    cases he:l[i]? with
    |none=>rw[he]at h;simp at h
    |some e=>
     rw[he]at h
     simp only[Option.bind_some]at h
     obtain⟨m,sz,hφ,h0,h1,cs,ty,h2,h3,h4⟩:=s.get hb
     rcases hp with hp|⟨m',sz',hφ',ha⟩
     ·rw[hp]at hφ;cases hφ
     rw[hφ]at hφ';cases hφ'
     obtain⟨h5,h6⟩:=h4 i e he
     have hil:i<l.length:=by
      rcases Nat.lt_or_ge i l.length with h1|h1
      ·exact h1
      ·rw[List.getElem?_eq_none h1]at he;cases he
     have hin:∀j,j<sz→i*sz+j<cs.size:=fun j hj=>by
      have:(i+1)*sz≤l.length*sz:=Nat.mul_le_mul_right sz hil
      rw[Nat.add_mul]at this;omega
     have hg:∀(j:Nat) y,e.cells[j]? =some y→Rel φ w (stab κ φ H) y (cs.getD (i*sz+j) undef):=fun j y hy=>by
      have hj:j<sz:=by
       rcases Nat.lt_or_ge j e.cells.length with h1|h1
       ·omega
       ·rw[List.getElem?_eq_none h1]at hy;cases hy
      exact h6 j y _ hy (by simp[Array.getD,hin j hj])
     obtain⟨h7,h8⟩:=zmx hg h
     rw[h5]at h8
     subst ha
     refine⟨_,_,rfl,zkq ht ((List.range (n.getD 1)).map fun j=>cs.getD (i*sz+(off+j)) undef) (fun j v hj=> ?_) (by simp),h7⟩
     rw[List.getElem?_map]at hj
     have hjn:j<n.getD 1:=by
      rcases Nat.lt_or_ge j (n.getD 1)with h1|h1
      ·exact h1
      ·rw[List.getElem?_eq_none (by simpa using h1)]at hj;simp at hj
     rw[List.getElem?_range hjn]at hj
     simp only[Option.map_some,Option.some.injEq]at hj
     have:=hin (off+j) (by omega)
     simp only[World.cell?,h2,Option.isSome_none,Bool.false_eq_true,if_false]
     rw[Nat.add_assoc,←hj]
     simp[Array.getD,this]
   |_=>simp at h
 |rp f hcell hv=>
  rename_i x off m o
  simp only[zdA]at h
  cases hy:x.sub off n with
  |none=>rw[hy]at h;simp at h
  |some z=>
   rw[hy]at h
   simp only[Option.map_some,Option.some.injEq]at h
   subst h
   obtain⟨h7,h8⟩:=zBu (g:=f) hv hy
   refine⟨_,_,rfl,zkq ht ((List.range (n.getD 1)).map fun j=>f (off+j)) (fun j v hj=> ?_) (by simp),.d h7⟩
   rw[List.getElem?_map]at hj
   have hjn:j<n.getD 1:=by
    rcases Nat.lt_or_ge j (n.getD 1)with h1|h1
    ·exact h1
    ·rw[List.getElem?_eq_none (by simpa using h1)]at hj;simp at hj
   rw[List.getElem?_range hjn]at hj
   simp only[Option.map_some,Option.some.injEq]at hj
   rw[Nat.add_assoc,(hcell (off+j) (by omega)).1,hj]
 |_=>simp[zdA]at h
end Go.AI
namespace Go.AI
variable {P:Program} {sh:FuncId→Bool} {T:Tabs} {κ:Ctx T} {φ φ':Place} {H H':Heap} {w w' w'':World} {S S':Nat→Nat→Prop}
theorem Upd.trans {m:Nat} {o o':Obj} (a:Upd w m o w') (b:Upd w' m o' w''):Upd w m o' w'':=
 ⟨b.size.trans a.size,b.at_,fun k hk=>(b.other k hk).trans (a.other k hk),b.os.trans a.os,b.tape.trans a.tape,b.output.trans a.output⟩
def zde (cs:Array Value):Nat→List Value→Array Value
 |_,[]=>cs
 |k,v::r=>zde (cs.setIfInBounds k v) (k+1) r
theorem zbm:∀(vs:List Value) (cs:Array Value) (k:Nat),(zde cs k vs).size=cs.size
 |[],_,_=>rfl
 |v::r,cs,k=>by rw[zde,zbm r];simp
theorem zcR:∀(vs:List Value) (cs:Array Value) (k o:Nat),k+vs.length≤cs.size→(zde cs k vs)[o]? =if k≤o∧o<k+vs.length then vs[o-k]? else cs[o]?
 |[],cs,k,o,_=>by
  simp only[zde,List.length_nil]
  rw[if_neg (by omega)]
 |v::r,cs,k,o,h=>by
  simp only[List.length_cons]at h⊢
  rw[zde,zcR r _ _ _ (by simp;omega)]
  by_cases h1:k+1≤o∧o<k+1+r.length
  ·rw[if_pos h1,if_pos (by omega)]
   obtain⟨j,hj⟩:∃j,o-k=j+1:=⟨o-k-1,by omega⟩
   rw[hj,List.getElem?_cons_succ]
   congr 1;omega
  ·rw[if_neg h1]
   by_cases h2:o=k
   ·subst h2
    rw[if_pos (by omega),Array.getElem?_setIfInBounds_self_of_lt (by omega)]
    simp
   ·rw[Array.getElem?_setIfInBounds_ne (Ne.symm h2),if_neg (by omega)]
theorem zql {m o:Nat} {cs:Array Value} {t:TypeId} {v:Value} (h:w.heap[m]? =some (.cells cs t (0,0))):Upd w m (.cells (cs.setIfInBounds o v) t (0,0)) (w.setCell ⟨m,o,none⟩ v):=by
 refine⟨by simp[World.setCell],?_,fun k hk=> ?_,rfl,rfl,rfl⟩
 ·simp[World.setCell,Array.getElem?_modify,h]
 ·simp only[World.setCell,Array.getElem?_modify]
  rw[if_neg (Ne.symm hk)]
theorem zer {m off:Nat} {t:TypeId} (vs:List Value):∀(i:Nat) (w:World) (cs:Array Value),w.heap[m]? =some (.cells cs t (0,0))→(∀v∈vs,v.oneCell'=true)→off+i+vs.length≤cs.size→
 ∃w',(storeCells ⟨m,off,none⟩ vs i).run P w= .ok () w'∧Upd w m (.cells (zde cs (off+i) vs) t (0,0)) w':=by
 induction vs with
 |nil=>exact fun i w cs h _ _=>⟨w,by simp[storeCells],⟨rfl,h,fun _ _=>rfl,rfl,rfl,rfl⟩⟩
 |cons v r ih=>
  intro i w cs h h1 h2
  simp only[List.length_cons]at h2
  have hcell:w.cell? ⟨m,off+i,none⟩=some cs[off+i]:=by simp[World.cell?,h]
  have hfz:w.frozen? ⟨m,off+i,none⟩=false:=by simp[World.frozen?,h]
  have hu:=zql (w:=w) (o:=off+i) (v:=v) h
  obtain⟨w2,e2,u2⟩:=ih (i+1) (w.setCell ⟨m,off+i,none⟩ v) (cs.setIfInBounds (off+i) v) hu.at_ (fun x hx=>h1 x (by simp[hx])) (by simp;omega)
  refine⟨w2,?_,?_⟩
  ·simp only[storeCells,Sem.run_bind,Addr.add_lit]
   rw[run_store P w _ v .plain (h1 v (by simp)),hcell]
   simp only[hfz,Bool.false_eq_true,if_false,Result.andThen_ok]
   exact e2
  ·rw[zde]
   exact hu.trans u2
theorem zwW {x:V} {v:Value} (h:Rel φ w S x v) (h1:x.one=true):v.oneCell'=true:=by
 cases h with
 |d h=>cases h<;>first|rfl|simp[V.one]at h1
 |agg=>simp[V.one]at h1
 |tuple=>simp[V.one]at h1
 |undef=>simp[V.one]at h1
 |_=>rfl
theorem zdm {α:Type} {cs new:List α} {off:Nat} (h:off+new.length≤cs.length):(splice cs off new).length=cs.length:=by
 simp[splice];omega
theorem zfQ {α:Type} {cs new:List α} {off:Nat} (h:off+new.length≤cs.length) (o:Nat):(splice cs off new)[o]? =if off≤o∧o<off+new.length then new[o-off]? else cs[o]? :=by
 unfold splice
 rw[List.append_assoc,List.getElem?_append]
 simp only[List.length_take]
 split
 ·rename_i h1
  rw[if_neg (by omega),List.getElem?_take,if_pos (by omega)]
 ·rename_i h1
  rw[List.getElem?_append]
  split
  ·rename_i h2
   rw[if_pos (by omega)]
   congr 1;omega
  ·rename_i h2
   rw[if_neg (by omega),List.getElem?_drop]
   congr 1;omega
theorem zBv (s:Sim P sh κ φ H w) {n:Nat} {v x:V} (h:zbK H n v x=some H') {mv mx:Value} (hr:Rel φ w (stab κ φ H) v mv) (hx:Rel φ w (stab κ φ H) x mx):
 ∃m o w',mv= .pointer (some ⟨m,o,none⟩)∧mx.cells.size=n∧(storeCells ⟨m,o,none⟩ mx.cells.toList).run P w= .ok () w'∧Sim P sh κ φ H' w'∧Ext κ φ H w φ H' w':=by
 cases hr with
 |ptr hp=>
  rename_i b i off a
  simp only[zbK]at h
  cases hb:H.get b with
  |none=>rw[hb]at h;simp at h
  |some y=>
   rw[hb]at h
   cases y with
   |els z l fz=>
    simp only at h
    split at h
    case isFalse=>cases h
    rename_i hfzi
    cases he:l[i]? with
    |none=>rw[he]at h;simp at h
    |some e=>
     rw[he]at h
     simp only[Option.bind_some]at h
     cases hu:e.upd off n x with
     |none=>rw[hu]at h;simp at h
     |some e'=>
      rw[hu]at h
      simp only[Option.map_some,Option.some.injEq]at h
      subst h
      unfold V.upd at hu
      split at hu
      case isFalse=>cases hu
      rename_i hc
      obtain⟨hc1,hc0,hc2,hc3⟩:=hc
      simp only[Option.some.injEq]at hu
      obtain⟨m,sz,hφ,rfl,h1,cs,ty,h2,h3,h4⟩:=s.get hb
      rcases hp with hp|⟨m',sz',hφ',ha⟩
      ·rw[hp]at hφ;cases hφ
      rw[hφ]at hφ';cases hφ'
      obtain⟨h5,h6⟩:=h4 i e he
      have hxu:x≠.undef:=by intro hxu;subst hxu;simp[V.cells]at hc1;omega
      obtain⟨hxs,hxc⟩:=hx.cells hxu
      rw[hc1]at hxs
      have hil:i<l.length:=by
       rcases Nat.lt_or_ge i l.length with h1|h1
       ·exact h1
       ·rw[List.getElem?_eq_none h1]at he;cases he
      have hin:∀k,k<l.length→k*sz+sz≤l.length*sz:=fun k hk=>by
       have:(k+1)*sz≤l.length*sz:=Nat.mul_le_mul_right sz hk
       rw[Nat.add_mul]at this;omega
      have hi:=hin i hil
      rw[h5]at hc2
      have hone:∀u∈mx.cells.toList,u.oneCell'=true:=by
       intro u hu'
       obtain⟨j,hj,hju⟩:=List.mem_iff_getElem.1 hu'
       have hj':j<x.cells.length:=by simp at hj;omega
       have:=List.all_eq_true.1 hc3 (x.cells[j]) (by simp)
       refine zwW (hxc j x.cells[j] u (by simp) ?_) this
       have hg:=List.getElem?_eq_getElem hj
       rw[hju]at hg
       simpa using hg
      obtain⟨w',e1,u1⟩:=zer (P:=P) (off:=i*sz+off) mx.cells.toList 0 w cs h2 hone (by simp;omega)
      simp only[Nat.add_zero]at u1
      have hget:=fun o=>zcR mx.cells.toList cs (i*sz+off) o (by simp;omega)
      simp only[Array.length_toList,hxs]at hget
      have hsl:=zdm (cs:=e.cells) (new:=x.cells) (off:=off) (by omega)
      have hlike:e'.cells=splice e.cells off x.cells:=by
       rw[←hu]
       refine zlA hsl fun v hv=> ?_
       obtain⟨j,hj,hju⟩:=List.mem_iff_getElem.1 hv
       have hg:=zfQ (cs:=e.cells) (new:=x.cells) (off:=off) (by omega) j
       rw[List.getElem?_eq_getElem hj,hju]at hg
       split at hg
       ·left;exact List.all_eq_true.1 hc3 v (List.mem_of_getElem? hg.symm)
       ·right;exact List.mem_of_getElem? hg.symm
      subst ha
      have hres:=zkn s hφ (x':= .els sz (l.set i e') fz) u1 (fun k hk=> ?_) (fun k v hk hv=> ?_) ?_ (fun ex=> ?_)
      ·exact⟨m,i*sz+off,w',rfl,hxs,e1,hres.1,hres.2⟩
      ·refine⟨hk.1,fun c sz' hc=> ?_⟩
       have:c=b:=s.inj _ _ _ _ _ hc hφ
       subst this
       rw[hφ]at hc;cases hc
       obtain⟨l',fz',hl',hlt⟩:=hk.2 c sz hφ
       rw[hb]at hl';cases hl'
       exact⟨_,_,zcc _ _ _,hlt⟩
      ·obtain⟨l',fz',hl',hlt⟩:=hk.2 b sz hφ
       rw[hb]at hl';cases hl'
       simp only[World.cell?,h2,u1.at_,Option.isSome_none,Bool.false_eq_true,if_false]at hv⊢
       rw[hget,if_neg,hv]
       have:fz*sz≤i*sz:=Nat.mul_le_mul_right sz hfzi
       omega
      ·simp only[World.shape?,h2,u1.at_,zbm]
      ·refine⟨rfl,by simpa using h1,_,_,u1.at_,by simpa[zbm]using h3,fun k e1 hk=> ?_⟩
       rw[List.getElem?_set]at hk
       by_cases hik:i=k
       ·subst hik
        rw[if_pos rfl,if_pos hil]at hk
        simp only[Option.some.injEq]at hk
        subst hk
        rw[hlike]
        refine⟨by rw[hsl,h5],fun j y v hy hv=> ?_⟩
        have hjl:j<sz:=by
         rcases Nat.lt_or_ge j (splice e.cells off x.cells).length with h1|h1
         ·omega
         ·rw[List.getElem?_eq_none h1]at hy;cases hy
        rw[zfQ (by omega)]at hy
        rw[hget]at hv
        by_cases hj:off≤j∧j<off+x.cells.length
        ·rw[if_pos hj]at hy
         rw[if_pos (by omega)]at hv
         refine ex.rv (hxc _ y v hy ?_)
         rw[show i*sz+j-(i*sz+off)=j-off by omega]at hv
         simpa using hv
        ·rw[if_neg hj]at hy
         rw[if_neg (by omega)]at hv
         exact ex.rv (h6 j y v hy hv)
       ·rw[if_neg hik]at hk
        obtain⟨h7,h8⟩:=h4 k e1 hk
        refine⟨h7,fun j y v hy hv=>ex.rv (h8 j y v hy ?_)⟩
        rw[hget,if_neg]at hv
        ·exact hv
        ·have hjl:j<sz:=by
          rcases Nat.lt_or_ge j e1.cells.length with h1|h1
          ·omega
          ·rw[List.getElem?_eq_none h1]at hy;cases hy
         have hkl:k<l.length:=by
          rcases Nat.lt_or_ge k l.length with h1|h1
          ·exact h1
          ·rw[List.getElem?_eq_none h1]at hk;cases hk
         intro hh
         rcases Nat.lt_or_gt_of_ne hik with h9|h9
         ·have:(i+1)*sz≤k*sz:=Nat.mul_le_mul_right sz h9
          rw[Nat.add_mul]at this;omega
         ·have:(k+1)*sz≤i*sz:=Nat.mul_le_mul_right sz h9
          rw[Nat.add_mul]at this;omega
   |_=>simp at h
 |_=>simp[zbK]at h
end Go.AI
namespace Go.AI
variable {P:Program} {sh:FuncId→Bool} {T:Tabs} {κ:Ctx T} {φ φ':Place} {H H':Heap} {w w' w'':World} {S S':Nat→Nat→Prop}
theorem zav {α:Type} {l:List α} {i:Nat} {x:α} (h:l[i]? =some x):i<l.length:=by
 rcases Nat.lt_or_ge i l.length with h1|h1
 ·exact h1
 ·rw[List.getElem?_eq_none h1]at h;cases h
theorem zwX (s:Sim P sh κ φ H w) {b n z fz:Nat} {l:List V} (hb:H.get b=some (.els z l fz)) (hn:n≤l.length):
 Sim P sh κ φ (freeze H b n) w∧Ext κ φ H w φ (freeze H b n) w∧∃fz',n≤fz'∧(freeze H b n).get b=some (.els z l fz'):=by
 unfold freeze
 rw[hb]
 simp only
 split
 ·rename_i h;exact⟨s,.refl,fz,h,hb⟩
 ·rename_i h
  obtain⟨m,sz,hφ,rfl,h1,cs,ty,h2,h3,h4⟩:=s.get hb
  have hr:=zkn s hφ (x':= .els sz l n) (w':=w) (o:= .cells cs ty (0,0)) ⟨rfl,h2,fun _ _=>rfl,rfl,rfl,rfl⟩ (fun k hk=> ?_) (fun k v _ hv=>hv) rfl
   (fun ex=>⟨rfl,hn,cs,ty,h2,h3,fun i e he=>let⟨h5,h6⟩:=h4 i e he;⟨h5,fun j x v hx hv=>ex.rv (h6 j x v hx hv)⟩⟩)
  ·exact⟨hr.1,hr.2,n,Nat.le_refl _,zcc _ _ _⟩
  ·refine⟨hk.1,fun c sz' hc=> ?_⟩
   have:c=b:=s.inj _ _ _ _ _ hc hφ
   subst this
   rw[hφ]at hc;cases hc
   obtain⟨l',fz',hl',hlt⟩:=hk.2 c sz hφ
   rw[hb]at hl';cases hl'
   exact⟨_,_,zcc _ _ _,Nat.lt_of_lt_of_le hlt (Nat.mul_le_mul_right sz (by omega))⟩
def zqm (P:Program) (sh:FuncId→Bool) (κ:Ctx T) (φ:Place) (w:World) (n:Nat):Prop:=
 ∀(H:Heap) (v:V) (x:D) (H':Heap) (mv:Value),Sim P sh κ φ H w→res n H v=some (x,H')→Rel φ w (stab κ φ H) v mv→
  Sim P sh κ φ H' w∧Ext κ φ H w φ H' w∧RD w (stab κ φ H') x mv
theorem zrT {n:Nat} (ih:zqm P sh κ φ w n):∀(l:List V) (H:Heap) (ds:List D) (H':Heap) (g:Nat→Value),Sim P sh κ φ H w→zbI (res n) H l=some (ds,H')→
 (∀(j:Nat) x,l[j]? =some x→Rel φ w (stab κ φ H) x (g j))→Sim P sh κ φ H' w∧Ext κ φ H w φ H' w∧ds.length=l.length∧∀(j:Nat) y,ds[j]? =some y→RD w (stab κ φ H') y (g j)
 |[],H,ds,H',g,s,h,_=>by
  simp only[zbI,Option.some.injEq,Prod.mk.injEq]at h
  obtain⟨rfl,rfl⟩:=h
  exact⟨s,.refl,rfl,fun j y hy=>by simp at hy⟩
 |v::r,H,ds,H',g,s,h,hg=>by
  simp only[zbI]at h
  cases h1:res n H v with
  |none=>rw[h1]at h;simp at h
  |some p=>
   obtain⟨x,H1⟩:=p
   rw[h1]at h
   simp only[Option.bind_some]at h
   cases h2:zbI (res n) H1 r with
   |none=>rw[h2]at h;simp at h
   |some q=>
    obtain⟨xs,H2⟩:=q
    rw[h2]at h
    simp only[Option.map_some,Option.some.injEq,Prod.mk.injEq]at h
    obtain⟨rfl,rfl⟩:=h
    obtain⟨s1,e1,r1⟩:=ih H v x H1 (g 0) s h1 (hg 0 v rfl)
    obtain⟨s2,e2,hl,r2⟩:=zrT ih r H1 xs H2 (fun j=>g (j+1)) s1 h2 (fun j x hx=>e1.rv (hg (j+1) x hx))
    refine⟨s2,e1.trans e2,by simp[hl],fun j y hy=> ?_⟩
    cases j with
    |zero=>simp at hy;subst hy;exact e2.rd r1
    |succ j=>exact r2 j y hy
theorem zmy {n:Nat} (ih:zqm P sh κ φ w n) (l:List V) (H:Heap) (ds:List D) (H':Heap) (g:Nat→Value) (s:Sim P sh κ φ H w) (h:zba (res n) H l=some (ds,H'))
 (hg:∀(j:Nat) x,l[j]? =some x→Rel φ w (stab κ φ H) x (g j)):Sim P sh κ φ H' w∧Ext κ φ H w φ H' w∧ds.length=l.length∧∀(j:Nat) y,ds[j]? =some y→RD w (stab κ φ H') y (g j):=by
 unfold zba at h
 split at h
 ·rename_i ds' hd
  simp only[Option.some.injEq,Prod.mk.injEq]at h
  obtain⟨rfl,rfl⟩:=h
  have:=zdE hd
  subst this
  exact⟨s,.refl,by simp,fun j y hy=>(hg j (.d y) (by simp[hy])).d_inv⟩
 ·exact zrT ih l H ds H' g s h hg
theorem zBw {n:Nat} (ih:∀k,k≤n→zqm P sh κ φ w k) (H:Heap) (e:V) (d:D) (H':Heap) (g:Nat→Value) (s:Sim P sh κ φ H w) (h:res n H e=some (d,H'))
 (hg:∀(j:Nat) x,e.cells[j]? =some x→Rel φ w (stab κ φ H) x (g j)):Sim P sh κ φ H' w∧Ext κ φ H w φ H' w∧d.cells.length=e.cells.length∧∀(j:Nat) y,d.cells[j]? =some y→RD w (stab κ φ H') y (g j):=by
 cases e with
 |d x=>
  have:res n H (.d x)=some (x,H):=by cases n<;>rfl
  rw[this]at h
  simp only[Option.some.injEq,Prod.mk.injEq]at h
  obtain⟨rfl,rfl⟩:=h
  exact⟨s,.refl,by simp[V.cells],fun j y hy=>(hg j (.d y) (by simp[V.cells,hy])).d_inv⟩
 |agg cs=>
  cases n with
  |zero=>simp[res]at h
  |succ n=>
   simp only[res]at h
   cases h1:zba (res n) H cs with
   |none=>rw[h1]at h;simp at h
   |some p=>
    rw[h1]at h
    simp only[Option.map_some,Option.some.injEq,Prod.mk.injEq]at h
    obtain⟨rfl,rfl⟩:=h
    exact zmy (ih n (Nat.le_succ n)) cs H _ _ g s h1 hg
 |sl b off len=>
  cases n with
  |zero=>simp[res]at h
  |succ n=>
   have h0:=ih (n+1) (Nat.le_refl _) H _ d H' (g 0) s h (hg 0 _ rfl)
   have hd:d.cells=[d]:=by
    simp only[res]at h
    split at h
    ·split at h
     ·rename_i l fz hb hle
      cases h1:zba (res n) (freeze H b (off+len)) ((l.drop off).take len)with
      |none=>rw[h1]at h;simp at h
      |some p=>rw[h1]at h;simp only[Option.map_some,Option.some.injEq,Prod.mk.injEq]at h;rw[←h.1];rfl
     ·cases h
    ·cases h
   refine⟨h0.1,h0.2.1,by rw[hd];rfl,fun j y hy=> ?_⟩
   rw[hd]at hy
   cases j with
   |zero=>simp at hy;subst hy;exact h0.2.2
   |succ j=>simp at hy
 |tuple cs=>
  cases n with
  |zero=>simp[res]at h
  |succ n=>
   have h0:=ih (n+1) (Nat.le_refl _) H _ d H' (g 0) s h (hg 0 _ rfl)
   have hd:d.cells=[d]:=by
    simp only[res]at h
    cases h1:zba (res n) H cs with
    |none=>rw[h1]at h;simp at h
    |some p=>rw[h1]at h;simp only[Option.map_some,Option.some.injEq,Prod.mk.injEq]at h;rw[←h.1];rfl
   refine⟨h0.1,h0.2.1,by rw[hd];rfl,fun j y hy=> ?_⟩
   rw[hd]at hy
   cases j with
   |zero=>simp at hy;subst hy;exact h0.2.2
   |succ j=>simp at hy
 |_=>cases n<;>simp[res]at h
theorem zoi {n sz:Nat} (ih:∀k,k≤n→zqm P sh κ φ w k):∀(l:List V) (H:Heap) (ds:List D) (H':Heap) (g:Nat→Nat→Value),Sim P sh κ φ H w→zbI (res n) H l=some (ds,H')→
 (∀(i:Nat) e,l[i]? =some e→e.cells.length=sz∧∀(j:Nat) x,e.cells[j]? =some x→Rel φ w (stab κ φ H) x (g i j))→
 Sim P sh κ φ H' w∧Ext κ φ H w φ H' w∧ds.length=l.length∧∀(i:Nat) d,ds[i]? =some d→d.cells.length=sz∧∀(j:Nat) y,d.cells[j]? =some y→RD w (stab κ φ H') y (g i j)
 |[],H,ds,H',g,s,h,_=>by
  simp only[zbI,Option.some.injEq,Prod.mk.injEq]at h
  obtain⟨rfl,rfl⟩:=h
  exact⟨s,.refl,rfl,fun j y hy=>by simp at hy⟩
 |v::r,H,ds,H',g,s,h,hg=>by
  simp only[zbI]at h
  cases h1:res n H v with
  |none=>rw[h1]at h;simp at h
  |some p=>
   obtain⟨x,H1⟩:=p
   rw[h1]at h
   simp only[Option.bind_some]at h
   cases h2:zbI (res n) H1 r with
   |none=>rw[h2]at h;simp at h
   |some q=>
    obtain⟨xs,H2⟩:=q
    rw[h2]at h
    simp only[Option.map_some,Option.some.injEq,Prod.mk.injEq]at h
    obtain⟨rfl,rfl⟩:=h
    obtain⟨hg1,hg2⟩:=hg 0 v rfl
    obtain⟨s1,e1,l1,r1⟩:=zBw ih H v x H1 (g 0) s h1 hg2
    obtain⟨s2,e2,hl,r2⟩:=zoi ih r H1 xs H2 (fun i=>g (i+1)) s1 h2 (fun i e he=>let⟨a,b⟩:=hg (i+1) e he;⟨a,fun j x hx=>e1.rv (b j x hx)⟩)
    refine⟨s2,e1.trans e2,by simp[hl],fun i d hd=> ?_⟩
    cases i with
    |zero=>simp at hd;subst hd;exact⟨l1.trans hg1,fun j y hy=>e2.rd (r1 j y hy)⟩
    |succ i=>exact r2 i d hd
theorem ztO {n sz:Nat} (ih:∀k,k≤n→zqm P sh κ φ w k) (l:List V) (H:Heap) (ds:List D) (H':Heap) (g:Nat→Nat→Value) (s:Sim P sh κ φ H w) (h:zba (res n) H l=some (ds,H'))
 (hg:∀(i:Nat) e,l[i]? =some e→e.cells.length=sz∧∀(j:Nat) x,e.cells[j]? =some x→Rel φ w (stab κ φ H) x (g i j)):
 Sim P sh κ φ H' w∧Ext κ φ H w φ H' w∧ds.length=l.length∧∀(i:Nat) d,ds[i]? =some d→d.cells.length=sz∧∀(j:Nat) y,d.cells[j]? =some y→RD w (stab κ φ H') y (g i j):=by
 unfold zba at h
 split at h
 ·rename_i ds' hd
  simp only[Option.some.injEq,Prod.mk.injEq]at h
  obtain⟨rfl,rfl⟩:=h
  have:=zdE hd
  subst this
  refine⟨s,.refl,by simp,fun i d hi=> ?_⟩
  obtain⟨a,b⟩:=hg i (.d d) (by simp[hi])
  exact⟨by simpa[V.cells]using a,fun j y hy=>(b j (.d y) (by simp[V.cells,hy])).d_inv⟩
 ·exact zoi ih l H ds H' g s h hg
theorem zwY (n:Nat):zqm P sh κ φ w n:=by
 induction n using Nat.strongRecOn with
 |_ n ih=>
  intro H v x H' mv s h hr
  have hd:∀y,v= .d y→Sim P sh κ φ H' w∧Ext κ φ H w φ H' w∧RD w (stab κ φ H') x mv:=by
   intro y hy
   subst hy
   have:res n H (.d y)=some (y,H):=by cases n<;>rfl
   rw[this]at h
   simp only[Option.some.injEq,Prod.mk.injEq]at h
   obtain⟨rfl,rfl⟩:=h
   exact⟨s,.refl,hr.d_inv⟩
  cases n with
  |zero=>cases v<;>first|exact hd _ rfl|simp[res]at h
  |succ n=>
   have ih':∀k,k≤n→zqm P sh κ φ w k:=fun k hk=>ih k (by omega)
   cases hr with
   |d hx=>exact hd _ rfl
   |agg hs hh=>
    rename_i cs vs
    simp only[res]at h
    cases h1:zba (res n) H cs with
    |none=>rw[h1]at h;simp at h
    |some p=>
     rw[h1]at h
     simp only[Option.map_some,Option.some.injEq,Prod.mk.injEq]at h
     obtain⟨rfl,rfl⟩:=h
     obtain⟨s1,e1,l1,r1⟩:=zmy (ih' n (Nat.le_refl _)) cs H _ _ (fun j=>vs.getD j undef) s h1 (fun j x hx=>hh j x _ hx (by have:=zav hx;simp[Array.getD,hs,this]))
     refine⟨s1,e1,.agg (hs.trans l1.symm) fun j y v hy hv=> ?_⟩
     have:=r1 j y hy
     have hj:j<vs.size:=by have:=zav hy;omega
     rw[Array.getElem?_eq_getElem hj]at hv
     simp only[Option.some.injEq]at hv
     simpa[Array.getD,hj,hv]using this
   |tuple hs hh=>
    rename_i cs vs
    simp only[res]at h
    cases h1:zba (res n) H cs with
    |none=>rw[h1]at h;simp at h
    |some p=>
     rw[h1]at h
     simp only[Option.map_some,Option.some.injEq,Prod.mk.injEq]at h
     obtain⟨rfl,rfl⟩:=h
     obtain⟨s1,e1,l1,r1⟩:=zmy (ih' n (Nat.le_refl _)) cs H _ _ (fun j=>vs.getD j undef) s h1 (fun j x hx=>hh j x _ hx (by have:=zav hx;simp[Array.getD,hs,this]))
     refine⟨s1,e1,.tuple (hs.trans l1.symm) fun j y v hy hv=> ?_⟩
     have:=r1 j y hy
     have hj:j<vs.size:=by have:=zav hy;omega
     rw[Array.getElem?_eq_getElem hj]at hv
     simp only[Option.some.injEq]at hv
     simpa[Array.getD,hj,hv]using this
   |sl hc hp=>
    rename_i b off len a cap
    simp only[res]at h
    cases hb:H.get b with
    |none=>rw[hb]at h;simp at h
    |some y=>
     rw[hb]at h
     cases y with
     |els z l fz=>
      simp only at h
      split at h
      case isFalse=>cases h
      rename_i hle
      cases h1:zba (res n) (freeze H b (off+len)) ((l.drop off).take len)with
      |none=>rw[h1]at h;simp at h
      |some p=>
       rw[h1]at h
       simp only[Option.map_some,Option.some.injEq,Prod.mk.injEq]at h
       obtain⟨rfl,rfl⟩:=h
       obtain⟨m,sz,hφ,rfl,h1',cs,ty,h2,h3,h4⟩:=s.get hb
       rcases hp with hp|⟨m',sz',t',k',hφ',ha,hsh,hcap⟩
       ·rw[hp]at hφ;cases hφ
       rw[hφ]at hφ';cases hφ'
       subst ha
       obtain⟨s1,e1,fz',hfz',hb1⟩:=zwX s hb hle
       have hin:∀i,i<l.length→i*sz+sz≤cs.size:=fun i hi=>by
        have:(i+1)*sz≤l.length*sz:=Nat.mul_le_mul_right sz hi
        rw[Nat.add_mul]at this;omega
       have hget:∀(i:Nat) e,((l.drop off).take len)[i]? =some e→i<len∧l[off+i]? =some e:=fun i e he=>by
        have hi:=zav he
        simp at hi
        rw[List.getElem?_take,if_pos (by omega),List.getElem?_drop]at he
        exact⟨by omega,he⟩
       obtain⟨s2,e2,hl2,r2⟩:=ztO (sz:=sz) ih' ((l.drop off).take len) (freeze H b (off+len)) p.1 p.2 (fun i j=>cs.getD ((off+i)*sz+j) undef) s1 h1 (fun i e he=>by
        obtain⟨hi,he'⟩:=hget i e he
        obtain⟨h5,h6⟩:=h4 (off+i) e he'
        refine⟨h5,fun j x hx=>e1.rv (h6 j x _ hx ?_)⟩
        have hj:=zav hx
        have:=hin (off+i) (zav he')
        rw[Array.getElem?_eq_getElem (by omega)]
        simp[Array.getD,show(off+i)*sz+j<cs.size by omega])
       have hlen:p.1.length=len:=by rw[hl2];simp;omega
       refine⟨s2,e1.trans e2,?_⟩
       have:=RD.list (w:=w) (S:=stab κ φ p.2) (l:=p.1) (m:=m) (off:=off*sz) (cap:=cap) (sz:=sz) (fun i j=>cs.getD ((off+i)*sz+j) undef) (by omega) trivial (fun i e he=>(r2 i e he).1) (fun i e j he hj=> ?_) (fun i e j x he hx=>(r2 i e he).2 j x hx)
       ·rw[hlen]at this;exact this
       ·have hil:=zav he
        have hi2:=hin (off+i) (by omega)
        have heq:off*sz+(i*sz+j)=(off+i)*sz+j:=by rw[Nat.add_mul];omega
        rw[heq]
        have hcell:w.cell? ⟨m,(off+i)*sz+j,none⟩=some (cs.getD ((off+i)*sz+j) undef):=by
         simp only[World.cell?,h2,Option.isSome_none,Bool.false_eq_true,if_false]
         rw[Array.getElem?_eq_getElem (by omega)]
         simp[Array.getD,show(off+i)*sz+j<cs.size by omega]
        have hst:stab κ φ (freeze H b (off+len)) m ((off+i)*sz+j):=by
         refine⟨fun hm=>absurd hm (by have:=(s.blk b m sz hφ).1;omega),fun c szc hc=> ?_⟩
         have:c=b:=s.inj _ _ _ _ _ hc hφ
         subst this
         rw[hφ]at hc;cases hc
         refine⟨l,fz',hb1,?_⟩
         have:(off+i+1)*sz≤fz'*sz:=Nat.mul_le_mul_right sz (by omega)
         rw[Nat.add_mul (off+i)]at this
         omega
        exact⟨hcell,(e2.cell _ _ _ hst hcell).1⟩
     |_=>simp at h
   |_=>simp[res]at h
end Go.AI
namespace Go.AI
variable {P:Program} {sh:FuncId→Bool} {T:Tabs} {κ:Ctx T} {φ φ':Place} {H H':Heap} {w w' w'':World} {S S':Nat→Nat→Prop} {fr:Nat}
def zbE (P:Program) (sh:FuncId→Bool) (κ:Ctx T) (φ:Place) (H:Heap) (w:World) (fr:Nat) (r:Result Next) (v:V) (H':Heap):Prop:=
 ∃mv w' φ',(r= .ok (.value mv) w'∨(r= .ok .skip w'∧mv=undef))∧Sim P sh κ φ' H' w'∧Ext κ φ H w φ' H' w'∧Rel φ' w' (stab κ φ' H') v mv∧∀b,φ b= .unborn→b≠fr→φ' b= .unborn
theorem zbE.keep (s:Sim P sh κ φ H w) {r:Result Next} {v:V} {mv:Value} (hr:r= .ok (.value mv) w) (h:Rel φ w (stab κ φ H) v mv):zbE P sh κ φ H w fr r v H:=
 ⟨mv,w,φ,.inl hr,s,.refl,h,fun _ h _=>h⟩
theorem zbE.drew (s:Sim P sh κ φ H w) (d:Drew w w') {r:Result Next} {v:V} {mv:Value} (hr:r= .ok (.value mv) w') (h:Rel φ w (stab κ φ H) v mv):zbE P sh κ φ H w fr r v H:=
 ⟨mv,w',φ,.inl hr,(zfP s d).1,(zfP s d).2,(zfP s d).2.rv h,fun _ h _=>h⟩
theorem zwZ (s:Sim P sh κ φ H w) (hfr:φ fr= .unborn) (hlt:fr<H.next) {l:List V} {sz:Nat} {cs:Array Value} {t:TypeId} (hl:l.length*sz≤cs.size)
 (h:∀(i:Nat) e,l[i]? =some e→e.cells.length=sz∧∀(j:Nat) x v,e.cells[j]? =some x→cs[i*sz+j]? =some v→Rel φ w (stab κ φ H) x v):
 let w':World:={w with heap:=w.heap.push (.cells cs t)}
 Sim P sh κ (φ.set fr (.at w.heap.size sz)) (H.put fr (.els sz l 0)) w'∧Ext κ φ H w (φ.set fr (.at w.heap.size sz)) (H.put fr (.els sz l 0)) w'∧
  (∀b,φ b= .unborn→b≠fr→(φ.set fr (.at w.heap.size sz)) b= .unborn)∧w'.shape? w.heap.size=some (t,cs.size):=by
 intro w'
 have hnew:w'.heap[w.heap.size]? =some (.cells cs t (0,0)):=by
  show(w.heap.push _)[w.heap.size]? =_
  rw[Array.getElem?_push,if_pos rfl]
 obtain⟨s1,e1⟩:=zko (sz:=sz) (x:= .els sz l 0) (o:= .cells cs t) s hfr hlt (fun ex ho=>⟨rfl,Nat.zero_le _,cs,t,ho,hl,fun i e he=>let⟨a,b⟩:=h i e he;⟨a,fun j x v hx hv=>ex.rv (b j x v hx hv)⟩⟩)
 exact⟨s1,e1,fun b hb hne=>by rw[zaR _ _ hne];exact hb,by simp only[World.shape?,hnew]⟩
theorem zxa (s:Sim P sh κ φ H w) (hfr:φ fr= .unborn) (hlt:fr<H.next) {t:TypeId} {x:V} {v:Value} (h:Rel φ w (stab κ φ H) x v) (hx:x≠.undef):
 zbE P sh κ φ H w fr (.ok (.value (.pointer (some ⟨w.heap.size,0,none⟩))) {w with heap:=w.heap.push (.cells v.cells t)}) (.ptr fr 0 0) (H.put fr (.els x.cells.length [x] 0)):=by
 obtain⟨h1,h2⟩:=h.cells hx
 obtain⟨s1,e1,u1,_⟩:=zwZ (l:=[x]) (sz:=x.cells.length) (cs:=v.cells) (t:=t) s hfr hlt (by simp[h1]) (fun i e he=>by
  cases i with
  |zero=>simp at he;subst he;exact⟨rfl,fun j y u hy hu=>h2 j y u hy (by simpa using hu)⟩
  |succ i=>simp at he)
 exact⟨_,_,_,.inl rfl,s1,e1,.ptr (.inr ⟨_,_,zaU _ _ _,by simp⟩),u1⟩
theorem zgP {v:Value} {x:D} (h:zfs v=some x):RD w S x v∧x.cells=[x]∧v.cells= #[v]:=by
 have key:∀{v:Value} {y:D},RD w S y v→y.cells=[y]→v.cells= #[v]→some y=some x→RD w S x v∧x.cells=[x]∧v.cells= #[v]:=by
  intro v y h1 h2 h3 h4
  cases h4
  exact⟨h1,h2,h3⟩
 unfold zfs at h
 split at h
 ·exact key (.bool _) rfl rfl h
 ·exact key (.int _ _) rfl rfl h
 ·exact key (.str _) rfl rfl h
 ·exact key .nil rfl rfl h
 ·exact key .nilp rfl rfl h
 ·exact key .nilf rfl rfl h
 ·exact key .nilm rfl rfl h
 ·exact key .nili rfl rfl h
 ·rename_i f first cap
  split at h
  ·rename_i hc
   simp only[Bool.and_eq_true,Array.isEmpty_iff]at hc
   obtain⟨rfl,rfl⟩:=hc
   exact key (.fn f) rfl rfl h
  ·cases h
 ·cases h
theorem zje:∀{l:List Value} {ds:List D},zcI l=some ds→ds.length=l.length∧∀(j:Nat) x v,ds[j]? =some x→l[j]? =some v→RD w S x v
 |[],ds,h=>by simp[zcI]at h;subst h;exact⟨rfl,fun j x v hx=>by simp at hx⟩
 |v::r,ds,h=>by
  simp only[zcI]at h
  cases h1:zfs v with
  |none=>rw[h1]at h;simp at h
  |some x=>
   rw[h1]at h
   simp only[Option.bind_some]at h
   cases h2:zcI r with
   |none=>rw[h2]at h;simp at h
   |some xs=>
    rw[h2]at h
    simp only[Option.map_some,Option.some.injEq]at h
    subst h
    obtain⟨hl,hr⟩:=zje h2
    refine⟨by simp[hl],fun j y u hy hu=> ?_⟩
    cases j with
    |zero=>simp at hy hu;subst hy hu;exact(zgP h1).1
    |succ j=>exact hr j y u hy hu
theorem zbX {v:Value} {x:D} (h:zke v=some x):RD w S x v:=by
 unfold zke at h
 split at h
 ·rename_i cs
  cases h1:zcI cs.toList with
  |none=>rw[h1]at h;simp at h
  |some ds=>
   rw[h1]at h
   simp only[Option.map_some,Option.some.injEq]at h
   subst h
   obtain⟨hl,hr⟩:=zje (w:=w) (S:=S) h1
   exact .agg (by simpa using hl.symm) fun j x v hx hv=>hr j x v hx (by simpa using hv)
 ·exact(zgP h).1
theorem zcv {t:TypeId} {z:D} (h:zfp P t=some z):∃i v,P.info? t=some i∧i.zero=some v∧zke v=some z:=by
 unfold zfp at h
 cases h1:P.info? t with
 |none=>rw[h1]at h;simp at h
 |some i=>
  rw[h1]at h
  simp only[Option.bind_some]at h
  cases h2:i.zero with
  |none=>rw[h2]at h;simp at h
  |some v=>rw[h2]at h;exact⟨i,v,rfl,h2,h⟩
theorem zbT {t:TypeId} {i:TypeInfo} {v:Value} (hi:P.info? t=some i) (hz:i.zero=some v):(zeroValue t).run P w= .ok v w:=by
 simp[zeroValue,typeInfo,hi,hz]
theorem zBx (s:Sim P sh κ φ H w) (hfr:φ fr= .unborn) (hlt:fr<H.next) {t:TypeId} {z:D} (hz:zfp P t=some z):
 zbE P sh κ φ H w fr ((do pure (.value (←Instr.alloc t true (.tuple #[]))):Sem Next).run P w) (.ptr fr 0 0) (H.put fr (.els z.cells.length [.d z] 0)):=by
 obtain⟨i,v,hi,hv,hc⟩:=zcv hz
 have h:=zxa (t:=t) s hfr hlt (x:= .d z) (v:=v) (.d (zbX hc)) (by simp)
 simp only[Instr.alloc,Sem.run_bind,zbT hi hv,Result.andThen_ok,newVar,newRow,run_newObj,Sem.run_pure]
 rw[show(V.d z).cells.length=z.cells.length by simp[V.cells]]at h
 exact h
theorem zJB (s:Sim P sh κ φ H w) (hfr:φ fr= .unborn) (hlt:fr<H.next) {t:TypeId} {x:V} {v:Value} (h:Rel φ w (stab κ φ H) x v) {b:Blk} (hb:boxed x=some b):
 zbE P sh κ φ H w fr ((do pure (.value (←Instr.box t v)):Sem Next).run P w) (.ptr fr 0 0) (H.put fr b):=by
 have hx:x≠.undef:=by intro hx;subst hx;simp[boxed]at hb
 have hb':b= .els x.cells.length [x] 0:=by
  unfold boxed at hb
  split at hb
  ·cases hb
  ·simp only[Option.some.injEq]at hb;exact hb.symm
 subst hb'
 have h:=zxa (t:=t) s hfr hlt h hx
 simp only[Instr.box,Sem.run_bind,Result.andThen_ok,newVar,newRow,run_newObj,Sem.run_pure]
 exact h
theorem zFQ {c a b:V} {mc ma mb:Value} (hc:Rel φ w S c mc) (ha:Rel φ w S a ma) (hb:Rel φ w S b mb) {t:Bool} (ht:c= .d (.bool t)):
 ((do pure (.value (if←asBool mc then ma else mb)):Sem Next).run P w)= .ok (.value (if t then ma else mb)) w∧Rel φ w S (if t then a else b) (if t then ma else mb):=by
 subst ht
 have:=hc.d_inv
 cases this
 refine⟨by simp[asBool],?_⟩
 cases t
 ·exact hb
 ·exact ha
theorem zqn {x:V} {v:Value} (h:Rel φ w S x v) (hn:isNil x=some false):
 (∃a,v= .pointer (some a))∨(∃f a b,v= .func (.func f) a b)∨(∃a l c,v= .slice a l c)∨∃r,v= .map r:=by
 cases h with
 |d h=>
  cases h<;>first|exact .inr (.inl ⟨_,_,_,rfl⟩)|exact .inr (.inr (.inl ⟨_,_,_,rfl⟩))|simp[isNil]at hn
 |undef=>simp[isNil]at hn
 |agg=>simp[isNil]at hn
 |tuple=>simp[isNil]at hn
 |it=>simp[isNil]at hn
 |yld=>simp[isNil]at hn
 |ptr=>exact .inl ⟨_,rfl⟩
 |rp=>exact .inl ⟨_,rfl⟩
 |sl=>exact .inr (.inr (.inl ⟨_,_,_,rfl⟩))
 |clo=>exact .inr (.inl ⟨_,_,_,rfl⟩)
 |map=>exact .inr (.inr (.inr ⟨_,rfl⟩))
theorem zNZ {op:UnOp} {x y:V} {v:Value} (h:Rel φ w S x v) (hy:unV op x=some y):∃mv,(Op.unary op v).run P w= .ok mv w∧Rel φ w S y mv:=by
 unfold unV at hy
 split at hy
 ·have:=h.d_inv;cases this
  simp only[Option.some.injEq]at hy;subst hy
  exact⟨_,rfl,.d (.bool _)⟩
 ·have:=h.d_inv;cases this
  simp only[Option.some.injEq]at hy;subst hy
  exact⟨_,rfl,.d (.int _ _)⟩
 ·cases hy
theorem str_inv {l:List UInt8} {v:Value} (h:RD w S (.str l) v):∃s:ByteArray,v= .string s∧s.data.toList=l:=by
 cases h with|str s=>exact⟨s,rfl,rfl⟩
theorem zxb {l:List UInt8} {s:ByteArray} (h:s.data.toList=l):RD w S (.str l) (.string s):=by subst h;exact .str s
theorem zFR {s t:TypeId} {k:Cv} {x y:V} {v:Value} (h:Rel φ w S x v) (hy:convV k x=some y)
 (hk:match k with
  | .int k=>(∃j,P.underlying s=some (.int j))∧P.underlying t=some (.int k)
  | .rune=>(∃j,P.underlying s=some (.int j))∧P.underlying t=some .string
  | .same=>P.underlying s=some .string∧P.underlying t=some .string):∃mv,(convert s t v).run P w= .ok mv w∧Rel φ w S y mv:=by
 unfold convV at hy
 split at hy
 ·have:=h.d_inv;cases this
  simp only[Option.some.injEq]at hy;subst hy
  obtain⟨⟨j,h1⟩,h2⟩:=hk
  refine⟨_,?_,.d (.int _ _)⟩
  simp[convert,zan h1,zan h2,Conv.intToInt]
 ·have:=h.d_inv;cases this
  simp only[Option.some.injEq]at hy;subst hy
  obtain⟨⟨j,h1⟩,h2⟩:=hk
  refine⟨_,?_,.d (.str _)⟩
  simp[convert,zan h1,zan h2,Conv.intToString]
 ·obtain⟨s',rfl,hs⟩:=str_inv h.d_inv
  simp only[Option.some.injEq]at hy;subst hy
  obtain⟨h1,h2⟩:=hk
  refine⟨_,?_,.d (zxb hs)⟩
  simp[convert,zan h1,zan h2]
 ·cases hy
theorem zdb {x:V} {v:Value} {n:Nat} (h:Rel φ w S x v) (hn:asNat x=some n):∃k,v= .int k n∧(asIntOf v).run P w= .ok (k,(n:Int)) w:=by
 unfold asNat at hn
 split at hn
 ·have:=h.d_inv;cases this
  split at hn
  ·rename_i k i h0
   simp only[Option.some.injEq]at hn
   have:(n:Int)=i:=by omega
   exact⟨k,by rw[this],by rw[this];rfl⟩
  ·cases hn
 ·cases hn
def zEZ (n:Nat):V→Option V
 | .ptr b i o=>some (.ptr b i (o+n))
 | .rp z o=>some (.rp z (o+n))
 |_=>none
theorem zrU {s:TypeId} {fs:Array Field} {f:Nat} {fd:Field} (hs:P.underlying s=some (.struct fs)) (hf:fs[f]? =some fd) (h0:P.cellsOf fd.type≠0) {x y:V} {v:Value} (h:Rel φ w S x v)
 (hy:zEZ fd.offset x=some y):
 ∃mv,(Instr.fieldAt s v f).run P w= .ok mv w∧Rel φ w S y mv:=by
 obtain⟨i,hi⟩:∃i,P.info? fd.type=some i:=by
  cases hi:P.info? fd.type with
  |none=>simp[Program.cellsOf,hi]at h0
  |some i=>exact⟨i,rfl⟩
 cases h with
 |ptr hp=>
  simp only[zEZ,Option.some.injEq]at hy;subst hy
  rename_i a
  refine⟨.pointer (some (a.add fd.offset)),by simp[Instr.fieldAt,zan hs,hf,Instr.sureAddr,fieldPlace,run_sizeOf hi,h0],.ptr ?_⟩
  rcases hp with hp|⟨m,sz,hp,ha⟩
  ·exact .inl hp
  ·exact .inr ⟨m,sz,hp,by rw[ha,Addr.add_lit,Nat.add_assoc]⟩
 |rp g hc hv=>
  simp only[zEZ,Option.some.injEq]at hy;subst hy
  rename_i o m p
  refine⟨.pointer (some ((⟨m,p+o,none⟩:Addr).add fd.offset)),by simp[Instr.fieldAt,zan hs,hf,Instr.sureAddr,fieldPlace,run_sizeOf hi,h0],?_⟩
  rw[Addr.add_lit,Nat.add_assoc]
  exact .rp g hc hv
 |_=>simp[zEZ]at hy
theorem ztP {x y:V} {i:Nat} {v:Value} (h:Rel φ w S x v) (hy:extractV i x=some y):∃mv,(Instr.extract v i).run P w= .ok mv w∧Rel φ w S y mv:=by
 cases h with
 |d h=>
  cases h with
  |tuple hs hh=>
   rename_i cs vs
   simp only[extractV]at hy
   cases hc:cs[i]? with
   |none=>rw[hc]at hy;simp at hy
   |some z=>
    rw[hc]at hy
    simp only[Option.map_some,Option.some.injEq]at hy;subst hy
    have hi:=zav hc
    have hv:vs[i]? =some vs[i]:=by simp
    exact⟨vs[i],by simp only[Instr.extract,hv,Sem.run_pure],.d (hh i z _ hc hv)⟩
  |_=>simp[extractV]at hy
 |tuple hs hh=>
  rename_i cs vs
  simp only[extractV]at hy
  have hi:=zav hy
  have hv:vs[i]? =some vs[i]:=by simp
  exact⟨vs[i],by simp only[Instr.extract,hv,Sem.run_pure],hh i y _ hy hv⟩
 |_=>simp[extractV]at hy
end Go.AI
namespace Go.AI
variable {P:Program} {sh:FuncId→Bool} {T:Tabs} {κ:Ctx T} {φ φ':Place} {H H':Heap} {w w' w'':World} {S S':Nat→Nat→Prop} {fr:Nat}
def zfa (P:Program) (t:TypeId) (vs:Array Value) (off:Nat):Value:=
 match zcn P t with
 |some (some k)=> .agg (vs.extract off (off+k))
 |_=>vs.getD off undef
theorem zfb {t:TypeId} {vs:Array Value} {off:Nat} {x:Option Nat} (ha:zcn P t=some x) (h:x=none→off<vs.size):(part t vs off).run P w= .ok (zfa P t vs off) w:=by
 unfold zfa
 rw[ha]
 cases x with
 |none=>
  have:=h rfl
  simp[part,zlC ha,this,Array.getD]
 |some k=>
  obtain⟨h1,h2⟩:=zlB (w:=w) ha
  obtain⟨i,hi⟩:=zia ha
  simp[part,h1,run_sizeOf hi,h2]
theorem zgE:∀(k1 k2:List CK) (xs ys:List D) (b:Bool),zaM (k1++k2) xs ys=some b→
 ∃b1 b2,zaM k1 (xs.take k1.length) (ys.take k1.length)=some b1∧zaM k2 (xs.drop k1.length) (ys.drop k1.length)=some b2∧b=(b1&&b2)
 |[],k2,xs,ys,b,h=>⟨true,b,by simp[zaM],by simpa using h,by simp⟩
 |c::cs,k2,[],ys,b,h=>by simp[zaM]at h
 |c::cs,k2,x::xs,[],b,h=>by simp[zaM]at h
 |c::cs,k2,x::xs,y::ys,b,h=>by
  simp only[List.cons_append,zaM]at h
  cases h1:zbt c x y with
  |none=>rw[h1]at h;simp at h
  |some a=>
   rw[h1]at h
   simp only[Option.bind_some]at h
   cases h2:zaM (cs++k2) xs ys with
   |none=>rw[h2]at h;simp at h
   |some b'=>
    rw[h2]at h
    simp only[Option.map_some,Option.some.injEq]at h
    obtain⟨b1,b2,e1,e2,e3⟩:=zgE cs k2 xs ys b' h2
    refine⟨a&&b1,b2,by simp[zaM,h1,e1],by simpa using e2,?_⟩
    rw[←h,e3,Bool.and_assoc]
theorem zbJ:∀{ks:List CK} {xs ys:List D} {b:Bool},zaM ks xs ys=some b→xs.length=ks.length∧ys.length=ks.length
 |[],[],[],_,_=>⟨rfl,rfl⟩
 |[],x::xs,ys,_,h=>by simp[zaM]at h
 |[],[],y::ys,_,h=>by simp[zaM]at h
 |c::cs,[],ys,_,h=>by simp[zaM]at h
 |c::cs,x::xs,[],_,h=>by simp[zaM]at h
 |c::cs,x::xs,y::ys,b,h=>by
  simp only[zaM]at h
  cases h1:zbt c x y with
  |none=>rw[h1]at h;simp at h
  |some a=>
   rw[h1]at h
   simp only[Option.bind_some]at h
   cases h2:zaM cs xs ys with
   |none=>rw[h2]at h;simp at h
   |some b'=>obtain⟨e1,e2⟩:=zbJ h2;simp[e1,e2]
theorem zjx (a b:ByteArray):(a.toList==b.toList)=(a.data.toList==b.data.toList):=by rw[ByteArray.toList_eq,ByteArray.toList_eq]
def CK.fits (P:Program) (t:TypeId):CK→Prop
 | .bool=>P.underlying t=some .bool
 | .int=>∃k,P.underlying t=some (.int k)
 | .str=>P.underlying t=some .string
theorem ztQ {d:Nat} {t:TypeId} {c:CK} {x y:D} {b:Bool} {v u:Value} (hx:RD w S x v) (hy:RD w S y u) (h:zbt c x y=some b)
 (ht:c.fits P t):(Op.equalIn (d+1) t v u).run P w= .ok b w:=by
 cases c with
 |int=>
  cases hx<;>first|(simp[zbt]at h;done)|skip
  cases hy<;>first|(simp[zbt]at h;done)|skip
  simp only[zbt]at h
  split at h
  ·rename_i hk;subst hk
   simp only[Option.some.injEq]at h;subst h
   obtain⟨k,hk⟩:=ht
   simp[Op.equalIn,zan hk]
  ·cases h
 |str=>
  cases x<;>first|(simp[zbt]at h;done)|skip
  cases y<;>first|(simp[zbt]at h;done)|skip
  obtain⟨s1,rfl,e1⟩:=str_inv hx
  obtain⟨s2,rfl,e2⟩:=str_inv hy
  simp only[zbt,Option.some.injEq]at h;subst h
  have hs:P.underlying t=some .string:=ht
  rw[run_equalIn_string w d t s1 s2 hs,zjx,e1,e2]
 |bool=>
  cases hx<;>first|(simp[zbt]at h;done)|skip
  cases hy<;>first|(simp[zbt]at h;done)|skip
  simp only[zbt,Option.some.injEq]at h;subst h
  have hs:P.underlying t=some .bool:=ht
  simp[Op.equalIn,zan hs]
def zQr (P:Program) (w:World) (S:Nat→Nat→Prop) (n:Nat):Prop:=
 ∀(t:TypeId) (ks:List CK),flatK P n t=some ks→(∃x,zcn P t=some x∧(x=none→ks.length=1)∧∀k,x=some k→ks.length=k)∧
  ∀(vs us:Array Value) (off:Nat) (xs ys:List D) (b:Bool),(∀(j:Nat) x,xs[j]? =some x→RD w S x (vs.getD (off+j) undef))→(∀(j:Nat) y,ys[j]? =some y→RD w S y (us.getD (off+j) undef))→
   off+ks.length≤vs.size→off+ks.length≤us.size→zaM ks xs ys=some b→∀d,n≤d→(Op.equalIn d t (zfa P t vs off) (zfa P t us off)).run P w= .ok b w
theorem zoj {n:Nat} (ih:zQr P w S n):∀(fs:List Field) (off:Nat) (ks:List CK),zdB (flatK P n) off fs=some ks→
 ∀(vs us:Array Value) (xs ys:List D) (b:Bool),(∀(j:Nat) x,xs[j]? =some x→RD w S x (vs.getD (off+j) undef))→(∀(j:Nat) y,ys[j]? =some y→RD w S y (us.getD (off+j) undef))→
  off+ks.length≤vs.size→off+ks.length≤us.size→zaM ks xs ys=some b→∀d,n≤d→(Op.eqFields d vs us fs).run P w= .ok b w
 |[],off,ks,h,vs,us,xs,ys,b,_,_,_,_,hb,d,_=>by
  simp only[zdB,Option.some.injEq]at h;subst h
  obtain⟨h1,h2⟩:=zbJ hb
  simp at h1 h2;subst h1 h2
  simp[zaM]at hb;subst hb
  simp[Op.eqFields]
 |f::fs,off,ks,h,vs,us,xs,ys,b,hx,hy,hv,hu,hb,d,hd=>by
  simp only[zdB]at h
  split at h
  case isFalse=>cases h
  rename_i hf
  simp only[Bool.and_eq_true,bne_iff_ne,ne_eq,beq_iff_eq]at hf
  obtain⟨hf1,hf2⟩:=hf
  cases h1:flatK P n f.type with
  |none=>rw[h1]at h;simp at h
  |some k1=>
   rw[h1]at h
   simp only[Option.bind_some]at h
   cases h2:zdB (flatK P n) (off+k1.length) fs with
   |none=>rw[h2]at h;simp at h
   |some k2=>
    rw[h2]at h
    simp only[Option.map_some,Option.some.injEq]at h
    subst h
    obtain⟨b1,b2,e1,e2,e3⟩:=zgE k1 k2 xs ys b hb
    simp only[List.length_append]at hv hu
    obtain⟨⟨z,hz,hz1,hz2⟩,hq⟩:=ih f.type k1 h1
    have pv:=zfb (w:=w) (vs:=vs) (off:=off) hz (fun hn=>by have:=hz1 hn;omega)
    have pu:=zfb (w:=w) (vs:=us) (off:=off) hz (fun hn=>by have:=hz1 hn;omega)
    have r1:=hq vs us off (xs.take k1.length) (ys.take k1.length) b1 (fun j x hj=>hx j x (by rw[List.getElem?_take]at hj;split at hj;exact hj;cases hj))
     (fun j y hj=>hy j y (by rw[List.getElem?_take]at hj;split at hj;exact hj;cases hj)) (by omega) (by omega) e1 d hd
    have r2:=zoj ih fs (off+k1.length) k2 h2 vs us (xs.drop k1.length) (ys.drop k1.length) b2 (fun j x hj=>by rw[List.getElem?_drop]at hj;have:=hx _ x hj;rw[←Nat.add_assoc]at this;exact this)
     (fun j y hj=>by rw[List.getElem?_drop]at hj;have:=hy _ y hj;rw[←Nat.add_assoc]at this;exact this) (by omega) (by omega) e2 d hd
    simp only[Op.eqFields]
    rw[if_pos hf1,hf2]
    simp only[Sem.run_bind,pv,pu,Result.andThen_ok,r1]
    cases b1
    ·simp[e3]
    ·simp[r2,e3]
theorem zFS (n:Nat):zQr P w S n:=by
 induction n with
 |zero=>intro t ks h;simp[flatK]at h
 |succ n ih=>
  intro t ks h
  simp only[flatK]at h
  have scalar:∀(c:CK),ks=[c]→c.fits P t→zcn P t=some none→
   (∃x,zcn P t=some x∧(x=none→ks.length=1)∧∀k,x=some k→ks.length=k)∧
  ∀(vs us:Array Value) (off:Nat) (xs ys:List D) (b:Bool),(∀(j:Nat) x,xs[j]? =some x→RD w S x (vs.getD (off+j) undef))→(∀(j:Nat) y,ys[j]? =some y→RD w S y (us.getD (off+j) undef))→
   off+ks.length≤vs.size→off+ks.length≤us.size→zaM ks xs ys=some b→∀d,n+1≤d→(Op.equalIn d t (zfa P t vs off) (zfa P t us off)).run P w= .ok b w:=by
   intro c hc ht ha
   subst hc
   refine⟨⟨none,ha,(fun _=>rfl),(fun k hk=>(by cases hk))⟩,fun vs us off xs ys b hx hy hv hu hb d hd=> ?_⟩
   obtain⟨h1,h2⟩:=zbJ hb
   match xs,ys,h1,h2 with
   |[x],[y],_,_=>
    obtain⟨d,rfl⟩:∃k,d=k+1:=⟨d-1,by omega⟩
    have e1:=hx 0 x rfl
    have e2:=hy 0 y rfl
    simp only[zaM,Option.map_some,Bool.and_true]at hb
    simp only[zfa,ha]
    refine ztQ e1 e2 ?_ ht
    cases hce:zbt c x y with
    |none=>rw[hce]at hb;simp at hb
    |some a=>rw[hce]at hb;simpa using hb
  split at h
  ·rename_i hu;simp only[Option.some.injEq]at h;exact scalar .bool h.symm hu (by simp[zcn,hu])
  ·rename_i k hu;simp only[Option.some.injEq]at h;exact scalar .int h.symm ⟨k,hu⟩ (by simp[zcn,hu])
  ·rename_i hu;simp only[Option.some.injEq]at h;exact scalar .str h.symm hu (by simp[zcn,hu])
  ·rename_i fs hu
   split at h
   ·cases h
   rename_i hst
   cases h1:zdB (flatK P n) 0 fs.toList with
   |none=>rw[h1]at h;simp at h
   |some k1=>
    rw[h1]at h
    simp only[Option.bind_some]at h
    split at h
    case isFalse=>cases h
    rename_i hlen
    simp only[Option.some.injEq]at h;subst h
    simp only[beq_iff_eq]at hlen
    have ha:zcn P t=some (some (P.cellsOf t)):=by simp[zcn,hu]
    refine⟨⟨some (P.cellsOf t),ha,(fun hn=>(by cases hn)),(fun k hk=>(by cases hk;exact hlen))⟩,fun vs us off xs ys b hx hy hv hu' hb d hd=> ?_⟩
    obtain⟨d,rfl⟩:∃k,d=k+1:=⟨d-1,by omega⟩
    simp only[zfa,ha]
    have hfo:P.fieldsOf t=fs:=by simp[Program.fieldsOf,hu]
    rw[run_equalIn_struct w d t _ _ (by rw[hfo];exact hu) (by simpa using hst),hfo]
    obtain⟨l1,l2⟩:=zbJ hb
    have hext:∀(vs:Array Value),off+k1.length≤vs.size→∀j,j<k1.length→(vs.extract off (off+P.cellsOf t)).getD (0+j) undef=vs.getD (off+j) undef:=by
     intro vs hv j hj
     have a1:j<(vs.extract off (off+P.cellsOf t)).size:=by simp;omega
     have a2:off+j<vs.size:=by omega
     simp only[Nat.zero_add,Array.getD,a1,a2,dif_pos]
     simp
    refine zoj ih fs.toList 0 k1 h1 _ _ xs ys b (fun j x hj=> ?_) (fun j y hj=> ?_) (by simp;omega) (by simp;omega) hb d (by omega)
    ·rw[hext vs hv j (by have:=zav hj;omega)];exact hx j x hj
    ·rw[hext us hu' j (by have:=zav hj;omega)];exact hy j y hj
  ·cases h
theorem ztR (n:Nat):∀(t:TypeId) (ks:List CK),flatK P n t=some ks→∀d,n≤d→P.eqGuardType d t=false:=by
 induction n with
 |zero=>intro t ks h;simp[flatK]at h
 |succ n ih=>
  intro t ks h d hd
  obtain⟨d,rfl⟩:∃k,d=k+1:=⟨d-1,by omega⟩
  simp only[flatK]at h
  split at h
  ·rename_i hu;simp[Program.eqGuardType,hu]
  ·rename_i k hu;simp[Program.eqGuardType,hu]
  ·rename_i hu;simp[Program.eqGuardType,hu]
  ·rename_i fs hu
   split at h
   ·cases h
   cases h1:zdB (flatK P n) 0 fs.toList with
   |none=>rw[h1]at h;simp at h
   |some k1=>
    simp only[Program.eqGuardType,hu]
    have key:∀(l:List Field) (off:Nat) (ks:List CK),zdB (flatK P n) off l=some ks→l.any (fun f=>f.name != "_" &&P.eqGuardType d f.type)=false:=by
     intro l
     induction l with
     |nil=>intros;rfl
     |cons f l ihl=>
      intro off ks hk
      simp only[zdB]at hk
      split at hk
      case isFalse=>cases hk
      cases h3:flatK P n f.type with
      |none=>rw[h3]at hk;simp at hk
      |some k3=>
       rw[h3]at hk
       simp only[Option.bind_some]at hk
       cases h4:zdB (flatK P n) (off+k3.length) l with
       |none=>rw[h4]at hk;simp at hk
       |some k4=>
        simp only[List.any_cons,ihl _ _ h4,Bool.or_false]
        rw[ih f.type k3 h3 d (by omega)]
        simp
    have:=key fs.toList 0 k1 h1
    rw[←Array.any_toList];exact this
  ·cases h
end Go.AI
namespace Go.AI
variable {P:Program} {sh:FuncId→Bool} {T:Tabs} {κ:Ctx T} {φ φ':Place} {H H':Heap} {w w' w'':World} {S S':Nat→Nat→Prop} {fr:Nat}
theorem bytesLess_eq:∀(a b:List UInt8),Op.bytesLess a b=bytesLess a b
 |[],[]=>rfl
 |_::_,[]=>rfl
 |[],_::_=>rfl
 |a::x,b::y=>by simp only[Op.bytesLess,bytesLess,bytesLess_eq x y]
theorem zcS {op:BinOp} {t:TypeId} {k:IntKind} {a b:Int} (h:op= .eql∨op= .neq∨op= .lss∨op= .leq∨op= .gtr∨op= .geq):
 (binOp op t (.int k a) (.int k b)).run P w=(Op.intCmp op a b).run P w:=by
 have key:∀x:Sem Value,((if k≠k then stuck "BinOp: operands of different kinds" else x):Sem Value).run P w=x.run P w:=fun x=>by rw[if_neg (by simp)]
 rcases h with rfl|rfl|rfl|rfl|rfl|rfl<;>exact key _
theorem zqo {d:Nat} {t e:TypeId} (hu:P.underlying t=some (.slice e)) {p q:Option Addr} {n m c c':Nat} (h:(p.isNone||q.isNone)=true):
 (Op.equalIn (d+1) t (.slice p n c) (.slice q m c')).run P w= .ok (p.isNone&&q.isNone) w:=by
 cases p<;>cases q<;>first|(simp at h;done)|simp[Op.equalIn,zan hu]
theorem zxc {d:Nat} {t e:TypeId} (hu:P.underlying t=some (.pointer e)) {p q:Option Addr} (h:(p.isNone||q.isNone)=true):
 (Op.equalIn (d+1) t (.pointer p) (.pointer q)).run P w= .ok (p.isNone&&q.isNone) w:=by
 cases p<;>cases q<;>first|(simp at h;done)|simp[Op.equalIn,zan hu]
theorem zxd {d:Nat} {t e k:TypeId} (hu:P.underlying t=some (.map k e)) {p q:Option Nat} (h:(p.isNone||q.isNone)=true):
 (Op.equalIn (d+1) t (.map p) (.map q)).run P w= .ok (p.isNone&&q.isNone) w:=by
 cases p<;>cases q<;>first|(simp at h;done)|simp[Op.equalIn,zan hu]
theorem zib {d:Nat} {t:TypeId} {e1 e2:Array TypeId} {e3:Bool} (hu:P.underlying t=some (.func e1 e2 e3)) {f:Fn} {p q:Array Value}:
 (Op.equalIn (d+1) t .nilFunc .nilFunc).run P w= .ok true w∧(Op.equalIn (d+1) t .nilFunc (.func f p q)).run P w= .ok false w∧(Op.equalIn (d+1) t (.func f p q) .nilFunc).run P w= .ok false w:=by
 refine⟨?_,?_,?_⟩<;>simp[Op.equalIn,zan hu]
theorem zJC {op:BinOp} {t:TypeId} {k:IntKind} {a b:Int} {z:D} (h:zcH op k a b=some z):∃mz,(binOp op t (.int k a) (.int k b)).run P w= .ok mz w∧RD w S z mz:=by
 cases op<;>simp only[zcH]at h
 case add=>simp only[Option.some.injEq]at h;subst h;exact⟨_,by simp[binOp,Op.intArith],.int _ _⟩
 case sub=>simp only[Option.some.injEq]at h;subst h;exact⟨_,by simp[binOp,Op.intArith],.int _ _⟩
 case mul=>simp only[Option.some.injEq]at h;subst h;exact⟨_,by simp[binOp,Op.intArith],.int _ _⟩
 case quo=>
  split at h
  ·cases h
  ·rename_i hb;simp only[Option.some.injEq]at h;subst h;exact⟨_,by simp[binOp,Op.intDiv,hb],.int _ _⟩
 case rem=>
  split at h
  ·cases h
  ·rename_i hb;simp only[Option.some.injEq]at h;subst h;exact⟨_,by simp[binOp,Op.intDiv,hb],.int _ _⟩
 case and=>simp only[Option.some.injEq]at h;subst h;exact⟨_,by simp[binOp,Op.intBits],.int _ _⟩
 case or=>simp only[Option.some.injEq]at h;subst h;exact⟨_,by simp[binOp,Op.intBits],.int _ _⟩
 case eql=>simp only[Option.some.injEq]at h;subst h;exact⟨_,zcS (by simp),.bool _⟩
 case neq=>simp only[Option.some.injEq]at h;subst h;exact⟨_,zcS (by simp),.bool _⟩
 case lss=>simp only[Option.some.injEq]at h;subst h;exact⟨_,zcS (by simp),.bool _⟩
 case leq=>simp only[Option.some.injEq]at h;subst h;exact⟨_,zcS (by simp),.bool _⟩
 case gtr=>simp only[Option.some.injEq]at h;subst h;exact⟨_,zcS (by simp),.bool _⟩
 case geq=>simp only[Option.some.injEq]at h;subst h;exact⟨_,zcS (by simp),.bool _⟩
 all_goals cases h
theorem zxe {op:BinOp} {t:TypeId} {k k':IntKind} {a b:Int} {z:D} (h:zcu op k k' a b=some z):∃mz,(binOp op t (.int k a) (.int k' b)).run P w= .ok mz w∧RD w S z mz:=by
 unfold zcu at h
 split at h
 ·split at h
  ·rename_i hb
   simp only[Option.some.injEq]at h;subst h
   refine⟨.int k (zNN k a b),?_,.int _ _⟩
   simp only[binOp,Op.shift]
   rw[if_neg (by omega)];rfl
  ·cases h
 ·split at h
  ·rename_i hb
   simp only[Option.some.injEq]at h;subst h
   refine⟨.int k (zNO k a b),?_,.int _ _⟩
   simp only[binOp,Op.shift]
   rw[if_neg (by omega)];rfl
  ·cases h
 ·split at h
  ·rename_i hk;subst hk;exact zJC h
  ·cases h
theorem zJD {op:BinOp} {t:TypeId} {s u:ByteArray} {z:D} (h:zkd op s.data.toList u.data.toList=some z):∃mz,(binOp op t (.string s) (.string u)).run P w= .ok mz w∧RD w S z mz:=by
 have hb:∀op,binOp op t (.string s) (.string u)=Op.stringOp op s u:=fun op=>by cases op<;>rfl
 rw[hb]
 cases op<;>simp only[zkd]at h
 case add=>
  split at h
  ·rename_i hl
   simp only[Option.some.injEq]at h;subst h
   have h1:¬(((s.size+u.size:Nat):Int)>IntKind.i64.max):=by
    have e1:s.size=s.data.toList.length:=by rw[Array.length_toList];rfl
    have e2:u.size=u.data.toList.length:=by rw[Array.length_toList];rfl
    rw[IntKind.max_i64,e1,e2]
    unfold zEV at hl
    omega
   refine⟨.string (s++u),by simp only[Op.stringOp];rw[if_neg h1];rfl,zxb ?_⟩
   simp[ByteArray.data_append]
  ·cases h
 case eql=>simp only[Option.some.injEq]at h;subst h;exact⟨_,rfl,by rw[zjx];exact .bool _⟩
 case neq=>simp only[Option.some.injEq]at h;subst h;exact⟨_,rfl,by rw[zjx];exact .bool _⟩
 case lss=>simp only[Option.some.injEq]at h;subst h;exact⟨_,rfl,by rw[ByteArray.toList_eq,ByteArray.toList_eq,bytesLess_eq];exact .bool _⟩
 case leq=>simp only[Option.some.injEq]at h;subst h;exact⟨_,rfl,by rw[ByteArray.toList_eq,ByteArray.toList_eq,bytesLess_eq];exact .bool _⟩
 case gtr=>simp only[Option.some.injEq]at h;subst h;exact⟨_,rfl,by rw[ByteArray.toList_eq,ByteArray.toList_eq,bytesLess_eq];exact .bool _⟩
 case geq=>simp only[Option.some.injEq]at h;subst h;exact⟨_,rfl,by rw[ByteArray.toList_eq,ByteArray.toList_eq,bytesLess_eq];exact .bool _⟩
 all_goals cases h
theorem zmz {t:TypeId} {x y:V} {b:Bool} {v u:Value} (h:eqV (zeX P t) x y=some b) (hx:Rel φ w S x v) (hy:Rel φ w S y u):
 (Op.equal t v u).run P w= .ok b w∧(∀op ox oy,(eqGuard op t ox oy v u).run P w= .ok () w)∧(∀k n,v≠.int k n)∧(∀s,v≠.string s)∧(∀k n,v≠.float k n)∧(∀k n m,v≠.complex k n m):=by
 unfold eqV at h
 split at h
 ·rename_i hty
  have h1:=hx.d_inv;have h2:=hy.d_inv
  cases h1;cases h2
  simp only[Option.some.injEq]at h;subst h
  have hu:P.underlying t=some .bool:=by
   unfold zeX at hty
   split at hty<;>first|assumption|(try(split at hty))<;>first|cases hty|(split at hty<;>cases hty)
  refine⟨run_equal_bool w t _ _ hu,fun op ox oy=>by cases op<;>rfl,fun _ _ h=>(by cases h),fun _ h=>(by cases h),fun _ _ h=>(by cases h),fun _ _ _ h=>(by cases h)⟩
 ·rename_i ks xs ys hty
  have h1:=hx.d_inv;have h2:=hy.d_inv
  cases h1 with
  |agg hs1 hh1=>
   cases h2 with
   |agg hs2 hh2=>
    rename_i vs us
    obtain⟨fs,hu,hk,hd⟩:∃fs,P.underlying t=some (.struct fs)∧flatK P 20 t=some ks∧30≤P.depth:=by
     unfold zeX at hty
     split at hty
     ·cases hty
     ·rename_i fs hu
      split at hty
      ·rename_i ks' hk
       split at hty
       ·rename_i hd
        simp only[ETy.agg.injEq]at hty;subst hty
        exact⟨fs,hu,hk,hd⟩
       ·cases hty
      ·cases hty
     all_goals cases hty
    obtain⟨⟨z,hz,hz1,hz2⟩,hq⟩:=zFS (P:=P) (w:=w) (S:=S) 20 t ks hk
    have ha:zcn P t=some (some (P.cellsOf t)):=by simp[zcn,hu]
    rw[ha]at hz;cases hz
    have hlen:=hz2 _ rfl
    obtain⟨l1,l2⟩:=zbJ h
    have hval:∀us:Array Value,us.size=ks.length→zfa P t us 0= .agg us:=by
     intro us hus
     simp only[zfa,ha]
     rw[Nat.zero_add,←hlen,←hus];simp
    have e:=hq vs us 0 xs ys b (fun j x hj=>hh1 j x _ hj (by have:=zav hj;simp[Array.getD,hs1,this])) (fun j y hj=>hh2 j y _ hj (by have:=zav hj;simp[Array.getD,hs2,this])) (by omega) (by omega) h 10000 (by omega)
    rw[hval vs (by omega),hval us (by omega)]at e
    refine⟨e,fun op ox oy=>run_eqGuard_agg w op t ox oy vs us (ztR 20 t ks hk _ (by omega)),fun _ _ h=>(by cases h),fun _ h=>(by cases h),fun _ _ h=>(by cases h),fun _ _ _ h=>(by cases h)⟩
 ·rename_i x y ty x2 y2 hty1 hty2
  split at h
  case isFalse=>cases h
  rename_i hk
  obtain⟨hk1,hk2⟩:=hk
  cases hn1:isNil x with
  |none=>rw[hn1]at h;simp at h
  |some a=>
   rw[hn1]at h
   simp only[Option.bind_some]at h
   cases hn2:isNil y with
   |none=>rw[hn2]at h;simp at h
   |some c=>
    rw[hn2]at h
    simp only[Option.bind_some]at h
    split at h
    case isFalse=>cases h
    rename_i hac
    simp only[Option.some.injEq]at h;subst h
    have hsl:zeX P t= .slice→∃e,P.underlying t=some (.slice e):=by
     intro he;unfold zeX at he
     split at he
     ·cases he
     ·split at he
      ·split at he<;>cases he
      ·cases he
     ·exact⟨_,by assumption⟩
     all_goals cases he
    have hfu:zeX P t= .func→∃a b c,P.underlying t=some (.func a b c):=by
     intro he;unfold zeX at he
     split at he
     ·cases he
     ·split at he
      ·split at he<;>cases he
      ·cases he
     ·cases he
     ·exact⟨_,_,_,by assumption⟩
     all_goals cases he
    have hpt:zeX P t= .ptr→∃e,P.underlying t=some (.pointer e):=by
     intro he;unfold zeX at he
     split at he
     ·cases he
     ·split at he
      ·split at he<;>cases he
      ·cases he
     ·cases he
     ·cases he
     ·exact⟨_,by assumption⟩
     all_goals cases he
    have hma:zeX P t= .map→∃k e,P.underlying t=some (.map k e):=by
     intro he;unfold zeX at he
     split at he
     ·cases he
     ·split at he
      ·split at he<;>cases he
      ·cases he
     ·cases he
     ·cases he
     ·cases he
     ·exact⟨_,_,by assumption⟩
     all_goals cases he
    generalize hety:zeX P t=ty at hk1 hk2 hty1 hty2
    cases ty with
    |slice=>
     obtain⟨e,hu⟩:=hsl hety
     have inv:∀{x:V} {v:Value} {a:Bool},Rel φ w S x v→kindOf x= .slice→isNil x=some a→∃p n c,v= .slice p n c∧p.isNone=a:=by
      intro x v a hr hk hn
      cases hr with
      |d h=>cases h<;>first|(simp[kindOf]at hk;done)|(simp[isNil]at hn;subst hn;exact⟨_,_,_,rfl,rfl⟩)
      |sl hc h=>simp[isNil]at hn;subst hn;exact⟨_,_,_,rfl,rfl⟩
      |_=>simp[kindOf]at hk
     obtain⟨p,n,c1,rfl,hp⟩:=inv hx hk1 hn1
     obtain⟨q,m,c2,rfl,hq⟩:=inv hy hk2 hn2
     refine⟨?_,fun op ox oy=>by cases op<;>rfl,fun _ _ h=>(by cases h),fun _ h=>(by cases h),fun _ _ h=>(by cases h),fun _ _ _ h=>(by cases h)⟩
     subst hp hq;exact zqo (d:=9999) hu hac
    |func=>
     obtain⟨e1,e2,e3,hu⟩:=hfu hety
     have inv:∀{x:V} {v:Value} {a:Bool},Rel φ w S x v→kindOf x= .func→isNil x=some a→(v= .nilFunc∧a=true)∨(∃f p q,v= .func f p q)∧a=false:=by
      intro x v a hr hk hn
      cases hr with
      |d h=>cases h<;>first|(simp[kindOf]at hk;done)|(simp[isNil]at hn;subst hn;first|exact .inl ⟨rfl,rfl⟩|exact .inr ⟨⟨_,_,_,rfl⟩,rfl⟩)
      |clo=>simp[isNil]at hn;subst hn;exact .inr ⟨⟨_,_,_,rfl⟩,rfl⟩
      |_=>simp[kindOf]at hk
     rcases inv hx hk1 hn1 with⟨rfl,rfl⟩|⟨⟨f,p,q,rfl⟩,rfl⟩<;>rcases inv hy hk2 hn2 with⟨rfl,rfl⟩|⟨⟨f',p',q',rfl⟩,rfl⟩
     ·refine⟨(zib (d:=9999) (f:= .func 0) (p:= #[]) (q:= #[]) hu).1,fun op ox oy=>by cases op<;>rfl,fun _ _ h=>(by cases h),fun _ h=>(by cases h),fun _ _ h=>(by cases h),fun _ _ _ h=>(by cases h)⟩
     ·refine⟨(zib (d:=9999) hu).2.1,fun op ox oy=>by cases op<;>rfl,fun _ _ h=>(by cases h),fun _ h=>(by cases h),fun _ _ h=>(by cases h),fun _ _ _ h=>(by cases h)⟩
     ·refine⟨(zib (d:=9999) hu).2.2,fun op ox oy=>by cases op<;>rfl,fun _ _ h=>(by cases h),fun _ h=>(by cases h),fun _ _ h=>(by cases h),fun _ _ _ h=>(by cases h)⟩
     ·simp at hac
    |ptr=>
     obtain⟨e,hu⟩:=hpt hety
     have inv:∀{x:V} {v:Value} {a:Bool},Rel φ w S x v→kindOf x= .ptr→isNil x=some a→∃p,v= .pointer p∧p.isNone=a:=by
      intro x v a hr hk hn
      cases hr with
      |d h=>cases h<;>first|(simp[kindOf]at hk;done)|(simp[isNil]at hn;subst hn;exact⟨_,rfl,rfl⟩)
      |ptr h=>simp[isNil]at hn;subst hn;exact⟨_,rfl,rfl⟩
      |rp f hc hv=>simp[isNil]at hn;subst hn;exact⟨_,rfl,rfl⟩
      |_=>simp[kindOf]at hk
     obtain⟨p,rfl,hp⟩:=inv hx hk1 hn1
     obtain⟨q,rfl,hq⟩:=inv hy hk2 hn2
     refine⟨?_,fun op ox oy=>by cases op<;>rfl,fun _ _ h=>(by cases h),fun _ h=>(by cases h),fun _ _ h=>(by cases h),fun _ _ _ h=>(by cases h)⟩
     subst hp hq;exact zxc (d:=9999) hu hac
    |map=>
     obtain⟨e1,e2,hu⟩:=hma hety
     have inv:∀{x:V} {v:Value} {a:Bool},Rel φ w S x v→kindOf x= .map→isNil x=some a→∃p,v= .map p∧p.isNone=a:=by
      intro x v a hr hk hn
      cases hr with
      |d h=>cases h<;>first|(simp[kindOf]at hk;done)|(simp[isNil]at hn;subst hn;exact⟨_,rfl,rfl⟩)
      |map h=>simp[isNil]at hn;subst hn;exact⟨_,rfl,rfl⟩
      |_=>simp[kindOf]at hk
     obtain⟨p,rfl,hp⟩:=inv hx hk1 hn1
     obtain⟨q,rfl,hq⟩:=inv hy hk2 hn2
     refine⟨?_,fun op ox oy=>by cases op<;>rfl,fun _ _ h=>(by cases h),fun _ h=>(by cases h),fun _ _ h=>(by cases h),fun _ _ _ h=>(by cases h)⟩
     subst hp hq;exact zxd (d:=9999) hu hac
    |bool=>cases x<;>simp[kindOf]at hk1;rename_i d;cases d<;>simp[kindOf]at hk1
    |agg ks=>cases x<;>simp[kindOf]at hk1;rename_i d;cases d<;>simp[kindOf]at hk1
    |other=>
     have:∀x:V,kindOf x= .other→isNil x=none:=by
      intro x hk
      cases x with
      |d d=>cases d<;>simp[kindOf]at hk<;>rfl
      |_=>first|rfl|simp[kindOf]at hk
     rw[this x hk1]at hn1;cases hn1
theorem zJE {op:BinOp} {t:TypeId} {x y z:V} {v u:Value} {ox oy:Operand} (h:binV op (zeX P t) x y=some z) (hx:Rel φ w S x v) (hy:Rel φ w S y u):
 ∃mz,((do eqGuard op t ox oy v u;binOp op t v u):Sem Value).run P w= .ok mz w∧Rel φ w S z mz:=by
 unfold binV at h
 split at h
 ·have h1:=hx.d_inv;have h2:=hy.d_inv
  cases h1;cases h2
  cases hi:zcu op _ _ _ _ with
  |none=>rw[hi]at h;simp at h
  |some d=>
   rw[hi]at h
   simp only[Option.map_some,Option.some.injEq]at h;subst h
   obtain⟨mz,e,r⟩:=zxe (P:=P) (w:=w) (S:=S) (t:=t) hi
   refine⟨mz,?_,.d r⟩
   rw[Sem.run_bind,eqGuard_at_int]
   exact e
 ·obtain⟨s1,rfl,e1⟩:=str_inv hx.d_inv
  obtain⟨s2,rfl,e2⟩:=str_inv hy.d_inv
  cases hi:zkd op _ _ with
  |none=>rw[hi]at h;simp at h
  |some d=>
   rw[hi]at h
   simp only[Option.map_some,Option.some.injEq]at h;subst h
   rw[←e1,←e2]at hi
   obtain⟨mz,e,r⟩:=zJD (P:=P) (w:=w) (S:=S) (t:=t) hi
   refine⟨mz,?_,.d r⟩
   rw[Sem.run_bind,eqGuard_at_string]
   exact e
 ·split at h
  ·cases he:eqV (zeX P t) x y with
   |none=>rw[he]at h;simp at h
   |some b=>
    rw[he]at h
    simp only[Option.map_some,Option.some.injEq]at h;subst h
    obtain⟨e,g,n1,n2,n3,n4⟩:=zmz he hx hy
    refine⟨.bool b,?_,.d (.bool b)⟩
    rw[Sem.run_bind,g]
    simp only[Result.andThen_ok]
    have:binOp .eql t v u=(do pure (.bool (←Op.equal t v u))):=by
     cases v<;>first|rfl|exact absurd rfl (n1 _ _)|exact absurd rfl (n2 _)|exact absurd rfl (n3 _ _)|exact absurd rfl (n4 _ _ _)
    rw[this,Sem.run_bind,e];rfl
  ·cases he:eqV (zeX P t) x y with
   |none=>rw[he]at h;simp at h
   |some b=>
    rw[he]at h
    simp only[Option.map_some,Option.some.injEq]at h;subst h
    obtain⟨e,g,n1,n2,n3,n4⟩:=zmz he hx hy
    refine⟨.bool !b,?_,.d (.bool _)⟩
    rw[Sem.run_bind,g]
    simp only[Result.andThen_ok]
    have:binOp .neq t v u=(do pure (.bool (!(←Op.equal t v u)))):=by
     cases v<;>first|rfl|exact absurd rfl (n1 _ _)|exact absurd rfl (n2 _)|exact absurd rfl (n3 _ _)|exact absurd rfl (n4 _ _ _)
    rw[this,Sem.run_bind,e];rfl
  ·cases h
end Go.AI
namespace Go.AI
variable {P:Program} {sh:FuncId→Bool} {T:Tabs} {κ:Ctx T} {φ φ':Place} {H H':Heap} {w w' w'':World} {S S':Nat→Nat→Prop} {fr:Nat}
theorem zjf:∀(l:List Value) (k off:Nat) (cs:Array Value),(l.zipIdx k).foldl (fun cs (x:Value×Nat)=>cs.setIfInBounds (off+x.2) x.1) cs=zde cs (off+k) l
 |[],_,_,_=>rfl
 |v::r,k,off,cs=>by
  simp only[List.zipIdx_cons,List.foldl_cons,zde]
  rw[zjf r (k+1) off];rfl
theorem zok {place:Nat→Option (Nat×Nat)} {cs:Array Value} {i o n:Nat} {v:Value} {rest:List (Nat×Value)} (hp:place i=some (o,n)) (hn:v.cells.size=n) (hl:o+n≤cs.size):
 Instr.fill place cs ((i,v)::rest)=Instr.fill place (zde cs o v.cells.toList) rest:=by
 simp only[Instr.fill,hp]
 rw[if_neg (by simp[hn];omega)]
 have:=zjf v.cells.toList 0 o cs
 simp only[Nat.add_zero]at this
 rw[←this,←Array.foldl_toList,Array.toList_zipIdx]
inductive Parts (φ:Place) (w:World) (S:Nat→Nat→Prop) (place:Nat→Option (Nat×Nat)):List (Nat×Nat×V)→List (Nat×Value)→Prop
 |nil:Parts φ w S place [] []
 |cons {i o n:Nat} {x:V} {v:Value} {l:List (Nat×Nat×V)} {m:List (Nat×Value)} (hp:place i=some (o,n)) (hr:Rel φ w S x v) (h:Parts φ w S place l m):Parts φ w S place ((o,n,x)::l) ((i,v)::m)
theorem zFT {place:Nat→Option (Nat×Nat)} {l:List (Nat×Nat×V)} {m:List (Nat×Value)} (hp:Parts φ w S place l m):∀{cs cs':List V} {zs:Array Value},zca cs l=some cs'→zs.size=cs.length→
 (∀(j:Nat) x v,cs[j]? =some x→zs[j]? =some v→Rel φ w S x v)→∃zs',Instr.fill place zs m=some zs'∧zs'.size=cs'.length∧∀(j:Nat) x v,cs'[j]? =some x→zs'[j]? =some v→Rel φ w S x v:=by
 induction hp with
 |nil=>
  intro cs cs' zs h hs hr
  simp only[zca,Option.some.injEq]at h;subst h
  exact⟨zs,rfl,hs,hr⟩
 | @cons i o n x v l m hp hr' _ ih=>
  intro cs cs' zs h hs hr
  simp only[zca]at h
  split at h
  case isFalse=>cases h
  rename_i hc
  obtain⟨h1,h0,h2⟩:=hc
  have hx:x≠.undef:=by intro hx;subst hx;simp[V.cells]at h1;omega
  obtain⟨hv1,hv2⟩:=hr'.cells hx
  rw[zok hp (by omega) (by omega)]
  refine ih h (by rw[zbm,zdm (by omega),hs]) fun j y u hy hu=> ?_
  rw[zfQ (by omega)]at hy
  rw[zcR _ _ _ _ (by simp;omega)]at hu
  simp only[Array.length_toList,hv1]at hu
  by_cases hj:o≤j∧j<o+x.cells.length
  ·rw[if_pos hj]at hy hu
   exact hv2 _ y u hy (by simpa using hu)
  ·rw[if_neg hj]at hy hu
   exact hr j y u hy hu
theorem zBy {t:TypeId} {fs:Array Field} (hu:P.underlying t=some (.struct fs)) (hi:∀f∈fs.toList,(P.info? f.type).isSome=true) {z:List D} (hz:zfp P t=some (.agg z))
 {l:List (Nat×Nat×V)} {m:Array (Nat×Value)} (hp:Parts φ w S (fun(i:Nat)=>(fs[i]?).map fun(f:Field)=>(f.offset,P.cellsOf f.type)) l m.toList) {cs:List V} (h:zca (z.map .d) l=some cs):
 ∃mv,(Instr.build t m).run P w= .ok mv w∧Rel φ w S (V.ofCells cs) mv:=by
 obtain⟨i,v,h1,h2,h3⟩:=zcv hz
 have hr:=(zbX (w:=w) (S:=S) h3)
 cases hr with
 |agg hs hh=>
  rename_i vs
  have hmap:(fs.mapM fun(f:Field)=>do pure (f.offset,←sizeOf f.type):Sem (Array (Nat×Nat))).run P w= .ok (fs.map fun(f:Field)=>(f.offset,P.cellsOf f.type)) w:=by
   rw[Array.mapM_eq_mapM_toList]
   have key:∀l:List Field,(∀f∈l,(P.info? f.type).isSome=true)→(l.mapM fun(f:Field)=>do pure (f.offset,←sizeOf f.type):Sem (List (Nat×Nat))).run P w= .ok (l.map fun(f:Field)=>(f.offset,P.cellsOf f.type)) w:=by
    intro l
    induction l with
    |nil=>intro _;simp
    |cons f r ih=>
     intro hl
     obtain⟨j,hj⟩:=Option.isSome_iff_exists.1 (hl f (by simp))
     simp only[List.mapM_cons,Sem.run_bind,run_sizeOf hj,Result.andThen_ok,Sem.run_pure,ih (fun g hg=>hl g (by simp[hg])),List.map_cons]
   rw[Sem.run_map,key fs.toList hi]
   simp only[Result.andThen_ok]
   congr 1
   rw[←Array.toList_map]
  obtain⟨zs',e,hs',hr'⟩:=zFT (place:=fun(i:Nat)=>(fs[i]?).map fun(f:Field)=>(f.offset,P.cellsOf f.type)) hp h (zs:=vs) (by simpa using hs) (fun j x u hx hu=>by
   simp only[List.getElem?_map]at hx
   cases hz':z[j]? with
   |none=>rw[hz']at hx;simp at hx
   |some y=>rw[hz']at hx;simp at hx;subst hx;exact .d (hh j y u hz' hu))
  refine⟨.agg zs',?_,zkp hs' hr'⟩
  have hpl:((fs.map fun(f:Field)=>(f.offset,P.cellsOf f.type))[·]?)=(fun(i:Nat)=>(fs[i]?).map fun(f:Field)=>(f.offset,P.cellsOf f.type)):=by
   funext i;simp
  simp only[Instr.build,Sem.run_bind,zbT h1 h2,Result.andThen_ok,zan hu,hmap,hpl]
  simp only[Value.cells,e]
  rfl
def zdf (φ:Place) (w:World) (S:Nat→Nat→Prop) (sz:Nat) (l:List V) (cs:Array Value):Prop:=
 l.length*sz≤cs.size∧∀(i:Nat) e,l[i]? =some e→e.cells.length=sz∧∀(j:Nat) x v,e.cells[j]? =some x→cs[i*sz+j]? =some v→Rel φ w S x v
theorem zeg {i n sz:Nat} (h:i<n):i*sz+sz≤n*sz:=by
 have:(i+1)*sz≤n*sz:=Nat.mul_le_mul_right sz h
 rw[Nat.add_mul]at this;omega
theorem zdf.set {sz:Nat} {l:List V} {cs:Array Value} (h:zdf φ w S sz l cs) {i:Nat} {x:V} {v:Value} (hi:i<l.length) (hx:x.cells.length=sz) (h0:x≠.undef) (hr:Rel φ w S x v):
 zdf φ w S sz (l.set i x) (zde cs (i*sz) v.cells.toList):=by
 obtain⟨hv1,hv2⟩:=hr.cells h0
 have hle:=zeg (sz:=sz) hi
 have hget:=fun o=>zcR v.cells.toList cs (i*sz) o (by simp;have:=h.1;omega)
 simp only[Array.length_toList,hv1,hx]at hget
 refine⟨by simpa[zbm]using h.1,fun k e hk=> ?_⟩
 rw[List.getElem?_set]at hk
 by_cases hik:i=k
 ·subst hik
  rw[if_pos rfl,if_pos hi]at hk
  simp only[Option.some.injEq]at hk;subst hk
  refine⟨hx,fun j y u hy hu=> ?_⟩
  have hj:=zav hy
  rw[hget,if_pos (by omega),Nat.add_sub_cancel_left]at hu
  exact hv2 j y u hy (by simpa using hu)
 ·rw[if_neg hik]at hk
  obtain⟨h1,h2⟩:=h.2 k e hk
  refine⟨h1,fun j y u hy hu=>h2 j y u hy ?_⟩
  have hj:=zav hy
  rw[hget,if_neg]at hu
  ·exact hu
  ·intro hh
   rcases Nat.lt_or_gt_of_ne hik with h9|h9
   ·have:=zeg (sz:=sz) h9;omega
   ·have:=zeg (sz:=sz) h9;omega
theorem zdf.replicate {sz n:Nat} {z:D} {v:Value} {cs:Array Value} (hz:RD w S z v) (hl:z.cells.length=sz) (hs:n*sz≤cs.size) (hc:∀i j,i<n→j<sz→cs[i*sz+j]? =v.cells[j]?):
 zdf φ w S sz (List.replicate n (.d z)) cs:=by
 refine⟨by simpa using hs,fun i e he=> ?_⟩
 have hi:=zav he
 simp at hi
 rw[List.getElem?_replicate,if_pos hi]at he
 simp only[Option.some.injEq]at he;subst he
 refine⟨by simpa[V.cells]using hl,fun j x u hx hu=> ?_⟩
 have hj:=zav hx
 simp only[V.cells,List.length_map]at hj
 rw[hc i j hi (by omega)]at hu
 exact(Rel.cells (.d hz) (by simp)).2 j x u hx hu
theorem zkr {zero:Array Value} {n sz:Nat} (h:zero.size=sz) {i j:Nat} (hi:i<n) (hj:j<sz):((Array.range (n*sz)).map (zero[· %zero.size]!))[i*sz+j]? =zero[j]? :=by
 have:=zeg (sz:=sz) hi
 rw[Array.getElem?_map,Array.getElem?_range,if_pos (by omega)]
 have hm:(i*sz+j)%sz=j:=by rw[Nat.mul_comm,Nat.mul_add_mod];exact Nat.mod_eq_of_lt hj
 simp[h,hm,hj]
inductive PartsE (φ:Place) (w:World) (S:Nat→Nat→Prop):List (Nat×V)→List (Nat×Value)→Prop
 |nil:PartsE φ w S [] []
 |cons {i:Nat} {x:V} {v:Value} {l:List (Nat×V)} {m:List (Nat×Value)} (hr:Rel φ w S x v) (h:PartsE φ w S l m):PartsE φ w S ((i,x)::l) ((i,v)::m)
theorem zBz {sz:Nat} (h0:sz≠0) {l:List (Nat×V)} {m:List (Nat×Value)} (hp:PartsE φ w S l m):∀{es es':List V} {zs:Array Value},zaS sz es l=some es'→zdf φ w S sz es zs→
 ∃zs',Instr.fill (fun i=>some (i*sz,sz)) zs m=some zs'∧zs'.size=zs.size∧es'.length=es.length∧zdf φ w S sz es' zs':=by
 induction hp with
 |nil=>
  intro es es' zs h he
  simp only[zaS,Option.some.injEq]at h;subst h
  exact⟨zs,rfl,rfl,rfl,he⟩
 | @cons i x v l m hr _ ih=>
  intro es es' zs h he
  simp only[zaS]at h
  split at h
  case isFalse=>cases h
  rename_i hc
  obtain⟨h1,h2⟩:=hc
  have hx:x≠.undef:=by intro hx;subst hx;simp[V.cells]at h2;omega
  obtain⟨hv1,hv2⟩:=hr.cells hx
  have hle:=zeg (sz:=sz) h1
  rw[zok (o:=i*sz) (n:=sz) rfl (by omega) (by have:=he.1;omega)]
  obtain⟨zs',e,e1,e2,e3⟩:=ih h (he.set h1 h2 hx hr)
  exact⟨zs',e,by rw[e1,zbm],by rw[e2];simp,e3⟩
theorem zxf (s:Sim P sh κ φ H w) (hfr:φ fr= .unborn) (hlt:fr<H.next) {t e:TypeId} (hu:P.underlying t=some (.slice e)) {z:D} (hz:zfp P e=some z) (h0:P.cellsOf e≠0)
 (hzl:z.cells.length=P.cellsOf e) {len:Nat} (hlen:len*P.cellsOf e≤2^20) {l:List (Nat×V)} {m:Array (Nat×Value)} (hp:PartsE φ w (stab κ φ H) l m.toList) {es:List V}
 (h:zaS z.cells.length (List.replicate len (.d z)) l=some es):
 zbE P sh κ φ H w fr ((do pure (.value (←Instr.buildSlice t len m)):Sem Next).run P w) (.sl fr 0 len) (H.put fr (.els z.cells.length es 0)):=by
 obtain⟨i,v,h1,h2,h3⟩:=zcv hz
 have hr:=(zbX (w:=w) (S:=stab κ φ H) h3)
 have hvs:v.cells.size=P.cellsOf e:=by rw[hr.cells.1,hzl]
 rw[hzl]at h⊢
 have hbase:zdf φ w (stab κ φ H) (P.cellsOf e) (List.replicate len (.d z)) ((Array.range (len*P.cellsOf e)).map (v.cells[· %v.cells.size]!)):=
  .replicate hr hzl (by simp) (fun i j hi hj=>zkr hvs hi hj)
 obtain⟨zs',e1,e2,e3,e4⟩:=zBz h0 hp h hbase
 simp only[Array.size_map,Array.size_range]at e2
 simp only[List.length_replicate]at e3
 have hbig:¬(len*P.cellsOf e>2^24):=by
  have:(2:Nat)^20≤2^24:=by decide
  omega
 obtain⟨s1,x1,u1,sh1⟩:=zwZ (t:=e) s hfr hlt (l:=es) (sz:=P.cellsOf e) (cs:=zs') e4.1 e4.2
 refine⟨.slice (some ⟨w.heap.size,0,none⟩) len len,_,_,.inl ?_,s1,x1,?_,u1⟩
 ·simp only[Instr.buildSlice,Sem.run_bind,zan hu,Result.andThen_ok,run_sizeOf h1]
  rw[if_neg hbig]
  by_cases hn:len*P.cellsOf e=0
  ·have hl0:len=0:=by rcases Nat.mul_eq_zero.1 hn with h|h;exact h;exact absurd h h0
   subst hl0
   have:((Array.range (0*P.cellsOf e)).map ((#[]:Array Value)[· %(#[]:Array Value).size]!))=((Array.range (0*P.cellsOf e)).map (v.cells[· %v.cells.size]!)):=by simp
   simp only[hn,if_true,Sem.run_pure,Result.andThen_ok,Sem.run_bind]
   rw[hn]at e1
   simp only[Array.range_zero',Array.map_empty]at e1⊢
   rw[e1]
   simp only[Sem.run_bind,newRow,run_newObj,Result.andThen_ok,Sem.run_pure]
  ·simp only[if_neg hn,Sem.run_bind,zbT h1 h2,Result.andThen_ok,Sem.run_pure]
   rw[e1]
   simp only[Sem.run_bind,newRow,run_newObj,Result.andThen_ok,Sem.run_pure]
 ·refine .sl (Nat.le_refl _) (.inr ⟨w.heap.size,P.cellsOf e,e,zs'.size,zaU _ _ _,by simp,sh1,?_⟩)
  rw[e2];simp
end Go.AI
namespace Go.AI
variable {P:Program} {sh:FuncId→Bool} {T:Tabs} {κ:Ctx T} {φ φ':Place} {H H':Heap} {w w' w'':World} {S S':Nat→Nat→Prop} {fr:Nat}
theorem zBA {t:TypeId} {fs:Array Field} {f:Nat} {fd:Field} {n:Option Nat} (hu:P.underlying t=some (.struct fs)) (hf:fs[f]? =some fd) (hn:zcn P fd.type=some n) {x y:V} {v:Value}
 (h:V.fld fd.offset n x=some y) (hr:Rel φ w S x v):∃mv,(Instr.field t v f).run P w= .ok mv w∧Rel φ w S y mv:=by
 have key:∀(vs:Array Value) (z:V),v= .agg vs→Rel φ w S z (.agg vs)→z≠.undef→V.sub z fd.offset n=some y→∃mv,(Instr.field t v f).run P w= .ok mv w∧Rel φ w S y mv:=by
  intro vs z hv hz h0 hs
  subst hv
  obtain⟨h1,h2⟩:=hz.cells h0
  simp only[Value.cells]at h1 h2
  obtain⟨r,hle⟩:=zmx (g:=fun j=>vs.getD j undef) (fun j y hy=>h2 j y _ hy (by have:=zav hy;simp[Array.getD,h1,this])) hs
  have hle':fd.offset+n.getD 1≤vs.size:=by omega
  refine⟨zvP n ((List.range (n.getD 1)).map fun j=>vs.getD (fd.offset+j) undef),?_,r⟩
  simp only[Instr.field,Sem.run_bind,zan hu,Result.andThen_ok,hf,asAgg,Sem.run_pure]
  cases n with
  |none=>
   rw[zfb hn (fun _=>by simp at hle';omega)]
   simp[zfa,hn,zvP]
  |some k=>
   rw[zfb hn (fun hh=>by cases hh)]
   simp only[zfa,hn,zvP,Option.getD_some]at hle'⊢
   congr 2
   apply Array.ext_getElem?
   intro j
   by_cases hj:j<k
   ·have h3:fd.offset+j<vs.size:=by omega
    simp only[Array.getElem?_extract,List.getElem?_toArray,List.getElem?_map]
    rw[List.getElem?_range hj,if_pos (by omega)]
    simp[Array.getD,h3]
   ·rw[Array.getElem?_eq_none (by simp;omega),Array.getElem?_eq_none (by simp;omega)]
 unfold V.fld at h
 split at h
 ·cases hr with|agg hs hh=>exact key _ _ rfl (.agg hs hh) (by simp) h
 ·cases hr with|d hd=>cases hd with|agg hs hh=>exact key _ _ rfl (.d (.agg hs hh)) (by simp) h
 ·cases h
theorem zBB (s:Sim P sh κ φ H w) {t e:TypeId} (hu:P.underlying t=some (.slice e)) (h0:P.cellsOf e≠0) {x y:V} {i:Nat} {v u:Value} (hr:Rel φ w (stab κ φ H) x v) {z:V} (hi:asNat z=some i) (hz:Rel φ w (stab κ φ H) z u)
 (h:zbO H (P.cellsOf e) x i=some y):∃mv,(Instr.indexAt t v u).run P w= .ok mv w∧Rel φ w (stab κ φ H) y mv:=by
 obtain⟨k,hk,hk'⟩:=zdb (P:=P) (w:=w) hz hi
 obtain⟨ie,hie⟩:∃i,P.info? e=some i:=by
  cases hi:P.info? e with
  |none=>simp[Program.cellsOf,hi]at h0
  |some i=>exact⟨i,rfl⟩
 have run:∀(a:Addr) (len cap:Nat),i<len→(Instr.indexAt t (.slice (some a) len cap) u).run P w= .ok (.pointer (some (a.add (i*P.cellsOf e)))) w:=by
  intro a len cap hl
  have hil:(0:Int)≤(i:Int)∧(i:Int)<(len:Int):=⟨by omega,by omega⟩
  simp only[Instr.indexAt,Sem.run_bind,hk',Result.andThen_ok,zan hu,Sem.run_pure]
  rw[if_pos hil]
  simp only[Sem.run_bind,run_sizeOf hie,Result.andThen_ok,Sem.run_pure,Int.toNat_natCast]
 cases hr with
 |d hd=>
  cases hd with
  | @list l m off cap sz f hc _ hs hcell hv=>
   simp only[zbO]at h
   cases hl:l[i]? with
   |none=>rw[hl]at h;simp at h
   |some el=>
    rw[hl]at h
    simp only[Option.bind_some]at h
    split at h
    case isFalse=>cases h
    rename_i hsz
    simp only[Option.some.injEq]at h;subst h
    have hsz':=hs i el hl
    rw[hsz']at hsz;subst hsz
    refine⟨_,run _ _ _ (zav hl),?_⟩
    rw[Addr.add_lit]
    have:=Rel.rp (φ:=φ) (w:=w) (S:=stab κ φ H) (x:=el) (off:=0) (m:=m) (o:=off+i*P.cellsOf e) (fun j=>f i j) (fun j hj=> ?_) (fun j y hy=>hv i el j y hl hy)
    ·simpa using this
    ·have:=hcell i el j hl (by omega)
     rw[Nat.add_assoc];exact this
  |nil=>simp[zbO]at h
  |_=>simp[zbO]at h
 |sl hc hp=>
  rename_i b off len a cap
  simp only[zbO]at h
  split at h
  case isFalse=>cases h
  rename_i hlt
  cases hb:H.get b with
  |none=>rw[hb]at h;simp at h
  |some yb=>
   rw[hb]at h
   cases yb with
   |els z l fz=>
    simp only at h
    split at h
    case isFalse=>cases h
    rename_i hc2
    obtain⟨rfl,hlo⟩:=hc2
    simp only[Option.some.injEq]at h;subst h
    obtain⟨m,sz,hφ,hzz,_,cs,ty,h2,h3,h4⟩:=s.get hb
    subst hzz
    refine⟨_,run _ _ _ hlt,.ptr ?_⟩
    rcases hp with hp|⟨m',sz',t',k',hφ',ha,_,_⟩
    ·exact .inl hp
    ·rw[hφ]at hφ';cases hφ'
     exact .inr ⟨m,_,hφ,by rw[ha,Addr.add_lit,Nat.add_zero,Nat.add_mul]⟩
   |_=>simp at h
 |_=>simp[zbO]at h
theorem zrV {t e:TypeId} {n:Nat} (hu:P.underlying t=some (.array n e)) (h0:P.cellsOf e≠0) {x y:V} {i:Nat} {v u:Value} (hr:Rel φ w S x v) {z:V} (hi:asNat z=some i) (hz:Rel φ w S z u) (hl:i<n)
 (h:zEZ (i*P.cellsOf e) x=some y):∃mv,(Instr.indexAt t v u).run P w= .ok mv w∧Rel φ w S y mv:=by
 obtain⟨k,hk,hk'⟩:=zdb (P:=P) (w:=w) hz hi
 obtain⟨ie,hie⟩:∃i,P.info? e=some i:=by
  cases hi:P.info? e with
  |none=>simp[Program.cellsOf,hi]at h0
  |some i=>exact⟨i,rfl⟩
 have hil:(0:Int)≤(i:Int)∧(i:Int)<(n:Int):=⟨by omega,by omega⟩
 have run:∀(a:Addr),(Instr.indexAt t (.pointer (some a)) u).run P w= .ok (.pointer (some (a.add (i*P.cellsOf e)))) w:=by
  intro a
  simp only[Instr.indexAt,Sem.run_bind,hk',Result.andThen_ok,zan hu,Sem.run_pure,Instr.sureAddr]
  rw[if_pos hil]
  simp only[Sem.run_bind,run_sizeOf hie,Result.andThen_ok,Sem.run_pure,Int.toNat_natCast]
 cases hr with
 |ptr hp=>
  simp only[zEZ,Option.some.injEq]at h;subst h
  refine⟨_,run _,.ptr ?_⟩
  rcases hp with hp|⟨m,sz,hp,ha⟩
  ·exact .inl hp
  ·exact .inr ⟨m,sz,hp,by rw[ha,Addr.add_lit,Nat.add_assoc]⟩
 |rp g hc hv=>
  simp only[zEZ,Option.some.injEq]at h;subst h
  refine⟨_,run _,?_⟩
  rw[Addr.add_lit,Nat.add_assoc]
  exact .rp g hc hv
 |_=>simp[zEZ]at h
theorem zBC {t:TypeId} (hu:P.underlying t=some .string) {x:V} {i:Nat} {v u:Value} (hr:Rel φ w S x v) {z:V} (hi:asNat z=some i) (hz:Rel φ w S z u) {l:List UInt8} {c:UInt8} (hx:x= .d (.str l)) (hc:l[i]? =some c):
 (Instr.index t v u).run P w= .ok (.int .u8 c.toNat) w:=by
 subst hx
 obtain⟨k,hk,hk'⟩:=zdb (P:=P) (w:=w) hz hi
 obtain⟨s,rfl,hs⟩:=str_inv hr.d_inv
 have hlt:=zav hc
 have hls:l.length=s.size:=by rw[←hs,Array.length_toList];rfl
 have hlt':i<s.size:=by omega
 have hb:s[i]? =some c:=by
  rw[ByteArray.getElem?_lt' s i hlt']
  subst hs
  rw[List.getElem?_eq_getElem (by simpa using hlt)]at hc
  simp only[Option.some.injEq]at hc
  rw[←hc];simp;rfl
 simp only[Instr.index,Sem.run_bind,hk',Result.andThen_ok,zan hu,Int.toNat_natCast]
 rw[if_pos (by omega),hb]
 rfl
theorem zxg {t e:TypeId} {len:Nat} {n:Option Nat} (hu:P.underlying t=some (.array len e)) (h0:P.cellsOf e≠0) (hn:zcn P e=some n) {x y:V} {i:Nat} {v u:Value} {z:V} (hi:asNat z=some i) (hz:Rel φ w S z u) (hl:i<len)
 (h:V.fld (i*P.cellsOf e) n x=some y) (hr:Rel φ w S x v):∃mv,(Instr.index t v u).run P w= .ok mv w∧Rel φ w S y mv:=by
 obtain⟨k,hk,hk'⟩:=zdb (P:=P) (w:=w) hz hi
 obtain⟨ie,hie⟩:∃i,P.info? e=some i:=by
  cases hi:P.info? e with
  |none=>simp[Program.cellsOf,hi]at h0
  |some i=>exact⟨i,rfl⟩
 have hil:(0:Int)≤(i:Int)∧(i:Int)<(len:Int):=⟨by omega,by omega⟩
 have key:∀(vs:Array Value) (z:V),v= .agg vs→Rel φ w S z (.agg vs)→z≠.undef→V.sub z (i*P.cellsOf e) n=some y→∃mv,(Instr.index t v u).run P w= .ok mv w∧Rel φ w S y mv:=by
  intro vs z hv hz h0 hs
  subst hv
  obtain⟨h1,h2⟩:=hz.cells h0
  simp only[Value.cells]at h1 h2
  obtain⟨r,hle⟩:=zmx (g:=fun j=>vs.getD j undef) (fun j y hy=>h2 j y _ hy (by have:=zav hy;simp[Array.getD,h1,this])) hs
  generalize ho:i*P.cellsOf e=off at r hle
  have hle':off+n.getD 1≤vs.size:=by omega
  refine⟨zvP n ((List.range (n.getD 1)).map fun j=>vs.getD (off+j) undef),?_,r⟩
  simp only[Instr.index,Sem.run_bind,hk',Result.andThen_ok,zan hu]
  rw[if_pos hil]
  simp only[Sem.run_bind,run_sizeOf hie,Result.andThen_ok,Int.toNat_natCast,ho]
  cases n with
  |none=>
   rw[zfb hn (fun _=>by simp at hle';omega)]
   simp[zfa,hn,zvP]
  |some k=>
   rw[zfb hn (fun hh=>by cases hh)]
   simp only[zfa,hn,zvP,Option.getD_some]at hle'⊢
   congr 2
   apply Array.ext_getElem?
   intro j
   by_cases hj:j<k
   ·have h3:off+j<vs.size:=by omega
    simp only[Array.getElem?_extract,List.getElem?_toArray,List.getElem?_map]
    rw[List.getElem?_range hj,if_pos (by omega)]
    simp[Array.getD,h3]
   ·rw[Array.getElem?_eq_none (by simp;omega),Array.getElem?_eq_none (by simp;omega)]
 unfold V.fld at h
 split at h
 ·cases hr with|agg hs hh=>exact key _ _ rfl (.agg hs hh) (by simp) h
 ·cases hr with|d hd=>cases hd with|agg hs hh=>exact key _ _ rfl (.d (.agg hs hh)) (by simp) h
 ·cases h
def LK.is (P:Program) (t:TypeId):LK→Prop
 | .str=>P.underlying t=some .string
 | .sl=>∃e,P.underlying t=some (.slice e)
 | .map=>∃k e,P.underlying t=some (.map k e)
theorem zJF (s:Sim P sh κ φ H w) {t ty:TypeId} {x:V} {v:Value} {n:Nat} {k:LK} (hr:Rel φ w (stab κ φ H) x v)
 (h:zlv H k x=some n) (hk:k.is P t):(Builtin.len_ #[t] ty #[v]).run P w= .ok (.int .i64 n) w:=by
 unfold zlv at h
 split at h
 ·simp only[Option.some.injEq]at h;subst h
  obtain⟨e,hu⟩:=hk
  cases hr with|d hd=>cases hd<;>simp[Builtin.len_,zan hu,goInt]
 ·simp only[Option.some.injEq]at h;subst h
  cases hr with|d hd=>cases hd;simp[Builtin.len_,zan hk,goInt]
 ·simp only[Option.some.injEq]at h;subst h
  obtain⟨e,hu⟩:=hk
  cases hr;simp[Builtin.len_,zan hu,goInt]
 ·simp only[Option.some.injEq]at h;subst h
  obtain⟨k,e,hu⟩:=hk
  cases hr with|d hd=>cases hd;simp[Builtin.len_,zan hu,goInt]
 ·rename_i b
  cases hb:H.get b with
  |none=>rw[hb]at h;simp at h
  |some y=>
   rw[hb]at h
   cases y with
   |map es clock=>
    simp only[Option.some.injEq]at h;subst h
    cases hr with|map hp=>
    obtain⟨m,sz,hφ,mes,h1,h2,_⟩:=s.get hb
    rcases hp with hp|⟨sz',hp⟩
    ·rw[hp]at hφ;cases hφ
    rw[hφ]at hp;cases hp
    obtain⟨k,e,hu⟩:=hk
    simp[Builtin.len_,zan hu,goInt,getObj,Sem.run,h1,h2]
   |_=>simp at h
 ·cases h
theorem zBD {x:Option V} {v:Option Value} {n:Option Nat} (h:zby x=some n) (hr:∀y,x=some y→∃u,v=some u∧Rel φ w S y u) (hn:x=none→v=none):(n=none∧v=none)∨∃k i u,n=some k∧v=some u∧u= .int i k:=by
 cases x with
 |none=>simp[zby]at h;exact .inl ⟨h.symm,hn rfl⟩
 |some y=>
  simp only[zby]at h
  cases ha:asNat y with
  |none=>rw[ha]at h;simp at h
  |some k=>
   rw[ha]at h;simp at h;subst h
   obtain⟨u,hu,hru⟩:=hr y rfl
   obtain⟨i,hi,_⟩:=zdb (P:=default) (w:=w) hru ha
   exact .inr ⟨k,i,u,rfl,hu,hi⟩
theorem zho {k y:Nat} {i:IntKind} {c:BoundsCode} (h:k≤y):(Instr.sliceBound (.int i k) y c).run P w= .ok k w:=by
 simp only[Instr.sliceBound,Sem.run_bind,asIntOf,Sem.run_pure,Result.andThen_ok]
 rw[if_pos (by omega)];simp
theorem zey {isS:Bool} {len cap:Nat} {lo hi:Option Nat} {lv hv:Option Value} (hl:(lo=none∧lv=none)∨∃k i u,lo=some k∧lv=some u∧u= .int i k) (hh:(hi=none∧hv=none)∨∃k i u,hi=some k∧hv=some u∧u= .int i k)
 (h1:lo.getD 0≤hi.getD len) (h2:hi.getD len≤cap):(Instr.sliceBounds isS len cap lv hv none).run P w= .ok (lo.getD 0,hi.getD len,cap) w:=by
 rcases hl with⟨rfl,rfl⟩|⟨k,i,u,rfl,rfl,rfl⟩<;>rcases hh with⟨rfl,rfl⟩|⟨k',i',u',rfl,rfl,rfl⟩
 ·simp[Instr.sliceBounds]
 ·simp only[Option.getD_some]at h1 h2
  simp[Instr.sliceBounds,zho h2]
 ·simp only[Option.getD_some,Option.getD_none]at h1 h2
  simp[Instr.sliceBounds,zho h1]
 ·simp only[Option.getD_some]at h1 h2
  simp[Instr.sliceBounds,zho h1,zho h2]
theorem zol {s:ByteArray} {l:List UInt8} (hs:s.data.toList=l) (a b:Nat):(s.extract a b).data.toList=(l.drop a).take (b-a):=by
 subst hs
 rw[ByteArray.data_extract,Array.toList_extract,List.extract_eq_take_drop]
theorem zBE (s : Sim P sh κ φ H w) {t : TypeId} {sz : Nat} {x y : V} {v : Value} {lo hi : Option Nat} {lv hv : Option Value} (hl : (lo = none ∧ lv = none) ∨ ∃ k i u, lo = some k ∧ lv = some u ∧ u = .int i k)
    (hh : (hi = none ∧ hv = none) ∨ ∃ k i u, hi = some k ∧ hv = some u ∧ u = .int i k) (hr : Rel φ w (stab κ φ H) x v) (h : zbx H sz x lo hi none = some y)
    (hk : P.underlying t = some .string ∧ sz = 0 ∨ ∃ e, P.underlying t = some (.slice e) ∧ P.cellsOf e = sz ∧ sz ≠ 0) :
    ∃ mv, (Instr.sliceAt t v lv hv none).run P w = .ok mv w ∧ Rel φ w (stab κ φ H) y mv := by
  have addD : ∀ (m off a : Nat), (⟨m, off, none⟩ : Addr).add a = ⟨m, off + a, none⟩ := fun m off a => Addr.add_lit m off a
  cases hr with
  | d hd =>
    cases hd with
    | str s' =>
      simp only [zbx] at h
      split at h
      case isFalse => cases h
      rename_i hc
      obtain ⟨h0, hc⟩ := hc
      replace hk : P.underlying t = some .string := by rcases hk with hk | ⟨_, _, _, h9⟩; exact hk.1; exact absurd h0 h9
      simp only [Option.some.injEq] at h; subst h
      have hsz : s'.data.toList.length = s'.size := by rw [Array.length_toList]; rfl
      rw [hsz] at hc ⊢
      refine ⟨.string (s'.extract (lo.getD 0) (hi.getD s'.size)), ?_, .d (zxb (zol rfl _ _))⟩
      simp [Instr.sliceAt, Instr.slice, zan hk, zey (isS := false) hl hh hc.1 hc.2]
    | nil =>
      simp only [zbx, List.length_nil] at h
      split at h
      case isFalse => cases h
      rename_i hc
      obtain ⟨h0, h1, h2, _⟩ := hc
      replace hk : ∃ e, P.underlying t = some (.slice e) ∧ P.cellsOf e = sz ∧ sz ≠ 0 := by rcases hk with ⟨_, h9⟩ | hk; exact absurd h9 h0; exact hk
      obtain ⟨e, hu, _, _⟩ := hk
      have e1 : lo.getD 0 = 0 := by omega
      have e2 : hi.getD 0 = 0 := by omega
      simp only [e1, e2, List.drop_nil, List.take_nil, Option.some.injEq] at h; subst h
      obtain ⟨ie, hie⟩ : ∃ i, P.info? e = some i := by
        cases hi : P.info? e with
        | none => simp [Program.cellsOf, hi] at *; omega
        | some i => exact ⟨i, rfl⟩
      refine ⟨.slice none 0 0, ?_, .d .nil⟩
      have := zey (P := P) (w := w) (isS := true) (len := 0) (cap := 0) hl hh (by omega) (by omega)
      simp [Instr.sliceAt, Instr.slice, zan hu, this, run_sizeOf hie, e1, e2]
    | empty ad =>
      simp only [zbx, List.length_nil] at h
      split at h
      case isFalse => cases h
      rename_i hc
      obtain ⟨h0, h1, h2, _⟩ := hc
      replace hk : ∃ e, P.underlying t = some (.slice e) ∧ P.cellsOf e = sz ∧ sz ≠ 0 := by rcases hk with ⟨_, h9⟩ | hk; exact absurd h9 h0; exact hk
      obtain ⟨e, hu, _, _⟩ := hk
      have e1 : lo.getD 0 = 0 := by omega
      have e2 : hi.getD 0 = 0 := by omega
      simp only [e1, e2, List.drop_nil, List.take_nil, Option.some.injEq] at h; subst h
      obtain ⟨ie, hie⟩ : ∃ i, P.info? e = some i := by
        cases hi : P.info? e with
        | none => simp [Program.cellsOf, hi] at *; omega
        | some i => exact ⟨i, rfl⟩
      refine ⟨.slice (some ad) 0 0, ?_, .d (.empty ad)⟩
      have := zey (P := P) (w := w) (isS := true) (len := 0) (cap := 0) hl hh (by omega) (by omega)
      simp [Instr.sliceAt, Instr.slice, zan hu, this, run_sizeOf hie, e1, e2]
    | @list l m off cap sz' f hcap _ hs hcell hv =>
      simp only [zbx] at h
      split at h
      case isFalse => cases h
      rename_i hc
      obtain ⟨h0, h1, h2, h3⟩ := hc
      replace hk : ∃ e, P.underlying t = some (.slice e) ∧ P.cellsOf e = sz ∧ sz ≠ 0 := by rcases hk with ⟨_, h9⟩ | hk; exact absurd h9 h0; exact hk
      obtain ⟨e, hu, hsz, _⟩ := hk
      simp only [Option.some.injEq] at h; subst h
      obtain ⟨ie, hie⟩ : ∃ i, P.info? e = some i := by
        cases hi : P.info? e with
        | none => simp [Program.cellsOf, hi] at hsz; omega
        | some i => exact ⟨i, rfl⟩
      have hb := zey (P := P) (w := w) (isS := true) (len := l.length) (cap := cap) hl hh h1 (by omega)
      generalize lo.getD 0 = a at *
      generalize hi.getD l.length = b at *
      have hlen : ((l.drop a).take (b - a)).length = b - a := by simp; omega
      have key : ∀ off', (b = a ∨ off' = off + a * sz') → RD w (stab κ φ H) (.list false ((l.drop a).take (b - a))) (.slice (some ⟨m, off', none⟩) (b - a) (cap - a)) := by
        intro off' ho
        have := RD.list (w := w) (S := stab κ φ H) (l := (l.drop a).take (b - a)) (m := m) (off := off') (cap := cap - a) (sz := sz') (fun i j => f (a + i) j) (by omega) trivial
          (fun i e he => by rw [List.getElem?_take] at he; split at he; (rw [List.getElem?_drop] at he; exact hs _ e he); cases he)
          (fun i e j he hj => by
            have hi := zav he
            rw [List.getElem?_take] at he; split at he
            · rw [List.getElem?_drop] at he
              have h9 := hcell (a + i) e j he hj
              have : off' = off + a * sz' := by rcases ho with ho | ho; omega; exact ho
              rw [this]
              have e9 : off + a * sz' + (i * sz' + j) = off + ((a + i) * sz' + j) := by rw [Nat.add_mul]; omega
              rw [e9]; exact h9
            · cases he)
          (fun i e j x he hx => by rw [List.getElem?_take] at he; split at he; (rw [List.getElem?_drop] at he; exact hv _ e j x he hx); cases he)
        rw [hlen] at this; exact this
      refine ⟨.slice (if cap = a then some ⟨m, off, none⟩ else some ((⟨m, off, none⟩ : Addr).add (a * P.cellsOf e))) (b - a) (cap - a), by simp [Instr.sliceAt, Instr.slice, zan hu, hb, run_sizeOf hie], .d ?_⟩
      split
      · exact key off (.inl (by omega))
      · rw [addD]
        refine key _ (.inr ?_)
        rw [hsz]
        cases l with
        | nil => simp at h2; have : a = 0 := by omega
                 subst this; simp
        | cons x r =>
          simp only [zfL, List.map_cons, List.head?_cons, V.cells, List.length_map, beq_iff_eq] at h3
          have := hs 0 x rfl
          rw [← this, h3]
    | _ => simp [zbx] at h
  | sl hcap hp =>
    rename_i b off len a cap
    simp only [zbx] at h
    split at h
    case isFalse => cases h
    rename_i hc
    obtain ⟨h0, h1, h2⟩ := hc
    replace hk : ∃ e, P.underlying t = some (.slice e) ∧ P.cellsOf e = sz ∧ sz ≠ 0 := by rcases hk with ⟨_, h9⟩ | hk; exact absurd h9 h0; exact hk
    obtain ⟨e, hu, hsz, _⟩ := hk
    obtain ⟨ie, hie⟩ : ∃ i, P.info? e = some i := by
      cases hi : P.info? e with
      | none => simp [Program.cellsOf, hi] at hsz; omega
      | some i => exact ⟨i, rfl⟩
    have hb := zey (P := P) (w := w) (isS := true) (len := len) (cap := cap) hl hh h1 (by omega)
    generalize lo.getD 0 = c at *
    generalize hi.getD len = d at *
    cases hb' : H.get b with
    | none => rw [hb'] at h; simp at h
    | some yb =>
      rw [hb'] at h
      cases yb with
      | els z l fz =>
        simp only at h
        split at h
        case isFalse => cases h
        rename_i hfs
        obtain ⟨hfs, hll⟩ := hfs
        obtain ⟨m, sz', hφ, hzz, _, cs, ty, h5, h6, h7⟩ := s.get hb'
        obtain ⟨t', k', ha, hshp, hk'⟩ : ∃ t' k', a = ⟨m, off * sz', none⟩ ∧ w.shape? m = some (t', k') ∧ (off + cap) * sz' ≤ k' := by
          rcases hp with hp | ⟨m', sz'', t', k', hφ', ha, hshp, hk'⟩
          · rw [hp] at hφ; cases hφ
          · rw [hφ] at hφ'; cases hφ'; exact ⟨t', k', ha, hshp, hk'⟩
        subst ha
        split at h
        · rename_i hdc
          simp only [Option.some.injEq] at h; subst h
          subst hdc
          have key : ∀ off' cap', RD w (stab κ φ H) (.list false []) (.slice (some ⟨m, off', none⟩) 0 cap') := fun off' cap' =>
            .list (l := []) (sz := 0) (fun _ _ => undef) (by simp) trivial (by simp) (by simp) (by simp)
          refine ⟨.slice (if cap = d then some ⟨m, off * sz', none⟩ else some ((⟨m, off * sz', none⟩ : Addr).add (d * P.cellsOf e))) (d - d) (cap - d), by simp [Instr.sliceAt, Instr.slice, zan hu, hb, run_sizeOf hie], .d ?_⟩
          rw [Nat.sub_self]
          split
          · exact key _ _
          · rw [addD]; exact key _ _
        · rename_i hdc
          simp only [Option.some.injEq] at h; subst h
          have hsz' : sz' = sz := hzz.trans hfs
          subst hsz'
          refine ⟨.slice (if cap = c then some ⟨m, off * sz', none⟩ else some ((⟨m, off * sz', none⟩ : Addr).add (c * P.cellsOf e))) (d - c) (cap - c), by simp [Instr.sliceAt, Instr.slice, zan hu, hb, run_sizeOf hie], ?_⟩
          rw [if_neg (by omega)]
          refine .sl (by omega) (.inr ⟨m, sz', t', k', hφ, ?_, hshp, ?_⟩)
          · rw [hsz, addD, Nat.add_mul]
          · have : off + c + (cap - c) = off + cap := by omega
            rw [this]; exact hk'
      | _ => simp at h
  | _ => simp [zbx] at h
end Go.AI
