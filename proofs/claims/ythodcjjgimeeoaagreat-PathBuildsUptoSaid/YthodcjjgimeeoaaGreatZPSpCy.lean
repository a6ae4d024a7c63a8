/- Shaken copy of a longer text: what one law needs. Its conditions: none. -/
import Derived.Test.YthodcjjgimeeoaaGreatZPSpSh
set_option linter.unusedSimpArgs false
set_option linter.unusedVariables false
set_option linter.unusedSimpArgs false
set_option linter.unusedVariables false
set_option linter.unusedSectionVars false
set_option linter.unnecessarySimpa false
namespace Go.Proofs.YthodcjjgimeeoaaGreat.P
open Go.AI
theorem Rd.slL {n b len sz fz:Nat} {h:Heap} {ms:List V} {xs:List D} (hb:h.get b=some (.els sz ms fz)) (hl:ms.length=len) (r:RdL n h ms xs):Rd (n+1) h (.sl b 0 len) (.list false xs):=by
 subst hl
 obtain⟨h1,e,F⟩:=(r.keep (Frz.freeze (b:=b) (n:=0+ms.length))).all
 refine⟨h1,?_,Frz.freeze.trans F⟩
 simp only[res,hb]
 rw[if_pos (by omega),List.drop_zero,List.take_length,e];rfl
abbrev encI (l:List Int):List V:=l.map fun z=>V.d (D.int .i64 z)
def zLs (K:Heap) (lo c:Nat) (w:V) (y:Assign):Prop:=∃b,w= .agg [.d (.int .i64 y.slot),.sl b 0 y.nodes.l.length]∧K.get b=some (.els 1 (encI y.nodes.l) 0)∧b≠c∧b<lo
def zpS (K:Heap) (lo c:Nat):List V→List Assign→Prop
 |[],[]=>True
 |w::ws,y::ys=>zLs K lo c w y∧zpS K lo c ws ys
 |_,_=>False
theorem zpS.len {K:Heap} {lo c:Nat}:∀{ws:List V} {ys:List Assign},zpS K lo c ws ys→ws.length=ys.length
 |[],[],_=>rfl
 |_::_,_::_,h=>congrArg (· +1) (zpS.len h.2)
theorem zpS.mono {K K':Heap} {lo lo' c c':Nat} (hlo:lo≤lo') (hk:∀b,b<lo→b≠c→K'.get b=K.get b∧b≠c'):∀{ws:List V} {ys:List Assign},zpS K lo c ws ys→zpS K' lo' c' ws ys
 |[],[],_=>trivial
 |_::_,_::_,h=>by
  obtain⟨⟨b,h1,h2,h3,h4⟩,h5⟩:=h
  exact⟨⟨b,h1,by rw[(hk b h4 h3).1];exact h2,(hk b h4 h3).2,by omega⟩,zpS.mono hlo hk h5⟩
theorem zpS.snoc {K:Heap} {lo c:Nat} {w:V} {y:Assign} (hw:zLs K lo c w y):∀{ws:List V} {ys:List Assign},zpS K lo c ws ys→zpS K lo c (ws++[w]) (ys++[y])
 |[],[],_=>⟨hw,trivial⟩
 |_::_,_::_,h=>⟨h.1,zpS.snoc hw h.2⟩
def cpA (y:Assign):Assign:=⟨y.slot,⟨false,y.nodes.l⟩⟩
theorem zpS.rd {K:Heap} {lo c:Nat}:∀{ws:List V} {ys:List Assign},zpS K lo c ws ys→RdL 7 K ws ((ys.map cpA).map zai)
 |[],[],_=>trivial
 |_::_,y::_,h=>by
  obtain⟨⟨b,rfl,h2,h3,h4⟩,h5⟩:=h
  exact⟨Rd.agg' (.cons .d (.cons (Rd.sl h2 rfl rfl) .nil)),zpS.rd h5⟩
def CO (K:Heap) (lo:Nat) (v:V) (l:List Assign):Prop:=(v= .d (.list true [])∧l=[])∨∃c ws,l≠[]∧v= .sl c 0 l.length∧K.get c=some (.els 2 ws 0)∧c<lo∧zpS K lo c ws l
theorem CO.mono {K K':Heap} {lo lo':Nat} {v:V} {l:List Assign} (h:CO K lo v l) (hlo:lo≤lo') (hk:∀b,b<lo→K'.get b=K.get b):CO K' lo' v l:=by
 rcases h with h|⟨c,ws,h0,h1,h2,h3,h4⟩
 ·exact .inl h
 ·exact .inr ⟨c,ws,h0,h1,by rw[hk c h3];exact h2,by omega,h4.mono hlo fun b hb hne=>⟨hk b hb,hne⟩⟩
theorem CO.rd {K:Heap} {lo:Nat} {v:V} {l:List Assign} (h:CO K lo v l):Rd 8 K v (eSl zai ⟨(l.map cpA).isEmpty,l.map cpA⟩):=by
 rcases h with⟨rfl,rfl⟩|⟨c,ws,h0,rfl,h2,h3,h4⟩
 ·exact .d
 ·cases l with
  |nil=>exact absurd rfl h0
  |cons y l=>exact Rd.slL h2 h4.len h4.rd
theorem zLt {H:Heap} {lo hi s fr b:Nat} {v:V} {l:List Assign} {y:Assign} (h:CO H lo v l) (hs:H.get s=some (.els 2 [.agg [.d (.int .i64 y.slot),.sl b 0 y.nodes.l.length]] 0)) (hb:H.get b=some (.els 1 (encI y.nodes.l) 0))
 (h1:lo≤b) (h2:lo≤fr) (h3:b≠fr) (h4:b<hi) (h5:fr<hi) (hlo:lo≤hi) (hl:l.length≤2^40):
 ∃H2,zlw H fr 2 32 v (.sl s 0 1)=some (.sl fr 0 (l.length+1),H2)∧H2.next=H.next∧CO H2 hi (.sl fr 0 (l.length+1)) (l++[y]):=by
 have hroom:AI.roomBytes=2^46:=rfl
 have he:zbC H (.sl s 0 1)=some [.agg [.d (.int .i64 y.slot),.sl b 0 y.nodes.l.length]]:=by rw[zbv,hs];rfl
 have hz:sized 2 [V.agg [.d (.int .i64 y.slot),.sl b 0 y.nodes.l.length]]=true:=rfl
 rcases h with⟨rfl,rfl⟩|⟨c,ws,g0,rfl,g2,g3,g4⟩
 ·refine⟨H.put fr (.els 2 [.agg [.d (.int .i64 y.slot),.sl b 0 y.nodes.l.length]] 0),?_,rfl,.inr ⟨fr,_,by simp,rfl,Heap.put_eq ..,h5,⟨b,rfl,by rw[Heap.put_ne _ _ h3];exact hb,h3,h4⟩,trivial⟩⟩
  rw[zfz,he,zih (by simp) hz]
  simp only[zCu]
  rw[if_pos (by rw[hroom];simp)];rfl
 ·refine⟨(H.del c).put fr (.els 2 (ws++[.agg [.d (.int .i64 y.slot),.sl b 0 y.nodes.l.length]]) 0),?_,rfl,.inr ⟨fr,_,by simp,by simp,Heap.put_eq ..,h5,zpS.snoc ⟨b,rfl,by rw[Heap.put_ne _ _ h3,Heap.del_ne _ (by omega)];exact hb,h3,h4⟩ (g4.mono hlo fun k hk hne=>⟨by rw[Heap.put_ne _ _ (by omega),Heap.del_ne _ hne],by omega⟩)⟩⟩
  rw[zfz,he,zih (by simp) hz,zkD,g2,zht g4.len (by rw[hroom];simp;omega)];rfl
theorem zAH (hand:Sl Assign) (hl:hand.l.length≤2^40) (hn:∀y∈hand.l,y.nodes.l.length≤2^40) {Q:Ex→St→Prop}
 (hQ:∀r Kc vc,r 3=vc→CO Kc Kc.next vc hand.l→Q (.exit 0) ⟨r,Kc⟩):
 ∀m k,k+m=hand.l.length→∀(Kc:Heap) (vc:V) (r:Regs),r 0= .d (.list hand.n (hand.l.map zai))→r 3=vc→r 4= .d (.int .i64 (k:Int))→CO Kc Kc.next vc (hand.l.take k)→Wp prog (.loop zJi) ⟨r,Kc⟩ Q:=by
 have hroom:AI.roomBytes=2^46:=rfl
 intro m
 induction m with
 |zero=>
  intro k hk Kc vc r r0 r3 r4 I
  obtain rfl:k=hand.l.length:=by omega
  rw[List.take_length]at I
  refine Wp.peel ?_
  obtain⟨Q1,hQ1⟩:∃Q1,Q1=Ex.seq prog (.loop zJi) Q:=⟨_,rfl⟩
  rw[←hQ1]
  delta zJi
  simp only[go_sem,r0,r3,r4]
  rw[show decide ((hand.l.length:Int)<(hand.l.length:Int))=false by simp]
  simp only[go_sem]
  rw[hQ1]
  exact hQ _ _ vc (by simp only[go_sem,r3]) (I.mono (by show Kc.next≤_;simp only[go_sem];omega) fun _ _=>rfl)
 |succ m ihm=>
  intro k hk Kc vc r r0 r3 r4 I
  have hlt:k<hand.l.length:=by omega
  have hw:=zaK (show k<2^62 by omega)
  have hy:rd hand.l (k:Int)=some hand.l[k]:=zbd hlt
  have hnl:=hn _ (List.getElem_mem hlt)
  obtain⟨y,hye⟩:∃y,y=hand.l[k]:=⟨_,rfl⟩
  rw[←hye]at hy hnl
  refine Wp.peel ?_
  obtain⟨Q1,hQ1⟩:∃Q1,Q1=Ex.seq prog (.loop zJi) Q:=⟨_,rfl⟩
  rw[←hQ1]
  delta zJi
  simp only[go_sem,r0,r3,r4]
  rw[show decide ((k:Int)<(hand.l.length:Int))=true from decide_eq_true (by omega)]
  have hget:(hand.l.map zai)[k]? =some (zai y):=by rw[hye];simp[hlt]
  simp only[go_sem,r0,r3,r4,zab hy,zaj hy,zac zai hy,hget]
  have hb0:(((Kc.bump 4).bump 17).put (Kc.next+10) (Blk.els 1 [] 0)).get (Kc.next+10)=some (.els 1 [] 0):=Heap.put_eq ..
  obtain⟨b,H2,e1,e2,e3,e4,e5⟩:=zxY (fr:=Kc.next+16) (sz:=1) (bytes:=8) (new:=encI y.nodes.l) hb0 (by have:=zfU (e:=D.int .i64) (sz:=1) (fun _=>rfl) (fun _=>rfl) y.nodes.l;rwa [List.map_map]at this) (by rw[hroom,List.length_map];omega)
  rw[List.length_map]at e1
  refine zhX (v:= .sl b 0 y.nodes.l.length) (h:=H2) (by rw[zfz,zbb,List.map_map];exact e1) ?_
  have old:∀c,c<Kc.next→H2.get c=Kc.get c:=fun c hc=>by
   rw[e5 c (by omega) (by omega),Heap.put_ne _ _ (by omega)];rfl
  have hH2:H2.next=Kc.next+21:=e3
  simp only[go_sem]
  have hbn:Kc.next≤b∧b<Kc.next+17:=by omega
  have hl':(hand.l.take k).length=k:=by rw[List.length_take];omega
  obtain⟨H3,a1,a2,a3⟩:=zLt (H:=H2.put (Kc.next+18) (Blk.els 2 [V.agg [V.d (D.int IntKind.i64 y.slot),V.sl b 0 y.nodes.l.length]] 0)) (lo:=Kc.next) (hi:=Kc.next+21) (s:=Kc.next+18) (fr:=Kc.next+19) (b:=b) (v:=vc) (l:=hand.l.take k) (y:=y)
   (I.mono (Nat.le_refl _) fun c hc=>by rw[Heap.put_ne _ _ (by omega)];exact old c hc) (Heap.put_eq ..) (by rw[Heap.put_ne _ _ (by omega)];exact e2) hbn.1 (by omega) (by omega) (by omega) (by omega) (by omega) (by omega)
  have hn3:H3.next=Kc.next+21:=by rw[a2];exact hH2
  refine zhX a1 ?_
  simp only[go_sem,r4,hw]
  rw[hQ1]
  refine ihm (k+1) (by omega) _ (.sl (Kc.next+19) 0 ((hand.l.take k).length+1)) _ ?_ ?_ ?_ ?_
  ·simp only[go_sem,r0]
  ·simp only[go_sem]
  ·simp only[go_sem,hw]
  ·rw[List.take_add_one,List.getElem?_eq_getElem hlt,←hye]
   exact a3.mono (by show _≤H3.next+3;omega) fun _ _=>rfl
theorem zvM (hand:Sl Assign) (hh:zkb hand.l):pc prog 6 [.list hand.n (hand.l.map zai)]=some (eSl zai ⟨(hand.l.map cpA).isEmpty,hand.l.map cpA⟩):=by
 refine zaQ (fn:=c6) rfl rfl ?_
 delta c6
 simp only[go_sem]
 refine zAH hand hh.1 hh.2 ?_ hand.l.length 0 (by omega) _ (.d (.list true [])) _ ?_ ?_ ?_ ?_
 ·intro r Kc vc h3 I
  simp only[go_sem,h3]
  exact Reads.of (I.mono (K':=Kc.bump 2) (Nat.le_refl _) fun _ _=>rfl).rd rfl
 ·simp only[go_sem]
 ·simp only[go_sem]
 ·simp only[go_sem];rfl
 ·exact .inl ⟨rfl,rfl⟩
end Go.Proofs.YthodcjjgimeeoaaGreat.P
