/- Shaken copy of a longer text: what one law needs. Its conditions: none. -/
import Derived.Test.YtfleilibjdgcjaaPBSpBl
import Derived.Test.YtfleilibjdgcjaaPBDecR
set_option linter.unusedSimpArgs false
set_option linter.unusedVariables false
set_option linter.unusedSimpArgs false
set_option linter.unusedVariables false
set_option linter.unusedSectionVars false
set_option linter.unnecessarySimpa false
namespace Go.Proofs.Ytfleilibjdgcjaa.B
open Go.AI
theorem zmV (f:Forest) (h:Int) (hf:Fit f.nodes.l):pc prog 46 [zad f,.int .i64 h]=some (.int .i64 (zey f.nodes.l h:Nat)):=by
 refine zOU f h _ ?_
 unfold P46 zey
 rw[zdU f h hf.1,zat (e:=eT2 zag D.bool),Option.bind_some,zji,zat (e:=D.bool),Option.bind_some]
 by_cases hd:zcc (nodeD f.nodes.l h).kind=true
 ·rw[if_pos hd,if_pos hd]
 ·rw[if_neg hd,if_neg hd];rfl
theorem zqJ (f:Forest) (l:Sl Bound) (ns:Sl Int) (hl:l.l.length≤2^20):zaO (zcn f l ns) (0,[])=some (l.l.map (·.node)):=by
 have hroom:AI.roomBytes=2^46:=rfl
 have key:∀m k,k+m=l.l.length→zaO (zcn f l ns) ((k:Int),(l.l.take k).map (·.node))=some (l.l.map (·.node)):=by
  intro m
  induction m with
  |zero=>
   intro k hk
   obtain rfl:k=l.l.length:=by omega
   refine zaK ?_
   simp only[zcn]
   rw[if_neg (by simp),List.take_length]
  |succ m ih=>
   intro k hk
   have hlt:k<l.l.length:=by omega
   rw[zaZ (y:=(((k+1:Nat):Int),(l.l.take (k+1)).map (·.node)))]
   ·exact ih (k+1) (by omega)
   ·simp only[zcn]
    rw[if_pos (by simpa using hlt),zbo hlt,Option.bind_some,if_pos (by rw[List.length_map,List.length_take];omega),zaM (show k<2^62 by omega),List.take_add_one,List.getElem?_eq_getElem hlt,List.map_append]
    rfl
 exact key l.l.length 0 (by omega)
theorem zoX {f:Forest} {b:Bound} {ρ:Type} {x y:ρ} (hf:Fit f.nodes.l):(if(!(decide (b.offset<0)))=true then(dec (D.int .i64) (pc prog 46 [zad f,.int .i64 b.node])).bind fun r=>if(decide (r<b.offset))=true then some x else some y else some x)=some (if zlB f.nodes.l b=true then x else y):=by
 unfold zlB
 rw[zmV f _ hf,zat (e:=D.int .i64),Option.bind_some]
 by_cases h1:b.offset<0
 ·rw[if_neg (by simp[h1]),if_pos (by simp;omega)]
 ·rw[if_pos (by simpa using h1)]
  by_cases h2:((zey f.nodes.l b.node:Nat):Int)<b.offset
  ·rw[if_pos (by simpa using h2),if_pos (by simp;omega)]
  ·rw[if_neg (by simpa using h2),if_neg (by simp;omega)]
theorem zkD (f:Forest) (l:Sl Bound) (ns:Sl Int) (hf:Fit f.nodes.l) (hl:l.l.length≤2^20) (hn:ns.l.length≤2^20):pc prog 116 [zad f,.list l.n (l.l.map zal),.list ns.n (ns.l.map (D.int .i64))]=some (.int .i64 (bfR f.nodes.l l.l ns.l)):=by
 have hroom:AI.roomBytes=2^46:=rfl
 refine zNU f l ns _ ?_
 unfold zNT bfR
 rw[zqJ f l ns hl,Option.bind_some]
 by_cases hns:ns.l=[]
 ·have hq:pc prog 45 [zad f,.list (l.l.map (·.node)).isEmpty ((l.l.map (·.node)).map (D.int .i64))]=some (.int .i64 (zbj f.nodes.l (l.l.map (·.node)))):=zku f ⟨(l.l.map (·.node)).isEmpty,l.l.map (·.node)⟩ hf (by rw[List.length_map];omega)
  rw[if_pos hns,hq,zat (e:=D.int .i64),Option.bind_some,hns,List.append_nil]
  by_cases h0:zbj f.nodes.l (l.l.map (·.node))=0
  ·have ha:=zdT (step:=zcN f l) (l:=l.l) (zlB f.nodes.l) (.inr ()) (.inl ()) (fun k hk=>by
    simp only[zcN]
    rw[if_pos (by simpa using hk),zbo hk,Option.bind_some,zoX hf,zaM (show k<2^62 by omega)]) (by simp only[zcN];rw[if_neg (by simp)])
   rw[if_neg (by simp[h0]),if_pos h0,ha,Option.bind_some]
   by_cases hb:l.l.any (zlB f.nodes.l)=true
   ·rw[if_pos hb,if_pos hb]
   ·rw[if_neg hb,if_neg hb]
  ·rw[if_pos (by simpa using h0),if_neg h0]
 ·have hq:pc prog 45 [zad f,.list false ((l.l.map (·.node)++ns.l).map (D.int .i64))]=some (.int .i64 (zbj f.nodes.l (l.l.map (·.node)++ns.l))):=zku f ⟨false,l.l.map (·.node)++ns.l⟩ hf (by rw[List.length_append,List.length_map];omega)
  rw[if_neg hns,if_pos (by rw[List.length_map];omega),hq,zat (e:=D.int .i64),Option.bind_some]
  by_cases h0:zbj f.nodes.l (l.l.map (·.node)++ns.l)=0
  ·have ha:=zdT (step:=zcO f l) (l:=l.l) (zlB f.nodes.l) (.inr ()) (.inl ()) (fun k hk=>by
    simp only[zcO]
    rw[if_pos (by simpa using hk),zbo hk,Option.bind_some,zoX hf,zaM (show k<2^62 by omega)]) (by simp only[zcO];rw[if_neg (by simp)])
   rw[if_neg (by simp[h0]),if_pos h0,ha,Option.bind_some]
   by_cases hb:l.l.any (zlB f.nodes.l)=true
   ·rw[if_pos hb,if_pos hb]
   ·rw[if_neg hb,if_neg hb]
  ·rw[if_pos (by simpa using h0),if_neg h0]
theorem zGu (f:Forest) (a b:Int) (hf:Fit f.nodes.l) (hr:zaQ f.nodes.l) (ha:isN f.nodes.l a) (hb:isN f.nodes.l b):pc prog 117 [zad f,.int .i64 a,.int .i64 b]=some (.bool (root f.nodes.l a==root f.nodes.l b)):=by
 refine zNW f a b _ ?_
 unfold zNV
 rw[zim f a hf hr ha,zim f b hf hr hb,zat (e:=D.int .i64),zat (e:=D.int .i64),Option.bind_some,Option.bind_some]
theorem zqK {g:Nat→List Bound} {i n:Nat} (h:i≤n):((List.range i).flatMap g).length≤((List.range n).flatMap g).length:=by
 obtain⟨d,rfl⟩:=Nat.le.dest h
 rw[List.range_add,List.flatMap_append,List.length_append];omega
theorem zzH (f:Forest) (hf:Fit f.nodes.l) (hr:zaQ f.nodes.l):∀h,isN f.nodes.l h→pc prog 120 [zad f,.int .i64 h]=some (eSl zal ⟨false,zdN f.nodes.l h⟩):=by
 have hroom:AI.roomBytes=2^46:=rfl
 refine zef hr fun h hh ih=> ?_
 have hpl:=zmQ hr hh
 rw[zly hr hh]at hpl
 refine zOc f h _ ?_
 unfold zOb
 rw[zdU f h hf.1,zat (e:=eT2 zag D.bool),Option.bind_some]
 have key:∀m i,i+m=zey f.nodes.l h+1→1≤i→zaO (zcP f h (nodeD f.nodes.l h,(zbG f.nodes.l h).isSome)) ((List.range i).flatMap (pce f.nodes.l (zdN f.nodes.l) h),(i:Int))=some ((List.range (zey f.nodes.l h+1)).flatMap (pce f.nodes.l (zdN f.nodes.l) h)):=by
  intro m
  induction m with
  |zero=>
   intro i hi _
   obtain rfl:i=zey f.nodes.l h+1:=by omega
   refine zaK ?_
   simp only[zcP]
   rw[zmV f h hf,zat (e:=D.int .i64),Option.bind_some,if_neg (by simp;omega)]
  |succ m ihm=>
   intro i hi h1
   have hle:=zqK (g:=pce f.nodes.l (zdN f.nodes.l) h) (show i+1≤zey f.nodes.l h+1 by omega)
   have hw:=zaM (show i<2^62 by have:=zkA hr h;omega)
   have hs:(List.range (i+1)).flatMap (pce f.nodes.l (zdN f.nodes.l) h)=(List.range i).flatMap (pce f.nodes.l (zdN f.nodes.l) h)++pce f.nodes.l (zdN f.nodes.l) h i:=by rw[List.range_succ,List.flatMap_append,List.flatMap_singleton]
   rw[zaZ (y:=((List.range (i+1)).flatMap (pce f.nodes.l (zdN f.nodes.l) h),((i+1:Nat):Int)))]
   ·exact ihm (i+1) (by omega) (by omega)
   ·rw[hs]at hle⊢
    simp only[zcP]
    rw[zmV f h hf,zat (e:=D.int .i64),Option.bind_some,if_pos (by simp;omega),zji,zat (e:=D.bool),Option.bind_some,hw]
    rw[List.length_append]at hle
    cases hd:zcc (nodeD f.nodes.l h).kind with
    |true=>
     have hp:pce f.nodes.l (zdN f.nodes.l) h i=[⟨h,(i:Int)⟩]:=by unfold pce;rw[if_neg (by simp[hd])];rfl
     rw[hp]at hle⊢
     rw[List.length_singleton]at hle
     rw[if_neg (by simp),if_pos (by omega)]
    |false=>
     have hlt:i-1<(kidsL f.nodes.l h).length:=by rw[zcT hd]at hi;omega
     have hmem:=zfQ (f:=f.nodes.l) (h:=h) hlt
     have hp:pce f.nodes.l (zdN f.nodes.l) h i=zdN f.nodes.l (zuL f.nodes.l h (i-1))++[⟨h,(i:Int)⟩]:=by unfold pce;rw[if_pos ⟨by omega,hd⟩]
     have hw1:IntKind.wrap .i64 ((i:Int)-1)=((i-1:Nat):Int):=by rw[w64 (by omega) (by have:=zkA hr h;omega)];omega
     have hrd:rd (nodeD f.nodes.l h).kids.l ((i-1:Nat):Int)=some (zuL f.nodes.l h (i-1)):=by rw[zgN hlt];exact zbo hlt
     have hne:zdN f.nodes.l (zuL f.nodes.l h (i-1))≠[]:=zzy hr (zcW hr hmem).2.1
     rw[hp]at hle⊢
     rw[List.length_append,List.length_singleton]at hle
     rw[if_pos (by simp),hw1,hrd,Option.bind_some,ih _ hmem,zat (e:=eSl zal),Option.bind_some,if_neg hne,if_pos (by show(_+(zdN f.nodes.l (zuL f.nodes.l h (i-1))).length)*16≤AI.roomBytes;omega),if_pos (by show((_++zdN f.nodes.l (zuL f.nodes.l h (i-1))).length+1)*16≤AI.roomBytes;rw[List.length_append];omega),List.append_assoc]
 have h0:(List.range 1).flatMap (pce f.nodes.l (zdN f.nodes.l) h)=[⟨h,0⟩]:=by
  rw[List.range_one,List.flatMap_singleton];unfold pce;rw[if_neg (by simp)];rfl
 have hk:=key (zey f.nodes.l h) 1 (by omega) (by omega)
 rw[h0]at hk
 rw[show((1:Nat):Int)=1 from rfl]at hk
 rw[hk,Option.bind_some,zly hr hh]
theorem zqL {f:List Node} {a b:Bound} {r:Sl Bound}:∀m k,k+m=r.l.length→(r.l.drop k).Pairwise (fun x y=>cmpL (key f x) (key f y)= -1)→a∈r.l.drop k→b∈r.l.drop k→a≠b→r.l.length≤2^40→zaO (zco a b r) (k:Int)=some (.inr (cmpL (key f a) (key f b))):=by
 intro m
 induction m with
 |zero=>intro k hk _ ha _ _ _;rw[List.drop_eq_nil_of_le (by omega)]at ha;cases ha
 |succ m ih=>
  intro k hk hs ha hb e hl
  have hlt:k<r.l.length:=by omega
  rw[List.drop_eq_getElem_cons hlt]at hs ha hb
  rw[List.pairwise_cons]at hs
  by_cases e1:r.l[k]=a
  ·have hb':=(List.mem_cons.1 hb).resolve_left fun h=>e (e1.symm.trans h.symm)
   refine zaK ?_
   simp only[zco]
   rw[if_pos (by simpa using hlt),zbo hlt,Option.bind_some,if_pos (by simpa using e1),←e1,hs.1 b hb']
  ·by_cases e2:r.l[k]=b
   ·have ha':=(List.mem_cons.1 ha).resolve_left fun h=>e1 h.symm
    refine zaK ?_
    simp only[zco]
    rw[if_pos (by simpa using hlt),zbo hlt,Option.bind_some,if_neg (by simpa using e1),if_pos (by simpa using e2),←e2,zdM (key f r.l[k]),hs.1 a ha']
    rfl
   ·rw[zaZ (y:=((k+1:Nat):Int))]
    ·exact ih (k+1) (by omega) hs.2 ((List.mem_cons.1 ha).resolve_left fun h=>e1 h.symm) ((List.mem_cons.1 hb).resolve_left fun h=>e2 h.symm) e hl
    ·simp only[zco]
     rw[if_pos (by simpa using hlt),zbo hlt,Option.bind_some,if_neg (by simpa using e1),if_neg (by simpa using e2),zaM (show k<2^62 by omega)]
theorem zGv (f:Forest) (a b:Bound) (hf:Fit f.nodes.l) (hr:zaQ f.nodes.l) (ha:zHT f.nodes.l a) (hb:zHT f.nodes.l b) (he:root f.nodes.l a.node=root f.nodes.l b.node):pc prog 118 [zad f,zal a,zal b]=some (.int .i64 (cmpL (key f.nodes.l a) (key f.nodes.l b))):=by
 refine zNY f a b _ ?_
 unfold zNX
 by_cases hab:a=b
 ·subst hab;rw[if_pos (by simp),zdL]
 obtain⟨m1,m2,hR⟩:=zdh hr a.node ha.1
 have ma:a∈zdN f.nodes.l (root f.nodes.l a.node):=(zin hr _ hR a).2 ⟨m1,ha.2⟩
 have mb:b∈zdN f.nodes.l (root f.nodes.l a.node):=(zin hr _ hR b).2 ⟨by rw[he];exact(zdh hr b.node hb.1).1,hb.2⟩
 have hpl:=zmQ hr hR
 rw[if_neg (by simpa using hab),zim f a.node hf hr ha.1,zat (e:=D.int .i64),Option.bind_some,zzH f hf hr _ hR,zat (e:=eSl zal),Option.bind_some]
 have hk:=zqL (f:=f.nodes.l) (a:=a) (b:=b) (r:=⟨false,zdN f.nodes.l (root f.nodes.l a.node)⟩) (zdN f.nodes.l (root f.nodes.l a.node)).length 0 (by simp) (zlz hr _ hR) ma mb hab (by show(zdN f.nodes.l (root f.nodes.l a.node)).length≤2^40;omega)
 rw[show((0:Nat):Int)=0 from rfl]at hk
 rw[hk,Option.bind_some]
theorem zqM (f:Forest) (a b:Bound) (hf:Fit f.nodes.l):pc prog 47 [zad f,zal a,zal b]=some (eT2 (D.int .i64) (D.int .i64) (zuS f.nodes.l a b)):=by
 have hq:pc prog 116 [zad f,.list false (([a,b]).map zal),.list true []]=some (.int .i64 (bfR f.nodes.l [a,b] [])):=zkD f ⟨false,[a,b]⟩ ⟨true,[]⟩ hf (by simp) (by simp)
 refine zOV f a b _ ?_
 unfold P47 zuS
 rw[hq,zat (e:=D.int .i64),Option.bind_some]
 by_cases h0:bfR f.nodes.l [a,b] []=0
 ·obtain⟨hr,h1,_⟩:=zmP.1 h0
  have ha:=h1 a (by simp)
  have hb:=h1 b (by simp)
  rw[if_pos (by simp[h0]),if_pos h0,zGu f _ _ hf hr ha.1 hb.1,zat (e:=D.bool),Option.bind_some]
  by_cases he:root f.nodes.l a.node=root f.nodes.l b.node
  ·rw[if_neg (by simpa using he),if_pos he,zGv f a b hf hr ha hb he,zat (e:=D.int .i64),Option.bind_some]
  ·rw[if_pos (by simpa using he),if_neg he]
 ·rw[if_neg (by simpa using h0),if_neg h0]
theorem zCY (f:Forest) (h:Int) (hf:Fit f.nodes.l):pc prog 48 [zad f,.int .i64 h]=some (eT2 (eSl zal) (D.int .i64) (zeR f.nodes.l h)):=by
 refine zOW f h _ ?_
 have hq:pc prog 119 [zad f,.int .i64 h]=some (.int .i64 (zbj f.nodes.l [h])):=by
  refine zOa f h _ ?_
  unfold zNZ zbj
  rw[zoN f hf,zat (e:=D.bool),Option.bind_some]
  cases hr:zfj f.nodes.l with
  |false=>rfl
  |true=>
   rw[if_neg (by simp),if_pos rfl,zdU f h hf.1,zat (e:=eT2 zag D.bool),Option.bind_some,zjk]
   by_cases hh:isN f.nodes.l h
   ·rw[if_neg (by simp[hh]),if_pos (by simp[hh])]
   ·rw[if_pos (by simp[hh]),if_neg (by simp[hh])]
 unfold P48 zeR
 rw[hq,zat (e:=D.int .i64),Option.bind_some]
 by_cases h0:zbj f.nodes.l [h]=0
 ·obtain⟨hr,h1⟩:=zex.1 h0
  rw[if_neg (by simp[h0]),if_pos h0,zzH f hf hr h (h1 h (by simp)),zat (e:=eSl zal),Option.bind_some]
 ·rw[if_pos (by simpa using h0),if_neg h0]
end Go.Proofs.Ytfleilibjdgcjaa.B
