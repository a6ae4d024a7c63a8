/- Shaken copy of a longer text: what one law needs. Its conditions: none. -/
import Derived.Test.YtfleilibjdgcjaaPBSpCp
set_option linter.unusedSimpArgs false
set_option linter.unusedVariables false
set_option linter.unusedSimpArgs false
set_option linter.unusedVariables false
set_option linter.unusedSectionVars false
set_option linter.unnecessarySimpa false
namespace Go.Proofs.Ytfleilibjdgcjaa.B
open Go.AI
instance:Inj zad:=⟨fun a b h=>by
 rcases a with⟨⟨a1,a2⟩⟩
 rcases b with⟨⟨b1,b2⟩⟩
 simp only[zad,D.agg.injEq,List.cons.injEq,D.list.injEq,zdx,and_true,true_and]at h
 simp_all⟩
theorem zhy {ρ : Type} {step : Int → Option (Int ⊕ ρ)} {n : Nat} {e : ρ} (h : ∀ k : Nat, k < n → step (k : Int) = some (.inl ((k + 1 : Nat) : Int))) (he : step (n : Int) = some (.inr e)) : zaO step 0 = some e := by
  have key : ∀ m k : Nat, k + m = n → zaO step (k : Int) = some e := by
    intro m
    induction m with
    | zero => intro k hk; obtain rfl : k = n := by omega
              exact zaK he
    | succ m ih => intro k hk; rw [zaZ (h k (by omega))]; exact ih (k + 1) (by omega)
  exact key n 0 (by omega)
theorem zDa {f:Forest} {r:List D} (hb:D.bulkAll (zad f::r)≤1048576):∀n∈f.nodes.l,n.data.l.length≤2^40:=by
 simp only[zad,D.bulkAll,D.bulk]at hb
 intro n hn
 have h1:=zmN (List.mem_map_of_mem (f:=zag) hn)
 have h2:=zcG (n.data.l.map (D.int .u16))
 simp only[List.length_map]at h2
 simp only[zag,D.bulkAll,D.bulk]at h1
 omega
theorem zoY (n:Node) (h1:n.data.l.length≤2^40) (h2:n.attrs.l.length≤2^40) (h3:n.kids.l.length≤2^40):pc prog 113 [zag n]=some (zag (cpN n)):=by
 have hroom:AI.roomBytes=2^46:=rfl
 refine zNS n _ ?_
 unfold zNR
 have r1:n.data.l.length*2≤AI.roomBytes:=by omega
 have r2:n.attrs.l.length*64≤AI.roomBytes:=by omega
 have r3:n.kids.l.length*8≤AI.roomBytes:=by omega
 by_cases c1:n.data.l=[]<;>by_cases c2:n.attrs.l=[]<;>by_cases c3:n.kids.l=[]<;>
  simp[c1,c2,c3,r1,r2,r3,cpN]
theorem zDb (f:Forest) (hf:Fit f.nodes.l) (hd:∀n∈f.nodes.l,n.data.l.length≤2^40) (hn:f.nodes.l.length≤2^20):pc prog 43 [zad f]=some (zad ⟨⟨(cpL f.nodes.l).isEmpty,cpL f.nodes.l⟩⟩):=by
 have hroom:AI.roomBytes=2^46:=rfl
 refine zOS f _ ?_
 unfold P43
 have key:∀m k:Nat,k+m=f.nodes.l.length→zaO (zdk f) ((f.nodes.l.take k).map cpN,(k:Int))=some (cpL f.nodes.l):=by
  intro m
  induction m with
  |zero=>
   intro k hk
   obtain rfl:k=f.nodes.l.length:=by omega
   refine zaK ?_
   simp only[zdk]
   rw[if_neg (by simp),List.take_length];rfl
  |succ m ih=>
   intro k hk
   have hlt:k<f.nodes.l.length:=by omega
   have hm:=List.getElem_mem hlt
   rw[zaZ (y:=((f.nodes.l.take (k+1)).map cpN,((k+1:Nat):Int)))]
   ·exact ih (k+1) (by omega)
   ·simp only[zdk]
    rw[if_pos (by simpa using hlt),zbo hlt,Option.bind_some,zoY _ (hd _ hm) (hf.2 _ hm).1 (hf.2 _ hm).2,zat (e:=zag),Option.bind_some,if_pos (by rw[List.length_map,List.length_take];omega),zaM (show k<2^62 by omega),List.take_add_one,List.getElem?_eq_getElem hlt,List.map_append]
    rfl
 have hk:=key f.nodes.l.length 0 (by omega)
 rw[show((0:Nat):Int)=0 from rfl,List.take_zero,List.map_nil]at hk
 rw[hk,Option.bind_some]
theorem zuO (a b:Sl Int) (h:a.l=b.l) (hl:b.l.length≤2^40):pc prog 165 [.list a.n (a.l.map (D.int .u16)),.list b.n (b.l.map (D.int .u16))]=some (.bool true):=by
 refine zOg a b _ ?_
 unfold zOf
 have hl2:zaO (zcR a b) 0=some (.inl ()):=by
  refine zhy (n:=b.l.length) (fun k hk=> ?_) ?_
  ·simp only[zcR]
   rw[h,if_pos (by simpa using hk),zbo hk,Option.bind_some,Option.bind_some,if_neg (by simp),zaM (show k<2^62 by omega)]
  ·simp only[zcR]
   rw[h,if_neg (by simp)]
 rw[if_neg (by simp[h]),hl2,Option.bind_some]
theorem zzK (a b:Sl Int) (h:a.l=b.l) (hl:b.l.length≤2^40):pc prog 166 [.list a.n (a.l.map (D.int .i64)),.list b.n (b.l.map (D.int .i64))]=some (.bool true):=by
 refine zOi a b _ ?_
 unfold zOh
 have hl2:zaO (zcS a b) 0=some (.inl ()):=by
  refine zhy (n:=b.l.length) (fun k hk=> ?_) ?_
  ·simp only[zcS]
   rw[h,if_pos (by simpa using hk),zbo hk,Option.bind_some,Option.bind_some,if_neg (by simp),zaM (show k<2^62 by omega)]
  ·simp only[zcS]
   rw[h,if_neg (by simp)]
 rw[if_neg (by simp[h]),hl2,Option.bind_some]
theorem zoZ (m n:Node) (e1:m.data.l=n.data.l) (e2:m.attrs.l=n.attrs.l) (e3:m.kids.l=n.kids.l) (e4:m.kind=n.kind∧m.name=n.name∧m.public_=n.public_∧m.system=n.system∧m.parent=n.parent∧m.doc=n.doc∧m.host=n.host∧m.shadow=n.shadow∧m.mode=n.mode∧m.manual=n.manual∧m.hTML=n.hTML) (h1:n.data.l.length≤2^40) (h2:n.attrs.l.length≤2^40) (h3:n.kids.l.length≤2^40):pc prog 121 [zag m,zag n]=some (.bool true):=by
 refine zOe m n _ ?_
 unfold zOd
 have hl:zaO (zcQ m n) 0=some (.inl ()):=by
  refine zhy (n:=n.attrs.l.length) (fun k hk=> ?_) ?_
  ·simp only[zcQ]
   rw[e2,if_pos (by simpa using hk),zbo hk,Option.bind_some,Option.bind_some,if_neg (by simp),zaM (show k<2^62 by omega)]
  ·simp only[zcQ]
   rw[e2,if_neg (by simp)]
 obtain⟨f1,f2,f3,f4,f5,f6,f7,f8,f9,f10,f11⟩:=e4
 rw[if_pos (by simp[e2]),zuO m.data n.data e1 h1,zat (e:=D.bool),Option.bind_some,if_pos rfl,zzK m.kids n.kids e3 h3,zat (e:=D.bool),Option.bind_some,Option.bind_some,if_neg (by simp),hl,Option.bind_some]
 simp[f1,f2,f3,f4,f5,f6,f7,f8,f9,f10,f11]
theorem zqP (n:Node) (h1:n.data.l.length≤2^40) (h2:n.attrs.l.length≤2^40) (h3:n.kids.l.length≤2^40):pc prog 121 [zag (cpN n),zag n]=some (.bool true):=
 zoZ (cpN n) n rfl rfl rfl ⟨rfl,rfl,rfl,rfl,rfl,rfl,rfl,rfl,rfl,rfl,rfl⟩ h1 h2 h3
theorem zGz (f:Forest) (b:Bool) (hf:Fit f.nodes.l) (hd:∀n∈f.nodes.l,n.data.l.length≤2^40):pc prog 52 [zad ⟨⟨b,cpL f.nodes.l⟩⟩,zad f]=some (.bool true):=by
 refine zPa ⟨⟨b,cpL f.nodes.l⟩⟩ f _ ?_
 unfold P52
 have hl2:zaO (zdm ⟨⟨b,cpL f.nodes.l⟩⟩ f) 0=some (.inl ()):=by
  refine zhy (n:=f.nodes.l.length) (fun k hk=> ?_) ?_
  ·have hk':k<(cpL f.nodes.l).length:=by rw[zeU];exact hk
   have hm:=List.getElem_mem hk
   have e:(cpL f.nodes.l)[k]=cpN f.nodes.l[k]:=List.getElem_map _
   have:=hf.1
   simp only[zdm]
   rw[if_pos (by simpa using hk'),zbo hk',Option.bind_some,zbo hk,Option.bind_some,e,zqP _ (hd _ hm) (hf.2 _ hm).1 (hf.2 _ hm).2,zat (e:=D.bool),Option.bind_some,if_neg (by simp),zaM (show k<2^62 by omega)]
  ·simp only[zdm]
   rw[if_neg (by simp[zeU])]
 rw[if_neg (by simp[zeU]),hl2,Option.bind_some]
theorem zzL (a b:Sl Bound) (h:a.l=b.l) (hl:b.l.length≤2^40):pc prog 49 [.list a.n (a.l.map zal),.list b.n (b.l.map zal)]=some (.bool true):=by
 refine zOX a b _ ?_
 unfold P49
 have hl2:zaO (zdl a b) 0=some (.inl ()):=by
  refine zhy (n:=b.l.length) (fun k hk=> ?_) ?_
  ·simp only[zdl]
   rw[h,if_pos (by simpa using hk),zbo hk,Option.bind_some,Option.bind_some,if_neg (by simp),zaM (show k<2^62 by omega)]
  ·simp only[zdl]
   rw[h,if_neg (by simp)]
 rw[if_neg (by simp[h]),hl2,Option.bind_some]
theorem zkE (f:Forest) (a b:Bound) (_:Forest.ok f) (_:Bound.ok a) (_:Bound.ok b) (hb:D.bulkAll [zad f,zal a,zal b]≤1048576):pc prog 11 [zad f,zal a,zal b]=some (.bool true):=by
 have hf:Fit f.nodes.l:=zCS hb
 have hd:=zDa hb
 have hn:f.nodes.l.length≤2^20:=by
  have h0:=zcG (f.nodes.l.map zag)
  simp only[List.length_map]at h0
  simp only[zad,D.bulkAll,D.bulk]at hb
  omega
 refine zOR f a b _ ?_
 unfold P11
 rw[zDb f hf hd hn,zat (e:=zad),Option.bind_some]
 obtain⟨g,hg⟩:∃g:Forest,g=⟨⟨(cpL f.nodes.l).isEmpty,cpL f.nodes.l⟩⟩:=⟨_,rfl⟩
 have hgl:g.nodes.l=cpL f.nodes.l:=by rw[hg]
 have hsame:pc prog 52 [zad g,zad f]=some (.bool true):=by rw[hg];exact zGz f _ hf hd
 rw[←hg]
 have hfg:Fit g.nodes.l:=by rw[hgl];exact zJL hf
 have hlen:pc prog 44 [zad g,.int .i64 a.node]=some (eT2 (D.int .i64) (D.int .i64) (if zbj f.nodes.l [a.node]=0 then((zey f.nodes.l a.node:Nat):Int)else 0,zbj f.nodes.l [a.node])):=by
  refine zOT g a.node _ ?_
  unfold P44
  rw[zoW g a.node hfg,hgl,zmX,zat (e:=D.int .i64),Option.bind_some]
  by_cases h0:zbj f.nodes.l [a.node]=0
  ·rw[if_neg (by simp[h0]),if_pos h0,zmL g _ hfg,hgl,zqO,zat (e:=D.int .i64),Option.bind_some,h0]
  ·rw[if_pos (by simpa using h0),if_neg h0]
 have hfr:pc prog 45 [zad f,.list false (([a.node]).map (D.int .i64))]=some (.int .i64 (zbj f.nodes.l [a.node])):=zku f ⟨false,[a.node]⟩ hf (by simp)
 have hc1:pc prog 41 [zad g,zal a,zal b]=some (eT2 (D.int .i64) (D.int .i64) (zuS f.nodes.l a b)):=by rw[zqH g a b hfg,hgl,zGx]
 have hw1:pc prog 42 [zad g,.int .i64 a.node]=some (eT2 (eSl zal) (D.int .i64) (zeR f.nodes.l a.node)):=by rw[zCT g _ hfg,hgl,zGy]
 have hk1:pc prog 50 [zad g,zal a]=some (.int .i64 (bfR f.nodes.l [a] [])):=by
  have hq:pc prog 109 [zad g,.list false (([a]).map zal),.list true []]=some (.int .i64 (bfR g.nodes.l [a] [])):=zlC g ⟨false,[a]⟩ ⟨true,[]⟩ hfg (by simp) (by simp)
  refine zOY g a _ ?_
  unfold P50
  rw[hq,hgl,zJK,zat (e:=D.int .i64),Option.bind_some]
 have hk2:pc prog 51 [zad f,zal a]=some (.int .i64 (bfR f.nodes.l [a] [])):=by
  have hq:pc prog 116 [zad f,.list false (([a]).map zal),.list true []]=some (.int .i64 (bfR f.nodes.l [a] [])):=zkD f ⟨false,[a]⟩ ⟨true,[]⟩ hf (by simp) (by simp)
  refine zOZ f a _ ?_
  unfold P51
  rw[hq,zat (e:=D.int .i64),Option.bind_some]
 have hbs:pc prog 49 [.list (zeR f.nodes.l a.node).1.n ((zeR f.nodes.l a.node).1.l.map zal),.list (zeR f.nodes.l a.node).1.n ((zeR f.nodes.l a.node).1.l.map zal)]=some (.bool true):=zzL _ _ rfl (by have:=(zCU (f:=f.nodes.l) a.node).1;omega)
 have hlr:(if(zbj f.nodes.l [a.node]==0)=true then(dec (D.int .i64) (pc prog 46 [zad f,.int .i64 a.node])).bind fun r9=>some r9 else some 0)=some (if zbj f.nodes.l [a.node]=0 then((zey f.nodes.l a.node:Nat):Int)else 0):=by
  by_cases h0:zbj f.nodes.l [a.node]=0
  ·rw[if_pos (by simpa using h0),if_pos h0,zmV f _ hf,zat (e:=D.int .i64),Option.bind_some]
  ·rw[if_neg (by simpa using h0),if_neg h0]
 rw[hlen,zat (e:=eT2 (D.int .i64) (D.int .i64)),Option.bind_some,hfr,zat (e:=D.int .i64),Option.bind_some,hlr,Option.bind_some,hc1,zqM f a b hf,hw1,zCY f _ hf,zGr]
 simp only[zat (e:=eT2 (D.int .i64) (D.int .i64)),zat (e:=eT2 (eSl zal) (D.int .i64)),zat (e:=D.bool),Option.bind_some,hbs,hk1,hk2,hsame,zat (e:=D.int .i64)]
 simp
end Go.Proofs.Ytfleilibjdgcjaa.B
