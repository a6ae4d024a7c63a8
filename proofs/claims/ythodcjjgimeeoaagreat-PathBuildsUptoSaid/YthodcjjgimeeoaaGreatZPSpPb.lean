/- Shaken copy of a longer text: what one law needs. Its conditions: none. -/
import Derived.Test.YthodcjjgimeeoaaGreatZPSpPr
import Derived.Test.YthodcjjgimeeoaaGreatZPSpCy
import Derived.Test.YthodcjjgimeeoaaGreatZPSpPl
set_option linter.unusedSimpArgs false
set_option linter.unusedVariables false
set_option linter.unusedSimpArgs false
set_option linter.unusedVariables false
set_option linter.unusedSectionVars false
set_option linter.unnecessarySimpa false
namespace Go.Proofs.YthodcjjgimeeoaaGreat.P
open Go.AI
theorem zAI (hand:List Assign) (x:Int):zfH (hand.map cpA) x=zfH hand x:=by
 unfold zfH
 rw[List.find?_map]
 have:((fun y:Assign=>y.slot==x)∘cpA)=fun y:Assign=>y.slot==x:=rfl
 rw[this]
 cases hand.find? (fun y=>y.slot==x)<;>rfl
theorem zES (f:List Node) (hand:List Assign) (h:Int):zbQ f (hand.map cpA) h=zbQ f hand h:=by
 have:∀x m,zeM f (hand.map cpA) x h m=zeM f hand x h m:=fun x m=>by unfold zeM;rw[zAI]
 unfold zbQ
 simp only[this]
theorem zth (f:List Node) (hand:List Assign) (org:Int) (comp:Bool) (h:Int):zaT f (hand.map cpA) org comp h=zaT f hand org comp h:=by unfold zaT;rw[zES]
theorem zti (f:List Node) (hand:List Assign) (rel org:Int) (comp:Bool):∀n t h s,zhi f (hand.map cpA) rel org comp n t h s=zhi f hand rel org comp n t h s
 |0,_,_,_=>rfl
 |n+1,t,h,s=>by simp only[zgr,zth,zti f hand rel org comp n]
theorem zET (f:List Node) (hand:List Assign) (t rel:Int) (comp:Bool):zfk f (hand.map cpA) t rel comp=zfk f hand t rel comp:=by
 unfold zfk zdq
 rw[zth,zti]
theorem zAJ (f:List Node):∀(hand:List Assign) (s t:List Int),zhT f s t (hand.map cpA)=zhT f s t hand
 |[],_,_=>rfl
 |x::r,s,t=>by
  show(if _ then _ else _)=(if _ then _ else _)
  simp only[zAJ f r];rfl
theorem zIc (f:List Node) (hand:List Assign):zlh f (hand.map cpA)=zlh f hand:=by
 have h1:zfJ (hand.map cpA)=zfJ hand:=by
  unfold zfJ
  rw[List.length_map,List.any_map];rfl
 have h2:zvD f (hand.map cpA)=zvD f hand:=by
  unfold zvD
  rw[List.all_map];rfl
 unfold zlh
 rw[h1,h2,zAJ]
theorem zId (f:List Node) (hand:List Assign) (t rel:Int) (comp:Bool):zct f (hand.map cpA) t rel comp=zct f hand t rel comp:=by
 unfold zct
 rw[zIc,zET]
theorem zvN (a b:Sl Int) (hab:a.l=b.l) (hl:a.l.length≤2^40):pc prog 31 [eSl (D.int .i64) a,eSl (D.int .i64) b]=some (.bool true):=by
 refine zQQ a b _ ?_
 unfold P31
 have key:∀n k,k+n=a.l.length→zaL (zdx a b) (k:Int)=some (.inl ()):=by
  intro n
  induction n with
  |zero=>
   intro k hk
   obtain rfl:k=a.l.length:=by omega
   refine zau ?_
   simp only[zdx]
   rw[if_neg (by simp)]
  |succ n ih=>
   intro k hk
   have hlt:k<a.l.length:=by omega
   have hw:=zaK (show k<2^62 by omega)
   have hrb:rd b.l (k:Int)=some a.l[k]:=by rw[←hab];exact zbd hlt
   rw[zaC (y:=((k+1:Nat):Int))]
   ·exact ih (k+1) (by omega)
   ·simp only[zdx,zbd hlt,hrb,Option.bind_some,hw]
    rw[if_pos (decide_eq_true (by omega)),if_neg (by simp)]
 have:=key a.l.length 0 (by omega)
 rw[show((0:Nat):Int)=0 from rfl]at this
 rw[if_neg (by rw[hab];simp),this,Option.bind_some]
theorem zvO (a b:Sl Step) (hab:a.l=b.l) (hl:a.l.length≤2^40):pc prog 9 [eSl zaP a,eSl zaP b]=some (.bool true):=by
 refine ok9 a b _ ?_
 unfold P9
 have key:∀n k,k+n=a.l.length→zaL (zeR a b) (k:Int)=some (.inl ()):=by
  intro n
  induction n with
  |zero=>
   intro k hk
   obtain rfl:k=a.l.length:=by omega
   refine zau ?_
   simp only[zeR]
   rw[if_neg (by simp)]
  |succ n ih=>
   intro k hk
   have hlt:k<a.l.length:=by omega
   have hw:=zaK (show k<2^62 by omega)
   have hrb:rd b.l (k:Int)=some a.l[k]:=by rw[←hab];exact zbd hlt
   rw[zaC (y:=((k+1:Nat):Int))]
   ·exact ih (k+1) (by omega)
   ·simp only[zeR,zbd hlt,hrb,Option.bind_some,hw]
    rw[if_pos (decide_eq_true (by omega)),if_neg (by simp)]
 have:=key a.l.length 0 (by omega)
 rw[show((0:Nat):Int)=0 from rfl]at this
 rw[if_neg (by rw[hab];simp),this,Option.bind_some]
theorem zrJ (hand:Sl Assign) (n:Bool) (hh:zkb hand.l):pc prog 10 [.list n ((hand.l.map cpA).map zai),.list hand.n (hand.l.map zai)]=some (.bool true):=by
 refine zQV ⟨n,hand.l.map cpA⟩ hand _ ?_
 unfold P10
 have hlen:(hand.l.map cpA).length=hand.l.length:=List.length_map _
 have key:∀m k,k+m=hand.l.length→zaL (zdy ⟨n,hand.l.map cpA⟩ hand) (k:Int)=some (.inl ()):=by
  intro m
  induction m with
  |zero=>
   intro k hk
   obtain rfl:k=hand.l.length:=by omega
   refine zau ?_
   simp only[zdy]
   rw[if_neg (by rw[hlen];simp)]
  |succ m ih=>
   intro k hk
   have hlt:k<hand.l.length:=by omega
   have h40:=hh.1
   have hw:=zaK (show k<2^62 by omega)
   have hr1:rd (hand.l.map cpA) (k:Int)=some (cpA hand.l[k]):=by
    rw[zbd (by rw[hlen];exact hlt)];simp
   have hi:=zvN (cpA hand.l[k]).nodes hand.l[k].nodes rfl (hh.2 hand.l[k] (List.getElem_mem hlt))
   unfold eSl at hi
   rw[zaC (y:=((k+1:Nat):Int))]
   ·exact ih (k+1) (by omega)
   ·simp only[zdy,hr1,zbd hlt,Option.bind_some,hw,hi,zap (e:=D.bool)]
    rw[if_pos (decide_eq_true (by rw[hlen];omega)),if_pos (by simp[cpA]),if_neg (by simp)]
 have:=key hand.l.length 0 (by omega)
 rw[show((0:Nat):Int)=0 from rfl]at this
 rw[if_neg (by simp),this,Option.bind_some]
theorem znL (f:Forest) (hand:Sl Assign) (target related:Int) (composed:Bool) (_:Forest.ok f) (_:Sl.ok (fun y=>Assign.ok y) hand) (_:IntKind.i64.min≤target∧target≤IntKind.i64.max) (_:IntKind.i64.min≤related∧related≤IntKind.i64.max) (_:True) (hb:D.bulkAll [zaa f,eSl zai hand,.int .i64 target,.int .i64 related,.bool composed]≤1048576):pc prog 3 [zaa f,eSl zai hand,.int .i64 target,.int .i64 related,.bool composed]=some (.bool true):=by
 have hf:Fit f.nodes.l:=zEx hb
 have hh:zkb hand.l:=zEQ (by simp) hb
 have hh2:zkb (hand.l.map cpA):=⟨by rw[List.length_map];exact hh.1,fun x hx=>by
  obtain⟨y,hy,rfl⟩:=List.mem_map.1 hx
  exact hh.2 y hy⟩
 refine ok3 f hand target related composed _ ?_
 unfold P3
 have e1:=zEN f ⟨(hand.l.map cpA).isEmpty,hand.l.map cpA⟩ target related composed hf hh2
 dsimp only at e1
 rw[zId]at e1
 have hlen:(zct f.nodes.l hand.l target related composed).1.l.length≤2^40:=by
  rcases znK f.nodes.l hand.l target related composed with⟨h1,h2⟩|⟨h0,ht,hrel,h1,h2⟩
  ·rw[h2];simp
  ·have:=zER (hand:=hand.l) (rel:=related) (comp:=composed) (zeQ h0) ht
   have:=hf.1
   rw[h2];omega
 have e2:=zvO (zct f.nodes.l hand.l target related composed).1 (zct f.nodes.l hand.l target related composed).1 rfl hlen
 unfold eSl at e2
 rw[zvM hand hh,zap (e:=eSl zai),Option.bind_some]
 dsimp only
 rw[e1,zap (e:=eT2 (eSl zaP) (D.int .i64)),Option.bind_some,zEP f hand target related composed hf hh,zap (e:=eT2 (eSl zaP) (D.int .i64)),Option.bind_some,e2,zap (e:=D.bool),Option.bind_some,zrJ hand _ hh,zap (e:=D.bool),zpT,zap (e:=D.bool)]
 simp
end Go.Proofs.YthodcjjgimeeoaaGreat.P
