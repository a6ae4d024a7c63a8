/- Shaken copy of a longer text: what one law needs. Its conditions: none. -/
import Derived.Test.YthodcjjgimeeoaaGreatZPSpFo3
set_option linter.unusedSimpArgs false
set_option linter.unusedVariables false
set_option linter.unusedSimpArgs false
set_option linter.unusedVariables false
set_option linter.unusedSectionVars false
set_option linter.unnecessarySimpa false
namespace Go.Proofs.YthodcjjgimeeoaaGreat.P
open Go.AI
def Fit (f:List Node):Prop:=f.length≤2^40∧∀n∈f,n.attrs.l.length≤2^40∧n.kids.l.length≤2^40
theorem zhN {f:List Node} {h:Int} {n:Node} (e:zcj f h=some n):n∈f:=List.mem_of_getElem? (zcx e).2.2
theorem zjT {f:List Node} (hf:Fit f) (h:Int):(nodeD f h).kids.l.length≤2^40:=by
 unfold nodeD
 rcases e:zcj f h with _|n
 ·simp[nd0]
 ·exact(hf.2 n (zhN e)).2
theorem zsX {p:Int→Bool}:∀(pre l:List Int),zpt (fun x:Int=>x) p pre l=(l.all p&&l.all (fun y=> !(pre.contains y))&&decide l.Nodup)
 |pre,[]=>rfl
 |pre,a::r=>by
  unfold zpt
  rw[zsX (pre++[a]) r]
  rw[show(pre.any fun b=>decide (b=a))=pre.contains a by rw[List.contains_eq_any_beq];congr 1;funext b;rw[Bool.eq_iff_iff,decide_eq_true_iff,beq_iff_eq];exact⟨fun e=>e.symm,fun e=>e.symm⟩]
  rw[Bool.eq_iff_iff]
  simp only[Bool.and_eq_true,List.all_cons,List.all_eq_true,Bool.not_eq_true',decide_eq_true_eq,List.nodup_cons,List.contains_eq_mem,decide_eq_false_iff_not,List.mem_append,List.mem_singleton,not_or]
  constructor
  ·rintro⟨⟨h1,h2⟩,⟨h3,h4⟩,h5⟩
   exact⟨⟨⟨h1,h3⟩,h2,fun y hy=>(h4 y hy).1⟩,fun hm=>(h4 a hm).2 rfl,h5⟩
  ·rintro⟨⟨⟨h1,h3⟩,h2,h4⟩,h6,h5⟩
   exact⟨⟨h1,h2⟩,⟨h3,fun y hy=>⟨h4 y hy,fun e=>h6 (e▸hy)⟩⟩,h5⟩
theorem zzX {p:Int→Bool} (l:List Int):l.all (fun y=>p y&&((l.count y:Int)==1))=(l.all p&&decide l.Nodup):=by
 rw[Bool.eq_iff_iff]
 simp only[Bool.and_eq_true,List.all_eq_true,decide_eq_true_eq,beq_iff_eq]
 constructor
 ·intro h
  refine⟨fun y hy=>(h y hy).1,?_⟩
  rw[List.nodup_iff_count]
  intro a
  by_cases ha:a∈l
  ·have:=(h a ha).2;omega
  ·rw[List.count_eq_zero_of_not_mem ha];omega
 ·rintro⟨h1,h2⟩ y hy
  refine⟨h1 y hy,?_⟩
  rw[h2.count,if_pos hy];rfl
def zjw (f:List Node) (h:Int) (n:Node) (y:Int):Bool:=(zcj f y).isSome&&(nodeD f y).parent==h&&(nodeD f y).doc==n.doc
def zgI (f:List Node) (h:Int) (n:Node):Bool:=
 (n.kids.l.all (zjw f h n)&&decide n.kids.l.Nodup)&&
 (n.parent==0||((zcj f n.parent).isSome&&((nodeD f n.parent).kids.l.count h:Int)==1))&&
 (nodeD f n.doc).kind==9&&(!(n.kind==9)||n.doc==h)&&
 (n.shadow==0||((zcj f n.shadow).isSome&&(nodeD f n.shadow).kind==12&&(nodeD f n.shadow).host==h))&&
 (!(n.kind==12)||((zcj f n.host).isSome&&(nodeD f n.host).kind==1&&(nodeD f n.host).shadow==h&&(nodeD f n.host).doc==n.doc))&&
 famB f n.kind n.kids.l
theorem zzY (f:Forest) (h:Int) (n:Node) (hf:Fit f.nodes.l) (e:zcj f.nodes.l h=some n):pc prog 112 [zaa f,.int .i64 h]=some (.bool (zgI f.nodes.l h n)):=by
 refine zOG f h _ ?_
 unfold zOF zgI
 obtain⟨hh1,hh2,-⟩:=zcx e
 have hn:=(hf.2 n (zhN e)).2
 have h40:=hf.1
 rw[w64 (by omega) (by omega),ziG e,Option.bind_some]
 rw[zgo (l:=n.kids.l) (fun y=> !(zjw f.nodes.l h n y&&((n.kids.l.count y:Int)==1))) (Sum.inr ()) (Sum.inl ()) ?_ ?_,Option.bind_some]
 ·simp only[zhK f _ hf.1,zpw _ _ (zjT hf _),zsP f _ hf.1,zzW f _ _ hf.1 hn,zap (e:=eT2 zao D.bool),zap (e:=D.bool),zap (e:=D.int .i64),zap (e:=D.int .u8),Option.bind_some,bor,zpU]
  have hany:(n.kids.l.any fun y=> !(zjw f.nodes.l h n y&&((n.kids.l.count y:Int)==1)))= !(n.kids.l.all (zjw f.nodes.l h n)&&decide n.kids.l.Nodup):=by
   rw[←zzX,List.all_eq_not_any_not,Bool.not_not]
  rw[hany]
  simp only[zFk]
  generalize (n.kids.l.all (zjw f.nodes.l h n)&&decide n.kids.l.Nodup)=b1
  generalize (n.parent==0)=b2
  generalize (zcj f.nodes.l n.parent).isSome=b3
  generalize (((nodeD f.nodes.l n.parent).kids.l.count h:Int)==1)=b4
  generalize ((nodeD f.nodes.l n.doc).kind==9)=b5
  generalize (n.kind==9)=b6
  generalize (n.doc==h)=b7
  generalize (n.shadow==0)=b8
  generalize (zcj f.nodes.l n.shadow).isSome=b9
  generalize ((nodeD f.nodes.l n.shadow).kind==12)=b10
  generalize ((nodeD f.nodes.l n.shadow).host==h)=b11
  generalize (n.kind==12)=b12
  generalize (zcj f.nodes.l n.host).isSome=b13
  generalize ((nodeD f.nodes.l n.host).kind==1)=b14
  generalize ((nodeD f.nodes.l n.host).shadow==h)=b15
  generalize ((nodeD f.nodes.l n.host).doc==n.doc)=b16
  generalize famB f.nodes.l n.kind n.kids.l=b17
  cases b1 with
  |false=>rfl
  |true=>
  cases b2<;>cases b3<;>(try rfl)<;>cases b4<;>(try rfl)<;>cases b5<;>(try rfl)<;>cases b6<;>cases b7<;>(try rfl)<;>cases b8<;>cases b9<;>(try rfl)<;>cases b10<;>(try rfl)<;>cases b11<;>(try rfl)<;>cases b12<;>(try rfl)<;>cases b13<;>(try rfl)<;>cases b14<;>(try rfl)<;>cases b15<;>(try rfl)<;>cases b16<;>rfl
 ·intro k hk
  have hw:=zaK (show k<2^62 by omega)
  simp only[zdL,zbd hk,Option.bind_some,hw,zhK f _ hf.1,zpw _ _ hn,zap (e:=eT2 zao D.bool),zap (e:=D.int .i64),bor]
  rw[if_pos (decide_eq_true (by omega))]
  simp only[zFk]
  simp only[zjw]
  generalize (zcj f.nodes.l n.kids.l[k]).isSome=b1
  generalize ((nodeD f.nodes.l n.kids.l[k]).parent==h)=b2
  generalize ((nodeD f.nodes.l n.kids.l[k]).doc==n.doc)=b3
  generalize ((n.kids.l.count n.kids.l[k]:Int)==1)=b4
  cases b1<;>cases b2<;>cases b3<;>cases b4<;>rfl
 ·simp only[zdL]
  rw[if_neg (by simp)]
theorem zvw (f:Forest) (h:Int) (n:Node) (hf:Fit f.nodes.l) (e:n∈f.nodes.l):pc prog 134 [zaa f,.int .i64 h,zao n]=some (.bool ((n.kids.l.all (zjw f.nodes.l h n)&&decide n.kids.l.Nodup)&&famB f.nodes.l n.kind n.kids.l)):=by
 refine zPc f h n _ ?_
 unfold zPb
 have hn:=(hf.2 n e).2
 rw[zpu (l:=n.kids.l) (fun x:Int=>x) (zjw f.nodes.l h n) ?_ ?_,Option.bind_some]
 ·rw[zsX,zvv f n hf.1 hn,zap (e:=D.bool)]
  simp only[List.contains_nil,Bool.not_false,List.all_eq_true,Option.bind_some]
  rw[show(n.kids.l.all fun y=>true)=true by simp,Bool.and_true]
  cases(n.kids.l.all (zjw f.nodes.l h n)&&decide n.kids.l.Nodup)<;>rfl
 ·intro k hk m
  have hw:=zaK (show k<2^62 by omega)
  simp only[zdP,zbd hk,Option.bind_some,hw,znh f _ hf.1,zap (e:=eT2 zao D.bool),bor]
  rw[if_pos (decide_eq_true (by omega))]
  simp only[zFk]
  simp only[zjw]
  generalize (zcj f.nodes.l n.kids.l[k]).isSome=b1
  generalize ((nodeD f.nodes.l n.kids.l[k]).parent==h)=b2
  generalize ((nodeD f.nodes.l n.kids.l[k]).doc==n.doc)=b3
  generalize decide (0<zhW n.kids.l[k] m 0)=b4
  cases b1<;>cases b2<;>cases b3<;>cases b4<;>rfl
 ·intro m
  simp only[zdP]
  rw[if_neg (by simp)]
theorem zzZ (f:Forest) (h:Int) (n:Node) (hf:Fit f.nodes.l) (e:zcj f.nodes.l h=some n):pc prog 106 [zaa f,.int .i64 h]=some (.bool (zgI f.nodes.l h n)):=by
 refine zOC f h _ ?_
 unfold zOB zgI
 obtain⟨hh1,hh2,-⟩:=zcx e
 have h40:=hf.1
 rw[w64 (by omega) (by omega),ziG e,Option.bind_some]
 simp only[znh f _ hf.1,zEd _ _ (zjT hf _),zsQ f _ hf.1,zvw f h n hf (zhN e),zap (e:=eT2 zao D.bool),zap (e:=D.bool),zap (e:=D.int .i64),zap (e:=D.int .u8),Option.bind_some,bor,zpU]
 simp only[zFk]
 generalize (n.kids.l.all (zjw f.nodes.l h n)&&decide n.kids.l.Nodup)=b1
 generalize (n.parent==0)=b2
 generalize (zcj f.nodes.l n.parent).isSome=b3
 generalize (((nodeD f.nodes.l n.parent).kids.l.count h:Int)==1)=b4
 generalize ((nodeD f.nodes.l n.doc).kind==9)=b5
 generalize (n.kind==9)=b6
 generalize (n.doc==h)=b7
 generalize (n.shadow==0)=b8
 generalize (zcj f.nodes.l n.shadow).isSome=b9
 generalize ((nodeD f.nodes.l n.shadow).kind==12)=b10
 generalize ((nodeD f.nodes.l n.shadow).host==h)=b11
 generalize (n.kind==12)=b12
 generalize (zcj f.nodes.l n.host).isSome=b13
 generalize ((nodeD f.nodes.l n.host).kind==1)=b14
 generalize ((nodeD f.nodes.l n.host).shadow==h)=b15
 generalize ((nodeD f.nodes.l n.host).doc==n.doc)=b16
 generalize famB f.nodes.l n.kind n.kids.l=b17
 cases b1
 ·cases b2<;>cases b3<;>(try rfl)<;>cases b4<;>(try rfl)<;>cases b5<;>(try rfl)<;>cases b6<;>cases b7<;>(try rfl)<;>cases b8<;>cases b9<;>(try rfl)<;>cases b10<;>(try rfl)<;>cases b11<;>(try rfl)<;>cases b12<;>(try rfl)<;>cases b13<;>(try rfl)<;>cases b14<;>(try rfl)<;>cases b15<;>(try rfl)<;>cases b16<;>rfl
 ·cases b2<;>cases b3<;>(try rfl)<;>cases b4<;>(try rfl)<;>cases b5<;>(try rfl)<;>cases b6<;>cases b7<;>(try rfl)<;>cases b8<;>cases b9<;>(try rfl)<;>cases b10<;>(try rfl)<;>cases b11<;>(try rfl)<;>cases b12<;>(try rfl)<;>cases b13<;>(try rfl)<;>cases b14<;>(try rfl)<;>cases b15<;>(try rfl)<;>cases b16<;>rfl
end Go.Proofs.YthodcjjgimeeoaaGreat.P
