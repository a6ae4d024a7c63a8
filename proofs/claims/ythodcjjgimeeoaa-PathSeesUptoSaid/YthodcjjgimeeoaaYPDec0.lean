/- Shaken copy of a longer text: what one law needs. Its conditions: none. -/
import Derived.Test.YthodcjjgimeeoaaYAiG
import Derived.Test.YthodcjjgimeeoaaYPCode
import Derived.Test.YthodcjjgimeeoaaYPTy
set_option linter.unusedSimpArgs false
set_option linter.unusedVariables false
namespace Go.Proofs.Ythodcjjgimeeoaa.P
open Go.AI
theorem zba:AProg.Loc prog:=by
 intro f fn h
 have h:fns f=some fn:=h
 unfold fns at h
 split at h
 ·cases h;rfl
 ·cases h;rfl
 ·cases h;rfl
 ·cases h;rfl
 ·cases h;rfl
 ·cases h;rfl
 ·cases h;rfl
 ·cases h;rfl
 ·cases h;rfl
 ·cases h;rfl
 ·cases h;rfl
 ·cases h;rfl
 ·cases h;rfl
 ·cases h;rfl
 ·cases h;rfl
 ·cases h;rfl
 ·cases h;rfl
 ·cases h;rfl
 ·cases h;rfl
 ·cases h;rfl
 ·cases h;rfl
 ·cases h;rfl
 ·cases h;rfl
 ·cases h;rfl
 ·cases h;rfl
 ·cases h;rfl
 ·cases h;rfl
 ·cases h;rfl
 ·cases h;rfl
 ·cases h;rfl
 ·cases h;rfl
 ·cases h;rfl
 ·cases h;rfl
 ·cases h;rfl
 ·cases h;rfl
 ·cases h;rfl
 ·cases h;rfl
 ·cases h;rfl
 ·cases h;rfl
 ·cases h;rfl
 ·cases h;rfl
 ·cases h;rfl
 ·cases h;rfl
 ·cases h;rfl
 ·cases h;rfl
 ·cases h;rfl
 ·cases h;rfl
 ·cases h;rfl
 ·cases h;rfl
 ·cases h;rfl
 ·cases h;rfl
 ·cases h;rfl
 ·cases h;rfl
 ·cases h;rfl
 ·cases h;rfl
 ·cases h;rfl
 ·cases h;rfl
 ·cases h;rfl
 ·cases h;rfl
 ·cases h;rfl
 ·cases h;rfl
 ·cases h;rfl
 ·cases h;rfl
 ·cases h;rfl
 ·cases h;rfl
 ·cases h;rfl
 ·cases h;rfl
 ·cases h;rfl
 ·cases h;rfl
 ·cases h;rfl
 ·cases h;rfl
 ·cases h;rfl
 ·cases h;rfl
 ·cases h;rfl
 ·cases h;rfl
 ·cases h;rfl
 ·cases h;rfl
 ·cases h;rfl
 ·cases h;rfl
 ·cases h;rfl
 ·cases h;rfl
 ·cases h;rfl
 ·cases h;rfl
 ·cases h;rfl
 ·cases h;rfl
 ·cases h;rfl
 ·cases h;rfl
 ·cases h;rfl
 ·cases h;rfl
 ·cases h;rfl
 ·cases h;rfl
 ·cases h;rfl
 ·cases h
instance:Inj zaL:=⟨fun a b h=>by
 rcases a with⟨⟨a1,a2,a3⟩,a4⟩
 rcases b with⟨⟨b1,b2,b3⟩,b4⟩
 simp only[zaL,D.agg.injEq,List.cons.injEq,D.int.injEq,D.bool.injEq,D.str.injEq,D.list.injEq,zbX,and_true,true_and]at h
 simp_all⟩
instance:Inj zaj:=⟨fun a b h=>by
 rcases a with⟨a1,⟨a2,a3,a4⟩,a5,a6,⟨a7n,a7l⟩,⟨a8n,a8l⟩,a9,⟨a10n,a10l⟩,a11,a12,a13,a14,a15,a16⟩
 rcases b with⟨b1,⟨b2,b3,b4⟩,b5,b6,⟨b7n,b7l⟩,⟨b8n,b8l⟩,b9,⟨b10n,b10l⟩,b11,b12,b13,b14,b15,b16⟩
 simp only[zaj,D.agg.injEq,List.cons.injEq,D.int.injEq,D.bool.injEq,D.str.injEq,D.list.injEq,zbX,and_true,true_and]at h
 simp_all⟩
instance:Inj zgo:=⟨fun a b h=>by
 rcases a with⟨a1,a2,a3⟩
 rcases b with⟨b1,b2,b3⟩
 simp only[zgo,D.agg.injEq,List.cons.injEq,D.int.injEq,D.bool.injEq,D.str.injEq,D.list.injEq,zbX,and_true,true_and]at h
 simp_all⟩
instance:Inj zer:=⟨fun a b h=>by
 rcases a with⟨a1,⟨a2n,a2l⟩⟩
 rcases b with⟨b1,⟨b2n,b2l⟩⟩
 simp only[zer,D.agg.injEq,List.cons.injEq,D.int.injEq,D.bool.injEq,D.str.injEq,D.list.injEq,zbX,and_true,true_and]at h
 simp_all⟩
instance:Inj zdr:=⟨fun a b h=>by
 rcases a with⟨a1,a2,⟨a3,⟨a4n,a4l⟩⟩⟩
 rcases b with⟨b1,b2,⟨b3,⟨b4n,b4l⟩⟩⟩
 simp only[zdr,D.agg.injEq,List.cons.injEq,D.int.injEq,D.bool.injEq,D.str.injEq,D.list.injEq,zbX,and_true,true_and]at h
 simp_all⟩
instance:Inj zbR:=⟨fun a b h=>by
 rcases a with⟨a1,a2,a3⟩
 rcases b with⟨b1,b2,b3⟩
 simp only[zbR,D.agg.injEq,List.cons.injEq,D.int.injEq,D.bool.injEq,D.str.injEq,D.list.injEq,zbX,and_true,true_and]at h
 simp_all⟩
instance:Inj zan:=⟨fun a b h=>by
 rcases a with⟨a1,a2,a3,a4,a5,a6⟩
 rcases b with⟨b1,b2,b3,b4,b5,b6⟩
 simp only[zan,D.agg.injEq,List.cons.injEq,D.int.injEq,D.bool.injEq,D.str.injEq,D.list.injEq,zbX,and_true,true_and]at h
 simp_all⟩
instance:Inj zbl:=⟨fun a b h=>by
 rcases a with⟨⟨⟨a1n,a1l⟩⟩,⟨a2,a3,⟨a4,⟨a5n,a5l⟩⟩⟩⟩
 rcases b with⟨⟨⟨b1n,b1l⟩⟩,⟨b2,b3,⟨b4,⟨b5n,b5l⟩⟩⟩⟩
 simp only[zbl,D.agg.injEq,List.cons.injEq,D.int.injEq,D.bool.injEq,D.str.injEq,D.list.injEq,zbX,and_true,true_and]at h
 simp_all⟩
instance:Inj zaJ:=⟨fun a b h=>by
 rcases a with⟨a1,a2⟩
 rcases b with⟨b1,b2⟩
 simp only[zaJ,D.agg.injEq,List.cons.injEq,D.int.injEq,D.bool.injEq,D.str.injEq,D.list.injEq,zbX,and_true,true_and]at h
 simp_all⟩
instance:Inj zcC:=⟨fun a b h=>by
 rcases a with⟨a1,⟨a2n,a2l⟩⟩
 rcases b with⟨b1,⟨b2n,b2l⟩⟩
 simp only[zcC,D.agg.injEq,List.cons.injEq,D.int.injEq,D.bool.injEq,D.str.injEq,D.list.injEq,zbX,and_true,true_and]at h
 simp_all⟩
instance:Inj zaZ:=⟨fun a b h=>by
 rcases a with⟨⟨⟨a1n,a1l⟩⟩,⟨a2n,a2l⟩,a3,a4,a5,a6,⟨a7n,a7l⟩⟩
 rcases b with⟨⟨⟨b1n,b1l⟩⟩,⟨b2n,b2l⟩,b3,b4,b5,b6,⟨b7n,b7l⟩⟩
 simp only[zaZ,D.agg.injEq,List.cons.injEq,D.int.injEq,D.bool.injEq,D.str.injEq,D.list.injEq,zbX,and_true,true_and]at h
 simp_all⟩
instance:Inj zci:=⟨fun a b h=>by
 rcases a with⟨⟨⟨a1n,a1l⟩⟩,⟨a2n,a2l⟩⟩
 rcases b with⟨⟨⟨b1n,b1l⟩⟩,⟨b2n,b2l⟩⟩
 simp only[zci,D.agg.injEq,List.cons.injEq,D.int.injEq,D.bool.injEq,D.str.injEq,D.list.injEq,zbX,and_true,true_and]at h
 simp_all⟩
instance:Inj zcj:=⟨fun a b h=>by
 rcases a with⟨⟨⟨a1n,a1l⟩⟩,⟨a2n,a2l⟩⟩
 rcases b with⟨⟨⟨b1n,b1l⟩⟩,⟨b2n,b2l⟩⟩
 simp only[zcj,D.agg.injEq,List.cons.injEq,D.int.injEq,D.bool.injEq,D.str.injEq,D.list.injEq,zbX,and_true,true_and]at h
 simp_all⟩
instance:Inj zaG:=⟨fun a b h=>by
 rcases a with⟨a1,a2,a3,a4,a5,a6⟩
 rcases b with⟨b1,b2,b3,b4,b5,b6⟩
 simp only[zaG,D.agg.injEq,List.cons.injEq,D.int.injEq,D.bool.injEq,D.str.injEq,D.list.injEq,zbX,and_true,true_and]at h
 simp_all⟩
instance:Inj zah:=⟨fun a b h=>by
 rcases a with⟨a1,a2⟩
 rcases b with⟨b1,b2⟩
 simp only[zah,D.agg.injEq,List.cons.injEq,D.int.injEq,D.bool.injEq,D.str.injEq,D.list.injEq,zbX,and_true,true_and]at h
 simp_all⟩
theorem ff {c:Bool} (h:c=false):¬c=true:=by rw[h];exact Bool.false_ne_true
theorem bs {α β:Type} {x:Option α} {f:α→Option β} {b:β} (h:x.bind f=some b):∃a,x=some a∧f a=some b:=Option.bind_eq_some_iff.1 h
theorem ffn {c:Bool} (h:c=true):¬(!c)=true:=by rw[h];exact Bool.false_ne_true
end Go.Proofs.Ythodcjjgimeeoaa.P
