/- Shaken copy of a longer text: what one law needs. Its conditions: none. -/
import Derived.Test.YthodcjjgimeeoaaZAiG
import Derived.Test.YthodcjjgimeeoaaZPCode
import Derived.Test.YthodcjjgimeeoaaZPTy
set_option linter.unusedSimpArgs false
set_option linter.unusedVariables false
namespace Go.Proofs.Ythodcjjgimeeoaa.P
open Go.AI
theorem zbd:AProg.Loc prog:=by
 intro f fn h
 have h:fns f=some fn:=h
 unfold fns at h
 split at h
 ·cases h;rfl
 ·cases h;rfl
 ·cases h;rfl
 ·cases h;rfl
 ·cases h;rfl
 ·cases h;rfl
 ·cases h;rfl
 ·cases h;rfl
 ·cases h;rfl
 ·cases h;rfl
 ·cases h;rfl
 ·cases h;rfl
 ·cases h;rfl
 ·cases h;rfl
 ·cases h;rfl
 ·cases h;rfl
 ·cases h;rfl
 ·cases h;rfl
 ·cases h;rfl
 ·cases h;rfl
 ·cases h;rfl
 ·cases h;rfl
 ·cases h;rfl
 ·cases h;rfl
 ·cases h;rfl
 ·cases h;rfl
 ·cases h;rfl
 ·cases h;rfl
 ·cases h;rfl
 ·cases h;rfl
 ·cases h;rfl
 ·cases h;rfl
 ·cases h;rfl
 ·cases h;rfl
 ·cases h;rfl
 ·cases h;rfl
 ·cases h;rfl
 ·cases h;rfl
 ·cases h;rfl
 ·cases h;rfl
 ·cases h;rfl
 ·cases h;rfl
 ·cases h;rfl
 ·cases h;rfl
 ·cases h;rfl
 ·cases h;rfl
 ·cases h;rfl
 ·cases h;rfl
 ·cases h;rfl
 ·cases h;rfl
 ·cases h;rfl
 ·cases h;rfl
 ·cases h;rfl
 ·cases h;rfl
 ·cases h;rfl
 ·cases h;rfl
 ·cases h;rfl
 ·cases h;rfl
 ·cases h;rfl
 ·cases h;rfl
 ·cases h;rfl
 ·cases h;rfl
 ·cases h;rfl
 ·cases h;rfl
 ·cases h;rfl
 ·cases h;rfl
 ·cases h;rfl
 ·cases h;rfl
 ·cases h;rfl
 ·cases h;rfl
 ·cases h;rfl
 ·cases h;rfl
 ·cases h;rfl
 ·cases h;rfl
 ·cases h;rfl
 ·cases h;rfl
 ·cases h;rfl
 ·cases h;rfl
 ·cases h;rfl
 ·cases h;rfl
 ·cases h;rfl
 ·cases h;rfl
 ·cases h;rfl
 ·cases h;rfl
 ·cases h;rfl
 ·cases h;rfl
 ·cases h;rfl
 ·cases h;rfl
 ·cases h;rfl
 ·cases h;rfl
 ·cases h;rfl
 ·cases h;rfl
 ·cases h
instance:Inj zbm:=⟨fun a b h=>by
 rcases a with⟨⟨a1,a2,a3⟩,a4⟩
 rcases b with⟨⟨b1,b2,b3⟩,b4⟩
 simp only[zbm,D.agg.injEq,List.cons.injEq,D.int.injEq,D.bool.injEq,D.str.injEq,D.list.injEq,zcf,and_true,true_and]at h
 simp_all⟩
instance:Inj zam:=⟨fun a b h=>by
 rcases a with⟨a1,⟨a2,a3,a4⟩,a5,a6,⟨a7n,a7l⟩,⟨a8n,a8l⟩,a9,⟨a10n,a10l⟩,a11,a12,a13,a14,a15,a16⟩
 rcases b with⟨b1,⟨b2,b3,b4⟩,b5,b6,⟨b7n,b7l⟩,⟨b8n,b8l⟩,b9,⟨b10n,b10l⟩,b11,b12,b13,b14,b15,b16⟩
 simp only[zam,D.agg.injEq,List.cons.injEq,D.int.injEq,D.bool.injEq,D.str.injEq,D.list.injEq,zcf,and_true,true_and]at h
 simp_all⟩
instance:Inj zgF:=⟨fun a b h=>by
 rcases a with⟨a1,a2,a3⟩
 rcases b with⟨b1,b2,b3⟩
 simp only[zgF,D.agg.injEq,List.cons.injEq,D.int.injEq,D.bool.injEq,D.str.injEq,D.list.injEq,zcf,and_true,true_and]at h
 simp_all⟩
instance:Inj zeE:=⟨fun a b h=>by
 rcases a with⟨a1,⟨a2n,a2l⟩⟩
 rcases b with⟨b1,⟨b2n,b2l⟩⟩
 simp only[zeE,D.agg.injEq,List.cons.injEq,D.int.injEq,D.bool.injEq,D.str.injEq,D.list.injEq,zcf,and_true,true_and]at h
 simp_all⟩
instance:Inj zdA:=⟨fun a b h=>by
 rcases a with⟨a1,a2,⟨a3,⟨a4n,a4l⟩⟩⟩
 rcases b with⟨b1,b2,⟨b3,⟨b4n,b4l⟩⟩⟩
 simp only[zdA,D.agg.injEq,List.cons.injEq,D.int.injEq,D.bool.injEq,D.str.injEq,D.list.injEq,zcf,and_true,true_and]at h
 simp_all⟩
instance:Inj zdf:=⟨fun a b h=>by
 rcases a with⟨a1,a2,a3⟩
 rcases b with⟨b1,b2,b3⟩
 simp only[zdf,D.agg.injEq,List.cons.injEq,D.int.injEq,D.bool.injEq,D.str.injEq,D.list.injEq,zcf,and_true,true_and]at h
 simp_all⟩
instance:Inj zau:=⟨fun a b h=>by
 rcases a with⟨a1,a2,a3,a4,a5,a6⟩
 rcases b with⟨b1,b2,b3,b4,b5,b6⟩
 simp only[zau,D.agg.injEq,List.cons.injEq,D.int.injEq,D.bool.injEq,D.str.injEq,D.list.injEq,zcf,and_true,true_and]at h
 simp_all⟩
instance:Inj zbo:=⟨fun a b h=>by
 rcases a with⟨⟨⟨a1n,a1l⟩⟩,⟨a2,a3,⟨a4,⟨a5n,a5l⟩⟩⟩⟩
 rcases b with⟨⟨⟨b1n,b1l⟩⟩,⟨b2,b3,⟨b4,⟨b5n,b5l⟩⟩⟩⟩
 simp only[zbo,D.agg.injEq,List.cons.injEq,D.int.injEq,D.bool.injEq,D.str.injEq,D.list.injEq,zcf,and_true,true_and]at h
 simp_all⟩
instance:Inj zcn:=⟨fun a b h=>by
 rcases a with⟨a1,a2⟩
 rcases b with⟨b1,b2⟩
 simp only[zcn,D.agg.injEq,List.cons.injEq,D.int.injEq,D.bool.injEq,D.str.injEq,D.list.injEq,zcf,and_true,true_and]at h
 simp_all⟩
instance:Inj zap:=⟨fun a b h=>by
 rcases a with⟨a1,⟨a2n,a2l⟩⟩
 rcases b with⟨b1,⟨b2n,b2l⟩⟩
 simp only[zap,D.agg.injEq,List.cons.injEq,D.int.injEq,D.bool.injEq,D.str.injEq,D.list.injEq,zcf,and_true,true_and]at h
 simp_all⟩
instance:Inj zaZ:=⟨fun a b h=>by
 rcases a with⟨⟨⟨a1n,a1l⟩⟩,⟨a2n,a2l⟩,a3,a4,a5,a6,⟨a7n,a7l⟩⟩
 rcases b with⟨⟨⟨b1n,b1l⟩⟩,⟨b2n,b2l⟩,b3,b4,b5,b6,⟨b7n,b7l⟩⟩
 simp only[zaZ,D.agg.injEq,List.cons.injEq,D.int.injEq,D.bool.injEq,D.str.injEq,D.list.injEq,zcf,and_true,true_and]at h
 simp_all⟩
instance:Inj zaQ:=⟨fun a b h=>by
 rcases a with⟨⟨⟨a1n,a1l⟩⟩,⟨a2n,a2l⟩⟩
 rcases b with⟨⟨⟨b1n,b1l⟩⟩,⟨b2n,b2l⟩⟩
 simp only[zaQ,D.agg.injEq,List.cons.injEq,D.int.injEq,D.bool.injEq,D.str.injEq,D.list.injEq,zcf,and_true,true_and]at h
 simp_all⟩
instance:Inj zcs:=⟨fun a b h=>by
 rcases a with⟨⟨⟨a1n,a1l⟩⟩,⟨a2n,a2l⟩⟩
 rcases b with⟨⟨⟨b1n,b1l⟩⟩,⟨b2n,b2l⟩⟩
 simp only[zcs,D.agg.injEq,List.cons.injEq,D.int.injEq,D.bool.injEq,D.str.injEq,D.list.injEq,zcf,and_true,true_and]at h
 simp_all⟩
instance:Inj zaF:=⟨fun a b h=>by
 rcases a with⟨a1,a2,a3,a4,a5,a6⟩
 rcases b with⟨b1,b2,b3,b4,b5,b6⟩
 simp only[zaF,D.agg.injEq,List.cons.injEq,D.int.injEq,D.bool.injEq,D.str.injEq,D.list.injEq,zcf,and_true,true_and]at h
 simp_all⟩
instance:Inj zai:=⟨fun a b h=>by
 rcases a with⟨a1,a2⟩
 rcases b with⟨b1,b2⟩
 simp only[zai,D.agg.injEq,List.cons.injEq,D.int.injEq,D.bool.injEq,D.str.injEq,D.list.injEq,zcf,and_true,true_and]at h
 simp_all⟩
theorem ff {c:Bool} (h:c=false):¬c=true:=by rw[h];exact Bool.false_ne_true
theorem bs {α β:Type} {x:Option α} {f:α→Option β} {b:β} (h:x.bind f=some b):∃a,x=some a∧f a=some b:=Option.bind_eq_some_iff.1 h
theorem ffn {c:Bool} (h:c=true):¬(!c)=true:=by rw[h];exact Bool.false_ne_true
end Go.Proofs.Ythodcjjgimeeoaa.P
