/- Shaken copy of a longer text: what one law needs. Its conditions: none. -/
import Derived.Test.YthodcjjgimeeoaaGreatZAiG
import Derived.Test.YthodcjjgimeeoaaGreatZPCode
import Derived.Test.YthodcjjgimeeoaaGreatZPTy
set_option linter.unusedSimpArgs false
set_option linter.unusedVariables false
namespace Go.Proofs.YthodcjjgimeeoaaGreat.P
open Go.AI
theorem zaV:AProg.Loc prog:=by
 intro f fn h
 have h:fns f=some fn:=h
 unfold fns at h
 split at h
 ·cases h;rfl
 ·cases h;rfl
 ·cases h;rfl
 ·cases h;rfl
 ·cases h;rfl
 ·cases h;rfl
 ·cases h;rfl
 ·cases h;rfl
 ·cases h;rfl
 ·cases h;rfl
 ·cases h;rfl
 ·cases h;rfl
 ·cases h;rfl
 ·cases h;rfl
 ·cases h;rfl
 ·cases h;rfl
 ·cases h;rfl
 ·cases h;rfl
 ·cases h;rfl
 ·cases h;rfl
 ·cases h;rfl
 ·cases h;rfl
 ·cases h;rfl
 ·cases h;rfl
 ·cases h;rfl
 ·cases h;rfl
 ·cases h;rfl
 ·cases h;rfl
 ·cases h;rfl
 ·cases h;rfl
 ·cases h;rfl
 ·cases h;rfl
 ·cases h;rfl
 ·cases h;rfl
 ·cases h;rfl
 ·cases h;rfl
 ·cases h;rfl
 ·cases h;rfl
 ·cases h;rfl
 ·cases h;rfl
 ·cases h;rfl
 ·cases h;rfl
 ·cases h;rfl
 ·cases h;rfl
 ·cases h;rfl
 ·cases h;rfl
 ·cases h;rfl
 ·cases h;rfl
 ·cases h;rfl
 ·cases h;rfl
 ·cases h;rfl
 ·cases h;rfl
 ·cases h;rfl
 ·cases h;rfl
 ·cases h;rfl
 ·cases h;rfl
 ·cases h;rfl
 ·cases h;rfl
 ·cases h;rfl
 ·cases h;rfl
 ·cases h;rfl
 ·cases h;rfl
 ·cases h;rfl
 ·cases h;rfl
 ·cases h;rfl
 ·cases h;rfl
 ·cases h;rfl
 ·cases h;rfl
 ·cases h;rfl
 ·cases h;rfl
 ·cases h;rfl
 ·cases h;rfl
 ·cases h;rfl
 ·cases h;rfl
 ·cases h;rfl
 ·cases h;rfl
 ·cases h;rfl
 ·cases h;rfl
 ·cases h;rfl
 ·cases h;rfl
 ·cases h;rfl
 ·cases h;rfl
 ·cases h;rfl
 ·cases h;rfl
 ·cases h;rfl
 ·cases h;rfl
 ·cases h;rfl
 ·cases h;rfl
 ·cases h;rfl
 ·cases h;rfl
 ·cases h;rfl
 ·cases h;rfl
 ·cases h;rfl
 ·cases h;rfl
 ·cases h;rfl
 ·cases h;rfl
 ·cases h;rfl
 ·cases h;rfl
 ·cases h;rfl
 ·cases h;rfl
 ·cases h;rfl
 ·cases h;rfl
 ·cases h;rfl
 ·cases h;rfl
 ·cases h;rfl
 ·cases h;rfl
 ·cases h
instance:Inj zbg:=⟨fun a b h=>by
 rcases a with⟨⟨a1,a2,a3⟩,a4⟩
 rcases b with⟨⟨b1,b2,b3⟩,b4⟩
 simp only[zbg,D.agg.injEq,List.cons.injEq,D.int.injEq,D.bool.injEq,D.str.injEq,D.list.injEq,zdh,and_true,true_and]at h
 simp_all⟩
instance:Inj zao:=⟨fun a b h=>by
 rcases a with⟨a1,⟨a2,a3,a4⟩,a5,a6,⟨a7n,a7l⟩,⟨a8n,a8l⟩,a9,⟨a10n,a10l⟩,a11,a12,a13,a14,a15,a16⟩
 rcases b with⟨b1,⟨b2,b3,b4⟩,b5,b6,⟨b7n,b7l⟩,⟨b8n,b8l⟩,b9,⟨b10n,b10l⟩,b11,b12,b13,b14,b15,b16⟩
 simp only[zao,D.agg.injEq,List.cons.injEq,D.int.injEq,D.bool.injEq,D.str.injEq,D.list.injEq,zdh,and_true,true_and]at h
 simp_all⟩
instance:Inj zai:=⟨fun a b h=>by
 rcases a with⟨a1,⟨a2n,a2l⟩⟩
 rcases b with⟨b1,⟨b2n,b2l⟩⟩
 simp only[zai,D.agg.injEq,List.cons.injEq,D.int.injEq,D.bool.injEq,D.str.injEq,D.list.injEq,zdh,and_true,true_and]at h
 simp_all⟩
instance:Inj zaP:=⟨fun a b h=>by
 rcases a with⟨a1,a2,a3,a4,a5,a6⟩
 rcases b with⟨b1,b2,b3,b4,b5,b6⟩
 simp only[zaP,D.agg.injEq,List.cons.injEq,D.int.injEq,D.bool.injEq,D.str.injEq,D.list.injEq,zdh,and_true,true_and]at h
 simp_all⟩
instance:Inj zbf:=⟨fun a b h=>by
 rcases a with⟨⟨⟨a1n,a1l⟩⟩,⟨a2n,a2l⟩,a3,a4,a5,a6,⟨a7n,a7l⟩⟩
 rcases b with⟨⟨⟨b1n,b1l⟩⟩,⟨b2n,b2l⟩,b3,b4,b5,b6,⟨b7n,b7l⟩⟩
 simp only[zbf,D.agg.injEq,List.cons.injEq,D.int.injEq,D.bool.injEq,D.str.injEq,D.list.injEq,zdh,and_true,true_and]at h
 simp_all⟩
instance:Inj zcw:=⟨fun a b h=>by
 rcases a with⟨⟨⟨a1n,a1l⟩⟩,⟨a2n,a2l⟩⟩
 rcases b with⟨⟨⟨b1n,b1l⟩⟩,⟨b2n,b2l⟩⟩
 simp only[zcw,D.agg.injEq,List.cons.injEq,D.int.injEq,D.bool.injEq,D.str.injEq,D.list.injEq,zdh,and_true,true_and]at h
 simp_all⟩
instance:Inj zcf:=⟨fun a b h=>by
 rcases a with⟨a1,a2,a3⟩
 rcases b with⟨b1,b2,b3⟩
 simp only[zcf,D.agg.injEq,List.cons.injEq,D.int.injEq,D.bool.injEq,D.str.injEq,D.list.injEq,zdh,and_true,true_and]at h
 simp_all⟩
instance:Inj zcp:=⟨fun a b h=>by
 rcases a with⟨a1,a2⟩
 rcases b with⟨b1,b2⟩
 simp only[zcp,D.agg.injEq,List.cons.injEq,D.int.injEq,D.bool.injEq,D.str.injEq,D.list.injEq,zdh,and_true,true_and]at h
 simp_all⟩
instance:Inj zaW:=⟨fun a b h=>by
 rcases a with⟨⟨⟨a1n,a1l⟩⟩,⟨a2n,a2l⟩⟩
 rcases b with⟨⟨⟨b1n,b1l⟩⟩,⟨b2n,b2l⟩⟩
 simp only[zaW,D.agg.injEq,List.cons.injEq,D.int.injEq,D.bool.injEq,D.str.injEq,D.list.injEq,zdh,and_true,true_and]at h
 simp_all⟩
instance:Inj zaH:=⟨fun a b h=>by
 rcases a with⟨a1,a2,a3,a4,a5,a6⟩
 rcases b with⟨b1,b2,b3,b4,b5,b6⟩
 simp only[zaH,D.agg.injEq,List.cons.injEq,D.int.injEq,D.bool.injEq,D.str.injEq,D.list.injEq,zdh,and_true,true_and]at h
 simp_all⟩
instance:Inj zaq:=⟨fun a b h=>by
 rcases a with⟨a1,a2⟩
 rcases b with⟨b1,b2⟩
 simp only[zaq,D.agg.injEq,List.cons.injEq,D.int.injEq,D.bool.injEq,D.str.injEq,D.list.injEq,zdh,and_true,true_and]at h
 simp_all⟩
theorem ff {c:Bool} (h:c=false):¬c=true:=by rw[h];exact Bool.false_ne_true
theorem bs {α β:Type} {x:Option α} {f:α→Option β} {b:β} (h:x.bind f=some b):∃a,x=some a∧f a=some b:=Option.bind_eq_some_iff.1 h
theorem ffn {c:Bool} (h:c=true):¬(!c)=true:=by rw[h];exact Bool.false_ne_true
end Go.Proofs.YthodcjjgimeeoaaGreat.P
