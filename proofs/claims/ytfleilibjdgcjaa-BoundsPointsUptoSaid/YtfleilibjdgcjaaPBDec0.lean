/- Shaken copy of a longer text: what one law needs. Its conditions: none. -/
import Derived.Test.YtfleilibjdgcjaaPAiG
import Derived.Test.YtfleilibjdgcjaaPBCode
import Derived.Test.YtfleilibjdgcjaaPBTy
set_option linter.unusedSimpArgs false
set_option linter.unusedVariables false
namespace Go.Proofs.Ytfleilibjdgcjaa.B
open Go.AI
theorem zbe:AProg.Loc prog:=by
 intro f fn h
 have h:fns f=some fn:=h
 unfold fns at h
 split at h
 ·cases h;rfl
 ·cases h;rfl
 ·cases h;rfl
 ·cases h;rfl
 ·cases h;rfl
 ·cases h;rfl
 ·cases h;rfl
 ·cases h;rfl
 ·cases h;rfl
 ·cases h;rfl
 ·cases h;rfl
 ·cases h;rfl
 ·cases h;rfl
 ·cases h;rfl
 ·cases h;rfl
 ·cases h;rfl
 ·cases h;rfl
 ·cases h;rfl
 ·cases h;rfl
 ·cases h;rfl
 ·cases h;rfl
 ·cases h;rfl
 ·cases h;rfl
 ·cases h;rfl
 ·cases h;rfl
 ·cases h;rfl
 ·cases h;rfl
 ·cases h;rfl
 ·cases h;rfl
 ·cases h;rfl
 ·cases h;rfl
 ·cases h;rfl
 ·cases h;rfl
 ·cases h;rfl
 ·cases h;rfl
 ·cases h;rfl
 ·cases h;rfl
 ·cases h;rfl
 ·cases h;rfl
 ·cases h;rfl
 ·cases h;rfl
 ·cases h;rfl
 ·cases h;rfl
 ·cases h;rfl
 ·cases h;rfl
 ·cases h;rfl
 ·cases h;rfl
 ·cases h;rfl
 ·cases h;rfl
 ·cases h;rfl
 ·cases h;rfl
 ·cases h;rfl
 ·cases h;rfl
 ·cases h;rfl
 ·cases h;rfl
 ·cases h;rfl
 ·cases h;rfl
 ·cases h;rfl
 ·cases h;rfl
 ·cases h;rfl
 ·cases h;rfl
 ·cases h;rfl
 ·cases h;rfl
 ·cases h;rfl
 ·cases h;rfl
 ·cases h;rfl
 ·cases h;rfl
 ·cases h;rfl
 ·cases h;rfl
 ·cases h;rfl
 ·cases h;rfl
 ·cases h;rfl
 ·cases h;rfl
 ·cases h;rfl
 ·cases h;rfl
 ·cases h;rfl
 ·cases h;rfl
 ·cases h;rfl
 ·cases h;rfl
 ·cases h;rfl
 ·cases h;rfl
 ·cases h;rfl
 ·cases h;rfl
 ·cases h;rfl
 ·cases h;rfl
 ·cases h;rfl
 ·cases h;rfl
 ·cases h;rfl
 ·cases h;rfl
 ·cases h;rfl
 ·cases h;rfl
 ·cases h;rfl
 ·cases h;rfl
 ·cases h
instance:Inj zaG:=⟨fun a b h=>by
 rcases a with⟨⟨a1,a2,a3⟩,a4⟩
 rcases b with⟨⟨b1,b2,b3⟩,b4⟩
 simp only[zaG,D.agg.injEq,List.cons.injEq,D.int.injEq,D.bool.injEq,D.str.injEq,D.list.injEq,zdx,and_true,true_and]at h
 simp_all⟩
instance:Inj zag:=⟨fun a b h=>by
 rcases a with⟨a1,⟨a2,a3,a4⟩,a5,a6,⟨a7n,a7l⟩,⟨a8n,a8l⟩,a9,⟨a10n,a10l⟩,a11,a12,a13,a14,a15,a16⟩
 rcases b with⟨b1,⟨b2,b3,b4⟩,b5,b6,⟨b7n,b7l⟩,⟨b8n,b8l⟩,b9,⟨b10n,b10l⟩,b11,b12,b13,b14,b15,b16⟩
 simp only[zag,D.agg.injEq,List.cons.injEq,D.int.injEq,D.bool.injEq,D.str.injEq,D.list.injEq,zdx,and_true,true_and]at h
 simp_all⟩
instance:Inj zbE:=⟨fun a b h=>by
 rcases a with⟨a1,a2,a3⟩
 rcases b with⟨b1,b2,b3⟩
 simp only[zbE,D.agg.injEq,List.cons.injEq,D.int.injEq,D.bool.injEq,D.str.injEq,D.list.injEq,zdx,and_true,true_and]at h
 simp_all⟩
instance:Inj zaL:=⟨fun a b h=>by
 rcases a with⟨a1,a2,a3,a4,a5,a6,a7,a8,⟨a9n,a9l⟩,⟨a10,a11,a12⟩,a13,a14,a15,a16,⟨a17,⟨a18,a19,a20⟩,a21,a22,⟨a23n,a23l⟩,⟨a24n,a24l⟩,a25,⟨a26n,a26l⟩,a27,a28,a29,a30,a31,a32⟩,⟨a33n,a33l⟩,⟨a34n,a34l⟩,a35,a36⟩
 rcases b with⟨b1,b2,b3,b4,b5,b6,b7,b8,⟨b9n,b9l⟩,⟨b10,b11,b12⟩,b13,b14,b15,b16,⟨b17,⟨b18,b19,b20⟩,b21,b22,⟨b23n,b23l⟩,⟨b24n,b24l⟩,b25,⟨b26n,b26l⟩,b27,b28,b29,b30,b31,b32⟩,⟨b33n,b33l⟩,⟨b34n,b34l⟩,b35,b36⟩
 simp only[zaL,D.agg.injEq,List.cons.injEq,D.int.injEq,D.bool.injEq,D.str.injEq,D.list.injEq,zdx,and_true,true_and]at h
 simp_all⟩
instance:Inj zal:=⟨fun a b h=>by
 rcases a with⟨a1,a2⟩
 rcases b with⟨b1,b2⟩
 simp only[zal,D.agg.injEq,List.cons.injEq,D.int.injEq,D.bool.injEq,D.str.injEq,D.list.injEq,zdx,and_true,true_and]at h
 simp_all⟩
instance:Inj zdS:=⟨fun a b h=>by
 rcases a with⟨⟨a1,a2⟩,⟨a3,a4⟩⟩
 rcases b with⟨⟨b1,b2⟩,⟨b3,b4⟩⟩
 simp only[zdS,D.agg.injEq,List.cons.injEq,D.int.injEq,D.bool.injEq,D.str.injEq,D.list.injEq,zdx,and_true,true_and]at h
 simp_all⟩
instance:Inj zbp:=⟨fun a b h=>by
 rcases a with⟨⟨⟨a1n,a1l⟩⟩,a2,a3,a4⟩
 rcases b with⟨⟨⟨b1n,b1l⟩⟩,b2,b3,b4⟩
 simp only[zbp,D.agg.injEq,List.cons.injEq,D.int.injEq,D.bool.injEq,D.str.injEq,D.list.injEq,zdx,and_true,true_and]at h
 simp_all⟩
instance:Inj zay:=⟨fun a b h=>by
 rcases a with⟨a1,a2,a3,a4,a5,a6⟩
 rcases b with⟨b1,b2,b3,b4,b5,b6⟩
 simp only[zay,D.agg.injEq,List.cons.injEq,D.int.injEq,D.bool.injEq,D.str.injEq,D.list.injEq,zdx,and_true,true_and]at h
 simp_all⟩
instance:Inj zah:=⟨fun a b h=>by
 rcases a with⟨a1,a2⟩
 rcases b with⟨b1,b2⟩
 simp only[zah,D.agg.injEq,List.cons.injEq,D.int.injEq,D.bool.injEq,D.str.injEq,D.list.injEq,zdx,and_true,true_and]at h
 simp_all⟩
theorem ff {c:Bool} (h:c=false):¬c=true:=by rw[h];exact Bool.false_ne_true
theorem bs {α β:Type} {x:Option α} {f:α→Option β} {b:β} (h:x.bind f=some b):∃a,x=some a∧f a=some b:=Option.bind_eq_some_iff.1 h
theorem ffn {c:Bool} (h:c=true):¬(!c)=true:=by rw[h];exact Bool.false_ne_true
end Go.Proofs.Ytfleilibjdgcjaa.B
