/- Shaken copy of a longer text: what one law needs. Its conditions: none. -/
import Derived.Test.YtejglgffianhgaaDoorZAiG
import Derived.Test.YtejglgffianhgaaDoorZNCode
import Derived.Test.YtejglgffianhgaaDoorZNTy
namespace Go.Proofs.YtejglgffianhgaaDoor.N
open Go.AI
theorem locs : AProg.Loc prog := by
  intro f fn h
  have h : fns f = some fn := h
  unfold fns at h
  split at h
  · cases h; rfl
  · cases h; rfl
  · cases h; rfl
  · cases h; rfl
  · cases h; rfl
  · cases h; rfl
  · cases h; rfl
  · cases h; rfl
  · cases h; rfl
  · cases h; rfl
  · cases h; rfl
  · cases h; rfl
  · cases h; rfl
  · cases h; rfl
  · cases h; rfl
  · cases h; rfl
  · cases h; rfl
  · cases h; rfl
  · cases h; rfl
  · cases h; rfl
  · cases h; rfl
  · cases h; rfl
  · cases h; rfl
  · cases h; rfl
  · cases h; rfl
  · cases h; rfl
  · cases h; rfl
  · cases h; rfl
  · cases h; rfl
  · cases h; rfl
  · cases h; rfl
  · cases h; rfl
  · cases h; rfl
  · cases h; rfl
  · cases h; rfl
  · cases h; rfl
  · cases h; rfl
  · cases h; rfl
  · cases h; rfl
  · cases h; rfl
  · cases h; rfl
  · cases h; rfl
  · cases h; rfl
  · cases h; rfl
  · cases h; rfl
  · cases h; rfl
  · cases h; rfl
  · cases h; rfl
  · cases h; rfl
  · cases h; rfl
  · cases h; rfl
  · cases h; rfl
  · cases h; rfl
  · cases h
instance : Inj eName := ⟨fun a b h => by
  rcases a with ⟨a1, a2, a3⟩
  rcases b with ⟨b1, b2, b3⟩
  simp only [eName, D.agg.injEq, List.cons.injEq, D.int.injEq, D.bool.injEq, D.str.injEq, D.list.injEq, map_iff, and_true, true_and] at h
  simp_all⟩
instance : Inj eDefinition := ⟨fun a b h => by
  rcases a with ⟨a1, a2, a3, a4, a5, a6, a7, ⟨a8n, a8l⟩⟩
  rcases b with ⟨b1, b2, b3, b4, b5, b6, b7, ⟨b8n, b8l⟩⟩
  simp only [eDefinition, D.agg.injEq, List.cons.injEq, D.int.injEq, D.bool.injEq, D.str.injEq, D.list.injEq, map_iff, and_true, true_and] at h
  simp_all⟩
instance : Inj eCustom := ⟨fun a b h => by
  rcases a with ⟨a1, a2, a3, a4⟩
  rcases b with ⟨b1, b2, b3, b4⟩
  simp only [eCustom, D.agg.injEq, List.cons.injEq, D.int.injEq, D.bool.injEq, D.str.injEq, D.list.injEq, map_iff, and_true, true_and] at h
  simp_all⟩
instance : Inj eRegistry := ⟨fun a b h => by
  rcases a with ⟨⟨a1n, a1l⟩, ⟨a2n, a2l⟩⟩
  rcases b with ⟨⟨b1n, b1l⟩, ⟨b2n, b2l⟩⟩
  simp only [eRegistry, D.agg.injEq, List.cons.injEq, D.int.injEq, D.bool.injEq, D.str.injEq, D.list.injEq, map_iff, and_true, true_and] at h
  simp_all⟩
instance : Inj eAttr := ⟨fun a b h => by
  rcases a with ⟨⟨a1, a2, a3⟩, a4⟩
  rcases b with ⟨⟨b1, b2, b3⟩, b4⟩
  simp only [eAttr, D.agg.injEq, List.cons.injEq, D.int.injEq, D.bool.injEq, D.str.injEq, D.list.injEq, map_iff, and_true, true_and] at h
  simp_all⟩
instance : Inj eNode := ⟨fun a b h => by
  rcases a with ⟨a1, ⟨a2, a3, a4⟩, a5, a6, ⟨a7n, a7l⟩, ⟨a8n, a8l⟩, a9, ⟨a10n, a10l⟩, a11, a12, a13, a14, a15, a16⟩
  rcases b with ⟨b1, ⟨b2, b3, b4⟩, b5, b6, ⟨b7n, b7l⟩, ⟨b8n, b8l⟩, b9, ⟨b10n, b10l⟩, b11, b12, b13, b14, b15, b16⟩
  simp only [eNode, D.agg.injEq, List.cons.injEq, D.int.injEq, D.bool.injEq, D.str.injEq, D.list.injEq, map_iff, and_true, true_and] at h
  simp_all⟩
instance : Inj enames_span := ⟨fun a b h => by
  rcases a with ⟨a1, a2⟩
  rcases b with ⟨b1, b2⟩
  simp only [enames_span, D.agg.injEq, List.cons.injEq, D.int.injEq, D.bool.injEq, D.str.injEq, D.list.injEq, map_iff, and_true, true_and] at h
  simp_all⟩
instance : Inj eforest_trait := ⟨fun a b h => by
  rcases a with ⟨a1, a2, a3, a4, a5, a6⟩
  rcases b with ⟨b1, b2, b3, b4, b5, b6⟩
  simp only [eforest_trait, D.agg.injEq, List.cons.injEq, D.int.injEq, D.bool.injEq, D.str.injEq, D.list.injEq, map_iff, and_true, true_and] at h
  simp_all⟩
instance : Inj eforest_key := ⟨fun a b h => by
  rcases a with ⟨a1, a2⟩
  rcases b with ⟨b1, b2⟩
  simp only [eforest_key, D.agg.injEq, List.cons.injEq, D.int.injEq, D.bool.injEq, D.str.injEq, D.list.injEq, map_iff, and_true, true_and] at h
  simp_all⟩
end Go.Proofs.YtejglgffianhgaaDoor.N
