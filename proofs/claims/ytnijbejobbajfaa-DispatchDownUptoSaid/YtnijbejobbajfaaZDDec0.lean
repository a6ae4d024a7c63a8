/- Shaken copy of a longer text: what one law needs. Its conditions: none. -/
import Derived.Test.YtnijbejobbajfaaZAiG
import Derived.Test.YtnijbejobbajfaaZDCode
import Derived.Test.YtnijbejobbajfaaZDTy
namespace Go.Proofs.Ytnijbejobbajfaa.D
open Go.AI
theorem locs : AProg.Loc prog := by
  intro f fn h
  have h : fns f = some fn := h
  unfold fns at h
  split at h
  · cases h; rfl
  · cases h; rfl
  · cases h; rfl
  · cases h; rfl
  · cases h; rfl
  · cases h; rfl
  · cases h; rfl
  · cases h; rfl
  · cases h; rfl
  · cases h; rfl
  · cases h; rfl
  · cases h; rfl
  · cases h; rfl
  · cases h; rfl
  · cases h; rfl
  · cases h; rfl
  · cases h; rfl
  · cases h; rfl
  · cases h; rfl
  · cases h; rfl
  · cases h; rfl
  · cases h; rfl
  · cases h; rfl
  · cases h; rfl
  · cases h; rfl
  · cases h; rfl
  · cases h; rfl
  · cases h; rfl
  · cases h; rfl
  · cases h; rfl
  · cases h; rfl
  · cases h; rfl
  · cases h; rfl
  · cases h; rfl
  · cases h; rfl
  · cases h; rfl
  · cases h; rfl
  · cases h; rfl
  · cases h; rfl
  · cases h; rfl
  · cases h; rfl
  · cases h; rfl
  · cases h; rfl
  · cases h; rfl
  · cases h; rfl
  · cases h; rfl
  · cases h; rfl
  · cases h; rfl
  · cases h; rfl
  · cases h; rfl
  · cases h; rfl
  · cases h; rfl
  · cases h; rfl
  · cases h; rfl
  · cases h; rfl
  · cases h; rfl
  · cases h; rfl
  · cases h; rfl
  · cases h; rfl
  · cases h; rfl
  · cases h; rfl
  · cases h; rfl
  · cases h; rfl
  · cases h; rfl
  · cases h; rfl
  · cases h; rfl
  · cases h; rfl
  · cases h; rfl
  · cases h; rfl
  · cases h; rfl
  · cases h; rfl
  · cases h; rfl
  · cases h; rfl
  · cases h
instance : Inj eListener := ⟨fun a b h => by
  rcases a with ⟨a1, a2, a3, a4, a5, a6, a7, a8⟩
  rcases b with ⟨b1, b2, b3, b4, b5, b6, b7, b8⟩
  simp only [eListener, D.agg.injEq, List.cons.injEq, D.int.injEq, D.bool.injEq, D.str.injEq, D.list.injEq, map_iff, and_true, true_and] at h
  simp_all⟩
instance : Inj eListeners := ⟨fun a b h => by
  rcases a with ⟨⟨a1n, a1l⟩, a2⟩
  rcases b with ⟨⟨b1n, b1l⟩, b2⟩
  simp only [eListeners, D.agg.injEq, List.cons.injEq, D.int.injEq, D.bool.injEq, D.str.injEq, D.list.injEq, map_iff, and_true, true_and] at h
  simp_all⟩
instance : Inj eEvent := ⟨fun a b h => by
  rcases a with ⟨a1, a2, a3, a4, a5, a6, a7, a8, a9, a10, a11, a12, a13⟩
  rcases b with ⟨b1, b2, b3, b4, b5, b6, b7, b8, b9, b10, b11, b12, b13⟩
  simp only [eEvent, D.agg.injEq, List.cons.injEq, D.int.injEq, D.bool.injEq, D.str.injEq, D.list.injEq, map_iff, and_true, true_and] at h
  simp_all⟩
instance : Inj eStep := ⟨fun a b h => by
  rcases a with ⟨a1, a2, a3, a4, a5, a6⟩
  rcases b with ⟨b1, b2, b3, b4, b5, b6⟩
  simp only [eStep, D.agg.injEq, List.cons.injEq, D.int.injEq, D.bool.injEq, D.str.injEq, D.list.injEq, map_iff, and_true, true_and] at h
  simp_all⟩
instance : Inj eRun := ⟨fun a b h => by
  rcases a with ⟨⟨a1, a2, a3, a4, a5, a6, a7, a8, a9, a10, a11, a12, a13⟩, ⟨a14n, a14l⟩, a15, ⟨a16n, a16l⟩, a17⟩
  rcases b with ⟨⟨b1, b2, b3, b4, b5, b6, b7, b8, b9, b10, b11, b12, b13⟩, ⟨b14n, b14l⟩, b15, ⟨b16n, b16l⟩, b17⟩
  simp only [eRun, D.agg.injEq, List.cons.injEq, D.int.injEq, D.bool.injEq, D.str.injEq, D.list.injEq, map_iff, and_true, true_and] at h
  simp_all⟩
instance : Inj eCall := ⟨fun a b h => by
  rcases a with ⟨a1, a2, a3⟩
  rcases b with ⟨b1, b2, b3⟩
  simp only [eCall, D.agg.injEq, List.cons.injEq, D.int.injEq, D.bool.injEq, D.str.injEq, D.list.injEq, map_iff, and_true, true_and] at h
  simp_all⟩
instance : Inj eEffects := ⟨fun a b h => by
  rcases a with ⟨a1, ⟨a2n, a2l⟩, ⟨a3n, a3l⟩⟩
  rcases b with ⟨b1, ⟨b2n, b2l⟩, ⟨b3n, b3l⟩⟩
  simp only [eEffects, D.agg.injEq, List.cons.injEq, D.int.injEq, D.bool.injEq, D.str.injEq, D.list.injEq, map_iff, and_true, true_and] at h
  simp_all⟩
instance : Inj elisten_place := ⟨fun a b h => by
  rcases a with ⟨a1, a2, a3, a4⟩
  rcases b with ⟨b1, b2, b3, b4⟩
  simp only [elisten_place, D.agg.injEq, List.cons.injEq, D.int.injEq, D.bool.injEq, D.str.injEq, D.list.injEq, map_iff, and_true, true_and] at h
  simp_all⟩
end Go.Proofs.Ytnijbejobbajfaa.D
