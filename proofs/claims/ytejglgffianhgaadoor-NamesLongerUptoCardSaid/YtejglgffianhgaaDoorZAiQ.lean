/- Shaken copy of a longer text: what one law needs. Its conditions: none. -/
import Derived.Test.YtejglgffianhgaaDoorZAiD
import Derived.Test.YtejglgffianhgaaDoorZAiP
import Derived.Below
import Derived.Shelf.Unicode.DecodeSlow
namespace Go.AI
open Go.RowKit
variable {P : Program} {T : Tabs}
def utf8Tab (g3 g4 : Nat) : Tabs :=
  ((List.range 256).map fun c => (g3, c, .int .u8 (Lib.firstT c))) ++ ((List.range 16).map fun i => (g4, 2 * i, .int .u8 (Lib.accLo i))) ++ ((List.range 16).map fun i => (g4, 2 * i + 1, .int .u8 (Lib.accHi i)))
theorem utf8Tab_met {g3 g4 : Nat} {S : Nat → Nat → Prop} {w : World} (h : Met (utf8Tab g3 g4) S w) : Lib.Utf8Tabs g3 g4 w := by
  refine ⟨fun c hc => (h (g3, c, _) ?_).2, fun i hi => ⟨(h (g4, 2 * i, _) ?_).2, (h (g4, 2 * i + 1, _) ?_).2⟩⟩
  · exact List.mem_append_left _ (List.mem_append_left _ (List.mem_map.2 ⟨c, List.mem_range.2 hc, rfl⟩))
  · exact List.mem_append_left _ (List.mem_append_right _ (List.mem_map.2 ⟨i, List.mem_range.2 hi, rfl⟩))
  · exact List.mem_append_right _ (List.mem_map.2 ⟨i, List.mem_range.2 hi, rfl⟩)
theorem met_utf8Tab {g3 g4 : Nat} {w : World} (h : Lib.Utf8Tabs g3 g4 w) : Met (utf8Tab g3 g4) (fun _ _ => True) w := by
  intro x hx
  refine ⟨trivial, ?_⟩
  unfold utf8Tab at hx
  rcases List.mem_append.1 hx with hx | hx
  · rcases List.mem_append.1 hx with hx | hx
    · obtain ⟨c, hc, rfl⟩ := List.mem_map.1 hx; exact h.1 c (List.mem_range.1 hc)
    · obtain ⟨c, hc, rfl⟩ := List.mem_map.1 hx; exact (h.2 c (List.mem_range.1 hc)).1
  · obtain ⟨c, hc, rfl⟩ := List.mem_map.1 hx; exact (h.2 c (List.mem_range.1 hc)).2
theorem prim_out {S : Nat → Nat → Prop} {w w' : World} {x : D} {mv : Value} (hb : Below w.heap.size w w') (hr : RD w' (fun _ _ => False) x mv) :
    (∀ m, m < w.heap.size → w'.heap[m]? = w.heap[m]?) ∧ w.heap.size ≤ w'.heap.size ∧ w'.os = w.os ∧ w'.tape = w.tape ∧ w'.output = w.output ∧ RD w' (fun m o => S m o ∨ (w.heap.size ≤ m ∧ m < w'.heap.size)) x mv :=
  ⟨hb.block, hb.size, hb.os, hb.tape, hb.output, hr.mono fun m o v h _ => h.elim⟩
theorem rd_str_inv {w : World} {S : Nat → Nat → Prop} {s : List UInt8} {v : Value} (h : RD w S (.str s) v) : ∃ t : ByteArray, v = .string t ∧ t.data.toList = s := by
  cases h with
  | str t => exact ⟨t, rfl, rfl⟩
theorem primOk_valid {f : FuncId} {fn : Func} (hf : P.funcs[f]? = some fn) (hn : (fn.name == "runtime.NumGoroutine") = false) (hb : fn.body.isSome = true)
    (hC : ∀ (S : Nat → Nat → Prop) (s : ByteArray) (w : World), s.size ≤ 9223372036854775807 → Met T S w → Calls P f #[.string s] w fun e w' => e = .returned (.bool (Lib.validD s.data.toList)) ∧ Below w.heap.size w w') : PrimOk T P f primValid := by
  refine ⟨fn, hf, hn, hb, fun w S ds margs x hT hl ha _ hp => ?_⟩
  unfold primValid at hp
  split at hp
  · rename_i s
    split at hp
    · rename_i hs
      cases hp
      obtain ⟨v, rfl⟩ : ∃ v, margs = [v] := by
        match margs, hl with
        | [v], _ => exact ⟨v, rfl⟩
      obtain ⟨t, rfl, rfl⟩ := rd_str_inv (show RD w S (.str s) v from ha 0 _ rfl)
      have hs' : t.size ≤ 9223372036854775807 := by rw [Array.length_toList] at hs; exact hs
      refine callsIn_wide.2 ((hC S t w hs' hT).mono fun e w' hp => ?_)
      obtain ⟨rfl, hbel⟩ := hp
      exact prim_out hbel (.bool _)
    · cases hp
  · cases hp
theorem primOk_index {f : FuncId} {fn : Func} (hf : P.funcs[f]? = some fn) (hn : (fn.name == "runtime.NumGoroutine") = false) (hb : fn.body.isSome = true)
    (hC : ∀ (s : ByteArray) (c : UInt8) (w : World), Calls P f #[.string s, .string ⟨#[c]⟩] w fun e w' => e = .returned (.int .i64 (Lib.indexByte s.data.toList c)) ∧ w' = w) : PrimOk T P f primIndex := by
  refine ⟨fn, hf, hn, hb, fun w S ds margs x hT hl ha _ hp => ?_⟩
  unfold primIndex at hp
  split at hp
  · rename_i s c
    cases hp
    obtain ⟨v, u, rfl⟩ : ∃ v u, margs = [v, u] := by
      match margs, hl with
      | [v, u], _ => exact ⟨v, u, rfl⟩
    obtain ⟨t, rfl, rfl⟩ := rd_str_inv (show RD w S (.str s) v from ha 0 _ rfl)
    obtain ⟨t2, rfl, h2⟩ := rd_str_inv (show RD w S (.str [c]) u from ha 1 _ rfl)
    obtain rfl : t2 = ⟨#[c]⟩ := by
      cases t2 with
      | mk d =>
        have : d = #[c] := by
          apply Array.ext'
          exact h2
        rw [this]
    refine callsIn_wide.2 ((hC t c w).mono fun e w' hp => ?_)
    obtain ⟨rfl, rfl⟩ := hp
    exact prim_out (Below.refl _ _) (.int _ _)
  · cases hp
end Go.AI
