/-
  NARROWER THAN 'FOR EVERY INPUT', by the rows' own cells (each row's printed sentence says how): NamesRunes: laid · NamesLonger: laid · NamesKinds: laid · NamesAmong: laid · NamesParts: laid · NamesExtracts: laid · NamesBack: laid · TopNames: laid · CustomOnce: laid · CustomFurther: laid.
  DERIVED. THE GIVEN ROWS OF THIS SEAT. 10 by the template 'for every input the law returns true; each argument reads behind the call as it read before'; 0 by the template 'total and deterministic' (their statements: YtejglgffianhgaaDoorTotals.lean).
  GIVEN WITH THE SEED: the statements are not yours to turn. If you find one false, say at which input.
  Laid BY PROGRAM, IN A SANDBOX (cutbox-rows.mjs): the forced cells as the released guide's own fill.sh prints them over the translation 8a377cfd916e3832… (all of the seat's roots in one cut). By AI agents, Wed Nov 11 2026. No macro, syntax, notation, axiom, sorry.
-/
import Derived.Test.YtejglgffianhgaaDoorChecked
import GoSem.PinnedTables
import GoSem.Claim
import GoSem.ClaimJoined
import GoSem.ClaimMapViews
import Derived.JoinedTies
import Derived.KernelRfl
namespace Go.Proofs.YtejglgffianhgaaDoor
/- THE CELL 'sum', in the pinned program and in every row, IS THE sha256 OF THE DUMP (.gsa) THAT YtejglgffianhgaaDoorProg.lean LOADS. Nothing in Lean hashes anything: it is a label: what it is worth is what the hold of that sum in a sandbox is worth. -/
noncomputable def Tryd.pinned : Pinned := { name := "ytejglgffianhgaadoor", sum := "8a377cfd916e383211f2b9e23440d6095a6a44b0a6628d14dce8f964c9fb9af2", checked := Tryd.checked }
namespace Rows
def none {H : Type} : Left H := { results := [], args := [] }

/- WHAT THE LISTED PACKAGE-LEVEL VARIABLES READ AS WHEN THE CALL BEGINS. Each datum BY PROGRAM (the guide's laid-datum.mjs) off the statement by which the dump's own 'gosem.cut.vars' lays the variable. In a bare row this is a premise. The card (YtejglgffianhgaaDoorCards.lean) ties it to the program's text. -/
def laid_unicode_utf8_acceptRanges {H : Type} : DataW H := .agg [.agg [.lit (.int .u8 128), .lit (.int .u8 191)], .agg [.lit (.int .u8 160), .lit (.int .u8 191)], .agg [.lit (.int .u8 128), .lit (.int .u8 159)], .agg [.lit (.int .u8 144), .lit (.int .u8 191)], .agg [.lit (.int .u8 128), .lit (.int .u8 143)], .agg [.lit (.int .u8 0), .lit (.int .u8 0)], .agg [.lit (.int .u8 0), .lit (.int .u8 0)], .agg [.lit (.int .u8 0), .lit (.int .u8 0)], .agg [.lit (.int .u8 0), .lit (.int .u8 0)], .agg [.lit (.int .u8 0), .lit (.int .u8 0)], .agg [.lit (.int .u8 0), .lit (.int .u8 0)], .agg [.lit (.int .u8 0), .lit (.int .u8 0)], .agg [.lit (.int .u8 0), .lit (.int .u8 0)], .agg [.lit (.int .u8 0), .lit (.int .u8 0)], .agg [.lit (.int .u8 0), .lit (.int .u8 0)], .agg [.lit (.int .u8 0), .lit (.int .u8 0)]]
/-- One of Go's own tables, pinned by name: the form's constant. -/
def laid_unicode_utf8_first : DataW Unit := Go.Pinned.utf8First

/-- 'canopylaw02.NamesRunes': WHATEVER THE INPUT: true; the input reads as it did. -/
def namesRunesSpec : ChangeSpec := { name := "namesRunes", fn := fun _ => fun
  | [d] => { results := [.lit (.bool true)], args := [d] }
  | _ => none }
def namesRunesRow : OpenClaim := { program := "ytejglgffianhgaadoor", sum := "8a377cfd916e383211f2b9e23440d6095a6a44b0a6628d14dce8f964c9fb9af2", func := "canopy/canopylaw02.NamesRunes", spec := "namesRunes", inPlace := ["internal/bytealg.IndexByteString", "internal/bytealg.IndexString"], unfollowed := true, recurses := true, named := ["internal/bytealg.MaxLen", "unicode/utf8.first", "unicode/utf8.acceptRanges"], plainKeys := false, apart := false, laid := [("unicode/utf8.acceptRanges", laid_unicode_utf8_acceptRanges), ("unicode/utf8.first", laid_unicode_utf8_first)] }
def NamesRunesSaid : Prop := namesRunesRow.holds Tryd.pinned (OpenSpec.ofChange namesRunesSpec)

/-- ITS FALSE NEIGHBOUR: 'it returns false'. Refute it at one input. -/
def namesRunesWrong : ChangeSpec := { name := "namesRunes", fn := fun _ => fun
  | [d] => { results := [.lit (.bool false)], args := [d] }
  | _ => none }
def NamesRunesWrongFalsely : Prop := namesRunesRow.holds Tryd.pinned (OpenSpec.ofChange namesRunesWrong)

/-- 'canopylaw02.NamesLonger': WHATEVER THE INPUT: true; the input reads as it did. -/
def namesLongerSpec : ChangeSpec := { name := "namesLonger", fn := fun _ => fun
  | [d1, d2, d3] => { results := [.lit (.bool true)], args := [d1, d2, d3] }
  | _ => none }
def namesLongerRow : OpenClaim := { program := "ytejglgffianhgaadoor", sum := "8a377cfd916e383211f2b9e23440d6095a6a44b0a6628d14dce8f964c9fb9af2", func := "canopy/canopylaw02.NamesLonger", spec := "namesLonger", inPlace := ["internal/bytealg.IndexByteString", "internal/bytealg.IndexString"], unfollowed := true, recurses := true, named := ["internal/bytealg.MaxLen", "unicode/utf8.first", "unicode/utf8.acceptRanges"], plainKeys := false, apart := false, laid := [("unicode/utf8.acceptRanges", laid_unicode_utf8_acceptRanges), ("unicode/utf8.first", laid_unicode_utf8_first)] }
def NamesLongerSaid : Prop := namesLongerRow.holds Tryd.pinned (OpenSpec.ofChange namesLongerSpec)

/-- ITS FALSE NEIGHBOUR: 'it returns false'. Refute it at one input. -/
def namesLongerWrong : ChangeSpec := { name := "namesLonger", fn := fun _ => fun
  | [d1, d2, d3] => { results := [.lit (.bool false)], args := [d1, d2, d3] }
  | _ => none }
def NamesLongerWrongFalsely : Prop := namesLongerRow.holds Tryd.pinned (OpenSpec.ofChange namesLongerWrong)

/-- 'canopylaw02.NamesKinds': WHATEVER THE INPUT: true; the input reads as it did. -/
def namesKindsSpec : ChangeSpec := { name := "namesKinds", fn := fun _ => fun
  | [d] => { results := [.lit (.bool true)], args := [d] }
  | _ => none }
def namesKindsRow : OpenClaim := { program := "ytejglgffianhgaadoor", sum := "8a377cfd916e383211f2b9e23440d6095a6a44b0a6628d14dce8f964c9fb9af2", func := "canopy/canopylaw02.NamesKinds", spec := "namesKinds", inPlace := ["internal/bytealg.IndexByteString", "internal/bytealg.IndexString"], unfollowed := true, recurses := true, named := ["unicode/utf8.first", "unicode/utf8.acceptRanges", "internal/bytealg.MaxLen"], plainKeys := false, apart := false, laid := [("unicode/utf8.acceptRanges", laid_unicode_utf8_acceptRanges), ("unicode/utf8.first", laid_unicode_utf8_first)] }
def NamesKindsSaid : Prop := namesKindsRow.holds Tryd.pinned (OpenSpec.ofChange namesKindsSpec)

/-- ITS FALSE NEIGHBOUR: 'it returns false'. Refute it at one input. -/
def namesKindsWrong : ChangeSpec := { name := "namesKinds", fn := fun _ => fun
  | [d] => { results := [.lit (.bool false)], args := [d] }
  | _ => none }
def NamesKindsWrongFalsely : Prop := namesKindsRow.holds Tryd.pinned (OpenSpec.ofChange namesKindsWrong)

/-- 'canopylaw02.NamesAmong': WHATEVER THE INPUT: true; the input reads as it did. -/
def namesAmongSpec : ChangeSpec := { name := "namesAmong", fn := fun _ => fun
  | [d] => { results := [.lit (.bool true)], args := [d] }
  | _ => none }
def namesAmongRow : OpenClaim := { program := "ytejglgffianhgaadoor", sum := "8a377cfd916e383211f2b9e23440d6095a6a44b0a6628d14dce8f964c9fb9af2", func := "canopy/canopylaw02.NamesAmong", spec := "namesAmong", inPlace := ["internal/bytealg.IndexByteString", "internal/bytealg.IndexString"], unfollowed := true, recurses := true, named := ["internal/bytealg.MaxLen", "unicode/utf8.first", "unicode/utf8.acceptRanges"], plainKeys := false, apart := false, laid := [("unicode/utf8.acceptRanges", laid_unicode_utf8_acceptRanges), ("unicode/utf8.first", laid_unicode_utf8_first)] }
def NamesAmongSaid : Prop := namesAmongRow.holds Tryd.pinned (OpenSpec.ofChange namesAmongSpec)

/-- ITS FALSE NEIGHBOUR: 'it returns false'. Refute it at one input. -/
def namesAmongWrong : ChangeSpec := { name := "namesAmong", fn := fun _ => fun
  | [d] => { results := [.lit (.bool false)], args := [d] }
  | _ => none }
def NamesAmongWrongFalsely : Prop := namesAmongRow.holds Tryd.pinned (OpenSpec.ofChange namesAmongWrong)

/-- 'canopylaw02.NamesParts': WHATEVER THE INPUT: true; the input reads as it did. -/
def namesPartsSpec : ChangeSpec := { name := "namesParts", fn := fun _ => fun
  | [d1, d2] => { results := [.lit (.bool true)], args := [d1, d2] }
  | _ => none }
def namesPartsRow : OpenClaim := { program := "ytejglgffianhgaadoor", sum := "8a377cfd916e383211f2b9e23440d6095a6a44b0a6628d14dce8f964c9fb9af2", func := "canopy/canopylaw02.NamesParts", spec := "namesParts", inPlace := ["internal/bytealg.IndexByteString", "internal/bytealg.IndexString"], unfollowed := true, recurses := true, named := ["internal/bytealg.MaxLen", "unicode/utf8.first", "unicode/utf8.acceptRanges"], plainKeys := false, apart := false, laid := [("unicode/utf8.acceptRanges", laid_unicode_utf8_acceptRanges), ("unicode/utf8.first", laid_unicode_utf8_first)] }
def NamesPartsSaid : Prop := namesPartsRow.holds Tryd.pinned (OpenSpec.ofChange namesPartsSpec)

/-- ITS FALSE NEIGHBOUR: 'it returns false'. Refute it at one input. -/
def namesPartsWrong : ChangeSpec := { name := "namesParts", fn := fun _ => fun
  | [d1, d2] => { results := [.lit (.bool false)], args := [d1, d2] }
  | _ => none }
def NamesPartsWrongFalsely : Prop := namesPartsRow.holds Tryd.pinned (OpenSpec.ofChange namesPartsWrong)

/-- 'canopylaw02.NamesExtracts': WHATEVER THE INPUT: true; the input reads as it did. -/
def namesExtractsSpec : ChangeSpec := { name := "namesExtracts", fn := fun _ => fun
  | [d1, d2, d3] => { results := [.lit (.bool true)], args := [d1, d2, d3] }
  | _ => none }
def namesExtractsRow : OpenClaim := { program := "ytejglgffianhgaadoor", sum := "8a377cfd916e383211f2b9e23440d6095a6a44b0a6628d14dce8f964c9fb9af2", func := "canopy/canopylaw02.NamesExtracts", spec := "namesExtracts", inPlace := ["internal/bytealg.IndexByteString", "internal/bytealg.IndexString"], unfollowed := true, recurses := true, named := ["internal/bytealg.MaxLen", "unicode/utf8.first", "unicode/utf8.acceptRanges"], plainKeys := false, apart := false, laid := [("unicode/utf8.acceptRanges", laid_unicode_utf8_acceptRanges), ("unicode/utf8.first", laid_unicode_utf8_first)] }
def NamesExtractsSaid : Prop := namesExtractsRow.holds Tryd.pinned (OpenSpec.ofChange namesExtractsSpec)

/-- ITS FALSE NEIGHBOUR: 'it returns false'. Refute it at one input. -/
def namesExtractsWrong : ChangeSpec := { name := "namesExtracts", fn := fun _ => fun
  | [d1, d2, d3] => { results := [.lit (.bool false)], args := [d1, d2, d3] }
  | _ => none }
def NamesExtractsWrongFalsely : Prop := namesExtractsRow.holds Tryd.pinned (OpenSpec.ofChange namesExtractsWrong)

/-- 'canopylaw02.NamesBack': WHATEVER THE INPUT: true; the input reads as it did. -/
def namesBackSpec : ChangeSpec := { name := "namesBack", fn := fun _ => fun
  | [d1, d2, d3] => { results := [.lit (.bool true)], args := [d1, d2, d3] }
  | _ => none }
def namesBackRow : OpenClaim := { program := "ytejglgffianhgaadoor", sum := "8a377cfd916e383211f2b9e23440d6095a6a44b0a6628d14dce8f964c9fb9af2", func := "canopy/canopylaw02.NamesBack", spec := "namesBack", inPlace := ["internal/bytealg.IndexByteString", "internal/bytealg.IndexString"], unfollowed := true, recurses := true, named := ["internal/bytealg.MaxLen", "unicode/utf8.first", "unicode/utf8.acceptRanges"], plainKeys := false, apart := false, laid := [("unicode/utf8.acceptRanges", laid_unicode_utf8_acceptRanges), ("unicode/utf8.first", laid_unicode_utf8_first)] }
def NamesBackSaid : Prop := namesBackRow.holds Tryd.pinned (OpenSpec.ofChange namesBackSpec)

/-- ITS FALSE NEIGHBOUR: 'it returns false'. Refute it at one input. -/
def namesBackWrong : ChangeSpec := { name := "namesBack", fn := fun _ => fun
  | [d1, d2, d3] => { results := [.lit (.bool false)], args := [d1, d2, d3] }
  | _ => none }
def NamesBackWrongFalsely : Prop := namesBackRow.holds Tryd.pinned (OpenSpec.ofChange namesBackWrong)

/-- 'canopytop.TopNames': WHATEVER THE INPUT: true; the input reads as it did. -/
def topNamesSpec : ChangeSpec := { name := "topNames", fn := fun _ => fun
  | [d1, d2] => { results := [.lit (.bool true)], args := [d1, d2] }
  | _ => none }
def topNamesRow : OpenClaim := { program := "ytejglgffianhgaadoor", sum := "8a377cfd916e383211f2b9e23440d6095a6a44b0a6628d14dce8f964c9fb9af2", func := "canopy/canopytop.TopNames", spec := "topNames", inPlace := ["internal/bytealg.IndexByteString", "internal/bytealg.IndexString"], unfollowed := true, recurses := true, named := ["internal/bytealg.MaxLen", "unicode/utf8.first", "unicode/utf8.acceptRanges"], plainKeys := false, apart := false, laid := [("unicode/utf8.acceptRanges", laid_unicode_utf8_acceptRanges), ("unicode/utf8.first", laid_unicode_utf8_first)] }
def TopNamesSaid : Prop := topNamesRow.holds Tryd.pinned (OpenSpec.ofChange topNamesSpec)

/-- ITS FALSE NEIGHBOUR: 'it returns false'. Refute it at one input. -/
def topNamesWrong : ChangeSpec := { name := "topNames", fn := fun _ => fun
  | [d1, d2] => { results := [.lit (.bool false)], args := [d1, d2] }
  | _ => none }
def TopNamesWrongFalsely : Prop := topNamesRow.holds Tryd.pinned (OpenSpec.ofChange topNamesWrong)

/-- 'canopylaw25.CustomOnce': WHATEVER THE INPUT: true; the input reads as it did. -/
def customOnceSpec : ChangeSpec := { name := "customOnce", fn := fun _ => fun
  | [d1, d2] => { results := [.lit (.bool true)], args := [d1, d2] }
  | _ => none }
def customOnceRow : OpenClaim := { program := "ytejglgffianhgaadoor", sum := "8a377cfd916e383211f2b9e23440d6095a6a44b0a6628d14dce8f964c9fb9af2", func := "canopy/canopylaw25.CustomOnce", spec := "customOnce", inPlace := ["internal/bytealg.IndexByteString", "internal/bytealg.IndexString"], unfollowed := true, recurses := true, named := ["unicode/utf8.first", "unicode/utf8.acceptRanges", "internal/bytealg.MaxLen"], plainKeys := false, apart := false, laid := [("unicode/utf8.acceptRanges", laid_unicode_utf8_acceptRanges), ("unicode/utf8.first", laid_unicode_utf8_first)] }
def CustomOnceSaid : Prop := customOnceRow.holds Tryd.pinned (OpenSpec.ofChange customOnceSpec)

/-- ITS FALSE NEIGHBOUR: 'it returns false'. Refute it at one input. -/
def customOnceWrong : ChangeSpec := { name := "customOnce", fn := fun _ => fun
  | [d1, d2] => { results := [.lit (.bool false)], args := [d1, d2] }
  | _ => none }
def CustomOnceWrongFalsely : Prop := customOnceRow.holds Tryd.pinned (OpenSpec.ofChange customOnceWrong)

/-- 'canopylaw25.CustomFurther': WHATEVER THE INPUT: true; the input reads as it did. -/
def customFurtherSpec : ChangeSpec := { name := "customFurther", fn := fun _ => fun
  | [d1, d2, d3, d4, d5] => { results := [.lit (.bool true)], args := [d1, d2, d3, d4, d5] }
  | _ => none }
def customFurtherRow : OpenClaim := { program := "ytejglgffianhgaadoor", sum := "8a377cfd916e383211f2b9e23440d6095a6a44b0a6628d14dce8f964c9fb9af2", func := "canopy/canopylaw25.CustomFurther", spec := "customFurther", inPlace := ["internal/bytealg.IndexByteString", "internal/bytealg.IndexString"], unfollowed := true, recurses := true, named := ["unicode/utf8.first", "unicode/utf8.acceptRanges", "internal/bytealg.MaxLen"], plainKeys := false, apart := false, laid := [("unicode/utf8.acceptRanges", laid_unicode_utf8_acceptRanges), ("unicode/utf8.first", laid_unicode_utf8_first)] }
def CustomFurtherSaid : Prop := customFurtherRow.holds Tryd.pinned (OpenSpec.ofChange customFurtherSpec)

/-- ITS FALSE NEIGHBOUR: 'it returns false'. Refute it at one input. -/
def customFurtherWrong : ChangeSpec := { name := "customFurther", fn := fun _ => fun
  | [d1, d2, d3, d4, d5] => { results := [.lit (.bool false)], args := [d1, d2, d3, d4, d5] }
  | _ => none }
def CustomFurtherWrongFalsely : Prop := customFurtherRow.holds Tryd.pinned (OpenSpec.ofChange customFurtherWrong)

/- THE SECOND FORM. 'bulk': how many values and letters a reading holds, each counted each time it is reached (what is shared counts as often as it is met; a slice's spare places count too). A statement '..UptoSaid' is the law's where the arguments, and the package variables that the reading takes, are together of bulk at most 1048576: NARROWER than '..Said'. Prove '..Said' where nothing that the law and all that it calls make is longer than what came in: it says more and counts as full. Else prove '..UptoSaid'. A law counts once. -/
mutual
def uptoBulk {H : Type} : DataW H → Nat
  | .lit (.string bytes) => bytes.length + 1
  | .lit _ => 1
  | .nil => 1
  | .ptr d => uptoBulk d + 1
  | .slice elems spare => uptoBulkAll elems + uptoBulkAll spare + 1
  | .agg parts => uptoBulkAll parts + 1
  | .iface _ d => uptoBulk d + 1
  | .map entries => uptoBulkEntries entries + 1
  | .held _ => 1
def uptoBulkAll {H : Type} : List (DataW H) → Nat
  | [] => 0
  | d :: r => uptoBulk d + uptoBulkAll r
def uptoBulkEntries {H : Type} : List (Lit × DataW H) → Nat
  | [] => 0
  | x :: r => uptoBulkEntry x + uptoBulkEntries r
def uptoBulkEntry {H : Type} : Lit × DataW H → Nat
  | (.string bytes, d) => bytes.length + uptoBulk d + 1
  | (_, d) => uptoBulk d + 1
 end
def uptoSmall : (H : Type) → List (DataW H) → Bool := fun _ ds => decide (uptoBulkAll ds ≤ 1048576)
def OpenSpec.upto (s : _root_.Go.ChangeSpec) : _root_.Go.OpenSpec := { _root_.Go.OpenSpec.ofChange s with cond := some uptoSmall }

/-- 'canopylaw02.NamesRunes', WHERE WHAT IT READS IS OF BULK AT MOST 1048576: true; the input reads as it did. -/
def namesRunesUptoRow : OpenClaim := { program := "ytejglgffianhgaadoor", sum := "8a377cfd916e383211f2b9e23440d6095a6a44b0a6628d14dce8f964c9fb9af2", func := "canopy/canopylaw02.NamesRunes", spec := "namesRunes", inPlace := ["internal/bytealg.IndexByteString", "internal/bytealg.IndexString"], unfollowed := true, recurses := true, named := ["internal/bytealg.MaxLen", "unicode/utf8.first", "unicode/utf8.acceptRanges"], plainKeys := false, apart := false, laid := [("unicode/utf8.acceptRanges", laid_unicode_utf8_acceptRanges), ("unicode/utf8.first", laid_unicode_utf8_first)], narrowed := true }
def NamesRunesUptoSaid : Prop := namesRunesUptoRow.holds Tryd.pinned (OpenSpec.upto namesRunesSpec)

/-- 'canopylaw02.NamesLonger', WHERE WHAT IT READS IS OF BULK AT MOST 1048576: true; the input reads as it did. -/
def namesLongerUptoRow : OpenClaim := { program := "ytejglgffianhgaadoor", sum := "8a377cfd916e383211f2b9e23440d6095a6a44b0a6628d14dce8f964c9fb9af2", func := "canopy/canopylaw02.NamesLonger", spec := "namesLonger", inPlace := ["internal/bytealg.IndexByteString", "internal/bytealg.IndexString"], unfollowed := true, recurses := true, named := ["internal/bytealg.MaxLen", "unicode/utf8.first", "unicode/utf8.acceptRanges"], plainKeys := false, apart := false, laid := [("unicode/utf8.acceptRanges", laid_unicode_utf8_acceptRanges), ("unicode/utf8.first", laid_unicode_utf8_first)], narrowed := true }
def NamesLongerUptoSaid : Prop := namesLongerUptoRow.holds Tryd.pinned (OpenSpec.upto namesLongerSpec)

/-- 'canopylaw02.NamesKinds', WHERE WHAT IT READS IS OF BULK AT MOST 1048576: true; the input reads as it did. -/
def namesKindsUptoRow : OpenClaim := { program := "ytejglgffianhgaadoor", sum := "8a377cfd916e383211f2b9e23440d6095a6a44b0a6628d14dce8f964c9fb9af2", func := "canopy/canopylaw02.NamesKinds", spec := "namesKinds", inPlace := ["internal/bytealg.IndexByteString", "internal/bytealg.IndexString"], unfollowed := true, recurses := true, named := ["unicode/utf8.first", "unicode/utf8.acceptRanges", "internal/bytealg.MaxLen"], plainKeys := false, apart := false, laid := [("unicode/utf8.acceptRanges", laid_unicode_utf8_acceptRanges), ("unicode/utf8.first", laid_unicode_utf8_first)], narrowed := true }
def NamesKindsUptoSaid : Prop := namesKindsUptoRow.holds Tryd.pinned (OpenSpec.upto namesKindsSpec)

/-- 'canopylaw02.NamesAmong', WHERE WHAT IT READS IS OF BULK AT MOST 1048576: true; the input reads as it did. -/
def namesAmongUptoRow : OpenClaim := { program := "ytejglgffianhgaadoor", sum := "8a377cfd916e383211f2b9e23440d6095a6a44b0a6628d14dce8f964c9fb9af2", func := "canopy/canopylaw02.NamesAmong", spec := "namesAmong", inPlace := ["internal/bytealg.IndexByteString", "internal/bytealg.IndexString"], unfollowed := true, recurses := true, named := ["internal/bytealg.MaxLen", "unicode/utf8.first", "unicode/utf8.acceptRanges"], plainKeys := false, apart := false, laid := [("unicode/utf8.acceptRanges", laid_unicode_utf8_acceptRanges), ("unicode/utf8.first", laid_unicode_utf8_first)], narrowed := true }
def NamesAmongUptoSaid : Prop := namesAmongUptoRow.holds Tryd.pinned (OpenSpec.upto namesAmongSpec)

/-- 'canopylaw02.NamesParts', WHERE WHAT IT READS IS OF BULK AT MOST 1048576: true; the input reads as it did. -/
def namesPartsUptoRow : OpenClaim := { program := "ytejglgffianhgaadoor", sum := "8a377cfd916e383211f2b9e23440d6095a6a44b0a6628d14dce8f964c9fb9af2", func := "canopy/canopylaw02.NamesParts", spec := "namesParts", inPlace := ["internal/bytealg.IndexByteString", "internal/bytealg.IndexString"], unfollowed := true, recurses := true, named := ["internal/bytealg.MaxLen", "unicode/utf8.first", "unicode/utf8.acceptRanges"], plainKeys := false, apart := false, laid := [("unicode/utf8.acceptRanges", laid_unicode_utf8_acceptRanges), ("unicode/utf8.first", laid_unicode_utf8_first)], narrowed := true }
def NamesPartsUptoSaid : Prop := namesPartsUptoRow.holds Tryd.pinned (OpenSpec.upto namesPartsSpec)

/-- 'canopylaw02.NamesExtracts', WHERE WHAT IT READS IS OF BULK AT MOST 1048576: true; the input reads as it did. -/
def namesExtractsUptoRow : OpenClaim := { program := "ytejglgffianhgaadoor", sum := "8a377cfd916e383211f2b9e23440d6095a6a44b0a6628d14dce8f964c9fb9af2", func := "canopy/canopylaw02.NamesExtracts", spec := "namesExtracts", inPlace := ["internal/bytealg.IndexByteString", "internal/bytealg.IndexString"], unfollowed := true, recurses := true, named := ["internal/bytealg.MaxLen", "unicode/utf8.first", "unicode/utf8.acceptRanges"], plainKeys := false, apart := false, laid := [("unicode/utf8.acceptRanges", laid_unicode_utf8_acceptRanges), ("unicode/utf8.first", laid_unicode_utf8_first)], narrowed := true }
def NamesExtractsUptoSaid : Prop := namesExtractsUptoRow.holds Tryd.pinned (OpenSpec.upto namesExtractsSpec)

/-- 'canopylaw02.NamesBack', WHERE WHAT IT READS IS OF BULK AT MOST 1048576: true; the input reads as it did. -/
def namesBackUptoRow : OpenClaim := { program := "ytejglgffianhgaadoor", sum := "8a377cfd916e383211f2b9e23440d6095a6a44b0a6628d14dce8f964c9fb9af2", func := "canopy/canopylaw02.NamesBack", spec := "namesBack", inPlace := ["internal/bytealg.IndexByteString", "internal/bytealg.IndexString"], unfollowed := true, recurses := true, named := ["internal/bytealg.MaxLen", "unicode/utf8.first", "unicode/utf8.acceptRanges"], plainKeys := false, apart := false, laid := [("unicode/utf8.acceptRanges", laid_unicode_utf8_acceptRanges), ("unicode/utf8.first", laid_unicode_utf8_first)], narrowed := true }
def NamesBackUptoSaid : Prop := namesBackUptoRow.holds Tryd.pinned (OpenSpec.upto namesBackSpec)

/-- 'canopytop.TopNames', WHERE WHAT IT READS IS OF BULK AT MOST 1048576: true; the input reads as it did. -/
def topNamesUptoRow : OpenClaim := { program := "ytejglgffianhgaadoor", sum := "8a377cfd916e383211f2b9e23440d6095a6a44b0a6628d14dce8f964c9fb9af2", func := "canopy/canopytop.TopNames", spec := "topNames", inPlace := ["internal/bytealg.IndexByteString", "internal/bytealg.IndexString"], unfollowed := true, recurses := true, named := ["internal/bytealg.MaxLen", "unicode/utf8.first", "unicode/utf8.acceptRanges"], plainKeys := false, apart := false, laid := [("unicode/utf8.acceptRanges", laid_unicode_utf8_acceptRanges), ("unicode/utf8.first", laid_unicode_utf8_first)], narrowed := true }
def TopNamesUptoSaid : Prop := topNamesUptoRow.holds Tryd.pinned (OpenSpec.upto topNamesSpec)

/-- 'canopylaw25.CustomOnce', WHERE WHAT IT READS IS OF BULK AT MOST 1048576: true; the input reads as it did. -/
def customOnceUptoRow : OpenClaim := { program := "ytejglgffianhgaadoor", sum := "8a377cfd916e383211f2b9e23440d6095a6a44b0a6628d14dce8f964c9fb9af2", func := "canopy/canopylaw25.CustomOnce", spec := "customOnce", inPlace := ["internal/bytealg.IndexByteString", "internal/bytealg.IndexString"], unfollowed := true, recurses := true, named := ["unicode/utf8.first", "unicode/utf8.acceptRanges", "internal/bytealg.MaxLen"], plainKeys := false, apart := false, laid := [("unicode/utf8.acceptRanges", laid_unicode_utf8_acceptRanges), ("unicode/utf8.first", laid_unicode_utf8_first)], narrowed := true }
def CustomOnceUptoSaid : Prop := customOnceUptoRow.holds Tryd.pinned (OpenSpec.upto customOnceSpec)

/-- 'canopylaw25.CustomFurther', WHERE WHAT IT READS IS OF BULK AT MOST 1048576: true; the input reads as it did. -/
def customFurtherUptoRow : OpenClaim := { program := "ytejglgffianhgaadoor", sum := "8a377cfd916e383211f2b9e23440d6095a6a44b0a6628d14dce8f964c9fb9af2", func := "canopy/canopylaw25.CustomFurther", spec := "customFurther", inPlace := ["internal/bytealg.IndexByteString", "internal/bytealg.IndexString"], unfollowed := true, recurses := true, named := ["unicode/utf8.first", "unicode/utf8.acceptRanges", "internal/bytealg.MaxLen"], plainKeys := false, apart := false, laid := [("unicode/utf8.acceptRanges", laid_unicode_utf8_acceptRanges), ("unicode/utf8.first", laid_unicode_utf8_first)], narrowed := true }
def CustomFurtherUptoSaid : Prop := customFurtherUptoRow.holds Tryd.pinned (OpenSpec.upto customFurtherSpec)

end Rows
end Go.Proofs.YtejglgffianhgaaDoor
