/-
  DERIVED. GIVEN WITH THE SEED: THE CARDS: each row of YtejglgffianhgaaDoorRows.lean that lists a variable, with what it lists TIED to the program's text (the seventh form; the later family's looks); each row that meets fmt, with fmt's text TOLD by the authors' own Lean function (tested against real Go, not proved from fmt's source: count such statements apart). THE CARD IS WHAT COUNTS. Prove the row's statement (the work); the ties are given (YtejglgffianhgaaDoorTie.lean); close each card by the builder's one call (the guide's Derived/Test/ToyasCard.lean, 'card_holds'). Laid BY PROGRAM, IN A SANDBOX (cutbox-door.mjs). By AI agents, Wed Nov 11 2026. No macro, syntax, notation, axiom, sorry.
-/
import Derived.Test.YtejglgffianhgaaDoorRows
import GoSem.ClaimSeven
namespace Go.Proofs.YtejglgffianhgaaDoor
namespace Rows

/-- THE TIED CARD OF 'canopylaw02.NamesRunes'. -/
def namesRunesCard : Claim7 := { stood := { row := namesRunesRow, standIns := [], harness := (true, "0bea800bbc62fcf0c8c12df3dd3b051331b517c8802f3650873e265449bfb88d"), looks := false }, kinds := [], alts := [], laidByText := true, laidKinds := [.data, .pinned], laidTests := true, laidLooks := .later }
def NamesRunesCardSaid : Prop := Claim7.holds Tryd.pinned (.plain (OpenSpec.ofChange namesRunesSpec)) namesRunesCard

/-- THE TIED CARD OF 'canopylaw02.NamesLonger'. -/
def namesLongerCard : Claim7 := { stood := { row := namesLongerRow, standIns := [], harness := (true, "0bea800bbc62fcf0c8c12df3dd3b051331b517c8802f3650873e265449bfb88d"), looks := false }, kinds := [], alts := [], laidByText := true, laidKinds := [.data, .pinned], laidTests := true, laidLooks := .later }
def NamesLongerCardSaid : Prop := Claim7.holds Tryd.pinned (.plain (OpenSpec.ofChange namesLongerSpec)) namesLongerCard

/-- THE TIED CARD OF 'canopylaw02.NamesKinds'. -/
def namesKindsCard : Claim7 := { stood := { row := namesKindsRow, standIns := [], harness := (true, "0bea800bbc62fcf0c8c12df3dd3b051331b517c8802f3650873e265449bfb88d"), looks := false }, kinds := [], alts := [], laidByText := true, laidKinds := [.data, .pinned], laidTests := true, laidLooks := .later }
def NamesKindsCardSaid : Prop := Claim7.holds Tryd.pinned (.plain (OpenSpec.ofChange namesKindsSpec)) namesKindsCard

/-- THE TIED CARD OF 'canopylaw02.NamesAmong'. -/
def namesAmongCard : Claim7 := { stood := { row := namesAmongRow, standIns := [], harness := (true, "0bea800bbc62fcf0c8c12df3dd3b051331b517c8802f3650873e265449bfb88d"), looks := false }, kinds := [], alts := [], laidByText := true, laidKinds := [.data, .pinned], laidTests := true, laidLooks := .later }
def NamesAmongCardSaid : Prop := Claim7.holds Tryd.pinned (.plain (OpenSpec.ofChange namesAmongSpec)) namesAmongCard

/-- THE TIED CARD OF 'canopylaw02.NamesParts'. -/
def namesPartsCard : Claim7 := { stood := { row := namesPartsRow, standIns := [], harness := (true, "0bea800bbc62fcf0c8c12df3dd3b051331b517c8802f3650873e265449bfb88d"), looks := false }, kinds := [], alts := [], laidByText := true, laidKinds := [.data, .pinned], laidTests := true, laidLooks := .later }
def NamesPartsCardSaid : Prop := Claim7.holds Tryd.pinned (.plain (OpenSpec.ofChange namesPartsSpec)) namesPartsCard

/-- THE TIED CARD OF 'canopylaw02.NamesExtracts'. -/
def namesExtractsCard : Claim7 := { stood := { row := namesExtractsRow, standIns := [], harness := (true, "0bea800bbc62fcf0c8c12df3dd3b051331b517c8802f3650873e265449bfb88d"), looks := false }, kinds := [], alts := [], laidByText := true, laidKinds := [.data, .pinned], laidTests := true, laidLooks := .later }
def NamesExtractsCardSaid : Prop := Claim7.holds Tryd.pinned (.plain (OpenSpec.ofChange namesExtractsSpec)) namesExtractsCard

/-- THE TIED CARD OF 'canopylaw02.NamesBack'. -/
def namesBackCard : Claim7 := { stood := { row := namesBackRow, standIns := [], harness := (true, "0bea800bbc62fcf0c8c12df3dd3b051331b517c8802f3650873e265449bfb88d"), looks := false }, kinds := [], alts := [], laidByText := true, laidKinds := [.data, .pinned], laidTests := true, laidLooks := .later }
def NamesBackCardSaid : Prop := Claim7.holds Tryd.pinned (.plain (OpenSpec.ofChange namesBackSpec)) namesBackCard

/-- THE TIED CARD OF 'canopytop.TopNames'. -/
def topNamesCard : Claim7 := { stood := { row := topNamesRow, standIns := [], harness := (true, "0bea800bbc62fcf0c8c12df3dd3b051331b517c8802f3650873e265449bfb88d"), looks := false }, kinds := [], alts := [], laidByText := true, laidKinds := [.data, .pinned], laidTests := true, laidLooks := .later }
def TopNamesCardSaid : Prop := Claim7.holds Tryd.pinned (.plain (OpenSpec.ofChange topNamesSpec)) topNamesCard

/-- THE TIED CARD OF 'canopylaw25.CustomOnce'. -/
def customOnceCard : Claim7 := { stood := { row := customOnceRow, standIns := [], harness := (true, "0bea800bbc62fcf0c8c12df3dd3b051331b517c8802f3650873e265449bfb88d"), looks := false }, kinds := [], alts := [], laidByText := true, laidKinds := [.data, .pinned], laidTests := true, laidLooks := .later }
def CustomOnceCardSaid : Prop := Claim7.holds Tryd.pinned (.plain (OpenSpec.ofChange customOnceSpec)) customOnceCard

/-- THE TIED CARD OF 'canopylaw25.CustomFurther'. -/
def customFurtherCard : Claim7 := { stood := { row := customFurtherRow, standIns := [], harness := (true, "0bea800bbc62fcf0c8c12df3dd3b051331b517c8802f3650873e265449bfb88d"), looks := false }, kinds := [], alts := [], laidByText := true, laidKinds := [.data, .pinned], laidTests := true, laidLooks := .later }
def CustomFurtherCardSaid : Prop := Claim7.holds Tryd.pinned (.plain (OpenSpec.ofChange customFurtherSpec)) customFurtherCard

/-- THE SECOND FORM's CARD OF 'canopylaw02.NamesRunes'. -/
def namesRunesUptoCard : Claim7 := { stood := { row := namesRunesUptoRow, standIns := [], harness := (true, "0bea800bbc62fcf0c8c12df3dd3b051331b517c8802f3650873e265449bfb88d"), looks := false }, kinds := [], alts := [], laidByText := true, laidKinds := [.data, .pinned], laidTests := true, laidLooks := .later }
def NamesRunesUptoCardSaid : Prop := Claim7.holds Tryd.pinned (.plain (OpenSpec.upto namesRunesSpec)) namesRunesUptoCard

/-- THE SECOND FORM's CARD OF 'canopylaw02.NamesLonger'. -/
def namesLongerUptoCard : Claim7 := { stood := { row := namesLongerUptoRow, standIns := [], harness := (true, "0bea800bbc62fcf0c8c12df3dd3b051331b517c8802f3650873e265449bfb88d"), looks := false }, kinds := [], alts := [], laidByText := true, laidKinds := [.data, .pinned], laidTests := true, laidLooks := .later }
def NamesLongerUptoCardSaid : Prop := Claim7.holds Tryd.pinned (.plain (OpenSpec.upto namesLongerSpec)) namesLongerUptoCard

/-- THE SECOND FORM's CARD OF 'canopylaw02.NamesKinds'. -/
def namesKindsUptoCard : Claim7 := { stood := { row := namesKindsUptoRow, standIns := [], harness := (true, "0bea800bbc62fcf0c8c12df3dd3b051331b517c8802f3650873e265449bfb88d"), looks := false }, kinds := [], alts := [], laidByText := true, laidKinds := [.data, .pinned], laidTests := true, laidLooks := .later }
def NamesKindsUptoCardSaid : Prop := Claim7.holds Tryd.pinned (.plain (OpenSpec.upto namesKindsSpec)) namesKindsUptoCard

/-- THE SECOND FORM's CARD OF 'canopylaw02.NamesAmong'. -/
def namesAmongUptoCard : Claim7 := { stood := { row := namesAmongUptoRow, standIns := [], harness := (true, "0bea800bbc62fcf0c8c12df3dd3b051331b517c8802f3650873e265449bfb88d"), looks := false }, kinds := [], alts := [], laidByText := true, laidKinds := [.data, .pinned], laidTests := true, laidLooks := .later }
def NamesAmongUptoCardSaid : Prop := Claim7.holds Tryd.pinned (.plain (OpenSpec.upto namesAmongSpec)) namesAmongUptoCard

/-- THE SECOND FORM's CARD OF 'canopylaw02.NamesParts'. -/
def namesPartsUptoCard : Claim7 := { stood := { row := namesPartsUptoRow, standIns := [], harness := (true, "0bea800bbc62fcf0c8c12df3dd3b051331b517c8802f3650873e265449bfb88d"), looks := false }, kinds := [], alts := [], laidByText := true, laidKinds := [.data, .pinned], laidTests := true, laidLooks := .later }
def NamesPartsUptoCardSaid : Prop := Claim7.holds Tryd.pinned (.plain (OpenSpec.upto namesPartsSpec)) namesPartsUptoCard

/-- THE SECOND FORM's CARD OF 'canopylaw02.NamesExtracts'. -/
def namesExtractsUptoCard : Claim7 := { stood := { row := namesExtractsUptoRow, standIns := [], harness := (true, "0bea800bbc62fcf0c8c12df3dd3b051331b517c8802f3650873e265449bfb88d"), looks := false }, kinds := [], alts := [], laidByText := true, laidKinds := [.data, .pinned], laidTests := true, laidLooks := .later }
def NamesExtractsUptoCardSaid : Prop := Claim7.holds Tryd.pinned (.plain (OpenSpec.upto namesExtractsSpec)) namesExtractsUptoCard

/-- THE SECOND FORM's CARD OF 'canopylaw02.NamesBack'. -/
def namesBackUptoCard : Claim7 := { stood := { row := namesBackUptoRow, standIns := [], harness := (true, "0bea800bbc62fcf0c8c12df3dd3b051331b517c8802f3650873e265449bfb88d"), looks := false }, kinds := [], alts := [], laidByText := true, laidKinds := [.data, .pinned], laidTests := true, laidLooks := .later }
def NamesBackUptoCardSaid : Prop := Claim7.holds Tryd.pinned (.plain (OpenSpec.upto namesBackSpec)) namesBackUptoCard

/-- THE SECOND FORM's CARD OF 'canopytop.TopNames'. -/
def topNamesUptoCard : Claim7 := { stood := { row := topNamesUptoRow, standIns := [], harness := (true, "0bea800bbc62fcf0c8c12df3dd3b051331b517c8802f3650873e265449bfb88d"), looks := false }, kinds := [], alts := [], laidByText := true, laidKinds := [.data, .pinned], laidTests := true, laidLooks := .later }
def TopNamesUptoCardSaid : Prop := Claim7.holds Tryd.pinned (.plain (OpenSpec.upto topNamesSpec)) topNamesUptoCard

/-- THE SECOND FORM's CARD OF 'canopylaw25.CustomOnce'. -/
def customOnceUptoCard : Claim7 := { stood := { row := customOnceUptoRow, standIns := [], harness := (true, "0bea800bbc62fcf0c8c12df3dd3b051331b517c8802f3650873e265449bfb88d"), looks := false }, kinds := [], alts := [], laidByText := true, laidKinds := [.data, .pinned], laidTests := true, laidLooks := .later }
def CustomOnceUptoCardSaid : Prop := Claim7.holds Tryd.pinned (.plain (OpenSpec.upto customOnceSpec)) customOnceUptoCard

/-- THE SECOND FORM's CARD OF 'canopylaw25.CustomFurther'. -/
def customFurtherUptoCard : Claim7 := { stood := { row := customFurtherUptoRow, standIns := [], harness := (true, "0bea800bbc62fcf0c8c12df3dd3b051331b517c8802f3650873e265449bfb88d"), looks := false }, kinds := [], alts := [], laidByText := true, laidKinds := [.data, .pinned], laidTests := true, laidLooks := .later }
def CustomFurtherUptoCardSaid : Prop := Claim7.holds Tryd.pinned (.plain (OpenSpec.upto customFurtherSpec)) customFurtherUptoCard
end Rows
end Go.Proofs.YtejglgffianhgaaDoor
