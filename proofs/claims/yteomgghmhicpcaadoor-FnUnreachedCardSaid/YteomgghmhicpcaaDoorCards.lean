/-
  DERIVED. GIVEN WITH THE SEED: THE CARDS: each row of YteomgghmhicpcaaDoorRows.lean that lists a variable, with what it lists TIED to the program's text (the seventh form; the later family's looks); each row that meets fmt, with fmt's text TOLD by the authors' own Lean function (tested against real Go, not proved from fmt's source: count such statements apart). THE CARD IS WHAT COUNTS. Prove the row's statement (the work); the ties are given (YteomgghmhicpcaaDoorTie.lean); close each card by the builder's one call (the guide's Derived/Test/ToyasCard.lean, 'card_holds'). Laid BY PROGRAM, IN A SANDBOX (cutbox-door.mjs). By AI agents, Wed Nov 11 2026. No macro, syntax, notation, axiom, sorry.
-/
import Derived.Test.YteomgghmhicpcaaDoorRows
import GoSem.ClaimSeven
namespace Go.Proofs.YteomgghmhicpcaaDoor
namespace Rows

/-- THE TIED CARD OF 'laws.FnUnreached'. -/
def fnUnreachedCard : Claim7 := { stood := { row := fnUnreachedRow, standIns := [], harness := (true, "1bd0753f282bc52fc393b8c6b408b5f277c46bea85c5fdf2b73f61828e656327"), looks := false }, kinds := [], alts := [], laidByText := true, laidKinds := [.data, .pinned], laidTests := true, laidLooks := .later }
def FnUnreachedCardSaid : Prop := Claim7.holds Tryd.pinned (.plain (OpenSpec.ofChange fnUnreachedSpec)) fnUnreachedCard

/-- THE TIED CARD OF 'laws.FnAlike'. -/
def fnAlikeCard : Claim7 := { stood := { row := fnAlikeRow, standIns := [], harness := (true, "1bd0753f282bc52fc393b8c6b408b5f277c46bea85c5fdf2b73f61828e656327"), looks := false }, kinds := [], alts := [], laidByText := true, laidKinds := [.data, .pinned], laidTests := true, laidLooks := .later }
def FnAlikeCardSaid : Prop := Claim7.holds Tryd.pinned (.plain (OpenSpec.ofChange fnAlikeSpec)) fnAlikeCard

/-- THE TIED CARD OF 'laws.FnExactPlain'. -/
def fnExactPlainCard : Claim7 := { stood := { row := fnExactPlainRow, standIns := [], harness := (true, "1bd0753f282bc52fc393b8c6b408b5f277c46bea85c5fdf2b73f61828e656327"), looks := false }, kinds := [], alts := [], laidByText := true, laidKinds := [.data, .pinned], laidTests := true, laidLooks := .later }
def FnExactPlainCardSaid : Prop := Claim7.holds Tryd.pinned (.plain (OpenSpec.ofChange fnExactPlainSpec)) fnExactPlainCard

/-- THE TIED CARD OF 'laws.FnFoundAgain'. -/
def fnFoundAgainCard : Claim7 := { stood := { row := fnFoundAgainRow, standIns := [], harness := (true, "1bd0753f282bc52fc393b8c6b408b5f277c46bea85c5fdf2b73f61828e656327"), looks := false }, kinds := [], alts := [], laidByText := true, laidKinds := [.data, .pinned], laidTests := true, laidLooks := .later }
def FnFoundAgainCardSaid : Prop := Claim7.holds Tryd.pinned (.plain (OpenSpec.ofChange fnFoundAgainSpec)) fnFoundAgainCard

/-- THE TIED CARD OF 'laws.FnPlain'. -/
def fnPlainCard : Claim7 := { stood := { row := fnPlainRow, standIns := [], harness := (true, "1bd0753f282bc52fc393b8c6b408b5f277c46bea85c5fdf2b73f61828e656327"), looks := false }, kinds := [], alts := [], laidByText := true, laidKinds := [.data, .pinned], laidTests := true, laidLooks := .later }
def FnPlainCardSaid : Prop := Claim7.holds Tryd.pinned (.plain (OpenSpec.ofChange fnPlainSpec)) fnPlainCard

/-- THE SECOND FORM's CARD OF 'laws.FnUnreached'. -/
def fnUnreachedUptoCard : Claim7 := { stood := { row := fnUnreachedUptoRow, standIns := [], harness := (true, "1bd0753f282bc52fc393b8c6b408b5f277c46bea85c5fdf2b73f61828e656327"), looks := false }, kinds := [], alts := [], laidByText := true, laidKinds := [.data, .pinned], laidTests := true, laidLooks := .later }
def FnUnreachedUptoCardSaid : Prop := Claim7.holds Tryd.pinned (.plain (OpenSpec.upto fnUnreachedSpec)) fnUnreachedUptoCard

/-- THE SECOND FORM's CARD OF 'laws.FnAlike'. -/
def fnAlikeUptoCard : Claim7 := { stood := { row := fnAlikeUptoRow, standIns := [], harness := (true, "1bd0753f282bc52fc393b8c6b408b5f277c46bea85c5fdf2b73f61828e656327"), looks := false }, kinds := [], alts := [], laidByText := true, laidKinds := [.data, .pinned], laidTests := true, laidLooks := .later }
def FnAlikeUptoCardSaid : Prop := Claim7.holds Tryd.pinned (.plain (OpenSpec.upto fnAlikeSpec)) fnAlikeUptoCard

/-- THE SECOND FORM's CARD OF 'laws.FnExactPlain'. -/
def fnExactPlainUptoCard : Claim7 := { stood := { row := fnExactPlainUptoRow, standIns := [], harness := (true, "1bd0753f282bc52fc393b8c6b408b5f277c46bea85c5fdf2b73f61828e656327"), looks := false }, kinds := [], alts := [], laidByText := true, laidKinds := [.data, .pinned], laidTests := true, laidLooks := .later }
def FnExactPlainUptoCardSaid : Prop := Claim7.holds Tryd.pinned (.plain (OpenSpec.upto fnExactPlainSpec)) fnExactPlainUptoCard

/-- THE SECOND FORM's CARD OF 'laws.FnFoundAgain'. -/
def fnFoundAgainUptoCard : Claim7 := { stood := { row := fnFoundAgainUptoRow, standIns := [], harness := (true, "1bd0753f282bc52fc393b8c6b408b5f277c46bea85c5fdf2b73f61828e656327"), looks := false }, kinds := [], alts := [], laidByText := true, laidKinds := [.data, .pinned], laidTests := true, laidLooks := .later }
def FnFoundAgainUptoCardSaid : Prop := Claim7.holds Tryd.pinned (.plain (OpenSpec.upto fnFoundAgainSpec)) fnFoundAgainUptoCard

/-- THE SECOND FORM's CARD OF 'laws.FnPlain'. -/
def fnPlainUptoCard : Claim7 := { stood := { row := fnPlainUptoRow, standIns := [], harness := (true, "1bd0753f282bc52fc393b8c6b408b5f277c46bea85c5fdf2b73f61828e656327"), looks := false }, kinds := [], alts := [], laidByText := true, laidKinds := [.data, .pinned], laidTests := true, laidLooks := .later }
def FnPlainUptoCardSaid : Prop := Claim7.holds Tryd.pinned (.plain (OpenSpec.upto fnPlainSpec)) fnPlainUptoCard
end Rows
end Go.Proofs.YteomgghmhicpcaaDoor
