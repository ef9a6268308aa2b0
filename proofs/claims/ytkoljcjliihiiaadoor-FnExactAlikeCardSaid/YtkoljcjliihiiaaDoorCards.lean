/-
  DERIVED. GIVEN WITH THE SEED: THE CARDS: each row of YtkoljcjliihiiaaDoorRows.lean that lists a variable, with what it lists TIED to the program's text (the seventh form; the later family's looks); each row that meets fmt, with fmt's text TOLD by the authors' own Lean function (tested against real Go, not proved from fmt's source: count such statements apart). THE CARD IS WHAT COUNTS. Prove the row's statement (the work); the ties are given (YtkoljcjliihiiaaDoorTie.lean); close each card by the builder's one call (the guide's Derived/Test/ToyasCard.lean, 'card_holds'). Laid BY PROGRAM, IN A SANDBOX (cutbox-door.mjs). By AI agents, Wed Nov 11 2026. No macro, syntax, notation, axiom, sorry.
-/
import Derived.Test.YtkoljcjliihiiaaDoorRows
import GoSem.ClaimSeven
namespace Go.Proofs.YtkoljcjliihiiaaDoor
namespace Rows

/-- THE TIED CARD OF 'laws.FnExactAlike'. -/
def fnExactAlikeCard : Claim7 := { stood := { row := fnExactAlikeRow, standIns := [], harness := (true, "56edf10bdfcbb95126428954eb21f1a0e8ccbfac65b997105c78b82e966cd770"), looks := false }, kinds := [], alts := [], laidByText := true, laidKinds := [.data, .pinned], laidTests := true, laidLooks := .later }
def FnExactAlikeCardSaid : Prop := Claim7.holds Tryd.pinned (.plain (OpenSpec.ofChange fnExactAlikeSpec)) fnExactAlikeCard

/-- THE SECOND FORM's CARD OF 'laws.FnExactAlike'. -/
def fnExactAlikeUptoCard : Claim7 := { stood := { row := fnExactAlikeUptoRow, standIns := [], harness := (true, "56edf10bdfcbb95126428954eb21f1a0e8ccbfac65b997105c78b82e966cd770"), looks := false }, kinds := [], alts := [], laidByText := true, laidKinds := [.data, .pinned], laidTests := true, laidLooks := .later }
def FnExactAlikeUptoCardSaid : Prop := Claim7.holds Tryd.pinned (.plain (OpenSpec.upto fnExactAlikeSpec)) fnExactAlikeUptoCard
end Rows
end Go.Proofs.YtkoljcjliihiiaaDoor
