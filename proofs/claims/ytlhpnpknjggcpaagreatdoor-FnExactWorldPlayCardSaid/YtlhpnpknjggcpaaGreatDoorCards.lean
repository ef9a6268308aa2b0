/-
  DERIVED. GIVEN WITH THE SEED: THE CARDS: each row of YtlhpnpknjggcpaaGreatDoorRows.lean that lists a variable, with what it lists TIED to the program's text (the seventh form; the later family's looks); each row that meets fmt, with fmt's text TOLD by the authors' own Lean function (tested against real Go, not proved from fmt's source: count such statements apart). THE CARD IS WHAT COUNTS. Prove the row's statement (the work); the ties are given (YtlhpnpknjggcpaaGreatDoorTie.lean); close each card by the builder's one call (the guide's Derived/Test/ToyasCard.lean, 'card_holds'). Laid BY PROGRAM, IN A SANDBOX (cutbox-door.mjs). By AI agents, Wed Nov 11 2026. No macro, syntax, notation, axiom, sorry.
-/
import Derived.Test.YtlhpnpknjggcpaaGreatDoorRows
import GoSem.ClaimSeven
namespace Go.Proofs.YtlhpnpknjggcpaaGreatDoor
namespace Rows

/-- THE TIED CARD OF 'laws.FnExactWorldPlay'. -/
def fnExactWorldPlayCard : Claim7 := { stood := { row := fnExactWorldPlayRow, standIns := [], harness := (true, "110baaa28d7a7b15fd00adedebe75d0f45c6ac1cbeb289ce95ae80664977b594"), looks := false }, kinds := [], alts := [], laidByText := true, laidKinds := [.data, .pinned], laidTests := true, laidLooks := .later }
def FnExactWorldPlayCardSaid : Prop := Claim7.holds Tryz.pinned (.plain (OpenSpec.ofChange fnExactWorldPlaySpec)) fnExactWorldPlayCard

/-- THE SECOND FORM's CARD OF 'laws.FnExactWorldPlay'. -/
def fnExactWorldPlayUptoCard : Claim7 := { stood := { row := fnExactWorldPlayUptoRow, standIns := [], harness := (true, "110baaa28d7a7b15fd00adedebe75d0f45c6ac1cbeb289ce95ae80664977b594"), looks := false }, kinds := [], alts := [], laidByText := true, laidKinds := [.data, .pinned], laidTests := true, laidLooks := .later }
def FnExactWorldPlayUptoCardSaid : Prop := Claim7.holds Tryz.pinned (.plain (OpenSpec.upto fnExactWorldPlaySpec)) fnExactWorldPlayUptoCard
end Rows
end Go.Proofs.YtlhpnpknjggcpaaGreatDoor
