/-
  DERIVED. GIVEN WITH THE SEED: THE CARDS: each row of YtpnnhokaehghfaaDoorRows.lean that lists a variable, with what it lists TIED to the program's text (the seventh form; the later family's looks); each row that meets fmt, with fmt's text TOLD by the authors' own Lean function (tested against real Go, not proved from fmt's source: count such statements apart). THE CARD IS WHAT COUNTS. Prove the row's statement (the work); the ties are given (YtpnnhokaehghfaaDoorTie.lean); close each card by the builder's one call (the guide's Derived/Test/ToyasCard.lean, 'card_holds'). Laid BY PROGRAM, IN A SANDBOX (cutbox-door.mjs). By AI agents, Wed Nov 11 2026. No macro, syntax, notation, axiom, sorry.
-/
import Derived.Test.YtpnnhokaehghfaaDoorRows
import GoSem.ClaimSeven
namespace Go.Proofs.YtpnnhokaehghfaaDoor
namespace Rows

/-- THE TIED CARD OF 'laws.FnFoundAgain'. -/
def fnFoundAgainCard : Claim7 := { stood := { row := fnFoundAgainRow, standIns := [], harness := (true, "39e057f20d54b29fca81322e2d9f84b6ee6a62b32f0662a333f381f2868a375d"), looks := false }, kinds := [], alts := [], laidByText := true, laidKinds := [.data, .pinned], laidTests := true, laidLooks := .later }
def FnFoundAgainCardSaid : Prop := Claim7.holds Tryd.pinned (.plain (OpenSpec.ofChange fnFoundAgainSpec)) fnFoundAgainCard

/-- THE SECOND FORM's CARD OF 'laws.FnFoundAgain'. -/
def fnFoundAgainUptoCard : Claim7 := { stood := { row := fnFoundAgainUptoRow, standIns := [], harness := (true, "39e057f20d54b29fca81322e2d9f84b6ee6a62b32f0662a333f381f2868a375d"), looks := false }, kinds := [], alts := [], laidByText := true, laidKinds := [.data, .pinned], laidTests := true, laidLooks := .later }
def FnFoundAgainUptoCardSaid : Prop := Claim7.holds Tryd.pinned (.plain (OpenSpec.upto fnFoundAgainSpec)) fnFoundAgainUptoCard
end Rows
end Go.Proofs.YtpnnhokaehghfaaDoor
