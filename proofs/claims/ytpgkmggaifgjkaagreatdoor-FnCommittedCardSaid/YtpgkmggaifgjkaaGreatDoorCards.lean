/-
  DERIVED. GIVEN WITH THE SEED: THE CARDS: each row of YtpgkmggaifgjkaaGreatDoorRows.lean that lists a variable, with what it lists TIED to the program's text (the seventh form; the later family's looks); each row that meets fmt, with fmt's text TOLD by the authors' own Lean function (tested against real Go, not proved from fmt's source: count such statements apart). THE CARD IS WHAT COUNTS. Prove the row's statement (the work); the ties are given (YtpgkmggaifgjkaaGreatDoorTie.lean); close each card by the builder's one call (the guide's Derived/Test/ToyasCard.lean, 'card_holds'). Laid BY PROGRAM, IN A SANDBOX (cutbox-door.mjs). By AI agents, Wed Nov 11 2026. No macro, syntax, notation, axiom, sorry.
-/
import Derived.Test.YtpgkmggaifgjkaaGreatDoorRows
import GoSem.ClaimSeven
namespace Go.Proofs.YtpgkmggaifgjkaaGreatDoor
namespace Rows

/-- THE TIED CARD OF 'laws.FnIdle'. -/
def fnIdleCard : Claim7 := { stood := { row := fnIdleRow, standIns := [], harness := (true, "7dcbdfa2db63b5ed004b638c7ff98449f952a1d968ad7befaef64b4f5b50af52"), looks := false }, kinds := [], alts := [], laidByText := true, laidKinds := [.data, .pinned], laidTests := true, laidLooks := .later }
def FnIdleCardSaid : Prop := Claim7.holds Tryz.pinned (.plain (OpenSpec.ofChange fnIdleSpec)) fnIdleCard

/-- THE TIED CARD OF 'laws.FnWorldCrashed'. -/
def fnWorldCrashedCard : Claim7 := { stood := { row := fnWorldCrashedRow, standIns := [], harness := (true, "7dcbdfa2db63b5ed004b638c7ff98449f952a1d968ad7befaef64b4f5b50af52"), looks := false }, kinds := [], alts := [], laidByText := true, laidKinds := [.data, .pinned], laidTests := true, laidLooks := .later }
def FnWorldCrashedCardSaid : Prop := Claim7.holds Tryz.pinned (.plain (OpenSpec.ofChange fnWorldCrashedSpec)) fnWorldCrashedCard

/-- THE TIED CARD OF 'laws.FnDenied'. -/
def fnDeniedCard : Claim7 := { stood := { row := fnDeniedRow, standIns := [], harness := (true, "7dcbdfa2db63b5ed004b638c7ff98449f952a1d968ad7befaef64b4f5b50af52"), looks := false }, kinds := [], alts := [], laidByText := true, laidKinds := [.data, .pinned], laidTests := true, laidLooks := .later }
def FnDeniedCardSaid : Prop := Claim7.holds Tryz.pinned (.plain (OpenSpec.ofChange fnDeniedSpec)) fnDeniedCard

/-- THE TIED CARD OF 'laws.FnCommitted'. -/
def fnCommittedCard : Claim7 := { stood := { row := fnCommittedRow, standIns := [], harness := (true, "7dcbdfa2db63b5ed004b638c7ff98449f952a1d968ad7befaef64b4f5b50af52"), looks := false }, kinds := [], alts := [], laidByText := true, laidKinds := [.data, .pinned], laidTests := true, laidLooks := .later }
def FnCommittedCardSaid : Prop := Claim7.holds Tryz.pinned (.plain (OpenSpec.ofChange fnCommittedSpec)) fnCommittedCard

/-- THE TIED CARD OF 'laws.FnAborted'. -/
def fnAbortedCard : Claim7 := { stood := { row := fnAbortedRow, standIns := [], harness := (true, "7dcbdfa2db63b5ed004b638c7ff98449f952a1d968ad7befaef64b4f5b50af52"), looks := false }, kinds := [], alts := [], laidByText := true, laidKinds := [.data, .pinned], laidTests := true, laidLooks := .later }
def FnAbortedCardSaid : Prop := Claim7.holds Tryz.pinned (.plain (OpenSpec.ofChange fnAbortedSpec)) fnAbortedCard

/-- THE SECOND FORM's CARD OF 'laws.FnIdle'. -/
def fnIdleUptoCard : Claim7 := { stood := { row := fnIdleUptoRow, standIns := [], harness := (true, "7dcbdfa2db63b5ed004b638c7ff98449f952a1d968ad7befaef64b4f5b50af52"), looks := false }, kinds := [], alts := [], laidByText := true, laidKinds := [.data, .pinned], laidTests := true, laidLooks := .later }
def FnIdleUptoCardSaid : Prop := Claim7.holds Tryz.pinned (.plain (OpenSpec.upto fnIdleSpec)) fnIdleUptoCard

/-- THE SECOND FORM's CARD OF 'laws.FnWorldCrashed'. -/
def fnWorldCrashedUptoCard : Claim7 := { stood := { row := fnWorldCrashedUptoRow, standIns := [], harness := (true, "7dcbdfa2db63b5ed004b638c7ff98449f952a1d968ad7befaef64b4f5b50af52"), looks := false }, kinds := [], alts := [], laidByText := true, laidKinds := [.data, .pinned], laidTests := true, laidLooks := .later }
def FnWorldCrashedUptoCardSaid : Prop := Claim7.holds Tryz.pinned (.plain (OpenSpec.upto fnWorldCrashedSpec)) fnWorldCrashedUptoCard

/-- THE SECOND FORM's CARD OF 'laws.FnDenied'. -/
def fnDeniedUptoCard : Claim7 := { stood := { row := fnDeniedUptoRow, standIns := [], harness := (true, "7dcbdfa2db63b5ed004b638c7ff98449f952a1d968ad7befaef64b4f5b50af52"), looks := false }, kinds := [], alts := [], laidByText := true, laidKinds := [.data, .pinned], laidTests := true, laidLooks := .later }
def FnDeniedUptoCardSaid : Prop := Claim7.holds Tryz.pinned (.plain (OpenSpec.upto fnDeniedSpec)) fnDeniedUptoCard

/-- THE SECOND FORM's CARD OF 'laws.FnCommitted'. -/
def fnCommittedUptoCard : Claim7 := { stood := { row := fnCommittedUptoRow, standIns := [], harness := (true, "7dcbdfa2db63b5ed004b638c7ff98449f952a1d968ad7befaef64b4f5b50af52"), looks := false }, kinds := [], alts := [], laidByText := true, laidKinds := [.data, .pinned], laidTests := true, laidLooks := .later }
def FnCommittedUptoCardSaid : Prop := Claim7.holds Tryz.pinned (.plain (OpenSpec.upto fnCommittedSpec)) fnCommittedUptoCard

/-- THE SECOND FORM's CARD OF 'laws.FnAborted'. -/
def fnAbortedUptoCard : Claim7 := { stood := { row := fnAbortedUptoRow, standIns := [], harness := (true, "7dcbdfa2db63b5ed004b638c7ff98449f952a1d968ad7befaef64b4f5b50af52"), looks := false }, kinds := [], alts := [], laidByText := true, laidKinds := [.data, .pinned], laidTests := true, laidLooks := .later }
def FnAbortedUptoCardSaid : Prop := Claim7.holds Tryz.pinned (.plain (OpenSpec.upto fnAbortedSpec)) fnAbortedUptoCard
end Rows
end Go.Proofs.YtpgkmggaifgjkaaGreatDoor
