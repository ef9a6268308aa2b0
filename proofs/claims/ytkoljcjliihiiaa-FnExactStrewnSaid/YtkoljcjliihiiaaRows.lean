/-
  No cell of these rows narrows 'for every input' (looked for: loops, veiled, ifaces, maps, wideKeys, modest, calm, conditions, laid).
  DERIVED. THE GIVEN ROWS OF THIS SEAT. 5 by the template 'for every input the law returns true; each argument reads behind the call as it read before'; 0 by the template 'total and deterministic' (their statements: YtkoljcjliihiiaaTotals.lean).
  GIVEN WITH THE SEED: the statements are not yours to turn. If you find one false, say at which input.
  Laid BY PROGRAM, IN A SANDBOX (cutbox-rows.mjs): the forced cells as the released guide's own fill.sh prints them over the translation fd46de084ae8947b… (all of the seat's roots in one cut). By AI agents, Wed Nov 11 2026. No macro, syntax, notation, axiom, sorry.
-/
import Derived.Test.YtkoljcjliihiiaaChecked
import GoSem.Claim
import GoSem.ClaimJoined
import GoSem.ClaimMapViews
import Derived.JoinedTies
import Derived.KernelRfl
namespace Go.Proofs.Ytkoljcjliihiiaa
/- THE CELL 'sum', in the pinned program and in every row, IS THE sha256 OF THE DUMP (.gsa) THAT YtkoljcjliihiiaaProg.lean LOADS. Nothing in Lean hashes anything: it is a label: what it is worth is what the hold of that sum in a sandbox is worth. -/
noncomputable def Try.pinned : Pinned := { name := "ytkoljcjliihiiaa", sum := "fd46de084ae8947bff90af19ed96815e7074c3d42f224296e8cbc872655d0a5c", checked := Try.checked }
namespace Rows
def none {H : Type} : Left H := { results := [], args := [] }

/-- 'laws.FnDenies': WHATEVER THE INPUT: true; the input reads as it did. -/
def fnDeniesSpec : ChangeSpec := { name := "fnDenies", fn := fun _ => fun
  | [d] => { results := [.lit (.bool true)], args := [d] }
  | _ => none }
def fnDeniesRow : OpenClaim := { program := "ytkoljcjliihiiaa", sum := "fd46de084ae8947bff90af19ed96815e7074c3d42f224296e8cbc872655d0a5c", func := "loop.example/g00648/laws.FnDenies", spec := "fnDenies", apart := false }
def FnDeniesSaid : Prop := fnDeniesRow.holds Try.pinned (OpenSpec.ofChange fnDeniesSpec)

/-- ITS FALSE NEIGHBOUR: 'it returns false'. Refute it at one input. -/
def fnDeniesWrong : ChangeSpec := { name := "fnDenies", fn := fun _ => fun
  | [d] => { results := [.lit (.bool false)], args := [d] }
  | _ => none }
def FnDeniesWrongFalsely : Prop := fnDeniesRow.holds Try.pinned (OpenSpec.ofChange fnDeniesWrong)

/-- 'laws.FnExactDenyOf': WHATEVER THE INPUT: true; the input reads as it did. -/
def fnExactDenyOfSpec : ChangeSpec := { name := "fnExactDenyOf", fn := fun _ => fun
  | [d] => { results := [.lit (.bool true)], args := [d] }
  | _ => none }
def fnExactDenyOfRow : OpenClaim := { program := "ytkoljcjliihiiaa", sum := "fd46de084ae8947bff90af19ed96815e7074c3d42f224296e8cbc872655d0a5c", func := "loop.example/g00648/laws.FnExactDenyOf", spec := "fnExactDenyOf", apart := false }
def FnExactDenyOfSaid : Prop := fnExactDenyOfRow.holds Try.pinned (OpenSpec.ofChange fnExactDenyOfSpec)

/-- ITS FALSE NEIGHBOUR: 'it returns false'. Refute it at one input. -/
def fnExactDenyOfWrong : ChangeSpec := { name := "fnExactDenyOf", fn := fun _ => fun
  | [d] => { results := [.lit (.bool false)], args := [d] }
  | _ => none }
def FnExactDenyOfWrongFalsely : Prop := fnExactDenyOfRow.holds Try.pinned (OpenSpec.ofChange fnExactDenyOfWrong)

/-- 'laws.FnExactStripped': WHATEVER THE INPUT: true; the input reads as it did. -/
def fnExactStrippedSpec : ChangeSpec := { name := "fnExactStripped", fn := fun _ => fun
  | [d] => { results := [.lit (.bool true)], args := [d] }
  | _ => none }
def fnExactStrippedRow : OpenClaim := { program := "ytkoljcjliihiiaa", sum := "fd46de084ae8947bff90af19ed96815e7074c3d42f224296e8cbc872655d0a5c", func := "loop.example/g00648/laws.FnExactStripped", spec := "fnExactStripped", apart := false }
def FnExactStrippedSaid : Prop := fnExactStrippedRow.holds Try.pinned (OpenSpec.ofChange fnExactStrippedSpec)

/-- ITS FALSE NEIGHBOUR: 'it returns false'. Refute it at one input. -/
def fnExactStrippedWrong : ChangeSpec := { name := "fnExactStripped", fn := fun _ => fun
  | [d] => { results := [.lit (.bool false)], args := [d] }
  | _ => none }
def FnExactStrippedWrongFalsely : Prop := fnExactStrippedRow.holds Try.pinned (OpenSpec.ofChange fnExactStrippedWrong)

/-- 'laws.FnExactGathered': WHATEVER THE INPUT: true; the input reads as it did. -/
def fnExactGatheredSpec : ChangeSpec := { name := "fnExactGathered", fn := fun _ => fun
  | [d1, d2] => { results := [.lit (.bool true)], args := [d1, d2] }
  | _ => none }
def fnExactGatheredRow : OpenClaim := { program := "ytkoljcjliihiiaa", sum := "fd46de084ae8947bff90af19ed96815e7074c3d42f224296e8cbc872655d0a5c", func := "loop.example/g00648/laws.FnExactGathered", spec := "fnExactGathered", apart := false }
def FnExactGatheredSaid : Prop := fnExactGatheredRow.holds Try.pinned (OpenSpec.ofChange fnExactGatheredSpec)

/-- ITS FALSE NEIGHBOUR: 'it returns false'. Refute it at one input. -/
def fnExactGatheredWrong : ChangeSpec := { name := "fnExactGathered", fn := fun _ => fun
  | [d1, d2] => { results := [.lit (.bool false)], args := [d1, d2] }
  | _ => none }
def FnExactGatheredWrongFalsely : Prop := fnExactGatheredRow.holds Try.pinned (OpenSpec.ofChange fnExactGatheredWrong)

/-- 'laws.FnExactStrewn': WHATEVER THE INPUT: true; the input reads as it did. -/
def fnExactStrewnSpec : ChangeSpec := { name := "fnExactStrewn", fn := fun _ => fun
  | [d1, d2] => { results := [.lit (.bool true)], args := [d1, d2] }
  | _ => none }
def fnExactStrewnRow : OpenClaim := { program := "ytkoljcjliihiiaa", sum := "fd46de084ae8947bff90af19ed96815e7074c3d42f224296e8cbc872655d0a5c", func := "loop.example/g00648/laws.FnExactStrewn", spec := "fnExactStrewn", apart := false }
def FnExactStrewnSaid : Prop := fnExactStrewnRow.holds Try.pinned (OpenSpec.ofChange fnExactStrewnSpec)

/-- ITS FALSE NEIGHBOUR: 'it returns false'. Refute it at one input. -/
def fnExactStrewnWrong : ChangeSpec := { name := "fnExactStrewn", fn := fun _ => fun
  | [d1, d2] => { results := [.lit (.bool false)], args := [d1, d2] }
  | _ => none }
def FnExactStrewnWrongFalsely : Prop := fnExactStrewnRow.holds Try.pinned (OpenSpec.ofChange fnExactStrewnWrong)

/- THE SECOND FORM. 'bulk': how many values and letters a reading holds, each counted each time it is reached (what is shared counts as often as it is met; a slice's spare places count too). A statement '..UptoSaid' is the law's where the arguments, and the package variables that the reading takes, are together of bulk at most 1048576: NARROWER than '..Said'. Prove '..Said' where nothing that the law and all that it calls make is longer than what came in: it says more and counts as full. Else prove '..UptoSaid'. A law counts once. -/
mutual
def uptoBulk {H : Type} : DataW H → Nat
  | .lit (.string bytes) => bytes.length + 1
  | .lit _ => 1
  | .nil => 1
  | .ptr d => uptoBulk d + 1
  | .slice elems spare => uptoBulkAll elems + uptoBulkAll spare + 1
  | .agg parts => uptoBulkAll parts + 1
  | .iface _ d => uptoBulk d + 1
  | .map entries => uptoBulkEntries entries + 1
  | .held _ => 1
def uptoBulkAll {H : Type} : List (DataW H) → Nat
  | [] => 0
  | d :: r => uptoBulk d + uptoBulkAll r
def uptoBulkEntries {H : Type} : List (Lit × DataW H) → Nat
  | [] => 0
  | x :: r => uptoBulkEntry x + uptoBulkEntries r
def uptoBulkEntry {H : Type} : Lit × DataW H → Nat
  | (.string bytes, d) => bytes.length + uptoBulk d + 1
  | (_, d) => uptoBulk d + 1
 end
def uptoSmall : (H : Type) → List (DataW H) → Bool := fun _ ds => decide (uptoBulkAll ds ≤ 1048576)
def OpenSpec.upto (s : _root_.Go.ChangeSpec) : _root_.Go.OpenSpec := { _root_.Go.OpenSpec.ofChange s with cond := some uptoSmall }

/-- 'laws.FnDenies', WHERE WHAT IT READS IS OF BULK AT MOST 1048576: true; the input reads as it did. -/
def fnDeniesUptoRow : OpenClaim := { program := "ytkoljcjliihiiaa", sum := "fd46de084ae8947bff90af19ed96815e7074c3d42f224296e8cbc872655d0a5c", func := "loop.example/g00648/laws.FnDenies", spec := "fnDenies", apart := false, narrowed := true }
def FnDeniesUptoSaid : Prop := fnDeniesUptoRow.holds Try.pinned (OpenSpec.upto fnDeniesSpec)

/-- 'laws.FnExactDenyOf', WHERE WHAT IT READS IS OF BULK AT MOST 1048576: true; the input reads as it did. -/
def fnExactDenyOfUptoRow : OpenClaim := { program := "ytkoljcjliihiiaa", sum := "fd46de084ae8947bff90af19ed96815e7074c3d42f224296e8cbc872655d0a5c", func := "loop.example/g00648/laws.FnExactDenyOf", spec := "fnExactDenyOf", apart := false, narrowed := true }
def FnExactDenyOfUptoSaid : Prop := fnExactDenyOfUptoRow.holds Try.pinned (OpenSpec.upto fnExactDenyOfSpec)

/-- 'laws.FnExactStripped', WHERE WHAT IT READS IS OF BULK AT MOST 1048576: true; the input reads as it did. -/
def fnExactStrippedUptoRow : OpenClaim := { program := "ytkoljcjliihiiaa", sum := "fd46de084ae8947bff90af19ed96815e7074c3d42f224296e8cbc872655d0a5c", func := "loop.example/g00648/laws.FnExactStripped", spec := "fnExactStripped", apart := false, narrowed := true }
def FnExactStrippedUptoSaid : Prop := fnExactStrippedUptoRow.holds Try.pinned (OpenSpec.upto fnExactStrippedSpec)

/-- 'laws.FnExactGathered', WHERE WHAT IT READS IS OF BULK AT MOST 1048576: true; the input reads as it did. -/
def fnExactGatheredUptoRow : OpenClaim := { program := "ytkoljcjliihiiaa", sum := "fd46de084ae8947bff90af19ed96815e7074c3d42f224296e8cbc872655d0a5c", func := "loop.example/g00648/laws.FnExactGathered", spec := "fnExactGathered", apart := false, narrowed := true }
def FnExactGatheredUptoSaid : Prop := fnExactGatheredUptoRow.holds Try.pinned (OpenSpec.upto fnExactGatheredSpec)

/-- 'laws.FnExactStrewn', WHERE WHAT IT READS IS OF BULK AT MOST 1048576: true; the input reads as it did. -/
def fnExactStrewnUptoRow : OpenClaim := { program := "ytkoljcjliihiiaa", sum := "fd46de084ae8947bff90af19ed96815e7074c3d42f224296e8cbc872655d0a5c", func := "loop.example/g00648/laws.FnExactStrewn", spec := "fnExactStrewn", apart := false, narrowed := true }
def FnExactStrewnUptoSaid : Prop := fnExactStrewnUptoRow.holds Try.pinned (OpenSpec.upto fnExactStrewnSpec)

end Rows
end Go.Proofs.Ytkoljcjliihiiaa
