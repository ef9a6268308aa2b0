/- The data of acts and answers, as the statements hand them over. -/
import Derived.Test.YtkoljcjliihiiaaForm
import Derived.Test.YtkoljcjliihiiaaVmRow
import Derived.Test.YtkoljcjliihiiaaLawStripped
namespace Go.Proofs.Ytkoljcjliihiiaa.VM
open Go Sy
theorem act_shape {k : Nat} {c : List PV} (h : Tyd Try.prog (k + 3) 68 c) : ∃ x : Act', mkEl (Try.prog.cellsOf 68) c = eAct x ∧ x.keep.length < 9223372036854000000 := by
  obtain ⟨c1, r1, rfl, h1, h⟩ := tyfs_cons (tyd_struct Try.underlying68 h)
  obtain ⟨c2, r2, rfl, h2, h⟩ := tyfs_cons h
  obtain ⟨c3, r3, rfl, h3, h⟩ := tyfs_cons h
  obtain ⟨c4, r4, rfl, h4, h⟩ := tyfs_cons h
  obtain ⟨c5, r5, rfl, h5, h⟩ := tyfs_cons h
  obtain ⟨c6, r6, rfl, h6, h⟩ := tyfs_cons h
  cases tyfs_nil h
  obtain ⟨n1, rfl, _⟩ := tyd_int Try.underlying2 h1
  obtain ⟨n2, rfl, _⟩ := tyd_int Try.underlying2 h2
  obtain ⟨n3, rfl, _⟩ := tyd_int Try.underlying2 h3
  obtain ⟨n4, rfl, _⟩ := tyd_int Try.underlying2 h4
  obtain ⟨n5, rfl, _⟩ := tyd_int Try.underlying2 h5
  obtain ⟨es, rfl, h7, h8⟩ := tyd_slice Try.underlying26 h6
  obtain ⟨l, rfl⟩ := all_map (f := eInt) (l := es) fun y hy => by
    obtain ⟨c, rfl, h9⟩ := h8 y hy
    obtain ⟨n, rfl, _⟩ := tyd_int Try.underlying2 h9
    exact ⟨n, rfl⟩
  refine ⟨⟨n1, n2, n3, n4, n5, l⟩, rfl, ?_⟩
  rw [List.length_map, show Try.prog.bytesOf 2 = 8 from by kernel_rfl] at h7
  show l.length < _
  omega
theorem acts_shape {k : Nat} {c : List PV} (h : Tyd Try.prog (k + 4) 38 c) : ∃ l : List Act', c = [.sl 68 (l.map eAct)] ∧ l.length < 9223372036854000000 ∧ ∀ x ∈ l, x.keep.length < 9223372036854000000 := by
  obtain ⟨es, rfl, h3, h4⟩ := tyd_slice Try.underlying38 h
  obtain ⟨l, rfl, hl⟩ := all_mapP (f := eAct) (p := fun x => x.keep.length < 9223372036854000000) (l := es) fun y hy => by
    obtain ⟨c, rfl, h5⟩ := h4 y hy
    exact act_shape h5
  refine ⟨l, rfl, ?_, hl⟩
  rw [List.length_map, show Try.prog.bytesOf 68 = 64 from by kernel_rfl] at h3
  omega
theorem answers_shape {k : Nat} {c : List PV} (h : Tyd Try.prog (k + 3) 30 c) : ∃ l : List Ans, c = [.sl 64 (l.map eAns)] ∧ l.length < 9223372036854000000 := by
  obtain ⟨es, rfl, h3, h4⟩ := tyd_slice Try.underlying30 h
  obtain ⟨l, rfl⟩ := all_map (f := eAns) (l := es) fun y hy => by
    obtain ⟨c, rfl, h5⟩ := h4 y hy
    obtain ⟨c1, c2, rfl, h6, h7⟩ := tyfs_cons (tyd_struct Try.underlying64 h5)
    obtain ⟨c3, c4, rfl, h8, h9⟩ := tyfs_cons h7
    cases tyfs_nil h9
    obtain ⟨n1, rfl, _⟩ := tyd_int Try.underlying2 h6
    obtain ⟨n2, rfl, _⟩ := tyd_int Try.underlying2 h8
    exact ⟨⟨n1, n2⟩, rfl⟩
  refine ⟨l, rfl, ?_⟩
  rw [List.length_map, show Try.prog.bytesOf 64 = 16 from by kernel_rfl] at h3
  omega
end Go.Proofs.Ytkoljcjliihiiaa.VM
