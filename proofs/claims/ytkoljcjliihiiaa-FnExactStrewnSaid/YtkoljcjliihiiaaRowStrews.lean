/- The data of places, as the statements hand them over. -/
import Derived.Test.YtkoljcjliihiiaaRowActs
import Derived.Test.YtkoljcjliihiiaaLawStrewn2
namespace Go.Proofs.Ytkoljcjliihiiaa.VM
open Go Sy
theorem strews_shape {k : Nat} {c : List PV} (h : Tyd Try.prog (k + 3) 48 c) : ∃ l : List Strew, c = [.sl 77 (l.map eStrew)] ∧ l.length < 9223372036854000000 := by
  obtain ⟨es, rfl, h3, h4⟩ := tyd_slice Try.underlying48 h
  obtain ⟨l, rfl⟩ := all_map (f := eStrew) (l := es) fun y hy => by
    obtain ⟨c, rfl, h5⟩ := h4 y hy
    obtain ⟨c1, r1, rfl, h1, h⟩ := tyfs_cons (tyd_struct Try.underlying77 h5)
    obtain ⟨c2, r2, rfl, h2, h⟩ := tyfs_cons h
    obtain ⟨c3, r3, rfl, h3, h⟩ := tyfs_cons h
    cases tyfs_nil h
    obtain ⟨n1, rfl, _⟩ := tyd_int Try.underlying2 h1
    obtain ⟨n2, rfl, _⟩ := tyd_int Try.underlying2 h2
    obtain ⟨n3, rfl, _⟩ := tyd_int Try.underlying2 h3
    exact ⟨⟨n1, n2, n3⟩, rfl⟩
  refine ⟨l, rfl, ?_⟩
  rw [List.length_map, show Try.prog.bytesOf 77 = 24 from by kernel_rfl] at h3
  omega
end Go.Proofs.Ytkoljcjliihiiaa.VM
