/- The data of kinds and graphs, as the statements hand them over. -/
import Derived.Test.YtkoljcjliihiiaaDoorForm
import Derived.Test.YtkoljcjliihiiaaDoorVmRow
import Derived.Test.YtkoljcjliihiiaaDoorLawAlike
namespace Go.Proofs.YtkoljcjliihiiaaDoor.VM
open Go Sy
theorem ints_shape {k : Nat} {c : List PV} (h : Tyd Tryd.prog (k + 2) 23 c) : ∃ l : List Int, c = [.sl 2 (l.map eInt)] ∧ l.length < 9223372036854000000 := by
  obtain ⟨es, rfl, h3, h4⟩ := tyd_slice Tryd.underlying23 h
  obtain ⟨l, rfl⟩ := all_map (f := eInt) (l := es) fun y hy => by
    obtain ⟨c, rfl, h9⟩ := h4 y hy
    obtain ⟨n, rfl, _⟩ := tyd_int Tryd.underlying2 h9
    exact ⟨n, rfl⟩
  refine ⟨l, rfl, ?_⟩
  rw [List.length_map, show Tryd.prog.bytesOf 2 = 8 from by kernel_rfl] at h3
  omega
theorem strings_shape {k : Nat} {c : List PV} (h : Tyd Tryd.prog (k + 2) 22 c) : ∃ l : List ByteArray, c = [.sl 9 (l.map eStr)] ∧ l.length < 9223372036854000000 ∧ ∀ s ∈ l, s.size < 9223372036854000000 := by
  obtain ⟨es, rfl, h3, h4⟩ := tyd_slice Tryd.underlying22 h
  obtain ⟨l, rfl, hl⟩ := all_mapP (f := eStr) (p := fun s => s.size < 9223372036854000000) (l := es) fun y hy => by
    obtain ⟨c, rfl, h9⟩ := h4 y hy
    obtain ⟨n, rfl, hn⟩ := tyd_string Tryd.underlying9 h9
    exact ⟨n, rfl, by omega⟩
  refine ⟨l, rfl, ?_, hl⟩
  rw [List.length_map, show Tryd.prog.bytesOf 9 = 16 from by kernel_rfl] at h3
  omega
theorem obj_shape {k : Nat} {c : List PV} (h : Tyd Tryd.prog (k + 3) 48 c) : ∃ x : Obj', mkEl (Tryd.prog.cellsOf 48) c = eObj x ∧ x.vals.length < 9223372036854000000 := by
  obtain ⟨c1, r1, rfl, h1, h⟩ := tyfs_cons (tyd_struct Tryd.underlying48 h)
  obtain ⟨c2, r2, rfl, h2, h⟩ := tyfs_cons h
  cases tyfs_nil h
  obtain ⟨n1, rfl, _⟩ := tyd_int Tryd.underlying2 h1
  obtain ⟨l, rfl, hl⟩ := ints_shape h2
  exact ⟨⟨n1, l⟩, rfl, hl⟩
theorem objs_shape {k : Nat} {c : List PV} (h : Tyd Tryd.prog (k + 4) 24 c) : ∃ l : List Obj', c = [.sl 48 (l.map eObj)] ∧ l.length < 9223372036854000000 ∧ ∀ x ∈ l, x.vals.length < 9223372036854000000 := by
  obtain ⟨es, rfl, h3, h4⟩ := tyd_slice Tryd.underlying24 h
  obtain ⟨l, rfl, hl⟩ := all_mapP (f := eObj) (p := fun x => x.vals.length < 9223372036854000000) (l := es) fun y hy => by
    obtain ⟨c, rfl, h5⟩ := h4 y hy
    exact obj_shape h5
  refine ⟨l, rfl, ?_, hl⟩
  rw [List.length_map, show Tryd.prog.bytesOf 48 = 32 from by kernel_rfl] at h3
  omega
theorem graph_shape {k : Nat} {c : List PV} (h : Tyd Tryd.prog (k + 5) 26 c) : ∃ g : Gr, c = [.sl 2 (g.roots.map eInt), .sl 48 (g.nodes.map eObj)] ∧ g.roots.length < 9223372036854000000 ∧ g.nodes.length < 9223372036854000000 ∧ ∀ x ∈ g.nodes, x.vals.length < 9223372036854000000 := by
  obtain ⟨c1, r1, rfl, h1, h⟩ := tyfs_cons (tyd_struct Tryd.underlying26 h)
  obtain ⟨c2, r2, rfl, h2, h⟩ := tyfs_cons h
  cases tyfs_nil h
  obtain ⟨l1, rfl, g1⟩ := ints_shape h1
  obtain ⟨l2, rfl, g2, g3⟩ := objs_shape h2
  exact ⟨⟨l1, l2⟩, rfl, g1, g2, g3⟩
end Go.Proofs.YtkoljcjliihiiaaDoor.VM
