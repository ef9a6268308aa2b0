/- FnStrewnNone: the law holds for all inputs. No condition. -/
import Derived.Test.YtkidnhclcbcglaaGreatLawM
import Derived.Test.YtkidnhclcbcglaaGreatForm
import Derived.Test.YtkidnhclcbcglaaGreatVmRow
import Derived.Test.YtkidnhclcbcglaaGreatRows
namespace Go.Proofs.YtkidnhclcbcglaaGreat.StrewnNone
open Go Go.Proofs.YtkidnhclcbcglaaGreat.VM Go.Proofs.YtkidnhclcbcglaaGreat.VM.Sy
set_option maxRecDepth 100000
theorem qfy {k:Nat} {c:List PV} (h:Tyd Tryz.prog (k+2) 22 c):∃l:List Nat,c= [.sl vcd (l.map eU8)]∧(∀x∈l,x<256)∧l.length<9223372036854000000:=by
 obtain ⟨es,rfl,h3,h4⟩:=qkq Tryz.underlying22 h;obtain ⟨l,rfl,hl2⟩:=qeq (f:=eU8) (p:=fun x=>x<256) (l:=es) fun y hy=>by
  obtain ⟨c,rfl,h5⟩:=h4 y hy;obtain ⟨n,rfl,hn0,hn1⟩:=qsm Tryz.underlying5 h5;refine ⟨n.toNat,?_,?_⟩
  ·have:((n.toNat:Nat):Int)=n:=Int.toNat_of_nonneg hn0;simp only [eU8,this];rfl
  ·have:n≤255:=hn1;omega
 refine ⟨l,rfl,hl2,?_⟩;rw [List.length_map,show Tryz.prog.bytesOf 5=1 from by kernel_rfl] at h3;omega
theorem own:ownKnob Tryz.prog.godebug=none:=by kernel_rfl
theorem qtw:laidOutB Tryz.prog=true:=by kernel_rfl
theorem zdj (d:Nat):Go.Proofs.YtkidnhclcbcglaaGreat.VM.Good Tryz.prog writes (T d):=vz3 (by kernel_rfl) quq (by rfl) qvm.look d
theorem shape {css:List (List PV)} (h:TyAll Tryz.prog 8 Tryz.f3.params.toList css):∃(v0:List Nat),argCVs Tryz.prog Tryz.f3.params.toList css= [.sl true vcd (v0.map eU8)]∧(∀x∈v0,x<256)∧(v0.length<9223372036854000000):=by
 rw [Tryz.params3] at h⊢;obtain ⟨c0,h⟩:=qiy h;obtain ⟨cs0,rfl,h0,h⟩:=h;cases qkc h;obtain ⟨v0,rfl,g0,g1⟩:=qfy h0;exact ⟨v0,rfl,g0,g1⟩
set_option maxRecDepth 100000 in
theorem qvv (os:Os) (started:os.Started) (H:Type) (enc:TypeId×Value→H):
  ReturnsInHanded {} Tryz.checked os 3 .any (Rows.fnStrewnNoneSpec.pre6 enc Tryz.prog Tryz.f3 Rows.fnStrewnNoneRow.domain false) (Rows.fnStrewnNoneSpec.post enc Tryz.prog Tryz.f3 false true false false):=by
 refine returnsInHanded_of_change_sized (C:=Tryz.checked) own started (by kernel_rfl) Tryz.func3
  (ChangeSpec.witness6 (enc:=enc) (C:=Tryz.checked) false ⟨#[],#[.slice none 0 0],[]⟩ 8 (by kernel_rfl) (by kernel_rfl) (by kernel_rfl) (by kernel_rfl)) ?_
 intro W base args ds gs before hval hW hcnd hsz _;refine qfa (k:=8) (cal:=⟨[.ro 0],false,true,vaf (T 15) vad vcw⟩) qtw Tryz.func3 (by kernel_rfl) rfl (by rfl) Tryz.underlying4 rfl ?_ (by rw [Tryz.params3];decide+kernel) (by rw [Tryz.params3];decide+kernel) ((zdj 16).sound viw _ vup) ?_ ?_ hval hW hsz
 ·intro ds hl
  match ds,hl with
  | [d0],_=>rfl
 ·intro vs;rcases vs with _|⟨_,_⟩<;>rfl
 ·intro css h;obtain ⟨v0,h0,h1,h2⟩:=shape h;rw [h0];exact vx2 v0 h1 h2
theorem over:Rows.fnStrewnNoneRow.holds Tryz.pinned (OpenSpec.ofChange Rows.fnStrewnNoneSpec):=
 OpenClaim.holds_of_wide 3 Tryz.f3 rfl rfl rfl rfl rfl rfl rfl ⟨rfl,rfl,rfl,rfl,rfl⟩ rfl rfl rfl rfl rfl (by kernel_rfl) Tryz.func3 (by kernel_rfl)
  (of_decide_eq_true (by kernel_rfl)) (by unfold Func.isWrapper;first|(rw [if_pos (by decide+kernel)];kernel_rfl)|(rw [if_neg (by decide+kernel)];exact ⟨rfl,rfl⟩))
  (fun os started H enc _=>qvv os started H enc)
end Go.Proofs.YtkidnhclcbcglaaGreat.StrewnNone
namespace Go.Proofs.YtkidnhclcbcglaaGreat
theorem fnStrewnNone_holds:Rows.FnStrewnNoneSaid:=StrewnNone.over
