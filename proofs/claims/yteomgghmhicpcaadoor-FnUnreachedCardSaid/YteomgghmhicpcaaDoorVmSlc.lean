/- The interpreter 'VM': rules for slices that are cut. -/
import Derived.Test.YteomgghmhicpcaaDoorVmSt
namespace Go.Proofs.YteomgghmhicpcaaDoor.VM.Sy
open Go
section
variable {e id:Nat} {es:List PV} {s:St} {a b:Int}
theorem vpb {α:Type} (l:List α):l.take (l.length:Int).toNat=l:=by simp
@[go_sem ↓] theorem qi7 {lo hi:Option Int} (h0:lo.getD 0=0) (h1:hi.getD 0=0):M.run (sliceAt e (.nl e) lo hi) s=some (.nl e,s):=by
 simp only [sliceAt,h0,h1,and_self,if_true];rfl
@[go_sem ↓] theorem qg9 (h0:0≤a) (h1:a≤b) (h2:b≤es.length):M.run (sliceAt e (.sz e es) (some a) (some b)) s=M.run (.pure (.sz e ((es.take b.toNat).drop a.toNat))) s:=by
 have h:cut a b es.length:=⟨h0,h1,h2⟩
 simp only [sliceAt,Option.getD_some,h,and_self,if_true]
@[go_sem ↓] theorem qgf (h0:0≤a) (h1:a≤es.length):M.run (sliceAt e (.sz e es) (some a) none) s=M.run (.pure (.sz e (es.drop a.toNat))) s:=by
 have h:cut a es.length es.length:=⟨h0,h1,Int.le_refl _⟩
 simp only [sliceAt,Option.getD_some,Option.getD_none,h,and_self,if_true,vpb]
@[go_sem ↓] theorem qfi (h0:0≤b) (h1:b≤es.length):M.run (sliceAt e (.sz e es) none (some b)) s=M.run (.pure (.sz e (es.take b.toNat))) s:=by
 have h:cut 0 b es.length:=⟨Int.le_refl _,h0,h1⟩
 simp only [sliceAt,Option.getD_some,Option.getD_none,h,and_self,if_true]
 rfl
@[go_sem ↓] theorem qg7:M.run (sliceAt e (.sz e es) none none) s=M.run (.pure (.sz e es)) s:=by
 have h:cut 0 es.length es.length:=⟨Int.le_refl _,Int.natCast_nonneg _,Int.le_refl _⟩
 simp only [sliceAt,Option.getD_none,h,and_self,if_true,vpb]
 rfl
def slcB (e id:Nat) (lo hi:Option Int):Option Node→M TV
 |some (.sl _ _ e' es)=>if e'=e∧cut (lo.getD 0) (hi.getD es.length) es.length then .pure (.sb id (lo.getD 0).toNat (hi.getD es.length-lo.getD 0).toNat) else .fail
 |_=> .fail
@[go_sem ↓] theorem qhy {lo hi:Option Int}:M.run (sliceAt e (.rf id) lo hi) s=M.run ((getN id).bind (slcB e id lo hi)) s:=by
 simp only [sliceAt];congr 1
section
variable {q:Bool} {ver:Nat}
@[go_sem ↓] theorem qmo (h0:0≤a) (h1:a≤b) (h2:b≤es.length):M.run (slcB e id (some a) (some b) (some (.sl q ver e es))) s=M.run (.pure (.sb id a.toNat (b-a).toNat)) s:=by
 have h:cut a b es.length:=⟨h0,h1,h2⟩
 simp only [slcB,Option.getD_some,h,and_self,if_true]
@[go_sem ↓] theorem qlu (h0:0≤a) (h1:a≤es.length):M.run (slcB e id (some a) none (some (.sl q ver e es))) s=M.run (.pure (.sb id a.toNat (es.length-a).toNat)) s:=by
 have h:cut a es.length es.length:=⟨h0,h1,Int.le_refl _⟩
 simp only [slcB,Option.getD_some,Option.getD_none,h,and_self,if_true]
@[go_sem ↓] theorem qm7 (h0:0≤b) (h1:b≤es.length):M.run (slcB e id none (some b) (some (.sl q ver e es))) s=M.run (.pure (.sb id 0 b.toNat)) s:=by
 have h:cut 0 b es.length:=⟨Int.le_refl _,h0,h1⟩
 simp only [slcB,Option.getD_some,Option.getD_none,h,and_self,if_true,Int.sub_zero]
 rfl
@[go_sem ↓] theorem ql7:M.run (slcB e id none none (some (.sl q ver e es))) s=M.run (.pure (.sb id 0 es.length)) s:=by
 have h:cut 0 es.length es.length:=⟨Int.le_refl _,Int.natCast_nonneg _,Int.le_refl _⟩
 simp only [slcB,Option.getD_none,h,and_self,if_true,Int.sub_zero,Int.toNat_natCast]
 rfl
end
end
end Go.Proofs.YteomgghmhicpcaaDoor.VM.Sy
