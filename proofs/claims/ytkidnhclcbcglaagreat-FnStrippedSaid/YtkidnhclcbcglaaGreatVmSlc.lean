/- The interpreter 'VM': rules for slices that are cut. -/
import Derived.Test.YtkidnhclcbcglaaGreatVmSt
namespace Go.Proofs.YtkidnhclcbcglaaGreat.VM.Sy
open Go
section
variable {e id:Nat} {es:List PV} {s:St} {a b:Int}
theorem qew {α:Type} (l:List α):l.take (l.length:Int).toNat=l:=by simp
theorem zed {lo hi:Option Int} (h0:lo.getD 0=0) (h1:hi.getD 0=0):M.run (sliceAt e (.nl e) lo hi) s=some (.nl e,s):=by
 simp only [sliceAt,h0,h1,and_self,if_true];rfl
theorem zbs (h0:0≤a) (h1:a≤b) (h2:b≤es.length):M.run (sliceAt e (.sz e es) (some a) (some b)) s=M.run (.pure (.sz e ((es.take b.toNat).drop a.toNat))) s:=by
 have h:cut a b es.length:=⟨h0,h1,h2⟩
 simp only [sliceAt,Option.getD_some,h,and_self,if_true]
theorem zbe (h0:0≤a) (h1:a≤es.length):M.run (sliceAt e (.sz e es) (some a) none) s=M.run (.pure (.sz e (es.drop a.toNat))) s:=by
 have h:cut a es.length es.length:=⟨h0,h1,Int.le_refl _⟩
 simp only [sliceAt,Option.getD_some,Option.getD_none,h,and_self,if_true,qew]
theorem zaw (h0:0≤b) (h1:b≤es.length):M.run (sliceAt e (.sz e es) none (some b)) s=M.run (.pure (.sz e (es.take b.toNat))) s:=by
 have h:cut 0 b es.length:=⟨Int.le_refl _,h0,h1⟩
 simp only [sliceAt,Option.getD_some,Option.getD_none,h,and_self,if_true]
 rfl
theorem zbo:M.run (sliceAt e (.sz e es) none none) s=M.run (.pure (.sz e es)) s:=by
 have h:cut 0 es.length es.length:=⟨Int.le_refl _,Int.natCast_nonneg _,Int.le_refl _⟩
 simp only [sliceAt,Option.getD_none,h,and_self,if_true,qew]
 rfl
attribute [go_sem ↓] zed zbs zbe zaw zbo
def slcB (e id:Nat) (lo hi:Option Int):Option Node→M TV
 |some (.sl _ _ e' es)=>if e'=e∧cut (lo.getD 0) (hi.getD es.length) es.length then .pure (.sb id (lo.getD 0).toNat (hi.getD es.length-lo.getD 0).toNat) else .fail
 |_=> .fail
theorem zfn {lo hi:Option Int}:M.run (sliceAt e (.rf id) lo hi) s=M.run ((getN id).bind (slcB e id lo hi)) s:=by
 simp only [sliceAt];congr 1
attribute [go_sem ↓] zfn
section
variable {q:Bool} {ver:Nat}
theorem zhe (h0:0≤a) (h1:a≤b) (h2:b≤es.length):M.run (slcB e id (some a) (some b) (some (.sl q ver e es))) s=M.run (.pure (.sb id a.toNat (b-a).toNat)) s:=by
 have h:cut a b es.length:=⟨h0,h1,h2⟩
 simp only [slcB,Option.getD_some,h,and_self,if_true]
theorem zif (h0:0≤a) (h1:a≤es.length):M.run (slcB e id (some a) none (some (.sl q ver e es))) s=M.run (.pure (.sb id a.toNat (es.length-a).toNat)) s:=by
 have h:cut a es.length es.length:=⟨h0,h1,Int.le_refl _⟩
 simp only [slcB,Option.getD_some,Option.getD_none,h,and_self,if_true]
theorem zg7 (h0:0≤b) (h1:b≤es.length):M.run (slcB e id none (some b) (some (.sl q ver e es))) s=M.run (.pure (.sb id 0 b.toNat)) s:=by
 have h:cut 0 b es.length:=⟨Int.le_refl _,h0,h1⟩
 simp only [slcB,Option.getD_some,Option.getD_none,h,and_self,if_true,Int.sub_zero]
 rfl
theorem ziw:M.run (slcB e id none none (some (.sl q ver e es))) s=M.run (.pure (.sb id 0 es.length)) s:=by
 have h:cut 0 es.length es.length:=⟨Int.le_refl _,Int.natCast_nonneg _,Int.le_refl _⟩
 simp only [slcB,Option.getD_none,h,and_self,if_true,Int.sub_zero,Int.toNat_natCast]
 rfl
attribute [go_sem ↓] zhe zif zg7 ziw
def slcC (e id k j:Nat) (lo hi:Option Int):Option Node→M TV
 |some (.sl _ _ e' _)=>if e'=e∧cut (lo.getD 0) (hi.getD j) j then .pure (.sb id (k+(lo.getD 0).toNat) (hi.getD j-lo.getD 0).toNat) else .fail
 |_=> .fail
theorem zef {k j:Nat} {lo hi:Option Int}:M.run (sliceAt e (.sb id k j) lo hi) s=M.run ((getN id).bind (slcC e id k j lo hi)) s:=by
 simp only [sliceAt];congr 1
theorem ziv {k j:Nat} (h0:0≤a) (h1:a≤(j:Int)):M.run (slcC e id k j (some a) none (some (.sl q ver e es))) s=M.run (.pure (.sb id (k+a.toNat) (j-a).toNat)) s:=by
 have h:cut a j j:=⟨h0,h1,Int.le_refl _⟩
 simp only [slcC,Option.getD_some,Option.getD_none,h,and_self,if_true]
theorem zgv {k j:Nat} (h0:0≤b) (h1:b≤(j:Int)):M.run (slcC e id k j none (some b) (some (.sl q ver e es))) s=M.run (.pure (.sb id k b.toNat)) s:=by
 have h:cut 0 b j:=⟨Int.le_refl _,h0,h1⟩
 simp only [slcC,Option.getD_some,Option.getD_none,h,and_self,if_true,Int.sub_zero]
 rfl
attribute [go_sem ↓] zef ziv zgv
end
end
end Go.Proofs.YtkidnhclcbcglaaGreat.VM.Sy

