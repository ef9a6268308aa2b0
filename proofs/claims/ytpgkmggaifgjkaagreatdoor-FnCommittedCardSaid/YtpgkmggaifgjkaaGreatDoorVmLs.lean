/- Lists: changed one element after the other. No program in sight. -/
import Derived.Test.YtpgkmggaifgjkaaGreatDoorVmSt
open Option renaming getD_some->Aa,getD_none->Ab
open Int renaming le_refl->Ac,natCast_nonneg->Ad,sub_zero->Ae
set_option linter.all false
namespace Go.Proofs.YtpgkmggaifgjkaaGreatDoor.VM.Sy
def updL {α β:Type} (f g:Nat->α->β) (i:Nat) (l:List α):List β:=l.mapIdx λj x=>if j<i then g j x else f j x
section
variable {α β:Type} {f g:Nat->α->β} {l:List α}
theorem vqv {i:Nat}:(updL f g i l).length=l.length:=by simp [updL]
attribute [go_sem] vqv
end
def updM {α β:Type} (f g:α->β) (i:Nat) (l:List α):List β:=updL (λ_=>f) (λ_=>g) i l
def updR {α β:Type} (z:β) (g:α->β) (i:Nat) (l:List α):List β:=updL (λ_ _=>z) (λ_=>g) i l
def updI {α β:Type} (f:α->β) (g:Nat->β) (i:Nat) (l:List α):List β:=updL (λ_=>f) (λj _=>g j) i l
section
variable {α β:Type} {f g:α->β} {h:Nat->β} {z:β} {l:List α} {i:Nat}
theorem qv6:(updM f g i l).length=l.length:=vqv
theorem qv7:(updR z g i l).length=l.length:=vqv
theorem qvn:(updI f h i l).length=l.length:=vqv
attribute [go_sem] qv6 qv7 qvn
end
theorem qtk {n:Nat}:(List.range n).length=n:=List.length_range
attribute [go_sem] qtk
open Go
section
variable {e id:Nat} {es:List PV} {s:St} {a b:Int}
theorem qat {α:Type} (l:List α):l.take (l.length:Int).toNat=l:=by simp
theorem zbs {lo hi:Option Int} (h0:lo.getD 0=0) (h1:hi.getD 0=0):M.run (sliceAt e (.nl e) lo hi) s=some (.nl e,s):=by
 simp only [sliceAt,h0,h1,and_self,if_true];rfl
theorem zaq (h0:0<=a) (h1:a<=b) (h2:b<=es.length):M.run (sliceAt e (.sz e es) (some a) (some b)) s=M.run (.pure (.sz e ((es.take b.toNat).drop a.toNat))) s:=by
 have h:cut a b es.length:=⟨h0,h1,h2⟩
 simp only [sliceAt,Aa,h,and_self,if_true]
theorem qz7 (h0:0<=a) (h1:a<=es.length):M.run (sliceAt e (.sz e es) (some a) none) s=M.run (.pure (.sz e (es.drop a.toNat))) s:=by
 have h:cut a es.length es.length:=⟨h0,h1,Ac _⟩
 simp only [sliceAt,Aa,Ab,h,and_self,if_true,qat]
theorem zam (h0:0<=b) (h1:b<=es.length):M.run (sliceAt e (.sz e es) none (some b)) s=M.run (.pure (.sz e (es.take b.toNat))) s:=by
 have h:cut 0 b es.length:=⟨Ac _,h0,h1⟩
 simp only [sliceAt,Aa,Ab,h,and_self,if_true];rfl
theorem zai:M.run (sliceAt e (.sz e es) none none) s=M.run (.pure (.sz e es)) s:=by
 have h:cut 0 es.length es.length:=⟨Ac _,Ad _,Ac _⟩
 simp only [sliceAt,Ab,h,and_self,if_true,qat];rfl
attribute [go_sem ↓] zbs zaq qz7 zam zai
def slcB (e id:Nat) (lo hi:Option Int):Option Node->M TV
 |some (.sl _ _ e' es)=>if e'=e/\cut (lo.getD 0) (hi.getD es.length) es.length then .pure (.sb id (lo.getD 0).toNat (hi.getD es.length-lo.getD 0).toNat) else .fail
 |_=> .fail
theorem ze3 {lo hi:Option Int}:M.run (sliceAt e (.rf id) lo hi) s=M.run ((getN id).bind (slcB e id lo hi)) s:=by
 simp only [sliceAt];congr 1
attribute [go_sem ↓] ze3
section
variable {q:Bool} {ver:Nat}
theorem zg1 (h0:0<=a) (h1:a<=b) (h2:b<=es.length):M.run (slcB e id (some a) (some b) (some (.sl q ver e es))) s=M.run (.pure (.sb id a.toNat (b-a).toNat)) s:=by
 have h:cut a b es.length:=⟨h0,h1,h2⟩
 simp only [slcB,Aa,h,and_self,if_true]
theorem zil (h0:0<=a) (h1:a<=es.length):M.run (slcB e id (some a) none (some (.sl q ver e es))) s=M.run (.pure (.sb id a.toNat (es.length-a).toNat)) s:=by
 have h:cut a es.length es.length:=⟨h0,h1,Ac _⟩
 simp only [slcB,Aa,Ab,h,and_self,if_true]
theorem zg5 (h0:0<=b) (h1:b<=es.length):M.run (slcB e id none (some b) (some (.sl q ver e es))) s=M.run (.pure (.sb id 0 b.toNat)) s:=by
 have h:cut 0 b es.length:=⟨Ac _,h0,h1⟩
 simp only [slcB,Aa,Ab,h,and_self,if_true,Ae];rfl
theorem zhw:M.run (slcB e id none none (some (.sl q ver e es))) s=M.run (.pure (.sb id 0 es.length)) s:=by
 have h:cut 0 es.length es.length:=⟨Ac _,Ad _,Ac _⟩
 simp only [slcB,Ab,h,and_self,if_true,Ae,Int.toNat_natCast];rfl
attribute [go_sem ↓] zg1 zil zg5 zhw
def slcC (e id k j:Nat) (lo hi:Option Int):Option Node->M TV
 |some (.sl _ _ e' _)=>if e'=e/\cut (lo.getD 0) (hi.getD j) j then .pure (.sb id (k+(lo.getD 0).toNat) (hi.getD j-lo.getD 0).toNat) else .fail
 |_=> .fail
theorem zbj {k j:Nat} {lo hi:Option Int}:M.run (sliceAt e (.sb id k j) lo hi) s=M.run ((getN id).bind (slcC e id k j lo hi)) s:=by
 simp only [sliceAt];congr 1
theorem zi0 {k j:Nat} (h0:0<=a) (h1:a<=(j:Int)):M.run (slcC e id k j (some a) none (some (.sl q ver e es))) s=M.run (.pure (.sb id (k+a.toNat) (j-a).toNat)) s:=by
 have h:cut a j j:=⟨h0,h1,Ac _⟩
 simp only [slcC,Aa,Ab,h,and_self,if_true]
theorem zij {k j:Nat} (h0:0<=b) (h1:b<=(j:Int)):M.run (slcC e id k j none (some b) (some (.sl q ver e es))) s=M.run (.pure (.sb id k b.toNat)) s:=by
 have h:cut 0 b j:=⟨Ac _,h0,h1⟩
 simp only [slcC,Aa,Ab,h,and_self,if_true,Ae];rfl
attribute [go_sem ↓] zbj zi0 zij
end
end
