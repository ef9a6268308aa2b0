/- The interpreter 'VM': loops that are left at their head or by a return. -/
import Derived.Test.YtkidnhclcbcglaaGreatVmSt
namespace Go.Proofs.YtkidnhclcbcglaaGreat.VM.Sy
open Go
inductive Stp (β γ:Type) where
 |go (a:β)
 |ret (r:γ)
 |fin
def itr {β γ:Type} (g:Nat→β→Stp β γ):Nat→Nat→β→(Nat×β) ⊕ γ
 |0,i,a=> .inl (i,a)
 |k+1,i,a=>match g i a with
  | .go a'=>itr g k (i+1) a'
  | .ret r=> .inr r
  | .fin=> .inl (i,a)
def itO {β γ:Type} (id:Nat) (E:Nat→β→St) (R:γ→St→Prop) (x:Option (Out×St)):(Nat×β) ⊕ γ→Prop
 | .inl p=>x=some (.ext id,E p.1 p.2)
 | .inr r=>∃e,x=some (.ret,e)∧R r e
variable {Φ:Nat→Option Callee} {N:Nat} {live:List Nat} {b:VC}
def stepOk {β γ:Type} (Φ:Nat→Option Callee) (N:Nat) (live:List Nat) (b:VC) (id:Nat) (S:Nat→β→St) (I:Nat→β→Prop) (E:Nat→β→St) (R:γ→St→Prop) (i:Nat) (acc:β):Stp β γ→Prop
 | .go a'=>round Φ N live b (S i acc)=some (.nrm,S (i+1) a')∧I (i+1) a'
 | .ret r=>∃e,round Φ N live b (S i acc)=some (.ret,e)∧R r e
 | .fin=>round Φ N live b (S i acc)=some (.ext id,E i acc)
theorem vr8 {β γ:Type} (id:Nat) (g:Nat→β→Stp β γ) (S:Nat→β→St) (I:Nat→β→Prop) (E:Nat→β→St) (R:γ→St→Prop) {m:Nat} (hN:m<N) {a0:β} (h0:I 0 a0)
  (step:∀i acc,I i acc→i≤m∧stepOk Φ N live b id S I E R i acc (g i acc)):
  itO id E R (va7 Φ N live b (S 0 a0)) (itr g (m+1) 0 a0)∧(∀i a,itr g (m+1) 0 a0= .inl (i,a)→I i a∧g i a= .fin)∧∀r,itr g (m+1) 0 a0= .inr r→∃i a,I i a∧g i a= .ret r:=by
 generalize hX:itr g (m+1) 0 a0=X;have key:=vq9 (Φ:=Φ) (N:=N) (live:=live) (b:=b) (r:= []) (fun k s=>∃i acc,s=S i acc∧i+k=m∧I i acc∧itr g (k+1) i acc=X)
  (fun o e=>itO id E R (some (o,e)) X∧(∀i a,X= .inl (i,a)→I i a∧g i a= .fin)∧∀r,X= .inr r→∃i a,I i a∧g i a= .ret r) hN (s:=S 0 a0) ⟨0,a0,rfl,by omega,h0,hX⟩ (by
  rintro k s hk ⟨i,acc,rfl,hi,hI,hx⟩
  obtain ⟨_,h⟩:=step i acc hI;cases hg:g i acc with
  |go a'=>
   rw [hg] at h;obtain ⟨h1,h2⟩:=h;obtain ⟨h3,_⟩:=step _ _ h2;obtain ⟨k,rfl⟩:∃k',k=k'+1:=⟨k-1,by omega⟩
   refine .inl ⟨k,_,rfl,h1,i+1,a',rfl,by omega,h2,?_⟩;rw [←hx]
   conv=>rhs;unfold itr
   rw [hg]
  |ret r=>
   rw [hg] at h;unfold itr at hx;rw [hg] at hx;dsimp only at hx;subst hx;obtain ⟨e,h,hR⟩:=h;refine .inr ⟨.ret,_,by simp,h,⟨_,rfl,hR⟩,?_,?_⟩
   ·intro _ _ h;cases h
   ·intro r' h;cases h;exact ⟨i,acc,hI,hg⟩
  |fin=>
   rw [hg] at h;unfold itr at hx;rw [hg] at hx;dsimp only at hx;subst hx;refine .inr ⟨.ext id,_,by simp,h,rfl,?_,?_⟩
   ·intro _ _ h;cases h;exact ⟨hI,hg⟩
   ·intro r' h;cases h)
 obtain ⟨o,e,⟨h1,h2⟩,_,h3⟩:=key;refine ⟨?_,h2⟩;have h4:va7 Φ N live b (S 0 a0)=some (o,e):=h3;rw [h4];exact h1
