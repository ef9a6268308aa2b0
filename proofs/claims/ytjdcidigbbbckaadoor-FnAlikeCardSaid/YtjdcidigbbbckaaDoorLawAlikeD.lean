/- FnAlike: what it computes. -/
import Derived.Test.YtjdcidigbbbckaaDoorLawLines
import Derived.Test.YtjdcidigbbbckaaDoorLawDraw4
namespace Go.Proofs.YtjdcidigbbbckaaDoor.VM
open Go Sy
set_option maxHeartbeats 4000000
theorem cjh {d:Nat} (bs:List Nat) (hb: ∀x∈bs,x<256) (hl:bs.length<9223372036854000000):fj (T (d+8)) fuel yk [.sl true t_u8 (bs.map eU8)]=some ([.a (.bool true)],[]):=by
 have h1:=bxj (Φ:=T (d+7)) (N:=fuel) (bs.map eU8) (by rw [List.length_map];omega)
 rw [List.length_map] at h1
 rw [sj rfl]
 by_cases c:(1048576:Int)<bs.length
 ·rw [decide_eq_true c] at h1
  simp (maxSteps:=3000000) (implicitDefEqProofs:=false) (disch:=first|assumption|(refine ofR ?_;show norm _ _=_;kernel_rfl)|(refine ofR ?_;show okD _ _ _ _=true;kernel_rfl)|exact ofR (by with_unfolding_all rfl)|exact ofB (by with_unfolding_all rfl)|omega|(simp only [go_sem,bz];omega)) only [go_sem,Nat.reduceAdd,Nat.reduceBEq,yk,lqc,h1]
 ·rw [decide_eq_false c] at h1
  obtain ⟨ts,g,h,ht,sg,sh,n1,n2,he⟩:=sqf (d:=d+2) (bs:=bs) ⟨by omega,hb⟩
  have a1:=mzf (d:=d+3) sg sh
  have a2:=tkc (d:=d) sg sh
  have a3:=tkc (d:=d) sh sg
  have a4:=tkc (d:=d) sg sg
  have a5:=sqc (d:=d+4) sg
  have a6:=czd (d:=d) sg
  have a7:=czd (d:=d) sh
  rw [qjh ts h g] at a3
  rw [rjh] at a4
  have hlin:=hqg (ts:=ts) (g:=g) (h:=h)
  generalize vzd ts g=l1 at*
  generalize vzd ts h=l2 at*
  have hb2: ∀b:Bool,(b==b)=true:=fun b=>by cases b<;>rfl
  generalize axb ts g=k at*
  cases hal:kje ts g h
  ·rw [hal] at a1 a2 a3
   simp (maxSteps:=3000000) (implicitDefEqProofs:=false) (disch:=first|assumption|(refine ofR ?_;show norm _ _=_;kernel_rfl)|(refine ofR ?_;show okD _ _ _ _=true;kernel_rfl)|exact ofR (by with_unfolding_all rfl)|exact ofB (by with_unfolding_all rfl)|omega|(simp only [go_sem,bz];omega)) only [go_sem,Nat.reduceAdd,Nat.reduceBEq,yk,lqc,h1,he,a1,a2,a3,a4,a5,hb2]
  ·rw [hal] at a1 a2 a3
   have:=hlin hal
   subst this
   simp (maxSteps:=3000000) (implicitDefEqProofs:=false) (disch:=first|assumption|(refine ofR ?_;show norm _ _=_;kernel_rfl)|(refine ofR ?_;show okD _ _ _ _=true;kernel_rfl)|exact ofR (by with_unfolding_all rfl)|exact ofB (by with_unfolding_all rfl)|omega|(simp only [go_sem,bz];omega)) only [go_sem,Nat.reduceAdd,Nat.reduceBEq,yk,lqc,h1,he,a1,a2,a3,a4,a5,a6,a7,hb2]
end Go.Proofs.YtjdcidigbbbckaaDoor.VM
