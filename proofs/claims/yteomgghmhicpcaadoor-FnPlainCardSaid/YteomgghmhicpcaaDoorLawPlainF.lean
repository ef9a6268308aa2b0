/- FnPlain: what it computes. -/
import Derived.Test.YteomgghmhicpcaaDoorLawPlain
import Derived.Test.YteomgghmhicpcaaDoorLawDrawP
import Derived.Test.YteomgghmhicpcaaDoorLawSame
import Derived.Test.YteomgghmhicpcaaDoorLawReached
import Derived.Test.YteomgghmhicpcaaDoorCanon2
namespace Go.Proofs.YteomgghmhicpcaaDoor.VM
open Go Sy
set_option maxHeartbeats 4000000
theorem vkd (a:Gr):sameG a a=true:=by unfold sameG;simp
theorem vpy {ts:List ByteArray} {g:Gr} (hs:Small ts g) (hg:graphOk ts g=true):
  graphOk ts (plainG ts g)=true∧plainG ts (plainG ts g)=plainG ts g∧alike ts g (plainG ts g)=true∧(found ts (plainG ts g)).length=(plainG ts g).nodes.length∧(found ts g).length=(plainG ts g).nodes.length∧g.roots.length=(plainG ts g).roots.length:=by
 have h:=Right.of hs hg
 have h1:=vgn hs hg
 have h2:=vpv h
 refine ⟨h1,h2,?_,?_,?_,?_⟩
 ·unfold alike
  rw [hg,h1,h2,vkd];rfl
 ·rw [vfd h];simp [plainG]
 ·simp [plainG]
 ·simp [plainG]
theorem vr2 {d:Nat} (bs:List Nat) (hb:∀x∈bs,x<256) (hl:bs.length<9223372036854000000):runFn (T (d+8)) fuel f_laws_FnPlain [.sl true t_u8 (bs.map eU8)]=some ([.a (.bool true)],[]):=by
 have h1:=vx1 (Φ:=T (d+7)) (N:=fuel) (bs.map eU8) (by rw [List.length_map];omega)
 rw [List.length_map] at h1
 rw [vae rfl]
 by_cases c:(1048576:Int)<bs.length
 ·rw [decide_eq_true c] at h1
  simp (maxSteps:=3000000) (implicitDefEqProofs:=false) (disch:=first|assumption|(refine ofR ?_;show norm _ _=_;kernel_rfl)|(refine ofR ?_;show okD _ _ _ _=true;kernel_rfl)|exact ofR (by with_unfolding_all rfl)|exact ofB (by with_unfolding_all rfl)|omega|(simp only [go_sem,vab];omega)) only [go_sem,Nat.reduceAdd,Nat.reduceBEq,f_laws_FnPlain,c_laws_FnPlain,h1]
 ·rw [decide_eq_false c] at h1
  obtain ⟨ts,g,sg,q1,q2,q3,q4,he⟩:=vnl (d:=d+1) (bs:=bs) ⟨by omega,hb⟩
  have a1:=vfj (d:=d) sg
  have a2:=vlw (d:=d+3) sg
  have a3:=vbv (d:=d+1) sg
  have a4:=vce (d:=d+4) sg
  obtain ⟨b1,b2,b3⟩:=vrx sg
  have a5:=vhc (d:=d+4) (plOf ts g) (plOf ts g) (by omega) (by omega) (fun o ho=>by have:=b3 o ho;omega)
  rw [vkd] at a5
  have hb2:∀b:Bool,(b==b)=true:=fun b=>by cases b<;>rfl
  have hb3:∀b:Bool,(b !=b)=false:=fun b=>by cases b<;>rfl
  cases hk:graphOk ts g
  ·rw [hk] at a3 a4
   generalize plOf ts g=P at *
   simp (maxSteps:=3000000) (implicitDefEqProofs:=false) (disch:=first|assumption|(refine ofR ?_;show norm _ _=_;kernel_rfl)|(refine ofR ?_;show okD _ _ _ _=true;kernel_rfl)|exact ofR (by with_unfolding_all rfl)|exact ofB (by with_unfolding_all rfl)|omega|(simp only [go_sem,vab];omega)) only [go_sem,Nat.reduceAdd,Nat.reduceBEq,f_laws_FnPlain,c_laws_FnPlain,h1,he,a1,a2,a3,a4,a5,hb2,hb3]
  ·rw [hk] at a3 a4
   have sP:Small ts (plOf ts g):=⟨sg.tl,sg.sz,by omega,by omega,fun o ho=>by have:=b3 o ho;omega⟩
   have eP:plOf ts g=plainG ts g:=by unfold plOf;rw [if_pos hk]
   obtain ⟨f1,f2,f3,f4,f5,f6⟩:=vpy sg hk
   have a6:=vlv (d:=d) sg sP
   have a7:=vfj (d:=d) sP
   obtain ⟨es1,l1,a8⟩:=vip (d:=d) sP
   obtain ⟨es2,l2,a9⟩:=vip (d:=d) sg
   have e7:plOf ts (plOf ts g)=plOf ts g:=by rw [eP];unfold plOf;rw [if_pos f1,f2]
   rw [e7] at a7
   rw [eP] at l1
   rw [if_pos f1,f4,←eP] at l1
   rw [if_pos hk,f5,←eP] at l2
   rw [←eP] at f3 f6
   rw [f3] at a6
   clear f1 f2 f4 f5 eP e7
   generalize plOf ts g=P at *
   simp (maxSteps:=3000000) (implicitDefEqProofs:=false) (disch:=first|assumption|(refine ofR ?_;show norm _ _=_;kernel_rfl)|(refine ofR ?_;show okD _ _ _ _=true;kernel_rfl)|exact ofR (by with_unfolding_all rfl)|exact ofB (by with_unfolding_all rfl)|omega|(simp only [go_sem,vab];omega)) only [go_sem,Nat.reduceAdd,Nat.reduceBEq,f_laws_FnPlain,c_laws_FnPlain,h1,he,a1,a2,a3,a4,a5,a6,a7,a8,a9,l1,l2,f6,hb2,hb3]
end Go.Proofs.YteomgghmhicpcaaDoor.VM
