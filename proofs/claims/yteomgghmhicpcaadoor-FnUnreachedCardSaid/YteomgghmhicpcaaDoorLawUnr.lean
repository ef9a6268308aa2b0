/- FnUnreached: what it computes. -/
import Derived.Test.YteomgghmhicpcaaDoorLawPlain
import Derived.Test.YteomgghmhicpcaaDoorLawDrawL
import Derived.Test.YteomgghmhicpcaaDoorLawSame
import Derived.Test.YteomgghmhicpcaaDoorLawLinesS
import Derived.Test.YteomgghmhicpcaaDoorCanon3
namespace Go.Proofs.YteomgghmhicpcaaDoor.VM
open Go Sy
set_option maxHeartbeats 4000000
theorem vqa (a:Gr):sameG a a=true:=by unfold sameG;simp
theorem vwn (g:Gr) (n:Nat):((g.nodes.map eObj).map PV.fzc++ [PV.st [.a (.int .i64 0),.sl t_i64 (List.replicate n (.a (.int .i64 0)))]]).map PV.thaw=(addN g ⟨0,List.replicate n 0⟩).nodes.map eObj:=by
 simp only [addN,List.map_append,List.map_map]
 congr 1
 simp [eObj,PV.thaw,eInt]
theorem vy9 {d:Nat} (bs:List Nat) (hb:∀x∈bs,x<256) (hl:bs.length<9223372036854000000):runFn (T (d+8)) fuel f_laws_FnUnreached [.sl true t_u8 (bs.map eU8)]=some ([.a (.bool true)],[]):=by
 have h1:=vxx (Φ:=T (d+7)) (N:=fuel) (bs.map eU8) (by rw [List.length_map];omega)
 rw [List.length_map] at h1
 rw [vae rfl]
 by_cases c:(1048576:Int)<bs.length
 ·rw [decide_eq_true c] at h1
  simp (maxSteps:=3000000) (implicitDefEqProofs:=false) (disch:=first|assumption|(refine ofR ?_;show norm _ _=_;kernel_rfl)|(refine ofR ?_;show okD _ _ _ _=true;kernel_rfl)|exact ofR (by with_unfolding_all rfl)|exact ofB (by with_unfolding_all rfl)|omega|(simp only [go_sem,vab];omega)) only [go_sem,Nat.reduceAdd,Nat.reduceBEq,f_laws_FnUnreached,c_laws_FnUnreached,h1]
 ·rw [decide_eq_false c] at h1
  obtain ⟨ts,g,sg,q1,q2,q3,q4,he⟩:=vjc (d:=d+1) (bs:=bs) ⟨by omega,hb⟩
  have a4:=vb1 (d:=d+4) sg
  have a5:=vcx (d:=d) sg
  have a6:=vid (d:=d+3) sg
  have n4:¬(g.nodes.length:Int)=400:=by omega
  cases hk:graphOk ts g
  ·rw [hk] at a4
   generalize linesFor ts g=L at *
   simp (maxSteps:=3000000) (implicitDefEqProofs:=false) (disch:=first|assumption|(refine ofR ?_;show norm _ _=_;kernel_rfl)|(refine ofR ?_;show okD _ _ _ _=true;kernel_rfl)|exact ofR (by with_unfolding_all rfl)|exact ofB (by with_unfolding_all rfl)|omega|(simp only [go_sem,vab];omega)) only [go_sem,Nat.reduceAdd,Nat.reduceBEq,f_laws_FnUnreached,c_laws_FnUnreached,h1,he,a4,a5,a6,n4]
  ·rw [hk] at a4
   have hty:1≤ts.length:=by
    unfold graphOk typesOk at hk
    simp only [Bool.and_eq_true,decide_eq_true_eq] at hk
    exact hk.1.1.1
   obtain ⟨s,h0⟩:∃s,ts[0]? =some s:=⟨_,List.getElem?_eq_getElem (by omega)⟩
   have hz:=sg.sz s (List.mem_of_getElem? h0)
   have f1:=vi2 sg hk (by omega) h0
   have sH:Small ts (addN g ⟨0,List.replicate s.size 0⟩):=⟨sg.tl,sg.sz,sg.roots,by simp only [addN,List.length_append,List.length_singleton];omega,fun o ho=>by
    rcases List.mem_append.1 ho with ho|ho
    ·exact sg.vals o ho
    ·rw [List.mem_singleton.1 ho];simpa using hz⟩
   obtain ⟨b1,b2,b3⟩:=vrq sg
   have eP:plOf ts g=plainG ts g:=by unfold plOf;rw [if_pos hk]
   have eH:plOf ts (addN g ⟨0,List.replicate s.size 0⟩)=plOf ts g:=by
    rw [eP];unfold plOf;rw [if_pos f1,vs9 (Right.of sg hk)]
   have sP:Small ts (plOf ts g):=⟨sg.tl,sg.sz,by omega,by omega,fun o ho=>by have:=b3 o ho;omega⟩
   have a7:=vfw (d:=d) sH
   rw [eH] at a7
   have a8:=vlj (d:=d+3) sg
   have a9:=vho (d:=d+4) (plOf ts g) (plOf ts g) (by omega) (by omega) (fun o ho=>by have:=b3 o ho;omega)
   rw [vqa] at a9
   have a10:=vcx (d:=d) sH
   rw [vux sg hk (by omega) h0] at a10
   have a11:=vfw (d:=d) sg
   have a12:=vcx (d:=d) sP
   rw [eP,vpw sg hk,←eP] at a12
   have eN:=vwn g s.size
   have eR:(addN g ⟨0,List.replicate s.size 0⟩).roots=g.roots:=rfl
   clear eP eH f1 hk sH sP b3 b1 b2
   generalize addN g ⟨0,List.replicate s.size 0⟩=H at *
   obtain ⟨Hr,Hn⟩:=H
   dsimp only at eR eN
   subst eR
   generalize linesFor ts g=L at *
   generalize plOf ts g=P at *
   simp (maxSteps:=3000000) (implicitDefEqProofs:=false) (disch:=first|assumption|(refine ofR ?_;show norm _ _=_;kernel_rfl)|(refine ofR ?_;show okD _ _ _ _=true;kernel_rfl)|exact ofR (by with_unfolding_all rfl)|exact ofB (by with_unfolding_all rfl)|omega|(simp only [go_sem,vab];omega)) only [go_sem,Nat.reduceAdd,Nat.reduceBEq,f_laws_FnUnreached,c_laws_FnUnreached,h1,he,a4,a5,a6,a7,a8,a9,a10,a11,a12,n4,h0,eN,Int.toNat_zero]
end Go.Proofs.YteomgghmhicpcaaDoor.VM
