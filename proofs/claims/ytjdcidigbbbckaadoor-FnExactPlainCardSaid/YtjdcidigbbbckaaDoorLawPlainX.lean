/- FnExactPlain: what it computes. -/
import Derived.Test.YtjdcidigbbbckaaDoorLawPlain
import Derived.Test.YtjdcidigbbbckaaDoorMarkG
namespace Go.Proofs.YtjdcidigbbbckaaDoor.VM
open Go Sy
theorem gzi {d:Nat} (ts:List ByteArray) (g:Gr) (ht:ts.length<9223372036854000000) (hts: ∀s∈ts,s.size<9223372036854000000) (gr:g.roots.length<9223372036854000000) (gn:g.nodes.length<9223372036854000000) (gv: ∀o∈g.nodes,o.vals.length<9223372036854000000):
 uz (T (d+8)) fuel fq [.sl true lz (ts.map eStr),cGrL g]=some ([.a (.bool true)],[]):=by
 have s1:=kqf (Φ:=T (d+7)) ts 1048576 (by omega) (by omega) ht hts
 rw [bq rfl]
 by_cases c1:(1048576:Int)- ts.length - tsum ts<0
 ·rw [if_pos c1] at s1
  simp (maxSteps:=3000000) (implicitDefEqProofs:=false) (disch:=first|assumption|(refine ofR ?_;show norm _ _=_;kernel_rfl)|(refine ofR ?_;show okD _ _ _ _=true;kernel_rfl)|exact ofR (by with_unfolding_all rfl)|exact ofB (by with_unfolding_all rfl)|omega|(simp only [go_sem,bz];omega)) only [go_sem,Nat.reduceAdd,Nat.reduceBEq,fq,hqb,s1]
 ·rw [if_neg c1] at s1
  have s2:=xjg (d:=d+4) g (1048576 - ts.length - tsum ts) (by omega) (by omega) gr gn gv
  by_cases c2:(1048576:Int)- ts.length - tsum ts - gsum g<0
  ·rw [if_pos c2] at s2
   simp (maxSteps:=3000000) (implicitDefEqProofs:=false) (disch:=first|assumption|(refine ofR ?_;show norm _ _=_;kernel_rfl)|(refine ofR ?_;show okD _ _ _ _=true;kernel_rfl)|exact ofR (by with_unfolding_all rfl)|exact ofB (by with_unfolding_all rfl)|omega|(simp only [go_sem,bz];omega)) only [go_sem,Nat.reduceAdd,Nat.reduceBEq,fq,hqb,s1,s2]
  ·rw [if_neg c2] at s2
   have eg:gsum g=g.roots.length+g.nodes.length+vsum g.nodes:=rfl
   have hg:Small ts g:=⟨by omega,fun s hs=>by have:=qqj hs;omega,by omega,by omega,fun o ho=>by have:=aqj ho;omega⟩
   have t1:=jqf (Φ:=T (d+7)) ts hg.tl
   have t2:=wjg (d:=d+4) g hg.roots hg.nodes hg.vals
   have a1:=izf (d:=d+3) hg
   have a2:=jzf (d:=d) hg
   obtain ⟨b1,b2,b3⟩:=fjh hg
   have b4:vsum (plOf ts g).nodes≤400*23:=by
    have: ∀(l:List Obj'),(∀o∈l,o.vals.length≤23)→vsum l≤l.length*23:=by
     intro l
     induction l with
     |nil=>intro _;simp [vsum]
     |cons x l ih=>intro h;have h1:=h x (by simp);have h2:=ih fun o ho=>h o (by simp [ho]);simp only [vsum,List.length_cons];omega
    have:=this _ b3
    omega
   have ep:gsum (plOf ts g)=(plOf ts g).roots.length+(plOf ts g).nodes.length+vsum (plOf ts g).nodes:=rfl
   have ew:=gkf (plOf ts g).nodes
   have e1:=nqf (Φ:=T (d+7)) ts hg.tl
   have e2:=cxe (d:=d+4) g hg.roots hg.nodes hg.vals
   have e3:=cxe (d:=d+4) (plOf ts g) (by omega) (by omega) (fun o ho=>by have:=b3 o ho;omega)
   obtain ⟨ms,m1⟩:=bxe (d:=d+6) ts 1 (by omega)
   have m2:=nxd (d:=d+5) g ((1+ts.length:Nat):Int) (by omega) (by omega) hg.roots hg.nodes hg.vals
   have m3:=nxd (d:=d+5) (plOf ts g) 1 (by omega) (by omega) (by omega) (by omega) (fun o ho=>by have:=b3 o ho;omega)
   have m4:=mqf (d:=d+5) (plOf ts g).roots.length (lens (plOf ts g).nodes) 1 (by omega) (by omega) (by omega) (by rw [vqd];omega) (fun n hn=>by
    obtain ⟨o,ho,rfl⟩:=List.mem_map.1 hn
    have:=b3 o ho;omega)
   rw [show (1:Int)+((plOf ts g).roots.length:Nat)+(wsum wObj (lens (plOf ts g).nodes):Nat)=1+(gsum (plOf ts g):Nat) by omega] at m4
   have c3: ¬((1+ts.length:Nat):Int)+gsum g<0:=by omega
   have c4: ¬(1:Int)+gsum (plOf ts g)<0:=by omega
   rw [show ((1:Nat):Int)=1 from rfl] at m1
   clear ep ew b4 eg
   generalize plOf ts g=P at*
   generalize (1048576:Int)- ts.length - tsum ts - gsum g=z2 at*
   generalize (1048576:Int)- ts.length - tsum ts=z1 at*
   unfold mGr at m3 m4 m2
   simp (maxSteps:=3000000) (implicitDefEqProofs:=false) (disch:=first|assumption|(refine ofR ?_;show norm _ _=_;kernel_rfl)|(refine ofR ?_;show okD _ _ _ _=true;kernel_rfl)|exact ofR (by with_unfolding_all rfl)|exact ofB (by with_unfolding_all rfl)|omega|(simp only [go_sem,bz];omega)) only [go_sem,Nat.reduceAdd,Nat.reduceBEq,fq,hqb,s1,s2,t1,t2,a1,a2,e1,e2,e3,m1,m2,m3,m4,c3,c4]
end Go.Proofs.YtjdcidigbbbckaaDoor.VM
