/- Damaged types; drawn graphs, right or not. -/
import Derived.Test.YteomgghmhicpcaaDoorLawDraw2
namespace Go.Proofs.YteomgghmhicpcaaDoor.VM
open Go Sy
variable {Φ:Nat→Option Callee} {N:Nat}
set_option maxHeartbeats 4000000
abbrev nTA (bs:List Nat) (q:Nat) (us:List ByteArray):Nodes:= [(0,nRd bs q),(1,some (.sl true 0 t_string (us.map eStr)))]
abbrev nTB (bs:List Nat) (q:Nat) (us:List ByteArray):Nodes:= [(0,nRd bs q),(1,some (.sl true 0 t_string (us.map eStr))),(2,none)]
abbrev eT (i k:Nat):Slots:= [(0,.rf 0),(1,.rf 1),(5,.a (.int .i64 i)),(40,.a (.bool false)),(10000,.rf 0),(10001,.rf k)]
theorem vxu {d:Nat} {bs:List Nat} (hb:Bs bs) {p:Nat} (hp:p≤bs.length) {ts:List ByteArray} (hl:ts.length≤3) (hz:∀s∈ts,s.size≤50):∃e,(∃(us:List ByteArray) (q i:Nat),us.length≤30∧(∀s∈us,s.size≤50)∧q≤bs.length∧
   (e=⟨eT i 1,nTA bs q us,1002⟩∨e=⟨eT i 2,nTB bs q us,1003⟩∨(∃q0,e=⟨eT i 1,(0,nRd bs q)::(0,none)::nTA bs q0 us,1002⟩)∨∃q0,e=⟨eT i 2,(0,nRd bs q)::(0,none)::nTB bs q0 us,1003⟩))∧
  loopE (T (d+3)) fuel [0,1,5,10000,10001] c_spec_l1Rd_hurtTypes_L0 ⟨[(0,.rf 0),(1,.rf 1),(5,.a (.int .i64 (0:Nat))),(10000,.rf 0),(10001,.rf 1)],nTA bs p ts,2⟩=some (.ext 1,e):=by
 refine vc4 (fun r w=>∃(us:List ByteArray) (q i:Nat),i+r=13∧us.length≤3+i∧(∀s∈us,s.size≤50)∧q≤bs.length∧(w=⟨[(0,.rf 0),(1,.rf 1),(5,.a (.int .i64 i)),(10000,.rf 0),(10001,.rf 1)],nTA bs q us,2⟩∨w=⟨[(0,.rf 0),(1,.rf 1),(5,.a (.int .i64 i)),(10000,.rf 0),(10001,.rf 2)],nTB bs q us,3⟩)) 1 _ (m:=13) (vas (by omega)) ⟨ts,p,0,by omega,by omega,hz,hp,.inl rfl⟩ ?_
 rintro r w hr ⟨us,q,i,hi,hu,hs,hq,hw'⟩
 have hw:=vag i (by omega)
 by_cases c1:(i:Int)<13
 ·obtain ⟨v,q1,hv,hq1,he⟩:=vba (d:=d+1) hb hq 3 (by omega) (by omega)
  have e2:IntKind.i64.wrap (11+(v:Int))=11+(v:Int):=by rw [van]<;>omega
  by_cases c2:(us.length:Int)<11+(v:Int)
  ·left
   refine ⟨by omega,⟨[(0,.rf 0),(1,.rf 1),(5,.a (.int .i64 ((i+1:Nat):Int))),(10000,.rf 0),(10001,.rf 2)],nTB bs q1 (us++ [⟨#[114]⟩]),3⟩,?_,us++ [⟨#[114]⟩],q1,i+1,by omega,by simp;omega,fun s h=> ?_,hq1,.inr rfl⟩
   ·rcases hw' with rfl|rfl
    ·unfold round nTA nTB c_spec_l1Rd_hurtTypes_L0
     rw [vbt]
     simp (maxSteps:=3000000) (implicitDefEqProofs:=false) (disch:=first|assumption|(refine ofR ?_;show norm _ _=_;kernel_rfl)|(refine ofR ?_;show okD _ _ _ _=true;kernel_rfl)|exact ofR (by with_unfolding_all rfl)|exact ofB (by with_unfolding_all rfl)|omega|(simp only [go_sem,vab];omega)) only [go_sem,Nat.reduceAdd,Nat.reduceBEq,he,e2,c1,c2,hw]
     (show some _=some _;kernel_rfl)
    ·unfold round nTB c_spec_l1Rd_hurtTypes_L0
     rw [vbt]
     simp (maxSteps:=3000000) (implicitDefEqProofs:=false) (disch:=first|assumption|(refine ofR ?_;show norm _ _=_;kernel_rfl)|(refine ofR ?_;show okD _ _ _ _=true;kernel_rfl)|exact ofR (by with_unfolding_all rfl)|exact ofB (by with_unfolding_all rfl)|omega|(simp only [go_sem,vab];omega)) only [go_sem,Nat.reduceAdd,Nat.reduceBEq,he,e2,c1,c2,hw]
     (show some _=some _;kernel_rfl)
   ·rcases List.mem_append.1 h with h|h
    ·exact hs s h
    ·simp at h;subst h;show 1≤50;omega
  ·right
   rcases hw' with rfl|rfl
   ·refine ⟨_,?_,us,q1,i,by omega,hs,hq1,.inr (.inr (.inl ⟨q,rfl⟩))⟩
    unfold round nTA eT c_spec_l1Rd_hurtTypes_L0
    simp (maxSteps:=3000000) (implicitDefEqProofs:=false) (disch:=first|assumption|(refine ofR ?_;show norm _ _=_;kernel_rfl)|(refine ofR ?_;show okD _ _ _ _=true;kernel_rfl)|exact ofR (by with_unfolding_all rfl)|exact ofB (by with_unfolding_all rfl)|omega|(simp only [go_sem,vab];omega)) only [go_sem,Nat.reduceAdd,Nat.reduceBEq,he,e2,c1,c2]
   ·refine ⟨_,?_,us,q1,i,by omega,hs,hq1,.inr (.inr (.inr ⟨q,rfl⟩))⟩
    unfold round nTB eT c_spec_l1Rd_hurtTypes_L0
    simp (maxSteps:=3000000) (implicitDefEqProofs:=false) (disch:=first|assumption|(refine ofR ?_;show norm _ _=_;kernel_rfl)|(refine ofR ?_;show okD _ _ _ _=true;kernel_rfl)|exact ofR (by with_unfolding_all rfl)|exact ofB (by with_unfolding_all rfl)|omega|(simp only [go_sem,vab];omega)) only [go_sem,Nat.reduceAdd,Nat.reduceBEq,he,e2,c1,c2]
 ·right
  rcases hw' with rfl|rfl
  ·refine ⟨_,?_,us,q,i,by omega,hs,hq,.inl rfl⟩
   unfold round nTA eT c_spec_l1Rd_hurtTypes_L0
   simp (maxSteps:=3000000) (implicitDefEqProofs:=false) (disch:=first|assumption|(refine ofR ?_;show norm _ _=_;kernel_rfl)|(refine ofR ?_;show okD _ _ _ _=true;kernel_rfl)|exact ofR (by with_unfolding_all rfl)|exact ofB (by with_unfolding_all rfl)|omega|(simp only [go_sem,vab];omega)) only [go_sem,Nat.reduceAdd,Nat.reduceBEq,c1]
  ·refine ⟨_,?_,us,q,i,by omega,hs,hq,.inr (.inl rfl)⟩
   unfold round nTB eT c_spec_l1Rd_hurtTypes_L0
   simp (maxSteps:=3000000) (implicitDefEqProofs:=false) (disch:=first|assumption|(refine ofR ?_;show norm _ _=_;kernel_rfl)|(refine ofR ?_;show okD _ _ _ _=true;kernel_rfl)|exact ofR (by with_unfolding_all rfl)|exact ofB (by with_unfolding_all rfl)|omega|(simp only [go_sem,vab];omega)) only [go_sem,Nat.reduceAdd,Nat.reduceBEq,c1]
theorem vnj {d:Nat} {bs:List Nat} (hb:Bs bs) {ts:List ByteArray} (ht:DT ts) {p:Nat} (hp:p≤bs.length):∃(us:List ByteArray) (q:Nat),us.length≤30∧(∀s∈us,s.size≤50)∧q≤bs.length∧∃y,(y= .un∨y= .sl false t_string (ts.map eStr))∧
  runFn (T (d+3)) fuel f_spec_l1Rd_hurtTypes [cRd bs p,.sl false t_string (ts.map eStr)]=some ([.sl false t_string (us.map eStr)],[cRd bs q,y]):=by
 have hne:=ht.ne
 have hle:=ht.le
 have hhi:=ht.hi
 obtain ⟨t0,ts,rfl⟩:∃t0 ts',ts=t0::ts':=by cases ts with|nil=>simp at hne|cons a l=>exact ⟨a,l,rfl⟩
 obtain ⟨u,q,hu,hq,he⟩:=vba (d:=d+1) hb hp 30 (by omega) (by omega)
 have h0:=hhi t0 (by simp)
 have hts:∀s∈ts,s.size≤50:=fun s hs=>by have:=hhi s (by simp [hs]);omega
 have hl:ts.length≤2:=by simp at hle;omega
 have all:∀x:ByteArray,x.size≤50→∀s∈x::ts,s.size≤50:=fun x hx s hs=>by
  rcases List.mem_cons.1 hs with rfl|hs
  ·exact hx
  ·exact hts s hs
 have hg0:(List.map eStr (t0::ts))[Int.toNat 0]? =some (eStr t0):=rfl
 have hlt:Int.toNat 0<(t0::ts).length:=by simp
 obtain rfl|rfl|rfl|rfl|rfl|h5:u=0∨u=1∨u=2∨u=3∨u=4∨5≤u:=by omega
 ·refine ⟨[],q,by simp,by simp,hq,?_⟩
  rw [vae rfl]
  exact ⟨.sl false t_string ((t0::ts).map eStr),.inr rfl,by
   simp (maxSteps:=3000000) (implicitDefEqProofs:=false) (disch:=first|assumption|(refine ofR ?_;show norm _ _=_;kernel_rfl)|(refine ofR ?_;show okD _ _ _ _=true;kernel_rfl)|exact ofR (by with_unfolding_all rfl)|exact ofB (by with_unfolding_all rfl)|omega|(simp only [go_sem,vab];omega)) only [go_sem,Nat.reduceAdd,Nat.reduceBEq,f_spec_l1Rd_hurtTypes,c_spec_l1Rd_hurtTypes,he]⟩
 ·refine ⟨⟨#[]⟩::ts,q,by simp;omega,all _ (by show 0≤50;omega),hq,?_⟩
  rw [vae rfl]
  exact ⟨.un,.inl rfl,by
   simp (maxSteps:=3000000) (implicitDefEqProofs:=false) (disch:=first|assumption|(refine ofR ?_;show norm _ _=_;kernel_rfl)|(refine ofR ?_;show okD _ _ _ _=true;kernel_rfl)|exact ofR (by with_unfolding_all rfl)|exact ofB (by with_unfolding_all rfl)|omega|(simp only [go_sem,vab];omega)) only [go_sem,Nat.reduceAdd,Nat.reduceBEq,f_spec_l1Rd_hurtTypes,c_spec_l1Rd_hurtTypes,he,Int.toNat_zero,List.getElem?_cons_zero,List.set_cons_zero]⟩
 ·refine ⟨(t0++⟨#[120]⟩)::ts,q,by simp;omega,all _ (by rw [ByteArray.size_append];show t0.size+1≤50;omega),hq,?_⟩
  rw [vae rfl]
  exact ⟨.un,.inl rfl,by
   simp (maxSteps:=3000000) (implicitDefEqProofs:=false) (disch:=first|assumption|(refine ofR ?_;show norm _ _=_;kernel_rfl)|(refine ofR ?_;show okD _ _ _ _=true;kernel_rfl)|exact ofR (by with_unfolding_all rfl)|exact ofB (by with_unfolding_all rfl)|omega|(simp only [go_sem,vab];omega)) only [go_sem,Nat.reduceAdd,Nat.reduceBEq,f_spec_l1Rd_hurtTypes,c_spec_l1Rd_hurtTypes,he,Int.toNat_zero,List.getElem?_cons_zero,List.set_cons_zero]⟩
 ·obtain ⟨s,q1,b1,b2,hq1,he1⟩:=vhn (d:=d) hb hq 3 (by omega) (by omega)
  refine ⟨(⟨#[105,105,105,105,105,105,105,105,105,105,105,105,105,105,105,105,105,105,105,105,105,105]⟩++s)::ts,q1,by simp;omega,all _ (by rw [ByteArray.size_append];show 22+s.size≤50;omega),hq1,?_⟩
  rw [vae rfl]
  exact ⟨.un,.inl rfl,by
   simp (maxSteps:=3000000) (implicitDefEqProofs:=false) (disch:=first|assumption|(refine ofR ?_;show norm _ _=_;kernel_rfl)|(refine ofR ?_;show okD _ _ _ _=true;kernel_rfl)|exact ofR (by with_unfolding_all rfl)|exact ofB (by with_unfolding_all rfl)|omega|(simp only [go_sem,vab];omega)) only [go_sem,Nat.reduceAdd,Nat.reduceBEq,f_spec_l1Rd_hurtTypes,c_spec_l1Rd_hurtTypes,he,he1,Int.toNat_zero,List.getElem?_cons_zero,List.set_cons_zero]⟩
 ·obtain ⟨_,⟨us,q1,i,k1,k2,k3,hor⟩,key⟩:=vxu (d:=d) hb hq (ts:=t0::ts) hle (fun s hs=>by have:=hhi s hs;omega)
  unfold nTA at key
  refine ⟨us,q1,k1,k2,k3,?_⟩
  rw [vae rfl]
  generalize t0::ts=L at *
  rcases hor with rfl|rfl|⟨q0,rfl⟩|⟨q0,rfl⟩
  ·exact ⟨.un,.inl rfl,by
    simp (maxSteps:=3000000) (implicitDefEqProofs:=false) (disch:=first|assumption|(refine ofR ?_;show norm _ _=_;kernel_rfl)|(refine ofR ?_;show okD _ _ _ _=true;kernel_rfl)|exact ofR (by with_unfolding_all rfl)|exact ofB (by with_unfolding_all rfl)|omega|(simp only [go_sem,vab];omega)) only [go_sem,Nat.reduceAdd,Nat.reduceBEq,f_spec_l1Rd_hurtTypes,c_spec_l1Rd_hurtTypes,he,vah key]⟩
  ·exact ⟨.un,.inl rfl,by
    simp (maxSteps:=3000000) (implicitDefEqProofs:=false) (disch:=first|assumption|(refine ofR ?_;show norm _ _=_;kernel_rfl)|(refine ofR ?_;show okD _ _ _ _=true;kernel_rfl)|exact ofR (by with_unfolding_all rfl)|exact ofB (by with_unfolding_all rfl)|omega|(simp only [go_sem,vab];omega)) only [go_sem,Nat.reduceAdd,Nat.reduceBEq,f_spec_l1Rd_hurtTypes,c_spec_l1Rd_hurtTypes,he,vah key]⟩
  ·exact ⟨.un,.inl rfl,by
    simp (maxSteps:=3000000) (implicitDefEqProofs:=false) (disch:=first|assumption|(refine ofR ?_;show norm _ _=_;kernel_rfl)|(refine ofR ?_;show okD _ _ _ _=true;kernel_rfl)|exact ofR (by with_unfolding_all rfl)|exact ofB (by with_unfolding_all rfl)|omega|(simp only [go_sem,vab];omega)) only [go_sem,Nat.reduceAdd,Nat.reduceBEq,f_spec_l1Rd_hurtTypes,c_spec_l1Rd_hurtTypes,he,vah key]⟩
  ·exact ⟨.un,.inl rfl,by
    simp (maxSteps:=3000000) (implicitDefEqProofs:=false) (disch:=first|assumption|(refine ofR ?_;show norm _ _=_;kernel_rfl)|(refine ofR ?_;show okD _ _ _ _=true;kernel_rfl)|exact ofR (by with_unfolding_all rfl)|exact ofB (by with_unfolding_all rfl)|omega|(simp only [go_sem,vab];omega)) only [go_sem,Nat.reduceAdd,Nat.reduceBEq,f_spec_l1Rd_hurtTypes,c_spec_l1Rd_hurtTypes,he,vah key]⟩
 ·have h0:(u:Int)≠0:=by omega
  have h1:(u:Int)≠1:=by omega
  have h2:(u:Int)≠2:=by omega
  have h3:(u:Int)≠3:=by omega
  have h4:(u:Int)≠4:=by omega
  refine ⟨t0::ts,q,by simp;omega,all _ (by omega),hq,?_⟩
  rw [vae rfl]
  exact ⟨.un,.inl rfl,by
   simp (maxSteps:=3000000) (implicitDefEqProofs:=false) (disch:=first|assumption|(refine ofR ?_;show norm _ _=_;kernel_rfl)|(refine ofR ?_;show okD _ _ _ _=true;kernel_rfl)|exact ofR (by with_unfolding_all rfl)|exact ofB (by with_unfolding_all rfl)|omega|(simp only [go_sem,vab];omega)) only [go_sem,Nat.reduceAdd,Nat.reduceBEq,f_spec_l1Rd_hurtTypes,c_spec_l1Rd_hurtTypes,he,h0,h1,h2,h3,h4]⟩
theorem vj4 {d:Nat} {bs:List Nat} (hb:Bs bs):∃(ts:List ByteArray) (g:Gr),Small ts g∧ts.length≤30∧g.roots.length≤50∧g.nodes.length≤14∧(∀o∈g.nodes,o.vals.length≤24)∧
  runFn (T (d+5)) fuel f_spec_DrawGraphOk [.sl true t_u8 (bs.map eU8)]=some ([.sl false t_string (ts.map eStr),cGr false g],[]):=by
 have h1:=vr6 (Φ:=T (d+4)) (N:=fuel) (bs.map eU8)
 obtain ⟨ts,q1,ht,hq1,he1⟩:=vvd (d:=d+1) hb (Nat.zero_le _)
 obtain ⟨k,q2,hk,hq2,he2⟩:=vba (d:=d+3) hb hq1 5 (by omega) (by omega)
 obtain ⟨g,q3,g1,g2,g3,g4,hq3,he3⟩:=vua (d:=d+1) hb ht hq2 k (by omega) 14 (by omega) (by omega)
 have hv:∀o∈g.nodes,1≤o.vals.length∧o.vals.length≤23:=fun o ho=>by
  obtain ⟨t,s,e1,e2,e3⟩:=g4 o ho
  have:=ht.lo s (List.mem_of_getElem? e2)
  have:=ht.hi s (List.mem_of_getElem? e2)
  omega
 obtain ⟨h,q4,n1,hq4,he4⟩:=vno (d:=d) hb (g:=g) ⟨g2,by omega⟩ (by omega) (fun o ho=>by have:=hv o ho;omega) hq3
 obtain ⟨b,q5,hq5,he5⟩:=vgm (d:=d+2) hb hq4 20 (by omega) (by omega)
 have n2:=n1.vals 23 fun o ho=>(hv o ho).2
 have n3:=n1.roots
 have n4:=n1.nodes
 have t1:=ht.le
 unfold cRd at he1
 rw [show ((0:Nat):Int)=0 from rfl] at he1
 rw [vae rfl]
 cases b with
 |false=>
  refine ⟨ts,h,⟨by omega,fun s hs=>by have:=ht.hi s hs;omega,by omega,by omega,fun o ho=>by have:=n2 o ho;omega⟩,by omega,by omega,by omega,n2,?_⟩
  simp (maxSteps:=3000000) (implicitDefEqProofs:=false) (disch:=first|assumption|(refine ofR ?_;show norm _ _=_;kernel_rfl)|(refine ofR ?_;show okD _ _ _ _=true;kernel_rfl)|exact ofR (by with_unfolding_all rfl)|exact ofB (by with_unfolding_all rfl)|omega|(simp only [go_sem,vab];omega)) only [go_sem,Nat.reduceAdd,Nat.reduceBEq,f_spec_DrawGraphOk,c_spec_DrawGraphOk,h1,he1,he2,he3,he4,he5]
 |true=>
  obtain ⟨us,q6,u1,u2,hq6,y2,hy,he6⟩:=vnj (d:=d+1) hb ht hq5
  refine ⟨us,h,⟨by omega,fun s hs=>by have:=u2 s hs;omega,by omega,by omega,fun o ho=>by have:=n2 o ho;omega⟩,by omega,by omega,by omega,n2,?_⟩
  rcases hy with rfl|rfl
  ·simp (maxSteps:=3000000) (implicitDefEqProofs:=false) (disch:=first|assumption|(refine ofR ?_;show norm _ _=_;kernel_rfl)|(refine ofR ?_;show okD _ _ _ _=true;kernel_rfl)|exact ofR (by with_unfolding_all rfl)|exact ofB (by with_unfolding_all rfl)|omega|(simp only [go_sem,vab];omega)) only [go_sem,Nat.reduceAdd,Nat.reduceBEq,f_spec_DrawGraphOk,c_spec_DrawGraphOk,h1,he1,he2,he3,he4,he5,he6]
  ·simp (maxSteps:=3000000) (implicitDefEqProofs:=false) (disch:=first|assumption|(refine ofR ?_;show norm _ _=_;kernel_rfl)|(refine ofR ?_;show okD _ _ _ _=true;kernel_rfl)|exact ofR (by with_unfolding_all rfl)|exact ofB (by with_unfolding_all rfl)|omega|(simp only [go_sem,vab];omega)) only [go_sem,Nat.reduceAdd,Nat.reduceBEq,f_spec_DrawGraphOk,c_spec_DrawGraphOk,h1,he1,he2,he3,he4,he5,he6]
end Go.Proofs.YteomgghmhicpcaaDoor.VM
