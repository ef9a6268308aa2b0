/- Damaged types and graphs. -/
import Derived.Test.YteomgghmhicpcaaDoorLawDraw
namespace Go.Proofs.YteomgghmhicpcaaDoor.VM
open Go Sy
variable {Φ:Nat→Option Callee} {N:Nat}
set_option maxHeartbeats 4000000
abbrev nHA (bs:List Nat) (q:Nat) (X:List Int) (L:List Obj'):Nodes:= [(0,some (.bx false [.rf 3,.rf 4])),(1,some (.bx false [.rf 5,.rf 6])),(2,nRd bs q),(3,some (.sl true 0 t_i64 (List.map eInt X))),(4,some (.sl true 0 t_impl_Obj (List.map eObj L))),(5,some (.sl false 0 t_i64 [])),(6,some (.sl false 0 t_impl_Obj []))]
abbrev nHB (bs:List Nat) (q:Nat) (X:List Int) (L:List Obj'):Nodes:= [(0,some (.bx false [.rf 5,.rf 4])),(1,some (.bx false [.rf 6,.rf 7])),(2,nRd bs q),(3,none),(4,some (.sl true 0 t_impl_Obj (List.map eObj L))),(5,some (.sl true 0 t_i64 (List.map eInt X))),(6,some (.sl false 0 t_i64 [])),(7,some (.sl false 0 t_impl_Obj []))]
abbrev sH (t i:Nat):Slots:= [(3,.rf 0),(4,.rf 1),(5,.a (.int .i64 t)),(6,.a (.int .i64 i)),(10000,.rf 2),(10001,.st [.rf 3,.rf 4])]
abbrev eH (t i:Nat):Slots:= [(3,.rf 0),(4,.rf 1),(5,.a (.int .i64 t)),(6,.a (.int .i64 i)),(87,.a (.bool false)),(10000,.rf 2),(10001,.st [.rf 3,.rf 4])]
theorem vx8 {d:Nat} (bs:List Nat) (q t:Nat) (X0:List Int) (L:List Obj') (ht:t≤1000) (hX0:X0.length≤900):∃e,(∃(i:Nat) (X:List Int),X.length≤X0.length+42∧(e=⟨eH t i,nHA bs q X L,1107⟩∨e=⟨eH t i,nHB bs q X L,1108⟩))∧
  loopE (T (d+3)) fuel [3,4,5,6,10000,10001] c_spec_l1Rd_hurtGraph_L0 ⟨sH t 0,nHA bs q X0 L,7⟩=some (.ext 1,e):=by
 refine vc4 (fun r w=>∃(i:Nat) (X:List Int),i+r=42∧X.length≤X0.length+i∧(w=⟨sH t i,nHA bs q X L,7⟩∨w=⟨sH t i,nHB bs q X L,8⟩)) 1 _ (m:=42) (vas (by omega)) ⟨0,X0,by omega,by omega,.inl rfl⟩ ?_
 rintro r w hr ⟨i,X,hi,hX,hw'⟩
 have e1:Int.tmod (t:Int) 3=((t%3:Nat):Int):=(Int.ofNat_tmod t 3).symm
 have e2:IntKind.i64.wrap (39+((t%3:Nat):Int))=39+((t%3:Nat):Int):=by rw [van]<;>omega
 have e3:IntKind.i64.wrap ((t%3:Nat):Int)=((t%3:Nat):Int):=by rw [van]<;>omega
 have hw:=vag i (by omega)
 by_cases c1:(i:Int)<42
 ·by_cases c2:(X.length:Int)<39+((t%3:Nat):Int)
  ·left
   refine ⟨by omega,⟨sH t (i+1),nHB bs q (X++ [1]) L,8⟩,?_,i+1,X++ [1],by omega,by simp;omega,.inr rfl⟩
   rcases hw' with rfl|rfl
   ·unfold round nHA nHB sH c_spec_l1Rd_hurtGraph_L0
    rw [vbt]
    simp (maxSteps:=3000000) (implicitDefEqProofs:=false) (disch:=first|assumption|(refine ofR ?_;show norm _ _=_;kernel_rfl)|(refine ofR ?_;show okD _ _ _ _=true;kernel_rfl)|exact ofR (by with_unfolding_all rfl)|exact ofB (by with_unfolding_all rfl)|omega|(simp only [go_sem,vab];omega)) only [go_sem,Nat.reduceAdd,Nat.reduceBEq,e1,e2,e3,c1,c2,hw]
    (show some _=some _;kernel_rfl)
   ·unfold round nHB sH c_spec_l1Rd_hurtGraph_L0
    rw [vbt]
    simp (maxSteps:=3000000) (implicitDefEqProofs:=false) (disch:=first|assumption|(refine ofR ?_;show norm _ _=_;kernel_rfl)|(refine ofR ?_;show okD _ _ _ _=true;kernel_rfl)|exact ofR (by with_unfolding_all rfl)|exact ofB (by with_unfolding_all rfl)|omega|(simp only [go_sem,vab];omega)) only [go_sem,Nat.reduceAdd,Nat.reduceBEq,e1,e2,e3,c1,c2,hw]
    (show some _=some _;kernel_rfl)
  ·right
   rcases hw' with rfl|rfl
   ·refine ⟨_,?_,i,X,by omega,.inl rfl⟩
    unfold round nHA sH eH c_spec_l1Rd_hurtGraph_L0
    simp (maxSteps:=3000000) (implicitDefEqProofs:=false) (disch:=first|assumption|(refine ofR ?_;show norm _ _=_;kernel_rfl)|(refine ofR ?_;show okD _ _ _ _=true;kernel_rfl)|exact ofR (by with_unfolding_all rfl)|exact ofB (by with_unfolding_all rfl)|omega|(simp only [go_sem,vab];omega)) only [go_sem,Nat.reduceAdd,Nat.reduceBEq,e1,e2,e3,c1,c2]
   ·refine ⟨_,?_,i,X,by omega,.inr rfl⟩
    unfold round nHB sH eH c_spec_l1Rd_hurtGraph_L0
    simp (maxSteps:=3000000) (implicitDefEqProofs:=false) (disch:=first|assumption|(refine ofR ?_;show norm _ _=_;kernel_rfl)|(refine ofR ?_;show okD _ _ _ _=true;kernel_rfl)|exact ofR (by with_unfolding_all rfl)|exact ofB (by with_unfolding_all rfl)|omega|(simp only [go_sem,vab];omega)) only [go_sem,Nat.reduceAdd,Nat.reduceBEq,e1,e2,e3,c1,c2]
 ·right
  rcases hw' with rfl|rfl
  ·refine ⟨_,?_,i,X,by omega,.inl rfl⟩
   unfold round nHA sH eH c_spec_l1Rd_hurtGraph_L0
   simp (maxSteps:=3000000) (implicitDefEqProofs:=false) (disch:=first|assumption|(refine ofR ?_;show norm _ _=_;kernel_rfl)|(refine ofR ?_;show okD _ _ _ _=true;kernel_rfl)|exact ofR (by with_unfolding_all rfl)|exact ofB (by with_unfolding_all rfl)|omega|(simp only [go_sem,vab];omega)) only [go_sem,Nat.reduceAdd,Nat.reduceBEq,e1,e2,e3,c1]
  ·refine ⟨_,?_,i,X,by omega,.inr rfl⟩
   unfold round nHB sH eH c_spec_l1Rd_hurtGraph_L0
   simp (maxSteps:=3000000) (implicitDefEqProofs:=false) (disch:=first|assumption|(refine ofR ?_;show norm _ _=_;kernel_rfl)|(refine ofR ?_;show okD _ _ _ _=true;kernel_rfl)|exact ofR (by with_unfolding_all rfl)|exact ofB (by with_unfolding_all rfl)|omega|(simp only [go_sem,vab];omega)) only [go_sem,Nat.reduceAdd,Nat.reduceBEq,e1,e2,e3,c1]
structure Near (g h:Gr):Prop where
 roots:h.roots.length≤g.roots.length+42
 nodes:h.nodes.length=g.nodes.length
 vals:∀M,(∀o∈g.nodes,o.vals.length≤M)→∀o∈h.nodes,o.vals.length≤M+1
theorem Near.set {g:Gr} {t:Nat} {o:Obj'} (o':Obj') (ho:g.nodes[t]? =some o) (h:o'.vals.length≤o.vals.length+1):Near g ⟨g.roots,g.nodes.set t o'⟩:=by
 refine ⟨by show g.roots.length≤_;omega,List.length_set,fun M hM x hx=> ?_⟩
 rcases List.mem_or_eq_of_mem_set hx with hx|rfl
 ·have:=hM x hx;omega
 ·have:=hM o (List.mem_of_getElem? ho);omega
theorem vno {d:Nat} {bs:List Nat} (hb:Bs bs) {g:Gr} (hn:1≤g.nodes.length∧g.nodes.length≤1000) (hr:g.roots.length≤900) (hv:∀o∈g.nodes,1≤o.vals.length∧o.vals.length≤1000) {p:Nat} (hp:p≤bs.length):∃(h:Gr) (q:Nat),Near g h∧q≤bs.length∧
  runFn (T (d+4)) fuel f_spec_l1Rd_hurtGraph [cRd bs p,cGr false g]=some ([cGr false h],[cRd bs q,.st [.un,.un]]):=by
 obtain ⟨t,q,ht,hq,he⟩:=vba (d:=d+2) hb hp g.nodes.length (by omega) (by omega)
 obtain ⟨u,q1,hu,hq1,he1⟩:=vba (d:=d+2) hb hq 24 (by omega) (by omega)
 obtain ⟨o,ho⟩:∃o,g.nodes[t]? =some o:=⟨_,List.getElem?_eq_getElem (by omega)⟩
 have htl:t<g.nodes.length:=by omega
 have near:Near g g:=⟨by omega,rfl,fun M hM x hx=>by have:=hM x hx;omega⟩
 obtain ⟨hov,hov2⟩:=hv o (List.mem_of_getElem? ho)
 obtain ⟨x0,hx0⟩:∃x,o.vals[Int.toNat 0]? =some x:=⟨_,List.getElem?_eq_getElem (show 0<_ by omega)⟩
 have hgt:(List.map eObj g.nodes).length=g.nodes.length:=List.length_map ..
 have hgs:∀x:PV,((List.map eObj g.nodes).set t x)[t]? =some x:=fun x=>List.getElem?_set_self (by omega)
 obtain rfl|rfl|rfl|rfl|rfl|rfl|h6:u=0∨u=1∨u=2∨u=3∨u=4∨u=5∨6≤u:=by omega
 ·
  obtain ⟨v,q2,hv0,hv1,hq2,he2⟩:=vh4 (d:=d) hb hq1 0 g.nodes.length (by omega) (by omega) (by omega)
  refine ⟨⟨g.roots++ [v],g.nodes⟩,q2,⟨by simp,rfl,near.vals⟩,hq2,?_⟩
  unfold cGr
  rw [vbt,vae rfl]
  simp (maxSteps:=3000000) (implicitDefEqProofs:=false) (disch:=first|assumption|(refine ofR ?_;show norm _ _=_;kernel_rfl)|(refine ofR ?_;show okD _ _ _ _=true;kernel_rfl)|exact ofR (by with_unfolding_all rfl)|exact ofB (by with_unfolding_all rfl)|omega|(simp only [go_sem,vab];omega)) only [go_sem,Nat.reduceAdd,Nat.reduceBEq,f_spec_l1Rd_hurtGraph,c_spec_l1Rd_hurtGraph,he,he1,he2]
 ·
  obtain ⟨v,q2,hv0,hv1,hq2,he2⟩:=vh4 (d:=d) hb hq1 0 2 (by omega) (by omega) (by omega)
  refine ⟨⟨g.roots,g.nodes.set t ⟨v,o.vals⟩⟩,q2,Near.set _ ho (by show o.vals.length≤_;omega),hq2,?_⟩
  unfold cGr
  rw [List.map_set,vae rfl]
  simp (maxSteps:=3000000) (implicitDefEqProofs:=false) (disch:=first|assumption|(refine ofR ?_;show norm _ _=_;kernel_rfl)|(refine ofR ?_;show okD _ _ _ _=true;kernel_rfl)|exact ofR (by with_unfolding_all rfl)|exact ofB (by with_unfolding_all rfl)|omega|(simp only [go_sem,vab];omega)) only [go_sem,Nat.reduceAdd,Nat.reduceBEq,f_spec_l1Rd_hurtGraph,c_spec_l1Rd_hurtGraph,he,he1,he2,ho]
 ·
  refine ⟨⟨g.roots,g.nodes.set t ⟨o.ty,o.vals++ [1]⟩⟩,q1,Near.set _ ho (by simp),hq1,?_⟩
  unfold cGr
  rw [List.map_set,vae rfl,vh8,vbt]
  simp (maxSteps:=3000000) (implicitDefEqProofs:=false) (disch:=first|assumption|(refine ofR ?_;show norm _ _=_;kernel_rfl)|(refine ofR ?_;show okD _ _ _ _=true;kernel_rfl)|exact ofR (by with_unfolding_all rfl)|exact ofB (by with_unfolding_all rfl)|omega|(simp only [go_sem,vab];omega)) only [go_sem,Nat.reduceAdd,Nat.reduceBEq,f_spec_l1Rd_hurtGraph,c_spec_l1Rd_hurtGraph,he,he1,ho,hgs,List.set_set]
 ·
  obtain ⟨v,q2,hv0,hv1,hq2,he2⟩:=vh4 (d:=d) hb hq1 0 g.nodes.length (by omega) (by omega) (by omega)
  refine ⟨⟨g.roots,g.nodes.set t ⟨o.ty,o.vals.set 0 v⟩⟩,q2,Near.set _ ho (by simp),hq2,?_⟩
  unfold cGr
  rw [List.map_set,vae rfl,vh8,List.map_set]
  simp (maxSteps:=3000000) (implicitDefEqProofs:=false) (disch:=first|assumption|(refine ofR ?_;show norm _ _=_;kernel_rfl)|(refine ofR ?_;show okD _ _ _ _=true;kernel_rfl)|exact ofR (by with_unfolding_all rfl)|exact ofB (by with_unfolding_all rfl)|omega|(simp only [go_sem,vab];omega)) only [go_sem,Nat.reduceAdd,Nat.reduceBEq,f_spec_l1Rd_hurtGraph,c_spec_l1Rd_hurtGraph,he,he1,he2,ho,hx0]
  rfl
 ·
  obtain ⟨v,q2,hv0,hv1,hq2,he2⟩:=vh4 (d:=d) hb hq1 (-999999999999999) 999999999999999 (by omega) (by omega) (by omega)
  refine ⟨⟨g.roots,g.nodes.set t ⟨o.ty,o.vals.set 0 v⟩⟩,q2,Near.set _ ho (by simp),hq2,?_⟩
  unfold cGr
  rw [List.map_set,vae rfl,vh8,List.map_set]
  simp (maxSteps:=3000000) (implicitDefEqProofs:=false) (disch:=first|assumption|(refine ofR ?_;show norm _ _=_;kernel_rfl)|(refine ofR ?_;show okD _ _ _ _=true;kernel_rfl)|exact ofR (by with_unfolding_all rfl)|exact ofB (by with_unfolding_all rfl)|omega|(simp only [go_sem,vab];omega)) only [go_sem,Nat.reduceAdd,Nat.reduceBEq,f_spec_l1Rd_hurtGraph,c_spec_l1Rd_hurtGraph,he,he1,he2,ho,hx0]
  rfl
 ·
  obtain ⟨_,⟨i,X,hX,hor⟩,key⟩:=vx8 (d:=d+1) bs q1 t g.roots g.nodes (by omega) hr
  unfold nHA sH at key
  refine ⟨⟨X,g.nodes⟩,q1,⟨hX,rfl,near.vals⟩,hq1,?_⟩
  rw [vae rfl]
  rcases hor with rfl|rfl
  ·simp (maxSteps:=3000000) (implicitDefEqProofs:=false) (disch:=first|assumption|(refine ofR ?_;show norm _ _=_;kernel_rfl)|(refine ofR ?_;show okD _ _ _ _=true;kernel_rfl)|exact ofR (by with_unfolding_all rfl)|exact ofB (by with_unfolding_all rfl)|omega|(simp only [go_sem,vab];omega)) only [go_sem,Nat.reduceAdd,Nat.reduceBEq,f_spec_l1Rd_hurtGraph,c_spec_l1Rd_hurtGraph,he,he1,vah key]
  ·simp (maxSteps:=3000000) (implicitDefEqProofs:=false) (disch:=first|assumption|(refine ofR ?_;show norm _ _=_;kernel_rfl)|(refine ofR ?_;show okD _ _ _ _=true;kernel_rfl)|exact ofR (by with_unfolding_all rfl)|exact ofB (by with_unfolding_all rfl)|omega|(simp only [go_sem,vab];omega)) only [go_sem,Nat.reduceAdd,Nat.reduceBEq,f_spec_l1Rd_hurtGraph,c_spec_l1Rd_hurtGraph,he,he1,vah key]
 ·
  have h0:(u:Int)≠0:=by omega
  have h1:(u:Int)≠1:=by omega
  have h2:(u:Int)≠2:=by omega
  have h3:(u:Int)≠3:=by omega
  have h4:(u:Int)≠4:=by omega
  have h5:(u:Int)≠5:=by omega
  refine ⟨g,q1,near,hq1,?_⟩
  rw [vae rfl]
  simp (maxSteps:=3000000) (implicitDefEqProofs:=false) (disch:=first|assumption|(refine ofR ?_;show norm _ _=_;kernel_rfl)|(refine ofR ?_;show okD _ _ _ _=true;kernel_rfl)|exact ofR (by with_unfolding_all rfl)|exact ofB (by with_unfolding_all rfl)|omega|(simp only [go_sem,vab];omega)) only [go_sem,Nat.reduceAdd,Nat.reduceBEq,f_spec_l1Rd_hurtGraph,c_spec_l1Rd_hurtGraph,he,he1,h0,h1,h2,h3,h4,h5]
theorem qeu (v:Int) (t n:Nat) (hn:1≤n):∃u,runFn Φ N f_spec_l7Turn [.a (.int .i64 v),.a (.int .i64 t),.a (.int .i64 n)]=some ([.a (.int .i64 u)],[]):=by
 rw [vae rfl]
 have h0:(n:Int)≠0:=by omega
 by_cases c:v=0
 ·exact ⟨_,by
   simp (maxSteps:=3000000) (implicitDefEqProofs:=false) (disch:=first|assumption|(refine ofR ?_;show norm _ _=_;kernel_rfl)|(refine ofR ?_;show okD _ _ _ _=true;kernel_rfl)|exact ofR (by with_unfolding_all rfl)|exact ofB (by with_unfolding_all rfl)|omega|(simp only [go_sem,vab];omega)) only [go_sem,Nat.reduceAdd,Nat.reduceBEq,f_spec_l7Turn,c_spec_l7Turn,c]
   rfl⟩
 ·exact ⟨_,by
   simp (maxSteps:=3000000) (implicitDefEqProofs:=false) (disch:=first|assumption|(refine ofR ?_;show norm _ _=_;kernel_rfl)|(refine ofR ?_;show okD _ _ _ _=true;kernel_rfl)|exact ofR (by with_unfolding_all rfl)|exact ofB (by with_unfolding_all rfl)|omega|(simp only [go_sem,vab];omega)) only [go_sem,Nat.reduceAdd,Nat.reduceBEq,f_spec_l7Turn,c_spec_l7Turn,c,h0]
   rfl⟩
end Go.Proofs.YteomgghmhicpcaaDoor.VM
