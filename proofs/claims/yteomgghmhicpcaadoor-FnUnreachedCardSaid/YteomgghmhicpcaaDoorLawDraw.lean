/- Drawn types and graphs. -/
import Derived.Test.YteomgghmhicpcaaDoorLawRead
import Derived.Test.YteomgghmhicpcaaDoorLawT
namespace Go.Proofs.YteomgghmhicpcaaDoor.VM
open Go Sy
variable {Φ:Nat→Option Callee} {N:Nat}
abbrev cRd (bs:List Nat) (p:Nat):CV:= .bx false [.sl true t_u8 (bs.map eU8),.a (.int .i64 p)]
abbrev nRd (bs:List Nat) (p:Nat):Option Node:=some (.bx false [.sz t_u8 (bs.map eU8),.a (.int .i64 p)])
theorem vwx {d:Nat} {bs:List Nat} (hb:Bs bs) {p:Nat} (hp:p≤bs.length) (most:Int) (h0:1≤most) (h1:most≤1000):∃(v q:Nat),1≤v∧(v:Int)≤most∧q≤bs.length∧
  runFn (T (d+2)) fuel f_spec_l1Rd_size [cRd bs p,.a (.int .i64 4),.a (.int .i64 most)]=some ([.a (.int .i64 v)],[cRd bs q]):=by
 have hl:=hb.len
 have e1:Int.tdiv (bs.length:Int) 4=((bs.length/4:Nat):Int):=(Int.ofNat_tdiv bs.length 4).symm
 have e2:IntKind.i64.wrap ((bs.length/4:Nat):Int)=((bs.length/4:Nat):Int):=by rw [van]<;>omega
 have e3:IntKind.i64.wrap (1+((bs.length/4:Nat):Int))=((bs.length/4+1:Nat):Int):=by rw [van]<;>omega
 by_cases c:((bs.length/4+1:Nat):Int)>most
 ·obtain ⟨v,q,hv,hq,he⟩:=vba (d:=d) hb hp most (by omega) (by omega)
  have e4:IntKind.i64.wrap (1+(v:Int))=((v+1:Nat):Int):=by rw [van]<;>omega
  refine ⟨v+1,q,by omega,by omega,hq,?_⟩
  rw [vae rfl]
  simp (maxSteps:=3000000) (implicitDefEqProofs:=false) (disch:=first|assumption|(refine ofR ?_;show norm _ _=_;kernel_rfl)|(refine ofR ?_;show okD _ _ _ _=true;kernel_rfl)|exact ofR (by with_unfolding_all rfl)|exact ofB (by with_unfolding_all rfl)|omega|(simp only [go_sem,vab];omega)) only [go_sem,Nat.reduceAdd,Nat.reduceBEq,f_spec_l1Rd_size,c_spec_l1Rd_size,he,e1,e2,e3,e4,c]
 ·obtain ⟨v,q,hv,hq,he⟩:=vba (d:=d) hb hp ((bs.length/4+1:Nat):Int) (by omega) (by omega)
  have e4:IntKind.i64.wrap (1+(v:Int))=((v+1:Nat):Int):=by rw [van]<;>omega
  refine ⟨v+1,q,by omega,by omega,hq,?_⟩
  rw [vae rfl]
  simp (maxSteps:=3000000) (implicitDefEqProofs:=false) (disch:=first|assumption|(refine ofR ?_;show norm _ _=_;kernel_rfl)|(refine ofR ?_;show okD _ _ _ _=true;kernel_rfl)|exact ofR (by with_unfolding_all rfl)|exact ofB (by with_unfolding_all rfl)|omega|(simp only [go_sem,vab];omega)) only [go_sem,Nat.reduceAdd,Nat.reduceBEq,f_spec_l1Rd_size,c_spec_l1Rd_size,he,e1,e2,e3,e4,c]
theorem vr7 {d:Nat} {bs:List Nat} (hb:Bs bs) {p:Nat} (hp:p≤bs.length) (v:Nat) (h0:1≤v) (h1:v≤1000):∃e,(∃(s:ByteArray) (q:Nat),s.size=v∧q≤bs.length∧e=⟨[(0,.rf 0),(5,.a (.string s)),(6,.a (.int .i64 (0:Nat))),(12,.a (.bool false)),(10000,.rf 0)],[(0,nRd bs q)],201⟩)∧
  loopE (T (d+2)) fuel [0,5,6,10000] c_spec_l1Rd_kinds_L0 ⟨[(0,.rf 0),(5,.a (.string ⟨#[]⟩)),(6,.a (.int .i64 (v:Nat))),(10000,.rf 0)],[(0,nRd bs p)],1⟩=some (.ext 0,e):=by
 refine vc4 (fun r t=>∃(s:ByteArray) (q:Nat),s.size+r=v∧q≤bs.length∧t=⟨[(0,.rf 0),(5,.a (.string s)),(6,.a (.int .i64 (r:Nat))),(10000,.rf 0)],[(0,nRd bs q)],1⟩) 0 _ (m:=v) (vas (by omega)) ⟨⟨#[]⟩,p,by show 0+v=v;omega,hp,rfl⟩ ?_
 rintro r t hr ⟨s,q,hs,hq,rfl⟩
 cases r with
 |zero=>
  right
  refine ⟨_,?_,s,q,by omega,hq,rfl⟩
  unfold round c_spec_l1Rd_kinds_L0
  simp (maxSteps:=3000000) (implicitDefEqProofs:=false) (disch:=first|assumption|(refine ofR ?_;show norm _ _=_;kernel_rfl)|(refine ofR ?_;show okD _ _ _ _=true;kernel_rfl)|exact ofR (by with_unfolding_all rfl)|exact ofB (by with_unfolding_all rfl)|omega|(simp only [go_sem,vab];omega)) only [go_sem,Nat.reduceAdd,Nat.reduceBEq,Int.ofNat_zero]
 |succ k=>
  left
  obtain ⟨u,q1,hu,hq1,he⟩:=vba (d:=d) hb hq 2 (by omega) (by omega)
  have hw:IntKind.i64.wrap (((k+1:Nat):Int)-1)=k:=by rw [van]<;>omega
  have hpos:(0:Int)<((k+1:Nat):Int):=by omega
  match u,(show u<2 by omega) with
  |0,_=>
   refine ⟨by omega,_,?_,s++⟨#[105]⟩,q1,by rw [ByteArray.size_append];show s.size+1+k=v;omega,hq1,rfl⟩
   unfold round c_spec_l1Rd_kinds_L0
   simp (maxSteps:=3000000) (implicitDefEqProofs:=false) (disch:=first|assumption|(refine ofR ?_;show norm _ _=_;kernel_rfl)|(refine ofR ?_;show okD _ _ _ _=true;kernel_rfl)|exact ofR (by with_unfolding_all rfl)|exact ofB (by with_unfolding_all rfl)|omega|(simp only [go_sem,vab];omega)) only [go_sem,Nat.reduceAdd,Nat.reduceBEq,he,hw,hpos]
   (show some _=some _;kernel_rfl)
  |1,_=>
   refine ⟨by omega,_,?_,s++⟨#[114]⟩,q1,by rw [ByteArray.size_append];show s.size+1+k=v;omega,hq1,rfl⟩
   unfold round c_spec_l1Rd_kinds_L0
   simp (maxSteps:=3000000) (implicitDefEqProofs:=false) (disch:=first|assumption|(refine ofR ?_;show norm _ _=_;kernel_rfl)|(refine ofR ?_;show okD _ _ _ _=true;kernel_rfl)|exact ofR (by with_unfolding_all rfl)|exact ofB (by with_unfolding_all rfl)|omega|(simp only [go_sem,vab];omega)) only [go_sem,Nat.reduceAdd,Nat.reduceBEq,he,hw,hpos]
   (show some _=some _;kernel_rfl)
theorem vhn {d:Nat} {bs:List Nat} (hb:Bs bs) {p:Nat} (hp:p≤bs.length) (most:Int) (h0:1≤most) (h1:most≤999):∃(s:ByteArray) (q:Nat),1≤s.size∧(s.size:Int)≤most∧q≤bs.length∧
  runFn (T (d+2)) fuel f_spec_l1Rd_kinds [cRd bs p,.a (.int .i64 most)]=some ([.a (.string s)],[cRd bs q]):=by
 obtain ⟨v,q,hv,hq,he⟩:=vba (d:=d) hb hp most (by omega) (by omega)
 obtain ⟨_,⟨s,q1,hs,hq1,rfl⟩,key⟩:=vr7 (d:=d) hb hq (v+1) (by omega) (by omega)
 have e4:IntKind.i64.wrap (1+(v:Int))=((v+1:Nat):Int):=by rw [van]<;>omega
 refine ⟨s,q1,by omega,by omega,hq1,?_⟩
 rw [vae rfl]
 simp (maxSteps:=3000000) (implicitDefEqProofs:=false) (disch:=first|assumption|(refine ofR ?_;show norm _ _=_;kernel_rfl)|(refine ofR ?_;show okD _ _ _ _=true;kernel_rfl)|exact ofR (by with_unfolding_all rfl)|exact ofB (by with_unfolding_all rfl)|omega|(simp only [go_sem,vab];omega)) only [go_sem,Nat.reduceAdd,Nat.reduceBEq,f_spec_l1Rd_kinds,c_spec_l1Rd_kinds,he,e4,vah key]
structure DT (ts:List ByteArray):Prop where
 ne:1≤ts.length
 le:ts.length≤3
 lo:∀s∈ts,1≤s.size
 hi:∀s∈ts,s.size≤23
theorem vr3 {d:Nat} {bs:List Nat} (hb:Bs bs) {p:Nat} (hp:p≤bs.length) {t0:ByteArray} (l0:1≤t0.size) (l1:t0.size≤23) (v:Nat) (h1:v≤2):∃e,(∃(ts:List ByteArray) (q:Nat),DT ts∧q≤bs.length∧e=⟨[(0,.rf 0),(3,.rf 1),(4,.a (.int .i64 (0:Nat))),(15,.a (.bool false)),(10000,.rf 0)],[(0,nRd bs q),(1,some (.sl false 0 t_string (ts.map eStr)))],202⟩)∧
  loopE (T (d+3)) fuel [0,3,4,10000] c_spec_l1Rd_types_L0 ⟨[(0,.rf 0),(3,.rf 1),(4,.a (.int .i64 (v:Nat))),(10000,.rf 0)],[(0,nRd bs p),(1,some (.sl false 0 t_string [eStr t0]))],2⟩=some (.ext 0,e):=by
 refine vc4 (fun r t=>∃(ts:List ByteArray) (q:Nat),(1≤ts.length∧ts.length+r≤3∧(∀s∈ts,1≤s.size)∧∀s∈ts,s.size≤23)∧q≤bs.length∧t=⟨[(0,.rf 0),(3,.rf 1),(4,.a (.int .i64 (r:Nat))),(10000,.rf 0)],[(0,nRd bs q),(1,some (.sl false 0 t_string (ts.map eStr)))],2⟩) 0 _ (m:=v) (vas (by omega)) ⟨[t0],p,⟨by simp,by simp;omega,by simpa using l0,by simpa using l1⟩,hp,rfl⟩ ?_
 rintro r t hr ⟨ts,q,⟨a1,a2,a3,a4⟩,hq,rfl⟩
 cases r with
 |zero=>
  right
  refine ⟨_,?_,ts,q,⟨a1,by omega,a3,a4⟩,hq,rfl⟩
  unfold round c_spec_l1Rd_types_L0
  simp (maxSteps:=3000000) (implicitDefEqProofs:=false) (disch:=first|assumption|(refine ofR ?_;show norm _ _=_;kernel_rfl)|(refine ofR ?_;show okD _ _ _ _=true;kernel_rfl)|exact ofR (by with_unfolding_all rfl)|exact ofB (by with_unfolding_all rfl)|omega|(simp only [go_sem,vab];omega)) only [go_sem,Nat.reduceAdd,Nat.reduceBEq,Int.ofNat_zero]
 |succ k=>
  left
  obtain ⟨u,q1,hq1,he⟩:=vgm (d:=d) hb hq 4 (by omega) (by omega)
  have hw:IntKind.i64.wrap (((k+1:Nat):Int)-1)=k:=by rw [van]<;>omega
  have hpos:(0:Int)<((k+1:Nat):Int):=by omega
  cases u with
  |false=>
   obtain ⟨s,q2,b1,b2,hq2,he2⟩:=vhn (d:=d) hb hq1 5 (by omega) (by omega)
   refine ⟨by omega,_,?_,ts++ [s],q2,⟨by simp,by simp;omega,fun x hx=> ?_,fun x hx=> ?_⟩,hq2,rfl⟩
   ·rw [vbt]
    unfold round c_spec_l1Rd_types_L0
    simp (maxSteps:=3000000) (implicitDefEqProofs:=false) (disch:=first|assumption|(refine ofR ?_;show norm _ _=_;kernel_rfl)|(refine ofR ?_;show okD _ _ _ _=true;kernel_rfl)|exact ofR (by with_unfolding_all rfl)|exact ofB (by with_unfolding_all rfl)|omega|(simp only [go_sem,vab];omega)) only [go_sem,Nat.reduceAdd,Nat.reduceBEq,he,hw,hpos,he2]
    (show some _=some _;kernel_rfl)
   ·rcases List.mem_append.1 hx with h|h
    ·exact a3 x h
    ·simp at h;subst h;exact b1
   ·rcases List.mem_append.1 hx with h|h
    ·exact a4 x h
    ·simp at h;subst h;omega
  |true=>
   obtain ⟨s,q2,b1,b2,hq2,he2⟩:=vhn (d:=d) hb hq1 23 (by omega) (by omega)
   refine ⟨by omega,_,?_,ts++ [s],q2,⟨by simp,by simp;omega,fun x hx=> ?_,fun x hx=> ?_⟩,hq2,rfl⟩
   ·rw [vbt]
    unfold round c_spec_l1Rd_types_L0
    simp (maxSteps:=3000000) (implicitDefEqProofs:=false) (disch:=first|assumption|(refine ofR ?_;show norm _ _=_;kernel_rfl)|(refine ofR ?_;show okD _ _ _ _=true;kernel_rfl)|exact ofR (by with_unfolding_all rfl)|exact ofB (by with_unfolding_all rfl)|omega|(simp only [go_sem,vab];omega)) only [go_sem,Nat.reduceAdd,Nat.reduceBEq,he,hw,hpos,he2]
    (show some _=some _;kernel_rfl)
   ·rcases List.mem_append.1 hx with h|h
    ·exact a3 x h
    ·simp at h;subst h;exact b1
   ·rcases List.mem_append.1 hx with h|h
    ·exact a4 x h
    ·simp at h;subst h;omega
theorem vvd {d:Nat} {bs:List Nat} (hb:Bs bs) {p:Nat} (hp:p≤bs.length):∃(ts:List ByteArray) (q:Nat),DT ts∧q≤bs.length∧
  runFn (T (d+3)) fuel f_spec_l1Rd_types [cRd bs p]=some ([.sl false t_string (ts.map eStr)],[cRd bs q]):=by
 obtain ⟨u,q1,hu,hq1,he1⟩:=vba (d:=d+1) hb hp 4 (by omega) (by omega)
 obtain ⟨v,q,hv,hq,he⟩:=vba (d:=d+1) hb hq1 3 (by omega) (by omega)
 have fin (t0:ByteArray) (l0:1≤t0.size) (l1:t0.size≤23) (hx:([.string ⟨#[105,114]⟩,.string ⟨#[114,114,105]⟩,.string ⟨#[114,105]⟩,.string ⟨#[105,114,114]⟩]:List Value)[u]? =some (.string t0)):∃(ts:List ByteArray) (q:Nat),DT ts∧q≤bs.length∧
  runFn (T (d+3)) fuel f_spec_l1Rd_types [cRd bs p]=some ([.sl false t_string (ts.map eStr)],[cRd bs q]):=by
  obtain ⟨_,⟨ts,q1,hs,hq1,rfl⟩,key⟩:=vr3 (d:=d) hb hq l0 l1 v (by omega)
  refine ⟨ts,q1,hs,hq1,?_⟩
  rw [vae rfl]
  match u,(show u<4 by omega) with
  |0,_=>cases hx;simp (maxSteps:=3000000) (implicitDefEqProofs:=false) (disch:=first|assumption|(refine ofR ?_;show norm _ _=_;kernel_rfl)|(refine ofR ?_;show okD _ _ _ _=true;kernel_rfl)|exact ofR (by with_unfolding_all rfl)|exact ofB (by with_unfolding_all rfl)|omega|(simp only [go_sem,vab];omega)) only [go_sem,Nat.reduceAdd,Nat.reduceBEq,f_spec_l1Rd_types,c_spec_l1Rd_types,he,he1,vah key]
  |1,_=>cases hx;simp (maxSteps:=3000000) (implicitDefEqProofs:=false) (disch:=first|assumption|(refine ofR ?_;show norm _ _=_;kernel_rfl)|(refine ofR ?_;show okD _ _ _ _=true;kernel_rfl)|exact ofR (by with_unfolding_all rfl)|exact ofB (by with_unfolding_all rfl)|omega|(simp only [go_sem,vab];omega)) only [go_sem,Nat.reduceAdd,Nat.reduceBEq,f_spec_l1Rd_types,c_spec_l1Rd_types,he,he1,vah key]
  |2,_=>cases hx;simp (maxSteps:=3000000) (implicitDefEqProofs:=false) (disch:=first|assumption|(refine ofR ?_;show norm _ _=_;kernel_rfl)|(refine ofR ?_;show okD _ _ _ _=true;kernel_rfl)|exact ofR (by with_unfolding_all rfl)|exact ofB (by with_unfolding_all rfl)|omega|(simp only [go_sem,vab];omega)) only [go_sem,Nat.reduceAdd,Nat.reduceBEq,f_spec_l1Rd_types,c_spec_l1Rd_types,he,he1,vah key]
  |3,_=>cases hx;simp (maxSteps:=3000000) (implicitDefEqProofs:=false) (disch:=first|assumption|(refine ofR ?_;show norm _ _=_;kernel_rfl)|(refine ofR ?_;show okD _ _ _ _=true;kernel_rfl)|exact ofR (by with_unfolding_all rfl)|exact ofB (by with_unfolding_all rfl)|omega|(simp only [go_sem,vab];omega)) only [go_sem,Nat.reduceAdd,Nat.reduceBEq,f_spec_l1Rd_types,c_spec_l1Rd_types,he,he1,vah key]
 match u,(show u<4 by omega) with
 |0,_=>exact fin ⟨#[105,114]⟩ (by decide) (by decide) rfl
 |1,_=>exact fin ⟨#[114,114,105]⟩ (by decide) (by decide) rfl
 |2,_=>exact fin ⟨#[114,105]⟩ (by decide) (by decide) rfl
 |3,_=>exact fin ⟨#[105,114,114]⟩ (by decide) (by decide) rfl
def GSh (ts:List ByteArray) (l:List Obj'):Prop:=∀o∈l,∃(t:Nat) (s:ByteArray),o.ty=(t:Int)∧ts[t]? =some s∧o.vals.length=s.size
theorem GSh.snoc {ts:List ByteArray} {l:List Obj'} (h:GSh ts l) {o:Obj'} {t:Nat} {s:ByteArray} (h1:o.ty=(t:Int)) (h2:ts[t]? =some s) (h3:o.vals.length=s.size):GSh ts (l++ [o]):=fun x hx=>by
 rcases List.mem_append.1 hx with hx|hx
 ·exact h x hx
 ·simp at hx;subst hx;exact ⟨t,s,h1,h2,h3⟩
abbrev nG (bs:List Nat) (ts:List ByteArray) (q:Nat) (X:List Int) (L:List Obj'):Nodes:= [(0,nRd bs q),(1,some (.sl true 0 t_string (ts.map eStr))),(2,some (.bx false [.rf 4,.rf 5])),(3,some (.bx false [.rf 6,.rf 7])),(4,some (.sl false 0 t_i64 [])),(5,some (.sl false 0 t_impl_Obj [])),(6,some (.sl false 0 t_i64 (X.map eInt))),(7,some (.sl false 0 t_impl_Obj (L.map eObj)))]
def SG0 (bs:List Nat) (ts:List ByteArray) (q k v:Nat) (X:List Int) (i:Nat):St:=⟨[(0,.rf 0),(1,.rf 1),(2,.a (.int .i64 k)),(8,.rf 2),(9,.rf 3),(10,.a (.int .i64 v)),(11,.a (.int .i64 i)),(10000,.rf 0),(10001,.rf 1)],nG bs ts q X [],8⟩
theorem vvt {d:Nat} {bs:List Nat} (hb:Bs bs) (ts:List ByteArray) {p:Nat} (hp:p≤bs.length) (k v:Nat) (h0:k≤1000) (h1:1≤v∧v≤1000):∃e,(∃(X:List Int) (q:Nat),X.length=k∧q≤bs.length∧e=⟨[(0,.rf 0),(1,.rf 1),(2,.a (.int .i64 k)),(8,.rf 2),(9,.rf 3),(10,.a (.int .i64 v)),(11,.a (.int .i64 X.length)),(23,.a (.bool false)),(10000,.rf 0),(10001,.rf 1)],nG bs ts q X [],308⟩)∧
  loopE (T (d+3)) fuel [0,1,2,8,9,10,11,10000,10001] c_spec_l1Rd_graph_L0 (SG0 bs ts p k v [] 0)=some (.ext 0,e):=by
 refine vc4 (fun r t=>∃(X:List Int) (q:Nat),X.length+r=k∧q≤bs.length∧t=SG0 bs ts q k v X X.length) 0 _ (m:=k) (vas (by omega)) ⟨[],p,by simp,hp,rfl⟩ ?_
 rintro r t hr ⟨X,q,hX,hq,rfl⟩
 by_cases hpos:0<r
 ·left
  obtain ⟨u,q1,hq1,he⟩:=vgm (d:=d) hb hq 2 (by omega) (by omega)
  have hw:=vag X.length (by omega)
  have hlt:(X.length:Int)<k:=by omega
  cases u with
  |false=>
   refine ⟨hpos,_,?_,X++ [0],q1,by simp;omega,hq1,rfl⟩
   rw [SG0,SG0,List.length_append]
   unfold nG
   rw [vbt]
   unfold round c_spec_l1Rd_graph_L0
   simp (maxSteps:=3000000) (implicitDefEqProofs:=false) (disch:=first|assumption|(refine ofR ?_;show norm _ _=_;kernel_rfl)|(refine ofR ?_;show okD _ _ _ _=true;kernel_rfl)|exact ofR (by with_unfolding_all rfl)|exact ofB (by with_unfolding_all rfl)|omega|(simp only [go_sem,vab];omega)) only [go_sem,Nat.reduceAdd,Nat.reduceBEq,he,hw,hlt]
   (show some _=some _;kernel_rfl)
  |true=>
   obtain ⟨w,q2,b1,hq2,he2⟩:=vba (d:=d+1) hb hq1 v (by omega) (by omega)
   have e4:IntKind.i64.wrap (1+(w:Int))=((w+1:Nat):Int):=by rw [van]<;>omega
   refine ⟨hpos,_,?_,X++ [((w+1:Nat):Int)],q2,by simp;omega,hq2,rfl⟩
   rw [SG0,SG0,List.length_append]
   unfold nG
   rw [vbt]
   unfold round c_spec_l1Rd_graph_L0
   simp (maxSteps:=3000000) (implicitDefEqProofs:=false) (disch:=first|assumption|(refine ofR ?_;show norm _ _=_;kernel_rfl)|(refine ofR ?_;show okD _ _ _ _=true;kernel_rfl)|exact ofR (by with_unfolding_all rfl)|exact ofB (by with_unfolding_all rfl)|omega|(simp only [go_sem,vab];omega)) only [go_sem,Nat.reduceAdd,Nat.reduceBEq,he,hw,he2,hlt,e4]
   (show some _=some _;kernel_rfl)
 ·right
  have hlt:¬(X.length:Int)<k:=by omega
  have hk:X.length=k:=by omega
  refine ⟨_,?_,X,q,hk,hq,rfl⟩
  unfold round SG0 nG c_spec_l1Rd_graph_L0
  simp (maxSteps:=3000000) (implicitDefEqProofs:=false) (disch:=first|assumption|(refine ofR ?_;show norm _ _=_;kernel_rfl)|(refine ofR ?_;show okD _ _ _ _=true;kernel_rfl)|exact ofR (by with_unfolding_all rfl)|exact ofB (by with_unfolding_all rfl)|omega|(simp only [go_sem,vab];omega)) only [go_sem,Nat.reduceAdd,Nat.reduceBEq,hlt]
abbrev nG2 (bs:List Nat) (ts:List ByteArray) (q:Nat) (X:List Int) (L:List Obj') (t:Nat) (V:List Int):Nodes:= [(0,nRd bs q),(1,some (.sl true 0 t_string (ts.map eStr))),(2,some (.bx false [.rf 5,.rf 6])),(3,some (.bx false [.rf 7,.rf 8])),(4,some (.bx false [.a (.int .i64 t),.rf 9])),(5,some (.sl false 0 t_i64 [])),(6,some (.sl false 0 t_impl_Obj [])),(7,some (.sl false 0 t_i64 (X.map eInt))),(8,some (.sl false 0 t_impl_Obj (L.map eObj))),(9,some (.sl false 0 t_i64 (V.map eInt)))]
def SG2 (bs:List Nat) (ts:List ByteArray) (q v:Nat) (X:List Int) (L:List Obj') (t:Nat) (V:List Int) (i j:Nat):St:=⟨[(0,.rf 0),(1,.rf 1),(8,.rf 2),(9,.rf 3),(10,.a (.int .i64 v)),(13,.a (.int .i64 i)),(14,.rf 4),(15,.a (.int .i64 j)),(10000,.rf 0),(10001,.rf 1)],nG2 bs ts q X L t V,10⟩
theorem vxf {d:Nat} {bs:List Nat} (hb:Bs bs) (ts:List ByteArray) {p:Nat} (hp:p≤bs.length) (v:Nat) (h1:1≤v∧v≤1000) (X:List Int) (L:List Obj') (i t:Nat) {s:ByteArray} (hs:ts[t]? =some s) (hz:s.size≤1000):∃e,(∃(V:List Int) (q:Nat),V.length=s.size∧q≤bs.length∧e=⟨[(0,.rf 0),(1,.rf 1),(8,.rf 2),(9,.rf 3),(10,.a (.int .i64 v)),(13,.a (.int .i64 i)),(14,.rf 4),(15,.a (.int .i64 V.length)),(55,.a (.bool false)),(10000,.rf 0),(10001,.rf 1)],nG2 bs ts q X L t V,810⟩)∧
  loopE (T (d+3)) fuel [0,1,8,9,10,13,14,15,10000,10001] c_spec_l1Rd_graph_L2 (SG2 bs ts p v X L t [] i 0)=some (.ext 4,e):=by
 have htl:t<ts.length:=(List.getElem?_eq_some_iff.1 hs).1
 refine vc4 (fun r w=>∃(V:List Int) (q:Nat),V.length+r=s.size∧q≤bs.length∧w=SG2 bs ts q v X L t V i V.length) 4 _ (m:=s.size) (vas (by omega)) ⟨[],p,by simp,hp,rfl⟩ ?_
 rintro r w hr ⟨V,q,hV,hq,rfl⟩
 by_cases hpos:0<r
 ·left
  obtain ⟨u,q1,hu,hq1,he⟩:=vba (d:=d+1) hb hq 100 (by omega) (by omega)
  have e0:IntKind.i64.wrap ((u:Int)-20)=(u:Int)-20:=by rw [van]<;>omega
  obtain ⟨w,q2,b1,hq2,he2⟩:=vba (d:=d+1) hb hq1 ((v:Int)+3) (by omega) (by omega)
  have e1:IntKind.i64.wrap ((v:Int)+3)=(v:Int)+3:=by rw [van]<;>omega
  have e2:IntKind.i64.wrap ((w:Int)-2)=(w:Int)-2:=by rw [van]<;>omega
  have hw:=vag V.length (by omega)
  have hlt:(V.length:Int)<s.size:=by omega
  obtain ⟨b,hb⟩:∃b,(ch s)[V.length]? =some b:=⟨_,List.getElem?_eq_getElem (by rw [←vck];omega)⟩
  have hx:=vd1 hb
  by_cases c:(b.toNat:Int)=114
  ·obtain ⟨m,hm⟩:∃m,ext2 true ((w:Int)-2) 0=m:=⟨_,rfl⟩
   refine ⟨hpos,_,?_,V++ [m],q2,by simp;omega,hq2,rfl⟩
   rw [SG2,SG2,List.length_append]
   unfold nG2
   rw [vbt]
   unfold round c_spec_l1Rd_graph_L2
   simp (maxSteps:=3000000) (implicitDefEqProofs:=false) (disch:=first|assumption|(refine ofR ?_;show norm _ _=_;kernel_rfl)|(refine ofR ?_;show okD _ _ _ _=true;kernel_rfl)|exact ofR (by with_unfolding_all rfl)|exact ofB (by with_unfolding_all rfl)|omega|(simp only [go_sem,vab];omega)) only [go_sem,Nat.reduceAdd,Nat.reduceBEq,he,hw,hlt,hs,hx,c,e0,e1,e2,he2,hm]
   (show some _=some _;kernel_rfl)
  ·refine ⟨hpos,_,?_,V++ [(u:Int)-20],q1,by simp;omega,hq1,rfl⟩
   rw [SG2,SG2,List.length_append]
   unfold nG2
   rw [vbt]
   unfold round c_spec_l1Rd_graph_L2
   simp (maxSteps:=3000000) (implicitDefEqProofs:=false) (disch:=first|assumption|(refine ofR ?_;show norm _ _=_;kernel_rfl)|(refine ofR ?_;show okD _ _ _ _=true;kernel_rfl)|exact ofR (by with_unfolding_all rfl)|exact ofB (by with_unfolding_all rfl)|omega|(simp only [go_sem,vab];omega)) only [go_sem,Nat.reduceAdd,Nat.reduceBEq,he,hw,hlt,hs,hx,c,e0]
   (show some _=some _;kernel_rfl)
 ·right
  have hlt:¬(V.length:Int)<s.size:=by omega
  refine ⟨_,?_,V,q,by omega,hq,rfl⟩
  unfold round SG2 nG2 c_spec_l1Rd_graph_L2
  simp (maxSteps:=3000000) (implicitDefEqProofs:=false) (disch:=first|assumption|(refine ofR ?_;show norm _ _=_;kernel_rfl)|(refine ofR ?_;show okD _ _ _ _=true;kernel_rfl)|exact ofR (by with_unfolding_all rfl)|exact ofB (by with_unfolding_all rfl)|omega|(simp only [go_sem,vab];omega)) only [go_sem,Nat.reduceAdd,Nat.reduceBEq,hlt,hs]
def SG1 (bs:List Nat) (ts:List ByteArray) (q v:Nat) (X:List Int) (L:List Obj') (i:Nat):St:=⟨[(0,.rf 0),(1,.rf 1),(8,.rf 2),(9,.rf 3),(10,.a (.int .i64 v)),(13,.a (.int .i64 i)),(10000,.rf 0),(10001,.rf 1)],nG bs ts q X L,8⟩
theorem vvv {d:Nat} {bs:List Nat} (hb:Bs bs) {ts:List ByteArray} (ht:DT ts) {p:Nat} (hp:p≤bs.length) (v:Nat) (h1:1≤v∧v≤1000) (X:List Int):∃e,(∃(L:List Obj') (q:Nat),L.length=v∧GSh ts L∧q≤bs.length∧e=⟨[(0,.rf 0),(1,.rf 1),(8,.rf 2),(9,.rf 3),(10,.a (.int .i64 v)),(13,.a (.int .i64 L.length)),(40,.a (.bool false)),(10000,.rf 0),(10001,.rf 1)],nG bs ts q X L,308⟩)∧
  loopE (T (d+3)) fuel [0,1,8,9,10,13,10000,10001] c_spec_l1Rd_graph_L1 (SG1 bs ts p v X [] 0)=some (.ext 2,e):=by
 refine vc4 (fun r w=>∃(L:List Obj') (q:Nat),L.length+r=v∧GSh ts L∧q≤bs.length∧w=SG1 bs ts q v X L L.length) 2 _ (m:=v) (vas (by omega)) ⟨[],p,by simp,fun o ho=>by simp at ho,hp,rfl⟩ ?_
 rintro r w hr ⟨L,q,hL,hG,hq,rfl⟩
 have hne:=ht.ne
 have hle:=ht.le
 by_cases hpos:0<r
 ·left
  obtain ⟨t,q1,hu,hq1,he⟩:=vba (d:=d+1) hb hq ts.length (by omega) (by omega)
  obtain ⟨s,hs⟩:∃s,ts[t]? =some s:=⟨_,List.getElem?_eq_getElem (by omega)⟩
  have hsz:=ht.hi s (List.mem_of_getElem? hs)
  obtain ⟨_,⟨V,q2,hV,hq2,rfl⟩,key⟩:=vxf (d:=d) hb ts hq1 v h1 X L L.length t hs (by omega)
  unfold SG2 nG2 at key
  have hw:=vag L.length (by omega)
  have hlt:(L.length:Int)<v:=by omega
  refine ⟨hpos,_,?_,L++ [⟨t,V⟩],q2,by simp;omega,hG.snoc rfl hs hV,hq2,rfl⟩
  rw [SG1,SG1,List.length_append]
  unfold nG
  rw [vbt]
  unfold round c_spec_l1Rd_graph_L1
  simp (maxSteps:=3000000) (implicitDefEqProofs:=false) (disch:=first|assumption|(refine ofR ?_;show norm _ _=_;kernel_rfl)|(refine ofR ?_;show okD _ _ _ _=true;kernel_rfl)|exact ofR (by with_unfolding_all rfl)|exact ofB (by with_unfolding_all rfl)|omega|(simp only [go_sem,vab];omega)) only [go_sem,Nat.reduceAdd,Nat.reduceBEq,he,hw,hlt,vah key]
  (show some _=some _;kernel_rfl)
 ·right
  have hlt:¬(L.length:Int)<v:=by omega
  refine ⟨_,?_,L,q,by omega,hG,hq,rfl⟩
  unfold round SG1 nG c_spec_l1Rd_graph_L1
  simp (maxSteps:=3000000) (implicitDefEqProofs:=false) (disch:=first|assumption|(refine ofR ?_;show norm _ _=_;kernel_rfl)|(refine ofR ?_;show okD _ _ _ _=true;kernel_rfl)|exact ofR (by with_unfolding_all rfl)|exact ofB (by with_unfolding_all rfl)|omega|(simp only [go_sem,vab];omega)) only [go_sem,Nat.reduceAdd,Nat.reduceBEq,hlt]
theorem vua {d:Nat} {bs:List Nat} (hb:Bs bs) {ts:List ByteArray} (ht:DT ts) {p:Nat} (hp:p≤bs.length) (k:Nat) (h0:k≤1000) (most:Int) (hm0:1≤most) (hm1:most≤1000):∃(g:Gr) (q:Nat),g.roots.length=k∧1≤g.nodes.length∧(g.nodes.length:Int)≤most∧GSh ts g.nodes∧q≤bs.length∧
  runFn (T (d+3)) fuel f_spec_l1Rd_graph [cRd bs p,.sl false t_string (ts.map eStr),.a (.int .i64 k),.a (.int .i64 most)]=some ([cGr false g],[cRd bs q,.sl false t_string (ts.map eStr)]):=by
 obtain ⟨v,q,hv0,hv1,hq,he⟩:=vwx (d:=d) hb hp most hm0 hm1
 obtain ⟨_,⟨X,q1,hX,hq1,rfl⟩,k1⟩:=vvt (d:=d) hb ts hq k v h0 ⟨hv0,by omega⟩
 obtain ⟨_,⟨L,q2,hL,hG,hq2,rfl⟩,k2⟩:=vvv (d:=d) hb ht hq1 v ⟨hv0,by omega⟩ X
 unfold SG0 nG at k1
 unfold SG1 nG at k2
 refine ⟨⟨X,L⟩,q2,hX,by show 1≤L.length;omega,by show (L.length:Int)≤most;omega,hG,hq2,?_⟩
 rw [vae rfl]
 simp (maxSteps:=3000000) (implicitDefEqProofs:=false) (disch:=first|assumption|(refine ofR ?_;show norm _ _=_;kernel_rfl)|(refine ofR ?_;show okD _ _ _ _=true;kernel_rfl)|exact ofR (by with_unfolding_all rfl)|exact ofB (by with_unfolding_all rfl)|omega|(simp only [go_sem,vab];omega)) only [go_sem,Nat.reduceAdd,Nat.reduceBEq,f_spec_l1Rd_graph,c_spec_l1Rd_graph,he,vah k1,vah k2]
end Go.Proofs.YteomgghmhicpcaaDoor.VM
