/- How many lines a graph needs: the program's. -/
import Derived.Test.YteomgghmhicpcaaDoorLawAlk
import Derived.Test.YteomgghmhicpcaaDoorLawD
namespace Go.Proofs.YteomgghmhicpcaaDoor.VM
open Go Sy
variable {Φ:Nat→Option Callee} {N:Nat}
@[go_sem] theorem qgp (l:List Int):(l.map eInt).map PV.thaw=l.map eInt:=by rw [List.map_map];rfl
@[go_sem] theorem qfm (l:List ByteArray):(l.map eStr).map PV.thaw=l.map eStr:=by rw [List.map_map];rfl
@[go_sem] theorem qgq (l:List Obj'):(l.map eObj).map PV.thaw=l.map eObj:=by rw [List.map_map];rfl
def lnO (ts:List ByteArray) (o:Obj'):Nat:=match ts[o.ty.toNat]? with
 |some s=>(s.size+8)/8
 |none=>0
def lnK (ts:List ByteArray) (g:Gr) (k:Nat):Nat:=match g.nodes[k]? with
 |some o=>lnO ts o
 |none=>0
def linesG (ts:List ByteArray) (g:Gr):Nat:=(found ts g).foldl (fun n k=>n+lnK ts g k) 0
def linesFor (ts:List ByteArray) (g:Gr):Int:=if graphOk ts g=true then (linesG ts g:Int) else-1
theorem vt6 (s:ByteArray) (hs:s.size≤1000):runFn Φ N f_impl_runOf [.a (.string s)]=some ([.a (.int .i64 (((s.size+8)/8:Nat):Int))],[]):=by
 have e1:IntKind.i64.wrap ((s.size:Int)+8)=((s.size+8:Nat):Int):=by rw [van]<;>omega
 have e2:Int.tdiv ((s.size+8:Nat):Int) 8=(((s.size+8)/8:Nat):Int):=(Int.ofNat_tdiv _ 8).symm
 have e3:IntKind.i64.wrap (((s.size+8)/8:Nat):Int)=(((s.size+8)/8:Nat):Int):=by rw [van]<;>omega
 rw [vae rfl]
 simp (maxSteps:=3000000) (implicitDefEqProofs:=false) (disch:=first|assumption|(refine ofR ?_;show norm _ _=_;kernel_rfl)|(refine ofR ?_;show okD _ _ _ _=true;kernel_rfl)|exact ofR (by with_unfolding_all rfl)|exact ofB (by with_unfolding_all rfl)|omega|(simp only [go_sem,vab];omega)) only [go_sem,Nat.reduceAdd,Nat.reduceBEq,f_impl_runOf,c_impl_runOf,e1,e2,e3]
theorem vpv {d:Nat} {ts:List ByteArray} {g:Gr} (h:Right ts g) {F:List Nat} (hF:∀k∈F,k<g.nodes.length) (hl:F.length≤400):
  loopE (T (d+1)) fuel [0,3,5,14,15,16] c_impl_LinesFor_L0 ⟨[(0,.sz t_string (ts.map eStr)),(3,.rf 0),(5,.a (.int .i64 (0:Nat))),(14,.rf 1),(15,.a (.int .i64 F.length)),(16,.a (.int .i64 (0:Nat)))],[(0,some (.bx false (uGr g))),(1,some (.sl false 0 t_i64 (F.map eNat)))],2⟩=
   some (.ext 0,⟨[(0,.sz t_string (ts.map eStr)),(3,.rf 0),(5,.a (.int .i64 (F.foldl (fun n k=>n+lnK ts g k) 0:Nat))),(14,.rf 1),(15,.a (.int .i64 F.length)),(16,.a (.int .i64 F.length)),(17,.a (.bool false))],[(0,some (.bx false (uGr g))),(1,some (.sl false 0 t_i64 (F.map eNat)))],102⟩):=by
 refine (vkc F (fun i n=>⟨[(0,.sz t_string (ts.map eStr)),(3,.rf 0),(5,.a (.int .i64 (n:Nat))),(14,.rf 1),(15,.a (.int .i64 F.length)),(16,.a (.int .i64 (i:Nat)))],[(0,some (.bx false (uGr g))),(1,some (.sl false 0 t_i64 (F.map eNat)))],2⟩) (fun i n=>n≤i * 4) (fun n k=>n+lnK ts g k)
  (fun n=>⟨[(0,.sz t_string (ts.map eStr)),(3,.rf 0),(5,.a (.int .i64 (n:Nat))),(14,.rf 1),(15,.a (.int .i64 F.length)),(16,.a (.int .i64 F.length)),(17,.a (.bool false))],[(0,some (.bx false (uGr g))),(1,some (.sl false 0 t_i64 (F.map eNat)))],102⟩) (vas (by omega)) (by omega) (fun i k n hk hn=> ?_) fun n hn=> ?_).1
 ·have hkn:=hF k (List.mem_of_getElem? hk)
  have hil:i<F.length:=(List.getElem?_eq_some_iff.1 hk).1
  obtain ⟨o,ho⟩:∃o,g.nodes[k]? =some o:=⟨_,List.getElem?_eq_getElem hkn⟩
  obtain ⟨t,s,t1,t2,t3,t4,t5,_⟩:=h.obj o (List.mem_of_getElem? ho)
  have htl:t<ts.length:=(List.getElem?_eq_some_iff.1 t2).1
  have hc:=vt6 (Φ:=T d) (N:=fuel) s (by omega)
  have e0:lnK ts g k=(s.size+8)/8:=by
   unfold lnK lnO
   rw [ho]
   simp only [t1,Int.toNat_natCast,t2]
  have hw:=vag i (by omega)
  have e1:IntKind.i64.wrap ((n:Int)+(((s.size+8)/8:Nat):Int))=((n+(s.size+8)/8:Nat):Int):=by rw [van]<;>omega
  rw [e0]
  refine ⟨?_,by omega⟩
  unfold round c_impl_LinesFor_L0
  simp (maxSteps:=3000000) (implicitDefEqProofs:=false) (disch:=first|assumption|(refine ofR ?_;show norm _ _=_;kernel_rfl)|(refine ofR ?_;show okD _ _ _ _=true;kernel_rfl)|exact ofR (by with_unfolding_all rfl)|exact ofB (by with_unfolding_all rfl)|omega|(simp only [go_sem,vab];omega)) only [go_sem,Nat.reduceAdd,Nat.reduceBEq,hk,ho,t1,t2,hc,hw,e1]
  (show some _=some _;kernel_rfl)
 ·unfold round c_impl_LinesFor_L0
  simp (maxSteps:=3000000) (implicitDefEqProofs:=false) (disch:=first|assumption|(refine ofR ?_;show norm _ _=_;kernel_rfl)|(refine ofR ?_;show okD _ _ _ _=true;kernel_rfl)|exact ofR (by with_unfolding_all rfl)|exact ofB (by with_unfolding_all rfl)|omega|(simp only [go_sem,vab];omega)) only [go_sem,Nat.reduceAdd,Nat.reduceBEq]
theorem vcx {d:Nat} {ts:List ByteArray} {g:Gr} (hg:Small ts g):runFn (T (d+7)) fuel f_impl_LinesFor [.sl true t_string (ts.map eStr),cGr true g]=some ([.a (.int .i64 (linesFor ts g))],[]):=by
 have h1:=vcj (d:=d) hg
 rw [vae rfl]
 unfold linesFor
 cases c1:graphOk ts g
 ·rw [c1] at h1
  simp (maxSteps:=3000000) (implicitDefEqProofs:=false) (disch:=first|assumption|(refine ofR ?_;show norm _ _=_;kernel_rfl)|(refine ofR ?_;show okD _ _ _ _=true;kernel_rfl)|exact ofR (by with_unfolding_all rfl)|exact ofB (by with_unfolding_all rfl)|omega|(simp only [go_sem,vab];omega)) only [go_sem,Nat.reduceAdd,Nat.reduceBEq,f_impl_LinesFor,c_impl_LinesFor,h1]
 ·rw [c1] at h1
  have r:=Right.of hg c1
  have hd:=vfs (d:=d+5) r
  have hI:=vau ts g g.nodes.length
  have hF:∀k∈found ts g,k<g.nodes.length:=hI.low
  have hle:(found ts g).length≤g.nodes.length:=hI.le
  have hn:=r.n
  have key:=vpv (d:=d+6) r hF (by omega)
  unfold linesG
  generalize (found ts g).foldl (fun n k=>n+lnK ts g k) 0=S at *
  generalize found ts g=F at *
  simp (maxSteps:=3000000) (implicitDefEqProofs:=false) (disch:=first|assumption|(refine ofR ?_;show norm _ _=_;kernel_rfl)|(refine ofR ?_;show okD _ _ _ _=true;kernel_rfl)|exact ofR (by with_unfolding_all rfl)|exact ofB (by with_unfolding_all rfl)|omega|(simp only [go_sem,vab];omega)) only [go_sem,Nat.reduceAdd,Nat.reduceBEq,f_impl_LinesFor,c_impl_LinesFor,h1,hd,vah key]
theorem vcb {ts:List ByteArray} {g:Gr} {F:List Nat}:∀(l:List Nat) (n:Nat),(∀k∈l,k<g.nodes.length)→l.foldl (fun n k=>n+lnK ts g k) n=(l.map (plainN ts F g)).foldl (fun n o=>n+lnO ts o) n
 | [],_,_=>rfl
 |k::l,n,h=>by
  simp only [List.foldl_cons,List.map_cons]
  have e:lnK ts g k=lnO ts (plainN ts F g k):=by
   obtain ⟨o,ho⟩:∃o,g.nodes[k]? =some o:=⟨_,List.getElem?_eq_getElem (h k (by simp))⟩
   unfold lnK plainN
   rw [ho]
   simp only [plainO]
   split
   ·rfl
   ·rfl
  rw [e]
  exact vcb l _ fun x hx=>h x (by simp [hx])
theorem qcr {ts:List ByteArray} {g h:Gr} (hal:alike ts g h=true):linesFor ts g=linesFor ts h:=by
 unfold alike at hal
 simp only [Bool.and_eq_true,sameG,decide_eq_true_eq] at hal
 obtain ⟨h1,h2,_,h3⟩:=hal
 unfold linesFor linesG
 have l1:∀k∈found ts g,k<g.nodes.length:=(vau ts g g.nodes.length).low
 have l2:∀k∈found ts h,k<h.nodes.length:=(vau ts h h.nodes.length).low
 rw [if_pos h1,if_pos h2,vcb (F:=found ts g) _ _ l1,vcb (F:=found ts h) _ _ l2]
 have h3:(found ts g).map (plainN ts (found ts g) g)=(found ts h).map (plainN ts (found ts h) h):=h3
 rw [h3]
theorem vrw (a b:Gr):sameG a b=sameG b a:=by
 unfold sameG
 rw [decide_eq_decide.2 (eq_comm (a:=a.roots)),decide_eq_decide.2 (eq_comm (a:=a.nodes))]
theorem qc8 (ts:List ByteArray) (g h:Gr):alike ts g h=alike ts h g:=by
 unfold alike
 rw [vrw]
 cases graphOk ts g<;>cases graphOk ts h<;>rfl
theorem qd7 (ts:List ByteArray) (g:Gr):alike ts g g=graphOk ts g:=by
 unfold alike sameG
 cases graphOk ts g<;>simp
end Go.Proofs.YteomgghmhicpcaaDoor.VM
