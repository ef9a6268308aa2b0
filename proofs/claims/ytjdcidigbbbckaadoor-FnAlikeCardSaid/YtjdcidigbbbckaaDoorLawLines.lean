/- How many lines a graph needs: the program's. -/
import Derived.Test.YtjdcidigbbbckaaDoorLawAlk
import Derived.Test.YtjdcidigbbbckaaDoorLawD
namespace Go.Proofs.YtjdcidigbbbckaaDoor.VM
open Go Sy
variable {Φ:Nat→Option Callee} {N:Nat}
@[go_sem] theorem zqk (l:List Int):(l.map eInt).map PV.thaw=l.map eInt:=by rw [List.map_map];rfl
@[go_sem] theorem xqk (l:List ByteArray):(l.map eStr).map PV.thaw=l.map eStr:=by rw [List.map_map];rfl
@[go_sem] theorem yqk (l:List Obj'):(l.map eObj).map PV.thaw=l.map eObj:=by rw [List.map_map];rfl
def lnO (ts:List ByteArray) (o:Obj'):Nat:=match ts[o.ty.toNat]? with
 |some s=>(s.size+8)/8
 |none=>0
def lnK (ts:List ByteArray) (g:Gr) (k:Nat):Nat:=match g.nodes[k]? with
 |some o=>lnO ts o
 |none=>0
def ezi (ts:List ByteArray) (g:Gr):Nat:=(mxb ts g).foldl (fun n k=>n+lnK ts g k) 0
def vzd (ts:List ByteArray) (g:Gr):Int:=if axb ts g=true then (ezi ts g:Int) else -1
theorem jxh (s:ByteArray) (hs:s.size≤1000):fj Φ N cjc [.a (.string s)]=some ([.a (.int .i64 (((s.size+8)/8:Nat):Int))],[]):=by
 have e1:IntKind.i64.wrap ((s.size:Int)+8)=((s.size+8:Nat):Int):=by rw [aq]<;>omega
 have e2:Int.tdiv ((s.size+8:Nat):Int) 8=(((s.size+8)/8:Nat):Int):=(Int.ofNat_tdiv _ 8).symm
 have e3:IntKind.i64.wrap (((s.size+8)/8:Nat):Int)=(((s.size+8)/8:Nat):Int):=by rw [aq]<;>omega
 rw [sj rfl]
 simp (maxSteps:=3000000) (implicitDefEqProofs:=false) (disch:=first|assumption|(refine ofR ?_;show norm _ _=_;kernel_rfl)|(refine ofR ?_;show okD _ _ _ _=true;kernel_rfl)|exact ofR (by with_unfolding_all rfl)|exact ofB (by with_unfolding_all rfl)|omega|(simp only [go_sem,bz];omega)) only [go_sem,Nat.reduceAdd,Nat.reduceBEq,cjc,vje,e1,e2,e3]
theorem jxg {d:Nat} {ts:List ByteArray} {g:Gr} (h:Right ts g) {F:List Nat} (hF: ∀k∈F,k<g.nodes.length) (hl:F.length≤400):
 tzb (T (d+1)) fuel [0,3,5,14,15,16] yxb ⟨[(0,.sz mz (ts.map eStr)),(3,.rf 0),(5,.a (.int .i64 (0:Nat))),(14,.rf 1),(15,.a (.int .i64 F.length)),(16,.a (.int .i64 (0:Nat)))],[(0,some (.bx false (uGr g))),(1,some (.sl false 0 oz (F.map eNat)))],2⟩=
  some (.ext 0,⟨[(0,.sz mz (ts.map eStr)),(3,.rf 0),(5,.a (.int .i64 (F.foldl (fun n k=>n+lnK ts g k) 0:Nat))),(14,.rf 1),(15,.a (.int .i64 F.length)),(16,.a (.int .i64 F.length)),(17,.a (.bool false))],[(0,some (.bx false (uGr g))),(1,some (.sl false 0 oz (F.map eNat)))],102⟩):=by
 refine (bjh F (fun i n=>⟨[(0,.sz mz (ts.map eStr)),(3,.rf 0),(5,.a (.int .i64 (n:Nat))),(14,.rf 1),(15,.a (.int .i64 F.length)),(16,.a (.int .i64 (i:Nat)))],[(0,some (.bx false (uGr g))),(1,some (.sl false 0 oz (F.map eNat)))],2⟩) (fun i n=>n≤i*4) (fun n k=>n+lnK ts g k)
  (fun n=>⟨[(0,.sz mz (ts.map eStr)),(3,.rf 0),(5,.a (.int .i64 (n:Nat))),(14,.rf 1),(15,.a (.int .i64 F.length)),(16,.a (.int .i64 F.length)),(17,.a (.bool false))],[(0,some (.bx false (uGr g))),(1,some (.sl false 0 oz (F.map eNat)))],102⟩) (sq (by omega)) (by omega) (fun i k n hk hn=> ?_) fun n hn=> ?_).1
 ·have hkn:=hF k (List.mem_of_getElem? hk)
  have hil:i<F.length:=(List.getElem?_eq_some_iff.1 hk).1
  obtain ⟨o,ho⟩: ∃o,g.nodes[k]? =some o:=⟨_,List.getElem?_eq_getElem hkn⟩
  obtain ⟨t,s,t1,t2,t3,t4,t5,_⟩:=h.obj o (List.mem_of_getElem? ho)
  have htl:t<ts.length:=(List.getElem?_eq_some_iff.1 t2).1
  have hc:=jxh (Φ:=T d) (N:=fuel) s (by omega)
  have e0:lnK ts g k=(s.size+8)/8:=by
   unfold lnK lnO
   rw [ho]
   simp only [t1,Int.toNat_natCast,t2]
  have hw:=gj i (by omega)
  have e1:IntKind.i64.wrap ((n:Int)+(((s.size+8)/8:Nat):Int))=((n+(s.size+8)/8:Nat):Int):=by rw [aq]<;>omega
  rw [e0]
  refine ⟨?_,by omega⟩
  unfold yz yxb
  simp (maxSteps:=3000000) (implicitDefEqProofs:=false) (disch:=first|assumption|(refine ofR ?_;show norm _ _=_;kernel_rfl)|(refine ofR ?_;show okD _ _ _ _=true;kernel_rfl)|exact ofR (by with_unfolding_all rfl)|exact ofB (by with_unfolding_all rfl)|omega|(simp only [go_sem,bz];omega)) only [go_sem,Nat.reduceAdd,Nat.reduceBEq,hk,ho,t1,t2,hc,hw,e1]
  (show some _=some _;kernel_rfl)
 ·unfold yz yxb
  simp (maxSteps:=3000000) (implicitDefEqProofs:=false) (disch:=first|assumption|(refine ofR ?_;show norm _ _=_;kernel_rfl)|(refine ofR ?_;show okD _ _ _ _=true;kernel_rfl)|exact ofR (by with_unfolding_all rfl)|exact ofB (by with_unfolding_all rfl)|omega|(simp only [go_sem,bz];omega)) only [go_sem,Nat.reduceAdd,Nat.reduceBEq]
theorem czd {d:Nat} {ts:List ByteArray} {g:Gr} (hg:Small ts g):fj (T (d+7)) fuel gjb [.sl true mz (ts.map eStr),cGr true g]=some ([.a (.int .i64 (vzd ts g))],[]):=by
 have h1:=tqc (d:=d) hg
 rw [sj rfl]
 unfold vzd
 cases c1:axb ts g
 ·rw [c1] at h1
  simp (maxSteps:=3000000) (implicitDefEqProofs:=false) (disch:=first|assumption|(refine ofR ?_;show norm _ _=_;kernel_rfl)|(refine ofR ?_;show okD _ _ _ _=true;kernel_rfl)|exact ofR (by with_unfolding_all rfl)|exact ofB (by with_unfolding_all rfl)|omega|(simp only [go_sem,bz];omega)) only [go_sem,Nat.reduceAdd,Nat.reduceBEq,gjb,zxc,h1]
 ·rw [c1] at h1
  have r:=Right.of hg c1
  have hd:=yqd (d:=d+5) r
  have hI:=rqb ts g g.nodes.length
  have hF: ∀k∈mxb ts g,k<g.nodes.length:=hI.low
  have hle:(mxb ts g).length≤g.nodes.length:=hI.le
  have hn:=r.n
  have key:=jxg (d:=d+6) r hF (by omega)
  unfold ezi
  generalize (mxb ts g).foldl (fun n k=>n+lnK ts g k) 0=S at*
  generalize mxb ts g=F at*
  simp (maxSteps:=3000000) (implicitDefEqProofs:=false) (disch:=first|assumption|(refine ofR ?_;show norm _ _=_;kernel_rfl)|(refine ofR ?_;show okD _ _ _ _=true;kernel_rfl)|exact ofR (by with_unfolding_all rfl)|exact ofB (by with_unfolding_all rfl)|omega|(simp only [go_sem,bz];omega)) only [go_sem,Nat.reduceAdd,Nat.reduceBEq,gjb,zxc,h1,hd,wj key]
theorem xjd {ts:List ByteArray} {g:Gr} {F:List Nat}: ∀(l:List Nat) (n:Nat),(∀k∈l,k<g.nodes.length)→l.foldl (fun n k=>n+lnK ts g k) n=(l.map (wxb ts F g)).foldl (fun n o=>n+lnO ts o) n
 | [],_,_=>rfl
 |k::l,n,h=>by
  simp only [List.foldl_cons,List.map_cons]
  have e:lnK ts g k=lnO ts (wxb ts F g k):=by
   obtain ⟨o,ho⟩: ∃o,g.nodes[k]? =some o:=⟨_,List.getElem?_eq_getElem (h k (by simp))⟩
   unfold lnK wxb
   rw [ho]
   simp only [czg]
   split
   ·rfl
   ·rfl
  rw [e]
  exact xjd l _ fun x hx=>h x (by simp [hx])
theorem hqg {ts:List ByteArray} {g h:Gr} (hal:kje ts g h=true):vzd ts g=vzd ts h:=by
 unfold kje at hal
 simp only [Bool.and_eq_true,lzf,decide_eq_true_eq] at hal
 obtain ⟨h1,h2,_,h3⟩:=hal
 unfold vzd ezi
 have l1: ∀k∈mxb ts g,k<g.nodes.length:=(rqb ts g g.nodes.length).low
 have l2: ∀k∈mxb ts h,k<h.nodes.length:=(rqb ts h h.nodes.length).low
 rw [if_pos h1,if_pos h2,xjd (F:=mxb ts g) _ _ l1,xjd (F:=mxb ts h) _ _ l2]
 have h3:(mxb ts g).map (wxb ts (mxb ts g) g)=(mxb ts h).map (wxb ts (mxb ts h) h):=h3
 rw [h3]
theorem pzh (a b:Gr):lzf a b=lzf b a:=by
 unfold lzf
 rw [decide_eq_decide.2 (eq_comm (a:=a.roots)),decide_eq_decide.2 (eq_comm (a:=a.nodes))]
theorem qjh (ts:List ByteArray) (g h:Gr):kje ts g h=kje ts h g:=by
 unfold kje
 rw [pzh]
 cases axb ts g<;>cases axb ts h<;>rfl
theorem rjh (ts:List ByteArray) (g:Gr):kje ts g g=axb ts g:=by
 unfold kje lzf
 cases axb ts g<;>simp
end Go.Proofs.YtjdcidigbbbckaaDoor.VM
