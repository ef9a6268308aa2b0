/- The interpreter 'VM'. -/
import Derived.Test.YtpgkmggaifgjkaaGreatDoorVmGz
import Derived.Test.YtpgkmggaifgjkaaGreatDoorVmSt
open Array renaming getD_eq_getD_getElem?->Aa,getElem?_append_left->Ae,replicate->Ag
open Option renaming bind_eq_some_iff->Ab,isNone_iff_eq_none->Ad
open Bool renaming and_eq_true->Ac
open Go.Value renaming slice->Af
set_option linter.all false
namespace Go.Proofs.YtpgkmggaifgjkaaGreatDoor.VM
open Go Sy
def isSetN (d:Nat) (o:Oper):Bool:=o.guard.isNone&&(o.dst==some d)&&(match o.op with| .assign (.const (.slice none 0 0))=>true|_=>false)
def isMvO (d s:Nat) (o:Oper):Bool:=o.guard.isNone&&(o.dst==some d)&&(match o.op with| .move (.tmp s')=>s'==s|_=>false)
def isEqN (t d s:Nat) (o:Oper):Bool:=o.guard.isNone&&(o.dst==some d)&&(match o.op with| .binOp .eql t' (.tmp s') (.const (.slice none 0 0)) _=>s'==s&&t'==t|_=>false)
def two:Array Oper->Option (Oper×Oper)
 |⟨[a,b]⟩=>some (a,b)
 |_=>none
def single:Array Oper->Option Oper
 |⟨[a]⟩=>some a
 |_=>none
def cloneOps (t:Nat):Code->Option (Array Oper)
 | .seq (.region _ a0 false) (.seq (.seq (.region _ a1 false) (.cond (.tmp 4) (.seq (.region _ a2 false) .ret) .skip)) (.seq (.region _ a3 false) .ret))=>
  match single a0,two a1,single a2 with
  |some o0,some (o1,o2),some o3=>if isSetN 2 o0&&isMvO 3 0 o1&&isEqN t 4 3 o2&&isSetN 2 o3 then some a3 else none
  |_,_,_=>none
 |_=>none
theorem vu5 {a:Array Oper} {o:Oper} (h:single a=some o):a= #[o]:=by
 unfold single at h;split at h
 ·cases h;rfl
 ·cases h
theorem qn0 {a:Array Oper} {o o':Oper} (h:two a=some (o,o')):a= #[o,o']:=by
 unfold two at h;split at h
 ·cases h;rfl
 ·cases h
theorem vti {t:Nat} {c:Code} {a3:Array Oper} (h:cloneOps t c=some a3):∃i0 i1 i2 i3 o0 o1 o2 o3,c= .seq (.region i0 #[o0] false) (.seq (.seq (.region i1 #[o1,o2] false) (.cond (.tmp 4) (.seq (.region i2 #[o3] false) .ret) .skip)) (.seq (.region i3 a3 false) .ret))/\
  isSetN 2 o0=true/\isMvO 3 0 o1=true/\isEqN t 4 3 o2=true/\isSetN 2 o3=true:=by
 unfold cloneOps at h;split at h
 ·rename_i i0 a0 i1 a1 i2 a2 i3 a3';split at h
  ·rename_i o0 o1 o2 o3 h0 h1 h2;split at h
   ·rename_i hc;simp only [Ac] at hc;cases h;rw [vu5 h0,qn0 h1,vu5 h2];exact ⟨i0,i1,i2,i3,o0,o1,o2,o3,rfl,hc.1.1.1,hc.1.1.2,hc.1.2,hc.2⟩
   ·cases h
  ·cases h
 ·cases h
section
variable {P:Program} {Q:Exit->Act->World->Prop} {a:Act} {w:World}
theorem qjm {i:Nat} {o:Oper} {v:Value} (hg:o.guard=none) (he:(execOp a.eval o).run P w= .ok (.value v) w) (h:Q .normal (a.put o.dst v) w):(Code.region i #[o] false).wp P Q a w:=by
 refine wp_region ?_;show wpOps P #[o] Q [0] a w;simp only [wpOps];have hw:Region.wanted o (yielded #[o] a.tmps)=true:=by unfold Region.wanted;rw [hg]
 simp only [List.getElem?_toArray,List.getElem?_cons_zero,hw,if_true];refine .inl ?_;unfold Oper.wp;rw [he];exact h
theorem qt0 {i:Nat} {o o':Oper} {v v':Value} (hg:o.guard=none) (he:(execOp a.eval o).run P w= .ok (.value v) w) (hg':o'.guard=none) (he':(execOp (a.put o.dst v).eval o').run P w= .ok (.value v') w)
  (h:Q .normal ((a.put o.dst v).put o'.dst v') w):(Code.region i #[o,o'] false).wp P Q a w:=by
 refine wp_region ?_;show wpOps P #[o,o'] Q [0,1] a w;have hw:∀a:Act,Region.wanted o (yielded #[o,o'] a.tmps)=true:=λa=>by unfold Region.wanted;rw [hg]
 have hw':∀a:Act,Region.wanted o' (yielded #[o,o'] a.tmps)=true:=λa=>by unfold Region.wanted;rw [hg']
 simp only [wpOps,List.getElem?_toArray,List.getElem?_cons_zero,List.getElem?_cons_succ,hw,hw',if_true];refine .inl ?_;unfold Oper.wp;rw [he];refine .inl ?_;rw [he'];exact h
theorem qbk {d:Nat} {o:Oper} (h:isSetN d o=true):o.guard=none/\o.dst=some d/\(execOp a.eval o).run P w= .ok (.value (.slice none 0 0)) w:=by
 unfold isSetN at h;simp only [Ac,Ad,beq_iff_eq] at h;obtain ⟨⟨h1,h2⟩,h3⟩:=h;refine ⟨h1,h2,?_⟩;split at h3
 ·rename_i hop;unfold execOp;rw [hop];rfl
 ·cases h3
theorem qrm {d s:Nat} {o:Oper} (h:isMvO d s o=true):o.guard=none/\o.dst=some d/\(execOp a.eval o).run P w= .ok (.value (a.eval (.tmp s))) w:=by
 unfold isMvO at h;simp only [Ac,Ad,beq_iff_eq] at h;obtain ⟨⟨h1,h2⟩,h3⟩:=h;refine ⟨h1,h2,?_⟩;split at h3
 ·rename_i hop;unfold execOp;rw [hop];rw [beq_iff_eq] at h3;subst h3;rfl
 ·cases h3
theorem qc1 {d:Nat} {t e:TypeId} (ht:P.underlying t=some (.slice e)) (x:Option Addr) (n c:Nat):(Op.equalIn (d+1) t (.slice x n c) (.slice none 0 0)).run P w= .ok x.isNone w:=by
 cases x<;>simp [Op.equalIn,run_underlying ht]
theorem qh8 {t e:TypeId} (ht:P.underlying t=some (.slice e)) (x:Option Addr) (n c:Nat):(Op.equal t (.slice x n c) (.slice none 0 0)).run P w= .ok x.isNone w:=qc1 (d:=9999) ht x n c
theorem qp5 {t d s e:Nat} {o:Oper} (h:isEqN t d s o=true) (ht:P.underlying t=some (.slice e)) {x:Option Addr} {n c:Nat} (hv:a.eval (.tmp s)= .slice x n c):
  o.guard=none/\o.dst=some d/\(execOp a.eval o).run P w= .ok (.value (.bool x.isNone)) w:=by
 unfold isEqN at h;simp only [Ac,Ad,beq_iff_eq] at h;obtain ⟨⟨h1,h2⟩,h3⟩:=h;refine ⟨h1,h2,?_⟩;split at h3
 ·rename_i hop;unfold execOp;rw [hop];simp only [Ac,beq_iff_eq] at h3;obtain ⟨rfl,rfl⟩:=h3;simp only [hv];rw [vns (λ_=>⟨by simp,by simp⟩)];simp only [Act.eval,binOp,Sem.run_bind,Sem.run_pure',Result.andThen_ok,qh8 ht,Sem.run_pure]
 ·cases h3
end
def cloneA (e:Nat):Fn:=⟨[.ro 0],false,false,[.t 2],.seq (.reg [⟨.mov 2 (.nl e),none,none⟩,⟨.mov 3 (.t 0),none,none⟩,⟨.mov 4 (.c (.bool true)),none,none⟩,⟨.mov 2 (.nl e),none,none⟩] [2]) .ret⟩
def cloneL (e m bytes:Nat) (mv:Bool) (zs:List ZC):List VOper:= [⟨.bsl 5 e m zs 0 [],none,none⟩,⟨.mov 6 (.t 0),none,none⟩,⟨.app 7 e bytes mv (.t 5) (.t 6),none,none⟩,⟨.mov 2 (.t 7),none,none⟩]
def cloneB (e m bytes:Nat) (mv:Bool) (zs:List ZC):Fn:=⟨[.ro 0],false,false,[.t 2],.seq (.reg [⟨.mov 2 (.nl e),none,none⟩,⟨.mov 3 (.t 0),none,none⟩,⟨.mov 4 (.c (.bool false)),none,none⟩] [0]) (.seq (.reg (cloneL e m bytes mv zs) [2]) .ret)⟩
def cloneForm (P:Program) (fn:Func) (t:Nat):Option (List VOper):=(fn.body.bind (cloneOps t)).bind λa3=>cOpers P a3 a3.toList
def IsClone (P:Program) (f e bytes:Nat):Prop:=∃(fn:Func) (t m:Nat) (zs:List ZC),P.funcs[f]? =some fn/\(fn.name== "runtime.NumGoroutine")=false/\cloneForm P fn t=some (cloneL e m bytes false zs)/\P.underlying t=some (.slice e)/\va8 P e=some m/\fn.results= #[.tmp 2]/\fn.ntmps=8
variable {cx:Cx} {st:St} {a:Act} {w:World} {Φ:Nat->Option Callee}
theorem qo6 {N e:Nat}:run Φ N (cloneA e).body st=some (.ret,⟨keep [2] ⟨(2,.nl e)::(4,.a (.bool true))::(3,st.slot 0)::(2,.nl e)::st.slots,st.nodes,st.next⟩,st.nodes,st.next+400⟩):=rfl
theorem qis {N e:Nat}:run Φ N (.reg [⟨.mov 2 (.nl e),none,none⟩,⟨.mov 3 (.t 0),none,none⟩,⟨.mov 4 (.c (.bool false)),none,none⟩] [0]) st=some (.nrm,⟨keep [0] ⟨(4,.a (.bool false))::(3,st.slot 0)::(2,.nl e)::st.slots,st.nodes,st.next⟩,st.nodes,st.next+300⟩):=rfl
theorem qtb (hI:Inv cx st a w) {e m:Nat} {b:Bool} (h8:cx.n=8) (hm:va8 cx.P e=some m) (live:List Nat) (n:Nat) (hn:st.next<=n):
  Inv cx ⟨keep live ⟨(4,.a (.bool b))::(3,st.slot 0)::(2,.nl e)::st.slots,st.nodes,st.next⟩,st.nodes,n⟩ (((a.put (some 2) (.slice none 0 0)).put (some 3) (a.eval (.tmp 0))).put (some 4) (.bool b)) w:=by
 obtain ⟨⟨U,hU,ρ,F,hG⟩,hq⟩:=hI;have g1:=hG.put (d:=2) zo (.nl e m hm) trivial;have g2:=g1.put (d:=3) (c:=st.slot 0) (v:=a.eval (.tmp 0)) zo (hG.slots 0) (hG.ids 0);have g3:=g2.put (d:=4) zo (.a (.bool b)) trivial;exact ⟨⟨U,λk hk=>Nat.lt_of_lt_of_le (hU k hk) hn,ρ,F,g3.keep live n⟩,λid ver e es hn=>hq id ver e es hn⟩
theorem qui (hI:Inv cx st a w) {e m:Nat} {b:Bool} (h8:cx.n=8) (hm:va8 cx.P e=some m) (live:List Nat) (n:Nat) (hn:st.next<=n):
  Inv cx ⟨keep live ⟨(2,.nl e)::(4,.a (.bool b))::(3,st.slot 0)::(2,.nl e)::st.slots,st.nodes,st.next⟩,st.nodes,n⟩ ((((a.put (some 2) (.slice none 0 0)).put (some 3) (a.eval (.tmp 0))).put (some 4) (.bool b)).put (some 2) (.slice none 0 0)) w:=by
 obtain ⟨⟨U,hU,ρ,F,hG⟩,hq⟩:=hI;have g1:=hG.put (d:=2) zo (.nl e m hm) trivial;have g2:=g1.put (d:=3) (c:=st.slot 0) (v:=a.eval (.tmp 0)) zo (hG.slots 0) (hG.ids 0);have g3:=g2.put (d:=4) zo (.a (.bool b)) trivial;have g4:=g3.put (d:=2) zo (.nl e m hm) trivial;exact ⟨⟨U,λk hk=>Nat.lt_of_lt_of_le (hU k hk) hn,ρ,F,g4.keep live n⟩,λid ver e es hn=>hq id ver e es hn⟩
theorem vss {a:Act} {d k:Nat} {v:Value} (hd:d<a.tmps.size):(a.put (some d) v).eval (.tmp k)=if d=k then v else a.eval (.tmp k):=by
 unfold Act.put Act.eval;by_cases e:d=k
 ·subst e;simp [Aa,hd]
 ·simp [Aa,e]
theorem qb7 {a:Act} {d:Nat} {v:Value}:(a.put (some d) v).tmps.size=a.tmps.size:=by simp [Act.put]
theorem vqb {P:Program} {t e:Nat} {i0 i1 i2 i3:Nat} {o0 o1 o2 o3:Oper} {a3:Array Oper} {Q:Exit->Act->World->Prop} (h0:isSetN 2 o0=true) (h1:isMvO 3 0 o1=true) (h2:isEqN t 4 3 o2=true) (h3:isSetN 2 o3=true) (ht:P.underlying t=some (.slice e))
  (hs:a.tmps.size=8) {x:Option Addr} {n c:Nat} (hv:a.eval (.tmp 0)= .slice x n c)
  (ha:x=none->Q .ret ((((a.put (some 2) (.slice none 0 0)).put (some 3) (a.eval (.tmp 0))).put (some 4) (.bool true)).put (some 2) (.slice none 0 0)) w)
  (hb:x≠none->(Code.seq (.region i3 a3 false) .ret).wp P Q (((a.put (some 2) (.slice none 0 0)).put (some 3) (a.eval (.tmp 0))).put (some 4) (.bool false)) w):
  (Code.seq (.region i0 #[o0] false) (.seq (.seq (.region i1 #[o1,o2] false) (.cond (.tmp 4) (.seq (.region i2 #[o3] false) .ret) .skip)) (.seq (.region i3 a3 false) .ret))).wp P Q a w:=by
 obtain ⟨g0,d0,r0⟩:=qbk (P:=P) (a:=a) (w:=w) h0;refine wp_seq (qjm g0 r0 ?_);rw [d0];have hs1:(a.put (some 2) (.slice none 0 0)).tmps.size=8:=by rw [qb7];exact hs
 obtain ⟨g1,d1,r1⟩:=qrm (P:=P) (a:=a.put (some 2) (.slice none 0 0)) (w:=w) h1;have e0:(a.put (some 2) (.slice none 0 0)).eval (.tmp 0)=a.eval (.tmp 0):=by rw [vss zo,if_neg zo]
 rw [e0] at r1;have e3:((a.put (some 2) (.slice none 0 0)).put o1.dst (a.eval (.tmp 0))).eval (.tmp 3)= .slice x n c:=by rw [d1,vss zo,if_pos rfl];exact hv
 obtain ⟨g2,d2,r2⟩:=qp5 (P:=P) (w:=w) h2 ht e3;refine wp_seq (wp_seq (qt0 g1 r1 g2 r2 ?_));rw [d1,d2];have hs3:(((a.put (some 2) (.slice none 0 0)).put (some 3) (a.eval (.tmp 0)))).tmps.size=8:=by rw [qb7];exact hs1
 cases x with
 |none=>
  refine wp_cond_true (by rw [vss zo,if_pos rfl];rfl) ?_;obtain ⟨g3,d3,r3⟩:=qbk (P:=P) (a:=((a.put (some 2) (.slice none 0 0)).put (some 3) (a.eval (.tmp 0))).put (some 4) (.bool true)) (w:=w) h3;refine wp_seq (qjm g3 r3 ?_);rw [d3];exact wp_ret (ha rfl)
 |some x=>
  refine wp_cond_false (by rw [vss zo,if_pos rfl];rfl) ?_;exact wp_skip (hb (by simp))
def cloneGo (e bytes:Nat):List CV->Option (List CV×List CV)
 | [.sl true e' es]=>if e'=e/\es.length<=9223372036854775807/\es.length * bytes<=140737488355328 then some ([.sl false e (es.map PV.cpy)],[]) else none
 |_=>none
def cloneC (e bytes:Nat):Callee:=⟨[.ro 0],false,false,cloneGo e bytes⟩
theorem zc7 (e:Nat):vag (λ_=>none) 0 (cloneA e) [.sl true e []]=some ([.sl false e []],[]):=rfl
theorem zcl {e m bytes:Nat} {zs:List ZC} {es:List PV} (h1:es.length<=9223372036854775807) (h2:es.length * bytes<=140737488355328):vag (λ_=>none) 0 (cloneB e m bytes false zs) [.sl true e es]=some ([.sl false e (es.map PV.cpy)],[]):=by
 have h3:([]:List PV).length+(es.map PV.cpy).length<=9223372036854775807:=by simpa using h1
 have h4:(([]:List PV).length+(es.map PV.cpy).length) * bytes<=140737488355328:=by simpa using h2
 rw [vab rfl];simp (maxSteps:=3000000) (disch:=first|assumption|exact ofR (by with_unfolding_all rfl)|exact ofB (by with_unfolding_all rfl)|omega|(simp only [go_sem,vtr];omega)) only [go_sem,Nat.reduceAdd,Nat.reduceBEq,cloneB,cloneL,List.replicate_zero]
theorem vy2 (P:Program) (writes:Nat->Bool):Good P writes λ_=>none:=⟨λf c h=>(by cases h),λf c h=>(by cases h),λf c h=>(by cases h)⟩
theorem qdk {P:Program} {f e bytes:Nat} (h:IsClone P f e bytes) (hm:P.follows .mixedOrders=true):Sound P f (cloneC e bytes) where
 ans:=by
  intro w Z cs args F rs fs hc hZ hF hk hgo;obtain ⟨fn,t,m,zs,hf,hname,hform,hund,hsz,hres,hnt⟩:=h;unfold cloneForm at hform;obtain ⟨a3,hb,hops⟩:=Ab.1 hform;obtain ⟨c,hbody,hc3⟩:=Ab.1 hb;obtain ⟨i0,i1,i2,i3,o0,o1,o2,o3,rfl,q0,q1,q2,q3⟩:=vti hc3;simp only [cloneC,cloneGo] at hgo;split at hgo
  ·rename_i e' es;split at hgo
   ·rename_i hcond;obtain ⟨rfl,hl1,hl2⟩:=hcond;cases hgo;have hc':=hc;simp only [CRL,CR,if_true] at hc';obtain ⟨v,vs',F1,F2,rfl,⟨hrc,_⟩,⟨rfl,_⟩,_,_⟩:=hc';obtain ⟨x,len,cap,rfl,hnil⟩:∃x len cap,v= .slice x len cap/\(x=none->es= []):=by
     cases hrc with
     |sl _ _ x len cap m vs hl hm hw hx hn hcc hr=>exact ⟨x,len,cap,rfl,λhx0=>List.eq_nil_of_length_eq_zero (by have:=hn hx0;omega)⟩
    have hev:∀(cx:Cx) (a0:Act),cx.n=fn.ntmps->a0.tmps= #[Af x len cap]++Ag (fn.ntmps- #[Af x len cap].size) undef->a0.tmps.size=8/\a0.eval (.tmp 0)= .slice x len cap:=by
     intro cx a0 _ ht;refine ⟨by rw [ht];simp [hnt],?_⟩;unfold Act.eval;simp only [Aa,ht];rw [Ae (by simp)];rfl
    by_cases hx:x=none
    ·obtain rfl:=hnil hx;refine Answers.mono (vox (v:=cloneA e') (N:=0) hf hname hbody (by rw [hres];rfl) (by show 1<=fn.ntmps;omega) zo (by rw [hres];rfl) (λcx a0 hP hn ht=> ?_) hc hZ hF (λhk'=>hk hk') (zc7 e')) λ_ _ ⟨vs,Fr,k1,k2,k3,k4,k5,_⟩=>⟨vs,Fr,k1,k2,k3,k4,k5⟩
     obtain ⟨hs,hv⟩:=hev cx a0 hn ht;subst hP;intro st out st' Q hI hr hQ;rw [qo6] at hr;cases hr;exact vqb q0 q1 q2 q3 hund hs hv (λ_=>hQ _ _ (InvX.of<|qui hI (hn.trans hnt) hsz [2] _ zo)) λhne=>absurd hx hne
    ·refine Answers.mono (vox (v:=cloneB e' m bytes false zs) (N:=0) hf hname hbody (by rw [hres];rfl) (by show 1<=fn.ntmps;omega) zo (by rw [hres];rfl) (λcx a0 hP hn ht=> ?_) hc hZ hF (λhk'=>hk hk') (zcl hl1 hl2)) λ_ _ ⟨vs,Fr,k1,k2,k3,k4,k5,_⟩=>⟨vs,Fr,k1,k2,k3,k4,k5⟩
     obtain ⟨hs,hv⟩:=hev cx a0 hn ht;subst hP;intro st out st' Q hI hr hQ;simp only [cloneB] at hr;rw [run,qis] at hr;refine vqb q0 q1 q2 q3 hund hs hv (λhx0=>absurd hx0 hx) λ_=> ?_;refine qa1 (vy2 cx.P λ_=>true) hm 0 _ [[2]] [] _ ?_ (kp:=false) (λhk=>by cases hk) _ _ _ out st' Q (qtb hI (hn.trans hnt) hsz [0] _ zo) hr hQ;simp only [comp,hops,hn,hnt];rfl
   ·cases hgo
  ·cases hgo
 only:=OnlyOk.none rfl
 als:=λh=>by cases h
 nofz:=by
  intro _ cs rs fs _ hgo;simp only [cloneC,cloneGo] at hgo;split at hgo
  ·split at hgo
   ·cases hgo;simp only [List.append_nil,va1,vbl,and_true];intro _;exact vb2.2 λy hy=>by
     obtain ⟨z,_,rfl⟩:=List.mem_map.1 hy;exact qaq z
   ·cases hgo
  ·cases hgo
def cloneAm (e:Nat):Fn:={cloneA e with modes:= [.mut 0]}
def cloneBm (e m bytes:Nat) (zs:List ZC):Fn:={cloneB e m bytes true zs with modes:= [.mut 0]}
def IsCloneM (P:Program) (f e bytes:Nat):Prop:=∃(fn:Func) (t m:Nat) (zs:List ZC),P.funcs[f]? =some fn/\(fn.name== "runtime.NumGoroutine")=false/\cloneForm P fn t=some (cloneL e m bytes true zs)/\P.underlying t=some (.slice e)/\va8 P e=some m/\fn.results= #[.tmp 2]/\fn.ntmps=8
def cloneGoM (e bytes:Nat):List CV->Option (List CV×List CV)
 | [.sl false e' es]=>if e'=e/\es.length<=9223372036854775807/\es.length * bytes<=140737488355328 then some ([.sl false e es],[.un]) else none
 |_=>none
def cloneCM (e bytes:Nat):Callee:=⟨[.mut 0],false,false,cloneGoM e bytes⟩
theorem qwu (e:Nat):vag (λ_=>none) 0 (cloneAm e) [.sl false e []]=some ([.sl false e []],[.un]):=rfl
theorem qwd {e m bytes:Nat} {zs:List ZC} {es:List PV} (h1:es.length<=9223372036854775807) (h2:es.length * bytes<=140737488355328):vag (λ_=>none) 0 (cloneBm e m bytes zs) [.sl false e es]=some ([.sl false e es],[.un]):=by
 have h3:([]:List PV).length+es.length<=9223372036854775807:=by simpa using h1
 have h4:(([]:List PV).length+es.length) * bytes<=140737488355328:=by simpa using h2
 rw [vab rfl];simp (maxSteps:=3000000) (disch:=first|assumption|exact ofR (by with_unfolding_all rfl)|exact ofB (by with_unfolding_all rfl)|omega|(simp only [go_sem,vtr];omega)) only [go_sem,Nat.reduceAdd,Nat.reduceBEq,cloneBm,cloneB,cloneL,List.replicate_zero];rfl
theorem vz6 {P:Program} {f e bytes:Nat} (h:IsCloneM P f e bytes) (hm:P.follows .mixedOrders=true):Sound P f (cloneCM e bytes) where
 ans:=by
  intro w Z cs args F rs fs hc hZ hF hk hgo;obtain ⟨fn,t,m,zs,hf,hname,hform,hund,hsz,hres,hnt⟩:=h;unfold cloneForm at hform;obtain ⟨a3,hb,hops⟩:=Ab.1 hform;obtain ⟨c,hbody,hc3⟩:=Ab.1 hb;obtain ⟨i0,i1,i2,i3,o0,o1,o2,o3,rfl,q0,q1,q2,q3⟩:=vti hc3;simp only [cloneCM,cloneGoM] at hgo;split at hgo
  ·rename_i e' es;split at hgo
   ·rename_i hcond;obtain ⟨rfl,hl1,hl2⟩:=hcond;cases hgo;have hc':=hc;simp only [CRL,CR,Bool.false_eq_true,if_false] at hc';obtain ⟨v,vs',F1,F2,rfl,hdc,⟨rfl,_⟩,_,_⟩:=hc';obtain ⟨x,len,cap,rfl,hnil⟩:∃x len cap,v= .slice x len cap/\(x=none->es= []):=by
     cases hdc with
     |nil _ _ _ _ _=>exact ⟨_,0,0,rfl,λ_=>rfl⟩
     |sl=>exact ⟨_,_,_,rfl,λh=>by cases h⟩
    have hev:∀(cx:Cx) (a0:Act),cx.n=fn.ntmps->a0.tmps= #[Af x len cap]++Ag (fn.ntmps- #[Af x len cap].size) undef->a0.tmps.size=8/\a0.eval (.tmp 0)= .slice x len cap:=by
     intro cx a0 _ ht;refine ⟨by rw [ht];simp [hnt],?_⟩;unfold Act.eval;simp only [Aa,ht];rw [Ae (by simp)];rfl
    by_cases hx:x=none
    ·obtain rfl:=hnil hx;refine Answers.mono (vox (v:=cloneAm e') (N:=0) hf hname hbody (by rw [hres];rfl) (by show 1<=fn.ntmps;omega) zo (by rw [hres];rfl) (λcx a0 hP hn ht=> ?_) hc hZ hF (λhk'=>hk hk') (qwu e')) λ_ _ ⟨vs,Fr,k1,k2,k3,k4,k5,_⟩=>⟨vs,Fr,k1,k2,k3,k4,k5⟩
     obtain ⟨hs,hv⟩:=hev cx a0 hn ht;subst hP;intro st out st' Q hI hr hQ;rw [show (cloneAm e').body=(cloneA e').body from rfl,qo6] at hr;cases hr;exact vqb q0 q1 q2 q3 hund hs hv (λ_=>hQ _ _ (InvX.of<|qui hI (hn.trans hnt) hsz [2] _ zo)) λhne=>absurd hx hne
    ·refine Answers.mono (vox (v:=cloneBm e' m bytes zs) (N:=0) hf hname hbody (by rw [hres];rfl) (by show 1<=fn.ntmps;omega) zo (by rw [hres];rfl) (λcx a0 hP hn ht=> ?_) hc hZ hF (λhk'=>hk hk') (qwd hl1 hl2)) λ_ _ ⟨vs,Fr,k1,k2,k3,k4,k5,_⟩=>⟨vs,Fr,k1,k2,k3,k4,k5⟩
     obtain ⟨hs,hv⟩:=hev cx a0 hn ht;subst hP;intro st out st' Q hI hr hQ;simp only [cloneBm,cloneB] at hr;rw [run,qis] at hr;refine vqb q0 q1 q2 q3 hund hs hv (λhx0=>absurd hx0 hx) λ_=> ?_;refine qa1 (vy2 cx.P λ_=>true) hm 0 _ [[2]] [] _ ?_ (kp:=false) (λhk=>by cases hk) _ _ _ out st' Q (qtb hI (hn.trans hnt) hsz [0] _ zo) hr hQ;simp only [comp,hops,hn,hnt];rfl
   ·cases hgo
  ·cases hgo
 only:=OnlyOk.none rfl
 als:=λh=>by cases h
 nofz:=by
  intro _ cs rs fs hcs hgo;simp only [cloneCM,cloneGoM] at hgo;split at hgo
  ·split at hgo
   ·cases hgo;simp only [va1,vbl,and_true] at hcs;simp only [List.cons_append,List.nil_append,va1,vbl,and_true];exact hcs
   ·cases hgo
  ·cases hgo
theorem qv1 {e bytes:Nat} {es:List PV} (h1:es.length<=9223372036854775807) (h2:es.length * bytes<=140737488355328):cloneGoM e bytes [.sl false e es]=some ([.sl false e es],[.un]):=by simp [cloneGoM,h1,h2]
theorem qwj {e bytes:Nat} {es:List PV} (h1:es.length<=9223372036854775807) (h2:es.length * bytes<=140737488355328):cloneGo e bytes [.sl true e es]=some ([.sl false e (es.map PV.cpy)],[]):=by simp [cloneGo,h1,h2]
attribute [go_sem] qv1 qwj
inductive ExtOk (P:Program) (writes:Nat->Bool):List (Nat×Callee)->Prop
 |nil:ExtOk P writes []
 |cons {x:Nat×Callee} {l:List (Nat×Callee)} (h:Sound P x.1 x.2) (hw:writes x.1=true\/Still x.2) (hm:writes (x.1+1000000)=true\/AllRo x.2.modes) (hs:ExtOk P writes l):ExtOk P writes (x::l)
theorem ExtOk.look {P:Program} {writes:Nat->Bool} {l:List (Nat×Callee)} (h:ExtOk P writes l):∀f c,VM.look l f=some c->Sound P f c/\(writes f=false->Still c)/\(writes (f+1000000)=false->AllRo c.modes):=by
 induction h with
 |nil=>intro f c hl;cases hl
 | @cons x l h hw hm hs ih=>
  intro f c hl;obtain ⟨g,u⟩:=x;simp only [VM.look] at hl;split at hl
  ·rename_i hg;cases hl;subst hg;exact ⟨h,λhf=>hw.resolve_left (by rw [hf];simp),λhf=>hm.resolve_left (by rw [hf];simp)⟩
  ·exact ih f c hl
