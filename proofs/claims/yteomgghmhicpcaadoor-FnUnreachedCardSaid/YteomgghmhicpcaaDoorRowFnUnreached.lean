/- FnUnreached: the law holds for all inputs. No condition. -/
import Derived.Test.YteomgghmhicpcaaDoorLawUnr
import Derived.Test.YteomgghmhicpcaaDoorForm
import Derived.Test.YteomgghmhicpcaaDoorVmRow
import Derived.Test.YteomgghmhicpcaaDoorRows
import Derived.Test.YteomgghmhicpcaaDoorCards
import Derived.Test.YteomgghmhicpcaaDoorTie
import Derived.Lay
import Derived.LaidMore
import Derived.SevenTiedAt
namespace Go.Proofs.YteomgghmhicpcaaDoor.Unreached
open Go Go.Proofs.YteomgghmhicpcaaDoor.VM Go.Proofs.YteomgghmhicpcaaDoor.VM.Sy
set_option maxRecDepth 100000
theorem vp9 {k:Nat} {c:List PV} (h:Tyd Tryd.prog (k+2) 22 c):∃l:List Nat,c= [.sl t_u8 (l.map eU8)]∧(∀x∈l,x<256)∧l.length<9223372036854000000:=by
 obtain ⟨es,rfl,h3,h4⟩:=vs5 Tryd.underlying22 h
 obtain ⟨l,rfl,hl2⟩:=voj (f:=eU8) (p:=fun x=>x<256) (l:=es) fun y hy=>by
  obtain ⟨c,rfl,h5⟩:=h4 y hy
  obtain ⟨n,rfl,hn0,hn1⟩:=vyv Tryd.underlying5 h5
  refine ⟨n.toNat,?_,?_⟩
  ·have:((n.toNat:Nat):Int)=n:=Int.toNat_of_nonneg hn0
   simp only [eU8,this];rfl
  ·have:n≤255:=hn1
   omega
 refine ⟨l,rfl,hl2,?_⟩
 rw [List.length_map,show Tryd.prog.bytesOf 5=1 from by kernel_rfl] at h3
 omega
theorem own:ownKnob Tryd.prog.godebug=none:=by kernel_rfl
theorem vyu:laidOutB Tryd.prog=true:=by kernel_rfl
theorem qi9 (d:Nat):Go.Proofs.YteomgghmhicpcaaDoor.VM.Good Tryd.prog writes (T d):=vj1 (by kernel_rfl) vzz (by rfl) qap.look d
theorem shape {css:List (List PV)} (h:TyAll Tryd.prog 8 Tryd.f3.params.toList css):∃(v0:List Nat),argCVs Tryd.prog Tryd.f3.params.toList css= [.sl true t_u8 (v0.map eU8)]∧(∀x∈v0,x<256)∧(v0.length<9223372036854000000):=by
 rw [Tryd.params3] at h⊢
 obtain ⟨c0,h⟩:=vr5 h
 obtain ⟨cs0,rfl,h0,h⟩:=h
 cases vs3 h
 obtain ⟨v0,rfl,g0,g1⟩:=vp9 h0
 exact ⟨v0,rfl,g0,g1⟩
abbrev laidL:List (String×DataW Unit):=Rows.fnUnreachedRow.laid
set_option maxRecDepth 100000 in
theorem met (os:Os) (args:Array Value):laidMetH Tryd.prog laidL ((World.laidAll Tryd.prog os laidL).forCall (fun _ _=>0) ⟨#[],args,[]⟩).memory:=
 laidMet_laidAll args (by kernel_rfl) (by kernel_rfl)
set_option maxRecDepth 100000 in
theorem qbl (os:Os) (started:os.Started) (H:Type) (enc:TypeId×Value→H):
  ReturnsInHanded {} Tryd.checked os 3 .any (fun w args=>(Rows.fnUnreachedSpec.pre enc Tryd.prog Tryd.f3 [] false w args∧laidMetH Tryd.prog laidL w)∧sizedMet enc Tryd.prog Tryd.f3 (OpenSpec.ofChange Rows.fnUnreachedSpec) false w args) (Rows.fnUnreachedSpec.post enc Tryd.prog Tryd.f3 false true false false):=by
 refine returnsInHanded_of_change_and (C:=Tryd.checked) (X:=fun w _=>laidMetH Tryd.prog laidL w) (fun _ _ _ hh h=>h.of_heap hh) own started (by kernel_rfl) Tryd.func3
  (ChangeSpec.witness_shaped (enc:=enc) (C:=Tryd.checked) (os:=os) (X:=fun w _=>laidMetH Tryd.prog laidL w) false (World.laidAll Tryd.prog os laidL) #[.slice none 0 0] 8 (World.laidAll_os _ _ _) (World.shaped_of_ZipB (by kernel_rfl) (by kernel_rfl)) (by kernel_rfl) (by kernel_rfl) (by kernel_rfl) (met os _)) ?_
 intro W base args ds gs before hval hW _ hsz _ _
 refine vph (k:=8) (cal:=⟨[.ro 0],false,true,runFn (T 8) fuel f_laws_FnUnreached⟩) vyu Tryd.func3 (by kernel_rfl) rfl (by rfl) Tryd.underlying4 rfl ?_ (by rw [Tryd.params3];decide+kernel) (by rw [Tryd.params3];decide+kernel) ((qi9 9).sound n_laws_FnUnreached _ vhl) ?_ ?_ hval hW hsz
 ·intro ds hl
  match ds,hl with
  | [d0],_=>rfl
 ·intro vs
  rcases vs with _|⟨_,_⟩<;>rfl
 ·intro css h
  obtain ⟨v0,h0,h1,h2⟩:=shape h
  rw [h0]
  exact vy9 v0 h1 h2
theorem over:Rows.FnUnreachedSaid:=
 OpenClaim.holds_of_wide 3 Tryd.f3 rfl rfl rfl rfl rfl rfl rfl ⟨rfl,rfl,rfl,rfl,rfl⟩ rfl rfl rfl rfl rfl (by kernel_rfl) Tryd.func3 (by kernel_rfl)
  (of_decide_eq_true (by kernel_rfl)) (by unfold Func.isWrapper;first|(rw [if_pos (by decide+kernel)];kernel_rfl)|(rw [if_neg (by decide+kernel)];exact ⟨rfl,rfl⟩))
  (fun os started H enc _=>qbl os started H enc)
end Go.Proofs.YteomgghmhicpcaaDoor.Unreached
namespace Go.Proofs.YteomgghmhicpcaaDoor
theorem fnUnreached_holds:Rows.FnUnreachedCardSaid:=
 Claim7.holds_tied_plain_at .later [] [.data,.pinned] true (true, "1bd0753f282bc52fc393b8c6b408b5f277c46bea85c5fdf2b73f61828e656327") false
  Unreached.over (fun _ h=>by cases h) (by kernel_rfl) (fun _ h=>by cases h) fnUnreached_row_tie rfl ⟨rfl,rfl⟩ (by kernel_rfl) rfl
  (fun f fn hf hfn=>by
   obtain rfl:f=3:=Option.some.inj ((show Tryd.prog.funcNamed "loop.example/g00648/laws.FnUnreached" =some 3 by kernel_rfl).symm.trans hf)|>.symm
   obtain rfl:fn=Tryd.f3:=(Option.some.inj (Tryd.func3.symm.trans hfn)).symm
   exact ⟨by kernel_rfl,fun j t ht=>by
    rw [Tryd.params3] at ht
    have hm:t∈[22]:=by
     have:=Array.mem_of_getElem? ht
     simpa using this
    have hall:([22].all fun u=> !Tryd.prog.wantsStandIn u)=true:=by kernel_rfl
    exact (show Tryd.prog.wantsStandIn t=false by simpa using List.all_eq_true.1 hall t hm)⟩)
  (by kernel_rfl)
end Go.Proofs.YteomgghmhicpcaaDoor
