/- FnFoundAgain: the law holds for all inputs. No condition. -/
import Derived.Test.YtpnnhokaehghfaaDoorLawFb
import Derived.Test.YtpnnhokaehghfaaDoorForm
import Derived.Test.YtpnnhokaehghfaaDoorVmRow
import Derived.Test.YtpnnhokaehghfaaDoorRows
import Derived.Test.YtpnnhokaehghfaaDoorCards
import Derived.Test.YtpnnhokaehghfaaDoorTie
import Derived.Lay
import Derived.LaidMore
import Derived.SevenTiedAt
namespace Go.Proofs.YtpnnhokaehghfaaDoor.FoundAgain
open Go Go.Proofs.YtpnnhokaehghfaaDoor.VM Go.Proofs.YtpnnhokaehghfaaDoor.VM.Sy
set_option maxRecDepth 100000
theorem vuv {k:Nat} {c:List PV} (h:Tyd Tryd.prog (k+2) 22 c):∃l:List Nat,c= [.sl vdh (l.map eU8)]∧(∀x∈l,x<256)∧l.length<9223372036854000000:=by
 obtain ⟨es,rfl,h3,h4⟩:=vyx Tryd.underlying22 h;obtain ⟨l,rfl,hl2⟩:=vuf (f:=eU8) (p:=fun x=>x<256) (l:=es) fun y hy=>by
  obtain ⟨c,rfl,h5⟩:=h4 y hy;obtain ⟨n,rfl,hn0,hn1⟩:=qcc Tryd.underlying5 h5;refine ⟨n.toNat,?_,?_⟩
  ·have:((n.toNat:Nat):Int)=n:=Int.toNat_of_nonneg hn0;simp only [eU8,this];rfl
  ·have:n≤255:=hn1;omega
 refine ⟨l,rfl,hl2,?_⟩;rw [List.length_map,show Tryd.prog.bytesOf 5=1 from by kernel_rfl] at h3;omega
theorem own:ownKnob Tryd.prog.godebug=none:=by kernel_rfl
theorem qcl:laidOutB Tryd.prog=true:=by kernel_rfl
theorem qmu (d:Nat):Go.Proofs.YtpnnhokaehghfaaDoor.VM.Good Tryd.prog writes (T d):=vpr (by kernel_rfl) qew (by rfl) qep.look d
theorem shape {css:List (List PV)} (h:TyAll Tryd.prog 8 Tryd.f3.params.toList css):∃(v0:List Nat),argCVs Tryd.prog Tryd.f3.params.toList css= [.sl true vdh (v0.map eU8)]∧(∀x∈v0,x<256)∧(v0.length<9223372036854000000):=by
 rw [Tryd.params3] at h⊢;obtain ⟨c0,h⟩:=vv6 h;obtain ⟨cs0,rfl,h0,h⟩:=h;cases vxg h;obtain ⟨v0,rfl,g0,g1⟩:=vuv h0;exact ⟨v0,rfl,g0,g1⟩
abbrev laidL:List (String×DataW Unit):=Rows.fnFoundAgainRow.laid
set_option maxRecDepth 100000 in
theorem met (os:Os) (args:Array Value):laidMetH Tryd.prog laidL ((World.laidAll Tryd.prog os laidL).forCall (fun _ _=>0) ⟨#[],args,[]⟩).memory:=
 laidMet_laidAll args (by kernel_rfl) (by kernel_rfl)
set_option maxRecDepth 100000 in
theorem qd6 (os:Os) (started:os.Started) (H:Type) (enc:TypeId×Value→H):
  ReturnsInHanded {} Tryd.checked os 3 .any (fun w args=>(Rows.fnFoundAgainSpec.pre enc Tryd.prog Tryd.f3 [] false w args∧laidMetH Tryd.prog laidL w)∧sizedMet enc Tryd.prog Tryd.f3 (OpenSpec.ofChange Rows.fnFoundAgainSpec) false w args) (Rows.fnFoundAgainSpec.post enc Tryd.prog Tryd.f3 false true false false):=by
 refine returnsInHanded_of_change_and (C:=Tryd.checked) (X:=fun w _=>laidMetH Tryd.prog laidL w) (fun _ _ _ hh h=>h.of_heap hh) own started (by kernel_rfl) Tryd.func3
  (ChangeSpec.witness_shaped (enc:=enc) (C:=Tryd.checked) (os:=os) (X:=fun w _=>laidMetH Tryd.prog laidL w) false (World.laidAll Tryd.prog os laidL) #[.slice none 0 0] 8 (World.laidAll_os _ _ _) (World.shaped_of_ZipB (by kernel_rfl) (by kernel_rfl)) (by kernel_rfl) (by kernel_rfl) (by kernel_rfl) (met os _)) ?_
 intro W base args ds gs before hval hW _ hsz _ _;refine vt2 (k:=8) (cal:=⟨[.ro 0],false,true,vak (T 15) var vbz⟩) qcl Tryd.func3 (by kernel_rfl) rfl (by rfl) Tryd.underlying4 rfl ?_ (by rw [Tryd.params3];decide+kernel) (by rw [Tryd.params3];decide+kernel) ((qmu 16).sound vd8 _ vmh) ?_ ?_ hval hW hsz
 ·intro ds hl
  match ds,hl with
  | [d0],_=>rfl
 ·intro vs;rcases vs with _|⟨_,_⟩<;>rfl
 ·intro css h;obtain ⟨v0,h0,h1,h2⟩:=shape h;rw [h0];exact vo6 v0 h1 h2
theorem over:Rows.FnFoundAgainSaid:=
 OpenClaim.holds_of_wide 3 Tryd.f3 rfl rfl rfl rfl rfl rfl rfl ⟨rfl,rfl,rfl,rfl,rfl⟩ rfl rfl rfl rfl rfl (by kernel_rfl) Tryd.func3 (by kernel_rfl)
  (of_decide_eq_true (by kernel_rfl)) (by unfold Func.isWrapper;first|(rw [if_pos (by decide+kernel)];kernel_rfl)|(rw [if_neg (by decide+kernel)];exact ⟨rfl,rfl⟩))
  (fun os started H enc _=>qd6 os started H enc)
end Go.Proofs.YtpnnhokaehghfaaDoor.FoundAgain
namespace Go.Proofs.YtpnnhokaehghfaaDoor
theorem fnFoundAgain_holds:Rows.FnFoundAgainCardSaid:=
 Claim7.holds_tied_plain_at .later [] [.data,.pinned] true (true, "39e057f20d54b29fca81322e2d9f84b6ee6a62b32f0662a333f381f2868a375d") false
  FoundAgain.over (fun _ h=>by cases h) (by kernel_rfl) (fun _ h=>by cases h) fnFoundAgain_row_tie rfl ⟨rfl,rfl⟩ (by kernel_rfl) rfl
  (fun f fn hf hfn=>by
   obtain rfl:f=3:=Option.some.inj ((show Tryd.prog.funcNamed "loop.example/g00648/laws.FnFoundAgain" =some 3 by kernel_rfl).symm.trans hf)|>.symm
   obtain rfl:fn=Tryd.f3:=(Option.some.inj (Tryd.func3.symm.trans hfn)).symm
   exact ⟨by kernel_rfl,fun j t ht=>by
    rw [Tryd.params3] at ht;have hm:t∈[22]:=by
     have:=Array.mem_of_getElem? ht;simpa using this
    have hall:([22].all fun u=> !Tryd.prog.wantsStandIn u)=true:=by kernel_rfl
    exact (show Tryd.prog.wantsStandIn t=false by simpa using List.all_eq_true.1 hall t hm)⟩)
  (by kernel_rfl)
