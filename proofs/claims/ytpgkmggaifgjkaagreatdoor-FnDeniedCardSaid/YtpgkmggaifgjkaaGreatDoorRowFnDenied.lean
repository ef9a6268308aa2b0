/- FnDenied: the law holds for all inputs. No condition. -/
import Derived.Test.YtpgkmggaifgjkaaGreatDoorLawFx
import Derived.Test.YtpgkmggaifgjkaaGreatDoorForm
import Derived.Test.YtpgkmggaifgjkaaGreatDoorVmRow
import Derived.Test.YtpgkmggaifgjkaaGreatDoorRows
import Derived.Test.YtpgkmggaifgjkaaGreatDoorCards
import Derived.Test.YtpgkmggaifgjkaaGreatDoorTie
import Derived.Lay
import Derived.LaidMore
import Derived.SevenTiedAt
set_option linter.all false
namespace Go.Proofs.YtpgkmggaifgjkaaGreatDoor.Denied
open Go Go.Proofs.YtpgkmggaifgjkaaGreatDoor.VM Go.Proofs.YtpgkmggaifgjkaaGreatDoor.VM.Sy
set_option maxRecDepth 100000
theorem qde {k:Nat} {c:List PV} (h:Tyd Tryz.prog (k+2) 22 c):∃l:List Nat,c= [.sl vc9 (l.map eU8)]/\(∀x∈l,x<256)/\l.length<9223372036854000000:=by
 obtain ⟨es,rfl,h3,h4⟩:=qka Tryz.underlying22 h;obtain ⟨l,rfl,hl2⟩:=qbc (f:=eU8) (p:=λx=>x<256) (l:=es) λy hy=>by
  obtain ⟨c,rfl,h5⟩:=h4 y hy;obtain ⟨n,rfl,hn0,hn1⟩:=qp0 Tryz.underlying5 h5;refine ⟨n.toNat,?_,?_⟩
  ·have:((n.toNat:Nat):Int)=n:=Int.toNat_of_nonneg hn0;simp only [eU8,this];rfl
  ·have:n<=255:=hn1;omega
 refine ⟨l,rfl,hl2,?_⟩;rw [List.length_map,show Tryz.prog.bytesOf 5=1 from by kernel_rfl] at h3;omega
theorem own:ownKnob Tryz.prog.godebug=none:=by kernel_rfl
theorem qqc:laidOutB Tryz.prog=true:=by kernel_rfl
theorem zey (d:Nat):Go.Proofs.YtpgkmggaifgjkaaGreatDoor.VM.Good Tryz.prog writes (T d):=vwy (by kernel_rfl) qtm (by rfl) qvn.look d
theorem shape {css:List (List PV)} (h:TyAll Tryz.prog 8 Tryz.f5.params.toList css):∃(v0:List Nat),argCVs Tryz.prog Tryz.f5.params.toList css= [.sl true vc9 (v0.map eU8)]/\(∀x∈v0,x<256)/\(v0.length<9223372036854000000):=by
 rw [Tryz.params5] at h⊢;obtain ⟨c0,h⟩:=qgh h;obtain ⟨cs0,rfl,h0,h⟩:=h;cases qjp h;obtain ⟨v0,rfl,g0,g1⟩:=qde h0;exact ⟨v0,rfl,g0,g1⟩
abbrev laidL:List (String×DataW Unit):=Rows.fnDeniedRow.laid
set_option maxRecDepth 100000 in
theorem met (os:Os) (args:Array Value):laidMetH Tryz.prog laidL ((World.laidAll Tryz.prog os laidL).forCall (λ_ _=>0) ⟨#[],args,[]⟩).memory:=
 laidMet_laidAll args (by kernel_rfl) (by kernel_rfl)
set_option maxRecDepth 100000 in
theorem quh (os:Os) (started:os.Started) (H:Type) (enc:TypeId×Value->H):
  ReturnsInHanded {} Tryz.checked os 5 .any (λw args=>(Rows.fnDeniedSpec.pre enc Tryz.prog Tryz.f5 [] false w args/\laidMetH Tryz.prog laidL w)/\sizedMet enc Tryz.prog Tryz.f5 (OpenSpec.ofChange Rows.fnDeniedSpec) false w args) (Rows.fnDeniedSpec.post enc Tryz.prog Tryz.f5 false true false false):=by
 refine returnsInHanded_of_change_and (C:=Tryz.checked) (X:=λw _=>laidMetH Tryz.prog laidL w) (λ_ _ _ hh h=>h.of_heap hh) own started (by kernel_rfl) Tryz.func5
  (ChangeSpec.witness_shaped (enc:=enc) (C:=Tryz.checked) (os:=os) (X:=λw _=>laidMetH Tryz.prog laidL w) false (World.laidAll Tryz.prog os laidL) #[.slice none 0 0] 8 (World.laidAll_os _ _ _) (World.shaped_of_ZipB (by kernel_rfl) (by kernel_rfl)) (by kernel_rfl) (by kernel_rfl) (by kernel_rfl) (met os _)) ?_
 intro W base args ds gs before hval hW _ hsz _ _;refine qau (k:=8) (cal:=⟨[.ro 0],false,true,vag (T 10) vad veu⟩) qqc Tryz.func5 (by kernel_rfl) rfl (by rfl) Tryz.underlying4 rfl ?_ (by rw [Tryz.params5];decide+kernel) (by rw [Tryz.params5];decide+kernel) ((zey 11).sound vmi _ vw8) ?_ ?_ hval hW hsz
 ·intro ds hl
  match ds,hl with
  | [d0],_=>rfl
 ·intro vs;rcases vs with _|⟨_,_⟩<;>rfl
 ·intro css h;obtain ⟨v0,h0,h1,h2⟩:=shape h;rw [h0];exact qbi v0 h1 h2
theorem over:Rows.FnDeniedSaid:=
 OpenClaim.holds_of_wide 5 Tryz.f5 rfl rfl rfl rfl rfl rfl rfl ⟨rfl,rfl,rfl,rfl,rfl⟩ rfl rfl rfl rfl rfl (by kernel_rfl) Tryz.func5 (by kernel_rfl)
  (of_decide_eq_true (by kernel_rfl)) (by unfold Func.isWrapper;first|(rw [if_pos (by decide+kernel)];kernel_rfl)|(rw [if_neg (by decide+kernel)];exact ⟨rfl,rfl⟩))
  (λos started H enc _=>quh os started H enc)
end Go.Proofs.YtpgkmggaifgjkaaGreatDoor.Denied
namespace Go.Proofs.YtpgkmggaifgjkaaGreatDoor
theorem fnDenied_holds:Rows.FnDeniedCardSaid:=
 Claim7.holds_tied_plain_at .later [] [.data,.pinned] true (true, "7dcbdfa2db63b5ed004b638c7ff98449f952a1d968ad7befaef64b4f5b50af52") false
  Denied.over (λ_ h=>by cases h) (by kernel_rfl) (λ_ h=>by cases h) fnDenied_row_tie rfl ⟨rfl,rfl⟩ (by kernel_rfl) rfl
  (λf fn hf hfn=>by
   obtain rfl:f=5:=Option.some.inj ((show Tryz.prog.funcNamed "loop.example/g00648/laws.FnDenied" =some 5 by kernel_rfl).symm.trans hf)|>.symm
   obtain rfl:fn=Tryz.f5:=(Option.some.inj (Tryz.func5.symm.trans hfn)).symm
   exact ⟨by kernel_rfl,λj t ht=>by
    rw [Tryz.params5] at ht;have hm:t∈[22]:=by
     have:=Array.mem_of_getElem? ht;simpa using this
    have hall:([22].all λu=> !Tryz.prog.wantsStandIn u)=true:=by kernel_rfl
    exact (show Tryz.prog.wantsStandIn t=false by simpa using List.all_eq_true.1 hall t hm)⟩)
  (by kernel_rfl)
