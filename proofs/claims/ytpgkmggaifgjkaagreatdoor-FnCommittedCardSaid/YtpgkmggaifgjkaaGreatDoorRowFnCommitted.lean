/- FnCommitted: the law holds for all inputs. No condition. -/
import Derived.Test.YtpgkmggaifgjkaaGreatDoorLawFx
import Derived.Test.YtpgkmggaifgjkaaGreatDoorForm
import Derived.Test.YtpgkmggaifgjkaaGreatDoorVmRow
import Derived.Test.YtpgkmggaifgjkaaGreatDoorRows
import Derived.Test.YtpgkmggaifgjkaaGreatDoorCards
import Derived.Test.YtpgkmggaifgjkaaGreatDoorTie
import Derived.Lay
import Derived.LaidMore
import Derived.SevenTiedAt
set_option linter.all false
namespace Go.Proofs.YtpgkmggaifgjkaaGreatDoor.Committed
open Go Go.Proofs.YtpgkmggaifgjkaaGreatDoor.VM Go.Proofs.YtpgkmggaifgjkaaGreatDoor.VM.Sy
set_option maxRecDepth 100000
theorem qdc {k:Nat} {c:List PV} (h:Tyd Tryz.prog (k+2) 22 c):∃l:List Nat,c= [.sl vdg (l.map eU8)]/\(∀x∈l,x<256)/\l.length<9223372036854000000:=by
 obtain ⟨es,rfl,h3,h4⟩:=qkt Tryz.underlying22 h;obtain ⟨l,rfl,hl2⟩:=qah (f:=eU8) (p:=λx=>x<256) (l:=es) λy hy=>by
  obtain ⟨c,rfl,h5⟩:=h4 y hy;obtain ⟨n,rfl,hn0,hn1⟩:=qqs Tryz.underlying5 h5;refine ⟨n.toNat,?_,?_⟩
  ·have:((n.toNat:Nat):Int)=n:=Int.toNat_of_nonneg hn0;simp only [eU8,this];rfl
  ·have:n<=255:=hn1;omega
 refine ⟨l,rfl,hl2,?_⟩;rw [List.length_map,show Tryz.prog.bytesOf 5=1 from by kernel_rfl] at h3;omega
theorem own:ownKnob Tryz.prog.godebug=none:=by kernel_rfl
theorem qp4:laidOutB Tryz.prog=true:=by kernel_rfl
theorem zcq (d:Nat):Go.Proofs.YtpgkmggaifgjkaaGreatDoor.VM.Good Tryz.prog writes (T d):=vwk (by kernel_rfl) qsq (by rfl) qup.look d
theorem shape {css:List (List PV)} (h:TyAll Tryz.prog 8 Tryz.f6.params.toList css):∃(v0:List Nat),argCVs Tryz.prog Tryz.f6.params.toList css= [.sl true vdg (v0.map eU8)]/\(∀x∈v0,x<256)/\(v0.length<9223372036854000000):=by
 rw [Tryz.params6] at h⊢;obtain ⟨c0,h⟩:=qfd h;obtain ⟨cs0,rfl,h0,h⟩:=h;cases qjb h;obtain ⟨v0,rfl,g0,g1⟩:=qdc h0;exact ⟨v0,rfl,g0,g1⟩
abbrev laidL:List (String×DataW Unit):=Rows.fnCommittedRow.laid
set_option maxRecDepth 100000 in
theorem met (os:Os) (args:Array Value):laidMetH Tryz.prog laidL ((World.laidAll Tryz.prog os laidL).forCall (λ_ _=>0) ⟨#[],args,[]⟩).memory:=
 laidMet_laidAll args (by kernel_rfl) (by kernel_rfl)
set_option maxRecDepth 100000 in
theorem quz (os:Os) (started:os.Started) (H:Type) (enc:TypeId×Value->H):
  ReturnsInHanded {} Tryz.checked os 6 .any (λw args=>(Rows.fnCommittedSpec.pre enc Tryz.prog Tryz.f6 [] false w args/\laidMetH Tryz.prog laidL w)/\sizedMet enc Tryz.prog Tryz.f6 (OpenSpec.ofChange Rows.fnCommittedSpec) false w args) (Rows.fnCommittedSpec.post enc Tryz.prog Tryz.f6 false true false false):=by
 refine returnsInHanded_of_change_and (C:=Tryz.checked) (X:=λw _=>laidMetH Tryz.prog laidL w) (λ_ _ _ hh h=>h.of_heap hh) own started (by kernel_rfl) Tryz.func6
  (ChangeSpec.witness_shaped (enc:=enc) (C:=Tryz.checked) (os:=os) (X:=λw _=>laidMetH Tryz.prog laidL w) false (World.laidAll Tryz.prog os laidL) #[.slice none 0 0] 8 (World.laidAll_os _ _ _) (World.shaped_of_ZipB (by kernel_rfl) (by kernel_rfl)) (by kernel_rfl) (by kernel_rfl) (by kernel_rfl) (met os _)) ?_
 intro W base args ds gs before hval hW _ hsz _ _;refine qal (k:=8) (cal:=⟨[.ro 0],false,true,vag (T 10) vad vda⟩) qp4 Tryz.func6 (by kernel_rfl) rfl (by rfl) Tryz.underlying4 rfl ?_ (by rw [Tryz.params6];decide+kernel) (by rw [Tryz.params6];decide+kernel) ((zcq 11).sound vkt _ vuf) ?_ ?_ hval hW hsz
 ·intro ds hl
  match ds,hl with
  | [d0],_=>rfl
 ·intro vs;rcases vs with _|⟨_,_⟩<;>rfl
 ·intro css h;obtain ⟨v0,h0,h1,h2⟩:=shape h;rw [h0];exact vw6 v0 h1 h2
theorem over:Rows.FnCommittedSaid:=
 OpenClaim.holds_of_wide 6 Tryz.f6 rfl rfl rfl rfl rfl rfl rfl ⟨rfl,rfl,rfl,rfl,rfl⟩ rfl rfl rfl rfl rfl (by kernel_rfl) Tryz.func6 (by kernel_rfl)
  (of_decide_eq_true (by kernel_rfl)) (by unfold Func.isWrapper;first|(rw [if_pos (by decide+kernel)];kernel_rfl)|(rw [if_neg (by decide+kernel)];exact ⟨rfl,rfl⟩))
  (λos started H enc _=>quz os started H enc)
end Go.Proofs.YtpgkmggaifgjkaaGreatDoor.Committed
namespace Go.Proofs.YtpgkmggaifgjkaaGreatDoor
theorem fnCommitted_holds:Rows.FnCommittedCardSaid:=
 Claim7.holds_tied_plain_at .later [] [.data,.pinned] true (true, "7dcbdfa2db63b5ed004b638c7ff98449f952a1d968ad7befaef64b4f5b50af52") false
  Committed.over (λ_ h=>by cases h) (by kernel_rfl) (λ_ h=>by cases h) fnCommitted_row_tie rfl ⟨rfl,rfl⟩ (by kernel_rfl) rfl
  (λf fn hf hfn=>by
   obtain rfl:f=6:=Option.some.inj ((show Tryz.prog.funcNamed "loop.example/g00648/laws.FnCommitted" =some 6 by kernel_rfl).symm.trans hf)|>.symm
   obtain rfl:fn=Tryz.f6:=(Option.some.inj (Tryz.func6.symm.trans hfn)).symm
   exact ⟨by kernel_rfl,λj t ht=>by
    rw [Tryz.params6] at ht;have hm:t∈[22]:=by
     have:=Array.mem_of_getElem? ht;simpa using this
    have hall:([22].all λu=> !Tryz.prog.wantsStandIn u)=true:=by kernel_rfl
    exact (show Tryz.prog.wantsStandIn t=false by simpa using List.all_eq_true.1 hall t hm)⟩)
  (by kernel_rfl)
