/- FnAlike: the law holds for all inputs. No condition. -/
import Derived.Test.YtjdcidigbbbckaaDoorLawAlikeD
import Derived.Test.YtjdcidigbbbckaaDoorForm
import Derived.Test.YtjdcidigbbbckaaDoorVmRow
import Derived.Test.YtjdcidigbbbckaaDoorRows
import Derived.Test.YtjdcidigbbbckaaDoorCards
import Derived.Test.YtjdcidigbbbckaaDoorTie
import Derived.Lay
import Derived.LaidMore
import Derived.SevenTiedAt
namespace Go.Proofs.YtjdcidigbbbckaaDoor.Alike
open Go Go.Proofs.YtjdcidigbbbckaaDoor.VM Go.Proofs.YtjdcidigbbbckaaDoor.VM.Sy
set_option maxRecDepth 100000
theorem dxg {k:Nat} {c:List PV} (h:Tyd Tryd.prog (k+2) 22 c): ∃l:List Nat,c= [.sl t_u8 (l.map eU8)]∧(∀x∈l,x<256)∧l.length<9223372036854000000:=by
 obtain ⟨es,rfl,h3,h4⟩:=nqh Tryd.underlying22 h
 obtain ⟨l,rfl,hl2⟩:=azh (f:=eU8) (p:=fun x=>x<256) (l:=es) fun y hy=>by
  obtain ⟨c,rfl,h5⟩:=h4 y hy
  obtain ⟨n,rfl,hn0,hn1⟩:=kqj Tryd.underlying5 h5
  refine ⟨n.toNat,?_,?_⟩
  ·have:((n.toNat:Nat):Int)=n:=Int.toNat_of_nonneg hn0
   simp only [eU8,this];rfl
  ·have:n≤255:=hn1
   omega
 refine ⟨l,rfl,hl2,?_⟩
 rw [List.length_map,show Tryd.prog.bytesOf 5=1 from by kernel_rfl] at h3
 omega
theorem own:ownKnob Tryd.prog.godebug=none:=by kernel_rfl
theorem gkj:laidOutB Tryd.prog=true:=by kernel_rfl
theorem good (d:Nat):Go.Proofs.YtjdcidigbbbckaaDoor.VM.Good Tryd.prog kz (T d):=bjf (by kernel_rfl) axk (by rfl) mql.look d
theorem shape {css:List (List PV)} (h:fxg Tryd.prog 8 Tryd.f4.params.toList css): ∃(v0:List Nat),aze Tryd.prog Tryd.f4.params.toList css= [.sl true t_u8 (v0.map eU8)]∧(∀x∈v0,x<256)∧(v0.length<9223372036854000000):=by
 rw [Tryd.params4] at h ⊢
 obtain ⟨c0,h⟩:=gzh h
 obtain ⟨cs0,rfl,h0,h⟩:=h
 cases oqh h
 obtain ⟨v0,rfl,g0,g1⟩:=dxg h0
 exact ⟨v0,rfl,g0,g1⟩
abbrev djh:List (String×DataW Unit):=Rows.fnAlikeRow.laid
set_option maxRecDepth 100000 in
theorem met (os:Os) (args:Array Value):laidMetH Tryd.prog djh ((World.laidAll Tryd.prog os djh).forCall (fun _ _=>0) ⟨#[],args,[]⟩).memory:=
 laidMet_laidAll args (by kernel_rfl) (by kernel_rfl)
set_option maxRecDepth 100000 in
theorem tzl (os:Os) (started:os.Started) (H:Type) (enc:TypeId×Value→H):
 ReturnsInHanded {} Tryd.checked os 4 .any (fun w args=>(Rows.fnAlikeSpec.pre enc Tryd.prog Tryd.f4 [] false w args∧laidMetH Tryd.prog djh w)∧sizedMet enc Tryd.prog Tryd.f4 (OpenSpec.ofChange Rows.fnAlikeSpec) false w args) (Rows.fnAlikeSpec.post enc Tryd.prog Tryd.f4 false true false false):=by
 refine returnsInHanded_of_change_and (C:=Tryd.checked) (X:=fun w _=>laidMetH Tryd.prog djh w) (fun _ _ _ hh h=>h.of_heap hh) own started (by kernel_rfl) Tryd.func4
  (ChangeSpec.witness_shaped (enc:=enc) (C:=Tryd.checked) (os:=os) (X:=fun w _=>laidMetH Tryd.prog djh w) false (World.laidAll Tryd.prog os djh) #[.slice none 0 0] 8 (World.laidAll_os _ _ _) (World.shaped_of_ZipB (by kernel_rfl) (by kernel_rfl)) (by kernel_rfl) (by kernel_rfl) (by kernel_rfl) (met os _)) ?_
 intro W base args ds gs before hval hW _ hsz _ _
 refine jzg (k:=8) (cal:=⟨[.ro 0],false,true,fj (T 8) fuel yk⟩) gkj Tryd.func4 (by kernel_rfl) rfl (by rfl) Tryd.underlying4 rfl ?_ (by rw [Tryd.params4];decide+kernel) (by rw [Tryd.params4];decide+kernel) ((good 9).sound iqc _ yzf) ?_ ?_ hval hW hsz
 ·intro ds hl
  match ds,hl with
  | [d0],_=>rfl
 ·intro vs
  rcases vs with _|⟨_,_⟩<;>rfl
 ·intro css h
  obtain ⟨v0,h0,h1,h2⟩:=shape h
  rw [h0]
  exact cjh v0 h1 h2
theorem over:Rows.FnAlikeSaid:=
 OpenClaim.holds_of_wide 4 Tryd.f4 rfl rfl rfl rfl rfl rfl rfl ⟨rfl,rfl,rfl,rfl,rfl⟩ rfl rfl rfl rfl rfl (by kernel_rfl) Tryd.func4 (by kernel_rfl)
  (of_decide_eq_true (by kernel_rfl)) (by unfold Func.isWrapper;first|(rw [if_pos (by decide+kernel)];kernel_rfl)|(rw [if_neg (by decide+kernel)];exact ⟨rfl,rfl⟩))
  (fun os started H enc _=>tzl os started H enc)
end Go.Proofs.YtjdcidigbbbckaaDoor.Alike
namespace Go.Proofs.YtjdcidigbbbckaaDoor
theorem fnAlike_holds:Rows.FnAlikeCardSaid:=
 Claim7.holds_tied_plain_at .later [] [.data,.pinned] true (true, "b29763a2e4350581dbe553458668c793f33f733e17c0b3013602d99e773ad035") false
  Alike.over (fun _ h=>by cases h) (by kernel_rfl) (fun _ h=>by cases h) fnAlike_row_tie rfl ⟨rfl,rfl⟩ (by kernel_rfl) rfl
  (fun f fn hf hfn=>by
   obtain rfl:f=4:=Option.some.inj ((show Tryd.prog.funcNamed "loop.example/g00648/laws.FnAlike" =some 4 by kernel_rfl).symm.trans hf)|>.symm
   obtain rfl:fn=Tryd.f4:=(Option.some.inj (Tryd.func4.symm.trans hfn)).symm
   exact ⟨by kernel_rfl,fun j t ht=>by
    rw [Tryd.params4] at ht
    have hm:t∈ [22]:=by
     have:=Array.mem_of_getElem? ht
     simpa using this
    have hall:([22].all fun u=> !Tryd.prog.wantsStandIn u)=true:=by kernel_rfl
    exact (show Tryd.prog.wantsStandIn t=false by simpa using List.all_eq_true.1 hall t hm)⟩)
  (by kernel_rfl)
end Go.Proofs.YtjdcidigbbbckaaDoor
