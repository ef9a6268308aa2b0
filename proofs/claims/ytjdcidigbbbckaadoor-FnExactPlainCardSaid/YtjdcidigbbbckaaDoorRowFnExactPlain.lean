/- FnExactPlain: the law holds for all inputs. No condition. -/
import Derived.Test.YtjdcidigbbbckaaDoorLawPlainX
import Derived.Test.YtjdcidigbbbckaaDoorForm
import Derived.Test.YtjdcidigbbbckaaDoorVmRow
import Derived.Test.YtjdcidigbbbckaaDoorRows
import Derived.Test.YtjdcidigbbbckaaDoorCards
import Derived.Test.YtjdcidigbbbckaaDoorTie
import Derived.Lay
import Derived.LaidMore
import Derived.SevenTiedAt
namespace Go.Proofs.YtjdcidigbbbckaaDoor.ExactPlain
open Go Go.Proofs.YtjdcidigbbbckaaDoor.VM Go.Proofs.YtjdcidigbbbckaaDoor.VM.Sy
set_option maxRecDepth 100000
theorem hqf {k:Nat} {c:List PV} (h:Tyd Tryd.prog (k+2) 24 c): ∃l:List ByteArray,c= [.sl lz (l.map eStr)]∧l.length<9223372036854000000∧ ∀s∈l,s.size<9223372036854000000:=by
 obtain ⟨es,rfl,h3,h4⟩:=tqe Tryd.underlying24 h
 obtain ⟨l,rfl,hl⟩:=akf (f:=eStr) (p:=fun s=>s.size<9223372036854000000) (l:=es) fun y hy=>by
  obtain ⟨c,rfl,h9⟩:=h4 y hy
  obtain ⟨n,rfl,hn⟩:=qzh Tryd.underlying9 h9
  exact ⟨n,rfl,by omega⟩
 refine ⟨l,rfl,?_,hl⟩
 rw [List.length_map,show Tryd.prog.bytesOf 9=16 from by kernel_rfl] at h3
 omega
theorem sjf {k:Nat} {c:List PV} (h:Tyd Tryd.prog (k+2) 25 c): ∃l:List Int,c= [.sl nz (l.map eInt)]∧l.length<9223372036854000000:=by
 obtain ⟨es,rfl,h3,h4⟩:=tqe Tryd.underlying25 h
 obtain ⟨l,rfl⟩:=iqi (f:=eInt) (l:=es) fun y hy=>by
  obtain ⟨c,rfl,h9⟩:=h4 y hy
  obtain ⟨n,rfl,_⟩:=qqh Tryd.underlying2 h9
  exact ⟨n,rfl⟩
 refine ⟨l,rfl,?_⟩
 rw [List.length_map,show Tryd.prog.bytesOf 2=8 from by kernel_rfl] at h3
 omega
theorem wkh {k:Nat} {c:List PV} (h:Tyd Tryd.prog (k+3) 116 c): ∃x:Obj',mkEl (Tryd.prog.cellsOf 116) c=eObj x∧x.vals.length<9223372036854000000:=by
 obtain ⟨c1,r1,rfl,h1,h⟩:=hxd (yzf Tryd.underlying116 h)
 obtain ⟨c2,r2,rfl,h2,h⟩:=hxd h
 cases uxg h
 obtain ⟨n1,rfl,_⟩:=qqh Tryd.underlying2 h1
 obtain ⟨l,rfl,hl⟩:=sjf h2
 exact ⟨⟨n1,l⟩,rfl,hl⟩
theorem jjh {k:Nat} {c:List PV} (h:Tyd Tryd.prog (k+4) 40 c): ∃l:List Obj',c= [.sl lk (l.map eObj)]∧l.length<9223372036854000000∧ ∀x∈l,x.vals.length<9223372036854000000:=by
 obtain ⟨es,rfl,h3,h4⟩:=tqe Tryd.underlying40 h
 obtain ⟨l,rfl,hl⟩:=akf (f:=eObj) (p:=fun x=>x.vals.length<9223372036854000000) (l:=es) fun y hy=>by
  obtain ⟨c,rfl,h5⟩:=h4 y hy
  exact wkh h5
 refine ⟨l,rfl,?_,hl⟩
 rw [List.length_map,show Tryd.prog.bytesOf 116=32 from by kernel_rfl] at h3
 omega
theorem yqg {k:Nat} {c:List PV} (h:Tyd Tryd.prog (k+5) 42 c): ∃g:Gr,c= [.sl nz (g.roots.map eInt),.sl lk (g.nodes.map eObj)]∧g.roots.length<9223372036854000000∧g.nodes.length<9223372036854000000∧ ∀x∈g.nodes,x.vals.length<9223372036854000000:=by
 obtain ⟨c1,r1,rfl,h1,h⟩:=hxd (yzf Tryd.underlying42 h)
 obtain ⟨c2,r2,rfl,h2,h⟩:=hxd h
 cases uxg h
 obtain ⟨l1,rfl,g1⟩:=sjf h1
 obtain ⟨l2,rfl,g2,g3⟩:=jjh h2
 exact ⟨⟨l1,l2⟩,rfl,g1,g2,g3⟩
theorem own:ownKnob Tryd.prog.godebug=none:=by kernel_rfl
theorem akj:laidOutB Tryd.prog=true:=by kernel_rfl
theorem good (d:Nat):Go.Proofs.YtjdcidigbbbckaaDoor.VM.Good Tryd.prog kz (T d):=ajf (by kernel_rfl) fqk (by rfl) njl.look d
theorem shape {css:List (List PV)} (h:qxg Tryd.prog 8 Tryd.f5.params.toList css): ∃(v0:List ByteArray) (v1:Gr),kkd Tryd.prog Tryd.f5.params.toList css= [.sl true lz (v0.map eStr),cGrL v1]∧(v0.length<9223372036854000000)∧(∀s∈v0,s.size<9223372036854000000)∧(v1.roots.length<9223372036854000000)∧(v1.nodes.length<9223372036854000000)∧(∀x∈v1.nodes,x.vals.length<9223372036854000000):=by
 rw [Tryd.params5] at h ⊢
 obtain ⟨c0,h⟩:=zzf h
 obtain ⟨cs0,rfl,h0,h⟩:=h
 obtain ⟨c1,h⟩:=zzf h
 obtain ⟨cs1,rfl,h1,h⟩:=h
 cases rqh h
 obtain ⟨v0,rfl,g0,g1⟩:=hqf h0
 obtain ⟨v1,rfl,g2,g3,g4⟩:=yqg h1
 exact ⟨v0,v1,rfl,g0,g1,g2,g3,g4⟩
abbrev njh:List (String×DataW Unit):=Rows.fnExactPlainRow.laid
set_option maxRecDepth 100000 in
theorem met (os:Os) (args:Array Value):laidMetH Tryd.prog njh ((World.laidAll Tryd.prog os njh).forCall (fun _ _=>0) ⟨#[],args,[]⟩).memory:=
 laidMet_laidAll args (by kernel_rfl) (by kernel_rfl)
set_option maxRecDepth 100000 in
theorem vkk (os:Os) (started:os.Started) (H:Type) (enc:TypeId×Value→H):
 ReturnsInHanded {} Tryd.checked os 5 .any (fun w args=>(Rows.fnExactPlainSpec.pre enc Tryd.prog Tryd.f5 [] false w args∧laidMetH Tryd.prog njh w)∧sizedMet enc Tryd.prog Tryd.f5 (OpenSpec.ofChange Rows.fnExactPlainSpec) false w args) (Rows.fnExactPlainSpec.post enc Tryd.prog Tryd.f5 false true false false):=by
 refine returnsInHanded_of_change_and (C:=Tryd.checked) (X:=fun w _=>laidMetH Tryd.prog njh w) (fun _ _ _ hh h=>h.of_heap hh) own started (by kernel_rfl) Tryd.func5
  (ChangeSpec.witness_shaped (enc:=enc) (C:=Tryd.checked) (os:=os) (X:=fun w _=>laidMetH Tryd.prog njh w) false (World.laidAll Tryd.prog os njh) #[.slice none 0 0,.agg #[.slice none 0 0,.slice none 0 0]] 8 (World.laidAll_os _ _ _) (World.shaped_of_ZipB (by kernel_rfl) (by kernel_rfl)) (by kernel_rfl) (by kernel_rfl) (by kernel_rfl) (met os _)) ?_
 intro W base args ds gs before hval hW _ hsz _ _
 refine qzg (k:=8) (cal:=⟨[.ro 0,.ro 0],false,true,uz (T 8) fuel fq⟩) akj Tryd.func5 (by kernel_rfl) rfl (by rfl) Tryd.underlying4 rfl ?_ (by rw [Tryd.params5];decide+kernel) (by rw [Tryd.params5];decide+kernel) ((good 9).sound bqb _ fxd) ?_ ?_ hval hW hsz
 ·intro ds hl
  match ds,hl with
  | [d0,d1],_=>rfl
 ·intro vs
  rcases vs with _|⟨_,_|⟨_,_⟩⟩<;>rfl
 ·intro css h
  obtain ⟨v0,v1,h0,h1,h2,h3,h4,h5⟩:=shape h
  rw [h0]
  exact gzi v0 v1 h1 h2 h3 h4 h5
theorem over:Rows.FnExactPlainSaid:=
 OpenClaim.holds_of_wide 5 Tryd.f5 rfl rfl rfl rfl rfl rfl rfl ⟨rfl,rfl,rfl,rfl,rfl⟩ rfl rfl rfl rfl rfl (by kernel_rfl) Tryd.func5 (by kernel_rfl)
  (of_decide_eq_true (by kernel_rfl)) (by unfold Func.isWrapper;first|(rw [if_pos (by decide+kernel)];kernel_rfl)|(rw [if_neg (by decide+kernel)];exact ⟨rfl,rfl⟩))
  (fun os started H enc _=>vkk os started H enc)
end Go.Proofs.YtjdcidigbbbckaaDoor.ExactPlain
namespace Go.Proofs.YtjdcidigbbbckaaDoor
theorem fnExactPlain_holds:Rows.FnExactPlainCardSaid:=
 Claim7.holds_tied_plain_at .later [] [.data,.pinned] true (true, "b29763a2e4350581dbe553458668c793f33f733e17c0b3013602d99e773ad035") false
  ExactPlain.over (fun _ h=>by cases h) (by kernel_rfl) (fun _ h=>by cases h) fnExactPlain_row_tie rfl ⟨rfl,rfl⟩ (by kernel_rfl) rfl
  (fun f fn hf hfn=>by
   obtain rfl:f=5:=Option.some.inj ((show Tryd.prog.funcNamed "loop.example/g00648/laws.FnExactPlain" =some 5 by kernel_rfl).symm.trans hf)|>.symm
   obtain rfl:fn=Tryd.f5:=(Option.some.inj (Tryd.func5.symm.trans hfn)).symm
   exact ⟨by kernel_rfl,fun j t ht=>by
    rw [Tryd.params5] at ht
    have hm:t∈ [24,42]:=by
     have:=Array.mem_of_getElem? ht
     simpa using this
    have hall:([24,42].all fun u=> !Tryd.prog.wantsStandIn u)=true:=by kernel_rfl
    exact (show Tryd.prog.wantsStandIn t=false by simpa using List.all_eq_true.1 hall t hm)⟩)
  (by kernel_rfl)
end Go.Proofs.YtjdcidigbbbckaaDoor
