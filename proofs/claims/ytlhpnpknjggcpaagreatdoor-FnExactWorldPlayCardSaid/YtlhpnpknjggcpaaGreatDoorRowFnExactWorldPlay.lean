/- FnExactWorldPlay: the law holds for all inputs. No condition. -/
import Derived.Test.YtlhpnpknjggcpaaGreatDoorLawJ
import Derived.Test.YtlhpnpknjggcpaaGreatDoorForm
import Derived.Test.YtlhpnpknjggcpaaGreatDoorVmRow
import Derived.Test.YtlhpnpknjggcpaaGreatDoorRows
import Derived.Test.YtlhpnpknjggcpaaGreatDoorCards
import Derived.Test.YtlhpnpknjggcpaaGreatDoorTie
import Derived.Lay
import Derived.LaidMore
import Derived.SevenTiedAt
open List renaming length_map->Aa
namespace Go.Proofs.YtlhpnpknjggcpaaGreatDoor.ExactWorldPlay
open Go Go.Proofs.YtlhpnpknjggcpaaGreatDoor.VM Go.Proofs.YtlhpnpknjggcpaaGreatDoor.VM.Sy
set_option maxRecDepth 100000
theorem qe0 {k:Nat} {c:List PV} (h:Tyd Tryz.prog (k+2) 22 c):∃l:List ByteArray,c= [.sl vam (l.map eStr)]∧l.length<9223372036854000000∧∀s∈l,s.size<9223372036854000000:=by
 obtain ⟨es,rfl,h3,h4⟩:=vs7 Tryz.underlying22 h;obtain ⟨l,rfl,hl⟩:=vuc (f:=eStr) (p:=fun s=>s.size<9223372036854000000) (l:=es) fun y hy=>by
  obtain ⟨c,rfl,h9⟩:=h4 y hy;obtain ⟨n,rfl,hn⟩:=qlv Tryz.underlying9 h9;exact ⟨n,rfl,by omega⟩
 refine ⟨l,rfl,?_,hl⟩;rw [Aa,show Tryz.prog.bytesOf 9=16 from by kernel_rfl] at h3;omega
theorem vq4 {k:Nat} {c:List PV} (h:Tyd Tryz.prog (k+2) 23 c):∃l:List Int,c= [.sl vag (l.map vak)]∧l.length<9223372036854000000:=by
 obtain ⟨es,rfl,h3,h4⟩:=vs7 Tryz.underlying23 h;obtain ⟨l,rfl⟩:=all_map (f:=vak) (l:=es) fun y hy=>by
  obtain ⟨c,rfl,h9⟩:=h4 y hy;obtain ⟨n,rfl,_⟩:=vot Tryz.underlying2 h9;exact ⟨n,rfl⟩
 refine ⟨l,rfl,?_⟩;rw [Aa,show Tryz.prog.bytesOf 2=8 from by kernel_rfl] at h3;omega
theorem qok {k:Nat} {c:List PV} (h:Tyd Tryz.prog (k+3) 90 c):∃x:Obj',mkEl (Tryz.prog.cellsOf 90) c=eObj x∧x.vals.length<9223372036854000000:=by
 obtain ⟨c1,r1,rfl,h1,h⟩:=vhz (vuf Tryz.underlying90 h);obtain ⟨c2,r2,rfl,h2,h⟩:=vhz h;cases qai h;obtain ⟨n1,rfl,_⟩:=vot Tryz.underlying2 h1;obtain ⟨l,rfl,hl⟩:=vq4 h2;exact ⟨⟨n1,l⟩,rfl,hl⟩
theorem qmo {k:Nat} {c:List PV} (h:Tyd Tryz.prog (k+4) 24 c):∃l:List Obj',c= [.sl ve6 (l.map eObj)]∧l.length<9223372036854000000∧∀x∈l,x.vals.length<9223372036854000000:=by
 obtain ⟨es,rfl,h3,h4⟩:=vs7 Tryz.underlying24 h;obtain ⟨l,rfl,hl⟩:=vuc (f:=eObj) (p:=fun x=>x.vals.length<9223372036854000000) (l:=es) fun y hy=>by
  obtain ⟨c,rfl,h5⟩:=h4 y hy;exact qok h5
 refine ⟨l,rfl,?_,hl⟩;rw [Aa,show Tryz.prog.bytesOf 90=32 from by kernel_rfl] at h3;omega
theorem qi8 {k:Nat} {c:List PV} (h:Tyd Tryz.prog (k+5) 26 c):∃g:Gr,c= [.sl vag (g.roots.map vak),.sl ve6 (g.nodes.map eObj)]∧g.roots.length<9223372036854000000∧g.nodes.length<9223372036854000000∧∀x∈g.nodes,x.vals.length<9223372036854000000:=by
 obtain ⟨c1,r1,rfl,h1,h⟩:=vhz (vuf Tryz.underlying26 h);obtain ⟨c2,r2,rfl,h2,h⟩:=vhz h;cases qai h;obtain ⟨l1,rfl,g1⟩:=vq4 h1;obtain ⟨l2,rfl,g2,g3⟩:=qmo h2;exact ⟨⟨l1,l2⟩,rfl,g1,g2,g3⟩
theorem qnl {k:Nat} {c:List PV} (h:Tyd Tryz.prog (k+3) 59 c):∃x:Act',mkEl (Tryz.prog.cellsOf 59) c=vcy x∧x.keep.length<9223372036854000000:=by
 obtain ⟨c1,r1,rfl,h1,h⟩:=vhz (vuf Tryz.underlying59 h);obtain ⟨c2,r2,rfl,h2,h⟩:=vhz h;obtain ⟨c3,r3,rfl,h3,h⟩:=vhz h;obtain ⟨c4,r4,rfl,h4,h⟩:=vhz h;obtain ⟨c5,r5,rfl,h5,h⟩:=vhz h;obtain ⟨c6,r6,rfl,h6,h⟩:=vhz h;cases qai h;obtain ⟨n1,rfl,_⟩:=vot Tryz.underlying2 h1;obtain ⟨n2,rfl,_⟩:=vot Tryz.underlying2 h2;obtain ⟨n3,rfl,_⟩:=vot Tryz.underlying2 h3;obtain ⟨n4,rfl,_⟩:=vot Tryz.underlying2 h4;obtain ⟨n5,rfl,_⟩:=vot Tryz.underlying2 h5;obtain ⟨l,rfl,hl⟩:=vq4 h6;exact ⟨⟨n1,n2,n3,n4,n5,l⟩,rfl,hl⟩
theorem ql9 {k:Nat} {c:List PV} (h:Tyd Tryz.prog (k+4) 27 c):∃l:List Act',c= [.sl ve7 (l.map vcy)]∧l.length<9223372036854000000∧∀x∈l,x.keep.length<9223372036854000000:=by
 obtain ⟨es,rfl,h3,h4⟩:=vs7 Tryz.underlying27 h;obtain ⟨l,rfl,hl⟩:=vuc (f:=vcy) (p:=fun x=>x.keep.length<9223372036854000000) (l:=es) fun y hy=>by
  obtain ⟨c,rfl,h5⟩:=h4 y hy;exact qnl h5
 refine ⟨l,rfl,?_,hl⟩;rw [Aa,show Tryz.prog.bytesOf 59=64 from by kernel_rfl] at h3;omega
theorem own:ownKnob Tryz.prog.godebug=none:=by kernel_rfl
theorem qwc:laidOutB Tryz.prog=true:=by kernel_rfl
theorem zku (d:Nat):Go.Proofs.YtlhpnpknjggcpaaGreatDoor.VM.Good Tryz.prog writes (T d):=qap (by kernel_rfl) qzo (by rfl) zbq.look d
theorem shape {css:List (List PV)} (h:TyAll Tryz.prog 8 Tryz.f3.params.toList css):∃(v0:List ByteArray) (v1:Gr) (v2:List Act') (v3:List Int),argCVs Tryz.prog Tryz.f3.params.toList css= [.sl true vam (v0.map eStr),cGrL v1,.sl true ve7 (v2.map vcy),.sl true vag (v3.map vak)]∧(v0.length<9223372036854000000)∧(∀s∈v0,s.size<9223372036854000000)∧(v1.roots.length<9223372036854000000)∧(v1.nodes.length<9223372036854000000)∧(∀x∈v1.nodes,x.vals.length<9223372036854000000)∧(v2.length<9223372036854000000)∧(∀x∈v2,x.keep.length<9223372036854000000)∧(v3.length<9223372036854000000):=by
 rw [Tryz.params3] at h⊢;obtain ⟨c0,h⟩:=vq0 h;obtain ⟨cs0,rfl,h0,h⟩:=h;obtain ⟨c1,h⟩:=vq0 h;obtain ⟨cs1,rfl,h1,h⟩:=h;obtain ⟨c2,h⟩:=vq0 h;obtain ⟨cs2,rfl,h2,h⟩:=h;obtain ⟨c3,h⟩:=vq0 h;obtain ⟨cs3,rfl,h3,h⟩:=h;cases qn4 h;obtain ⟨v0,rfl,g0,g1⟩:=qe0 h0;obtain ⟨v1,rfl,g2,g3,g4⟩:=qi8 h1;obtain ⟨v2,rfl,g5,g6⟩:=ql9 h2;obtain ⟨v3,rfl,g7⟩:=vq4 h3;exact ⟨v0,v1,v2,v3,rfl,g0,g1,g2,g3,g4,g5,g6,g7⟩
abbrev laidL:List (String×DataW Unit):=Rows.fnExactWorldPlayRow.laid
set_option maxRecDepth 100000 in
theorem met (os:Os) (args:Array Value):laidMetH Tryz.prog laidL ((World.laidAll Tryz.prog os laidL).forCall (fun _ _=>0) ⟨#[],args,[]⟩).memory:=
 laidMet_laidAll args (by kernel_rfl) (by kernel_rfl)
set_option maxRecDepth 100000 in
theorem qzm (os:Os) (started:os.Started) (H:Type) (enc:TypeId×Value→H):
  ReturnsInHanded {} Tryz.checked os 3 .any (fun w args=>(Rows.fnExactWorldPlaySpec.pre enc Tryz.prog Tryz.f3 [] false w args∧laidMetH Tryz.prog laidL w)∧sizedMet enc Tryz.prog Tryz.f3 (OpenSpec.ofChange Rows.fnExactWorldPlaySpec) false w args) (Rows.fnExactWorldPlaySpec.post enc Tryz.prog Tryz.f3 false true false false):=by
 refine returnsInHanded_of_change_and (C:=Tryz.checked) (X:=fun w _=>laidMetH Tryz.prog laidL w) (fun _ _ _ hh h=>h.of_heap hh) own started (by kernel_rfl) Tryz.func3
  (ChangeSpec.witness_shaped (enc:=enc) (C:=Tryz.checked) (os:=os) (X:=fun w _=>laidMetH Tryz.prog laidL w) false (World.laidAll Tryz.prog os laidL) #[.slice none 0 0,.agg #[.slice none 0 0,.slice none 0 0],.slice none 0 0,.slice none 0 0] 8 (World.laidAll_os _ _ _) (World.shaped_of_ZipB (by kernel_rfl) (by kernel_rfl)) (by kernel_rfl) (by kernel_rfl) (by kernel_rfl) (met os _)) ?_
 intro W base args ds gs before hval hW _ hsz _ _;refine qiz (k:=8) (cal:=⟨[.ro 0,.ro 0,.ro 0,.ro 0],false,true,vaf (T 10) vae vbz⟩) qwc Tryz.func3 (by kernel_rfl) rfl (by rfl) Tryz.underlying4 rfl ?_ (by rw [Tryz.params3];decide+kernel) (by rw [Tryz.params3];decide+kernel) ((zku 11).sound vgd _ vsk) ?_ ?_ hval hW hsz
 ·intro ds hl
  match ds,hl with
  | [d0,d1,d2,d3],_=>rfl
 ·intro vs;rcases vs with _|⟨_,_|⟨_,_|⟨_,_|⟨_,_⟩⟩⟩⟩<;>rfl
 ·intro css h;obtain ⟨v0,v1,v2,v3,h0,h1,h2,h3,h4,h5,h6,h7,h8⟩:=shape h;rw [h0];exact qfo v0 v1 v2 v3 h1 h2 h3 h4 h5 h6 h7 h8
theorem over:Rows.FnExactWorldPlaySaid:=
 OpenClaim.holds_of_wide 3 Tryz.f3 rfl rfl rfl rfl rfl rfl rfl ⟨rfl,rfl,rfl,rfl,rfl⟩ rfl rfl rfl rfl rfl (by kernel_rfl) Tryz.func3 (by kernel_rfl)
  (of_decide_eq_true (by kernel_rfl)) (by unfold Func.isWrapper;first|(rw [if_pos (by decide+kernel)];kernel_rfl)|(rw [if_neg (by decide+kernel)];exact ⟨rfl,rfl⟩))
  (fun os started H enc _=>qzm os started H enc)
end Go.Proofs.YtlhpnpknjggcpaaGreatDoor.ExactWorldPlay
namespace Go.Proofs.YtlhpnpknjggcpaaGreatDoor
theorem fnExactWorldPlay_holds:Rows.FnExactWorldPlayCardSaid:=
 Claim7.holds_tied_plain_at .later [] [.data,.pinned] true (true, "110baaa28d7a7b15fd00adedebe75d0f45c6ac1cbeb289ce95ae80664977b594") false
  ExactWorldPlay.over (fun _ h=>by cases h) (by kernel_rfl) (fun _ h=>by cases h) fnExactWorldPlay_row_tie rfl ⟨rfl,rfl⟩ (by kernel_rfl) rfl
  (fun f fn hf hfn=>by
   obtain rfl:f=3:=Option.some.inj ((show Tryz.prog.funcNamed "loop.example/g00648/laws.FnExactWorldPlay" =some 3 by kernel_rfl).symm.trans hf)|>.symm
   obtain rfl:fn=Tryz.f3:=(Option.some.inj (Tryz.func3.symm.trans hfn)).symm
   exact ⟨by kernel_rfl,fun j t ht=>by
    rw [Tryz.params3] at ht;have hm:t∈[22,26,27,23]:=by
     have:=Array.mem_of_getElem? ht;simpa using this
    have hall:([22,26,27,23].all fun u=> !Tryz.prog.wantsStandIn u)=true:=by kernel_rfl
    exact (show Tryz.prog.wantsStandIn t=false by simpa using List.all_eq_true.1 hall t hm)⟩)
  (by kernel_rfl)
