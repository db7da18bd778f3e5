/- More lines for the row. -/
import Derived.Test.YtmddmbagehjdeaaZGorillaCursors13
import Derived.Test.YtmddmbagehjdeaaRows
import Derived.ShutString
import Derived.ChangeOld
import Derived.SizedLaws
set_option linter.unusedVariables false
set_option linter.unusedSimpArgs false
set_option maxRecDepth 100000
section
namespace Go.Proofs.Ytmddmbagehjdeaa.gorillaCursors
open Go.ChangeShapes Go.WideShapes Go.ChangeAt Go.RowKit Go.Proofs.YtmddmbagehjdeaaX Go.Proofs.Ytmddmbagehjdeaa.G
open Go.ChangeMaps (open_string shut_string)
theorem own:ownKnob Try.prog.godebug=none:=by kernel_rfl
theorem laidOut:laidOutB Try.prog=true:=by kernel_rfl
theorem lifted (os:Os) (started:os.Started) (H:Type) (enc:TypeId×Value→H) :
  ReturnsInHanded {} Try.checked os 12 .any (Rows.gorillaCursorsSpec.pre6 enc Try.prog Try.f12 Rows.gorillaCursorsRow.domain false) (Rows.gorillaCursorsSpec.post enc Try.prog Try.f12 false true false false):=by
 refine returnsInHanded_of_change_sized (C:=Try.checked) own started (by kernel_rfl) Try.func12
  (ChangeSpec.witness6 (enc:=enc) (C:=Try.checked) false ⟨#[],#[.agg #[.int .i64 0,.int .i64 0,.int .i64 0,.slice none 0 0,.int .i64 0],.slice none 0 0],[]⟩ 8 (by kernel_rfl) (by kernel_rfl) (by kernel_rfl) (by kernel_rfl)) ?_
 intro W base args ds gs before hval0 hW hcnd hsz0 _
 have hval:∀ (j:Nat) t v,Try.f12.params[j]?=some t→args[j]?=some v→Value.okWide Try.prog W .any base t v:=hval0
 have hW':=hW
 obtain⟨p,q,hA0,hV,rfl,hfz,hnd⟩:=hW
 have hA:DataW.TrodAll enc Try.prog W 0 (fun _=>true) true Try.f12.params.toList args.toList ds p:=hA0
 rw [Try.params12] at hA hval
 obtain⟨v0,vs0,d0,ds0,p0,q0,hargs,rfl,rfl,h0,r0⟩:=trodAll_cons hA
 obtain⟨v1,vs1,d1,ds1,p1,q1,rfl,rfl,rfl,h1,r1⟩:=trodAll_cons r0
 obtain⟨rfl,rfl,rfl⟩:=trodAll_nil r1
 obtain rfl:args=#[v0,v1]:=by cases args;simp_all
 obtain⟨rfl,rfl⟩:=trodVars_none hV
 have k0:=h0
 have lt0:∀ x ∈ p0,x.block<W.heap.size:=by obtain⟨m,hm⟩:=k0;exact DataW.trod_lt m _ _ _ hm
 obtain⟨cs0,rfl,_⟩:=okWide_struct Try.underlying69 (hval 0 69 v0 rfl rfl)
 obtain⟨fuel0,hf0⟩:=h0
 obtain⟨⟨a0_0,a0_1,a0_2,⟨l0_3,a0_4⟩⟩,hK0,w0⟩:=(Rd.struct (fun x=>x) (fun x=>x) (fun _=>rfl) Try.underlying69 (RdFs.cons (Rd.int Try.underlying3) (RdFs.cons (Rd.int Try.underlying3) (RdFs.cons (Rd.int Try.underlying3) (RdFs.one (Rd.struct (fun x=>x) (fun x=>x) (fun _=>rfl) Try.underlying25 (RdFs.cons (Rd.slice Try.underlying23 (by kernel_rfl) (Rd.int Try.underlying5)) (RdFs.one (Rd.int Try.underlying3))))))))) enc W _ _ _ fuel0 _ _ hf0
 dsimp only at hK0 w0
 obtain⟨_,_,e0,rfl,⟨_,_,rfl,rfl,⟨_,_,rfl,rfl,⟨_,_,rfl,⟨A0_3,c0_3,rfl,hc0_3,hr0_3⟩,rfl⟩⟩⟩⟩:=hK0
 obtain rfl:cs0=#[.int .i64 a0_0,.int .i64 a0_1,.int .i64 a0_2,.slice A0_3 l0_3.length c0_3,.int .i64 a0_4]:=Array.ext' (by simpa [Value.cells] using e0)
 have k1:=h1
 have lt1:∀ x ∈ p1,x.block<W.heap.size:=by obtain⟨m,hm⟩:=k1;exact DataW.trod_lt m _ _ _ hm
 obtain⟨u1,len1,cap1,rfl⟩:=okWide_slice Try.underlying91 (hval 1 91 v1 rfl rfl)
 obtain⟨fuel1,hf1⟩:=h1
 obtain⟨l1,⟨A1,c1,e1,hc1,hr1⟩,w1⟩:=(Rd.slice Try.underlying91 (by kernel_rfl) rd94) enc W _ _ _ fuel1 _ _ hf1
 simp [Value.cells] at e1
 obtain⟨rfl,rfl,rfl⟩:=e1
 clear hA0 hval0 hsz0
 obtain⟨k,h⟩:=Q.GorillaCursors a0_0 a0_1 a0_2 l0_3 a0_4 l1 w0 w1
 refine(windroselaw18_GorillaCursors.calls k a0_0 a0_1 a0_2 A0_3 c0_3 l0_3 a0_4 u1 cap1 l1 true W hr0_3 hc0_3 hr1 hc1 h).mono fun e W' ⟨he,bel⟩=>?_
 subst he
 exact⟨_,rfl,_,_,_,[],_,[],hW',trodAll_mk1 (shut_bool Try.underlying4 _),(trodAll_cons_mk (Below.trod laidOut (by kernel_rfl) (of_decide_eq_true (by kernel_rfl)) k0 bel lt0) (trodAll_cons_mk (Below.trod laidOut (by kernel_rfl) (of_decide_eq_true (by kernel_rfl)) k1 bel lt1) trodAll_mk0)),rfl,bel.frame _,fun h=>by cases h⟩
theorem over:Rows.gorillaCursorsRow.holds Try.pinned (OpenSpec.ofChange Rows.gorillaCursorsSpec) :=
 OpenClaim.holds_of_wide 12 Try.f12 rfl rfl rfl rfl rfl rfl rfl ⟨rfl,rfl,rfl,rfl,rfl⟩ rfl rfl rfl rfl rfl (by kernel_rfl) Try.func12 (by kernel_rfl)
  (of_decide_eq_true (by kernel_rfl)) (by unfold Func.isWrapper;first|(rw [if_pos (by decide +kernel)];kernel_rfl)|(rw [if_neg (by decide +kernel)];exact⟨rfl,rfl⟩))
  (fun os started H enc _=>lifted os started H enc)
theorem proved:Rows.GorillaCursorsSaid:=over
#print axioms proved
end Go.Proofs.Ytmddmbagehjdeaa.gorillaCursors
namespace Go.Proofs.Ytmddmbagehjdeaa
theorem gorillaCursors_holds:Rows.GorillaCursorsSaid:=gorillaCursors.proved
end Go.Proofs.Ytmddmbagehjdeaa
end
