/- More lines for the row. -/
import Derived.Test.YtmddmbagehjdeaaZGorillaDatas13
import Derived.Test.YtmddmbagehjdeaaRows
import Derived.ShutString
import Derived.ChangeOld
import Derived.SizedLaws
set_option linter.unusedVariables false
set_option linter.unusedSimpArgs false
set_option maxRecDepth 100000
section
namespace Go.Proofs.Ytmddmbagehjdeaa.gorillaDatas
open Go.ChangeShapes Go.WideShapes Go.ChangeAt Go.RowKit Go.Proofs.YtmddmbagehjdeaaX Go.Proofs.Ytmddmbagehjdeaa.G
open Go.ChangeMaps (open_string shut_string)
theorem own:ownKnob Try.prog.godebug=none:=by kernel_rfl
theorem bW0:laidOutB Try.prog=true:=by kernel_rfl
theorem cH7 (os:Os) (started:os.Started) (H:Type) (enc:TypeId×Value→H) :
  ReturnsInHanded {} Try.checked os 13 .any (Rows.gorillaDatasSpec.pre6 enc Try.prog Try.f13 Rows.gorillaDatasRow.domain false) (Rows.gorillaDatasSpec.post enc Try.prog Try.f13 false true false false):=by
 refine returnsInHanded_of_change_sized (C:=Try.checked) own started (by kernel_rfl) Try.func13
  (ChangeSpec.witness6 (enc:=enc) (C:=Try.checked) false ⟨#[],#[.agg #[.int .i64 0,.int .i64 0,.int .i64 0,.slice none 0 0,.int .i64 0],.agg #[.slice none 0 0,.slice none 0 0]],[]⟩ 8 (by kernel_rfl) (by kernel_rfl) (by kernel_rfl) (by kernel_rfl)) ?_
 intro W base args ds gs before hval0 hW hcnd hsz0 _
 have hval:∀ (j:Nat) t v,Try.f13.params[j]?=some t→args[j]?=some v→Value.okWide Try.prog W .any base t v:=hval0
 have hW':=hW
 obtain⟨p,q,hA0,hV,rfl,hfz,hnd⟩:=hW
 have hA:DataW.TrodAll enc Try.prog W 0 (fun _=>true) true Try.f13.params.toList args.toList ds p:=hA0
 rw [Try.params13] at hA hval
 obtain⟨v0,vs0,d0,ds0,p0,q0,hargs,rfl,rfl,h0,r0⟩:=trodAll_cons hA
 obtain⟨v1,vs1,d1,ds1,p1,q1,rfl,rfl,rfl,h1,r1⟩:=trodAll_cons r0
 obtain⟨rfl,rfl,rfl⟩:=trodAll_nil r1
 obtain rfl:args=#[v0,v1]:=by cases args;simp_all
 obtain⟨rfl,rfl⟩:=trodVars_none hV
 have k0:=h0
 have lt0:∀ x ∈ p0,x.block<W.heap.size:=by obtain⟨m,hm⟩:=k0;exact DataW.trod_lt m _ _ _ hm
 obtain⟨cs0,rfl,_⟩:=okWide_struct Try.underlying69 (hval 0 69 v0 rfl rfl)
 obtain⟨fuel0,hf0⟩:=h0
 obtain⟨⟨a0_0,a0_1,a0_2,⟨l0_3,a0_4⟩⟩,hK0,w0⟩:=(Rd.struct (fun x=>x) (fun x=>x) (fun _=>rfl) Try.underlying69 (RdFs.cons (Rd.int Try.underlying3) (RdFs.cons (Rd.int Try.underlying3) (RdFs.cons (Rd.int Try.underlying3) (RdFs.one (Rd.struct (fun x=>x) (fun x=>x) (fun _=>rfl) Try.underlying25 (RdFs.cons (Rd.slice Try.underlying23 (by kernel_rfl) (Rd.int Try.underlying5)) (RdFs.one (Rd.int Try.underlying3))))))))) enc W _ _ _ fuel0 _ _ hf0
 dsimp only at hK0 w0
 obtain⟨_,_,e0,rfl,⟨_,_,rfl,rfl,⟨_,_,rfl,rfl,⟨_,_,rfl,⟨A0_3,c0_3,rfl,hc0_3,hr0_3⟩,rfl⟩⟩⟩⟩:=hK0
 obtain rfl:cs0=#[.int .i64 a0_0,.int .i64 a0_1,.int .i64 a0_2,.slice A0_3 l0_3.length c0_3,.int .i64 a0_4]:=Array.ext' (by simpa [Value.cells] using e0)
 have k1:=h1
 have lt1:∀ x ∈ p1,x.block<W.heap.size:=by obtain⟨m,hm⟩:=k1;exact DataW.trod_lt m _ _ _ hm
 obtain⟨cs1,rfl,_⟩:=okWide_struct Try.underlying98 (hval 1 98 v1 rfl rfl)
 obtain⟨fuel1,hf1⟩:=h1
 obtain⟨⟨l1_0,l1_1⟩,hK1,w1⟩:=(Rd.struct (fun x=>x) (fun x=>x) (fun _=>rfl) Try.underlying98 (RdFs.cons (Rd.slice Try.underlying22 (by kernel_rfl) (Rd.int Try.underlying3)) (RdFs.one (Rd.slice Try.underlying96 (by kernel_rfl) (Rd.string Try.underlying9))))) enc W _ _ _ fuel1 _ _ hf1
 dsimp only at hK1 w1
 obtain⟨_,_,e1,⟨A1_0,c1_0,rfl,hc1_0,hr1_0⟩,⟨A1_1,c1_1,rfl,hc1_1,hr1_1⟩⟩:=hK1
 obtain rfl:cs1=#[.slice A1_0 l1_0.length c1_0,.slice A1_1 l1_1.length c1_1]:=Array.ext' (by simpa [Value.cells] using e1)
 clear hA0 hval0 hsz0
 obtain⟨k,h⟩:=Q.GorillaDatas a0_0 a0_1 a0_2 l0_3 a0_4 l1_0 l1_1 w0 w1
 refine(q11.calls k a0_0 a0_1 a0_2 A0_3 c0_3 l0_3 a0_4 A1_0 c1_0 l1_0 A1_1 c1_1 l1_1 true W hr0_3 hc0_3 hr1_0 hc1_0 hr1_1 hc1_1 h).mono fun e W' ⟨he,bel⟩=>?_
 subst he
 exact⟨_,rfl,_,_,_,[],_,[],hW',trodAll_mk1 (shut_bool Try.underlying4 _),(trodAll_cons_mk (Below.trod bW0 (by kernel_rfl) (of_decide_eq_true (by kernel_rfl)) k0 bel lt0) (trodAll_cons_mk (Below.trod bW0 (by kernel_rfl) (of_decide_eq_true (by kernel_rfl)) k1 bel lt1) trodAll_mk0)),rfl,bel.frame _,fun h=>by cases h⟩
theorem over:Rows.gorillaDatasRow.holds Try.pinned (OpenSpec.ofChange Rows.gorillaDatasSpec) :=
 OpenClaim.holds_of_wide 13 Try.f13 rfl rfl rfl rfl rfl rfl rfl ⟨rfl,rfl,rfl,rfl,rfl⟩ rfl rfl rfl rfl rfl (by kernel_rfl) Try.func13 (by kernel_rfl)
  (of_decide_eq_true (by kernel_rfl)) (by unfold Func.isWrapper;first|(rw [if_pos (by decide +kernel)];kernel_rfl)|(rw [if_neg (by decide +kernel)];exact⟨rfl,rfl⟩))
  (fun os started H enc _=>cH7 os started H enc)
theorem proved:Rows.GorillaDatasSaid:=over
#print axioms proved
end Go.Proofs.Ytmddmbagehjdeaa.gorillaDatas
namespace Go.Proofs.Ytmddmbagehjdeaa
theorem gorillaDatas_holds:Rows.GorillaDatasSaid:=gorillaDatas.proved
end Go.Proofs.Ytmddmbagehjdeaa
end
