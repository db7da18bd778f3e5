/- More lines for the row. -/
import Derived.Test.YtmddmbagehjdeaaZGorillaDatas3
import Derived.Test.YtmddmbagehjdeaaHLenW
set_option linter.unusedVariables false
set_option linter.unusedSimpArgs false
set_option maxRecDepth 100000
set_option maxHeartbeats 8000000
section
namespace Go.Proofs.Ytmddmbagehjdeaa.G
open Go Go.RowKit Go.Proofs.YtmddmbagehjdeaaW.PrintWords Go.Proofs.YtmddmbagehjdeaaW.PrintLast Go.Proofs.YtmddmbagehjdeaaW.PrintMore
def q72.f (a0:Int):Option Int:=if 0≤a0∧a0≤18446744073709551615 then some (Lib.bitLen a0.toNat)else none
theorem q72.calls (a0:Int) (r:Int) (w:World) (h:q72.f a0=some r) :
  Calls Try.prog 69 #[.int .u64 a0] w fun e w'=>e=.returned (.int .i64 r)∧L1 w w':=by
 unfold q72.f at h
 split at h
 ·rename_i hc
  obtain rfl:=Option.some.inj h
  exact(len64_any a0 w hc.1 hc.2).mono fun e w' ⟨he,hw⟩=>⟨he,⟨0,hw⟩⟩
 ·cases h
end Go.Proofs.Ytmddmbagehjdeaa.G
end
section
namespace Go.Proofs.YtmddmbagehjdeaaX
open Go Go.RowKit Go.Proofs.YtmddmbagehjdeaaW.PrintWords Go.Proofs.YtmddmbagehjdeaaW.PrintLast Go.Proofs.YtmddmbagehjdeaaW.PrintMore
theorem ap_:type_of% @Act.put.eq_1:=@Act.put.eq_1
theorem sb_:type_of% @List.setIfInBounds_toArray:=@List.setIfInBounds_toArray
theorem s0_:type_of% @List.set_cons_zero:=@List.set_cons_zero
theorem s1_:type_of% @List.set_cons_succ:=@List.set_cons_succ
theorem nq_ {w:World} {p:Addr} {v:Value} {a b:Nat} (hw:w.cell? p=some v) (hg:w.heap.size≤b) (ha:p.block=a:=by first|rfl|(simp only [O3];done)|(rw [O3])):a≠b :=
 ha ▸ Nat.ne_of_lt (Nat.lt_of_lt_of_le (World.block_lt_of_cell? _ _ hw) hg)
end Go.Proofs.YtmddmbagehjdeaaX
end
section
namespace Go.Proofs.Ytmddmbagehjdeaa.G
open Go.RowKit Go.Proofs.YtmddmbagehjdeaaX Go.Proofs.YtmddmbagehjdeaaW.PrintWords Go.Proofs.YtmddmbagehjdeaaW.PrintLast Go.Proofs.YtmddmbagehjdeaaW.PrintMore
attribute [local go_sem] S3 R3 R4 S4 P3 N3 D4 Y3
def q38.l0:Nat→Int→Int→Option (Int)
 |0,_,_=>none
 |k+1,x0,x3=>if x3<4 then((q70.f x0).bind fun ct4=>((q72.f ct4).bind fun cH6=>((q61.f x3).bind fun cG6=>(if cH6>cG6 then(q38.l0 k x0 (wrap64 (x3+1)))else(some x3)))))else(some x3)
def q38.f (k:Nat) (a0:Int):Option (Int):=q38.l0 k a0 0
theorem q38.mono_l:∀ k,(∀ y0 y1,LeO (q38.l0 k y0 y1) (q38.l0 (k+1) y0 y1))
 |0=>fun _ _ r h=>by simp [q38.l0] at h
 |k+1=>by
  have ih0:=q38.mono_l k
  ·intro y0 y1
   unfold q38.l0
   repeat' first
   |(with_reducible exact ih0 _ _)
   |(with_reducible exact LeO.refl _)
   |(with_reducible exact LeO.none _)
   |(with_reducible refine LeO.ite ?_ ?_)
   |(with_reducible refine LeO.bind ?_ (fun _=>?_))
   |exact ih0 _ _
   |exact LeO.none _
   |refine LeO.ite ?_ ?_
   |refine LeO.bind ?_ (fun _=>?_)
theorem q38.mono:∀ a0 k,LeO (q38.f k a0) (q38.f (k+1) a0):=by
 intro a0 k
 have ih0:=q38.mono_l k
 unfold q38.f
 repeat' first
   |(with_reducible exact ih0 _ _)
   |(with_reducible exact LeO.refl _)
   |(with_reducible exact LeO.none _)
   |(with_reducible refine LeO.ite ?_ ?_)
   |(with_reducible refine LeO.bind ?_ (fun _=>?_))
   |exact ih0 _ _
   |exact LeO.none _
   |refine LeO.ite ?_ ?_
   |refine LeO.bind ?_ (fun _=>?_)
theorem q38.calls (k:Nat) (a0:Int) (r:Int) (w:World) (h:q38.f k a0=some r) :
  Calls Try.prog 33 #[.int .i64 a0] w fun e w'=>e=.returned (.int .i64 r)∧L1 w w':=by
 have H:(q38.l0 k a0 0)=some r:=h
 clear h
 have H':=q5.mk H
 clear H
 go_enter Try.func33,Try.ntmps33
 go_wp2
 go_loopg [3] k (fun kq v3 w'=>∃ (x3_1:Int),v3=.int .i64 x3_1∧q5 (q38.l0 kq a0 x3_1=some r)∧q5 (kq≤k)∧L1 w w')
 case atStart=>exact⟨(0),sm_,H',⟨Nat.le_refl _⟩,by repeat(first|exact L1.refl _|apply L1.step)⟩
 case round =>
  clear H'
  obtain⟨x3_1,rfl,HA,HK1,⟨m1,rfl⟩⟩:=hrel
  cases gk with
  |zero=>exact absurd HA.out (by simp [q38.l0])
  |succ k1 =>
   have H:=HA.out
   clear HA
   simp only [q38.l0] at H
   replace H:=dle H
   rcases H with⟨c2b0,H⟩|⟨c2b0,H⟩
   focus
    replace H:=N2 H
    obtain⟨ct4,A3,H⟩:=H
    try dsimp only at H
    replace H:=N2 H
    obtain⟨cH6,A4,H⟩:=H
    try dsimp only at H
    replace H:=N2 H
    obtain⟨cG6,A5,H⟩:=H
    try dsimp only at H
    replace H:=dgt H
    rcases H with⟨c6b0,H⟩|⟨c6b0,H⟩
    focus
     have H':=q5.mk H
     clear H
    rotate_left
    focus
     obtain rfl:=Option.some.inj H
   rotate_left 2
   focus
    obtain rfl:=Option.some.inj H
   all_goals
    go_wp2_with (first|(go_at_call 62;(with_reducible refine(q70.calls a0 ct4 _ A3.out).mono ?_);rintro e w' ⟨rfl,⟨nd,rfl⟩⟩)|(go_at_call 69;(with_reducible refine(q72.calls ct4 cH6 _ A4.out).mono ?_);rintro e w' ⟨rfl,⟨nd,rfl⟩⟩)|(go_at_call 63;(with_reducible refine(q61.calls x3_1 cG6 _ A5.out).mono ?_);rintro e w' ⟨rfl,⟨nd,rfl⟩⟩))
    first
     |go_roundg k1
      case measure=>have:=HK1.out;omega
      case rel=>exact⟨(wrap64 (x3_1+1)),sm_,H',⟨by have:=HK1.out;omega⟩,by repeat(first|exact L1.refl _|apply L1.step)⟩
     |go_ret
      exact⟨by first|rfl|(simp;done)|(simp [*];done),by repeat(first|exact L1.refl _|apply L1.step)⟩
def q69.f (a0:Int):Option (Int×Int):=if a0=4 then(some (15,4))else(if 0≤(wrap64 (a0+1))then(some (IntKind.u64.wrap ((shl .u64 1 (wrap64 (a0+1))) - 2),wrap64 (a0+1)))else(none))
theorem q69.calls (a0:Int) (r1:Int) (r2:Int) (w:World) (h:q69.f a0=some (r1,r2)) :
  Calls Try.prog 60 #[.int .i64 a0] w fun e w'=>e=.returned (.tuple #[.int .u64 r1,.int .i64 r2])∧L1 w w':=by
 have H:(if a0=4 then(some (15,4))else(if 0≤(wrap64 (a0+1))then(some (IntKind.u64.wrap ((shl .u64 1 (wrap64 (a0+1))) - 2),wrap64 (a0+1)))else(none)))=some (r1,r2):=h
 clear h
 replace H:=deqn H
 rcases H with⟨c2b0,c2b1,H⟩|⟨c2b0,c2b1,c2,H⟩
 focus
  simp only [Option.some.injEq,Prod.mk.injEq] at H
  obtain⟨rfl,rfl⟩:=H
 rotate_left
 focus
  obtain⟨ji3,hji3⟩:∃ j_:Int,(wrap64 (a0+1))=j_:=⟨_,rfl⟩
  replace H:(if 0≤(ji3)then(some (IntKind.u64.wrap ((shl .u64 1 (ji3)) - 2),ji3))else(none))=some (r1,r2):=by first|(rw [hji3] at H;exact H)|(simp only [hji3] at H ⊢;exact H)
  have hji3w:(IntKind.i64.wrap (a0+1))=ji3:=(N0 _).trans hji3
  by_cases c4:0≤(ji3)
  rotate_left
  ·rw [if_neg c4] at H
   exact absurd H (by simp)
  rw [if_pos c4] at H
  have c4b0:=eq_true c4
  have c4b1:decide (0≤(ji3))=true:=decide_eq_true c4
  clear c4
  obtain⟨ji5,hji5⟩:∃ j_:Int,(shl .u64 1 (ji3))=j_:=⟨_,rfl⟩
  replace H:(some (IntKind.u64.wrap ((ji5) - 2),ji3))=some (r1,r2):=by first|(rw [hji5] at H;exact H)|(simp only [hji5] at H ⊢;exact H)
  have hji5_:(IntKind.u64.wrap (1*2 ^ min (ji3).toNat 64))=ji5:=hji5
  have hji5z:(ji3)≤64→(IntKind.u64.wrap (1*2 ^ (ji3).toNat))=ji5:=ad0 hji5
  have hji5u:(IntKind.u64.wrap (2 ^ min (ji3).toNat 64))=ji5:=by have h_:=hji5_;rw [Int.one_mul] at h_;exact h_
  have hji5v:(ji3)≤64→(IntKind.u64.wrap (2 ^ (ji3).toNat))=ji5:=fun hle_=>by have h_:=hji5z hle_;rw [Int.one_mul] at h_;exact h_
  simp only [Option.some.injEq,Prod.mk.injEq] at H
  obtain⟨rfl,rfl⟩:=H
 all_goals
  go_enter Try.func60,Try.ntmps60
  go_wp2
  go_ret2
  first
   |exact⟨by first|rfl|(simp;done)|(simp [*];done),by repeat(first|exact L1.refl _|apply L1.step)⟩
   |exact⟨by first|rfl|(simp;done)|(simp only [←hji3,←hji5]<;>(first|rfl|simp))|(simp [*];done),by repeat(first|exact L1.refl _|apply L1.step)⟩
def q60.f (k:Nat) (a0:Int):Option (Int):=(q38.f k a0).bind fun aX7=>((q69.f aX7).bind fun cf4=>((q61.f aX7).bind fun cp9=>(some (wrap64 (cf4.2+cp9)))))
theorem q60.mono:∀ a0 k,LeO (q60.f k a0) (q60.f (k+1) a0):=by
 intro a0 k
 unfold q60.f
 repeat' first
   |(with_reducible exact q38.mono _ _)
   |(with_reducible exact LeO.refl _)
   |(with_reducible exact LeO.none _)
   |(with_reducible refine LeO.ite ?_ ?_)
   |(with_reducible refine LeO.bind ?_ (fun _=>?_))
   |exact q38.mono _ _
   |exact LeO.none _
   |refine LeO.ite ?_ ?_
   |refine LeO.bind ?_ (fun _=>?_)
theorem q60.calls (k:Nat) (a0:Int) (r:Int) (w:World) (h:q60.f k a0=some r) :
  Calls Try.prog 16 #[.int .i64 a0] w fun e w'=>e=.returned (.int .i64 r)∧L1 w w':=by
 have H:((q38.f k a0).bind fun aX7=>((q69.f aX7).bind fun cf4=>((q61.f aX7).bind fun cp9=>(some (wrap64 (cf4.2+cp9))))))=some r:=h
 clear h
 replace H:=N2 H
 obtain⟨aX7,A2,H⟩:=H
 try dsimp only at H
 replace H:=N2 H
 obtain⟨⟨dj9,do0⟩,A3,H⟩:=H
 try dsimp only at H
 replace H:=N2 H
 obtain⟨cp9,A4,H⟩:=H
 try dsimp only at H
 obtain rfl:=Option.some.inj H
 go_enter Try.func16,Try.ntmps16
 go_wp2_with (first|((with_reducible refine C1 (f:=33) rfl ?_);refine goL_ (some 7) Try.func33 #[.int .i64 a0] ?_;(with_reducible refine(q38.calls k a0 aX7 _ A2.out).mono ?_);rintro e w' ⟨rfl,⟨nd,rfl⟩⟩;refine⟨_,rfl,?_⟩)|((with_reducible refine C1 (f:=60) rfl ?_);refine goL_ (some 10) Try.func60 #[.int .i64 aX7] ?_;(with_reducible refine(q69.calls aX7 dj9 do0 _ A3.out).mono ?_);rintro e w' ⟨rfl,⟨nd,rfl⟩⟩;refine⟨_,rfl,?_⟩)|((with_reducible refine C1 (f:=63) rfl ?_);refine goL_ (some 15) Try.func63 #[.int .i64 aX7] ?_;(with_reducible refine(q61.calls aX7 cp9 _ A4.out).mono ?_);rintro e w' ⟨rfl,⟨nd,rfl⟩⟩;refine⟨_,rfl,?_⟩))
 go_ret
 exact⟨by first|rfl|(simp;done)|(simp [*];done),by repeat(first|exact L1.refl _|apply L1.step)⟩
def q71.f (a0:Int):Option (Int):=some (wrap64 (Int.tdiv (wrap64 (a0+7)) 8))
theorem q71.calls (a0:Int) (r:Int) (w:World) (h:q71.f a0=some r) :
  Calls Try.prog 82 #[.int .i64 a0] w fun e w'=>e=.returned (.int .i64 r)∧L1 w w':=by
 have H:(some (wrap64 (Int.tdiv (wrap64 (a0+7)) 8)))=some r:=h
 clear h
 obtain rfl:=Option.some.inj H
 go_enter Try.func82,Try.ntmps82
 go_wp2
 go_ret
 exact⟨by first|rfl|(simp;done)|(simp [*];done),by repeat(first|exact L1.refl _|apply L1.step)⟩
def q25.j0:Nat→Bool→List Int→Int→Option (Int)
 |0,_,_,_=>none
 |k+1,x20,aM6,bm9=>if x20=true then(some 1)else(if(Int.tmod bm9 8)>0 then(if 0≤(wrap64 ((aM6.length:Int) - 1))then(if(wrap64 ((aM6.length:Int) - 1))<(aM6.length:Int)then(if 0≤(Int.tmod bm9 8)then(if(shl .u8 (rd aM6 (wrap64 ((aM6.length:Int) - 1))) (Int.tmod bm9 8))=0 then(some 0)else(some 1))else(none))else(none))else(none))else(some 0))
def q25.f (k:Nat) (l0_0:List Int) (a0_1:Int):Option (Int):=if a0_1<0 then(q25.j0 k true l0_0 a0_1)else(if a0_1>131072 then(q25.j0 k true l0_0 a0_1)else((q71.f a0_1).bind fun bD8=>(q25.j0 k ((l0_0.length:Int) != bD8) l0_0 a0_1)))
theorem q25.mono_l:∀ k,(∀ y0 y1 y2,LeO (q25.j0 k y0 y1 y2) (q25.j0 (k+1) y0 y1 y2))
 |0=>fun _ _ _ r h=>by simp [q25.j0] at h
 |k+1=>by
  have ih0:=q25.mono_l k
  ·intro y0 y1 y2
   unfold q25.j0
   repeat' first
   |(with_reducible exact ih0 _ _ _)
   |(with_reducible exact LeO.refl _)
   |(with_reducible exact LeO.none _)
   |(with_reducible refine LeO.ite ?_ ?_)
   |(with_reducible refine LeO.bind ?_ (fun _=>?_))
   |exact ih0 _ _ _
   |exact LeO.none _
   |refine LeO.ite ?_ ?_
   |refine LeO.bind ?_ (fun _=>?_)
theorem q25.mono:∀ a0 a1 k,LeO (q25.f k a0 a1) (q25.f (k+1) a0 a1):=by
 intro a0 a1 k
 have ih0:=q25.mono_l k
 unfold q25.f
 repeat' first
   |(with_reducible exact ih0 _ _ _)
   |(with_reducible exact LeO.refl _)
   |(with_reducible exact LeO.none _)
   |(with_reducible refine LeO.ite ?_ ?_)
   |(with_reducible refine LeO.bind ?_ (fun _=>?_))
   |exact ih0 _ _ _
   |exact LeO.none _
   |refine LeO.ite ?_ ?_
   |refine LeO.bind ?_ (fun _=>?_)
theorem q25.calls (k:Nat) (A0_0:Option Addr) (c0_0:Nat) (l0_0:List Int) (a0_1:Int) (r:Int) (w:World) (hr0_0:Kd.C (Kd.int .u8) w A0_0 l0_0.length l0_0) (hc0_0:l0_0.length≤c0_0) (h:q25.f k l0_0 a0_1=some r) :
  Calls Try.prog 58 #[.agg #[.slice A0_0 l0_0.length c0_0,.int .i64 a0_1]] w fun e w'=>e=.returned (.int .i64 r)∧Below w.heap.size w w':=by
 have hu25:=Try.underlying25
 have HR0_0:=q5.mk hr0_0
 have HC0_0:=q5.mk hc0_0
 clear hr0_0 hc0_0
 have HB:=q5.mk (Below.refl w.heap.size w)
 have H:(if a0_1<0 then(q25.j0 k true l0_0 a0_1)else(if a0_1>131072 then(q25.j0 k true l0_0 a0_1)else((q71.f a0_1).bind fun bD8=>(q25.j0 k ((l0_0.length:Int) != bD8) l0_0 a0_1))))=some r:=h
 clear h
 have HC2:=q5.mk H
 clear H
 go_enter Try.func58,Try.ntmps58
 go_upto_region 1 with(first|((with_reducible refine X0 (N:=1) rfl ?_);(try(refine O2 (by rfl) ?_;dsimp only));refine L2 1 #[.slice A0_0 l0_0.length c0_0,.int .i64 a0_1] 25 ?_;intro aL6 hg w3 hbox hb;have n_:=pk4 (E0 bl_ hb) (hbox) ((ge_ hg bl_:w.heap.size≤aL6)) ((ge_ hg bl_:w.heap.size≤aL6));clear HB;obtain⟨HB,aw4,cB2,cC8⟩:=n_;clear hb hbox hg))
 repeat(go_quiet (first|((with_reducible refine X0 (N:=1) rfl ?_);(try(refine O2 (by rfl) ?_;dsimp only));refine L2 1 #[.slice A0_0 l0_0.length c0_0,.int .i64 a0_1] 25 ?_;intro aL6 hg w3 hbox hb;have n_:=pk4 (E0 bl_ hb) (hbox) ((ge_ hg bl_:w.heap.size≤aL6)) ((ge_ hg bl_:w.heap.size≤aL6));clear HB;obtain⟨HB,aw4,cB2,cC8⟩:=n_;clear hb hbox hg));go_upto_region 1 with(first|((with_reducible refine X0 (N:=1) rfl ?_);(try(refine O2 (by rfl) ?_;dsimp only));refine L2 1 #[.slice A0_0 l0_0.length c0_0,.int .i64 a0_1] 25 ?_;intro aL6 hg w3 hbox hb;have n_:=pk4 (E0 bl_ hb) (hbox) ((ge_ hg bl_:w.heap.size≤aL6)) ((ge_ hg bl_:w.heap.size≤aL6));clear HB;obtain⟨HB,aw4,cB2,cC8⟩:=n_;clear hb hbox hg)))
 (try simp only [ap_,sb_,s0_,s1_])
 go_cut [20] (fun v20 wc=>∃ (kq:Nat) (x20_1:Bool),v20=.bool x20_1∧q5 (q25.j0 kq x20_1 l0_0 a0_1=some r)∧q5 (kq≤k)∧q5 (wc.heap[aL6]?=some (.cells #[(.slice A0_0 l0_0.length c0_0),.int .i64 a0_1] 25 (0,0)))∧q5 (Below w.heap.size w wc))
 case first =>
  have H:=HC2.out
  clear HC2
  replace H:=dle H
  rcases H with⟨c4b0,H⟩|⟨c4b0,H⟩
  focus
   (first|rw [c4b0]|(simp only [N0,P0];rw [c4b0])|skip)
   have H':=q5.mk H
   clear H
   obtain⟨hcz5_0,hcz5_1,hfz5_0,hfz5_1⟩:=N4 aw4.out
  rotate_left
  focus
   (first|rw [c4b0]|(simp only [N0,P0];rw [c4b0])|skip)
   replace H:=dgt H
   rcases H with⟨c6b0,H⟩|⟨c6b0,H⟩
   focus
    have H':=q5.mk H
    clear H
    obtain⟨hcz7_0,hcz7_1,hfz7_0,hfz7_1⟩:=N4 aw4.out
   rotate_left
   focus
    replace H:=N2 H
    obtain⟨bD8,A8,H⟩:=H
    try dsimp only at H
    have H':=q5.mk H
    clear H
    obtain⟨hcz9_0,hcz9_1,hfz9_0,hfz9_1⟩:=N4 aw4.out
  all_goals
   go_wp2_with (first|(go_at_call 82;(with_reducible refine(q71.calls a0_1 bD8 _ A8.out).mono ?_);rintro e w' ⟨rfl,⟨nd,rfl⟩⟩;(try first|exact⟨rfl,_,World.drewN_drewN _ _ _⟩|exact⟨rfl,_,Eq.trans (World.drewN_drewN _ _ _) (congrArg (World.drewN _) (Nat.add_assoc _ _ _))⟩)))
   repeat(go_quiet (first|(go_at_call 82;(with_reducible refine(q71.calls a0_1 bD8 _ A8.out).mono ?_);rintro e w' ⟨rfl,⟨nd,rfl⟩⟩;(try first|exact⟨rfl,_,World.drewN_drewN _ _ _⟩|exact⟨rfl,_,Eq.trans (World.drewN_drewN _ _ _) (congrArg (World.drewN _) (Nat.add_assoc _ _ _))⟩)));try go_wp2_with (first|(go_at_call 82;(with_reducible refine(q71.calls a0_1 bD8 _ A8.out).mono ?_);rintro e w' ⟨rfl,⟨nd,rfl⟩⟩;(try first|exact⟨rfl,_,World.drewN_drewN _ _ _⟩|exact⟨rfl,_,Eq.trans (World.drewN_drewN _ _ _) (congrArg (World.drewN _) (Nat.add_assoc _ _ _))⟩))))
   go_meet
   first
    |case rel=>exact⟨_,(true),sm_,H',⟨om_⟩,⟨(bo_ aw4)⟩,⟨bl_⟩⟩
    |case rel=>exact⟨_,(((l0_0.length:Int) != bD8)),sm_,H',⟨om_⟩,⟨(bo_ aw4)⟩,⟨bl_⟩⟩
 case rest =>
  clear HC2
  obtain⟨kq,x20_1,rfl,HA,HJ1,aw4,HB⟩:=hcut
  cases kq with
  |zero=>exact absurd HA.out (by simp [q25.j0])
  |succ kj1 =>
   have H:=HA.out
   clear HA
   simp only [q25.j0] at H
   replace H:=Q7 H
   rcases H with⟨rfl,H⟩|⟨rfl,H⟩
   focus
    obtain rfl:=Option.some.inj H
   rotate_left
   focus
    replace H:=dgt H
    rcases H with⟨c11b0,H⟩|⟨c11b0,H⟩
    focus
     obtain⟨ji12,hji12⟩:∃ j_:Int,(wrap64 ((l0_0.length:Int) - 1))=j_:=⟨_,rfl⟩
     replace H:(if 0≤(ji12)then(if(ji12)<(l0_0.length:Int)then(if 0≤(Int.tmod a0_1 8)then(if(shl .u8 (rd l0_0 (ji12)) (Int.tmod a0_1 8))=0 then(some 0)else(some 1))else(none))else(none))else(none))=some r:=by first|(rw [hji12] at H;exact H)|(simp only [hji12] at H ⊢;exact H)
     have hji12w:(IntKind.i64.wrap ((l0_0.length:Int) - 1))=ji12:=(N0 _).trans hji12
     replace H:=dle H
     rcases H with⟨c13b0,H⟩|⟨c13b0,H⟩
     rotate_left
     ·exact absurd H (by simp)
     replace H:=dle H
     rcases H with⟨c14b0,H⟩|⟨c14b0,H⟩
     rotate_left
     ·exact absurd H (by simp)
     obtain⟨ji15,hji15⟩:∃ j_:Int,(Int.tmod a0_1 8)=j_:=⟨_,rfl⟩
     replace H:(if 0≤(ji15)then(if(shl .u8 (rd l0_0 (ji12)) (ji15))=0 then(some 0)else(some 1))else(none))=some r:=by first|(rw [hji15] at H;exact H)|(simp only [hji15] at H ⊢;exact H)
     (try rw [hji15] at c11b0)
     by_cases c16:0≤(ji15)
     rotate_left
     ·rw [if_neg c16] at H
      exact absurd H (by simp)
     rw [if_pos c16] at H
     have c16b0:=eq_true c16
     have c16b1:decide (0≤(ji15))=true:=decide_eq_true c16
     clear c16
     obtain⟨ji17,hji17⟩:∃ j_:Int,(shl .u8 (rd l0_0 (ji12)) (ji15))=j_:=⟨_,rfl⟩
     replace H:(if(ji17)=0 then(some 0)else(some 1))=some r:=by first|(rw [hji17] at H;exact H)|(simp only [hji17] at H ⊢;exact H)
     have hji17_:(IntKind.u8.wrap ((rd l0_0 (ji12))*2 ^ min (ji15).toNat 8))=ji17:=hji17
     have hji17z:(ji15)≤8→(IntKind.u8.wrap ((rd l0_0 (ji12))*2 ^ (ji15).toNat))=ji17:=ad0 hji17
     replace H:=deqn H
     rcases H with⟨c18b0,c18b1,H⟩|⟨c18b0,c18b1,c18,H⟩
     focus
      obtain rfl:=Option.some.inj H
      obtain⟨hcz19_0,hcz19_1,hfz19_0,hfz19_1⟩:=N4 aw4.out
      have bN5:0≤((ji12):Int):=dc_
      have bI1:(ji12)<(l0_0.length:Int):=dc_
      obtain⟨cU6,cJ3,as1⟩:=Kd.at_int HR0_0.out (ji12) bN5 bI1
      cases cJ3
      replace as1:=(HB.out.cell (World.block_lt_of_cell? w _ as1)).trans as1
      replace bN5:=eq_true bN5
      replace bI1:=eq_true bI1
     rotate_left
     focus
      obtain rfl:=Option.some.inj H
      obtain⟨hcz20_0,hcz20_1,hfz20_0,hfz20_1⟩:=N4 aw4.out
      have bN5:0≤((ji12):Int):=dc_
      have bI1:(ji12)<(l0_0.length:Int):=dc_
      obtain⟨cU6,cJ3,as1⟩:=Kd.at_int HR0_0.out (ji12) bN5 bI1
      cases cJ3
      replace as1:=(HB.out.cell (World.block_lt_of_cell? w _ as1)).trans as1
      replace bN5:=eq_true bN5
      replace bI1:=eq_true bI1
    rotate_left 2
    focus
     obtain rfl:=Option.some.inj H
     obtain⟨hcz21_0,hcz21_1,hfz21_0,hfz21_1⟩:=N4 aw4.out
   all_goals
    go_wp2
    repeat(go_quiet (fail);try go_wp2)
    go_ret
    first
     |exact⟨rf_,bl_⟩
     |exact⟨by first|rfl|(simp [J3,L3]<;>rfl)|(simp only [←hji12,←hji15,←hji17];first|rfl|(simp [J3,L3]<;>rfl))|(simp [*,J3,L3]<;>rfl),bl_⟩
end Go.Proofs.Ytmddmbagehjdeaa.G
end
section
namespace Go.Proofs.Ytmddmbagehjdeaa.G
open Go.RowKit Go.Proofs.YtmddmbagehjdeaaX Go.Proofs.YtmddmbagehjdeaaW.PrintWords Go.Proofs.YtmddmbagehjdeaaW.PrintLast Go.Proofs.YtmddmbagehjdeaaW.PrintMore
attribute [local go_sem] S3 R3 R4 S4 P3 N3 D4 Y3
def q39.l0:Nat→List (S67)→List (S67)→Int→Int→Option (Int)
 |0,_,_,_,_=>none
 |k+1,x0,x8,x9,x10=>if x10<x9 then(if 0≤x10 then(if x10<(x8.length:Int)then(if((D0 x8 x10).f0)<0 then(some 1)else(if((D0 x8 x10).f0)>1099511627776 then(some 1)else(if((D0 x8 x10).f1)<(-1099511627776)then(some 1)else(if((D0 x8 x10).f1)>1099511627776 then(some 1)else(if x10>0 then(if 0≤(wrap64 (x10 - 1))then(if(wrap64 (x10 - 1))<(x0.length:Int)then(if((D0 x8 x10).f0)≤((D0 x0 (wrap64 (x10 - 1))).f0)then(some 1)else(q39.l0 k x0 x8 x9 (wrap64 (x10+1))))else(none))else(none))else(q39.l0 k x0 x8 x9 (wrap64 (x10+1))))))))else(none))else(none))else(some 0)
def q39.f (k:Nat) (l0:List (S67)):Option (Int):=if(l0.length:Int)>64 then(some 1)else(q39.l0 k l0 l0 (l0.length:Int) 0)
theorem q39.mono_l:∀ k,(∀ y0 y1 y2 y3,LeO (q39.l0 k y0 y1 y2 y3) (q39.l0 (k+1) y0 y1 y2 y3))
 |0=>fun _ _ _ _ r h=>by simp [q39.l0] at h
 |k+1=>by
  have ih0:=q39.mono_l k
  ·intro y0 y1 y2 y3
   unfold q39.l0
   repeat' first
   |(with_reducible exact ih0 _ _ _ _)
   |(with_reducible exact LeO.refl _)
   |(with_reducible exact LeO.none _)
   |(with_reducible refine LeO.ite ?_ ?_)
   |(with_reducible refine LeO.bind ?_ (fun _=>?_))
   |exact ih0 _ _ _ _
   |exact LeO.none _
   |refine LeO.ite ?_ ?_
   |refine LeO.bind ?_ (fun _=>?_)
theorem q39.mono:∀ a0 k,LeO (q39.f k a0) (q39.f (k+1) a0):=by
 intro a0 k
 have ih0:=q39.mono_l k
 unfold q39.f
 repeat' first
   |(with_reducible exact ih0 _ _ _ _)
   |(with_reducible exact LeO.refl _)
   |(with_reducible exact LeO.none _)
   |(with_reducible refine LeO.ite ?_ ?_)
   |(with_reducible refine LeO.bind ?_ (fun _=>?_))
   |exact ih0 _ _ _ _
   |exact LeO.none _
   |refine LeO.ite ?_ ?_
   |refine LeO.bind ?_ (fun _=>?_)
theorem q39.calls (k:Nat) (A0:Option Addr) (c0:Nat) (l0:List (S67)) (r:Int) (w:World) (hr0:Kd.C k67 w A0 l0.length l0) (hc0:l0.length≤c0) (h:q39.f k l0=some r) :
  Calls Try.prog 75 #[.slice A0 l0.length c0] w fun e w'=>e=.returned (.int .i64 r)∧Below w.heap.size w w':=by
 have hu67:=Try.underlying67
 have HR0:=q5.mk hr0
 have HC0:=q5.mk hc0
 clear hr0 hc0
 have HB:=q5.mk (Below.refl w.heap.size w)
 have H:(if(l0.length:Int)>64 then(some 1)else(q39.l0 k l0 l0 (l0.length:Int) 0))=some r:=h
 clear h
 by_cases c2:(l0.length:Int)>64
 rotate_left
 ·rw [if_neg c2] at H
  have c2b0:decide (64<(l0.length:Int))=false:=decide_eq_false c2
  have c2b1:decide (64<l0.length)=false:=decide_eq_false (by omega)
  clear c2
  have H':=q5.mk H
  clear H
  go_enter Try.func75,Try.ntmps75
  go_wp2
  repeat(go_quiet (fail);try go_wp2)
  go_loopg [10] k (fun kq v10 w'=>∃ (x10_1:Int),v10=.int .i64 x10_1∧q5 (q39.l0 kq l0 l0 (l0.length:Int) x10_1=some r)∧q5 (kq≤k)∧q5 (Below w.heap.size w w'))
  case atStart=>exact⟨(0),sm_,H',⟨Nat.le_refl _⟩,⟨bl_⟩⟩
  case round =>
   clear H'
   try clear c2
   try clear c2b0
   try clear c2b1
   obtain⟨x10_1,rfl,HA,HK1,HB⟩:=hrel
   cases gk with
   |zero=>exact absurd HA.out (by simp [q39.l0])
   |succ k1 =>
    have H:=HA.out
    clear HA
    simp only [q39.l0] at H
    replace H:=dle H
    rcases H with⟨c3b0,H⟩|⟨c3b0,H⟩
    focus
     replace H:=dle H
     rcases H with⟨c4b0,H⟩|⟨c4b0,H⟩
     rotate_left
     ·exact absurd H (by simp)
     replace H:=dle H
     rcases H with⟨c5b0,H⟩|⟨c5b0,H⟩
     rotate_left
     ·exact absurd H (by simp)
     replace H:=dle H
     rcases H with⟨c6b0,H⟩|⟨c6b0,H⟩
     focus
      obtain rfl:=Option.some.inj H
      have af7:0≤(x10_1:Int):=dc_
      have af9:x10_1<(l0.length:Int):=dc_
      obtain⟨am8,aO8,l6,m6⟩:=R2 HR0.out x10_1 af7 af9
      cases aO8
      replace l6:=(HB.out.cell (World.block_lt_of_cell? w _ l6)).trans l6
      replace m6:=(HB.out.cell (World.block_lt_of_cell? w _ m6)).trans m6
      replace af7:=eq_true af7
      replace af9:=eq_true af9
     rotate_left
     focus
      replace H:=dgt H
      rcases H with⟨c9b0,H⟩|⟨c9b0,H⟩
      focus
       obtain rfl:=Option.some.inj H
       have af7:0≤(x10_1:Int):=dc_
       have af9:x10_1<(l0.length:Int):=dc_
       obtain⟨am8,aO8,l6,m6⟩:=R2 HR0.out x10_1 af7 af9
       cases aO8
       replace l6:=(HB.out.cell (World.block_lt_of_cell? w _ l6)).trans l6
       replace m6:=(HB.out.cell (World.block_lt_of_cell? w _ m6)).trans m6
       replace af7:=eq_true af7
       replace af9:=eq_true af9
      rotate_left
      focus
       replace H:=dle H
       rcases H with⟨c12b0,H⟩|⟨c12b0,H⟩
       focus
        obtain rfl:=Option.some.inj H
        have af7:0≤(x10_1:Int):=dc_
        have af9:x10_1<(l0.length:Int):=dc_
        obtain⟨am8,aO8,l6,m6⟩:=R2 HR0.out x10_1 af7 af9
        cases aO8
        replace l6:=(HB.out.cell (World.block_lt_of_cell? w _ l6)).trans l6
        replace m6:=(HB.out.cell (World.block_lt_of_cell? w _ m6)).trans m6
        replace af7:=eq_true af7
        replace af9:=eq_true af9
       rotate_left
       focus
        replace H:=dgt H
        rcases H with⟨c15b0,H⟩|⟨c15b0,H⟩
        focus
         obtain rfl:=Option.some.inj H
         have af7:0≤(x10_1:Int):=dc_
         have af9:x10_1<(l0.length:Int):=dc_
         obtain⟨am8,aO8,l6,m6⟩:=R2 HR0.out x10_1 af7 af9
         cases aO8
         replace l6:=(HB.out.cell (World.block_lt_of_cell? w _ l6)).trans l6
         replace m6:=(HB.out.cell (World.block_lt_of_cell? w _ m6)).trans m6
         replace af7:=eq_true af7
         replace af9:=eq_true af9
        rotate_left
        focus
         replace H:=dgt H
         rcases H with⟨c18b0,H⟩|⟨c18b0,H⟩
         focus
          obtain⟨ji19,hji19⟩:∃ j_:Int,(wrap64 (x10_1 - 1))=j_:=⟨_,rfl⟩
          replace H:(if 0≤(ji19)then(if(ji19)<(l0.length:Int)then(if((D0 l0 x10_1).f0)≤((D0 l0 (ji19)).f0)then(some 1)else(q39.l0 k1 l0 l0 (l0.length:Int) (wrap64 (x10_1+1))))else(none))else(none))=some r:=by first|(rw [hji19] at H;exact H)|(simp only [hji19] at H ⊢;exact H)
          have hji19w:(IntKind.i64.wrap (x10_1 - 1))=ji19:=(N0 _).trans hji19
          replace H:=dle H
          rcases H with⟨c20b0,H⟩|⟨c20b0,H⟩
          rotate_left
          ·exact absurd H (by simp)
          replace H:=dle H
          rcases H with⟨c21b0,H⟩|⟨c21b0,H⟩
          rotate_left
          ·exact absurd H (by simp)
          replace H:=dle H
          rcases H with⟨c22b0,H⟩|⟨c22b0,H⟩
          focus
           obtain rfl:=Option.some.inj H
           have af7:0≤(x10_1:Int):=dc_
           have af9:x10_1<(l0.length:Int):=dc_
           obtain⟨am8,aO8,l6,m6⟩:=R2 HR0.out x10_1 af7 af9
           cases aO8
           replace l6:=(HB.out.cell (World.block_lt_of_cell? w _ l6)).trans l6
           replace m6:=(HB.out.cell (World.block_lt_of_cell? w _ m6)).trans m6
           replace af7:=eq_true af7
           replace af9:=eq_true af9
          rotate_left
          focus
           have H':=q5.mk H
           clear H
           have af7:0≤(x10_1:Int):=dc_
           have af9:x10_1<(l0.length:Int):=dc_
           obtain⟨am8,aO8,l6,m6⟩:=R2 HR0.out x10_1 af7 af9
           cases aO8
           replace l6:=(HB.out.cell (World.block_lt_of_cell? w _ l6)).trans l6
           replace m6:=(HB.out.cell (World.block_lt_of_cell? w _ m6)).trans m6
           replace af7:=eq_true af7
           replace af9:=eq_true af9
         rotate_left 2
         focus
          have H':=q5.mk H
          clear H
          have af7:0≤(x10_1:Int):=dc_
          have af9:x10_1<(l0.length:Int):=dc_
          obtain⟨am8,aO8,l6,m6⟩:=R2 HR0.out x10_1 af7 af9
          cases aO8
          replace l6:=(HB.out.cell (World.block_lt_of_cell? w _ l6)).trans l6
          replace m6:=(HB.out.cell (World.block_lt_of_cell? w _ m6)).trans m6
          replace af7:=eq_true af7
          replace af9:=eq_true af9
    rotate_left 7
    focus
     obtain rfl:=Option.some.inj H
    all_goals
     go_wp2_with (first|((with_reducible refine X0 (N:=4) rfl ?_);refine L2 4 #[.int .i64 0,.int .i64 0] 67 ?_;intro B0 hg U1 hbox hb;have n_:=pk4 (E0 bl_ hb) (hbox) ((ge_ hg bl_:w.heap.size≤B0)) ((ge_ hg bl_:w.heap.size≤B0));clear HB;obtain⟨HB,o0,C2,F5⟩:=n_;clear hb hbox hg;have Y2:U1.cell? ⟨B0,0,none⟩=some (.int .i64 0):=(m0 o0.out 0).trans rfl;have z3:U1.cell? ⟨B0,1,none⟩=some (.int .i64 0):=(m0 o0.out 1).trans rfl;have D3:=t0 o0.out 0;have Z2:=t0 o0.out 1;(try(have F3:0≤((ji19):Int):=dc_;have I3:(ji19)<(l0.length:Int):=dc_;obtain⟨J1,E6,Z0,T2⟩:=R2 HR0.out (ji19) F3 I3;obtain rfl:am8=J1:=(by injection E6);have Q5:am8.block≠B0:=Nat.ne_of_lt (Nat.lt_of_lt_of_le (by have:=World.block_lt_of_cell? _ _ Z0;first|rwa [O3] at this|exact this) C2.out);have W5:am8.block≠B0:=Nat.ne_of_lt (Nat.lt_of_lt_of_le (by have:=World.block_lt_of_cell? _ _ Z0;first|rwa [O3] at this|exact this) C2.out);replace Z0:=(HB.out.cell (World.block_lt_of_cell? w _ Z0)).trans Z0;replace T2:=(HB.out.cell (World.block_lt_of_cell? w _ T2)).trans T2;replace Z0:=(m2 (p:=⟨B0,0,none⟩) (by first|(rw [O3];exact Q5)|(show(Addr.add _ _).block≠_;rw [O3];exact Q5)|exact Q5) (.int .i64 ((D0 l0 x10_1).f0))).trans Z0;replace T2:=(m2 (p:=⟨B0,0,none⟩) (by first|(rw [O3];exact Q5)|(show(Addr.add _ _).block≠_;rw [O3];exact Q5)|exact Q5) (.int .i64 ((D0 l0 x10_1).f0))).trans T2;replace Z0:=(m2 (p:=⟨B0,1,none⟩) (by first|(rw [O3];exact W5)|(show(Addr.add _ _).block≠_;rw [O3];exact W5)|exact W5) (.int .i64 ((D0 l0 x10_1).f1))).trans Z0;replace T2:=(m2 (p:=⟨B0,1,none⟩) (by first|(rw [O3];exact W5)|(show(Addr.add _ _).block≠_;rw [O3];exact W5)|exact W5) (.int .i64 ((D0 l0 x10_1).f1))).trans T2;(try have bD4:=fun(n_:Nat)=>(show((((U1.drewN n_).setCell ⟨B0,0,none⟩ (.int .i64 ((D0 l0 x10_1).f0))).setCell ⟨B0,1,none⟩ (.int .i64 ((D0 l0 x10_1).f1)))).cell? _=some _ from Z0));(try have bu0:=fun(n_:Nat)=>(show((((U1.drewN n_).setCell ⟨B0,0,none⟩ (.int .i64 ((D0 l0 x10_1).f0))).setCell ⟨B0,1,none⟩ (.int .i64 ((D0 l0 x10_1).f1)))).cell? _=some _ from T2));clear Q5;clear W5;replace F3:=eq_true F3;replace I3:=eq_true I3))))
     repeat(go_quiet (first|((with_reducible refine X0 (N:=4) rfl ?_);refine L2 4 #[.int .i64 0,.int .i64 0] 67 ?_;intro B0 hg U1 hbox hb;have n_:=pk4 (E0 bl_ hb) (hbox) ((ge_ hg bl_:w.heap.size≤B0)) ((ge_ hg bl_:w.heap.size≤B0));clear HB;obtain⟨HB,o0,C2,F5⟩:=n_;clear hb hbox hg;have Y2:U1.cell? ⟨B0,0,none⟩=some (.int .i64 0):=(m0 o0.out 0).trans rfl;have z3:U1.cell? ⟨B0,1,none⟩=some (.int .i64 0):=(m0 o0.out 1).trans rfl;have D3:=t0 o0.out 0;have Z2:=t0 o0.out 1;(try(have F3:0≤((ji19):Int):=dc_;have I3:(ji19)<(l0.length:Int):=dc_;obtain⟨J1,E6,Z0,T2⟩:=R2 HR0.out (ji19) F3 I3;obtain rfl:am8=J1:=(by injection E6);have Q5:am8.block≠B0:=Nat.ne_of_lt (Nat.lt_of_lt_of_le (by have:=World.block_lt_of_cell? _ _ Z0;first|rwa [O3] at this|exact this) C2.out);have W5:am8.block≠B0:=Nat.ne_of_lt (Nat.lt_of_lt_of_le (by have:=World.block_lt_of_cell? _ _ Z0;first|rwa [O3] at this|exact this) C2.out);replace Z0:=(HB.out.cell (World.block_lt_of_cell? w _ Z0)).trans Z0;replace T2:=(HB.out.cell (World.block_lt_of_cell? w _ T2)).trans T2;replace Z0:=(m2 (p:=⟨B0,0,none⟩) (by first|(rw [O3];exact Q5)|(show(Addr.add _ _).block≠_;rw [O3];exact Q5)|exact Q5) (.int .i64 ((D0 l0 x10_1).f0))).trans Z0;replace T2:=(m2 (p:=⟨B0,0,none⟩) (by first|(rw [O3];exact Q5)|(show(Addr.add _ _).block≠_;rw [O3];exact Q5)|exact Q5) (.int .i64 ((D0 l0 x10_1).f0))).trans T2;replace Z0:=(m2 (p:=⟨B0,1,none⟩) (by first|(rw [O3];exact W5)|(show(Addr.add _ _).block≠_;rw [O3];exact W5)|exact W5) (.int .i64 ((D0 l0 x10_1).f1))).trans Z0;replace T2:=(m2 (p:=⟨B0,1,none⟩) (by first|(rw [O3];exact W5)|(show(Addr.add _ _).block≠_;rw [O3];exact W5)|exact W5) (.int .i64 ((D0 l0 x10_1).f1))).trans T2;(try have bD4:=fun(n_:Nat)=>(show((((U1.drewN n_).setCell ⟨B0,0,none⟩ (.int .i64 ((D0 l0 x10_1).f0))).setCell ⟨B0,1,none⟩ (.int .i64 ((D0 l0 x10_1).f1)))).cell? _=some _ from Z0));(try have bu0:=fun(n_:Nat)=>(show((((U1.drewN n_).setCell ⟨B0,0,none⟩ (.int .i64 ((D0 l0 x10_1).f0))).setCell ⟨B0,1,none⟩ (.int .i64 ((D0 l0 x10_1).f1)))).cell? _=some _ from T2));clear Q5;clear W5;replace F3:=eq_true F3;replace I3:=eq_true I3))));try go_wp2_with (first|((with_reducible refine X0 (N:=4) rfl ?_);refine L2 4 #[.int .i64 0,.int .i64 0] 67 ?_;intro B0 hg U1 hbox hb;have n_:=pk4 (E0 bl_ hb) (hbox) ((ge_ hg bl_:w.heap.size≤B0)) ((ge_ hg bl_:w.heap.size≤B0));clear HB;obtain⟨HB,o0,C2,F5⟩:=n_;clear hb hbox hg;have Y2:U1.cell? ⟨B0,0,none⟩=some (.int .i64 0):=(m0 o0.out 0).trans rfl;have z3:U1.cell? ⟨B0,1,none⟩=some (.int .i64 0):=(m0 o0.out 1).trans rfl;have D3:=t0 o0.out 0;have Z2:=t0 o0.out 1;(try(have F3:0≤((ji19):Int):=dc_;have I3:(ji19)<(l0.length:Int):=dc_;obtain⟨J1,E6,Z0,T2⟩:=R2 HR0.out (ji19) F3 I3;obtain rfl:am8=J1:=(by injection E6);have Q5:am8.block≠B0:=Nat.ne_of_lt (Nat.lt_of_lt_of_le (by have:=World.block_lt_of_cell? _ _ Z0;first|rwa [O3] at this|exact this) C2.out);have W5:am8.block≠B0:=Nat.ne_of_lt (Nat.lt_of_lt_of_le (by have:=World.block_lt_of_cell? _ _ Z0;first|rwa [O3] at this|exact this) C2.out);replace Z0:=(HB.out.cell (World.block_lt_of_cell? w _ Z0)).trans Z0;replace T2:=(HB.out.cell (World.block_lt_of_cell? w _ T2)).trans T2;replace Z0:=(m2 (p:=⟨B0,0,none⟩) (by first|(rw [O3];exact Q5)|(show(Addr.add _ _).block≠_;rw [O3];exact Q5)|exact Q5) (.int .i64 ((D0 l0 x10_1).f0))).trans Z0;replace T2:=(m2 (p:=⟨B0,0,none⟩) (by first|(rw [O3];exact Q5)|(show(Addr.add _ _).block≠_;rw [O3];exact Q5)|exact Q5) (.int .i64 ((D0 l0 x10_1).f0))).trans T2;replace Z0:=(m2 (p:=⟨B0,1,none⟩) (by first|(rw [O3];exact W5)|(show(Addr.add _ _).block≠_;rw [O3];exact W5)|exact W5) (.int .i64 ((D0 l0 x10_1).f1))).trans Z0;replace T2:=(m2 (p:=⟨B0,1,none⟩) (by first|(rw [O3];exact W5)|(show(Addr.add _ _).block≠_;rw [O3];exact W5)|exact W5) (.int .i64 ((D0 l0 x10_1).f1))).trans T2;(try have bD4:=fun(n_:Nat)=>(show((((U1.drewN n_).setCell ⟨B0,0,none⟩ (.int .i64 ((D0 l0 x10_1).f0))).setCell ⟨B0,1,none⟩ (.int .i64 ((D0 l0 x10_1).f1)))).cell? _=some _ from Z0));(try have bu0:=fun(n_:Nat)=>(show((((U1.drewN n_).setCell ⟨B0,0,none⟩ (.int .i64 ((D0 l0 x10_1).f0))).setCell ⟨B0,1,none⟩ (.int .i64 ((D0 l0 x10_1).f1)))).cell? _=some _ from T2));clear Q5;clear W5;replace F3:=eq_true F3;replace I3:=eq_true I3)))))
     first
      |go_ret
       first
        |exact⟨rf_,bl_⟩
        |exact⟨by first|rfl|(simp [J3,L3]<;>rfl)|(simp only [←hji19];first|rfl|(simp [J3,L3]<;>rfl))|(simp [*,J3,L3]<;>rfl),bl_⟩
      |go_roundg k1
       case measure=>have:=HK1.out;omega
       case rel=>exact⟨(wrap64 (x10_1+1)),sm_,H',⟨by have:=HK1.out;omega⟩,⟨bl_⟩⟩
 rw [if_pos c2] at H
 have c2b0:decide (64<(l0.length:Int))=true:=decide_eq_true c2
 have c2b1:decide (64<l0.length)=true:=decide_eq_true (by omega)
 clear c2
 obtain rfl:=Option.some.inj H
 go_enter Try.func75,Try.ntmps75
 go_wp2
 repeat(go_quiet (fail);try go_wp2)
 go_ret
 exact⟨rf_,bl_⟩
end Go.Proofs.Ytmddmbagehjdeaa.G
end
section
namespace Go.Proofs.Ytmddmbagehjdeaa.G
open Go.RowKit Go.Proofs.YtmddmbagehjdeaaX Go.Proofs.YtmddmbagehjdeaaW.PrintWords Go.Proofs.YtmddmbagehjdeaaW.PrintLast Go.Proofs.YtmddmbagehjdeaaW.PrintMore
attribute [local go_sem] S3 R3 R4 S4 P3 N3 D4 Y3
def q41.l0:Nat→List (S67)→Int→Int→List Int→Int→Int→Int→Int→Option (List Int×List ByteArray×Int)
 |0,_,_,_,_,_,_,_,_=>none
 |k+1,x21,x22,x23,bn0,bV9,bT6,bT3,bT2=>if x23<x22 then(if 0≤x23 then(if x23<(x21.length:Int)then((some (([wrap64 ((wrap64 (((D0 x21 x23).f0) - bV9)) - bT3),wrap64 ((wrap64 (((D0 x21 x23).f1) - bT6)) - bT2)]:List Int):List Int)).bind fun bp4=>(if bn0.length+bp4.length<17592186044416 then((some (bn0++bp4:List Int)).bind fun aJ1=>(if x23>0 then(q41.l0 k x21 x22 (wrap64 (x23+1)) aJ1 ((D0 x21 x23).f0) ((D0 x21 x23).f1) (wrap64 (((D0 x21 x23).f0) - bV9)) (wrap64 (((D0 x21 x23).f1) - bT6)))else(q41.l0 k x21 x22 (wrap64 (x23+1)) aJ1 ((D0 x21 x23).f0) ((D0 x21 x23).f1) bT3 bT2)))else(none)))else(none))else(none))else(some (bn0,([]:List ByteArray),0))
def q41.f (k:Nat) (l0:List (S67)):Option (List Int×List ByteArray×Int):=(q39.f k l0).bind fun bt6=>(if bt6=0 then(q41.l0 k l0 (l0.length:Int) 0 (([(l0.length:Int)]:List Int)) 0 0 0 0)else(some (([]:List Int),([]:List ByteArray),bt6)))
theorem q41.mono_l:∀ k,(∀ y0 y1 y2 y3 y4 y5 y6 y7,LeO (q41.l0 k y0 y1 y2 y3 y4 y5 y6 y7) (q41.l0 (k+1) y0 y1 y2 y3 y4 y5 y6 y7))
 |0=>fun _ _ _ _ _ _ _ _ r h=>by simp [q41.l0] at h
 |k+1=>by
  have ih0:=q41.mono_l k
  ·intro y0 y1 y2 y3 y4 y5 y6 y7
   unfold q41.l0
   repeat' first
   |(with_reducible exact ih0 _ _ _ _ _ _ _ _)
   |(with_reducible exact q39.mono _ _)
   |(with_reducible exact LeO.refl _)
   |(with_reducible exact LeO.none _)
   |(with_reducible refine LeO.ite ?_ ?_)
   |(with_reducible refine LeO.bind ?_ (fun _=>?_))
   |exact ih0 _ _ _ _ _ _ _ _
   |exact q39.mono _ _
   |exact LeO.none _
   |refine LeO.ite ?_ ?_
   |refine LeO.bind ?_ (fun _=>?_)
theorem q41.mono:∀ a0 k,LeO (q41.f k a0) (q41.f (k+1) a0):=by
 intro a0 k
 have ih0:=q41.mono_l k
 unfold q41.f
 repeat' first
   |(with_reducible exact ih0 _ _ _ _ _ _ _ _)
   |(with_reducible exact q39.mono _ _)
   |(with_reducible exact LeO.refl _)
   |(with_reducible exact LeO.none _)
   |(with_reducible refine LeO.ite ?_ ?_)
   |(with_reducible refine LeO.bind ?_ (fun _=>?_))
   |exact ih0 _ _ _ _ _ _ _ _
   |exact q39.mono _ _
   |exact LeO.none _
   |refine LeO.ite ?_ ?_
   |refine LeO.bind ?_ (fun _=>?_)
theorem q41.calls (k:Nat) (A0:Option Addr) (c0:Nat) (l0:List (S67)) (r1:List Int) (r2:List ByteArray) (r3:Int) (w:World) (hr0:Kd.C k67 w A0 l0.length l0) (hc0:l0.length≤c0) (h:q41.f k l0=some (r1,r2,r3)) :
  Calls Try.prog 70 #[.slice A0 l0.length c0] w fun e w'=>∃ v0_ v1_:Value,e=.returned (.tuple #[.agg #[v0_,v1_],.int .i64 r3])∧Kd.R (Kd.int .i64) 3 w' w.heap.size (fun _=>True) v0_ r1∧Kd.R Kd.string 9 w' w.heap.size (fun _=>True) v1_ r2∧Below w.heap.size w w':=by
 have hu98:=Try.underlying98
 have hu67:=Try.underlying67
 have HR0:=q5.mk hr0
 have HC0:=q5.mk hc0
 clear hr0 hc0
 have HB:=q5.mk (Below.refl w.heap.size w)
 have H:((q39.f k l0).bind fun bt6=>(if bt6=0 then(q41.l0 k l0 (l0.length:Int) 0 (([(l0.length:Int)]:List Int)) 0 0 0 0)else(some (([]:List Int),([]:List ByteArray),bt6))))=some (r1,r2,r3):=h
 clear h
 replace H:=N2 H
 obtain⟨bt6,A2,H⟩:=H
 try dsimp only at H
 replace H:=deqn H
 rcases H with⟨c3b0,c3b1,H⟩|⟨c3b0,c3b1,c3,H⟩
 ·obtain⟨bc5,bz3⟩:∃ y_:List Int,y_=(([(l0.length:Int)]:List Int)):=⟨_,rfl⟩
  replace H:(q41.l0 k l0 (l0.length:Int) 0 bc5 0 0 0 0)=some (r1,r2,r3):=by first|(rw [bz3];with_reducible exact H)|(have H2_:=(Option.bind_some _ _).symm.trans H;rw [bz3];with_reducible exact H2_)|(have H2_:=(Option.bind_some _ _).symm.trans H;with_reducible exact H2_)|with_reducible exact H|(rw [bz3];exact H)|exact H
  have cC2:=q5.mk bz3
  clear bz3
  have H':=q5.mk H
  clear H
  go_enter Try.func70,Try.ntmps70
  go_wp2_with (first|((with_reducible refine X0 (N:=2) rfl ?_);refine L2 2 #[.slice none 0 0,.slice none 0 0] 98 ?_;intro G8 hg w4 hbox hb;have n_:=pk4 (E0 bl_ hb) (hbox) ((ge_ hg bl_:w.heap.size≤G8)) ((ge_ hg bl_:w.heap.size≤G8));clear HB;obtain⟨HB,s5,cV5,df7⟩:=n_;clear hb hbox hg)|((with_reducible refine C1 (f:=75) rfl ?_);refine goL_ (some 12) Try.func75 #[.slice A0 l0.length c0] ?_;(with_reducible refine(q39.calls k _ _ l0 bt6 _ ?side1 ?side2 A2.out).mono ?_);(case side1=>exact cb_ HR0);(case side2=>exact HC0.out);rintro e w5 ⟨rfl,hb⟩;refine⟨_,rfl,?_⟩;have n_:=pk2 (F0 (bo_ s5) hb) (E0 bl_ hb);clear s5 HB;obtain⟨s5,HB⟩:=n_;(try clear hb))|((with_reducible refine X0 (N:=19) rfl ?_);refine Kd.R_lit (Kd.int .i64) _ 3 ?hg (N:=19) ?hd (xs:=([(l0.length:Int)]:List Int)) (inner:=[.int .i64 (l0.length:Int)]) (ok:=fun _=>True) (okp:=fun _=>True) ?hr ?hp (fun _ hk=>hk) trivial (Below.refl _ _) (Nat.le_refl _) (by simp) ?_;(case hd=>rfl);(case hg=>rfl);(case hr=>first|(go_simp;done)|(go_simp;rfl));(case hp=>exact(Reps.one (show Kd.M (Kd.int .i64) _ _ _ (l0.length:Int) [.int .i64 (l0.length:Int)] from rfl) (Reps.none _ _)));intro du0 w6 ho7 hb hg_ hnew_;clear hg_ hnew_;(first|rw [←cC2.out] at ho7|(simp only [Int.reduceToNat] at ho7;rw [←cC2.out] at ho7));have n_:=pk3 (Kd.R_lower ho7 (L0 bl_)) (F0 (bo_ s5) hb) (E0 bl_ hb);clear s5 HB;obtain⟨ay7,s5,HB⟩:=n_;clear hb ho7;obtain⟨Ao8,co8,eo8⟩:=Kd.R_slice ay7.out;subst eo8)|((with_reducible refine X0 (N:=5) rfl ?_);refine L2 5 #[.slice none 0 0,.slice none 0 0] 98 ?_;intro d8 hg w9 hbox hb;have n_:=pk8 (Kd.R_below (ro_ ay7) hb) (F0 (bo_ s5) hb) (E0 bl_ hb) (hbox) ((ge_ hg bl_:w.heap.size≤d8)) ((ge_ hg bl_:w.heap.size≤d8)) ((nb_ hg (bo_ s5):G8≠d8)) ((nc_ hg (bo_ s5):d8≠G8));clear ay7 s5 HB;obtain⟨ay7,s5,HB,R5,ds7,dr1,n9,aP0⟩:=n_;clear hb hbox hg;have hnb10:=aP0.out;have hnc10:=n9.out;have hcz11_0:w9.cell? ⟨d8,0,none⟩=some (.slice none 0 0):=(m0 R5.out 0).trans rfl;have hcz11_1:w9.cell? ⟨d8,1,none⟩=some (.slice none 0 0):=(m0 R5.out 1).trans rfl;have hfz11_0:=t0 R5.out 0;have hfz11_1:=t0 R5.out 1)|((with_reducible refine X0 (N:=6) rfl ?_);refine L2 6 #[.int .i64 0,.int .i64 0] 67 ?_;intro M9 hg w12 hbox hb;have n_:=pk11 (Kd.R_below (rt_ ((Kd.R_mono (Kd.R_far (p:=⟨d8,1,none⟩) (Kd.R_far (p:=⟨d8,0,none⟩) (Kd.R_types ay7.out R5.out (by decide)) (fun _ hk=>hk.2) (.slice Ao8 bc5.length co8)) (fun _ hk=>hk.2) (.slice none 0 0)) (fun _ h_=>h_.1)))) hb) (F0 (g:=G8) (o:=.cells #[.slice none 0 0,.slice none 0 0] 98 (0,0)) (by(with_reducible repeat(first|refine G0 ?_ _|refine J0 ?_|refine I0 ?_ _));refine Y0 ?_ n9.out _;(with_reducible repeat(first|refine G0 ?_ _|refine J0 ?_|refine I0 ?_ _));refine Y0 ?_ n9.out _;exact(bo_ s5)) hb) (F0 (g:=d8) (o:=.cells #[.slice Ao8 bc5.length co8,.slice none 0 0] 98 (0,0)) (by(with_reducible repeat(first|refine G0 ?_ _|refine J0 ?_|refine I0 ?_ _));refine D1 (cs:=#[.slice Ao8 bc5.length co8,.slice none 0 0]) ?_ 1 _ rfl;(with_reducible repeat(first|refine G0 ?_ _|refine J0 ?_|refine I0 ?_ _));refine D1 (cs:=#[.slice none 0 0,.slice none 0 0]) ?_ 0 _ rfl;exact(bo_ R5)) hb) (E0 bl_ hb) (hbox) ((ge_ hg bl_:w.heap.size≤M9)) ((ge_ hg bl_:w.heap.size≤M9)) ((by rw [hg];exact Nat.ne_of_lt (U6 (g:=G8) (o:=.cells #[.slice none 0 0,.slice none 0 0] 98 (0,0)) (by(with_reducible repeat(first|refine G0 ?_ _|refine J0 ?_|refine I0 ?_ _));refine Y0 ?_ n9.out _;(with_reducible repeat(first|refine G0 ?_ _|refine J0 ?_|refine I0 ?_ _));refine Y0 ?_ n9.out _;exact(bo_ s5))):G8≠M9)) ((by rw [hg];exact Nat.ne_of_gt (U6 (g:=G8) (o:=.cells #[.slice none 0 0,.slice none 0 0] 98 (0,0)) (by(with_reducible repeat(first|refine G0 ?_ _|refine J0 ?_|refine I0 ?_ _));refine Y0 ?_ n9.out _;(with_reducible repeat(first|refine G0 ?_ _|refine J0 ?_|refine I0 ?_ _));refine Y0 ?_ n9.out _;exact(bo_ s5))):M9≠G8)) ((by rw [hg];exact Nat.ne_of_lt (U6 (g:=d8) (o:=.cells #[.slice Ao8 bc5.length co8,.slice none 0 0] 98 (0,0)) (by(with_reducible repeat(first|refine G0 ?_ _|refine J0 ?_|refine I0 ?_ _));refine D1 (cs:=#[.slice Ao8 bc5.length co8,.slice none 0 0]) ?_ 1 _ rfl;(with_reducible repeat(first|refine G0 ?_ _|refine J0 ?_|refine I0 ?_ _));refine D1 (cs:=#[.slice none 0 0,.slice none 0 0]) ?_ 0 _ rfl;exact(bo_ R5))):d8≠M9)) ((by rw [hg];exact Nat.ne_of_gt (U6 (g:=d8) (o:=.cells #[.slice Ao8 bc5.length co8,.slice none 0 0] 98 (0,0)) (by(with_reducible repeat(first|refine G0 ?_ _|refine J0 ?_|refine I0 ?_ _));refine D1 (cs:=#[.slice Ao8 bc5.length co8,.slice none 0 0]) ?_ 1 _ rfl;(with_reducible repeat(first|refine G0 ?_ _|refine J0 ?_|refine I0 ?_ _));refine D1 (cs:=#[.slice none 0 0,.slice none 0 0]) ?_ 0 _ rfl;exact(bo_ R5))):M9≠d8));clear ay7 s5 R5 HB;obtain⟨ay7,s5,R5,HB,t7,dp1,ds9,ak8,bg2,ak4,aC3⟩:=n_;clear hb hbox hg)|((with_reducible refine X0 (N:=7) rfl ?_);refine L2 7 #[.int .i64 0,.int .i64 0] 67 ?_;intro aa8 hg w13 hbox hb;have n0_:=q5.mk (Kd.R_below (ro_ ay7) hb);have n1_:=q5.mk (F0 (bo_ s5) hb);have n2_:=q5.mk (F0 (bo_ R5) hb);have n3_:=q5.mk (F0 (bo_ t7) hb);have n4_:=q5.mk (E0 bl_ hb);have n5_:=q5.mk (hbox);have n6_:=q5.mk ((ge_ hg bl_:w.heap.size≤aa8));have n7_:=q5.mk ((ge_ hg bl_:w.heap.size≤aa8));have n8_:=q5.mk ((nb_ hg (bo_ s5):G8≠aa8));have n9_:=q5.mk ((nc_ hg (bo_ s5):aa8≠G8));have n10_:=q5.mk ((nb_ hg (bo_ R5):d8≠aa8));have n11_:=q5.mk ((nc_ hg (bo_ R5):aa8≠d8));have n12_:=q5.mk ((nb_ hg (bo_ t7):M9≠aa8));have n13_:=q5.mk ((nc_ hg (bo_ t7):aa8≠M9));clear ay7;clear s5;clear R5;clear t7;clear HB;have ay7:=n0_;have s5:=n1_;have R5:=n2_;have t7:=n3_;have HB:=n4_;have j8:=n5_;have ds3:=n6_;have dt0:=n7_;have aB4:=n8_;have bf6:=n9_;have aC9:=n10_;have aB1:=n11_;have aO5:=n12_;have ap7:=n13_;clear n0_ n1_ n2_ n3_ n4_ n5_ n6_ n7_ n8_ n9_ n10_ n11_ n12_ n13_;clear hb hbox hg))
  go_loopg [23] k (fun kq v23 w'=>∃ (x23_1:Int) (m9:List Int) (P4:Int) (O4:Int) (z6:Int) (d6:Int) (u396000:Value),v23=.int .i64 x23_1∧q5 (q41.l0 kq l0 (l0.length:Int) x23_1 m9 P4 O4 z6 d6=some (r1,r2,r3))∧q5 (kq≤k)∧q5 (Kd.R (Kd.int .i64) 3 w' w.heap.size (fun _=>True) u396000 m9)∧q5 (w'.heap[G8]?=some (.cells #[(.slice none 0 0),(.slice none 0 0)] 98 (0,0)))∧q5 (w'.heap[d8]?=some (.cells #[u396000,(.slice none 0 0)] 98 (0,0)))∧q5 (w'.heap[M9]?=some (.cells #[.int .i64 P4,.int .i64 O4] 67 (0,0)))∧q5 (w'.heap[aa8]?=some (.cells #[.int .i64 z6,.int .i64 d6] 67 (0,0)))∧q5 (Below w.heap.size w w'))
  case atStart=>exact⟨(0),(bc5),(0),(0),(0),(0),(.slice Ao8 bc5.length co8),sm_,H',⟨Nat.le_refl _⟩,⟨(ro_ ay7)⟩,⟨(bo_ s5)⟩,⟨(bo_ R5)⟩,⟨(bo_ t7)⟩,⟨(bo_ j8)⟩,⟨bl_⟩⟩
  case round =>
   clear H'
   try clear c3
   try clear c3b0
   try clear c3b1
   obtain⟨x23_1,m9,P4,O4,z6,d6,u396000,rfl,HA,HK1,HO_396000,s5,R5,t7,j8,HB⟩:=hrel
   cases gk with
   |zero=>exact absurd HA.out (by simp [q41.l0])
   |succ k1 =>
    have H:=HA.out
    clear HA
    simp only [q41.l0] at H
    replace H:=dle H
    rcases H with⟨c14b0,H⟩|⟨c14b0,H⟩
    focus
     replace H:=dle H
     rcases H with⟨c15b0,H⟩|⟨c15b0,H⟩
     rotate_left
     ·exact absurd H (by simp)
     replace H:=dle H
     rcases H with⟨c16b0,H⟩|⟨c16b0,H⟩
     rotate_left
     ·exact absurd H (by simp)
     obtain⟨bp4,by6⟩:∃ y_:List Int,y_=(([wrap64 ((wrap64 (((D0 l0 x23_1).f0) - P4)) - z6),wrap64 ((wrap64 (((D0 l0 x23_1).f1) - O4)) - d6)]:List Int)):=⟨_,rfl⟩
     replace H:(if m9.length+bp4.length<17592186044416 then((some (m9++bp4:List Int)).bind fun aJ1=>(if x23_1>0 then(q41.l0 k1 l0 (l0.length:Int) (wrap64 (x23_1+1)) aJ1 ((D0 l0 x23_1).f0) ((D0 l0 x23_1).f1) (wrap64 (((D0 l0 x23_1).f0) - P4)) (wrap64 (((D0 l0 x23_1).f1) - O4)))else(q41.l0 k1 l0 (l0.length:Int) (wrap64 (x23_1+1)) aJ1 ((D0 l0 x23_1).f0) ((D0 l0 x23_1).f1) z6 d6)))else(none))=some (r1,r2,r3):=by first|(rw [by6];with_reducible exact H)|(have H2_:=(Option.bind_some _ _).symm.trans H;rw [by6];with_reducible exact H2_)|(have H2_:=(Option.bind_some _ _).symm.trans H;with_reducible exact H2_)|with_reducible exact H|(rw [by6];exact H)|exact H
     have cA7:=q5.mk by6
     clear by6
     by_cases c17:m9.length+bp4.length<17592186044416
     rotate_left
     ·rw [if_neg c17] at H
      exact absurd H (by simp)
     rw [if_pos c17] at H
     have LMc17:=q5.mk c17
     clear c17
     obtain⟨aJ1,bw8⟩:∃ y_:List Int,y_=(m9++bp4):=⟨_,rfl⟩
     replace H:(if x23_1>0 then(q41.l0 k1 l0 (l0.length:Int) (wrap64 (x23_1+1)) aJ1 ((D0 l0 x23_1).f0) ((D0 l0 x23_1).f1) (wrap64 (((D0 l0 x23_1).f0) - P4)) (wrap64 (((D0 l0 x23_1).f1) - O4)))else(q41.l0 k1 l0 (l0.length:Int) (wrap64 (x23_1+1)) aJ1 ((D0 l0 x23_1).f0) ((D0 l0 x23_1).f1) z6 d6))=some (r1,r2,r3):=by first|(rw [bw8];with_reducible exact H)|(have H2_:=(Option.bind_some _ _).symm.trans H;rw [bw8];with_reducible exact H2_)|(have H2_:=(Option.bind_some _ _).symm.trans H;with_reducible exact H2_)|with_reducible exact H|(rw [bw8];exact H)|exact H
     have cT8:=q5.mk bw8
     clear bw8
     replace H:=dgt H
     rcases H with⟨c18b0,H⟩|⟨c18b0,H⟩
     focus
      have H':=q5.mk H
      clear H
      have bN1:0≤(x23_1:Int):=dc_
      have bL1:x23_1<(l0.length:Int):=dc_
      obtain⟨dc5,cM4,ar1,au2⟩:=R2 HR0.out x23_1 bN1 bL1
      cases cM4
      replace ar1:=(HB.out.cell (World.block_lt_of_cell? w _ ar1)).trans ar1
      replace au2:=(HB.out.cell (World.block_lt_of_cell? w _ au2)).trans au2
      replace bN1:=eq_true bN1
      replace bL1:=eq_true bL1
     rotate_left
     focus
      have H':=q5.mk H
      clear H
      have bN1:0≤(x23_1:Int):=dc_
      have bL1:x23_1<(l0.length:Int):=dc_
      obtain⟨dc5,cM4,ar1,au2⟩:=R2 HR0.out x23_1 bN1 bL1
      cases cM4
      replace ar1:=(HB.out.cell (World.block_lt_of_cell? w _ ar1)).trans ar1
      replace au2:=(HB.out.cell (World.block_lt_of_cell? w _ au2)).trans au2
      replace bN1:=eq_true bN1
      replace bL1:=eq_true bL1
    rotate_left 2
    focus
     simp only [Option.some.injEq,Prod.mk.injEq] at H
     obtain⟨rfl,rfl,rfl⟩:=H
     have hnb81:=aP0.out
     have hnc81:=n9.out
     have hnb82:=ak4.out
     have hnc82:=aC3.out
     have hnb83:=aC9.out
     have hnc83:=aB1.out
     obtain⟨hcz84_0,hcz84_1,hfz84_0,hfz84_1⟩:=N4 R5.out
     obtain⟨Ao85,co85,eo85⟩:=Kd.R_slice HO_396000.out
     subst eo85
     have hnb86:=ak8.out
     have hnc86:=bg2.out
     have hnb87:=aB4.out
     have hnc87:=bf6.out
     obtain⟨hcz88_0,hcz88_1,hfz88_0,hfz88_1⟩:=N4 s5.out
    all_goals
     go_wp2_with (first|((with_reducible refine X0 (N:=9) rfl ?_);refine L2 9 #[.int .i64 0,.int .i64 0] 67 ?_;intro B0 hg U1 hbox hb;have n0_:=q5.mk (Kd.R_below (ro_ HO_396000) hb);have n1_:=q5.mk (F0 (bo_ s5) hb);have n2_:=q5.mk (F0 (bo_ R5) hb);have n3_:=q5.mk (F0 (bo_ t7) hb);have n4_:=q5.mk (F0 (bo_ j8) hb);have n5_:=q5.mk (E0 bl_ hb);have n6_:=q5.mk (hbox);have n7_:=q5.mk ((ge_ hg bl_:w.heap.size≤B0));have n8_:=q5.mk ((ge_ hg bl_:w.heap.size≤B0));have n9_:=q5.mk ((nb_ hg (bo_ s5):G8≠B0));have n10_:=q5.mk ((nc_ hg (bo_ s5):B0≠G8));have n11_:=q5.mk ((nb_ hg (bo_ R5):d8≠B0));have n12_:=q5.mk ((nc_ hg (bo_ R5):B0≠d8));have n13_:=q5.mk ((nb_ hg (bo_ t7):M9≠B0));have n7000_:=q5.mk ((nc_ hg (bo_ t7):B0≠M9));have n7001_:=q5.mk ((nb_ hg (bo_ j8):aa8≠B0));have n7002_:=q5.mk ((nc_ hg (bo_ j8):B0≠aa8));clear HO_396000;clear s5;clear R5;clear t7;clear j8;clear HB;have HO_396000:=n0_;have s5:=n1_;have R5:=n2_;have t7:=n3_;have j8:=n4_;have HB:=n5_;have o0:=n6_;have C2:=n7_;have F5:=n8_;have ac7:=n9_;have bN9:=n10_;have ac5:=n11_;have bJ2:=n12_;have ac1:=n13_;have bP7:=n7000_;have ac3:=n7001_;have bJ4:=n7002_;clear n0_ n1_ n2_ n3_ n4_ n5_ n6_ n7_ n8_ n9_ n10_ n11_ n12_ n13_ n7000_ n7001_ n7002_;clear hb hbox hg;have V6:=bN9.out;have Z6:=ac7.out;have aT0:=bJ2.out;have aU7:=ac5.out;have aC4:=bP7.out;have aB3:=ac1.out;have bU7:=bJ4.out;have bU2:=ac3.out;have Y2:U1.cell? ⟨B0,0,none⟩=some (.int .i64 0):=(m0 o0.out 0).trans rfl;have z3:U1.cell? ⟨B0,1,none⟩=some (.int .i64 0):=(m0 o0.out 1).trans rfl;have D3:=t0 o0.out 0;have Z2:=t0 o0.out 1;have bS6:=bg2.out;have bW7:=ak8.out;have bV1:=aC3.out;have bT0:=ak4.out;have cu6:=aO5.out;have cv8:=ap7.out;have z4:U1.cell? ⟨M9,0,none⟩=some (.int .i64 P4):=(m0 t7.out 0).trans rfl;have C4:U1.cell? ⟨M9,1,none⟩=some (.int .i64 O4):=(m0 t7.out 1).trans rfl;have j4:=t0 t7.out 0;have Z3:=t0 t7.out 1)|((with_reducible refine X0 (N:=10) rfl ?_);refine L2 10 #[.int .i64 0,.int .i64 0] 67 ?_;intro S0 hg Z1 hbox hb;have n0_:=q5.mk (Kd.R_below (rt_ ((Kd.R_mono (Kd.R_far (p:=⟨B0,1,none⟩) (Kd.R_far (p:=⟨B0,0,none⟩) (Kd.R_types HO_396000.out o0.out (by decide)) (fun _ hk=>hk.2) (.int .i64 ((D0 l0 x23_1).f0))) (fun _ hk=>hk.2) (.int .i64 ((D0 l0 x23_1).f1))) (fun _ h_=>h_.1)))) hb);have n1_:=q5.mk (F0 (g:=G8) (o:=.cells #[.slice none 0 0,.slice none 0 0] 98 (0,0)) (by(with_reducible repeat(first|refine G0 ?_ _|refine J0 ?_|refine I0 ?_ _));refine Y0 ?_ ac7.out _;(with_reducible repeat(first|refine G0 ?_ _|refine J0 ?_|refine I0 ?_ _));refine Y0 ?_ ac7.out _;exact(bo_ s5)) hb);have n2_:=q5.mk (F0 (g:=d8) (o:=.cells #[u396000,.slice none 0 0] 98 (0,0)) (by(with_reducible repeat(first|refine G0 ?_ _|refine J0 ?_|refine I0 ?_ _));refine Y0 ?_ ac5.out _;(with_reducible repeat(first|refine G0 ?_ _|refine J0 ?_|refine I0 ?_ _));refine Y0 ?_ ac5.out _;exact(bo_ R5)) hb);have n3_:=q5.mk (F0 (g:=M9) (o:=.cells #[.int .i64 P4,.int .i64 O4] 67 (0,0)) (by(with_reducible repeat(first|refine G0 ?_ _|refine J0 ?_|refine I0 ?_ _));refine Y0 ?_ ac1.out _;(with_reducible repeat(first|refine G0 ?_ _|refine J0 ?_|refine I0 ?_ _));refine Y0 ?_ ac1.out _;exact(bo_ t7)) hb);have n4_:=q5.mk (F0 (g:=aa8) (o:=.cells #[.int .i64 z6,.int .i64 d6] 67 (0,0)) (by(with_reducible repeat(first|refine G0 ?_ _|refine J0 ?_|refine I0 ?_ _));refine Y0 ?_ ac3.out _;(with_reducible repeat(first|refine G0 ?_ _|refine J0 ?_|refine I0 ?_ _));refine Y0 ?_ ac3.out _;exact(bo_ j8)) hb);have n5_:=q5.mk (F0 (g:=B0) (o:=.cells #[.int .i64 ((D0 l0 x23_1).f0),.int .i64 ((D0 l0 x23_1).f1)] 67 (0,0)) (by(with_reducible repeat(first|refine G0 ?_ _|refine J0 ?_|refine I0 ?_ _));refine D1 (cs:=#[.int .i64 ((D0 l0 x23_1).f0),.int .i64 0]) ?_ 1 _ rfl;(with_reducible repeat(first|refine G0 ?_ _|refine J0 ?_|refine I0 ?_ _));refine D1 (cs:=#[.int .i64 0,.int .i64 0]) ?_ 0 _ rfl;exact(bo_ o0)) hb);have n6_:=q5.mk (E0 bl_ hb);have n7_:=q5.mk (hbox);have n8_:=q5.mk ((ge_ hg bl_:w.heap.size≤S0));have n9_:=q5.mk ((ge_ hg bl_:w.heap.size≤S0));have n10_:=q5.mk ((by rw [hg];exact Nat.ne_of_lt (U6 (g:=G8) (o:=.cells #[.slice none 0 0,.slice none 0 0] 98 (0,0)) (by(with_reducible repeat(first|refine G0 ?_ _|refine J0 ?_|refine I0 ?_ _));refine Y0 ?_ ac7.out _;(with_reducible repeat(first|refine G0 ?_ _|refine J0 ?_|refine I0 ?_ _));refine Y0 ?_ ac7.out _;exact(bo_ s5))):G8≠S0));have n11_:=q5.mk ((by rw [hg];exact Nat.ne_of_gt (U6 (g:=G8) (o:=.cells #[.slice none 0 0,.slice none 0 0] 98 (0,0)) (by(with_reducible repeat(first|refine G0 ?_ _|refine J0 ?_|refine I0 ?_ _));refine Y0 ?_ ac7.out _;(with_reducible repeat(first|refine G0 ?_ _|refine J0 ?_|refine I0 ?_ _));refine Y0 ?_ ac7.out _;exact(bo_ s5))):S0≠G8));have n12_:=q5.mk ((by rw [hg];exact Nat.ne_of_lt (U6 (g:=d8) (o:=.cells #[u396000,.slice none 0 0] 98 (0,0)) (by(with_reducible repeat(first|refine G0 ?_ _|refine J0 ?_|refine I0 ?_ _));refine Y0 ?_ ac5.out _;(with_reducible repeat(first|refine G0 ?_ _|refine J0 ?_|refine I0 ?_ _));refine Y0 ?_ ac5.out _;exact(bo_ R5))):d8≠S0));have n13_:=q5.mk ((by rw [hg];exact Nat.ne_of_gt (U6 (g:=d8) (o:=.cells #[u396000,.slice none 0 0] 98 (0,0)) (by(with_reducible repeat(first|refine G0 ?_ _|refine J0 ?_|refine I0 ?_ _));refine Y0 ?_ ac5.out _;(with_reducible repeat(first|refine G0 ?_ _|refine J0 ?_|refine I0 ?_ _));refine Y0 ?_ ac5.out _;exact(bo_ R5))):S0≠d8));have n7000_:=q5.mk ((by rw [hg];exact Nat.ne_of_lt (U6 (g:=M9) (o:=.cells #[.int .i64 P4,.int .i64 O4] 67 (0,0)) (by(with_reducible repeat(first|refine G0 ?_ _|refine J0 ?_|refine I0 ?_ _));refine Y0 ?_ ac1.out _;(with_reducible repeat(first|refine G0 ?_ _|refine J0 ?_|refine I0 ?_ _));refine Y0 ?_ ac1.out _;exact(bo_ t7))):M9≠S0));have n7001_:=q5.mk ((by rw [hg];exact Nat.ne_of_gt (U6 (g:=M9) (o:=.cells #[.int .i64 P4,.int .i64 O4] 67 (0,0)) (by(with_reducible repeat(first|refine G0 ?_ _|refine J0 ?_|refine I0 ?_ _));refine Y0 ?_ ac1.out _;(with_reducible repeat(first|refine G0 ?_ _|refine J0 ?_|refine I0 ?_ _));refine Y0 ?_ ac1.out _;exact(bo_ t7))):S0≠M9));have n7002_:=q5.mk ((by rw [hg];exact Nat.ne_of_lt (U6 (g:=aa8) (o:=.cells #[.int .i64 z6,.int .i64 d6] 67 (0,0)) (by(with_reducible repeat(first|refine G0 ?_ _|refine J0 ?_|refine I0 ?_ _));refine Y0 ?_ ac3.out _;(with_reducible repeat(first|refine G0 ?_ _|refine J0 ?_|refine I0 ?_ _));refine Y0 ?_ ac3.out _;exact(bo_ j8))):aa8≠S0));have n7003_:=q5.mk ((by rw [hg];exact Nat.ne_of_gt (U6 (g:=aa8) (o:=.cells #[.int .i64 z6,.int .i64 d6] 67 (0,0)) (by(with_reducible repeat(first|refine G0 ?_ _|refine J0 ?_|refine I0 ?_ _));refine Y0 ?_ ac3.out _;(with_reducible repeat(first|refine G0 ?_ _|refine J0 ?_|refine I0 ?_ _));refine Y0 ?_ ac3.out _;exact(bo_ j8))):S0≠aa8));have n7004_:=q5.mk ((by rw [hg];exact Nat.ne_of_lt (U6 (g:=B0) (o:=.cells #[.int .i64 ((D0 l0 x23_1).f0),.int .i64 ((D0 l0 x23_1).f1)] 67 (0,0)) (by(with_reducible repeat(first|refine G0 ?_ _|refine J0 ?_|refine I0 ?_ _));refine D1 (cs:=#[.int .i64 ((D0 l0 x23_1).f0),.int .i64 0]) ?_ 1 _ rfl;(with_reducible repeat(first|refine G0 ?_ _|refine J0 ?_|refine I0 ?_ _));refine D1 (cs:=#[.int .i64 0,.int .i64 0]) ?_ 0 _ rfl;exact(bo_ o0))):B0≠S0));have n7005_:=q5.mk ((by rw [hg];exact Nat.ne_of_gt (U6 (g:=B0) (o:=.cells #[.int .i64 ((D0 l0 x23_1).f0),.int .i64 ((D0 l0 x23_1).f1)] 67 (0,0)) (by(with_reducible repeat(first|refine G0 ?_ _|refine J0 ?_|refine I0 ?_ _));refine D1 (cs:=#[.int .i64 ((D0 l0 x23_1).f0),.int .i64 0]) ?_ 1 _ rfl;(with_reducible repeat(first|refine G0 ?_ _|refine J0 ?_|refine I0 ?_ _));refine D1 (cs:=#[.int .i64 0,.int .i64 0]) ?_ 0 _ rfl;exact(bo_ o0))):S0≠B0));clear HO_396000;clear s5;clear R5;clear t7;clear j8;clear o0;clear HB;have HO_396000:=n0_;have s5:=n1_;have R5:=n2_;have t7:=n3_;have j8:=n4_;have o0:=n5_;have HB:=n6_;have O0:=n7_;have V9:=n8_;have W9:=n9_;have aH1:=n10_;have bR2:=n11_;have aG6:=n12_;have bJ3:=n13_;have aF1:=n7000_;have bP5:=n7001_;have aI1:=n7002_;have bQ0:=n7003_;have Q1:=n7004_;have F1:=n7005_;clear n0_ n1_ n2_ n3_ n4_ n5_ n6_ n7_ n8_ n9_ n10_ n11_ n12_ n13_ n7000_ n7001_ n7002_ n7003_ n7004_ n7005_;clear hb hbox hg;have ct2:=bR2.out;have cy8:=aH1.out;have dh5:=bJ3.out;have dg6:=aG6.out;have dg9:=bP5.out;have dh9:=aF1.out;have di0:=bQ0.out;have dh8:=aI1.out;have dg8:=F1.out;have dg1:=Q1.out;have W8:Z1.cell? ⟨S0,0,none⟩=some (.int .i64 0):=(m0 O0.out 0).trans rfl;have j9:Z1.cell? ⟨S0,1,none⟩=some (.int .i64 0):=(m0 O0.out 1).trans rfl;have d9:=t0 O0.out 0;have Y8:=t0 O0.out 1;have dg4:=aP0.out;have dh0:=n9.out;have dh4:=aC9.out;have dg3:=aB1.out;have ad9:Z1.cell? ⟨d8,0,none⟩=some (u396000):=(m0 R5.out 0).trans rfl;have ac9:Z1.cell? ⟨d8,1,none⟩=some (.slice none 0 0):=(m0 R5.out 1).trans rfl;have ad5:=t0 R5.out 0;have ad3:=t0 R5.out 1;have dg7:=bf6.out;have dg0:=aB4.out;have aC0:Z1.cell? ⟨aa8,0,none⟩=some (.int .i64 z6):=(m0 j8.out 0).trans rfl;have aB9:Z1.cell? ⟨aa8,1,none⟩=some (.int .i64 d6):=(m0 j8.out 1).trans rfl;have aB5:=t0 j8.out 0;have aC2:=t0 j8.out 1)|((with_reducible refine X0 (N:=51) rfl ?_);refine Kd.R_lit (Kd.int .i64) _ 3 ?hg (N:=51) ?hd (xs:=([wrap64 ((wrap64 (((D0 l0 x23_1).f0) - P4)) - z6),wrap64 ((wrap64 (((D0 l0 x23_1).f1) - O4)) - d6)]:List Int)) (inner:=[.int .i64 (wrap64 ((wrap64 (((D0 l0 x23_1).f0) - P4)) - z6)),.int .i64 (wrap64 ((wrap64 (((D0 l0 x23_1).f1) - O4)) - d6))]) (ok:=fun _=>True) (okp:=fun _=>True) ?hr ?hp (fun _ hk=>hk) trivial (Below.refl _ _) (Nat.le_refl _) (by simp) ?_;(case hd=>rfl);(case hg=>rfl);(case hr=>first|(go_simp;done)|(go_simp;rfl));(case hp=>exact(Reps.one (show Kd.M (Kd.int .i64) _ _ _ (wrap64 ((wrap64 (((D0 l0 x23_1).f0) - P4)) - z6)) [.int .i64 (wrap64 ((wrap64 (((D0 l0 x23_1).f0) - P4)) - z6))] from rfl) (Reps.one (show Kd.M (Kd.int .i64) _ _ _ (wrap64 ((wrap64 (((D0 l0 x23_1).f1) - O4)) - d6)) [.int .i64 (wrap64 ((wrap64 (((D0 l0 x23_1).f1) - O4)) - d6))] from rfl) (Reps.none _ _))));intro M4 F2 M0 hb hg_ hnew_;clear hg_ hnew_;(first|rw [←cA7.out] at M0|(simp only [Int.reduceToNat] at M0;rw [←cA7.out] at M0));have n_:=pk9 (Kd.R_elder' (rt_ ((Kd.R_mono (Kd.R_far (p:=⟨S0,1,none⟩) (Kd.R_far (p:=⟨S0,0,none⟩) (Kd.R_types HO_396000.out O0.out (by decide)) (fun _ hk=>hk.2) (.int .i64 (wrap64 (((D0 l0 x23_1).f0) - P4)))) (fun _ hk=>hk.2) (.int .i64 (wrap64 (((D0 l0 x23_1).f1) - O4)))) (fun _ h_=>h_.1)))) (Kd.R_base M0) hb) (Kd.R_lower (Kd.R_new' M0 (Kd.R_lt (rt_ ((Kd.R_mono (Kd.R_far (p:=⟨S0,1,none⟩) (Kd.R_far (p:=⟨S0,0,none⟩) (Kd.R_types HO_396000.out O0.out (by decide)) (fun _ hk=>hk.2) (.int .i64 (wrap64 (((D0 l0 x23_1).f0) - P4)))) (fun _ hk=>hk.2) (.int .i64 (wrap64 (((D0 l0 x23_1).f1) - O4)))) (fun _ h_=>h_.1)))))) (L0 bl_)) (F0 (g:=G8) (o:=.cells #[.slice none 0 0,.slice none 0 0] 98 (0,0)) (by(with_reducible repeat(first|refine G0 ?_ _|refine J0 ?_|refine I0 ?_ _));refine Y0 ?_ aH1.out _;(with_reducible repeat(first|refine G0 ?_ _|refine J0 ?_|refine I0 ?_ _));refine Y0 ?_ aH1.out _;exact(bo_ s5)) hb) (F0 (g:=d8) (o:=.cells #[u396000,.slice none 0 0] 98 (0,0)) (by(with_reducible repeat(first|refine G0 ?_ _|refine J0 ?_|refine I0 ?_ _));refine Y0 ?_ aG6.out _;(with_reducible repeat(first|refine G0 ?_ _|refine J0 ?_|refine I0 ?_ _));refine Y0 ?_ aG6.out _;exact(bo_ R5)) hb) (F0 (g:=M9) (o:=.cells #[.int .i64 P4,.int .i64 O4] 67 (0,0)) (by(with_reducible repeat(first|refine G0 ?_ _|refine J0 ?_|refine I0 ?_ _));refine Y0 ?_ aF1.out _;(with_reducible repeat(first|refine G0 ?_ _|refine J0 ?_|refine I0 ?_ _));refine Y0 ?_ aF1.out _;exact(bo_ t7)) hb) (F0 (g:=aa8) (o:=.cells #[.int .i64 z6,.int .i64 d6] 67 (0,0)) (by(with_reducible repeat(first|refine G0 ?_ _|refine J0 ?_|refine I0 ?_ _));refine Y0 ?_ aI1.out _;(with_reducible repeat(first|refine G0 ?_ _|refine J0 ?_|refine I0 ?_ _));refine Y0 ?_ aI1.out _;exact(bo_ j8)) hb) (F0 (g:=B0) (o:=.cells #[.int .i64 ((D0 l0 x23_1).f0),.int .i64 ((D0 l0 x23_1).f1)] 67 (0,0)) (by(with_reducible repeat(first|refine G0 ?_ _|refine J0 ?_|refine I0 ?_ _));refine Y0 ?_ Q1.out _;(with_reducible repeat(first|refine G0 ?_ _|refine J0 ?_|refine I0 ?_ _));refine Y0 ?_ Q1.out _;exact(bo_ o0)) hb) (F0 (g:=S0) (o:=.cells #[.int .i64 (wrap64 (((D0 l0 x23_1).f0) - P4)),.int .i64 (wrap64 (((D0 l0 x23_1).f1) - O4))] 67 (0,0)) (by(with_reducible repeat(first|refine G0 ?_ _|refine J0 ?_|refine I0 ?_ _));refine D1 (cs:=#[.int .i64 (wrap64 (((D0 l0 x23_1).f0) - P4)),.int .i64 0]) ?_ 1 _ rfl;(with_reducible repeat(first|refine G0 ?_ _|refine J0 ?_|refine I0 ?_ _));refine D1 (cs:=#[.int .i64 0,.int .i64 0]) ?_ 0 _ rfl;exact(bo_ O0)) hb) (E0 bl_ hb);clear HO_396000 s5 R5 t7 j8 o0 O0 HB;obtain⟨HO_396000,C0,s5,R5,t7,j8,o0,O0,HB⟩:=n_;clear hb M0;obtain⟨T0,R0,S1⟩:=Kd.R_slice C0.out;subst S1)|((with_reducible refine G1 (b:=.append) (xs:=#[.tmp 40,.tmp 51]) rfl ?_);at_builtin;refine Kd.R_append_rows (Kd.int .i64) (w0:=w) w.heap.size rfl (.tmp 40) (.tmp 51) 22 3 (.int .i64 0) 8 rfl Try.underlying22 ae7 rfl (by decide) (by omega) u396000 m9 bp4 _ _ _ (fun k_=>some k_≠(.slice T0 bp4.length R0:Value).ownBlock) (fun _=>False) rfl rfl ?aO ?aR (fun _ _ h=>h) (fun _ h=>h.elim) ?aF ?aB ?aS ?aL ?_;(case aR=>exact cr_ C0);(case aB=>exact bl_);(case aF=>exact(fun k_ hk=>Kd.fresh' (Kd.R_lt (ro_ C0)) k_ hk));(case aO=>exact(rt_ (Kd.R_mono HO_396000.out (fun _ hk=>hk.2))));(case aS=>exact(L0 bl_));(case aL=>have:=LMc17.out;omega);intro z5 X2 ho hb hg hat;rw [←cT8.out] at ho;have n_:=pk9 (D5 (bo_ s5) hg (Kd.R_ne HO_396000.out s5.out (by decide))) (D5 (bo_ R5) hg (Kd.R_ne HO_396000.out R5.out (by decide))) (D5 (bo_ t7) hg (Kd.R_ne HO_396000.out t7.out (by decide))) (D5 (bo_ j8) hg (Kd.R_ne HO_396000.out j8.out (by decide))) (D5 (bo_ o0) hg (Kd.R_ne HO_396000.out o0.out (by decide))) (D5 (bo_ O0) hg (Kd.R_ne HO_396000.out O0.out (by decide))) (Kd.R_after (ok:=(fun _=>True)) (ro_ C0) hg hat) (hb) (ho);clear s5 R5 t7 j8 o0 O0 C0 HB HO_396000;obtain⟨s5,R5,t7,j8,o0,O0,C0,HB,Q0⟩:=n_;clear ho hb hg hat;obtain⟨X1,V1,U2⟩:=Kd.R_slice Q0.out;subst U2;have ce5:X2.cell? ⟨d8,0,none⟩=some (u396000):=(m0 R5.out 0).trans rfl;have ce8:X2.cell? ⟨d8,1,none⟩=some (.slice none 0 0):=(m0 R5.out 1).trans rfl;have ca2:=t0 R5.out 0;have cc7:=t0 R5.out 1;have cQ8:X2.cell? ⟨B0,0,none⟩=some (.int .i64 ((D0 l0 x23_1).f0)):=(m0 o0.out 0).trans rfl;have cQ2:X2.cell? ⟨B0,1,none⟩=some (.int .i64 ((D0 l0 x23_1).f1)):=(m0 o0.out 1).trans rfl;have cQ4:=t0 o0.out 0;have cR8:=t0 o0.out 1;have cP6:X2.cell? ⟨M9,0,none⟩=some (.int .i64 P4):=(m0 t7.out 0).trans rfl;have cP8:X2.cell? ⟨M9,1,none⟩=some (.int .i64 O4):=(m0 t7.out 1).trans rfl;have cQ3:=t0 t7.out 0;have cS3:=t0 t7.out 1;(try(have cQ9:X2.cell? ⟨S0,0,none⟩=some (.int .i64 (wrap64 (((D0 l0 x23_1).f0) - P4))):=(m0 O0.out 0).trans rfl;have cR4:X2.cell? ⟨S0,1,none⟩=some (.int .i64 (wrap64 (((D0 l0 x23_1).f1) - O4))):=(m0 O0.out 1).trans rfl;have cR9:=t0 O0.out 0;have cS6:=t0 O0.out 1;have cS0:X2.cell? ⟨aa8,0,none⟩=some (.int .i64 z6):=(m0 j8.out 0).trans rfl;have cS8:X2.cell? ⟨aa8,1,none⟩=some (.int .i64 d6):=(m0 j8.out 1).trans rfl;have cS4:=t0 j8.out 0;have cR6:=t0 j8.out 1))))
     first
      |go_roundg k1
       case measure=>have:=HK1.out;omega
       first
        |case rel=>exact⟨(wrap64 (x23_1+1)),(aJ1),((D0 l0 x23_1).f0),((D0 l0 x23_1).f1),(wrap64 (((D0 l0 x23_1).f0) - P4)),(wrap64 (((D0 l0 x23_1).f1) - O4)),(.slice X1 aJ1.length V1),sm_,H',⟨by have:=HK1.out;omega⟩,⟨(rt_ (Kd.R_mono (Kd.R_far (p:=⟨aa8,1,none⟩) (Kd.R_far (p:=⟨aa8,0,none⟩) (Kd.R_far (p:=⟨M9,1,none⟩) (Kd.R_far (p:=⟨M9,0,none⟩) (Kd.R_far (p:=⟨d8,0,none⟩) (Kd.R_types (Kd.R_types (Kd.R_types Q0.out R5.out (by decide)) t7.out (by decide)) j8.out (by decide)) (fun _ hk=>hk.1.1.2) (.slice X1 aJ1.length V1)) (fun _ hk=>hk.1.2) (.int .i64 ((D0 l0 x23_1).f0))) (fun _ hk=>hk.1.2) (.int .i64 ((D0 l0 x23_1).f1))) (fun _ hk=>hk.2) (.int .i64 (wrap64 (((D0 l0 x23_1).f0) - P4)))) (fun _ hk=>hk.2) (.int .i64 (wrap64 (((D0 l0 x23_1).f1) - O4)))) (fun _ hk=>trivial)))⟩,⟨by(with_reducible repeat(first|refine G0 ?_ _|refine J0 ?_|refine I0 ?_ _));refine Y0 ?_ aB4.out _;(with_reducible repeat(first|refine G0 ?_ _|refine J0 ?_|refine I0 ?_ _));refine Y0 ?_ aB4.out _;(with_reducible repeat(first|refine G0 ?_ _|refine J0 ?_|refine I0 ?_ _));refine Y0 ?_ ak8.out _;(with_reducible repeat(first|refine G0 ?_ _|refine J0 ?_|refine I0 ?_ _));refine Y0 ?_ ak8.out _;(with_reducible repeat(first|refine G0 ?_ _|refine J0 ?_|refine I0 ?_ _));refine Y0 ?_ n9.out _;exact(bo_ s5)⟩,⟨by(with_reducible repeat(first|refine G0 ?_ _|refine J0 ?_|refine I0 ?_ _));refine Y0 ?_ aC9.out _;(with_reducible repeat(first|refine G0 ?_ _|refine J0 ?_|refine I0 ?_ _));refine Y0 ?_ aC9.out _;(with_reducible repeat(first|refine G0 ?_ _|refine J0 ?_|refine I0 ?_ _));refine Y0 ?_ ak4.out _;(with_reducible repeat(first|refine G0 ?_ _|refine J0 ?_|refine I0 ?_ _));refine Y0 ?_ ak4.out _;(with_reducible repeat(first|refine G0 ?_ _|refine J0 ?_|refine I0 ?_ _));refine D1 (cs:=#[u396000,.slice none 0 0]) ?_ 0 _ rfl;exact(bo_ R5)⟩,⟨by(with_reducible repeat(first|refine G0 ?_ _|refine J0 ?_|refine I0 ?_ _));refine Y0 ?_ aO5.out _;(with_reducible repeat(first|refine G0 ?_ _|refine J0 ?_|refine I0 ?_ _));refine Y0 ?_ aO5.out _;(with_reducible repeat(first|refine G0 ?_ _|refine J0 ?_|refine I0 ?_ _));refine D1 (cs:=#[.int .i64 ((D0 l0 x23_1).f0),.int .i64 O4]) ?_ 1 _ rfl;(with_reducible repeat(first|refine G0 ?_ _|refine J0 ?_|refine I0 ?_ _));refine D1 (cs:=#[.int .i64 P4,.int .i64 O4]) ?_ 0 _ rfl;(with_reducible repeat(first|refine G0 ?_ _|refine J0 ?_|refine I0 ?_ _));refine Y0 ?_ aC3.out _;exact(bo_ t7)⟩,⟨by(with_reducible repeat(first|refine G0 ?_ _|refine J0 ?_|refine I0 ?_ _));refine D1 (cs:=#[.int .i64 (wrap64 (((D0 l0 x23_1).f0) - P4)),.int .i64 d6]) ?_ 1 _ rfl;(with_reducible repeat(first|refine G0 ?_ _|refine J0 ?_|refine I0 ?_ _));refine D1 (cs:=#[.int .i64 z6,.int .i64 d6]) ?_ 0 _ rfl;(with_reducible repeat(first|refine G0 ?_ _|refine J0 ?_|refine I0 ?_ _));refine Y0 ?_ ap7.out _;(with_reducible repeat(first|refine G0 ?_ _|refine J0 ?_|refine I0 ?_ _));refine Y0 ?_ ap7.out _;(with_reducible repeat(first|refine G0 ?_ _|refine J0 ?_|refine I0 ?_ _));refine Y0 ?_ aB1.out _;exact(bo_ j8)⟩,⟨bl_⟩⟩
        |case rel=>exact⟨(wrap64 (x23_1+1)),(aJ1),((D0 l0 x23_1).f0),((D0 l0 x23_1).f1),(z6),(d6),(.slice X1 aJ1.length V1),sm_,H',⟨by have:=HK1.out;omega⟩,⟨(rt_ (Kd.R_mono (Kd.R_far (p:=⟨M9,1,none⟩) (Kd.R_far (p:=⟨M9,0,none⟩) (Kd.R_far (p:=⟨d8,0,none⟩) (Kd.R_types (Kd.R_types Q0.out R5.out (by decide)) t7.out (by decide)) (fun _ hk=>hk.1.2) (.slice X1 aJ1.length V1)) (fun _ hk=>hk.2) (.int .i64 ((D0 l0 x23_1).f0))) (fun _ hk=>hk.2) (.int .i64 ((D0 l0 x23_1).f1))) (fun _ hk=>trivial)))⟩,⟨by(with_reducible repeat(first|refine G0 ?_ _|refine J0 ?_|refine I0 ?_ _));refine Y0 ?_ ak8.out _;(with_reducible repeat(first|refine G0 ?_ _|refine J0 ?_|refine I0 ?_ _));refine Y0 ?_ ak8.out _;(with_reducible repeat(first|refine G0 ?_ _|refine J0 ?_|refine I0 ?_ _));refine Y0 ?_ n9.out _;exact(bo_ s5)⟩,⟨by(with_reducible repeat(first|refine G0 ?_ _|refine J0 ?_|refine I0 ?_ _));refine Y0 ?_ ak4.out _;(with_reducible repeat(first|refine G0 ?_ _|refine J0 ?_|refine I0 ?_ _));refine Y0 ?_ ak4.out _;(with_reducible repeat(first|refine G0 ?_ _|refine J0 ?_|refine I0 ?_ _));refine D1 (cs:=#[u396000,.slice none 0 0]) ?_ 0 _ rfl;exact(bo_ R5)⟩,⟨by(with_reducible repeat(first|refine G0 ?_ _|refine J0 ?_|refine I0 ?_ _));refine D1 (cs:=#[.int .i64 ((D0 l0 x23_1).f0),.int .i64 O4]) ?_ 1 _ rfl;(with_reducible repeat(first|refine G0 ?_ _|refine J0 ?_|refine I0 ?_ _));refine D1 (cs:=#[.int .i64 P4,.int .i64 O4]) ?_ 0 _ rfl;(with_reducible repeat(first|refine G0 ?_ _|refine J0 ?_|refine I0 ?_ _));refine Y0 ?_ aC3.out _;exact(bo_ t7)⟩,⟨by(with_reducible repeat(first|refine G0 ?_ _|refine J0 ?_|refine I0 ?_ _));refine Y0 ?_ ap7.out _;(with_reducible repeat(first|refine G0 ?_ _|refine J0 ?_|refine I0 ?_ _));refine Y0 ?_ ap7.out _;(with_reducible repeat(first|refine G0 ?_ _|refine J0 ?_|refine I0 ?_ _));refine Y0 ?_ aB1.out _;exact(bo_ j8)⟩,⟨bl_⟩⟩
      |refine bodyPost_ret (N5 rfl _ _ G8 98 #[.slice Ao85 m9.length co85,.slice none 0 0] (0,0) _ rfl (by(with_reducible repeat(first|refine G0 ?_ _|refine J0 ?_|refine I0 ?_ _));refine D1 (cs:=#[.slice Ao85 m9.length co85,.slice none 0 0]) ?_ 1 _ rfl;(with_reducible repeat(first|refine G0 ?_ _|refine J0 ?_|refine I0 ?_ _));refine D1 (cs:=#[.slice none 0 0,.slice none 0 0]) ?_ 0 _ rfl;exact(bo_ s5)) Try.underlying98 rfl (by kernel_rfl)) rfl ?_
       exact⟨_,_,rf_,(rt_ (Kd.R_mono (Kd.R_far (p:=⟨G8,1,none⟩) (Kd.R_far (p:=⟨G8,0,none⟩) (Kd.R_types HO_396000.out s5.out (by decide)) (fun _ hk=>hk.2) (.slice Ao85 m9.length co85)) (fun _ hk=>hk.2) (.slice none 0 0)) (fun _ hk=>trivial))),nl_,bl_⟩
 simp only [Option.some.injEq,Prod.mk.injEq] at H
 obtain⟨rfl,rfl,rfl⟩:=H
 go_enter Try.func70,Try.ntmps70
 go_wp2_with (first|((with_reducible refine X0 (N:=2) rfl ?_);refine L2 2 #[.slice none 0 0,.slice none 0 0] 98 ?_;intro G8 hg ap8 hbox hb;have n_:=pk4 (E0 bl_ hb) (hbox) ((ge_ hg bl_:w.heap.size≤G8)) ((ge_ hg bl_:w.heap.size≤G8));clear HB;obtain⟨HB,s5,cV5,df7⟩:=n_;clear hb hbox hg)|((with_reducible refine C1 (f:=75) rfl ?_);refine goL_ (some 12) Try.func75 #[.slice A0 l0.length c0] ?_;(with_reducible refine(q39.calls k _ _ l0 bt6 _ ?side1 ?side2 A2.out).mono ?_);(case side1=>exact cb_ HR0);(case side2=>exact HC0.out);rintro e av3 ⟨rfl,hb⟩;refine⟨_,rfl,?_⟩;have n_:=pk2 (F0 (bo_ s5) hb) (E0 bl_ hb);clear s5 HB;obtain⟨s5,HB⟩:=n_;(try clear hb);have cb6:av3.cell? ⟨G8,0,none⟩=some (.slice none 0 0):=(m0 s5.out 0).trans rfl;have cc2:av3.cell? ⟨G8,1,none⟩=some (.slice none 0 0):=(m0 s5.out 1).trans rfl;have ce9:=t0 s5.out 0;have cd4:=t0 s5.out 1))
 refine bodyPost_ret (N5 rfl _ _ G8 98 #[.slice none 0 0,.slice none 0 0] (0,0) _ rfl (by(with_reducible repeat(first|refine G0 ?_ _|refine J0 ?_|refine I0 ?_ _));refine D1 (cs:=#[.slice none 0 0,.slice none 0 0]) ?_ 1 _ rfl;(with_reducible repeat(first|refine G0 ?_ _|refine J0 ?_|refine I0 ?_ _));refine D1 (cs:=#[.slice none 0 0,.slice none 0 0]) ?_ 0 _ rfl;exact(bo_ s5)) Try.underlying98 rfl (by kernel_rfl)) rfl ?_
 exact⟨_,_,rf_,nl_,nl_,bl_⟩
def q31.l0:Nat→List Int→Int→Int→Option (Int)
 |0,_,_,_=>none
 |k+1,x0,x1,x5=>if x5<16 then(if(wrap64 ((wrap64 (x1+(wrap64 (2*x5))))+1))<(x0.length:Int)then(if 0≤(wrap64 (x1+(wrap64 (2*x5))))then(if(wrap64 (x1+(wrap64 (2*x5))))<(x0.length:Int)then(if(rd x0 (wrap64 (x1+(wrap64 (2*x5)))))=0 then(if 0≤(wrap64 ((wrap64 (x1+(wrap64 (2*x5))))+1))then(if(rd x0 (wrap64 ((wrap64 (x1+(wrap64 (2*x5))))+1)))=0 then(q31.l0 k x0 x1 (wrap64 (x5+1)))else(some x5))else(none))else(some x5))else(none))else(none))else(some x5))else(some x5)
def q31.f (k:Nat) (l0:List Int) (a1:Int):Option (Int):=q31.l0 k l0 a1 0
theorem q31.mono_l:∀ k,(∀ y0 y1 y2,LeO (q31.l0 k y0 y1 y2) (q31.l0 (k+1) y0 y1 y2))
 |0=>fun _ _ _ r h=>by simp [q31.l0] at h
 |k+1=>by
  have ih0:=q31.mono_l k
  ·intro y0 y1 y2
   unfold q31.l0
   repeat' first
   |(with_reducible exact ih0 _ _ _)
   |(with_reducible exact LeO.refl _)
   |(with_reducible exact LeO.none _)
   |(with_reducible refine LeO.ite ?_ ?_)
   |(with_reducible refine LeO.bind ?_ (fun _=>?_))
   |exact ih0 _ _ _
   |exact LeO.none _
   |refine LeO.ite ?_ ?_
   |refine LeO.bind ?_ (fun _=>?_)
theorem q31.mono:∀ a0 a1 k,LeO (q31.f k a0 a1) (q31.f (k+1) a0 a1):=by
 intro a0 a1 k
 have ih0:=q31.mono_l k
 unfold q31.f
 repeat' first
   |(with_reducible exact ih0 _ _ _)
   |(with_reducible exact LeO.refl _)
   |(with_reducible exact LeO.none _)
   |(with_reducible refine LeO.ite ?_ ?_)
   |(with_reducible refine LeO.bind ?_ (fun _=>?_))
   |exact ih0 _ _ _
   |exact LeO.none _
   |refine LeO.ite ?_ ?_
   |refine LeO.bind ?_ (fun _=>?_)
theorem q31.calls (k:Nat) (A0:Option Addr) (c0:Nat) (l0:List Int) (a1:Int) (r:Int) (w:World) (hr0:Kd.C (Kd.int .i64) w A0 l0.length l0) (hc0:l0.length≤c0) (h:q31.f k l0 a1=some r) :
  Calls Try.prog 84 #[.slice A0 l0.length c0,.int .i64 a1] w fun e w'=>e=.returned (.int .i64 r)∧L1 w w':=by
 have HR0:=q5.mk hr0
 have HC0:=q5.mk hc0
 clear hr0 hc0
 have H:(q31.l0 k l0 a1 0)=some r:=h
 clear h
 have H':=q5.mk H
 clear H
 go_enter Try.func84,Try.ntmps84
 go_wp2
 go_loopg [5] k (fun kq v5 w'=>∃ (x5_1:Int),v5=.int .i64 x5_1∧q5 (q31.l0 kq l0 a1 x5_1=some r)∧q5 (kq≤k)∧L1 w w')
 case atStart=>exact⟨(0),sm_,H',⟨Nat.le_refl _⟩,by repeat(first|exact L1.refl _|apply L1.step)⟩
 case round =>
  clear H'
  obtain⟨x5_1,rfl,HA,HK1,⟨m1,rfl⟩⟩:=hrel
  cases gk with
  |zero=>exact absurd HA.out (by simp [q31.l0])
  |succ k1 =>
   have H:=HA.out
   clear HA
   simp only [q31.l0] at H
   replace H:=dle H
   rcases H with⟨c3b0,H⟩|⟨c3b0,H⟩
   focus
    replace H:=dle H
    rcases H with⟨c4b0,H⟩|⟨c4b0,H⟩
    focus
     obtain⟨ji5,hji5⟩:∃ j_:Int,(wrap64 (a1+(wrap64 (2*x5_1))))=j_:=⟨_,rfl⟩
     (try rw [hji5] at c4b0)
     replace H:(if 0≤(ji5)then(if(ji5)<(l0.length:Int)then(if(rd l0 (ji5))=0 then(if 0≤(wrap64 ((ji5)+1))then(if(rd l0 (wrap64 ((ji5)+1)))=0 then(q31.l0 k1 l0 a1 (wrap64 (x5_1+1)))else(some x5_1))else(none))else(some x5_1))else(none))else(none))=some r:=by first|(rw [hji5] at H;exact H)|(simp only [hji5] at H ⊢;exact H)
     (try rw [hji5] at c4b0)
     have hji5w:(IntKind.i64.wrap (a1+(wrap64 (2*x5_1))))=ji5:=(N0 _).trans hji5
     replace H:=dle H
     rcases H with⟨c6b0,H⟩|⟨c6b0,H⟩
     rotate_left
     ·exact absurd H (by simp)
     replace H:=dle H
     rcases H with⟨c7b0,H⟩|⟨c7b0,H⟩
     rotate_left
     ·exact absurd H (by simp)
     replace H:=deqn H
     rcases H with⟨c8b0,c8b1,H⟩|⟨c8b0,c8b1,c8,H⟩
     focus
      obtain⟨ji9,hji9⟩:∃ j_:Int,(wrap64 ((ji5)+1))=j_:=⟨_,rfl⟩
      (try rw [hji9] at c4b0)
      replace H:(if 0≤(ji9)then(if(rd l0 (ji9))=0 then(q31.l0 k1 l0 a1 (wrap64 (x5_1+1)))else(some x5_1))else(none))=some r:=by first|(rw [hji9] at H;exact H)|(simp only [hji9] at H ⊢;exact H)
      have hji9w:(IntKind.i64.wrap ((ji5)+1))=ji9:=(N0 _).trans hji9
      replace H:=dle H
      rcases H with⟨c10b0,H⟩|⟨c10b0,H⟩
      rotate_left
      ·exact absurd H (by simp)
      replace H:=deqn H
      rcases H with⟨c11b0,c11b1,H⟩|⟨c11b0,c11b1,c11,H⟩
      focus
       have H':=q5.mk H
       clear H
       have aZ2:0≤((ji5):Int):=dc_
       have ba7:(ji5)<(l0.length:Int):=dc_
       obtain⟨bU8,ci2,bU3⟩:=Kd.at_int HR0.out (ji5) aZ2 ba7
       cases ci2
       replace aZ2:=eq_true aZ2
       replace ba7:=eq_true ba7
       have bH8:0≤((ji9):Int):=dc_
       have bS1:(ji9)<(l0.length:Int):=dc_
       obtain⟨cs5,cI0,cz7⟩:=Kd.at_int HR0.out (ji9) bH8 bS1
       obtain rfl:bU8=cs5:=(by injection cI0)
       replace bH8:=eq_true bH8
       replace bS1:=eq_true bS1
      rotate_left
      focus
       obtain rfl:=Option.some.inj H
       have aZ2:0≤((ji5):Int):=dc_
       have ba7:(ji5)<(l0.length:Int):=dc_
       obtain⟨bU8,ci2,bU3⟩:=Kd.at_int HR0.out (ji5) aZ2 ba7
       cases ci2
       replace aZ2:=eq_true aZ2
       replace ba7:=eq_true ba7
       have bH8:0≤((ji9):Int):=dc_
       have bS1:(ji9)<(l0.length:Int):=dc_
       obtain⟨cs5,cI0,cz7⟩:=Kd.at_int HR0.out (ji9) bH8 bS1
       obtain rfl:bU8=cs5:=(by injection cI0)
       replace bH8:=eq_true bH8
       replace bS1:=eq_true bS1
     rotate_left 2
     focus
      obtain rfl:=Option.some.inj H
      have aZ2:0≤((ji5):Int):=dc_
      have ba7:(ji5)<(l0.length:Int):=dc_
      obtain⟨bU8,ci2,bU3⟩:=Kd.at_int HR0.out (ji5) aZ2 ba7
      cases ci2
      replace aZ2:=eq_true aZ2
      replace ba7:=eq_true ba7
    rotate_left 3
    focus
     obtain rfl:=Option.some.inj H
   rotate_left 4
   focus
    obtain rfl:=Option.some.inj H
   all_goals
    go_wp2
    first
     |go_roundg k1
      case measure=>have:=HK1.out;omega
      case rel=>exact⟨(wrap64 (x5_1+1)),sm_,H',⟨by have:=HK1.out;omega⟩,by repeat(first|exact L1.refl _|apply L1.step)⟩
     |go_ret
      first
       |exact⟨by first|rfl|(simp;done)|(simp only [←hji5,←hji9]<;>(first|rfl|simp))|(simp [*];done),by repeat(first|exact L1.refl _|apply L1.step)⟩
       |exact⟨by first|rfl|(simp;done)|(simp only [←hji5]<;>(first|rfl|simp))|(simp [*];done),by repeat(first|exact L1.refl _|apply L1.step)⟩
       |exact⟨by first|rfl|(simp;done)|(simp [*];done),by repeat(first|exact L1.refl _|apply L1.step)⟩
end Go.Proofs.Ytmddmbagehjdeaa.G
end
