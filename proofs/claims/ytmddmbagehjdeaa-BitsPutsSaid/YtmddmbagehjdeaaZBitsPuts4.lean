/- More lines for the row. -/
import Derived.Test.YtmddmbagehjdeaaZBitsPuts3
import Derived.Test.YtmddmbagehjdeaaHLenW
set_option linter.unusedVariables false
set_option linter.unusedSimpArgs false
section
namespace Go.Proofs.Ytmddmbagehjdeaa.G
open Go Go.RowKit Go.Proofs.YtmddmbagehjdeaaW.PrintWords Go.Proofs.YtmddmbagehjdeaaW.PrintLast Go.Proofs.YtmddmbagehjdeaaW.PrintMore
def bits_Len64.f (a0 : Int) : Option Int := if 0 ≤ a0 ∧ a0 ≤ 18446744073709551615 then some (Lib.bitLen a0.toNat) else none
theorem bits_Len64.calls (a0 : Int) (r : Int) (w : World) (h : bits_Len64.f a0 = some r) :
    Calls Try.prog 69 #[.int .u64 a0] w fun e w' => e = .returned (.int .i64 r) ∧ Drawn0 w w' := by
  unfold bits_Len64.f at h
  split at h
  · rename_i hc
    obtain rfl := Option.some.inj h
    exact (len64_any a0 w hc.1 hc.2).mono fun e w' ⟨he, hw⟩ => ⟨he, ⟨0, hw⟩⟩
  · cases h
end Go.Proofs.Ytmddmbagehjdeaa.G
end
section
namespace Go.Proofs.YtmddmbagehjdeaaX
open Go Go.RowKit Go.Proofs.YtmddmbagehjdeaaW.PrintWords Go.Proofs.YtmddmbagehjdeaaW.PrintLast Go.Proofs.YtmddmbagehjdeaaW.PrintMore
theorem ap_ : type_of% @Act.put.eq_1 := @Act.put.eq_1
theorem sb_ : type_of% @List.setIfInBounds_toArray := @List.setIfInBounds_toArray
theorem s0_ : type_of% @List.set_cons_zero := @List.set_cons_zero
theorem s1_ : type_of% @List.set_cons_succ := @List.set_cons_succ
end Go.Proofs.YtmddmbagehjdeaaX
end
section
namespace Go.Proofs.Ytmddmbagehjdeaa.G
open Go.RowKit Go.Proofs.YtmddmbagehjdeaaX Go.Proofs.YtmddmbagehjdeaaW.PrintWords Go.Proofs.YtmddmbagehjdeaaW.PrintLast Go.Proofs.YtmddmbagehjdeaaW.PrintMore
attribute [local go_sem] max2_int min2_int max_two min_two max_three min_three max_four min_four
def bits_Class.l0 : Nat → Int → Int → Option (Int)
  | 0, _, _ => none
  | k + 1, x0, x3 => if x3 < 4 then ((bits_fold.f x0).bind fun t101 => ((bits_Len64.f t101).bind fun t102 => ((bits_width.f x3).bind fun t103 => (if t102 > t103 then (bits_Class.l0 k x0 (wrap64 (x3 + 1))) else (some x3))))) else (some x3)
def bits_Class.f (k : Nat) (a0 : Int) : Option (Int) := bits_Class.l0 k a0 0
theorem bits_Class.mono_l : ∀ k, (∀ y0 y1, LeO (bits_Class.l0 k y0 y1) (bits_Class.l0 (k + 1) y0 y1))
  | 0 => fun _ _ r h => by simp [bits_Class.l0] at h
  | k + 1 => by
    have ih0 := bits_Class.mono_l k
    · intro y0 y1
      unfold bits_Class.l0
      repeat' first
      | (with_reducible exact ih0 _ _)
      | (with_reducible exact LeO.refl _)
      | (with_reducible exact LeO.none _)
      | (with_reducible refine LeO.ite ?_ ?_)
      | (with_reducible refine LeO.bind ?_ (fun _ => ?_))
      | exact ih0 _ _
      | exact LeO.none _
      | refine LeO.ite ?_ ?_
      | refine LeO.bind ?_ (fun _ => ?_)
theorem bits_Class.mono : ∀ a0 k, LeO (bits_Class.f k a0) (bits_Class.f (k + 1) a0) := by
  intro a0 k
  have ih0 := bits_Class.mono_l k
  unfold bits_Class.f
  repeat' first
      | (with_reducible exact ih0 _ _)
      | (with_reducible exact LeO.refl _)
      | (with_reducible exact LeO.none _)
      | (with_reducible refine LeO.ite ?_ ?_)
      | (with_reducible refine LeO.bind ?_ (fun _ => ?_))
      | exact ih0 _ _
      | exact LeO.none _
      | refine LeO.ite ?_ ?_
      | refine LeO.bind ?_ (fun _ => ?_)
set_option maxHeartbeats 8000000 in
set_option maxRecDepth 100000 in
theorem bits_Class.calls (k : Nat) (a0 : Int) (r : Int) (w : World) (h : bits_Class.f k a0 = some r) :
    Calls Try.prog 33 #[.int .i64 a0] w fun e w' => e = .returned (.int .i64 r) ∧ Drawn0 w w' := by
  have H : (bits_Class.l0 k a0 0) = some r := h
  clear h
  have H' := Aside0.mk H
  clear H
  go_enter Try.func33, Try.ntmps33
  go_wp2
  go_loopg [3] k (fun kq v3 w' => ∃ (x3_1 : Int), v3 = .int .i64 x3_1 ∧ Aside0 (bits_Class.l0 kq a0 x3_1 = some r) ∧ Aside0 (kq ≤ k) ∧ Drawn0 w w')
  case atStart => exact ⟨(0), sm_, H', ⟨Nat.le_refl _⟩, by repeat (first | exact Drawn0.refl _ | apply Drawn0.step)⟩
  case round =>
    clear H'
    obtain ⟨x3_1, rfl, HA, HK1, ⟨m1, rfl⟩⟩ := hrel
    cases gk with
    | zero => exact absurd HA.out (by simp [bits_Class.l0])
    | succ k1 =>
      have H := HA.out
      clear HA
      simp only [bits_Class.l0] at H
      replace H := dle H
      rcases H with ⟨c2b0, H⟩ | ⟨c2b0, H⟩
      focus
        replace H := bindA H
        obtain ⟨t101, A3, H⟩ := H
        try dsimp only at H
        replace H := bindA H
        obtain ⟨t102, A4, H⟩ := H
        try dsimp only at H
        replace H := bindA H
        obtain ⟨t103, A5, H⟩ := H
        try dsimp only at H
        replace H := dgt H
        rcases H with ⟨c6b0, H⟩ | ⟨c6b0, H⟩
        focus
          have H' := Aside0.mk H
          clear H
        rotate_left
        focus
          obtain rfl := Option.some.inj H
      rotate_left 2
      focus
        obtain rfl := Option.some.inj H
      all_goals
        go_wp2_with (first | (go_at_call 62; (with_reducible refine (bits_fold.calls a0 t101 _ A3.out).mono ?_); rintro e w' ⟨rfl, ⟨nd, rfl⟩⟩) | (go_at_call 69; (with_reducible refine (bits_Len64.calls t101 t102 _ A4.out).mono ?_); rintro e w' ⟨rfl, ⟨nd, rfl⟩⟩) | (go_at_call 63; (with_reducible refine (bits_width.calls x3_1 t103 _ A5.out).mono ?_); rintro e w' ⟨rfl, ⟨nd, rfl⟩⟩))
        first
          | go_roundg k1
            case measure => have := HK1.out; omega
            case rel => exact ⟨(wrap64 (x3_1 + 1)), sm_, H', ⟨by have := HK1.out; omega⟩, by repeat (first | exact Drawn0.refl _ | apply Drawn0.step)⟩
          | go_ret
            exact ⟨by first | rfl | (simp; done) | (simp [*]; done), by repeat (first | exact Drawn0.refl _ | apply Drawn0.step)⟩
def bits_lead.f (a0 : Int) : Option (Int × Int) := if a0 = 4 then (some (15, 4)) else (if 0 ≤ (wrap64 (a0 + 1)) then (some (IntKind.u64.wrap ((shl .u64 1 (wrap64 (a0 + 1))) - 2), wrap64 (a0 + 1))) else (none))
set_option maxHeartbeats 8000000 in
set_option maxRecDepth 100000 in
theorem bits_lead.calls (a0 : Int) (r1 : Int) (r2 : Int) (w : World) (h : bits_lead.f a0 = some (r1, r2)) :
    Calls Try.prog 60 #[.int .i64 a0] w fun e w' => e = .returned (.tuple #[.int .u64 r1, .int .i64 r2]) ∧ Drawn0 w w' := by
  have H : (if a0 = 4 then (some (15, 4)) else (if 0 ≤ (wrap64 (a0 + 1)) then (some (IntKind.u64.wrap ((shl .u64 1 (wrap64 (a0 + 1))) - 2), wrap64 (a0 + 1))) else (none))) = some (r1, r2) := h
  clear h
  replace H := deqn H
  rcases H with ⟨c2b0, c2b1, H⟩ | ⟨c2b0, c2b1, c2, H⟩
  focus
    simp only [Option.some.injEq, Prod.mk.injEq] at H
    obtain ⟨rfl, rfl⟩ := H
  rotate_left
  focus
    obtain ⟨ji3, hji3⟩ : ∃ j_ : Int, (wrap64 (a0 + 1)) = j_ := ⟨_, rfl⟩
    replace H : (if 0 ≤ (ji3) then (some (IntKind.u64.wrap ((shl .u64 1 (ji3)) - 2), ji3)) else (none)) = some (r1, r2) := by first | (rw [hji3] at H; exact H) | (simp only [hji3] at H ⊢; exact H)
    have hji3w : (IntKind.i64.wrap (a0 + 1)) = ji3 := (i64_w _).trans hji3
    by_cases c4 : 0 ≤ (ji3)
    rotate_left
    · rw [if_neg c4] at H
      exact absurd H (by simp)
    rw [if_pos c4] at H
    have c4b0 := eq_true c4
    have c4b1 : decide (0 ≤ (ji3)) = true := decide_eq_true c4
    clear c4
    obtain ⟨ji5, hji5⟩ : ∃ j_ : Int, (shl .u64 1 (ji3)) = j_ := ⟨_, rfl⟩
    replace H : (some (IntKind.u64.wrap ((ji5) - 2), ji3)) = some (r1, r2) := by first | (rw [hji5] at H; exact H) | (simp only [hji5] at H ⊢; exact H)
    have hji5_ : (IntKind.u64.wrap (1 * 2 ^ min (ji3).toNat 64)) = ji5 := hji5
    have hji5z : (ji3) ≤ 64 → (IntKind.u64.wrap (1 * 2 ^ (ji3).toNat)) = ji5 := shl_small hji5
    have hji5u : (IntKind.u64.wrap (2 ^ min (ji3).toNat 64)) = ji5 := by have h_ := hji5_; rw [Int.one_mul] at h_; exact h_
    have hji5v : (ji3) ≤ 64 → (IntKind.u64.wrap (2 ^ (ji3).toNat)) = ji5 := fun hle_ => by have h_ := hji5z hle_; rw [Int.one_mul] at h_; exact h_
    simp only [Option.some.injEq, Prod.mk.injEq] at H
    obtain ⟨rfl, rfl⟩ := H
  all_goals
    go_enter Try.func60, Try.ntmps60
    go_wp2
    go_ret2
    first
      | exact ⟨by first | rfl | (simp; done) | (simp [*]; done), by repeat (first | exact Drawn0.refl _ | apply Drawn0.step)⟩
      | exact ⟨by first | rfl | (simp; done) | (simp only [← hji3, ← hji5] <;> (first | rfl | simp)) | (simp [*]; done), by repeat (first | exact Drawn0.refl _ | apply Drawn0.step)⟩
def bits_Size.f (k : Nat) (a0 : Int) : Option (Int) := (bits_Class.f k a0).bind fun t104 => ((bits_lead.f t104).bind fun bt105 => ((bits_width.f t104).bind fun t107 => (some (wrap64 (bt105.2 + t107)))))
theorem bits_Size.mono : ∀ a0 k, LeO (bits_Size.f k a0) (bits_Size.f (k + 1) a0) := by
  intro a0 k
  unfold bits_Size.f
  repeat' first
      | (with_reducible exact bits_Class.mono _ _)
      | (with_reducible exact LeO.refl _)
      | (with_reducible exact LeO.none _)
      | (with_reducible refine LeO.ite ?_ ?_)
      | (with_reducible refine LeO.bind ?_ (fun _ => ?_))
      | exact bits_Class.mono _ _
      | exact LeO.none _
      | refine LeO.ite ?_ ?_
      | refine LeO.bind ?_ (fun _ => ?_)
set_option maxHeartbeats 8000000 in
set_option maxRecDepth 100000 in
theorem bits_Size.calls (k : Nat) (a0 : Int) (r : Int) (w : World) (h : bits_Size.f k a0 = some r) :
    Calls Try.prog 16 #[.int .i64 a0] w fun e w' => e = .returned (.int .i64 r) ∧ Drawn0 w w' := by
  have H : ((bits_Class.f k a0).bind fun t104 => ((bits_lead.f t104).bind fun bt105 => ((bits_width.f t104).bind fun t107 => (some (wrap64 (bt105.2 + t107)))))) = some r := h
  clear h
  replace H := bindA H
  obtain ⟨t104, A2, H⟩ := H
  try dsimp only at H
  replace H := bindA H
  obtain ⟨⟨t105, t106⟩, A3, H⟩ := H
  try dsimp only at H
  replace H := bindA H
  obtain ⟨t107, A4, H⟩ := H
  try dsimp only at H
  obtain rfl := Option.some.inj H
  go_enter Try.func16, Try.ntmps16
  go_wp2_with (first | ((with_reducible refine gate_callee (f := 33) rfl ?_); refine goL_ (some 7) Try.func33 #[.int .i64 a0] ?_; (with_reducible refine (bits_Class.calls k a0 t104 _ A2.out).mono ?_); rintro e w' ⟨rfl, ⟨nd, rfl⟩⟩; refine ⟨_, rfl, ?_⟩) | ((with_reducible refine gate_callee (f := 60) rfl ?_); refine goL_ (some 10) Try.func60 #[.int .i64 t104] ?_; (with_reducible refine (bits_lead.calls t104 t105 t106 _ A3.out).mono ?_); rintro e w' ⟨rfl, ⟨nd, rfl⟩⟩; refine ⟨_, rfl, ?_⟩) | ((with_reducible refine gate_callee (f := 63) rfl ?_); refine goL_ (some 15) Try.func63 #[.int .i64 t104] ?_; (with_reducible refine (bits_width.calls t104 t107 _ A4.out).mono ?_); rintro e w' ⟨rfl, ⟨nd, rfl⟩⟩; refine ⟨_, rfl, ?_⟩))
  go_ret
  exact ⟨by first | rfl | (simp; done) | (simp [*]; done), by repeat (first | exact Drawn0.refl _ | apply Drawn0.step)⟩
def bits_bytes.f (a0 : Int) : Option (Int) := some (wrap64 (Int.tdiv (wrap64 (a0 + 7)) 8))
set_option maxHeartbeats 8000000 in
set_option maxRecDepth 100000 in
theorem bits_bytes.calls (a0 : Int) (r : Int) (w : World) (h : bits_bytes.f a0 = some r) :
    Calls Try.prog 82 #[.int .i64 a0] w fun e w' => e = .returned (.int .i64 r) ∧ Drawn0 w w' := by
  have H : (some (wrap64 (Int.tdiv (wrap64 (a0 + 7)) 8))) = some r := h
  clear h
  obtain rfl := Option.some.inj H
  go_enter Try.func82, Try.ntmps82
  go_wp2
  go_ret
  exact ⟨by first | rfl | (simp; done) | (simp [*]; done), by repeat (first | exact Drawn0.refl _ | apply Drawn0.step)⟩
def bits_Check.j0 : Nat → Bool → List Int → Int → Option (Int)
  | 0, _, _, _ => none
  | k + 1, x20, x109000, x109001 => if x20 = true then (some 1) else (if (Int.tmod x109001 8) > 0 then (if 0 ≤ (wrap64 ((x109000.length : Int) - 1)) then (if (wrap64 ((x109000.length : Int) - 1)) < (x109000.length : Int) then (if 0 ≤ (Int.tmod x109001 8) then (if (shl .u8 (rd x109000 (wrap64 ((x109000.length : Int) - 1))) (Int.tmod x109001 8)) = 0 then (some 0) else (some 1)) else (none)) else (none)) else (none)) else (some 0))
def bits_Check.f (k : Nat) (l0_0 : List Int) (a0_1 : Int) : Option (Int) := if a0_1 < 0 then (bits_Check.j0 k true l0_0 a0_1) else (if a0_1 > 131072 then (bits_Check.j0 k true l0_0 a0_1) else ((bits_bytes.f a0_1).bind fun t109 => (bits_Check.j0 k ((l0_0.length : Int) != t109) l0_0 a0_1)))
theorem bits_Check.mono_l : ∀ k, (∀ y0 y1 y2, LeO (bits_Check.j0 k y0 y1 y2) (bits_Check.j0 (k + 1) y0 y1 y2))
  | 0 => fun _ _ _ r h => by simp [bits_Check.j0] at h
  | k + 1 => by
    have ih0 := bits_Check.mono_l k
    · intro y0 y1 y2
      unfold bits_Check.j0
      repeat' first
      | (with_reducible exact ih0 _ _ _)
      | (with_reducible exact LeO.refl _)
      | (with_reducible exact LeO.none _)
      | (with_reducible refine LeO.ite ?_ ?_)
      | (with_reducible refine LeO.bind ?_ (fun _ => ?_))
      | exact ih0 _ _ _
      | exact LeO.none _
      | refine LeO.ite ?_ ?_
      | refine LeO.bind ?_ (fun _ => ?_)
theorem bits_Check.mono : ∀ a0 a1 k, LeO (bits_Check.f k a0 a1) (bits_Check.f (k + 1) a0 a1) := by
  intro a0 a1 k
  have ih0 := bits_Check.mono_l k
  unfold bits_Check.f
  repeat' first
      | (with_reducible exact ih0 _ _ _)
      | (with_reducible exact LeO.refl _)
      | (with_reducible exact LeO.none _)
      | (with_reducible refine LeO.ite ?_ ?_)
      | (with_reducible refine LeO.bind ?_ (fun _ => ?_))
      | exact ih0 _ _ _
      | exact LeO.none _
      | refine LeO.ite ?_ ?_
      | refine LeO.bind ?_ (fun _ => ?_)
set_option maxHeartbeats 8000000 in
set_option maxRecDepth 100000 in
theorem bits_Check.calls (k : Nat) (A0_0 : Option Addr) (c0_0 : Nat) (l0_0 : List Int) (a0_1 : Int) (r : Int) (w : World) (hr0_0 : Kd.C (Kd.int .u8) w A0_0 l0_0.length l0_0) (hc0_0 : l0_0.length ≤ c0_0) (h : bits_Check.f k l0_0 a0_1 = some r) :
    Calls Try.prog 58 #[.agg #[.slice A0_0 l0_0.length c0_0, .int .i64 a0_1]] w fun e w' => e = .returned (.int .i64 r) ∧ Below w.heap.size w w' := by
  have hu25 := Try.underlying25
  have HR0_0 := Aside0.mk hr0_0
  have HC0_0 := Aside0.mk hc0_0
  clear hr0_0 hc0_0
  have HB := Aside0.mk (Below.refl w.heap.size w)
  have H : (if a0_1 < 0 then (bits_Check.j0 k true l0_0 a0_1) else (if a0_1 > 131072 then (bits_Check.j0 k true l0_0 a0_1) else ((bits_bytes.f a0_1).bind fun t109 => (bits_Check.j0 k ((l0_0.length : Int) != t109) l0_0 a0_1)))) = some r := h
  clear h
  have HC2 := Aside0.mk H
  clear H
  go_enter Try.func58, Try.ntmps58
  go_upto_region 1 with (first | ((with_reducible refine gate_dst (N := 1) rfl ?_); (try (refine gate_guard (by rfl) ?_; dsimp only)); refine box_ev 1 #[.slice A0_0 l0_0.length c0_0, .int .i64 a0_1] 25 ?_; intro gb108 hg w3 hbox hb; have n_ := pk4 (below_step bl_ hb) (hbox) ((ge_ hg bl_ : w.heap.size ≤ gb108)) ((ge_ hg bl_ : w.heap.size ≤ gb108)); clear HB; obtain ⟨HB, BK108, GW108, GE108⟩ := n_; clear hb hbox hg))
  repeat (go_quiet (first | ((with_reducible refine gate_dst (N := 1) rfl ?_); (try (refine gate_guard (by rfl) ?_; dsimp only)); refine box_ev 1 #[.slice A0_0 l0_0.length c0_0, .int .i64 a0_1] 25 ?_; intro gb108 hg w3 hbox hb; have n_ := pk4 (below_step bl_ hb) (hbox) ((ge_ hg bl_ : w.heap.size ≤ gb108)) ((ge_ hg bl_ : w.heap.size ≤ gb108)); clear HB; obtain ⟨HB, BK108, GW108, GE108⟩ := n_; clear hb hbox hg)); go_upto_region 1 with (first | ((with_reducible refine gate_dst (N := 1) rfl ?_); (try (refine gate_guard (by rfl) ?_; dsimp only)); refine box_ev 1 #[.slice A0_0 l0_0.length c0_0, .int .i64 a0_1] 25 ?_; intro gb108 hg w3 hbox hb; have n_ := pk4 (below_step bl_ hb) (hbox) ((ge_ hg bl_ : w.heap.size ≤ gb108)) ((ge_ hg bl_ : w.heap.size ≤ gb108)); clear HB; obtain ⟨HB, BK108, GW108, GE108⟩ := n_; clear hb hbox hg)))
  (try simp only [ap_, sb_, s0_, s1_])
  go_cut [20] (fun v20 wc => ∃ (kq : Nat) (x20_1 : Bool), v20 = .bool x20_1 ∧ Aside0 (bits_Check.j0 kq x20_1 l0_0 a0_1 = some r) ∧ Aside0 (kq ≤ k) ∧ Aside0 (wc.heap[gb108]? = some (.cells #[(.slice A0_0 l0_0.length c0_0), .int .i64 a0_1] 25 (0, 0))) ∧ Aside0 (Below w.heap.size w wc))
  case first =>
    have H := HC2.out
    clear HC2
    replace H := dle H
    rcases H with ⟨c4b0, H⟩ | ⟨c4b0, H⟩
    focus
      (first | rw [c4b0] | (simp only [i64_w, i32_w]; rw [c4b0]) | skip)
      have H' := Aside0.mk H
      clear H
      obtain ⟨hcz5_0, hcz5_1, hfz5_0, hfz5_1⟩ := blk_at2 BK108.out
    rotate_left
    focus
      (first | rw [c4b0] | (simp only [i64_w, i32_w]; rw [c4b0]) | skip)
      replace H := dgt H
      rcases H with ⟨c6b0, H⟩ | ⟨c6b0, H⟩
      focus
        have H' := Aside0.mk H
        clear H
        obtain ⟨hcz7_0, hcz7_1, hfz7_0, hfz7_1⟩ := blk_at2 BK108.out
      rotate_left
      focus
        replace H := bindA H
        obtain ⟨t109, A8, H⟩ := H
        try dsimp only at H
        have H' := Aside0.mk H
        clear H
        obtain ⟨hcz9_0, hcz9_1, hfz9_0, hfz9_1⟩ := blk_at2 BK108.out
    all_goals
      go_wp2_with (first | (go_at_call 82; (with_reducible refine (bits_bytes.calls a0_1 t109 _ A8.out).mono ?_); rintro e w' ⟨rfl, ⟨nd, rfl⟩⟩; (try first | exact ⟨rfl, _, World.drewN_drewN _ _ _⟩ | exact ⟨rfl, _, Eq.trans (World.drewN_drewN _ _ _) (congrArg (World.drewN _) (Nat.add_assoc _ _ _))⟩)))
      repeat (go_quiet (first | (go_at_call 82; (with_reducible refine (bits_bytes.calls a0_1 t109 _ A8.out).mono ?_); rintro e w' ⟨rfl, ⟨nd, rfl⟩⟩; (try first | exact ⟨rfl, _, World.drewN_drewN _ _ _⟩ | exact ⟨rfl, _, Eq.trans (World.drewN_drewN _ _ _) (congrArg (World.drewN _) (Nat.add_assoc _ _ _))⟩))); try go_wp2_with (first | (go_at_call 82; (with_reducible refine (bits_bytes.calls a0_1 t109 _ A8.out).mono ?_); rintro e w' ⟨rfl, ⟨nd, rfl⟩⟩; (try first | exact ⟨rfl, _, World.drewN_drewN _ _ _⟩ | exact ⟨rfl, _, Eq.trans (World.drewN_drewN _ _ _) (congrArg (World.drewN _) (Nat.add_assoc _ _ _))⟩))))
      go_meet
      first
        | case rel => exact ⟨_, (true), sm_, H', ⟨om_⟩, ⟨(bo_ BK108)⟩, ⟨bl_⟩⟩
        | case rel => exact ⟨_, (((l0_0.length : Int) != t109)), sm_, H', ⟨om_⟩, ⟨(bo_ BK108)⟩, ⟨bl_⟩⟩
  case rest =>
    clear HC2
    obtain ⟨kq, x20_1, rfl, HA, HJ1, BK108, HB⟩ := hcut
    cases kq with
    | zero => exact absurd HA.out (by simp [bits_Check.j0])
    | succ kj1 =>
      have H := HA.out
      clear HA
      simp only [bits_Check.j0] at H
      replace H := dbool H
      rcases H with ⟨rfl, H⟩ | ⟨rfl, H⟩
      focus
        obtain rfl := Option.some.inj H
      rotate_left
      focus
        replace H := dgt H
        rcases H with ⟨c11b0, H⟩ | ⟨c11b0, H⟩
        focus
          obtain ⟨ji12, hji12⟩ : ∃ j_ : Int, (wrap64 ((l0_0.length : Int) - 1)) = j_ := ⟨_, rfl⟩
          replace H : (if 0 ≤ (ji12) then (if (ji12) < (l0_0.length : Int) then (if 0 ≤ (Int.tmod a0_1 8) then (if (shl .u8 (rd l0_0 (ji12)) (Int.tmod a0_1 8)) = 0 then (some 0) else (some 1)) else (none)) else (none)) else (none)) = some r := by first | (rw [hji12] at H; exact H) | (simp only [hji12] at H ⊢; exact H)
          have hji12w : (IntKind.i64.wrap ((l0_0.length : Int) - 1)) = ji12 := (i64_w _).trans hji12
          replace H := dle H
          rcases H with ⟨c13b0, H⟩ | ⟨c13b0, H⟩
          rotate_left
          · exact absurd H (by simp)
          replace H := dle H
          rcases H with ⟨c14b0, H⟩ | ⟨c14b0, H⟩
          rotate_left
          · exact absurd H (by simp)
          obtain ⟨ji15, hji15⟩ : ∃ j_ : Int, (Int.tmod a0_1 8) = j_ := ⟨_, rfl⟩
          replace H : (if 0 ≤ (ji15) then (if (shl .u8 (rd l0_0 (ji12)) (ji15)) = 0 then (some 0) else (some 1)) else (none)) = some r := by first | (rw [hji15] at H; exact H) | (simp only [hji15] at H ⊢; exact H)
          (try rw [hji15] at c11b0)
          by_cases c16 : 0 ≤ (ji15)
          rotate_left
          · rw [if_neg c16] at H
            exact absurd H (by simp)
          rw [if_pos c16] at H
          have c16b0 := eq_true c16
          have c16b1 : decide (0 ≤ (ji15)) = true := decide_eq_true c16
          clear c16
          obtain ⟨ji17, hji17⟩ : ∃ j_ : Int, (shl .u8 (rd l0_0 (ji12)) (ji15)) = j_ := ⟨_, rfl⟩
          replace H : (if (ji17) = 0 then (some 0) else (some 1)) = some r := by first | (rw [hji17] at H; exact H) | (simp only [hji17] at H ⊢; exact H)
          have hji17_ : (IntKind.u8.wrap ((rd l0_0 (ji12)) * 2 ^ min (ji15).toNat 8)) = ji17 := hji17
          have hji17z : (ji15) ≤ 8 → (IntKind.u8.wrap ((rd l0_0 (ji12)) * 2 ^ (ji15).toNat)) = ji17 := shl_small hji17
          replace H := deqn H
          rcases H with ⟨c18b0, c18b1, H⟩ | ⟨c18b0, c18b1, c18, H⟩
          focus
            obtain rfl := Option.some.inj H
            obtain ⟨hcz19_0, hcz19_1, hfz19_0, hfz19_1⟩ := blk_at2 BK108.out
            have p110 : 0 ≤ ((ji12) : Int) := dc_
            have q110 : (ji12) < (l0_0.length : Int) := dc_
            obtain ⟨ad110, e110, hx110_0⟩ := Kd.at_int HR0_0.out (ji12) p110 q110
            cases e110
            replace hx110_0 := (HB.out.cell (World.block_lt_of_cell? w _ hx110_0)).trans hx110_0
            replace p110 := eq_true p110
            replace q110 := eq_true q110
          rotate_left
          focus
            obtain rfl := Option.some.inj H
            obtain ⟨hcz20_0, hcz20_1, hfz20_0, hfz20_1⟩ := blk_at2 BK108.out
            have p110 : 0 ≤ ((ji12) : Int) := dc_
            have q110 : (ji12) < (l0_0.length : Int) := dc_
            obtain ⟨ad110, e110, hx110_0⟩ := Kd.at_int HR0_0.out (ji12) p110 q110
            cases e110
            replace hx110_0 := (HB.out.cell (World.block_lt_of_cell? w _ hx110_0)).trans hx110_0
            replace p110 := eq_true p110
            replace q110 := eq_true q110
        rotate_left 2
        focus
          obtain rfl := Option.some.inj H
          obtain ⟨hcz21_0, hcz21_1, hfz21_0, hfz21_1⟩ := blk_at2 BK108.out
      all_goals
        go_wp2
        repeat (go_quiet (fail); try go_wp2)
        go_ret
        first
          | exact ⟨rf_, bl_⟩
          | exact ⟨by first | rfl | (simp [errW_none, errW_some] <;> rfl) | (simp only [← hji12, ← hji15, ← hji17]; first | rfl | (simp [errW_none, errW_some] <;> rfl)) | (simp [*, errW_none, errW_some] <;> rfl), bl_⟩
end Go.Proofs.Ytmddmbagehjdeaa.G
end
