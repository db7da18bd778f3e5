/- Ytlpohipneianjaa: lines of the words and functions that the row FrameBursts rests on, and the row. No condition. -/
import Derived.Test.YtlpohipneianjaaZFrameBursts1
section
namespace Go.Proofs.Ytlpohipneianjaa.G
open Go.RowKit Go.Proofs.YtlpohipneianjaaW.PrintWords Go.Proofs.YtlpohipneianjaaW.PrintLast Go.Proofs.YtlpohipneianjaaW.PrintMore
set_option linter.unusedVariables false
set_option linter.unusedSimpArgs false
set_option maxHeartbeats 8000000 in
set_option maxRecDepth 100000 in
theorem frame_First.calls (k : Nat) (A0 : Option Addr) (c0 : Nat) (l0 : List Int) (r1 : List Int) (r2 : List ByteArray) (r3 : Int) (r4 : Int) (w : World) (hr0 : Kd.C (Kd.int .u8) w A0 l0.length l0) (hc0 : l0.length ≤ c0) (h : frame_First.f k l0 = some (r1, r2, r3, r4)) :
    Calls Try.prog 39 #[.slice A0 l0.length c0] w fun e w' => ∃ v0_ v1_ : Value, e = .returned (.tuple #[.agg #[v0_, v1_], .int .i64 r3, .int .i64 r4]) ∧ Kd.R (Kd.int .i64) 3 w' w.heap.size (fun _ => True) v0_ r1 ∧ Kd.R Kd.string 9 w' w.heap.size (fun _ => True) v1_ r2 ∧ Below w.heap.size w w' := by
  have hu29 := Try.underlying29
  have HR0 := Aside0.mk hr0
  have HC0 := Aside0.mk hc0
  clear hr0 hc0
  have HB := Aside0.mk (Below.refl w.heap.size w)
  have H : ((frame_take.f k l0).bind fun bt543 => (if bt543.2.2 = true then (if bt543.1 > 4096 then (frame_First.j0 k l0 bt543.1 bt543.2.1 true) else (frame_First.j0 k l0 bt543.1 bt543.2.1 (decide ((bt543.2.1.length : Int) < (wrap64 ((wrap64 (bt543.1)) + 4)))))) else (frame_First.j0 k l0 bt543.1 bt543.2.1 true))) = some (r1, r2, r3, r4) := h
  clear h
  replace H := Option.bind_eq_some_iff.mp H
  obtain ⟨⟨t543, t544, t547⟩, A20, H⟩ := H
  replace H : (if t547 = true then (if t543 > 4096 then (frame_First.j0 k l0 t543 t544 true) else (frame_First.j0 k l0 t543 t544 (decide ((t544.length : Int) < (wrap64 ((wrap64 (t543)) + 4)))))) else (frame_First.j0 k l0 t543 t544 true)) = some (r1, r2, r3, r4) := H
  have A2 := Aside0.mk A20
  clear A20
  have HC3 := Aside0.mk H
  clear H
  go_enter Try.func39, Try.ntmps39
  go_upto_region 2 with (first | ((with_reducible refine gate_dst (N := 2) rfl ?_); (try (refine gate_guard (by rfl) ?_; dsimp only)); refine box_event ?hg (N := 2) ?hd (cs := #[.slice none 0 0, .slice none 0 0]) (t := 29) ?hr ?_; (case hd => rfl); (case hg => rfl); (case hr => first | (go_simp; done) | (go_simp; rfl)); intro gb542 hg w4 hbox hb; have n0_ := Aside0.mk (below_step (by repeat (first | (with_reducible first | exact HB.out | apply below_alloc | apply pw_below_drewN | apply below_drew1) | exact HB.out)) hb); have n1_ := Aside0.mk (hbox); have n2_ := Aside0.mk ((by rw [hg]; exact (below_size (by repeat (first | (with_reducible first | exact HB.out | apply below_alloc | apply pw_below_drewN | apply below_drew1) | exact HB.out))) : w.heap.size ≤ gb542)); have n3_ := Aside0.mk ((by rw [hg]; exact (below_size (by repeat (first | (with_reducible first | exact HB.out | apply below_alloc | apply pw_below_drewN | apply below_drew1) | exact HB.out))) : w.heap.size ≤ gb542)); clear HB; have HB := n0_; have BK542 := n1_; have GW542 := n2_; have GE542 := n3_; clear n0_ n1_ n2_ n3_; clear hb hbox hg) | (go_at_call 50; (with_reducible refine (frame_take.calls k (fun k_ => k_ < w.heap.size) _ _ l0 t543 t544 t547 _ ?side1 A2.out).mono ?_); (case side1 => exact Kd.V_mk HC0.out (Kd.F_below (Kd.C_F (Kd.heap_int .u8) HR0.out) (by repeat (first | (with_reducible first | exact HB.out | apply below_alloc | apply pw_below_drewN | apply below_drew1 | refine below_set ?_ GE542.out) | exact HB.out)))); rintro e w5 ⟨v545, rfl, ho0, hb⟩; have n0_ := Aside0.mk (Kd.V_lower (Kd.V_mono (ok' := fun k_ => k_ ≠ gb542) ho0 (fun k_ hk_ => Or.elim hk_ (fun hs_ => fun e_ => Nat.not_le.2 hs_ (by rw [e_]; exact GW542.out)) (fun hn_ => (Kd.freshB (g := gb542) (o := .cells #[.slice none 0 0, .slice none 0 0] 29 (0, 0)) (by (with_reducible repeat (first | refine blk_drewN ?_ _ | refine blk_drew ?_ | refine blk_alloc ?_ _)); exact BK542.out) k_ hn_)))) (below_size (by repeat (first | (with_reducible first | exact HB.out | apply below_alloc | apply pw_below_drewN | apply below_drew1 | refine below_set ?_ GE542.out) | exact HB.out)))); have n1_ := Aside0.mk (blk_below (g := gb542) (o := .cells #[.slice none 0 0, .slice none 0 0] 29 (0, 0)) (by (with_reducible repeat (first | refine blk_drewN ?_ _ | refine blk_drew ?_ | refine blk_alloc ?_ _)); exact BK542.out) hb); have n2_ := Aside0.mk (below_step (by repeat (first | (with_reducible first | exact HB.out | apply below_alloc | apply pw_below_drewN | apply below_drew1 | refine below_set ?_ GE542.out) | exact HB.out)) hb); clear BK542; clear HB; have HO546 := n0_; have BK542 := n1_; have HB := n2_; clear n0_ n1_ n2_; (try clear hb); (try clear hb2); (try clear hk); (try clear hi); (try clear ho0)))
  repeat (go_quiet (first | ((with_reducible refine gate_dst (N := 2) rfl ?_); (try (refine gate_guard (by rfl) ?_; dsimp only)); refine box_event ?hg (N := 2) ?hd (cs := #[.slice none 0 0, .slice none 0 0]) (t := 29) ?hr ?_; (case hd => rfl); (case hg => rfl); (case hr => first | (go_simp; done) | (go_simp; rfl)); intro gb542 hg w4 hbox hb; have n0_ := Aside0.mk (below_step (by repeat (first | (with_reducible first | exact HB.out | apply below_alloc | apply pw_below_drewN | apply below_drew1) | exact HB.out)) hb); have n1_ := Aside0.mk (hbox); have n2_ := Aside0.mk ((by rw [hg]; exact (below_size (by repeat (first | (with_reducible first | exact HB.out | apply below_alloc | apply pw_below_drewN | apply below_drew1) | exact HB.out))) : w.heap.size ≤ gb542)); have n3_ := Aside0.mk ((by rw [hg]; exact (below_size (by repeat (first | (with_reducible first | exact HB.out | apply below_alloc | apply pw_below_drewN | apply below_drew1) | exact HB.out))) : w.heap.size ≤ gb542)); clear HB; have HB := n0_; have BK542 := n1_; have GW542 := n2_; have GE542 := n3_; clear n0_ n1_ n2_ n3_; clear hb hbox hg) | (go_at_call 50; (with_reducible refine (frame_take.calls k (fun k_ => k_ < w.heap.size) _ _ l0 t543 t544 t547 _ ?side1 A2.out).mono ?_); (case side1 => exact Kd.V_mk HC0.out (Kd.F_below (Kd.C_F (Kd.heap_int .u8) HR0.out) (by repeat (first | (with_reducible first | exact HB.out | apply below_alloc | apply pw_below_drewN | apply below_drew1 | refine below_set ?_ GE542.out) | exact HB.out)))); rintro e w5 ⟨v545, rfl, ho0, hb⟩; have n0_ := Aside0.mk (Kd.V_lower (Kd.V_mono (ok' := fun k_ => k_ ≠ gb542) ho0 (fun k_ hk_ => Or.elim hk_ (fun hs_ => fun e_ => Nat.not_le.2 hs_ (by rw [e_]; exact GW542.out)) (fun hn_ => (Kd.freshB (g := gb542) (o := .cells #[.slice none 0 0, .slice none 0 0] 29 (0, 0)) (by (with_reducible repeat (first | refine blk_drewN ?_ _ | refine blk_drew ?_ | refine blk_alloc ?_ _)); exact BK542.out) k_ hn_)))) (below_size (by repeat (first | (with_reducible first | exact HB.out | apply below_alloc | apply pw_below_drewN | apply below_drew1 | refine below_set ?_ GE542.out) | exact HB.out)))); have n1_ := Aside0.mk (blk_below (g := gb542) (o := .cells #[.slice none 0 0, .slice none 0 0] 29 (0, 0)) (by (with_reducible repeat (first | refine blk_drewN ?_ _ | refine blk_drew ?_ | refine blk_alloc ?_ _)); exact BK542.out) hb); have n2_ := Aside0.mk (below_step (by repeat (first | (with_reducible first | exact HB.out | apply below_alloc | apply pw_below_drewN | apply below_drew1 | refine below_set ?_ GE542.out) | exact HB.out)) hb); clear BK542; clear HB; have HO546 := n0_; have BK542 := n1_; have HB := n2_; clear n0_ n1_ n2_; (try clear hb); (try clear hb2); (try clear hk); (try clear hi); (try clear ho0))); go_upto_region 2 with (first | ((with_reducible refine gate_dst (N := 2) rfl ?_); (try (refine gate_guard (by rfl) ?_; dsimp only)); refine box_event ?hg (N := 2) ?hd (cs := #[.slice none 0 0, .slice none 0 0]) (t := 29) ?hr ?_; (case hd => rfl); (case hg => rfl); (case hr => first | (go_simp; done) | (go_simp; rfl)); intro gb542 hg w4 hbox hb; have n0_ := Aside0.mk (below_step (by repeat (first | (with_reducible first | exact HB.out | apply below_alloc | apply pw_below_drewN | apply below_drew1) | exact HB.out)) hb); have n1_ := Aside0.mk (hbox); have n2_ := Aside0.mk ((by rw [hg]; exact (below_size (by repeat (first | (with_reducible first | exact HB.out | apply below_alloc | apply pw_below_drewN | apply below_drew1) | exact HB.out))) : w.heap.size ≤ gb542)); have n3_ := Aside0.mk ((by rw [hg]; exact (below_size (by repeat (first | (with_reducible first | exact HB.out | apply below_alloc | apply pw_below_drewN | apply below_drew1) | exact HB.out))) : w.heap.size ≤ gb542)); clear HB; have HB := n0_; have BK542 := n1_; have GW542 := n2_; have GE542 := n3_; clear n0_ n1_ n2_ n3_; clear hb hbox hg) | (go_at_call 50; (with_reducible refine (frame_take.calls k (fun k_ => k_ < w.heap.size) _ _ l0 t543 t544 t547 _ ?side1 A2.out).mono ?_); (case side1 => exact Kd.V_mk HC0.out (Kd.F_below (Kd.C_F (Kd.heap_int .u8) HR0.out) (by repeat (first | (with_reducible first | exact HB.out | apply below_alloc | apply pw_below_drewN | apply below_drew1 | refine below_set ?_ GE542.out) | exact HB.out)))); rintro e w5 ⟨v545, rfl, ho0, hb⟩; have n0_ := Aside0.mk (Kd.V_lower (Kd.V_mono (ok' := fun k_ => k_ ≠ gb542) ho0 (fun k_ hk_ => Or.elim hk_ (fun hs_ => fun e_ => Nat.not_le.2 hs_ (by rw [e_]; exact GW542.out)) (fun hn_ => (Kd.freshB (g := gb542) (o := .cells #[.slice none 0 0, .slice none 0 0] 29 (0, 0)) (by (with_reducible repeat (first | refine blk_drewN ?_ _ | refine blk_drew ?_ | refine blk_alloc ?_ _)); exact BK542.out) k_ hn_)))) (below_size (by repeat (first | (with_reducible first | exact HB.out | apply below_alloc | apply pw_below_drewN | apply below_drew1 | refine below_set ?_ GE542.out) | exact HB.out)))); have n1_ := Aside0.mk (blk_below (g := gb542) (o := .cells #[.slice none 0 0, .slice none 0 0] 29 (0, 0)) (by (with_reducible repeat (first | refine blk_drewN ?_ _ | refine blk_drew ?_ | refine blk_alloc ?_ _)); exact BK542.out) hb); have n2_ := Aside0.mk (below_step (by repeat (first | (with_reducible first | exact HB.out | apply below_alloc | apply pw_below_drewN | apply below_drew1 | refine below_set ?_ GE542.out) | exact HB.out)) hb); clear BK542; clear HB; have HO546 := n0_; have BK542 := n1_; have HB := n2_; clear n0_ n1_ n2_; (try clear hb); (try clear hb2); (try clear hk); (try clear hi); (try clear ho0))))
  (try simp only [Act.put, List.setIfInBounds_toArray, List.set_cons_zero, List.set_cons_succ])
  go_cut [32] (fun v32 wc => ∃ (kq : Nat) (x32_2 : Bool), v32 = .bool x32_2 ∧ Aside0 (frame_First.j0 kq l0 t543 t544 x32_2 = some (r1, r2, r3, r4)) ∧ Aside0 (kq ≤ k) ∧ Aside0 (Kd.V (Kd.int .u8) 5 wc w.heap.size (fun k_ => k_ ≠ gb542) v545 t544) ∧ Aside0 (wc.heap[gb542]? = some (.cells #[(.slice none 0 0), (.slice none 0 0)] 29 (0, 0))) ∧ Aside0 (Below w.heap.size w wc))
  case first =>
    have H := HC3.out
    clear HC3
    by_cases c6 : t547 = true
    · subst c6
      have H1 : (if t543 > 4096 then (frame_First.j0 k l0 t543 t544 true) else (frame_First.j0 k l0 t543 t544 (decide ((t544.length : Int) < (wrap64 ((wrap64 (t543)) + 4)))))) = some (r1, r2, r3, r4) := by rw [if_pos rfl] at H; exact H
      clear H
      have H := H1
      clear H1
      by_cases c7 : t543 > 4096
      · rw [if_pos c7] at H
        have c7b0 : decide (4096 < t543) = true := decide_eq_true c7
        clear c7
        (first | rw [c7b0] | (simp only [i64_w, i32_w]; rw [c7b0]) | skip)
        have H' := Aside0.mk H
        clear H
        go_wp2
        repeat (go_quiet (fail); try go_wp2)
        go_meet
        case rel => exact ⟨_, (true), (by first | rfl | (simp; done) | (simp [*]; done)), H', ⟨by first | omega | exact Nat.le_refl _⟩, ⟨by (with_reducible repeat (first | apply Kd.V_alloc | apply Kd.V_drewN | apply Kd.V_drew)); exact HO546.out⟩, ⟨by (with_reducible repeat (first | refine blk_drewN ?_ _ | refine blk_drew ?_ | refine blk_alloc ?_ _)); exact BK542.out⟩, ⟨by repeat (first | (with_reducible first | exact HB.out | apply below_alloc | apply pw_below_drewN | apply below_drew1 | refine below_set ?_ GE542.out) | exact HB.out)⟩⟩
      · rw [if_neg c7] at H
        have c7b0 : decide (4096 < t543) = false := decide_eq_false c7
        clear c7
        (first | rw [c7b0] | (simp only [i64_w, i32_w]; rw [c7b0]) | skip)
        have H' := Aside0.mk H
        clear H
        obtain ⟨Ao8, co8, eo8⟩ := Kd.V_slice HO546.out
        subst eo8
        go_wp2
        repeat (go_quiet (fail); try go_wp2)
        go_meet
        case rel => exact ⟨_, (decide ((t544.length : Int) < (wrap64 ((wrap64 (t543)) + 4)))), (by first | rfl | (simp; done) | (simp [*]; done)), H', ⟨by first | omega | exact Nat.le_refl _⟩, ⟨by (with_reducible repeat (first | apply Kd.V_alloc | apply Kd.V_drewN | apply Kd.V_drew)); exact HO546.out⟩, ⟨by (with_reducible repeat (first | refine blk_drewN ?_ _ | refine blk_drew ?_ | refine blk_alloc ?_ _)); exact BK542.out⟩, ⟨by repeat (first | (with_reducible first | exact HB.out | apply below_alloc | apply pw_below_drewN | apply below_drew1 | refine below_set ?_ GE542.out) | exact HB.out)⟩⟩
    · replace c6 := Bool.eq_false_iff.mpr c6
      subst c6
      have H1 : (frame_First.j0 k l0 t543 t544 true) = some (r1, r2, r3, r4) := by rw [if_neg (show ¬ (false = true) by decide)] at H; exact H
      clear H
      have H := H1
      clear H1
      have H' := Aside0.mk H
      clear H
      go_wp2
      repeat (go_quiet (fail); try go_wp2)
      go_meet
      case rel => exact ⟨_, (true), (by first | rfl | (simp; done) | (simp [*]; done)), H', ⟨by first | omega | exact Nat.le_refl _⟩, ⟨by (with_reducible repeat (first | apply Kd.V_alloc | apply Kd.V_drewN | apply Kd.V_drew)); exact HO546.out⟩, ⟨by (with_reducible repeat (first | refine blk_drewN ?_ _ | refine blk_drew ?_ | refine blk_alloc ?_ _)); exact BK542.out⟩, ⟨by repeat (first | (with_reducible first | exact HB.out | apply below_alloc | apply pw_below_drewN | apply below_drew1 | refine below_set ?_ GE542.out) | exact HB.out)⟩⟩
  case rest =>
    clear HC3
    try clear p2
    try clear c3
    try clear c6
    try clear p6
    try clear c7
    try clear c7b0
    obtain ⟨kq, x32_2, rfl, HA, HJ2, HO_6, BK542, HB⟩ := hcut
    cases kq with
    | zero => exact absurd HA.out (by simp [frame_First.j0])
    | succ kj2 =>
      have H := HA.out
      clear HA
      simp only [frame_First.j0] at H
      by_cases c9 : x32_2 = true
      · subst c9
        have H1 : (some (([] : List Int), ([] : List ByteArray), 0, 2)) = some (r1, r2, r3, r4) := by rw [if_pos rfl] at H; exact H
        clear H
        have H := H1
        clear H1
        simp only [Option.some.injEq, Prod.mk.injEq] at H
        obtain ⟨rfl, rfl, rfl, rfl⟩ := H
        have hcz10_0 : wc.cell? ⟨gb542, 0, none⟩ = some (.slice none 0 0) := (blk_cell BK542.out 0).trans rfl
        have hcz10_1 : wc.cell? ⟨gb542, 1, none⟩ = some (.slice none 0 0) := (blk_cell BK542.out 1).trans rfl
        have hfz10_0 := blk_frozen BK542.out 0
        have hfz10_1 := blk_frozen BK542.out 1
        go_wp2
        repeat (go_quiet (fail); try go_wp2)
        refine bodyPost_ret (results_ctt rfl _ _ gb542 29 #[.slice none 0 0, .slice none 0 0] (0, 0) _ rfl (by (with_reducible repeat (first | refine blk_drewN ?_ _ | refine blk_drew ?_ | refine blk_alloc ?_ _)); refine blk_put (cs := #[.slice none 0 0, .slice none 0 0]) ?_ 1 _ rfl; (with_reducible repeat (first | refine blk_drewN ?_ _ | refine blk_drew ?_ | refine blk_alloc ?_ _)); refine blk_put (cs := #[.slice none 0 0, .slice none 0 0]) ?_ 0 _ rfl; (with_reducible repeat (first | refine blk_drewN ?_ _ | refine blk_drew ?_ | refine blk_alloc ?_ _)); exact BK542.out) Try.underlying29 rfl (by kernel_rfl)) rfl ?_
        exact ⟨_, _, by first | rfl | (simp [errW_none, errW_some] <;> rfl) | (simp [*, errW_none, errW_some] <;> rfl), by first | exact Kd.R_nil _ _ _ _ _ | exact Kd.N_nil _ _ _ _ _ | exact Kd.V_nil _ _ _ _ _ | exact Kd.Q_nil _ _ _ _ _ | exact Kd.S_nil _ _ _ _ _, by first | exact Kd.R_nil _ _ _ _ _ | exact Kd.N_nil _ _ _ _ _ | exact Kd.V_nil _ _ _ _ _ | exact Kd.Q_nil _ _ _ _ _ | exact Kd.S_nil _ _ _ _ _, by repeat (first | (with_reducible first | exact HB.out | apply below_alloc | apply pw_below_drewN | apply below_drew1 | refine below_set ?_ GE542.out) | exact HB.out)⟩
      · replace c9 := Bool.eq_false_iff.mpr c9
        subst c9
        have H1 : (if 0 ≤ t543 then (if t543 ≤ (t544.length : Int) then ((frame_Sum.f kj2 (t544.take (t543 : Int).toNat)).bind fun t558 => (frame_First.l0 kj2 l0 t543 t544 (t544.take (t543 : Int).toNat) t558 0)) else (none)) else (none)) = some (r1, r2, r3, r4) := by rw [if_neg (show ¬ (false = true) by decide)] at H; exact H
        clear H
        have H := H1
        clear H1
        by_cases c11 : 0 ≤ t543
        · rw [if_pos c11] at H
          have c11b0 := eq_true c11
          have c11b1 : decide (0 ≤ t543) = true := decide_eq_true c11
          clear c11
          by_cases c12 : t543 ≤ (t544.length : Int)
          · rw [if_pos c12] at H
            have c12b0 := eq_true c12
            have c12b1 : decide (t543 ≤ (t544.length : Int)) = true := decide_eq_true c12
            clear c12
            obtain ⟨y548, hy548⟩ : ∃ y_ : List Int, y_ = (t544.take (t543 : Int).toNat) := ⟨_, rfl⟩
            replace H : ((frame_Sum.f kj2 (t544.take (t543 : Int).toNat)).bind fun t558 => (frame_First.l0 kj2 l0 t543 t544 y548 t558 0)) = some (r1, r2, r3, r4) := by first | (rw [hy548]; with_reducible exact H) | (have H2_ := (Option.bind_some _ _).symm.trans H; rw [hy548]; with_reducible exact H2_) | (have H2_ := (Option.bind_some _ _).symm.trans H; with_reducible exact H2_) | with_reducible exact H | (rw [hy548]; exact H) | exact H
            have Ny548 := Aside0.mk hy548
            clear hy548
            have c13b0 := eq_true (of_decide_eq_true (by first | (with_reducible assumption) | assumption) : 0 ≤ t543)
            have c14b0 := eq_true (of_decide_eq_true (by first | (with_reducible assumption) | assumption) : t543 ≤ (t544.length : Int))
            have hy553 : y548 = (t544.take (t543 : Int).toNat) := Ny548.out
            rw [← hy553] at H
            replace H : ((frame_Sum.f kj2 y548).bind fun t558 => (frame_First.l0 kj2 l0 t543 t544 y548 t558 0)) = some (r1, r2, r3, r4) := by first | (rw [hy553]; with_reducible exact H) | (have H2_ := (Option.bind_some _ _).symm.trans H; rw [hy553]; with_reducible exact H2_) | (have H2_ := (Option.bind_some _ _).symm.trans H; with_reducible exact H2_) | with_reducible exact H | (rw [hy553]; exact H) | exact H
            have Ny553 := Aside0.mk hy553
            clear hy553
            replace H := Option.bind_eq_some_iff.mp H
            obtain ⟨t558, A150, H⟩ := H
            replace H : (frame_First.l0 kj2 l0 t543 t544 y548 t558 0) = some (r1, r2, r3, r4) := H
            have A15 := Aside0.mk A150
            clear A150
            have H' := Aside0.mk H
            clear H
            obtain ⟨Ao17, co17, eo17⟩ := Kd.V_slice HO_6.out
            subst eo17
            have q16 : (t543 : Int) ≤ ((t544.length : Int) : Int) := of_decide_eq_true (by first | (with_reducible assumption) | assumption)
            obtain ⟨i016, hi016, _, hsz16, _⟩ := info_parts info5
            have hroom16 : t544.length ≤ co17 := (Kd.V_reads' HO_6.out).2.1
            have hC16 : Kd.F (Kd.int .u8) _ _ Ao17 t544.length t544 := (Kd.V_at (base := w.heap.size) HO_6.out).2.2
            have hcut16 := fun (kh_ : IntKind) => cut_to (P := Try.prog) 22 5 kh_ Try.underlying22 hi016 Ao17 t544.length co17 t543 (of_decide_eq_true (by first | (with_reducible assumption) | assumption)) q16 hroom16
            have hr16 := Kd.F_take (m := (t543 : Int).toNat) hC16 (by omega)
            have hy16 : y548.length = (t543 : Int).toNat := (by rw [Ny548.out, List.length_take]; omega)
            rw [← Ny548.out] at hr16
            rw [← hy16] at hcut16
            have HO552 := Aside0.mk (show Kd.V (Kd.int .u8) 5 _ w.heap.size _ (.slice Ao17 y548.length co17) y548 from Kd.V_mk (by omega) hr16)
            have HC552 := Aside0.mk (show y548.length ≤ co17 from by omega)
            clear hr16 hC16 hroom16 hi016 hsz16
            have KY16 := Aside0.mk hy16
            clear hy16
            replace q16 := eq_true q16
            have q18 : (t543 : Int) ≤ ((t544.length : Int) : Int) := of_decide_eq_true (by first | (with_reducible assumption) | assumption)
            obtain ⟨i018, hi018, _, hsz18, _⟩ := info_parts info5
            have hroom18 : t544.length ≤ co17 := (Kd.V_reads' HO_6.out).2.1
            have hC18 : Kd.F (Kd.int .u8) _ _ Ao17 t544.length t544 := (Kd.V_at (base := w.heap.size) HO_6.out).2.2
            have hcut18 := fun (kh_ : IntKind) => cut_to (P := Try.prog) 22 5 kh_ Try.underlying22 hi018 Ao17 t544.length co17 t543 (of_decide_eq_true (by first | (with_reducible assumption) | assumption)) q18 hroom18
            have hr18 := Kd.F_take (m := (t543 : Int).toNat) hC18 (by omega)
            have hy18 : y548.length = (t543 : Int).toNat := (by rw [Ny553.out, List.length_take]; omega)
            rw [← Ny553.out] at hr18
            rw [← hy18] at hcut18
            have HO557 := Aside0.mk (show Kd.V (Kd.int .u8) 5 _ w.heap.size _ (.slice Ao17 y548.length co17) y548 from Kd.V_mk (by omega) hr18)
            have HC557 := Aside0.mk (show y548.length ≤ co17 from by omega)
            clear hr18 hC18 hroom18 hi018 hsz18
            have KY18 := Aside0.mk hy18
            clear hy18
            replace q18 := eq_true q18
            go_wp2_with (first | (go_at_call 25; (with_reducible refine (frame_Sum.calls kj2 _ _ y548 t558 _ ?side1 ?side2 A15.out).mono ?_); (case side1 => repeat (first | exact (Kd.V_reads' HO557.out).2.2 | (with_reducible refine Kd.C_alloc ?_ _) | (with_reducible refine Kd.C_drewN ?_ _) | (with_reducible refine Kd.C_drew ?_))); (case side2 => exact (Kd.V_reads' HO557.out).2.1); rintro e w' ⟨rfl, ⟨nd, rfl⟩⟩; (try first | exact ⟨rfl, _, World.drewN_drewN _ _ _⟩ | exact ⟨rfl, _, Eq.trans (World.drewN_drewN _ _ _) (congrArg (World.drewN _) (Nat.add_assoc _ _ _))⟩)))
            repeat (go_quiet (first | (go_at_call 25; (with_reducible refine (frame_Sum.calls kj2 _ _ y548 t558 _ ?side1 ?side2 A15.out).mono ?_); (case side1 => repeat (first | exact (Kd.V_reads' HO557.out).2.2 | (with_reducible refine Kd.C_alloc ?_ _) | (with_reducible refine Kd.C_drewN ?_ _) | (with_reducible refine Kd.C_drew ?_))); (case side2 => exact (Kd.V_reads' HO557.out).2.1); rintro e w' ⟨rfl, ⟨nd, rfl⟩⟩; (try first | exact ⟨rfl, _, World.drewN_drewN _ _ _⟩ | exact ⟨rfl, _, Eq.trans (World.drewN_drewN _ _ _) (congrArg (World.drewN _) (Nat.add_assoc _ _ _))⟩))); try go_wp2_with (first | (go_at_call 25; (with_reducible refine (frame_Sum.calls kj2 _ _ y548 t558 _ ?side1 ?side2 A15.out).mono ?_); (case side1 => repeat (first | exact (Kd.V_reads' HO557.out).2.2 | (with_reducible refine Kd.C_alloc ?_ _) | (with_reducible refine Kd.C_drewN ?_ _) | (with_reducible refine Kd.C_drew ?_))); (case side2 => exact (Kd.V_reads' HO557.out).2.1); rintro e w' ⟨rfl, ⟨nd, rfl⟩⟩; (try first | exact ⟨rfl, _, World.drewN_drewN _ _ _⟩ | exact ⟨rfl, _, Eq.trans (World.drewN_drewN _ _ _) (congrArg (World.drewN _) (Nat.add_assoc _ _ _))⟩))))
            go_loopg [41] kj2 (fun kq v41 w' => ∃ (x41_2 : Int), v41 = .int .i64 x41_2 ∧ Aside0 (frame_First.l0 kq l0 t543 t544 y548 t558 x41_2 = some (r1, r2, r3, r4)) ∧ Aside0 (kq ≤ kj2) ∧ Aside0 (Kd.V (Kd.int .u8) 5 w' w.heap.size (fun k_ => k_ ≠ gb542) (.slice Ao17 t544.length co17) t544) ∧ Aside0 (Kd.V (Kd.int .u8) 5 w' w.heap.size (fun k_ => k_ ≠ gb542) (.slice Ao17 y548.length co17) y548) ∧ Aside0 (w'.heap[gb542]? = some (.cells #[(.slice none 0 0), (.slice none 0 0)] 29 (0, 0))) ∧ Aside0 (Below w.heap.size w w'))
            case atStart => exact ⟨(0), (by first | rfl | (simp; done) | (simp [*]; done)), H', ⟨Nat.le_refl _⟩, ⟨by (with_reducible repeat (first | apply Kd.V_alloc | apply Kd.V_drewN | apply Kd.V_drew)); exact HO_6.out⟩, ⟨by (with_reducible repeat (first | apply Kd.V_alloc | apply Kd.V_drewN | apply Kd.V_drew)); exact HO552.out⟩, ⟨by (with_reducible repeat (first | refine blk_drewN ?_ _ | refine blk_drew ?_ | refine blk_alloc ?_ _)); exact BK542.out⟩, ⟨by repeat (first | (with_reducible first | exact HB.out | apply below_alloc | apply pw_below_drewN | apply below_drew1 | refine below_set ?_ GE542.out) | exact HB.out)⟩⟩
            case round =>
              clear H'
              try clear c1
              try clear q1
              try clear p2
              try clear c3
              try clear c6
              try clear p6
              try clear c7
              try clear c7b0
              try clear c9
              try clear c11
              try clear c11b0
              try clear c11b1
              try clear c12
              try clear c12b0
              try clear c12b1
              try clear c13
              try clear c13b0
              try clear c14
              try clear c14b0
              try clear q16
              try clear q18
              try clear hcz10_0
              try clear hcz10_1
              try clear hfz10_0
              try clear hfz10_1
              try clear p2
              try clear p6
              try clear q16
              try clear q18
              obtain ⟨x41_2, rfl, HA, HK2, HO_6, HO_8, BK542, HB⟩ := hrel
              cases gk with
              | zero => exact absurd HA.out (by simp [frame_First.l0])
              | succ k2 =>
                have H := HA.out
                clear HA
                simp only [frame_First.l0] at H
                by_cases c19 : x41_2 < 4
                · rw [if_pos c19] at H
                  have c19b0 : decide (x41_2 < 4) = true := decide_eq_true c19
                  clear c19
                  obtain ⟨ji20, hji20⟩ : ∃ j_ : Int, (wrap64 ((wrap64 (t543)) + x41_2)) = j_ := ⟨_, rfl⟩
                  replace H : (if 0 ≤ (ji20) then (if (ji20) < (t544.length : Int) then (if 0 ≤ (wrap64 (24 - (wrap64 (8 * x41_2)))) then (if (rd t544 (ji20)) = ((shr .u32 t558 (wrap64 (24 - (wrap64 (8 * x41_2))))) % 256) then (frame_First.l0 k2 l0 t543 t544 y548 t558 (wrap64 (x41_2 + 1))) else (some (([] : List Int), ([] : List ByteArray), 0, 3))) else (none)) else (none)) else (none)) = some (r1, r2, r3, r4) := by first | (rw [hji20] at H; exact H) | (simp only [hji20] at H ⊢; exact H)
                  have hji20w : (IntKind.i64.wrap ((wrap64 (t543)) + x41_2)) = ji20 := (i64_w _).trans hji20
                  by_cases c21 : 0 ≤ (ji20)
                  · rw [if_pos c21] at H
                    have c21b0 : decide (0 ≤ (ji20)) = true := decide_eq_true c21
                    clear c21
                    by_cases c22 : (ji20) < (t544.length : Int)
                    · rw [if_pos c22] at H
                      have c22b0 : decide ((ji20) < (t544.length : Int)) = true := decide_eq_true c22
                      clear c22
                      obtain ⟨ji23, hji23⟩ : ∃ j_ : Int, (wrap64 (24 - (wrap64 (8 * x41_2)))) = j_ := ⟨_, rfl⟩
                      replace H : (if 0 ≤ (ji23) then (if (rd t544 (ji20)) = ((shr .u32 t558 (ji23)) % 256) then (frame_First.l0 k2 l0 t543 t544 y548 t558 (wrap64 (x41_2 + 1))) else (some (([] : List Int), ([] : List ByteArray), 0, 3))) else (none)) = some (r1, r2, r3, r4) := by first | (rw [hji23] at H; exact H) | (simp only [hji23] at H ⊢; exact H)
                      have hji23w : (IntKind.i64.wrap (24 - (wrap64 (8 * x41_2)))) = ji23 := (i64_w _).trans hji23
                      by_cases c24 : 0 ≤ (ji23)
                      · rw [if_pos c24] at H
                        have c24b0 := eq_true c24
                        have c24b1 : decide (0 ≤ (ji23)) = true := decide_eq_true c24
                        clear c24
                        obtain ⟨ji25, hji25⟩ : ∃ j_ : Int, (shr .u32 t558 (ji23)) = j_ := ⟨_, rfl⟩
                        replace H : (if (rd t544 (ji20)) = ((ji25) % 256) then (frame_First.l0 k2 l0 t543 t544 y548 t558 (wrap64 (x41_2 + 1))) else (some (([] : List Int), ([] : List ByteArray), 0, 3))) = some (r1, r2, r3, r4) := by first | (rw [hji25] at H; exact H) | (simp only [hji25] at H ⊢; exact H)
                        have hji25_ : (t558 / 2 ^ min (ji23).toNat 32) = ji25 := hji25
                        have hji25z : (ji23) ≤ 32 → (t558 / 2 ^ (ji23).toNat) = ji25 := shr_small hji25
                        by_cases c26 : (rd t544 (ji20)) = ((ji25) % 256)
                        · rw [if_pos c26] at H
                          have c26b0 : ((rd t544 (ji20)) == ((ji25) % 256)) = true := beq_iff_eq.mpr c26
                          have c26b1 : ((rd t544 (ji20)) != ((ji25) % 256)) = false := bne_eq_false_iff_eq.mpr c26
                          clear c26
                          have H' := Aside0.mk H
                          clear H
                          have p559 : 0 ≤ ((ji20) : Int) := of_decide_eq_true (by first | (with_reducible assumption) | assumption)
                          have q559 : (ji20) < (t544.length : Int) := of_decide_eq_true (by first | (with_reducible assumption) | assumption)
                          obtain ⟨ad559, e559, hx559_0⟩ := Kd.at_int (Kd.V_reads' HO_6.out).2.2 (ji20) p559 q559
                          cases e559
                          replace p559 := eq_true p559
                          replace q559 := eq_true q559
                          go_wp2
                          repeat (go_quiet (fail); try go_wp2)
                          go_roundg k2
                          case measure => have := HJ2.out; have := HK2.out; omega
                          case rel => exact ⟨(wrap64 (x41_2 + 1)), (by first | rfl | (simp; done) | (simp [*]; done)), H', ⟨by have := HJ2.out; have := HK2.out; omega⟩, ⟨by (with_reducible repeat (first | apply Kd.V_alloc | apply Kd.V_drewN | apply Kd.V_drew)); exact HO_6.out⟩, ⟨by (with_reducible repeat (first | apply Kd.V_alloc | apply Kd.V_drewN | apply Kd.V_drew)); exact HO_8.out⟩, ⟨by (with_reducible repeat (first | refine blk_drewN ?_ _ | refine blk_drew ?_ | refine blk_alloc ?_ _)); exact BK542.out⟩, ⟨by repeat (first | (with_reducible first | exact HB.out | apply below_alloc | apply pw_below_drewN | apply below_drew1 | refine below_set ?_ GE542.out) | exact HB.out)⟩⟩
                        · rw [if_neg c26] at H
                          have c26b0 : ((rd t544 (ji20)) == ((ji25) % 256)) = false := beq_eq_false_iff_ne.mpr c26
                          have c26b1 : ((rd t544 (ji20)) != ((ji25) % 256)) = true := bne_iff_ne.mpr c26
                          simp only [Option.some.injEq, Prod.mk.injEq] at H
                          obtain ⟨rfl, rfl, rfl, rfl⟩ := H
                          have p559 : 0 ≤ ((ji20) : Int) := of_decide_eq_true (by first | (with_reducible assumption) | assumption)
                          have q559 : (ji20) < (t544.length : Int) := of_decide_eq_true (by first | (with_reducible assumption) | assumption)
                          obtain ⟨ad559, e559, hx559_0⟩ := Kd.at_int (Kd.V_reads' HO_6.out).2.2 (ji20) p559 q559
                          cases e559
                          replace p559 := eq_true p559
                          replace q559 := eq_true q559
                          have hcz27_0 : wr.cell? ⟨gb542, 0, none⟩ = some (.slice none 0 0) := (blk_cell BK542.out 0).trans rfl
                          have hcz27_1 : wr.cell? ⟨gb542, 1, none⟩ = some (.slice none 0 0) := (blk_cell BK542.out 1).trans rfl
                          have hfz27_0 := blk_frozen BK542.out 0
                          have hfz27_1 := blk_frozen BK542.out 1
                          go_wp2
                          repeat (go_quiet (fail); try go_wp2)
                          refine bodyPost_ret (results_ctt rfl _ _ gb542 29 #[.slice none 0 0, .slice none 0 0] (0, 0) _ rfl (by (with_reducible repeat (first | refine blk_drewN ?_ _ | refine blk_drew ?_ | refine blk_alloc ?_ _)); refine blk_put (cs := #[.slice none 0 0, .slice none 0 0]) ?_ 1 _ rfl; (with_reducible repeat (first | refine blk_drewN ?_ _ | refine blk_drew ?_ | refine blk_alloc ?_ _)); refine blk_put (cs := #[.slice none 0 0, .slice none 0 0]) ?_ 0 _ rfl; (with_reducible repeat (first | refine blk_drewN ?_ _ | refine blk_drew ?_ | refine blk_alloc ?_ _)); exact BK542.out) Try.underlying29 rfl (by kernel_rfl)) rfl ?_
                          exact ⟨_, _, by first | rfl | (simp [errW_none, errW_some] <;> rfl) | (simp only [← hji20, ← hji23, ← hji25]; first | rfl | (simp [errW_none, errW_some] <;> rfl)) | (simp [*, errW_none, errW_some] <;> rfl), by first | exact Kd.R_nil _ _ _ _ _ | exact Kd.N_nil _ _ _ _ _ | exact Kd.V_nil _ _ _ _ _ | exact Kd.Q_nil _ _ _ _ _ | exact Kd.S_nil _ _ _ _ _, by first | exact Kd.R_nil _ _ _ _ _ | exact Kd.N_nil _ _ _ _ _ | exact Kd.V_nil _ _ _ _ _ | exact Kd.Q_nil _ _ _ _ _ | exact Kd.S_nil _ _ _ _ _, by repeat (first | (with_reducible first | exact HB.out | apply below_alloc | apply pw_below_drewN | apply below_drew1 | refine below_set ?_ GE542.out) | exact HB.out)⟩
                      · rw [if_neg c24] at H
                        exact absurd H (by simp)
                    · rw [if_neg c22] at H
                      exact absurd H (by simp)
                  · rw [if_neg c21] at H
                    exact absurd H (by simp)
                · rw [if_neg c19] at H
                  have c19b0 : decide (x41_2 < 4) = false := decide_eq_false c19
                  clear c19
                  replace H := Option.bind_eq_some_iff.mp H
                  obtain ⟨⟨t560, t563, t566⟩, A280, H⟩ := H
                  replace H : (if t566 = 0 then (some (t560, t563, wrap64 ((wrap64 ((wrap64 ((l0.length : Int) - (t544.length : Int))) + (wrap64 (t543)))) + 4), 0)) else (some (([] : List Int), ([] : List ByteArray), 0, t566))) = some (r1, r2, r3, r4) := H
                  have A28 := Aside0.mk A280
                  clear A280
                  by_cases c29 : t566 = 0
                  · rw [if_pos c29] at H
                    have c29b0 : (t566 == 0) = true := beq_iff_eq.mpr c29
                    have c29b1 : (t566 != 0) = false := bne_eq_false_iff_eq.mpr c29
                    clear c29
                    simp only [Option.some.injEq, Prod.mk.injEq] at H
                    obtain ⟨rfl, rfl, rfl, rfl⟩ := H
                    go_wp2_with (first | (go_at_call 28; (with_reducible refine (frame_Decode.calls k2 _ _ y548 t560 t563 t566 _ ?side1 ?side2 A28.out).mono ?_); (case side1 => repeat (first | exact (Kd.V_reads' HO_8.out).2.2 | (with_reducible refine Kd.C_alloc ?_ _) | (with_reducible refine Kd.C_drewN ?_ _) | (with_reducible refine Kd.C_drew ?_))); (case side2 => exact (Kd.V_reads' HO_8.out).2.1); rintro e w30 ⟨v561, v564, rfl, ho0, ho1, hb⟩; have n0_ := Aside0.mk (Kd.V_mono (Kd.V_told (Kd.V_told (Kd.V_old (by (with_reducible repeat (first | apply Kd.V_alloc | apply Kd.V_drewN | apply Kd.V_drew)); exact HO_6.out) hb) (Kd.R_base ho0)) (Kd.R_base ho1)) (fun _ h_ => h_.1)); have n1_ := Aside0.mk (Kd.V_mono (Kd.V_told (Kd.V_told (Kd.V_old (by (with_reducible repeat (first | apply Kd.V_alloc | apply Kd.V_drewN | apply Kd.V_drew)); exact HO_8.out) hb) (Kd.R_base ho0)) (Kd.R_base ho1)) (fun _ h_ => h_.1)); have n2_ := Aside0.mk (Kd.R_lower ho0 (below_size (by repeat (first | (with_reducible first | exact HB.out | apply below_alloc | apply pw_below_drewN | apply below_drew1 | refine below_set ?_ GE542.out) | exact HB.out)))); have n3_ := Aside0.mk (Kd.R_lower ho1 (below_size (by repeat (first | (with_reducible first | exact HB.out | apply below_alloc | apply pw_below_drewN | apply below_drew1 | refine below_set ?_ GE542.out) | exact HB.out)))); have n4_ := Aside0.mk (blk_below (g := gb542) (o := .cells #[.slice none 0 0, .slice none 0 0] 29 (0, 0)) (by (with_reducible repeat (first | refine blk_drewN ?_ _ | refine blk_drew ?_ | refine blk_alloc ?_ _)); exact BK542.out) hb); have n5_ := Aside0.mk (below_step (by repeat (first | (with_reducible first | exact HB.out | apply below_alloc | apply pw_below_drewN | apply below_drew1 | refine below_set ?_ GE542.out) | exact HB.out)) hb); clear HO_6; clear HO_8; clear BK542; clear HB; have HO_6 := n0_; have HO_8 := n1_; have HO562 := n2_; have HO565 := n3_; have BK542 := n4_; have HB := n5_; clear n0_ n1_ n2_ n3_ n4_ n5_; (try clear hb); (try clear hb2); (try clear hk); (try clear hi); (try clear ho0); (try clear ho1)) | ((with_reducible refine gate_dst (N := 11) rfl ?_); (try (refine gate_guard (by rfl) ?_; dsimp only)); refine box_event ?hg (N := 11) ?hd (cs := #[.slice none 0 0, .slice none 0 0]) (t := 29) ?hr ?_; (case hd => rfl); (case hg => rfl); (case hr => first | (go_simp; done) | (go_simp; rfl)); intro gb567 hg w31 hbox hb; have n0_ := Aside0.mk (Kd.V_below (Kd.V_elderB (by (with_reducible repeat (first | apply Kd.V_alloc | apply Kd.V_drewN | apply Kd.V_drew)); exact HO_6.out) gb567 (Nat.le_of_eq hg.symm)) hb); have n1_ := Aside0.mk (Kd.V_below (Kd.V_elderB (by (with_reducible repeat (first | apply Kd.V_alloc | apply Kd.V_drewN | apply Kd.V_drew)); exact HO_8.out) gb567 (Nat.le_of_eq hg.symm)) hb); have n2_ := Aside0.mk (Kd.R_below (by (with_reducible repeat (first | apply Kd.R_alloc | apply Kd.R_drewN | apply Kd.R_drew)); exact HO562.out) hb); have n3_ := Aside0.mk (Kd.R_below (by (with_reducible repeat (first | apply Kd.R_alloc | apply Kd.R_drewN | apply Kd.R_drew)); exact HO565.out) hb); have n4_ := Aside0.mk (blk_below (g := gb542) (o := .cells #[.slice none 0 0, .slice none 0 0] 29 (0, 0)) (by (with_reducible repeat (first | refine blk_drewN ?_ _ | refine blk_drew ?_ | refine blk_alloc ?_ _)); exact BK542.out) hb); have n5_ := Aside0.mk (below_step (by repeat (first | (with_reducible first | exact HB.out | apply below_alloc | apply pw_below_drewN | apply below_drew1 | refine below_set ?_ GE542.out) | exact HB.out)) hb); have n6_ := Aside0.mk (hbox); have n7_ := Aside0.mk ((by rw [hg]; exact (below_size (by repeat (first | (with_reducible first | exact HB.out | apply below_alloc | apply pw_below_drewN | apply below_drew1 | refine below_set ?_ GE542.out) | exact HB.out))) : w.heap.size ≤ gb567)); have n8_ := Aside0.mk ((by rw [hg]; exact (below_size (by repeat (first | (with_reducible first | exact HB.out | apply below_alloc | apply pw_below_drewN | apply below_drew1 | refine below_set ?_ GE542.out) | exact HB.out))) : w.heap.size ≤ gb567)); have n9_ := Aside0.mk ((by rw [hg]; exact Nat.ne_of_lt (blk_lt (g := gb542) (o := .cells #[.slice none 0 0, .slice none 0 0] 29 (0, 0)) (by (with_reducible repeat (first | refine blk_drewN ?_ _ | refine blk_drew ?_ | refine blk_alloc ?_ _)); exact BK542.out)) : gb542 ≠ gb567)); have n10_ := Aside0.mk ((by rw [hg]; exact Nat.ne_of_gt (blk_lt (g := gb542) (o := .cells #[.slice none 0 0, .slice none 0 0] 29 (0, 0)) (by (with_reducible repeat (first | refine blk_drewN ?_ _ | refine blk_drew ?_ | refine blk_alloc ?_ _)); exact BK542.out)) : gb567 ≠ gb542)); clear HO_6; clear HO_8; clear HO562; clear HO565; clear BK542; clear HB; have HO_6 := n0_; have HO_8 := n1_; have HO562 := n2_; have HO565 := n3_; have BK542 := n4_; have HB := n5_; have BK567 := n6_; have GW567 := n7_; have GE567 := n8_; have NB542_567 := n9_; have NB567_542 := n10_; clear n0_ n1_ n2_ n3_ n4_ n5_ n6_ n7_ n8_ n9_ n10_; clear hb hbox hg; obtain ⟨Ao32, co32, eo32⟩ := Kd.R_slice HO562.out; subst eo32; have hnb33 := NB567_542.out; have hnc33 := NB542_567.out; have hcz34_0 : w31.cell? ⟨gb567, 0, none⟩ = some (.slice none 0 0) := (blk_cell BK567.out 0).trans rfl; have hcz34_1 : w31.cell? ⟨gb567, 1, none⟩ = some (.slice none 0 0) := (blk_cell BK567.out 1).trans rfl; have hfz34_0 := blk_frozen BK567.out 0; have hfz34_1 := blk_frozen BK567.out 1; obtain ⟨Ao35, co35, eo35⟩ := Kd.R_slice HO565.out; subst eo35; have hcz36_0 : w31.cell? ⟨gb542, 0, none⟩ = some (.slice none 0 0) := (blk_cell BK542.out 0).trans rfl; have hcz36_1 : w31.cell? ⟨gb542, 1, none⟩ = some (.slice none 0 0) := (blk_cell BK542.out 1).trans rfl; have hfz36_0 := blk_frozen BK542.out 0; have hfz36_1 := blk_frozen BK542.out 1))
                    repeat (go_quiet (first | (go_at_call 28; (with_reducible refine (frame_Decode.calls k2 _ _ y548 t560 t563 t566 _ ?side1 ?side2 A28.out).mono ?_); (case side1 => repeat (first | exact (Kd.V_reads' HO_8.out).2.2 | (with_reducible refine Kd.C_alloc ?_ _) | (with_reducible refine Kd.C_drewN ?_ _) | (with_reducible refine Kd.C_drew ?_))); (case side2 => exact (Kd.V_reads' HO_8.out).2.1); rintro e w30 ⟨v561, v564, rfl, ho0, ho1, hb⟩; have n0_ := Aside0.mk (Kd.V_mono (Kd.V_told (Kd.V_told (Kd.V_old (by (with_reducible repeat (first | apply Kd.V_alloc | apply Kd.V_drewN | apply Kd.V_drew)); exact HO_6.out) hb) (Kd.R_base ho0)) (Kd.R_base ho1)) (fun _ h_ => h_.1)); have n1_ := Aside0.mk (Kd.V_mono (Kd.V_told (Kd.V_told (Kd.V_old (by (with_reducible repeat (first | apply Kd.V_alloc | apply Kd.V_drewN | apply Kd.V_drew)); exact HO_8.out) hb) (Kd.R_base ho0)) (Kd.R_base ho1)) (fun _ h_ => h_.1)); have n2_ := Aside0.mk (Kd.R_lower ho0 (below_size (by repeat (first | (with_reducible first | exact HB.out | apply below_alloc | apply pw_below_drewN | apply below_drew1 | refine below_set ?_ GE542.out) | exact HB.out)))); have n3_ := Aside0.mk (Kd.R_lower ho1 (below_size (by repeat (first | (with_reducible first | exact HB.out | apply below_alloc | apply pw_below_drewN | apply below_drew1 | refine below_set ?_ GE542.out) | exact HB.out)))); have n4_ := Aside0.mk (blk_below (g := gb542) (o := .cells #[.slice none 0 0, .slice none 0 0] 29 (0, 0)) (by (with_reducible repeat (first | refine blk_drewN ?_ _ | refine blk_drew ?_ | refine blk_alloc ?_ _)); exact BK542.out) hb); have n5_ := Aside0.mk (below_step (by repeat (first | (with_reducible first | exact HB.out | apply below_alloc | apply pw_below_drewN | apply below_drew1 | refine below_set ?_ GE542.out) | exact HB.out)) hb); clear HO_6; clear HO_8; clear BK542; clear HB; have HO_6 := n0_; have HO_8 := n1_; have HO562 := n2_; have HO565 := n3_; have BK542 := n4_; have HB := n5_; clear n0_ n1_ n2_ n3_ n4_ n5_; (try clear hb); (try clear hb2); (try clear hk); (try clear hi); (try clear ho0); (try clear ho1)) | ((with_reducible refine gate_dst (N := 11) rfl ?_); (try (refine gate_guard (by rfl) ?_; dsimp only)); refine box_event ?hg (N := 11) ?hd (cs := #[.slice none 0 0, .slice none 0 0]) (t := 29) ?hr ?_; (case hd => rfl); (case hg => rfl); (case hr => first | (go_simp; done) | (go_simp; rfl)); intro gb567 hg w31 hbox hb; have n0_ := Aside0.mk (Kd.V_below (Kd.V_elderB (by (with_reducible repeat (first | apply Kd.V_alloc | apply Kd.V_drewN | apply Kd.V_drew)); exact HO_6.out) gb567 (Nat.le_of_eq hg.symm)) hb); have n1_ := Aside0.mk (Kd.V_below (Kd.V_elderB (by (with_reducible repeat (first | apply Kd.V_alloc | apply Kd.V_drewN | apply Kd.V_drew)); exact HO_8.out) gb567 (Nat.le_of_eq hg.symm)) hb); have n2_ := Aside0.mk (Kd.R_below (by (with_reducible repeat (first | apply Kd.R_alloc | apply Kd.R_drewN | apply Kd.R_drew)); exact HO562.out) hb); have n3_ := Aside0.mk (Kd.R_below (by (with_reducible repeat (first | apply Kd.R_alloc | apply Kd.R_drewN | apply Kd.R_drew)); exact HO565.out) hb); have n4_ := Aside0.mk (blk_below (g := gb542) (o := .cells #[.slice none 0 0, .slice none 0 0] 29 (0, 0)) (by (with_reducible repeat (first | refine blk_drewN ?_ _ | refine blk_drew ?_ | refine blk_alloc ?_ _)); exact BK542.out) hb); have n5_ := Aside0.mk (below_step (by repeat (first | (with_reducible first | exact HB.out | apply below_alloc | apply pw_below_drewN | apply below_drew1 | refine below_set ?_ GE542.out) | exact HB.out)) hb); have n6_ := Aside0.mk (hbox); have n7_ := Aside0.mk ((by rw [hg]; exact (below_size (by repeat (first | (with_reducible first | exact HB.out | apply below_alloc | apply pw_below_drewN | apply below_drew1 | refine below_set ?_ GE542.out) | exact HB.out))) : w.heap.size ≤ gb567)); have n8_ := Aside0.mk ((by rw [hg]; exact (below_size (by repeat (first | (with_reducible first | exact HB.out | apply below_alloc | apply pw_below_drewN | apply below_drew1 | refine below_set ?_ GE542.out) | exact HB.out))) : w.heap.size ≤ gb567)); have n9_ := Aside0.mk ((by rw [hg]; exact Nat.ne_of_lt (blk_lt (g := gb542) (o := .cells #[.slice none 0 0, .slice none 0 0] 29 (0, 0)) (by (with_reducible repeat (first | refine blk_drewN ?_ _ | refine blk_drew ?_ | refine blk_alloc ?_ _)); exact BK542.out)) : gb542 ≠ gb567)); have n10_ := Aside0.mk ((by rw [hg]; exact Nat.ne_of_gt (blk_lt (g := gb542) (o := .cells #[.slice none 0 0, .slice none 0 0] 29 (0, 0)) (by (with_reducible repeat (first | refine blk_drewN ?_ _ | refine blk_drew ?_ | refine blk_alloc ?_ _)); exact BK542.out)) : gb567 ≠ gb542)); clear HO_6; clear HO_8; clear HO562; clear HO565; clear BK542; clear HB; have HO_6 := n0_; have HO_8 := n1_; have HO562 := n2_; have HO565 := n3_; have BK542 := n4_; have HB := n5_; have BK567 := n6_; have GW567 := n7_; have GE567 := n8_; have NB542_567 := n9_; have NB567_542 := n10_; clear n0_ n1_ n2_ n3_ n4_ n5_ n6_ n7_ n8_ n9_ n10_; clear hb hbox hg; obtain ⟨Ao32, co32, eo32⟩ := Kd.R_slice HO562.out; subst eo32; have hnb33 := NB567_542.out; have hnc33 := NB542_567.out; have hcz34_0 : w31.cell? ⟨gb567, 0, none⟩ = some (.slice none 0 0) := (blk_cell BK567.out 0).trans rfl; have hcz34_1 : w31.cell? ⟨gb567, 1, none⟩ = some (.slice none 0 0) := (blk_cell BK567.out 1).trans rfl; have hfz34_0 := blk_frozen BK567.out 0; have hfz34_1 := blk_frozen BK567.out 1; obtain ⟨Ao35, co35, eo35⟩ := Kd.R_slice HO565.out; subst eo35; have hcz36_0 : w31.cell? ⟨gb542, 0, none⟩ = some (.slice none 0 0) := (blk_cell BK542.out 0).trans rfl; have hcz36_1 : w31.cell? ⟨gb542, 1, none⟩ = some (.slice none 0 0) := (blk_cell BK542.out 1).trans rfl; have hfz36_0 := blk_frozen BK542.out 0; have hfz36_1 := blk_frozen BK542.out 1)); try go_wp2_with (first | (go_at_call 28; (with_reducible refine (frame_Decode.calls k2 _ _ y548 t560 t563 t566 _ ?side1 ?side2 A28.out).mono ?_); (case side1 => repeat (first | exact (Kd.V_reads' HO_8.out).2.2 | (with_reducible refine Kd.C_alloc ?_ _) | (with_reducible refine Kd.C_drewN ?_ _) | (with_reducible refine Kd.C_drew ?_))); (case side2 => exact (Kd.V_reads' HO_8.out).2.1); rintro e w30 ⟨v561, v564, rfl, ho0, ho1, hb⟩; have n0_ := Aside0.mk (Kd.V_mono (Kd.V_told (Kd.V_told (Kd.V_old (by (with_reducible repeat (first | apply Kd.V_alloc | apply Kd.V_drewN | apply Kd.V_drew)); exact HO_6.out) hb) (Kd.R_base ho0)) (Kd.R_base ho1)) (fun _ h_ => h_.1)); have n1_ := Aside0.mk (Kd.V_mono (Kd.V_told (Kd.V_told (Kd.V_old (by (with_reducible repeat (first | apply Kd.V_alloc | apply Kd.V_drewN | apply Kd.V_drew)); exact HO_8.out) hb) (Kd.R_base ho0)) (Kd.R_base ho1)) (fun _ h_ => h_.1)); have n2_ := Aside0.mk (Kd.R_lower ho0 (below_size (by repeat (first | (with_reducible first | exact HB.out | apply below_alloc | apply pw_below_drewN | apply below_drew1 | refine below_set ?_ GE542.out) | exact HB.out)))); have n3_ := Aside0.mk (Kd.R_lower ho1 (below_size (by repeat (first | (with_reducible first | exact HB.out | apply below_alloc | apply pw_below_drewN | apply below_drew1 | refine below_set ?_ GE542.out) | exact HB.out)))); have n4_ := Aside0.mk (blk_below (g := gb542) (o := .cells #[.slice none 0 0, .slice none 0 0] 29 (0, 0)) (by (with_reducible repeat (first | refine blk_drewN ?_ _ | refine blk_drew ?_ | refine blk_alloc ?_ _)); exact BK542.out) hb); have n5_ := Aside0.mk (below_step (by repeat (first | (with_reducible first | exact HB.out | apply below_alloc | apply pw_below_drewN | apply below_drew1 | refine below_set ?_ GE542.out) | exact HB.out)) hb); clear HO_6; clear HO_8; clear BK542; clear HB; have HO_6 := n0_; have HO_8 := n1_; have HO562 := n2_; have HO565 := n3_; have BK542 := n4_; have HB := n5_; clear n0_ n1_ n2_ n3_ n4_ n5_; (try clear hb); (try clear hb2); (try clear hk); (try clear hi); (try clear ho0); (try clear ho1)) | ((with_reducible refine gate_dst (N := 11) rfl ?_); (try (refine gate_guard (by rfl) ?_; dsimp only)); refine box_event ?hg (N := 11) ?hd (cs := #[.slice none 0 0, .slice none 0 0]) (t := 29) ?hr ?_; (case hd => rfl); (case hg => rfl); (case hr => first | (go_simp; done) | (go_simp; rfl)); intro gb567 hg w31 hbox hb; have n0_ := Aside0.mk (Kd.V_below (Kd.V_elderB (by (with_reducible repeat (first | apply Kd.V_alloc | apply Kd.V_drewN | apply Kd.V_drew)); exact HO_6.out) gb567 (Nat.le_of_eq hg.symm)) hb); have n1_ := Aside0.mk (Kd.V_below (Kd.V_elderB (by (with_reducible repeat (first | apply Kd.V_alloc | apply Kd.V_drewN | apply Kd.V_drew)); exact HO_8.out) gb567 (Nat.le_of_eq hg.symm)) hb); have n2_ := Aside0.mk (Kd.R_below (by (with_reducible repeat (first | apply Kd.R_alloc | apply Kd.R_drewN | apply Kd.R_drew)); exact HO562.out) hb); have n3_ := Aside0.mk (Kd.R_below (by (with_reducible repeat (first | apply Kd.R_alloc | apply Kd.R_drewN | apply Kd.R_drew)); exact HO565.out) hb); have n4_ := Aside0.mk (blk_below (g := gb542) (o := .cells #[.slice none 0 0, .slice none 0 0] 29 (0, 0)) (by (with_reducible repeat (first | refine blk_drewN ?_ _ | refine blk_drew ?_ | refine blk_alloc ?_ _)); exact BK542.out) hb); have n5_ := Aside0.mk (below_step (by repeat (first | (with_reducible first | exact HB.out | apply below_alloc | apply pw_below_drewN | apply below_drew1 | refine below_set ?_ GE542.out) | exact HB.out)) hb); have n6_ := Aside0.mk (hbox); have n7_ := Aside0.mk ((by rw [hg]; exact (below_size (by repeat (first | (with_reducible first | exact HB.out | apply below_alloc | apply pw_below_drewN | apply below_drew1 | refine below_set ?_ GE542.out) | exact HB.out))) : w.heap.size ≤ gb567)); have n8_ := Aside0.mk ((by rw [hg]; exact (below_size (by repeat (first | (with_reducible first | exact HB.out | apply below_alloc | apply pw_below_drewN | apply below_drew1 | refine below_set ?_ GE542.out) | exact HB.out))) : w.heap.size ≤ gb567)); have n9_ := Aside0.mk ((by rw [hg]; exact Nat.ne_of_lt (blk_lt (g := gb542) (o := .cells #[.slice none 0 0, .slice none 0 0] 29 (0, 0)) (by (with_reducible repeat (first | refine blk_drewN ?_ _ | refine blk_drew ?_ | refine blk_alloc ?_ _)); exact BK542.out)) : gb542 ≠ gb567)); have n10_ := Aside0.mk ((by rw [hg]; exact Nat.ne_of_gt (blk_lt (g := gb542) (o := .cells #[.slice none 0 0, .slice none 0 0] 29 (0, 0)) (by (with_reducible repeat (first | refine blk_drewN ?_ _ | refine blk_drew ?_ | refine blk_alloc ?_ _)); exact BK542.out)) : gb567 ≠ gb542)); clear HO_6; clear HO_8; clear HO562; clear HO565; clear BK542; clear HB; have HO_6 := n0_; have HO_8 := n1_; have HO562 := n2_; have HO565 := n3_; have BK542 := n4_; have HB := n5_; have BK567 := n6_; have GW567 := n7_; have GE567 := n8_; have NB542_567 := n9_; have NB567_542 := n10_; clear n0_ n1_ n2_ n3_ n4_ n5_ n6_ n7_ n8_ n9_ n10_; clear hb hbox hg; obtain ⟨Ao32, co32, eo32⟩ := Kd.R_slice HO562.out; subst eo32; have hnb33 := NB567_542.out; have hnc33 := NB542_567.out; have hcz34_0 : w31.cell? ⟨gb567, 0, none⟩ = some (.slice none 0 0) := (blk_cell BK567.out 0).trans rfl; have hcz34_1 : w31.cell? ⟨gb567, 1, none⟩ = some (.slice none 0 0) := (blk_cell BK567.out 1).trans rfl; have hfz34_0 := blk_frozen BK567.out 0; have hfz34_1 := blk_frozen BK567.out 1; obtain ⟨Ao35, co35, eo35⟩ := Kd.R_slice HO565.out; subst eo35; have hcz36_0 : w31.cell? ⟨gb542, 0, none⟩ = some (.slice none 0 0) := (blk_cell BK542.out 0).trans rfl; have hcz36_1 : w31.cell? ⟨gb542, 1, none⟩ = some (.slice none 0 0) := (blk_cell BK542.out 1).trans rfl; have hfz36_0 := blk_frozen BK542.out 0; have hfz36_1 := blk_frozen BK542.out 1)))
                    refine bodyPost_ret (results_ctt rfl _ _ gb542 29 #[.slice Ao32 t560.length co32, .slice Ao35 t563.length co35] (0, 0) _ rfl (by (with_reducible repeat (first | refine blk_drewN ?_ _ | refine blk_drew ?_ | refine blk_alloc ?_ _)); refine blk_put (cs := #[.slice Ao32 t560.length co32, .slice none 0 0]) ?_ 1 _ rfl; (with_reducible repeat (first | refine blk_drewN ?_ _ | refine blk_drew ?_ | refine blk_alloc ?_ _)); refine blk_put (cs := #[.slice none 0 0, .slice none 0 0]) ?_ 0 _ rfl; (with_reducible repeat (first | refine blk_drewN ?_ _ | refine blk_drew ?_ | refine blk_alloc ?_ _)); refine blk_far ?_ NB542_567.out _; (with_reducible repeat (first | refine blk_drewN ?_ _ | refine blk_drew ?_ | refine blk_alloc ?_ _)); refine blk_far ?_ NB542_567.out _; (with_reducible repeat (first | refine blk_drewN ?_ _ | refine blk_drew ?_ | refine blk_alloc ?_ _)); exact BK542.out) Try.underlying29 rfl (by kernel_rfl)) rfl ?_
                    exact ⟨_, _, by first | rfl | (simp [errW_none, errW_some] <;> rfl) | (simp [*, errW_none, errW_some] <;> rfl), by (with_reducible repeat (first | apply Kd.R_alloc | apply Kd.R_drewN | apply Kd.R_drew)); exact Kd.R_mono (Kd.R_far (p := ⟨gb542, 1, none⟩) (Kd.R_far (p := ⟨gb542, 0, none⟩) (Kd.R_far (p := ⟨gb567, 1, none⟩) (Kd.R_far (p := ⟨gb567, 0, none⟩) (Kd.R_types (Kd.R_types HO562.out BK567.out (by decide)) BK542.out (by decide)) (fun _ hk => hk.1.2) (.slice Ao32 t560.length co32)) (fun _ hk => hk.1.2) (.slice Ao35 t563.length co35)) (fun _ hk => hk.2) (.slice Ao32 t560.length co32)) (fun _ hk => hk.2) (.slice Ao35 t563.length co35)) (fun _ hk => trivial), by (with_reducible repeat (first | apply Kd.R_alloc | apply Kd.R_drewN | apply Kd.R_drew)); exact Kd.R_mono (Kd.R_far (p := ⟨gb542, 1, none⟩) (Kd.R_far (p := ⟨gb542, 0, none⟩) (Kd.R_far (p := ⟨gb567, 1, none⟩) (Kd.R_far (p := ⟨gb567, 0, none⟩) (Kd.R_types (Kd.R_types HO565.out BK567.out (by decide)) BK542.out (by decide)) (fun _ hk => hk.1.2) (.slice Ao32 t560.length co32)) (fun _ hk => hk.1.2) (.slice Ao35 t563.length co35)) (fun _ hk => hk.2) (.slice Ao32 t560.length co32)) (fun _ hk => hk.2) (.slice Ao35 t563.length co35)) (fun _ hk => trivial), by repeat (first | (with_reducible first | exact HB.out | apply below_alloc | apply pw_below_drewN | apply below_drew1 | refine below_set ?_ GE542.out | refine below_set ?_ GE567.out) | exact HB.out)⟩
                  · rw [if_neg c29] at H
                    have c29b0 : (t566 == 0) = false := beq_eq_false_iff_ne.mpr c29
                    have c29b1 : (t566 != 0) = true := bne_iff_ne.mpr c29
                    simp only [Option.some.injEq, Prod.mk.injEq] at H
                    obtain ⟨rfl, rfl, rfl, rfl⟩ := H
                    go_wp2_with (first | (go_at_call 28; (with_reducible refine (frame_Decode.calls k2 _ _ y548 t560 t563 t566 _ ?side1 ?side2 A28.out).mono ?_); (case side1 => repeat (first | exact (Kd.V_reads' HO_8.out).2.2 | (with_reducible refine Kd.C_alloc ?_ _) | (with_reducible refine Kd.C_drewN ?_ _) | (with_reducible refine Kd.C_drew ?_))); (case side2 => exact (Kd.V_reads' HO_8.out).2.1); rintro e w37 ⟨v561, v564, rfl, ho0, ho1, hb⟩; have n0_ := Aside0.mk (Kd.V_mono (Kd.V_told (Kd.V_told (Kd.V_old (by (with_reducible repeat (first | apply Kd.V_alloc | apply Kd.V_drewN | apply Kd.V_drew)); exact HO_6.out) hb) (Kd.R_base ho0)) (Kd.R_base ho1)) (fun _ h_ => h_.1)); have n1_ := Aside0.mk (Kd.V_mono (Kd.V_told (Kd.V_told (Kd.V_old (by (with_reducible repeat (first | apply Kd.V_alloc | apply Kd.V_drewN | apply Kd.V_drew)); exact HO_8.out) hb) (Kd.R_base ho0)) (Kd.R_base ho1)) (fun _ h_ => h_.1)); have n2_ := Aside0.mk (Kd.R_lower ho0 (below_size (by repeat (first | (with_reducible first | exact HB.out | apply below_alloc | apply pw_below_drewN | apply below_drew1 | refine below_set ?_ GE542.out) | exact HB.out)))); have n3_ := Aside0.mk (Kd.R_lower ho1 (below_size (by repeat (first | (with_reducible first | exact HB.out | apply below_alloc | apply pw_below_drewN | apply below_drew1 | refine below_set ?_ GE542.out) | exact HB.out)))); have n4_ := Aside0.mk (blk_below (g := gb542) (o := .cells #[.slice none 0 0, .slice none 0 0] 29 (0, 0)) (by (with_reducible repeat (first | refine blk_drewN ?_ _ | refine blk_drew ?_ | refine blk_alloc ?_ _)); exact BK542.out) hb); have n5_ := Aside0.mk (below_step (by repeat (first | (with_reducible first | exact HB.out | apply below_alloc | apply pw_below_drewN | apply below_drew1 | refine below_set ?_ GE542.out) | exact HB.out)) hb); clear HO_6; clear HO_8; clear BK542; clear HB; have HO_6 := n0_; have HO_8 := n1_; have HO562 := n2_; have HO565 := n3_; have BK542 := n4_; have HB := n5_; clear n0_ n1_ n2_ n3_ n4_ n5_; (try clear hb); (try clear hb2); (try clear hk); (try clear hi); (try clear ho0); (try clear ho1)) | ((with_reducible refine gate_dst (N := 11) rfl ?_); (try (refine gate_guard (by rfl) ?_; dsimp only)); refine box_event ?hg (N := 11) ?hd (cs := #[.slice none 0 0, .slice none 0 0]) (t := 29) ?hr ?_; (case hd => rfl); (case hg => rfl); (case hr => first | (go_simp; done) | (go_simp; rfl)); intro gb567 hg w38 hbox hb; have n0_ := Aside0.mk (Kd.V_below (Kd.V_elderB (by (with_reducible repeat (first | apply Kd.V_alloc | apply Kd.V_drewN | apply Kd.V_drew)); exact HO_6.out) gb567 (Nat.le_of_eq hg.symm)) hb); have n1_ := Aside0.mk (Kd.V_below (Kd.V_elderB (by (with_reducible repeat (first | apply Kd.V_alloc | apply Kd.V_drewN | apply Kd.V_drew)); exact HO_8.out) gb567 (Nat.le_of_eq hg.symm)) hb); have n2_ := Aside0.mk (Kd.R_below (by (with_reducible repeat (first | apply Kd.R_alloc | apply Kd.R_drewN | apply Kd.R_drew)); exact HO562.out) hb); have n3_ := Aside0.mk (Kd.R_below (by (with_reducible repeat (first | apply Kd.R_alloc | apply Kd.R_drewN | apply Kd.R_drew)); exact HO565.out) hb); have n4_ := Aside0.mk (blk_below (g := gb542) (o := .cells #[.slice none 0 0, .slice none 0 0] 29 (0, 0)) (by (with_reducible repeat (first | refine blk_drewN ?_ _ | refine blk_drew ?_ | refine blk_alloc ?_ _)); exact BK542.out) hb); have n5_ := Aside0.mk (below_step (by repeat (first | (with_reducible first | exact HB.out | apply below_alloc | apply pw_below_drewN | apply below_drew1 | refine below_set ?_ GE542.out) | exact HB.out)) hb); have n6_ := Aside0.mk (hbox); have n7_ := Aside0.mk ((by rw [hg]; exact (below_size (by repeat (first | (with_reducible first | exact HB.out | apply below_alloc | apply pw_below_drewN | apply below_drew1 | refine below_set ?_ GE542.out) | exact HB.out))) : w.heap.size ≤ gb567)); have n8_ := Aside0.mk ((by rw [hg]; exact (below_size (by repeat (first | (with_reducible first | exact HB.out | apply below_alloc | apply pw_below_drewN | apply below_drew1 | refine below_set ?_ GE542.out) | exact HB.out))) : w.heap.size ≤ gb567)); have n9_ := Aside0.mk ((by rw [hg]; exact Nat.ne_of_lt (blk_lt (g := gb542) (o := .cells #[.slice none 0 0, .slice none 0 0] 29 (0, 0)) (by (with_reducible repeat (first | refine blk_drewN ?_ _ | refine blk_drew ?_ | refine blk_alloc ?_ _)); exact BK542.out)) : gb542 ≠ gb567)); have n10_ := Aside0.mk ((by rw [hg]; exact Nat.ne_of_gt (blk_lt (g := gb542) (o := .cells #[.slice none 0 0, .slice none 0 0] 29 (0, 0)) (by (with_reducible repeat (first | refine blk_drewN ?_ _ | refine blk_drew ?_ | refine blk_alloc ?_ _)); exact BK542.out)) : gb567 ≠ gb542)); clear HO_6; clear HO_8; clear HO562; clear HO565; clear BK542; clear HB; have HO_6 := n0_; have HO_8 := n1_; have HO562 := n2_; have HO565 := n3_; have BK542 := n4_; have HB := n5_; have BK567 := n6_; have GW567 := n7_; have GE567 := n8_; have NB542_567 := n9_; have NB567_542 := n10_; clear n0_ n1_ n2_ n3_ n4_ n5_ n6_ n7_ n8_ n9_ n10_; clear hb hbox hg; obtain ⟨Ao39, co39, eo39⟩ := Kd.R_slice HO562.out; subst eo39; have hnb40 := NB567_542.out; have hnc40 := NB542_567.out; have hcz41_0 : w38.cell? ⟨gb567, 0, none⟩ = some (.slice none 0 0) := (blk_cell BK567.out 0).trans rfl; have hcz41_1 : w38.cell? ⟨gb567, 1, none⟩ = some (.slice none 0 0) := (blk_cell BK567.out 1).trans rfl; have hfz41_0 := blk_frozen BK567.out 0; have hfz41_1 := blk_frozen BK567.out 1; obtain ⟨Ao42, co42, eo42⟩ := Kd.R_slice HO565.out; subst eo42; have hcz43_0 : w38.cell? ⟨gb542, 0, none⟩ = some (.slice none 0 0) := (blk_cell BK542.out 0).trans rfl; have hcz43_1 : w38.cell? ⟨gb542, 1, none⟩ = some (.slice none 0 0) := (blk_cell BK542.out 1).trans rfl; have hfz43_0 := blk_frozen BK542.out 0; have hfz43_1 := blk_frozen BK542.out 1))
                    repeat (go_quiet (first | (go_at_call 28; (with_reducible refine (frame_Decode.calls k2 _ _ y548 t560 t563 t566 _ ?side1 ?side2 A28.out).mono ?_); (case side1 => repeat (first | exact (Kd.V_reads' HO_8.out).2.2 | (with_reducible refine Kd.C_alloc ?_ _) | (with_reducible refine Kd.C_drewN ?_ _) | (with_reducible refine Kd.C_drew ?_))); (case side2 => exact (Kd.V_reads' HO_8.out).2.1); rintro e w37 ⟨v561, v564, rfl, ho0, ho1, hb⟩; have n0_ := Aside0.mk (Kd.V_mono (Kd.V_told (Kd.V_told (Kd.V_old (by (with_reducible repeat (first | apply Kd.V_alloc | apply Kd.V_drewN | apply Kd.V_drew)); exact HO_6.out) hb) (Kd.R_base ho0)) (Kd.R_base ho1)) (fun _ h_ => h_.1)); have n1_ := Aside0.mk (Kd.V_mono (Kd.V_told (Kd.V_told (Kd.V_old (by (with_reducible repeat (first | apply Kd.V_alloc | apply Kd.V_drewN | apply Kd.V_drew)); exact HO_8.out) hb) (Kd.R_base ho0)) (Kd.R_base ho1)) (fun _ h_ => h_.1)); have n2_ := Aside0.mk (Kd.R_lower ho0 (below_size (by repeat (first | (with_reducible first | exact HB.out | apply below_alloc | apply pw_below_drewN | apply below_drew1 | refine below_set ?_ GE542.out) | exact HB.out)))); have n3_ := Aside0.mk (Kd.R_lower ho1 (below_size (by repeat (first | (with_reducible first | exact HB.out | apply below_alloc | apply pw_below_drewN | apply below_drew1 | refine below_set ?_ GE542.out) | exact HB.out)))); have n4_ := Aside0.mk (blk_below (g := gb542) (o := .cells #[.slice none 0 0, .slice none 0 0] 29 (0, 0)) (by (with_reducible repeat (first | refine blk_drewN ?_ _ | refine blk_drew ?_ | refine blk_alloc ?_ _)); exact BK542.out) hb); have n5_ := Aside0.mk (below_step (by repeat (first | (with_reducible first | exact HB.out | apply below_alloc | apply pw_below_drewN | apply below_drew1 | refine below_set ?_ GE542.out) | exact HB.out)) hb); clear HO_6; clear HO_8; clear BK542; clear HB; have HO_6 := n0_; have HO_8 := n1_; have HO562 := n2_; have HO565 := n3_; have BK542 := n4_; have HB := n5_; clear n0_ n1_ n2_ n3_ n4_ n5_; (try clear hb); (try clear hb2); (try clear hk); (try clear hi); (try clear ho0); (try clear ho1)) | ((with_reducible refine gate_dst (N := 11) rfl ?_); (try (refine gate_guard (by rfl) ?_; dsimp only)); refine box_event ?hg (N := 11) ?hd (cs := #[.slice none 0 0, .slice none 0 0]) (t := 29) ?hr ?_; (case hd => rfl); (case hg => rfl); (case hr => first | (go_simp; done) | (go_simp; rfl)); intro gb567 hg w38 hbox hb; have n0_ := Aside0.mk (Kd.V_below (Kd.V_elderB (by (with_reducible repeat (first | apply Kd.V_alloc | apply Kd.V_drewN | apply Kd.V_drew)); exact HO_6.out) gb567 (Nat.le_of_eq hg.symm)) hb); have n1_ := Aside0.mk (Kd.V_below (Kd.V_elderB (by (with_reducible repeat (first | apply Kd.V_alloc | apply Kd.V_drewN | apply Kd.V_drew)); exact HO_8.out) gb567 (Nat.le_of_eq hg.symm)) hb); have n2_ := Aside0.mk (Kd.R_below (by (with_reducible repeat (first | apply Kd.R_alloc | apply Kd.R_drewN | apply Kd.R_drew)); exact HO562.out) hb); have n3_ := Aside0.mk (Kd.R_below (by (with_reducible repeat (first | apply Kd.R_alloc | apply Kd.R_drewN | apply Kd.R_drew)); exact HO565.out) hb); have n4_ := Aside0.mk (blk_below (g := gb542) (o := .cells #[.slice none 0 0, .slice none 0 0] 29 (0, 0)) (by (with_reducible repeat (first | refine blk_drewN ?_ _ | refine blk_drew ?_ | refine blk_alloc ?_ _)); exact BK542.out) hb); have n5_ := Aside0.mk (below_step (by repeat (first | (with_reducible first | exact HB.out | apply below_alloc | apply pw_below_drewN | apply below_drew1 | refine below_set ?_ GE542.out) | exact HB.out)) hb); have n6_ := Aside0.mk (hbox); have n7_ := Aside0.mk ((by rw [hg]; exact (below_size (by repeat (first | (with_reducible first | exact HB.out | apply below_alloc | apply pw_below_drewN | apply below_drew1 | refine below_set ?_ GE542.out) | exact HB.out))) : w.heap.size ≤ gb567)); have n8_ := Aside0.mk ((by rw [hg]; exact (below_size (by repeat (first | (with_reducible first | exact HB.out | apply below_alloc | apply pw_below_drewN | apply below_drew1 | refine below_set ?_ GE542.out) | exact HB.out))) : w.heap.size ≤ gb567)); have n9_ := Aside0.mk ((by rw [hg]; exact Nat.ne_of_lt (blk_lt (g := gb542) (o := .cells #[.slice none 0 0, .slice none 0 0] 29 (0, 0)) (by (with_reducible repeat (first | refine blk_drewN ?_ _ | refine blk_drew ?_ | refine blk_alloc ?_ _)); exact BK542.out)) : gb542 ≠ gb567)); have n10_ := Aside0.mk ((by rw [hg]; exact Nat.ne_of_gt (blk_lt (g := gb542) (o := .cells #[.slice none 0 0, .slice none 0 0] 29 (0, 0)) (by (with_reducible repeat (first | refine blk_drewN ?_ _ | refine blk_drew ?_ | refine blk_alloc ?_ _)); exact BK542.out)) : gb567 ≠ gb542)); clear HO_6; clear HO_8; clear HO562; clear HO565; clear BK542; clear HB; have HO_6 := n0_; have HO_8 := n1_; have HO562 := n2_; have HO565 := n3_; have BK542 := n4_; have HB := n5_; have BK567 := n6_; have GW567 := n7_; have GE567 := n8_; have NB542_567 := n9_; have NB567_542 := n10_; clear n0_ n1_ n2_ n3_ n4_ n5_ n6_ n7_ n8_ n9_ n10_; clear hb hbox hg; obtain ⟨Ao39, co39, eo39⟩ := Kd.R_slice HO562.out; subst eo39; have hnb40 := NB567_542.out; have hnc40 := NB542_567.out; have hcz41_0 : w38.cell? ⟨gb567, 0, none⟩ = some (.slice none 0 0) := (blk_cell BK567.out 0).trans rfl; have hcz41_1 : w38.cell? ⟨gb567, 1, none⟩ = some (.slice none 0 0) := (blk_cell BK567.out 1).trans rfl; have hfz41_0 := blk_frozen BK567.out 0; have hfz41_1 := blk_frozen BK567.out 1; obtain ⟨Ao42, co42, eo42⟩ := Kd.R_slice HO565.out; subst eo42; have hcz43_0 : w38.cell? ⟨gb542, 0, none⟩ = some (.slice none 0 0) := (blk_cell BK542.out 0).trans rfl; have hcz43_1 : w38.cell? ⟨gb542, 1, none⟩ = some (.slice none 0 0) := (blk_cell BK542.out 1).trans rfl; have hfz43_0 := blk_frozen BK542.out 0; have hfz43_1 := blk_frozen BK542.out 1)); try go_wp2_with (first | (go_at_call 28; (with_reducible refine (frame_Decode.calls k2 _ _ y548 t560 t563 t566 _ ?side1 ?side2 A28.out).mono ?_); (case side1 => repeat (first | exact (Kd.V_reads' HO_8.out).2.2 | (with_reducible refine Kd.C_alloc ?_ _) | (with_reducible refine Kd.C_drewN ?_ _) | (with_reducible refine Kd.C_drew ?_))); (case side2 => exact (Kd.V_reads' HO_8.out).2.1); rintro e w37 ⟨v561, v564, rfl, ho0, ho1, hb⟩; have n0_ := Aside0.mk (Kd.V_mono (Kd.V_told (Kd.V_told (Kd.V_old (by (with_reducible repeat (first | apply Kd.V_alloc | apply Kd.V_drewN | apply Kd.V_drew)); exact HO_6.out) hb) (Kd.R_base ho0)) (Kd.R_base ho1)) (fun _ h_ => h_.1)); have n1_ := Aside0.mk (Kd.V_mono (Kd.V_told (Kd.V_told (Kd.V_old (by (with_reducible repeat (first | apply Kd.V_alloc | apply Kd.V_drewN | apply Kd.V_drew)); exact HO_8.out) hb) (Kd.R_base ho0)) (Kd.R_base ho1)) (fun _ h_ => h_.1)); have n2_ := Aside0.mk (Kd.R_lower ho0 (below_size (by repeat (first | (with_reducible first | exact HB.out | apply below_alloc | apply pw_below_drewN | apply below_drew1 | refine below_set ?_ GE542.out) | exact HB.out)))); have n3_ := Aside0.mk (Kd.R_lower ho1 (below_size (by repeat (first | (with_reducible first | exact HB.out | apply below_alloc | apply pw_below_drewN | apply below_drew1 | refine below_set ?_ GE542.out) | exact HB.out)))); have n4_ := Aside0.mk (blk_below (g := gb542) (o := .cells #[.slice none 0 0, .slice none 0 0] 29 (0, 0)) (by (with_reducible repeat (first | refine blk_drewN ?_ _ | refine blk_drew ?_ | refine blk_alloc ?_ _)); exact BK542.out) hb); have n5_ := Aside0.mk (below_step (by repeat (first | (with_reducible first | exact HB.out | apply below_alloc | apply pw_below_drewN | apply below_drew1 | refine below_set ?_ GE542.out) | exact HB.out)) hb); clear HO_6; clear HO_8; clear BK542; clear HB; have HO_6 := n0_; have HO_8 := n1_; have HO562 := n2_; have HO565 := n3_; have BK542 := n4_; have HB := n5_; clear n0_ n1_ n2_ n3_ n4_ n5_; (try clear hb); (try clear hb2); (try clear hk); (try clear hi); (try clear ho0); (try clear ho1)) | ((with_reducible refine gate_dst (N := 11) rfl ?_); (try (refine gate_guard (by rfl) ?_; dsimp only)); refine box_event ?hg (N := 11) ?hd (cs := #[.slice none 0 0, .slice none 0 0]) (t := 29) ?hr ?_; (case hd => rfl); (case hg => rfl); (case hr => first | (go_simp; done) | (go_simp; rfl)); intro gb567 hg w38 hbox hb; have n0_ := Aside0.mk (Kd.V_below (Kd.V_elderB (by (with_reducible repeat (first | apply Kd.V_alloc | apply Kd.V_drewN | apply Kd.V_drew)); exact HO_6.out) gb567 (Nat.le_of_eq hg.symm)) hb); have n1_ := Aside0.mk (Kd.V_below (Kd.V_elderB (by (with_reducible repeat (first | apply Kd.V_alloc | apply Kd.V_drewN | apply Kd.V_drew)); exact HO_8.out) gb567 (Nat.le_of_eq hg.symm)) hb); have n2_ := Aside0.mk (Kd.R_below (by (with_reducible repeat (first | apply Kd.R_alloc | apply Kd.R_drewN | apply Kd.R_drew)); exact HO562.out) hb); have n3_ := Aside0.mk (Kd.R_below (by (with_reducible repeat (first | apply Kd.R_alloc | apply Kd.R_drewN | apply Kd.R_drew)); exact HO565.out) hb); have n4_ := Aside0.mk (blk_below (g := gb542) (o := .cells #[.slice none 0 0, .slice none 0 0] 29 (0, 0)) (by (with_reducible repeat (first | refine blk_drewN ?_ _ | refine blk_drew ?_ | refine blk_alloc ?_ _)); exact BK542.out) hb); have n5_ := Aside0.mk (below_step (by repeat (first | (with_reducible first | exact HB.out | apply below_alloc | apply pw_below_drewN | apply below_drew1 | refine below_set ?_ GE542.out) | exact HB.out)) hb); have n6_ := Aside0.mk (hbox); have n7_ := Aside0.mk ((by rw [hg]; exact (below_size (by repeat (first | (with_reducible first | exact HB.out | apply below_alloc | apply pw_below_drewN | apply below_drew1 | refine below_set ?_ GE542.out) | exact HB.out))) : w.heap.size ≤ gb567)); have n8_ := Aside0.mk ((by rw [hg]; exact (below_size (by repeat (first | (with_reducible first | exact HB.out | apply below_alloc | apply pw_below_drewN | apply below_drew1 | refine below_set ?_ GE542.out) | exact HB.out))) : w.heap.size ≤ gb567)); have n9_ := Aside0.mk ((by rw [hg]; exact Nat.ne_of_lt (blk_lt (g := gb542) (o := .cells #[.slice none 0 0, .slice none 0 0] 29 (0, 0)) (by (with_reducible repeat (first | refine blk_drewN ?_ _ | refine blk_drew ?_ | refine blk_alloc ?_ _)); exact BK542.out)) : gb542 ≠ gb567)); have n10_ := Aside0.mk ((by rw [hg]; exact Nat.ne_of_gt (blk_lt (g := gb542) (o := .cells #[.slice none 0 0, .slice none 0 0] 29 (0, 0)) (by (with_reducible repeat (first | refine blk_drewN ?_ _ | refine blk_drew ?_ | refine blk_alloc ?_ _)); exact BK542.out)) : gb567 ≠ gb542)); clear HO_6; clear HO_8; clear HO562; clear HO565; clear BK542; clear HB; have HO_6 := n0_; have HO_8 := n1_; have HO562 := n2_; have HO565 := n3_; have BK542 := n4_; have HB := n5_; have BK567 := n6_; have GW567 := n7_; have GE567 := n8_; have NB542_567 := n9_; have NB567_542 := n10_; clear n0_ n1_ n2_ n3_ n4_ n5_ n6_ n7_ n8_ n9_ n10_; clear hb hbox hg; obtain ⟨Ao39, co39, eo39⟩ := Kd.R_slice HO562.out; subst eo39; have hnb40 := NB567_542.out; have hnc40 := NB542_567.out; have hcz41_0 : w38.cell? ⟨gb567, 0, none⟩ = some (.slice none 0 0) := (blk_cell BK567.out 0).trans rfl; have hcz41_1 : w38.cell? ⟨gb567, 1, none⟩ = some (.slice none 0 0) := (blk_cell BK567.out 1).trans rfl; have hfz41_0 := blk_frozen BK567.out 0; have hfz41_1 := blk_frozen BK567.out 1; obtain ⟨Ao42, co42, eo42⟩ := Kd.R_slice HO565.out; subst eo42; have hcz43_0 : w38.cell? ⟨gb542, 0, none⟩ = some (.slice none 0 0) := (blk_cell BK542.out 0).trans rfl; have hcz43_1 : w38.cell? ⟨gb542, 1, none⟩ = some (.slice none 0 0) := (blk_cell BK542.out 1).trans rfl; have hfz43_0 := blk_frozen BK542.out 0; have hfz43_1 := blk_frozen BK542.out 1)))
                    refine bodyPost_ret (results_ctt rfl _ _ gb542 29 #[.slice none 0 0, .slice none 0 0] (0, 0) _ rfl (by (with_reducible repeat (first | refine blk_drewN ?_ _ | refine blk_drew ?_ | refine blk_alloc ?_ _)); refine blk_put (cs := #[.slice none 0 0, .slice none 0 0]) ?_ 1 _ rfl; (with_reducible repeat (first | refine blk_drewN ?_ _ | refine blk_drew ?_ | refine blk_alloc ?_ _)); refine blk_put (cs := #[.slice none 0 0, .slice none 0 0]) ?_ 0 _ rfl; (with_reducible repeat (first | refine blk_drewN ?_ _ | refine blk_drew ?_ | refine blk_alloc ?_ _)); refine blk_far ?_ NB542_567.out _; (with_reducible repeat (first | refine blk_drewN ?_ _ | refine blk_drew ?_ | refine blk_alloc ?_ _)); refine blk_far ?_ NB542_567.out _; (with_reducible repeat (first | refine blk_drewN ?_ _ | refine blk_drew ?_ | refine blk_alloc ?_ _)); exact BK542.out) Try.underlying29 rfl (by kernel_rfl)) rfl ?_
                    exact ⟨_, _, by first | rfl | (simp [errW_none, errW_some] <;> rfl) | (simp [*, errW_none, errW_some] <;> rfl), by first | exact Kd.R_nil _ _ _ _ _ | exact Kd.N_nil _ _ _ _ _ | exact Kd.V_nil _ _ _ _ _ | exact Kd.Q_nil _ _ _ _ _ | exact Kd.S_nil _ _ _ _ _, by first | exact Kd.R_nil _ _ _ _ _ | exact Kd.N_nil _ _ _ _ _ | exact Kd.V_nil _ _ _ _ _ | exact Kd.Q_nil _ _ _ _ _ | exact Kd.S_nil _ _ _ _ _, by repeat (first | (with_reducible first | exact HB.out | apply below_alloc | apply pw_below_drewN | apply below_drew1 | refine below_set ?_ GE542.out | refine below_set ?_ GE567.out) | exact HB.out)⟩
          · rw [if_neg c12] at H
            exact absurd H (by simp)
        · rw [if_neg c11] at H
          exact absurd H (by simp)
end Go.Proofs.Ytlpohipneianjaa.G
end
section
set_option linter.unusedVariables false
set_option linter.unusedSimpArgs false
namespace Go.Proofs.Ytlpohipneianjaa.G
open Go Go.RowKit Go.Proofs.YtlpohipneianjaaW.PrintWords Go.Proofs.YtlpohipneianjaaW.PrintLast Go.Proofs.YtlpohipneianjaaW.PrintMore
theorem C_new_bytes (W : World) (e : TypeId) (fr : Nat × Nat) (xs : List Int) (h : xs.length ≤ 9223372036854775807) :
    Kd.C (Kd.int .u8) (W.alloc (.cells (xs.map (Value.int .u8)).toArray e fr)) (some ⟨W.heap.size, 0, none⟩) xs.length xs := by
  refine ⟨rfl, h, fun _ => ⟨_, rfl, fun j p hj => ⟨[.int .u8 p], rfl, rfl, fun i u hu => ?_⟩⟩⟩
  have hi : i = 0 := by
    rcases Nat.eq_zero_or_pos i with h | h
    · exact h
    · rw [List.getElem?_eq_none (by simp; omega)] at hu; cases hu
  subst hi
  simp at hu
  subst hu
  show (W.alloc _).cell? ((⟨W.heap.size, 0, none⟩ : Addr).add (j * 1 + 0)) = _
  rw [add_plain]
  have hb : (W.alloc (.cells (xs.map (Value.int .u8)).toArray e fr)).heap[W.heap.size]? = some (.cells (xs.map (Value.int .u8)).toArray e fr) := by
    show (W.heap.push _)[W.heap.size]? = _
    simp
  unfold World.cell?
  rw [hb]
  simp [hj]
def windroselaw02_awake.f (k : Nat) : Option Bool :=
  if frame_Encode.f k [5] [(⟨#[97]⟩ : ByteArray)] = some ([1, 10, 1, 1, 97], 0) ∧ frame_Sum.f k [49, 50, 51, 52, 53, 54, 55, 56, 57] = some 783370361 then some true else none
set_option maxHeartbeats 8000000 in
set_option maxRecDepth 100000 in
theorem windroselaw02_awake.calls (k : Nat) (r : Bool) (w : World) (h : windroselaw02_awake.f k = some r) :
    Calls Try.prog 15 #[] w fun e w' => e = .returned (.bool r) ∧ Below w.heap.size w w' := by
  unfold windroselaw02_awake.f at h
  split at h
  case isFalse => cases h
  case isTrue hc =>
  obtain rfl := Option.some.inj h
  obtain ⟨y159, hy159⟩ : ∃ y_ : List Int, y_ = ([5] : List Int) := ⟨_, rfl⟩
  obtain ⟨y162, hy162⟩ : ∃ y_ : List ByteArray, y_ = ([(⟨#[97]⟩ : ByteArray)] : List ByteArray) := ⟨_, rfl⟩
  obtain ⟨y169, hy169⟩ : ∃ y_ : List Int, y_ = ([49, 50, 51, 52, 53, 54, 55, 56, 57] : List Int) := ⟨_, rfl⟩
  obtain ⟨t165, ht165⟩ : ∃ y_ : List Int, y_ = ([1, 10, 1, 1, 97] : List Int) := ⟨_, rfl⟩
  rw [← hy159, ← hy162, ← hy169, ← ht165] at hc
  have A1 := Aside0.mk hc.1
  have A2 := Aside0.mk hc.2
  have Ny159 := Aside0.mk hy159
  have Ny162 := Aside0.mk hy162
  have Ny169 := Aside0.mk hy169
  have Nt165 := Aside0.mk ht165
  have n169 : y169.length = 9 := by rw [hy169]; rfl
  have hstr : (strOfNums t165).toList = ([1, 10, 1, 1, 97] : List UInt8) := by rw [ht165]; decide +kernel
  have N169 := Aside0.mk n169
  clear hy159 hy162 hy169 ht165 n169
  clear hc h
  have HB := Aside0.mk (Below.refl w.heap.size w)
  have kc := fun (w : World) (C : Array Value) (n c : Nat) => Lib.run_convert_bytes_const (P := Try.prog) w 22 5 C n c Try.underlying22 Try.underlying5
  go_enter Try.func15, Try.ntmps15
  go_wp2_with (first
    | ((with_reducible refine gate_dst (N := 4) rfl ?_); refine Kd.R_lit (Kd.int .i64) _ 3 ?hg (N := 4) ?hd (xs := ([5] : List Int)) (inner := [.int .i64 5]) (ok := fun _ => True) (okp := fun _ => True) ?hr ?hp (fun _ hk => hk) trivial (Below.refl _ _) (Nat.le_refl _) (by simp) ?_; (case hd => rfl); (case hg => rfl); (case hr => first | (go_simp; done) | (go_simp; rfl)); (case hp => exact (Reps.one (show Kd.M (Kd.int .i64) _ _ _ 5 [.int .i64 5] from rfl) (Reps.none _ _))); intro v160 w5 ho6 hb hg_ hnew_; clear hg_ hnew_; rw [← Ny159.out] at ho6; have n0_ := Aside0.mk (Kd.R_lower ho6 HB.out.size); have n1_ := Aside0.mk (below_step HB.out hb); clear HB; have HO161 := n0_; have HB := n1_; clear n0_ n1_; clear hb ho6)
    | ((with_reducible refine gate_dst (N := 5) rfl ?_); refine Kd.R_lit Kd.string _ 9 ?hg (N := 5) ?hd (xs := ([(⟨#[97]⟩ : ByteArray)] : List ByteArray)) (inner := [.string (⟨#[97]⟩ : ByteArray)]) (ok := fun _ => True) (okp := fun _ => True) ?hr ?hp (fun _ hk => hk) trivial (Below.refl _ _) (Nat.le_refl _) (by simp) ?_; (case hd => rfl); (case hg => rfl); (case hr => first | (go_simp; done) | (go_simp; rfl)); (case hp => exact (Reps.one (show Kd.M Kd.string _ _ _ (⟨#[97]⟩ : ByteArray) [.string (⟨#[97]⟩ : ByteArray)] from rfl) (Reps.none _ _))); intro v163 w7 ho8 hb hg_ hnew_; clear hg_ hnew_; rw [← Ny162.out] at ho8; have n0_ := Aside0.mk (Kd.R_below HO161.out hb); have n1_ := Aside0.mk (Kd.R_lower ho8 HB.out.size); have n2_ := Aside0.mk (below_step HB.out hb); clear HO161; clear HB; have HO161 := n0_; have HO164 := n1_; have HB := n2_; clear n0_ n1_ n2_; clear hb ho8; obtain ⟨Ao9, co9, eo9⟩ := Kd.R_slice HO164.out; subst eo9; obtain ⟨Ao10, co10, eo10⟩ := Kd.R_slice HO161.out; subst eo10)
    | ((with_reducible refine gate_callee (f := 24) rfl ?_); refine goesL_ (some 7) rfl rfl Try.func24 (by kernel_rfl) rfl #[.agg #[.slice Ao10 y159.length co10, .slice Ao9 y162.length co9]] rfl (by (try simp only [List.map_toArray, List.map_cons, List.map_nil]); first | done | rfl) ?_; (with_reducible refine (frame_Encode.calls k _ _ y159 _ _ y162 t165 0 _ ?side1 ?side2 ?side3 ?side4 A1.out).mono ?_); (case side1 => exact (Kd.R_reads' HO161.out).2.2); (case side2 => exact (Kd.R_reads' HO161.out).2.1); (case side3 => exact (Kd.R_reads' HO164.out).2.2); (case side4 => exact (Kd.R_reads' HO164.out).2.1); rintro e w11 ⟨v166, rfl, ho0, hb⟩; refine ⟨_, rfl, ?_⟩; have n2_ := Aside0.mk (Kd.R_lower ho0 HB.out.size); have n3_ := Aside0.mk (below_step HB.out hb); clear HO161; clear HO164; clear HB; have HO167 := n2_; have HB := n3_; clear n2_ n3_; clear hb ho0)
    | ((with_reducible refine gate_callee (f := 25) rfl ?_); refine goesL_ (some 12) rfl rfl Try.func25 (by kernel_rfl) rfl #[.slice (some ⟨w11.heap.size, 0, none⟩) y169.length 9] rfl (by (try simp only [List.map_toArray, List.map_cons, List.map_nil]); rw [N169.out]; first | done | rfl) ?_; (with_reducible refine (frame_Sum.calls k _ 9 y169 783370361 _ ?side1 ?side2 A2.out).mono ?_); (case side1 => rw [Ny169.out]; exact C_new_bytes _ _ _ [49, 50, 51, 52, 53, 54, 55, 56, 57] (by decide)); (case side2 => rw [N169.out]; exact Nat.le_refl _); rintro e w' ⟨rfl, hdr⟩; refine ⟨_, rfl, ?_⟩; have hO2 := Kd.R_below (Kd.R_alloc HO167.out _) hdr.below; have hcv := own_string (P := Try.prog) Try.underlying22 Try.underlying5 Try.underlying9 (Kd.own_of_R hO2); have n1_ := Aside0.mk (below_step (below_alloc HB.out _) hdr.below); clear HB; have HB := n1_; clear n1_ hO2 hdr))
  go_ret
  exact ⟨rfl, HB.out⟩
end Go.Proofs.Ytlpohipneianjaa.G
end
section
namespace Go.Proofs.Ytlpohipneianjaa.G
open Go.RowKit Go.Proofs.YtlpohipneianjaaW.PrintWords Go.Proofs.YtlpohipneianjaaW.PrintLast Go.Proofs.YtlpohipneianjaaW.PrintMore
set_option linter.unusedVariables false
set_option linter.unusedSimpArgs false
mutual
def windroselaw02_FrameBursts.j0 : Nat → Int → Int → Bool → List Int → List ByteArray → Option (Bool)
  | 0, _, _, _, _, _ => none
  | k + 1, x1, x2, x25, x569000, x569001 => if x25 = true then ((windroselaw02_awake.f k).bind fun t571 => (some t571)) else ((frame_Frame.f k x569000 x569001).bind fun bt572 => ((windroseref02_Frame.f k x569000 x569001).bind fun t576 => (if bt572.2 = 0 then (windroselaw02_FrameBursts.j1 k x1 x2 bt572.1 t576 ((bt572.1.length : Int) != (t576.length : Int)) x569000 x569001) else (windroselaw02_FrameBursts.j1 k x1 x2 bt572.1 t576 true x569000 x569001))))
def windroselaw02_FrameBursts.j1 : Nat → Int → Int → List Int → List Int → Bool → List Int → List ByteArray → Option (Bool)
  | 0, _, _, _, _, _, _, _ => none
  | k + 1, x1, x2, x7, x9, x42, x569000, x569001 => if x42 = true then (some false) else ((windroseref02_Bytes.f k x569000 x569001).bind fun t579 => (if (wrap64 (8 * (wrap64 ((x7.length : Int) - (wrap64 ((wrap64 ((x9.length : Int) - 4)) - (t579.length : Int))))))) = 0 then (none) else (windroselaw02_FrameBursts.l0 k x2 x7 (wrap64 ((wrap64 ((x9.length : Int) - 4)) - (t579.length : Int))) (wrap64 (8 * (wrap64 ((x7.length : Int) - (wrap64 ((wrap64 ((x9.length : Int) - 4)) - (t579.length : Int))))))) (Int.tmod (wrap64 (x1)) (wrap64 (8 * (wrap64 ((x7.length : Int) - (wrap64 ((wrap64 ((x9.length : Int) - 4)) - (t579.length : Int)))))))) false 0)))
def windroselaw02_FrameBursts.l0 : Nat → Int → List Int → Int → Int → Int → Bool → Int → Option (Bool)
  | 0, _, _, _, _, _, _, _ => none
  | k + 1, x2, x7, x10, x11, x12, x13, x14 => if x14 < 32 then (windroselaw02_FrameBursts.j3 k x2 x7 x10 x11 x12 x13 x14 (decide ((wrap64 (x12 + x14)) < x11))) else (windroselaw02_FrameBursts.j3 k x2 x7 x10 x11 x12 x13 x14 false)
def windroselaw02_FrameBursts.j3 : Nat → Int → List Int → Int → Int → Int → Bool → Int → Bool → Option (Bool)
  | 0, _, _, _, _, _, _, _, _ => none
  | k + 1, x2, x7, x10, x11, x12, x13, x14, x67 => if x67 = true then (if 0 ≤ (IntKind.u64.wrap (x14)) then (if (Int.tmod (shr .u32 x2 (IntKind.u64.wrap (x14))) 2) = 1 then (if 0 ≤ (wrap64 (x10 + (wrap64 (Int.tdiv (wrap64 (x12 + x14)) 8)))) then (if (wrap64 (x10 + (wrap64 (Int.tdiv (wrap64 (x12 + x14)) 8)))) < (x7.length : Int) then (if 0 ≤ (IntKind.u64.wrap (wrap64 (7 - (Int.tmod (wrap64 (x12 + x14)) 8)))) then (windroselaw02_FrameBursts.l0 k x2 (x7.set ((wrap64 (x10 + (wrap64 (Int.tdiv (wrap64 (x12 + x14)) 8)))) : Int).toNat (Go.bits .xor .u8 (rd x7 (wrap64 (x10 + (wrap64 (Int.tdiv (wrap64 (x12 + x14)) 8))))) (shl .u8 1 (IntKind.u64.wrap (wrap64 (7 - (Int.tmod (wrap64 (x12 + x14)) 8))))))) x10 x11 x12 true (wrap64 (x14 + 1))) else (none)) else (none)) else (none)) else (windroselaw02_FrameBursts.l0 k x2 x7 x10 x11 x12 x13 (wrap64 (x14 + 1)))) else (none)) else ((frame_First.f k x7).bind fun bt584 => (if ((bt584.2.2.2 == 0) != x13) = true then ((windroselaw02_awake.f k).bind fun t593 => (some t593)) else (some false)))
end
def windroselaw02_FrameBursts.f (k : Nat) (l0_0 : List Int) (l0_1 : List ByteArray) (a1 : Int) (a2 : Int) : Option (Bool) := (windroselaw02_Light.f k l0_0 l0_1).bind fun t569 => (if t569 = true then ((windroseref02_May.f k l0_0 l0_1).bind fun t570 => (windroselaw02_FrameBursts.j0 k a1 a2 (!t570) l0_0 l0_1)) else (windroselaw02_FrameBursts.j0 k a1 a2 true l0_0 l0_1))
set_option maxHeartbeats 8000000 in
set_option maxRecDepth 100000 in
theorem windroselaw02_FrameBursts.calls (k : Nat) (A0_0 : Option Addr) (c0_0 : Nat) (l0_0 : List Int) (A0_1 : Option Addr) (c0_1 : Nat) (l0_1 : List ByteArray) (a1 : Int) (a2 : Int) (r : Bool) (w : World) (hr0_0 : Kd.C (Kd.int .i64) w A0_0 l0_0.length l0_0) (hc0_0 : l0_0.length ≤ c0_0) (hr0_1 : Kd.C Kd.string w A0_1 l0_1.length l0_1) (hc0_1 : l0_1.length ≤ c0_1) (h : windroselaw02_FrameBursts.f k l0_0 l0_1 a1 a2 = some r) :
    Calls Try.prog 9 #[.agg #[.slice A0_0 l0_0.length c0_0, .slice A0_1 l0_1.length c0_1], .int .u16 a1, .int .u32 a2] w fun e w' => e = .returned (.bool r) ∧ Below w.heap.size w w' := by
  have hu29 := Try.underlying29
  have HR0_0 := Aside0.mk hr0_0
  have HC0_0 := Aside0.mk hc0_0
  clear hr0_0 hc0_0
  have HR0_1 := Aside0.mk hr0_1
  have HC0_1 := Aside0.mk hc0_1
  clear hr0_1 hc0_1
  have HB := Aside0.mk (Below.refl w.heap.size w)
  have H : ((windroselaw02_Light.f k l0_0 l0_1).bind fun t569 => (if t569 = true then ((windroseref02_May.f k l0_0 l0_1).bind fun t570 => (windroselaw02_FrameBursts.j0 k a1 a2 (!t570) l0_0 l0_1)) else (windroselaw02_FrameBursts.j0 k a1 a2 true l0_0 l0_1))) = some r := h
  clear h
  have HC4 := Aside0.mk H
  clear H
  go_enter Try.func9, Try.ntmps9
  go_upto_region 1 with (first | ((with_reducible refine gate_dst (N := 3) rfl ?_); (try (refine gate_guard (by rfl) ?_; dsimp only)); refine box_event ?hg (N := 3) ?hd (cs := #[.slice A0_0 l0_0.length c0_0, .slice A0_1 l0_1.length c0_1]) (t := 29) ?hr ?_; (case hd => rfl); (case hg => rfl); (case hr => first | (go_simp; done) | (go_simp; rfl)); intro gb568 hg w5 hbox hb; have n0_ := Aside0.mk (below_step (by repeat (first | (with_reducible first | exact HB.out | apply below_alloc | apply pw_below_drewN | apply below_drew1) | exact HB.out)) hb); have n1_ := Aside0.mk (hbox); have n2_ := Aside0.mk ((by rw [hg]; exact (below_size (by repeat (first | (with_reducible first | exact HB.out | apply below_alloc | apply pw_below_drewN | apply below_drew1) | exact HB.out))) : w.heap.size ≤ gb568)); have n3_ := Aside0.mk ((by rw [hg]; exact (below_size (by repeat (first | (with_reducible first | exact HB.out | apply below_alloc | apply pw_below_drewN | apply below_drew1) | exact HB.out))) : w.heap.size ≤ gb568)); clear HB; have HB := n0_; have BK568 := n1_; have GW568 := n2_; have GE568 := n3_; clear n0_ n1_ n2_ n3_; clear hb hbox hg))
  (try simp only [Act.put, List.setIfInBounds_toArray, List.set_cons_zero, List.set_cons_succ])
  go_cut [25] (fun v25 wc => ∃ (kq : Nat) (x25_3 : Bool), v25 = .bool x25_3 ∧ Aside0 (windroselaw02_FrameBursts.j0 kq a1 a2 x25_3 l0_0 l0_1 = some r) ∧ Aside0 (kq ≤ k) ∧ Aside0 (wc.heap[gb568]? = some (.cells #[(.slice A0_0 l0_0.length c0_0), (.slice A0_1 l0_1.length c0_1)] 29 (0, 0))) ∧ Aside0 (Below w.heap.size w wc))
  case first =>
    have H := HC4.out
    clear HC4
    replace H := Option.bind_eq_some_iff.mp H
    obtain ⟨t569, A60, H⟩ := H
    replace H : (if t569 = true then ((windroseref02_May.f k l0_0 l0_1).bind fun t570 => (windroselaw02_FrameBursts.j0 k a1 a2 (!t570) l0_0 l0_1)) else (windroselaw02_FrameBursts.j0 k a1 a2 true l0_0 l0_1)) = some r := H
    have A6 := Aside0.mk A60
    clear A60
    by_cases c7 : t569 = true
    · subst c7
      have H1 : ((windroseref02_May.f k l0_0 l0_1).bind fun t570 => (windroselaw02_FrameBursts.j0 k a1 a2 (!t570) l0_0 l0_1)) = some r := by rw [if_pos rfl] at H; exact H
      clear H
      have H := H1
      clear H1
      replace H := Option.bind_eq_some_iff.mp H
      obtain ⟨t570, A80, H⟩ := H
      replace H : (windroselaw02_FrameBursts.j0 k a1 a2 (!t570) l0_0 l0_1) = some r := H
      have A8 := Aside0.mk A80
      clear A80
      have H' := Aside0.mk H
      clear H
      have hcz9_0 : w5.cell? ⟨gb568, 0, none⟩ = some (.slice A0_0 l0_0.length c0_0) := (blk_cell BK568.out 0).trans rfl
      have hcz9_1 : w5.cell? ⟨gb568, 1, none⟩ = some (.slice A0_1 l0_1.length c0_1) := (blk_cell BK568.out 1).trans rfl
      have hfz9_0 := blk_frozen BK568.out 0
      have hfz9_1 := blk_frozen BK568.out 1
      go_wp2_with (first | ((with_reducible refine gate_callee (f := 23) rfl ?_); refine goesL_ (some 19) rfl rfl Try.func23 (by kernel_rfl) rfl #[.agg #[.slice A0_0 l0_0.length c0_0, .slice A0_1 l0_1.length c0_1]] rfl (by (try simp only [List.map_toArray, List.map_cons, List.map_nil]); first | done | rfl | (simp only [List.length_drop, List.length_take]; rfl)) ?_; (with_reducible refine (windroselaw02_Light.calls k _ _ l0_0 _ _ l0_1 true _ ?side1 ?side2 ?side3 ?side4 A6.out).mono ?_); (case side1 => repeat (first | exact (Kd.C_below HR0_0.out HB.out) | (with_reducible refine Kd.C_alloc ?_ _) | (with_reducible refine Kd.C_drewN ?_ _) | (with_reducible refine Kd.C_drew ?_))); (case side2 => exact HC0_0.out); (case side3 => repeat (first | exact (Kd.C_below HR0_1.out HB.out) | (with_reducible refine Kd.C_alloc ?_ _) | (with_reducible refine Kd.C_drewN ?_ _) | (with_reducible refine Kd.C_drew ?_))); (case side4 => exact HC0_1.out); rintro e w10 ⟨rfl, hb⟩; refine ⟨_, rfl, ?_⟩; have n0_ := Aside0.mk (blk_below (g := gb568) (o := .cells #[.slice A0_0 l0_0.length c0_0, .slice A0_1 l0_1.length c0_1] 29 (0, 0)) (by (with_reducible repeat (first | refine blk_drewN ?_ _ | refine blk_drew ?_ | refine blk_alloc ?_ _)); exact BK568.out) hb); have n1_ := Aside0.mk (below_step (by repeat (first | (with_reducible first | exact HB.out | apply below_alloc | apply pw_below_drewN | apply below_drew1 | refine below_set ?_ GE568.out) | exact HB.out)) hb); clear BK568; clear HB; have BK568 := n0_; have HB := n1_; clear n0_ n1_; (try clear hb); (try clear hb2); (try clear hk); (try clear hi); have hcz11_0 : w10.cell? ⟨gb568, 0, none⟩ = some (.slice A0_0 l0_0.length c0_0) := (blk_cell BK568.out 0).trans rfl; have hcz11_1 : w10.cell? ⟨gb568, 1, none⟩ = some (.slice A0_1 l0_1.length c0_1) := (blk_cell BK568.out 1).trans rfl; have hfz11_0 := blk_frozen BK568.out 0; have hfz11_1 := blk_frozen BK568.out 1) | (go_at_call 27; (with_reducible refine (windroseref02_May.calls k _ _ l0_0 _ _ l0_1 t570 _ ?side1 ?side2 ?side3 ?side4 A8.out).mono ?_); (case side1 => repeat (first | exact (Kd.C_below HR0_0.out HB.out) | (with_reducible refine Kd.C_alloc ?_ _) | (with_reducible refine Kd.C_drewN ?_ _) | (with_reducible refine Kd.C_drew ?_))); (case side2 => exact HC0_0.out); (case side3 => repeat (first | exact (Kd.C_below HR0_1.out HB.out) | (with_reducible refine Kd.C_alloc ?_ _) | (with_reducible refine Kd.C_drewN ?_ _) | (with_reducible refine Kd.C_drew ?_))); (case side4 => exact HC0_1.out); rintro e w12 ⟨rfl, hb⟩; have n0_ := Aside0.mk (blk_below (g := gb568) (o := .cells #[.slice A0_0 l0_0.length c0_0, .slice A0_1 l0_1.length c0_1] 29 (0, 0)) (by (with_reducible repeat (first | refine blk_drewN ?_ _ | refine blk_drew ?_ | refine blk_alloc ?_ _)); exact BK568.out) hb); have n1_ := Aside0.mk (below_step (by repeat (first | (with_reducible first | exact HB.out | apply below_alloc | apply pw_below_drewN | apply below_drew1 | refine below_set ?_ GE568.out) | exact HB.out)) hb); clear BK568; clear HB; have BK568 := n0_; have HB := n1_; clear n0_ n1_; (try clear hb); (try clear hb2); (try clear hk); (try clear hi)))
      go_meet
      case rel => exact ⟨_, (!t570), (by first | rfl | (simp; done) | (simp [*]; done)), H', ⟨by first | omega | exact Nat.le_refl _⟩, ⟨by (with_reducible repeat (first | refine blk_drewN ?_ _ | refine blk_drew ?_ | refine blk_alloc ?_ _)); exact BK568.out⟩, ⟨by repeat (first | (with_reducible first | exact HB.out | apply below_alloc | apply pw_below_drewN | apply below_drew1 | refine below_set ?_ GE568.out) | exact HB.out)⟩⟩
    · replace c7 := Bool.eq_false_iff.mpr c7
      subst c7
      have H1 : (windroselaw02_FrameBursts.j0 k a1 a2 true l0_0 l0_1) = some r := by rw [if_neg (show ¬ (false = true) by decide)] at H; exact H
      clear H
      have H := H1
      clear H1
      have H' := Aside0.mk H
      clear H
      have hcz13_0 : w5.cell? ⟨gb568, 0, none⟩ = some (.slice A0_0 l0_0.length c0_0) := (blk_cell BK568.out 0).trans rfl
      have hcz13_1 : w5.cell? ⟨gb568, 1, none⟩ = some (.slice A0_1 l0_1.length c0_1) := (blk_cell BK568.out 1).trans rfl
      have hfz13_0 := blk_frozen BK568.out 0
      have hfz13_1 := blk_frozen BK568.out 1
      go_wp2_with (first | ((with_reducible refine gate_callee (f := 23) rfl ?_); refine goesL_ (some 19) rfl rfl Try.func23 (by kernel_rfl) rfl #[.agg #[.slice A0_0 l0_0.length c0_0, .slice A0_1 l0_1.length c0_1]] rfl (by (try simp only [List.map_toArray, List.map_cons, List.map_nil]); first | done | rfl | (simp only [List.length_drop, List.length_take]; rfl)) ?_; (with_reducible refine (windroselaw02_Light.calls k _ _ l0_0 _ _ l0_1 false _ ?side1 ?side2 ?side3 ?side4 A6.out).mono ?_); (case side1 => repeat (first | exact (Kd.C_below HR0_0.out HB.out) | (with_reducible refine Kd.C_alloc ?_ _) | (with_reducible refine Kd.C_drewN ?_ _) | (with_reducible refine Kd.C_drew ?_))); (case side2 => exact HC0_0.out); (case side3 => repeat (first | exact (Kd.C_below HR0_1.out HB.out) | (with_reducible refine Kd.C_alloc ?_ _) | (with_reducible refine Kd.C_drewN ?_ _) | (with_reducible refine Kd.C_drew ?_))); (case side4 => exact HC0_1.out); rintro e w14 ⟨rfl, hb⟩; refine ⟨_, rfl, ?_⟩; have n0_ := Aside0.mk (blk_below (g := gb568) (o := .cells #[.slice A0_0 l0_0.length c0_0, .slice A0_1 l0_1.length c0_1] 29 (0, 0)) (by (with_reducible repeat (first | refine blk_drewN ?_ _ | refine blk_drew ?_ | refine blk_alloc ?_ _)); exact BK568.out) hb); have n1_ := Aside0.mk (below_step (by repeat (first | (with_reducible first | exact HB.out | apply below_alloc | apply pw_below_drewN | apply below_drew1 | refine below_set ?_ GE568.out) | exact HB.out)) hb); clear BK568; clear HB; have BK568 := n0_; have HB := n1_; clear n0_ n1_; (try clear hb); (try clear hb2); (try clear hk); (try clear hi)))
      go_meet
      case rel => exact ⟨_, (true), (by first | rfl | (simp; done) | (simp [*]; done)), H', ⟨by first | omega | exact Nat.le_refl _⟩, ⟨by (with_reducible repeat (first | refine blk_drewN ?_ _ | refine blk_drew ?_ | refine blk_alloc ?_ _)); exact BK568.out⟩, ⟨by repeat (first | (with_reducible first | exact HB.out | apply below_alloc | apply pw_below_drewN | apply below_drew1 | refine below_set ?_ GE568.out) | exact HB.out)⟩⟩
  case rest =>
    clear HC4
    try clear c2
    try clear p2
    try clear c7
    try clear c9
    try clear hcz11_0
    try clear hcz11_1
    try clear hcz13_0
    try clear hcz13_1
    try clear hcz9_0
    try clear hcz9_1
    try clear hfz11_0
    try clear hfz11_1
    try clear hfz13_0
    try clear hfz13_1
    try clear hfz9_0
    try clear hfz9_1
    obtain ⟨kq, x25_3, rfl, HA, HJ3, BK568, HB⟩ := hcut
    cases kq with
    | zero => exact absurd HA.out (by simp [windroselaw02_FrameBursts.j0])
    | succ kj3 =>
      have H := HA.out
      clear HA
      simp only [windroselaw02_FrameBursts.j0] at H
      by_cases c15 : x25_3 = true
      · subst c15
        have H1 : ((windroselaw02_awake.f kj3).bind fun t571 => (some t571)) = some r := by rw [if_pos rfl] at H; exact H
        clear H
        have H := H1
        clear H1
        replace H := Option.bind_eq_some_iff.mp H
        obtain ⟨t571, A160, H⟩ := H
        replace H : (some t571) = some r := H
        have A16 := Aside0.mk A160
        clear A160
        obtain rfl := Option.some.inj H
        go_wp2_with (first | ((with_reducible refine gate_callee (f := 15) rfl ?_); refine goesL_ (some 26) rfl rfl Try.func15 (by kernel_rfl) rfl #[] rfl (by (try simp only [List.map_toArray, List.map_cons, List.map_nil]); first | done | rfl | (simp only [List.length_drop, List.length_take]; rfl)) ?_; (with_reducible refine (windroselaw02_awake.calls kj3  t571 _ A16.out).mono ?_); rintro e w17 ⟨rfl, hb⟩; refine ⟨_, rfl, ?_⟩; have n0_ := Aside0.mk (blk_below (g := gb568) (o := .cells #[.slice A0_0 l0_0.length c0_0, .slice A0_1 l0_1.length c0_1] 29 (0, 0)) (by (with_reducible repeat (first | refine blk_drewN ?_ _ | refine blk_drew ?_ | refine blk_alloc ?_ _)); exact BK568.out) hb); have n1_ := Aside0.mk (below_step (by repeat (first | (with_reducible first | exact HB.out | apply below_alloc | apply pw_below_drewN | apply below_drew1 | refine below_set ?_ GE568.out) | exact HB.out)) hb); clear BK568; clear HB; have BK568 := n0_; have HB := n1_; clear n0_ n1_; (try clear hb); (try clear hb2); (try clear hk); (try clear hi)))
        go_ret
        exact ⟨by first | rfl | (simp [errW_none, errW_some] <;> rfl) | (simp [*, errW_none, errW_some] <;> rfl), by repeat (first | (with_reducible first | exact HB.out | apply below_alloc | apply pw_below_drewN | apply below_drew1 | refine below_set ?_ GE568.out) | exact HB.out)⟩
      · replace c15 := Bool.eq_false_iff.mpr c15
        subst c15
        have H1 : ((frame_Frame.f kj3 l0_0 l0_1).bind fun bt572 => ((windroseref02_Frame.f kj3 l0_0 l0_1).bind fun t576 => (if bt572.2 = 0 then (windroselaw02_FrameBursts.j1 kj3 a1 a2 bt572.1 t576 ((bt572.1.length : Int) != (t576.length : Int)) l0_0 l0_1) else (windroselaw02_FrameBursts.j1 kj3 a1 a2 bt572.1 t576 true l0_0 l0_1)))) = some r := by rw [if_neg (show ¬ (false = true) by decide)] at H; exact H
        clear H
        have H := H1
        clear H1
        replace H := Option.bind_eq_some_iff.mp H
        obtain ⟨⟨t572, t575⟩, A180, H⟩ := H
        replace H : ((windroseref02_Frame.f kj3 l0_0 l0_1).bind fun t576 => (if t575 = 0 then (windroselaw02_FrameBursts.j1 kj3 a1 a2 t572 t576 ((t572.length : Int) != (t576.length : Int)) l0_0 l0_1) else (windroselaw02_FrameBursts.j1 kj3 a1 a2 t572 t576 true l0_0 l0_1))) = some r := H
        have A18 := Aside0.mk A180
        clear A180
        replace H := Option.bind_eq_some_iff.mp H
        obtain ⟨t576, A190, H⟩ := H
        replace H : (if t575 = 0 then (windroselaw02_FrameBursts.j1 kj3 a1 a2 t572 t576 ((t572.length : Int) != (t576.length : Int)) l0_0 l0_1) else (windroselaw02_FrameBursts.j1 kj3 a1 a2 t572 t576 true l0_0 l0_1)) = some r := H
        have A19 := Aside0.mk A190
        clear A190
        have HC20 := Aside0.mk H
        clear H
        have hcz21_0 : wc.cell? ⟨gb568, 0, none⟩ = some (.slice A0_0 l0_0.length c0_0) := (blk_cell BK568.out 0).trans rfl
        have hcz21_1 : wc.cell? ⟨gb568, 1, none⟩ = some (.slice A0_1 l0_1.length c0_1) := (blk_cell BK568.out 1).trans rfl
        have hfz21_0 := blk_frozen BK568.out 0
        have hfz21_1 := blk_frozen BK568.out 1
        go_upto_region 5 with (first | ((with_reducible refine gate_callee (f := 37) rfl ?_); refine goesL_ (some 29) rfl rfl Try.func37 (by kernel_rfl) rfl #[.agg #[.slice A0_0 l0_0.length c0_0, .slice A0_1 l0_1.length c0_1]] rfl (by (try simp only [List.map_toArray, List.map_cons, List.map_nil]); first | done | rfl | (simp only [List.length_drop, List.length_take]; rfl)) ?_; (with_reducible refine (frame_Frame.calls kj3 _ _ l0_0 _ _ l0_1 t572 t575 _ ?side1 ?side2 ?side3 ?side4 A18.out).mono ?_); (case side1 => repeat (first | exact (Kd.C_below HR0_0.out HB.out) | (with_reducible refine Kd.C_alloc ?_ _) | (with_reducible refine Kd.C_drewN ?_ _) | (with_reducible refine Kd.C_drew ?_))); (case side2 => exact HC0_0.out); (case side3 => repeat (first | exact (Kd.C_below HR0_1.out HB.out) | (with_reducible refine Kd.C_alloc ?_ _) | (with_reducible refine Kd.C_drewN ?_ _) | (with_reducible refine Kd.C_drew ?_))); (case side4 => exact HC0_1.out); rintro e w22 ⟨v573, rfl, ho0, hb⟩; refine ⟨_, rfl, ?_⟩; have n0_ := Aside0.mk (Kd.R_lower ho0 (below_size (by repeat (first | (with_reducible first | exact HB.out | apply below_alloc | apply pw_below_drewN | apply below_drew1 | refine below_set ?_ GE568.out) | exact HB.out)))); have n1_ := Aside0.mk (blk_below (g := gb568) (o := .cells #[.slice A0_0 l0_0.length c0_0, .slice A0_1 l0_1.length c0_1] 29 (0, 0)) (by (with_reducible repeat (first | refine blk_drewN ?_ _ | refine blk_drew ?_ | refine blk_alloc ?_ _)); exact BK568.out) hb); have n2_ := Aside0.mk (below_step (by repeat (first | (with_reducible first | exact HB.out | apply below_alloc | apply pw_below_drewN | apply below_drew1 | refine below_set ?_ GE568.out) | exact HB.out)) hb); clear BK568; clear HB; have HO574 := n0_; have BK568 := n1_; have HB := n2_; clear n0_ n1_ n2_; (try clear hb); (try clear hb2); (try clear hk); (try clear hi); (try clear ho0); have hcz23_0 : w22.cell? ⟨gb568, 0, none⟩ = some (.slice A0_0 l0_0.length c0_0) := (blk_cell BK568.out 0).trans rfl; have hcz23_1 : w22.cell? ⟨gb568, 1, none⟩ = some (.slice A0_1 l0_1.length c0_1) := (blk_cell BK568.out 1).trans rfl; have hfz23_0 := blk_frozen BK568.out 0; have hfz23_1 := blk_frozen BK568.out 1) | ((with_reducible refine gate_callee (f := 38) rfl ?_); refine goesL_ (some 33) rfl rfl Try.func38 (by kernel_rfl) rfl #[.agg #[.slice A0_0 l0_0.length c0_0, .slice A0_1 l0_1.length c0_1]] rfl (by (try simp only [List.map_toArray, List.map_cons, List.map_nil]); first | done | rfl | (simp only [List.length_drop, List.length_take]; rfl)) ?_; (with_reducible refine (windroseref02_Frame.calls kj3 _ _ l0_0 _ _ l0_1 t576 _ ?side1 ?side2 ?side3 ?side4 A19.out).mono ?_); (case side1 => repeat (first | exact (Kd.C_below HR0_0.out HB.out) | (with_reducible refine Kd.C_alloc ?_ _) | (with_reducible refine Kd.C_drewN ?_ _) | (with_reducible refine Kd.C_drew ?_))); (case side2 => exact HC0_0.out); (case side3 => repeat (first | exact (Kd.C_below HR0_1.out HB.out) | (with_reducible refine Kd.C_alloc ?_ _) | (with_reducible refine Kd.C_drewN ?_ _) | (with_reducible refine Kd.C_drew ?_))); (case side4 => exact HC0_1.out); rintro e w24 ⟨v577, rfl, ho0, hb⟩; refine ⟨_, rfl, ?_⟩; have n0_ := Aside0.mk (Kd.R_elder' (by (with_reducible repeat (first | apply Kd.R_alloc | apply Kd.R_drewN | apply Kd.R_drew)); exact HO574.out) (Kd.R_base ho0) hb); have n1_ := Aside0.mk (Kd.R_lower (Kd.R_new' ho0 (Kd.R_lt (by (with_reducible repeat (first | apply Kd.R_alloc | apply Kd.R_drewN | apply Kd.R_drew)); exact HO574.out))) (below_size (by repeat (first | (with_reducible first | exact HB.out | apply below_alloc | apply pw_below_drewN | apply below_drew1 | refine below_set ?_ GE568.out) | exact HB.out)))); have n2_ := Aside0.mk (blk_below (g := gb568) (o := .cells #[.slice A0_0 l0_0.length c0_0, .slice A0_1 l0_1.length c0_1] 29 (0, 0)) (by (with_reducible repeat (first | refine blk_drewN ?_ _ | refine blk_drew ?_ | refine blk_alloc ?_ _)); exact BK568.out) hb); have n3_ := Aside0.mk (below_step (by repeat (first | (with_reducible first | exact HB.out | apply below_alloc | apply pw_below_drewN | apply below_drew1 | refine below_set ?_ GE568.out) | exact HB.out)) hb); clear HO574; clear BK568; clear HB; have HO574 := n0_; have HO578 := n1_; have BK568 := n2_; have HB := n3_; clear n0_ n1_ n2_ n3_; (try clear hb); (try clear hb2); (try clear hk); (try clear hi); (try clear ho0)))
        (try simp only [Act.put, List.setIfInBounds_toArray, List.set_cons_zero, List.set_cons_succ])
        go_cut [42] (fun v42 wc => ∃ (kq : Nat) (x42_19 : Bool), v42 = .bool x42_19 ∧ Aside0 (windroselaw02_FrameBursts.j1 kq a1 a2 t572 t576 x42_19 l0_0 l0_1 = some r) ∧ Aside0 (kq ≤ kj3) ∧ Aside0 (Kd.R (Kd.int .u8) 5 wc w.heap.size (fun k_ => some k_ ≠ (v577 : Value).ownBlock) v573 t572) ∧ Aside0 (Kd.R (Kd.int .u8) 5 wc w.heap.size (fun k_ => some k_ ≠ (v573 : Value).ownBlock) v577 t576) ∧ Aside0 (wc.heap[gb568]? = some (.cells #[(.slice A0_0 l0_0.length c0_0), (.slice A0_1 l0_1.length c0_1)] 29 (0, 0))) ∧ Aside0 (Below w.heap.size w wc))
        case first =>
          have H := HC20.out
          clear HC20
          by_cases c25 : t575 = 0
          · rw [if_pos c25] at H
            have c25b0 : (t575 == 0) = true := beq_iff_eq.mpr c25
            have c25b1 : (t575 != 0) = false := bne_eq_false_iff_eq.mpr c25
            clear c25
            (first | rw [c25b0] | (simp only [i64_w, i32_w]; rw [c25b0]) | skip)
            have H' := Aside0.mk H
            clear H
            obtain ⟨Ao26, co26, eo26⟩ := Kd.R_slice HO574.out
            subst eo26
            obtain ⟨Ao27, co27, eo27⟩ := Kd.R_slice HO578.out
            subst eo27
            go_wp2
            go_meet
            case rel => exact ⟨_, (((t572.length : Int) != (t576.length : Int))), (by first | rfl | (simp; done) | (simp [*]; done)), H', ⟨by have := HJ3.out; first | omega | exact Nat.le_refl _⟩, ⟨by (with_reducible repeat (first | apply Kd.R_alloc | apply Kd.R_drewN | apply Kd.R_drew)); exact Kd.R_mono HO574.out (fun _ hk => hk.2)⟩, ⟨by (with_reducible repeat (first | apply Kd.R_alloc | apply Kd.R_drewN | apply Kd.R_drew)); exact Kd.R_mono HO578.out (fun _ hk => hk.2)⟩, ⟨by (with_reducible repeat (first | refine blk_drewN ?_ _ | refine blk_drew ?_ | refine blk_alloc ?_ _)); exact BK568.out⟩, ⟨by repeat (first | (with_reducible first | exact HB.out | apply below_alloc | apply pw_below_drewN | apply below_drew1 | refine below_set ?_ GE568.out) | exact HB.out)⟩⟩
          · rw [if_neg c25] at H
            have c25b0 : (t575 == 0) = false := beq_eq_false_iff_ne.mpr c25
            have c25b1 : (t575 != 0) = true := bne_iff_ne.mpr c25
            (first | rw [c25b0] | (simp only [i64_w, i32_w]; rw [c25b0]) | skip)
            have H' := Aside0.mk H
            clear H
            go_wp2
            go_meet
            case rel => exact ⟨_, (true), (by first | rfl | (simp; done) | (simp [*]; done)), H', ⟨by have := HJ3.out; first | omega | exact Nat.le_refl _⟩, ⟨by (with_reducible repeat (first | apply Kd.R_alloc | apply Kd.R_drewN | apply Kd.R_drew)); exact Kd.R_mono HO574.out (fun _ hk => hk.2)⟩, ⟨by (with_reducible repeat (first | apply Kd.R_alloc | apply Kd.R_drewN | apply Kd.R_drew)); exact Kd.R_mono HO578.out (fun _ hk => hk.2)⟩, ⟨by (with_reducible repeat (first | refine blk_drewN ?_ _ | refine blk_drew ?_ | refine blk_alloc ?_ _)); exact BK568.out⟩, ⟨by repeat (first | (with_reducible first | exact HB.out | apply below_alloc | apply pw_below_drewN | apply below_drew1 | refine below_set ?_ GE568.out) | exact HB.out)⟩⟩
        case rest =>
          clear HC20
          try clear c1
          try clear c2
          try clear p2
          try clear c3
          try clear c7
          try clear c9
          try clear c15
          try clear c23
          try clear c25
          try clear c25b0
          try clear c25b1
          try clear hcz11_0
          try clear hcz11_1
          try clear hcz13_0
          try clear hcz13_1
          try clear hcz21_0
          try clear hcz21_1
          try clear hcz23_0
          try clear hcz23_1
          try clear hcz9_0
          try clear hcz9_1
          try clear hfz11_0
          try clear hfz11_1
          try clear hfz13_0
          try clear hfz13_1
          try clear hfz21_0
          try clear hfz21_1
          try clear hfz23_0
          try clear hfz23_1
          try clear hfz9_0
          try clear hfz9_1
          try clear p2
          obtain ⟨kq, x42_19, rfl, HA, HJ19, HO_7, HO_9, BK568, HB⟩ := hcut
          cases kq with
          | zero => exact absurd HA.out (by simp [windroselaw02_FrameBursts.j1])
          | succ kj19 =>
            have H := HA.out
            clear HA
            simp only [windroselaw02_FrameBursts.j1] at H
            by_cases c28 : x42_19 = true
            · subst c28
              have H1 : (some false) = some r := by rw [if_pos rfl] at H; exact H
              clear H
              have H := H1
              clear H1
              obtain rfl := Option.some.inj H
              go_wp2
              go_ret
              exact ⟨by first | rfl | (simp [errW_none, errW_some] <;> rfl) | (simp [*, errW_none, errW_some] <;> rfl), by repeat (first | (with_reducible first | exact HB.out | apply below_alloc | apply pw_below_drewN | apply below_drew1 | refine below_set ?_ GE568.out) | exact HB.out)⟩
            · replace c28 := Bool.eq_false_iff.mpr c28
              subst c28
              have H1 : ((windroseref02_Bytes.f kj19 l0_0 l0_1).bind fun t579 => (if (wrap64 (8 * (wrap64 ((t572.length : Int) - (wrap64 ((wrap64 ((t576.length : Int) - 4)) - (t579.length : Int))))))) = 0 then (none) else (windroselaw02_FrameBursts.l0 kj19 a2 t572 (wrap64 ((wrap64 ((t576.length : Int) - 4)) - (t579.length : Int))) (wrap64 (8 * (wrap64 ((t572.length : Int) - (wrap64 ((wrap64 ((t576.length : Int) - 4)) - (t579.length : Int))))))) (Int.tmod (wrap64 (a1)) (wrap64 (8 * (wrap64 ((t572.length : Int) - (wrap64 ((wrap64 ((t576.length : Int) - 4)) - (t579.length : Int)))))))) false 0))) = some r := by rw [if_neg (show ¬ (false = true) by decide)] at H; exact H
              clear H
              have H := H1
              clear H1
              replace H := Option.bind_eq_some_iff.mp H
              obtain ⟨t579, A290, H⟩ := H
              replace H : (if (wrap64 (8 * (wrap64 ((t572.length : Int) - (wrap64 ((wrap64 ((t576.length : Int) - 4)) - (t579.length : Int))))))) = 0 then (none) else (windroselaw02_FrameBursts.l0 kj19 a2 t572 (wrap64 ((wrap64 ((t576.length : Int) - 4)) - (t579.length : Int))) (wrap64 (8 * (wrap64 ((t572.length : Int) - (wrap64 ((wrap64 ((t576.length : Int) - 4)) - (t579.length : Int))))))) (Int.tmod (wrap64 (a1)) (wrap64 (8 * (wrap64 ((t572.length : Int) - (wrap64 ((wrap64 ((t576.length : Int) - 4)) - (t579.length : Int)))))))) false 0)) = some r := H
              have A29 := Aside0.mk A290
              clear A290
              by_cases c30 : (wrap64 (8 * (wrap64 ((t572.length : Int) - (wrap64 ((wrap64 ((t576.length : Int) - 4)) - (t579.length : Int))))))) = 0
              · rw [if_pos c30] at H
                exact absurd H (by simp)
              · rw [if_neg c30] at H
                have c30b0 : ((wrap64 (8 * (wrap64 ((t572.length : Int) - (wrap64 ((wrap64 ((t576.length : Int) - 4)) - (t579.length : Int))))))) == 0) = false := beq_eq_false_iff_ne.mpr c30
                have c30b1 : ((wrap64 (8 * (wrap64 ((t572.length : Int) - (wrap64 ((wrap64 ((t576.length : Int) - 4)) - (t579.length : Int))))))) != 0) = true := bne_iff_ne.mpr c30
                have H' := Aside0.mk H
                clear H
                obtain ⟨Ao31, co31, eo31⟩ := Kd.R_slice HO_9.out
                subst eo31
                have hcz32_0 : wc.cell? ⟨gb568, 0, none⟩ = some (.slice A0_0 l0_0.length c0_0) := (blk_cell BK568.out 0).trans rfl
                have hcz32_1 : wc.cell? ⟨gb568, 1, none⟩ = some (.slice A0_1 l0_1.length c0_1) := (blk_cell BK568.out 1).trans rfl
                have hfz32_0 := blk_frozen BK568.out 0
                have hfz32_1 := blk_frozen BK568.out 1
                go_wp2_with (first | ((with_reducible refine gate_callee (f := 29) rfl ?_); refine goesL_ (some 47) rfl rfl Try.func29 (by kernel_rfl) rfl #[.agg #[.slice A0_0 l0_0.length c0_0, .slice A0_1 l0_1.length c0_1]] rfl (by (try simp only [List.map_toArray, List.map_cons, List.map_nil]); first | done | rfl | (simp only [List.length_drop, List.length_take]; rfl)) ?_; (with_reducible refine (windroseref02_Bytes.calls kj19 _ _ l0_0 _ _ l0_1 t579 _ ?side1 ?side2 ?side3 ?side4 A29.out).mono ?_); (case side1 => repeat (first | exact (Kd.C_below HR0_0.out HB.out) | (with_reducible refine Kd.C_alloc ?_ _) | (with_reducible refine Kd.C_drewN ?_ _) | (with_reducible refine Kd.C_drew ?_))); (case side2 => exact HC0_0.out); (case side3 => repeat (first | exact (Kd.C_below HR0_1.out HB.out) | (with_reducible refine Kd.C_alloc ?_ _) | (with_reducible refine Kd.C_drewN ?_ _) | (with_reducible refine Kd.C_drew ?_))); (case side4 => exact HC0_1.out); rintro e w33 ⟨v580, rfl, ho0, hb⟩; refine ⟨_, rfl, ?_⟩; have n0_ := Aside0.mk (Kd.R_elder' (by (with_reducible repeat (first | apply Kd.R_alloc | apply Kd.R_drewN | apply Kd.R_drew)); exact HO_7.out) (Kd.R_base ho0) hb); have n1_ := Aside0.mk (Kd.R_elder' (by (with_reducible repeat (first | apply Kd.R_alloc | apply Kd.R_drewN | apply Kd.R_drew)); exact HO_9.out) (Kd.R_base ho0) hb); have n2_ := Aside0.mk (Kd.R_lower (Kd.R_new' (Kd.R_new' ho0 (Kd.R_lt (by (with_reducible repeat (first | apply Kd.R_alloc | apply Kd.R_drewN | apply Kd.R_drew)); exact HO_7.out))) (Kd.R_lt (by (with_reducible repeat (first | apply Kd.R_alloc | apply Kd.R_drewN | apply Kd.R_drew)); exact HO_9.out))) (below_size (by repeat (first | (with_reducible first | exact HB.out | apply below_alloc | apply pw_below_drewN | apply below_drew1 | refine below_set ?_ GE568.out) | exact HB.out)))); have n3_ := Aside0.mk (blk_below (g := gb568) (o := .cells #[.slice A0_0 l0_0.length c0_0, .slice A0_1 l0_1.length c0_1] 29 (0, 0)) (by (with_reducible repeat (first | refine blk_drewN ?_ _ | refine blk_drew ?_ | refine blk_alloc ?_ _)); exact BK568.out) hb); have n4_ := Aside0.mk (below_step (by repeat (first | (with_reducible first | exact HB.out | apply below_alloc | apply pw_below_drewN | apply below_drew1 | refine below_set ?_ GE568.out) | exact HB.out)) hb); clear HO_7; clear HO_9; clear BK568; clear HB; have HO_7 := n0_; have HO_9 := n1_; have HO581 := n2_; have BK568 := n3_; have HB := n4_; clear n0_ n1_ n2_ n3_ n4_; (try clear hb); (try clear hb2); (try clear hk); (try clear hi); (try clear ho0); obtain ⟨Ao34, co34, eo34⟩ := Kd.R_slice HO581.out; subst eo34; obtain ⟨Ao35, co35, eo35⟩ := Kd.R_slice HO_7.out; subst eo35))
                go_loopg [13, 14] kj19 (fun kq v13 v14 w' => ∃ (x7_3 : List Int) (x13_3 : Bool) (x14_3 : Int), v13 = .bool x13_3 ∧ v14 = .int .i64 x14_3 ∧ Aside0 (windroselaw02_FrameBursts.l0 kq a2 x7_3 (wrap64 ((wrap64 ((t576.length : Int) - 4)) - (t579.length : Int))) (wrap64 (8 * (wrap64 ((t572.length : Int) - (wrap64 ((wrap64 ((t576.length : Int) - 4)) - (t579.length : Int))))))) (Int.tmod (wrap64 (a1)) (wrap64 (8 * (wrap64 ((t572.length : Int) - (wrap64 ((wrap64 ((t576.length : Int) - 4)) - (t579.length : Int)))))))) x13_3 x14_3 = some r) ∧ Aside0 (kq ≤ kj19) ∧ Aside0 (Kd.R (Kd.int .u8) 5 w' w.heap.size (fun _ => True) (.slice Ao35 t572.length co35) x7_3) ∧ Aside0 (w'.heap[gb568]? = some (.cells #[(.slice A0_0 l0_0.length c0_0), (.slice A0_1 l0_1.length c0_1)] 29 (0, 0))) ∧ Aside0 (Below w.heap.size w w'))
                case atStart => exact ⟨(t572), (false), (0), (by first | rfl | (simp; done) | (simp [*]; done)), (by first | rfl | (simp; done) | (simp [*]; done)), H', ⟨Nat.le_refl _⟩, ⟨by (with_reducible repeat (first | apply Kd.R_alloc | apply Kd.R_drewN | apply Kd.R_drew)); exact Kd.R_mono HO_7.out (fun _ hk => trivial)⟩, ⟨by (with_reducible repeat (first | refine blk_drewN ?_ _ | refine blk_drew ?_ | refine blk_alloc ?_ _)); exact BK568.out⟩, ⟨by repeat (first | (with_reducible first | exact HB.out | apply below_alloc | apply pw_below_drewN | apply below_drew1 | refine below_set ?_ GE568.out) | exact HB.out)⟩⟩
                case round =>
                  clear H'
                  try clear c1
                  try clear c2
                  try clear p2
                  try clear c3
                  try clear p6
                  try clear c7
                  try clear c9
                  try clear c15
                  try clear c23
                  try clear c25
                  try clear c25b0
                  try clear c25b1
                  try clear c28
                  try clear c29
                  try clear c30
                  try clear c30b0
                  try clear c30b1
                  try clear hcz11_0
                  try clear hcz11_1
                  try clear hcz13_0
                  try clear hcz13_1
                  try clear hcz21_0
                  try clear hcz21_1
                  try clear hcz23_0
                  try clear hcz23_1
                  try clear hcz32_0
                  try clear hcz32_1
                  try clear hcz9_0
                  try clear hcz9_1
                  try clear hfz11_0
                  try clear hfz11_1
                  try clear hfz13_0
                  try clear hfz13_1
                  try clear hfz21_0
                  try clear hfz21_1
                  try clear hfz23_0
                  try clear hfz23_1
                  try clear hfz32_0
                  try clear hfz32_1
                  try clear hfz9_0
                  try clear hfz9_1
                  try clear p2
                  obtain ⟨x7_3, x13_3, x14_3, rfl, rfl, HA, HK3, HO_7, BK568, HB⟩ := hrel
                  have hl7_3 := (Kd.R_reads' HO_7.out).1
                  rw [hl7_3] at HO_7
                  (try simp only [hl7_3])
                  (try simp only [hl7_3] at BK568)
                  cases gk with
                  | zero => exact absurd HA.out (by simp [windroselaw02_FrameBursts.l0])
                  | succ k3 =>
                    have H := HA.out
                    clear HA
                    simp only [windroselaw02_FrameBursts.l0] at H
                    have HC36 := Aside0.mk H
                    clear H
                    go_upto_region 12 with (fail)
                    go_cut [67] (fun v67 wc => ∃ (kq : Nat) (x67_35 : Bool), v67 = .bool x67_35 ∧ Aside0 (windroselaw02_FrameBursts.j3 kq a2 x7_3 (wrap64 ((wrap64 ((t576.length : Int) - 4)) - (t579.length : Int))) (wrap64 (8 * (wrap64 ((t572.length : Int) - (wrap64 ((wrap64 ((t576.length : Int) - 4)) - (t579.length : Int))))))) (Int.tmod (wrap64 (a1)) (wrap64 (8 * (wrap64 ((t572.length : Int) - (wrap64 ((wrap64 ((t576.length : Int) - 4)) - (t579.length : Int)))))))) x13_3 x14_3 x67_35 = some r) ∧ Aside0 (kq ≤ k3) ∧ Aside0 (Kd.R (Kd.int .u8) 5 wc w.heap.size (fun _ => True) (.slice Ao35 x7_3.length co35) x7_3) ∧ Aside0 (wc.heap[gb568]? = some (.cells #[(.slice A0_0 l0_0.length c0_0), (.slice A0_1 l0_1.length c0_1)] 29 (0, 0))) ∧ Aside0 (Below w.heap.size w wc))
                    case first =>
                      have H := HC36.out
                      clear HC36
                      by_cases c37 : x14_3 < 32
                      · rw [if_pos c37] at H
                        have c37b0 : decide (x14_3 < 32) = true := decide_eq_true c37
                        clear c37
                        (first | rw [c37b0] | (simp only [i64_w, i32_w]; rw [c37b0]) | skip)
                        have H' := Aside0.mk H
                        clear H
                        go_wp2
                        go_meet
                        case rel => exact ⟨_, (decide ((wrap64 ((Int.tmod (wrap64 (a1)) (wrap64 (8 * (wrap64 ((t572.length : Int) - (wrap64 ((wrap64 ((t576.length : Int) - 4)) - (t579.length : Int)))))))) + x14_3)) < (wrap64 (8 * (wrap64 ((t572.length : Int) - (wrap64 ((wrap64 ((t576.length : Int) - 4)) - (t579.length : Int))))))))), (by first | rfl | (simp; done) | (simp [*]; done)), H', ⟨by have := HJ3.out; have := HJ19.out; have := HK3.out; first | omega | exact Nat.le_refl _⟩, ⟨by (try simp only [hl7_3]); (with_reducible repeat (first | apply Kd.R_alloc | apply Kd.R_drewN | apply Kd.R_drew)); exact HO_7.out⟩, ⟨by (try simp only [hl7_3]); (with_reducible repeat (first | refine blk_drewN ?_ _ | refine blk_drew ?_ | refine blk_alloc ?_ _)); exact BK568.out⟩, ⟨by repeat (first | (with_reducible first | exact HB.out | apply below_alloc | apply pw_below_drewN | apply below_drew1 | refine below_set ?_ GE568.out) | exact HB.out)⟩⟩
                      · rw [if_neg c37] at H
                        have c37b0 : decide (x14_3 < 32) = false := decide_eq_false c37
                        clear c37
                        (first | rw [c37b0] | (simp only [i64_w, i32_w]; rw [c37b0]) | skip)
                        have H' := Aside0.mk H
                        clear H
                        go_wp2
                        go_meet
                        case rel => exact ⟨_, (false), (by first | rfl | (simp; done) | (simp [*]; done)), H', ⟨by have := HJ3.out; have := HJ19.out; have := HK3.out; first | omega | exact Nat.le_refl _⟩, ⟨by (try simp only [hl7_3]); (with_reducible repeat (first | apply Kd.R_alloc | apply Kd.R_drewN | apply Kd.R_drew)); exact HO_7.out⟩, ⟨by (try simp only [hl7_3]); (with_reducible repeat (first | refine blk_drewN ?_ _ | refine blk_drew ?_ | refine blk_alloc ?_ _)); exact BK568.out⟩, ⟨by repeat (first | (with_reducible first | exact HB.out | apply below_alloc | apply pw_below_drewN | apply below_drew1 | refine below_set ?_ GE568.out) | exact HB.out)⟩⟩
                    case rest =>
                      clear HC36
                      try clear c1
                      try clear c2
                      try clear p2
                      try clear c3
                      try clear p6
                      try clear c7
                      try clear c9
                      try clear c15
                      try clear c23
                      try clear c25
                      try clear c25b0
                      try clear c25b1
                      try clear c28
                      try clear c29
                      try clear c30
                      try clear c30b0
                      try clear c30b1
                      try clear c37
                      try clear c37b0
                      try clear hcz11_0
                      try clear hcz11_1
                      try clear hcz13_0
                      try clear hcz13_1
                      try clear hcz21_0
                      try clear hcz21_1
                      try clear hcz23_0
                      try clear hcz23_1
                      try clear hcz32_0
                      try clear hcz32_1
                      try clear hcz9_0
                      try clear hcz9_1
                      try clear hfz11_0
                      try clear hfz11_1
                      try clear hfz13_0
                      try clear hfz13_1
                      try clear hfz21_0
                      try clear hfz21_1
                      try clear hfz23_0
                      try clear hfz23_1
                      try clear hfz32_0
                      try clear hfz32_1
                      try clear hfz9_0
                      try clear hfz9_1
                      try clear p2
                      try clear p6
                      obtain ⟨kq, x67_35, rfl, HA, HJ35, HO_7, BK568, HB⟩ := hcut
                      cases kq with
                      | zero => exact absurd HA.out (by simp [windroselaw02_FrameBursts.j3])
                      | succ kj35 =>
                        have H := HA.out
                        clear HA
                        simp only [windroselaw02_FrameBursts.j3] at H
                        by_cases c38 : x67_35 = true
                        · subst c38
                          have H1 : (if 0 ≤ (IntKind.u64.wrap (x14_3)) then (if (Int.tmod (shr .u32 a2 (IntKind.u64.wrap (x14_3))) 2) = 1 then (if 0 ≤ (wrap64 ((wrap64 ((wrap64 ((t576.length : Int) - 4)) - (t579.length : Int))) + (wrap64 (Int.tdiv (wrap64 ((Int.tmod (wrap64 (a1)) (wrap64 (8 * (wrap64 ((t572.length : Int) - (wrap64 ((wrap64 ((t576.length : Int) - 4)) - (t579.length : Int)))))))) + x14_3)) 8)))) then (if (wrap64 ((wrap64 ((wrap64 ((t576.length : Int) - 4)) - (t579.length : Int))) + (wrap64 (Int.tdiv (wrap64 ((Int.tmod (wrap64 (a1)) (wrap64 (8 * (wrap64 ((t572.length : Int) - (wrap64 ((wrap64 ((t576.length : Int) - 4)) - (t579.length : Int)))))))) + x14_3)) 8)))) < (x7_3.length : Int) then (if 0 ≤ (IntKind.u64.wrap (wrap64 (7 - (Int.tmod (wrap64 ((Int.tmod (wrap64 (a1)) (wrap64 (8 * (wrap64 ((t572.length : Int) - (wrap64 ((wrap64 ((t576.length : Int) - 4)) - (t579.length : Int)))))))) + x14_3)) 8)))) then (windroselaw02_FrameBursts.l0 kj35 a2 (x7_3.set ((wrap64 ((wrap64 ((wrap64 ((t576.length : Int) - 4)) - (t579.length : Int))) + (wrap64 (Int.tdiv (wrap64 ((Int.tmod (wrap64 (a1)) (wrap64 (8 * (wrap64 ((t572.length : Int) - (wrap64 ((wrap64 ((t576.length : Int) - 4)) - (t579.length : Int)))))))) + x14_3)) 8)))) : Int).toNat (Go.bits .xor .u8 (rd x7_3 (wrap64 ((wrap64 ((wrap64 ((t576.length : Int) - 4)) - (t579.length : Int))) + (wrap64 (Int.tdiv (wrap64 ((Int.tmod (wrap64 (a1)) (wrap64 (8 * (wrap64 ((t572.length : Int) - (wrap64 ((wrap64 ((t576.length : Int) - 4)) - (t579.length : Int)))))))) + x14_3)) 8))))) (shl .u8 1 (IntKind.u64.wrap (wrap64 (7 - (Int.tmod (wrap64 ((Int.tmod (wrap64 (a1)) (wrap64 (8 * (wrap64 ((t572.length : Int) - (wrap64 ((wrap64 ((t576.length : Int) - 4)) - (t579.length : Int)))))))) + x14_3)) 8))))))) (wrap64 ((wrap64 ((t576.length : Int) - 4)) - (t579.length : Int))) (wrap64 (8 * (wrap64 ((t572.length : Int) - (wrap64 ((wrap64 ((t576.length : Int) - 4)) - (t579.length : Int))))))) (Int.tmod (wrap64 (a1)) (wrap64 (8 * (wrap64 ((t572.length : Int) - (wrap64 ((wrap64 ((t576.length : Int) - 4)) - (t579.length : Int)))))))) true (wrap64 (x14_3 + 1))) else (none)) else (none)) else (none)) else (windroselaw02_FrameBursts.l0 kj35 a2 x7_3 (wrap64 ((wrap64 ((t576.length : Int) - 4)) - (t579.length : Int))) (wrap64 (8 * (wrap64 ((t572.length : Int) - (wrap64 ((wrap64 ((t576.length : Int) - 4)) - (t579.length : Int))))))) (Int.tmod (wrap64 (a1)) (wrap64 (8 * (wrap64 ((t572.length : Int) - (wrap64 ((wrap64 ((t576.length : Int) - 4)) - (t579.length : Int)))))))) x13_3 (wrap64 (x14_3 + 1)))) else (none)) = some r := by rw [if_pos rfl] at H; exact H
                          clear H
                          have H := H1
                          clear H1
                          obtain ⟨ji39, hji39⟩ : ∃ j_ : Int, (IntKind.u64.wrap (x14_3)) = j_ := ⟨_, rfl⟩
                          replace H : (if 0 ≤ (ji39) then (if (Int.tmod (shr .u32 a2 (ji39)) 2) = 1 then (if 0 ≤ (wrap64 ((wrap64 ((wrap64 ((t576.length : Int) - 4)) - (t579.length : Int))) + (wrap64 (Int.tdiv (wrap64 ((Int.tmod (wrap64 (a1)) (wrap64 (8 * (wrap64 ((t572.length : Int) - (wrap64 ((wrap64 ((t576.length : Int) - 4)) - (t579.length : Int)))))))) + x14_3)) 8)))) then (if (wrap64 ((wrap64 ((wrap64 ((t576.length : Int) - 4)) - (t579.length : Int))) + (wrap64 (Int.tdiv (wrap64 ((Int.tmod (wrap64 (a1)) (wrap64 (8 * (wrap64 ((t572.length : Int) - (wrap64 ((wrap64 ((t576.length : Int) - 4)) - (t579.length : Int)))))))) + x14_3)) 8)))) < (x7_3.length : Int) then (if 0 ≤ (IntKind.u64.wrap (wrap64 (7 - (Int.tmod (wrap64 ((Int.tmod (wrap64 (a1)) (wrap64 (8 * (wrap64 ((t572.length : Int) - (wrap64 ((wrap64 ((t576.length : Int) - 4)) - (t579.length : Int)))))))) + x14_3)) 8)))) then (windroselaw02_FrameBursts.l0 kj35 a2 (x7_3.set ((wrap64 ((wrap64 ((wrap64 ((t576.length : Int) - 4)) - (t579.length : Int))) + (wrap64 (Int.tdiv (wrap64 ((Int.tmod (wrap64 (a1)) (wrap64 (8 * (wrap64 ((t572.length : Int) - (wrap64 ((wrap64 ((t576.length : Int) - 4)) - (t579.length : Int)))))))) + x14_3)) 8)))) : Int).toNat (Go.bits .xor .u8 (rd x7_3 (wrap64 ((wrap64 ((wrap64 ((t576.length : Int) - 4)) - (t579.length : Int))) + (wrap64 (Int.tdiv (wrap64 ((Int.tmod (wrap64 (a1)) (wrap64 (8 * (wrap64 ((t572.length : Int) - (wrap64 ((wrap64 ((t576.length : Int) - 4)) - (t579.length : Int)))))))) + x14_3)) 8))))) (shl .u8 1 (IntKind.u64.wrap (wrap64 (7 - (Int.tmod (wrap64 ((Int.tmod (wrap64 (a1)) (wrap64 (8 * (wrap64 ((t572.length : Int) - (wrap64 ((wrap64 ((t576.length : Int) - 4)) - (t579.length : Int)))))))) + x14_3)) 8))))))) (wrap64 ((wrap64 ((t576.length : Int) - 4)) - (t579.length : Int))) (wrap64 (8 * (wrap64 ((t572.length : Int) - (wrap64 ((wrap64 ((t576.length : Int) - 4)) - (t579.length : Int))))))) (Int.tmod (wrap64 (a1)) (wrap64 (8 * (wrap64 ((t572.length : Int) - (wrap64 ((wrap64 ((t576.length : Int) - 4)) - (t579.length : Int)))))))) true (wrap64 (x14_3 + 1))) else (none)) else (none)) else (none)) else (windroselaw02_FrameBursts.l0 kj35 a2 x7_3 (wrap64 ((wrap64 ((t576.length : Int) - 4)) - (t579.length : Int))) (wrap64 (8 * (wrap64 ((t572.length : Int) - (wrap64 ((wrap64 ((t576.length : Int) - 4)) - (t579.length : Int))))))) (Int.tmod (wrap64 (a1)) (wrap64 (8 * (wrap64 ((t572.length : Int) - (wrap64 ((wrap64 ((t576.length : Int) - 4)) - (t579.length : Int)))))))) x13_3 (wrap64 (x14_3 + 1)))) else (none)) = some r := by first | (rw [hji39] at H; exact H) | (simp only [hji39] at H ⊢; exact H)
                          by_cases c40 : 0 ≤ (ji39)
                          · rw [if_pos c40] at H
                            have c40b0 := eq_true c40
                            have c40b1 : decide (0 ≤ (ji39)) = true := decide_eq_true c40
                            clear c40
                            obtain ⟨ji41, hji41⟩ : ∃ j_ : Int, (shr .u32 a2 (ji39)) = j_ := ⟨_, rfl⟩
                            replace H : (if (Int.tmod (ji41) 2) = 1 then (if 0 ≤ (wrap64 ((wrap64 ((wrap64 ((t576.length : Int) - 4)) - (t579.length : Int))) + (wrap64 (Int.tdiv (wrap64 ((Int.tmod (wrap64 (a1)) (wrap64 (8 * (wrap64 ((t572.length : Int) - (wrap64 ((wrap64 ((t576.length : Int) - 4)) - (t579.length : Int)))))))) + x14_3)) 8)))) then (if (wrap64 ((wrap64 ((wrap64 ((t576.length : Int) - 4)) - (t579.length : Int))) + (wrap64 (Int.tdiv (wrap64 ((Int.tmod (wrap64 (a1)) (wrap64 (8 * (wrap64 ((t572.length : Int) - (wrap64 ((wrap64 ((t576.length : Int) - 4)) - (t579.length : Int)))))))) + x14_3)) 8)))) < (x7_3.length : Int) then (if 0 ≤ (IntKind.u64.wrap (wrap64 (7 - (Int.tmod (wrap64 ((Int.tmod (wrap64 (a1)) (wrap64 (8 * (wrap64 ((t572.length : Int) - (wrap64 ((wrap64 ((t576.length : Int) - 4)) - (t579.length : Int)))))))) + x14_3)) 8)))) then (windroselaw02_FrameBursts.l0 kj35 a2 (x7_3.set ((wrap64 ((wrap64 ((wrap64 ((t576.length : Int) - 4)) - (t579.length : Int))) + (wrap64 (Int.tdiv (wrap64 ((Int.tmod (wrap64 (a1)) (wrap64 (8 * (wrap64 ((t572.length : Int) - (wrap64 ((wrap64 ((t576.length : Int) - 4)) - (t579.length : Int)))))))) + x14_3)) 8)))) : Int).toNat (Go.bits .xor .u8 (rd x7_3 (wrap64 ((wrap64 ((wrap64 ((t576.length : Int) - 4)) - (t579.length : Int))) + (wrap64 (Int.tdiv (wrap64 ((Int.tmod (wrap64 (a1)) (wrap64 (8 * (wrap64 ((t572.length : Int) - (wrap64 ((wrap64 ((t576.length : Int) - 4)) - (t579.length : Int)))))))) + x14_3)) 8))))) (shl .u8 1 (IntKind.u64.wrap (wrap64 (7 - (Int.tmod (wrap64 ((Int.tmod (wrap64 (a1)) (wrap64 (8 * (wrap64 ((t572.length : Int) - (wrap64 ((wrap64 ((t576.length : Int) - 4)) - (t579.length : Int)))))))) + x14_3)) 8))))))) (wrap64 ((wrap64 ((t576.length : Int) - 4)) - (t579.length : Int))) (wrap64 (8 * (wrap64 ((t572.length : Int) - (wrap64 ((wrap64 ((t576.length : Int) - 4)) - (t579.length : Int))))))) (Int.tmod (wrap64 (a1)) (wrap64 (8 * (wrap64 ((t572.length : Int) - (wrap64 ((wrap64 ((t576.length : Int) - 4)) - (t579.length : Int)))))))) true (wrap64 (x14_3 + 1))) else (none)) else (none)) else (none)) else (windroselaw02_FrameBursts.l0 kj35 a2 x7_3 (wrap64 ((wrap64 ((t576.length : Int) - 4)) - (t579.length : Int))) (wrap64 (8 * (wrap64 ((t572.length : Int) - (wrap64 ((wrap64 ((t576.length : Int) - 4)) - (t579.length : Int))))))) (Int.tmod (wrap64 (a1)) (wrap64 (8 * (wrap64 ((t572.length : Int) - (wrap64 ((wrap64 ((t576.length : Int) - 4)) - (t579.length : Int)))))))) x13_3 (wrap64 (x14_3 + 1)))) = some r := by first | (rw [hji41] at H; exact H) | (simp only [hji41] at H ⊢; exact H)
                            have hji41_ : (a2 / 2 ^ min (ji39).toNat 32) = ji41 := hji41
                            have hji41z : (ji39) ≤ 32 → (a2 / 2 ^ (ji39).toNat) = ji41 := shr_small hji41
                            by_cases c42 : (Int.tmod (ji41) 2) = 1
                            · rw [if_pos c42] at H
                              have c42b0 : ((Int.tmod (ji41) 2) == 1) = true := beq_iff_eq.mpr c42
                              have c42b1 : ((Int.tmod (ji41) 2) != 1) = false := bne_eq_false_iff_eq.mpr c42
                              clear c42
                              obtain ⟨ji43, hji43⟩ : ∃ j_ : Int, (wrap64 ((wrap64 ((wrap64 ((t576.length : Int) - 4)) - (t579.length : Int))) + (wrap64 (Int.tdiv (wrap64 ((Int.tmod (wrap64 (a1)) (wrap64 (8 * (wrap64 ((t572.length : Int) - (wrap64 ((wrap64 ((t576.length : Int) - 4)) - (t579.length : Int)))))))) + x14_3)) 8)))) = j_ := ⟨_, rfl⟩
                              replace H : (if 0 ≤ (ji43) then (if (ji43) < (x7_3.length : Int) then (if 0 ≤ (IntKind.u64.wrap (wrap64 (7 - (Int.tmod (wrap64 ((Int.tmod (wrap64 (a1)) (wrap64 (8 * (wrap64 ((t572.length : Int) - (wrap64 ((wrap64 ((t576.length : Int) - 4)) - (t579.length : Int)))))))) + x14_3)) 8)))) then (windroselaw02_FrameBursts.l0 kj35 a2 (x7_3.set ((ji43) : Int).toNat (Go.bits .xor .u8 (rd x7_3 (ji43)) (shl .u8 1 (IntKind.u64.wrap (wrap64 (7 - (Int.tmod (wrap64 ((Int.tmod (wrap64 (a1)) (wrap64 (8 * (wrap64 ((t572.length : Int) - (wrap64 ((wrap64 ((t576.length : Int) - 4)) - (t579.length : Int)))))))) + x14_3)) 8))))))) (wrap64 ((wrap64 ((t576.length : Int) - 4)) - (t579.length : Int))) (wrap64 (8 * (wrap64 ((t572.length : Int) - (wrap64 ((wrap64 ((t576.length : Int) - 4)) - (t579.length : Int))))))) (Int.tmod (wrap64 (a1)) (wrap64 (8 * (wrap64 ((t572.length : Int) - (wrap64 ((wrap64 ((t576.length : Int) - 4)) - (t579.length : Int)))))))) true (wrap64 (x14_3 + 1))) else (none)) else (none)) else (none)) = some r := by first | (rw [hji43] at H; exact H) | (simp only [hji43] at H ⊢; exact H)
                              have hji43w : (IntKind.i64.wrap ((wrap64 ((wrap64 ((t576.length : Int) - 4)) - (t579.length : Int))) + (wrap64 (Int.tdiv (wrap64 ((Int.tmod (wrap64 (a1)) (wrap64 (8 * (wrap64 ((t572.length : Int) - (wrap64 ((wrap64 ((t576.length : Int) - 4)) - (t579.length : Int)))))))) + x14_3)) 8)))) = ji43 := (i64_w _).trans hji43
                              by_cases c44 : 0 ≤ (ji43)
                              · rw [if_pos c44] at H
                                have c44b0 : decide (0 ≤ (ji43)) = true := decide_eq_true c44
                                clear c44
                                by_cases c45 : (ji43) < (x7_3.length : Int)
                                · rw [if_pos c45] at H
                                  have c45b0 : decide ((ji43) < (x7_3.length : Int)) = true := decide_eq_true c45
                                  clear c45
                                  obtain ⟨ji46, hji46⟩ : ∃ j_ : Int, (IntKind.u64.wrap (wrap64 (7 - (Int.tmod (wrap64 ((Int.tmod (wrap64 (a1)) (wrap64 (8 * (wrap64 ((t572.length : Int) - (wrap64 ((wrap64 ((t576.length : Int) - 4)) - (t579.length : Int)))))))) + x14_3)) 8)))) = j_ := ⟨_, rfl⟩
                                  replace H : (if 0 ≤ (ji46) then (windroselaw02_FrameBursts.l0 kj35 a2 (x7_3.set ((ji43) : Int).toNat (Go.bits .xor .u8 (rd x7_3 (ji43)) (shl .u8 1 (ji46)))) (wrap64 ((wrap64 ((t576.length : Int) - 4)) - (t579.length : Int))) (wrap64 (8 * (wrap64 ((t572.length : Int) - (wrap64 ((wrap64 ((t576.length : Int) - 4)) - (t579.length : Int))))))) (Int.tmod (wrap64 (a1)) (wrap64 (8 * (wrap64 ((t572.length : Int) - (wrap64 ((wrap64 ((t576.length : Int) - 4)) - (t579.length : Int)))))))) true (wrap64 (x14_3 + 1))) else (none)) = some r := by first | (rw [hji46] at H; exact H) | (simp only [hji46] at H ⊢; exact H)
                                  by_cases c47 : 0 ≤ (ji46)
                                  · rw [if_pos c47] at H
                                    have c47b0 := eq_true c47
                                    have c47b1 : decide (0 ≤ (ji46)) = true := decide_eq_true c47
                                    clear c47
                                    obtain ⟨ji48, hji48⟩ : ∃ j_ : Int, (shl .u8 1 (ji46)) = j_ := ⟨_, rfl⟩
                                    replace H : (windroselaw02_FrameBursts.l0 kj35 a2 (x7_3.set ((ji43) : Int).toNat (Go.bits .xor .u8 (rd x7_3 (ji43)) (ji48))) (wrap64 ((wrap64 ((t576.length : Int) - 4)) - (t579.length : Int))) (wrap64 (8 * (wrap64 ((t572.length : Int) - (wrap64 ((wrap64 ((t576.length : Int) - 4)) - (t579.length : Int))))))) (Int.tmod (wrap64 (a1)) (wrap64 (8 * (wrap64 ((t572.length : Int) - (wrap64 ((wrap64 ((t576.length : Int) - 4)) - (t579.length : Int)))))))) true (wrap64 (x14_3 + 1))) = some r := by first | (rw [hji48] at H; exact H) | (simp only [hji48] at H ⊢; exact H)
                                    have hji48_ : (IntKind.u8.wrap (1 * 2 ^ min (ji46).toNat 8)) = ji48 := hji48
                                    have hji48z : (ji46) ≤ 8 → (IntKind.u8.wrap (1 * 2 ^ (ji46).toNat)) = ji48 := shl_small hji48
                                    have hji48u : (IntKind.u8.wrap (2 ^ min (ji46).toNat 8)) = ji48 := by have h_ := hji48_; rw [Int.one_mul] at h_; exact h_
                                    have hji48v : (ji46) ≤ 8 → (IntKind.u8.wrap (2 ^ (ji46).toNat)) = ji48 := fun hle_ => by have h_ := hji48z hle_; rw [Int.one_mul] at h_; exact h_
                                    obtain ⟨y583, hy583⟩ : ∃ y_ : List Int, y_ = (x7_3.set ((ji43) : Int).toNat (Go.bits .xor .u8 (rd x7_3 (ji43)) (ji48))) := ⟨_, rfl⟩
                                    replace H : (windroselaw02_FrameBursts.l0 kj35 a2 y583 (wrap64 ((wrap64 ((t576.length : Int) - 4)) - (t579.length : Int))) (wrap64 (8 * (wrap64 ((t572.length : Int) - (wrap64 ((wrap64 ((t576.length : Int) - 4)) - (t579.length : Int))))))) (Int.tmod (wrap64 (a1)) (wrap64 (8 * (wrap64 ((t572.length : Int) - (wrap64 ((wrap64 ((t576.length : Int) - 4)) - (t579.length : Int)))))))) true (wrap64 (x14_3 + 1))) = some r := by first | (rw [hy583]; with_reducible exact H) | (have H2_ := (Option.bind_some _ _).symm.trans H; rw [hy583]; with_reducible exact H2_) | (have H2_ := (Option.bind_some _ _).symm.trans H; with_reducible exact H2_) | with_reducible exact H | (rw [hy583]; exact H) | exact H
                                    have Ny583 := Aside0.mk hy583
                                    clear hy583
                                    have H' := Aside0.mk H
                                    clear H
                                    have p582 : 0 ≤ ((ji43) : Int) := of_decide_eq_true (by first | (with_reducible assumption) | assumption)
                                    have q582 : (ji43) < (x7_3.length : Int) := of_decide_eq_true (by first | (with_reducible assumption) | assumption)
                                    obtain ⟨ad582, e582, hx582_0⟩ := Kd.at_int (Kd.R_reads' HO_7.out).2.2 (ji43) p582 q582
                                    cases e582
                                    replace p582 := eq_true p582
                                    replace q582 := eq_true q582
                                    have p49 : 0 ≤ ((ji43) : Int) := of_decide_eq_true (by first | (with_reducible assumption) | assumption)
                                    have q49 : ((ji43) : Int) < ((x7_3.length : Int) : Int) := of_decide_eq_true (by first | (with_reducible assumption) | assumption)
                                    obtain ⟨go49, co49, eo49, gb49, gl49, cl49, HG49⟩ := Kd.R_form HO_7.out (by omega)
                                    (first | cases eo49 | (injection eo49 with ea_ en_ ec_; (first | subst ea_ | (injection ea_ with ea_; subst ea_)); subst ec_; clear en_))
                                    have GB49 := Aside0.mk gb49
                                    have GG49 := Aside0.mk HG49
                                    clear gb49 gl49 HG49
                                    (first | simp only [add_plain] at hx582_0 | skip)
                                    obtain ⟨hx49_0, hf49_0⟩ := Kd.R_celln 0 HO_7.out ((ji43) : Int) p49 q49
                                    replace p49 := eq_true p49
                                    replace q49 := eq_true q49
                                    have HP50 := Kd.R_putg HO_7.out ((ji43) : Int) (Go.bits .xor .u8 (rd x7_3 (ji43)) (ji48))
                                    (try simp only [hl7_3] at hji39)
                                    (try simp only [hl7_3] at hji41)
                                    (try simp only [hl7_3] at hji41_)
                                    (try simp only [hl7_3] at hji41z)
                                    (try simp only [hl7_3] at hji43)
                                    (try simp only [hl7_3] at hji43w)
                                    (try simp only [hl7_3] at hji46)
                                    (try simp only [hl7_3] at hji48)
                                    (try simp only [hl7_3] at hji48_)
                                    (try simp only [hl7_3] at hji48z)
                                    (try simp only [hl7_3] at hji48u)
                                    (try simp only [hl7_3] at hji48v)
                                    go_wp2_with (first | ((with_reducible refine gate_store (t := 5) (p := 100) rfl ?_); refine store_event (t := 5) (p := 100) (v := ?vo_w51) (w1 := (wc.setCell ⟨go49, ((ji43) : Int).toNat, none⟩ (.int .u8 (Go.bits .xor .u8 (rd x7_3 (ji43)) (ji48))))) ?hg ?ho ?hn ?hr ?_; (case ho => rfl); (case hg => rfl); (case hn => rfl); (case hr => first | (go_simp; done) | (go_simp; rfl)); intro w51 hw; have hg : wc.grownBy w51 (some go49) := (by rw [hw]; exact HP50.2); have hp_ : Kd.R (Kd.int .u8) 5 w51 w.heap.size (fun _ => True) (.slice (some ⟨go49, 0, none⟩) x7_3.length co35) y583 := (by rw [hw, Ny583.out]; exact HP50.1); clear HP50; have n0_ := Aside0.mk (hp_); have n1_ := Aside0.mk (blk_grown (g := gb568) (o := .cells #[.slice A0_0 l0_0.length c0_0, .slice A0_1 l0_1.length c0_1] 29 (0, 0)) (by (with_reducible repeat (first | refine blk_drewN ?_ _ | refine blk_drew ?_ | refine blk_alloc ?_ _)); exact BK568.out) hg (Kd.R_ne HO_7.out BK568.out (by decide))); have n2_ := Aside0.mk ((by rw [hw]; exact below_set (HB.out) GB49.out : Below w.heap.size w w51)); clear HO_7; clear BK568; clear HB; have HO_7 := n0_; have BK568 := n1_; have HB := n2_; clear n0_ n1_ n2_; clear hg hw hp_))
                                    (try simp only [← hl7_3])
                                    (try simp only [hl7_3] at hji39)
                                    (try simp only [hl7_3] at hji41)
                                    (try simp only [hl7_3] at hji41_)
                                    (try simp only [hl7_3] at hji41z)
                                    (try simp only [hl7_3] at hji43)
                                    (try simp only [hl7_3] at hji43w)
                                    (try simp only [hl7_3] at hji46)
                                    (try simp only [hl7_3] at hji48)
                                    (try simp only [hl7_3] at hji48_)
                                    (try simp only [hl7_3] at hji48z)
                                    (try simp only [hl7_3] at hji48u)
                                    (try simp only [hl7_3] at hji48v)
                                    go_roundg kj35
                                    case measure => have := HJ3.out; have := HJ19.out; have := HK3.out; have := HJ35.out; omega
                                    case rel => exact ⟨(y583), (true), (wrap64 (x14_3 + 1)), (by first | rfl | (simp; done) | (simp [*]; done)), (by first | rfl | (simp; done) | (simp [*]; done)), H', ⟨by have := HJ3.out; have := HJ19.out; have := HK3.out; have := HJ35.out; omega⟩, ⟨by (try simp only [hl7_3]); (with_reducible repeat (first | apply Kd.R_alloc | apply Kd.R_drewN | apply Kd.R_drew)); exact HO_7.out⟩, ⟨by (try simp only [hl7_3]); (with_reducible repeat (first | refine blk_drewN ?_ _ | refine blk_drew ?_ | refine blk_alloc ?_ _)); exact BK568.out⟩, ⟨by repeat (first | (with_reducible first | exact HB.out | apply below_alloc | apply pw_below_drewN | apply below_drew1 | refine below_set ?_ GE568.out) | exact HB.out)⟩⟩
                                  · rw [if_neg c47] at H
                                    exact absurd H (by simp)
                                · rw [if_neg c45] at H
                                  exact absurd H (by simp)
                              · rw [if_neg c44] at H
                                exact absurd H (by simp)
                            · rw [if_neg c42] at H
                              have c42b0 : ((Int.tmod (ji41) 2) == 1) = false := beq_eq_false_iff_ne.mpr c42
                              have c42b1 : ((Int.tmod (ji41) 2) != 1) = true := bne_iff_ne.mpr c42
                              have H' := Aside0.mk H
                              clear H
                              (try simp only [hl7_3] at hji39)
                              (try simp only [hl7_3] at hji41)
                              (try simp only [hl7_3] at hji41_)
                              (try simp only [hl7_3] at hji41z)
                              go_wp2
                              (try simp only [← hl7_3])
                              (try simp only [hl7_3] at hji39)
                              (try simp only [hl7_3] at hji41)
                              (try simp only [hl7_3] at hji41_)
                              (try simp only [hl7_3] at hji41z)
                              go_roundg kj35
                              case measure => have := HJ3.out; have := HJ19.out; have := HK3.out; have := HJ35.out; omega
                              case rel => exact ⟨(x7_3), (x13_3), (wrap64 (x14_3 + 1)), (by first | rfl | (simp; done) | (simp [*]; done)), (by first | rfl | (simp; done) | (simp [*]; done)), H', ⟨by have := HJ3.out; have := HJ19.out; have := HK3.out; have := HJ35.out; omega⟩, ⟨by (try simp only [hl7_3]); (with_reducible repeat (first | apply Kd.R_alloc | apply Kd.R_drewN | apply Kd.R_drew)); exact HO_7.out⟩, ⟨by (try simp only [hl7_3]); (with_reducible repeat (first | refine blk_drewN ?_ _ | refine blk_drew ?_ | refine blk_alloc ?_ _)); exact BK568.out⟩, ⟨by repeat (first | (with_reducible first | exact HB.out | apply below_alloc | apply pw_below_drewN | apply below_drew1 | refine below_set ?_ GE568.out) | exact HB.out)⟩⟩
                          · rw [if_neg c40] at H
                            exact absurd H (by simp)
                        · replace c38 := Bool.eq_false_iff.mpr c38
                          subst c38
                          have H1 : ((frame_First.f kj35 x7_3).bind fun bt584 => (if ((bt584.2.2.2 == 0) != x13_3) = true then ((windroselaw02_awake.f kj35).bind fun t593 => (some t593)) else (some false))) = some r := by rw [if_neg (show ¬ (false = true) by decide)] at H; exact H
                          clear H
                          have H := H1
                          clear H1
                          replace H := Option.bind_eq_some_iff.mp H
                          obtain ⟨⟨t584, t587, t590, t591⟩, A520, H⟩ := H
                          replace H : (if ((t591 == 0) != x13_3) = true then ((windroselaw02_awake.f kj35).bind fun t593 => (some t593)) else (some false)) = some r := H
                          have A52 := Aside0.mk A520
                          clear A520
                          by_cases c53 : ((t591 == 0) != x13_3) = true
                          · rw [if_pos c53] at H
                            have c53b0 : ((t591 == 0) != x13_3) = true := c53
                            (try (have c53b1 : decide ((t591 == 0) = x13_3) = false := by simpa using c53))
                            (try (have c53b2 : ((t591 == 0) == x13_3) = false := by simpa using c53))
                            (try (have c53b3 : ¬ ((t591 == 0) = x13_3) := by simpa using c53))
                            clear c53
                            replace H := Option.bind_eq_some_iff.mp H
                            obtain ⟨t593, A540, H⟩ := H
                            replace H : (some t593) = some r := H
                            have A54 := Aside0.mk A540
                            clear A540
                            obtain rfl := Option.some.inj H
                            go_wp2_with (first | ((with_reducible refine gate_callee (f := 39) rfl ?_); refine goesL_ (some 103) rfl rfl Try.func39 (by kernel_rfl) rfl #[.slice Ao35 x7_3.length co35] rfl (by (try simp only [List.map_toArray, List.map_cons, List.map_nil]); first | done | rfl | (simp only [List.length_drop, List.length_take]; rfl)) ?_; (with_reducible refine (frame_First.calls kj35 _ _ x7_3 t584 t587 t590 t591 _ ?side1 ?side2 A52.out).mono ?_); (case side1 => repeat (first | exact (Kd.R_reads' HO_7.out).2.2 | (with_reducible refine Kd.C_alloc ?_ _) | (with_reducible refine Kd.C_drewN ?_ _) | (with_reducible refine Kd.C_drew ?_))); (case side2 => exact (Kd.R_reads' HO_7.out).2.1); rintro e w55 ⟨v585, v588, rfl, ho0, ho1, hb⟩; refine ⟨_, rfl, ?_⟩; have n0_ := Aside0.mk (Kd.R_below (by (with_reducible repeat (first | apply Kd.R_alloc | apply Kd.R_drewN | apply Kd.R_drew)); exact HO_7.out) hb); have n1_ := Aside0.mk (Kd.R_lower ho0 (below_size (by repeat (first | (with_reducible first | exact HB.out | apply below_alloc | apply pw_below_drewN | apply below_drew1 | refine below_set ?_ GE568.out) | exact HB.out)))); have n2_ := Aside0.mk (Kd.R_lower ho1 (below_size (by repeat (first | (with_reducible first | exact HB.out | apply below_alloc | apply pw_below_drewN | apply below_drew1 | refine below_set ?_ GE568.out) | exact HB.out)))); have n3_ := Aside0.mk (blk_below (g := gb568) (o := .cells #[.slice A0_0 l0_0.length c0_0, .slice A0_1 l0_1.length c0_1] 29 (0, 0)) (by (with_reducible repeat (first | refine blk_drewN ?_ _ | refine blk_drew ?_ | refine blk_alloc ?_ _)); exact BK568.out) hb); have n4_ := Aside0.mk (below_step (by repeat (first | (with_reducible first | exact HB.out | apply below_alloc | apply pw_below_drewN | apply below_drew1 | refine below_set ?_ GE568.out) | exact HB.out)) hb); clear HO_7; clear BK568; clear HB; have HO_7 := n0_; have HO586 := n1_; have HO589 := n2_; have BK568 := n3_; have HB := n4_; clear n0_ n1_ n2_ n3_ n4_; (try clear hb); (try clear hb2); (try clear hk); (try clear hi); (try clear ho0); (try clear ho1)) | ((with_reducible refine gate_dst (N := 15) rfl ?_); (try (refine gate_guard (by rfl) ?_; dsimp only)); refine box_event ?hg (N := 15) ?hd (cs := #[.slice none 0 0, .slice none 0 0]) (t := 29) ?hr ?_; (case hd => rfl); (case hg => rfl); (case hr => first | (go_simp; done) | (go_simp; rfl)); intro gb592 hg w56 hbox hb; have n0_ := Aside0.mk (Kd.R_below (by (with_reducible repeat (first | apply Kd.R_alloc | apply Kd.R_drewN | apply Kd.R_drew)); exact HO_7.out) hb); have n1_ := Aside0.mk (Kd.R_below (by (with_reducible repeat (first | apply Kd.R_alloc | apply Kd.R_drewN | apply Kd.R_drew)); exact HO586.out) hb); have n2_ := Aside0.mk (Kd.R_below (by (with_reducible repeat (first | apply Kd.R_alloc | apply Kd.R_drewN | apply Kd.R_drew)); exact HO589.out) hb); have n3_ := Aside0.mk (blk_below (g := gb568) (o := .cells #[.slice A0_0 l0_0.length c0_0, .slice A0_1 l0_1.length c0_1] 29 (0, 0)) (by (with_reducible repeat (first | refine blk_drewN ?_ _ | refine blk_drew ?_ | refine blk_alloc ?_ _)); exact BK568.out) hb); have n4_ := Aside0.mk (below_step (by repeat (first | (with_reducible first | exact HB.out | apply below_alloc | apply pw_below_drewN | apply below_drew1 | refine below_set ?_ GE568.out) | exact HB.out)) hb); have n5_ := Aside0.mk (hbox); have n6_ := Aside0.mk ((by rw [hg]; exact (below_size (by repeat (first | (with_reducible first | exact HB.out | apply below_alloc | apply pw_below_drewN | apply below_drew1 | refine below_set ?_ GE568.out) | exact HB.out))) : w.heap.size ≤ gb592)); have n7_ := Aside0.mk ((by rw [hg]; exact (below_size (by repeat (first | (with_reducible first | exact HB.out | apply below_alloc | apply pw_below_drewN | apply below_drew1 | refine below_set ?_ GE568.out) | exact HB.out))) : w.heap.size ≤ gb592)); have n8_ := Aside0.mk ((by rw [hg]; exact Nat.ne_of_lt (blk_lt (g := gb568) (o := .cells #[.slice A0_0 l0_0.length c0_0, .slice A0_1 l0_1.length c0_1] 29 (0, 0)) (by (with_reducible repeat (first | refine blk_drewN ?_ _ | refine blk_drew ?_ | refine blk_alloc ?_ _)); exact BK568.out)) : gb568 ≠ gb592)); have n9_ := Aside0.mk ((by rw [hg]; exact Nat.ne_of_gt (blk_lt (g := gb568) (o := .cells #[.slice A0_0 l0_0.length c0_0, .slice A0_1 l0_1.length c0_1] 29 (0, 0)) (by (with_reducible repeat (first | refine blk_drewN ?_ _ | refine blk_drew ?_ | refine blk_alloc ?_ _)); exact BK568.out)) : gb592 ≠ gb568)); clear HO_7; clear HO586; clear HO589; clear BK568; clear HB; have HO_7 := n0_; have HO586 := n1_; have HO589 := n2_; have BK568 := n3_; have HB := n4_; have BK592 := n5_; have GW592 := n6_; have GE592 := n7_; have NB568_592 := n8_; have NB592_568 := n9_; clear n0_ n1_ n2_ n3_ n4_ n5_ n6_ n7_ n8_ n9_; clear hb hbox hg; obtain ⟨Ao57, co57, eo57⟩ := Kd.R_slice HO586.out; subst eo57; have hnb58 := NB592_568.out; have hnc58 := NB568_592.out; have hcz59_0 : w56.cell? ⟨gb592, 0, none⟩ = some (.slice none 0 0) := (blk_cell BK592.out 0).trans rfl; have hcz59_1 : w56.cell? ⟨gb592, 1, none⟩ = some (.slice none 0 0) := (blk_cell BK592.out 1).trans rfl; have hfz59_0 := blk_frozen BK592.out 0; have hfz59_1 := blk_frozen BK592.out 1; obtain ⟨Ao60, co60, eo60⟩ := Kd.R_slice HO589.out; subst eo60) | (go_at_call 15; (with_reducible refine (windroselaw02_awake.calls kj35  t593 _ A54.out).mono ?_); rintro e w61 ⟨rfl, hb⟩; have n0_ := Aside0.mk (Kd.R_below (by (with_reducible repeat (first | apply Kd.R_alloc | apply Kd.R_drewN | apply Kd.R_drew)); exact (Kd.R_mono (Kd.R_far (p := ⟨gb592, 1, none⟩) (Kd.R_far (p := ⟨gb592, 0, none⟩) (Kd.R_types HO_7.out BK592.out (by decide)) (fun _ hk => hk.2) (.slice Ao57 t584.length co57)) (fun _ hk => hk.2) (.slice Ao60 t587.length co60)) (fun _ h_ => h_.1))) hb); have n1_ := Aside0.mk (Kd.R_below (by (with_reducible repeat (first | apply Kd.R_alloc | apply Kd.R_drewN | apply Kd.R_drew)); exact (Kd.R_mono (Kd.R_far (p := ⟨gb592, 1, none⟩) (Kd.R_far (p := ⟨gb592, 0, none⟩) (Kd.R_types HO586.out BK592.out (by decide)) (fun _ hk => hk.2) (.slice Ao57 t584.length co57)) (fun _ hk => hk.2) (.slice Ao60 t587.length co60)) (fun _ h_ => h_.1))) hb); have n2_ := Aside0.mk (Kd.R_below (by (with_reducible repeat (first | apply Kd.R_alloc | apply Kd.R_drewN | apply Kd.R_drew)); exact (Kd.R_mono (Kd.R_far (p := ⟨gb592, 1, none⟩) (Kd.R_far (p := ⟨gb592, 0, none⟩) (Kd.R_types HO589.out BK592.out (by decide)) (fun _ hk => hk.2) (.slice Ao57 t584.length co57)) (fun _ hk => hk.2) (.slice Ao60 t587.length co60)) (fun _ h_ => h_.1))) hb); have n3_ := Aside0.mk (blk_below (g := gb568) (o := .cells #[.slice A0_0 l0_0.length c0_0, .slice A0_1 l0_1.length c0_1] 29 (0, 0)) (by (with_reducible repeat (first | refine blk_drewN ?_ _ | refine blk_drew ?_ | refine blk_alloc ?_ _)); refine blk_far ?_ NB568_592.out _; (with_reducible repeat (first | refine blk_drewN ?_ _ | refine blk_drew ?_ | refine blk_alloc ?_ _)); refine blk_far ?_ NB568_592.out _; (with_reducible repeat (first | refine blk_drewN ?_ _ | refine blk_drew ?_ | refine blk_alloc ?_ _)); exact BK568.out) hb); have n4_ := Aside0.mk (blk_below (g := gb592) (o := .cells #[.slice Ao57 t584.length co57, .slice Ao60 t587.length co60] 29 (0, 0)) (by (with_reducible repeat (first | refine blk_drewN ?_ _ | refine blk_drew ?_ | refine blk_alloc ?_ _)); refine blk_put (cs := #[.slice Ao57 t584.length co57, .slice none 0 0]) ?_ 1 _ rfl; (with_reducible repeat (first | refine blk_drewN ?_ _ | refine blk_drew ?_ | refine blk_alloc ?_ _)); refine blk_put (cs := #[.slice none 0 0, .slice none 0 0]) ?_ 0 _ rfl; (with_reducible repeat (first | refine blk_drewN ?_ _ | refine blk_drew ?_ | refine blk_alloc ?_ _)); exact BK592.out) hb); have n5_ := Aside0.mk (below_step (by repeat (first | (with_reducible first | exact HB.out | apply below_alloc | apply pw_below_drewN | apply below_drew1 | refine below_set ?_ GE568.out | refine below_set ?_ GE592.out) | exact HB.out)) hb); clear HO_7; clear HO586; clear HO589; clear BK568; clear BK592; clear HB; have HO_7 := n0_; have HO586 := n1_; have HO589 := n2_; have BK568 := n3_; have BK592 := n4_; have HB := n5_; clear n0_ n1_ n2_ n3_ n4_ n5_; (try clear hb); (try clear hb2); (try clear hk); (try clear hi)))
                            go_ret
                            exact ⟨by first | rfl | (simp [errW_none, errW_some] <;> rfl) | (simp [*, errW_none, errW_some] <;> rfl), by repeat (first | (with_reducible first | exact HB.out | apply below_alloc | apply pw_below_drewN | apply below_drew1 | refine below_set ?_ GE568.out | refine below_set ?_ GE592.out) | exact HB.out)⟩
                          · rw [if_neg c53] at H
                            have c53b0 : ((t591 == 0) != x13_3) = false := by simpa using c53
                            (try (have c53b1 : decide ((t591 == 0) = x13_3) = true := by simpa using c53))
                            (try (have c53b2 : ((t591 == 0) == x13_3) = true := by simpa using c53))
                            clear c53
                            obtain rfl := Option.some.inj H
                            go_wp2_with (first | ((with_reducible refine gate_callee (f := 39) rfl ?_); refine goesL_ (some 103) rfl rfl Try.func39 (by kernel_rfl) rfl #[.slice Ao35 x7_3.length co35] rfl (by (try simp only [List.map_toArray, List.map_cons, List.map_nil]); first | done | rfl | (simp only [List.length_drop, List.length_take]; rfl)) ?_; (with_reducible refine (frame_First.calls kj35 _ _ x7_3 t584 t587 t590 t591 _ ?side1 ?side2 A52.out).mono ?_); (case side1 => repeat (first | exact (Kd.R_reads' HO_7.out).2.2 | (with_reducible refine Kd.C_alloc ?_ _) | (with_reducible refine Kd.C_drewN ?_ _) | (with_reducible refine Kd.C_drew ?_))); (case side2 => exact (Kd.R_reads' HO_7.out).2.1); rintro e w62 ⟨v585, v588, rfl, ho0, ho1, hb⟩; refine ⟨_, rfl, ?_⟩; have n0_ := Aside0.mk (Kd.R_below (by (with_reducible repeat (first | apply Kd.R_alloc | apply Kd.R_drewN | apply Kd.R_drew)); exact HO_7.out) hb); have n1_ := Aside0.mk (Kd.R_lower ho0 (below_size (by repeat (first | (with_reducible first | exact HB.out | apply below_alloc | apply pw_below_drewN | apply below_drew1 | refine below_set ?_ GE568.out) | exact HB.out)))); have n2_ := Aside0.mk (Kd.R_lower ho1 (below_size (by repeat (first | (with_reducible first | exact HB.out | apply below_alloc | apply pw_below_drewN | apply below_drew1 | refine below_set ?_ GE568.out) | exact HB.out)))); have n3_ := Aside0.mk (blk_below (g := gb568) (o := .cells #[.slice A0_0 l0_0.length c0_0, .slice A0_1 l0_1.length c0_1] 29 (0, 0)) (by (with_reducible repeat (first | refine blk_drewN ?_ _ | refine blk_drew ?_ | refine blk_alloc ?_ _)); exact BK568.out) hb); have n4_ := Aside0.mk (below_step (by repeat (first | (with_reducible first | exact HB.out | apply below_alloc | apply pw_below_drewN | apply below_drew1 | refine below_set ?_ GE568.out) | exact HB.out)) hb); clear HO_7; clear BK568; clear HB; have HO_7 := n0_; have HO586 := n1_; have HO589 := n2_; have BK568 := n3_; have HB := n4_; clear n0_ n1_ n2_ n3_ n4_; (try clear hb); (try clear hb2); (try clear hk); (try clear hi); (try clear ho0); (try clear ho1)) | ((with_reducible refine gate_dst (N := 15) rfl ?_); (try (refine gate_guard (by rfl) ?_; dsimp only)); refine box_event ?hg (N := 15) ?hd (cs := #[.slice none 0 0, .slice none 0 0]) (t := 29) ?hr ?_; (case hd => rfl); (case hg => rfl); (case hr => first | (go_simp; done) | (go_simp; rfl)); intro gb592 hg w63 hbox hb; have n0_ := Aside0.mk (Kd.R_below (by (with_reducible repeat (first | apply Kd.R_alloc | apply Kd.R_drewN | apply Kd.R_drew)); exact HO_7.out) hb); have n1_ := Aside0.mk (Kd.R_below (by (with_reducible repeat (first | apply Kd.R_alloc | apply Kd.R_drewN | apply Kd.R_drew)); exact HO586.out) hb); have n2_ := Aside0.mk (Kd.R_below (by (with_reducible repeat (first | apply Kd.R_alloc | apply Kd.R_drewN | apply Kd.R_drew)); exact HO589.out) hb); have n3_ := Aside0.mk (blk_below (g := gb568) (o := .cells #[.slice A0_0 l0_0.length c0_0, .slice A0_1 l0_1.length c0_1] 29 (0, 0)) (by (with_reducible repeat (first | refine blk_drewN ?_ _ | refine blk_drew ?_ | refine blk_alloc ?_ _)); exact BK568.out) hb); have n4_ := Aside0.mk (below_step (by repeat (first | (with_reducible first | exact HB.out | apply below_alloc | apply pw_below_drewN | apply below_drew1 | refine below_set ?_ GE568.out) | exact HB.out)) hb); have n5_ := Aside0.mk (hbox); have n6_ := Aside0.mk ((by rw [hg]; exact (below_size (by repeat (first | (with_reducible first | exact HB.out | apply below_alloc | apply pw_below_drewN | apply below_drew1 | refine below_set ?_ GE568.out) | exact HB.out))) : w.heap.size ≤ gb592)); have n7_ := Aside0.mk ((by rw [hg]; exact (below_size (by repeat (first | (with_reducible first | exact HB.out | apply below_alloc | apply pw_below_drewN | apply below_drew1 | refine below_set ?_ GE568.out) | exact HB.out))) : w.heap.size ≤ gb592)); have n8_ := Aside0.mk ((by rw [hg]; exact Nat.ne_of_lt (blk_lt (g := gb568) (o := .cells #[.slice A0_0 l0_0.length c0_0, .slice A0_1 l0_1.length c0_1] 29 (0, 0)) (by (with_reducible repeat (first | refine blk_drewN ?_ _ | refine blk_drew ?_ | refine blk_alloc ?_ _)); exact BK568.out)) : gb568 ≠ gb592)); have n9_ := Aside0.mk ((by rw [hg]; exact Nat.ne_of_gt (blk_lt (g := gb568) (o := .cells #[.slice A0_0 l0_0.length c0_0, .slice A0_1 l0_1.length c0_1] 29 (0, 0)) (by (with_reducible repeat (first | refine blk_drewN ?_ _ | refine blk_drew ?_ | refine blk_alloc ?_ _)); exact BK568.out)) : gb592 ≠ gb568)); clear HO_7; clear HO586; clear HO589; clear BK568; clear HB; have HO_7 := n0_; have HO586 := n1_; have HO589 := n2_; have BK568 := n3_; have HB := n4_; have BK592 := n5_; have GW592 := n6_; have GE592 := n7_; have NB568_592 := n8_; have NB592_568 := n9_; clear n0_ n1_ n2_ n3_ n4_ n5_ n6_ n7_ n8_ n9_; clear hb hbox hg; obtain ⟨Ao64, co64, eo64⟩ := Kd.R_slice HO586.out; subst eo64; have hnb65 := NB592_568.out; have hnc65 := NB568_592.out; have hcz66_0 : w63.cell? ⟨gb592, 0, none⟩ = some (.slice none 0 0) := (blk_cell BK592.out 0).trans rfl; have hcz66_1 : w63.cell? ⟨gb592, 1, none⟩ = some (.slice none 0 0) := (blk_cell BK592.out 1).trans rfl; have hfz66_0 := blk_frozen BK592.out 0; have hfz66_1 := blk_frozen BK592.out 1; obtain ⟨Ao67, co67, eo67⟩ := Kd.R_slice HO589.out; subst eo67))
                            go_ret
                            exact ⟨by first | rfl | (simp [errW_none, errW_some] <;> rfl) | (simp [*, errW_none, errW_some] <;> rfl), by repeat (first | (with_reducible first | exact HB.out | apply below_alloc | apply pw_below_drewN | apply below_drew1 | refine below_set ?_ GE568.out | refine below_set ?_ GE592.out) | exact HB.out)⟩
end Go.Proofs.Ytlpohipneianjaa.G
end
section
set_option linter.unusedVariables false
set_option linter.unusedSimpArgs false
namespace Go.Proofs.YtlpohipneianjaaX
open Go Go.RowKit Go.Proofs.YtlpohipneianjaaW.PrintWords Go.ChangeShapes Go.WideShapes
def Rd (P : Program) (t : TypeId) {α : Type} (d : Kd α) (ok : α → Prop) : Prop :=
  ∀ {H : Type} (enc : TypeId × Value → H) (W : World) (base : Nat) (spare : Nat → Bool) (held : Bool) (fuel : Nat) (cs : List Value) (x : DataW H × List MemPlace),
    DataW.trod enc P W base spare held fuel t cs = some x → ∃ a, d.K W a cs ∧ ok a
def RdFs (P : Program) (L : List (TypeId × Nat)) (o e : Nat) {α : Type} (d : Kd α) (ok : α → Prop) : Prop :=
  ∀ {H : Type} (enc : TypeId × Value → H) (W : World) (base : Nat) (spare : Nat → Bool) (held : Bool) (fuel : Nat) (cs : List Value), cs.length = e →
    (∀ (i : Nat) (p : TypeId × Nat), L[i]? = some p → ∃ y, DataW.trod enc P W base spare held fuel p.1 ((cs.drop p.2).take (P.cellsOf p.1)) = some y) → ∃ a, d.K W a (cs.drop o) ∧ ok a
section
variable {P : Program} {t e : TypeId}
theorem Rd.int {k : IntKind} (ht : P.underlying t = some (.int k)) : Rd P t (Kd.int k) (fun n => (Lit.int k n).wf = true) := by
  intro H enc W base spare held fuel cs x h
  obtain ⟨n, rfl, _, hn⟩ := DataW.trod_int ht h
  exact ⟨n, rfl, hn⟩
theorem Rd.bool (ht : P.underlying t = some .bool) : Rd P t Kd.bool (fun _ => True) := by
  intro H enc W base spare held fuel cs x h
  obtain ⟨b, rfl, _⟩ := DataW.trod_bool ht h
  exact ⟨b, rfl, trivial⟩
theorem Rd.string (ht : P.underlying t = some .string) : Rd P t Kd.string (fun s => s.size ≤ maxLen) := by
  intro H enc W base spare held fuel cs x h
  obtain ⟨s, rfl, _, hs⟩ := DataW.trod_string ht h
  exact ⟨s, rfl, hs⟩
theorem cells_get {w : World} {base : Nat} {a : Addr} {n : Nat} {cs : List Value} (h : w.cells? base a n = some cs) : ∀ i u, cs[i]? = some u → w.cell? (a.add i) = some u := by
  intro i u hi
  obtain ⟨_, hl, hc⟩ := World.cells?_some h
  have hlt : i < cs.length := (List.getElem?_eq_some_iff.1 hi).1
  have := hc i (by omega)
  rw [hi] at this
  exact this
theorem Rd.slice {α : Type} {d : Kd α} {ok : α → Prop} (ht : P.underlying t = some (.slice e)) (he : P.cellsOf e = d.sz) (hd : Rd P e d ok) :
    Rd P t (Kd.slice e d) (fun l => l.length ≤ maxLen ∧ ∀ x ∈ l, ok x) := by
  intro H enc W base spare held fuel cs x h
  rcases Deep.open_slice ht h with ⟨rfl, _⟩ | ⟨a, len, cap, m, n, D, Pl, rfl, hb, hl, hm, hmm, rfl, hx⟩
  · exact ⟨[], ⟨none, 0, rfl, Nat.le_refl _, rfl, by simp, fun h0 => absurd h0 (Nat.lt_irrefl _)⟩, by simp [maxLen], fun x hx => by cases hx⟩
  · have hlm : len ≤ m := by rw [hmm]; split <;> omega
    have hall : ∀ i, i < len → ∃ y : α, (∃ c, W.cells? base (a.add (i * P.cellsOf e)) (P.cellsOf e) = some c ∧ d.K W y c) ∧ ok y := by
      intro i hi
      obtain ⟨c, h1, h2⟩ := hx i (by omega)
      obtain ⟨y, h3, h4⟩ := hd enc W base spare held n c _ h2
      exact ⟨y, ⟨c, h1, h3⟩, h4⟩
    have hlist : ∃ l : List α, l.length = len ∧ ∀ i y, l[i]? = some y → (∃ c, W.cells? base (a.add (i * P.cellsOf e)) (P.cellsOf e) = some c ∧ d.K W y c) ∧ ok y := by
      have key : ∀ k, k ≤ len → ∃ l : List α, l.length = k ∧ ∀ i y, l[i]? = some y → (∃ c, W.cells? base (a.add (i * P.cellsOf e)) (P.cellsOf e) = some c ∧ d.K W y c) ∧ ok y := by
        intro k
        induction k with
        | zero => exact fun _ => ⟨[], rfl, fun i y hy => by simp at hy⟩
        | succ k ih =>
          intro hk
          obtain ⟨l, hl1, hl2⟩ := ih (by omega)
          obtain ⟨y, hy⟩ := hall k (by omega)
          refine ⟨l ++ [y], by simp [hl1], fun i z hz => ?_⟩
          rcases Nat.lt_or_ge i l.length with hi | hi
          · rw [List.getElem?_append_left hi] at hz
            exact hl2 i z hz
          · rw [List.getElem?_append_right hi] at hz
            have h0 : i - l.length = 0 := by
              have := (List.getElem?_eq_some_iff.1 hz).1
              simp at this
              omega
            rw [h0] at hz
            simp at hz
            subst hz
            have : i = k := by omega
            subst this
            exact hy
      exact key len (Nat.le_refl _)
    obtain ⟨l, hl1, hl2⟩ := hlist
    refine ⟨l, ⟨some a, cap, by rw [hl1], by omega, rfl, by rw [hl1]; simp only [maxLen] at hm; omega, fun _ => ⟨a, rfl, fun j p hp => ?_⟩⟩, by omega, fun y hy => ?_⟩
    · obtain ⟨⟨c, h1, h2⟩, _⟩ := hl2 j p hp
      refine ⟨c, d.K_len h2, h2, fun i u hu => ?_⟩
      have := cells_get h1 i u hu
      rw [Deep.add_add, he] at this
      exact this
    · obtain ⟨i, hi, rfl⟩ := List.getElem_of_mem hy
      exact (hl2 i _ (List.getElem?_eq_getElem hi)).2
theorem RdFs.one {t o : Nat} {α : Type} {d : Kd α} {ok : α → Prop} (h : Rd P t d ok) : RdFs P [(t, o)] o (o + P.cellsOf t) d ok := by
  intro H enc W base spare held fuel cs hl hi
  obtain ⟨y, hy⟩ := hi 0 _ rfl
  obtain ⟨a, ha, hk⟩ := h enc W base spare held fuel _ _ hy
  rw [List.take_of_length_le (by simp [hl])] at ha
  exact ⟨a, ha, hk⟩
theorem RdFs.cons {t o e' : Nat} {L : List (TypeId × Nat)} {α β : Type} {d : Kd α} {d' : Kd β} {ok : α → Prop} {ok' : β → Prop} (h : Rd P t d ok) (hs : RdFs P L (o + P.cellsOf t) e' d' ok') :
    RdFs P ((t, o) :: L) o e' (Kd.pair d d') (fun x => ok x.1 ∧ ok' x.2) := by
  intro H enc W base spare held fuel cs hl hi
  obtain ⟨y, hy⟩ := hi 0 _ rfl
  obtain ⟨a, ha, hk⟩ := h enc W base spare held fuel _ _ hy
  obtain ⟨b, hb, hk'⟩ := hs enc W base spare held fuel cs hl (fun i p hp => hi (i + 1) p (by simpa using hp))
  refine ⟨(a, b), ⟨_, _, ?_, ha, hb⟩, hk, hk'⟩
  rw [← List.drop_drop]
  exact (List.take_append_drop _ _).symm
theorem Rd.struct {α β : Type} {d : Kd α} {ok : α → Prop} {fs : Array Field} (f : β → α) (g : α → β) (hg : ∀ a, f (g a) = a) (ht : P.underlying t = some (.struct fs))
    (h : RdFs P (fs.toList.map fun f => (f.type, f.offset)) 0 (P.cellsOf t) d ok) : Rd P t (Kd.iso d f) (fun x => ok (f x)) := by
  intro H enc W base spare held fuel cs x hx
  obtain ⟨xs, n, rfl, _, hl, hn, hi⟩ := DataW.trod_struct ht hx
  obtain ⟨a, ha, hk⟩ := h enc W base spare held n cs hl (fun i p hp => by
    rw [List.getElem?_map] at hp
    obtain ⟨f', hf', rfl⟩ := Option.map_eq_some_iff.1 hp
    have h1 := hi i f' (by simpa using hf')
    have hlt : i < xs.length := by
      have := (List.getElem?_eq_some_iff.1 hf').1
      simp at this
      omega
    rw [List.getElem?_eq_getElem hlt] at h1
    exact ⟨_, h1⟩)
  refine ⟨g a, ?_, by show ok (f (g a)); rw [hg]; exact hk⟩
  show d.K W (f (g a)) cs
  rw [hg]
  simpa using ha
theorem Rd.array {α β : Type} {d : Kd α} {ok : α → Prop} {n : Nat} (f : β → α) (g : α → β) (hg : ∀ a, f (g a) = a) (ht : P.underlying t = some (.array n e))
    (h : RdFs P ((List.range n).map fun i => (e, i * P.cellsOf e)) 0 (P.cellsOf t) d ok) : Rd P t (Kd.iso d f) (fun x => ok (f x)) := by
  intro H enc W base spare held fuel cs x hx
  obtain ⟨xs, m, rfl, _, hl, hn, hi⟩ := DataW.trod_array ht hx
  obtain ⟨a, ha, hk⟩ := h enc W base spare held m cs hl (fun i p hp => by
    rw [List.getElem?_map] at hp
    obtain ⟨j, hj, rfl⟩ := Option.map_eq_some_iff.1 hp
    obtain ⟨hlt, hj⟩ := List.getElem?_eq_some_iff.1 hj
    simp at hj hlt
    subst hj
    have h1 := hi i hlt
    rw [List.getElem?_eq_getElem (by omega)] at h1
    exact ⟨_, h1⟩)
  refine ⟨g a, ?_, by show ok (f (g a)); rw [hg]; exact hk⟩
  show d.K W (f (g a)) cs
  rw [hg]
  simpa using ha
end
end Go.Proofs.YtlpohipneianjaaX
end
section
set_option linter.unusedVariables false
namespace Go.Proofs.Ytlpohipneianjaa.Q
open Go Go.RowKit Go.Proofs.YtlpohipneianjaaW.PrintWords
theorem w64 {x : Int} (h : -9223372036854775808 ≤ x) (h' : x ≤ 9223372036854775807) : wrap64 x = x := by unfold wrap64; omega
theorem Ev.succ {α : Type} {g : Nat → Option α} {r : α} (K : Nat) (h : ∀ k, K ≤ k → g (k + 1) = some r) : Ev g r := by
  refine ⟨K + 1, fun k hk => ?_⟩
  obtain ⟨m, rfl⟩ : ∃ m, k = m + 1 := ⟨k - 1, by omega⟩
  exact h m (by omega)
theorem Ev.mk {α : Type} {g : Nat → Option α} {r : α} (K : Nat) (h : ∀ k, K ≤ k → g k = some r) : Ev g r := ⟨K, h⟩
theorem wf_i64 {x : Int} (h : (Lit.int .i64 x).wf = true) : -9223372036854775808 ≤ x ∧ x ≤ 9223372036854775807 := by
  simp [Lit.wf] at h
  have e1 : IntKind.min .i64 = -9223372036854775808 := by decide
  rw [e1] at h
  exact h
theorem getD_mem {α : Type} (l : List α) (i : Nat) (d : α) (h : i < l.length) : l.getD i d ∈ l := by
  rw [List.getD_eq_getElem?_getD, List.getElem?_eq_getElem h]
  exact List.getElem_mem h
theorem drop_getD {α : Type} (l : List α) (i : Nat) (d : α) (h : i < l.length) : l.drop i = l.getD i d :: l.drop (i + 1) := by
  rw [List.drop_eq_getElem_cons h, List.getD_eq_getElem?_getD, List.getElem?_eq_getElem h]
  rfl
theorem tmod_nn {a b : Int} (h : 0 ≤ a) : Int.tmod a b = a % b := Int.tmod_eq_emod_of_nonneg h
theorem tdiv_nn {a b : Int} (h : 0 ≤ a) : Int.tdiv a b = a / b := Int.tdiv_eq_ediv_of_nonneg h
end Go.Proofs.Ytlpohipneianjaa.Q
end
section
namespace Go.Proofs.Ytlpohipneianjaa.Q
open Go Go.RowKit Go.Proofs.Ytlpohipneianjaa.G Go.Proofs.YtlpohipneianjaaW.PrintWords Go.Proofs.YtlpohipneianjaaW.PrintLast
theorem awake02_ev : (∃ K, ∀ k, K ≤ k → windroselaw02_awake.f k = some (true)) := by
  have h1 : frame_Encode.f 40 [5] [(⟨#[97]⟩ : ByteArray)] = some ([1, 10, 1, 1, 97], 0) := by decide +kernel
  have h2 : frame_Sum.f 200 [49, 50, 51, 52, 53, 54, 55, 56, 57] = some 783370361 := by decide +kernel
  refine ⟨200, fun k hk => ?_⟩
  unfold windroselaw02_awake.f
  rw [if_pos ⟨at_rounds (g := fun k => frame_Encode.f k [5] [(⟨#[97]⟩ : ByteArray)]) (fun k => frame_Encode.mono _ _ k) (by omega) h1, at_rounds (g := fun k => frame_Sum.f k [49, 50, 51, 52, 53, 54, 55, 56, 57]) (fun k => frame_Sum.mono _ k) hk h2⟩]
end Go.Proofs.Ytlpohipneianjaa.Q
end
section
namespace Go.Proofs.Ytlpohipneianjaa.G
open Go.RowKit Go.Proofs.YtlpohipneianjaaW.PrintWords Go.Proofs.YtlpohipneianjaaW.PrintLast Go.Proofs.YtlpohipneianjaaW.PrintMore
set_option linter.unusedVariables false
set_option linter.unusedSimpArgs false
mutual
def windroseref02_Lead.l0 : Nat → List Int → Int → Int → Option (Int × Int)
  | 0, _, _, _ => none
  | k + 1, x0, x4, x5 => if x5 < (x0.length : Int) then (windroseref02_Lead.j1 k x0 x4 x5 (decide (x5 < 10))) else (windroseref02_Lead.j1 k x0 x4 x5 false)
def windroseref02_Lead.j1 : Nat → List Int → Int → Int → Bool → Option (Int × Int)
  | 0, _, _, _, _ => none
  | k + 1, x0, x4, x5, x13 => if x13 = true then (if 0 ≤ x5 then (if x5 < (x0.length : Int) then (if 0 ≤ (IntKind.u64.wrap (wrap64 (7 * x5))) then (if (rd x0 x5) < 128 then (some (IntKind.u64.wrap (x4 + (shl .u64 (IntKind.u64.wrap (Int.tmod (rd x0 x5) 128)) (IntKind.u64.wrap (wrap64 (7 * x5))))), wrap64 (x5 + 1))) else (windroseref02_Lead.l0 k x0 (IntKind.u64.wrap (x4 + (shl .u64 (IntKind.u64.wrap (Int.tmod (rd x0 x5) 128)) (IntKind.u64.wrap (wrap64 (7 * x5)))))) (wrap64 (x5 + 1)))) else (none)) else (none)) else (none)) else (some (0, 0))
end
def windroseref02_Lead.f (k : Nat) (l0 : List Int) : Option (Int × Int) := windroseref02_Lead.l0 k l0 0 0
end Go.Proofs.Ytlpohipneianjaa.G
end
section
namespace Go.Proofs.Ytlpohipneianjaa.G
open Go.RowKit Go.Proofs.YtlpohipneianjaaW.PrintWords Go.Proofs.YtlpohipneianjaaW.PrintLast Go.Proofs.YtlpohipneianjaaW.PrintMore
set_option linter.unusedVariables false
set_option linter.unusedSimpArgs false
mutual
def windroseref02_Decode.l0 : Nat → List Int → Int → Int → Int → Int → List Int → Option (List Int × List ByteArray × Int)
  | 0, _, _, _, _, _, _ => none
  | k + 1, x0, x5, x6, x7, x8, x425000 => if x6 > 0 then (windroseref02_Decode.j1 k x0 x5 x6 x7 x8 (decide (x8 < x5)) x425000) else (windroseref02_Decode.j1 k x0 x5 x6 x7 x8 false x425000)
def windroseref02_Decode.j1 : Nat → List Int → Int → Int → Int → Int → Bool → List Int → Option (List Int × List ByteArray × Int)
  | 0, _, _, _, _, _, _, _ => none
  | k + 1, x0, x5, x6, x7, x8, x32, x425000 => if x32 = true then (if 0 ≤ x7 then (if x7 ≤ (x0.length : Int) then ((windroseref02_Lead.f k (x0.drop (x7 : Int).toNat)).bind fun bt428 => (if (Int.tmod bt428.1 2) = 1 then (if x425000.length < 17592186044416 then (windroseref02_Decode.l0 k x0 x5 bt428.2 (wrap64 (x7 + bt428.2)) (IntKind.u64.wrap (x8 + 1)) (x425000 ++ [wrap64 ((-1) - (wrap64 (IntKind.u64.wrap (Int.tdiv bt428.1 2))))])) else (none)) else (if x425000.length < 17592186044416 then (windroseref02_Decode.l0 k x0 x5 bt428.2 (wrap64 (x7 + bt428.2)) (IntKind.u64.wrap (x8 + 1)) (x425000 ++ [wrap64 (IntKind.u64.wrap (Int.tdiv bt428.1 2))])) else (none)))) else (none)) else (none)) else (if x6 > 0 then (if 0 ≤ x7 then (if x7 ≤ (x0.length : Int) then ((windroseref02_Lead.f k (x0.drop (x7 : Int).toNat)).bind fun bt437 => (windroseref02_Decode.j2 k x0 bt437.1 bt437.2 (wrap64 (x7 + bt437.2)) x425000)) else (none)) else (none)) else (windroseref02_Decode.j2 k x0 0 x6 x7 x425000))
def windroseref02_Decode.j2 : Nat → List Int → Int → Int → Int → List Int → Option (List Int × List ByteArray × Int)
  | 0, _, _, _, _, _ => none
  | k + 1, x0, x5, x6, x7, x425000 => windroseref02_Decode.l1 k x0 x5 x6 x7 0 x425000 ([] : List ByteArray)
def windroseref02_Decode.l1 : Nat → List Int → Int → Int → Int → Int → List Int → List ByteArray → Option (List Int × List ByteArray × Int)
  | 0, _, _, _, _, _, _, _ => none
  | k + 1, x0, x5, x6, x7, x12, x425000, x425001 => if x6 > 0 then (windroseref02_Decode.j4 k x0 x5 x6 x7 x12 (decide (x12 < x5)) x425000 x425001) else (windroseref02_Decode.j4 k x0 x5 x6 x7 x12 false x425000 x425001)
def windroseref02_Decode.j4 : Nat → List Int → Int → Int → Int → Int → Bool → List Int → List ByteArray → Option (List Int × List ByteArray × Int)
  | 0, _, _, _, _, _, _, _, _ => none
  | k + 1, x0, x5, x6, x7, x12, x78, x425000, x425001 => if x78 = true then (if 0 ≤ x7 then (if x7 ≤ (x0.length : Int) then ((windroseref02_Lead.f k (x0.drop (x7 : Int).toNat)).bind fun bt443 => (if bt443.2 > 0 then (windroseref02_Decode.j5 k x0 x5 bt443.2 x7 x12 bt443.1 bt443.2 (decide (bt443.1 > (IntKind.u64.wrap (wrap64 ((wrap64 ((x0.length : Int) - x7)) - bt443.2))))) x425000 x425001) else (windroseref02_Decode.j5 k x0 x5 bt443.2 x7 x12 bt443.1 bt443.2 false x425000 x425001))) else (none)) else (none)) else (if x6 = 0 then (some (([] : List Int), ([] : List ByteArray), 2)) else ((windroseref02_Bytes.f k x425000 x425001).bind fun t439 => (if (strOfNums t439).toList = (strOfNums x0).toList then (some (x425000, x425001, 0)) else (some (([] : List Int), ([] : List ByteArray), 2)))))
def windroseref02_Decode.j5 : Nat → List Int → Int → Int → Int → Int → Int → Int → Bool → List Int → List ByteArray → Option (List Int × List ByteArray × Int)
  | 0, _, _, _, _, _, _, _, _, _, _ => none
  | k + 1, x0, x5, x6, x7, x12, x13, x14, x101, x425000, x425001 => if x101 = true then (windroseref02_Decode.l1 k x0 x5 0 x7 (IntKind.u64.wrap (x12 + 1)) x425000 x425001) else (if x6 > 0 then (if 0 ≤ (wrap64 (x7 + x14)) then (if (wrap64 (x7 + x14)) ≤ (wrap64 ((wrap64 (x7 + x14)) + (wrap64 (x13)))) then (if (wrap64 ((wrap64 (x7 + x14)) + (wrap64 (x13)))) ≤ (x0.length : Int) then (if x425001.length < 8796093022208 then (windroseref02_Decode.l1 k x0 x5 x6 (wrap64 ((wrap64 (x7 + x14)) + (wrap64 (x13)))) (IntKind.u64.wrap (x12 + 1)) x425000 (x425001 ++ [strOfNums ((x0.take ((wrap64 ((wrap64 (x7 + x14)) + (wrap64 (x13)))) : Int).toNat).drop ((wrap64 (x7 + x14)) : Int).toNat)])) else (none)) else (none)) else (none)) else (none)) else (windroseref02_Decode.l1 k x0 x5 x6 x7 (IntKind.u64.wrap (x12 + 1)) x425000 x425001))
end
def windroseref02_Decode.f (k : Nat) (l0 : List Int) : Option (List Int × List ByteArray × Int) := if (l0.length : Int) > 4096 then (some (([] : List Int), ([] : List ByteArray), 4)) else ((windroseref02_Lead.f k l0).bind fun bt425 => (windroseref02_Decode.l0 k l0 bt425.1 bt425.2 bt425.2 0 ([] : List Int)))
end Go.Proofs.Ytlpohipneianjaa.G
end
section
namespace Go.Proofs.Ytlpohipneianjaa.G
open Go.RowKit Go.Proofs.YtlpohipneianjaaW.PrintWords Go.Proofs.YtlpohipneianjaaW.PrintLast Go.Proofs.YtlpohipneianjaaW.PrintMore
set_option linter.unusedVariables false
set_option linter.unusedSimpArgs false
def windroseref02_First.j0 : Nat → List Int → Int → Int → Bool → Option (List Int × List ByteArray × Int × Int)
  | 0, _, _, _, _ => none
  | k + 1, x0, x5, x6, x40 => if x40 = true then (some (([] : List Int), ([] : List ByteArray), 0, 2)) else (if 0 ≤ x6 then (if x6 ≤ (wrap64 (x6 + (wrap64 (x5)))) then (if (wrap64 (x6 + (wrap64 (x5)))) ≤ (x0.length : Int) then ((windroseref02_Sum.f k ((x0.take ((wrap64 (x6 + (wrap64 (x5)))) : Int).toNat).drop (x6 : Int).toNat)).bind fun t602 => ((windroseref02_four.f t602).bind fun t603 => (if 0 ≤ (wrap64 (x6 + (wrap64 (x5)))) then (if (wrap64 (x6 + (wrap64 (x5)))) ≤ (wrap64 ((wrap64 (x6 + (wrap64 (x5)))) + 4)) then (if (wrap64 ((wrap64 (x6 + (wrap64 (x5)))) + 4)) ≤ (x0.length : Int) then (if (strOfNums t603).toList = (strOfNums ((x0.take ((wrap64 ((wrap64 (x6 + (wrap64 (x5)))) + 4)) : Int).toNat).drop ((wrap64 (x6 + (wrap64 (x5)))) : Int).toNat)).toList then ((windroseref02_Decode.f k ((x0.take ((wrap64 (x6 + (wrap64 (x5)))) : Int).toNat).drop (x6 : Int).toNat)).bind fun bt607 => (if bt607.2.2 = 0 then (some (bt607.1, bt607.2.1, wrap64 ((wrap64 (x6 + (wrap64 (x5)))) + 4), 0)) else (some (([] : List Int), ([] : List ByteArray), 0, bt607.2.2)))) else (some (([] : List Int), ([] : List ByteArray), 0, 3))) else (none)) else (none)) else (none)))) else (none)) else (none)) else (none))
def windroseref02_First.f (k : Nat) (l0 : List Int) : Option (List Int × List ByteArray × Int × Int) := (windroseref02_Lead.f k l0).bind fun bt595 => (if bt595.2 = 0 then (windroseref02_First.j0 k l0 bt595.1 bt595.2 true) else (if bt595.1 > 4096 then (windroseref02_First.j0 k l0 bt595.1 bt595.2 true) else ((windroseref02_count.f k bt595.1).bind fun t597 => (if 0 ≤ bt595.2 then (if bt595.2 ≤ (l0.length : Int) then (if (strOfNums t597).toList = (strOfNums (l0.take (bt595.2 : Int).toNat)).toList then (windroseref02_First.j0 k l0 bt595.1 bt595.2 (decide ((wrap64 ((wrap64 ((l0.length : Int) - bt595.2)) - 4)) < (wrap64 (bt595.1))))) else (windroseref02_First.j0 k l0 bt595.1 bt595.2 true)) else (none)) else (none)))))
end Go.Proofs.Ytlpohipneianjaa.G
end
section
set_option linter.unusedVariables false
namespace Go.Proofs.Ytlpohipneianjaa.Q
open Go Go.RowKit Go.Proofs.Ytlpohipneianjaa.G Go.Proofs.YtlpohipneianjaaW.PrintWords Go.Proofs.YtlpohipneianjaaW.PrintLast
def countS (u : Nat) : List Int := if h : u < 128 then [(u : Int)] else ((u % 128 + 128 : Nat) : Int) :: countS (u / 128)
termination_by u
decreasing_by omega
theorem countS_lt {u : Nat} (h : u < 128) : countS u = [(u : Int)] := by rw [countS, dif_pos h]
theorem countS_ge {u : Nat} (h : ¬ u < 128) : countS u = ((u % 128 + 128 : Nat) : Int) :: countS (u / 128) := by rw [countS, dif_neg h]
theorem countS_len (n : Nat) : ∀ u : Nat, u < 128 ^ (n + 1) → (countS u).length ≤ n + 1 := by
  induction n with
  | zero => intro u h; rw [countS_lt (by simpa using h)]; simp
  | succ n ih =>
    intro u h
    by_cases h1 : u < 128
    · rw [countS_lt h1]; simp
    · rw [countS_ge h1]
      have := ih (u / 128) (by rw [Nat.pow_succ] at h; omega)
      simp only [List.length_cons]
      omega
theorem countS_len10 {u : Nat} (h : u < 18446744073709551616) : (countS u).length ≤ 10 := countS_len 9 u (by omega)
theorem countS_pos (u : Nat) : 0 < (countS u).length := by
  by_cases h : u < 128
  · rw [countS_lt h]; simp
  · rw [countS_ge h]; simp
theorem or128 (x : Nat) : Go.bits .or .u8 ((x : Int) % 256) 128 = ((x % 128 + 128 : Nat) : Int) := by
  have h := (bits_nat .u8 8 (by decide) wraps_u8 (x % 256) 128 (by omega) (by decide)).2
  have e : ((x : Int) % 256) = ((x % 256 : Nat) : Int) := by omega
  rw [e, show (128 : Int) = ((128 : Nat) : Int) from rfl, h]
  have k : ∀ y : Fin 256, y.val ||| 128 = y.val % 128 + 128 := by decide +kernel
  have := k ⟨x % 256, by omega⟩
  simp only at this
  rw [this]
  omega
theorem count_loop (n : Nat) : ∀ (u : Nat) (acc : List Int), u < 128 ^ (n + 1) → acc.length + n ≤ 1000 → (∃ K, ∀ k, K ≤ k → frame_count.l0 k (u : Int) acc = some ((acc ++ countS u))) := by
  induction n with
  | zero =>
    intro u acc h ha
    have h1 : u < 128 := by simpa using h
    refine Ev.succ 0 fun k _ => ?_
    simp only [frame_count.l0]
    rw [if_neg (by omega), if_pos (by omega), countS_lt h1]
    congr 3
    omega
  | succ n ih =>
    intro u acc h ha
    by_cases h1 : u < 128
    · refine Ev.succ 0 fun k _ => ?_
      simp only [frame_count.l0]
      rw [if_neg (by omega), if_pos (by omega), countS_lt h1]
      congr 3
      omega
    · obtain ⟨K, hK⟩ := ih (u / 128) (acc ++ [((u % 128 + 128 : Nat) : Int)]) (by rw [Nat.pow_succ] at h; omega) (by simp; omega)
      refine Ev.succ K fun k hk => ?_
      simp only [frame_count.l0]
      rw [if_pos (by omega), if_pos (by omega), or128, show (u : Int) / 128 = ((u / 128 : Nat) : Int) by omega, hK k hk, countS_ge h1]
      simp
theorem count_ev {u : Nat} (h : u < 18446744073709551616) : (∃ K, ∀ k, K ≤ k → frame_count.f k (u : Int) = some ((countS u))) := by
  obtain ⟨K, hK⟩ := count_loop 9 u [] (by omega) (by simp)
  exact ⟨K, fun k hk => by unfold frame_count.f; simpa using hK k hk⟩
theorem refcount_ev (n : Nat) : ∀ u : Nat, u < 128 ^ (n + 1) → u < 18446744073709551616 → n ≤ 100 → (∃ K, ∀ k, K ≤ k → windroseref02_count.f k (u : Int) = some ((countS u))) := by
  induction n with
  | zero =>
    intro u h _ _
    have h1 : u < 128 := by simpa using h
    refine Ev.succ 0 fun k _ => ?_
    simp only [windroseref02_count.f]
    rw [if_pos (by omega), countS_lt h1]
    congr 2
    omega
  | succ n ih =>
    intro u h h64 hn
    by_cases h1 : u < 128
    · refine Ev.succ 0 fun k _ => ?_
      simp only [windroseref02_count.f]
      rw [if_pos (by omega), countS_lt h1]
      congr 2
      omega
    · have hl : u / 128 < 128 ^ (n + 1) := by rw [Nat.pow_succ] at h; omega
      obtain ⟨K, hK⟩ := ih (u / 128) hl (by omega) (by omega)
      have hlen := countS_len n (u / 128) hl
      refine Ev.succ K fun k hk => ?_
      simp only [windroseref02_count.f]
      have e1 : IntKind.u64.wrap (Int.tdiv (u : Int) 128) = ((u / 128 : Nat) : Int) := by
        rw [IntKind.wrap_u64, tdiv_nn (by omega)]; omega
      have e2 : IntKind.u64.wrap (Int.tmod (u : Int) 128 + 128) % 256 = ((u % 128 + 128 : Nat) : Int) := by
        rw [IntKind.wrap_u64, tmod_nn (by omega)]; omega
      rw [if_neg (by omega), Option.bind_some, e1, hK k hk, Option.bind_some, if_pos (by simp; omega), e2, countS_ge h1]
      rfl
theorem refcount {u : Nat} (h : u < 18446744073709551616) : (∃ K, ∀ k, K ≤ k → windroseref02_count.f k (u : Int) = some ((countS u))) := refcount_ev 9 u (by omega) h (by omega)
theorem Count_ev (n : Nat) (h : n ≤ 9223372036854775807) : (∃ K, ∀ k, K ≤ k → frame_Count.f k (n : Int) = some ((countS n))) := by
  obtain ⟨K, hK⟩ := count_ev (u := n) (by omega)
  refine ⟨K, fun k hk => ?_⟩
  unfold frame_Count.f
  rw [if_neg (by omega), IntKind.wrap_u64, show (n : Int) % 18446744073709551616 = (n : Int) by omega, hK k hk]
  rfl
theorem refCount_ev (n : Nat) (h : n ≤ 9223372036854775807) : (∃ K, ∀ k, K ≤ k → windroseref02_Count.f k (n : Int) = some ((countS n))) := by
  obtain ⟨K, hK⟩ := refcount (u := n) (by omega)
  refine ⟨K, fun k hk => ?_⟩
  unfold windroseref02_Count.f
  rw [IntKind.wrap_u64, show (n : Int) % 18446744073709551616 = (n : Int) by omega, hK k hk]
  rfl
def zig (n : Int) : Nat := if 0 ≤ n then (2 * n).toNat else (2 * (-1 - n) + 1).toNat
theorem zig_lt {n : Int} (h : -9223372036854775808 ≤ n ∧ n ≤ 9223372036854775807) : zig n < 18446744073709551616 := by unfold zig; split <;> omega
theorem xor_ones {x : Nat} (h : x < 18446744073709551616) : x ^^^ 18446744073709551615 = 18446744073709551615 - x := by
  have e : (BitVec.ofNat 64 x ^^^ BitVec.allOnes 64).toNat = (~~~ BitVec.ofNat 64 x).toNat := by rw [BitVec.xor_allOnes]
  rw [BitVec.toNat_xor, BitVec.toNat_not, BitVec.toNat_allOnes, BitVec.toNat_ofNat, Nat.mod_eq_of_lt (by omega : x < 2 ^ 64)] at e
  exact e
theorem fold_eq {n : Int} (h : -9223372036854775808 ≤ n ∧ n ≤ 9223372036854775807) :
    Go.bits .xor .u64 (IntKind.u64.wrap ((IntKind.u64.wrap n) * 2)) (IntKind.u64.wrap (n / 9223372036854775808)) = ((zig n : Nat) : Int) := by
  rw [IntKind.wrap_u64, IntKind.wrap_u64, IntKind.wrap_u64]
  by_cases h0 : 0 ≤ n
  · have e1 : n % 18446744073709551616 * 2 % 18446744073709551616 = ((zig n : Nat) : Int) := by unfold zig; rw [if_pos h0]; omega
    have e2 : n / 9223372036854775808 % 18446744073709551616 = ((0 : Nat) : Int) := by omega
    rw [e1, e2, bits_xor_u64_nat _ _ (zig_lt h) (by omega), Nat.xor_zero]
  · have e1 : n % 18446744073709551616 * 2 % 18446744073709551616 = ((18446744073709551615 - zig n : Nat) : Int) := by unfold zig; rw [if_neg h0]; omega
    have e2 : n / 9223372036854775808 % 18446744073709551616 = ((18446744073709551615 : Nat) : Int) := by omega
    have := zig_lt h
    rw [e1, e2, bits_xor_u64_nat _ _ (by omega) (by omega), xor_ones (by omega)]
    omega
theorem Number_ev {n : Int} (h : -9223372036854775808 ≤ n ∧ n ≤ 9223372036854775807) : (∃ K, ∀ k, K ≤ k → frame_Number.f k n = some ((countS (zig n)))) := by
  obtain ⟨K, hK⟩ := count_ev (zig_lt h)
  refine ⟨K, fun k hk => ?_⟩
  unfold frame_Number.f
  rw [fold_eq h, hK k hk]
  rfl
theorem refNumber_ev {n : Int} (h : -9223372036854775808 ≤ n ∧ n ≤ 9223372036854775807) : (∃ K, ∀ k, K ≤ k → windroseref02_Number.f k n = some ((countS (zig n)))) := by
  obtain ⟨K, hK⟩ := refcount (zig_lt h)
  refine ⟨K, fun k hk => ?_⟩
  unfold windroseref02_Number.f
  by_cases h0 : 0 ≤ n
  · have e : IntKind.u64.wrap ((IntKind.u64.wrap n) * 2) = ((zig n : Nat) : Int) := by rw [IntKind.wrap_u64, IntKind.wrap_u64]; unfold zig; rw [if_pos h0]; omega
    rw [if_pos (by omega), e, hK k hk]
    rfl
  · have e : IntKind.u64.wrap ((IntKind.u64.wrap ((IntKind.u64.wrap (wrap64 ((-1) - n))) * 2)) + 1) = ((zig n : Nat) : Int) := by
      rw [w64 (by omega) (by omega), IntKind.wrap_u64, IntKind.wrap_u64, IntKind.wrap_u64]; unfold zig; rw [if_neg h0]; omega
    rw [if_neg (by omega), e, hK k hk]
    rfl
end Go.Proofs.Ytlpohipneianjaa.Q
end
section
set_option linter.unusedVariables false
namespace Go.Proofs.Ytlpohipneianjaa.Q
open Go Go.RowKit Go.Proofs.Ytlpohipneianjaa.G Go.Proofs.YtlpohipneianjaaW.PrintWords Go.Proofs.YtlpohipneianjaaW.PrintLast
def I64 (n : Int) : Prop := -9223372036854775808 ≤ n ∧ n ≤ 9223372036854775807
def encN (l : List Int) : List Int := l.flatMap fun n => countS (zig n)
def encT (l : List ByteArray) : List Int := l.flatMap fun s => countS s.size ++ bytesOf s
def enc (nums : List Int) (texts : List ByteArray) : List Int := countS nums.length ++ encN nums ++ countS texts.length ++ encT texts
def Held (nums : List Int) (texts : List ByteArray) : Prop := nums.length ≤ 9223372036854775807 ∧ (∀ n ∈ nums, I64 n) ∧ texts.length ≤ 9223372036854775807 ∧ ∀ s ∈ texts, s.size ≤ 9223372036854775807
theorem encN_cons (n : Int) (l : List Int) : encN (n :: l) = countS (zig n) ++ encN l := by simp [encN]
theorem encT_cons (s : ByteArray) (l : List ByteArray) : encT (s :: l) = countS s.size ++ bytesOf s ++ encT l := by simp [encT]
theorem rd_at (l : List Int) (i : Nat) (h : i < l.length) : l.drop i = rd l i :: l.drop (i + 1) := by rw [drop_getD l i 0 h]; rfl
theorem rdOf_at (l : List ByteArray) (i : Nat) (h : i < l.length) : l.drop i = rdOf ByteArray.empty l i :: l.drop (i + 1) := by rw [drop_getD l i ByteArray.empty h]; rfl
theorem rd_mem (l : List Int) (i : Nat) (h : i < l.length) : rd l i ∈ l := by simp only [rd, Int.toNat_natCast]; exact getD_mem l i 0 h
theorem rdOf_mem (l : List ByteArray) (i : Nat) (h : i < l.length) : rdOf ByteArray.empty l i ∈ l := by simp only [rdOf, Int.toNat_natCast]; exact getD_mem l i _ h
def encR (b : List Int) : List Int × Int := if b.length ≤ 4096 then (b, 0) else ([], 4)
theorem enc_texts (texts : List ByteArray) (hh : texts.length ≤ 9223372036854775807) (ht : ∀ s ∈ texts, s.size ≤ 9223372036854775807) (d : Nat) : ∀ (i : Nat) (acc : List Int), i + d = texts.length → acc.length ≤ 5000 →
    (∃ K, ∀ k, K ≤ k → frame_Encode.l1 k acc texts (texts.length : Int) i = some ((encR (acc ++ encT (texts.drop i))))) := by
  induction d with
  | zero =>
    intro i acc hi ha
    refine Ev.succ 0 fun k _ => ?_
    simp only [frame_Encode.l1]
    rw [if_neg (by omega), List.drop_of_length_le (by omega)]
    unfold encR
    by_cases h : acc.length ≤ 4096
    · rw [if_neg (by omega), if_pos (by simpa [encT] using h)]; simp [encT]
    · rw [if_pos (by omega), if_neg (by simpa [encT] using h)]
  | succ d ih =>
    intro i acc hi ha
    have hd := rdOf_at texts i (by omega)
    have hm := ht _ (rdOf_mem texts i (by omega))
    generalize hs : rdOf ByteArray.empty texts i = s at hd hm
    obtain ⟨K0, h0⟩ := Count_ev s.size hm
    have hcl := countS_len10 (u := s.size) (by omega)
    have e1 : wrap64 ((i : Int) + 1) = ((i + 1 : Nat) : Int) := by rw [w64] <;> omega
    rw [hd, encT_cons]
    have hbl := bytesOf_length s
    have hal : (acc ++ countS s.size).length = acc.length + (countS s.size).length := List.length_append
    by_cases c1 : (acc ++ countS s.size).length > 4096
    · refine Ev.succ K0 fun k hk => ?_
      simp only [frame_Encode.l1]
      rw [if_pos (by omega), if_pos (by omega), if_pos (by omega), hs, h0 k hk, Option.bind_some, if_pos (by omega), Option.bind_some, if_pos (by omega)]
      unfold encR
      rw [if_neg (by simp only [List.length_append] at *; omega)]
    · have e2 : wrap64 (4096 - ((acc ++ countS s.size).length : Int)) = 4096 - ((acc ++ countS s.size).length : Int) := by rw [w64] <;> omega
      by_cases c2 : (s.size : Int) > 4096 - ((acc ++ countS s.size).length : Int)
      · refine Ev.succ K0 fun k hk => ?_
        simp only [frame_Encode.l1]
        rw [if_pos (by omega), if_pos (by omega), if_pos (by omega), hs, h0 k hk, Option.bind_some, if_pos (by omega), Option.bind_some, if_neg (by omega), e2, if_pos c2]
        unfold encR
        rw [if_neg (by simp only [List.length_append] at *; omega)]
      · obtain ⟨K, hK⟩ := ih (i + 1) (acc ++ countS s.size ++ bytesOf s) (by omega) (by simp only [List.length_append] at *; omega)
        refine Ev.succ (K + K0) fun k hk => ?_
        simp only [frame_Encode.l1]
        rw [if_pos (by omega), if_pos (by omega), if_pos (by omega), hs, h0 k (by omega), Option.bind_some, if_pos (by omega), Option.bind_some, if_neg (by omega), e2, if_neg c2, if_pos (by omega), e1, hK k (by omega)]
        simp only [List.append_assoc]
theorem enc_nums (nums : List Int) (texts : List ByteArray) (hh : Held nums texts) (d : Nat) : ∀ (i : Nat) (acc : List Int), i + d = nums.length → acc.length ≤ 4900 →
    (∃ K, ∀ k, K ≤ k → frame_Encode.l0 k acc nums (nums.length : Int) i nums texts = some ((encR (acc ++ encN (nums.drop i) ++ countS texts.length ++ encT texts)))) := by
  obtain ⟨hn1, hn2, ht1, ht2⟩ := hh
  have htl := countS_len10 (u := texts.length) (by omega)
  induction d with
  | zero =>
    intro i acc hi ha
    obtain ⟨K0, h0⟩ := Count_ev texts.length ht1
    obtain ⟨K, hK⟩ := enc_texts texts ht1 ht2 texts.length 0 (acc ++ countS texts.length) (by omega) (by simp only [List.length_append]; omega)
    refine Ev.succ (K + K0) fun k hk => ?_
    simp only [frame_Encode.l0]
    rw [if_neg (by omega), h0 k (by omega), Option.bind_some, if_pos (by omega)]
    have := hK k (by omega)
    rw [List.drop_of_length_le (by omega)]
    simp only [encN, List.flatMap_nil, List.append_nil]
    exact this
  | succ d ih =>
    intro i acc hi ha
    have hd := rd_at nums i (by omega)
    have hm := hn2 _ (rd_mem nums i (by omega))
    generalize hs : rd nums i = n at hd hm
    obtain ⟨K0, h0⟩ := Number_ev hm
    have hcl := countS_len10 (zig_lt hm)
    have e1 : wrap64 ((i : Int) + 1) = ((i + 1 : Nat) : Int) := by rw [w64] <;> omega
    rw [hd, encN_cons]
    have hal : (acc ++ countS (zig n)).length = acc.length + (countS (zig n)).length := List.length_append
    by_cases c1 : (acc ++ countS (zig n)).length > 4096
    · refine Ev.succ K0 fun k hk => ?_
      simp only [frame_Encode.l0]
      rw [if_pos (by omega), if_pos (by omega), if_pos (by omega), hs, h0 k hk, Option.bind_some, if_pos (by omega), Option.bind_some, if_pos (by omega)]
      unfold encR
      rw [if_neg (by simp only [List.length_append] at *; omega)]
    · obtain ⟨K, hK⟩ := ih (i + 1) (acc ++ countS (zig n)) (by omega) (by omega)
      refine Ev.succ (K + K0) fun k hk => ?_
      simp only [frame_Encode.l0]
      rw [if_pos (by omega), if_pos (by omega), if_pos (by omega), hs, h0 k (by omega), Option.bind_some, if_pos (by omega), Option.bind_some, if_neg (by omega), e1, hK k (by omega)]
      simp only [List.append_assoc]
theorem Encode_ev (nums : List Int) (texts : List ByteArray) (hh : Held nums texts) : (∃ K, ∀ k, K ≤ k → frame_Encode.f k nums texts = some ((encR (enc nums texts)))) := by
  obtain ⟨K0, h0⟩ := Count_ev nums.length hh.1
  obtain ⟨K, hK⟩ := enc_nums nums texts hh nums.length 0 (countS nums.length) (by omega) (by have h1 := hh.1; have := countS_len10 (u := nums.length) (by omega); omega)
  refine ⟨K + K0, fun k hk => ?_⟩
  unfold frame_Encode.f
  rw [h0 k (by omega), Option.bind_some]
  have := hK k (by omega)
  rw [List.drop_zero] at this
  exact this
def CutOf (R B : List Int) : Prop := (B.length ≤ 4096 → R = B) ∧ (4096 < B.length → 4096 < R.length)
theorem bytes_texts (nums : List Int) (texts : List ByteArray) (hh : texts.length ≤ 9223372036854775807) (ht : ∀ s ∈ texts, s.size ≤ 9223372036854775807) (d : Nat) : ∀ (i : Nat) (acc : List Int), i + d = texts.length → acc.length ≤ 20000 →
    ∃ R, (∃ K, ∀ k, K ≤ k → windroseref02_Bytes.l1 k acc i nums texts = some (R)) ∧ CutOf R (acc ++ encT (texts.drop i)) := by
  induction d with
  | zero =>
    intro i acc hi ha
    refine ⟨acc, ⟨2, fun k hk => ?_⟩, by rw [List.drop_of_length_le (by omega)]; simp [CutOf, encT]⟩
    obtain ⟨k, rfl⟩ : ∃ m, k = m + 2 := ⟨k - 2, by omega⟩
    rw [windroseref02_Bytes.l1, if_neg (by omega), windroseref02_Bytes.j3, if_neg (by simp)]
  | succ d ih =>
    intro i acc hi ha
    have hd := rdOf_at texts i (by omega)
    have hm := ht _ (rdOf_mem texts i (by omega))
    generalize hs : rdOf ByteArray.empty texts i = s at hd hm
    obtain ⟨K0, h0⟩ := refCount_ev s.size hm
    have hcl := countS_len10 (u := s.size) (by omega)
    have e1 : wrap64 ((i : Int) + 1) = ((i + 1 : Nat) : Int) := by rw [w64] <;> omega
    rw [hd, encT_cons]
    have hbl := bytesOf_length s
    have hal : (acc ++ countS s.size).length = acc.length + (countS s.size).length := List.length_append
    by_cases c0 : acc.length < 5000
    · by_cases c1 : s.size > 5000
      · have hxs : (s.extract 0 5000).size = 5000 := by simp; omega
        have hxb := bytesOf_length (s.extract 0 5000)
        obtain ⟨R, ⟨K, hK⟩, hR⟩ := ih (i + 1) (acc ++ countS s.size ++ bytesOf (s.extract 0 5000)) (by omega) (by simp only [List.length_append] at *; omega)
        refine ⟨R, ⟨K + K0 + 2, fun k hk => ?_⟩, fun h => absurd h (by simp only [List.length_append] at *; omega), fun _ => hR.2 (by simp only [List.length_append] at *; omega)⟩
        obtain ⟨k, rfl⟩ : ∃ m, k = m + 2 := ⟨k - 2, by omega⟩
        rw [windroseref02_Bytes.l1, if_pos (by omega), decide_eq_true (by omega), windroseref02_Bytes.j3, if_pos rfl, if_pos (by omega), if_pos (by omega), hs, h0 k (by omega), Option.bind_some, if_pos (by omega), Option.bind_some, if_pos (by omega), if_pos (by omega), if_pos (by omega), e1]
        exact hK k (by omega)
      · obtain ⟨R, ⟨K, hK⟩, hR⟩ := ih (i + 1) (acc ++ countS s.size ++ bytesOf s) (by omega) (by simp only [List.length_append] at *; omega)
        refine ⟨R, ⟨K + K0 + 2, fun k hk => ?_⟩, by simpa only [List.append_assoc] using hR⟩
        obtain ⟨k, rfl⟩ : ∃ m, k = m + 2 := ⟨k - 2, by omega⟩
        rw [windroseref02_Bytes.l1, if_pos (by omega), decide_eq_true (by omega), windroseref02_Bytes.j3, if_pos rfl, if_pos (by omega), if_pos (by omega), hs, h0 k (by omega), Option.bind_some, if_pos (by omega), Option.bind_some, if_neg (by omega), if_pos (by omega), e1]
        exact hK k (by omega)
    · refine ⟨acc, ⟨2, fun k hk => ?_⟩, fun h => absurd h (by simp only [List.length_append] at *; omega), fun _ => by omega⟩
      obtain ⟨k, rfl⟩ : ∃ m, k = m + 2 := ⟨k - 2, by omega⟩
      rw [windroseref02_Bytes.l1, if_pos (by omega), decide_eq_false (by omega), windroseref02_Bytes.j3, if_neg (by simp)]
theorem bytes_j1 (nums : List Int) (texts : List ByteArray) (hh : Held nums texts) (acc : List Int) (ha : acc.length ≤ 19000) :
    ∃ R, (∃ K, ∀ k, K ≤ k → windroseref02_Bytes.j1 k acc nums texts = some (R)) ∧ CutOf R (acc ++ countS texts.length ++ encT texts) := by
  have h2 := hh.2.2.1
  have htl := countS_len10 (u := texts.length) (by omega)
  obtain ⟨K0, h0⟩ := refCount_ev texts.length h2
  obtain ⟨R, ⟨K, hK⟩, hR⟩ := bytes_texts nums texts hh.2.2.1 hh.2.2.2 texts.length 0 (acc ++ countS texts.length) (by omega) (by simp only [List.length_append]; omega)
  refine ⟨R, Ev.succ (K + K0) fun k hk => ?_, by simpa using hR⟩
  simp only [windroseref02_Bytes.j1]
  rw [h0 k (by omega), Option.bind_some, if_pos (by omega)]
  exact hK k (by omega)
theorem bytes_nums (nums : List Int) (texts : List ByteArray) (hh : Held nums texts) (d : Nat) : ∀ (i : Nat) (acc : List Int), i + d = nums.length → acc.length ≤ 18000 →
    ∃ R, (∃ K, ∀ k, K ≤ k → windroseref02_Bytes.l0 k acc i nums texts = some (R)) ∧ CutOf R (acc ++ encN (nums.drop i) ++ countS texts.length ++ encT texts) := by
  induction d with
  | zero =>
    intro i acc hi ha
    obtain ⟨R, ⟨K, hK⟩, hR⟩ := bytes_j1 nums texts hh acc (by omega)
    refine ⟨R, Ev.succ K fun k hk => ?_, by rw [List.drop_of_length_le (by omega)]; simpa [encN] using hR⟩
    simp only [windroseref02_Bytes.l0]
    rw [if_neg (by omega)]
    exact hK k hk
  | succ d ih =>
    intro i acc hi ha
    have hn1 := hh.1
    have hd := rd_at nums i (by omega)
    have hm := hh.2.1 _ (rd_mem nums i (by omega))
    generalize hs : rd nums i = n at hd hm
    obtain ⟨K0, h0⟩ := refNumber_ev hm
    have hcl := countS_len10 (zig_lt hm)
    have e1 : wrap64 ((i : Int) + 1) = ((i + 1 : Nat) : Int) := by rw [w64] <;> omega
    rw [hd, encN_cons]
    by_cases c0 : acc.length < 5000
    · obtain ⟨R, ⟨K, hK⟩, hR⟩ := ih (i + 1) (acc ++ countS (zig n)) (by omega) (by simp only [List.length_append]; omega)
      refine ⟨R, Ev.succ (K + K0) fun k hk => ?_, by simpa only [List.append_assoc] using hR⟩
      simp only [windroseref02_Bytes.l0]
      rw [if_pos (by omega), if_pos (by omega), if_pos (by omega), hs, h0 k (by omega), Option.bind_some, if_pos (by omega), e1]
      exact hK k (by omega)
    · obtain ⟨R, ⟨K, hK⟩, hR⟩ := bytes_j1 nums texts hh acc (by omega)
      refine ⟨R, Ev.succ K fun k hk => ?_, fun h => absurd h (by simp only [List.length_append] at *; omega), fun _ => hR.2 (by simp only [List.length_append] at *; omega)⟩
      simp only [windroseref02_Bytes.l0]
      rw [if_pos (by omega), if_neg (by omega)]
      exact hK k hk
theorem Bytes_ev (nums : List Int) (texts : List ByteArray) (hh : Held nums texts) : ∃ R, (∃ K, ∀ k, K ≤ k → windroseref02_Bytes.f k nums texts = some (R)) ∧ CutOf R (enc nums texts) := by
  have h1 := hh.1
  obtain ⟨K0, h0⟩ := refCount_ev nums.length h1
  obtain ⟨R, ⟨K, hK⟩, hR⟩ := bytes_nums nums texts hh nums.length 0 (countS nums.length) (by omega) (by have := countS_len10 (u := nums.length) (by omega); omega)
  refine ⟨R, ⟨K + K0, fun k hk => ?_⟩, by simpa [enc] using hR⟩
  unfold windroseref02_Bytes.f
  rw [h0 k (by omega), Option.bind_some]
  exact hK k (by omega)
theorem May02_ev (nums : List Int) (texts : List ByteArray) (hh : Held nums texts) : (∃ K, ∀ k, K ≤ k → windroseref02_May.f k nums texts = some ((decide ((enc nums texts).length ≤ 4096)))) := by
  obtain ⟨R, ⟨K, hK⟩, hR⟩ := Bytes_ev nums texts hh
  refine ⟨K, fun k hk => ?_⟩
  unfold windroseref02_May.f
  rw [hK k hk, Option.bind_some]
  congr 1
  rw [decide_eq_decide]
  by_cases h : (enc nums texts).length ≤ 4096
  · have := hR.1 h
    rw [this]
    omega
  · have := hR.2 (by omega)
    omega
theorem Bytes_small (nums : List Int) (texts : List ByteArray) (hh : Held nums texts) (h : (enc nums texts).length ≤ 4096) : (∃ K, ∀ k, K ≤ k → windroseref02_Bytes.f k nums texts = some ((enc nums texts))) := by
  obtain ⟨R, hK, hR⟩ := Bytes_ev nums texts hh
  rw [hR.1 h] at hK
  exact hK
end Go.Proofs.Ytlpohipneianjaa.Q
end
section
set_option linter.unusedVariables false
namespace Go.Proofs.Ytlpohipneianjaa.Q
open Go Go.RowKit Go.Proofs.Ytlpohipneianjaa.G Go.Proofs.YtlpohipneianjaaW.PrintWords Go.Proofs.YtlpohipneianjaaW.PrintLast Go.Proofs.YtlpohipneianjaaW.PrintMore
def By (b : List Int) : Prop := ∀ x ∈ b, 0 ≤ x ∧ x ≤ 255
def Co (b : List Int) : Prop := ∀ x ∈ b, 128 ≤ x ∧ x ≤ 255
def valL : List Int → Nat
  | [] => 0
  | c :: cs => c.toNat % 128 + 128 * valL cs
theorem valL_append (a b : List Int) : valL (a ++ b) = valL a + 128 ^ a.length * valL b := by
  induction a with
  | nil => simp [valL]
  | cons c a ih =>
    simp only [List.cons_append, valL, ih, List.length_cons, Nat.pow_succ]
    rw [Nat.mul_add, Nat.mul_comm (128 ^ a.length) 128, Nat.mul_assoc]
    omega
theorem valL_lt (a : List Int) : valL a < 128 ^ a.length := by
  induction a with
  | nil => simp [valL]
  | cons c a ih =>
    simp only [valL, List.length_cons, Nat.pow_succ]
    omega
theorem countS_val (pre : List Int) (c : Int) (hp : Co pre) (hc : 0 ≤ c ∧ c < 128) (h : 0 < c ∨ pre = []) : countS (valL (pre ++ [c])) = pre ++ [c] := by
  induction pre with
  | nil =>
    simp only [List.nil_append, valL, Nat.mul_zero, Nat.add_zero]
    rw [countS_lt (by omega)]
    congr 1
    omega
  | cons p ps ih =>
    have hpp := hp p (by simp)
    have hc0 : 0 < c := by rcases h with h | h; exact h; cases h
    have := ih (fun x hx => hp x (by simp [hx])) (.inl hc0)
    have hv : 1 ≤ valL (ps ++ [c]) := by
      rw [valL_append]
      have : 0 < 128 ^ ps.length := Nat.pow_pos (by omega)
      have h1 : 1 ≤ valL [c] := by simp only [valL]; omega
      have := Nat.mul_le_mul this h1
      omega
    simp only [List.cons_append, valL]
    rw [countS_ge (by omega), show (p.toNat % 128 + 128 * valL (ps ++ [c])) / 128 = valL (ps ++ [c]) by omega, this]
    congr 1
    omega
theorem countS_form (n : Nat) : ∀ u : Nat, u < 128 ^ (n + 1) → ∃ pre c, countS u = pre ++ [c] ∧ Co pre ∧ 0 ≤ c ∧ c < 128 ∧ (0 < c ∨ pre = []) ∧ valL (pre ++ [c]) = u ∧ pre.length ≤ n := by
  induction n with
  | zero =>
    intro u h
    have h1 : u < 128 := by simpa using h
    exact ⟨[], (u : Int), countS_lt h1, fun x hx => by simp at hx, by omega, by omega, .inr rfl, by simp [valL]; omega, by simp⟩
  | succ n ih =>
    intro u h
    by_cases h1 : u < 128
    · exact ⟨[], (u : Int), countS_lt h1, fun x hx => by simp at hx, by omega, by omega, .inr rfl, by simp [valL]; omega, by simp⟩
    · obtain ⟨pre, c, e, hp, c0, c1, h0, hv, hl⟩ := ih (u / 128) (by rw [Nat.pow_succ] at h; omega)
      refine ⟨((u % 128 + 128 : Nat) : Int) :: pre, c, by rw [countS_ge h1, e]; rfl, fun x hx => ?_, c0, c1, .inl ?_, ?_, by simp; omega⟩
      · rcases List.mem_cons.1 hx with rfl | hx
        · omega
        · exact hp x hx
      · rcases h0 with h0 | h0
        · exact h0
        · subst h0
          simp [valL] at hv
          omega
      · simp only [List.cons_append, valL, hv]
        omega
theorem by_countS {u : Nat} (h : u < 18446744073709551616) : By (countS u) := by
  obtain ⟨pre, c, e, hp, c0, c1, _, _, _⟩ := countS_form 9 u (by omega)
  rw [e]
  intro x hx
  rcases List.mem_append.1 hx with hx | hx
  · have := hp x hx; omega
  · simp at hx; omega
theorem cut_unique (pre pre' : List Int) (c c' : Int) (r r' : List Int) (hp : Co pre) (hp' : Co pre') (hc : c < 128) (hc' : c' < 128) (h : pre ++ c :: r = pre' ++ c' :: r') : pre = pre' ∧ c = c' ∧ r = r' := by
  induction pre generalizing pre' with
  | nil =>
    cases pre' with
    | nil => simp at h; exact ⟨rfl, h.1, h.2⟩
    | cons p ps => simp at h; have := hp' p (by simp); omega
  | cons p ps ih =>
    cases pre' with
    | nil => simp at h; have := hp p (by simp); omega
    | cons q qs =>
      simp at h
      obtain ⟨a, b, d⟩ := ih qs (fun x hx => hp x (by simp [hx])) (fun x hx => hp' x (by simp [hx])) h.2
      exact ⟨by rw [h.1, a], b, d⟩
theorem cut_or (b : List Int) (hb : By b) : (∃ pre c r, b = pre ++ c :: r ∧ Co pre ∧ 0 ≤ c ∧ c < 128) ∨ Co b := by
  induction b with
  | nil => exact .inr fun x hx => by simp at hx
  | cons x b ih =>
    have hx := hb x (by simp)
    by_cases h : x < 128
    · exact .inl ⟨[], x, b, rfl, fun y hy => by simp at hy, hx.1, h⟩
    · rcases ih (fun y hy => hb y (by simp [hy])) with ⟨pre, c, r, e, hp, c0, c1⟩ | hc
      · refine .inl ⟨x :: pre, c, r, by rw [e]; rfl, fun y hy => ?_, c0, c1⟩
        rcases List.mem_cons.1 hy with rfl | hy
        · omega
        · exact hp y hy
      · refine .inr fun y hy => ?_
        rcases List.mem_cons.1 hy with rfl | hy
        · omega
        · exact hc y hy
theorem wraps_u64 (n : Int) (h0 : 0 ≤ n) (h1 : n < 2 ^ 64) : IntKind.u64.wrap n = n := by rw [IntKind.wrap_u64]; omega
theorem and127 {x : Int} (h0 : 0 ≤ x) (h1 : x < 256) : Go.bits .and .u64 x 127 = x % 128 := by
  have := bits_mask .u64 64 (by decide) wraps_u64 7 (by decide) x h0 (by omega)
  simpa using this
theorem or_step (a : Nat) (c : Int) (i : Nat) (ha : a < 128 ^ i) (hc : 0 ≤ c ∧ c ≤ 255) (hi : i ≤ 8 ∨ i = 9 ∧ c ≤ 1) :
    Go.bits .or .u64 (a : Int) (shl .u64 (Go.bits .and .u64 (IntKind.u64.wrap c) 127) (wrap64 (7 * (i : Int)))) = ((a + 128 ^ i * (c.toNat % 128) : Nat) : Int) := by
  rw [wraps_u64 c hc.1 (by omega), and127 hc.1 (by omega), w64 (by omega) (by omega)]
  have e7 : (7 * (i : Int)).toNat = 7 * i := by omega
  have hp : (2 : Nat) ^ (7 * i) = 128 ^ i := by rw [Nat.pow_mul]
  have hm : min (7 * (i : Int)).toNat IntKind.u64.bits = 7 * i := by
    rw [e7]; exact Nat.min_eq_left (by simp only [IntKind.bits]; omega)
  unfold shl
  rw [hm]
  have hc' : c % 128 = ((c.toNat % 128 : Nat) : Int) := by omega
  have e1 : c % 128 * 2 ^ (7 * i) = ((128 ^ i * (c.toNat % 128) : Nat) : Int) := by
    rw [hc', ← hp, Int.natCast_mul, Int.natCast_pow, Int.mul_comm]; rfl
  have hlt : a + 128 ^ i * (c.toNat % 128) < 18446744073709551616 := by
    rcases hi with hi | ⟨rfl, hc1⟩
    · have h8 : 128 ^ i ≤ 128 ^ 8 := Nat.pow_le_pow_right (by omega) hi
      have := Nat.mul_le_mul h8 (show c.toNat % 128 ≤ 127 by omega)
      omega
    · have : c.toNat % 128 ≤ 1 := by omega
      have := Nat.mul_le_mul (Nat.le_refl (128 ^ 9)) this
      omega
  rw [e1, wraps_u64 _ (by omega) (by omega)]
  have hb := (bits_nat .u64 64 (by decide) wraps_u64 a (128 ^ i * (c.toNat % 128)) (by omega) (by omega)).2
  rw [hb, Nat.or_comm, ← hp, ← Nat.two_pow_add_eq_or_of_lt (by rw [hp]; exact ha)]
  congr 1
  omega
theorem rd_app (pre : List Int) (c : Int) (r : List Int) : rd (pre ++ c :: r) (pre.length : Nat) = c := by
  simp [rd, List.getD_eq_getElem?_getD]
theorem take_loop (b : List Int) (hb : By b) (hl : b.length ≤ 100000) (n : Nat) (hn : n ≤ b.length ∧ n ≤ 9) (hco : ∀ j, j < n → 128 ≤ rd b (j : Nat)) (m : Int) (hm : (n : Int) ≤ m ∧ m ≤ 10 ∧ m ≤ b.length) (R : Int × List Int × Bool)
    (h : (∃ K, ∀ k, K ≤ k → frame_take.l0 k b ((valL (b.take n) : Nat) : Int) m n = some (R))) (d : Nat) : ∀ i : Nat, i + d = n → (∃ K, ∀ k, K ≤ k → frame_take.l0 k b ((valL (b.take i) : Nat) : Int) m i = some (R)) := by
  induction d with
  | zero => intro i hi; obtain rfl : i = n := by omega
            exact h
  | succ d ih =>
    intro i hi
    obtain ⟨K, hK⟩ := ih (i + 1) (by omega)
    have hx := hb _ (rd_mem b i (by omega))
    have hc := hco i (by omega)
    have hlen : (b.take i).length = i := by rw [List.length_take]; omega
    have hv := valL_lt (b.take i)
    rw [hlen] at hv
    have ho := or_step (valL (b.take i)) (rd b i) i hv hx (.inl (by omega))
    have e2 : valL (b.take (i + 1)) = valL (b.take i) + 128 ^ i * ((rd b i).toNat % 128) := by
      have : b.take (i + 1) = b.take i ++ [rd b i] := by
        rw [List.take_succ_eq_append_getElem (by omega)]
        simp [rd, List.getD_eq_getElem?_getD, List.getElem?_eq_getElem (show i < b.length by omega)]
      rw [this, valL_append, hlen]
      simp [valL]
    refine Ev.succ K fun k hk => ?_
    simp only [frame_take.l0]
    rw [if_pos (by omega), if_pos (by omega), if_pos (by omega), if_pos (by rw [w64] <;> omega), if_neg (by rw [wraps_u64 _ hx.1 (by omega)]; omega), ho, ← e2, show wrap64 ((i : Int) + 1) = ((i + 1 : Nat) : Int) by rw [w64] <;> omega]
    exact hK k hk
theorem take_ev (b : List Int) (hb : By b) (hl : b.length ≤ 100000) : ∃ u r ok, (∃ K, ∀ k, K ≤ k → frame_take.f k b = some (((u : Int), r, ok))) ∧
    (ok = true → ∃ v : Nat, u = v ∧ v < 18446744073709551616 ∧ b = countS v ++ r) ∧ (ok = false → ∀ (v : Nat) (r' : List Int), v < 18446744073709551616 → b ≠ countS v ++ r') ∧ (∃ p, b = p ++ r ∨ r = []) := by
  have hmn : ∀ x y : Int, mn x y = if y < x then y else x := fun x y => rfl
  have form : ∀ (v : Nat) (r' : List Int), v < 18446744073709551616 → b = countS v ++ r' → ∃ pre c, b = pre ++ c :: r' ∧ Co pre ∧ 0 ≤ c ∧ c < 128 ∧ (0 < c ∨ pre = []) ∧ valL (pre ++ [c]) = v ∧ pre.length ≤ 9 := by
    intro v r' hv e
    obtain ⟨pre, c, e1, hp, c0, c1, h0, hvv, hlen⟩ := countS_form 9 v (by omega)
    exact ⟨pre, c, by rw [e, e1]; simp, hp, c0, c1, h0, hvv, hlen⟩
  have noTerm : (∀ j : Nat, j < b.length → j < 10 → 128 ≤ rd b (j : Nat)) → ∃ u r ok, (∃ K, ∀ k, K ≤ k → frame_take.f k b = some (((u : Int), r, ok))) ∧
      (ok = true → ∃ v : Nat, u = v ∧ v < 18446744073709551616 ∧ b = countS v ++ r) ∧ (ok = false → ∀ (v : Nat) (r' : List Int), v < 18446744073709551616 → b ≠ countS v ++ r') ∧ (∃ p, b = p ++ r ∨ r = []) := by
    intro hno
    refine ⟨0, [], false, ?_, (fun h => by cases h), fun _ v r' hv e => ?_, [], .inr rfl⟩
    ·
      by_cases h10 : 10 ≤ b.length
      ·
        have hx := hb _ (rd_mem b 9 (by omega))
        have hc := hno 9 (by omega) (by omega)
        have h9 : (∃ K, ∀ k, K ≤ k → frame_take.l0 k b ((valL (b.take 9) : Nat) : Int) 10 (9 : Nat) = some ((0, ([] : List Int), false))) := by
          refine ⟨2, fun k hk => ?_⟩
          obtain ⟨k, rfl⟩ : ∃ m, k = m + 2 := ⟨k - 2, by omega⟩
          rw [frame_take.l0, if_pos (by omega), if_pos (by omega), if_pos (by omega), if_pos (by rw [w64] <;> omega), if_neg (by rw [wraps_u64 _ hx.1 (by omega)]; omega), show wrap64 (((9 : Nat) : Int) + 1) = 10 by rw [w64] <;> omega]
          rw [frame_take.l0, if_neg (by omega)]
        obtain ⟨K, hK⟩ := take_loop b hb hl 9 (by omega) (fun j hj => hno j (by omega) (by omega)) 10 (by omega) _ h9 9 0 (by omega)
        refine ⟨K, fun k hk => ?_⟩
        unfold frame_take.f
        rw [hmn, if_neg (by omega)]
        exact hK k hk
      · have hend : (∃ K, ∀ k, K ≤ k → frame_take.l0 k b ((valL (b.take b.length) : Nat) : Int) (b.length : Int) (b.length : Nat) = some ((0, ([] : List Int), false))) := by
          refine Ev.succ 0 fun k _ => ?_
          simp only [frame_take.l0]
          rw [if_neg (by omega)]
        obtain ⟨K, hK⟩ := take_loop b hb hl b.length (by omega) (fun j hj => hno j (by omega) (by omega)) (b.length : Int) (by omega) _ hend b.length 0 (by omega)
        refine ⟨K, fun k hk => ?_⟩
        unfold frame_take.f
        rw [hmn, if_pos (by omega)]
        exact hK k hk
    · obtain ⟨pre, c, e1, hp, c0, c1, _, _, hlen⟩ := form v r' hv e
      have := hno pre.length (by rw [e1]; simp) (by omega)
      rw [e1, rd_app] at this
      omega
  rcases cut_or b hb with ⟨pre, c, r, e, hp, c0, c1⟩ | hco
  · by_cases h9 : pre.length ≤ 9
    · have hlb : b.length = pre.length + 1 + r.length := by rw [e]; simp; omega
      have hco : ∀ j, j < pre.length → 128 ≤ rd b (j : Nat) := by
        intro j hj
        have : rd b (j : Nat) ∈ pre := by
          rw [e]; simp only [rd, Int.toNat_natCast]
          rw [List.getD_eq_getElem?_getD, List.getElem?_append_left hj, List.getElem?_eq_getElem hj]
          exact List.getElem_mem hj
        exact (hp _ this).1
      have hrd : rd b (pre.length : Nat) = c := by rw [e]; exact rd_app pre c r
      have htk : b.take pre.length = pre := by rw [e, List.take_left]
      have hdr : b.drop (((pre.length + 1 : Nat) : Int)).toNat = r := by
        rw [Int.toNat_natCast, e, List.drop_append, List.drop_of_length_le (by omega)]
        simp
      have m1 : mn 10 (b.length : Int) = (if (b.length : Int) < 10 then (b.length : Int) else 10) := rfl
      generalize hm : mn 10 (b.length : Int) = m at m1
      have hmb : (pre.length : Int) < m ∧ m ≤ 10 ∧ m ≤ b.length := by split at m1 <;> omega
      have e1 : wrap64 ((pre.length : Int) + 1) = ((pre.length + 1 : Nat) : Int) := by rw [w64] <;> omega
      have hw : IntKind.u64.wrap c = c := wraps_u64 c c0 (by omega)
      have hv9 := valL_lt pre
      have hval : valL (pre ++ [c]) = valL pre + 128 ^ pre.length * (c.toNat % 128) := by rw [valL_append]; simp [valL]
      have last : ∃ u ok, (∃ K, ∀ k, K ≤ k → frame_take.l0 k b ((valL (b.take pre.length) : Nat) : Int) m (pre.length : Nat) = some (((u : Int), r, ok))) ∧ (ok = true → u = (valL (pre ++ [c]) : Nat) ∧ (pre.length ≤ 8 ∨ pre.length = 9 ∧ c ≤ 1) ∧ (0 < c ∨ pre = [])) ∧
          (ok = false → ¬ ((pre.length ≤ 8 ∨ pre.length = 9 ∧ c ≤ 1) ∧ (0 < c ∨ pre = []))) := by
        have hpre : (pre.length : Int) = 0 ↔ pre = [] := by rw [← List.length_eq_zero_iff]; omega
        by_cases hn9 : pre.length = 9
        · by_cases hc1 : c > 1
          · refine ⟨Go.bits .or .u64 ((valL (b.take pre.length) : Nat) : Int) (shl .u64 (Go.bits .and .u64 c 127) (wrap64 (7 * (pre.length : Int)))), false, Ev.succ 0 fun k _ => ?_, (fun h => by cases h), fun _ h => by omega⟩
            simp only [frame_take.l0]
            rw [if_pos (by omega), if_pos (by omega), if_pos (by omega), if_pos (by rw [w64] <;> omega), hrd, hw, if_pos (by omega), if_pos (by omega), e1, if_pos (by omega), if_pos (by omega), Option.bind_some, if_pos hc1, hdr]
          · have ho := or_step (valL pre) c pre.length hv9 (by omega) (.inr (by omega))
            rw [hw] at ho
            by_cases hc0 : c > 0
            · refine ⟨((valL (pre ++ [c]) : Nat) : Int), true, Ev.succ 0 fun k _ => ?_, fun _ => ⟨rfl, .inr ⟨hn9, by omega⟩, .inl hc0⟩, fun h => by cases h⟩
              simp only [frame_take.l0]
              rw [if_pos (by omega), if_pos (by omega), if_pos (by omega), if_pos (by rw [w64] <;> omega), hrd, hw, if_pos (by omega), if_pos (by omega), e1, if_pos (by omega), if_pos (by omega), Option.bind_some, if_neg hc1, if_pos hc0, htk, ho, hdr, hval]
            · refine ⟨((valL pre + 128 ^ pre.length * (c.toNat % 128) : Nat) : Int), false, Ev.succ 0 fun k _ => ?_, (fun h => by cases h), fun _ h => ?_⟩
              · simp only [frame_take.l0]
                rw [if_pos (by omega), if_pos (by omega), if_pos (by omega), if_pos (by rw [w64] <;> omega), hrd, hw, if_pos (by omega), if_pos (by omega), e1, if_pos (by omega), if_pos (by omega), Option.bind_some, if_neg hc1, if_neg hc0, htk, ho, hdr,
                  show ((pre.length : Int) == 0) = false by simp; intro h; simp [h] at hn9]
              · rcases h.2 with h | h
                · exact hc0 h
                · rw [h] at hn9; simp at hn9
        · have ho := or_step (valL pre) c pre.length hv9 (by omega) (.inl (by omega))
          rw [hw] at ho
          by_cases hc0 : c > 0
          · refine ⟨((valL (pre ++ [c]) : Nat) : Int), true, Ev.succ 0 fun k _ => ?_, fun _ => ⟨rfl, .inl (by omega), .inl hc0⟩, fun h => by cases h⟩
            simp only [frame_take.l0]
            rw [if_pos (by omega), if_pos (by omega), if_pos (by omega), if_pos (by rw [w64] <;> omega), hrd, hw, if_pos (by omega), if_neg (by omega), e1, if_pos (by omega), if_pos (by omega), Option.bind_some, if_pos hc0, htk, ho, hdr, hval]
          · refine ⟨((valL (pre ++ [c]) : Nat) : Int), ((pre.length : Int) == 0), Ev.succ 0 fun k _ => ?_, fun h => ⟨rfl, .inl (by omega), .inr (hpre.1 (by simpa using h))⟩, fun h h2 => ?_⟩
            · simp only [frame_take.l0]
              rw [if_pos (by omega), if_pos (by omega), if_pos (by omega), if_pos (by rw [w64] <;> omega), hrd, hw, if_pos (by omega), if_neg (by omega), e1, if_pos (by omega), if_pos (by omega), Option.bind_some, if_neg hc0, htk, ho, hdr, hval]
            · rcases h2.2 with h2 | h2
              · exact hc0 h2
              · rw [hpre.2 h2] at h; simp at h
      obtain ⟨u, ok, hlast, ht, hf⟩ := last
      obtain ⟨K, hK⟩ := take_loop b hb hl pre.length (by omega) hco m (by omega) _ hlast pre.length 0 (by omega)
      refine ⟨u, r, ok, ⟨K, fun k hk => ?_⟩, fun h => ?_, fun h v r' hv eb => ?_, pre ++ [c], .inl (by rw [e]; simp)⟩
      · unfold frame_take.f
        rw [hm]
        exact hK k hk
      · obtain ⟨hu, hs, h0⟩ := ht h
        refine ⟨valL (pre ++ [c]), hu, ?_, ?_⟩
        · rw [hval]
          rcases hs with hs | ⟨hs, hc⟩
          · have h8 : 128 ^ pre.length ≤ 128 ^ 8 := Nat.pow_le_pow_right (by omega) hs
            have := Nat.mul_le_mul h8 (show c.toNat % 128 ≤ 127 by omega)
            omega
          · have := Nat.mul_le_mul (Nat.le_refl (128 ^ pre.length)) (show c.toNat % 128 ≤ 1 by omega)
            rw [hs] at this hv9 ⊢
            omega
        · rw [countS_val pre c hp ⟨c0, c1⟩ h0, e]; simp
      · obtain ⟨pre', c', e', hp', _, c1', h0', hv', hl'⟩ := form v r' hv eb
        rw [e] at e'
        obtain ⟨rfl, rfl, rfl⟩ := cut_unique pre pre' c c' r r' hp hp' c1 c1' e'
        refine hf h ⟨?_, h0'⟩
        by_cases h8 : pre.length ≤ 8
        · exact .inl h8
        · refine .inr ⟨by omega, ?_⟩
          have h9' : pre.length = 9 := by omega
          rw [hval, h9'] at hv'
          have : c.toNat % 128 = c.toNat := by omega
          rw [this] at hv'
          by_cases hc : c ≤ 1
          · exact hc
          · have := Nat.mul_le_mul (Nat.le_refl (128 ^ 9)) (show 2 ≤ c.toNat by omega)
            omega
    · refine noTerm (fun j hj h10 => ?_)
      have : rd b (j : Nat) ∈ pre := by
        rw [e]; simp only [rd, Int.toNat_natCast]
        rw [List.getD_eq_getElem?_getD, List.getElem?_append_left (by omega), List.getElem?_eq_getElem (by omega)]
        exact List.getElem_mem (by omega)
      exact (hp _ this).1
  · exact noTerm (fun j hj _ => (hco _ (rd_mem b j hj)).1)
end Go.Proofs.Ytlpohipneianjaa.Q
end
section
set_option linter.unusedVariables false
namespace Go.Proofs.Ytlpohipneianjaa.Q
open Go Go.RowKit Go.Proofs.Ytlpohipneianjaa.G Go.Proofs.YtlpohipneianjaaW.PrintWords Go.Proofs.YtlpohipneianjaaW.PrintLast Go.Proofs.YtlpohipneianjaaW.PrintMore
theorem countS_prefix {v v' : Nat} {r r' : List Int} (hv : v < 18446744073709551616) (hv' : v' < 18446744073709551616) (h : countS v ++ r = countS v' ++ r') : v = v' ∧ r = r' := by
  obtain ⟨pre, c, e, hp, c0, c1, _, hval, _⟩ := countS_form 9 v (by omega)
  obtain ⟨pre', c', e', hp', c0', c1', _, hval', _⟩ := countS_form 9 v' (by omega)
  rw [e, e'] at h
  obtain ⟨rfl, rfl, h3⟩ := cut_unique pre pre' c c' r r' hp hp' c1 c1' (by simpa using h)
  exact ⟨by rw [← hval, hval'], h3⟩
def unz (v : Nat) : Int := if v % 2 = 0 then ((v / 2 : Nat) : Int) else -1 - ((v / 2 : Nat) : Int)
theorem zig_unz (v : Nat) : zig (unz v) = v := by unfold zig unz; split <;> split <;> omega
theorem unz_zig (n : Int) : unz (zig n) = n := by unfold zig unz; split <;> split <;> omega
theorem unz_i64 {v : Nat} (h : v < 18446744073709551616) : I64 (unz v) := by unfold I64 unz; split <;> omega
theorem and1 {x : Nat} (h : x < 18446744073709551616) : Go.bits .and .u64 (x : Int) 1 = ((x % 2 : Nat) : Int) := by
  have := bits_mask .u64 64 (by decide) wraps_u64 1 (by decide) (x : Int) (by omega) (by omega)
  simp at this
  rw [this]
  omega
theorem unz_eq {v : Nat} (h : v < 18446744073709551616) : wrap64 (Go.bits .xor .u64 ((v : Int) / 2) (IntKind.u64.wrap (-(Go.bits .and .u64 (v : Int) 1)))) = unz v := by
  rw [and1 h, IntKind.wrap_u64, show (v : Int) / 2 = ((v / 2 : Nat) : Int) by omega]
  unfold unz
  by_cases h2 : v % 2 = 0
  · rw [if_pos h2, h2, show (-((0 : Nat) : Int)) % 18446744073709551616 = ((0 : Nat) : Int) by omega, bits_xor_u64_nat _ _ (by omega) (by omega), Nat.xor_zero, w64] <;> omega
  · have h1 : v % 2 = 1 := by omega
    rw [if_neg h2, h1, show (-((1 : Nat) : Int)) % 18446744073709551616 = ((18446744073709551615 : Nat) : Int) by omega, bits_xor_u64_nat _ _ (by omega) (by omega), xor_ones (by omega)]
    unfold wrap64
    omega
theorem strOf_bytes (s : ByteArray) : strOfNums (bytesOf s) = s := by
  unfold strOfNums bytesOf
  rw [List.map_map]
  have : (fun n : Int => UInt8.ofNat n.toNat) ∘ (fun b : UInt8 => (b.toNat : Int)) = id := by
    funext b
    simp
  rw [this, List.map_id]
theorem bytes_strOf (l : List Int) (h : By l) : bytesOf (strOfNums l) = l := by
  unfold strOfNums bytesOf
  simp only [List.map_map]
  rw [List.map_congr_left (g := id), List.map_id]
  intro x hx
  have := h x hx
  simp only [Function.comp, id, UInt8.toNat_ofNat', Nat.reducePow]
  omega
theorem by_bytesOf (s : ByteArray) : By (bytesOf s) := by
  intro x hx
  simp only [bytesOf, List.mem_map] at hx
  obtain ⟨b, _, rfl⟩ := hx
  have := b.toNat_lt
  omega
theorem By.append {a b : List Int} (ha : By a) (hb : By b) : By (a ++ b) := fun x hx => by
  rcases List.mem_append.1 hx with h | h
  · exact ha x h
  · exact hb x h
theorem By.right {a b : List Int} (h : By (a ++ b)) : By b := fun x hx => h x (by simp [hx])
theorem By.take {a : List Int} (h : By a) (n : Nat) : By (a.take n) := fun x hx => h x (List.mem_of_mem_take hx)
theorem By.drop {a : List Int} (h : By a) (n : Nat) : By (a.drop n) := fun x hx => h x (List.mem_of_mem_drop hx)
abbrev DRes := List Int × List ByteArray × Int
def bad : DRes := ([], [], 2)
theorem dec_off1 (k : Nat) (x0 : List Int) (x5 : Int) (a : List Int) (t : List ByteArray) : frame_Decode.l1 (k + 2) x0 x5 false a t = some bad := by
  rw [frame_Decode.l1, if_neg (by simp), frame_Decode.j4, if_neg (by simp), if_neg (by simp)]
  rfl
theorem dec_off0 (k : Nat) (x0 : List Int) (x5 : Int) (a : List Int) : frame_Decode.l0 (k + 5) x0 x5 false a = some bad := by
  rw [frame_Decode.l0, if_neg (by simp), frame_Decode.j1, if_neg (by simp), if_neg (by simp), frame_Decode.j2, dec_off1]
theorem dec_texts (n : Nat) : ∀ (rest : List Int) (m : Nat) (nums : List Int) (acc : List ByteArray), rest.length ≤ n → By rest → rest.length ≤ 100000 → acc.length + rest.length ≤ 100000 → m < 18446744073709551616 →
    ∃ R : DRes, (∃ K, ∀ k, K ≤ k → frame_Decode.l1 k rest (m : Int) true nums acc = some (R)) ∧ ((∃ ts : List ByteArray, ts.length = m ∧ rest = encT ts ∧ R = (nums, acc ++ ts, 0)) ∨ (R = bad ∧ ∀ ts : List ByteArray, ts.length = m → (∀ s ∈ ts, s.size ≤ 9223372036854775807) → rest ≠ encT ts)) := by
  induction n with
  | zero =>
    intro rest m nums acc hl hb h1 h2 hm
    obtain rfl : rest = [] := List.eq_nil_of_length_eq_zero (by omega)
    cases m with
    | zero =>
      refine ⟨(nums, acc, 0), ⟨2, fun k hk => ?_⟩, .inl ⟨[], rfl, rfl, by simp⟩⟩
      obtain ⟨k, rfl⟩ : ∃ m, k = m + 2 := ⟨k - 2, by omega⟩
      rw [frame_Decode.l1, if_pos rfl, decide_eq_false (by omega), frame_Decode.j4, if_neg (by simp), if_pos rfl, if_neg (by simp)]
    | succ m =>
      obtain ⟨u, r, ok, ⟨K, hK⟩, ht, hf, hr⟩ := take_ev [] hb h1
      cases ok with
      | true =>
        obtain ⟨v, _, _, e⟩ := ht rfl
        have := countS_pos v
        have := congrArg List.length e
        simp at this
        omega
      | false =>
        refine ⟨bad, ⟨K + 5, fun k hk => ?_⟩, .inr ⟨rfl, fun ts hts hsz e => ?_⟩⟩
        · obtain ⟨k, rfl⟩ : ∃ m, k = m + 4 := ⟨k - 4, by omega⟩
          rw [frame_Decode.l1, if_pos rfl, decide_eq_true (by omega), frame_Decode.j4, if_pos rfl, hK _ (by omega), Option.bind_some, if_neg (by simp)]
          exact dec_off1 _ _ _ _ _
        · cases ts with
          | nil => simp at hts
          | cons s ts =>
            rw [encT_cons, List.append_assoc] at e
            exact hf rfl s.size _ (by have := hsz s (by simp); omega) e
  | succ n ih =>
    intro rest m nums acc hl hb h1 h2 hm
    cases m with
    | zero =>
      by_cases h0 : rest = []
      · subst h0
        refine ⟨(nums, acc, 0), ⟨2, fun k hk => ?_⟩, .inl ⟨[], rfl, rfl, by simp⟩⟩
        obtain ⟨k, rfl⟩ : ∃ m, k = m + 2 := ⟨k - 2, by omega⟩
        rw [frame_Decode.l1, if_pos rfl, decide_eq_false (by omega), frame_Decode.j4, if_neg (by simp), if_pos rfl, if_neg (by simp)]
      · have hpos : 0 < rest.length := List.length_pos_iff.2 h0
        refine ⟨bad, ⟨2, fun k hk => ?_⟩, .inr ⟨rfl, fun ts hts _ e => ?_⟩⟩
        · obtain ⟨k, rfl⟩ : ∃ m, k = m + 2 := ⟨k - 2, by omega⟩
          rw [frame_Decode.l1, if_pos rfl, decide_eq_false (by omega), frame_Decode.j4, if_neg (by simp), if_pos rfl, if_pos (by omega)]
          rfl
        · obtain rfl : ts = [] := List.eq_nil_of_length_eq_zero hts
          exact h0 e
    | succ m =>
      obtain ⟨u, r, ok, ⟨K, hK⟩, ht, hf, hr⟩ := take_ev rest hb h1
      have e1 : IntKind.u64.wrap (((m + 1 : Nat) : Int) - 1) = (m : Int) := by rw [IntKind.wrap_u64]; omega
      cases ok with
      | false =>
        refine ⟨bad, ⟨K + 5, fun k hk => ?_⟩, .inr ⟨rfl, fun ts hts hsz e => ?_⟩⟩
        · obtain ⟨k, rfl⟩ : ∃ m, k = m + 4 := ⟨k - 4, by omega⟩
          rw [frame_Decode.l1, if_pos rfl, decide_eq_true (by omega), frame_Decode.j4, if_pos rfl, hK _ (by omega), Option.bind_some, if_neg (by simp)]
          exact dec_off1 _ _ _ _ _
        · cases ts with
          | nil => simp at hts
          | cons s ts =>
            rw [encT_cons, List.append_assoc] at e
            exact hf rfl s.size _ (by have := hsz s (by simp); omega) e
      | true =>
        obtain ⟨v, rfl, hv, e⟩ := ht rfl
        have hbr : By r := by rw [e] at hb; exact hb.right
        have hcp := countS_pos v
        have hlen : rest.length = (countS v).length + r.length := by rw [e]; simp
        have ew : IntKind.u64.wrap (r.length : Int) = (r.length : Int) := by rw [IntKind.wrap_u64]; omega
        by_cases hvl : v ≤ r.length
        · have hdl : (r.drop v).length = r.length - v := List.length_drop
          obtain ⟨R, ⟨K2, hK2⟩, hR⟩ := ih (r.drop v) m nums (acc ++ [strOfNums (r.take v)]) (by omega) (hbr.drop v) (by omega) (by simp only [List.length_append, List.length_cons, List.length_nil]; omega) (by omega)
          have hs : (strOfNums (r.take v)).size = v := by rw [strOfNums_size, List.length_take]; omega
          have hbs : bytesOf (strOfNums (r.take v)) = r.take v := bytes_strOf _ (hbr.take v)
          refine ⟨R, ⟨K + K2 + 2, fun k hk => ?_⟩, ?_⟩
          · obtain ⟨k, rfl⟩ : ∃ m, k = m + 2 := ⟨k - 2, by omega⟩
            rw [frame_Decode.l1, if_pos rfl, decide_eq_true (by omega), frame_Decode.j4, if_pos rfl, hK _ (by omega), Option.bind_some]
            simp only [if_true]
            rw [ew, if_pos (by omega), if_pos (by omega), if_pos (by omega), if_pos (by omega), e1, Int.toNat_natCast]
            exact hK2 k (by omega)
          · rcases hR with ⟨ts, h3, h4, h5⟩ | ⟨h3, h4⟩
            · refine .inl ⟨strOfNums (r.take v) :: ts, by simp [h3], ?_, by rw [h5]; simp⟩
              rw [encT_cons, hs, hbs, ← h4, e, List.append_assoc, List.take_append_drop]
            · refine .inr ⟨h3, fun ts hts hsz e' => ?_⟩
              cases ts with
              | nil => simp at hts
              | cons s ts =>
                rw [encT_cons, List.append_assoc, e] at e'
                obtain ⟨h6, h7⟩ := countS_prefix hv (by have := hsz s (by simp); omega) e'
                refine h4 ts (by simpa using hts) (fun s' hs' => hsz s' (by simp [hs'])) ?_
                rw [h7, h6, List.drop_append, bytesOf_length, List.drop_of_length_le (by rw [bytesOf_length]; omega)]
                simp
        · refine ⟨bad, ⟨K + 5, fun k hk => ?_⟩, .inr ⟨rfl, fun ts hts hsz e' => ?_⟩⟩
          · obtain ⟨k, rfl⟩ : ∃ m, k = m + 4 := ⟨k - 4, by omega⟩
            rw [frame_Decode.l1, if_pos rfl, decide_eq_true (by omega), frame_Decode.j4, if_pos rfl, hK _ (by omega), Option.bind_some]
            simp only [if_true]
            rw [ew, if_neg (by omega)]
            exact dec_off1 _ _ _ _ _
          · cases ts with
            | nil => simp at hts
            | cons s ts =>
              rw [encT_cons, List.append_assoc, e] at e'
              obtain ⟨h6, h7⟩ := countS_prefix hv (by have := hsz s (by simp); omega) e'
              rw [h7, List.length_append, bytesOf_length] at hvl
              omega
theorem dec_nums (n : Nat) : ∀ (rest : List Int) (m : Nat) (acc : List Int), rest.length ≤ n → By rest → rest.length ≤ 100000 → acc.length + rest.length ≤ 100000 → m < 18446744073709551616 →
    ∃ R : DRes, (∃ K, ∀ k, K ≤ k → frame_Decode.l0 k rest (m : Int) true acc = some (R)) ∧ ((∃ (ns : List Int) (ts : List ByteArray), ns.length = m ∧ (∀ x ∈ ns, I64 x) ∧ rest = encN ns ++ countS ts.length ++ encT ts ∧ R = (acc ++ ns, ts, 0)) ∨
      (R = bad ∧ ∀ (ns : List Int) (ts : List ByteArray), ns.length = m → Held ns ts → rest ≠ encN ns ++ countS ts.length ++ encT ts)) := by
  induction n using Nat.strongRecOn with
  | _ n ih =>
  intro rest m acc hl hb h1 h2 hm
  obtain ⟨u, r, ok, ⟨K, hK⟩, ht, hf, hr⟩ := take_ev rest hb h1
  cases m with
  | zero =>
    cases ok with
    | false =>
      refine ⟨bad, ⟨K + 6, fun k hk => ?_⟩, .inr ⟨rfl, fun ns ts hns hh e => ?_⟩⟩
      · obtain ⟨k, rfl⟩ : ∃ m, k = m + 5 := ⟨k - 5, by omega⟩
        rw [frame_Decode.l0, if_pos rfl, decide_eq_false (by omega), frame_Decode.j1, if_neg (by simp), if_pos rfl, hK _ (by omega), Option.bind_some, frame_Decode.j2]
        exact dec_off1 _ _ _ _ _
      · obtain rfl : ns = [] := List.eq_nil_of_length_eq_zero hns
        have := hh.2.2.1
        exact hf rfl ts.length _ (by omega) (by simpa [encN] using e)
    | true =>
      obtain ⟨v, rfl, hv, e⟩ := ht rfl
      have hbr : By r := by rw [e] at hb; exact hb.right
      have hlen : rest.length = (countS v).length + r.length := by rw [e]; simp
      obtain ⟨R, ⟨K2, hK2⟩, hR⟩ := dec_texts r.length r v acc [] (Nat.le_refl _) hbr (by omega) (by simp; omega) hv
      refine ⟨R, ⟨K + K2 + 3, fun k hk => ?_⟩, ?_⟩
      · obtain ⟨k, rfl⟩ : ∃ m, k = m + 3 := ⟨k - 3, by omega⟩
        rw [frame_Decode.l0, if_pos rfl, decide_eq_false (by omega), frame_Decode.j1, if_neg (by simp), if_pos rfl, hK _ (by omega), Option.bind_some, frame_Decode.j2]
        exact hK2 k (by omega)
      · rcases hR with ⟨ts, h3, h4, h5⟩ | ⟨h3, h4⟩
        · exact .inl ⟨[], ts, rfl, fun x hx => by simp at hx, by rw [h3, ← h4]; simpa [encN] using e, by rw [h5]; simp⟩
        · refine .inr ⟨h3, fun ns ts hns hh e' => ?_⟩
          obtain rfl : ns = [] := List.eq_nil_of_length_eq_zero hns
          have := hh.2.2.1
          rw [e] at e'
          obtain ⟨h6, h7⟩ := countS_prefix hv (by omega : ts.length < 18446744073709551616) (by simpa [encN] using e')
          exact h4 ts h6.symm hh.2.2.2 h7
  | succ m =>
    have e1 : IntKind.u64.wrap (((m + 1 : Nat) : Int) - 1) = (m : Int) := by rw [IntKind.wrap_u64]; omega
    cases ok with
    | false =>
      refine ⟨bad, ⟨K + 8, fun k hk => ?_⟩, .inr ⟨rfl, fun ns ts hns hh e => ?_⟩⟩
      · obtain ⟨k, rfl⟩ : ∃ m, k = m + 7 := ⟨k - 7, by omega⟩
        rw [frame_Decode.l0, if_pos rfl, decide_eq_true (by omega), frame_Decode.j1, if_pos rfl, hK _ (by omega), Option.bind_some, if_neg (by simp)]
        exact dec_off0 _ _ _ _
      · cases ns with
        | nil => simp at hns
        | cons x ns =>
          rw [encN_cons] at e
          exact hf rfl (zig x) _ (zig_lt (hh.2.1 x (by simp))) (by simpa using e)
    | true =>
      obtain ⟨v, rfl, hv, e⟩ := ht rfl
      have hbr : By r := by rw [e] at hb; exact hb.right
      have hcp := countS_pos v
      have hlen : rest.length = (countS v).length + r.length := by rw [e]; simp
      obtain ⟨R, ⟨K2, hK2⟩, hR⟩ := ih r.length (by omega) r m (acc ++ [unz v]) (Nat.le_refl _) hbr (by omega) (by simp only [List.length_append, List.length_cons, List.length_nil]; omega) (by omega)
      refine ⟨R, ⟨K + K2 + 2, fun k hk => ?_⟩, ?_⟩
      · obtain ⟨k, rfl⟩ : ∃ m, k = m + 2 := ⟨k - 2, by omega⟩
        rw [frame_Decode.l0, if_pos rfl, decide_eq_true (by omega), frame_Decode.j1, if_pos rfl, hK _ (by omega), Option.bind_some]
        simp only [if_true]
        rw [if_pos (by omega), unz_eq hv, e1]
        exact hK2 k (by omega)
      · rcases hR with ⟨ns, ts, h3, h3', h4, h5⟩ | ⟨h3, h4⟩
        · refine .inl ⟨unz v :: ns, ts, by simp [h3], fun x hx => ?_, ?_, by rw [h5]; simp⟩
          · rcases List.mem_cons.1 hx with rfl | hx
            · exact unz_i64 hv
            · exact h3' x hx
          · rw [encN_cons, zig_unz, e, h4]; simp
        · refine .inr ⟨h3, fun ns ts hns hh e' => ?_⟩
          cases ns with
          | nil => simp at hns
          | cons x ns =>
            rw [encN_cons, e] at e'
            obtain ⟨h6, h7⟩ := countS_prefix hv (zig_lt (hh.2.1 x (by simp))) (by simpa using e')
            refine h4 ns ts (by simpa using hns) ⟨by have := hh.1; simp at this; omega, fun y hy => hh.2.1 y (by simp [hy]), hh.2.2⟩ (by simpa using h7)
theorem encN_len (l : List Int) : l.length ≤ (encN l).length := by
  induction l with
  | nil => simp
  | cons n l ih => rw [encN_cons]; have := countS_pos (zig n); simp only [List.length_append, List.length_cons]; omega
theorem encT_len (l : List ByteArray) : l.length ≤ (encT l).length ∧ ∀ s ∈ l, s.size ≤ (encT l).length := by
  induction l with
  | nil => simp
  | cons s l ih =>
    rw [encT_cons]
    have := countS_pos s.size
    have hb := bytesOf_length s
    simp only [List.length_append, List.length_cons]
    refine ⟨by omega, fun x hx => ?_⟩
    rcases List.mem_cons.1 hx with rfl | hx
    · omega
    · have := ih.2 x hx; omega
theorem Decode_ev (b : List Int) (hb : By b) (hl : b.length ≤ 4096) : ∃ R : DRes, (∃ K, ∀ k, K ≤ k → frame_Decode.f k b = some (R)) ∧ ((∃ ns ts, Held ns ts ∧ b = enc ns ts ∧ R = (ns, ts, 0)) ∨ (R = bad ∧ ∀ ns ts, Held ns ts → b ≠ enc ns ts)) := by
  obtain ⟨u, r, ok, ⟨K, hK⟩, ht, hf, hr⟩ := take_ev b hb (by omega)
  cases ok with
  | false =>
    refine ⟨bad, ⟨K + 6, fun k hk => ?_⟩, .inr ⟨rfl, fun ns ts hh e => ?_⟩⟩
    · obtain ⟨k, rfl⟩ : ∃ m, k = m + 5 := ⟨k - 5, by omega⟩
      unfold frame_Decode.f
      rw [if_neg (by omega), hK _ (by omega), Option.bind_some]
      exact dec_off0 _ _ _ _
    · have := hh.1
      exact hf rfl ns.length (encN ns ++ (countS ts.length ++ encT ts)) (by omega) (by rw [e]; simp [enc])
  | true =>
    obtain ⟨v, rfl, hv, e⟩ := ht rfl
    have hbr : By r := by rw [e] at hb; exact hb.right
    have hlen : b.length = (countS v).length + r.length := by rw [e]; simp
    obtain ⟨R, ⟨K2, hK2⟩, hR⟩ := dec_nums r.length r v [] (Nat.le_refl _) hbr (by omega) (by simp; omega) hv
    refine ⟨R, ⟨K + K2, fun k hk => ?_⟩, ?_⟩
    · unfold frame_Decode.f
      rw [if_neg (by omega), hK _ (by omega), Option.bind_some]
      exact hK2 k (by omega)
    · rcases hR with ⟨ns, ts, h3, h3', h4, h5⟩ | ⟨h3, h4⟩
      · refine .inl ⟨ns, ts, ?_, ?_, by rw [h5]; simp⟩
        · have a := encN_len ns
          have t := encT_len ts
          have hle : r.length = (encN ns).length + (countS ts.length).length + (encT ts).length := by rw [h4]; simp; omega
          exact ⟨by omega, h3', by omega, fun s hs => by have := t.2 s hs; omega⟩
        · rw [e, h4, ← h3]; simp [enc]
      · refine .inr ⟨h3, fun ns ts hh e' => ?_⟩
        have := hh.1
        rw [e] at e'
        obtain ⟨h6, h7⟩ := countS_prefix hv (by omega : ns.length < 18446744073709551616) (r' := encN ns ++ countS ts.length ++ encT ts) (by rw [e']; simp [enc])
        exact h4 ns ts h6.symm hh h7
theorem encN_inj : ∀ (a b : List Int) (x y : List Int), a.length = b.length → (∀ n ∈ a, I64 n) → (∀ n ∈ b, I64 n) → encN a ++ x = encN b ++ y → a = b ∧ x = y
  | [], [], x, y, _, _, _, h => ⟨rfl, by simpa [encN] using h⟩
  | [], _ :: _, _, _, h, _, _, _ => by simp at h
  | _ :: _, [], _, _, h, _, _, _ => by simp at h
  | n :: a, m :: b, x, y, hl, ha, hb, h => by
    rw [encN_cons, encN_cons, List.append_assoc, List.append_assoc] at h
    obtain ⟨h1, h2⟩ := countS_prefix (zig_lt (ha n (by simp))) (zig_lt (hb m (by simp))) h
    obtain ⟨h3, h4⟩ := encN_inj a b x y (by simpa using hl) (fun z hz => ha z (by simp [hz])) (fun z hz => hb z (by simp [hz])) h2
    exact ⟨by rw [h3, ← unz_zig n, h1, unz_zig], h4⟩
theorem encT_inj : ∀ (a b : List ByteArray), a.length = b.length → (∀ s ∈ a, s.size ≤ 9223372036854775807) → (∀ s ∈ b, s.size ≤ 9223372036854775807) → encT a = encT b → a = b
  | [], [], _, _, _, _ => rfl
  | [], _ :: _, h, _, _, _ => by simp at h
  | _ :: _, [], h, _, _, _ => by simp at h
  | s :: a, t :: b, hl, ha, hb, h => by
    rw [encT_cons, encT_cons, List.append_assoc, List.append_assoc] at h
    obtain ⟨h1, h2⟩ := countS_prefix (by have := ha s (by simp); omega) (by have := hb t (by simp); omega) h
    obtain ⟨h3, h4⟩ := List.append_inj h2 (by rw [bytesOf_length, bytesOf_length, h1])
    have := encT_inj a b (by simpa using hl) (fun z hz => ha z (by simp [hz])) (fun z hz => hb z (by simp [hz])) h4
    rw [this, ← strOf_bytes s, h3, strOf_bytes]
theorem enc_inj {a a' : List Int} {t t' : List ByteArray} (h : Held a t) (h' : Held a' t') (e : enc a t = enc a' t') : a = a' ∧ t = t' := by
  unfold enc at e
  simp only [List.append_assoc] at e
  have := h.1; have := h'.1; have := h.2.2.1; have := h'.2.2.1
  obtain ⟨h1, h2⟩ := countS_prefix (by omega) (by omega) e
  obtain ⟨h3, h4⟩ := encN_inj a a' _ _ h1 h.2.1 h'.2.1 h2
  obtain ⟨h5, h6⟩ := countS_prefix (by omega) (by omega) h4
  exact ⟨h3, encT_inj t t' h5 h.2.2.2 h'.2.2.2 h6⟩
end Go.Proofs.Ytlpohipneianjaa.Q
end
section
set_option linter.unusedVariables false
namespace Go.Proofs.Ytlpohipneianjaa.Q
open Go Go.RowKit Go.Proofs.Ytlpohipneianjaa.G Go.Proofs.YtlpohipneianjaaW.PrintWords Go.Proofs.YtlpohipneianjaaW.PrintLast Go.Proofs.YtlpohipneianjaaW.PrintMore
def lz (i : Nat) (c : Int) : Nat := 128 ^ i * (c.toNat % 128) % 18446744073709551616
theorem lz_eq {i : Nat} {c : Int} (h : 128 ^ i * (c.toNat % 128) < 18446744073709551616) : lz i c = 128 ^ i * (c.toNat % 128) := Nat.mod_eq_of_lt h
theorem lead_shl (c : Int) (hc : 0 ≤ c ∧ c ≤ 255) (i : Nat) (hi : i ≤ 9) : shl .u64 (IntKind.u64.wrap (Int.tmod c 128)) (IntKind.u64.wrap (wrap64 (7 * (i : Int)))) = (lz i c : Int) := by
  rw [w64 (by omega) (by omega), tmod_nn hc.1, wraps_u64 (c % 128) (by omega) (by omega), wraps_u64 (7 * (i : Int)) (by omega) (by omega)]
  have hm : min (7 * (i : Int)).toNat IntKind.u64.bits = 7 * i := by
    rw [show (7 * (i : Int)).toNat = 7 * i by omega]; exact Nat.min_eq_left (by simp only [IntKind.bits]; omega)
  have hp : (2 : Nat) ^ (7 * i) = 128 ^ i := by rw [Nat.pow_mul]
  have hc' : c % 128 = ((c.toNat % 128 : Nat) : Int) := by omega
  have e1 : c % 128 * 2 ^ (7 * i) = ((128 ^ i * (c.toNat % 128) : Nat) : Int) := by
    rw [hc', ← hp, Int.natCast_mul, Int.natCast_pow, Int.mul_comm]; rfl
  unfold shl lz
  rw [hm, e1, IntKind.wrap_u64]
  generalize 128 ^ i * (c.toNat % 128) = z
  omega
theorem lead_step (b : List Int) (i : Nat) (x y : Int) (k : Nat) (h : i < b.length) (hi : i ≤ 9) (hc : 0 ≤ rd b i ∧ rd b i ≤ 255) (hy : IntKind.u64.wrap (x + (lz i (rd b i) : Int)) = y) :
    windroseref02_Lead.l0 (k + 2) b x i = if rd b i < 128 then some (y, ((i + 1 : Nat) : Int)) else windroseref02_Lead.l0 k b y ((i + 1 : Nat) : Int) := by
  have ew : wrap64 ((i : Int) + 1) = ((i + 1 : Nat) : Int) := by rw [w64] <;> omega
  have e7 : 0 ≤ IntKind.u64.wrap (wrap64 (7 * (i : Int))) := by rw [w64 (by omega) (by omega), wraps_u64 _ (by omega) (by omega)]; omega
  rw [windroseref02_Lead.l0, if_pos (by omega), decide_eq_true (by omega), windroseref02_Lead.j1, if_pos rfl, if_pos (by omega), if_pos (by omega), if_pos e7, lead_shl _ hc i hi, hy, ew]
theorem lead_stop (b : List Int) (i : Nat) (x : Int) (h : ¬ (i < b.length ∧ i < 10)) : (∃ K, ∀ k, K ≤ k → windroseref02_Lead.l0 k b x i = some (((((0 : Nat) : Int)), (((0 : Nat)) : Int)))) := by
  refine ⟨2, fun k hk => ?_⟩
  obtain ⟨k, rfl⟩ : ∃ m, k = m + 2 := ⟨k - 2, by omega⟩
  rw [windroseref02_Lead.l0]
  by_cases h1 : i < b.length
  · rw [if_pos (by omega), decide_eq_false (by omega), windroseref02_Lead.j1, if_neg (by simp)]; rfl
  · rw [if_neg (by omega), windroseref02_Lead.j1, if_neg (by simp)]; rfl
theorem lead_any (b : List Int) (hb : By b) (hl : b.length ≤ 100000) (d : Nat) : ∀ (i : Nat) (x : Int), i + d = 10 → 0 ≤ x → x < 18446744073709551616 → ∃ (u : Nat) (n : Nat), (∃ K, ∀ k, K ≤ k → windroseref02_Lead.l0 k b x i = some (((u : Int), (n : Int)))) ∧ u < 18446744073709551616 ∧ n ≤ b.length ∧ n ≤ 10 := by
  induction d with
  | zero => intro i x hi _ _; exact ⟨0, 0, lead_stop b i x (by omega), by omega, by omega, by omega⟩
  | succ d ih =>
    intro i x hi hx0 hx1
    by_cases h : i < b.length
    · have hc := hb _ (rd_mem b i h)
      obtain ⟨y, hy, hy2⟩ : ∃ y : Nat, IntKind.u64.wrap (x + (lz i (rd b i) : Int)) = (y : Int) ∧ y < 18446744073709551616 := by
        rw [IntKind.wrap_u64]
        generalize lz i (rd b i) = z
        exact ⟨((x + (z : Int)) % 18446744073709551616).toNat, by omega, by omega⟩
      by_cases h1 : rd b i < 128
      · refine ⟨y, i + 1, ⟨2, fun k hk => ?_⟩, hy2, by omega, by omega⟩
        obtain ⟨k, rfl⟩ : ∃ m, k = m + 2 := ⟨k - 2, by omega⟩
        rw [lead_step b i x y k h (by omega) hc hy, if_pos h1]
      · obtain ⟨u, n, ⟨K, hK⟩, hu, hn⟩ := ih (i + 1) (y : Int) (by omega) (by omega) (by omega)
        refine ⟨u, n, ⟨K + 2, fun k hk => ?_⟩, hu, hn⟩
        obtain ⟨k, rfl⟩ : ∃ m, k = m + 2 := ⟨k - 2, by omega⟩
        rw [lead_step b i x y k h (by omega) hc hy, if_neg h1]
        exact hK k (by omega)
    · exact ⟨0, 0, lead_stop b i x (by omega), by omega, by omega, by omega⟩
theorem Lead_ev (b : List Int) (hb : By b) (hl : b.length ≤ 100000) : ∃ (u : Nat) (n : Nat), (∃ K, ∀ k, K ≤ k → windroseref02_Lead.f k b = some (((u : Int), (n : Int)))) ∧ u < 18446744073709551616 ∧ n ≤ b.length ∧ n ≤ 10 := by
  obtain ⟨u, n, ⟨K, hK⟩, h⟩ := lead_any b hb hl 10 0 0 (by omega) (by omega) (by omega)
  refine ⟨u, n, ⟨K, fun k hk => ?_⟩, h⟩
  unfold windroseref02_Lead.f
  exact hK k hk
theorem lead_pre (pre r : List Int) (c : Int) (v : Nat) (hp : Co pre) (hc : 0 ≤ c ∧ c < 128) (hval : valL (pre ++ [c]) = v) (hv : v < 18446744073709551616) (hlen : pre.length ≤ 9) (d : Nat) : ∀ i : Nat, i + d = pre.length →
    (∃ K, ∀ k, K ≤ k → windroseref02_Lead.l0 k (pre ++ c :: r) ((valL (pre.take i) : Nat) : Int) i = some (((v : Int), ((pre.length + 1 : Nat) : Int)))) := by
  induction d with
  | zero =>
    intro i hi
    obtain rfl : i = pre.length := by omega
    have hlb : pre.length < (pre ++ c :: r).length := by simp
    have hrd := rd_app pre c r
    have hv2 : valL (pre ++ [c]) = valL pre + 128 ^ pre.length * (c.toNat % 128) := by rw [valL_append]; simp [valL]
    have hz : lz pre.length c = 128 ^ pre.length * (c.toNat % 128) := lz_eq (by rw [hval] at hv2; exact Nat.lt_of_le_of_lt (Nat.le_add_left _ _) (hv2 ▸ hv))
    refine ⟨2, fun k hk => ?_⟩
    obtain ⟨k, rfl⟩ : ∃ m, k = m + 2 := ⟨k - 2, by omega⟩
    rw [lead_step _ pre.length _ (v : Int) k hlb hlen (by rw [hrd]; omega) (by
      rw [hrd, List.take_of_length_le (Nat.le_refl _), hz, ← Int.natCast_add, ← hv2, hval]
      exact wraps_u64 _ (by omega) (by omega)), hrd, if_pos hc.2]
  | succ d ih =>
    intro i hi
    obtain ⟨K, hK⟩ := ih (i + 1) (by omega)
    have hi' : i < pre.length := by omega
    have hlb : i < (pre ++ c :: r).length := by simp; omega
    have hrd : rd (pre ++ c :: r) (i : Nat) = pre[i] := by simp [rd, List.getD_eq_getElem?_getD, List.getElem?_append_left hi', List.getElem?_eq_getElem hi']
    have hx := hp _ (List.getElem_mem hi')
    have e2 : valL (pre.take (i + 1)) = valL (pre.take i) + 128 ^ i * (pre[i].toNat % 128) := by
      rw [List.take_succ_eq_append_getElem hi', valL_append, List.length_take, Nat.min_eq_left (by omega)]
      simp [valL]
    have vle : valL (pre.take (i + 1)) ≤ v := by
      rw [← hval]
      conv => rhs; rw [← List.take_append_drop (i + 1) pre, List.append_assoc, valL_append]
      exact Nat.le_add_right _ _
    generalize pre[i] = q at hrd hx e2
    have hz : lz i q = 128 ^ i * (q.toNat % 128) := lz_eq (by rw [e2] at vle; exact Nat.lt_of_le_of_lt (Nat.le_trans (Nat.le_add_left _ _) vle) hv)
    have hstep : IntKind.u64.wrap (((valL (pre.take i) : Nat) : Int) + (lz i (rd (pre ++ c :: r) (i : Nat)) : Int)) = ((valL (pre.take (i + 1)) : Nat) : Int) := by
      rw [hrd, hz, ← Int.natCast_add, ← e2]
      generalize valL (pre.take (i + 1)) = z at vle
      exact wraps_u64 _ (by omega) (by omega)
    refine ⟨K + 2, fun k hk => ?_⟩
    obtain ⟨k, rfl⟩ : ∃ m, k = m + 2 := ⟨k - 2, by omega⟩
    rw [lead_step _ i _ _ k hlb (by omega) (by rw [hrd]; omega) hstep, hrd, if_neg (by omega)]
    exact hK k (by omega)
theorem Lead_count (v : Nat) (hv : v < 18446744073709551616) (r : List Int) (hl : (countS v ++ r).length ≤ 100000) : (∃ K, ∀ k, K ≤ k → windroseref02_Lead.f k (countS v ++ r) = some (((v : Int), ((countS v).length : Int)))) := by
  obtain ⟨pre, c, e, hp, c0, c1, h0, hval, hlen⟩ := countS_form 9 v (by omega)
  have hb : countS v ++ r = pre ++ c :: r := by rw [e]; simp
  have hcl : (countS v).length = pre.length + 1 := by rw [e]; simp
  obtain ⟨K, hK⟩ := lead_pre pre r c v hp ⟨c0, c1⟩ hval hv hlen pre.length 0 (by omega)
  refine ⟨K, fun k hk => ?_⟩
  unfold windroseref02_Lead.f
  rw [hb, hcl]
  simpa [valL] using hK k hk
end Go.Proofs.Ytlpohipneianjaa.Q
end
section
set_option linter.unusedVariables false
namespace Go.Proofs.Ytlpohipneianjaa.Q
open Go Go.RowKit Go.Proofs.Ytlpohipneianjaa.G Go.Proofs.YtlpohipneianjaaW.PrintWords Go.Proofs.YtlpohipneianjaaW.PrintLast
theorem toList_loop (bs : ByteArray) (d : Nat) : ∀ (i : Nat) (r : List UInt8), i + d = bs.size → ByteArray.toList.loop bs i r = r.reverse ++ bs.data.toList.drop i := by
  have hsz : bs.data.toList.length = bs.size := by rw [Array.length_toList]; rfl
  induction d with
  | zero =>
    intro i r hi
    rw [ByteArray.toList.loop, if_neg (by omega), List.drop_of_length_le (by omega), List.append_nil]
  | succ d ih =>
    intro i r hi
    rw [ByteArray.toList.loop, if_pos (by omega), ih (i + 1) _ (by omega), List.drop_eq_getElem_cons (by omega : i < bs.data.toList.length), List.reverse_cons, List.append_assoc]
    congr 1
    have e : bs.get! i = bs.data.toList[i]'(by omega) := by
      show bs.data[i]! = _
      rw [getElem!_pos bs.data i (by have : bs.data.size = bs.size := rfl; omega)]
      simp
    rw [e]
    rfl
theorem toList_data (bs : ByteArray) : bs.toList = bs.data.toList := by
  rw [ByteArray.toList, toList_loop bs bs.size 0 [] (by omega)]
  simp
theorem toList_inj (a b : ByteArray) : a.toList = b.toList ↔ a = b := by
  constructor
  · intro h
    rw [toList_data, toList_data] at h
    exact ByteArray.ext (Array.ext' h)
  · rintro rfl; rfl
end Go.Proofs.Ytlpohipneianjaa.Q
end
section
set_option linter.unusedVariables false
namespace Go.Proofs.Ytlpohipneianjaa.Q
open Go Go.RowKit Go.Proofs.Ytlpohipneianjaa.G Go.Proofs.YtlpohipneianjaaW.PrintWords Go.Proofs.YtlpohipneianjaaW.PrintLast Go.Proofs.YtlpohipneianjaaW.PrintMore
theorem refunz_odd {u : Nat} (h : u < 18446744073709551616) (h1 : Int.tmod (u : Int) 2 = 1) : wrap64 ((-1) - (wrap64 (IntKind.u64.wrap (Int.tdiv (u : Int) 2)))) = unz u := by
  rw [tmod_nn (by omega)] at h1
  rw [tdiv_nn (by omega), IntKind.wrap_u64, w64 (x := (u : Int) / 2 % 18446744073709551616) (by omega) (by omega), w64 (by omega) (by omega)]
  unfold unz
  rw [if_neg (by omega)]
  omega
theorem refunz_even {u : Nat} (h : u < 18446744073709551616) (h1 : ¬ Int.tmod (u : Int) 2 = 1) : wrap64 (IntKind.u64.wrap (Int.tdiv (u : Int) 2)) = unz u := by
  rw [tmod_nn (by omega)] at h1
  rw [tdiv_nn (by omega), IntKind.wrap_u64, w64 (by omega) (by omega)]
  unfold unz
  rw [if_pos (by omega)]
  omega
theorem rdec_end (b : List Int) (hb : By b) (hl : b.length ≤ 4096) (n : Int) (kk : Int) (at' i : Nat) (nums : List Int) (texts : List ByteArray) (hh : Held nums texts) (hend : ¬ (0 < kk ∧ (i : Int) < n)) :
    ∃ R : DRes, (∃ K, ∀ k, K ≤ k → windroseref02_Decode.l1 k b n kk at' i nums texts = some (R)) ∧ (R = bad ∨ (b = enc nums texts ∧ R = (nums, texts, 0))) ∧ (¬ kk = 0 → b = enc nums texts → R = (nums, texts, 0)) := by
  have start : ∀ k, windroseref02_Decode.l1 (k + 1) b n kk at' i nums texts = windroseref02_Decode.j4 k b n kk at' i false nums texts := by
    intro k
    rw [windroseref02_Decode.l1]
    by_cases h : kk > 0
    · rw [if_pos h, decide_eq_false (by omega)]
    · rw [if_neg h]
  by_cases hk0 : kk = 0
  · refine ⟨bad, ⟨2, fun k hk => ?_⟩, .inl rfl, fun h => absurd hk0 h⟩
    obtain ⟨k, rfl⟩ : ∃ m, k = m + 2 := ⟨k - 2, by omega⟩
    rw [start, windroseref02_Decode.j4, if_neg (by simp), if_pos hk0]
    rfl
  · obtain ⟨R0, ⟨K, hK⟩, hc⟩ := Bytes_ev nums texts hh
    by_cases he : (strOfNums R0).toList = (strOfNums b).toList
    · have hs : strOfNums R0 = strOfNums b := (toList_inj _ _).1 he
      have hlen : R0.length = b.length := by rw [← strOfNums_size, ← strOfNums_size b, hs]
      have h4 : (enc nums texts).length ≤ 4096 := by
        rcases Nat.lt_or_ge 4096 (enc nums texts).length with h | h
        · have := hc.2 h; omega
        · exact h
      obtain rfl := hc.1 h4
      have hby : By (enc nums texts) := by
        have h1 := hh.1; have h2 := hh.2.2.1
        refine ((((by_countS (by omega)).append ?_).append (by_countS (by omega))).append ?_)
        · intro x hx
          obtain ⟨n, hn, hx⟩ := List.mem_flatMap.1 hx
          exact by_countS (zig_lt (hh.2.1 n hn)) x hx
        · intro x hx
          obtain ⟨s, hs, hx⟩ := List.mem_flatMap.1 hx
          have h3 := hh.2.2.2 s hs
          exact ((by_countS (by omega)).append (by_bytesOf s)) x hx
      have hbe : b = enc nums texts := by rw [← bytes_strOf b hb, ← bytes_strOf _ hby, hs]
      refine ⟨(nums, texts, 0), ⟨K + 2, fun k hk => ?_⟩, .inr ⟨hbe, rfl⟩, fun _ _ => rfl⟩
      obtain ⟨k, rfl⟩ : ∃ m, k = m + 2 := ⟨k - 2, by omega⟩
      rw [start, windroseref02_Decode.j4, if_neg (by simp), if_neg hk0, hK _ (by omega), Option.bind_some, if_pos he]
    · refine ⟨bad, ⟨K + 2, fun k hk => ?_⟩, .inl rfl, fun _ e => ?_⟩
      · obtain ⟨k, rfl⟩ : ∃ m, k = m + 2 := ⟨k - 2, by omega⟩
        rw [start, windroseref02_Decode.j4, if_neg (by simp), if_neg hk0, hK _ (by omega), Option.bind_some, if_neg he]
        rfl
      · have := hc.1 (by rw [← e]; exact hl)
        exact absurd (by rw [this, ← e]) he
theorem held_snoc {nums : List Int} {texts : List ByteArray} {s : ByteArray} (h : Held nums texts) (hs : s.size ≤ 100000) (ht : texts.length ≤ 100000) : Held nums (texts ++ [s]) :=
  ⟨h.1, h.2.1, by simp only [List.length_append, List.length_cons, List.length_nil]; omega, fun x hx => by
    rcases List.mem_append.1 hx with hx | hx
    · exact h.2.2.2 x hx
    · simp only [List.mem_singleton] at hx; subst hx; omega⟩
theorem held_num {nums : List Int} {texts : List ByteArray} {x : Int} (h : Held nums texts) (hx : I64 x) (ht : nums.length ≤ 100000) : Held (nums ++ [x]) texts :=
  ⟨by simp only [List.length_append, List.length_cons, List.length_nil]; omega, fun y hy => by
    rcases List.mem_append.1 hy with hy | hy
    · exact h.2.1 y hy
    · simp only [List.mem_singleton] at hy; subst hy; exact hx, h.2.2⟩
theorem rdec_text (b : List Int) (hb : By b) (hl : b.length ≤ 4096) (n : Int) (hn : n < 18446744073709551616) (kk : Int) (hk0 : 0 < kk) (p i : Nat) (hp : p ≤ b.length) (hi : (i : Int) < n) (hi2 : i ≤ 100000) (nums : List Int) (texts : List ByteArray) (ht : texts.length ≤ 100000)
    (u m : Nat) (hL : (∃ K, ∀ k, K ≤ k → windroseref02_Lead.f k (b.drop p) = some (((u : Int), (m : Int))))) (hm : m ≤ b.length - p) (hu : u < 18446744073709551616) (R : DRes) :
    (0 < m → p + m + u ≤ b.length → (∃ K, ∀ k, K ≤ k → windroseref02_Decode.l1 k b n m ((p + m + u : Nat) : Int) ((i + 1 : Nat) : Int) nums (texts ++ [strOfNums ((b.take (p + m + u)).drop (p + m))]) = some (R)) → (∃ K, ∀ k, K ≤ k → windroseref02_Decode.l1 k b n kk p i nums texts = some (R))) ∧
    (¬ (0 < m ∧ p + m + u ≤ b.length) → (∃ K, ∀ k, K ≤ k → windroseref02_Decode.l1 k b n 0 p ((i + 1 : Nat) : Int) nums texts = some (R)) → (∃ K, ∀ k, K ≤ k → windroseref02_Decode.l1 k b n kk p i nums texts = some (R))) := by
  obtain ⟨K, hK⟩ := hL
  have ei : Aside0 (IntKind.u64.wrap ((i : Int) + 1) = ((i + 1 : Nat) : Int)) := ⟨by rw [IntKind.wrap_u64]; omega⟩
  have ew : Aside0 (IntKind.u64.wrap (wrap64 ((wrap64 ((b.length : Int) - (p : Int))) - (m : Int))) = ((b.length - p - m : Nat) : Int)) := ⟨by
    rw [w64 (x := (b.length : Int) - (p : Int)) (by omega) (by omega), w64 (by omega) (by omega), IntKind.wrap_u64]; omega⟩
  constructor
  · intro hm0 hfit hR
    obtain ⟨K2, hK2⟩ := hR
    have e1 : Aside0 (wrap64 ((p : Int) + (m : Int)) = ((p + m : Nat) : Int)) := ⟨by rw [w64] <;> omega⟩
    have e2 : Aside0 (wrap64 (((p + m : Nat) : Int) + (wrap64 (u : Int))) = ((p + m + u : Nat) : Int)) := ⟨by rw [w64 (x := (u : Int)) (by omega) (by omega), w64] <;> omega⟩
    refine ⟨K + K2 + 3, fun k hk => ?_⟩
    obtain ⟨k, rfl⟩ : ∃ m, k = m + 3 := ⟨k - 3, by omega⟩
    rw [windroseref02_Decode.l1, if_pos hk0, decide_eq_true hi, windroseref02_Decode.j4, if_pos rfl, if_pos (by omega), if_pos (by omega), Int.toNat_natCast, hK _ (by omega), Option.bind_some]
    simp only []
    rw [if_pos (show (m : Int) > 0 by omega), ew.out, decide_eq_false (show ¬ ((u : Int) > ((b.length - p - m : Nat) : Int)) by omega), windroseref02_Decode.j5, if_neg (by simp), if_pos (show (m : Int) > 0 by omega), e1.out, e2.out, if_pos (by omega), if_pos (by omega), if_pos (by omega), if_pos (by omega), Int.toNat_natCast, Int.toNat_natCast, ei.out]
    exact hK2 k (by omega)
  · intro hno hR
    obtain ⟨K2, hK2⟩ := hR
    refine ⟨K + K2 + 3, fun k hk => ?_⟩
    obtain ⟨k, rfl⟩ : ∃ m, k = m + 3 := ⟨k - 3, by omega⟩
    rw [windroseref02_Decode.l1, if_pos hk0, decide_eq_true hi, windroseref02_Decode.j4, if_pos rfl, if_pos (by omega), if_pos (by omega), Int.toNat_natCast, hK _ (by omega), Option.bind_some]
    simp only []
    by_cases hm0 : 0 < m
    · rw [if_pos (show (m : Int) > 0 by omega), ew.out, decide_eq_true (show ((u : Int) > ((b.length - p - m : Nat) : Int)) by omega), windroseref02_Decode.j5, if_pos rfl, ei.out]
      exact hK2 k (by omega)
    · obtain rfl : m = 0 := by omega
      rw [if_neg (show ¬ ((0 : Nat) : Int) > 0 by omega), windroseref02_Decode.j5, if_neg (by simp), if_neg (show ¬ ((0 : Nat) : Int) > 0 by omega), ei.out]
      exact hK2 k (by omega)
theorem rdec_texts (b : List Int) (hb : By b) (hl : b.length ≤ 4096) (n : Int) (hn : n < 18446744073709551616) (nums : List Int) (d : Nat) : ∀ (p i : Nat) (kk : Int) (texts : List ByteArray), b.length - p ≤ d → p ≤ b.length → i ≤ p → texts.length ≤ p → Held nums texts →
    ∃ R : DRes, (∃ K, ∀ k, K ≤ k → windroseref02_Decode.l1 k b n kk p i nums texts = some (R)) ∧ (R = bad ∨ ∃ ts, Held nums ts ∧ b = enc nums ts ∧ R = (nums, ts, 0)) := by
  have stop : ∀ (p i : Nat) (kk : Int) (texts : List ByteArray), Held nums texts → ¬ (0 < kk ∧ (i : Int) < n) → ∃ R : DRes, (∃ K, ∀ k, K ≤ k → windroseref02_Decode.l1 k b n kk p i nums texts = some (R)) ∧ (R = bad ∨ ∃ ts, Held nums ts ∧ b = enc nums ts ∧ R = (nums, ts, 0)) := by
    intro p i kk texts hh h
    obtain ⟨R, hR, h1, _⟩ := rdec_end b hb hl n kk p i nums texts hh h
    refine ⟨R, hR, ?_⟩
    rcases h1 with h1 | ⟨h1, h2⟩
    · exact .inl h1
    · exact .inr ⟨texts, hh, h1, h2⟩
  induction d with
  | zero =>
    intro p i kk texts hd hp hi ht hh
    by_cases hc : 0 < kk ∧ (i : Int) < n
    · obtain ⟨u, m, hL, hu, hm, _⟩ := Lead_ev (b.drop p) (hb.drop p) (by rw [List.length_drop]; omega)
      rw [List.length_drop] at hm
      obtain ⟨R, hR, h⟩ := stop p (i + 1) 0 texts hh (by omega)
      exact ⟨R, (rdec_text b hb hl n hn kk hc.1 p i hp hc.2 (by omega) nums texts (by omega) u m hL hm hu R).2 (by omega) hR, h⟩
    · exact stop p i kk texts hh hc
  | succ d ih =>
    intro p i kk texts hd hp hi ht hh
    by_cases hc : 0 < kk ∧ (i : Int) < n
    · obtain ⟨u, m, hL, hu, hm, _⟩ := Lead_ev (b.drop p) (hb.drop p) (by rw [List.length_drop]; omega)
      rw [List.length_drop] at hm
      by_cases hf : 0 < m ∧ p + m + u ≤ b.length
      · have hsz : (strOfNums ((b.take (p + m + u)).drop (p + m))).size ≤ 100000 := by rw [strOfNums_size, List.length_drop, List.length_take]; omega
        obtain ⟨R, hR, h⟩ := ih (p + m + u) (i + 1) m (texts ++ [strOfNums ((b.take (p + m + u)).drop (p + m))]) (by omega) hf.2 (by omega) (by simp only [List.length_append, List.length_cons, List.length_nil]; omega) (held_snoc hh hsz (by omega))
        exact ⟨R, (rdec_text b hb hl n hn kk hc.1 p i hp hc.2 (by omega) nums texts (by omega) u m hL hm hu R).1 hf.1 hf.2 hR, h⟩
      · obtain ⟨R, hR, h⟩ := stop p (i + 1) 0 texts hh (by omega)
        exact ⟨R, (rdec_text b hb hl n hn kk hc.1 p i hp hc.2 (by omega) nums texts (by omega) u m hL hm hu R).2 hf hR, h⟩
    · exact stop p i kk texts hh hc
theorem rdec_num (b : List Int) (hl : b.length ≤ 4096) (n : Int) (hn : n < 18446744073709551616) (kk : Int) (hk0 : 0 < kk) (p i : Nat) (hp : p ≤ b.length) (hi : (i : Int) < n) (hi2 : i ≤ 100000) (nums : List Int) (ht : nums.length ≤ 100000)
    (u m : Nat) (hL : (∃ K, ∀ k, K ≤ k → windroseref02_Lead.f k (b.drop p) = some (((u : Int), (m : Int))))) (hm : m ≤ b.length - p) (hu : u < 18446744073709551616) (R : DRes)
    (hR : (∃ K, ∀ k, K ≤ k → windroseref02_Decode.l0 k b n m ((p + m : Nat) : Int) ((i + 1 : Nat) : Int) (nums ++ [unz u]) = some (R))) : (∃ K, ∀ k, K ≤ k → windroseref02_Decode.l0 k b n kk p i nums = some (R)) := by
  obtain ⟨K, hK⟩ := hL
  obtain ⟨K2, hK2⟩ := hR
  have ei : Aside0 (IntKind.u64.wrap ((i : Int) + 1) = ((i + 1 : Nat) : Int)) := ⟨by rw [IntKind.wrap_u64]; omega⟩
  have e1 : Aside0 (wrap64 ((p : Int) + (m : Int)) = ((p + m : Nat) : Int)) := ⟨by rw [w64] <;> omega⟩
  refine ⟨K + K2 + 2, fun k hk => ?_⟩
  obtain ⟨k, rfl⟩ : ∃ m, k = m + 2 := ⟨k - 2, by omega⟩
  rw [windroseref02_Decode.l0, if_pos hk0, decide_eq_true hi, windroseref02_Decode.j1, if_pos rfl, if_pos (by omega), if_pos (by omega), Int.toNat_natCast, hK _ (by omega), Option.bind_some]
  simp only []
  by_cases h1 : Int.tmod (u : Int) 2 = 1
  · rw [if_pos h1, if_pos (by omega), refunz_odd hu h1, e1.out, ei.out]
    exact hK2 k (by omega)
  · rw [if_neg h1, if_pos (by omega), refunz_even hu h1, e1.out, ei.out]
    exact hK2 k (by omega)
theorem rdec_mid (b : List Int) (n : Int) (kk : Int) (hk0 : 0 < kk) (p i : Nat) (hp : p ≤ b.length) (hl : b.length ≤ 4096) (hi : ¬ (i : Int) < n) (nums : List Int) (u m : Nat) (hL : (∃ K, ∀ k, K ≤ k → windroseref02_Lead.f k (b.drop p) = some (((u : Int), (m : Int))))) (hm : m ≤ b.length - p) (R : DRes)
    (hR : (∃ K, ∀ k, K ≤ k → windroseref02_Decode.l1 k b u m ((p + m : Nat) : Int) ((0 : Nat) : Int) nums [] = some (R))) : (∃ K, ∀ k, K ≤ k → windroseref02_Decode.l0 k b n kk p i nums = some (R)) := by
  obtain ⟨K, hK⟩ := hL
  obtain ⟨K2, hK2⟩ := hR
  have e1 : Aside0 (wrap64 ((p : Int) + (m : Int)) = ((p + m : Nat) : Int)) := ⟨by rw [w64] <;> omega⟩
  refine ⟨K + K2 + 3, fun k hk => ?_⟩
  obtain ⟨k, rfl⟩ : ∃ m, k = m + 3 := ⟨k - 3, by omega⟩
  rw [windroseref02_Decode.l0, if_pos hk0, decide_eq_false hi, windroseref02_Decode.j1, if_neg (by simp), if_pos hk0, if_pos (by omega), if_pos (by omega), Int.toNat_natCast, hK _ (by omega), Option.bind_some, windroseref02_Decode.j2]
  simp only [e1.out]
  exact hK2 k (by omega)
theorem rdec_none (b : List Int) (n : Int) (p i : Int) (nums : List Int) : (∃ K, ∀ k, K ≤ k → windroseref02_Decode.l0 k b n 0 p i nums = some (bad)) := by
  refine ⟨5, fun k hk => ?_⟩
  obtain ⟨k, rfl⟩ : ∃ m, k = m + 5 := ⟨k - 5, by omega⟩
  rw [windroseref02_Decode.l0, if_neg (by omega), windroseref02_Decode.j1, if_neg (by simp), if_neg (by omega), windroseref02_Decode.j2, windroseref02_Decode.l1, if_neg (by omega), windroseref02_Decode.j4, if_neg (by simp), if_pos rfl]
  rfl
theorem rdec_nums (b : List Int) (hb : By b) (hl : b.length ≤ 4096) (n : Int) (hn : n < 18446744073709551616) (d : Nat) : ∀ (p i : Nat) (kk : Int) (nums : List Int), 0 ≤ kk → b.length - p ≤ d → p ≤ b.length → i ≤ p → nums.length ≤ p → Held nums [] →
    ∃ R : DRes, (∃ K, ∀ k, K ≤ k → windroseref02_Decode.l0 k b n kk p i nums = some (R)) ∧ (R = bad ∨ ∃ ns ts, Held ns ts ∧ b = enc ns ts ∧ R = (ns, ts, 0)) := by
  have mid : ∀ (p i : Nat) (kk : Int) (nums : List Int), 0 ≤ kk → p ≤ b.length → ¬ (i : Int) < n → Held nums [] → ∃ R : DRes, (∃ K, ∀ k, K ≤ k → windroseref02_Decode.l0 k b n kk p i nums = some (R)) ∧ (R = bad ∨ ∃ ns ts, Held ns ts ∧ b = enc ns ts ∧ R = (ns, ts, 0)) := by
    intro p i kk nums hk hp hi hh
    by_cases h0 : 0 < kk
    · obtain ⟨u, m, hL, hu, hm, _⟩ := Lead_ev (b.drop p) (hb.drop p) (by rw [List.length_drop]; omega)
      rw [List.length_drop] at hm
      obtain ⟨R, hR, h⟩ := rdec_texts b hb hl u (by omega) nums b.length (p + m) 0 m [] (by omega) (by omega) (by omega) (by simp) hh
      refine ⟨R, rdec_mid b n kk h0 p i hp hl hi nums u m hL hm R hR, ?_⟩
      rcases h with h | ⟨ts, h1, h2, h3⟩
      · exact .inl h
      · exact .inr ⟨nums, ts, h1, h2, h3⟩
    · obtain rfl : kk = 0 := by omega
      exact ⟨bad, rdec_none b n p i nums, .inl rfl⟩
  induction d with
  | zero =>
    intro p i kk nums hk hd hp hi ht hh
    by_cases h0 : 0 < kk
    · by_cases hc : (i : Int) < n
      · obtain ⟨u, m, hL, hu, hm, _⟩ := Lead_ev (b.drop p) (hb.drop p) (by rw [List.length_drop]; omega)
        rw [List.length_drop] at hm
        obtain rfl : m = 0 := by omega
        exact ⟨bad, rdec_num b hl n hn kk h0 p i hp hc (by omega) nums (by omega) u 0 hL (by omega) hu bad (rdec_none b n _ _ _), .inl rfl⟩
      · exact mid p i kk nums hk hp hc hh
    · obtain rfl : kk = 0 := by omega
      exact ⟨bad, rdec_none b n p i nums, .inl rfl⟩
  | succ d ih =>
    intro p i kk nums hk hd hp hi ht hh
    by_cases h0 : 0 < kk
    · by_cases hc : (i : Int) < n
      · obtain ⟨u, m, hL, hu, hm, _⟩ := Lead_ev (b.drop p) (hb.drop p) (by rw [List.length_drop]; omega)
        rw [List.length_drop] at hm
        by_cases hm0 : 0 < m
        · obtain ⟨R, hR, h⟩ := ih (p + m) (i + 1) m (nums ++ [unz u]) (by omega) (by omega) (by omega) (by omega) (by simp only [List.length_append, List.length_cons, List.length_nil]; omega) (held_num hh (unz_i64 hu) (by omega))
          exact ⟨R, rdec_num b hl n hn kk h0 p i hp hc (by omega) nums (by omega) u m hL hm hu R hR, h⟩
        · obtain rfl : m = 0 := by omega
          exact ⟨bad, rdec_num b hl n hn kk h0 p i hp hc (by omega) nums (by omega) u 0 hL (by omega) hu bad (rdec_none b n _ _ _), .inl rfl⟩
      · exact mid p i kk nums hk hp hc hh
    · obtain rfl : kk = 0 := by omega
      exact ⟨bad, rdec_none b n p i nums, .inl rfl⟩
theorem rdec_encT (b : List Int) (hb : By b) (hl : b.length ≤ 4096) (nums : List Int) (ts : List ByteArray) (hh : Held nums ts) (he : b = enc nums ts) (r : List ByteArray) : ∀ (p : Nat) (kk : Int) (a : List ByteArray), 0 < kk → ts = a ++ r → p ≤ b.length → b.drop p = encT r →
    (∃ K, ∀ k, K ≤ k → windroseref02_Decode.l1 k b (ts.length : Int) kk p (a.length : Nat) nums a = some ((nums, ts, 0))) := by
  have htl : ts.length ≤ 4096 := by
    have := (encT_len ts).1
    have h2 := congrArg List.length he
    simp only [enc, List.length_append] at h2
    omega
  induction r with
  | nil =>
    intro p kk a hk ht hp hd
    simp only [List.append_nil] at ht
    subst ht
    obtain ⟨R, hR, _, h⟩ := rdec_end b hb hl (ts.length : Int) kk p ts.length nums ts hh (by omega)
    rw [h (by omega) he] at hR
    exact hR
  | cons s r ih =>
    intro p kk a hk ht hp hd
    have hlen := congrArg List.length ht
    simp only [List.length_append, List.length_cons] at hlen
    have hsz : s.size ≤ 9223372036854775807 := hh.2.2.2 s (by rw [ht]; simp)
    rw [encT_cons, List.append_assoc] at hd
    have hdl := congrArg List.length hd
    rw [List.length_drop] at hdl
    simp only [List.length_append, bytesOf_length] at hdl
    have hL := Lead_count s.size (by omega) (bytesOf s ++ encT r) (by simp only [List.length_append, bytesOf_length]; omega)
    rw [← hd] at hL
    have hcut : (b.take (p + (countS s.size).length + s.size)).drop (p + (countS s.size).length) = bytesOf s := by
      rw [← List.drop_drop, List.drop_take, List.drop_take, hd]
      rw [List.drop_append, List.drop_of_length_le (Nat.le_refl _), Nat.sub_self]
      simp only [List.nil_append, List.drop_zero]
      rw [show p + (countS s.size).length + s.size - p - (countS s.size).length = s.size by omega, List.take_append_of_le_length (by rw [bytesOf_length]; exact Nat.le_refl _), List.take_of_length_le (by rw [bytesOf_length]; exact Nat.le_refl _)]
    have hih := ih (p + (countS s.size).length + s.size) ((countS s.size).length : Int) (a ++ [s]) (by have := countS_pos s.size; omega) (by rw [ht]; simp) (by omega) (by
      rw [show p + (countS s.size).length + s.size = p + ((countS s.size).length + s.size) by omega, ← List.drop_drop, hd, ← List.append_assoc, List.drop_append, List.drop_of_length_le (by simp only [List.length_append, bytesOf_length]; omega)]
      simp only [List.length_append, bytesOf_length, Nat.sub_self, List.nil_append, List.drop_zero])
    refine (rdec_text b hb hl (ts.length : Int) (by omega) kk hk p a.length hp (by omega) (by omega) nums a (by omega) s.size (countS s.size).length hL (by omega) (by omega) _).1 (countS_pos _) (by omega) ?_
    rw [hcut, strOf_bytes]
    simpa using hih
theorem rdec_encN (b : List Int) (hb : By b) (hl : b.length ≤ 4096) (ns : List Int) (ts : List ByteArray) (hh : Held ns ts) (he : b = enc ns ts) (r : List Int) : ∀ (p : Nat) (kk : Int) (a : List Int), 0 < kk → ns = a ++ r → p ≤ b.length → b.drop p = encN r ++ (countS ts.length ++ encT ts) →
    (∃ K, ∀ k, K ≤ k → windroseref02_Decode.l0 k b (ns.length : Int) kk p (a.length : Nat) a = some ((ns, ts, 0))) := by
  have hbl : (countS ns.length).length + (encN ns).length + (countS ts.length).length + (encT ts).length = b.length := by
    have h2 := congrArg List.length he
    simp only [enc, List.length_append] at h2
    omega
  have hnl : ns.length ≤ 4096 := by have := encN_len ns; omega
  induction r with
  | nil =>
    intro p kk a hk ht hp hd
    simp only [List.append_nil] at ht
    subst ht
    simp only [encN, List.flatMap_nil, List.nil_append] at hd
    have h3 := hh.2.2.1
    have hdl := congrArg List.length hd
    rw [List.length_drop] at hdl
    simp only [List.length_append] at hdl
    have hL := Lead_count ts.length (by omega) (encT ts) (by simp only [List.length_append]; omega)
    rw [← hd] at hL
    have hT := rdec_encT b hb hl ns ts hh he ts (p + (countS ts.length).length) ((countS ts.length).length : Int) [] (by have := countS_pos ts.length; omega) rfl (by omega) (by
      rw [← List.drop_drop, hd, List.drop_append, List.drop_of_length_le (Nat.le_refl _)]; simp)
    exact rdec_mid b (ns.length : Int) kk hk p ns.length hp hl (by omega) ns ts.length _ hL (by omega) _ hT
  | cons x r ih =>
    intro p kk a hk ht hp hd
    have hlen := congrArg List.length ht
    simp only [List.length_append, List.length_cons] at hlen
    have hx : I64 x := hh.2.1 x (by rw [ht]; simp)
    rw [encN_cons, List.append_assoc] at hd
    have hdl := congrArg List.length hd
    rw [List.length_drop] at hdl
    simp only [List.length_append] at hdl
    have hL := Lead_count (zig x) (zig_lt hx) (encN r ++ (countS ts.length ++ encT ts)) (by simp only [List.length_append]; omega)
    rw [← hd] at hL
    have hih := ih (p + (countS (zig x)).length) ((countS (zig x)).length : Int) (a ++ [x]) (by have := countS_pos (zig x); omega) (by rw [ht]; simp) (by omega) (by
      rw [← List.drop_drop, hd, List.drop_append, List.drop_of_length_le (Nat.le_refl _)]; simp)
    refine rdec_num b hl (ns.length : Int) (by omega) kk hk p a.length hp (by omega) (by omega) a (by omega) (zig x) _ hL (by omega) (zig_lt hx) _ ?_
    rw [unz_zig]
    simpa using hih
theorem refDecode_ev (b : List Int) (hb : By b) (hl : b.length ≤ 4096) : ∃ R : DRes, (∃ K, ∀ k, K ≤ k → windroseref02_Decode.f k b = some (R)) ∧ ((∃ ns ts, Held ns ts ∧ b = enc ns ts ∧ R = (ns, ts, 0)) ∨ (R = bad ∧ ∀ ns ts, Held ns ts → b ≠ enc ns ts)) := by
  obtain ⟨u, m, ⟨K, hK⟩, hu, hm, _⟩ := Lead_ev b hb (by omega)
  obtain ⟨R, ⟨K2, hK2⟩, h⟩ := rdec_nums b hb hl u (by omega) b.length m 0 m [] (by omega) (by omega) hm (by omega) (by simp) ⟨by simp, fun x hx => by simp at hx, by simp, fun x hx => by simp at hx⟩
  have hf : (∃ K, ∀ k, K ≤ k → windroseref02_Decode.f k b = some (R)) := ⟨K + K2, fun k hk => by
    unfold windroseref02_Decode.f
    rw [if_neg (by omega), hK _ (by omega), Option.bind_some]
    exact hK2 k (by omega)⟩
  by_cases he : ∃ ns ts, Held ns ts ∧ b = enc ns ts
  · obtain ⟨ns, ts, hh, e⟩ := he
    have h1 := hh.1
    have hbl := congrArg List.length e
    simp only [enc, List.length_append] at hbl
    have e' : b = countS ns.length ++ (encN ns ++ (countS ts.length ++ encT ts)) := by rw [e]; simp [enc]
    obtain ⟨K3, hK3⟩ := Lead_count ns.length (by omega) (encN ns ++ (countS ts.length ++ encT ts)) (by simp only [List.length_append]; omega)
    rw [← e'] at hK3
    obtain ⟨K4, hK4⟩ := rdec_encN b hb hl ns ts hh e ns (countS ns.length).length ((countS ns.length).length : Int) [] (by have := countS_pos ns.length; omega) rfl (by omega) (by
      conv => lhs; rw [e']
      rw [List.drop_append, List.drop_of_length_le (Nat.le_refl _)]; simp)
    refine ⟨(ns, ts, 0), ⟨K3 + K4, fun k hk => ?_⟩, .inl ⟨ns, ts, hh, e, rfl⟩⟩
    unfold windroseref02_Decode.f
    rw [if_neg (by omega), hK3 _ (by omega), Option.bind_some]
    exact hK4 k (by omega)
  · refine ⟨R, hf, .inr ⟨?_, fun ns ts hh e => he ⟨ns, ts, hh, e⟩⟩⟩
    rcases h with h | ⟨ns, ts, hh, e, _⟩
    · exact h
    · exact absurd ⟨ns, ts, hh, e⟩ he
theorem both_dec (b : List Int) (hb : By b) (hl : b.length ≤ 4096) : ∃ R : DRes, (∃ K, ∀ k, K ≤ k → frame_Decode.f k b = some (R)) ∧ (∃ K, ∀ k, K ≤ k → windroseref02_Decode.f k b = some (R)) ∧ ((∃ ns ts, Held ns ts ∧ b = enc ns ts ∧ R = (ns, ts, 0)) ∨ (R = bad ∧ ∀ ns ts, Held ns ts → b ≠ enc ns ts)) := by
  obtain ⟨R, h1, h2⟩ := Decode_ev b hb hl
  obtain ⟨R', h3, h4⟩ := refDecode_ev b hb hl
  rcases h2 with ⟨ns, ts, hh, e, rfl⟩ | ⟨rfl, hno⟩
  · rcases h4 with ⟨ns', ts', hh', e', rfl⟩ | ⟨rfl, hno'⟩
    · obtain ⟨rfl, rfl⟩ := enc_inj hh hh' (by rw [← e, ← e'])
      exact ⟨_, h1, h3, .inl ⟨ns, ts, hh, e, rfl⟩⟩
    · exact absurd e (hno' ns ts hh)
  · rcases h4 with ⟨ns', ts', hh', e', rfl⟩ | ⟨rfl, hno'⟩
    · exact absurd e' (hno ns' ts' hh')
    · exact ⟨_, h1, h3, .inr ⟨rfl, hno⟩⟩
end Go.Proofs.Ytlpohipneianjaa.Q
end
section
set_option linter.unusedVariables false
namespace Go.Proofs.Ytlpohipneianjaa.Q
open Go Go.RowKit Go.Proofs.Ytlpohipneianjaa.G Go.Proofs.YtlpohipneianjaaW.PrintWords Go.Proofs.YtlpohipneianjaaW.PrintLast Go.Proofs.YtlpohipneianjaaW.PrintMore
abbrev B32 := BitVec 32
def poly : B32 := 0x741B8CD7
theorem poly_nat : poly.toNat = 1947962583 := by decide
theorem polyI : (1947962583 : Int) = (poly.toNat : Int) := by rw [poly_nat]; rfl
def T (s : B32) : B32 := if s.msb then (s <<< 1) ^^^ poly else s <<< 1
def iter : Nat → B32 → B32
  | 0, s => s
  | n + 1, s => iter n (T s)
def high (x : Nat) : B32 := BitVec.ofNat 32 (x * 16777216)
def byteStep (r : B32) (c : Int) : B32 := iter 8 (r ^^^ high c.toNat)
def crc (r : B32) (b : List Int) : B32 := b.foldl byteStep r
theorem T_xor (a b : B32) : T (a ^^^ b) = T a ^^^ T b := by
  unfold T
  rw [BitVec.msb_xor, BitVec.shiftLeft_xor_distrib]
  cases a.msb <;> cases b.msb <;> simp
  · ac_rfl
  · ac_rfl
  · rw [show (a <<< 1 ^^^ poly ^^^ (b <<< 1 ^^^ poly)) = (a <<< 1 ^^^ b <<< 1) ^^^ (poly ^^^ poly) by ac_rfl, BitVec.xor_self, BitVec.xor_zero]
def bit1 : B32 := BitVec.ofNat 32 2147483648
theorem high_split : ∀ x : Fin 256, high x.val = (if 128 ≤ x.val then bit1 else 0#32) ^^^ high (x.val % 128) := by decide +kernel
theorem high_T : ∀ y : Fin 128, T (high y.val) = high (2 * y.val % 256) := by decide +kernel
theorem T_byte (r : B32) (x : Nat) (h : x < 256) : T (r ^^^ high x) = T (r ^^^ (if 128 ≤ x then bit1 else 0#32)) ^^^ high (2 * x % 256) := by
  have h1 := high_split ⟨x, h⟩
  have h2 := high_T ⟨x % 128, by omega⟩
  simp only at h1 h2
  rw [h1, ← BitVec.xor_assoc, T_xor, h2]
  congr 2
  omega
theorem xor32 (a b : B32) : Go.bits .xor .u32 (a.toNat : Int) (b.toNat : Int) = ((a ^^^ b).toNat : Int) := by
  have h : (a ^^^ b).toNat < 4294967296 := (a ^^^ b).isLt
  have e : ∀ x y : Int, Go.bits .xor .u32 x y = IntKind.u32.wrap ((BitVec.ofInt 32 x ^^^ BitVec.ofInt 32 y).toNat : Int) := fun _ _ => rfl
  rw [e, BitVec.ofInt_natCast, BitVec.ofInt_natCast, BitVec.ofNat_toNat, BitVec.ofNat_toNat, BitVec.setWidth_eq, BitVec.setWidth_eq, IntKind.wrap_u32]
  omega
theorem msb_iff (s : B32) : s.msb = true ↔ (s.toNat : Int) / 2147483648 = 1 := by
  rw [BitVec.msb_eq_decide, decide_eq_true_eq]
  have := s.isLt
  simp only [Nat.reduceSub, Nat.reducePow] at *
  omega
theorem shl_toNat (s : B32) : ((s <<< 1).toNat : Int) = (s.toNat : Int) * 2 % 4294967296 := by
  rw [BitVec.toNat_shiftLeft, Nat.shiftLeft_eq]
  omega
theorem sum_inner (b : List Int) (i : Nat) (hi : i < b.length) (hb : b.length ≤ 100000) (r : Int) (n : Nat) : ∀ (j : Nat) (s : B32), j + n = 8 → (∃ K, ∀ k, K ≤ k → frame_Sum.l0 k ((iter n s).toNat : Int) b (b.length : Int) ((i + 1 : Nat) : Int) = some (r)) →
    (∃ K, ∀ k, K ≤ k → frame_Sum.l1 k (s.toNat : Int) b (b.length : Int) i j = some (r)) := by
  induction n with
  | zero =>
    intro j s hj h
    obtain ⟨K, hK⟩ := h
    refine Ev.succ K fun k hk => ?_
    simp only [frame_Sum.l1]
    rw [if_neg (by omega), show wrap64 ((i : Int) + 1) = ((i + 1 : Nat) : Int) by rw [w64] <;> omega]
    exact hK k hk
  | succ n ih =>
    intro j s hj h
    obtain ⟨K, hK⟩ := ih (j + 1) (T s) (by omega) h
    refine Ev.succ K fun k hk => ?_
    simp only [frame_Sum.l1]
    rw [if_pos (by omega), show wrap64 ((j : Int) + 1) = ((j + 1 : Nat) : Int) by rw [w64] <;> omega]
    by_cases hm : s.msb = true
    · have e : Go.bits .xor .u32 ((s.toNat : Int) * 2 % 4294967296) 1947962583 = ((T s).toNat : Int) := by
        rw [← shl_toNat, polyI, xor32]
        unfold T
        rw [if_pos hm]
      rw [if_pos ((msb_iff s).1 hm), e]
      exact hK k hk
    · have e : (s.toNat : Int) * 2 % 4294967296 = ((T s).toNat : Int) := by
        rw [← shl_toNat]
        unfold T
        rw [if_neg hm]
      rw [if_neg (fun h => hm ((msb_iff s).2 h)), e]
      exact hK k hk
theorem sum_outer (b : List Int) (hb : b.length ≤ 100000) (hr : ∀ x ∈ b, 0 ≤ x ∧ x ≤ 255) (d : Nat) : ∀ (i : Nat) (s : B32), i + d = b.length → (∃ K, ∀ k, K ≤ k → frame_Sum.l0 k (s.toNat : Int) b (b.length : Int) i = some (((crc s (b.drop i)).toNat : Int))) := by
  induction d with
  | zero =>
    intro i s hi
    refine Ev.succ 0 fun k _ => ?_
    simp only [frame_Sum.l0]
    rw [if_neg (by omega), List.drop_of_length_le (by omega)]
    rfl
  | succ d ih =>
    intro i s hi
    have hd : b.drop i = rd b i :: b.drop (i + 1) := by rw [drop_getD b i 0 (by omega)]; rfl
    have hx := hr (rd b i) (by simp only [rd, Int.toNat_natCast]; exact getD_mem b i 0 (by omega))
    obtain ⟨K, hK⟩ := sum_inner b i (by omega) hb _ 8 0 (s ^^^ high (rd b i).toNat) (by omega) (ih (i + 1) (byteStep s (rd b i)) (by omega))
    refine Ev.succ K fun k hk => ?_
    simp only [frame_Sum.l0]
    have e : Go.bits .xor .u32 (s.toNat : Int) (((rd b i % 4294967296) * 16777216) % 4294967296) = ((s ^^^ high (rd b i).toNat).toNat : Int) := by
      rw [← xor32]
      congr 1
      unfold high
      rw [BitVec.toNat_ofNat]
      omega
    rw [if_pos (by omega), if_pos (by omega), if_pos (by omega), e, hd]
    exact hK k hk
def sumS (b : List Int) : Int := ((crc 0xFFFFFFFF#32 b).toNat : Int)
theorem sum_ev (b : List Int) (hb : b.length ≤ 100000) (hr : ∀ x ∈ b, 0 ≤ x ∧ x ≤ 255) : (∃ K, ∀ k, K ≤ k → frame_Sum.f k b = some ((sumS b))) := by
  obtain ⟨K, hK⟩ := sum_outer b hb hr b.length 0 0xFFFFFFFF#32 (by omega)
  exact ⟨K, fun k hk => hK k hk⟩
theorem xor64_32 (a b : B32) : Go.bits .xor .u64 (a.toNat : Int) (b.toNat : Int) = ((a ^^^ b).toNat : Int) := by
  have h1 := a.isLt
  have h2 := b.isLt
  rw [bits_xor_u64_nat _ _ (by omega) (by omega), BitVec.toNat_xor]
theorem bit_of : ∀ (x : Fin 256) (j : Fin 8), x.val / 2 ^ (7 - j.val) % 2 = (if 128 ≤ x.val * 2 ^ j.val % 256 then 1 else 0) := by decide +kernel
theorem bit1_msb (r : B32) (p : Prop) [Decidable p] : (r ^^^ (if p then bit1 else 0#32)).msb = (r.msb ^^ decide p) := by
  rw [BitVec.msb_xor]
  by_cases h : p
  · rw [if_pos h, decide_eq_true h]; rfl
  · rw [if_neg h, decide_eq_false h]; rfl
theorem bit1_shl (r : B32) (p : Prop) [Decidable p] : (r ^^^ (if p then bit1 else 0#32)) <<< 1 = r <<< 1 := by
  rw [BitVec.shiftLeft_xor_distrib]
  have e1 : bit1 <<< 1 = 0#32 := by decide
  have e2 : 0#32 <<< 1 = 0#32 := by decide
  by_cases h : p
  · rw [if_pos h, e1, BitVec.xor_zero]
  · rw [if_neg h, e2, BitVec.xor_zero]
theorem T_in (r : B32) (c : Prop) [Decidable c] : T (r ^^^ (if c then bit1 else 0#32)) = if (r.msb = true ↔ c) then r <<< 1 else (r <<< 1) ^^^ poly := by
  unfold T
  rw [bit1_msb, bit1_shl]
  by_cases h : r.msb = true
  · by_cases hc : c
    · rw [h, decide_eq_true hc]; simp [hc]
    · rw [h, decide_eq_false hc]; simp [hc]
  · have hf : r.msb = false := by simpa using h
    by_cases hc : c
    · rw [hf, decide_eq_true hc]; simp [hc]
    · rw [hf, decide_eq_false hc]; simp [hc]
theorem ref_unf (k : Nat) (x0 : List Int) (x3 x4 L q s out bit r2 r3 x5 y : Int) (h1 : wrap64 (8 * (x0.length : Int)) = L) (c1 : x4 < L) (h2 : wrap64 (Int.tdiv x4 8) = q) (c2 : 0 ≤ q) (c3 : q < (x0.length : Int))
    (h3 : IntKind.u64.wrap (wrap64 (7 - Int.tmod x4 8)) = s) (c4 : 0 ≤ s) (h4 : IntKind.u64.wrap (Int.tdiv x3 2147483648) = out) (hy : IntKind.u64.wrap (rd x0 q) = y) (h5 : Int.tmod (shr .u64 y s) 2 = bit)
    (h6 : Int.tmod (IntKind.u64.wrap (x3 * 2)) 4294967296 = r2) (h7 : Go.bits .xor .u64 r2 1947962583 = r3) (h8 : wrap64 (x4 + 1) = x5) :
    windroseref02_Sum.l0 (k + 1) x0 x3 x4 = if out = bit then windroseref02_Sum.l0 k x0 r2 x5 else windroseref02_Sum.l0 k x0 r3 x5 := by
  rw [windroseref02_Sum.l0, h1, if_pos c1, h2, if_pos c2, if_pos c3, h3, if_pos c4, h4, hy, h5, h6, h7, h8]
theorem ref_bit (x : Int) (hx : 0 ≤ x ∧ x ≤ 255) (j : Nat) (hj : j < 8) : Int.tmod (shr .u64 x ((7 - j : Nat) : Int)) 2 = (if 128 ≤ x.toNat * 2 ^ j % 256 then 1 else 0) := by
  have hb := bit_of ⟨x.toNat, by omega⟩ ⟨j, hj⟩
  simp only at hb
  unfold shr
  have hmin : min ((7 - j : Nat) : Int).toNat IntKind.u64.bits = 7 - j := by
    rw [Int.toNat_natCast]; exact Nat.min_eq_left (by simp only [IntKind.bits]; omega)
  rw [hmin]
  have e : x = ((x.toNat : Nat) : Int) := by omega
  have e' : ((x.toNat : Nat) : Int) / 2 ^ (7 - j) = ((x.toNat / 2 ^ (7 - j) : Nat) : Int) := by
    rw [Int.natCast_ediv, Int.natCast_pow]; rfl
  rw [show x / 2 ^ (7 - j) = ((x.toNat / 2 ^ (7 - j) : Nat) : Int) by rw [← e', ← e], tmod_nn (Int.natCast_nonneg _), show (2 : Int) = ((2 : Nat) : Int) from rfl, ← Int.natCast_emod, hb]
  split <;> rfl
theorem ref_out (r : B32) : IntKind.u64.wrap (Int.tdiv (r.toNat : Int) 2147483648) = (if r.msb then 1 else 0) := by
  have hrt := r.isLt
  rw [tdiv_nn (by omega), IntKind.wrap_u64]
  have := msb_iff r
  by_cases h : r.msb = true
  · rw [if_pos h]; have := this.1 h; omega
  · rw [if_neg h]
    have h2 : ¬ (r.toNat : Int) / 2147483648 = 1 := fun h3 => h (this.2 h3)
    omega
theorem ref_shl (r : B32) : Int.tmod (IntKind.u64.wrap ((r.toNat : Int) * 2)) 4294967296 = ((r <<< 1).toNat : Int) := by
  have hrt := r.isLt
  rw [shl_toNat, IntKind.wrap_u64, tmod_nn (by omega)]; omega
theorem ref_step (b : List Int) (hb : b.length ≤ 100000) (hr : ∀ x ∈ b, 0 ≤ x ∧ x ≤ 255) (p j : Nat) (hp : p < b.length) (hj : j < 8) (r : B32) (k : Nat) :
    windroseref02_Sum.l0 (k + 1) b (r.toNat : Int) ((8 * p + j : Nat) : Int) = windroseref02_Sum.l0 k b ((T (r ^^^ (if 128 ≤ (rd b p).toNat * 2 ^ j % 256 then bit1 else 0#32))).toNat : Int) ((8 * p + j + 1 : Nat) : Int) := by
  have hx := hr (rd b p) (by simp only [rd, Int.toNat_natCast]; exact getD_mem b p 0 hp)
  rw [ref_unf k b (r.toNat : Int) ((8 * p + j : Nat) : Int) (8 * (b.length : Int)) (p : Int) ((7 - j : Nat) : Int) _ _ _ ((r <<< 1 ^^^ poly).toNat : Int) ((8 * p + j + 1 : Nat) : Int) (rd b p)
    (by rw [w64] <;> omega) (by omega) (by rw [tdiv_nn (by omega), w64] <;> omega) (by omega) (by omega) (by rw [tmod_nn (by omega), w64 (by omega) (by omega), IntKind.wrap_u64]; omega) (by omega)
    (ref_out r) (by rw [IntKind.wrap_u64]; omega) (ref_bit _ hx j hj) (ref_shl r) (by rw [polyI]; exact xor64_32 _ _) (by rw [w64] <;> omega)]
  rw [T_in]
  by_cases h : r.msb = true
  · by_cases hcc : 128 ≤ (rd b p).toNat * 2 ^ j % 256
    · rw [if_pos h, if_pos hcc, if_pos rfl, if_pos ⟨fun _ => hcc, fun _ => h⟩]
    · rw [if_pos h, if_neg hcc, if_neg (by decide), if_neg (fun h2 => hcc (h2.1 h))]
  · by_cases hcc : 128 ≤ (rd b p).toNat * 2 ^ j % 256
    · rw [if_neg h, if_pos hcc, if_neg (by decide), if_neg (fun h2 => h (h2.2 hcc))]
    · rw [if_neg h, if_neg hcc, if_pos rfl, if_pos ⟨fun h2 => absurd h2 h, fun h2 => absurd h2 hcc⟩]
theorem ref_byte (b : List Int) (hb : b.length ≤ 100000) (hr : ∀ x ∈ b, 0 ≤ x ∧ x ≤ 255) (p : Nat) (hp : p < b.length) (res : Int) (s0 : B32) (n : Nat) : ∀ (j : Nat) (r : B32), j + n = 8 →
    iter n (r ^^^ high ((rd b p).toNat * 2 ^ j % 256)) = s0 → (∃ K, ∀ k, K ≤ k → windroseref02_Sum.l0 k b (s0.toNat : Int) ((8 * (p + 1) : Nat) : Int) = some (res)) → (∃ K, ∀ k, K ≤ k → windroseref02_Sum.l0 k b (r.toNat : Int) ((8 * p + j : Nat) : Int) = some (res)) := by
  induction n with
  | zero =>
    intro j r hj hi h
    obtain rfl : j = 8 := by omega
    have e : (rd b p).toNat * 2 ^ 8 % 256 = 0 := by omega
    rw [e] at hi
    have hz : high 0 = 0#32 := by decide
    simp only [iter, hz, BitVec.xor_zero] at hi
    subst hi
    exact h
  | succ n ih =>
    intro j r hj hi h
    have hx : (rd b p).toNat * 2 ^ j % 256 < 256 := Nat.mod_lt _ (by omega)
    have hn : 2 * ((rd b p).toNat * 2 ^ j % 256) % 256 = (rd b p).toNat * 2 ^ (j + 1) % 256 := by
      rw [Nat.pow_succ, ← Nat.mul_assoc, Nat.mul_mod 2, Nat.mod_mod, ← Nat.mul_mod, Nat.mul_comm 2]
    simp only [iter] at hi
    rw [T_byte r _ hx, hn] at hi
    obtain ⟨K, hK⟩ := ih (j + 1) _ (by omega) hi h
    refine Ev.succ K fun k hk => ?_
    rw [ref_step b hb hr p j hp (by omega) r k]
    exact hK k hk
theorem ref_sum (b : List Int) (hb : b.length ≤ 100000) (hr : ∀ x ∈ b, 0 ≤ x ∧ x ≤ 255) (d : Nat) : ∀ (p : Nat) (s : B32), p + d = b.length → (∃ K, ∀ k, K ≤ k → windroseref02_Sum.l0 k b (s.toNat : Int) ((8 * p : Nat) : Int) = some (((crc s (b.drop p)).toNat : Int))) := by
  induction d with
  | zero =>
    intro p s hp
    have := s.isLt
    refine Ev.succ 0 fun k _ => ?_
    simp only [windroseref02_Sum.l0]
    rw [show wrap64 (8 * (b.length : Int)) = 8 * (b.length : Int) by rw [w64] <;> omega, if_neg (by omega), List.drop_of_length_le (by omega)]
    congr 1
    show (s.toNat : Int) % 4294967296 = (s.toNat : Int)
    omega
  | succ d ih =>
    intro p s hp
    have hd : b.drop p = rd b p :: b.drop (p + 1) := by rw [drop_getD b p 0 (by omega)]; rfl
    have hx := hr (rd b p) (by simp only [rd, Int.toNat_natCast]; exact getD_mem b p 0 (by omega))
    rw [hd]
    have h := ref_byte b hb hr p (by omega) _ (byteStep s (rd b p)) 8 0 s (by omega) (by
      unfold byteStep
      rw [show (rd b p).toNat * 2 ^ 0 % 256 = (rd b p).toNat by omega]) (ih (p + 1) (byteStep s (rd b p)) (by omega))
    exact h
theorem refsum_ev (b : List Int) (hb : b.length ≤ 100000) (hr : ∀ x ∈ b, 0 ≤ x ∧ x ≤ 255) : (∃ K, ∀ k, K ≤ k → windroseref02_Sum.f k b = some ((sumS b))) := by
  obtain ⟨K, hK⟩ := ref_sum b hb hr b.length 0 0xFFFFFFFF#32 (by omega)
  exact ⟨K, fun k hk => hK k hk⟩
end Go.Proofs.Ytlpohipneianjaa.Q
end
section
set_option linter.unusedVariables false
namespace Go.Proofs.Ytlpohipneianjaa.Q
open Go Go.RowKit Go.Proofs.Ytlpohipneianjaa.G Go.Proofs.YtlpohipneianjaaW.PrintWords Go.Proofs.YtlpohipneianjaaW.PrintLast Go.Proofs.YtlpohipneianjaaW.PrintMore
def fourS (s : Int) : List Int := [s / 16777216 % 256, s / 65536 % 256, s / 256 % 256, s % 256]
def frm (ns : List Int) (ts : List ByteArray) : List Int := countS (enc ns ts).length ++ enc ns ts ++ fourS (sumS (enc ns ts))
abbrev FRes := List Int × List ByteArray × Int × Int
theorem sumS_range (b : List Int) : 0 ≤ sumS b ∧ sumS b < 4294967296 := by
  unfold sumS
  have := (crc 0xFFFFFFFF#32 b).isLt
  omega
theorem by_fourS (s : Int) : By (fourS s) := by
  intro x hx
  simp only [fourS, List.mem_cons, List.mem_nil_iff, or_false] at hx
  rcases hx with rfl | rfl | rfl | rfl <;> omega
end Go.Proofs.Ytlpohipneianjaa.Q
end
