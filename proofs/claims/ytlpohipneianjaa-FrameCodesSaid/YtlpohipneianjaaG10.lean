/- Written by a program of this session (wip/mk.py): what functions answer, proved. No condition. -/
import Derived.Test.YtlpohipneianjaaG0
namespace Go.Proofs.Ytlpohipneianjaa.G
open Go.RowKit Go.Proofs.YtlpohipneianjaaW.PrintWords Go.Proofs.YtlpohipneianjaaW.PrintLast Go.Proofs.YtlpohipneianjaaW.PrintMore
attribute [local go_sem] max2_int min2_int max_two min_two max_three min_three max_four min_four   -- for this text's walks alone
set_option linter.unusedVariables false
set_option linter.unusedSimpArgs false

/-! ### frame_take: function 50 -/
def frame_take.l0 : Nat → List Int → Int → Int → Int → Option (Int × List Int × Bool)
  | 0, _, _, _, _ => none
  | k + 1, x0, x5, x11, x12 => if x12 < x11 then (if 0 ≤ x12 then (if x12 < (x0.length : Int) then (if 0 ≤ (wrap64 (7 * x12)) then (if (IntKind.u64.wrap (rd x0 x12)) < 128 then (if x12 = 9 then (if 0 ≤ (wrap64 (x12 + 1)) then (if (wrap64 (x12 + 1)) ≤ (x0.length : Int) then ((some (x0.drop ((wrap64 (x12 + 1)) : Int).toNat : List Int)).bind fun y363 => (if ((IntKind.u64.wrap (rd x0 x12)) > 1) then (some (Go.bits .or .u64 x5 (shl .u64 (Go.bits .and .u64 (IntKind.u64.wrap (rd x0 x12)) 127) (wrap64 (7 * x12))), y363, false)) else (if (IntKind.u64.wrap (rd x0 x12)) > 0 then (some (Go.bits .or .u64 x5 (shl .u64 (Go.bits .and .u64 (IntKind.u64.wrap (rd x0 x12)) 127) (wrap64 (7 * x12))), y363, true)) else (some (Go.bits .or .u64 x5 (shl .u64 (Go.bits .and .u64 (IntKind.u64.wrap (rd x0 x12)) 127) (wrap64 (7 * x12))), y363, (x12 == 0)))))) else (none)) else (none)) else (if 0 ≤ (wrap64 (x12 + 1)) then (if (wrap64 (x12 + 1)) ≤ (x0.length : Int) then ((some (x0.drop ((wrap64 (x12 + 1)) : Int).toNat : List Int)).bind fun y368 => (if (IntKind.u64.wrap (rd x0 x12)) > 0 then (some (Go.bits .or .u64 x5 (shl .u64 (Go.bits .and .u64 (IntKind.u64.wrap (rd x0 x12)) 127) (wrap64 (7 * x12))), y368, true)) else (some (Go.bits .or .u64 x5 (shl .u64 (Go.bits .and .u64 (IntKind.u64.wrap (rd x0 x12)) 127) (wrap64 (7 * x12))), y368, (x12 == 0))))) else (none)) else (none))) else (frame_take.l0 k x0 (Go.bits .or .u64 x5 (shl .u64 (Go.bits .and .u64 (IntKind.u64.wrap (rd x0 x12)) 127) (wrap64 (7 * x12)))) x11 (wrap64 (x12 + 1)))) else (none)) else (none)) else (none)) else (some (0, ([] : List Int), false))
def frame_take.f (k : Nat) (l0 : List Int) : Option (Int × List Int × Bool) := frame_take.l0 k l0 0 (mn 10 (l0.length : Int)) 0
theorem frame_take.mono_l : ∀ k, (∀ y0 y1 y2 y3, LeO (frame_take.l0 k y0 y1 y2 y3) (frame_take.l0 (k + 1) y0 y1 y2 y3))
  | 0 => fun _ _ _ _ r h => by simp [frame_take.l0] at h
  | k + 1 => by
    have ih0 := frame_take.mono_l k
    · intro y0 y1 y2 y3
      unfold frame_take.l0
      repeat' first
      | (with_reducible exact ih0 _ _ _ _)
      | (with_reducible exact LeO.refl _)
      | (with_reducible exact LeO.none _)
      | (with_reducible refine LeO.ite ?_ ?_)
      | (with_reducible refine LeO.bind ?_ (fun _ => ?_))
      | exact ih0 _ _ _ _
      | exact LeO.none _
      | refine LeO.ite ?_ ?_
      | refine LeO.bind ?_ (fun _ => ?_)
theorem frame_take.mono : ∀ a0 k, LeO (frame_take.f k a0) (frame_take.f (k + 1) a0) := by
  intro a0 k
  have ih0 := frame_take.mono_l k
  unfold frame_take.f
  repeat' first
      | (with_reducible exact ih0 _ _ _ _)
      | (with_reducible exact LeO.refl _)
      | (with_reducible exact LeO.none _)
      | (with_reducible refine LeO.ite ?_ ?_)
      | (with_reducible refine LeO.bind ?_ (fun _ => ?_))
      | exact ih0 _ _ _ _
      | exact LeO.none _
      | refine LeO.ite ?_ ?_
      | refine LeO.bind ?_ (fun _ => ?_)
set_option maxHeartbeats 8000000 in
set_option maxRecDepth 100000 in
theorem frame_take.calls (k : Nat) (P0_ : Nat → Prop) (A0 : Option Addr) (c0 : Nat) (l0 : List Int) (r1 : Int) (r2 : List Int) (r3 : Bool) (w : World) (hs0 : Kd.V (Kd.int .u8) 5 w w.heap.size (fun k_ => P0_ k_) (.slice A0 l0.length c0) l0) (h : frame_take.f k l0 = some (r1, r2, r3)) :
    Calls Try.prog 50 #[.slice A0 l0.length c0] w fun e w' => ∃ v1_ : Value, e = .returned (.tuple #[.int .u64 r1, v1_, .bool r3]) ∧ Kd.V (Kd.int .u8) 5 w' w.heap.size (fun k_ => (P0_ k_ ∨ w.heap.size ≤ k_)) v1_ r2 ∧ Below w.heap.size w w' := by
  have HO0 := Aside0.mk (show Kd.V (Kd.int .u8) 5 w w.heap.size (fun k_ => (P0_ k_ ∨ w.heap.size ≤ k_)) (.slice A0 l0.length c0) l0 from Kd.V_mono hs0 (fun k_ hk => .inl hk))
  have HB := Aside0.mk (Below.refl w.heap.size w)
  have H : (frame_take.l0 k l0 0 (mn 10 (l0.length : Int)) 0) = some (r1, r2, r3) := h
  clear h
  obtain ⟨ji2, hji2⟩ : ∃ j_ : Int, (mn 10 (l0.length : Int)) = j_ := ⟨_, rfl⟩
  replace H : (frame_take.l0 k l0 0 ji2 0) = some (r1, r2, r3) := by first | (rw [hji2] at H; exact H) | (simp only [hji2] at H ⊢; exact H)
  (try (have hji2h : ji2 ≤ 10 := by (rw [← hji2]; unfold mn; (repeat' split) <;> omega)))
  (try (have hji2g : ji2 ≤ 64 := by omega))
  (try (have hji2l : 0 ≤ ji2 := by (rw [← hji2]; unfold mn; (repeat' split) <;> omega)))
  (try (have hji2m : 0 ≤ ji2 := by omega))
  have hji2_ : (if (l0.length : Int) < 10 then (l0.length : Int) else 10) = ji2 := hji2
  have H' := Aside0.mk H
  clear H
  go_enter Try.func50, Try.ntmps50
  go_wp2
  repeat (go_quiet (fail); try go_wp2)
  go_loopg [5, 12] k (fun kq v5 v12 w' => ∃ (x5_1 : Int) (x12_1 : Int), v5 = .int .u64 x5_1 ∧ v12 = .int .i64 x12_1 ∧ Aside0 (frame_take.l0 kq l0 x5_1 ji2 x12_1 = some (r1, r2, r3)) ∧ Aside0 (kq ≤ k) ∧ Aside0 (Kd.V (Kd.int .u8) 5 w' w.heap.size (fun k_ => (P0_ k_ ∨ w.heap.size ≤ k_)) (.slice A0 l0.length c0) l0) ∧ Aside0 (Below w.heap.size w w'))
  case atStart => exact ⟨(0), (0), (by first | rfl | (simp; done) | (simp [*]; done)), (by first | rfl | (simp; done) | (simp [*]; done)), H', ⟨Nat.le_refl _⟩, ⟨by (with_reducible repeat (first | apply Kd.V_alloc | apply Kd.V_drewN | apply Kd.V_drew)); exact HO0.out⟩, ⟨by repeat (first | (with_reducible first | exact HB.out | apply below_alloc | apply pw_below_drewN | apply below_drew1) | exact HB.out)⟩⟩
  case round =>
    clear H'
    try clear p2
    obtain ⟨x5_1, x12_1, rfl, rfl, HA, HK1, HO_0, HB⟩ := hrel
    cases gk with
    | zero => exact absurd HA.out (by simp [frame_take.l0])
    | succ k1 =>
      have H := HA.out
      clear HA
      simp only [frame_take.l0] at H
      by_cases c3 : x12_1 < ji2
      · rw [if_pos c3] at H
        have c3b0 : decide (x12_1 < ji2) = true := decide_eq_true c3
        clear c3
        by_cases c4 : 0 ≤ x12_1
        · rw [if_pos c4] at H
          have c4b0 : decide (0 ≤ x12_1) = true := decide_eq_true c4
          clear c4
          by_cases c5 : x12_1 < (l0.length : Int)
          · rw [if_pos c5] at H
            have c5b0 : decide (x12_1 < (l0.length : Int)) = true := decide_eq_true c5
            clear c5
            obtain ⟨ji6, hji6⟩ : ∃ j_ : Int, (wrap64 (7 * x12_1)) = j_ := ⟨_, rfl⟩
            replace H : (if 0 ≤ (ji6) then (if (IntKind.u64.wrap (rd l0 x12_1)) < 128 then (if x12_1 = 9 then (if 0 ≤ (wrap64 (x12_1 + 1)) then (if (wrap64 (x12_1 + 1)) ≤ (l0.length : Int) then ((some (l0.drop ((wrap64 (x12_1 + 1)) : Int).toNat : List Int)).bind fun y363 => (if ((IntKind.u64.wrap (rd l0 x12_1)) > 1) then (some (Go.bits .or .u64 x5_1 (shl .u64 (Go.bits .and .u64 (IntKind.u64.wrap (rd l0 x12_1)) 127) (ji6)), y363, false)) else (if (IntKind.u64.wrap (rd l0 x12_1)) > 0 then (some (Go.bits .or .u64 x5_1 (shl .u64 (Go.bits .and .u64 (IntKind.u64.wrap (rd l0 x12_1)) 127) (ji6)), y363, true)) else (some (Go.bits .or .u64 x5_1 (shl .u64 (Go.bits .and .u64 (IntKind.u64.wrap (rd l0 x12_1)) 127) (ji6)), y363, (x12_1 == 0)))))) else (none)) else (none)) else (if 0 ≤ (wrap64 (x12_1 + 1)) then (if (wrap64 (x12_1 + 1)) ≤ (l0.length : Int) then ((some (l0.drop ((wrap64 (x12_1 + 1)) : Int).toNat : List Int)).bind fun y368 => (if (IntKind.u64.wrap (rd l0 x12_1)) > 0 then (some (Go.bits .or .u64 x5_1 (shl .u64 (Go.bits .and .u64 (IntKind.u64.wrap (rd l0 x12_1)) 127) (ji6)), y368, true)) else (some (Go.bits .or .u64 x5_1 (shl .u64 (Go.bits .and .u64 (IntKind.u64.wrap (rd l0 x12_1)) 127) (ji6)), y368, (x12_1 == 0))))) else (none)) else (none))) else (frame_take.l0 k1 l0 (Go.bits .or .u64 x5_1 (shl .u64 (Go.bits .and .u64 (IntKind.u64.wrap (rd l0 x12_1)) 127) (ji6))) ji2 (wrap64 (x12_1 + 1)))) else (none)) = some (r1, r2, r3) := by first | (rw [hji6] at H; exact H) | (simp only [hji6] at H ⊢; exact H)
            have hji6w : (IntKind.i64.wrap (7 * x12_1)) = ji6 := (i64_w _).trans hji6
            by_cases c7 : 0 ≤ (ji6)
            · rw [if_pos c7] at H
              have c7b0 := eq_true c7
              have c7b1 : decide (0 ≤ (ji6)) = true := decide_eq_true c7
              clear c7
              obtain ⟨ji8, hji8⟩ : ∃ j_ : Int, (shl .u64 (Go.bits .and .u64 (IntKind.u64.wrap (rd l0 x12_1)) 127) (ji6)) = j_ := ⟨_, rfl⟩
              replace H : (if (IntKind.u64.wrap (rd l0 x12_1)) < 128 then (if x12_1 = 9 then (if 0 ≤ (wrap64 (x12_1 + 1)) then (if (wrap64 (x12_1 + 1)) ≤ (l0.length : Int) then ((some (l0.drop ((wrap64 (x12_1 + 1)) : Int).toNat : List Int)).bind fun y363 => (if ((IntKind.u64.wrap (rd l0 x12_1)) > 1) then (some (Go.bits .or .u64 x5_1 (ji8), y363, false)) else (if (IntKind.u64.wrap (rd l0 x12_1)) > 0 then (some (Go.bits .or .u64 x5_1 (ji8), y363, true)) else (some (Go.bits .or .u64 x5_1 (ji8), y363, (x12_1 == 0)))))) else (none)) else (none)) else (if 0 ≤ (wrap64 (x12_1 + 1)) then (if (wrap64 (x12_1 + 1)) ≤ (l0.length : Int) then ((some (l0.drop ((wrap64 (x12_1 + 1)) : Int).toNat : List Int)).bind fun y368 => (if (IntKind.u64.wrap (rd l0 x12_1)) > 0 then (some (Go.bits .or .u64 x5_1 (ji8), y368, true)) else (some (Go.bits .or .u64 x5_1 (ji8), y368, (x12_1 == 0))))) else (none)) else (none))) else (frame_take.l0 k1 l0 (Go.bits .or .u64 x5_1 (ji8)) ji2 (wrap64 (x12_1 + 1)))) = some (r1, r2, r3) := by first | (rw [hji8] at H; exact H) | (simp only [hji8] at H ⊢; exact H)
              have hji8_ : (IntKind.u64.wrap ((Go.bits .and .u64 (IntKind.u64.wrap (rd l0 x12_1)) 127) * 2 ^ min (ji6).toNat 64)) = ji8 := hji8
              have hji8z : (ji6) ≤ 64 → (IntKind.u64.wrap ((Go.bits .and .u64 (IntKind.u64.wrap (rd l0 x12_1)) 127) * 2 ^ (ji6).toNat)) = ji8 := shl_small hji8
              by_cases c9 : (IntKind.u64.wrap (rd l0 x12_1)) < 128
              · rw [if_pos c9] at H
                have c9b0 : decide ((IntKind.u64.wrap (rd l0 x12_1)) < 128) = true := decide_eq_true c9
                clear c9
                by_cases c10 : x12_1 = 9
                · rw [if_pos c10] at H
                  have c10b0 : (x12_1 == 9) = true := beq_iff_eq.mpr c10
                  have c10b1 : (x12_1 != 9) = false := bne_eq_false_iff_eq.mpr c10
                  clear c10
                  obtain ⟨ji11, hji11⟩ : ∃ j_ : Int, (wrap64 (x12_1 + 1)) = j_ := ⟨_, rfl⟩
                  replace H : (if 0 ≤ (ji11) then (if (ji11) ≤ (l0.length : Int) then ((some (l0.drop ((ji11) : Int).toNat : List Int)).bind fun y363 => (if ((IntKind.u64.wrap (rd l0 x12_1)) > 1) then (some (Go.bits .or .u64 x5_1 (ji8), y363, false)) else (if (IntKind.u64.wrap (rd l0 x12_1)) > 0 then (some (Go.bits .or .u64 x5_1 (ji8), y363, true)) else (some (Go.bits .or .u64 x5_1 (ji8), y363, (x12_1 == 0)))))) else (none)) else (none)) = some (r1, r2, r3) := by first | (rw [hji11] at H; exact H) | (simp only [hji11] at H ⊢; exact H)
                  have hji11w : (IntKind.i64.wrap (x12_1 + 1)) = ji11 := (i64_w _).trans hji11
                  by_cases c12 : 0 ≤ (ji11)
                  · rw [if_pos c12] at H
                    have c12b0 := eq_true c12
                    have c12b1 : decide (0 ≤ (ji11)) = true := decide_eq_true c12
                    clear c12
                    by_cases c13 : (ji11) ≤ (l0.length : Int)
                    · rw [if_pos c13] at H
                      have c13b0 := eq_true c13
                      have c13b1 : decide ((ji11) ≤ (l0.length : Int)) = true := decide_eq_true c13
                      clear c13
                      obtain ⟨y363, hy363⟩ : ∃ y_ : List Int, y_ = (l0.drop ((ji11) : Int).toNat) := ⟨_, rfl⟩
                      replace H : (if ((IntKind.u64.wrap (rd l0 x12_1)) > 1) then (some (Go.bits .or .u64 x5_1 (ji8), y363, false)) else (if (IntKind.u64.wrap (rd l0 x12_1)) > 0 then (some (Go.bits .or .u64 x5_1 (ji8), y363, true)) else (some (Go.bits .or .u64 x5_1 (ji8), y363, (x12_1 == 0))))) = some (r1, r2, r3) := by first | (rw [hy363]; with_reducible exact H) | (have H2_ := (Option.bind_some _ _).symm.trans H; rw [hy363]; with_reducible exact H2_) | (have H2_ := (Option.bind_some _ _).symm.trans H; with_reducible exact H2_) | with_reducible exact H | (rw [hy363]; exact H) | exact H
                      have Ny363 := Aside0.mk hy363
                      clear hy363
                      by_cases c14 : ((IntKind.u64.wrap (rd l0 x12_1)) > 1)
                      · rw [if_pos c14] at H
                        have c14b0 : decide (1 < (IntKind.u64.wrap (rd l0 x12_1))) = true := decide_eq_true c14
                        clear c14
                        simp only [Option.some.injEq, Prod.mk.injEq] at H
                        obtain ⟨rfl, rfl, rfl⟩ := H
                        have p362 : 0 ≤ (x12_1 : Int) := of_decide_eq_true (by first | (with_reducible assumption) | assumption)
                        have q362 : x12_1 < (l0.length : Int) := of_decide_eq_true (by first | (with_reducible assumption) | assumption)
                        obtain ⟨ad362, e362, hx362_0⟩ := Kd.at_int (Kd.V_reads' HO_0.out).2.2 x12_1 p362 q362
                        cases e362
                        replace p362 := eq_true p362
                        replace q362 := eq_true q362
                        have q15 : ((ji11) : Int) ≤ ((l0.length : Int) : Int) := of_decide_eq_true (by first | (with_reducible assumption) | assumption)
                        obtain ⟨i015, hi015, _, hsz15, _⟩ := info_parts info5
                        have hroom15 : l0.length ≤ c0 := (Kd.V_reads' HO_0.out).2.1
                        have hC15 : Kd.F (Kd.int .u8) _ _ (some ad362) l0.length l0 := (Kd.V_at (base := w.heap.size) HO_0.out).2.2
                        have q015 : (0 : Int) ≤ ((ji11) : Int) := of_decide_eq_true (by first | (with_reducible assumption) | assumption)
                        have hcut15 := cut_from (P := Try.prog) 22 5 .i64 Try.underlying22 hi015 1 hsz15 (some ad362) l0.length c0 (ji11) q015 q15
                        have hr15 := Kd.F_cut (m := ((ji11) : Int).toNat) (c := c0) hC15 (by omega) hroom15
                        obtain ⟨A15, hA15⟩ : ∃ A1, A1 = (if c0 = ((ji11) : Int).toNat then (some ad362) else ((some ad362) : Option Addr).map (·.add (((ji11) : Int).toNat * 1))) := ⟨_, rfl⟩
                        obtain ⟨c15, hc15⟩ : ∃ c1, c1 = c0 - ((ji11) : Int).toNat := ⟨_, rfl⟩
                        have hy15 : y363.length = l0.length - ((ji11) : Int).toNat := (by rw [Ny363.out, List.length_drop] <;> omega)
                        rw [show (l0).drop ((ji11) : Int).toNat = y363 from Ny363.out.symm] at hr15
                        replace hr15 : Kd.F (Kd.int .u8) _ _ A15 y363.length y363 := (by rw [hA15]; exact hr15)
                        rw [← hy15, ← hA15, ← hc15] at hcut15
                        have HO367 := Aside0.mk (show Kd.V (Kd.int .u8) 5 _ w.heap.size _ (.slice A15 y363.length c15) y363 from Kd.V_mk (by rw [hy15, hc15]; exact Nat.sub_le_sub_right hroom15 _) hr15)
                        have HC367 := Aside0.mk (show y363.length ≤ c15 from by rw [hy15, hc15]; exact Nat.sub_le_sub_right hroom15 _)
                        clear hr15 hC15 hroom15 hi015 hsz15 hc15
                        have KY15 := Aside0.mk hy15
                        have KA15 := Aside0.mk hA15
                        clear hy15 hA15
                        replace q15 := eq_true q15
                        go_wp2
                        repeat (go_quiet (fail); try go_wp2)
                        go_ret3
                        exact ⟨_, by first | rfl | (simp [errW_none, errW_some] <;> rfl) | (simp only [← hji2, ← hji6, ← hji8, ← hji11]; first | rfl | (simp [errW_none, errW_some] <;> rfl)) | (simp [*, errW_none, errW_some] <;> rfl), by (with_reducible repeat (first | apply Kd.V_alloc | apply Kd.V_drewN | apply Kd.V_drew)); exact HO367.out, by repeat (first | (with_reducible first | exact HB.out | apply below_alloc | apply pw_below_drewN | apply below_drew1) | exact HB.out)⟩
                      · rw [if_neg c14] at H
                        have c14b0 : decide (1 < (IntKind.u64.wrap (rd l0 x12_1))) = false := decide_eq_false c14
                        clear c14
                        by_cases c16 : (IntKind.u64.wrap (rd l0 x12_1)) > 0
                        · rw [if_pos c16] at H
                          have c16b0 : decide (0 < (IntKind.u64.wrap (rd l0 x12_1))) = true := decide_eq_true c16
                          clear c16
                          simp only [Option.some.injEq, Prod.mk.injEq] at H
                          obtain ⟨rfl, rfl, rfl⟩ := H
                          have p362 : 0 ≤ (x12_1 : Int) := of_decide_eq_true (by first | (with_reducible assumption) | assumption)
                          have q362 : x12_1 < (l0.length : Int) := of_decide_eq_true (by first | (with_reducible assumption) | assumption)
                          obtain ⟨ad362, e362, hx362_0⟩ := Kd.at_int (Kd.V_reads' HO_0.out).2.2 x12_1 p362 q362
                          cases e362
                          replace p362 := eq_true p362
                          replace q362 := eq_true q362
                          have q17 : ((ji11) : Int) ≤ ((l0.length : Int) : Int) := of_decide_eq_true (by first | (with_reducible assumption) | assumption)
                          obtain ⟨i017, hi017, _, hsz17, _⟩ := info_parts info5
                          have hroom17 : l0.length ≤ c0 := (Kd.V_reads' HO_0.out).2.1
                          have hC17 : Kd.F (Kd.int .u8) _ _ (some ad362) l0.length l0 := (Kd.V_at (base := w.heap.size) HO_0.out).2.2
                          have q017 : (0 : Int) ≤ ((ji11) : Int) := of_decide_eq_true (by first | (with_reducible assumption) | assumption)
                          have hcut17 := cut_from (P := Try.prog) 22 5 .i64 Try.underlying22 hi017 1 hsz17 (some ad362) l0.length c0 (ji11) q017 q17
                          have hr17 := Kd.F_cut (m := ((ji11) : Int).toNat) (c := c0) hC17 (by omega) hroom17
                          obtain ⟨A17, hA17⟩ : ∃ A1, A1 = (if c0 = ((ji11) : Int).toNat then (some ad362) else ((some ad362) : Option Addr).map (·.add (((ji11) : Int).toNat * 1))) := ⟨_, rfl⟩
                          obtain ⟨c17, hc17⟩ : ∃ c1, c1 = c0 - ((ji11) : Int).toNat := ⟨_, rfl⟩
                          have hy17 : y363.length = l0.length - ((ji11) : Int).toNat := (by rw [Ny363.out, List.length_drop] <;> omega)
                          rw [show (l0).drop ((ji11) : Int).toNat = y363 from Ny363.out.symm] at hr17
                          replace hr17 : Kd.F (Kd.int .u8) _ _ A17 y363.length y363 := (by rw [hA17]; exact hr17)
                          rw [← hy17, ← hA17, ← hc17] at hcut17
                          have HO367 := Aside0.mk (show Kd.V (Kd.int .u8) 5 _ w.heap.size _ (.slice A17 y363.length c17) y363 from Kd.V_mk (by rw [hy17, hc17]; exact Nat.sub_le_sub_right hroom17 _) hr17)
                          have HC367 := Aside0.mk (show y363.length ≤ c17 from by rw [hy17, hc17]; exact Nat.sub_le_sub_right hroom17 _)
                          clear hr17 hC17 hroom17 hi017 hsz17 hc17
                          have KY17 := Aside0.mk hy17
                          have KA17 := Aside0.mk hA17
                          clear hy17 hA17
                          replace q17 := eq_true q17
                          go_wp2
                          repeat (go_quiet (fail); try go_wp2)
                          go_ret3
                          exact ⟨_, by first | rfl | (simp [errW_none, errW_some] <;> rfl) | (simp only [← hji2, ← hji6, ← hji8, ← hji11]; first | rfl | (simp [errW_none, errW_some] <;> rfl)) | (simp [*, errW_none, errW_some] <;> rfl), by (with_reducible repeat (first | apply Kd.V_alloc | apply Kd.V_drewN | apply Kd.V_drew)); exact HO367.out, by repeat (first | (with_reducible first | exact HB.out | apply below_alloc | apply pw_below_drewN | apply below_drew1) | exact HB.out)⟩
                        · rw [if_neg c16] at H
                          have c16b0 : decide (0 < (IntKind.u64.wrap (rd l0 x12_1))) = false := decide_eq_false c16
                          clear c16
                          simp only [Option.some.injEq, Prod.mk.injEq] at H
                          obtain ⟨rfl, rfl, rfl⟩ := H
                          have p362 : 0 ≤ (x12_1 : Int) := of_decide_eq_true (by first | (with_reducible assumption) | assumption)
                          have q362 : x12_1 < (l0.length : Int) := of_decide_eq_true (by first | (with_reducible assumption) | assumption)
                          obtain ⟨ad362, e362, hx362_0⟩ := Kd.at_int (Kd.V_reads' HO_0.out).2.2 x12_1 p362 q362
                          cases e362
                          replace p362 := eq_true p362
                          replace q362 := eq_true q362
                          have q18 : ((ji11) : Int) ≤ ((l0.length : Int) : Int) := of_decide_eq_true (by first | (with_reducible assumption) | assumption)
                          obtain ⟨i018, hi018, _, hsz18, _⟩ := info_parts info5
                          have hroom18 : l0.length ≤ c0 := (Kd.V_reads' HO_0.out).2.1
                          have hC18 : Kd.F (Kd.int .u8) _ _ (some ad362) l0.length l0 := (Kd.V_at (base := w.heap.size) HO_0.out).2.2
                          have q018 : (0 : Int) ≤ ((ji11) : Int) := of_decide_eq_true (by first | (with_reducible assumption) | assumption)
                          have hcut18 := cut_from (P := Try.prog) 22 5 .i64 Try.underlying22 hi018 1 hsz18 (some ad362) l0.length c0 (ji11) q018 q18
                          have hr18 := Kd.F_cut (m := ((ji11) : Int).toNat) (c := c0) hC18 (by omega) hroom18
                          obtain ⟨A18, hA18⟩ : ∃ A1, A1 = (if c0 = ((ji11) : Int).toNat then (some ad362) else ((some ad362) : Option Addr).map (·.add (((ji11) : Int).toNat * 1))) := ⟨_, rfl⟩
                          obtain ⟨c18, hc18⟩ : ∃ c1, c1 = c0 - ((ji11) : Int).toNat := ⟨_, rfl⟩
                          have hy18 : y363.length = l0.length - ((ji11) : Int).toNat := (by rw [Ny363.out, List.length_drop] <;> omega)
                          rw [show (l0).drop ((ji11) : Int).toNat = y363 from Ny363.out.symm] at hr18
                          replace hr18 : Kd.F (Kd.int .u8) _ _ A18 y363.length y363 := (by rw [hA18]; exact hr18)
                          rw [← hy18, ← hA18, ← hc18] at hcut18
                          have HO367 := Aside0.mk (show Kd.V (Kd.int .u8) 5 _ w.heap.size _ (.slice A18 y363.length c18) y363 from Kd.V_mk (by rw [hy18, hc18]; exact Nat.sub_le_sub_right hroom18 _) hr18)
                          have HC367 := Aside0.mk (show y363.length ≤ c18 from by rw [hy18, hc18]; exact Nat.sub_le_sub_right hroom18 _)
                          clear hr18 hC18 hroom18 hi018 hsz18 hc18
                          have KY18 := Aside0.mk hy18
                          have KA18 := Aside0.mk hA18
                          clear hy18 hA18
                          replace q18 := eq_true q18
                          go_wp2
                          repeat (go_quiet (fail); try go_wp2)
                          go_ret3
                          exact ⟨_, by first | rfl | (simp [errW_none, errW_some] <;> rfl) | (simp only [← hji2, ← hji6, ← hji8, ← hji11]; first | rfl | (simp [errW_none, errW_some] <;> rfl)) | (simp [*, errW_none, errW_some] <;> rfl), by (with_reducible repeat (first | apply Kd.V_alloc | apply Kd.V_drewN | apply Kd.V_drew)); exact HO367.out, by repeat (first | (with_reducible first | exact HB.out | apply below_alloc | apply pw_below_drewN | apply below_drew1) | exact HB.out)⟩
                    · rw [if_neg c13] at H
                      exact absurd H (by simp)
                  · rw [if_neg c12] at H
                    exact absurd H (by simp)
                · rw [if_neg c10] at H
                  have c10b0 : (x12_1 == 9) = false := beq_eq_false_iff_ne.mpr c10
                  have c10b1 : (x12_1 != 9) = true := bne_iff_ne.mpr c10
                  obtain ⟨ji19, hji19⟩ : ∃ j_ : Int, (wrap64 (x12_1 + 1)) = j_ := ⟨_, rfl⟩
                  replace H : (if 0 ≤ (ji19) then (if (ji19) ≤ (l0.length : Int) then ((some (l0.drop ((ji19) : Int).toNat : List Int)).bind fun y368 => (if (IntKind.u64.wrap (rd l0 x12_1)) > 0 then (some (Go.bits .or .u64 x5_1 (ji8), y368, true)) else (some (Go.bits .or .u64 x5_1 (ji8), y368, (x12_1 == 0))))) else (none)) else (none)) = some (r1, r2, r3) := by first | (rw [hji19] at H; exact H) | (simp only [hji19] at H ⊢; exact H)
                  have hji19w : (IntKind.i64.wrap (x12_1 + 1)) = ji19 := (i64_w _).trans hji19
                  by_cases c20 : 0 ≤ (ji19)
                  · rw [if_pos c20] at H
                    have c20b0 := eq_true c20
                    have c20b1 : decide (0 ≤ (ji19)) = true := decide_eq_true c20
                    clear c20
                    by_cases c21 : (ji19) ≤ (l0.length : Int)
                    · rw [if_pos c21] at H
                      have c21b0 := eq_true c21
                      have c21b1 : decide ((ji19) ≤ (l0.length : Int)) = true := decide_eq_true c21
                      clear c21
                      obtain ⟨y368, hy368⟩ : ∃ y_ : List Int, y_ = (l0.drop ((ji19) : Int).toNat) := ⟨_, rfl⟩
                      replace H : (if (IntKind.u64.wrap (rd l0 x12_1)) > 0 then (some (Go.bits .or .u64 x5_1 (ji8), y368, true)) else (some (Go.bits .or .u64 x5_1 (ji8), y368, (x12_1 == 0)))) = some (r1, r2, r3) := by first | (rw [hy368]; with_reducible exact H) | (have H2_ := (Option.bind_some _ _).symm.trans H; rw [hy368]; with_reducible exact H2_) | (have H2_ := (Option.bind_some _ _).symm.trans H; with_reducible exact H2_) | with_reducible exact H | (rw [hy368]; exact H) | exact H
                      have Ny368 := Aside0.mk hy368
                      clear hy368
                      by_cases c22 : (IntKind.u64.wrap (rd l0 x12_1)) > 0
                      · rw [if_pos c22] at H
                        have c22b0 : decide (0 < (IntKind.u64.wrap (rd l0 x12_1))) = true := decide_eq_true c22
                        clear c22
                        simp only [Option.some.injEq, Prod.mk.injEq] at H
                        obtain ⟨rfl, rfl, rfl⟩ := H
                        have p362 : 0 ≤ (x12_1 : Int) := of_decide_eq_true (by first | (with_reducible assumption) | assumption)
                        have q362 : x12_1 < (l0.length : Int) := of_decide_eq_true (by first | (with_reducible assumption) | assumption)
                        obtain ⟨ad362, e362, hx362_0⟩ := Kd.at_int (Kd.V_reads' HO_0.out).2.2 x12_1 p362 q362
                        cases e362
                        replace p362 := eq_true p362
                        replace q362 := eq_true q362
                        have q23 : ((ji19) : Int) ≤ ((l0.length : Int) : Int) := of_decide_eq_true (by first | (with_reducible assumption) | assumption)
                        obtain ⟨i023, hi023, _, hsz23, _⟩ := info_parts info5
                        have hroom23 : l0.length ≤ c0 := (Kd.V_reads' HO_0.out).2.1
                        have hC23 : Kd.F (Kd.int .u8) _ _ (some ad362) l0.length l0 := (Kd.V_at (base := w.heap.size) HO_0.out).2.2
                        have q023 : (0 : Int) ≤ ((ji19) : Int) := of_decide_eq_true (by first | (with_reducible assumption) | assumption)
                        have hcut23 := cut_from (P := Try.prog) 22 5 .i64 Try.underlying22 hi023 1 hsz23 (some ad362) l0.length c0 (ji19) q023 q23
                        have hr23 := Kd.F_cut (m := ((ji19) : Int).toNat) (c := c0) hC23 (by omega) hroom23
                        obtain ⟨A23, hA23⟩ : ∃ A1, A1 = (if c0 = ((ji19) : Int).toNat then (some ad362) else ((some ad362) : Option Addr).map (·.add (((ji19) : Int).toNat * 1))) := ⟨_, rfl⟩
                        obtain ⟨c23, hc23⟩ : ∃ c1, c1 = c0 - ((ji19) : Int).toNat := ⟨_, rfl⟩
                        have hy23 : y368.length = l0.length - ((ji19) : Int).toNat := (by rw [Ny368.out, List.length_drop] <;> omega)
                        rw [show (l0).drop ((ji19) : Int).toNat = y368 from Ny368.out.symm] at hr23
                        replace hr23 : Kd.F (Kd.int .u8) _ _ A23 y368.length y368 := (by rw [hA23]; exact hr23)
                        rw [← hy23, ← hA23, ← hc23] at hcut23
                        have HO372 := Aside0.mk (show Kd.V (Kd.int .u8) 5 _ w.heap.size _ (.slice A23 y368.length c23) y368 from Kd.V_mk (by rw [hy23, hc23]; exact Nat.sub_le_sub_right hroom23 _) hr23)
                        have HC372 := Aside0.mk (show y368.length ≤ c23 from by rw [hy23, hc23]; exact Nat.sub_le_sub_right hroom23 _)
                        clear hr23 hC23 hroom23 hi023 hsz23 hc23
                        have KY23 := Aside0.mk hy23
                        have KA23 := Aside0.mk hA23
                        clear hy23 hA23
                        replace q23 := eq_true q23
                        go_wp2
                        repeat (go_quiet (fail); try go_wp2)
                        go_ret3
                        exact ⟨_, by first | rfl | (simp [errW_none, errW_some] <;> rfl) | (simp only [← hji2, ← hji6, ← hji8, ← hji19]; first | rfl | (simp [errW_none, errW_some] <;> rfl)) | (simp [*, errW_none, errW_some] <;> rfl), by (with_reducible repeat (first | apply Kd.V_alloc | apply Kd.V_drewN | apply Kd.V_drew)); exact HO372.out, by repeat (first | (with_reducible first | exact HB.out | apply below_alloc | apply pw_below_drewN | apply below_drew1) | exact HB.out)⟩
                      · rw [if_neg c22] at H
                        have c22b0 : decide (0 < (IntKind.u64.wrap (rd l0 x12_1))) = false := decide_eq_false c22
                        clear c22
                        simp only [Option.some.injEq, Prod.mk.injEq] at H
                        obtain ⟨rfl, rfl, rfl⟩ := H
                        have p362 : 0 ≤ (x12_1 : Int) := of_decide_eq_true (by first | (with_reducible assumption) | assumption)
                        have q362 : x12_1 < (l0.length : Int) := of_decide_eq_true (by first | (with_reducible assumption) | assumption)
                        obtain ⟨ad362, e362, hx362_0⟩ := Kd.at_int (Kd.V_reads' HO_0.out).2.2 x12_1 p362 q362
                        cases e362
                        replace p362 := eq_true p362
                        replace q362 := eq_true q362
                        have q24 : ((ji19) : Int) ≤ ((l0.length : Int) : Int) := of_decide_eq_true (by first | (with_reducible assumption) | assumption)
                        obtain ⟨i024, hi024, _, hsz24, _⟩ := info_parts info5
                        have hroom24 : l0.length ≤ c0 := (Kd.V_reads' HO_0.out).2.1
                        have hC24 : Kd.F (Kd.int .u8) _ _ (some ad362) l0.length l0 := (Kd.V_at (base := w.heap.size) HO_0.out).2.2
                        have q024 : (0 : Int) ≤ ((ji19) : Int) := of_decide_eq_true (by first | (with_reducible assumption) | assumption)
                        have hcut24 := cut_from (P := Try.prog) 22 5 .i64 Try.underlying22 hi024 1 hsz24 (some ad362) l0.length c0 (ji19) q024 q24
                        have hr24 := Kd.F_cut (m := ((ji19) : Int).toNat) (c := c0) hC24 (by omega) hroom24
                        obtain ⟨A24, hA24⟩ : ∃ A1, A1 = (if c0 = ((ji19) : Int).toNat then (some ad362) else ((some ad362) : Option Addr).map (·.add (((ji19) : Int).toNat * 1))) := ⟨_, rfl⟩
                        obtain ⟨c24, hc24⟩ : ∃ c1, c1 = c0 - ((ji19) : Int).toNat := ⟨_, rfl⟩
                        have hy24 : y368.length = l0.length - ((ji19) : Int).toNat := (by rw [Ny368.out, List.length_drop] <;> omega)
                        rw [show (l0).drop ((ji19) : Int).toNat = y368 from Ny368.out.symm] at hr24
                        replace hr24 : Kd.F (Kd.int .u8) _ _ A24 y368.length y368 := (by rw [hA24]; exact hr24)
                        rw [← hy24, ← hA24, ← hc24] at hcut24
                        have HO372 := Aside0.mk (show Kd.V (Kd.int .u8) 5 _ w.heap.size _ (.slice A24 y368.length c24) y368 from Kd.V_mk (by rw [hy24, hc24]; exact Nat.sub_le_sub_right hroom24 _) hr24)
                        have HC372 := Aside0.mk (show y368.length ≤ c24 from by rw [hy24, hc24]; exact Nat.sub_le_sub_right hroom24 _)
                        clear hr24 hC24 hroom24 hi024 hsz24 hc24
                        have KY24 := Aside0.mk hy24
                        have KA24 := Aside0.mk hA24
                        clear hy24 hA24
                        replace q24 := eq_true q24
                        go_wp2
                        repeat (go_quiet (fail); try go_wp2)
                        go_ret3
                        exact ⟨_, by first | rfl | (simp [errW_none, errW_some] <;> rfl) | (simp only [← hji2, ← hji6, ← hji8, ← hji19]; first | rfl | (simp [errW_none, errW_some] <;> rfl)) | (simp [*, errW_none, errW_some] <;> rfl), by (with_reducible repeat (first | apply Kd.V_alloc | apply Kd.V_drewN | apply Kd.V_drew)); exact HO372.out, by repeat (first | (with_reducible first | exact HB.out | apply below_alloc | apply pw_below_drewN | apply below_drew1) | exact HB.out)⟩
                    · rw [if_neg c21] at H
                      exact absurd H (by simp)
                  · rw [if_neg c20] at H
                    exact absurd H (by simp)
              · rw [if_neg c9] at H
                have c9b0 : decide ((IntKind.u64.wrap (rd l0 x12_1)) < 128) = false := decide_eq_false c9
                clear c9
                have H' := Aside0.mk H
                clear H
                have p362 : 0 ≤ (x12_1 : Int) := of_decide_eq_true (by first | (with_reducible assumption) | assumption)
                have q362 : x12_1 < (l0.length : Int) := of_decide_eq_true (by first | (with_reducible assumption) | assumption)
                obtain ⟨ad362, e362, hx362_0⟩ := Kd.at_int (Kd.V_reads' HO_0.out).2.2 x12_1 p362 q362
                cases e362
                replace p362 := eq_true p362
                replace q362 := eq_true q362
                go_wp2
                repeat (go_quiet (fail); try go_wp2)
                go_roundg k1
                case measure => have := HK1.out; omega
                case rel => exact ⟨(Go.bits .or .u64 x5_1 (ji8)), (wrap64 (x12_1 + 1)), (by first | rfl | (simp; done) | (simp only [← hji8] <;> (first | rfl | simp)) | (simp [*]; done)), (by first | rfl | (simp; done) | (simp [*]; done)), H', ⟨by have := HK1.out; omega⟩, ⟨by (with_reducible repeat (first | apply Kd.V_alloc | apply Kd.V_drewN | apply Kd.V_drew)); exact HO_0.out⟩, ⟨by repeat (first | (with_reducible first | exact HB.out | apply below_alloc | apply pw_below_drewN | apply below_drew1) | exact HB.out)⟩⟩
            · rw [if_neg c7] at H
              exact absurd H (by simp)
          · rw [if_neg c5] at H
            exact absurd H (by simp)
        · rw [if_neg c4] at H
          exact absurd H (by simp)
      · rw [if_neg c3] at H
        have c3b0 : decide (x12_1 < ji2) = false := decide_eq_false c3
        clear c3
        simp only [Option.some.injEq, Prod.mk.injEq] at H
        obtain ⟨rfl, rfl, rfl⟩ := H
        go_wp2
        repeat (go_quiet (fail); try go_wp2)
        go_ret3
        exact ⟨_, by first | rfl | (simp [errW_none, errW_some] <;> rfl) | (simp only [← hji2]; first | rfl | (simp [errW_none, errW_some] <;> rfl)) | (simp [*, errW_none, errW_some] <;> rfl), Kd.V_mono (ok := fun _ => False) (Kd.R_V (Kd.R_nil _ _ _ 0 (fun _ => False))) (fun k_ hk => hk.elim), by repeat (first | (with_reducible first | exact HB.out | apply below_alloc | apply pw_below_drewN | apply below_drew1) | exact HB.out)⟩

end Go.Proofs.Ytlpohipneianjaa.G
