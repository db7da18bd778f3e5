/- Ytmddmbagehjdeaa: lines of the words and functions that the row GorillaBuilds rests on, and the row. No condition. -/
import Derived.Test.YtmddmbagehjdeaaZGorillaBuilds9
section
namespace Go.Proofs.Ytmddmbagehjdeaa.G
open Go.RowKit Go.Proofs.YtmddmbagehjdeaaX Go.Proofs.YtmddmbagehjdeaaW.PrintWords Go.Proofs.YtmddmbagehjdeaaW.PrintLast Go.Proofs.YtmddmbagehjdeaaW.PrintMore
attribute [local go_sem] max2_int min2_int max_two min_two max_three min_three max_four min_four
set_option linter.unusedVariables false
set_option linter.unusedSimpArgs false
set_option maxHeartbeats 8000000 in
set_option maxRecDepth 100000 in
theorem windroseref18_Bits.calls (k : Nat) (A0 : Option Addr) (c0 : Nat) (l0 : List (S67)) (r : List Bool) (w : World) (hr0 : Kd.C k67 w A0 l0.length l0) (hc0 : l0.length ≤ c0) (h : windroseref18_Bits.f k l0 = some r) :
    Calls Try.prog 74 #[.slice A0 l0.length c0] w fun e w' => ∃ v0_ : Value, e = .returned (v0_) ∧ Kd.R Kd.bool 4 w' w.heap.size (fun _ => True) v0_ r ∧ Below w.heap.size w w' := by
  have HR0 := Aside0.mk hr0
  have HC0 := Aside0.mk hc0
  clear hr0 hc0
  have HB := Aside0.mk (Below.refl w.heap.size w)
  have H : ((windroseref11_Nums.f k l0).bind fun t681 => (windroseref18_Bits.l0 k l0 t681 (([] : List Bool)) 0 0)) = some r := h
  clear h
  replace H := bindA H
  obtain ⟨t681, A2, H⟩ := H
  try dsimp only at H
  obtain ⟨y684, hy684⟩ : ∃ y_ : List Bool, y_ = (([] : List Bool)) := ⟨_, rfl⟩
  replace H : (windroseref18_Bits.l0 k l0 t681 y684 0 0) = some r := by first | (rw [hy684]; with_reducible exact H) | (have H2_ := (Option.bind_some _ _).symm.trans H; rw [hy684]; with_reducible exact H2_) | (have H2_ := (Option.bind_some _ _).symm.trans H; with_reducible exact H2_) | with_reducible exact H | (rw [hy684]; exact H) | exact H
  have Ny684 := Aside0.mk hy684
  clear hy684
  have H' := Aside0.mk H
  clear H
  go_enter Try.func74, Try.ntmps74
  go_wp2_with (first | (go_at_call 87; (with_reducible refine (windroseref11_Nums.calls k _ _ l0 t681 _ ?side1 ?side2 A2.out).mono ?_); (case side1 => exact cc_ HR0); (case side2 => exact HC0.out); rintro e w3 ⟨v682, rfl, ho0, hb⟩; have n_ := pk2 (Kd.R_lower ho0 (below_size bl_)) (below_step bl_ hb); clear HB; obtain ⟨HO683, HB⟩ := n_; (try clear hb ho0)) | ((with_reducible refine gate_dst (N := 12) rfl ?_); refine Kd.R_lit Kd.bool _ 4 ?hg (N := 12) ?hd (xs := ([] : List Bool)) (inner := []) (ok := fun _ => True) (okp := fun _ => True) ?hr ?hp (fun _ hk => hk) trivial (Below.refl _ _) (Nat.le_refl _) (by simp) ?_; (case hd => rfl); (case hg => rfl); (case hr => first | (go_simp; done) | (go_simp; rfl)); (case hp => exact (Reps.none _ _)); intro v685 w4 ho5 hb hg_ hnew_; clear hg_ hnew_; (first | rw [← Ny684.out] at ho5 | (simp only [Int.reduceToNat] at ho5; rw [← Ny684.out] at ho5)); have n_ := pk3 (Kd.R_below (ro_ HO683) hb) (Kd.R_lower ho5 (below_size bl_)) (below_step bl_ hb); clear HO683 HB; obtain ⟨HO683, HO686, HB⟩ := n_; clear hb ho5))
  repeat (go_quiet (first | (go_at_call 87; (with_reducible refine (windroseref11_Nums.calls k _ _ l0 t681 _ ?side1 ?side2 A2.out).mono ?_); (case side1 => exact cc_ HR0); (case side2 => exact HC0.out); rintro e w3 ⟨v682, rfl, ho0, hb⟩; have n_ := pk2 (Kd.R_lower ho0 (below_size bl_)) (below_step bl_ hb); clear HB; obtain ⟨HO683, HB⟩ := n_; (try clear hb ho0)) | ((with_reducible refine gate_dst (N := 12) rfl ?_); refine Kd.R_lit Kd.bool _ 4 ?hg (N := 12) ?hd (xs := ([] : List Bool)) (inner := []) (ok := fun _ => True) (okp := fun _ => True) ?hr ?hp (fun _ hk => hk) trivial (Below.refl _ _) (Nat.le_refl _) (by simp) ?_; (case hd => rfl); (case hg => rfl); (case hr => first | (go_simp; done) | (go_simp; rfl)); (case hp => exact (Reps.none _ _)); intro v685 w4 ho5 hb hg_ hnew_; clear hg_ hnew_; (first | rw [← Ny684.out] at ho5 | (simp only [Int.reduceToNat] at ho5; rw [← Ny684.out] at ho5)); have n_ := pk3 (Kd.R_below (ro_ HO683) hb) (Kd.R_lower ho5 (below_size bl_)) (below_step bl_ hb); clear HO683 HB; obtain ⟨HO683, HO686, HB⟩ := n_; clear hb ho5)); try go_wp2_with (first | (go_at_call 87; (with_reducible refine (windroseref11_Nums.calls k _ _ l0 t681 _ ?side1 ?side2 A2.out).mono ?_); (case side1 => exact cc_ HR0); (case side2 => exact HC0.out); rintro e w3 ⟨v682, rfl, ho0, hb⟩; have n_ := pk2 (Kd.R_lower ho0 (below_size bl_)) (below_step bl_ hb); clear HB; obtain ⟨HO683, HB⟩ := n_; (try clear hb ho0)) | ((with_reducible refine gate_dst (N := 12) rfl ?_); refine Kd.R_lit Kd.bool _ 4 ?hg (N := 12) ?hd (xs := ([] : List Bool)) (inner := []) (ok := fun _ => True) (okp := fun _ => True) ?hr ?hp (fun _ hk => hk) trivial (Below.refl _ _) (Nat.le_refl _) (by simp) ?_; (case hd => rfl); (case hg => rfl); (case hr => first | (go_simp; done) | (go_simp; rfl)); (case hp => exact (Reps.none _ _)); intro v685 w4 ho5 hb hg_ hnew_; clear hg_ hnew_; (first | rw [← Ny684.out] at ho5 | (simp only [Int.reduceToNat] at ho5; rw [← Ny684.out] at ho5)); have n_ := pk3 (Kd.R_below (ro_ HO683) hb) (Kd.R_lower ho5 (below_size bl_)) (below_step bl_ hb); clear HO683 HB; obtain ⟨HO683, HO686, HB⟩ := n_; clear hb ho5)))
  go_loopg [4, 5, 6] k (fun kq v4 v5 v6 w' => ∃ (x4_1 : List Bool) (x5_1 : Int) (x6_1 : Int), v5 = .int .i64 x5_1 ∧ v6 = .int .i64 x6_1 ∧ Aside0 (windroseref18_Bits.l0 kq l0 t681 x4_1 x5_1 x6_1 = some r) ∧ Aside0 (kq ≤ k) ∧ Aside0 (Kd.R (Kd.int .i64) 3 w' w.heap.size (fun _ => True) v682 t681) ∧ Aside0 (Kd.R Kd.bool 4 w' w.heap.size (fun _ => True) v4 x4_1) ∧ Aside0 (Below w.heap.size w w'))
  case atStart => exact ⟨(y684), (0), (0), sm_, sm_, H', ⟨Nat.le_refl _⟩, ⟨(ro_ HO683)⟩, ⟨(ro_ HO686)⟩, ⟨bl_⟩⟩
  case round =>
    clear H'
    obtain ⟨x4_1, x5_1, x6_1, rfl, rfl, HA, HK1, HO_3, HO_4, HB⟩ := hrel
    cases gk with
    | zero => exact absurd HA.out (by simp [windroseref18_Bits.l0])
    | succ k1 =>
      have H := HA.out
      clear HA
      simp only [windroseref18_Bits.l0] at H
      replace H := dle H
      rcases H with ⟨c6b0, H⟩ | ⟨c6b0, H⟩
      · obtain ⟨ji7, hji7⟩ : ∃ j_ : Int, (wrap64 (1 + (wrap64 (2 * x6_1)))) = j_ := ⟨_, rfl⟩
        replace H : (if 0 ≤ (ji7) then (if (ji7) < (t681.length : Int) then (if 0 ≤ (wrap64 (2 + (wrap64 (2 * x6_1)))) then (if (wrap64 (2 + (wrap64 (2 * x6_1)))) < (t681.length : Int) then (if x6_1 < 2 then (windroseref18_Bits.j1 k1 l0 t681 x4_1 x5_1 x6_1 (rd t681 (ji7)) (rd t681 (wrap64 (2 + (wrap64 (2 * x6_1))))) true) else (if (rd t681 (ji7)) = 0 then (windroseref18_Bits.j1 k1 l0 t681 x4_1 x5_1 x6_1 (rd t681 (ji7)) (rd t681 (wrap64 (2 + (wrap64 (2 * x6_1))))) ((rd t681 (wrap64 (2 + (wrap64 (2 * x6_1))))) != 0)) else (windroseref18_Bits.j1 k1 l0 t681 x4_1 x5_1 x6_1 (rd t681 (ji7)) (rd t681 (wrap64 (2 + (wrap64 (2 * x6_1))))) true))) else (none)) else (none)) else (none)) else (none)) = some r := by first | (rw [hji7] at H; exact H) | (simp only [hji7] at H ⊢; exact H)
        have hji7w : (IntKind.i64.wrap (1 + (wrap64 (2 * x6_1)))) = ji7 := (i64_w _).trans hji7
        replace H := dle H
        rcases H with ⟨c8b0, H⟩ | ⟨c8b0, H⟩
        · replace H := dle H
          rcases H with ⟨c9b0, H⟩ | ⟨c9b0, H⟩
          · obtain ⟨ji10, hji10⟩ : ∃ j_ : Int, (wrap64 (2 + (wrap64 (2 * x6_1)))) = j_ := ⟨_, rfl⟩
            replace H : (if 0 ≤ (ji10) then (if (ji10) < (t681.length : Int) then (if x6_1 < 2 then (windroseref18_Bits.j1 k1 l0 t681 x4_1 x5_1 x6_1 (rd t681 (ji7)) (rd t681 (ji10)) true) else (if (rd t681 (ji7)) = 0 then (windroseref18_Bits.j1 k1 l0 t681 x4_1 x5_1 x6_1 (rd t681 (ji7)) (rd t681 (ji10)) ((rd t681 (ji10)) != 0)) else (windroseref18_Bits.j1 k1 l0 t681 x4_1 x5_1 x6_1 (rd t681 (ji7)) (rd t681 (ji10)) true))) else (none)) else (none)) = some r := by first | (rw [hji10] at H; exact H) | (simp only [hji10] at H ⊢; exact H)
            have hji10w : (IntKind.i64.wrap (2 + (wrap64 (2 * x6_1)))) = ji10 := (i64_w _).trans hji10
            replace H := dle H
            rcases H with ⟨c11b0, H⟩ | ⟨c11b0, H⟩
            · replace H := dle H
              rcases H with ⟨c12b0, H⟩ | ⟨c12b0, H⟩
              · have HC13 := Aside0.mk H
                clear H
                obtain ⟨Ao14, co14, eo14⟩ := Kd.R_slice HO_3.out
                subst eo14
                have p687 : 0 ≤ ((ji7) : Int) := dc_
                have q687 : (ji7) < (t681.length : Int) := dc_
                obtain ⟨ad687, e687, hx687_0⟩ := Kd.at_int (Kd.R_reads' HO_3.out).2.2 (ji7) p687 q687
                cases e687
                replace p687 := eq_true p687
                replace q687 := eq_true q687
                have p688 : 0 ≤ ((ji10) : Int) := dc_
                have q688 : (ji10) < (t681.length : Int) := dc_
                obtain ⟨ad688, e688, hx688_0⟩ := Kd.at_int (Kd.R_reads' HO_3.out).2.2 (ji10) p688 q688
                obtain rfl : ad687 = ad688 := (by injection e688)
                replace p688 := eq_true p688
                replace q688 := eq_true q688
                go_upto_region 8 with (fail)
                repeat (go_quiet (fail); go_upto_region 8 with (fail))
                go_cut [40] (fun v40 wc => ∃ (kq : Nat) (x40_12 : Bool), v40 = .bool x40_12 ∧ Aside0 (windroseref18_Bits.j1 kq l0 t681 x4_1 x5_1 x6_1 (rd t681 (ji7)) (rd t681 (ji10)) x40_12 = some r) ∧ Aside0 (kq ≤ k1) ∧ Aside0 (Kd.R (Kd.int .i64) 3 wc w.heap.size (fun _ => True) (.slice (some ad687) t681.length co14) t681) ∧ Aside0 (Kd.R Kd.bool 4 wc w.heap.size (fun _ => True) u4 x4_1) ∧ Aside0 (Below w.heap.size w wc))
                case first =>
                  have H := HC13.out
                  clear HC13
                  replace H := dle H
                  rcases H with ⟨c15b0, H⟩ | ⟨c15b0, H⟩
                  focus
                    (first | rw [c15b0] | (simp only [i64_w, i32_w]; rw [c15b0]) | skip)
                    have H' := Aside0.mk H
                    clear H
                  rotate_left
                  focus
                    (first | rw [c15b0] | (simp only [i64_w, i32_w]; rw [c15b0]) | skip)
                    replace H := deqn H
                    rcases H with ⟨c16b0, c16b1, H⟩ | ⟨c16b0, c16b1, c16, H⟩
                    focus
                      have H' := Aside0.mk H
                      clear H
                    rotate_left
                    focus
                      have H' := Aside0.mk H
                      clear H
                  all_goals
                    go_wp2
                    repeat (go_quiet (fail); try go_wp2)
                    go_meet
                    first
                      | case rel => exact ⟨_, (true), sm_, H', ⟨by have := HK1.out; first | omega | exact Nat.le_refl _⟩, ⟨(ro_ HO_3)⟩, ⟨(ro_ HO_4)⟩, ⟨bl_⟩⟩
                      | case rel => exact ⟨_, (((rd t681 (ji10)) != 0)), (by first | rfl | (simp; done) | (simp only [← hji10] <;> (first | rfl | simp)) | (simp [*]; done)), H', ⟨by have := HK1.out; first | omega | exact Nat.le_refl _⟩, ⟨(ro_ HO_3)⟩, ⟨(ro_ HO_4)⟩, ⟨bl_⟩⟩
                case rest =>
                  clear HC13
                  try clear c6
                  try clear c6b0
                  try clear c8
                  try clear c8b0
                  try clear c9
                  try clear c9b0
                  try clear c11
                  try clear c11b0
                  try clear c12
                  try clear c12b0
                  try clear hx687_0
                  try clear hx688_0
                  try clear p687
                  try clear p688
                  try clear q687
                  try clear q688
                  obtain ⟨kq, x40_12, rfl, HA, HJ12, HO_3, HO_4, HB⟩ := hcut
                  cases kq with
                  | zero => exact absurd HA.out (by simp [windroseref18_Bits.j1])
                  | succ kj12 =>
                    have H := HA.out
                    clear HA
                    simp only [windroseref18_Bits.j1] at H
                    replace H := dbool H
                    rcases H with ⟨rfl, H⟩ | ⟨rfl, H⟩
                    focus
                      replace H := bindA H
                      obtain ⟨t689, A18, H⟩ := H
                      try dsimp only at H
                      by_cases c19 : x4_1.length + t689.length < 140737488355328
                      rotate_left
                      · rw [if_neg c19] at H
                        exact absurd H (by simp)
                      rw [if_pos c19] at H
                      have LMc19 := Aside0.mk c19
                      clear c19
                      obtain ⟨y692, hy692⟩ : ∃ y_ : List Bool, y_ = (x4_1 ++ t689) := ⟨_, rfl⟩
                      replace H : ((windroseref17_Coded.f kj12 (rd t681 (ji10))).bind fun t695 => (if y692.length + t695.length < 140737488355328 then (windroseref18_Bits.l0 kj12 l0 t681 (y692 ++ t695) x5_1 (wrap64 (x6_1 + 1))) else (none))) = some r := by first | (rw [hy692]; with_reducible exact H) | (have H2_ := (Option.bind_some _ _).symm.trans H; rw [hy692]; with_reducible exact H2_) | (have H2_ := (Option.bind_some _ _).symm.trans H; with_reducible exact H2_) | with_reducible exact H | (rw [hy692]; exact H) | exact H
                      have Ny692 := Aside0.mk hy692
                      clear hy692
                      replace H := bindA H
                      obtain ⟨t695, A20, H⟩ := H
                      try dsimp only at H
                      by_cases c21 : y692.length + t695.length < 140737488355328
                      rotate_left
                      · rw [if_neg c21] at H
                        exact absurd H (by simp)
                      rw [if_pos c21] at H
                      have LMc21 := Aside0.mk c21
                      clear c21
                      obtain ⟨y698, hy698⟩ : ∃ y_ : List Bool, y_ = (y692 ++ t695) := ⟨_, rfl⟩
                      replace H : (windroseref18_Bits.l0 kj12 l0 t681 y698 x5_1 (wrap64 (x6_1 + 1))) = some r := by first | (rw [hy698]; with_reducible exact H) | (have H2_ := (Option.bind_some _ _).symm.trans H; rw [hy698]; with_reducible exact H2_) | (have H2_ := (Option.bind_some _ _).symm.trans H; with_reducible exact H2_) | with_reducible exact H | (rw [hy698]; exact H) | exact H
                      have Ny698 := Aside0.mk hy698
                      clear hy698
                      have H' := Aside0.mk H
                      clear H
                    rotate_left
                    focus
                      replace H := dgt H
                      rcases H with ⟨c28b0, H⟩ | ⟨c28b0, H⟩
                      rotate_left
                      · have H' := Aside0.mk H
                        clear H
                        go_wp2
                        repeat (go_quiet (fail); try go_wp2)
                        go_loopg [9] kj12 (fun kq v9 w' => ∃ (x9_3 : Int), v9 = .int .i64 x9_3 ∧ Aside0 (windroseref18_Bits.l1 kq l0 t681 x4_1 x6_1 x9_3 = some r) ∧ Aside0 (kq ≤ kj12) ∧ Aside0 (Kd.R (Kd.int .i64) 3 w' w.heap.size (fun _ => True) (.slice (some ad687) t681.length co14) t681) ∧ Aside0 (Kd.R Kd.bool 4 w' w.heap.size (fun _ => True) u4 x4_1) ∧ Aside0 (Below w.heap.size w w'))
                        case atStart => exact ⟨(x6_1), sm_, H', ⟨Nat.le_refl _⟩, ⟨(ro_ HO_3)⟩, ⟨(ro_ HO_4)⟩, ⟨bl_⟩⟩
                        case round =>
                          clear H'
                          try clear c6
                          try clear c6b0
                          try clear c8
                          try clear c8b0
                          try clear c9
                          try clear c9b0
                          try clear c11
                          try clear c11b0
                          try clear c12
                          try clear c12b0
                          try clear c17
                          try clear c28
                          try clear c28b0
                          try clear hx687_0
                          try clear hx688_0
                          try clear p687
                          try clear p688
                          try clear q687
                          try clear q688
                          obtain ⟨x9_3, rfl, HA, HK3, HO_3, HO_4, HB⟩ := hrel
                          cases gk with
                          | zero => exact absurd HA.out (by simp [windroseref18_Bits.l1])
                          | succ k3 =>
                            have H := HA.out
                            clear HA
                            simp only [windroseref18_Bits.l1] at H
                            replace H := dle H
                            rcases H with ⟨c29b0, H⟩ | ⟨c29b0, H⟩
                            focus
                              obtain ⟨ji30, hji30⟩ : ∃ j_ : Int, (wrap64 (1 + (wrap64 (2 * x9_3)))) = j_ := ⟨_, rfl⟩
                              replace H : (if 0 ≤ (ji30) then (if (ji30) < (t681.length : Int) then (if (rd t681 (ji30)) = 0 then (if 0 ≤ (wrap64 (2 + (wrap64 (2 * x9_3)))) then (if (wrap64 (2 + (wrap64 (2 * x9_3)))) < (t681.length : Int) then (if (rd t681 (wrap64 (2 + (wrap64 (2 * x9_3))))) = 0 then (if x9_3 < (wrap64 (x6_1 + 16)) then (windroseref18_Bits.l1 k3 l0 t681 x4_1 x6_1 (wrap64 (x9_3 + 1))) else ((some (([false, false] : List Bool) : List Bool)).bind fun y703 => (if x4_1.length + y703.length < 140737488355328 then ((some (x4_1 ++ y703 : List Bool)).bind fun y706 => ((windroseref17_Low.f k3 (IntKind.u64.wrap (wrap64 ((wrap64 (x9_3 - x6_1)) - 1))) 4).bind fun t709 => (if y706.length + t709.length < 140737488355328 then (windroseref18_Bits.l0 k3 l0 t681 (y706 ++ t709) (wrap64 ((wrap64 (x9_3 - x6_1)) - 1)) (wrap64 (x6_1 + 1))) else (none)))) else (none)))) else ((some (([false, false] : List Bool) : List Bool)).bind fun y715 => (if x4_1.length + y715.length < 140737488355328 then ((some (x4_1 ++ y715 : List Bool)).bind fun y718 => ((windroseref17_Low.f k3 (IntKind.u64.wrap (wrap64 ((wrap64 (x9_3 - x6_1)) - 1))) 4).bind fun t721 => (if y718.length + t721.length < 140737488355328 then (windroseref18_Bits.l0 k3 l0 t681 (y718 ++ t721) (wrap64 ((wrap64 (x9_3 - x6_1)) - 1)) (wrap64 (x6_1 + 1))) else (none)))) else (none)))) else (none)) else (none)) else ((some (([false, false] : List Bool) : List Bool)).bind fun y727 => (if x4_1.length + y727.length < 140737488355328 then ((some (x4_1 ++ y727 : List Bool)).bind fun y730 => ((windroseref17_Low.f k3 (IntKind.u64.wrap (wrap64 ((wrap64 (x9_3 - x6_1)) - 1))) 4).bind fun t733 => (if y730.length + t733.length < 140737488355328 then (windroseref18_Bits.l0 k3 l0 t681 (y730 ++ t733) (wrap64 ((wrap64 (x9_3 - x6_1)) - 1)) (wrap64 (x6_1 + 1))) else (none)))) else (none)))) else (none)) else (none)) = some r := by first | (rw [hji30] at H; exact H) | (simp only [hji30] at H ⊢; exact H)
                              have hji30w : (IntKind.i64.wrap (1 + (wrap64 (2 * x9_3)))) = ji30 := (i64_w _).trans hji30
                              replace H := dle H
                              rcases H with ⟨c31b0, H⟩ | ⟨c31b0, H⟩
                              rotate_left
                              · exact absurd H (by simp)
                              replace H := dle H
                              rcases H with ⟨c32b0, H⟩ | ⟨c32b0, H⟩
                              rotate_left
                              · exact absurd H (by simp)
                              replace H := deqn H
                              rcases H with ⟨c33b0, c33b1, H⟩ | ⟨c33b0, c33b1, c33, H⟩
                              focus
                                obtain ⟨ji34, hji34⟩ : ∃ j_ : Int, (wrap64 (2 + (wrap64 (2 * x9_3)))) = j_ := ⟨_, rfl⟩
                                replace H : (if 0 ≤ (ji34) then (if (ji34) < (t681.length : Int) then (if (rd t681 (ji34)) = 0 then (if x9_3 < (wrap64 (x6_1 + 16)) then (windroseref18_Bits.l1 k3 l0 t681 x4_1 x6_1 (wrap64 (x9_3 + 1))) else ((some (([false, false] : List Bool) : List Bool)).bind fun y703 => (if x4_1.length + y703.length < 140737488355328 then ((some (x4_1 ++ y703 : List Bool)).bind fun y706 => ((windroseref17_Low.f k3 (IntKind.u64.wrap (wrap64 ((wrap64 (x9_3 - x6_1)) - 1))) 4).bind fun t709 => (if y706.length + t709.length < 140737488355328 then (windroseref18_Bits.l0 k3 l0 t681 (y706 ++ t709) (wrap64 ((wrap64 (x9_3 - x6_1)) - 1)) (wrap64 (x6_1 + 1))) else (none)))) else (none)))) else ((some (([false, false] : List Bool) : List Bool)).bind fun y715 => (if x4_1.length + y715.length < 140737488355328 then ((some (x4_1 ++ y715 : List Bool)).bind fun y718 => ((windroseref17_Low.f k3 (IntKind.u64.wrap (wrap64 ((wrap64 (x9_3 - x6_1)) - 1))) 4).bind fun t721 => (if y718.length + t721.length < 140737488355328 then (windroseref18_Bits.l0 k3 l0 t681 (y718 ++ t721) (wrap64 ((wrap64 (x9_3 - x6_1)) - 1)) (wrap64 (x6_1 + 1))) else (none)))) else (none)))) else (none)) else (none)) = some r := by first | (rw [hji34] at H; exact H) | (simp only [hji34] at H ⊢; exact H)
                                have hji34w : (IntKind.i64.wrap (2 + (wrap64 (2 * x9_3)))) = ji34 := (i64_w _).trans hji34
                                replace H := dle H
                                rcases H with ⟨c35b0, H⟩ | ⟨c35b0, H⟩
                                rotate_left
                                · exact absurd H (by simp)
                                replace H := dle H
                                rcases H with ⟨c36b0, H⟩ | ⟨c36b0, H⟩
                                rotate_left
                                · exact absurd H (by simp)
                                replace H := deqn H
                                rcases H with ⟨c37b0, c37b1, H⟩ | ⟨c37b0, c37b1, c37, H⟩
                                focus
                                  replace H := dle H
                                  rcases H with ⟨c38b0, H⟩ | ⟨c38b0, H⟩
                                  focus
                                    have H' := Aside0.mk H
                                    clear H
                                    have p701 : 0 ≤ ((ji30) : Int) := dc_
                                    have q701 : (ji30) < (t681.length : Int) := dc_
                                    obtain ⟨ad701, e701, hx701_0⟩ := Kd.at_int (Kd.R_reads' HO_3.out).2.2 (ji30) p701 q701
                                    obtain rfl : ad687 = ad701 := (by injection e701)
                                    replace p701 := eq_true p701
                                    replace q701 := eq_true q701
                                    have p702 : 0 ≤ ((ji34) : Int) := dc_
                                    have q702 : (ji34) < (t681.length : Int) := dc_
                                    obtain ⟨ad702, e702, hx702_0⟩ := Kd.at_int (Kd.R_reads' HO_3.out).2.2 (ji34) p702 q702
                                    obtain rfl : ad687 = ad702 := (by injection e702)
                                    replace p702 := eq_true p702
                                    replace q702 := eq_true q702
                                  rotate_left
                                  focus
                                    obtain ⟨y703, hy703⟩ : ∃ y_ : List Bool, y_ = (([false, false] : List Bool)) := ⟨_, rfl⟩
                                    replace H : (if x4_1.length + y703.length < 140737488355328 then ((some (x4_1 ++ y703 : List Bool)).bind fun y706 => ((windroseref17_Low.f k3 (IntKind.u64.wrap (wrap64 ((wrap64 (x9_3 - x6_1)) - 1))) 4).bind fun t709 => (if y706.length + t709.length < 140737488355328 then (windroseref18_Bits.l0 k3 l0 t681 (y706 ++ t709) (wrap64 ((wrap64 (x9_3 - x6_1)) - 1)) (wrap64 (x6_1 + 1))) else (none)))) else (none)) = some r := by first | (rw [hy703]; with_reducible exact H) | (have H2_ := (Option.bind_some _ _).symm.trans H; rw [hy703]; with_reducible exact H2_) | (have H2_ := (Option.bind_some _ _).symm.trans H; with_reducible exact H2_) | with_reducible exact H | (rw [hy703]; exact H) | exact H
                                    have Ny703 := Aside0.mk hy703
                                    clear hy703
                                    by_cases c39 : x4_1.length + y703.length < 140737488355328
                                    rotate_left
                                    · rw [if_neg c39] at H
                                      exact absurd H (by simp)
                                    rw [if_pos c39] at H
                                    have LMc39 := Aside0.mk c39
                                    clear c39
                                    obtain ⟨y706, hy706⟩ : ∃ y_ : List Bool, y_ = (x4_1 ++ y703) := ⟨_, rfl⟩
                                    replace H : ((windroseref17_Low.f k3 (IntKind.u64.wrap (wrap64 ((wrap64 (x9_3 - x6_1)) - 1))) 4).bind fun t709 => (if y706.length + t709.length < 140737488355328 then (windroseref18_Bits.l0 k3 l0 t681 (y706 ++ t709) (wrap64 ((wrap64 (x9_3 - x6_1)) - 1)) (wrap64 (x6_1 + 1))) else (none))) = some r := by first | (rw [hy706]; with_reducible exact H) | (have H2_ := (Option.bind_some _ _).symm.trans H; rw [hy706]; with_reducible exact H2_) | (have H2_ := (Option.bind_some _ _).symm.trans H; with_reducible exact H2_) | with_reducible exact H | (rw [hy706]; exact H) | exact H
                                    have Ny706 := Aside0.mk hy706
                                    clear hy706
                                    replace H := bindA H
                                    obtain ⟨t709, A40, H⟩ := H
                                    try dsimp only at H
                                    by_cases c41 : y706.length + t709.length < 140737488355328
                                    rotate_left
                                    · rw [if_neg c41] at H
                                      exact absurd H (by simp)
                                    rw [if_pos c41] at H
                                    have LMc41 := Aside0.mk c41
                                    clear c41
                                    obtain ⟨y712, hy712⟩ : ∃ y_ : List Bool, y_ = (y706 ++ t709) := ⟨_, rfl⟩
                                    replace H : (windroseref18_Bits.l0 k3 l0 t681 y712 (wrap64 ((wrap64 (x9_3 - x6_1)) - 1)) (wrap64 (x6_1 + 1))) = some r := by first | (rw [hy712]; with_reducible exact H) | (have H2_ := (Option.bind_some _ _).symm.trans H; rw [hy712]; with_reducible exact H2_) | (have H2_ := (Option.bind_some _ _).symm.trans H; with_reducible exact H2_) | with_reducible exact H | (rw [hy712]; exact H) | exact H
                                    have Ny712 := Aside0.mk hy712
                                    clear hy712
                                    have H' := Aside0.mk H
                                    clear H
                                    have p701 : 0 ≤ ((ji30) : Int) := dc_
                                    have q701 : (ji30) < (t681.length : Int) := dc_
                                    obtain ⟨ad701, e701, hx701_0⟩ := Kd.at_int (Kd.R_reads' HO_3.out).2.2 (ji30) p701 q701
                                    obtain rfl : ad687 = ad701 := (by injection e701)
                                    replace p701 := eq_true p701
                                    replace q701 := eq_true q701
                                    have p702 : 0 ≤ ((ji34) : Int) := dc_
                                    have q702 : (ji34) < (t681.length : Int) := dc_
                                    obtain ⟨ad702, e702, hx702_0⟩ := Kd.at_int (Kd.R_reads' HO_3.out).2.2 (ji34) p702 q702
                                    obtain rfl : ad687 = ad702 := (by injection e702)
                                    replace p702 := eq_true p702
                                    replace q702 := eq_true q702
                                rotate_left 2
                                focus
                                  obtain ⟨y715, hy715⟩ : ∃ y_ : List Bool, y_ = (([false, false] : List Bool)) := ⟨_, rfl⟩
                                  replace H : (if x4_1.length + y715.length < 140737488355328 then ((some (x4_1 ++ y715 : List Bool)).bind fun y718 => ((windroseref17_Low.f k3 (IntKind.u64.wrap (wrap64 ((wrap64 (x9_3 - x6_1)) - 1))) 4).bind fun t721 => (if y718.length + t721.length < 140737488355328 then (windroseref18_Bits.l0 k3 l0 t681 (y718 ++ t721) (wrap64 ((wrap64 (x9_3 - x6_1)) - 1)) (wrap64 (x6_1 + 1))) else (none)))) else (none)) = some r := by first | (rw [hy715]; with_reducible exact H) | (have H2_ := (Option.bind_some _ _).symm.trans H; rw [hy715]; with_reducible exact H2_) | (have H2_ := (Option.bind_some _ _).symm.trans H; with_reducible exact H2_) | with_reducible exact H | (rw [hy715]; exact H) | exact H
                                  have Ny715 := Aside0.mk hy715
                                  clear hy715
                                  by_cases c49 : x4_1.length + y715.length < 140737488355328
                                  rotate_left
                                  · rw [if_neg c49] at H
                                    exact absurd H (by simp)
                                  rw [if_pos c49] at H
                                  have LMc49 := Aside0.mk c49
                                  clear c49
                                  obtain ⟨y718, hy718⟩ : ∃ y_ : List Bool, y_ = (x4_1 ++ y715) := ⟨_, rfl⟩
                                  replace H : ((windroseref17_Low.f k3 (IntKind.u64.wrap (wrap64 ((wrap64 (x9_3 - x6_1)) - 1))) 4).bind fun t721 => (if y718.length + t721.length < 140737488355328 then (windroseref18_Bits.l0 k3 l0 t681 (y718 ++ t721) (wrap64 ((wrap64 (x9_3 - x6_1)) - 1)) (wrap64 (x6_1 + 1))) else (none))) = some r := by first | (rw [hy718]; with_reducible exact H) | (have H2_ := (Option.bind_some _ _).symm.trans H; rw [hy718]; with_reducible exact H2_) | (have H2_ := (Option.bind_some _ _).symm.trans H; with_reducible exact H2_) | with_reducible exact H | (rw [hy718]; exact H) | exact H
                                  have Ny718 := Aside0.mk hy718
                                  clear hy718
                                  replace H := bindA H
                                  obtain ⟨t721, A50, H⟩ := H
                                  try dsimp only at H
                                  by_cases c51 : y718.length + t721.length < 140737488355328
                                  rotate_left
                                  · rw [if_neg c51] at H
                                    exact absurd H (by simp)
                                  rw [if_pos c51] at H
                                  have LMc51 := Aside0.mk c51
                                  clear c51
                                  obtain ⟨y724, hy724⟩ : ∃ y_ : List Bool, y_ = (y718 ++ t721) := ⟨_, rfl⟩
                                  replace H : (windroseref18_Bits.l0 k3 l0 t681 y724 (wrap64 ((wrap64 (x9_3 - x6_1)) - 1)) (wrap64 (x6_1 + 1))) = some r := by first | (rw [hy724]; with_reducible exact H) | (have H2_ := (Option.bind_some _ _).symm.trans H; rw [hy724]; with_reducible exact H2_) | (have H2_ := (Option.bind_some _ _).symm.trans H; with_reducible exact H2_) | with_reducible exact H | (rw [hy724]; exact H) | exact H
                                  have Ny724 := Aside0.mk hy724
                                  clear hy724
                                  have H' := Aside0.mk H
                                  clear H
                                  have p701 : 0 ≤ ((ji30) : Int) := dc_
                                  have q701 : (ji30) < (t681.length : Int) := dc_
                                  obtain ⟨ad701, e701, hx701_0⟩ := Kd.at_int (Kd.R_reads' HO_3.out).2.2 (ji30) p701 q701
                                  obtain rfl : ad687 = ad701 := (by injection e701)
                                  replace p701 := eq_true p701
                                  replace q701 := eq_true q701
                                  have p702 : 0 ≤ ((ji34) : Int) := dc_
                                  have q702 : (ji34) < (t681.length : Int) := dc_
                                  obtain ⟨ad702, e702, hx702_0⟩ := Kd.at_int (Kd.R_reads' HO_3.out).2.2 (ji34) p702 q702
                                  obtain rfl : ad687 = ad702 := (by injection e702)
                                  replace p702 := eq_true p702
                                  replace q702 := eq_true q702
                              rotate_left 3
                              focus
                                obtain ⟨y727, hy727⟩ : ∃ y_ : List Bool, y_ = (([false, false] : List Bool)) := ⟨_, rfl⟩
                                replace H : (if x4_1.length + y727.length < 140737488355328 then ((some (x4_1 ++ y727 : List Bool)).bind fun y730 => ((windroseref17_Low.f k3 (IntKind.u64.wrap (wrap64 ((wrap64 (x9_3 - x6_1)) - 1))) 4).bind fun t733 => (if y730.length + t733.length < 140737488355328 then (windroseref18_Bits.l0 k3 l0 t681 (y730 ++ t733) (wrap64 ((wrap64 (x9_3 - x6_1)) - 1)) (wrap64 (x6_1 + 1))) else (none)))) else (none)) = some r := by first | (rw [hy727]; with_reducible exact H) | (have H2_ := (Option.bind_some _ _).symm.trans H; rw [hy727]; with_reducible exact H2_) | (have H2_ := (Option.bind_some _ _).symm.trans H; with_reducible exact H2_) | with_reducible exact H | (rw [hy727]; exact H) | exact H
                                have Ny727 := Aside0.mk hy727
                                clear hy727
                                by_cases c59 : x4_1.length + y727.length < 140737488355328
                                rotate_left
                                · rw [if_neg c59] at H
                                  exact absurd H (by simp)
                                rw [if_pos c59] at H
                                have LMc59 := Aside0.mk c59
                                clear c59
                                obtain ⟨y730, hy730⟩ : ∃ y_ : List Bool, y_ = (x4_1 ++ y727) := ⟨_, rfl⟩
                                replace H : ((windroseref17_Low.f k3 (IntKind.u64.wrap (wrap64 ((wrap64 (x9_3 - x6_1)) - 1))) 4).bind fun t733 => (if y730.length + t733.length < 140737488355328 then (windroseref18_Bits.l0 k3 l0 t681 (y730 ++ t733) (wrap64 ((wrap64 (x9_3 - x6_1)) - 1)) (wrap64 (x6_1 + 1))) else (none))) = some r := by first | (rw [hy730]; with_reducible exact H) | (have H2_ := (Option.bind_some _ _).symm.trans H; rw [hy730]; with_reducible exact H2_) | (have H2_ := (Option.bind_some _ _).symm.trans H; with_reducible exact H2_) | with_reducible exact H | (rw [hy730]; exact H) | exact H
                                have Ny730 := Aside0.mk hy730
                                clear hy730
                                replace H := bindA H
                                obtain ⟨t733, A60, H⟩ := H
                                try dsimp only at H
                                by_cases c61 : y730.length + t733.length < 140737488355328
                                rotate_left
                                · rw [if_neg c61] at H
                                  exact absurd H (by simp)
                                rw [if_pos c61] at H
                                have LMc61 := Aside0.mk c61
                                clear c61
                                obtain ⟨y736, hy736⟩ : ∃ y_ : List Bool, y_ = (y730 ++ t733) := ⟨_, rfl⟩
                                replace H : (windroseref18_Bits.l0 k3 l0 t681 y736 (wrap64 ((wrap64 (x9_3 - x6_1)) - 1)) (wrap64 (x6_1 + 1))) = some r := by first | (rw [hy736]; with_reducible exact H) | (have H2_ := (Option.bind_some _ _).symm.trans H; rw [hy736]; with_reducible exact H2_) | (have H2_ := (Option.bind_some _ _).symm.trans H; with_reducible exact H2_) | with_reducible exact H | (rw [hy736]; exact H) | exact H
                                have Ny736 := Aside0.mk hy736
                                clear hy736
                                have H' := Aside0.mk H
                                clear H
                                have p701 : 0 ≤ ((ji30) : Int) := dc_
                                have q701 : (ji30) < (t681.length : Int) := dc_
                                obtain ⟨ad701, e701, hx701_0⟩ := Kd.at_int (Kd.R_reads' HO_3.out).2.2 (ji30) p701 q701
                                obtain rfl : ad687 = ad701 := (by injection e701)
                                replace p701 := eq_true p701
                                replace q701 := eq_true q701
                            rotate_left 4
                            focus
                              obtain ⟨y739, hy739⟩ : ∃ y_ : List Bool, y_ = (([false, false] : List Bool)) := ⟨_, rfl⟩
                              replace H : (if x4_1.length + y739.length < 140737488355328 then ((some (x4_1 ++ y739 : List Bool)).bind fun y742 => ((windroseref17_Low.f k3 (IntKind.u64.wrap (wrap64 ((wrap64 (x9_3 - x6_1)) - 1))) 4).bind fun t745 => (if y742.length + t745.length < 140737488355328 then (windroseref18_Bits.l0 k3 l0 t681 (y742 ++ t745) (wrap64 ((wrap64 (x9_3 - x6_1)) - 1)) (wrap64 (x6_1 + 1))) else (none)))) else (none)) = some r := by first | (rw [hy739]; with_reducible exact H) | (have H2_ := (Option.bind_some _ _).symm.trans H; rw [hy739]; with_reducible exact H2_) | (have H2_ := (Option.bind_some _ _).symm.trans H; with_reducible exact H2_) | with_reducible exact H | (rw [hy739]; exact H) | exact H
                              have Ny739 := Aside0.mk hy739
                              clear hy739
                              by_cases c69 : x4_1.length + y739.length < 140737488355328
                              rotate_left
                              · rw [if_neg c69] at H
                                exact absurd H (by simp)
                              rw [if_pos c69] at H
                              have LMc69 := Aside0.mk c69
                              clear c69
                              obtain ⟨y742, hy742⟩ : ∃ y_ : List Bool, y_ = (x4_1 ++ y739) := ⟨_, rfl⟩
                              replace H : ((windroseref17_Low.f k3 (IntKind.u64.wrap (wrap64 ((wrap64 (x9_3 - x6_1)) - 1))) 4).bind fun t745 => (if y742.length + t745.length < 140737488355328 then (windroseref18_Bits.l0 k3 l0 t681 (y742 ++ t745) (wrap64 ((wrap64 (x9_3 - x6_1)) - 1)) (wrap64 (x6_1 + 1))) else (none))) = some r := by first | (rw [hy742]; with_reducible exact H) | (have H2_ := (Option.bind_some _ _).symm.trans H; rw [hy742]; with_reducible exact H2_) | (have H2_ := (Option.bind_some _ _).symm.trans H; with_reducible exact H2_) | with_reducible exact H | (rw [hy742]; exact H) | exact H
                              have Ny742 := Aside0.mk hy742
                              clear hy742
                              replace H := bindA H
                              obtain ⟨t745, A70, H⟩ := H
                              try dsimp only at H
                              by_cases c71 : y742.length + t745.length < 140737488355328
                              rotate_left
                              · rw [if_neg c71] at H
                                exact absurd H (by simp)
                              rw [if_pos c71] at H
                              have LMc71 := Aside0.mk c71
                              clear c71
                              obtain ⟨y748, hy748⟩ : ∃ y_ : List Bool, y_ = (y742 ++ t745) := ⟨_, rfl⟩
                              replace H : (windroseref18_Bits.l0 k3 l0 t681 y748 (wrap64 ((wrap64 (x9_3 - x6_1)) - 1)) (wrap64 (x6_1 + 1))) = some r := by first | (rw [hy748]; with_reducible exact H) | (have H2_ := (Option.bind_some _ _).symm.trans H; rw [hy748]; with_reducible exact H2_) | (have H2_ := (Option.bind_some _ _).symm.trans H; with_reducible exact H2_) | with_reducible exact H | (rw [hy748]; exact H) | exact H
                              have Ny748 := Aside0.mk hy748
                              clear hy748
                              have H' := Aside0.mk H
                              clear H
                            all_goals
                              go_wp2_with (first | ((with_reducible refine gate_dst (N := 89) rfl ?_); refine Kd.R_lit Kd.bool _ 4 ?hg (N := 89) ?hd (xs := ([false, false] : List Bool)) (inner := [.bool false, .bool false]) (ok := fun _ => True) (okp := fun _ => True) ?hr ?hp (fun _ hk => hk) trivial (Below.refl _ _) (Nat.le_refl _) (by simp) ?_; (case hd => rfl); (case hg => rfl); (case hr => first | (go_simp; done) | (go_simp; rfl)); (case hp => exact (Reps.one (show Kd.M Kd.bool _ _ _ false [.bool false] from rfl) (Reps.one (show Kd.M Kd.bool _ _ _ false [.bool false] from rfl) (Reps.none _ _)))); intro v7000 w7000 ho7000 hb hg_ hnew_; clear hg_ hnew_; (try ((first | rw [← Ny703.out] at ho7000 | (simp only [Int.reduceToNat] at ho7000; rw [← Ny703.out] at ho7000)); have n_ := pk4 (Kd.R_below (ro_ HO_3) hb) (Kd.R_elder' (ro_ HO_4) (Kd.R_base ho7000) hb) (Kd.R_lower (Kd.R_new' ho7000 (Kd.R_lt (ro_ HO_4))) (below_size bl_)) (below_step bl_ hb); clear HO_3 HO_4 HB; obtain ⟨HO_3, HO_4, HO7000, HB⟩ := n_; clear hb ho7000; obtain ⟨Ao7000, co7000, eo7000⟩ := Kd.R_slice HO7000.out; subst eo7000)); (try ((first | rw [← Ny715.out] at ho7000 | (simp only [Int.reduceToNat] at ho7000; rw [← Ny715.out] at ho7000)); have n_ := pk4 (Kd.R_below (ro_ HO_3) hb) (Kd.R_elder' (ro_ HO_4) (Kd.R_base ho7000) hb) (Kd.R_lower (Kd.R_new' ho7000 (Kd.R_lt (ro_ HO_4))) (below_size bl_)) (below_step bl_ hb); clear HO_3 HO_4 HB; obtain ⟨HO_3, HO_4, HO7000, HB⟩ := n_; clear hb ho7000; obtain ⟨Ao7000, co7000, eo7000⟩ := Kd.R_slice HO7000.out; subst eo7000)); (try ((first | rw [← Ny727.out] at ho7000 | (simp only [Int.reduceToNat] at ho7000; rw [← Ny727.out] at ho7000)); have n_ := pk4 (Kd.R_below (ro_ HO_3) hb) (Kd.R_elder' (ro_ HO_4) (Kd.R_base ho7000) hb) (Kd.R_lower (Kd.R_new' ho7000 (Kd.R_lt (ro_ HO_4))) (below_size bl_)) (below_step bl_ hb); clear HO_3 HO_4 HB; obtain ⟨HO_3, HO_4, HO7000, HB⟩ := n_; clear hb ho7000; obtain ⟨Ao7000, co7000, eo7000⟩ := Kd.R_slice HO7000.out; subst eo7000)); (try ((first | rw [← Ny739.out] at ho7000 | (simp only [Int.reduceToNat] at ho7000; rw [← Ny739.out] at ho7000)); have n_ := pk4 (Kd.R_below (ro_ HO_3) hb) (Kd.R_elder' (ro_ HO_4) (Kd.R_base ho7000) hb) (Kd.R_lower (Kd.R_new' ho7000 (Kd.R_lt (ro_ HO_4))) (below_size bl_)) (below_step bl_ hb); clear HO_3 HO_4 HB; obtain ⟨HO_3, HO_4, HO7000, HB⟩ := n_; clear hb ho7000; obtain ⟨Ao7000, co7000, eo7000⟩ := Kd.R_slice HO7000.out; subst eo7000))) | ((with_reducible refine gate_builtin (b := .append) (xs := #[.tmp 88, .tmp 89]) rfl ?_); at_builtin; refine Kd.R_append_rows Kd.bool (w0 := w) w.heap.size rfl (.tmp 88) (.tmp 89) 39 4 (.bool false) 1 rfl Try.underlying39 info4 rfl (by decide) (by omega) u4 x4_1 y703 _ _ _ (fun k_ => some k_ ≠ (.slice Ao7000 y703.length co7000 : Value).ownBlock) (fun _ => False) rfl rfl ?aO ?aR (fun _ _ h => h) (fun _ h => h.elim) ?aF ?aB ?aS ?aL ?_; (case aR => exact cr_ HO7000); (case aB => exact bl_); (case aF => exact (fun k_ hk => Kd.fresh' (Kd.R_lt (ro_ HO7000)) k_ hk)); (case aO => exact (rt_ (Kd.R_mono HO_4.out (fun _ hk => hk.2)))); (case aS => exact (below_size bl_)); (case aL => have := LMc39.out; omega); intro v7001 w7001 ho hb hg hat; rw [← Ny706.out] at ho; have n_ := pk4 (Kd.R_over' (ro_ HO_3) (Kd.R_typed (ro_ HO_4)) (by decide) hg) (Kd.R_after (ok := (fun _ => True)) (ro_ HO7000) hg hat) (hb) (ho); clear HO_3 HO7000 HB HO_4; obtain ⟨HO_3, HO7000, HB, HO7001⟩ := n_; clear ho hb hg hat) | ((with_reducible refine gate_builtin (b := .append) (xs := #[.tmp 88, .tmp 89]) rfl ?_); at_builtin; refine Kd.R_append_rows Kd.bool (w0 := w) w.heap.size rfl (.tmp 88) (.tmp 89) 39 4 (.bool false) 1 rfl Try.underlying39 info4 rfl (by decide) (by omega) u4 x4_1 y715 _ _ _ (fun k_ => some k_ ≠ (.slice Ao7000 y715.length co7000 : Value).ownBlock) (fun _ => False) rfl rfl ?aO ?aR (fun _ _ h => h) (fun _ h => h.elim) ?aF ?aB ?aS ?aL ?_; (case aR => exact cr_ HO7000); (case aB => exact bl_); (case aF => exact (fun k_ hk => Kd.fresh' (Kd.R_lt (ro_ HO7000)) k_ hk)); (case aO => exact (rt_ (Kd.R_mono HO_4.out (fun _ hk => hk.2)))); (case aS => exact (below_size bl_)); (case aL => have := LMc49.out; omega); intro v7001 w7001 ho hb hg hat; rw [← Ny718.out] at ho; have n_ := pk4 (Kd.R_over' (ro_ HO_3) (Kd.R_typed (ro_ HO_4)) (by decide) hg) (Kd.R_after (ok := (fun _ => True)) (ro_ HO7000) hg hat) (hb) (ho); clear HO_3 HO7000 HB HO_4; obtain ⟨HO_3, HO7000, HB, HO7001⟩ := n_; clear ho hb hg hat) | ((with_reducible refine gate_builtin (b := .append) (xs := #[.tmp 88, .tmp 89]) rfl ?_); at_builtin; refine Kd.R_append_rows Kd.bool (w0 := w) w.heap.size rfl (.tmp 88) (.tmp 89) 39 4 (.bool false) 1 rfl Try.underlying39 info4 rfl (by decide) (by omega) u4 x4_1 y727 _ _ _ (fun k_ => some k_ ≠ (.slice Ao7000 y727.length co7000 : Value).ownBlock) (fun _ => False) rfl rfl ?aO ?aR (fun _ _ h => h) (fun _ h => h.elim) ?aF ?aB ?aS ?aL ?_; (case aR => exact cr_ HO7000); (case aB => exact bl_); (case aF => exact (fun k_ hk => Kd.fresh' (Kd.R_lt (ro_ HO7000)) k_ hk)); (case aO => exact (rt_ (Kd.R_mono HO_4.out (fun _ hk => hk.2)))); (case aS => exact (below_size bl_)); (case aL => have := LMc59.out; omega); intro v7001 w7001 ho hb hg hat; rw [← Ny730.out] at ho; have n_ := pk4 (Kd.R_over' (ro_ HO_3) (Kd.R_typed (ro_ HO_4)) (by decide) hg) (Kd.R_after (ok := (fun _ => True)) (ro_ HO7000) hg hat) (hb) (ho); clear HO_3 HO7000 HB HO_4; obtain ⟨HO_3, HO7000, HB, HO7001⟩ := n_; clear ho hb hg hat) | ((with_reducible refine gate_builtin (b := .append) (xs := #[.tmp 88, .tmp 89]) rfl ?_); at_builtin; refine Kd.R_append_rows Kd.bool (w0 := w) w.heap.size rfl (.tmp 88) (.tmp 89) 39 4 (.bool false) 1 rfl Try.underlying39 info4 rfl (by decide) (by omega) u4 x4_1 y739 _ _ _ (fun k_ => some k_ ≠ (.slice Ao7000 y739.length co7000 : Value).ownBlock) (fun _ => False) rfl rfl ?aO ?aR (fun _ _ h => h) (fun _ h => h.elim) ?aF ?aB ?aS ?aL ?_; (case aR => exact cr_ HO7000); (case aB => exact bl_); (case aF => exact (fun k_ hk => Kd.fresh' (Kd.R_lt (ro_ HO7000)) k_ hk)); (case aO => exact (rt_ (Kd.R_mono HO_4.out (fun _ hk => hk.2)))); (case aS => exact (below_size bl_)); (case aL => have := LMc69.out; omega); intro v7001 w7001 ho hb hg hat; rw [← Ny742.out] at ho; have n_ := pk4 (Kd.R_over' (ro_ HO_3) (Kd.R_typed (ro_ HO_4)) (by decide) hg) (Kd.R_after (ok := (fun _ => True)) (ro_ HO7000) hg hat) (hb) (ho); clear HO_3 HO7000 HB HO_4; obtain ⟨HO_3, HO7000, HB, HO7001⟩ := n_; clear ho hb hg hat) | (go_at_call 35; (with_reducible refine (windroseref17_Low.calls k3 (IntKind.u64.wrap (wrap64 ((wrap64 (x9_3 - x6_1)) - 1))) 4 t709 _ A40.out).mono ?_); rintro e w7002 ⟨v7002, rfl, ho0, hb⟩; have n_ := pk5 (Kd.R_below (ro_ HO_3) hb) (Kd.R_elder' (ro_ HO7000) (Kd.R_base ho0) hb) (Kd.R_elder' (ro_ HO7001) (Kd.R_base ho0) hb) (Kd.R_lower (Kd.R_new' (Kd.R_new' ho0 (Kd.R_lt (ro_ HO7000))) (Kd.R_lt (ro_ HO7001))) (below_size bl_)) (below_step bl_ hb); clear HO_3 HO7000 HO7001 HB; obtain ⟨HO_3, HO7000, HO7001, HO7002, HB⟩ := n_; (try clear hb ho0); obtain ⟨Ao7001, co7001, eo7001⟩ := Kd.R_slice HO7002.out; subst eo7001) | (go_at_call 35; (with_reducible refine (windroseref17_Low.calls k3 (IntKind.u64.wrap (wrap64 ((wrap64 (x9_3 - x6_1)) - 1))) 4 t721 _ A50.out).mono ?_); rintro e w7002 ⟨v7002, rfl, ho0, hb⟩; have n_ := pk5 (Kd.R_below (ro_ HO_3) hb) (Kd.R_elder' (ro_ HO7000) (Kd.R_base ho0) hb) (Kd.R_elder' (ro_ HO7001) (Kd.R_base ho0) hb) (Kd.R_lower (Kd.R_new' (Kd.R_new' ho0 (Kd.R_lt (ro_ HO7000))) (Kd.R_lt (ro_ HO7001))) (below_size bl_)) (below_step bl_ hb); clear HO_3 HO7000 HO7001 HB; obtain ⟨HO_3, HO7000, HO7001, HO7002, HB⟩ := n_; (try clear hb ho0); obtain ⟨Ao7001, co7001, eo7001⟩ := Kd.R_slice HO7002.out; subst eo7001) | (go_at_call 35; (with_reducible refine (windroseref17_Low.calls k3 (IntKind.u64.wrap (wrap64 ((wrap64 (x9_3 - x6_1)) - 1))) 4 t733 _ A60.out).mono ?_); rintro e w7002 ⟨v7002, rfl, ho0, hb⟩; have n_ := pk5 (Kd.R_below (ro_ HO_3) hb) (Kd.R_elder' (ro_ HO7000) (Kd.R_base ho0) hb) (Kd.R_elder' (ro_ HO7001) (Kd.R_base ho0) hb) (Kd.R_lower (Kd.R_new' (Kd.R_new' ho0 (Kd.R_lt (ro_ HO7000))) (Kd.R_lt (ro_ HO7001))) (below_size bl_)) (below_step bl_ hb); clear HO_3 HO7000 HO7001 HB; obtain ⟨HO_3, HO7000, HO7001, HO7002, HB⟩ := n_; (try clear hb ho0); obtain ⟨Ao7001, co7001, eo7001⟩ := Kd.R_slice HO7002.out; subst eo7001) | (go_at_call 35; (with_reducible refine (windroseref17_Low.calls k3 (IntKind.u64.wrap (wrap64 ((wrap64 (x9_3 - x6_1)) - 1))) 4 t745 _ A70.out).mono ?_); rintro e w7002 ⟨v7002, rfl, ho0, hb⟩; have n_ := pk5 (Kd.R_below (ro_ HO_3) hb) (Kd.R_elder' (ro_ HO7000) (Kd.R_base ho0) hb) (Kd.R_elder' (ro_ HO7001) (Kd.R_base ho0) hb) (Kd.R_lower (Kd.R_new' (Kd.R_new' ho0 (Kd.R_lt (ro_ HO7000))) (Kd.R_lt (ro_ HO7001))) (below_size bl_)) (below_step bl_ hb); clear HO_3 HO7000 HO7001 HB; obtain ⟨HO_3, HO7000, HO7001, HO7002, HB⟩ := n_; (try clear hb ho0); obtain ⟨Ao7001, co7001, eo7001⟩ := Kd.R_slice HO7002.out; subst eo7001) | ((with_reducible refine gate_builtin (b := .append) (xs := #[.tmp 91, .tmp 94]) rfl ?_); at_builtin; refine Kd.R_append_rows Kd.bool (w0 := w) w.heap.size rfl (.tmp 91) (.tmp 94) 39 4 (.bool false) 1 rfl Try.underlying39 info4 rfl (by decide) (by omega) v7001 y706 t709 _ _ _ (fun k_ => some k_ ≠ (.slice Ao7000 y703.length co7000 : Value).ownBlock ∧ some k_ ≠ (.slice Ao7001 t709.length co7001 : Value).ownBlock) (fun _ => False) rfl rfl ?aO ?aR (fun _ _ h => h) (fun _ h => h.elim) ?aF ?aB ?aS ?aL ?_; (case aR => exact cr_ HO7002); (case aB => exact bl_); (case aF => exact (fun k_ hk => ⟨Kd.fresh' (Kd.R_lt (ro_ HO7000)) k_ hk, Kd.fresh' (Kd.R_lt (ro_ HO7002)) k_ hk⟩)); (case aO => exact (ro_ HO7001)); (case aS => exact (below_size bl_)); (case aL => have := LMc41.out; omega); intro v7003 w7003 ho hb hg hat; rw [← Ny712.out] at ho; have n_ := pk5 (Kd.R_over' (ro_ HO_3) (Kd.R_typed (ro_ HO7001)) (by decide) hg) (Kd.R_after (ok := (fun k_ => some k_ ≠ (.slice Ao7001 t709.length co7001 : Value).ownBlock)) (rt_ (Kd.R_mono HO7000.out (fun _ hk => ⟨hk.2, hk.1.2⟩))) hg hat) (Kd.R_after (ok := (fun k_ => some k_ ≠ (.slice Ao7000 y703.length co7000 : Value).ownBlock)) (rt_ (Kd.R_mono HO7002.out (fun _ hk => ⟨hk.1.2, hk.2⟩))) hg hat) (hb) (ho); clear HO_3 HO7000 HO7002 HB HO7001; obtain ⟨HO_3, HO7000, HO7002, HB, HO7003⟩ := n_; clear ho hb hg hat) | ((with_reducible refine gate_builtin (b := .append) (xs := #[.tmp 91, .tmp 94]) rfl ?_); at_builtin; refine Kd.R_append_rows Kd.bool (w0 := w) w.heap.size rfl (.tmp 91) (.tmp 94) 39 4 (.bool false) 1 rfl Try.underlying39 info4 rfl (by decide) (by omega) v7001 y718 t721 _ _ _ (fun k_ => some k_ ≠ (.slice Ao7000 y715.length co7000 : Value).ownBlock ∧ some k_ ≠ (.slice Ao7001 t721.length co7001 : Value).ownBlock) (fun _ => False) rfl rfl ?aO ?aR (fun _ _ h => h) (fun _ h => h.elim) ?aF ?aB ?aS ?aL ?_; (case aR => exact cr_ HO7002); (case aB => exact bl_); (case aF => exact (fun k_ hk => ⟨Kd.fresh' (Kd.R_lt (ro_ HO7000)) k_ hk, Kd.fresh' (Kd.R_lt (ro_ HO7002)) k_ hk⟩)); (case aO => exact (ro_ HO7001)); (case aS => exact (below_size bl_)); (case aL => have := LMc51.out; omega); intro v7003 w7003 ho hb hg hat; rw [← Ny724.out] at ho; have n_ := pk5 (Kd.R_over' (ro_ HO_3) (Kd.R_typed (ro_ HO7001)) (by decide) hg) (Kd.R_after (ok := (fun k_ => some k_ ≠ (.slice Ao7001 t721.length co7001 : Value).ownBlock)) (rt_ (Kd.R_mono HO7000.out (fun _ hk => ⟨hk.2, hk.1.2⟩))) hg hat) (Kd.R_after (ok := (fun k_ => some k_ ≠ (.slice Ao7000 y715.length co7000 : Value).ownBlock)) (rt_ (Kd.R_mono HO7002.out (fun _ hk => ⟨hk.1.2, hk.2⟩))) hg hat) (hb) (ho); clear HO_3 HO7000 HO7002 HB HO7001; obtain ⟨HO_3, HO7000, HO7002, HB, HO7003⟩ := n_; clear ho hb hg hat) | ((with_reducible refine gate_builtin (b := .append) (xs := #[.tmp 91, .tmp 94]) rfl ?_); at_builtin; refine Kd.R_append_rows Kd.bool (w0 := w) w.heap.size rfl (.tmp 91) (.tmp 94) 39 4 (.bool false) 1 rfl Try.underlying39 info4 rfl (by decide) (by omega) v7001 y730 t733 _ _ _ (fun k_ => some k_ ≠ (.slice Ao7000 y727.length co7000 : Value).ownBlock ∧ some k_ ≠ (.slice Ao7001 t733.length co7001 : Value).ownBlock) (fun _ => False) rfl rfl ?aO ?aR (fun _ _ h => h) (fun _ h => h.elim) ?aF ?aB ?aS ?aL ?_; (case aR => exact cr_ HO7002); (case aB => exact bl_); (case aF => exact (fun k_ hk => ⟨Kd.fresh' (Kd.R_lt (ro_ HO7000)) k_ hk, Kd.fresh' (Kd.R_lt (ro_ HO7002)) k_ hk⟩)); (case aO => exact (ro_ HO7001)); (case aS => exact (below_size bl_)); (case aL => have := LMc61.out; omega); intro v7003 w7003 ho hb hg hat; rw [← Ny736.out] at ho; have n_ := pk5 (Kd.R_over' (ro_ HO_3) (Kd.R_typed (ro_ HO7001)) (by decide) hg) (Kd.R_after (ok := (fun k_ => some k_ ≠ (.slice Ao7001 t733.length co7001 : Value).ownBlock)) (rt_ (Kd.R_mono HO7000.out (fun _ hk => ⟨hk.2, hk.1.2⟩))) hg hat) (Kd.R_after (ok := (fun k_ => some k_ ≠ (.slice Ao7000 y727.length co7000 : Value).ownBlock)) (rt_ (Kd.R_mono HO7002.out (fun _ hk => ⟨hk.1.2, hk.2⟩))) hg hat) (hb) (ho); clear HO_3 HO7000 HO7002 HB HO7001; obtain ⟨HO_3, HO7000, HO7002, HB, HO7003⟩ := n_; clear ho hb hg hat) | ((with_reducible refine gate_builtin (b := .append) (xs := #[.tmp 91, .tmp 94]) rfl ?_); at_builtin; refine Kd.R_append_rows Kd.bool (w0 := w) w.heap.size rfl (.tmp 91) (.tmp 94) 39 4 (.bool false) 1 rfl Try.underlying39 info4 rfl (by decide) (by omega) v7001 y742 t745 _ _ _ (fun k_ => some k_ ≠ (.slice Ao7000 y739.length co7000 : Value).ownBlock ∧ some k_ ≠ (.slice Ao7001 t745.length co7001 : Value).ownBlock) (fun _ => False) rfl rfl ?aO ?aR (fun _ _ h => h) (fun _ h => h.elim) ?aF ?aB ?aS ?aL ?_; (case aR => exact cr_ HO7002); (case aB => exact bl_); (case aF => exact (fun k_ hk => ⟨Kd.fresh' (Kd.R_lt (ro_ HO7000)) k_ hk, Kd.fresh' (Kd.R_lt (ro_ HO7002)) k_ hk⟩)); (case aO => exact (ro_ HO7001)); (case aS => exact (below_size bl_)); (case aL => have := LMc71.out; omega); intro v7003 w7003 ho hb hg hat; rw [← Ny748.out] at ho; have n_ := pk5 (Kd.R_over' (ro_ HO_3) (Kd.R_typed (ro_ HO7001)) (by decide) hg) (Kd.R_after (ok := (fun k_ => some k_ ≠ (.slice Ao7001 t745.length co7001 : Value).ownBlock)) (rt_ (Kd.R_mono HO7000.out (fun _ hk => ⟨hk.2, hk.1.2⟩))) hg hat) (Kd.R_after (ok := (fun k_ => some k_ ≠ (.slice Ao7000 y739.length co7000 : Value).ownBlock)) (rt_ (Kd.R_mono HO7002.out (fun _ hk => ⟨hk.1.2, hk.2⟩))) hg hat) (hb) (ho); clear HO_3 HO7000 HO7002 HB HO7001; obtain ⟨HO_3, HO7000, HO7002, HB, HO7003⟩ := n_; clear ho hb hg hat))
                              repeat (go_quiet (first | ((with_reducible refine gate_dst (N := 89) rfl ?_); refine Kd.R_lit Kd.bool _ 4 ?hg (N := 89) ?hd (xs := ([false, false] : List Bool)) (inner := [.bool false, .bool false]) (ok := fun _ => True) (okp := fun _ => True) ?hr ?hp (fun _ hk => hk) trivial (Below.refl _ _) (Nat.le_refl _) (by simp) ?_; (case hd => rfl); (case hg => rfl); (case hr => first | (go_simp; done) | (go_simp; rfl)); (case hp => exact (Reps.one (show Kd.M Kd.bool _ _ _ false [.bool false] from rfl) (Reps.one (show Kd.M Kd.bool _ _ _ false [.bool false] from rfl) (Reps.none _ _)))); intro v7000 w7000 ho7000 hb hg_ hnew_; clear hg_ hnew_; (try ((first | rw [← Ny703.out] at ho7000 | (simp only [Int.reduceToNat] at ho7000; rw [← Ny703.out] at ho7000)); have n_ := pk4 (Kd.R_below (ro_ HO_3) hb) (Kd.R_elder' (ro_ HO_4) (Kd.R_base ho7000) hb) (Kd.R_lower (Kd.R_new' ho7000 (Kd.R_lt (ro_ HO_4))) (below_size bl_)) (below_step bl_ hb); clear HO_3 HO_4 HB; obtain ⟨HO_3, HO_4, HO7000, HB⟩ := n_; clear hb ho7000; obtain ⟨Ao7000, co7000, eo7000⟩ := Kd.R_slice HO7000.out; subst eo7000)); (try ((first | rw [← Ny715.out] at ho7000 | (simp only [Int.reduceToNat] at ho7000; rw [← Ny715.out] at ho7000)); have n_ := pk4 (Kd.R_below (ro_ HO_3) hb) (Kd.R_elder' (ro_ HO_4) (Kd.R_base ho7000) hb) (Kd.R_lower (Kd.R_new' ho7000 (Kd.R_lt (ro_ HO_4))) (below_size bl_)) (below_step bl_ hb); clear HO_3 HO_4 HB; obtain ⟨HO_3, HO_4, HO7000, HB⟩ := n_; clear hb ho7000; obtain ⟨Ao7000, co7000, eo7000⟩ := Kd.R_slice HO7000.out; subst eo7000)); (try ((first | rw [← Ny727.out] at ho7000 | (simp only [Int.reduceToNat] at ho7000; rw [← Ny727.out] at ho7000)); have n_ := pk4 (Kd.R_below (ro_ HO_3) hb) (Kd.R_elder' (ro_ HO_4) (Kd.R_base ho7000) hb) (Kd.R_lower (Kd.R_new' ho7000 (Kd.R_lt (ro_ HO_4))) (below_size bl_)) (below_step bl_ hb); clear HO_3 HO_4 HB; obtain ⟨HO_3, HO_4, HO7000, HB⟩ := n_; clear hb ho7000; obtain ⟨Ao7000, co7000, eo7000⟩ := Kd.R_slice HO7000.out; subst eo7000)); (try ((first | rw [← Ny739.out] at ho7000 | (simp only [Int.reduceToNat] at ho7000; rw [← Ny739.out] at ho7000)); have n_ := pk4 (Kd.R_below (ro_ HO_3) hb) (Kd.R_elder' (ro_ HO_4) (Kd.R_base ho7000) hb) (Kd.R_lower (Kd.R_new' ho7000 (Kd.R_lt (ro_ HO_4))) (below_size bl_)) (below_step bl_ hb); clear HO_3 HO_4 HB; obtain ⟨HO_3, HO_4, HO7000, HB⟩ := n_; clear hb ho7000; obtain ⟨Ao7000, co7000, eo7000⟩ := Kd.R_slice HO7000.out; subst eo7000))) | ((with_reducible refine gate_builtin (b := .append) (xs := #[.tmp 88, .tmp 89]) rfl ?_); at_builtin; refine Kd.R_append_rows Kd.bool (w0 := w) w.heap.size rfl (.tmp 88) (.tmp 89) 39 4 (.bool false) 1 rfl Try.underlying39 info4 rfl (by decide) (by omega) u4 x4_1 y703 _ _ _ (fun k_ => some k_ ≠ (.slice Ao7000 y703.length co7000 : Value).ownBlock) (fun _ => False) rfl rfl ?aO ?aR (fun _ _ h => h) (fun _ h => h.elim) ?aF ?aB ?aS ?aL ?_; (case aR => exact cr_ HO7000); (case aB => exact bl_); (case aF => exact (fun k_ hk => Kd.fresh' (Kd.R_lt (ro_ HO7000)) k_ hk)); (case aO => exact (rt_ (Kd.R_mono HO_4.out (fun _ hk => hk.2)))); (case aS => exact (below_size bl_)); (case aL => have := LMc39.out; omega); intro v7001 w7001 ho hb hg hat; rw [← Ny706.out] at ho; have n_ := pk4 (Kd.R_over' (ro_ HO_3) (Kd.R_typed (ro_ HO_4)) (by decide) hg) (Kd.R_after (ok := (fun _ => True)) (ro_ HO7000) hg hat) (hb) (ho); clear HO_3 HO7000 HB HO_4; obtain ⟨HO_3, HO7000, HB, HO7001⟩ := n_; clear ho hb hg hat) | ((with_reducible refine gate_builtin (b := .append) (xs := #[.tmp 88, .tmp 89]) rfl ?_); at_builtin; refine Kd.R_append_rows Kd.bool (w0 := w) w.heap.size rfl (.tmp 88) (.tmp 89) 39 4 (.bool false) 1 rfl Try.underlying39 info4 rfl (by decide) (by omega) u4 x4_1 y715 _ _ _ (fun k_ => some k_ ≠ (.slice Ao7000 y715.length co7000 : Value).ownBlock) (fun _ => False) rfl rfl ?aO ?aR (fun _ _ h => h) (fun _ h => h.elim) ?aF ?aB ?aS ?aL ?_; (case aR => exact cr_ HO7000); (case aB => exact bl_); (case aF => exact (fun k_ hk => Kd.fresh' (Kd.R_lt (ro_ HO7000)) k_ hk)); (case aO => exact (rt_ (Kd.R_mono HO_4.out (fun _ hk => hk.2)))); (case aS => exact (below_size bl_)); (case aL => have := LMc49.out; omega); intro v7001 w7001 ho hb hg hat; rw [← Ny718.out] at ho; have n_ := pk4 (Kd.R_over' (ro_ HO_3) (Kd.R_typed (ro_ HO_4)) (by decide) hg) (Kd.R_after (ok := (fun _ => True)) (ro_ HO7000) hg hat) (hb) (ho); clear HO_3 HO7000 HB HO_4; obtain ⟨HO_3, HO7000, HB, HO7001⟩ := n_; clear ho hb hg hat) | ((with_reducible refine gate_builtin (b := .append) (xs := #[.tmp 88, .tmp 89]) rfl ?_); at_builtin; refine Kd.R_append_rows Kd.bool (w0 := w) w.heap.size rfl (.tmp 88) (.tmp 89) 39 4 (.bool false) 1 rfl Try.underlying39 info4 rfl (by decide) (by omega) u4 x4_1 y727 _ _ _ (fun k_ => some k_ ≠ (.slice Ao7000 y727.length co7000 : Value).ownBlock) (fun _ => False) rfl rfl ?aO ?aR (fun _ _ h => h) (fun _ h => h.elim) ?aF ?aB ?aS ?aL ?_; (case aR => exact cr_ HO7000); (case aB => exact bl_); (case aF => exact (fun k_ hk => Kd.fresh' (Kd.R_lt (ro_ HO7000)) k_ hk)); (case aO => exact (rt_ (Kd.R_mono HO_4.out (fun _ hk => hk.2)))); (case aS => exact (below_size bl_)); (case aL => have := LMc59.out; omega); intro v7001 w7001 ho hb hg hat; rw [← Ny730.out] at ho; have n_ := pk4 (Kd.R_over' (ro_ HO_3) (Kd.R_typed (ro_ HO_4)) (by decide) hg) (Kd.R_after (ok := (fun _ => True)) (ro_ HO7000) hg hat) (hb) (ho); clear HO_3 HO7000 HB HO_4; obtain ⟨HO_3, HO7000, HB, HO7001⟩ := n_; clear ho hb hg hat) | ((with_reducible refine gate_builtin (b := .append) (xs := #[.tmp 88, .tmp 89]) rfl ?_); at_builtin; refine Kd.R_append_rows Kd.bool (w0 := w) w.heap.size rfl (.tmp 88) (.tmp 89) 39 4 (.bool false) 1 rfl Try.underlying39 info4 rfl (by decide) (by omega) u4 x4_1 y739 _ _ _ (fun k_ => some k_ ≠ (.slice Ao7000 y739.length co7000 : Value).ownBlock) (fun _ => False) rfl rfl ?aO ?aR (fun _ _ h => h) (fun _ h => h.elim) ?aF ?aB ?aS ?aL ?_; (case aR => exact cr_ HO7000); (case aB => exact bl_); (case aF => exact (fun k_ hk => Kd.fresh' (Kd.R_lt (ro_ HO7000)) k_ hk)); (case aO => exact (rt_ (Kd.R_mono HO_4.out (fun _ hk => hk.2)))); (case aS => exact (below_size bl_)); (case aL => have := LMc69.out; omega); intro v7001 w7001 ho hb hg hat; rw [← Ny742.out] at ho; have n_ := pk4 (Kd.R_over' (ro_ HO_3) (Kd.R_typed (ro_ HO_4)) (by decide) hg) (Kd.R_after (ok := (fun _ => True)) (ro_ HO7000) hg hat) (hb) (ho); clear HO_3 HO7000 HB HO_4; obtain ⟨HO_3, HO7000, HB, HO7001⟩ := n_; clear ho hb hg hat) | (go_at_call 35; (with_reducible refine (windroseref17_Low.calls k3 (IntKind.u64.wrap (wrap64 ((wrap64 (x9_3 - x6_1)) - 1))) 4 t709 _ A40.out).mono ?_); rintro e w7002 ⟨v7002, rfl, ho0, hb⟩; have n_ := pk5 (Kd.R_below (ro_ HO_3) hb) (Kd.R_elder' (ro_ HO7000) (Kd.R_base ho0) hb) (Kd.R_elder' (ro_ HO7001) (Kd.R_base ho0) hb) (Kd.R_lower (Kd.R_new' (Kd.R_new' ho0 (Kd.R_lt (ro_ HO7000))) (Kd.R_lt (ro_ HO7001))) (below_size bl_)) (below_step bl_ hb); clear HO_3 HO7000 HO7001 HB; obtain ⟨HO_3, HO7000, HO7001, HO7002, HB⟩ := n_; (try clear hb ho0); obtain ⟨Ao7001, co7001, eo7001⟩ := Kd.R_slice HO7002.out; subst eo7001) | (go_at_call 35; (with_reducible refine (windroseref17_Low.calls k3 (IntKind.u64.wrap (wrap64 ((wrap64 (x9_3 - x6_1)) - 1))) 4 t721 _ A50.out).mono ?_); rintro e w7002 ⟨v7002, rfl, ho0, hb⟩; have n_ := pk5 (Kd.R_below (ro_ HO_3) hb) (Kd.R_elder' (ro_ HO7000) (Kd.R_base ho0) hb) (Kd.R_elder' (ro_ HO7001) (Kd.R_base ho0) hb) (Kd.R_lower (Kd.R_new' (Kd.R_new' ho0 (Kd.R_lt (ro_ HO7000))) (Kd.R_lt (ro_ HO7001))) (below_size bl_)) (below_step bl_ hb); clear HO_3 HO7000 HO7001 HB; obtain ⟨HO_3, HO7000, HO7001, HO7002, HB⟩ := n_; (try clear hb ho0); obtain ⟨Ao7001, co7001, eo7001⟩ := Kd.R_slice HO7002.out; subst eo7001) | (go_at_call 35; (with_reducible refine (windroseref17_Low.calls k3 (IntKind.u64.wrap (wrap64 ((wrap64 (x9_3 - x6_1)) - 1))) 4 t733 _ A60.out).mono ?_); rintro e w7002 ⟨v7002, rfl, ho0, hb⟩; have n_ := pk5 (Kd.R_below (ro_ HO_3) hb) (Kd.R_elder' (ro_ HO7000) (Kd.R_base ho0) hb) (Kd.R_elder' (ro_ HO7001) (Kd.R_base ho0) hb) (Kd.R_lower (Kd.R_new' (Kd.R_new' ho0 (Kd.R_lt (ro_ HO7000))) (Kd.R_lt (ro_ HO7001))) (below_size bl_)) (below_step bl_ hb); clear HO_3 HO7000 HO7001 HB; obtain ⟨HO_3, HO7000, HO7001, HO7002, HB⟩ := n_; (try clear hb ho0); obtain ⟨Ao7001, co7001, eo7001⟩ := Kd.R_slice HO7002.out; subst eo7001) | (go_at_call 35; (with_reducible refine (windroseref17_Low.calls k3 (IntKind.u64.wrap (wrap64 ((wrap64 (x9_3 - x6_1)) - 1))) 4 t745 _ A70.out).mono ?_); rintro e w7002 ⟨v7002, rfl, ho0, hb⟩; have n_ := pk5 (Kd.R_below (ro_ HO_3) hb) (Kd.R_elder' (ro_ HO7000) (Kd.R_base ho0) hb) (Kd.R_elder' (ro_ HO7001) (Kd.R_base ho0) hb) (Kd.R_lower (Kd.R_new' (Kd.R_new' ho0 (Kd.R_lt (ro_ HO7000))) (Kd.R_lt (ro_ HO7001))) (below_size bl_)) (below_step bl_ hb); clear HO_3 HO7000 HO7001 HB; obtain ⟨HO_3, HO7000, HO7001, HO7002, HB⟩ := n_; (try clear hb ho0); obtain ⟨Ao7001, co7001, eo7001⟩ := Kd.R_slice HO7002.out; subst eo7001) | ((with_reducible refine gate_builtin (b := .append) (xs := #[.tmp 91, .tmp 94]) rfl ?_); at_builtin; refine Kd.R_append_rows Kd.bool (w0 := w) w.heap.size rfl (.tmp 91) (.tmp 94) 39 4 (.bool false) 1 rfl Try.underlying39 info4 rfl (by decide) (by omega) v7001 y706 t709 _ _ _ (fun k_ => some k_ ≠ (.slice Ao7000 y703.length co7000 : Value).ownBlock ∧ some k_ ≠ (.slice Ao7001 t709.length co7001 : Value).ownBlock) (fun _ => False) rfl rfl ?aO ?aR (fun _ _ h => h) (fun _ h => h.elim) ?aF ?aB ?aS ?aL ?_; (case aR => exact cr_ HO7002); (case aB => exact bl_); (case aF => exact (fun k_ hk => ⟨Kd.fresh' (Kd.R_lt (ro_ HO7000)) k_ hk, Kd.fresh' (Kd.R_lt (ro_ HO7002)) k_ hk⟩)); (case aO => exact (ro_ HO7001)); (case aS => exact (below_size bl_)); (case aL => have := LMc41.out; omega); intro v7003 w7003 ho hb hg hat; rw [← Ny712.out] at ho; have n_ := pk5 (Kd.R_over' (ro_ HO_3) (Kd.R_typed (ro_ HO7001)) (by decide) hg) (Kd.R_after (ok := (fun k_ => some k_ ≠ (.slice Ao7001 t709.length co7001 : Value).ownBlock)) (rt_ (Kd.R_mono HO7000.out (fun _ hk => ⟨hk.2, hk.1.2⟩))) hg hat) (Kd.R_after (ok := (fun k_ => some k_ ≠ (.slice Ao7000 y703.length co7000 : Value).ownBlock)) (rt_ (Kd.R_mono HO7002.out (fun _ hk => ⟨hk.1.2, hk.2⟩))) hg hat) (hb) (ho); clear HO_3 HO7000 HO7002 HB HO7001; obtain ⟨HO_3, HO7000, HO7002, HB, HO7003⟩ := n_; clear ho hb hg hat) | ((with_reducible refine gate_builtin (b := .append) (xs := #[.tmp 91, .tmp 94]) rfl ?_); at_builtin; refine Kd.R_append_rows Kd.bool (w0 := w) w.heap.size rfl (.tmp 91) (.tmp 94) 39 4 (.bool false) 1 rfl Try.underlying39 info4 rfl (by decide) (by omega) v7001 y718 t721 _ _ _ (fun k_ => some k_ ≠ (.slice Ao7000 y715.length co7000 : Value).ownBlock ∧ some k_ ≠ (.slice Ao7001 t721.length co7001 : Value).ownBlock) (fun _ => False) rfl rfl ?aO ?aR (fun _ _ h => h) (fun _ h => h.elim) ?aF ?aB ?aS ?aL ?_; (case aR => exact cr_ HO7002); (case aB => exact bl_); (case aF => exact (fun k_ hk => ⟨Kd.fresh' (Kd.R_lt (ro_ HO7000)) k_ hk, Kd.fresh' (Kd.R_lt (ro_ HO7002)) k_ hk⟩)); (case aO => exact (ro_ HO7001)); (case aS => exact (below_size bl_)); (case aL => have := LMc51.out; omega); intro v7003 w7003 ho hb hg hat; rw [← Ny724.out] at ho; have n_ := pk5 (Kd.R_over' (ro_ HO_3) (Kd.R_typed (ro_ HO7001)) (by decide) hg) (Kd.R_after (ok := (fun k_ => some k_ ≠ (.slice Ao7001 t721.length co7001 : Value).ownBlock)) (rt_ (Kd.R_mono HO7000.out (fun _ hk => ⟨hk.2, hk.1.2⟩))) hg hat) (Kd.R_after (ok := (fun k_ => some k_ ≠ (.slice Ao7000 y715.length co7000 : Value).ownBlock)) (rt_ (Kd.R_mono HO7002.out (fun _ hk => ⟨hk.1.2, hk.2⟩))) hg hat) (hb) (ho); clear HO_3 HO7000 HO7002 HB HO7001; obtain ⟨HO_3, HO7000, HO7002, HB, HO7003⟩ := n_; clear ho hb hg hat) | ((with_reducible refine gate_builtin (b := .append) (xs := #[.tmp 91, .tmp 94]) rfl ?_); at_builtin; refine Kd.R_append_rows Kd.bool (w0 := w) w.heap.size rfl (.tmp 91) (.tmp 94) 39 4 (.bool false) 1 rfl Try.underlying39 info4 rfl (by decide) (by omega) v7001 y730 t733 _ _ _ (fun k_ => some k_ ≠ (.slice Ao7000 y727.length co7000 : Value).ownBlock ∧ some k_ ≠ (.slice Ao7001 t733.length co7001 : Value).ownBlock) (fun _ => False) rfl rfl ?aO ?aR (fun _ _ h => h) (fun _ h => h.elim) ?aF ?aB ?aS ?aL ?_; (case aR => exact cr_ HO7002); (case aB => exact bl_); (case aF => exact (fun k_ hk => ⟨Kd.fresh' (Kd.R_lt (ro_ HO7000)) k_ hk, Kd.fresh' (Kd.R_lt (ro_ HO7002)) k_ hk⟩)); (case aO => exact (ro_ HO7001)); (case aS => exact (below_size bl_)); (case aL => have := LMc61.out; omega); intro v7003 w7003 ho hb hg hat; rw [← Ny736.out] at ho; have n_ := pk5 (Kd.R_over' (ro_ HO_3) (Kd.R_typed (ro_ HO7001)) (by decide) hg) (Kd.R_after (ok := (fun k_ => some k_ ≠ (.slice Ao7001 t733.length co7001 : Value).ownBlock)) (rt_ (Kd.R_mono HO7000.out (fun _ hk => ⟨hk.2, hk.1.2⟩))) hg hat) (Kd.R_after (ok := (fun k_ => some k_ ≠ (.slice Ao7000 y727.length co7000 : Value).ownBlock)) (rt_ (Kd.R_mono HO7002.out (fun _ hk => ⟨hk.1.2, hk.2⟩))) hg hat) (hb) (ho); clear HO_3 HO7000 HO7002 HB HO7001; obtain ⟨HO_3, HO7000, HO7002, HB, HO7003⟩ := n_; clear ho hb hg hat) | ((with_reducible refine gate_builtin (b := .append) (xs := #[.tmp 91, .tmp 94]) rfl ?_); at_builtin; refine Kd.R_append_rows Kd.bool (w0 := w) w.heap.size rfl (.tmp 91) (.tmp 94) 39 4 (.bool false) 1 rfl Try.underlying39 info4 rfl (by decide) (by omega) v7001 y742 t745 _ _ _ (fun k_ => some k_ ≠ (.slice Ao7000 y739.length co7000 : Value).ownBlock ∧ some k_ ≠ (.slice Ao7001 t745.length co7001 : Value).ownBlock) (fun _ => False) rfl rfl ?aO ?aR (fun _ _ h => h) (fun _ h => h.elim) ?aF ?aB ?aS ?aL ?_; (case aR => exact cr_ HO7002); (case aB => exact bl_); (case aF => exact (fun k_ hk => ⟨Kd.fresh' (Kd.R_lt (ro_ HO7000)) k_ hk, Kd.fresh' (Kd.R_lt (ro_ HO7002)) k_ hk⟩)); (case aO => exact (ro_ HO7001)); (case aS => exact (below_size bl_)); (case aL => have := LMc71.out; omega); intro v7003 w7003 ho hb hg hat; rw [← Ny748.out] at ho; have n_ := pk5 (Kd.R_over' (ro_ HO_3) (Kd.R_typed (ro_ HO7001)) (by decide) hg) (Kd.R_after (ok := (fun k_ => some k_ ≠ (.slice Ao7001 t745.length co7001 : Value).ownBlock)) (rt_ (Kd.R_mono HO7000.out (fun _ hk => ⟨hk.2, hk.1.2⟩))) hg hat) (Kd.R_after (ok := (fun k_ => some k_ ≠ (.slice Ao7000 y739.length co7000 : Value).ownBlock)) (rt_ (Kd.R_mono HO7002.out (fun _ hk => ⟨hk.1.2, hk.2⟩))) hg hat) (hb) (ho); clear HO_3 HO7000 HO7002 HB HO7001; obtain ⟨HO_3, HO7000, HO7002, HB, HO7003⟩ := n_; clear ho hb hg hat)); try go_wp2_with (first | ((with_reducible refine gate_dst (N := 89) rfl ?_); refine Kd.R_lit Kd.bool _ 4 ?hg (N := 89) ?hd (xs := ([false, false] : List Bool)) (inner := [.bool false, .bool false]) (ok := fun _ => True) (okp := fun _ => True) ?hr ?hp (fun _ hk => hk) trivial (Below.refl _ _) (Nat.le_refl _) (by simp) ?_; (case hd => rfl); (case hg => rfl); (case hr => first | (go_simp; done) | (go_simp; rfl)); (case hp => exact (Reps.one (show Kd.M Kd.bool _ _ _ false [.bool false] from rfl) (Reps.one (show Kd.M Kd.bool _ _ _ false [.bool false] from rfl) (Reps.none _ _)))); intro v7000 w7000 ho7000 hb hg_ hnew_; clear hg_ hnew_; (try ((first | rw [← Ny703.out] at ho7000 | (simp only [Int.reduceToNat] at ho7000; rw [← Ny703.out] at ho7000)); have n_ := pk4 (Kd.R_below (ro_ HO_3) hb) (Kd.R_elder' (ro_ HO_4) (Kd.R_base ho7000) hb) (Kd.R_lower (Kd.R_new' ho7000 (Kd.R_lt (ro_ HO_4))) (below_size bl_)) (below_step bl_ hb); clear HO_3 HO_4 HB; obtain ⟨HO_3, HO_4, HO7000, HB⟩ := n_; clear hb ho7000; obtain ⟨Ao7000, co7000, eo7000⟩ := Kd.R_slice HO7000.out; subst eo7000)); (try ((first | rw [← Ny715.out] at ho7000 | (simp only [Int.reduceToNat] at ho7000; rw [← Ny715.out] at ho7000)); have n_ := pk4 (Kd.R_below (ro_ HO_3) hb) (Kd.R_elder' (ro_ HO_4) (Kd.R_base ho7000) hb) (Kd.R_lower (Kd.R_new' ho7000 (Kd.R_lt (ro_ HO_4))) (below_size bl_)) (below_step bl_ hb); clear HO_3 HO_4 HB; obtain ⟨HO_3, HO_4, HO7000, HB⟩ := n_; clear hb ho7000; obtain ⟨Ao7000, co7000, eo7000⟩ := Kd.R_slice HO7000.out; subst eo7000)); (try ((first | rw [← Ny727.out] at ho7000 | (simp only [Int.reduceToNat] at ho7000; rw [← Ny727.out] at ho7000)); have n_ := pk4 (Kd.R_below (ro_ HO_3) hb) (Kd.R_elder' (ro_ HO_4) (Kd.R_base ho7000) hb) (Kd.R_lower (Kd.R_new' ho7000 (Kd.R_lt (ro_ HO_4))) (below_size bl_)) (below_step bl_ hb); clear HO_3 HO_4 HB; obtain ⟨HO_3, HO_4, HO7000, HB⟩ := n_; clear hb ho7000; obtain ⟨Ao7000, co7000, eo7000⟩ := Kd.R_slice HO7000.out; subst eo7000)); (try ((first | rw [← Ny739.out] at ho7000 | (simp only [Int.reduceToNat] at ho7000; rw [← Ny739.out] at ho7000)); have n_ := pk4 (Kd.R_below (ro_ HO_3) hb) (Kd.R_elder' (ro_ HO_4) (Kd.R_base ho7000) hb) (Kd.R_lower (Kd.R_new' ho7000 (Kd.R_lt (ro_ HO_4))) (below_size bl_)) (below_step bl_ hb); clear HO_3 HO_4 HB; obtain ⟨HO_3, HO_4, HO7000, HB⟩ := n_; clear hb ho7000; obtain ⟨Ao7000, co7000, eo7000⟩ := Kd.R_slice HO7000.out; subst eo7000))) | ((with_reducible refine gate_builtin (b := .append) (xs := #[.tmp 88, .tmp 89]) rfl ?_); at_builtin; refine Kd.R_append_rows Kd.bool (w0 := w) w.heap.size rfl (.tmp 88) (.tmp 89) 39 4 (.bool false) 1 rfl Try.underlying39 info4 rfl (by decide) (by omega) u4 x4_1 y703 _ _ _ (fun k_ => some k_ ≠ (.slice Ao7000 y703.length co7000 : Value).ownBlock) (fun _ => False) rfl rfl ?aO ?aR (fun _ _ h => h) (fun _ h => h.elim) ?aF ?aB ?aS ?aL ?_; (case aR => exact cr_ HO7000); (case aB => exact bl_); (case aF => exact (fun k_ hk => Kd.fresh' (Kd.R_lt (ro_ HO7000)) k_ hk)); (case aO => exact (rt_ (Kd.R_mono HO_4.out (fun _ hk => hk.2)))); (case aS => exact (below_size bl_)); (case aL => have := LMc39.out; omega); intro v7001 w7001 ho hb hg hat; rw [← Ny706.out] at ho; have n_ := pk4 (Kd.R_over' (ro_ HO_3) (Kd.R_typed (ro_ HO_4)) (by decide) hg) (Kd.R_after (ok := (fun _ => True)) (ro_ HO7000) hg hat) (hb) (ho); clear HO_3 HO7000 HB HO_4; obtain ⟨HO_3, HO7000, HB, HO7001⟩ := n_; clear ho hb hg hat) | ((with_reducible refine gate_builtin (b := .append) (xs := #[.tmp 88, .tmp 89]) rfl ?_); at_builtin; refine Kd.R_append_rows Kd.bool (w0 := w) w.heap.size rfl (.tmp 88) (.tmp 89) 39 4 (.bool false) 1 rfl Try.underlying39 info4 rfl (by decide) (by omega) u4 x4_1 y715 _ _ _ (fun k_ => some k_ ≠ (.slice Ao7000 y715.length co7000 : Value).ownBlock) (fun _ => False) rfl rfl ?aO ?aR (fun _ _ h => h) (fun _ h => h.elim) ?aF ?aB ?aS ?aL ?_; (case aR => exact cr_ HO7000); (case aB => exact bl_); (case aF => exact (fun k_ hk => Kd.fresh' (Kd.R_lt (ro_ HO7000)) k_ hk)); (case aO => exact (rt_ (Kd.R_mono HO_4.out (fun _ hk => hk.2)))); (case aS => exact (below_size bl_)); (case aL => have := LMc49.out; omega); intro v7001 w7001 ho hb hg hat; rw [← Ny718.out] at ho; have n_ := pk4 (Kd.R_over' (ro_ HO_3) (Kd.R_typed (ro_ HO_4)) (by decide) hg) (Kd.R_after (ok := (fun _ => True)) (ro_ HO7000) hg hat) (hb) (ho); clear HO_3 HO7000 HB HO_4; obtain ⟨HO_3, HO7000, HB, HO7001⟩ := n_; clear ho hb hg hat) | ((with_reducible refine gate_builtin (b := .append) (xs := #[.tmp 88, .tmp 89]) rfl ?_); at_builtin; refine Kd.R_append_rows Kd.bool (w0 := w) w.heap.size rfl (.tmp 88) (.tmp 89) 39 4 (.bool false) 1 rfl Try.underlying39 info4 rfl (by decide) (by omega) u4 x4_1 y727 _ _ _ (fun k_ => some k_ ≠ (.slice Ao7000 y727.length co7000 : Value).ownBlock) (fun _ => False) rfl rfl ?aO ?aR (fun _ _ h => h) (fun _ h => h.elim) ?aF ?aB ?aS ?aL ?_; (case aR => exact cr_ HO7000); (case aB => exact bl_); (case aF => exact (fun k_ hk => Kd.fresh' (Kd.R_lt (ro_ HO7000)) k_ hk)); (case aO => exact (rt_ (Kd.R_mono HO_4.out (fun _ hk => hk.2)))); (case aS => exact (below_size bl_)); (case aL => have := LMc59.out; omega); intro v7001 w7001 ho hb hg hat; rw [← Ny730.out] at ho; have n_ := pk4 (Kd.R_over' (ro_ HO_3) (Kd.R_typed (ro_ HO_4)) (by decide) hg) (Kd.R_after (ok := (fun _ => True)) (ro_ HO7000) hg hat) (hb) (ho); clear HO_3 HO7000 HB HO_4; obtain ⟨HO_3, HO7000, HB, HO7001⟩ := n_; clear ho hb hg hat) | ((with_reducible refine gate_builtin (b := .append) (xs := #[.tmp 88, .tmp 89]) rfl ?_); at_builtin; refine Kd.R_append_rows Kd.bool (w0 := w) w.heap.size rfl (.tmp 88) (.tmp 89) 39 4 (.bool false) 1 rfl Try.underlying39 info4 rfl (by decide) (by omega) u4 x4_1 y739 _ _ _ (fun k_ => some k_ ≠ (.slice Ao7000 y739.length co7000 : Value).ownBlock) (fun _ => False) rfl rfl ?aO ?aR (fun _ _ h => h) (fun _ h => h.elim) ?aF ?aB ?aS ?aL ?_; (case aR => exact cr_ HO7000); (case aB => exact bl_); (case aF => exact (fun k_ hk => Kd.fresh' (Kd.R_lt (ro_ HO7000)) k_ hk)); (case aO => exact (rt_ (Kd.R_mono HO_4.out (fun _ hk => hk.2)))); (case aS => exact (below_size bl_)); (case aL => have := LMc69.out; omega); intro v7001 w7001 ho hb hg hat; rw [← Ny742.out] at ho; have n_ := pk4 (Kd.R_over' (ro_ HO_3) (Kd.R_typed (ro_ HO_4)) (by decide) hg) (Kd.R_after (ok := (fun _ => True)) (ro_ HO7000) hg hat) (hb) (ho); clear HO_3 HO7000 HB HO_4; obtain ⟨HO_3, HO7000, HB, HO7001⟩ := n_; clear ho hb hg hat) | (go_at_call 35; (with_reducible refine (windroseref17_Low.calls k3 (IntKind.u64.wrap (wrap64 ((wrap64 (x9_3 - x6_1)) - 1))) 4 t709 _ A40.out).mono ?_); rintro e w7002 ⟨v7002, rfl, ho0, hb⟩; have n_ := pk5 (Kd.R_below (ro_ HO_3) hb) (Kd.R_elder' (ro_ HO7000) (Kd.R_base ho0) hb) (Kd.R_elder' (ro_ HO7001) (Kd.R_base ho0) hb) (Kd.R_lower (Kd.R_new' (Kd.R_new' ho0 (Kd.R_lt (ro_ HO7000))) (Kd.R_lt (ro_ HO7001))) (below_size bl_)) (below_step bl_ hb); clear HO_3 HO7000 HO7001 HB; obtain ⟨HO_3, HO7000, HO7001, HO7002, HB⟩ := n_; (try clear hb ho0); obtain ⟨Ao7001, co7001, eo7001⟩ := Kd.R_slice HO7002.out; subst eo7001) | (go_at_call 35; (with_reducible refine (windroseref17_Low.calls k3 (IntKind.u64.wrap (wrap64 ((wrap64 (x9_3 - x6_1)) - 1))) 4 t721 _ A50.out).mono ?_); rintro e w7002 ⟨v7002, rfl, ho0, hb⟩; have n_ := pk5 (Kd.R_below (ro_ HO_3) hb) (Kd.R_elder' (ro_ HO7000) (Kd.R_base ho0) hb) (Kd.R_elder' (ro_ HO7001) (Kd.R_base ho0) hb) (Kd.R_lower (Kd.R_new' (Kd.R_new' ho0 (Kd.R_lt (ro_ HO7000))) (Kd.R_lt (ro_ HO7001))) (below_size bl_)) (below_step bl_ hb); clear HO_3 HO7000 HO7001 HB; obtain ⟨HO_3, HO7000, HO7001, HO7002, HB⟩ := n_; (try clear hb ho0); obtain ⟨Ao7001, co7001, eo7001⟩ := Kd.R_slice HO7002.out; subst eo7001) | (go_at_call 35; (with_reducible refine (windroseref17_Low.calls k3 (IntKind.u64.wrap (wrap64 ((wrap64 (x9_3 - x6_1)) - 1))) 4 t733 _ A60.out).mono ?_); rintro e w7002 ⟨v7002, rfl, ho0, hb⟩; have n_ := pk5 (Kd.R_below (ro_ HO_3) hb) (Kd.R_elder' (ro_ HO7000) (Kd.R_base ho0) hb) (Kd.R_elder' (ro_ HO7001) (Kd.R_base ho0) hb) (Kd.R_lower (Kd.R_new' (Kd.R_new' ho0 (Kd.R_lt (ro_ HO7000))) (Kd.R_lt (ro_ HO7001))) (below_size bl_)) (below_step bl_ hb); clear HO_3 HO7000 HO7001 HB; obtain ⟨HO_3, HO7000, HO7001, HO7002, HB⟩ := n_; (try clear hb ho0); obtain ⟨Ao7001, co7001, eo7001⟩ := Kd.R_slice HO7002.out; subst eo7001) | (go_at_call 35; (with_reducible refine (windroseref17_Low.calls k3 (IntKind.u64.wrap (wrap64 ((wrap64 (x9_3 - x6_1)) - 1))) 4 t745 _ A70.out).mono ?_); rintro e w7002 ⟨v7002, rfl, ho0, hb⟩; have n_ := pk5 (Kd.R_below (ro_ HO_3) hb) (Kd.R_elder' (ro_ HO7000) (Kd.R_base ho0) hb) (Kd.R_elder' (ro_ HO7001) (Kd.R_base ho0) hb) (Kd.R_lower (Kd.R_new' (Kd.R_new' ho0 (Kd.R_lt (ro_ HO7000))) (Kd.R_lt (ro_ HO7001))) (below_size bl_)) (below_step bl_ hb); clear HO_3 HO7000 HO7001 HB; obtain ⟨HO_3, HO7000, HO7001, HO7002, HB⟩ := n_; (try clear hb ho0); obtain ⟨Ao7001, co7001, eo7001⟩ := Kd.R_slice HO7002.out; subst eo7001) | ((with_reducible refine gate_builtin (b := .append) (xs := #[.tmp 91, .tmp 94]) rfl ?_); at_builtin; refine Kd.R_append_rows Kd.bool (w0 := w) w.heap.size rfl (.tmp 91) (.tmp 94) 39 4 (.bool false) 1 rfl Try.underlying39 info4 rfl (by decide) (by omega) v7001 y706 t709 _ _ _ (fun k_ => some k_ ≠ (.slice Ao7000 y703.length co7000 : Value).ownBlock ∧ some k_ ≠ (.slice Ao7001 t709.length co7001 : Value).ownBlock) (fun _ => False) rfl rfl ?aO ?aR (fun _ _ h => h) (fun _ h => h.elim) ?aF ?aB ?aS ?aL ?_; (case aR => exact cr_ HO7002); (case aB => exact bl_); (case aF => exact (fun k_ hk => ⟨Kd.fresh' (Kd.R_lt (ro_ HO7000)) k_ hk, Kd.fresh' (Kd.R_lt (ro_ HO7002)) k_ hk⟩)); (case aO => exact (ro_ HO7001)); (case aS => exact (below_size bl_)); (case aL => have := LMc41.out; omega); intro v7003 w7003 ho hb hg hat; rw [← Ny712.out] at ho; have n_ := pk5 (Kd.R_over' (ro_ HO_3) (Kd.R_typed (ro_ HO7001)) (by decide) hg) (Kd.R_after (ok := (fun k_ => some k_ ≠ (.slice Ao7001 t709.length co7001 : Value).ownBlock)) (rt_ (Kd.R_mono HO7000.out (fun _ hk => ⟨hk.2, hk.1.2⟩))) hg hat) (Kd.R_after (ok := (fun k_ => some k_ ≠ (.slice Ao7000 y703.length co7000 : Value).ownBlock)) (rt_ (Kd.R_mono HO7002.out (fun _ hk => ⟨hk.1.2, hk.2⟩))) hg hat) (hb) (ho); clear HO_3 HO7000 HO7002 HB HO7001; obtain ⟨HO_3, HO7000, HO7002, HB, HO7003⟩ := n_; clear ho hb hg hat) | ((with_reducible refine gate_builtin (b := .append) (xs := #[.tmp 91, .tmp 94]) rfl ?_); at_builtin; refine Kd.R_append_rows Kd.bool (w0 := w) w.heap.size rfl (.tmp 91) (.tmp 94) 39 4 (.bool false) 1 rfl Try.underlying39 info4 rfl (by decide) (by omega) v7001 y718 t721 _ _ _ (fun k_ => some k_ ≠ (.slice Ao7000 y715.length co7000 : Value).ownBlock ∧ some k_ ≠ (.slice Ao7001 t721.length co7001 : Value).ownBlock) (fun _ => False) rfl rfl ?aO ?aR (fun _ _ h => h) (fun _ h => h.elim) ?aF ?aB ?aS ?aL ?_; (case aR => exact cr_ HO7002); (case aB => exact bl_); (case aF => exact (fun k_ hk => ⟨Kd.fresh' (Kd.R_lt (ro_ HO7000)) k_ hk, Kd.fresh' (Kd.R_lt (ro_ HO7002)) k_ hk⟩)); (case aO => exact (ro_ HO7001)); (case aS => exact (below_size bl_)); (case aL => have := LMc51.out; omega); intro v7003 w7003 ho hb hg hat; rw [← Ny724.out] at ho; have n_ := pk5 (Kd.R_over' (ro_ HO_3) (Kd.R_typed (ro_ HO7001)) (by decide) hg) (Kd.R_after (ok := (fun k_ => some k_ ≠ (.slice Ao7001 t721.length co7001 : Value).ownBlock)) (rt_ (Kd.R_mono HO7000.out (fun _ hk => ⟨hk.2, hk.1.2⟩))) hg hat) (Kd.R_after (ok := (fun k_ => some k_ ≠ (.slice Ao7000 y715.length co7000 : Value).ownBlock)) (rt_ (Kd.R_mono HO7002.out (fun _ hk => ⟨hk.1.2, hk.2⟩))) hg hat) (hb) (ho); clear HO_3 HO7000 HO7002 HB HO7001; obtain ⟨HO_3, HO7000, HO7002, HB, HO7003⟩ := n_; clear ho hb hg hat) | ((with_reducible refine gate_builtin (b := .append) (xs := #[.tmp 91, .tmp 94]) rfl ?_); at_builtin; refine Kd.R_append_rows Kd.bool (w0 := w) w.heap.size rfl (.tmp 91) (.tmp 94) 39 4 (.bool false) 1 rfl Try.underlying39 info4 rfl (by decide) (by omega) v7001 y730 t733 _ _ _ (fun k_ => some k_ ≠ (.slice Ao7000 y727.length co7000 : Value).ownBlock ∧ some k_ ≠ (.slice Ao7001 t733.length co7001 : Value).ownBlock) (fun _ => False) rfl rfl ?aO ?aR (fun _ _ h => h) (fun _ h => h.elim) ?aF ?aB ?aS ?aL ?_; (case aR => exact cr_ HO7002); (case aB => exact bl_); (case aF => exact (fun k_ hk => ⟨Kd.fresh' (Kd.R_lt (ro_ HO7000)) k_ hk, Kd.fresh' (Kd.R_lt (ro_ HO7002)) k_ hk⟩)); (case aO => exact (ro_ HO7001)); (case aS => exact (below_size bl_)); (case aL => have := LMc61.out; omega); intro v7003 w7003 ho hb hg hat; rw [← Ny736.out] at ho; have n_ := pk5 (Kd.R_over' (ro_ HO_3) (Kd.R_typed (ro_ HO7001)) (by decide) hg) (Kd.R_after (ok := (fun k_ => some k_ ≠ (.slice Ao7001 t733.length co7001 : Value).ownBlock)) (rt_ (Kd.R_mono HO7000.out (fun _ hk => ⟨hk.2, hk.1.2⟩))) hg hat) (Kd.R_after (ok := (fun k_ => some k_ ≠ (.slice Ao7000 y727.length co7000 : Value).ownBlock)) (rt_ (Kd.R_mono HO7002.out (fun _ hk => ⟨hk.1.2, hk.2⟩))) hg hat) (hb) (ho); clear HO_3 HO7000 HO7002 HB HO7001; obtain ⟨HO_3, HO7000, HO7002, HB, HO7003⟩ := n_; clear ho hb hg hat) | ((with_reducible refine gate_builtin (b := .append) (xs := #[.tmp 91, .tmp 94]) rfl ?_); at_builtin; refine Kd.R_append_rows Kd.bool (w0 := w) w.heap.size rfl (.tmp 91) (.tmp 94) 39 4 (.bool false) 1 rfl Try.underlying39 info4 rfl (by decide) (by omega) v7001 y742 t745 _ _ _ (fun k_ => some k_ ≠ (.slice Ao7000 y739.length co7000 : Value).ownBlock ∧ some k_ ≠ (.slice Ao7001 t745.length co7001 : Value).ownBlock) (fun _ => False) rfl rfl ?aO ?aR (fun _ _ h => h) (fun _ h => h.elim) ?aF ?aB ?aS ?aL ?_; (case aR => exact cr_ HO7002); (case aB => exact bl_); (case aF => exact (fun k_ hk => ⟨Kd.fresh' (Kd.R_lt (ro_ HO7000)) k_ hk, Kd.fresh' (Kd.R_lt (ro_ HO7002)) k_ hk⟩)); (case aO => exact (ro_ HO7001)); (case aS => exact (below_size bl_)); (case aL => have := LMc71.out; omega); intro v7003 w7003 ho hb hg hat; rw [← Ny748.out] at ho; have n_ := pk5 (Kd.R_over' (ro_ HO_3) (Kd.R_typed (ro_ HO7001)) (by decide) hg) (Kd.R_after (ok := (fun k_ => some k_ ≠ (.slice Ao7001 t745.length co7001 : Value).ownBlock)) (rt_ (Kd.R_mono HO7000.out (fun _ hk => ⟨hk.2, hk.1.2⟩))) hg hat) (Kd.R_after (ok := (fun k_ => some k_ ≠ (.slice Ao7000 y739.length co7000 : Value).ownBlock)) (rt_ (Kd.R_mono HO7002.out (fun _ hk => ⟨hk.1.2, hk.2⟩))) hg hat) (hb) (ho); clear HO_3 HO7000 HO7002 HB HO7001; obtain ⟨HO_3, HO7000, HO7002, HB, HO7003⟩ := n_; clear ho hb hg hat)))
                              go_roundg k3
                              case measure => have := HK1.out; have := HJ12.out; have := HK3.out; omega
                              first
                                | case rel => exact ⟨(wrap64 (x9_3 + 1)), sm_, H', ⟨by have := HK1.out; have := HJ12.out; have := HK3.out; omega⟩, ⟨(ro_ HO_3)⟩, ⟨(ro_ HO_4)⟩, ⟨bl_⟩⟩
                                | case rel => exact ⟨(y712), (wrap64 ((wrap64 (x9_3 - x6_1)) - 1)), (wrap64 (x6_1 + 1)), sm_, sm_, H', ⟨by have := HK1.out; have := HJ12.out; have := HK3.out; omega⟩, ⟨(ro_ HO_3)⟩, ⟨(rt_ (Kd.R_mono HO7003.out (fun _ hk => trivial)))⟩, ⟨bl_⟩⟩
                                | case rel => exact ⟨(y724), (wrap64 ((wrap64 (x9_3 - x6_1)) - 1)), (wrap64 (x6_1 + 1)), sm_, sm_, H', ⟨by have := HK1.out; have := HJ12.out; have := HK3.out; omega⟩, ⟨(ro_ HO_3)⟩, ⟨(rt_ (Kd.R_mono HO7003.out (fun _ hk => trivial)))⟩, ⟨bl_⟩⟩
                                | case rel => exact ⟨(y736), (wrap64 ((wrap64 (x9_3 - x6_1)) - 1)), (wrap64 (x6_1 + 1)), sm_, sm_, H', ⟨by have := HK1.out; have := HJ12.out; have := HK3.out; omega⟩, ⟨(ro_ HO_3)⟩, ⟨(rt_ (Kd.R_mono HO7003.out (fun _ hk => trivial)))⟩, ⟨bl_⟩⟩
                                | case rel => exact ⟨(y748), (wrap64 ((wrap64 (x9_3 - x6_1)) - 1)), (wrap64 (x6_1 + 1)), sm_, sm_, H', ⟨by have := HK1.out; have := HJ12.out; have := HK3.out; omega⟩, ⟨(ro_ HO_3)⟩, ⟨(rt_ (Kd.R_mono HO7003.out (fun _ hk => trivial)))⟩, ⟨bl_⟩⟩
                      have H' := Aside0.mk H
                      clear H
                    all_goals
                      go_wp2_with (first | (go_at_call 32; (with_reducible refine (windroseref17_Coded.calls kj12 (rd t681 (ji10)) t695 _ A20.out).mono ?_); rintro e w25 ⟨v696, rfl, ho0, hb⟩; have n_ := pk5 (Kd.R_below (ro_ HO_3) hb) (Kd.R_elder' (ro_ HO691) (Kd.R_base ho0) hb) (Kd.R_elder' (ro_ HO694) (Kd.R_base ho0) hb) (Kd.R_lower (Kd.R_new' (Kd.R_new' ho0 (Kd.R_lt (ro_ HO691))) (Kd.R_lt (ro_ HO694))) (below_size bl_)) (below_step bl_ hb); clear HO_3 HO691 HO694 HB; obtain ⟨HO_3, HO691, HO694, HO697, HB⟩ := n_; (try clear hb ho0); obtain ⟨Ao27, co27, eo27⟩ := Kd.R_slice HO697.out; subst eo27) | (go_at_call 32; (with_reducible refine (windroseref17_Coded.calls kj12 (rd t681 (ji7)) t689 _ A18.out).mono ?_); rintro e w22 ⟨v690, rfl, ho0, hb⟩; have n_ := pk4 (Kd.R_below (ro_ HO_3) hb) (Kd.R_elder' (ro_ HO_4) (Kd.R_base ho0) hb) (Kd.R_lower (Kd.R_new' ho0 (Kd.R_lt (ro_ HO_4))) (below_size bl_)) (below_step bl_ hb); clear HO_3 HO_4 HB; obtain ⟨HO_3, HO_4, HO691, HB⟩ := n_; (try clear hb ho0); obtain ⟨Ao24, co24, eo24⟩ := Kd.R_slice HO691.out; subst eo24) | ((with_reducible refine gate_builtin (b := .append) (xs := #[.tmp 41, .tmp 43]) rfl ?_); at_builtin; refine Kd.R_append_rows Kd.bool (w0 := w) w.heap.size rfl (.tmp 41) (.tmp 43) 39 4 (.bool false) 1 rfl Try.underlying39 info4 rfl (by decide) (by omega) u4 x4_1 t689 _ _ _ (fun k_ => some k_ ≠ (.slice Ao24 t689.length co24 : Value).ownBlock) (fun _ => False) rfl rfl ?aO ?aR (fun _ _ h => h) (fun _ h => h.elim) ?aF ?aB ?aS ?aL ?_; (case aR => exact cr_ HO691); (case aB => exact bl_); (case aF => exact (fun k_ hk => Kd.fresh' (Kd.R_lt (ro_ HO691)) k_ hk)); (case aO => exact (rt_ (Kd.R_mono HO_4.out (fun _ hk => hk.2)))); (case aS => exact (below_size bl_)); (case aL => have := LMc19.out; omega); intro v693 w23 ho hb hg hat; rw [← Ny692.out] at ho; have n_ := pk4 (Kd.R_over' (ro_ HO_3) (Kd.R_typed (ro_ HO_4)) (by decide) hg) (Kd.R_after (ok := (fun _ => True)) (ro_ HO691) hg hat) (hb) (ho); clear HO_3 HO691 HB HO_4; obtain ⟨HO_3, HO691, HB, HO694⟩ := n_; clear ho hb hg hat) | ((with_reducible refine gate_builtin (b := .append) (xs := #[.tmp 45, .tmp 47]) rfl ?_); at_builtin; refine Kd.R_append_rows Kd.bool (w0 := w) w.heap.size rfl (.tmp 45) (.tmp 47) 39 4 (.bool false) 1 rfl Try.underlying39 info4 rfl (by decide) (by omega) v693 y692 t695 _ _ _ (fun k_ => some k_ ≠ (.slice Ao24 t689.length co24 : Value).ownBlock ∧ some k_ ≠ (.slice Ao27 t695.length co27 : Value).ownBlock) (fun _ => False) rfl rfl ?aO ?aR (fun _ _ h => h) (fun _ h => h.elim) ?aF ?aB ?aS ?aL ?_; (case aR => exact cr_ HO697); (case aB => exact bl_); (case aF => exact (fun k_ hk => ⟨Kd.fresh' (Kd.R_lt (ro_ HO691)) k_ hk, Kd.fresh' (Kd.R_lt (ro_ HO697)) k_ hk⟩)); (case aO => exact (ro_ HO694)); (case aS => exact (below_size bl_)); (case aL => have := LMc21.out; omega); intro v699 w26 ho hb hg hat; rw [← Ny698.out] at ho; have n_ := pk5 (Kd.R_over' (ro_ HO_3) (Kd.R_typed (ro_ HO694)) (by decide) hg) (Kd.R_after (ok := (fun k_ => some k_ ≠ (.slice Ao27 t695.length co27 : Value).ownBlock)) (rt_ (Kd.R_mono HO691.out (fun _ hk => ⟨hk.2, hk.1.2⟩))) hg hat) (Kd.R_after (ok := (fun k_ => some k_ ≠ (.slice Ao24 t689.length co24 : Value).ownBlock)) (rt_ (Kd.R_mono HO697.out (fun _ hk => ⟨hk.1.2, hk.2⟩))) hg hat) (hb) (ho); clear HO_3 HO691 HO697 HB HO694; obtain ⟨HO_3, HO691, HO697, HB, HO700⟩ := n_; clear ho hb hg hat))
                      repeat (go_quiet (first | (go_at_call 32; (with_reducible refine (windroseref17_Coded.calls kj12 (rd t681 (ji10)) t695 _ A20.out).mono ?_); rintro e w25 ⟨v696, rfl, ho0, hb⟩; have n_ := pk5 (Kd.R_below (ro_ HO_3) hb) (Kd.R_elder' (ro_ HO691) (Kd.R_base ho0) hb) (Kd.R_elder' (ro_ HO694) (Kd.R_base ho0) hb) (Kd.R_lower (Kd.R_new' (Kd.R_new' ho0 (Kd.R_lt (ro_ HO691))) (Kd.R_lt (ro_ HO694))) (below_size bl_)) (below_step bl_ hb); clear HO_3 HO691 HO694 HB; obtain ⟨HO_3, HO691, HO694, HO697, HB⟩ := n_; (try clear hb ho0); obtain ⟨Ao27, co27, eo27⟩ := Kd.R_slice HO697.out; subst eo27) | (go_at_call 32; (with_reducible refine (windroseref17_Coded.calls kj12 (rd t681 (ji7)) t689 _ A18.out).mono ?_); rintro e w22 ⟨v690, rfl, ho0, hb⟩; have n_ := pk4 (Kd.R_below (ro_ HO_3) hb) (Kd.R_elder' (ro_ HO_4) (Kd.R_base ho0) hb) (Kd.R_lower (Kd.R_new' ho0 (Kd.R_lt (ro_ HO_4))) (below_size bl_)) (below_step bl_ hb); clear HO_3 HO_4 HB; obtain ⟨HO_3, HO_4, HO691, HB⟩ := n_; (try clear hb ho0); obtain ⟨Ao24, co24, eo24⟩ := Kd.R_slice HO691.out; subst eo24) | ((with_reducible refine gate_builtin (b := .append) (xs := #[.tmp 41, .tmp 43]) rfl ?_); at_builtin; refine Kd.R_append_rows Kd.bool (w0 := w) w.heap.size rfl (.tmp 41) (.tmp 43) 39 4 (.bool false) 1 rfl Try.underlying39 info4 rfl (by decide) (by omega) u4 x4_1 t689 _ _ _ (fun k_ => some k_ ≠ (.slice Ao24 t689.length co24 : Value).ownBlock) (fun _ => False) rfl rfl ?aO ?aR (fun _ _ h => h) (fun _ h => h.elim) ?aF ?aB ?aS ?aL ?_; (case aR => exact cr_ HO691); (case aB => exact bl_); (case aF => exact (fun k_ hk => Kd.fresh' (Kd.R_lt (ro_ HO691)) k_ hk)); (case aO => exact (rt_ (Kd.R_mono HO_4.out (fun _ hk => hk.2)))); (case aS => exact (below_size bl_)); (case aL => have := LMc19.out; omega); intro v693 w23 ho hb hg hat; rw [← Ny692.out] at ho; have n_ := pk4 (Kd.R_over' (ro_ HO_3) (Kd.R_typed (ro_ HO_4)) (by decide) hg) (Kd.R_after (ok := (fun _ => True)) (ro_ HO691) hg hat) (hb) (ho); clear HO_3 HO691 HB HO_4; obtain ⟨HO_3, HO691, HB, HO694⟩ := n_; clear ho hb hg hat) | ((with_reducible refine gate_builtin (b := .append) (xs := #[.tmp 45, .tmp 47]) rfl ?_); at_builtin; refine Kd.R_append_rows Kd.bool (w0 := w) w.heap.size rfl (.tmp 45) (.tmp 47) 39 4 (.bool false) 1 rfl Try.underlying39 info4 rfl (by decide) (by omega) v693 y692 t695 _ _ _ (fun k_ => some k_ ≠ (.slice Ao24 t689.length co24 : Value).ownBlock ∧ some k_ ≠ (.slice Ao27 t695.length co27 : Value).ownBlock) (fun _ => False) rfl rfl ?aO ?aR (fun _ _ h => h) (fun _ h => h.elim) ?aF ?aB ?aS ?aL ?_; (case aR => exact cr_ HO697); (case aB => exact bl_); (case aF => exact (fun k_ hk => ⟨Kd.fresh' (Kd.R_lt (ro_ HO691)) k_ hk, Kd.fresh' (Kd.R_lt (ro_ HO697)) k_ hk⟩)); (case aO => exact (ro_ HO694)); (case aS => exact (below_size bl_)); (case aL => have := LMc21.out; omega); intro v699 w26 ho hb hg hat; rw [← Ny698.out] at ho; have n_ := pk5 (Kd.R_over' (ro_ HO_3) (Kd.R_typed (ro_ HO694)) (by decide) hg) (Kd.R_after (ok := (fun k_ => some k_ ≠ (.slice Ao27 t695.length co27 : Value).ownBlock)) (rt_ (Kd.R_mono HO691.out (fun _ hk => ⟨hk.2, hk.1.2⟩))) hg hat) (Kd.R_after (ok := (fun k_ => some k_ ≠ (.slice Ao24 t689.length co24 : Value).ownBlock)) (rt_ (Kd.R_mono HO697.out (fun _ hk => ⟨hk.1.2, hk.2⟩))) hg hat) (hb) (ho); clear HO_3 HO691 HO697 HB HO694; obtain ⟨HO_3, HO691, HO697, HB, HO700⟩ := n_; clear ho hb hg hat)); try go_wp2_with (first | (go_at_call 32; (with_reducible refine (windroseref17_Coded.calls kj12 (rd t681 (ji10)) t695 _ A20.out).mono ?_); rintro e w25 ⟨v696, rfl, ho0, hb⟩; have n_ := pk5 (Kd.R_below (ro_ HO_3) hb) (Kd.R_elder' (ro_ HO691) (Kd.R_base ho0) hb) (Kd.R_elder' (ro_ HO694) (Kd.R_base ho0) hb) (Kd.R_lower (Kd.R_new' (Kd.R_new' ho0 (Kd.R_lt (ro_ HO691))) (Kd.R_lt (ro_ HO694))) (below_size bl_)) (below_step bl_ hb); clear HO_3 HO691 HO694 HB; obtain ⟨HO_3, HO691, HO694, HO697, HB⟩ := n_; (try clear hb ho0); obtain ⟨Ao27, co27, eo27⟩ := Kd.R_slice HO697.out; subst eo27) | (go_at_call 32; (with_reducible refine (windroseref17_Coded.calls kj12 (rd t681 (ji7)) t689 _ A18.out).mono ?_); rintro e w22 ⟨v690, rfl, ho0, hb⟩; have n_ := pk4 (Kd.R_below (ro_ HO_3) hb) (Kd.R_elder' (ro_ HO_4) (Kd.R_base ho0) hb) (Kd.R_lower (Kd.R_new' ho0 (Kd.R_lt (ro_ HO_4))) (below_size bl_)) (below_step bl_ hb); clear HO_3 HO_4 HB; obtain ⟨HO_3, HO_4, HO691, HB⟩ := n_; (try clear hb ho0); obtain ⟨Ao24, co24, eo24⟩ := Kd.R_slice HO691.out; subst eo24) | ((with_reducible refine gate_builtin (b := .append) (xs := #[.tmp 41, .tmp 43]) rfl ?_); at_builtin; refine Kd.R_append_rows Kd.bool (w0 := w) w.heap.size rfl (.tmp 41) (.tmp 43) 39 4 (.bool false) 1 rfl Try.underlying39 info4 rfl (by decide) (by omega) u4 x4_1 t689 _ _ _ (fun k_ => some k_ ≠ (.slice Ao24 t689.length co24 : Value).ownBlock) (fun _ => False) rfl rfl ?aO ?aR (fun _ _ h => h) (fun _ h => h.elim) ?aF ?aB ?aS ?aL ?_; (case aR => exact cr_ HO691); (case aB => exact bl_); (case aF => exact (fun k_ hk => Kd.fresh' (Kd.R_lt (ro_ HO691)) k_ hk)); (case aO => exact (rt_ (Kd.R_mono HO_4.out (fun _ hk => hk.2)))); (case aS => exact (below_size bl_)); (case aL => have := LMc19.out; omega); intro v693 w23 ho hb hg hat; rw [← Ny692.out] at ho; have n_ := pk4 (Kd.R_over' (ro_ HO_3) (Kd.R_typed (ro_ HO_4)) (by decide) hg) (Kd.R_after (ok := (fun _ => True)) (ro_ HO691) hg hat) (hb) (ho); clear HO_3 HO691 HB HO_4; obtain ⟨HO_3, HO691, HB, HO694⟩ := n_; clear ho hb hg hat) | ((with_reducible refine gate_builtin (b := .append) (xs := #[.tmp 45, .tmp 47]) rfl ?_); at_builtin; refine Kd.R_append_rows Kd.bool (w0 := w) w.heap.size rfl (.tmp 45) (.tmp 47) 39 4 (.bool false) 1 rfl Try.underlying39 info4 rfl (by decide) (by omega) v693 y692 t695 _ _ _ (fun k_ => some k_ ≠ (.slice Ao24 t689.length co24 : Value).ownBlock ∧ some k_ ≠ (.slice Ao27 t695.length co27 : Value).ownBlock) (fun _ => False) rfl rfl ?aO ?aR (fun _ _ h => h) (fun _ h => h.elim) ?aF ?aB ?aS ?aL ?_; (case aR => exact cr_ HO697); (case aB => exact bl_); (case aF => exact (fun k_ hk => ⟨Kd.fresh' (Kd.R_lt (ro_ HO691)) k_ hk, Kd.fresh' (Kd.R_lt (ro_ HO697)) k_ hk⟩)); (case aO => exact (ro_ HO694)); (case aS => exact (below_size bl_)); (case aL => have := LMc21.out; omega); intro v699 w26 ho hb hg hat; rw [← Ny698.out] at ho; have n_ := pk5 (Kd.R_over' (ro_ HO_3) (Kd.R_typed (ro_ HO694)) (by decide) hg) (Kd.R_after (ok := (fun k_ => some k_ ≠ (.slice Ao27 t695.length co27 : Value).ownBlock)) (rt_ (Kd.R_mono HO691.out (fun _ hk => ⟨hk.2, hk.1.2⟩))) hg hat) (Kd.R_after (ok := (fun k_ => some k_ ≠ (.slice Ao24 t689.length co24 : Value).ownBlock)) (rt_ (Kd.R_mono HO697.out (fun _ hk => ⟨hk.1.2, hk.2⟩))) hg hat) (hb) (ho); clear HO_3 HO691 HO697 HB HO694; obtain ⟨HO_3, HO691, HO697, HB, HO700⟩ := n_; clear ho hb hg hat)))
                      go_roundg kj12
                      case measure => have := HK1.out; have := HJ12.out; omega
                      first
                        | case rel => exact ⟨(y698), (x5_1), (wrap64 (x6_1 + 1)), sm_, sm_, H', ⟨by have := HK1.out; have := HJ12.out; omega⟩, ⟨(ro_ HO_3)⟩, ⟨(rt_ (Kd.R_mono HO700.out (fun _ hk => trivial)))⟩, ⟨bl_⟩⟩
                        | case rel => exact ⟨(x4_1), (wrap64 (x5_1 - 1)), (wrap64 (x6_1 + 1)), sm_, sm_, H', ⟨by have := HK1.out; have := HJ12.out; omega⟩, ⟨(ro_ HO_3)⟩, ⟨(ro_ HO_4)⟩, ⟨bl_⟩⟩
              exact absurd H (by simp)
            exact absurd H (by simp)
          exact absurd H (by simp)
        exact absurd H (by simp)
      obtain rfl := Option.some.inj H
      go_wp2
      repeat (go_quiet (fail); try go_wp2)
      go_ret
      exact ⟨_, rf_, (ro_ HO_4), bl_⟩
end Go.Proofs.Ytmddmbagehjdeaa.G
end
section
namespace Go.Proofs.Ytmddmbagehjdeaa.G
open Go.RowKit Go.Proofs.YtmddmbagehjdeaaX Go.Proofs.YtmddmbagehjdeaaW.PrintWords Go.Proofs.YtmddmbagehjdeaaW.PrintLast Go.Proofs.YtmddmbagehjdeaaW.PrintMore
attribute [local go_sem] max2_int min2_int max_two min_two max_three min_three max_four min_four
set_option linter.unusedVariables false
set_option linter.unusedSimpArgs false
def windroseref18_Build.f (k : Nat) (l0 : List (S67)) : Option (Int × Int × Int × List Int × Int) := if 0 < (l0.length : Int) then (if 0 ≤ (wrap64 ((l0.length : Int) - 1)) then (if (wrap64 ((l0.length : Int) - 1)) < (l0.length : Int) then ((windroseref18_Bits.f k l0).bind fun t754 => ((windroseref17_Of.f k t754).bind fun bt757 => (some ((l0.length : Int), (rd_T67 l0 0).f0, (rd_T67 l0 (wrap64 ((l0.length : Int) - 1))).f0, bt757.1, bt757.2)))) else (none)) else (none)) else (none)
def windroseref18_Build.T1 : Bool × List (List Nat × List Nat) := (true, [([], []), ([0], [0]), ([], []), ([2], [2]), ([3], [3]), ([4], [4]), ([], []), ([], []), ([7], [7]), ([8], [8]), ([6, 9], [6, 9]), ([10], [10]), ([11], [11]), ([], []), ([13], [13]), ([14, 14], [14]), ([1, 5, 12, 15], [1, 5, 12, 15]), ([16, 15, 0, 1, 2, 3, 4, 5, 6, 7, 8, 9, 10, 11, 12, 13, 14, 15, 16], [16])])
def windroseref18_Build.B1 : List Nat := [0, 1, 0, 4, 12, 28, 0, 0, 128, 384, 960, 1984, 4032, 0, 8192, 24576, 65535, 131071]
theorem windroseref18_Build.tab1 : rtab .any (opsOf Try.f41 1) = windroseref18_Build.T1 := by kernel_rfl
theorem windroseref18_Build.bits1 : waitsOk windroseref18_Build.T1.2 windroseref18_Build.B1 = true := by kernel_rfl
set_option maxHeartbeats 8000000 in
set_option maxRecDepth 100000 in
theorem windroseref18_Build.calls (k : Nat) (A0 : Option Addr) (c0 : Nat) (l0 : List (S67)) (r1 : Int) (r2 : Int) (r3 : Int) (r4 : List Int) (r5 : Int) (w : World) (hr0 : Kd.C k67 w A0 l0.length l0) (hc0 : l0.length ≤ c0) (h : windroseref18_Build.f k l0 = some (r1, r2, r3, r4, r5)) :
    Calls Try.prog 41 #[.slice A0 l0.length c0] w fun e w' => ∃ v3_ : Value, e = .returned (.agg #[.int .i64 r1, .int .i64 r2, .int .i64 r3, v3_, .int .i64 r5]) ∧ Kd.R (Kd.int .u8) 5 w' w.heap.size (fun _ => True) v3_ r4 ∧ Below w.heap.size w w' := by
  have hu69 := Try.underlying69
  have HR0 := Aside0.mk hr0
  have HC0 := Aside0.mk hc0
  clear hr0 hc0
  have HB := Aside0.mk (Below.refl w.heap.size w)
  have H : (if 0 < (l0.length : Int) then (if 0 ≤ (wrap64 ((l0.length : Int) - 1)) then (if (wrap64 ((l0.length : Int) - 1)) < (l0.length : Int) then ((windroseref18_Bits.f k l0).bind fun t754 => ((windroseref17_Of.f k t754).bind fun bt757 => (some ((l0.length : Int), (rd_T67 l0 0).f0, (rd_T67 l0 (wrap64 ((l0.length : Int) - 1))).f0, bt757.1, bt757.2)))) else (none)) else (none)) else (none)) = some (r1, r2, r3, r4, r5) := h
  clear h
  by_cases c2 : 0 < (l0.length : Int)
  rotate_left
  · rw [if_neg c2] at H
    exact absurd H (by simp)
  rw [if_pos c2] at H
  have c2b0 : decide (0 < (l0.length : Int)) = true := decide_eq_true c2
  have c2b1 : decide (0 < l0.length) = true := decide_eq_true (by omega)
  clear c2
  obtain ⟨ji3, hji3⟩ : ∃ j_ : Int, (wrap64 ((l0.length : Int) - 1)) = j_ := ⟨_, rfl⟩
  replace H : (if 0 ≤ (ji3) then (if (ji3) < (l0.length : Int) then ((windroseref18_Bits.f k l0).bind fun t754 => ((windroseref17_Of.f k t754).bind fun bt757 => (some ((l0.length : Int), (rd_T67 l0 0).f0, (rd_T67 l0 (ji3)).f0, bt757.1, bt757.2)))) else (none)) else (none)) = some (r1, r2, r3, r4, r5) := by first | (rw [hji3] at H; exact H) | (simp only [hji3] at H ⊢; exact H)
  have hji3w : (IntKind.i64.wrap ((l0.length : Int) - 1)) = ji3 := (i64_w _).trans hji3
  replace H := dle H
  rcases H with ⟨c4b0, H⟩ | ⟨c4b0, H⟩
  rotate_left
  · exact absurd H (by simp)
  replace H := dle H
  rcases H with ⟨c5b0, H⟩ | ⟨c5b0, H⟩
  rotate_left
  · exact absurd H (by simp)
  replace H := bindA H
  obtain ⟨t754, A6, H⟩ := H
  try dsimp only at H
  replace H := bindA H
  obtain ⟨⟨t757, t760⟩, A7, H⟩ := H
  try dsimp only at H
  simp only [Option.some.injEq, Prod.mk.injEq] at H
  obtain ⟨rfl, rfl, rfl, rfl, rfl⟩ := H
  go_enter Try.func41, Try.ntmps41
  try go_wp2_with (first | ((with_reducible refine gate_dst (N := 2) rfl ?_); refine box_ev 2 #[.int .i64 0, .int .i64 0, .int .i64 0, .slice none 0 0, .int .i64 0] 69 ?_; intro gb7000 hg w7000 hbox hb; have n_ := pk4 (below_step bl_ hb) (hbox) ((ge_ hg bl_ : w.heap.size ≤ gb7000)) ((ge_ hg bl_ : w.heap.size ≤ gb7000)); clear HB; obtain ⟨HB, BK7000, GW7000, GE7000⟩ := n_; clear hb hbox hg))
  have n7000_ := Aside0.mk (blk_drew BK7000.out)
  have n7001_ := Aside0.mk (below_drew1 HB.out)
  clear BK7000
  clear HB
  have BK7000 := n7000_
  have HB := n7001_
  clear n7000_ n7001_
  have p7000 : 0 ≤ (0 : Int) := (by omega)
  have q7000 : 0 < (l0.length : Int) := dc_
  obtain ⟨ad7000, e7000, hx7000_0, hx7000_1⟩ := at_T67 HR0.out 0 p7000 q7000
  have hw7000_1 := hx7000_1
  (try rw [show ((0 : Int)).toNat = 0 from rfl] at hw7000_1)
  (try rw [show 0 * 2 = 0 from rfl] at hw7000_1)
  (try rw [Addr.add_zero'] at hw7000_1)
  have hw7000_0 := hx7000_0
  (try rw [show ((0 : Int)).toNat = 0 from rfl] at hw7000_0)
  (try rw [show 0 * 2 = 0 from rfl] at hw7000_0)
  (try rw [Addr.add_zero'] at hw7000_0)
  cases e7000
  have qi7000 : (0 < l0.length) = True := eq_true (by omega)
  (try rw [show ((0 : Int)).toNat = 0 from rfl] at hx7000_0)
  (try rw [show 0 * 2 = 0 from rfl] at hx7000_0)
  (try rw [Addr.add_zero'] at hx7000_0)
  (try rw [show ((0 : Int)).toNat = 0 from rfl] at hx7000_1)
  (try rw [show 0 * 2 = 0 from rfl] at hx7000_1)
  (try rw [Addr.add_zero'] at hx7000_1)
  replace hx7000_0 := (HB.out.cell (World.block_lt_of_cell? w _ hx7000_0)).trans hx7000_0
  replace hx7000_1 := (HB.out.cell (World.block_lt_of_cell? w _ hx7000_1)).trans hx7000_1
  replace p7000 := eq_true p7000
  replace q7000 := eq_true q7000
  have p7001 : 0 ≤ ((ji3) : Int) := dc_
  have q7001 : (ji3) < (l0.length : Int) := dc_
  obtain ⟨ad7001, e7001, hx7001_0, hx7001_1⟩ := at_T67 HR0.out (ji3) p7001 q7001
  have hw7001_1 := hx7001_1
  have hw7001_0 := hx7001_0
  obtain rfl : ad7000 = ad7001 := (by injection e7001)
  replace hx7001_0 := (HB.out.cell (World.block_lt_of_cell? w _ hx7001_0)).trans hx7001_0
  replace hx7001_1 := (HB.out.cell (World.block_lt_of_cell? w _ hx7001_1)).trans hx7001_1
  replace p7001 := eq_true p7001
  replace q7001 := eq_true q7001
  refine start_ (n := 18) (S := fun w' => w'.cell? ad7000 = some (.int .i64 ((rd_T67 l0 0).f0)) ∧ w'.cell? ⟨ad7000.block, ad7000.off + 1, none⟩ = some (.int .i64 ((rd_T67 l0 0).f1)) ∧ w'.cell? (ad7000.add (((ji3)).toNat * 2)) = some (.int .i64 ((rd_T67 l0 (ji3)).f0)) ∧ w'.cell? ⟨(ad7000.add (((ji3)).toNat * 2)).block, (ad7000.add (((ji3)).toNat * 2)).off + 1, none⟩ = some (.int .i64 ((rd_T67 l0 (ji3)).f1))) (ds := []) #[false, false, false, false, false, false, false, false, false, false, false, false, false, false, false, false, false, false] (by kernel_rfl) rfl rfl ⟨((HB.out.cell (World.block_lt_of_cell? w _ hw7000_0)).trans hw7000_0), ((HB.out.cell (World.block_lt_of_cell? w _ hw7000_1)).trans hw7000_1), ((HB.out.cell (World.block_lt_of_cell? w _ hw7001_0)).trans hw7001_0), ((HB.out.cell (World.block_lt_of_cell? w _ hw7001_1)).trans hw7001_1)⟩ (fun hHeld => ?_); refine with_tabW windroseref18_Build.tab1 windroseref18_Build.bits1 (fun HT_ HW_ => ?_)
  generalize w7000.drew = w7001 at BK7000 HB hx7000_0 hx7000_1 hx7001_0 hx7001_1 hHeld ⊢
  refine pure_ (i := 0) (N := some 3) (v := ?_) (a' := ?_) #[true, false, false, false, false, false, false, false, false, false, false, false, false, false, false, false, false, false] rfl rfl (any_of HT_.out (by kernel_rfl)) (fun _ _ _ h => h) (Or.inl ⟨by rfl, ?_⟩) ?_ ?_
  rotate_left
  · intro w'
    go_simp
    with_reducible rfl
  rotate_left
  · simp only [Act.put, List.setIfInBounds_toArray, List.set_cons_zero, List.set_cons_succ, i64_w, i32_w]
    rfl
  refine pure_ (i := 1) (N := some 4) (v := ?_) (a' := ?_) #[true, true, false, false, false, false, false, false, false, false, false, false, false, false, false, false, false, false] rfl rfl (any_of HT_.out (by kernel_rfl)) (fun _ _ _ h => h) (Or.inl ⟨by rfl, ?_⟩) ?_ ?_
  rotate_left
  · intro w'
    go_simp
    with_reducible rfl
  rotate_left
  · simp only [Act.put, List.setIfInBounds_toArray, List.set_cons_zero, List.set_cons_succ, i64_w, i32_w]
    rfl
  refine pure_ (i := 2) (N := some 5) (v := ?_) (a' := ?_) #[true, true, true, false, false, false, false, false, false, false, false, false, false, false, false, false, false, false] rfl rfl (any_of HT_.out (by kernel_rfl)) (fun _ _ _ h => h) (Or.inl ⟨by rfl, ?_⟩) ?_ ?_
  rotate_left
  · intro w'
    go_simp
    with_reducible rfl
  rotate_left
  · simp only [Act.put, List.setIfInBounds_toArray, List.set_cons_zero, List.set_cons_succ, i64_w, i32_w]
    rfl
  refine pure_ (i := 3) (N := some 6) (v := ?_) (a' := ?_) #[true, true, true, true, false, false, false, false, false, false, false, false, false, false, false, false, false, false] rfl rfl (any_of HT_.out (by kernel_rfl)) (fun _ _ _ h => h) (Or.inl ⟨by rfl, ?_⟩) ?_ ?_
  rotate_left
  · intro w'
    go_simp
    with_reducible rfl
  rotate_left
  · simp only [Act.put, List.setIfInBounds_toArray, List.set_cons_zero, List.set_cons_succ, i64_w, i32_w]
    rfl
  refine pure_ (i := 4) (N := some 7) (v := ?_) (a' := ?_) #[true, true, true, true, true, false, false, false, false, false, false, false, false, false, false, false, false, false] rfl rfl (any_of HT_.out (by kernel_rfl)) (fun _ _ _ h => h) (Or.inl ⟨by rfl, ?_⟩) ?_ ?_
  rotate_left
  · intro w'
    go_simp
    with_reducible rfl
  rotate_left
  · simp only [Act.put, List.setIfInBounds_toArray, List.set_cons_zero, List.set_cons_succ, i64_w, i32_w]
    rfl
  refine pure_ (i := 6) (N := some 9) (v := ?_) (a' := ?_) #[true, true, true, true, true, false, true, false, false, false, false, false, false, false, false, false, false, false] rfl rfl (any_of HT_.out (by kernel_rfl)) (fun _ _ _ h => h) (Or.inl ⟨by rfl, ?_⟩) ?_ ?_
  rotate_left
  · intro w'
    go_simp
    with_reducible rfl
  rotate_left
  · simp only [Act.put, List.setIfInBounds_toArray, List.set_cons_zero, List.set_cons_succ, i64_w, i32_w]
    rfl
  refine pure_ (i := 7) (N := some 10) (v := ?_) (a' := ?_) #[true, true, true, true, true, false, true, true, false, false, false, false, false, false, false, false, false, false] rfl rfl (any_of HT_.out (by kernel_rfl)) (fun _ _ _ h => h) (Or.inl ⟨by rfl, ?_⟩) ?_ ?_
  rotate_left
  · intro w'
    go_simp
    with_reducible rfl
  rotate_left
  · simp only [Act.put, List.setIfInBounds_toArray, List.set_cons_zero, List.set_cons_succ, i64_w, i32_w]
    rfl
  refine pure_ (i := 8) (N := some 11) (v := ?_) (a' := ?_) #[true, true, true, true, true, false, true, true, true, false, false, false, false, false, false, false, false, false] rfl rfl (any_of HT_.out (by kernel_rfl)) (fun _ _ _ h => h) (Or.inl ⟨by rfl, ?_⟩) ?_ ?_
  rotate_left
  · intro w'
    go_simp
    with_reducible rfl
  rotate_left
  · simp only [Act.put, List.setIfInBounds_toArray, List.set_cons_zero, List.set_cons_succ, i64_w, i32_w]
    rfl
  refine pure_ (i := 9) (N := some 12) (v := ?_) (a' := ?_) #[true, true, true, true, true, false, true, true, true, true, false, false, false, false, false, false, false, false] rfl rfl (any_of HT_.out (by kernel_rfl)) (fun _ _ _ h => h) (Or.inl ⟨by rfl, ?_⟩) ?_ ?_
  rotate_left
  · intro w'
    go_simp
    with_reducible rfl
  rotate_left
  · simp only [Act.put, List.setIfInBounds_toArray, List.set_cons_zero, List.set_cons_succ, i64_w, i32_w]
    rfl
  refine pure_ (i := 10) (N := some 13) (v := ?_) (a' := ?_) #[true, true, true, true, true, false, true, true, true, true, true, false, false, false, false, false, false, false] rfl rfl (any_of HT_.out (by kernel_rfl)) (fun _ _ _ h => h) (Or.inl ⟨by rfl, ?_⟩) ?_ ?_
  rotate_left
  · intro w'
    go_simp
    with_reducible rfl
  rotate_left
  · simp only [Act.put, List.setIfInBounds_toArray, List.set_cons_zero, List.set_cons_succ, i64_w, i32_w]
    rfl
  refine pure_ (i := 11) (N := some 14) (v := ?_) (a' := ?_) #[true, true, true, true, true, false, true, true, true, true, true, true, false, false, false, false, false, false] rfl rfl (any_of HT_.out (by kernel_rfl)) (fun _ _ _ h => h) (Or.inl ⟨by rfl, ?_⟩) ?_ ?_
  rotate_left
  · intro w'
    go_simp
    with_reducible rfl
  rotate_left
  · simp only [Act.put, List.setIfInBounds_toArray, List.set_cons_zero, List.set_cons_succ, i64_w, i32_w]
    rfl
  refine pure_ (i := 13) (N := some 16) (v := ?_) (a' := ?_) #[true, true, true, true, true, false, true, true, true, true, true, true, false, true, false, false, false, false] rfl rfl (any_of HT_.out (by kernel_rfl)) (fun _ _ _ h => h) (Or.inl ⟨by rfl, ?_⟩) ?_ ?_
  rotate_left
  · intro w'
    go_simp
    with_reducible rfl
  rotate_left
  · simp only [Act.put, List.setIfInBounds_toArray, List.set_cons_zero, List.set_cons_succ, i64_w, i32_w]
    rfl
  refine take_ (i := 5) (N := some 8) (v := ?_) (a' := ?_) #[true, true, true, true, true, true, true, true, true, true, true, true, false, true, false, false, false, false] rfl rfl (take_ofW HT_.out HW_.out (by kernel_rfl)) (fun _ _ _ h => h) (Or.inl ⟨by rfl, ?_⟩) hHeld ?_ ?_
  rotate_left
  · rintro w' ⟨s7000, s7001, s7002, s7003⟩
    go_simp
    with_reducible rfl
  rotate_left
  · simp only [Act.put, List.setIfInBounds_toArray, List.set_cons_zero, List.set_cons_succ, i64_w, i32_w]
    rfl
  refine take_ (i := 12) (N := some 15) (v := ?_) (a' := ?_) #[true, true, true, true, true, true, true, true, true, true, true, true, true, true, false, false, false, false] rfl rfl (take_ofW HT_.out HW_.out (by kernel_rfl)) (fun _ _ _ h => h) (Or.inl ⟨by rfl, ?_⟩) hHeld ?_ ?_
  rotate_left
  · rintro w' ⟨s7000, s7001, s7002, s7003⟩
    go_simp
    with_reducible rfl
  rotate_left
  · simp only [Act.put, List.setIfInBounds_toArray, List.set_cons_zero, List.set_cons_succ, i64_w, i32_w]
    rfl
  refine one_ (i := 14) (N := some 17) #[true, true, true, true, true, true, true, true, true, true, true, true, true, true, true, false, false, false] rfl rfl (one_of HT_.out (by kernel_rfl)) (by decide) (fun K hK => ?_)
  refine goes_ Try.func74 (by kernel_rfl) rfl #[.slice (some ad7000) l0.length c0] (by rfl) rfl rfl (by (try simp only [List.map_toArray, List.map_cons, List.map_nil]); first | done | rfl | (simp only [List.length_drop, List.length_take]; rfl)) ?_
  with_reducible refine (windroseref18_Bits.calls k _ _ l0 t754 _ ?side1 ?side2 A6.out).mono ?_
  (case side1 => exact cb_ HR0)
  (case side2 => exact HC0.out)
  rintro e w7002 ⟨v7000, rfl, ho7000, hb⟩
  refine ⟨_, rfl, ?_⟩
  have n7000_ := Aside0.mk (Kd.R_lower ho7000 (below_size bl_))
  have n7001_ := Aside0.mk (blk_below (bo_ BK7000) hb)
  have n7002_ := Aside0.mk (below_step bl_ hb)
  clear BK7000
  clear HB
  have HO7000 := n7000_
  have BK7000 := n7001_
  have HB := n7002_
  clear n7000_ n7001_ n7002_
  (try clear hb)
  (try clear hb2)
  (try clear hk)
  (try clear hi)
  (try clear ho7000)
  obtain ⟨Ao7000, co7000, eo7000⟩ := Kd.R_slice HO7000.out
  (first | subst eo7000 | (injection eo7000 with f1_ f2_ f3_; have f7000_ := f1_.symm; have f7001_ := f3_.symm; clear f1_ f2_ f3_; subst f7000_; subst f7001_))
  refine hK.out _ _ ⟨((HB.out.cell (World.block_lt_of_cell? w _ hw7000_0)).trans hw7000_0), ((HB.out.cell (World.block_lt_of_cell? w _ hw7000_1)).trans hw7000_1), ((HB.out.cell (World.block_lt_of_cell? w _ hw7001_0)).trans hw7001_0), ((HB.out.cell (World.block_lt_of_cell? w _ hw7001_1)).trans hw7001_1)⟩ (fun hHeld => ?_)
  clear hK K
  refine norm_ (a' := ?_) ?_ ?_
  rotate_left
  · show Act.put _ (some 17) _ = _
    simp only [Act.put, List.setIfInBounds_toArray, List.set_cons_zero, List.set_cons_succ, i64_w, i32_w]
    rfl
  refine one_ (i := 15) (N := some 18) #[true, true, true, true, true, true, true, true, true, true, true, true, true, true, true, true, false, false] rfl rfl (one_of HT_.out (by kernel_rfl)) (by decide) (fun K hK => ?_)
  refine goes_ Try.func67 (by kernel_rfl) rfl #[.slice Ao7000 t754.length co7000] (by rfl) rfl rfl (by (try simp only [List.map_toArray, List.map_cons, List.map_nil]); first | done | rfl | (simp only [List.length_drop, List.length_take]; rfl)) ?_
  with_reducible refine (windroseref17_Of.calls k _ _ t754 t757 t760 _ ?side1 ?side2 A7.out).mono ?_
  (case side1 => exact cr_ HO7000)
  (case side2 => exact (Kd.R_reads' HO7000.out).2.1)
  rintro e w7003 ⟨v7001, rfl, ho7000, hb⟩
  refine ⟨_, rfl, ?_⟩
  have n7000_ := Aside0.mk (Kd.R_below (ro_ HO7000) hb)
  have n7001_ := Aside0.mk (Kd.R_lower ho7000 (below_size bl_))
  have n7002_ := Aside0.mk (blk_below (bo_ BK7000) hb)
  have n7003_ := Aside0.mk (below_step bl_ hb)
  clear HO7000
  clear BK7000
  clear HB
  have HO7000 := n7000_
  have HO7001 := n7001_
  have BK7000 := n7002_
  have HB := n7003_
  clear n7000_ n7001_ n7002_ n7003_
  (try clear hb)
  (try clear hb2)
  (try clear hk)
  (try clear hi)
  (try clear ho7000)
  obtain ⟨Ao7001, co7001, eo7001⟩ := Kd.R_slice HO7001.out
  (first | subst eo7001 | (injection eo7001 with f1_ f2_ f3_; have f7000_ := f1_.symm; have f7001_ := f3_.symm; clear f1_ f2_ f3_; subst f7000_; subst f7001_))
  refine hK.out _ _ ⟨((HB.out.cell (World.block_lt_of_cell? w _ hw7000_0)).trans hw7000_0), ((HB.out.cell (World.block_lt_of_cell? w _ hw7000_1)).trans hw7000_1), ((HB.out.cell (World.block_lt_of_cell? w _ hw7001_0)).trans hw7001_0), ((HB.out.cell (World.block_lt_of_cell? w _ hw7001_1)).trans hw7001_1)⟩ (fun hHeld => ?_)
  clear hK K
  refine norm_ (a' := ?_) ?_ ?_
  rotate_left
  · show Act.put _ (some 18) _ = _
    simp only [Act.put, List.setIfInBounds_toArray, List.set_cons_zero, List.set_cons_succ, i64_w, i32_w]
    rfl
  refine pure_ (i := 16) (N := some 19) (v := ?_) (a' := ?_) #[true, true, true, true, true, true, true, true, true, true, true, true, true, true, true, true, true, false] rfl rfl (any_of HT_.out (by kernel_rfl)) (fun _ _ _ h => h) (Or.inl ⟨by rfl, ?_⟩) ?_ ?_
  rotate_left
  · intro w'
    go_simp
    with_reducible rfl
  rotate_left
  · simp only [Act.put, List.setIfInBounds_toArray, List.set_cons_zero, List.set_cons_succ, i64_w, i32_w]
    rfl
  refine one_ (i := 17) (N := none) #[true, true, true, true, true, true, true, true, true, true, true, true, true, true, true, true, true, true] rfl rfl (one_of HT_.out (by kernel_rfl)) (by decide) (fun K hK => ?_)
  have hs7000 : w7003.cell? ⟨gb7000, 0, none⟩ = some (.int .i64 0) := (blk_cell BK7000.out 0).trans rfl
  have hfs7000 := blk_frozen BK7000.out 0
  have hs7001 : w7003.cell? ⟨gb7000, 1, none⟩ = some (.int .i64 0) := (blk_cell BK7000.out 1).trans rfl
  have hfs7001 := blk_frozen BK7000.out 1
  have hs7002 : w7003.cell? ⟨gb7000, 2, none⟩ = some (.int .i64 0) := (blk_cell BK7000.out 2).trans rfl
  have hfs7002 := blk_frozen BK7000.out 2
  have hs7003 : w7003.cell? ⟨gb7000, 3, none⟩ = some (.slice none 0 0) := (blk_cell BK7000.out 3).trans rfl
  have hfs7003 := blk_frozen BK7000.out 3
  have hs7004 : w7003.cell? ⟨gb7000, 4, none⟩ = some (.int .i64 0) := (blk_cell BK7000.out 4).trans rfl
  have hfs7004 := blk_frozen BK7000.out 4
  refine skip_ (w1 := ?_) (by rfl) rfl ?_ ?_
  rotate_left
  · go_simp
    rfl
  refine hK.out _ _ ⟨((cell_far (p := ⟨gb7000, _, none⟩) (by first | exact Nat.ne_of_lt (Nat.lt_of_lt_of_le (by have := World.block_lt_of_cell? _ _ hw7000_0; first | rwa [add_block] at this | exact this) GW7000.out) | (rw [add_block]; exact Nat.ne_of_lt (Nat.lt_of_lt_of_le (by have := World.block_lt_of_cell? _ _ hw7000_0; first | rwa [add_block] at this | exact this) GW7000.out)) | (show (Addr.add _ _).block ≠ _; rw [add_block]; exact Nat.ne_of_lt (Nat.lt_of_lt_of_le (by have := World.block_lt_of_cell? _ _ hw7000_0; first | rwa [add_block] at this | exact this) GW7000.out)) | (dsimp only; exact Nat.ne_of_lt (Nat.lt_of_lt_of_le (by have := World.block_lt_of_cell? _ _ hw7000_0; first | rwa [add_block] at this | exact this) GW7000.out))) _).trans (((cell_far (p := ⟨gb7000, _, none⟩) (by first | exact Nat.ne_of_lt (Nat.lt_of_lt_of_le (by have := World.block_lt_of_cell? _ _ hw7000_0; first | rwa [add_block] at this | exact this) GW7000.out) | (rw [add_block]; exact Nat.ne_of_lt (Nat.lt_of_lt_of_le (by have := World.block_lt_of_cell? _ _ hw7000_0; first | rwa [add_block] at this | exact this) GW7000.out)) | (show (Addr.add _ _).block ≠ _; rw [add_block]; exact Nat.ne_of_lt (Nat.lt_of_lt_of_le (by have := World.block_lt_of_cell? _ _ hw7000_0; first | rwa [add_block] at this | exact this) GW7000.out)) | (dsimp only; exact Nat.ne_of_lt (Nat.lt_of_lt_of_le (by have := World.block_lt_of_cell? _ _ hw7000_0; first | rwa [add_block] at this | exact this) GW7000.out))) _).trans (((cell_far (p := ⟨gb7000, _, none⟩) (by first | exact Nat.ne_of_lt (Nat.lt_of_lt_of_le (by have := World.block_lt_of_cell? _ _ hw7000_0; first | rwa [add_block] at this | exact this) GW7000.out) | (rw [add_block]; exact Nat.ne_of_lt (Nat.lt_of_lt_of_le (by have := World.block_lt_of_cell? _ _ hw7000_0; first | rwa [add_block] at this | exact this) GW7000.out)) | (show (Addr.add _ _).block ≠ _; rw [add_block]; exact Nat.ne_of_lt (Nat.lt_of_lt_of_le (by have := World.block_lt_of_cell? _ _ hw7000_0; first | rwa [add_block] at this | exact this) GW7000.out)) | (dsimp only; exact Nat.ne_of_lt (Nat.lt_of_lt_of_le (by have := World.block_lt_of_cell? _ _ hw7000_0; first | rwa [add_block] at this | exact this) GW7000.out))) _).trans (((cell_far (p := ⟨gb7000, _, none⟩) (by first | exact Nat.ne_of_lt (Nat.lt_of_lt_of_le (by have := World.block_lt_of_cell? _ _ hw7000_0; first | rwa [add_block] at this | exact this) GW7000.out) | (rw [add_block]; exact Nat.ne_of_lt (Nat.lt_of_lt_of_le (by have := World.block_lt_of_cell? _ _ hw7000_0; first | rwa [add_block] at this | exact this) GW7000.out)) | (show (Addr.add _ _).block ≠ _; rw [add_block]; exact Nat.ne_of_lt (Nat.lt_of_lt_of_le (by have := World.block_lt_of_cell? _ _ hw7000_0; first | rwa [add_block] at this | exact this) GW7000.out)) | (dsimp only; exact Nat.ne_of_lt (Nat.lt_of_lt_of_le (by have := World.block_lt_of_cell? _ _ hw7000_0; first | rwa [add_block] at this | exact this) GW7000.out))) _).trans (((cell_far (p := ⟨gb7000, _, none⟩) (by first | exact Nat.ne_of_lt (Nat.lt_of_lt_of_le (by have := World.block_lt_of_cell? _ _ hw7000_0; first | rwa [add_block] at this | exact this) GW7000.out) | (rw [add_block]; exact Nat.ne_of_lt (Nat.lt_of_lt_of_le (by have := World.block_lt_of_cell? _ _ hw7000_0; first | rwa [add_block] at this | exact this) GW7000.out)) | (show (Addr.add _ _).block ≠ _; rw [add_block]; exact Nat.ne_of_lt (Nat.lt_of_lt_of_le (by have := World.block_lt_of_cell? _ _ hw7000_0; first | rwa [add_block] at this | exact this) GW7000.out)) | (dsimp only; exact Nat.ne_of_lt (Nat.lt_of_lt_of_le (by have := World.block_lt_of_cell? _ _ hw7000_0; first | rwa [add_block] at this | exact this) GW7000.out))) _).trans (hHeld.1)))))))))), ((cell_far (p := ⟨gb7000, _, none⟩) (by first | exact Nat.ne_of_lt (Nat.lt_of_lt_of_le (by have := World.block_lt_of_cell? _ _ hw7000_1; first | rwa [add_block] at this | exact this) GW7000.out) | (rw [add_block]; exact Nat.ne_of_lt (Nat.lt_of_lt_of_le (by have := World.block_lt_of_cell? _ _ hw7000_1; first | rwa [add_block] at this | exact this) GW7000.out)) | (show (Addr.add _ _).block ≠ _; rw [add_block]; exact Nat.ne_of_lt (Nat.lt_of_lt_of_le (by have := World.block_lt_of_cell? _ _ hw7000_1; first | rwa [add_block] at this | exact this) GW7000.out)) | (dsimp only; exact Nat.ne_of_lt (Nat.lt_of_lt_of_le (by have := World.block_lt_of_cell? _ _ hw7000_1; first | rwa [add_block] at this | exact this) GW7000.out))) _).trans (((cell_far (p := ⟨gb7000, _, none⟩) (by first | exact Nat.ne_of_lt (Nat.lt_of_lt_of_le (by have := World.block_lt_of_cell? _ _ hw7000_1; first | rwa [add_block] at this | exact this) GW7000.out) | (rw [add_block]; exact Nat.ne_of_lt (Nat.lt_of_lt_of_le (by have := World.block_lt_of_cell? _ _ hw7000_1; first | rwa [add_block] at this | exact this) GW7000.out)) | (show (Addr.add _ _).block ≠ _; rw [add_block]; exact Nat.ne_of_lt (Nat.lt_of_lt_of_le (by have := World.block_lt_of_cell? _ _ hw7000_1; first | rwa [add_block] at this | exact this) GW7000.out)) | (dsimp only; exact Nat.ne_of_lt (Nat.lt_of_lt_of_le (by have := World.block_lt_of_cell? _ _ hw7000_1; first | rwa [add_block] at this | exact this) GW7000.out))) _).trans (((cell_far (p := ⟨gb7000, _, none⟩) (by first | exact Nat.ne_of_lt (Nat.lt_of_lt_of_le (by have := World.block_lt_of_cell? _ _ hw7000_1; first | rwa [add_block] at this | exact this) GW7000.out) | (rw [add_block]; exact Nat.ne_of_lt (Nat.lt_of_lt_of_le (by have := World.block_lt_of_cell? _ _ hw7000_1; first | rwa [add_block] at this | exact this) GW7000.out)) | (show (Addr.add _ _).block ≠ _; rw [add_block]; exact Nat.ne_of_lt (Nat.lt_of_lt_of_le (by have := World.block_lt_of_cell? _ _ hw7000_1; first | rwa [add_block] at this | exact this) GW7000.out)) | (dsimp only; exact Nat.ne_of_lt (Nat.lt_of_lt_of_le (by have := World.block_lt_of_cell? _ _ hw7000_1; first | rwa [add_block] at this | exact this) GW7000.out))) _).trans (((cell_far (p := ⟨gb7000, _, none⟩) (by first | exact Nat.ne_of_lt (Nat.lt_of_lt_of_le (by have := World.block_lt_of_cell? _ _ hw7000_1; first | rwa [add_block] at this | exact this) GW7000.out) | (rw [add_block]; exact Nat.ne_of_lt (Nat.lt_of_lt_of_le (by have := World.block_lt_of_cell? _ _ hw7000_1; first | rwa [add_block] at this | exact this) GW7000.out)) | (show (Addr.add _ _).block ≠ _; rw [add_block]; exact Nat.ne_of_lt (Nat.lt_of_lt_of_le (by have := World.block_lt_of_cell? _ _ hw7000_1; first | rwa [add_block] at this | exact this) GW7000.out)) | (dsimp only; exact Nat.ne_of_lt (Nat.lt_of_lt_of_le (by have := World.block_lt_of_cell? _ _ hw7000_1; first | rwa [add_block] at this | exact this) GW7000.out))) _).trans (((cell_far (p := ⟨gb7000, _, none⟩) (by first | exact Nat.ne_of_lt (Nat.lt_of_lt_of_le (by have := World.block_lt_of_cell? _ _ hw7000_1; first | rwa [add_block] at this | exact this) GW7000.out) | (rw [add_block]; exact Nat.ne_of_lt (Nat.lt_of_lt_of_le (by have := World.block_lt_of_cell? _ _ hw7000_1; first | rwa [add_block] at this | exact this) GW7000.out)) | (show (Addr.add _ _).block ≠ _; rw [add_block]; exact Nat.ne_of_lt (Nat.lt_of_lt_of_le (by have := World.block_lt_of_cell? _ _ hw7000_1; first | rwa [add_block] at this | exact this) GW7000.out)) | (dsimp only; exact Nat.ne_of_lt (Nat.lt_of_lt_of_le (by have := World.block_lt_of_cell? _ _ hw7000_1; first | rwa [add_block] at this | exact this) GW7000.out))) _).trans (hHeld.2.1)))))))))), ((cell_far (p := ⟨gb7000, _, none⟩) (by first | exact Nat.ne_of_lt (Nat.lt_of_lt_of_le (by have := World.block_lt_of_cell? _ _ hw7001_0; first | rwa [add_block] at this | exact this) GW7000.out) | (rw [add_block]; exact Nat.ne_of_lt (Nat.lt_of_lt_of_le (by have := World.block_lt_of_cell? _ _ hw7001_0; first | rwa [add_block] at this | exact this) GW7000.out)) | (show (Addr.add _ _).block ≠ _; rw [add_block]; exact Nat.ne_of_lt (Nat.lt_of_lt_of_le (by have := World.block_lt_of_cell? _ _ hw7001_0; first | rwa [add_block] at this | exact this) GW7000.out)) | (dsimp only; exact Nat.ne_of_lt (Nat.lt_of_lt_of_le (by have := World.block_lt_of_cell? _ _ hw7001_0; first | rwa [add_block] at this | exact this) GW7000.out))) _).trans (((cell_far (p := ⟨gb7000, _, none⟩) (by first | exact Nat.ne_of_lt (Nat.lt_of_lt_of_le (by have := World.block_lt_of_cell? _ _ hw7001_0; first | rwa [add_block] at this | exact this) GW7000.out) | (rw [add_block]; exact Nat.ne_of_lt (Nat.lt_of_lt_of_le (by have := World.block_lt_of_cell? _ _ hw7001_0; first | rwa [add_block] at this | exact this) GW7000.out)) | (show (Addr.add _ _).block ≠ _; rw [add_block]; exact Nat.ne_of_lt (Nat.lt_of_lt_of_le (by have := World.block_lt_of_cell? _ _ hw7001_0; first | rwa [add_block] at this | exact this) GW7000.out)) | (dsimp only; exact Nat.ne_of_lt (Nat.lt_of_lt_of_le (by have := World.block_lt_of_cell? _ _ hw7001_0; first | rwa [add_block] at this | exact this) GW7000.out))) _).trans (((cell_far (p := ⟨gb7000, _, none⟩) (by first | exact Nat.ne_of_lt (Nat.lt_of_lt_of_le (by have := World.block_lt_of_cell? _ _ hw7001_0; first | rwa [add_block] at this | exact this) GW7000.out) | (rw [add_block]; exact Nat.ne_of_lt (Nat.lt_of_lt_of_le (by have := World.block_lt_of_cell? _ _ hw7001_0; first | rwa [add_block] at this | exact this) GW7000.out)) | (show (Addr.add _ _).block ≠ _; rw [add_block]; exact Nat.ne_of_lt (Nat.lt_of_lt_of_le (by have := World.block_lt_of_cell? _ _ hw7001_0; first | rwa [add_block] at this | exact this) GW7000.out)) | (dsimp only; exact Nat.ne_of_lt (Nat.lt_of_lt_of_le (by have := World.block_lt_of_cell? _ _ hw7001_0; first | rwa [add_block] at this | exact this) GW7000.out))) _).trans (((cell_far (p := ⟨gb7000, _, none⟩) (by first | exact Nat.ne_of_lt (Nat.lt_of_lt_of_le (by have := World.block_lt_of_cell? _ _ hw7001_0; first | rwa [add_block] at this | exact this) GW7000.out) | (rw [add_block]; exact Nat.ne_of_lt (Nat.lt_of_lt_of_le (by have := World.block_lt_of_cell? _ _ hw7001_0; first | rwa [add_block] at this | exact this) GW7000.out)) | (show (Addr.add _ _).block ≠ _; rw [add_block]; exact Nat.ne_of_lt (Nat.lt_of_lt_of_le (by have := World.block_lt_of_cell? _ _ hw7001_0; first | rwa [add_block] at this | exact this) GW7000.out)) | (dsimp only; exact Nat.ne_of_lt (Nat.lt_of_lt_of_le (by have := World.block_lt_of_cell? _ _ hw7001_0; first | rwa [add_block] at this | exact this) GW7000.out))) _).trans (((cell_far (p := ⟨gb7000, _, none⟩) (by first | exact Nat.ne_of_lt (Nat.lt_of_lt_of_le (by have := World.block_lt_of_cell? _ _ hw7001_0; first | rwa [add_block] at this | exact this) GW7000.out) | (rw [add_block]; exact Nat.ne_of_lt (Nat.lt_of_lt_of_le (by have := World.block_lt_of_cell? _ _ hw7001_0; first | rwa [add_block] at this | exact this) GW7000.out)) | (show (Addr.add _ _).block ≠ _; rw [add_block]; exact Nat.ne_of_lt (Nat.lt_of_lt_of_le (by have := World.block_lt_of_cell? _ _ hw7001_0; first | rwa [add_block] at this | exact this) GW7000.out)) | (dsimp only; exact Nat.ne_of_lt (Nat.lt_of_lt_of_le (by have := World.block_lt_of_cell? _ _ hw7001_0; first | rwa [add_block] at this | exact this) GW7000.out))) _).trans (hHeld.2.2.1)))))))))), ((cell_far (p := ⟨gb7000, _, none⟩) (by first | exact Nat.ne_of_lt (Nat.lt_of_lt_of_le (by have := World.block_lt_of_cell? _ _ hw7001_1; first | rwa [add_block] at this | exact this) GW7000.out) | (rw [add_block]; exact Nat.ne_of_lt (Nat.lt_of_lt_of_le (by have := World.block_lt_of_cell? _ _ hw7001_1; first | rwa [add_block] at this | exact this) GW7000.out)) | (show (Addr.add _ _).block ≠ _; rw [add_block]; exact Nat.ne_of_lt (Nat.lt_of_lt_of_le (by have := World.block_lt_of_cell? _ _ hw7001_1; first | rwa [add_block] at this | exact this) GW7000.out)) | (dsimp only; exact Nat.ne_of_lt (Nat.lt_of_lt_of_le (by have := World.block_lt_of_cell? _ _ hw7001_1; first | rwa [add_block] at this | exact this) GW7000.out))) _).trans (((cell_far (p := ⟨gb7000, _, none⟩) (by first | exact Nat.ne_of_lt (Nat.lt_of_lt_of_le (by have := World.block_lt_of_cell? _ _ hw7001_1; first | rwa [add_block] at this | exact this) GW7000.out) | (rw [add_block]; exact Nat.ne_of_lt (Nat.lt_of_lt_of_le (by have := World.block_lt_of_cell? _ _ hw7001_1; first | rwa [add_block] at this | exact this) GW7000.out)) | (show (Addr.add _ _).block ≠ _; rw [add_block]; exact Nat.ne_of_lt (Nat.lt_of_lt_of_le (by have := World.block_lt_of_cell? _ _ hw7001_1; first | rwa [add_block] at this | exact this) GW7000.out)) | (dsimp only; exact Nat.ne_of_lt (Nat.lt_of_lt_of_le (by have := World.block_lt_of_cell? _ _ hw7001_1; first | rwa [add_block] at this | exact this) GW7000.out))) _).trans (((cell_far (p := ⟨gb7000, _, none⟩) (by first | exact Nat.ne_of_lt (Nat.lt_of_lt_of_le (by have := World.block_lt_of_cell? _ _ hw7001_1; first | rwa [add_block] at this | exact this) GW7000.out) | (rw [add_block]; exact Nat.ne_of_lt (Nat.lt_of_lt_of_le (by have := World.block_lt_of_cell? _ _ hw7001_1; first | rwa [add_block] at this | exact this) GW7000.out)) | (show (Addr.add _ _).block ≠ _; rw [add_block]; exact Nat.ne_of_lt (Nat.lt_of_lt_of_le (by have := World.block_lt_of_cell? _ _ hw7001_1; first | rwa [add_block] at this | exact this) GW7000.out)) | (dsimp only; exact Nat.ne_of_lt (Nat.lt_of_lt_of_le (by have := World.block_lt_of_cell? _ _ hw7001_1; first | rwa [add_block] at this | exact this) GW7000.out))) _).trans (((cell_far (p := ⟨gb7000, _, none⟩) (by first | exact Nat.ne_of_lt (Nat.lt_of_lt_of_le (by have := World.block_lt_of_cell? _ _ hw7001_1; first | rwa [add_block] at this | exact this) GW7000.out) | (rw [add_block]; exact Nat.ne_of_lt (Nat.lt_of_lt_of_le (by have := World.block_lt_of_cell? _ _ hw7001_1; first | rwa [add_block] at this | exact this) GW7000.out)) | (show (Addr.add _ _).block ≠ _; rw [add_block]; exact Nat.ne_of_lt (Nat.lt_of_lt_of_le (by have := World.block_lt_of_cell? _ _ hw7001_1; first | rwa [add_block] at this | exact this) GW7000.out)) | (dsimp only; exact Nat.ne_of_lt (Nat.lt_of_lt_of_le (by have := World.block_lt_of_cell? _ _ hw7001_1; first | rwa [add_block] at this | exact this) GW7000.out))) _).trans (((cell_far (p := ⟨gb7000, _, none⟩) (by first | exact Nat.ne_of_lt (Nat.lt_of_lt_of_le (by have := World.block_lt_of_cell? _ _ hw7001_1; first | rwa [add_block] at this | exact this) GW7000.out) | (rw [add_block]; exact Nat.ne_of_lt (Nat.lt_of_lt_of_le (by have := World.block_lt_of_cell? _ _ hw7001_1; first | rwa [add_block] at this | exact this) GW7000.out)) | (show (Addr.add _ _).block ≠ _; rw [add_block]; exact Nat.ne_of_lt (Nat.lt_of_lt_of_le (by have := World.block_lt_of_cell? _ _ hw7001_1; first | rwa [add_block] at this | exact this) GW7000.out)) | (dsimp only; exact Nat.ne_of_lt (Nat.lt_of_lt_of_le (by have := World.block_lt_of_cell? _ _ hw7001_1; first | rwa [add_block] at this | exact this) GW7000.out))) _).trans (hHeld.2.2.2))))))))))⟩ (fun hHeld => ?_)
  clear hK K
  refine done_ (done_of HT_.out (by kernel_rfl)) ?_
  try go_wp2
  refine bodyPost_ret (results_cell_row rfl _ _ gb7000 69 #[.int .i64 (l0.length : Int), .int .i64 ((rd_T67 l0 0).f0), .int .i64 ((rd_T67 l0 (ji3)).f0), .slice Ao7001 t757.length co7001, .int .i64 t760] (0, 0) _ rfl (by (with_reducible repeat (first | refine blk_drewN ?_ _ | refine blk_drew ?_ | refine blk_alloc ?_ _)); refine blk_put (cs := #[.int .i64 (l0.length : Int), .int .i64 ((rd_T67 l0 0).f0), .int .i64 ((rd_T67 l0 (ji3)).f0), .slice Ao7001 t757.length co7001, .int .i64 0]) ?_ 4 _ rfl; (with_reducible repeat (first | refine blk_drewN ?_ _ | refine blk_drew ?_ | refine blk_alloc ?_ _)); refine blk_put (cs := #[.int .i64 (l0.length : Int), .int .i64 ((rd_T67 l0 0).f0), .int .i64 ((rd_T67 l0 (ji3)).f0), .slice none 0 0, .int .i64 0]) ?_ 3 _ rfl; (with_reducible repeat (first | refine blk_drewN ?_ _ | refine blk_drew ?_ | refine blk_alloc ?_ _)); refine blk_put (cs := #[.int .i64 (l0.length : Int), .int .i64 ((rd_T67 l0 0).f0), .int .i64 0, .slice none 0 0, .int .i64 0]) ?_ 2 _ rfl; (with_reducible repeat (first | refine blk_drewN ?_ _ | refine blk_drew ?_ | refine blk_alloc ?_ _)); refine blk_put (cs := #[.int .i64 (l0.length : Int), .int .i64 0, .int .i64 0, .slice none 0 0, .int .i64 0]) ?_ 1 _ rfl; (with_reducible repeat (first | refine blk_drewN ?_ _ | refine blk_drew ?_ | refine blk_alloc ?_ _)); refine blk_put (cs := #[.int .i64 0, .int .i64 0, .int .i64 0, .slice none 0 0, .int .i64 0]) ?_ 0 _ rfl; exact (bo_ BK7000)) Try.underlying69 rfl (by kernel_rfl)) rfl ?_
  exact ⟨_, by first | rfl | (simp [errW_none, errW_some] <;> rfl) | (simp only [← hji3]; first | rfl | (simp [errW_none, errW_some] <;> rfl)) | (simp [*, errW_none, errW_some] <;> rfl), (rt_ (Kd.R_mono (Kd.R_far (p := ⟨gb7000, 4, none⟩) (Kd.R_far (p := ⟨gb7000, 3, none⟩) (Kd.R_far (p := ⟨gb7000, 2, none⟩) (Kd.R_far (p := ⟨gb7000, 1, none⟩) (Kd.R_far (p := ⟨gb7000, 0, none⟩) (Kd.R_types HO7001.out BK7000.out (by decide)) (fun _ hk => hk.2) (.int .i64 (l0.length : Int))) (fun _ hk => hk.2) (.int .i64 ((rd_T67 l0 0).f0))) (fun _ hk => hk.2) (.int .i64 ((rd_T67 l0 (ji3)).f0))) (fun _ hk => hk.2) (.slice Ao7001 t757.length co7001)) (fun _ hk => hk.2) (.int .i64 t760)) (fun _ hk => trivial))), bl_⟩
def gorilla_Check.f (k : Nat) (a0_0 : Int) (a0_1 : Int) (a0_2 : Int) (l0_3 : List Int) (a0_4 : Int) : Option (Int) := (gorilla_Samples.f k a0_0 a0_1 a0_2 l0_3 a0_4).bind fun bt762 => (some bt762.2)
set_option maxHeartbeats 8000000 in
set_option maxRecDepth 100000 in
theorem gorilla_Check.calls (k : Nat) (a0_0 : Int) (a0_1 : Int) (a0_2 : Int) (A0_3 : Option Addr) (c0_3 : Nat) (l0_3 : List Int) (a0_4 : Int) (r : Int) (w : World) (hr0_3 : Kd.C (Kd.int .u8) w A0_3 l0_3.length l0_3) (hc0_3 : l0_3.length ≤ c0_3) (h : gorilla_Check.f k a0_0 a0_1 a0_2 l0_3 a0_4 = some r) :
    Calls Try.prog 43 #[.agg #[.int .i64 a0_0, .int .i64 a0_1, .int .i64 a0_2, .slice A0_3 l0_3.length c0_3, .int .i64 a0_4]] w fun e w' => e = .returned (.int .i64 r) ∧ Below w.heap.size w w' := by
  have hu69 := Try.underlying69
  have HR0_3 := Aside0.mk hr0_3
  have HC0_3 := Aside0.mk hc0_3
  clear hr0_3 hc0_3
  have HB := Aside0.mk (Below.refl w.heap.size w)
  have H : ((gorilla_Samples.f k a0_0 a0_1 a0_2 l0_3 a0_4).bind fun bt762 => (some bt762.2)) = some r := h
  clear h
  replace H := bindA H
  obtain ⟨⟨t762, t765⟩, A2, H⟩ := H
  try dsimp only at H
  obtain rfl := Option.some.inj H
  go_enter Try.func43, Try.ntmps43
  go_wp2_with (first | ((with_reducible refine gate_dst (N := 1) rfl ?_); refine box_ev 1 #[.int .i64 a0_0, .int .i64 a0_1, .int .i64 a0_2, .slice A0_3 l0_3.length c0_3, .int .i64 a0_4] 69 ?_; intro gb7000 hg w7000 hbox hb; have n_ := pk4 (below_step bl_ hb) (hbox) ((ge_ hg bl_ : w.heap.size ≤ gb7000)) ((ge_ hg bl_ : w.heap.size ≤ gb7000)); clear HB; obtain ⟨HB, BK7000, GW7000, GE7000⟩ := n_; clear hb hbox hg; have hcz7000_0 : w7000.cell? ⟨gb7000, 0, none⟩ = some (.int .i64 a0_0) := (blk_cell BK7000.out 0).trans rfl; have hcz7000_1 : w7000.cell? ⟨gb7000, 1, none⟩ = some (.int .i64 a0_1) := (blk_cell BK7000.out 1).trans rfl; have hcz7000_2 : w7000.cell? ⟨gb7000, 2, none⟩ = some (.int .i64 a0_2) := (blk_cell BK7000.out 2).trans rfl; have hcz7000_3 : w7000.cell? ⟨gb7000, 3, none⟩ = some (.slice A0_3 l0_3.length c0_3) := (blk_cell BK7000.out 3).trans rfl; have hcz7000_4 : w7000.cell? ⟨gb7000, 4, none⟩ = some (.int .i64 a0_4) := (blk_cell BK7000.out 4).trans rfl; have hfz7000_0 := blk_frozen BK7000.out 0; have hfz7000_1 := blk_frozen BK7000.out 1; have hfz7000_2 := blk_frozen BK7000.out 2; have hfz7000_3 := blk_frozen BK7000.out 3; have hfz7000_4 := blk_frozen BK7000.out 4) | ((with_reducible refine gate_callee (f := 40) rfl ?_); refine goL_ (some 7) Try.func40 #[.agg #[.int .i64 a0_0, .int .i64 a0_1, .int .i64 a0_2, .slice A0_3 l0_3.length c0_3, .int .i64 a0_4]] ?_; (with_reducible refine (gorilla_Samples.calls k a0_0 a0_1 a0_2 _ _ l0_3 a0_4 t762 t765 _ ?side1 ?side2 A2.out).mono ?_); (case side1 => exact cb_ HR0_3); (case side2 => exact HC0_3.out); rintro e w7001 ⟨v7000, rfl, ho7000, hb⟩; refine ⟨_, rfl, ?_⟩; have n_ := pk3 (Kd.R_lower ho7000 (below_size bl_)) (blk_below (bo_ BK7000) hb) (below_step bl_ hb); clear BK7000 HB; obtain ⟨HO7000, BK7000, HB⟩ := n_; (try clear hb ho7000)))
  go_ret
  exact ⟨rf_, bl_⟩
end Go.Proofs.Ytmddmbagehjdeaa.G
end
section
namespace Go.Proofs.Ytmddmbagehjdeaa.G
open Go.RowKit Go.Proofs.YtmddmbagehjdeaaX Go.Proofs.YtmddmbagehjdeaaW.PrintWords Go.Proofs.YtmddmbagehjdeaaW.PrintLast Go.Proofs.YtmddmbagehjdeaaW.PrintMore
attribute [local go_sem] max2_int min2_int max_two min_two max_three min_three max_four min_four
set_option linter.unusedVariables false
set_option linter.unusedSimpArgs false
def windroselaw18_GorillaBuilds.j0 : Nat → List (S67) → Int → Bool → Int → Int → Int → List Int → Int → Option (Bool)
  | 0, _, _, _, _, _, _, _, _ => none
  | k + 1, x0, x4, x23, x776000, x776001, x776002, x776003, x776004 => if x23 = true then (if x4 = 1 then ((windroseref18_Same.f x776000 x776001 x776002 x776003 x776004 0 0 0 ([] : List Int) 0).bind fun t777 => (if t777 = true then ((windroselaw18_awake.f k).bind fun t778 => (some t778)) else (some false))) else (some false)) else ((gorilla_Samples.f k x776000 x776001 x776002 x776003 x776004).bind fun bt779 => (if x4 = 0 then ((windroseref18_Build.f k x0).bind fun bt783 => ((windroseref18_Same.f x776000 x776001 x776002 x776003 x776004 bt783.1 bt783.2.1 bt783.2.2.1 bt783.2.2.2.1 bt783.2.2.2.2).bind fun t790 => (if t790 = true then (if bt779.2 = 0 then ((windroseref11_Same.f k bt779.1 x0).bind fun t791 => (if t791 = true then ((gorilla_Check.f k x776000 x776001 x776002 x776003 x776004).bind fun t792 => (if t792 = 0 then ((windroselaw18_awake.f k).bind fun t793 => (some t793)) else (some false))) else (some false))) else (some false)) else (some false)))) else (some false)))
def windroselaw18_GorillaBuilds.f (k : Nat) (l0 : List (S67)) : Option (Bool) := if (l0.length : Int) > 100 then ((windroselaw18_awake.f k).bind fun t766 => (some t766)) else ((gorilla_Build.f k l0).bind fun bt767 => ((windroseref11_May.f k l0).bind fun t776 => (if t776 = true then (windroselaw18_GorillaBuilds.j0 k l0 bt767.2.2.2.2.2 ((l0.length : Int) == 0) bt767.1 bt767.2.1 bt767.2.2.1 bt767.2.2.2.1 bt767.2.2.2.2.1) else (windroselaw18_GorillaBuilds.j0 k l0 bt767.2.2.2.2.2 true bt767.1 bt767.2.1 bt767.2.2.1 bt767.2.2.2.1 bt767.2.2.2.2.1))))
def windroselaw18_GorillaBuilds.T7 : Bool × List (List Nat × List Nat) := (true, [([], []), ([0], [0]), ([1], [1]), ([2], [2]), ([2], [2]), ([4, 2, 2], [2, 4]), ([3, 5, 5, 2], [2, 3, 5]), ([2, 6], [2, 6]), ([7, 6], [7]), ([8], [8]), ([9, 8], [8, 9]), ([8, 10], [8, 10]), ([11, 8], [11]), ([12], [12]), ([12], [12]), ([13, 14, 12, 12], [12, 13, 14]), ([12, 15], [12, 15]), ([16, 15], [16]), ([17], [17]), ([18, 17, 17], [17, 18]), ([19, 17], [17, 19]), ([17, 20], [17, 20]), ([21, 19], [21]), ([22, 22], [22]), ([22, 23], [22, 23]), ([24, 23, 0, 1, 2, 3, 4, 5, 6, 7, 8, 9, 10, 11, 12, 13, 14, 15, 16, 17, 18, 19, 20, 21, 22, 23, 24], [24])])
def windroselaw18_GorillaBuilds.B7 : List Nat := [0, 1, 3, 7, 7, 23, 63, 127, 255, 511, 1023, 2047, 4095, 8191, 8191, 32767, 65535, 131071, 262143, 524287, 1048575, 2097151, 4194303, 8388607, 16777215, 33554431]
theorem windroselaw18_GorillaBuilds.tab7 : rtab .any (opsOf Try.f9 7) = windroselaw18_GorillaBuilds.T7 := by kernel_rfl
theorem windroselaw18_GorillaBuilds.bits7 : waitsOk windroselaw18_GorillaBuilds.T7.2 windroselaw18_GorillaBuilds.B7 = true := by kernel_rfl
set_option maxHeartbeats 80000000 in
set_option maxRecDepth 100000 in
theorem windroselaw18_GorillaBuilds.calls (k : Nat) (A0 : Option Addr) (c0 : Nat) (l0 : List (S67)) (r : Bool) (w : World) (hr0 : Kd.C k67 w A0 l0.length l0) (hc0 : l0.length ≤ c0) (h : windroselaw18_GorillaBuilds.f k l0 = some r) :
    Calls Try.prog 9 #[.slice A0 l0.length c0] w fun e w' => e = .returned (.bool r) ∧ Below w.heap.size w w' := by
  have hu69 := Try.underlying69
  have HR0 := Aside0.mk hr0
  have HC0 := Aside0.mk hc0
  clear hr0 hc0
  have HB := Aside0.mk (Below.refl w.heap.size w)
  have H : (if (l0.length : Int) > 100 then ((windroselaw18_awake.f k).bind fun t766 => (some t766)) else ((gorilla_Build.f k l0).bind fun bt767 => ((windroseref11_May.f k l0).bind fun t776 => (if t776 = true then (windroselaw18_GorillaBuilds.j0 k l0 bt767.2.2.2.2.2 ((l0.length : Int) == 0) bt767.1 bt767.2.1 bt767.2.2.1 bt767.2.2.2.1 bt767.2.2.2.2.1) else (windroselaw18_GorillaBuilds.j0 k l0 bt767.2.2.2.2.2 true bt767.1 bt767.2.1 bt767.2.2.1 bt767.2.2.2.1 bt767.2.2.2.2.1))))) = some r := h
  clear h
  by_cases c2 : (l0.length : Int) > 100
  rotate_left
  · rw [if_neg c2] at H
    have c2b0 : decide (100 < (l0.length : Int)) = false := decide_eq_false c2
    have c2b1 : decide (100 < l0.length) = false := decide_eq_false (by omega)
    clear c2
    replace H := bindA H
    obtain ⟨⟨t767, t768, t769, t770, t773, t774⟩, A5, H⟩ := H
    try dsimp only at H
    have HC6 := Aside0.mk H
    clear H
    go_enter Try.func9, Try.ntmps9
    go_upto_region 4 with (first | ((with_reducible refine gate_callee (f := 37) rfl ?_); refine goL_ (some 13) Try.func37 #[.slice A0 l0.length c0] ?_; (with_reducible refine (gorilla_Build.calls k _ _ l0 t767 t768 t769 t770 t773 t774 _ ?side1 ?side2 A5.out).mono ?_); (case side1 => exact cc_ HR0); (case side2 => exact HC0.out); rintro e w7 ⟨v771, rfl, ho0, hb⟩; refine ⟨_, rfl, ?_⟩; have n_ := pk2 (Kd.R_lower ho0 (below_size bl_)) (below_step bl_ hb); clear HB; obtain ⟨HO772, HB⟩ := n_; (try clear hb ho0)) | ((with_reducible refine gate_dst (N := 3) rfl ?_); (try (refine gate_guard (by rfl) ?_; dsimp only)); refine box_ev 3 #[.int .i64 0, .int .i64 0, .int .i64 0, .slice none 0 0, .int .i64 0] 69 ?_; intro gb775 hg w8 hbox hb; have n_ := pk5 (Kd.R_below (ro_ HO772) hb) (below_step bl_ hb) (hbox) ((ge_ hg bl_ : w.heap.size ≤ gb775)) ((ge_ hg bl_ : w.heap.size ≤ gb775)); clear HO772 HB; obtain ⟨HO772, HB, BK775, GW775, GE775⟩ := n_; clear hb hbox hg; have hcz9_0 : w8.cell? ⟨gb775, 0, none⟩ = some (.int .i64 0) := (blk_cell BK775.out 0).trans rfl; have hcz9_1 : w8.cell? ⟨gb775, 1, none⟩ = some (.int .i64 0) := (blk_cell BK775.out 1).trans rfl; have hcz9_2 : w8.cell? ⟨gb775, 2, none⟩ = some (.int .i64 0) := (blk_cell BK775.out 2).trans rfl; have hcz9_3 : w8.cell? ⟨gb775, 3, none⟩ = some (.slice none 0 0) := (blk_cell BK775.out 3).trans rfl; have hcz9_4 : w8.cell? ⟨gb775, 4, none⟩ = some (.int .i64 0) := (blk_cell BK775.out 4).trans rfl; have hfz9_0 := blk_frozen BK775.out 0; have hfz9_1 := blk_frozen BK775.out 1; have hfz9_2 := blk_frozen BK775.out 2; have hfz9_3 := blk_frozen BK775.out 3; have hfz9_4 := blk_frozen BK775.out 4; obtain ⟨Ao10, co10, eo10⟩ := Kd.R_slice HO772.out; subst eo10))
    (try simp only [Act.put, List.setIfInBounds_toArray, List.set_cons_zero, List.set_cons_succ])
    go_cut [23] (fun v23 wc => ∃ (kq : Nat) (x23_5 : Bool), v23 = .bool x23_5 ∧ Aside0 (windroselaw18_GorillaBuilds.j0 kq l0 t774 x23_5 t767 t768 t769 t770 t773 = some r) ∧ Aside0 (kq ≤ k) ∧ Aside0 (Kd.R (Kd.int .u8) 5 wc w.heap.size (fun _ => True) (.slice Ao10 t770.length co10) t770) ∧ Aside0 (wc.heap[gb775]? = some (.cells #[.int .i64 t767, .int .i64 t768, .int .i64 t769, (.slice Ao10 t770.length co10), .int .i64 t773] 69 (0, 0))) ∧ Aside0 (Below w.heap.size w wc))
    case first =>
      have H := HC6.out
      clear HC6
      replace H := bindA H
      obtain ⟨t776, A11, H⟩ := H
      try dsimp only at H
      replace H := dbool H
      rcases H with ⟨rfl, H⟩ | ⟨rfl, H⟩
      focus
        have H' := Aside0.mk H
        clear H
      rotate_left
      focus
        have H' := Aside0.mk H
        clear H
      all_goals
        go_wp2_with (first | ((with_reducible refine gate_callee (f := 38) rfl ?_); refine goL_ (some 17) Try.func38 #[.slice A0 l0.length c0] ?_; (with_reducible refine (windroseref11_May.calls k _ _ l0 false _ ?side1 ?side2 A11.out).mono ?_); (case side1 => exact Kd.C_below HR0.out bl_); (case side2 => exact HC0.out); rintro e w' ⟨rfl, ⟨nd, rfl⟩⟩; refine ⟨_, rfl, ?_⟩) | ((with_reducible refine gate_callee (f := 38) rfl ?_); refine goL_ (some 17) Try.func38 #[.slice A0 l0.length c0] ?_; (with_reducible refine (windroseref11_May.calls k _ _ l0 true _ ?side1 ?side2 A11.out).mono ?_); (case side1 => exact Kd.C_below HR0.out bl_); (case side2 => exact HC0.out); rintro e w' ⟨rfl, ⟨nd, rfl⟩⟩; refine ⟨_, rfl, ?_⟩))
        go_meet
        first
          | case rel => exact ⟨_, (((l0.length : Int) == 0)), sm_, H', ⟨om_⟩, ⟨(rt_ (Kd.R_mono (Kd.R_far (p := ⟨gb775, 4, none⟩) (Kd.R_far (p := ⟨gb775, 3, none⟩) (Kd.R_far (p := ⟨gb775, 2, none⟩) (Kd.R_far (p := ⟨gb775, 1, none⟩) (Kd.R_far (p := ⟨gb775, 0, none⟩) (Kd.R_types HO772.out BK775.out (by decide)) (fun _ hk => hk.2) (.int .i64 t767)) (fun _ hk => hk.2) (.int .i64 t768)) (fun _ hk => hk.2) (.int .i64 t769)) (fun _ hk => hk.2) (.slice Ao10 t770.length co10)) (fun _ hk => hk.2) (.int .i64 t773)) (fun _ hk => trivial)))⟩, ⟨by (with_reducible repeat (first | refine blk_drewN ?_ _ | refine blk_drew ?_ | refine blk_alloc ?_ _)); refine blk_put (cs := #[.int .i64 t767, .int .i64 t768, .int .i64 t769, .slice Ao10 t770.length co10, .int .i64 0]) ?_ 4 _ rfl; (with_reducible repeat (first | refine blk_drewN ?_ _ | refine blk_drew ?_ | refine blk_alloc ?_ _)); refine blk_put (cs := #[.int .i64 t767, .int .i64 t768, .int .i64 t769, .slice none 0 0, .int .i64 0]) ?_ 3 _ rfl; (with_reducible repeat (first | refine blk_drewN ?_ _ | refine blk_drew ?_ | refine blk_alloc ?_ _)); refine blk_put (cs := #[.int .i64 t767, .int .i64 t768, .int .i64 0, .slice none 0 0, .int .i64 0]) ?_ 2 _ rfl; (with_reducible repeat (first | refine blk_drewN ?_ _ | refine blk_drew ?_ | refine blk_alloc ?_ _)); refine blk_put (cs := #[.int .i64 t767, .int .i64 0, .int .i64 0, .slice none 0 0, .int .i64 0]) ?_ 1 _ rfl; (with_reducible repeat (first | refine blk_drewN ?_ _ | refine blk_drew ?_ | refine blk_alloc ?_ _)); refine blk_put (cs := #[.int .i64 0, .int .i64 0, .int .i64 0, .slice none 0 0, .int .i64 0]) ?_ 0 _ rfl; exact (bo_ BK775)⟩, ⟨bl_⟩⟩
          | case rel => exact ⟨_, (true), sm_, H', ⟨om_⟩, ⟨(rt_ (Kd.R_mono (Kd.R_far (p := ⟨gb775, 4, none⟩) (Kd.R_far (p := ⟨gb775, 3, none⟩) (Kd.R_far (p := ⟨gb775, 2, none⟩) (Kd.R_far (p := ⟨gb775, 1, none⟩) (Kd.R_far (p := ⟨gb775, 0, none⟩) (Kd.R_types HO772.out BK775.out (by decide)) (fun _ hk => hk.2) (.int .i64 t767)) (fun _ hk => hk.2) (.int .i64 t768)) (fun _ hk => hk.2) (.int .i64 t769)) (fun _ hk => hk.2) (.slice Ao10 t770.length co10)) (fun _ hk => hk.2) (.int .i64 t773)) (fun _ hk => trivial)))⟩, ⟨by (with_reducible repeat (first | refine blk_drewN ?_ _ | refine blk_drew ?_ | refine blk_alloc ?_ _)); refine blk_put (cs := #[.int .i64 t767, .int .i64 t768, .int .i64 t769, .slice Ao10 t770.length co10, .int .i64 0]) ?_ 4 _ rfl; (with_reducible repeat (first | refine blk_drewN ?_ _ | refine blk_drew ?_ | refine blk_alloc ?_ _)); refine blk_put (cs := #[.int .i64 t767, .int .i64 t768, .int .i64 t769, .slice none 0 0, .int .i64 0]) ?_ 3 _ rfl; (with_reducible repeat (first | refine blk_drewN ?_ _ | refine blk_drew ?_ | refine blk_alloc ?_ _)); refine blk_put (cs := #[.int .i64 t767, .int .i64 t768, .int .i64 0, .slice none 0 0, .int .i64 0]) ?_ 2 _ rfl; (with_reducible repeat (first | refine blk_drewN ?_ _ | refine blk_drew ?_ | refine blk_alloc ?_ _)); refine blk_put (cs := #[.int .i64 t767, .int .i64 0, .int .i64 0, .slice none 0 0, .int .i64 0]) ?_ 1 _ rfl; (with_reducible repeat (first | refine blk_drewN ?_ _ | refine blk_drew ?_ | refine blk_alloc ?_ _)); refine blk_put (cs := #[.int .i64 0, .int .i64 0, .int .i64 0, .slice none 0 0, .int .i64 0]) ?_ 0 _ rfl; exact (bo_ BK775)⟩, ⟨bl_⟩⟩
    case rest =>
      clear HC6
      try clear c2
      try clear c2b0
      try clear c2b1
      obtain ⟨kq, x23_5, rfl, HA, HJ5, HO_776003, BK775, HB⟩ := hcut
      cases kq with
      | zero => exact absurd HA.out (by simp [windroselaw18_GorillaBuilds.j0])
      | succ kj5 =>
        have H := HA.out
        clear HA
        simp only [windroselaw18_GorillaBuilds.j0] at H
        replace H := dbool H
        rcases H with ⟨rfl, H⟩ | ⟨rfl, H⟩
        focus
          replace H := deqn H
          rcases H with ⟨c14b0, c14b1, H⟩ | ⟨c14b0, c14b1, c14, H⟩
          focus
            replace H := bindA H
            obtain ⟨t777, A15, H⟩ := H
            try dsimp only at H
            replace H := dbool H
            rcases H with ⟨rfl, H⟩ | ⟨rfl, H⟩
            focus
              replace H := bindA H
              obtain ⟨t778, A17, H⟩ := H
              try dsimp only at H
              obtain rfl := Option.some.inj H
              obtain ⟨hcz18_0, hcz18_1, hcz18_2, hcz18_3, hcz18_4, hfz18_0, hfz18_1, hfz18_2, hfz18_3, hfz18_4⟩ := blk_at5 BK775.out
            rotate_left
            focus
              obtain rfl := Option.some.inj H
              obtain ⟨hcz21_0, hcz21_1, hcz21_2, hcz21_3, hcz21_4, hfz21_0, hfz21_1, hfz21_2, hfz21_3, hfz21_4⟩ := blk_at5 BK775.out
          rotate_left 2
          focus
            obtain rfl := Option.some.inj H
        rotate_left 3
        focus
          replace H := bindA H
          obtain ⟨⟨t779, t782⟩, A23, H⟩ := H
          try dsimp only at H
          replace H := deqn H
          rcases H with ⟨c24b0, c24b1, H⟩ | ⟨c24b0, c24b1, c24, H⟩
          focus
            replace H := bindA H
            obtain ⟨⟨t783, t784, t785, t786, t789⟩, A25, H⟩ := H
            try dsimp only at H
            replace H := bindA H
            obtain ⟨t790, A26, H⟩ := H
            try dsimp only at H
            replace H := dbool H
            rcases H with ⟨rfl, H⟩ | ⟨rfl, H⟩
            focus
              replace H := deqn H
              rcases H with ⟨c28b0, c28b1, H⟩ | ⟨c28b0, c28b1, c28, H⟩
              focus
                replace H := bindA H
                obtain ⟨t791, A29, H⟩ := H
                try dsimp only at H
                replace H := dbool H
                rcases H with ⟨rfl, H⟩ | ⟨rfl, H⟩
                focus
                  replace H := bindA H
                  obtain ⟨t792, A31, H⟩ := H
                  try dsimp only at H
                  replace H := deqn H
                  rcases H with ⟨c32b0, c32b1, H⟩ | ⟨c32b0, c32b1, c32, H⟩
                  focus
                    replace H := bindA H
                    obtain ⟨t793, A33, H⟩ := H
                    try dsimp only at H
                    obtain rfl := Option.some.inj H
                    obtain ⟨hcz34_0, hcz34_1, hcz34_2, hcz34_3, hcz34_4, hfz34_0, hfz34_1, hfz34_2, hfz34_3, hfz34_4⟩ := blk_at5 BK775.out
                  rotate_left
                  focus
                    obtain rfl := Option.some.inj H
                    obtain ⟨hcz43_0, hcz43_1, hcz43_2, hcz43_3, hcz43_4, hfz43_0, hfz43_1, hfz43_2, hfz43_3, hfz43_4⟩ := blk_at5 BK775.out
                rotate_left 2
                focus
                  obtain rfl := Option.some.inj H
                  obtain ⟨hcz51_0, hcz51_1, hcz51_2, hcz51_3, hcz51_4, hfz51_0, hfz51_1, hfz51_2, hfz51_3, hfz51_4⟩ := blk_at5 BK775.out
              rotate_left 3
              focus
                obtain rfl := Option.some.inj H
                obtain ⟨hcz58_0, hcz58_1, hcz58_2, hcz58_3, hcz58_4, hfz58_0, hfz58_1, hfz58_2, hfz58_3, hfz58_4⟩ := blk_at5 BK775.out
            rotate_left 4
            focus
              obtain rfl := Option.some.inj H
              obtain ⟨hcz64_0, hcz64_1, hcz64_2, hcz64_3, hcz64_4, hfz64_0, hfz64_1, hfz64_2, hfz64_3, hfz64_4⟩ := blk_at5 BK775.out
          rotate_left 5
          focus
            obtain rfl := Option.some.inj H
            obtain ⟨hcz70_0, hcz70_1, hcz70_2, hcz70_3, hcz70_4, hfz70_0, hfz70_1, hfz70_2, hfz70_3, hfz70_4⟩ := blk_at5 BK775.out
        all_goals
          first
            | go_wp2_with (first | (go_at_call 39; (refine (windroseref18_Same.calls t767 t768 t769 _ _ t770 t773 0 0 0 _ _ ([] : List Int) 0 false _ ?side1 ?side2 ?side3 ?side4 A15.out).mono ?_); (case side1 => exact cr_ HO_776003); (case side2 => exact (Kd.R_reads' HO_776003.out).2.1); (case side3 => exact Kd.C_nil _ _); (case side4 => exact Nat.le_refl _); rintro e w7000 ⟨rfl, hb⟩; have n_ := pk3 (Kd.R_below (ro_ HO_776003) hb) (blk_below (bo_ BK775) hb) (below_step bl_ hb); clear HO_776003 BK775 HB; obtain ⟨HO_776003, BK775, HB⟩ := n_; (try clear hb)) | (go_at_call 39; (refine (windroseref18_Same.calls t767 t768 t769 _ _ t770 t773 0 0 0 _ _ ([] : List Int) 0 true _ ?side1 ?side2 ?side3 ?side4 A15.out).mono ?_); (case side1 => exact cr_ HO_776003); (case side2 => exact (Kd.R_reads' HO_776003.out).2.1); (case side3 => exact Kd.C_nil _ _); (case side4 => exact Nat.le_refl _); rintro e w7000 ⟨rfl, hb⟩; have n_ := pk3 (Kd.R_below (ro_ HO_776003) hb) (blk_below (bo_ BK775) hb) (below_step bl_ hb); clear HO_776003 BK775 HB; obtain ⟨HO_776003, BK775, HB⟩ := n_; (try clear hb)) | (go_at_call 36; (with_reducible refine (windroselaw18_awake.calls kj5  t778 _ A17.out).mono ?_); rintro e w7001 ⟨rfl, hb⟩; have n_ := pk3 (Kd.R_below (ro_ HO_776003) hb) (blk_below (bo_ BK775) hb) (below_step bl_ hb); clear HO_776003 BK775 HB; obtain ⟨HO_776003, BK775, HB⟩ := n_; (try clear hb)))
              go_ret
              exact ⟨rf_, bl_⟩
            | try go_wp2_with (first | ((with_reducible refine gate_callee (f := 40) rfl ?_); refine goL_ (some 36) Try.func40 #[.agg #[.int .i64 t767, .int .i64 t768, .int .i64 t769, .slice Ao10 t770.length co10, .int .i64 t773]] ?_; (with_reducible refine (gorilla_Samples.calls kj5 t767 t768 t769 _ _ t770 t773 t779 t782 _ ?side1 ?side2 A23.out).mono ?_); (case side1 => exact cr_ HO_776003); (case side2 => exact (Kd.R_reads' HO_776003.out).2.1); rintro e w7000 ⟨v7000, rfl, ho0, hb⟩; refine ⟨_, rfl, ?_⟩; have n_ := pk4 (Kd.R_below (ro_ HO_776003) hb) (Kd.R_lower ho0 (below_size bl_)) (blk_below (bo_ BK775) hb) (below_step bl_ hb); clear HO_776003 BK775 HB; obtain ⟨HO_776003, HO7000, BK775, HB⟩ := n_; (try clear hb ho0)))
              have n7000_ := Aside0.mk (Kd.R_drew HO_776003.out)
              have n7001_ := Aside0.mk (Kd.R_drew HO7000.out)
              have n7002_ := Aside0.mk (blk_drew BK775.out)
              have n7003_ := Aside0.mk (below_drew1 HB.out)
              clear HO_776003
              clear HO7000
              clear BK775
              clear HB
              have HO_776003 := n7000_
              have HO7000 := n7001_
              have BK775 := n7002_
              have HB := n7003_
              clear n7000_ n7001_ n7002_ n7003_
              first
                | refine start_ (n := 26) (S := fun w' => w'.cell? ⟨gb775, 0, none⟩ = some (.int .i64 t767) ∧ w'.cell? ⟨gb775, 1, none⟩ = some (.int .i64 t768) ∧ w'.cell? ⟨gb775, 2, none⟩ = some (.int .i64 t769) ∧ w'.cell? ⟨gb775, 3, none⟩ = some (.slice Ao10 t770.length co10) ∧ w'.cell? ⟨gb775, 4, none⟩ = some (.int .i64 t773)) (ds := []) #[false, false, false, false, false, false, false, false, false, false, false, false, false, false, false, false, false, false, false, false, false, false, false, false, false, false] (by kernel_rfl) rfl rfl ⟨(blk_cell BK775.out 0).trans rfl, (blk_cell BK775.out 1).trans rfl, (blk_cell BK775.out 2).trans rfl, (blk_cell BK775.out 3).trans rfl, (blk_cell BK775.out 4).trans rfl⟩ (fun hHeld => ?_); refine with_tabW windroselaw18_GorillaBuilds.tab7 windroselaw18_GorillaBuilds.bits7 (fun HT_ HW_ => ?_)
                  generalize w7000.drew = w7001 at HO_776003 HO7000 BK775 HB hHeld ⊢
                  refine pure_ (i := 0) (N := some 39) (v := ?_) (a' := ?_) #[true, false, false, false, false, false, false, false, false, false, false, false, false, false, false, false, false, false, false, false, false, false, false, false, false, false] rfl rfl (any_of HT_.out (by kernel_rfl)) (fun _ _ _ h => h) (Or.inl ⟨by rfl, ?_⟩) ?_ ?_
                  rotate_left
                  · intro w'
                    go_simp
                    with_reducible rfl
                  rotate_left
                  · simp only [Act.put, List.setIfInBounds_toArray, List.set_cons_zero, List.set_cons_succ, i64_w, i32_w]
                    rfl
                  refine pure_ (i := 1) (N := some 40) (v := ?_) (a' := ?_) #[true, true, false, false, false, false, false, false, false, false, false, false, false, false, false, false, false, false, false, false, false, false, false, false, false, false] rfl rfl (any_of HT_.out (by kernel_rfl)) (fun _ _ _ h => h) (Or.inl ⟨by rfl, ?_⟩) ?_ ?_
                  rotate_left
                  · intro w'
                    go_simp
                    with_reducible rfl
                  rotate_left
                  · simp only [Act.put, List.setIfInBounds_toArray, List.set_cons_zero, List.set_cons_succ, i64_w, i32_w]
                    rfl
                  refine pure_ (i := 2) (N := some 41) (v := ?_) (a' := ?_) #[true, true, true, false, false, false, false, false, false, false, false, false, false, false, false, false, false, false, false, false, false, false, false, false, false, false] rfl rfl (any_of HT_.out (by kernel_rfl)) (fun _ _ _ h => h) (Or.inl ⟨by rfl, ?_⟩) ?_ ?_
                  rotate_left
                  · intro w'
                    go_simp
                    with_reducible rfl
                  rotate_left
                  · simp only [Act.put, List.setIfInBounds_toArray, List.set_cons_zero, List.set_cons_succ, i64_w, i32_w]
                    rfl
                  refine pure_ (i := 4) (N := some 43) (v := ?_) (a' := ?_) #[true, true, true, false, true, false, false, false, false, false, false, false, false, false, false, false, false, false, false, false, false, false, false, false, false, false] rfl rfl (any_of HT_.out (by kernel_rfl)) (fun _ _ _ h => h) (Or.inl ⟨by rfl, ?_⟩) ?_ ?_
                  rotate_left
                  · intro w'
                    go_simp
                    with_reducible rfl
                  rotate_left
                  · simp only [Act.put, List.setIfInBounds_toArray, List.set_cons_zero, List.set_cons_succ, i64_w, i32_w]
                    rfl
                  refine take_ (i := 3) (N := some 42) (v := ?_) (a' := ?_) #[true, true, true, true, true, false, false, false, false, false, false, false, false, false, false, false, false, false, false, false, false, false, false, false, false, false] rfl rfl (take_ofW HT_.out HW_.out (by kernel_rfl)) (fun _ _ _ h => h) (Or.inl ⟨by rfl, ?_⟩) hHeld ?_ ?_
                  rotate_left
                  · rintro w' ⟨s7000, s7001, s7002, s7003, s7004⟩
                    go_simp
                    with_reducible rfl
                  rotate_left
                  · simp only [Act.put, List.setIfInBounds_toArray, List.set_cons_zero, List.set_cons_succ, i64_w, i32_w]
                    rfl
                  refine one_ (i := 5) (N := some 44) #[true, true, true, true, true, true, false, false, false, false, false, false, false, false, false, false, false, false, false, false, false, false, false, false, false, false] rfl rfl (one_of HT_.out (by kernel_rfl)) (by decide) (fun K hK => ?_)
                  refine goes_ Try.func41 (by kernel_rfl) rfl #[.slice A0 l0.length c0] (by rfl) rfl rfl (by (try simp only [List.map_toArray, List.map_cons, List.map_nil]); first | done | rfl | (simp only [List.length_drop, List.length_take]; rfl)) ?_
                  with_reducible refine (windroseref18_Build.calls kj5 _ _ l0 t783 t784 t785 t786 t789 _ ?side1 ?side2 A25.out).mono ?_
                  (case side1 => exact cb_ HR0)
                  (case side2 => exact HC0.out)
                  rintro e w7002 ⟨v7001, rfl, ho0, hb⟩
                  refine ⟨_, rfl, ?_⟩
                  have n7000_ := Aside0.mk (Kd.R_elder' (ro_ HO_776003) (Kd.R_base ho0) hb)
                  have n7001_ := Aside0.mk (Kd.R_below (ro_ HO7000) hb)
                  have n7002_ := Aside0.mk (Kd.R_lower (Kd.R_new' ho0 (Kd.R_lt (ro_ HO_776003))) (below_size bl_))
                  have n7003_ := Aside0.mk (blk_below (bo_ BK775) hb)
                  have n7004_ := Aside0.mk (below_step bl_ hb)
                  clear HO_776003
                  clear HO7000
                  clear BK775
                  clear HB
                  have HO_776003 := n7000_
                  have HO7000 := n7001_
                  have HO7001 := n7002_
                  have BK775 := n7003_
                  have HB := n7004_
                  clear n7000_ n7001_ n7002_ n7003_ n7004_
                  (try clear hb)
                  (try clear hb2)
                  (try clear hk)
                  (try clear hi)
                  (try clear ho0)
                  obtain ⟨Ao7000, co7000, eo7000⟩ := Kd.R_slice HO7001.out
                  (first | subst eo7000 | (injection eo7000 with f1_ f2_ f3_; have f7000_ := f1_.symm; have f7001_ := f3_.symm; clear f1_ f2_ f3_; subst f7000_; subst f7001_))
                  refine hK.out _ _ ⟨(blk_cell BK775.out 0).trans rfl, (blk_cell BK775.out 1).trans rfl, (blk_cell BK775.out 2).trans rfl, (blk_cell BK775.out 3).trans rfl, (blk_cell BK775.out 4).trans rfl⟩ (fun hHeld => ?_)
                  clear hK K
                  refine norm_ (a' := ?_) ?_ ?_
                  rotate_left
                  · show Act.put _ (some 44) _ = _
                    simp only [Act.put, List.setIfInBounds_toArray, List.set_cons_zero, List.set_cons_succ, i64_w, i32_w]
                    rfl
                  refine one_ (i := 6) (N := some 45) #[true, true, true, true, true, true, true, false, false, false, false, false, false, false, false, false, false, false, false, false, false, false, false, false, false, false] rfl rfl (one_of HT_.out (by kernel_rfl)) (by decide) (fun K hK => ?_)
                  refine goes_ Try.func39 (by kernel_rfl) rfl #[.agg #[.int .i64 t767, .int .i64 t768, .int .i64 t769, .slice Ao10 t770.length co10, .int .i64 t773], .agg #[.int .i64 t783, .int .i64 t784, .int .i64 t785, .slice Ao7000 t786.length co7000, .int .i64 t789]] (by rfl) rfl rfl (by (try simp only [List.map_toArray, List.map_cons, List.map_nil]); first | done | rfl | (simp only [List.length_drop, List.length_take]; rfl)) ?_
                  first
                    | with_reducible refine (windroseref18_Same.calls t767 t768 t769 _ _ t770 t773 t783 t784 t785 _ _ t786 t789 true _ ?side1 ?side2 ?side3 ?side4 A26.out).mono ?_
                      (case side1 => exact cr_ HO_776003)
                      (case side2 => exact (Kd.R_reads' HO_776003.out).2.1)
                      (case side3 => exact cr_ HO7001)
                      (case side4 => exact (Kd.R_reads' HO7001.out).2.1)
                      rintro e w7003 ⟨rfl, hb⟩
                      refine ⟨_, rfl, ?_⟩
                      have n7000_ := Aside0.mk (Kd.R_below (ro_ HO_776003) hb)
                      have n7001_ := Aside0.mk (Kd.R_below (ro_ HO7000) hb)
                      have n7002_ := Aside0.mk (Kd.R_below (ro_ HO7001) hb)
                      have n7003_ := Aside0.mk (blk_below (bo_ BK775) hb)
                      have n7004_ := Aside0.mk (below_step bl_ hb)
                      clear HO_776003
                      clear HO7000
                      clear HO7001
                      clear BK775
                      clear HB
                      have HO_776003 := n7000_
                      have HO7000 := n7001_
                      have HO7001 := n7002_
                      have BK775 := n7003_
                      have HB := n7004_
                      clear n7000_ n7001_ n7002_ n7003_ n7004_
                      (try clear hb)
                      (try clear hb2)
                      (try clear hk)
                      (try clear hi)
                      first
                        | obtain ⟨Ao7001, co7001, eo7001⟩ := Kd.R_slice HO7000.out
                          (first | subst eo7001 | (injection eo7001 with f1_ f2_ f3_; have f7000_ := f1_.symm; have f7001_ := f3_.symm; clear f1_ f2_ f3_; subst f7000_; subst f7001_))
                          refine hK.out _ _ ⟨(blk_cell BK775.out 0).trans rfl, (blk_cell BK775.out 1).trans rfl, (blk_cell BK775.out 2).trans rfl, (blk_cell BK775.out 3).trans rfl, (blk_cell BK775.out 4).trans rfl⟩ (fun hHeld => ?_)
                          clear hK K
                          refine norm_ (a' := ?_) ?_ ?_
                          rotate_left
                          · show Act.put _ (some 45) _ = _
                            simp only [Act.put, List.setIfInBounds_toArray, List.set_cons_zero, List.set_cons_succ, i64_w, i32_w]
                            rfl
                          refine pure_ (i := 7) (N := some 46) (v := ?_) (a' := ?_) #[true, true, true, true, true, true, true, true, false, false, false, false, false, false, false, false, false, false, false, false, false, false, false, false, false, false] rfl rfl (any_of HT_.out (by kernel_rfl)) (fun _ _ _ h => h) (Or.inl ⟨by rfl, ?_⟩) ?_ ?_
                          rotate_left
                          · intro w'
                            go_simp
                            with_reducible rfl
                          rotate_left
                          · simp only [Act.put, List.setIfInBounds_toArray, List.set_cons_zero, List.set_cons_succ, i64_w, i32_w]
                            rfl
                          refine pure_ (i := 8) (N := some 47) (v := ?_) (a' := ?_) #[true, true, true, true, true, true, true, true, true, false, false, false, false, false, false, false, false, false, false, false, false, false, false, false, false, false] rfl rfl (any_of HT_.out (by kernel_rfl)) (fun _ _ _ h => h) (Or.inl ⟨by rfl, ?_⟩) ?_ ?_
                          rotate_left
                          · intro w'
                            go_simp
                            with_reducible rfl
                          rotate_left
                          · simp only [Act.put, List.setIfInBounds_toArray, List.set_cons_zero, List.set_cons_succ, i64_w, i32_w]
                            rfl
                          refine pure_ (i := 9) (N := some 48) (v := ?_) (a' := ?_) #[true, true, true, true, true, true, true, true, true, true, false, false, false, false, false, false, false, false, false, false, false, false, false, false, false, false] rfl rfl (any_of HT_.out (by kernel_rfl)) (fun _ _ _ h => h) (Or.inl ⟨by rfl, ?_⟩) ?_ ?_
                          rotate_left
                          · intro w'
                            go_simp
                            with_reducible rfl
                          rotate_left
                          · simp only [Act.put, List.setIfInBounds_toArray, List.set_cons_zero, List.set_cons_succ, i64_w, i32_w]
                            rfl
                          refine pure_ (i := 10) (N := some 49) (v := ?_) (a' := ?_) #[true, true, true, true, true, true, true, true, true, true, true, false, false, false, false, false, false, false, false, false, false, false, false, false, false, false] rfl rfl (any_of HT_.out (by kernel_rfl)) (fun _ _ _ h => h) (Or.inl ⟨by rfl, ?_⟩) ?_ ?_
                          rotate_left
                          · intro w'
                            go_simp
                            with_reducible rfl
                          rotate_left
                          · simp only [Act.put, List.setIfInBounds_toArray, List.set_cons_zero, List.set_cons_succ, i64_w, i32_w]
                            rfl
                          refine pure_ (i := 11) (N := some 50) (v := ?_) (a' := ?_) #[true, true, true, true, true, true, true, true, true, true, true, true, false, false, false, false, false, false, false, false, false, false, false, false, false, false] rfl rfl (any_of HT_.out (by kernel_rfl)) (fun _ _ _ h => h) (Or.inl ⟨by rfl, ?_⟩) ?_ ?_
                          rotate_left
                          · intro w'
                            go_simp
                            with_reducible rfl
                          rotate_left
                          · simp only [Act.put, List.setIfInBounds_toArray, List.set_cons_zero, List.set_cons_succ, i64_w, i32_w]
                            rfl
                          refine pure_ (i := 12) (N := some 51) (v := ?_) (a' := ?_) #[true, true, true, true, true, true, true, true, true, true, true, true, true, false, false, false, false, false, false, false, false, false, false, false, false, false] rfl rfl (any_of HT_.out (by kernel_rfl)) (fun _ _ _ h => h) (Or.inl ⟨by rfl, ?_⟩) ?_ ?_
                          rotate_left
                          · intro w'
                            go_simp
                            with_reducible rfl
                          rotate_left
                          · simp only [Act.put, List.setIfInBounds_toArray, List.set_cons_zero, List.set_cons_succ, i64_w, i32_w]
                            rfl
                          refine pure_ (i := 13) (N := some 52) (v := ?_) (a' := ?_) #[true, true, true, true, true, true, true, true, true, true, true, true, true, true, false, false, false, false, false, false, false, false, false, false, false, false] rfl rfl (any_of HT_.out (by kernel_rfl)) (fun _ _ _ h => h) (Or.inl ⟨by rfl, ?_⟩) ?_ ?_
                          rotate_left
                          · intro w'
                            go_simp
                            with_reducible rfl
                          rotate_left
                          · simp only [Act.put, List.setIfInBounds_toArray, List.set_cons_zero, List.set_cons_succ, i64_w, i32_w]
                            rfl
                          refine pure_ (i := 14) (N := some 53) (v := ?_) (a' := ?_) #[true, true, true, true, true, true, true, true, true, true, true, true, true, true, true, false, false, false, false, false, false, false, false, false, false, false] rfl rfl (any_of HT_.out (by kernel_rfl)) (fun _ _ _ h => h) (Or.inl ⟨by rfl, ?_⟩) ?_ ?_
                          rotate_left
                          · intro w'
                            go_simp
                            with_reducible rfl
                          rotate_left
                          · simp only [Act.put, List.setIfInBounds_toArray, List.set_cons_zero, List.set_cons_succ, i64_w, i32_w]
                            rfl
                          refine one_ (i := 15) (N := some 54) #[true, true, true, true, true, true, true, true, true, true, true, true, true, true, true, true, false, false, false, false, false, false, false, false, false, false] rfl rfl (one_of HT_.out (by kernel_rfl)) (by decide) (fun K hK => ?_)
                          refine goes_ Try.func42 (by kernel_rfl) rfl #[.slice Ao7001 t779.length co7001, .slice A0 l0.length c0] (by rfl) rfl rfl (by (try simp only [List.map_toArray, List.map_cons, List.map_nil]); first | done | rfl | (simp only [List.length_drop, List.length_take]; rfl)) ?_
                          first
                            | with_reducible refine (windroseref11_Same.calls kj5 _ _ t779 _ _ l0 true _ ?side1 ?side2 ?side3 ?side4 A29.out).mono ?_
                              (case side1 => exact cr_ HO7000)
                              (case side2 => exact (Kd.R_reads' HO7000.out).2.1)
                              (case side3 => exact cb_ HR0)
                              (case side4 => exact HC0.out)
                              rintro e w' ⟨rfl, ⟨nd, rfl⟩⟩
                              refine ⟨_, rfl, ?_⟩
                              refine hK.out _ _ ⟨(blk_cell BK775.out 0).trans rfl, (blk_cell BK775.out 1).trans rfl, (blk_cell BK775.out 2).trans rfl, (blk_cell BK775.out 3).trans rfl, (blk_cell BK775.out 4).trans rfl⟩ (fun hHeld => ?_)
                              clear hK K
                              refine norm_ (a' := ?_) ?_ ?_
                              rotate_left
                              · show Act.put _ (some 54) _ = _
                                simp only [Act.put, List.setIfInBounds_toArray, List.set_cons_zero, List.set_cons_succ, i64_w, i32_w]
                                rfl
                              refine pure_ (i := 16) (N := some 55) (v := ?_) (a' := ?_) #[true, true, true, true, true, true, true, true, true, true, true, true, true, true, true, true, true, false, false, false, false, false, false, false, false, false] rfl rfl (any_of HT_.out (by kernel_rfl)) (fun _ _ _ h => h) (Or.inl ⟨by rfl, ?_⟩) ?_ ?_
                              rotate_left
                              · intro w'
                                go_simp
                                with_reducible rfl
                              rotate_left
                              · simp only [Act.put, List.setIfInBounds_toArray, List.set_cons_zero, List.set_cons_succ, i64_w, i32_w]
                                rfl
                              refine pure_ (i := 17) (N := some 56) (v := ?_) (a' := ?_) #[true, true, true, true, true, true, true, true, true, true, true, true, true, true, true, true, true, true, false, false, false, false, false, false, false, false] rfl rfl (any_of HT_.out (by kernel_rfl)) (fun _ _ _ h => h) (Or.inl ⟨by rfl, ?_⟩) ?_ ?_
                              rotate_left
                              · intro w'
                                go_simp
                                with_reducible rfl
                              rotate_left
                              · simp only [Act.put, List.setIfInBounds_toArray, List.set_cons_zero, List.set_cons_succ, i64_w, i32_w]
                                rfl
                              refine take_ (i := 18) (N := some 57) (v := ?_) (a' := ?_) #[true, true, true, true, true, true, true, true, true, true, true, true, true, true, true, true, true, true, true, false, false, false, false, false, false, false] rfl rfl (take_ofW HT_.out HW_.out (by kernel_rfl)) (fun _ _ _ h => h) (Or.inl ⟨by rfl, ?_⟩) hHeld ?_ ?_
                              rotate_left
                              · rintro w' ⟨s7000, s7001, s7002, s7003, s7004⟩
                                go_simp
                                with_reducible rfl
                              rotate_left
                              · simp only [Act.put, List.setIfInBounds_toArray, List.set_cons_zero, List.set_cons_succ, i64_w, i32_w]
                                rfl
                              refine one_ (i := 19) (N := some 58) #[true, true, true, true, true, true, true, true, true, true, true, true, true, true, true, true, true, true, true, true, false, false, false, false, false, false] rfl rfl (one_of HT_.out (by kernel_rfl)) (by decide) (fun K hK => ?_)
                              refine goes_ Try.func43 (by kernel_rfl) rfl #[.agg #[.int .i64 t767, .int .i64 t768, .int .i64 t769, .slice Ao10 t770.length co10, .int .i64 t773]] (by rfl) rfl rfl (by (try simp only [List.map_toArray, List.map_cons, List.map_nil]); first | done | rfl | (simp only [List.length_drop, List.length_take]; rfl)) ?_
                              with_reducible refine (gorilla_Check.calls kj5 t767 t768 t769 _ _ t770 t773 t792 _ ?side1 ?side2 A31.out).mono ?_
                              (case side1 => exact cr_ HO_776003)
                              (case side2 => exact (Kd.R_reads' HO_776003.out).2.1)
                              rintro e w7004 ⟨rfl, hb⟩
                              refine ⟨_, rfl, ?_⟩
                              have n7000_ := Aside0.mk (Kd.R_below (ro_ HO_776003) hb)
                              have n7001_ := Aside0.mk (Kd.R_below (ro_ HO7000) hb)
                              have n7002_ := Aside0.mk (Kd.R_below (ro_ HO7001) hb)
                              have n7003_ := Aside0.mk (blk_below (bo_ BK775) hb)
                              have n7004_ := Aside0.mk (below_step bl_ hb)
                              clear HO_776003
                              clear HO7000
                              clear HO7001
                              clear BK775
                              clear HB
                              have HO_776003 := n7000_
                              have HO7000 := n7001_
                              have HO7001 := n7002_
                              have BK775 := n7003_
                              have HB := n7004_
                              clear n7000_ n7001_ n7002_ n7003_ n7004_
                              (try clear hb)
                              (try clear hb2)
                              (try clear hk)
                              (try clear hi)
                              refine hK.out _ _ ⟨(blk_cell BK775.out 0).trans rfl, (blk_cell BK775.out 1).trans rfl, (blk_cell BK775.out 2).trans rfl, (blk_cell BK775.out 3).trans rfl, (blk_cell BK775.out 4).trans rfl⟩ (fun hHeld => ?_)
                              clear hK K
                              refine norm_ (a' := ?_) ?_ ?_
                              rotate_left
                              · show Act.put _ (some 58) _ = _
                                simp only [Act.put, List.setIfInBounds_toArray, List.set_cons_zero, List.set_cons_succ, i64_w, i32_w]
                                rfl
                              refine pure_ (i := 20) (N := some 59) (v := ?_) (a' := ?_) #[true, true, true, true, true, true, true, true, true, true, true, true, true, true, true, true, true, true, true, true, true, false, false, false, false, false] rfl rfl (any_of HT_.out (by kernel_rfl)) (fun _ _ _ h => h) (Or.inl ⟨by rfl, ?_⟩) ?_ ?_
                              rotate_left
                              · intro w'
                                go_simp
                                with_reducible rfl
                              rotate_left
                              · simp only [Act.put, List.setIfInBounds_toArray, List.set_cons_zero, List.set_cons_succ, i64_w, i32_w]
                                rfl
                              refine pure_ (i := 21) (N := some 60) (v := ?_) (a' := ?_) #[true, true, true, true, true, true, true, true, true, true, true, true, true, true, true, true, true, true, true, true, true, true, false, false, false, false] rfl rfl (any_of HT_.out (by kernel_rfl)) (fun _ _ _ h => h) (Or.inl ⟨by rfl, ?_⟩) ?_ ?_
                              rotate_left
                              · intro w'
                                go_simp
                                with_reducible rfl
                              rotate_left
                              · simp only [Act.put, List.setIfInBounds_toArray, List.set_cons_zero, List.set_cons_succ, i64_w, i32_w]
                                rfl
                              refine pure_ (i := 22) (N := some 61) (v := ?_) (a' := ?_) #[true, true, true, true, true, true, true, true, true, true, true, true, true, true, true, true, true, true, true, true, true, true, true, false, false, false] rfl rfl (any_of HT_.out (by kernel_rfl)) (fun _ _ _ h => h) (Or.inl ⟨by rfl, ?_⟩) ?_ ?_
                              rotate_left
                              · intro w'
                                go_simp
                                with_reducible rfl
                              rotate_left
                              · simp only [Act.put, List.setIfInBounds_toArray, List.set_cons_zero, List.set_cons_succ, i64_w, i32_w]
                                rfl
                              first
                                | refine one_ (i := 23) (N := some 62) #[true, true, true, true, true, true, true, true, true, true, true, true, true, true, true, true, true, true, true, true, true, true, true, true, false, false] rfl rfl (one_of HT_.out (by kernel_rfl)) (by decide) (fun K hK => ?_)
                                  refine goes_ Try.func36 (by kernel_rfl) rfl #[] (by rfl) rfl rfl (by (try simp only [List.map_toArray, List.map_cons, List.map_nil]); first | done | rfl | (simp only [List.length_drop, List.length_take]; rfl)) ?_
                                  with_reducible refine (windroselaw18_awake.calls kj5  t793 _ A33.out).mono ?_
                                  rintro e w7005 ⟨rfl, hb⟩
                                  refine ⟨_, rfl, ?_⟩
                                  have n7000_ := Aside0.mk (Kd.R_below (ro_ HO_776003) hb)
                                  have n7001_ := Aside0.mk (Kd.R_below (ro_ HO7000) hb)
                                  have n7002_ := Aside0.mk (Kd.R_below (ro_ HO7001) hb)
                                  have n7003_ := Aside0.mk (blk_below (bo_ BK775) hb)
                                  have n7004_ := Aside0.mk (below_step bl_ hb)
                                  clear HO_776003
                                  clear HO7000
                                  clear HO7001
                                  clear BK775
                                  clear HB
                                  have HO_776003 := n7000_
                                  have HO7000 := n7001_
                                  have HO7001 := n7002_
                                  have BK775 := n7003_
                                  have HB := n7004_
                                  clear n7000_ n7001_ n7002_ n7003_ n7004_
                                  (try clear hb)
                                  (try clear hb2)
                                  (try clear hk)
                                  (try clear hi)
                                  refine hK.out _ _ ⟨(blk_cell BK775.out 0).trans rfl, (blk_cell BK775.out 1).trans rfl, (blk_cell BK775.out 2).trans rfl, (blk_cell BK775.out 3).trans rfl, (blk_cell BK775.out 4).trans rfl⟩ (fun hHeld => ?_)
                                  clear hK K
                                  refine norm_ (a' := ?_) ?_ ?_
                                  rotate_left
                                  · show Act.put _ (some 62) _ = _
                                    simp only [Act.put, List.setIfInBounds_toArray, List.set_cons_zero, List.set_cons_succ, i64_w, i32_w]
                                    rfl
                                  refine pure_ (i := 24) (N := some 63) (v := ?_) (a' := ?_) #[true, true, true, true, true, true, true, true, true, true, true, true, true, true, true, true, true, true, true, true, true, true, true, true, true, false] rfl rfl (any_of HT_.out (by kernel_rfl)) (fun _ _ _ h => h) (Or.inl ⟨by rfl, ?_⟩) ?_ ?_
                                  rotate_left
                                  · intro w'
                                    go_simp
                                    with_reducible rfl
                                  rotate_left
                                  · simp only [Act.put, List.setIfInBounds_toArray, List.set_cons_zero, List.set_cons_succ, i64_w, i32_w]
                                    rfl
                                  refine pure_ (i := 25) (N := some 2) (v := ?_) (a' := ?_) #[true, true, true, true, true, true, true, true, true, true, true, true, true, true, true, true, true, true, true, true, true, true, true, true, true, true] rfl rfl (any_of HT_.out (by kernel_rfl)) (fun _ _ _ h => h) (Or.inl ⟨by rfl, ?_⟩) ?_ ?_
                                  rotate_left
                                  · intro w'
                                    go_simp
                                    with_reducible rfl
                                  rotate_left
                                  · simp only [Act.put, List.setIfInBounds_toArray, List.set_cons_zero, List.set_cons_succ, i64_w, i32_w]
                                    rfl
                                  refine done_ (done_of HT_.out (by kernel_rfl)) ?_
                                  try go_wp2
                                  go_ret
                                  exact ⟨rf_, bl_⟩
                                | refine pure_ (i := 23) (N := some 62) (v := undef) (a' := ?_) #[true, true, true, true, true, true, true, true, true, true, true, true, true, true, true, true, true, true, true, true, true, true, true, true, false, false] rfl rfl (any_of HT_.out (by kernel_rfl)) (fun _ _ _ h => h) (Or.inr ⟨by rfl, rfl⟩) ?_ ?_
                                  rotate_left
                                  · simp only [Act.put, List.setIfInBounds_toArray, List.set_cons_zero, List.set_cons_succ, i64_w, i32_w]
                                    rfl
                                  refine pure_ (i := 24) (N := some 63) (v := ?_) (a' := ?_) #[true, true, true, true, true, true, true, true, true, true, true, true, true, true, true, true, true, true, true, true, true, true, true, true, true, false] rfl rfl (any_of HT_.out (by kernel_rfl)) (fun _ _ _ h => h) (Or.inl ⟨by rfl, ?_⟩) ?_ ?_
                                  rotate_left
                                  · intro w'
                                    go_simp
                                    with_reducible rfl
                                  rotate_left
                                  · simp only [Act.put, List.setIfInBounds_toArray, List.set_cons_zero, List.set_cons_succ, i64_w, i32_w]
                                    rfl
                                  refine pure_ (i := 25) (N := some 2) (v := ?_) (a' := ?_) #[true, true, true, true, true, true, true, true, true, true, true, true, true, true, true, true, true, true, true, true, true, true, true, true, true, true] rfl rfl (any_of HT_.out (by kernel_rfl)) (fun _ _ _ h => h) (Or.inl ⟨by rfl, ?_⟩) ?_ ?_
                                  rotate_left
                                  · intro w'
                                    go_simp
                                    with_reducible rfl
                                  rotate_left
                                  · simp only [Act.put, List.setIfInBounds_toArray, List.set_cons_zero, List.set_cons_succ, i64_w, i32_w]
                                    rfl
                                  refine done_ (done_of HT_.out (by kernel_rfl)) ?_
                                  try go_wp2
                                  go_ret
                                  exact ⟨rf_, bl_⟩
                            | with_reducible refine (windroseref11_Same.calls kj5 _ _ t779 _ _ l0 false _ ?side1 ?side2 ?side3 ?side4 A29.out).mono ?_
                              (case side1 => exact cr_ HO7000)
                              (case side2 => exact (Kd.R_reads' HO7000.out).2.1)
                              (case side3 => exact cb_ HR0)
                              (case side4 => exact HC0.out)
                              rintro e w' ⟨rfl, ⟨nd, rfl⟩⟩
                              refine ⟨_, rfl, ?_⟩
                              refine hK.out _ _ ⟨(blk_cell BK775.out 0).trans rfl, (blk_cell BK775.out 1).trans rfl, (blk_cell BK775.out 2).trans rfl, (blk_cell BK775.out 3).trans rfl, (blk_cell BK775.out 4).trans rfl⟩ (fun hHeld => ?_)
                              clear hK K
                              refine norm_ (a' := ?_) ?_ ?_
                              rotate_left
                              · show Act.put _ (some 54) _ = _
                                simp only [Act.put, List.setIfInBounds_toArray, List.set_cons_zero, List.set_cons_succ, i64_w, i32_w]
                                rfl
                              refine pure_ (i := 16) (N := some 55) (v := ?_) (a' := ?_) #[true, true, true, true, true, true, true, true, true, true, true, true, true, true, true, true, true, false, false, false, false, false, false, false, false, false] rfl rfl (any_of HT_.out (by kernel_rfl)) (fun _ _ _ h => h) (Or.inl ⟨by rfl, ?_⟩) ?_ ?_
                              rotate_left
                              · intro w'
                                go_simp
                                with_reducible rfl
                              rotate_left
                              · simp only [Act.put, List.setIfInBounds_toArray, List.set_cons_zero, List.set_cons_succ, i64_w, i32_w]
                                rfl
                              refine pure_ (i := 17) (N := some 56) (v := ?_) (a' := ?_) #[true, true, true, true, true, true, true, true, true, true, true, true, true, true, true, true, true, true, false, false, false, false, false, false, false, false] rfl rfl (any_of HT_.out (by kernel_rfl)) (fun _ _ _ h => h) (Or.inl ⟨by rfl, ?_⟩) ?_ ?_
                              rotate_left
                              · intro w'
                                go_simp
                                with_reducible rfl
                              rotate_left
                              · simp only [Act.put, List.setIfInBounds_toArray, List.set_cons_zero, List.set_cons_succ, i64_w, i32_w]
                                rfl
                              refine pure_ (i := 18) (N := some 57) (v := undef) (a' := ?_) #[true, true, true, true, true, true, true, true, true, true, true, true, true, true, true, true, true, true, true, false, false, false, false, false, false, false] rfl rfl (any_of HT_.out (by kernel_rfl)) (fun _ _ _ h => h) (Or.inr ⟨by rfl, rfl⟩) ?_ ?_
                              rotate_left
                              · simp only [Act.put, List.setIfInBounds_toArray, List.set_cons_zero, List.set_cons_succ, i64_w, i32_w]
                                rfl
                              refine pure_ (i := 19) (N := some 58) (v := undef) (a' := ?_) #[true, true, true, true, true, true, true, true, true, true, true, true, true, true, true, true, true, true, true, true, false, false, false, false, false, false] rfl rfl (any_of HT_.out (by kernel_rfl)) (fun _ _ _ h => h) (Or.inr ⟨by rfl, rfl⟩) ?_ ?_
                              rotate_left
                              · simp only [Act.put, List.setIfInBounds_toArray, List.set_cons_zero, List.set_cons_succ, i64_w, i32_w]
                                rfl
                              refine pure_ (i := 20) (N := some 59) (v := undef) (a' := ?_) #[true, true, true, true, true, true, true, true, true, true, true, true, true, true, true, true, true, true, true, true, true, false, false, false, false, false] rfl rfl (any_of HT_.out (by kernel_rfl)) (fun _ _ _ h => h) (Or.inr ⟨by rfl, rfl⟩) ?_ ?_
                              rotate_left
                              · simp only [Act.put, List.setIfInBounds_toArray, List.set_cons_zero, List.set_cons_succ, i64_w, i32_w]
                                rfl
                              refine pure_ (i := 21) (N := some 60) (v := ?_) (a' := ?_) #[true, true, true, true, true, true, true, true, true, true, true, true, true, true, true, true, true, true, true, true, true, true, false, false, false, false] rfl rfl (any_of HT_.out (by kernel_rfl)) (fun _ _ _ h => h) (Or.inl ⟨by rfl, ?_⟩) ?_ ?_
                              rotate_left
                              · intro w'
                                go_simp
                                with_reducible rfl
                              rotate_left
                              · simp only [Act.put, List.setIfInBounds_toArray, List.set_cons_zero, List.set_cons_succ, i64_w, i32_w]
                                rfl
                              refine pure_ (i := 22) (N := some 61) (v := ?_) (a' := ?_) #[true, true, true, true, true, true, true, true, true, true, true, true, true, true, true, true, true, true, true, true, true, true, true, false, false, false] rfl rfl (any_of HT_.out (by kernel_rfl)) (fun _ _ _ h => h) (Or.inl ⟨by rfl, ?_⟩) ?_ ?_
                              rotate_left
                              · intro w'
                                go_simp
                                with_reducible rfl
                              rotate_left
                              · simp only [Act.put, List.setIfInBounds_toArray, List.set_cons_zero, List.set_cons_succ, i64_w, i32_w]
                                rfl
                              refine pure_ (i := 23) (N := some 62) (v := undef) (a' := ?_) #[true, true, true, true, true, true, true, true, true, true, true, true, true, true, true, true, true, true, true, true, true, true, true, true, false, false] rfl rfl (any_of HT_.out (by kernel_rfl)) (fun _ _ _ h => h) (Or.inr ⟨by rfl, rfl⟩) ?_ ?_
                              rotate_left
                              · simp only [Act.put, List.setIfInBounds_toArray, List.set_cons_zero, List.set_cons_succ, i64_w, i32_w]
                                rfl
                              refine pure_ (i := 24) (N := some 63) (v := ?_) (a' := ?_) #[true, true, true, true, true, true, true, true, true, true, true, true, true, true, true, true, true, true, true, true, true, true, true, true, true, false] rfl rfl (any_of HT_.out (by kernel_rfl)) (fun _ _ _ h => h) (Or.inl ⟨by rfl, ?_⟩) ?_ ?_
                              rotate_left
                              · intro w'
                                go_simp
                                with_reducible rfl
                              rotate_left
                              · simp only [Act.put, List.setIfInBounds_toArray, List.set_cons_zero, List.set_cons_succ, i64_w, i32_w]
                                rfl
                              refine pure_ (i := 25) (N := some 2) (v := ?_) (a' := ?_) #[true, true, true, true, true, true, true, true, true, true, true, true, true, true, true, true, true, true, true, true, true, true, true, true, true, true] rfl rfl (any_of HT_.out (by kernel_rfl)) (fun _ _ _ h => h) (Or.inl ⟨by rfl, ?_⟩) ?_ ?_
                              rotate_left
                              · intro w'
                                go_simp
                                with_reducible rfl
                              rotate_left
                              · simp only [Act.put, List.setIfInBounds_toArray, List.set_cons_zero, List.set_cons_succ, i64_w, i32_w]
                                rfl
                              refine done_ (done_of HT_.out (by kernel_rfl)) ?_
                              try go_wp2
                              go_ret
                              exact ⟨rf_, bl_⟩
                        | refine hK.out _ _ ⟨(blk_cell BK775.out 0).trans rfl, (blk_cell BK775.out 1).trans rfl, (blk_cell BK775.out 2).trans rfl, (blk_cell BK775.out 3).trans rfl, (blk_cell BK775.out 4).trans rfl⟩ (fun hHeld => ?_)
                          clear hK K
                          refine norm_ (a' := ?_) ?_ ?_
                          rotate_left
                          · show Act.put _ (some 45) _ = _
                            simp only [Act.put, List.setIfInBounds_toArray, List.set_cons_zero, List.set_cons_succ, i64_w, i32_w]
                            rfl
                          refine pure_ (i := 7) (N := some 46) (v := ?_) (a' := ?_) #[true, true, true, true, true, true, true, true, false, false, false, false, false, false, false, false, false, false, false, false, false, false, false, false, false, false] rfl rfl (any_of HT_.out (by kernel_rfl)) (fun _ _ _ h => h) (Or.inl ⟨by rfl, ?_⟩) ?_ ?_
                          rotate_left
                          · intro w'
                            go_simp
                            with_reducible rfl
                          rotate_left
                          · simp only [Act.put, List.setIfInBounds_toArray, List.set_cons_zero, List.set_cons_succ, i64_w, i32_w]
                            rfl
                          refine pure_ (i := 8) (N := some 47) (v := ?_) (a' := ?_) #[true, true, true, true, true, true, true, true, true, false, false, false, false, false, false, false, false, false, false, false, false, false, false, false, false, false] rfl rfl (any_of HT_.out (by kernel_rfl)) (fun _ _ _ h => h) (Or.inl ⟨by rfl, ?_⟩) ?_ ?_
                          rotate_left
                          · intro w'
                            go_simp
                            with_reducible rfl
                          rotate_left
                          · simp only [Act.put, List.setIfInBounds_toArray, List.set_cons_zero, List.set_cons_succ, i64_w, i32_w]
                            rfl
                          refine pure_ (i := 9) (N := some 48) (v := ?_) (a' := ?_) #[true, true, true, true, true, true, true, true, true, true, false, false, false, false, false, false, false, false, false, false, false, false, false, false, false, false] rfl rfl (any_of HT_.out (by kernel_rfl)) (fun _ _ _ h => h) (Or.inl ⟨by rfl, ?_⟩) ?_ ?_
                          rotate_left
                          · intro w'
                            go_simp
                            with_reducible rfl
                          rotate_left
                          · simp only [Act.put, List.setIfInBounds_toArray, List.set_cons_zero, List.set_cons_succ, i64_w, i32_w]
                            rfl
                          refine pure_ (i := 10) (N := some 49) (v := ?_) (a' := ?_) #[true, true, true, true, true, true, true, true, true, true, true, false, false, false, false, false, false, false, false, false, false, false, false, false, false, false] rfl rfl (any_of HT_.out (by kernel_rfl)) (fun _ _ _ h => h) (Or.inl ⟨by rfl, ?_⟩) ?_ ?_
                          rotate_left
                          · intro w'
                            go_simp
                            with_reducible rfl
                          rotate_left
                          · simp only [Act.put, List.setIfInBounds_toArray, List.set_cons_zero, List.set_cons_succ, i64_w, i32_w]
                            rfl
                          refine pure_ (i := 11) (N := some 50) (v := ?_) (a' := ?_) #[true, true, true, true, true, true, true, true, true, true, true, true, false, false, false, false, false, false, false, false, false, false, false, false, false, false] rfl rfl (any_of HT_.out (by kernel_rfl)) (fun _ _ _ h => h) (Or.inl ⟨by rfl, ?_⟩) ?_ ?_
                          rotate_left
                          · intro w'
                            go_simp
                            with_reducible rfl
                          rotate_left
                          · simp only [Act.put, List.setIfInBounds_toArray, List.set_cons_zero, List.set_cons_succ, i64_w, i32_w]
                            rfl
                          refine pure_ (i := 12) (N := some 51) (v := ?_) (a' := ?_) #[true, true, true, true, true, true, true, true, true, true, true, true, true, false, false, false, false, false, false, false, false, false, false, false, false, false] rfl rfl (any_of HT_.out (by kernel_rfl)) (fun _ _ _ h => h) (Or.inl ⟨by rfl, ?_⟩) ?_ ?_
                          rotate_left
                          · intro w'
                            go_simp
                            with_reducible rfl
                          rotate_left
                          · simp only [Act.put, List.setIfInBounds_toArray, List.set_cons_zero, List.set_cons_succ, i64_w, i32_w]
                            rfl
                          refine pure_ (i := 13) (N := some 52) (v := undef) (a' := ?_) #[true, true, true, true, true, true, true, true, true, true, true, true, true, true, false, false, false, false, false, false, false, false, false, false, false, false] rfl rfl (any_of HT_.out (by kernel_rfl)) (fun _ _ _ h => h) (Or.inr ⟨by rfl, rfl⟩) ?_ ?_
                          rotate_left
                          · simp only [Act.put, List.setIfInBounds_toArray, List.set_cons_zero, List.set_cons_succ, i64_w, i32_w]
                            rfl
                          refine pure_ (i := 14) (N := some 53) (v := undef) (a' := ?_) #[true, true, true, true, true, true, true, true, true, true, true, true, true, true, true, false, false, false, false, false, false, false, false, false, false, false] rfl rfl (any_of HT_.out (by kernel_rfl)) (fun _ _ _ h => h) (Or.inr ⟨by rfl, rfl⟩) ?_ ?_
                          rotate_left
                          · simp only [Act.put, List.setIfInBounds_toArray, List.set_cons_zero, List.set_cons_succ, i64_w, i32_w]
                            rfl
                          refine pure_ (i := 15) (N := some 54) (v := undef) (a' := ?_) #[true, true, true, true, true, true, true, true, true, true, true, true, true, true, true, true, false, false, false, false, false, false, false, false, false, false] rfl rfl (any_of HT_.out (by kernel_rfl)) (fun _ _ _ h => h) (Or.inr ⟨by rfl, rfl⟩) ?_ ?_
                          rotate_left
                          · simp only [Act.put, List.setIfInBounds_toArray, List.set_cons_zero, List.set_cons_succ, i64_w, i32_w]
                            rfl
                          refine pure_ (i := 16) (N := some 55) (v := ?_) (a' := ?_) #[true, true, true, true, true, true, true, true, true, true, true, true, true, true, true, true, true, false, false, false, false, false, false, false, false, false] rfl rfl (any_of HT_.out (by kernel_rfl)) (fun _ _ _ h => h) (Or.inl ⟨by rfl, ?_⟩) ?_ ?_
                          rotate_left
                          · intro w'
                            go_simp
                            with_reducible rfl
                          rotate_left
                          · simp only [Act.put, List.setIfInBounds_toArray, List.set_cons_zero, List.set_cons_succ, i64_w, i32_w]
                            rfl
                          refine pure_ (i := 17) (N := some 56) (v := ?_) (a' := ?_) #[true, true, true, true, true, true, true, true, true, true, true, true, true, true, true, true, true, true, false, false, false, false, false, false, false, false] rfl rfl (any_of HT_.out (by kernel_rfl)) (fun _ _ _ h => h) (Or.inl ⟨by rfl, ?_⟩) ?_ ?_
                          rotate_left
                          · intro w'
                            go_simp
                            with_reducible rfl
                          rotate_left
                          · simp only [Act.put, List.setIfInBounds_toArray, List.set_cons_zero, List.set_cons_succ, i64_w, i32_w]
                            rfl
                          refine pure_ (i := 18) (N := some 57) (v := undef) (a' := ?_) #[true, true, true, true, true, true, true, true, true, true, true, true, true, true, true, true, true, true, true, false, false, false, false, false, false, false] rfl rfl (any_of HT_.out (by kernel_rfl)) (fun _ _ _ h => h) (Or.inr ⟨by rfl, rfl⟩) ?_ ?_
                          rotate_left
                          · simp only [Act.put, List.setIfInBounds_toArray, List.set_cons_zero, List.set_cons_succ, i64_w, i32_w]
                            rfl
                          refine pure_ (i := 19) (N := some 58) (v := undef) (a' := ?_) #[true, true, true, true, true, true, true, true, true, true, true, true, true, true, true, true, true, true, true, true, false, false, false, false, false, false] rfl rfl (any_of HT_.out (by kernel_rfl)) (fun _ _ _ h => h) (Or.inr ⟨by rfl, rfl⟩) ?_ ?_
                          rotate_left
                          · simp only [Act.put, List.setIfInBounds_toArray, List.set_cons_zero, List.set_cons_succ, i64_w, i32_w]
                            rfl
                          refine pure_ (i := 20) (N := some 59) (v := undef) (a' := ?_) #[true, true, true, true, true, true, true, true, true, true, true, true, true, true, true, true, true, true, true, true, true, false, false, false, false, false] rfl rfl (any_of HT_.out (by kernel_rfl)) (fun _ _ _ h => h) (Or.inr ⟨by rfl, rfl⟩) ?_ ?_
                          rotate_left
                          · simp only [Act.put, List.setIfInBounds_toArray, List.set_cons_zero, List.set_cons_succ, i64_w, i32_w]
                            rfl
                          refine pure_ (i := 21) (N := some 60) (v := ?_) (a' := ?_) #[true, true, true, true, true, true, true, true, true, true, true, true, true, true, true, true, true, true, true, true, true, true, false, false, false, false] rfl rfl (any_of HT_.out (by kernel_rfl)) (fun _ _ _ h => h) (Or.inl ⟨by rfl, ?_⟩) ?_ ?_
                          rotate_left
                          · intro w'
                            go_simp
                            with_reducible rfl
                          rotate_left
                          · simp only [Act.put, List.setIfInBounds_toArray, List.set_cons_zero, List.set_cons_succ, i64_w, i32_w]
                            rfl
                          refine pure_ (i := 22) (N := some 61) (v := ?_) (a' := ?_) #[true, true, true, true, true, true, true, true, true, true, true, true, true, true, true, true, true, true, true, true, true, true, true, false, false, false] rfl rfl (any_of HT_.out (by kernel_rfl)) (fun _ _ _ h => h) (Or.inl ⟨by rfl, ?_⟩) ?_ ?_
                          rotate_left
                          · intro w'
                            go_simp
                            with_reducible rfl
                          rotate_left
                          · simp only [Act.put, List.setIfInBounds_toArray, List.set_cons_zero, List.set_cons_succ, i64_w, i32_w]
                            rfl
                          refine pure_ (i := 23) (N := some 62) (v := undef) (a' := ?_) #[true, true, true, true, true, true, true, true, true, true, true, true, true, true, true, true, true, true, true, true, true, true, true, true, false, false] rfl rfl (any_of HT_.out (by kernel_rfl)) (fun _ _ _ h => h) (Or.inr ⟨by rfl, rfl⟩) ?_ ?_
                          rotate_left
                          · simp only [Act.put, List.setIfInBounds_toArray, List.set_cons_zero, List.set_cons_succ, i64_w, i32_w]
                            rfl
                          refine pure_ (i := 24) (N := some 63) (v := ?_) (a' := ?_) #[true, true, true, true, true, true, true, true, true, true, true, true, true, true, true, true, true, true, true, true, true, true, true, true, true, false] rfl rfl (any_of HT_.out (by kernel_rfl)) (fun _ _ _ h => h) (Or.inl ⟨by rfl, ?_⟩) ?_ ?_
                          rotate_left
                          · intro w'
                            go_simp
                            with_reducible rfl
                          rotate_left
                          · simp only [Act.put, List.setIfInBounds_toArray, List.set_cons_zero, List.set_cons_succ, i64_w, i32_w]
                            rfl
                          refine pure_ (i := 25) (N := some 2) (v := ?_) (a' := ?_) #[true, true, true, true, true, true, true, true, true, true, true, true, true, true, true, true, true, true, true, true, true, true, true, true, true, true] rfl rfl (any_of HT_.out (by kernel_rfl)) (fun _ _ _ h => h) (Or.inl ⟨by rfl, ?_⟩) ?_ ?_
                          rotate_left
                          · intro w'
                            go_simp
                            with_reducible rfl
                          rotate_left
                          · simp only [Act.put, List.setIfInBounds_toArray, List.set_cons_zero, List.set_cons_succ, i64_w, i32_w]
                            rfl
                          refine done_ (done_of HT_.out (by kernel_rfl)) ?_
                          try go_wp2
                          go_ret
                          exact ⟨rf_, bl_⟩
                    | with_reducible refine (windroseref18_Same.calls t767 t768 t769 _ _ t770 t773 t783 t784 t785 _ _ t786 t789 false _ ?side1 ?side2 ?side3 ?side4 A26.out).mono ?_
                      (case side1 => exact cr_ HO_776003)
                      (case side2 => exact (Kd.R_reads' HO_776003.out).2.1)
                      (case side3 => exact cr_ HO7001)
                      (case side4 => exact (Kd.R_reads' HO7001.out).2.1)
                      rintro e w7003 ⟨rfl, hb⟩
                      refine ⟨_, rfl, ?_⟩
                      have n7000_ := Aside0.mk (Kd.R_below (ro_ HO_776003) hb)
                      have n7001_ := Aside0.mk (Kd.R_below (ro_ HO7000) hb)
                      have n7002_ := Aside0.mk (Kd.R_below (ro_ HO7001) hb)
                      have n7003_ := Aside0.mk (blk_below (bo_ BK775) hb)
                      have n7004_ := Aside0.mk (below_step bl_ hb)
                      clear HO_776003
                      clear HO7000
                      clear HO7001
                      clear BK775
                      clear HB
                      have HO_776003 := n7000_
                      have HO7000 := n7001_
                      have HO7001 := n7002_
                      have BK775 := n7003_
                      have HB := n7004_
                      clear n7000_ n7001_ n7002_ n7003_ n7004_
                      (try clear hb)
                      (try clear hb2)
                      (try clear hk)
                      (try clear hi)
                      refine hK.out _ _ ⟨(blk_cell BK775.out 0).trans rfl, (blk_cell BK775.out 1).trans rfl, (blk_cell BK775.out 2).trans rfl, (blk_cell BK775.out 3).trans rfl, (blk_cell BK775.out 4).trans rfl⟩ (fun hHeld => ?_)
                      clear hK K
                      refine norm_ (a' := ?_) ?_ ?_
                      rotate_left
                      · show Act.put _ (some 45) _ = _
                        simp only [Act.put, List.setIfInBounds_toArray, List.set_cons_zero, List.set_cons_succ, i64_w, i32_w]
                        rfl
                      refine pure_ (i := 7) (N := some 46) (v := ?_) (a' := ?_) #[true, true, true, true, true, true, true, true, false, false, false, false, false, false, false, false, false, false, false, false, false, false, false, false, false, false] rfl rfl (any_of HT_.out (by kernel_rfl)) (fun _ _ _ h => h) (Or.inl ⟨by rfl, ?_⟩) ?_ ?_
                      rotate_left
                      · intro w'
                        go_simp
                        with_reducible rfl
                      rotate_left
                      · simp only [Act.put, List.setIfInBounds_toArray, List.set_cons_zero, List.set_cons_succ, i64_w, i32_w]
                        rfl
                      refine pure_ (i := 8) (N := some 47) (v := ?_) (a' := ?_) #[true, true, true, true, true, true, true, true, true, false, false, false, false, false, false, false, false, false, false, false, false, false, false, false, false, false] rfl rfl (any_of HT_.out (by kernel_rfl)) (fun _ _ _ h => h) (Or.inl ⟨by rfl, ?_⟩) ?_ ?_
                      rotate_left
                      · intro w'
                        go_simp
                        with_reducible rfl
                      rotate_left
                      · simp only [Act.put, List.setIfInBounds_toArray, List.set_cons_zero, List.set_cons_succ, i64_w, i32_w]
                        rfl
                      refine pure_ (i := 9) (N := some 48) (v := undef) (a' := ?_) #[true, true, true, true, true, true, true, true, true, true, false, false, false, false, false, false, false, false, false, false, false, false, false, false, false, false] rfl rfl (any_of HT_.out (by kernel_rfl)) (fun _ _ _ h => h) (Or.inr ⟨by rfl, rfl⟩) ?_ ?_
                      rotate_left
                      · simp only [Act.put, List.setIfInBounds_toArray, List.set_cons_zero, List.set_cons_succ, i64_w, i32_w]
                        rfl
                      refine pure_ (i := 10) (N := some 49) (v := undef) (a' := ?_) #[true, true, true, true, true, true, true, true, true, true, true, false, false, false, false, false, false, false, false, false, false, false, false, false, false, false] rfl rfl (any_of HT_.out (by kernel_rfl)) (fun _ _ _ h => h) (Or.inr ⟨by rfl, rfl⟩) ?_ ?_
                      rotate_left
                      · simp only [Act.put, List.setIfInBounds_toArray, List.set_cons_zero, List.set_cons_succ, i64_w, i32_w]
                        rfl
                      refine pure_ (i := 11) (N := some 50) (v := ?_) (a' := ?_) #[true, true, true, true, true, true, true, true, true, true, true, true, false, false, false, false, false, false, false, false, false, false, false, false, false, false] rfl rfl (any_of HT_.out (by kernel_rfl)) (fun _ _ _ h => h) (Or.inl ⟨by rfl, ?_⟩) ?_ ?_
                      rotate_left
                      · intro w'
                        go_simp
                        with_reducible rfl
                      rotate_left
                      · simp only [Act.put, List.setIfInBounds_toArray, List.set_cons_zero, List.set_cons_succ, i64_w, i32_w]
                        rfl
                      refine pure_ (i := 12) (N := some 51) (v := ?_) (a' := ?_) #[true, true, true, true, true, true, true, true, true, true, true, true, true, false, false, false, false, false, false, false, false, false, false, false, false, false] rfl rfl (any_of HT_.out (by kernel_rfl)) (fun _ _ _ h => h) (Or.inl ⟨by rfl, ?_⟩) ?_ ?_
                      rotate_left
                      · intro w'
                        go_simp
                        with_reducible rfl
                      rotate_left
                      · simp only [Act.put, List.setIfInBounds_toArray, List.set_cons_zero, List.set_cons_succ, i64_w, i32_w]
                        rfl
                      refine pure_ (i := 13) (N := some 52) (v := undef) (a' := ?_) #[true, true, true, true, true, true, true, true, true, true, true, true, true, true, false, false, false, false, false, false, false, false, false, false, false, false] rfl rfl (any_of HT_.out (by kernel_rfl)) (fun _ _ _ h => h) (Or.inr ⟨by rfl, rfl⟩) ?_ ?_
                      rotate_left
                      · simp only [Act.put, List.setIfInBounds_toArray, List.set_cons_zero, List.set_cons_succ, i64_w, i32_w]
                        rfl
                      refine pure_ (i := 14) (N := some 53) (v := undef) (a' := ?_) #[true, true, true, true, true, true, true, true, true, true, true, true, true, true, true, false, false, false, false, false, false, false, false, false, false, false] rfl rfl (any_of HT_.out (by kernel_rfl)) (fun _ _ _ h => h) (Or.inr ⟨by rfl, rfl⟩) ?_ ?_
                      rotate_left
                      · simp only [Act.put, List.setIfInBounds_toArray, List.set_cons_zero, List.set_cons_succ, i64_w, i32_w]
                        rfl
                      refine pure_ (i := 15) (N := some 54) (v := undef) (a' := ?_) #[true, true, true, true, true, true, true, true, true, true, true, true, true, true, true, true, false, false, false, false, false, false, false, false, false, false] rfl rfl (any_of HT_.out (by kernel_rfl)) (fun _ _ _ h => h) (Or.inr ⟨by rfl, rfl⟩) ?_ ?_
                      rotate_left
                      · simp only [Act.put, List.setIfInBounds_toArray, List.set_cons_zero, List.set_cons_succ, i64_w, i32_w]
                        rfl
                      refine pure_ (i := 16) (N := some 55) (v := ?_) (a' := ?_) #[true, true, true, true, true, true, true, true, true, true, true, true, true, true, true, true, true, false, false, false, false, false, false, false, false, false] rfl rfl (any_of HT_.out (by kernel_rfl)) (fun _ _ _ h => h) (Or.inl ⟨by rfl, ?_⟩) ?_ ?_
                      rotate_left
                      · intro w'
                        go_simp
                        with_reducible rfl
                      rotate_left
                      · simp only [Act.put, List.setIfInBounds_toArray, List.set_cons_zero, List.set_cons_succ, i64_w, i32_w]
                        rfl
                      refine pure_ (i := 17) (N := some 56) (v := ?_) (a' := ?_) #[true, true, true, true, true, true, true, true, true, true, true, true, true, true, true, true, true, true, false, false, false, false, false, false, false, false] rfl rfl (any_of HT_.out (by kernel_rfl)) (fun _ _ _ h => h) (Or.inl ⟨by rfl, ?_⟩) ?_ ?_
                      rotate_left
                      · intro w'
                        go_simp
                        with_reducible rfl
                      rotate_left
                      · simp only [Act.put, List.setIfInBounds_toArray, List.set_cons_zero, List.set_cons_succ, i64_w, i32_w]
                        rfl
                      refine pure_ (i := 18) (N := some 57) (v := undef) (a' := ?_) #[true, true, true, true, true, true, true, true, true, true, true, true, true, true, true, true, true, true, true, false, false, false, false, false, false, false] rfl rfl (any_of HT_.out (by kernel_rfl)) (fun _ _ _ h => h) (Or.inr ⟨by rfl, rfl⟩) ?_ ?_
                      rotate_left
                      · simp only [Act.put, List.setIfInBounds_toArray, List.set_cons_zero, List.set_cons_succ, i64_w, i32_w]
                        rfl
                      refine pure_ (i := 19) (N := some 58) (v := undef) (a' := ?_) #[true, true, true, true, true, true, true, true, true, true, true, true, true, true, true, true, true, true, true, true, false, false, false, false, false, false] rfl rfl (any_of HT_.out (by kernel_rfl)) (fun _ _ _ h => h) (Or.inr ⟨by rfl, rfl⟩) ?_ ?_
                      rotate_left
                      · simp only [Act.put, List.setIfInBounds_toArray, List.set_cons_zero, List.set_cons_succ, i64_w, i32_w]
                        rfl
                      refine pure_ (i := 20) (N := some 59) (v := undef) (a' := ?_) #[true, true, true, true, true, true, true, true, true, true, true, true, true, true, true, true, true, true, true, true, true, false, false, false, false, false] rfl rfl (any_of HT_.out (by kernel_rfl)) (fun _ _ _ h => h) (Or.inr ⟨by rfl, rfl⟩) ?_ ?_
                      rotate_left
                      · simp only [Act.put, List.setIfInBounds_toArray, List.set_cons_zero, List.set_cons_succ, i64_w, i32_w]
                        rfl
                      refine pure_ (i := 21) (N := some 60) (v := ?_) (a' := ?_) #[true, true, true, true, true, true, true, true, true, true, true, true, true, true, true, true, true, true, true, true, true, true, false, false, false, false] rfl rfl (any_of HT_.out (by kernel_rfl)) (fun _ _ _ h => h) (Or.inl ⟨by rfl, ?_⟩) ?_ ?_
                      rotate_left
                      · intro w'
                        go_simp
                        with_reducible rfl
                      rotate_left
                      · simp only [Act.put, List.setIfInBounds_toArray, List.set_cons_zero, List.set_cons_succ, i64_w, i32_w]
                        rfl
                      refine pure_ (i := 22) (N := some 61) (v := ?_) (a' := ?_) #[true, true, true, true, true, true, true, true, true, true, true, true, true, true, true, true, true, true, true, true, true, true, true, false, false, false] rfl rfl (any_of HT_.out (by kernel_rfl)) (fun _ _ _ h => h) (Or.inl ⟨by rfl, ?_⟩) ?_ ?_
                      rotate_left
                      · intro w'
                        go_simp
                        with_reducible rfl
                      rotate_left
                      · simp only [Act.put, List.setIfInBounds_toArray, List.set_cons_zero, List.set_cons_succ, i64_w, i32_w]
                        rfl
                      refine pure_ (i := 23) (N := some 62) (v := undef) (a' := ?_) #[true, true, true, true, true, true, true, true, true, true, true, true, true, true, true, true, true, true, true, true, true, true, true, true, false, false] rfl rfl (any_of HT_.out (by kernel_rfl)) (fun _ _ _ h => h) (Or.inr ⟨by rfl, rfl⟩) ?_ ?_
                      rotate_left
                      · simp only [Act.put, List.setIfInBounds_toArray, List.set_cons_zero, List.set_cons_succ, i64_w, i32_w]
                        rfl
                      refine pure_ (i := 24) (N := some 63) (v := ?_) (a' := ?_) #[true, true, true, true, true, true, true, true, true, true, true, true, true, true, true, true, true, true, true, true, true, true, true, true, true, false] rfl rfl (any_of HT_.out (by kernel_rfl)) (fun _ _ _ h => h) (Or.inl ⟨by rfl, ?_⟩) ?_ ?_
                      rotate_left
                      · intro w'
                        go_simp
                        with_reducible rfl
                      rotate_left
                      · simp only [Act.put, List.setIfInBounds_toArray, List.set_cons_zero, List.set_cons_succ, i64_w, i32_w]
                        rfl
                      refine pure_ (i := 25) (N := some 2) (v := ?_) (a' := ?_) #[true, true, true, true, true, true, true, true, true, true, true, true, true, true, true, true, true, true, true, true, true, true, true, true, true, true] rfl rfl (any_of HT_.out (by kernel_rfl)) (fun _ _ _ h => h) (Or.inl ⟨by rfl, ?_⟩) ?_ ?_
                      rotate_left
                      · intro w'
                        go_simp
                        with_reducible rfl
                      rotate_left
                      · simp only [Act.put, List.setIfInBounds_toArray, List.set_cons_zero, List.set_cons_succ, i64_w, i32_w]
                        rfl
                      refine done_ (done_of HT_.out (by kernel_rfl)) ?_
                      try go_wp2
                      go_ret
                      exact ⟨rf_, bl_⟩
                | refine start_ (n := 26) (S := fun w' => True) (ds := []) #[false, false, false, false, false, false, false, false, false, false, false, false, false, false, false, false, false, false, false, false, false, false, false, false, false, false] (by kernel_rfl) rfl rfl trivial (fun hHeld => ?_); refine with_tabW windroselaw18_GorillaBuilds.tab7 windroselaw18_GorillaBuilds.bits7 (fun HT_ HW_ => ?_)
                  generalize w7000.drew = w7001 at HO_776003 HO7000 BK775 HB hHeld ⊢
                  refine pure_ (i := 0) (N := some 39) (v := ?_) (a' := ?_) #[true, false, false, false, false, false, false, false, false, false, false, false, false, false, false, false, false, false, false, false, false, false, false, false, false, false] rfl rfl (any_of HT_.out (by kernel_rfl)) (fun _ _ _ h => h) (Or.inl ⟨by rfl, ?_⟩) ?_ ?_
                  rotate_left
                  · intro w'
                    go_simp
                    with_reducible rfl
                  rotate_left
                  · simp only [Act.put, List.setIfInBounds_toArray, List.set_cons_zero, List.set_cons_succ, i64_w, i32_w]
                    rfl
                  refine pure_ (i := 1) (N := some 40) (v := ?_) (a' := ?_) #[true, true, false, false, false, false, false, false, false, false, false, false, false, false, false, false, false, false, false, false, false, false, false, false, false, false] rfl rfl (any_of HT_.out (by kernel_rfl)) (fun _ _ _ h => h) (Or.inl ⟨by rfl, ?_⟩) ?_ ?_
                  rotate_left
                  · intro w'
                    go_simp
                    with_reducible rfl
                  rotate_left
                  · simp only [Act.put, List.setIfInBounds_toArray, List.set_cons_zero, List.set_cons_succ, i64_w, i32_w]
                    rfl
                  refine pure_ (i := 2) (N := some 41) (v := ?_) (a' := ?_) #[true, true, true, false, false, false, false, false, false, false, false, false, false, false, false, false, false, false, false, false, false, false, false, false, false, false] rfl rfl (any_of HT_.out (by kernel_rfl)) (fun _ _ _ h => h) (Or.inl ⟨by rfl, ?_⟩) ?_ ?_
                  rotate_left
                  · intro w'
                    go_simp
                    with_reducible rfl
                  rotate_left
                  · simp only [Act.put, List.setIfInBounds_toArray, List.set_cons_zero, List.set_cons_succ, i64_w, i32_w]
                    rfl
                  refine pure_ (i := 3) (N := some 42) (v := undef) (a' := ?_) #[true, true, true, true, false, false, false, false, false, false, false, false, false, false, false, false, false, false, false, false, false, false, false, false, false, false] rfl rfl (any_of HT_.out (by kernel_rfl)) (fun _ _ _ h => h) (Or.inr ⟨by rfl, rfl⟩) ?_ ?_
                  rotate_left
                  · simp only [Act.put, List.setIfInBounds_toArray, List.set_cons_zero, List.set_cons_succ, i64_w, i32_w]
                    rfl
                  refine pure_ (i := 4) (N := some 43) (v := undef) (a' := ?_) #[true, true, true, true, true, false, false, false, false, false, false, false, false, false, false, false, false, false, false, false, false, false, false, false, false, false] rfl rfl (any_of HT_.out (by kernel_rfl)) (fun _ _ _ h => h) (Or.inr ⟨by rfl, rfl⟩) ?_ ?_
                  rotate_left
                  · simp only [Act.put, List.setIfInBounds_toArray, List.set_cons_zero, List.set_cons_succ, i64_w, i32_w]
                    rfl
                  refine pure_ (i := 5) (N := some 44) (v := undef) (a' := ?_) #[true, true, true, true, true, true, false, false, false, false, false, false, false, false, false, false, false, false, false, false, false, false, false, false, false, false] rfl rfl (any_of HT_.out (by kernel_rfl)) (fun _ _ _ h => h) (Or.inr ⟨by rfl, rfl⟩) ?_ ?_
                  rotate_left
                  · simp only [Act.put, List.setIfInBounds_toArray, List.set_cons_zero, List.set_cons_succ, i64_w, i32_w]
                    rfl
                  refine pure_ (i := 6) (N := some 45) (v := undef) (a' := ?_) #[true, true, true, true, true, true, true, false, false, false, false, false, false, false, false, false, false, false, false, false, false, false, false, false, false, false] rfl rfl (any_of HT_.out (by kernel_rfl)) (fun _ _ _ h => h) (Or.inr ⟨by rfl, rfl⟩) ?_ ?_
                  rotate_left
                  · simp only [Act.put, List.setIfInBounds_toArray, List.set_cons_zero, List.set_cons_succ, i64_w, i32_w]
                    rfl
                  refine pure_ (i := 7) (N := some 46) (v := ?_) (a' := ?_) #[true, true, true, true, true, true, true, true, false, false, false, false, false, false, false, false, false, false, false, false, false, false, false, false, false, false] rfl rfl (any_of HT_.out (by kernel_rfl)) (fun _ _ _ h => h) (Or.inl ⟨by rfl, ?_⟩) ?_ ?_
                  rotate_left
                  · intro w'
                    go_simp
                    with_reducible rfl
                  rotate_left
                  · simp only [Act.put, List.setIfInBounds_toArray, List.set_cons_zero, List.set_cons_succ, i64_w, i32_w]
                    rfl
                  refine pure_ (i := 8) (N := some 47) (v := ?_) (a' := ?_) #[true, true, true, true, true, true, true, true, true, false, false, false, false, false, false, false, false, false, false, false, false, false, false, false, false, false] rfl rfl (any_of HT_.out (by kernel_rfl)) (fun _ _ _ h => h) (Or.inl ⟨by rfl, ?_⟩) ?_ ?_
                  rotate_left
                  · intro w'
                    go_simp
                    with_reducible rfl
                  rotate_left
                  · simp only [Act.put, List.setIfInBounds_toArray, List.set_cons_zero, List.set_cons_succ, i64_w, i32_w]
                    rfl
                  refine pure_ (i := 9) (N := some 48) (v := undef) (a' := ?_) #[true, true, true, true, true, true, true, true, true, true, false, false, false, false, false, false, false, false, false, false, false, false, false, false, false, false] rfl rfl (any_of HT_.out (by kernel_rfl)) (fun _ _ _ h => h) (Or.inr ⟨by rfl, rfl⟩) ?_ ?_
                  rotate_left
                  · simp only [Act.put, List.setIfInBounds_toArray, List.set_cons_zero, List.set_cons_succ, i64_w, i32_w]
                    rfl
                  refine pure_ (i := 10) (N := some 49) (v := undef) (a' := ?_) #[true, true, true, true, true, true, true, true, true, true, true, false, false, false, false, false, false, false, false, false, false, false, false, false, false, false] rfl rfl (any_of HT_.out (by kernel_rfl)) (fun _ _ _ h => h) (Or.inr ⟨by rfl, rfl⟩) ?_ ?_
                  rotate_left
                  · simp only [Act.put, List.setIfInBounds_toArray, List.set_cons_zero, List.set_cons_succ, i64_w, i32_w]
                    rfl
                  refine pure_ (i := 11) (N := some 50) (v := ?_) (a' := ?_) #[true, true, true, true, true, true, true, true, true, true, true, true, false, false, false, false, false, false, false, false, false, false, false, false, false, false] rfl rfl (any_of HT_.out (by kernel_rfl)) (fun _ _ _ h => h) (Or.inl ⟨by rfl, ?_⟩) ?_ ?_
                  rotate_left
                  · intro w'
                    go_simp
                    with_reducible rfl
                  rotate_left
                  · simp only [Act.put, List.setIfInBounds_toArray, List.set_cons_zero, List.set_cons_succ, i64_w, i32_w]
                    rfl
                  refine pure_ (i := 12) (N := some 51) (v := ?_) (a' := ?_) #[true, true, true, true, true, true, true, true, true, true, true, true, true, false, false, false, false, false, false, false, false, false, false, false, false, false] rfl rfl (any_of HT_.out (by kernel_rfl)) (fun _ _ _ h => h) (Or.inl ⟨by rfl, ?_⟩) ?_ ?_
                  rotate_left
                  · intro w'
                    go_simp
                    with_reducible rfl
                  rotate_left
                  · simp only [Act.put, List.setIfInBounds_toArray, List.set_cons_zero, List.set_cons_succ, i64_w, i32_w]
                    rfl
                  refine pure_ (i := 13) (N := some 52) (v := undef) (a' := ?_) #[true, true, true, true, true, true, true, true, true, true, true, true, true, true, false, false, false, false, false, false, false, false, false, false, false, false] rfl rfl (any_of HT_.out (by kernel_rfl)) (fun _ _ _ h => h) (Or.inr ⟨by rfl, rfl⟩) ?_ ?_
                  rotate_left
                  · simp only [Act.put, List.setIfInBounds_toArray, List.set_cons_zero, List.set_cons_succ, i64_w, i32_w]
                    rfl
                  refine pure_ (i := 14) (N := some 53) (v := undef) (a' := ?_) #[true, true, true, true, true, true, true, true, true, true, true, true, true, true, true, false, false, false, false, false, false, false, false, false, false, false] rfl rfl (any_of HT_.out (by kernel_rfl)) (fun _ _ _ h => h) (Or.inr ⟨by rfl, rfl⟩) ?_ ?_
                  rotate_left
                  · simp only [Act.put, List.setIfInBounds_toArray, List.set_cons_zero, List.set_cons_succ, i64_w, i32_w]
                    rfl
                  refine pure_ (i := 15) (N := some 54) (v := undef) (a' := ?_) #[true, true, true, true, true, true, true, true, true, true, true, true, true, true, true, true, false, false, false, false, false, false, false, false, false, false] rfl rfl (any_of HT_.out (by kernel_rfl)) (fun _ _ _ h => h) (Or.inr ⟨by rfl, rfl⟩) ?_ ?_
                  rotate_left
                  · simp only [Act.put, List.setIfInBounds_toArray, List.set_cons_zero, List.set_cons_succ, i64_w, i32_w]
                    rfl
                  refine pure_ (i := 16) (N := some 55) (v := ?_) (a' := ?_) #[true, true, true, true, true, true, true, true, true, true, true, true, true, true, true, true, true, false, false, false, false, false, false, false, false, false] rfl rfl (any_of HT_.out (by kernel_rfl)) (fun _ _ _ h => h) (Or.inl ⟨by rfl, ?_⟩) ?_ ?_
                  rotate_left
                  · intro w'
                    go_simp
                    with_reducible rfl
                  rotate_left
                  · simp only [Act.put, List.setIfInBounds_toArray, List.set_cons_zero, List.set_cons_succ, i64_w, i32_w]
                    rfl
                  refine pure_ (i := 17) (N := some 56) (v := ?_) (a' := ?_) #[true, true, true, true, true, true, true, true, true, true, true, true, true, true, true, true, true, true, false, false, false, false, false, false, false, false] rfl rfl (any_of HT_.out (by kernel_rfl)) (fun _ _ _ h => h) (Or.inl ⟨by rfl, ?_⟩) ?_ ?_
                  rotate_left
                  · intro w'
                    go_simp
                    with_reducible rfl
                  rotate_left
                  · simp only [Act.put, List.setIfInBounds_toArray, List.set_cons_zero, List.set_cons_succ, i64_w, i32_w]
                    rfl
                  refine pure_ (i := 18) (N := some 57) (v := undef) (a' := ?_) #[true, true, true, true, true, true, true, true, true, true, true, true, true, true, true, true, true, true, true, false, false, false, false, false, false, false] rfl rfl (any_of HT_.out (by kernel_rfl)) (fun _ _ _ h => h) (Or.inr ⟨by rfl, rfl⟩) ?_ ?_
                  rotate_left
                  · simp only [Act.put, List.setIfInBounds_toArray, List.set_cons_zero, List.set_cons_succ, i64_w, i32_w]
                    rfl
                  refine pure_ (i := 19) (N := some 58) (v := undef) (a' := ?_) #[true, true, true, true, true, true, true, true, true, true, true, true, true, true, true, true, true, true, true, true, false, false, false, false, false, false] rfl rfl (any_of HT_.out (by kernel_rfl)) (fun _ _ _ h => h) (Or.inr ⟨by rfl, rfl⟩) ?_ ?_
                  rotate_left
                  · simp only [Act.put, List.setIfInBounds_toArray, List.set_cons_zero, List.set_cons_succ, i64_w, i32_w]
                    rfl
                  refine pure_ (i := 20) (N := some 59) (v := undef) (a' := ?_) #[true, true, true, true, true, true, true, true, true, true, true, true, true, true, true, true, true, true, true, true, true, false, false, false, false, false] rfl rfl (any_of HT_.out (by kernel_rfl)) (fun _ _ _ h => h) (Or.inr ⟨by rfl, rfl⟩) ?_ ?_
                  rotate_left
                  · simp only [Act.put, List.setIfInBounds_toArray, List.set_cons_zero, List.set_cons_succ, i64_w, i32_w]
                    rfl
                  refine pure_ (i := 21) (N := some 60) (v := ?_) (a' := ?_) #[true, true, true, true, true, true, true, true, true, true, true, true, true, true, true, true, true, true, true, true, true, true, false, false, false, false] rfl rfl (any_of HT_.out (by kernel_rfl)) (fun _ _ _ h => h) (Or.inl ⟨by rfl, ?_⟩) ?_ ?_
                  rotate_left
                  · intro w'
                    go_simp
                    with_reducible rfl
                  rotate_left
                  · simp only [Act.put, List.setIfInBounds_toArray, List.set_cons_zero, List.set_cons_succ, i64_w, i32_w]
                    rfl
                  refine pure_ (i := 22) (N := some 61) (v := ?_) (a' := ?_) #[true, true, true, true, true, true, true, true, true, true, true, true, true, true, true, true, true, true, true, true, true, true, true, false, false, false] rfl rfl (any_of HT_.out (by kernel_rfl)) (fun _ _ _ h => h) (Or.inl ⟨by rfl, ?_⟩) ?_ ?_
                  rotate_left
                  · intro w'
                    go_simp
                    with_reducible rfl
                  rotate_left
                  · simp only [Act.put, List.setIfInBounds_toArray, List.set_cons_zero, List.set_cons_succ, i64_w, i32_w]
                    rfl
                  refine pure_ (i := 23) (N := some 62) (v := undef) (a' := ?_) #[true, true, true, true, true, true, true, true, true, true, true, true, true, true, true, true, true, true, true, true, true, true, true, true, false, false] rfl rfl (any_of HT_.out (by kernel_rfl)) (fun _ _ _ h => h) (Or.inr ⟨by rfl, rfl⟩) ?_ ?_
                  rotate_left
                  · simp only [Act.put, List.setIfInBounds_toArray, List.set_cons_zero, List.set_cons_succ, i64_w, i32_w]
                    rfl
                  refine pure_ (i := 24) (N := some 63) (v := ?_) (a' := ?_) #[true, true, true, true, true, true, true, true, true, true, true, true, true, true, true, true, true, true, true, true, true, true, true, true, true, false] rfl rfl (any_of HT_.out (by kernel_rfl)) (fun _ _ _ h => h) (Or.inl ⟨by rfl, ?_⟩) ?_ ?_
                  rotate_left
                  · intro w'
                    go_simp
                    with_reducible rfl
                  rotate_left
                  · simp only [Act.put, List.setIfInBounds_toArray, List.set_cons_zero, List.set_cons_succ, i64_w, i32_w]
                    rfl
                  refine pure_ (i := 25) (N := some 2) (v := ?_) (a' := ?_) #[true, true, true, true, true, true, true, true, true, true, true, true, true, true, true, true, true, true, true, true, true, true, true, true, true, true] rfl rfl (any_of HT_.out (by kernel_rfl)) (fun _ _ _ h => h) (Or.inl ⟨by rfl, ?_⟩) ?_ ?_
                  rotate_left
                  · intro w'
                    go_simp
                    with_reducible rfl
                  rotate_left
                  · simp only [Act.put, List.setIfInBounds_toArray, List.set_cons_zero, List.set_cons_succ, i64_w, i32_w]
                    rfl
                  refine done_ (done_of HT_.out (by kernel_rfl)) ?_
                  try go_wp2
                  go_ret
                  exact ⟨rf_, bl_⟩
  rw [if_pos c2] at H
  have c2b0 : decide (100 < (l0.length : Int)) = true := decide_eq_true c2
  have c2b1 : decide (100 < l0.length) = true := decide_eq_true (by omega)
  clear c2
  replace H := bindA H
  obtain ⟨t766, A3, H⟩ := H
  try dsimp only at H
  obtain rfl := Option.some.inj H
  go_enter Try.func9, Try.ntmps9
  go_wp2_with (first | ((with_reducible refine gate_callee (f := 36) rfl ?_); refine goL_ (some 10) Try.func36 #[] ?_; (with_reducible refine (windroselaw18_awake.calls k  t766 _ A3.out).mono ?_); rintro e w4 ⟨rfl, hb⟩; refine ⟨_, rfl, ?_⟩; have n_ := pk1 (below_step bl_ hb); clear HB; have HB := n_; clear n_; (try clear hb)))
  go_ret
  exact ⟨rf_, bl_⟩
end Go.Proofs.Ytmddmbagehjdeaa.G
end
