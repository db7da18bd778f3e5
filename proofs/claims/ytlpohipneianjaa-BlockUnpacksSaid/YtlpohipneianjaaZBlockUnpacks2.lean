/- Ytlpohipneianjaa: lines of the words and functions that the row BlockUnpacks rests on, and the row. No condition. -/
import Derived.Test.YtlpohipneianjaaZBlockUnpacks1
section
namespace Go.Proofs.Ytlpohipneianjaa.G
open Go.RowKit Go.Proofs.YtlpohipneianjaaW.PrintWords Go.Proofs.YtlpohipneianjaaW.PrintLast Go.Proofs.YtlpohipneianjaaW.PrintMore
set_option linter.unusedVariables false
set_option linter.unusedSimpArgs false
set_option maxHeartbeats 8000000 in
set_option maxRecDepth 100000 in
theorem windroseref11_Unpack.calls (k : Nat) (A0_0 : Option Addr) (c0_0 : Nat) (l0_0 : List Int) (A0_1 : Option Addr) (c0_1 : Nat) (l0_1 : List ByteArray) (r1 : List (S42)) (r2 : Bool) (w : World) (hr0_0 : Kd.C (Kd.int .i64) w A0_0 l0_0.length l0_0) (hc0_0 : l0_0.length ≤ c0_0) (hr0_1 : Kd.C Kd.string w A0_1 l0_1.length l0_1) (hc0_1 : l0_1.length ≤ c0_1) (h : windroseref11_Unpack.f k l0_0 l0_1 = some (r1, r2)) :
    Calls Try.prog 19 #[.agg #[.slice A0_0 l0_0.length c0_0, .slice A0_1 l0_1.length c0_1]] w fun e w' => ∃ v0_ : Value, e = .returned (.tuple #[v0_, .bool r2]) ∧ Kd.R k42 42 w' w.heap.size (fun _ => True) v0_ r1 ∧ Below w.heap.size w w' := by
  have hu29 := Try.underlying29
  have hu42 := Try.underlying42
  have HR0_0 := Aside0.mk hr0_0
  have HC0_0 := Aside0.mk hc0_0
  clear hr0_0 hc0_0
  have HR0_1 := Aside0.mk hr0_1
  have HC0_1 := Aside0.mk hc0_1
  clear hr0_1 hc0_1
  have HB := Aside0.mk (Below.refl w.heap.size w)
  have H : (if (l0_1.length : Int) > 0 then (windroseref11_Unpack.j0 k true l0_0 l0_1) else (if (l0_0.length : Int) > 129 then (windroseref11_Unpack.j0 k true l0_0 l0_1) else (windroseref11_Unpack.j0 k (decide ((l0_0.length : Int) < 1)) l0_0 l0_1))) = some (r1, r2) := h
  clear h
  have HC2 := Aside0.mk H
  clear H
  go_enter Try.func19, Try.ntmps19
  go_upto_region 1 with (first | ((with_reducible refine gate_dst (N := 1) rfl ?_); (try (refine gate_guard (by rfl) ?_; dsimp only)); refine box_event ?hg (N := 1) ?hd (cs := #[.slice A0_0 l0_0.length c0_0, .slice A0_1 l0_1.length c0_1]) (t := 29) ?hr ?_; (case hd => rfl); (case hg => rfl); (case hr => first | (go_simp; done) | (go_simp; rfl)); intro gb183 hg w3 hbox hb; have n0_ := Aside0.mk (below_step (by repeat (first | (with_reducible first | exact HB.out | apply below_alloc | apply pw_below_drewN | apply below_drew1) | exact HB.out)) hb); have n1_ := Aside0.mk (hbox); have n2_ := Aside0.mk ((by rw [hg]; exact (below_size (by repeat (first | (with_reducible first | exact HB.out | apply below_alloc | apply pw_below_drewN | apply below_drew1) | exact HB.out))) : w.heap.size ≤ gb183)); have n3_ := Aside0.mk ((by rw [hg]; exact (below_size (by repeat (first | (with_reducible first | exact HB.out | apply below_alloc | apply pw_below_drewN | apply below_drew1) | exact HB.out))) : w.heap.size ≤ gb183)); clear HB; have HB := n0_; have BK183 := n1_; have GW183 := n2_; have GE183 := n3_; clear n0_ n1_ n2_ n3_; clear hb hbox hg))
  (try simp only [Act.put, List.setIfInBounds_toArray, List.set_cons_zero, List.set_cons_succ])
  go_cut [24] (fun v24 wc => ∃ (kq : Nat) (x24_1 : Bool), v24 = .bool x24_1 ∧ Aside0 (windroseref11_Unpack.j0 kq x24_1 l0_0 l0_1 = some (r1, r2)) ∧ Aside0 (kq ≤ k) ∧ Aside0 (wc.heap[gb183]? = some (.cells #[(.slice A0_0 l0_0.length c0_0), (.slice A0_1 l0_1.length c0_1)] 29 (0, 0))) ∧ Aside0 (Below w.heap.size w wc))
  case first =>
    have H := HC2.out
    clear HC2
    by_cases c4 : (l0_1.length : Int) > 0
    · rw [if_pos c4] at H
      have c4b0 : decide (0 < (l0_1.length : Int)) = true := decide_eq_true c4
      have c4b1 : decide (0 < l0_1.length) = true := decide_eq_true (by omega)
      have c4b1_ := eq_true (of_decide_eq_true c4b1)
      clear c4
      (first | rw [c4b0] | (simp only [i64_w, i32_w]; rw [c4b0]) | skip)
      have H' := Aside0.mk H
      clear H
      have hcz5_0 : w3.cell? ⟨gb183, 0, none⟩ = some (.slice A0_0 l0_0.length c0_0) := (blk_cell BK183.out 0).trans rfl
      have hcz5_1 : w3.cell? ⟨gb183, 1, none⟩ = some (.slice A0_1 l0_1.length c0_1) := (blk_cell BK183.out 1).trans rfl
      have hfz5_0 := blk_frozen BK183.out 0
      have hfz5_1 := blk_frozen BK183.out 1
      go_wp2
      all_goals (try exact absurd (of_eq_true c4b1_) (by assumption))
      go_meet
      case rel => exact ⟨_, (true), (by first | rfl | (simp; done) | (simp [*]; done)), H', ⟨by first | omega | exact Nat.le_refl _⟩, ⟨by (with_reducible repeat (first | refine blk_drewN ?_ _ | refine blk_drew ?_ | refine blk_alloc ?_ _)); exact BK183.out⟩, ⟨by repeat (first | (with_reducible first | exact HB.out | apply below_alloc | apply pw_below_drewN | apply below_drew1 | refine below_set ?_ GE183.out) | exact HB.out)⟩⟩
    · rw [if_neg c4] at H
      have c4b0 : decide (0 < (l0_1.length : Int)) = false := decide_eq_false c4
      have c4b1 : decide (0 < l0_1.length) = false := decide_eq_false (by omega)
      have c4b1_ := eq_false (of_decide_eq_false c4b1)
      clear c4
      (first | rw [c4b0] | (simp only [i64_w, i32_w]; rw [c4b0]) | skip)
      by_cases c6 : (l0_0.length : Int) > 129
      · rw [if_pos c6] at H
        have c6b0 : decide (129 < (l0_0.length : Int)) = true := decide_eq_true c6
        have c6b1 : decide (129 < l0_0.length) = true := decide_eq_true (by omega)
        have c6b1_ := eq_true (of_decide_eq_true c6b1)
        clear c6
        have H' := Aside0.mk H
        clear H
        have hcz7_0 : w3.cell? ⟨gb183, 0, none⟩ = some (.slice A0_0 l0_0.length c0_0) := (blk_cell BK183.out 0).trans rfl
        have hcz7_1 : w3.cell? ⟨gb183, 1, none⟩ = some (.slice A0_1 l0_1.length c0_1) := (blk_cell BK183.out 1).trans rfl
        have hfz7_0 := blk_frozen BK183.out 0
        have hfz7_1 := blk_frozen BK183.out 1
        go_wp2
        all_goals (try exact absurd (of_eq_true c6b1_) (by assumption))
        go_meet
        case rel => exact ⟨_, (true), (by first | rfl | (simp; done) | (simp [*]; done)), H', ⟨by first | omega | exact Nat.le_refl _⟩, ⟨by (with_reducible repeat (first | refine blk_drewN ?_ _ | refine blk_drew ?_ | refine blk_alloc ?_ _)); exact BK183.out⟩, ⟨by repeat (first | (with_reducible first | exact HB.out | apply below_alloc | apply pw_below_drewN | apply below_drew1 | refine below_set ?_ GE183.out) | exact HB.out)⟩⟩
      · rw [if_neg c6] at H
        have c6b0 : decide (129 < (l0_0.length : Int)) = false := decide_eq_false c6
        have c6b1 : decide (129 < l0_0.length) = false := decide_eq_false (by omega)
        have c6b1_ := eq_false (of_decide_eq_false c6b1)
        clear c6
        have H' := Aside0.mk H
        clear H
        have hcz8_0 : w3.cell? ⟨gb183, 0, none⟩ = some (.slice A0_0 l0_0.length c0_0) := (blk_cell BK183.out 0).trans rfl
        have hcz8_1 : w3.cell? ⟨gb183, 1, none⟩ = some (.slice A0_1 l0_1.length c0_1) := (blk_cell BK183.out 1).trans rfl
        have hfz8_0 := blk_frozen BK183.out 0
        have hfz8_1 := blk_frozen BK183.out 1
        go_wp2
        all_goals (try exact absurd (by assumption) (of_eq_false c6b1_))
        go_meet
        case rel => exact ⟨_, (decide ((l0_0.length : Int) < 1)), (by first | rfl | (simp; done) | (simp [*]; done)), H', ⟨by first | omega | exact Nat.le_refl _⟩, ⟨by (with_reducible repeat (first | refine blk_drewN ?_ _ | refine blk_drew ?_ | refine blk_alloc ?_ _)); exact BK183.out⟩, ⟨by repeat (first | (with_reducible first | exact HB.out | apply below_alloc | apply pw_below_drewN | apply below_drew1 | refine below_set ?_ GE183.out) | exact HB.out)⟩⟩
  case rest =>
    clear HC2
    try clear c1
    try clear p2
    try clear c4
    try clear c4b0
    try clear c4b1
    try clear c6
    try clear c6b0
    try clear c6b1
    try clear hcz5_0
    try clear hcz5_1
    try clear hcz7_0
    try clear hcz7_1
    try clear hcz8_0
    try clear hcz8_1
    try clear hfz5_0
    try clear hfz5_1
    try clear hfz7_0
    try clear hfz7_1
    try clear hfz8_0
    try clear hfz8_1
    obtain ⟨kq, x24_1, rfl, HA, HJ1, BK183, HB⟩ := hcut
    cases kq with
    | zero => exact absurd HA.out (by simp [windroseref11_Unpack.j0])
    | succ kj1 =>
      have H := HA.out
      clear HA
      simp only [windroseref11_Unpack.j0] at H
      by_cases c9 : x24_1 = true
      · subst c9
        have H1 : (some (([] : List (S42)), false)) = some (r1, r2) := by rw [if_pos rfl] at H; exact H
        clear H
        have H := H1
        clear H1
        simp only [Option.some.injEq, Prod.mk.injEq] at H
        obtain ⟨rfl, rfl⟩ := H
        go_wp2
        go_ret2
        exact ⟨_, by first | rfl | (simp [errW_none, errW_some] <;> rfl) | (simp [*, errW_none, errW_some] <;> rfl), by first | exact Kd.R_nil _ _ _ _ _ | exact Kd.N_nil _ _ _ _ _ | exact Kd.V_nil _ _ _ _ _ | exact Kd.Q_nil _ _ _ _ _ | exact Kd.S_nil _ _ _ _ _, by repeat (first | (with_reducible first | exact HB.out | apply below_alloc | apply pw_below_drewN | apply below_drew1 | refine below_set ?_ GE183.out) | exact HB.out)⟩
      · replace c9 := Bool.eq_false_iff.mpr c9
        subst c9
        have H1 : (windroseref11_Unpack.l0 kj1 (([] : List (S42))) 1 l0_0 l0_1) = some (r1, r2) := by rw [if_neg (show ¬ (false = true) by decide)] at H; exact H
        clear H
        have H := H1
        clear H1
        obtain ⟨y184, hy184⟩ : ∃ y_ : List (S42), y_ = (([] : List (S42))) := ⟨_, rfl⟩
        replace H : (windroseref11_Unpack.l0 kj1 y184 1 l0_0 l0_1) = some (r1, r2) := by first | (rw [hy184]; with_reducible exact H) | (have H2_ := (Option.bind_some _ _).symm.trans H; rw [hy184]; with_reducible exact H2_) | (have H2_ := (Option.bind_some _ _).symm.trans H; with_reducible exact H2_) | with_reducible exact H | (rw [hy184]; exact H) | exact H
        have Ny184 := Aside0.mk hy184
        clear hy184
        have H' := Aside0.mk H
        clear H
        go_wp2_with (first | ((with_reducible refine gate_dst (N := 25) rfl ?_); (try (refine gate_guard (by rfl) ?_; dsimp only)); refine Kd.R_lit k42 _ 42 ?hg (N := 25) ?hd (xs := ([] : List (S42))) (inner := []) (ok := fun _ => True) (okp := fun _ => True) ?hr ?hp (fun _ hk => hk) trivial (Below.refl _ _) (Nat.le_refl _) (by simp) ?_; (case hd => rfl); (case hg => rfl); (case hr => first | (go_simp; done) | (go_simp; rfl)); (case hp => exact (Reps.none _ _)); intro v185 w10 ho11 hb hg_ hnew_; clear hg_ hnew_; (first | rw [← Ny184.out] at ho11 | (simp only [Int.reduceToNat] at ho11; rw [← Ny184.out] at ho11)); have n0_ := Aside0.mk (Kd.R_lower ho11 (below_size (by repeat (first | (with_reducible first | exact HB.out | apply below_alloc | apply pw_below_drewN | apply below_drew1 | refine below_set ?_ GE183.out) | exact HB.out)))); have n1_ := Aside0.mk (blk_below (g := gb183) (o := .cells #[.slice A0_0 l0_0.length c0_0, .slice A0_1 l0_1.length c0_1] 29 (0, 0)) (by (with_reducible repeat (first | refine blk_drewN ?_ _ | refine blk_drew ?_ | refine blk_alloc ?_ _)); exact BK183.out) hb); have n2_ := Aside0.mk (below_step (by repeat (first | (with_reducible first | exact HB.out | apply below_alloc | apply pw_below_drewN | apply below_drew1 | refine below_set ?_ GE183.out) | exact HB.out)) hb); clear BK183; clear HB; have HO186 := n0_; have BK183 := n1_; have HB := n2_; clear n0_ n1_ n2_; clear hb ho11))
        go_loopg [4, 5] kj1 (fun kq v4 v5 w' => ∃ (x4_2 : List (S42)) (x5_2 : Int), v5 = .int .i64 x5_2 ∧ Aside0 (windroseref11_Unpack.l0 kq x4_2 x5_2 l0_0 l0_1 = some (r1, r2)) ∧ Aside0 (kq ≤ kj1) ∧ Aside0 (Kd.R k42 42 w' w.heap.size (fun _ => True) v4 x4_2) ∧ Aside0 (w'.heap[gb183]? = some (.cells #[(.slice A0_0 l0_0.length c0_0), (.slice A0_1 l0_1.length c0_1)] 29 (0, 0))) ∧ Aside0 (Below w.heap.size w w'))
        case atStart => exact ⟨(y184), (1), (by first | rfl | (simp; done) | (simp [*]; done)), H', ⟨Nat.le_refl _⟩, ⟨by (with_reducible repeat (first | apply Kd.R_alloc | apply Kd.R_drewN | apply Kd.R_drew)); exact HO186.out⟩, ⟨by (with_reducible repeat (first | refine blk_drewN ?_ _ | refine blk_drew ?_ | refine blk_alloc ?_ _)); exact BK183.out⟩, ⟨by repeat (first | (with_reducible first | exact HB.out | apply below_alloc | apply pw_below_drewN | apply below_drew1 | refine below_set ?_ GE183.out) | exact HB.out)⟩⟩
        case round =>
          clear H'
          try clear c1
          try clear p2
          try clear c4
          try clear c4b0
          try clear c4b1
          try clear c6
          try clear c6b0
          try clear c6b1
          try clear c9
          try clear hcz5_0
          try clear hcz5_1
          try clear hcz7_0
          try clear hcz7_1
          try clear hcz8_0
          try clear hcz8_1
          try clear hfz5_0
          try clear hfz5_1
          try clear hfz7_0
          try clear hfz7_1
          try clear hfz8_0
          try clear hfz8_1
          try clear p2
          obtain ⟨x4_2, x5_2, rfl, HA, HK2, HO_4, BK183, HB⟩ := hrel
          cases gk with
          | zero => exact absurd HA.out (by simp [windroseref11_Unpack.l0])
          | succ k2 =>
            have H := HA.out
            clear HA
            simp only [windroseref11_Unpack.l0] at H
            by_cases c12 : (wrap64 (x5_2 + 1)) < (l0_0.length : Int)
            · rw [if_pos c12] at H
              have c12b0 : decide ((wrap64 (x5_2 + 1)) < (l0_0.length : Int)) = true := decide_eq_true c12
              clear c12
              by_cases c13 : 0 ≤ x5_2
              · rw [if_pos c13] at H
                have c13b0 : decide (0 ≤ x5_2) = true := decide_eq_true c13
                clear c13
                by_cases c14 : x5_2 < (l0_0.length : Int)
                · rw [if_pos c14] at H
                  have c14b0 : decide (x5_2 < (l0_0.length : Int)) = true := decide_eq_true c14
                  clear c14
                  obtain ⟨ji15, hji15⟩ : ∃ j_ : Int, (wrap64 (x5_2 + 1)) = j_ := ⟨_, rfl⟩
                  replace H : (if 0 ≤ (ji15) then (if (rd l0_0 x5_2) > 8796093022208 then (windroseref11_Unpack.j2 k2 x4_2 x5_2 (rd l0_0 x5_2) (rd l0_0 (ji15)) true l0_0 l0_1) else (if (rd l0_0 x5_2) < (-8796093022208) then (windroseref11_Unpack.j2 k2 x4_2 x5_2 (rd l0_0 x5_2) (rd l0_0 (ji15)) true l0_0 l0_1) else (if (rd l0_0 (ji15)) > 8796093022208 then (windroseref11_Unpack.j2 k2 x4_2 x5_2 (rd l0_0 x5_2) (rd l0_0 (ji15)) true l0_0 l0_1) else (windroseref11_Unpack.j2 k2 x4_2 x5_2 (rd l0_0 x5_2) (rd l0_0 (ji15)) (decide ((rd l0_0 (ji15)) < (-8796093022208))) l0_0 l0_1)))) else (none)) = some (r1, r2) := by first | (rw [hji15] at H; exact H) | (simp only [hji15] at H ⊢; exact H)
                  (try rw [hji15] at c12b0)
                  have hji15w : (IntKind.i64.wrap (x5_2 + 1)) = ji15 := (i64_w _).trans hji15
                  by_cases c16 : 0 ≤ (ji15)
                  · rw [if_pos c16] at H
                    have c16b0 : decide (0 ≤ (ji15)) = true := decide_eq_true c16
                    clear c16
                    have HC17 := Aside0.mk H
                    clear H
                    have hcz18_0 : wr.cell? ⟨gb183, 0, none⟩ = some (.slice A0_0 l0_0.length c0_0) := (blk_cell BK183.out 0).trans rfl
                    have hcz18_1 : wr.cell? ⟨gb183, 1, none⟩ = some (.slice A0_1 l0_1.length c0_1) := (blk_cell BK183.out 1).trans rfl
                    have hfz18_0 := blk_frozen BK183.out 0
                    have hfz18_1 := blk_frozen BK183.out 1
                    try go_wp2
                    have n0_ := Aside0.mk (Kd.R_drew HO_4.out)
                    have n1_ := Aside0.mk (blk_drew BK183.out)
                    have n2_ := Aside0.mk (below_drew1 HB.out)
                    clear HO_4
                    clear BK183
                    clear HB
                    have HO_4 := n0_
                    have BK183 := n1_
                    have HB := n2_
                    clear n0_ n1_ n2_
                    have p187 : 0 ≤ (x5_2 : Int) := of_decide_eq_true (by first | (with_reducible assumption) | assumption)
                    have q187 : x5_2 < (l0_0.length : Int) := of_decide_eq_true (by first | (with_reducible assumption) | assumption)
                    obtain ⟨ad187, e187, hx187_0⟩ := Kd.at_int HR0_0.out x5_2 p187 q187
                    have hw187_0 := hx187_0
                    cases e187
                    replace hx187_0 := (HB.out.cell (World.block_lt_of_cell? w _ hx187_0)).trans hx187_0
                    replace p187 := eq_true p187
                    replace q187 := eq_true q187
                    have p188 : 0 ≤ ((ji15) : Int) := of_decide_eq_true (by first | (with_reducible assumption) | assumption)
                    have q188 : (ji15) < (l0_0.length : Int) := of_decide_eq_true (by first | (with_reducible assumption) | assumption)
                    obtain ⟨ad188, e188, hx188_0⟩ := Kd.at_int HR0_0.out (ji15) p188 q188
                    have hw188_0 := hx188_0
                    obtain rfl : ad187 = ad188 := (by injection e188)
                    replace hx188_0 := (HB.out.cell (World.block_lt_of_cell? w _ hx188_0)).trans hx188_0
                    replace p188 := eq_true p188
                    replace q188 := eq_true q188
                    refine start_ (n := 13) (S := fun w' => w'.cell? ⟨gb183, 0, none⟩ = some (.slice (some ad187) l0_0.length c0_0) ∧ w'.cell? ⟨gb183, 1, none⟩ = some (.slice A0_1 l0_1.length c0_1) ∧ w'.cell? (ad187.add (x5_2).toNat) = some (.int .i64 (rd l0_0 x5_2)) ∧ w'.cell? (ad187.add ((ji15)).toNat) = some (.int .i64 (rd l0_0 (ji15)))) (ds := []) #[false, false, false, false, false, false, false, false, false, false, false, false, false] (by kernel_rfl) rfl rfl ⟨(blk_cell BK183.out 0).trans rfl, (blk_cell BK183.out 1).trans rfl, ((HB.out.cell (World.block_lt_of_cell? w _ hw187_0)).trans hw187_0), ((HB.out.cell (World.block_lt_of_cell? w _ hw188_0)).trans hw188_0)⟩ (fun hHeld => ?_); refine with_tabW windroseref11_Unpack.tab7 windroseref11_Unpack.bits7 (fun HT_ HW_ => ?_)
                    generalize wr.drew = w19 at HO_4 BK183 HB hx187_0 hx188_0 hHeld ⊢
                    refine pure_ (i := 0) (N := some 34) (v := ?_) (a' := ?_) #[true, false, false, false, false, false, false, false, false, false, false, false, false] rfl rfl (any_of HT_.out (by kernel_rfl)) (fun _ _ _ h => h) (Or.inl ⟨by rfl, ?_⟩) ?_ ?_
                    rotate_left
                    · intro w'
                      go_simp
                      with_reducible rfl
                    rotate_left
                    · simp only [Act.put, List.setIfInBounds_toArray, List.set_cons_zero, List.set_cons_succ, i64_w, i32_w]
                      rfl
                    refine pure_ (i := 2) (N := some 36) (v := ?_) (a' := ?_) #[true, false, true, false, false, false, false, false, false, false, false, false, false] rfl rfl (any_of HT_.out (by kernel_rfl)) (fun _ _ _ h => h) (Or.inl ⟨by rfl, ?_⟩) ?_ ?_
                    rotate_left
                    · intro w'
                      go_simp
                      with_reducible rfl
                    rotate_left
                    · simp only [Act.put, List.setIfInBounds_toArray, List.set_cons_zero, List.set_cons_succ, i64_w, i32_w]
                      rfl
                    refine pure_ (i := 5) (N := some 39) (v := ?_) (a' := ?_) #[true, false, true, false, false, true, false, false, false, false, false, false, false] rfl rfl (any_of HT_.out (by kernel_rfl)) (fun _ _ _ h => h) (Or.inl ⟨by rfl, ?_⟩) ?_ ?_
                    rotate_left
                    · intro w'
                      go_simp
                      with_reducible rfl
                    rotate_left
                    · simp only [Act.put, List.setIfInBounds_toArray, List.set_cons_zero, List.set_cons_succ, i64_w, i32_w]
                      rfl
                    refine pure_ (i := 7) (N := some 41) (v := ?_) (a' := ?_) #[true, false, true, false, false, true, false, true, false, false, false, false, false] rfl rfl (any_of HT_.out (by kernel_rfl)) (fun _ _ _ h => h) (Or.inl ⟨by rfl, ?_⟩) ?_ ?_
                    rotate_left
                    · intro w'
                      go_simp
                      with_reducible rfl
                    rotate_left
                    · simp only [Act.put, List.setIfInBounds_toArray, List.set_cons_zero, List.set_cons_succ, i64_w, i32_w]
                      rfl
                    refine pure_ (i := 8) (N := some 42) (v := ?_) (a' := ?_) #[true, false, true, false, false, true, false, true, true, false, false, false, false] rfl rfl (any_of HT_.out (by kernel_rfl)) (fun _ _ _ h => h) (Or.inl ⟨by rfl, ?_⟩) ?_ ?_
                    rotate_left
                    · intro w'
                      go_simp
                      with_reducible rfl
                    rotate_left
                    · simp only [Act.put, List.setIfInBounds_toArray, List.set_cons_zero, List.set_cons_succ, i64_w, i32_w]
                      rfl
                    refine take_ (i := 1) (N := some 35) (v := ?_) (a' := ?_) #[true, true, true, false, false, true, false, true, true, false, false, false, false] rfl rfl (take_ofW HT_.out HW_.out (by kernel_rfl)) (fun _ _ _ h => h) (Or.inl ⟨by rfl, ?_⟩) hHeld ?_ ?_
                    rotate_left
                    · rintro w' ⟨s0, s1, s2, s3⟩
                      go_simp
                      with_reducible rfl
                    rotate_left
                    · simp only [Act.put, List.setIfInBounds_toArray, List.set_cons_zero, List.set_cons_succ, i64_w, i32_w]
                      rfl
                    refine pure_ (i := 3) (N := some 37) (v := ?_) (a' := ?_) #[true, true, true, true, false, true, false, true, true, false, false, false, false] rfl rfl (any_of HT_.out (by kernel_rfl)) (fun _ _ _ h => h) (Or.inl ⟨by rfl, ?_⟩) ?_ ?_
                    rotate_left
                    · intro w'
                      go_simp
                      with_reducible rfl
                    rotate_left
                    · simp only [Act.put, List.setIfInBounds_toArray, List.set_cons_zero, List.set_cons_succ, i64_w, i32_w]
                      rfl
                    refine take_ (i := 4) (N := some 38) (v := ?_) (a' := ?_) #[true, true, true, true, true, true, false, true, true, false, false, false, false] rfl rfl (take_ofW HT_.out HW_.out (by kernel_rfl)) (fun _ _ _ h => h) (Or.inl ⟨by rfl, ?_⟩) hHeld ?_ ?_
                    rotate_left
                    · rintro w' ⟨s0, s1, s2, s3⟩
                      go_simp
                      with_reducible rfl
                    rotate_left
                    · simp only [Act.put, List.setIfInBounds_toArray, List.set_cons_zero, List.set_cons_succ, i64_w, i32_w]
                      rfl
                    refine pure_ (i := 11) (N := some 6) (v := ?_) (a' := ?_) #[true, true, true, true, true, true, false, true, true, false, false, true, false] rfl rfl (any_of HT_.out (by kernel_rfl)) (fun _ _ _ h => h) (Or.inl ⟨by rfl, ?_⟩) ?_ ?_
                    rotate_left
                    · intro w'
                      go_simp
                      with_reducible rfl
                    rotate_left
                    · simp only [Act.put, List.setIfInBounds_toArray, List.set_cons_zero, List.set_cons_succ, i64_w, i32_w]
                      rfl
                    refine take_ (i := 6) (N := some 40) (v := ?_) (a' := ?_) #[true, true, true, true, true, true, true, true, true, false, false, true, false] rfl rfl (take_ofW HT_.out HW_.out (by kernel_rfl)) (fun _ _ _ h => h) (Or.inl ⟨by rfl, ?_⟩) hHeld ?_ ?_
                    rotate_left
                    · rintro w' ⟨s0, s1, s2, s3⟩
                      go_simp
                      with_reducible rfl
                    rotate_left
                    · simp only [Act.put, List.setIfInBounds_toArray, List.set_cons_zero, List.set_cons_succ, i64_w, i32_w]
                      rfl
                    refine pure_ (i := 9) (N := some 43) (v := ?_) (a' := ?_) #[true, true, true, true, true, true, true, true, true, true, false, true, false] rfl rfl (any_of HT_.out (by kernel_rfl)) (fun _ _ _ h => h) (Or.inl ⟨by rfl, ?_⟩) ?_ ?_
                    rotate_left
                    · intro w'
                      go_simp
                      with_reducible rfl
                    rotate_left
                    · simp only [Act.put, List.setIfInBounds_toArray, List.set_cons_zero, List.set_cons_succ, i64_w, i32_w]
                      rfl
                    refine take_ (i := 10) (N := some 44) (v := ?_) (a' := ?_) #[true, true, true, true, true, true, true, true, true, true, true, true, false] rfl rfl (take_ofW HT_.out HW_.out (by kernel_rfl)) (fun _ _ _ h => h) (Or.inl ⟨by rfl, ?_⟩) hHeld ?_ ?_
                    rotate_left
                    · rintro w' ⟨s0, s1, s2, s3⟩
                      go_simp
                      with_reducible rfl
                    rotate_left
                    · simp only [Act.put, List.setIfInBounds_toArray, List.set_cons_zero, List.set_cons_succ, i64_w, i32_w]
                      rfl
                    refine pure_ (i := 12) (N := some 7) (v := ?_) (a' := ?_) #[true, true, true, true, true, true, true, true, true, true, true, true, true] rfl rfl (any_of HT_.out (by kernel_rfl)) (fun _ _ _ h => h) (Or.inl ⟨by rfl, ?_⟩) ?_ ?_
                    rotate_left
                    · intro w'
                      go_simp
                      with_reducible rfl
                    rotate_left
                    · simp only [Act.put, List.setIfInBounds_toArray, List.set_cons_zero, List.set_cons_succ, i64_w, i32_w]
                      rfl
                    refine done_ (done_of HT_.out (by kernel_rfl)) ?_
                    go_upto_region 8 with (fail)
                    go_cut [58] (fun v58 wc => ∃ (kq : Nat) (x58_16 : Bool), v58 = .bool x58_16 ∧ Aside0 (windroseref11_Unpack.j2 kq x4_2 x5_2 (rd l0_0 x5_2) (rd l0_0 (ji15)) x58_16 l0_0 l0_1 = some (r1, r2)) ∧ Aside0 (kq ≤ k2) ∧ Aside0 (Kd.R k42 42 wc w.heap.size (fun _ => True) u4 x4_2) ∧ Aside0 (wc.heap[gb183]? = some (.cells #[(.slice (some ad187) l0_0.length c0_0), (.slice A0_1 l0_1.length c0_1)] 29 (0, 0))) ∧ Aside0 (Below w.heap.size w wc))
                    case first =>
                      have H := HC17.out
                      clear HC17
                      by_cases c20 : (rd l0_0 x5_2) > 8796093022208
                      · rw [if_pos c20] at H
                        have c20b0 : decide (8796093022208 < (rd l0_0 x5_2)) = true := decide_eq_true c20
                        clear c20
                        (first | rw [c20b0] | (simp only [i64_w, i32_w]; rw [c20b0]) | skip)
                        have H' := Aside0.mk H
                        clear H
                        go_wp2
                        go_meet
                        case rel => exact ⟨_, (true), (by first | rfl | (simp; done) | (simp [*]; done)), H', ⟨by have := HJ1.out; have := HK2.out; first | omega | exact Nat.le_refl _⟩, ⟨by (with_reducible repeat (first | apply Kd.R_alloc | apply Kd.R_drewN | apply Kd.R_drew)); exact HO_4.out⟩, ⟨by (with_reducible repeat (first | refine blk_drewN ?_ _ | refine blk_drew ?_ | refine blk_alloc ?_ _)); exact BK183.out⟩, ⟨by repeat (first | (with_reducible first | exact HB.out | apply below_alloc | apply pw_below_drewN | apply below_drew1 | refine below_set ?_ GE183.out) | exact HB.out)⟩⟩
                      · rw [if_neg c20] at H
                        have c20b0 : decide (8796093022208 < (rd l0_0 x5_2)) = false := decide_eq_false c20
                        clear c20
                        (first | rw [c20b0] | (simp only [i64_w, i32_w]; rw [c20b0]) | skip)
                        by_cases c21 : (rd l0_0 x5_2) < (-8796093022208)
                        · rw [if_pos c21] at H
                          have c21b0 : decide ((rd l0_0 x5_2) < (-8796093022208)) = true := decide_eq_true c21
                          clear c21
                          have H' := Aside0.mk H
                          clear H
                          go_wp2
                          go_meet
                          case rel => exact ⟨_, (true), (by first | rfl | (simp; done) | (simp [*]; done)), H', ⟨by have := HJ1.out; have := HK2.out; first | omega | exact Nat.le_refl _⟩, ⟨by (with_reducible repeat (first | apply Kd.R_alloc | apply Kd.R_drewN | apply Kd.R_drew)); exact HO_4.out⟩, ⟨by (with_reducible repeat (first | refine blk_drewN ?_ _ | refine blk_drew ?_ | refine blk_alloc ?_ _)); exact BK183.out⟩, ⟨by repeat (first | (with_reducible first | exact HB.out | apply below_alloc | apply pw_below_drewN | apply below_drew1 | refine below_set ?_ GE183.out) | exact HB.out)⟩⟩
                        · rw [if_neg c21] at H
                          have c21b0 : decide ((rd l0_0 x5_2) < (-8796093022208)) = false := decide_eq_false c21
                          clear c21
                          by_cases c22 : (rd l0_0 (ji15)) > 8796093022208
                          · rw [if_pos c22] at H
                            have c22b0 : decide (8796093022208 < (rd l0_0 (ji15))) = true := decide_eq_true c22
                            clear c22
                            have H' := Aside0.mk H
                            clear H
                            go_wp2
                            go_meet
                            case rel => exact ⟨_, (true), (by first | rfl | (simp; done) | (simp [*]; done)), H', ⟨by have := HJ1.out; have := HK2.out; first | omega | exact Nat.le_refl _⟩, ⟨by (with_reducible repeat (first | apply Kd.R_alloc | apply Kd.R_drewN | apply Kd.R_drew)); exact HO_4.out⟩, ⟨by (with_reducible repeat (first | refine blk_drewN ?_ _ | refine blk_drew ?_ | refine blk_alloc ?_ _)); exact BK183.out⟩, ⟨by repeat (first | (with_reducible first | exact HB.out | apply below_alloc | apply pw_below_drewN | apply below_drew1 | refine below_set ?_ GE183.out) | exact HB.out)⟩⟩
                          · rw [if_neg c22] at H
                            have c22b0 : decide (8796093022208 < (rd l0_0 (ji15))) = false := decide_eq_false c22
                            clear c22
                            have H' := Aside0.mk H
                            clear H
                            go_wp2
                            go_meet
                            case rel => exact ⟨_, (decide ((rd l0_0 (ji15)) < (-8796093022208))), (by first | rfl | (simp; done) | (simp only [← hji15] <;> (first | rfl | simp)) | (simp [*]; done)), H', ⟨by have := HJ1.out; have := HK2.out; first | omega | exact Nat.le_refl _⟩, ⟨by (with_reducible repeat (first | apply Kd.R_alloc | apply Kd.R_drewN | apply Kd.R_drew)); exact HO_4.out⟩, ⟨by (with_reducible repeat (first | refine blk_drewN ?_ _ | refine blk_drew ?_ | refine blk_alloc ?_ _)); exact BK183.out⟩, ⟨by repeat (first | (with_reducible first | exact HB.out | apply below_alloc | apply pw_below_drewN | apply below_drew1 | refine below_set ?_ GE183.out) | exact HB.out)⟩⟩
                    case rest =>
                      clear HC17
                      try clear c1
                      try clear p1
                      try clear q1
                      try clear hx1
                      try clear c2
                      try clear p2
                      try clear c4
                      try clear c4b0
                      try clear c4b1
                      try clear c6
                      try clear c6b0
                      try clear c6b1
                      try clear p6
                      try clear c9
                      try clear c12
                      try clear c12b0
                      try clear c13
                      try clear c13b0
                      try clear c14
                      try clear c14b0
                      try clear c16
                      try clear c16b0
                      try clear p18
                      try clear q18
                      try clear hx18
                      try clear c19
                      try clear c20
                      try clear c20b0
                      try clear c21
                      try clear c21b0
                      try clear c22
                      try clear c22b0
                      try clear hcz18_0
                      try clear hcz18_1
                      try clear hcz5_0
                      try clear hcz5_1
                      try clear hcz7_0
                      try clear hcz7_1
                      try clear hcz8_0
                      try clear hcz8_1
                      try clear hfz18_0
                      try clear hfz18_1
                      try clear hfz5_0
                      try clear hfz5_1
                      try clear hfz7_0
                      try clear hfz7_1
                      try clear hfz8_0
                      try clear hfz8_1
                      try clear hx187_0
                      try clear hx188_0
                      try clear p187
                      try clear p188
                      try clear p2
                      try clear q187
                      try clear q188
                      obtain ⟨kq, x58_16, rfl, HA, HJ16, HO_4, BK183, HB⟩ := hcut
                      cases kq with
                      | zero => exact absurd HA.out (by simp [windroseref11_Unpack.j2])
                      | succ kj16 =>
                        have H := HA.out
                        clear HA
                        simp only [windroseref11_Unpack.j2] at H
                        by_cases c23 : x58_16 = true
                        · subst c23
                          have H1 : (some (([] : List (S42)), false)) = some (r1, r2) := by rw [if_pos rfl] at H; exact H
                          clear H
                          have H := H1
                          clear H1
                          simp only [Option.some.injEq, Prod.mk.injEq] at H
                          obtain ⟨rfl, rfl⟩ := H
                          go_wp2
                          go_ret2
                          exact ⟨_, by first | rfl | (simp [errW_none, errW_some] <;> rfl) | (simp only [← hji15]; first | rfl | (simp [errW_none, errW_some] <;> rfl)) | (simp [*, errW_none, errW_some] <;> rfl), by first | exact Kd.R_nil _ _ _ _ _ | exact Kd.N_nil _ _ _ _ _ | exact Kd.V_nil _ _ _ _ _ | exact Kd.Q_nil _ _ _ _ _ | exact Kd.S_nil _ _ _ _ _, by repeat (first | (with_reducible first | exact HB.out | apply below_alloc | apply pw_below_drewN | apply below_drew1 | refine below_set ?_ GE183.out) | exact HB.out)⟩
                        · replace c23 := Bool.eq_false_iff.mpr c23
                          subst c23
                          have H1 : (if (x4_2.length : Int) > 0 then (if 0 ≤ (wrap64 ((x4_2.length : Int) - 1)) then (if (wrap64 ((x4_2.length : Int) - 1)) < (x4_2.length : Int) then (windroseref11_Unpack.j3 kj16 x4_2 x5_2 (wrap64 ((rd l0_0 x5_2) + ((rd_T42 x4_2 (wrap64 ((x4_2.length : Int) - 1))).f0))) (wrap64 ((rd l0_0 (ji15)) + ((rd_T42 x4_2 (wrap64 ((x4_2.length : Int) - 1))).f1))) (x4_2.length : Int) l0_0 l0_1) else (none)) else (none)) else (windroseref11_Unpack.j3 kj16 x4_2 x5_2 (rd l0_0 x5_2) (rd l0_0 (ji15)) (x4_2.length : Int) l0_0 l0_1)) = some (r1, r2) := by rw [if_neg (show ¬ (false = true) by decide)] at H; exact H
                          clear H
                          have H := H1
                          clear H1
                          have HC24 := Aside0.mk H
                          clear H
                          obtain ⟨Ao25, co25, eo25⟩ := Kd.R_slice HO_4.out
                          subst eo25
                          go_upto_if 62 with (fail)
                          go_cut [6, 7] (fun v6 v7 wc => ∃ (kq : Nat) (x6_23 : Int) (x7_23 : Int), v6 = .int .i64 x6_23 ∧ v7 = .int .i64 x7_23 ∧ Aside0 (windroseref11_Unpack.j3 kq x4_2 x5_2 x6_23 x7_23 (x4_2.length : Int) l0_0 l0_1 = some (r1, r2)) ∧ Aside0 (kq ≤ kj16) ∧ Aside0 (Kd.R k42 42 wc w.heap.size (fun _ => True) (.slice Ao25 x4_2.length co25) x4_2) ∧ Aside0 (wc.heap[gb183]? = some (.cells #[(.slice (some ad187) l0_0.length c0_0), (.slice A0_1 l0_1.length c0_1)] 29 (0, 0))) ∧ Aside0 (Below w.heap.size w wc))
                          case first =>
                            have H := HC24.out
                            clear HC24
                            by_cases c26 : (x4_2.length : Int) > 0
                            · rw [if_pos c26] at H
                              have c26b0 : decide (0 < (x4_2.length : Int)) = true := decide_eq_true c26
                              have c26b1 : decide (0 < x4_2.length) = true := decide_eq_true (by omega)
                              have c26b1_ := eq_true (of_decide_eq_true c26b1)
                              clear c26
                              (first | rw [c26b0] | (simp only [i64_w, i32_w]; rw [c26b0]) | skip)
                              obtain ⟨ji27, hji27⟩ : ∃ j_ : Int, (wrap64 ((x4_2.length : Int) - 1)) = j_ := ⟨_, rfl⟩
                              replace H : (if 0 ≤ (ji27) then (if (ji27) < (x4_2.length : Int) then (windroseref11_Unpack.j3 kj16 x4_2 x5_2 (wrap64 ((rd l0_0 x5_2) + ((rd_T42 x4_2 (ji27)).f0))) (wrap64 ((rd l0_0 (ji15)) + ((rd_T42 x4_2 (ji27)).f1))) (x4_2.length : Int) l0_0 l0_1) else (none)) else (none)) = some (r1, r2) := by first | (rw [hji27] at H; exact H) | (simp only [hji27] at H ⊢; exact H)
                              have hji27w : (IntKind.i64.wrap ((x4_2.length : Int) - 1)) = ji27 := (i64_w _).trans hji27
                              by_cases c28 : 0 ≤ (ji27)
                              · rw [if_pos c28] at H
                                have c28b0 : decide (0 ≤ (ji27)) = true := decide_eq_true c28
                                clear c28
                                by_cases c29 : (ji27) < (x4_2.length : Int)
                                · rw [if_pos c29] at H
                                  have c29b0 : decide ((ji27) < (x4_2.length : Int)) = true := decide_eq_true c29
                                  clear c29
                                  have H' := Aside0.mk H
                                  clear H
                                  have p189 : 0 ≤ ((ji27) : Int) := of_decide_eq_true (by first | (with_reducible assumption) | assumption)
                                  have q189 : (ji27) < (x4_2.length : Int) := of_decide_eq_true (by first | (with_reducible assumption) | assumption)
                                  obtain ⟨ad189, e189, hx189_0, hx189_1⟩ := at_T42 (Kd.R_reads' HO_4.out).2.2 (ji27) p189 q189
                                  cases e189
                                  replace p189 := eq_true p189
                                  replace q189 := eq_true q189
                                  have p190 : 0 ≤ ((ji27) : Int) := of_decide_eq_true (by first | (with_reducible assumption) | assumption)
                                  have q190 : (ji27) < (x4_2.length : Int) := of_decide_eq_true (by first | (with_reducible assumption) | assumption)
                                  obtain ⟨ad190, e190, hx190_0, hx190_1⟩ := at_T42 (Kd.R_reads' HO_4.out).2.2 (ji27) p190 q190
                                  obtain rfl : ad189 = ad190 := (by injection e190)
                                  replace p190 := eq_true p190
                                  replace q190 := eq_true q190
                                  go_wp2
                                  all_goals (try exact absurd (of_eq_true c26b1_) (by assumption))
                                  go_meet
                                  case rel => exact ⟨_, (wrap64 ((rd l0_0 x5_2) + ((rd_T42 x4_2 (ji27)).f0))), (wrap64 ((rd l0_0 (ji15)) + ((rd_T42 x4_2 (ji27)).f1))), (by first | rfl | (simp; done) | (simp only [← hji27] <;> (first | rfl | simp)) | (simp [*]; done)), (by first | rfl | (simp; done) | (simp only [← hji15, ← hji27] <;> (first | rfl | simp)) | (simp [*]; done)), H', ⟨by have := HJ1.out; have := HK2.out; have := HJ16.out; first | omega | exact Nat.le_refl _⟩, ⟨by (with_reducible repeat (first | apply Kd.R_alloc | apply Kd.R_drewN | apply Kd.R_drew)); exact HO_4.out⟩, ⟨by (with_reducible repeat (first | refine blk_drewN ?_ _ | refine blk_drew ?_ | refine blk_alloc ?_ _)); exact BK183.out⟩, ⟨by repeat (first | (with_reducible first | exact HB.out | apply below_alloc | apply pw_below_drewN | apply below_drew1 | refine below_set ?_ GE183.out) | exact HB.out)⟩⟩
                                · rw [if_neg c29] at H
                                  exact absurd H (by simp)
                              · rw [if_neg c28] at H
                                exact absurd H (by simp)
                            · rw [if_neg c26] at H
                              have c26b0 : decide (0 < (x4_2.length : Int)) = false := decide_eq_false c26
                              have c26b1 : decide (0 < x4_2.length) = false := decide_eq_false (by omega)
                              have c26b1_ := eq_false (of_decide_eq_false c26b1)
                              clear c26
                              (first | rw [c26b0] | (simp only [i64_w, i32_w]; rw [c26b0]) | skip)
                              have H' := Aside0.mk H
                              clear H
                              go_wp2
                              all_goals (try exact absurd (by assumption) (of_eq_false c26b1_))
                              go_meet
                              case rel => exact ⟨_, ((rd l0_0 x5_2)), ((rd l0_0 (ji15))), (by first | rfl | (simp; done) | (simp [*]; done)), (by first | rfl | (simp; done) | (simp only [← hji15] <;> (first | rfl | simp)) | (simp [*]; done)), H', ⟨by have := HJ1.out; have := HK2.out; have := HJ16.out; first | omega | exact Nat.le_refl _⟩, ⟨by (with_reducible repeat (first | apply Kd.R_alloc | apply Kd.R_drewN | apply Kd.R_drew)); exact HO_4.out⟩, ⟨by (with_reducible repeat (first | refine blk_drewN ?_ _ | refine blk_drew ?_ | refine blk_alloc ?_ _)); exact BK183.out⟩, ⟨by repeat (first | (with_reducible first | exact HB.out | apply below_alloc | apply pw_below_drewN | apply below_drew1 | refine below_set ?_ GE183.out) | exact HB.out)⟩⟩
                          case rest =>
                            clear HC24
                            try clear c1
                            try clear p1
                            try clear q1
                            try clear hx1
                            try clear c2
                            try clear p2
                            try clear c4
                            try clear c4b0
                            try clear c4b1
                            try clear c6
                            try clear c6b0
                            try clear c6b1
                            try clear p6
                            try clear c9
                            try clear c12
                            try clear c12b0
                            try clear c13
                            try clear c13b0
                            try clear c14
                            try clear c14b0
                            try clear c16
                            try clear c16b0
                            try clear p18
                            try clear q18
                            try clear hx18
                            try clear c19
                            try clear p19
                            try clear q19
                            try clear hx19
                            try clear c20
                            try clear c20b0
                            try clear c21
                            try clear c21b0
                            try clear c22
                            try clear c22b0
                            try clear c23
                            try clear c26
                            try clear c26b0
                            try clear c26b1
                            try clear c28
                            try clear c28b0
                            try clear c29
                            try clear c29b0
                            try clear hcz18_0
                            try clear hcz18_1
                            try clear hcz5_0
                            try clear hcz5_1
                            try clear hcz7_0
                            try clear hcz7_1
                            try clear hcz8_0
                            try clear hcz8_1
                            try clear hfz18_0
                            try clear hfz18_1
                            try clear hfz5_0
                            try clear hfz5_1
                            try clear hfz7_0
                            try clear hfz7_1
                            try clear hfz8_0
                            try clear hfz8_1
                            try clear hx187_0
                            try clear hx188_0
                            try clear hx189_0
                            try clear hx189_1
                            try clear hx190_0
                            try clear hx190_1
                            try clear p1
                            try clear p18
                            try clear p187
                            try clear p188
                            try clear p189
                            try clear p190
                            try clear p2
                            try clear p6
                            try clear q1
                            try clear q18
                            try clear q187
                            try clear q188
                            try clear q189
                            try clear q190
                            obtain ⟨kq, x6_23, x7_23, rfl, rfl, HA, HJ23, HO_4, BK183, HB⟩ := hcut
                            cases kq with
                            | zero => exact absurd HA.out (by simp [windroseref11_Unpack.j3])
                            | succ kj23 =>
                              have H := HA.out
                              clear HA
                              simp only [windroseref11_Unpack.j3] at H
                              by_cases c30 : (x4_2.length : Int) > 1
                              · rw [if_pos c30] at H
                                have c30b0 : decide (1 < (x4_2.length : Int)) = true := decide_eq_true c30
                                have c30b1 : decide (1 < x4_2.length) = true := decide_eq_true (by omega)
                                have c30b1_ := eq_true (of_decide_eq_true c30b1)
                                clear c30
                                obtain ⟨ji31, hji31⟩ : ∃ j_ : Int, (wrap64 ((x4_2.length : Int) - 1)) = j_ := ⟨_, rfl⟩
                                replace H : (if 0 ≤ (ji31) then (if (ji31) < (x4_2.length : Int) then (if 0 ≤ (wrap64 ((x4_2.length : Int) - 2)) then (if (wrap64 ((x4_2.length : Int) - 2)) < (x4_2.length : Int) then (if x4_2.length < 8796093022208 then ((some (x4_2 ++ [(⟨wrap64 ((wrap64 (x6_23 + ((rd_T42 x4_2 (ji31)).f0))) - ((rd_T42 x4_2 (wrap64 ((x4_2.length : Int) - 2))).f0)), wrap64 ((wrap64 (x7_23 + ((rd_T42 x4_2 (ji31)).f1))) - ((rd_T42 x4_2 (wrap64 ((x4_2.length : Int) - 2))).f1))⟩ : S42)] : List (S42))).bind fun y195 => ((windroseref11_May.f kj23 y195).bind fun t198 => (if t198 = true then (windroseref11_Unpack.l0 kj23 y195 (wrap64 (x5_2 + 2)) l0_0 l0_1) else (some (([] : List (S42)), false))))) else (none)) else (none)) else (none)) else (none)) else (none)) = some (r1, r2) := by first | (rw [hji31] at H; exact H) | (simp only [hji31] at H ⊢; exact H)
                                have hji31w : (IntKind.i64.wrap ((x4_2.length : Int) - 1)) = ji31 := (i64_w _).trans hji31
                                by_cases c32 : 0 ≤ (ji31)
                                · rw [if_pos c32] at H
                                  have c32b0 : decide (0 ≤ (ji31)) = true := decide_eq_true c32
                                  clear c32
                                  by_cases c33 : (ji31) < (x4_2.length : Int)
                                  · rw [if_pos c33] at H
                                    have c33b0 : decide ((ji31) < (x4_2.length : Int)) = true := decide_eq_true c33
                                    clear c33
                                    obtain ⟨ji34, hji34⟩ : ∃ j_ : Int, (wrap64 ((x4_2.length : Int) - 2)) = j_ := ⟨_, rfl⟩
                                    replace H : (if 0 ≤ (ji34) then (if (ji34) < (x4_2.length : Int) then (if x4_2.length < 8796093022208 then ((some (x4_2 ++ [(⟨wrap64 ((wrap64 (x6_23 + ((rd_T42 x4_2 (ji31)).f0))) - ((rd_T42 x4_2 (ji34)).f0)), wrap64 ((wrap64 (x7_23 + ((rd_T42 x4_2 (ji31)).f1))) - ((rd_T42 x4_2 (ji34)).f1))⟩ : S42)] : List (S42))).bind fun y195 => ((windroseref11_May.f kj23 y195).bind fun t198 => (if t198 = true then (windroseref11_Unpack.l0 kj23 y195 (wrap64 (x5_2 + 2)) l0_0 l0_1) else (some (([] : List (S42)), false))))) else (none)) else (none)) else (none)) = some (r1, r2) := by first | (rw [hji34] at H; exact H) | (simp only [hji34] at H ⊢; exact H)
                                    have hji34w : (IntKind.i64.wrap ((x4_2.length : Int) - 2)) = ji34 := (i64_w _).trans hji34
                                    by_cases c35 : 0 ≤ (ji34)
                                    · rw [if_pos c35] at H
                                      have c35b0 : decide (0 ≤ (ji34)) = true := decide_eq_true c35
                                      clear c35
                                      by_cases c36 : (ji34) < (x4_2.length : Int)
                                      · rw [if_pos c36] at H
                                        have c36b0 : decide ((ji34) < (x4_2.length : Int)) = true := decide_eq_true c36
                                        clear c36
                                        by_cases c37 : x4_2.length < 8796093022208
                                        · rw [if_pos c37] at H
                                          have LMc37 := Aside0.mk c37
                                          clear c37
                                          obtain ⟨y195, hy195⟩ : ∃ y_ : List (S42), y_ = (x4_2 ++ [(⟨wrap64 ((wrap64 (x6_23 + ((rd_T42 x4_2 (ji31)).f0))) - ((rd_T42 x4_2 (ji34)).f0)), wrap64 ((wrap64 (x7_23 + ((rd_T42 x4_2 (ji31)).f1))) - ((rd_T42 x4_2 (ji34)).f1))⟩ : S42)]) := ⟨_, rfl⟩
                                          replace H : ((windroseref11_May.f kj23 y195).bind fun t198 => (if t198 = true then (windroseref11_Unpack.l0 kj23 y195 (wrap64 (x5_2 + 2)) l0_0 l0_1) else (some (([] : List (S42)), false)))) = some (r1, r2) := by first | (rw [hy195]; with_reducible exact H) | (have H2_ := (Option.bind_some _ _).symm.trans H; rw [hy195]; with_reducible exact H2_) | (have H2_ := (Option.bind_some _ _).symm.trans H; with_reducible exact H2_) | with_reducible exact H | (rw [hy195]; exact H) | exact H
                                          have Ny195 := Aside0.mk hy195
                                          clear hy195
                                          replace H := Option.bind_eq_some_iff.mp H
                                          obtain ⟨t198, A380, H⟩ := H
                                          replace H : (if t198 = true then (windroseref11_Unpack.l0 kj23 y195 (wrap64 (x5_2 + 2)) l0_0 l0_1) else (some (([] : List (S42)), false))) = some (r1, r2) := H
                                          have A38 := Aside0.mk A380
                                          clear A380
                                          by_cases c39 : t198 = true
                                          · subst c39
                                            have H1 : (windroseref11_Unpack.l0 kj23 y195 (wrap64 (x5_2 + 2)) l0_0 l0_1) = some (r1, r2) := by rw [if_pos rfl] at H; exact H
                                            clear H
                                            have H := H1
                                            clear H1
                                            have H' := Aside0.mk H
                                            clear H
                                            try go_wp2
                                            have n0_ := Aside0.mk (Kd.R_drew HO_4.out)
                                            have n1_ := Aside0.mk (blk_drew BK183.out)
                                            have n2_ := Aside0.mk (below_drew1 HB.out)
                                            clear HO_4
                                            clear BK183
                                            clear HB
                                            have HO_4 := n0_
                                            have BK183 := n1_
                                            have HB := n2_
                                            clear n0_ n1_ n2_
                                            have p191 : 0 ≤ ((ji31) : Int) := of_decide_eq_true (by first | (with_reducible assumption) | assumption)
                                            have q191 : (ji31) < (x4_2.length : Int) := of_decide_eq_true (by first | (with_reducible assumption) | assumption)
                                            obtain ⟨ad191, e191, hx191_0, hx191_1⟩ := at_T42 (Kd.R_reads' HO_4.out).2.2 (ji31) p191 q191
                                            cases e191
                                            replace p191 := eq_true p191
                                            replace q191 := eq_true q191
                                            have p192 : 0 ≤ ((ji34) : Int) := of_decide_eq_true (by first | (with_reducible assumption) | assumption)
                                            have q192 : (ji34) < (x4_2.length : Int) := of_decide_eq_true (by first | (with_reducible assumption) | assumption)
                                            obtain ⟨ad192, e192, hx192_0, hx192_1⟩ := at_T42 (Kd.R_reads' HO_4.out).2.2 (ji34) p192 q192
                                            obtain rfl : ad191 = ad192 := (by injection e192)
                                            replace p192 := eq_true p192
                                            replace q192 := eq_true q192
                                            refine start_ (n := 16) (S := fun w' => w'.cell? (ad191.add (((ji31)).toNat * 2)) = some (.int .i64 ((rd_T42 x4_2 (ji31)).f0)) ∧ w'.cell? ⟨(ad191.add (((ji31)).toNat * 2)).block, (ad191.add (((ji31)).toNat * 2)).off + 1, none⟩ = some (.int .i64 ((rd_T42 x4_2 (ji31)).f1)) ∧ w'.cell? (ad191.add (((ji34)).toNat * 2)) = some (.int .i64 ((rd_T42 x4_2 (ji34)).f0)) ∧ w'.cell? ⟨(ad191.add (((ji34)).toNat * 2)).block, (ad191.add (((ji34)).toNat * 2)).off + 1, none⟩ = some (.int .i64 ((rd_T42 x4_2 (ji34)).f1))) (ds := []) #[false, false, false, false, false, false, false, false, false, false, false, false, false, false, false, false] (by kernel_rfl) rfl rfl ⟨hx191_0, hx191_1, hx192_0, hx192_1⟩ (fun hHeld => ?_); refine with_tabW windroseref11_Unpack.tab15 windroseref11_Unpack.bits15 (fun HT_ HW_ => ?_)
                                            generalize wc.drew = w40 at HO_4 BK183 HB hx191_0 hx191_1 hx192_0 hx192_1 hHeld ⊢
                                            refine pure_ (i := 0) (N := some 81) (v := ?_) (a' := ?_) #[true, false, false, false, false, false, false, false, false, false, false, false, false, false, false, false] rfl rfl (any_of HT_.out (by kernel_rfl)) (fun _ _ _ h => h) (Or.inl ⟨by rfl, ?_⟩) ?_ ?_
                                            rotate_left
                                            · intro w'
                                              go_simp
                                              with_reducible rfl
                                            rotate_left
                                            · simp only [Act.put, List.setIfInBounds_toArray, List.set_cons_zero, List.set_cons_succ, i64_w, i32_w]
                                              rfl
                                            refine pure_ (i := 1) (N := some 82) (v := ?_) (a' := ?_) #[true, true, false, false, false, false, false, false, false, false, false, false, false, false, false, false] rfl rfl (any_of HT_.out (by kernel_rfl)) (fun _ _ _ h => h) (Or.inl ⟨by rfl, ?_⟩) ?_ ?_
                                            rotate_left
                                            · intro w'
                                              go_simp
                                              with_reducible rfl
                                            rotate_left
                                            · simp only [Act.put, List.setIfInBounds_toArray, List.set_cons_zero, List.set_cons_succ, i64_w, i32_w]
                                              rfl
                                            refine pure_ (i := 2) (N := some 83) (v := ?_) (a' := ?_) #[true, true, true, false, false, false, false, false, false, false, false, false, false, false, false, false] rfl rfl (any_of HT_.out (by kernel_rfl)) (fun _ _ _ h => h) (Or.inl ⟨by rfl, ?_⟩) ?_ ?_
                                            rotate_left
                                            · intro w'
                                              go_simp
                                              with_reducible rfl
                                            rotate_left
                                            · simp only [Act.put, List.setIfInBounds_toArray, List.set_cons_zero, List.set_cons_succ, i64_w, i32_w]
                                              rfl
                                            refine pure_ (i := 3) (N := some 84) (v := ?_) (a' := ?_) #[true, true, true, true, false, false, false, false, false, false, false, false, false, false, false, false] rfl rfl (any_of HT_.out (by kernel_rfl)) (fun _ _ _ h => h) (Or.inl ⟨by rfl, ?_⟩) ?_ ?_
                                            rotate_left
                                            · intro w'
                                              go_simp
                                              with_reducible rfl
                                            rotate_left
                                            · simp only [Act.put, List.setIfInBounds_toArray, List.set_cons_zero, List.set_cons_succ, i64_w, i32_w]
                                              rfl
                                            refine pure_ (i := 4) (N := some 85) (v := ?_) (a' := ?_) #[true, true, true, true, true, false, false, false, false, false, false, false, false, false, false, false] rfl rfl (any_of HT_.out (by kernel_rfl)) (fun _ _ _ h => h) (Or.inl ⟨by rfl, ?_⟩) ?_ ?_
                                            rotate_left
                                            · intro w'
                                              go_simp
                                              with_reducible rfl
                                            rotate_left
                                            · simp only [Act.put, List.setIfInBounds_toArray, List.set_cons_zero, List.set_cons_succ, i64_w, i32_w]
                                              rfl
                                            refine pure_ (i := 5) (N := some 86) (v := ?_) (a' := ?_) #[true, true, true, true, true, true, false, false, false, false, false, false, false, false, false, false] rfl rfl (any_of HT_.out (by kernel_rfl)) (fun _ _ _ h => h) (Or.inl ⟨by rfl, ?_⟩) ?_ ?_
                                            rotate_left
                                            · intro w'
                                              go_simp
                                              with_reducible rfl
                                            rotate_left
                                            · simp only [Act.put, List.setIfInBounds_toArray, List.set_cons_zero, List.set_cons_succ, i64_w, i32_w]
                                              rfl
                                            refine pure_ (i := 8) (N := some 89) (v := ?_) (a' := ?_) #[true, true, true, true, true, true, false, false, true, false, false, false, false, false, false, false] rfl rfl (any_of HT_.out (by kernel_rfl)) (fun _ _ _ h => h) (Or.inl ⟨by rfl, ?_⟩) ?_ ?_
                                            rotate_left
                                            · intro w'
                                              go_simp
                                              with_reducible rfl
                                            rotate_left
                                            · simp only [Act.put, List.setIfInBounds_toArray, List.set_cons_zero, List.set_cons_succ, i64_w, i32_w]
                                              rfl
                                            refine pure_ (i := 9) (N := some 90) (v := ?_) (a' := ?_) #[true, true, true, true, true, true, false, false, true, true, false, false, false, false, false, false] rfl rfl (any_of HT_.out (by kernel_rfl)) (fun _ _ _ h => h) (Or.inl ⟨by rfl, ?_⟩) ?_ ?_
                                            rotate_left
                                            · intro w'
                                              go_simp
                                              with_reducible rfl
                                            rotate_left
                                            · simp only [Act.put, List.setIfInBounds_toArray, List.set_cons_zero, List.set_cons_succ, i64_w, i32_w]
                                              rfl
                                            refine pure_ (i := 10) (N := some 91) (v := ?_) (a' := ?_) #[true, true, true, true, true, true, false, false, true, true, true, false, false, false, false, false] rfl rfl (any_of HT_.out (by kernel_rfl)) (fun _ _ _ h => h) (Or.inl ⟨by rfl, ?_⟩) ?_ ?_
                                            rotate_left
                                            · intro w'
                                              go_simp
                                              with_reducible rfl
                                            rotate_left
                                            · simp only [Act.put, List.setIfInBounds_toArray, List.set_cons_zero, List.set_cons_succ, i64_w, i32_w]
                                              rfl
                                            refine pure_ (i := 11) (N := some 92) (v := ?_) (a' := ?_) #[true, true, true, true, true, true, false, false, true, true, true, true, false, false, false, false] rfl rfl (any_of HT_.out (by kernel_rfl)) (fun _ _ _ h => h) (Or.inl ⟨by rfl, ?_⟩) ?_ ?_
                                            rotate_left
                                            · intro w'
                                              go_simp
                                              with_reducible rfl
                                            rotate_left
                                            · simp only [Act.put, List.setIfInBounds_toArray, List.set_cons_zero, List.set_cons_succ, i64_w, i32_w]
                                              rfl
                                            refine pure_ (i := 12) (N := some 93) (v := ?_) (a' := ?_) #[true, true, true, true, true, true, false, false, true, true, true, true, true, false, false, false] rfl rfl (any_of HT_.out (by kernel_rfl)) (fun _ _ _ h => h) (Or.inl ⟨by rfl, ?_⟩) ?_ ?_
                                            rotate_left
                                            · intro w'
                                              go_simp
                                              with_reducible rfl
                                            rotate_left
                                            · simp only [Act.put, List.setIfInBounds_toArray, List.set_cons_zero, List.set_cons_succ, i64_w, i32_w]
                                              rfl
                                            refine take_ (i := 6) (N := some 87) (v := ?_) (a' := ?_) #[true, true, true, true, true, true, true, false, true, true, true, true, true, false, false, false] rfl rfl (take_ofW HT_.out HW_.out (by kernel_rfl)) (fun _ _ _ h => h) (Or.inl ⟨by rfl, ?_⟩) hHeld ?_ ?_
                                            rotate_left
                                            · rintro w' ⟨s0, s1, s2, s3⟩
                                              go_simp
                                              with_reducible rfl
                                            rotate_left
                                            · simp only [Act.put, List.setIfInBounds_toArray, List.set_cons_zero, List.set_cons_succ, i64_w, i32_w]
                                              rfl
                                            refine pure_ (i := 7) (N := some 88) (v := ?_) (a' := ?_) #[true, true, true, true, true, true, true, true, true, true, true, true, true, false, false, false] rfl rfl (any_of HT_.out (by kernel_rfl)) (fun _ _ _ h => h) (Or.inl ⟨by rfl, ?_⟩) ?_ ?_
                                            rotate_left
                                            · intro w'
                                              go_simp
                                              with_reducible rfl
                                            rotate_left
                                            · simp only [Act.put, List.setIfInBounds_toArray, List.set_cons_zero, List.set_cons_succ, i64_w, i32_w]
                                              rfl
                                            refine take_ (i := 13) (N := some 94) (v := ?_) (a' := ?_) #[true, true, true, true, true, true, true, true, true, true, true, true, true, true, false, false] rfl rfl (take_ofW HT_.out HW_.out (by kernel_rfl)) (fun _ _ _ h => h) (Or.inl ⟨by rfl, ?_⟩) hHeld ?_ ?_
                                            rotate_left
                                            · rintro w' ⟨s0, s1, s2, s3⟩
                                              go_simp
                                              with_reducible rfl
                                            rotate_left
                                            · simp only [Act.put, List.setIfInBounds_toArray, List.set_cons_zero, List.set_cons_succ, i64_w, i32_w]
                                              rfl
                                            refine pure_ (i := 14) (N := some 95) (v := ?_) (a' := ?_) #[true, true, true, true, true, true, true, true, true, true, true, true, true, true, true, false] rfl rfl (any_of HT_.out (by kernel_rfl)) (fun _ _ _ h => h) (Or.inl ⟨by rfl, ?_⟩) ?_ ?_
                                            rotate_left
                                            · intro w'
                                              go_simp
                                              with_reducible rfl
                                            rotate_left
                                            · simp only [Act.put, List.setIfInBounds_toArray, List.set_cons_zero, List.set_cons_succ, i64_w, i32_w]
                                              rfl
                                            refine pure_ (i := 15) (N := some 6) (v := ?_) (a' := ?_) #[true, true, true, true, true, true, true, true, true, true, true, true, true, true, true, true] rfl rfl (any_of HT_.out (by kernel_rfl)) (fun _ _ _ h => h) (Or.inl ⟨by rfl, ?_⟩) ?_ ?_
                                            rotate_left
                                            · intro w'
                                              go_simp
                                              with_reducible rfl
                                            rotate_left
                                            · simp only [Act.put, List.setIfInBounds_toArray, List.set_cons_zero, List.set_cons_succ, i64_w, i32_w]
                                              rfl
                                            refine done_ (done_of HT_.out (by kernel_rfl)) ?_
                                            try go_wp2
                                            have n0_ := Aside0.mk (Kd.R_drew HO_4.out)
                                            have n1_ := Aside0.mk (blk_drew BK183.out)
                                            have n2_ := Aside0.mk (below_drew1 HB.out)
                                            clear HO_4
                                            clear BK183
                                            clear HB
                                            have HO_4 := n0_
                                            have BK183 := n1_
                                            have HB := n2_
                                            clear n0_ n1_ n2_
                                            have p193 : 0 ≤ ((ji31) : Int) := of_decide_eq_true (by first | (with_reducible assumption) | assumption)
                                            have q193 : (ji31) < (x4_2.length : Int) := of_decide_eq_true (by first | (with_reducible assumption) | assumption)
                                            obtain ⟨ad193, e193, hx193_0, hx193_1⟩ := at_T42 (Kd.R_reads' HO_4.out).2.2 (ji31) p193 q193
                                            obtain rfl : ad191 = ad193 := (by injection e193)
                                            replace p193 := eq_true p193
                                            replace q193 := eq_true q193
                                            have p194 : 0 ≤ ((ji34) : Int) := of_decide_eq_true (by first | (with_reducible assumption) | assumption)
                                            have q194 : (ji34) < (x4_2.length : Int) := of_decide_eq_true (by first | (with_reducible assumption) | assumption)
                                            obtain ⟨ad194, e194, hx194_0, hx194_1⟩ := at_T42 (Kd.R_reads' HO_4.out).2.2 (ji34) p194 q194
                                            obtain rfl : ad191 = ad194 := (by injection e194)
                                            replace p194 := eq_true p194
                                            replace q194 := eq_true q194
                                            refine start_ (n := 16) (S := fun w' => w'.cell? (ad191.add (((ji31)).toNat * 2)) = some (.int .i64 ((rd_T42 x4_2 (ji31)).f0)) ∧ w'.cell? ⟨(ad191.add (((ji31)).toNat * 2)).block, (ad191.add (((ji31)).toNat * 2)).off + 1, none⟩ = some (.int .i64 ((rd_T42 x4_2 (ji31)).f1)) ∧ w'.cell? (ad191.add (((ji34)).toNat * 2)) = some (.int .i64 ((rd_T42 x4_2 (ji34)).f0)) ∧ w'.cell? ⟨(ad191.add (((ji34)).toNat * 2)).block, (ad191.add (((ji34)).toNat * 2)).off + 1, none⟩ = some (.int .i64 ((rd_T42 x4_2 (ji34)).f1))) (ds := []) #[false, false, false, false, false, false, false, false, false, false, false, false, false, false, false, false] (by kernel_rfl) rfl rfl ⟨hx193_0, hx193_1, hx194_0, hx194_1⟩ (fun hHeld => ?_); refine with_tabW windroseref11_Unpack.tab16 windroseref11_Unpack.bits16 (fun HT_ HW_ => ?_)
                                            generalize w40.drew = w41 at HO_4 BK183 HB hx193_0 hx193_1 hx194_0 hx194_1 hHeld ⊢
                                            refine pure_ (i := 0) (N := some 96) (v := ?_) (a' := ?_) #[true, false, false, false, false, false, false, false, false, false, false, false, false, false, false, false] rfl rfl (any_of HT_.out (by kernel_rfl)) (fun _ _ _ h => h) (Or.inl ⟨by rfl, ?_⟩) ?_ ?_
                                            rotate_left
                                            · intro w'
                                              go_simp
                                              with_reducible rfl
                                            rotate_left
                                            · simp only [Act.put, List.setIfInBounds_toArray, List.set_cons_zero, List.set_cons_succ, i64_w, i32_w]
                                              rfl
                                            refine pure_ (i := 1) (N := some 97) (v := ?_) (a' := ?_) #[true, true, false, false, false, false, false, false, false, false, false, false, false, false, false, false] rfl rfl (any_of HT_.out (by kernel_rfl)) (fun _ _ _ h => h) (Or.inl ⟨by rfl, ?_⟩) ?_ ?_
                                            rotate_left
                                            · intro w'
                                              go_simp
                                              with_reducible rfl
                                            rotate_left
                                            · simp only [Act.put, List.setIfInBounds_toArray, List.set_cons_zero, List.set_cons_succ, i64_w, i32_w]
                                              rfl
                                            refine pure_ (i := 2) (N := some 98) (v := ?_) (a' := ?_) #[true, true, true, false, false, false, false, false, false, false, false, false, false, false, false, false] rfl rfl (any_of HT_.out (by kernel_rfl)) (fun _ _ _ h => h) (Or.inl ⟨by rfl, ?_⟩) ?_ ?_
                                            rotate_left
                                            · intro w'
                                              go_simp
                                              with_reducible rfl
                                            rotate_left
                                            · simp only [Act.put, List.setIfInBounds_toArray, List.set_cons_zero, List.set_cons_succ, i64_w, i32_w]
                                              rfl
                                            refine pure_ (i := 3) (N := some 99) (v := ?_) (a' := ?_) #[true, true, true, true, false, false, false, false, false, false, false, false, false, false, false, false] rfl rfl (any_of HT_.out (by kernel_rfl)) (fun _ _ _ h => h) (Or.inl ⟨by rfl, ?_⟩) ?_ ?_
                                            rotate_left
                                            · intro w'
                                              go_simp
                                              with_reducible rfl
                                            rotate_left
                                            · simp only [Act.put, List.setIfInBounds_toArray, List.set_cons_zero, List.set_cons_succ, i64_w, i32_w]
                                              rfl
                                            refine pure_ (i := 4) (N := some 100) (v := ?_) (a' := ?_) #[true, true, true, true, true, false, false, false, false, false, false, false, false, false, false, false] rfl rfl (any_of HT_.out (by kernel_rfl)) (fun _ _ _ h => h) (Or.inl ⟨by rfl, ?_⟩) ?_ ?_
                                            rotate_left
                                            · intro w'
                                              go_simp
                                              with_reducible rfl
                                            rotate_left
                                            · simp only [Act.put, List.setIfInBounds_toArray, List.set_cons_zero, List.set_cons_succ, i64_w, i32_w]
                                              rfl
                                            refine pure_ (i := 5) (N := some 101) (v := ?_) (a' := ?_) #[true, true, true, true, true, true, false, false, false, false, false, false, false, false, false, false] rfl rfl (any_of HT_.out (by kernel_rfl)) (fun _ _ _ h => h) (Or.inl ⟨by rfl, ?_⟩) ?_ ?_
                                            rotate_left
                                            · intro w'
                                              go_simp
                                              with_reducible rfl
                                            rotate_left
                                            · simp only [Act.put, List.setIfInBounds_toArray, List.set_cons_zero, List.set_cons_succ, i64_w, i32_w]
                                              rfl
                                            refine pure_ (i := 8) (N := some 104) (v := ?_) (a' := ?_) #[true, true, true, true, true, true, false, false, true, false, false, false, false, false, false, false] rfl rfl (any_of HT_.out (by kernel_rfl)) (fun _ _ _ h => h) (Or.inl ⟨by rfl, ?_⟩) ?_ ?_
                                            rotate_left
                                            · intro w'
                                              go_simp
                                              with_reducible rfl
                                            rotate_left
                                            · simp only [Act.put, List.setIfInBounds_toArray, List.set_cons_zero, List.set_cons_succ, i64_w, i32_w]
                                              rfl
                                            refine pure_ (i := 9) (N := some 105) (v := ?_) (a' := ?_) #[true, true, true, true, true, true, false, false, true, true, false, false, false, false, false, false] rfl rfl (any_of HT_.out (by kernel_rfl)) (fun _ _ _ h => h) (Or.inl ⟨by rfl, ?_⟩) ?_ ?_
                                            rotate_left
                                            · intro w'
                                              go_simp
                                              with_reducible rfl
                                            rotate_left
                                            · simp only [Act.put, List.setIfInBounds_toArray, List.set_cons_zero, List.set_cons_succ, i64_w, i32_w]
                                              rfl
                                            refine pure_ (i := 10) (N := some 106) (v := ?_) (a' := ?_) #[true, true, true, true, true, true, false, false, true, true, true, false, false, false, false, false] rfl rfl (any_of HT_.out (by kernel_rfl)) (fun _ _ _ h => h) (Or.inl ⟨by rfl, ?_⟩) ?_ ?_
                                            rotate_left
                                            · intro w'
                                              go_simp
                                              with_reducible rfl
                                            rotate_left
                                            · simp only [Act.put, List.setIfInBounds_toArray, List.set_cons_zero, List.set_cons_succ, i64_w, i32_w]
                                              rfl
                                            refine pure_ (i := 11) (N := some 107) (v := ?_) (a' := ?_) #[true, true, true, true, true, true, false, false, true, true, true, true, false, false, false, false] rfl rfl (any_of HT_.out (by kernel_rfl)) (fun _ _ _ h => h) (Or.inl ⟨by rfl, ?_⟩) ?_ ?_
                                            rotate_left
                                            · intro w'
                                              go_simp
                                              with_reducible rfl
                                            rotate_left
                                            · simp only [Act.put, List.setIfInBounds_toArray, List.set_cons_zero, List.set_cons_succ, i64_w, i32_w]
                                              rfl
                                            refine pure_ (i := 12) (N := some 108) (v := ?_) (a' := ?_) #[true, true, true, true, true, true, false, false, true, true, true, true, true, false, false, false] rfl rfl (any_of HT_.out (by kernel_rfl)) (fun _ _ _ h => h) (Or.inl ⟨by rfl, ?_⟩) ?_ ?_
                                            rotate_left
                                            · intro w'
                                              go_simp
                                              with_reducible rfl
                                            rotate_left
                                            · simp only [Act.put, List.setIfInBounds_toArray, List.set_cons_zero, List.set_cons_succ, i64_w, i32_w]
                                              rfl
                                            refine take_ (i := 6) (N := some 102) (v := ?_) (a' := ?_) #[true, true, true, true, true, true, true, false, true, true, true, true, true, false, false, false] rfl rfl (take_ofW HT_.out HW_.out (by kernel_rfl)) (fun _ _ _ h => h) (Or.inl ⟨by rfl, ?_⟩) hHeld ?_ ?_
                                            rotate_left
                                            · rintro w' ⟨s0, s1, s2, s3⟩
                                              go_simp
                                              with_reducible rfl
                                            rotate_left
                                            · simp only [Act.put, List.setIfInBounds_toArray, List.set_cons_zero, List.set_cons_succ, i64_w, i32_w]
                                              rfl
                                            refine pure_ (i := 7) (N := some 103) (v := ?_) (a' := ?_) #[true, true, true, true, true, true, true, true, true, true, true, true, true, false, false, false] rfl rfl (any_of HT_.out (by kernel_rfl)) (fun _ _ _ h => h) (Or.inl ⟨by rfl, ?_⟩) ?_ ?_
                                            rotate_left
                                            · intro w'
                                              go_simp
                                              with_reducible rfl
                                            rotate_left
                                            · simp only [Act.put, List.setIfInBounds_toArray, List.set_cons_zero, List.set_cons_succ, i64_w, i32_w]
                                              rfl
                                            refine take_ (i := 13) (N := some 109) (v := ?_) (a' := ?_) #[true, true, true, true, true, true, true, true, true, true, true, true, true, true, false, false] rfl rfl (take_ofW HT_.out HW_.out (by kernel_rfl)) (fun _ _ _ h => h) (Or.inl ⟨by rfl, ?_⟩) hHeld ?_ ?_
                                            rotate_left
                                            · rintro w' ⟨s0, s1, s2, s3⟩
                                              go_simp
                                              with_reducible rfl
                                            rotate_left
                                            · simp only [Act.put, List.setIfInBounds_toArray, List.set_cons_zero, List.set_cons_succ, i64_w, i32_w]
                                              rfl
                                            refine pure_ (i := 14) (N := some 110) (v := ?_) (a' := ?_) #[true, true, true, true, true, true, true, true, true, true, true, true, true, true, true, false] rfl rfl (any_of HT_.out (by kernel_rfl)) (fun _ _ _ h => h) (Or.inl ⟨by rfl, ?_⟩) ?_ ?_
                                            rotate_left
                                            · intro w'
                                              go_simp
                                              with_reducible rfl
                                            rotate_left
                                            · simp only [Act.put, List.setIfInBounds_toArray, List.set_cons_zero, List.set_cons_succ, i64_w, i32_w]
                                              rfl
                                            refine pure_ (i := 15) (N := some 7) (v := ?_) (a' := ?_) #[true, true, true, true, true, true, true, true, true, true, true, true, true, true, true, true] rfl rfl (any_of HT_.out (by kernel_rfl)) (fun _ _ _ h => h) (Or.inl ⟨by rfl, ?_⟩) ?_ ?_
                                            rotate_left
                                            · intro w'
                                              go_simp
                                              with_reducible rfl
                                            rotate_left
                                            · simp only [Act.put, List.setIfInBounds_toArray, List.set_cons_zero, List.set_cons_succ, i64_w, i32_w]
                                              rfl
                                            refine done_ (done_of HT_.out (by kernel_rfl)) ?_
                                            try go_wp2_with (first | ((with_reducible refine gate_builtin (b := .append) (xs := #[.tmp 111, .tmp 115]) rfl ?_); (try (refine gate_guard (by rfl) ?_; dsimp only)); at_builtin; refine Kd.R_append k42 (w0 := w) w.heap.size rfl (.tmp 111) (.tmp 115) 30 42 (.agg #[(.int .i64 0), (.int .i64 0)]) 16 rfl Try.underlying30 info42 rfl (by decide) (by omega) (.slice (some ad191) x4_2.length co25) x4_2 (⟨wrap64 ((wrap64 (x6_23 + ((rd_T42 x4_2 (ji31)).f0))) - ((rd_T42 x4_2 (ji34)).f0)), wrap64 ((wrap64 (x7_23 + ((rd_T42 x4_2 (ji31)).f1))) - ((rd_T42 x4_2 (ji34)).f1))⟩ : S42) [.int .i64 (wrap64 ((wrap64 (x6_23 + ((rd_T42 x4_2 (ji31)).f0))) - ((rd_T42 x4_2 (ji34)).f0))), .int .i64 (wrap64 ((wrap64 (x7_23 + ((rd_T42 x4_2 (ji31)).f1))) - ((rd_T42 x4_2 (ji34)).f1)))] (fun _ => True) (fun _ => False) rfl rfl ?aP (fun _ hk => hk.elim) ?aF ?aO ?aB ?aS ?aL ?_; (case aP => exact k42_mkM _ _ _ (⟨wrap64 ((wrap64 (x6_23 + ((rd_T42 x4_2 (ji31)).f0))) - ((rd_T42 x4_2 (ji34)).f0)), wrap64 ((wrap64 (x7_23 + ((rd_T42 x4_2 (ji31)).f1))) - ((rd_T42 x4_2 (ji34)).f1))⟩ : S42)); (case aB => exact (by repeat (first | (with_reducible first | exact HB.out | apply below_alloc | apply pw_below_drewN | apply below_drew1 | refine below_set ?_ GE183.out) | exact HB.out))); (case aF => exact (fun _ _ => trivial)); (case aO => exact (by (with_reducible repeat (first | apply Kd.R_alloc | apply Kd.R_drewN | apply Kd.R_drew)); exact HO_4.out)); (case aS => exact (below_size (by repeat (first | (with_reducible first | exact HB.out | apply below_alloc | apply pw_below_drewN | apply below_drew1 | refine below_set ?_ GE183.out) | exact HB.out)))); (case aL => have := LMc37.out; omega); intro v196 w42 ho hb hg hat; rw [← Ny195.out] at ho; have n0_ := Aside0.mk (blk_grown (g := gb183) (o := .cells #[.slice (some ad187) l0_0.length c0_0, .slice A0_1 l0_1.length c0_1] 29 (0, 0)) (by (with_reducible repeat (first | refine blk_drewN ?_ _ | refine blk_drew ?_ | refine blk_alloc ?_ _)); exact BK183.out) hg (Kd.R_ne HO_4.out BK183.out (by decide))); have n1_ := Aside0.mk (hb); have n2_ := Aside0.mk (ho); clear BK183; clear HB; clear HO_4; have BK183 := n0_; have HB := n1_; have HO197 := n2_; clear n0_ n1_ n2_; clear ho hb hg hat; obtain ⟨Ao43, co43, eo43⟩ := Kd.R_slice HO197.out; subst eo43) | ((with_reducible refine gate_callee (f := 35) rfl ?_); refine goesL_ (some 118) rfl rfl Try.func35 (by kernel_rfl) rfl #[.slice Ao43 y195.length co43] rfl (by (try simp only [List.map_toArray, List.map_cons, List.map_nil]); first | done | rfl | (simp only [List.length_drop, List.length_take]; rfl)) ?_; (with_reducible refine (windroseref11_May.calls kj23 _ _ y195 true _ ?side1 ?side2 A38.out).mono ?_); (case side1 => repeat (first | exact (Kd.R_reads' HO197.out).2.2 | (with_reducible refine Kd.C_alloc ?_ _) | (with_reducible refine Kd.C_drewN ?_ _) | (with_reducible refine Kd.C_drew ?_))); (case side2 => exact (Kd.R_reads' HO197.out).2.1); rintro e w' ⟨rfl, ⟨nd, rfl⟩⟩; refine ⟨_, rfl, ?_⟩))
                                            go_roundg kj23
                                            case measure => have := HJ1.out; have := HK2.out; have := HJ16.out; have := HJ23.out; omega
                                            case rel => exact ⟨(y195), (wrap64 (x5_2 + 2)), (by first | rfl | (simp; done) | (simp [*]; done)), H', ⟨by have := HJ1.out; have := HK2.out; have := HJ16.out; have := HJ23.out; omega⟩, ⟨by (with_reducible repeat (first | apply Kd.R_alloc | apply Kd.R_drewN | apply Kd.R_drew)); exact HO197.out⟩, ⟨by (with_reducible repeat (first | refine blk_drewN ?_ _ | refine blk_drew ?_ | refine blk_alloc ?_ _)); exact BK183.out⟩, ⟨by repeat (first | (with_reducible first | exact HB.out | apply below_alloc | apply pw_below_drewN | apply below_drew1 | refine below_set ?_ GE183.out) | exact HB.out)⟩⟩
                                          · replace c39 := Bool.eq_false_iff.mpr c39
                                            subst c39
                                            have H1 : (some (([] : List (S42)), false)) = some (r1, r2) := by rw [if_neg (show ¬ (false = true) by decide)] at H; exact H
                                            clear H
                                            have H := H1
                                            clear H1
                                            simp only [Option.some.injEq, Prod.mk.injEq] at H
                                            obtain ⟨rfl, rfl⟩ := H
                                            try go_wp2
                                            have n0_ := Aside0.mk (Kd.R_drew HO_4.out)
                                            have n1_ := Aside0.mk (blk_drew BK183.out)
                                            have n2_ := Aside0.mk (below_drew1 HB.out)
                                            clear HO_4
                                            clear BK183
                                            clear HB
                                            have HO_4 := n0_
                                            have BK183 := n1_
                                            have HB := n2_
                                            clear n0_ n1_ n2_
                                            have p191 : 0 ≤ ((ji31) : Int) := of_decide_eq_true (by first | (with_reducible assumption) | assumption)
                                            have q191 : (ji31) < (x4_2.length : Int) := of_decide_eq_true (by first | (with_reducible assumption) | assumption)
                                            obtain ⟨ad191, e191, hx191_0, hx191_1⟩ := at_T42 (Kd.R_reads' HO_4.out).2.2 (ji31) p191 q191
                                            cases e191
                                            replace p191 := eq_true p191
                                            replace q191 := eq_true q191
                                            have p192 : 0 ≤ ((ji34) : Int) := of_decide_eq_true (by first | (with_reducible assumption) | assumption)
                                            have q192 : (ji34) < (x4_2.length : Int) := of_decide_eq_true (by first | (with_reducible assumption) | assumption)
                                            obtain ⟨ad192, e192, hx192_0, hx192_1⟩ := at_T42 (Kd.R_reads' HO_4.out).2.2 (ji34) p192 q192
                                            obtain rfl : ad191 = ad192 := (by injection e192)
                                            replace p192 := eq_true p192
                                            replace q192 := eq_true q192
                                            refine start_ (n := 16) (S := fun w' => w'.cell? (ad191.add (((ji31)).toNat * 2)) = some (.int .i64 ((rd_T42 x4_2 (ji31)).f0)) ∧ w'.cell? ⟨(ad191.add (((ji31)).toNat * 2)).block, (ad191.add (((ji31)).toNat * 2)).off + 1, none⟩ = some (.int .i64 ((rd_T42 x4_2 (ji31)).f1)) ∧ w'.cell? (ad191.add (((ji34)).toNat * 2)) = some (.int .i64 ((rd_T42 x4_2 (ji34)).f0)) ∧ w'.cell? ⟨(ad191.add (((ji34)).toNat * 2)).block, (ad191.add (((ji34)).toNat * 2)).off + 1, none⟩ = some (.int .i64 ((rd_T42 x4_2 (ji34)).f1))) (ds := []) #[false, false, false, false, false, false, false, false, false, false, false, false, false, false, false, false] (by kernel_rfl) rfl rfl ⟨hx191_0, hx191_1, hx192_0, hx192_1⟩ (fun hHeld => ?_); refine with_tabW windroseref11_Unpack.tab15 windroseref11_Unpack.bits15 (fun HT_ HW_ => ?_)
                                            generalize wc.drew = w44 at HO_4 BK183 HB hx191_0 hx191_1 hx192_0 hx192_1 hHeld ⊢
                                            refine pure_ (i := 0) (N := some 81) (v := ?_) (a' := ?_) #[true, false, false, false, false, false, false, false, false, false, false, false, false, false, false, false] rfl rfl (any_of HT_.out (by kernel_rfl)) (fun _ _ _ h => h) (Or.inl ⟨by rfl, ?_⟩) ?_ ?_
                                            rotate_left
                                            · intro w'
                                              go_simp
                                              with_reducible rfl
                                            rotate_left
                                            · simp only [Act.put, List.setIfInBounds_toArray, List.set_cons_zero, List.set_cons_succ, i64_w, i32_w]
                                              rfl
                                            refine pure_ (i := 1) (N := some 82) (v := ?_) (a' := ?_) #[true, true, false, false, false, false, false, false, false, false, false, false, false, false, false, false] rfl rfl (any_of HT_.out (by kernel_rfl)) (fun _ _ _ h => h) (Or.inl ⟨by rfl, ?_⟩) ?_ ?_
                                            rotate_left
                                            · intro w'
                                              go_simp
                                              with_reducible rfl
                                            rotate_left
                                            · simp only [Act.put, List.setIfInBounds_toArray, List.set_cons_zero, List.set_cons_succ, i64_w, i32_w]
                                              rfl
                                            refine pure_ (i := 2) (N := some 83) (v := ?_) (a' := ?_) #[true, true, true, false, false, false, false, false, false, false, false, false, false, false, false, false] rfl rfl (any_of HT_.out (by kernel_rfl)) (fun _ _ _ h => h) (Or.inl ⟨by rfl, ?_⟩) ?_ ?_
                                            rotate_left
                                            · intro w'
                                              go_simp
                                              with_reducible rfl
                                            rotate_left
                                            · simp only [Act.put, List.setIfInBounds_toArray, List.set_cons_zero, List.set_cons_succ, i64_w, i32_w]
                                              rfl
                                            refine pure_ (i := 3) (N := some 84) (v := ?_) (a' := ?_) #[true, true, true, true, false, false, false, false, false, false, false, false, false, false, false, false] rfl rfl (any_of HT_.out (by kernel_rfl)) (fun _ _ _ h => h) (Or.inl ⟨by rfl, ?_⟩) ?_ ?_
                                            rotate_left
                                            · intro w'
                                              go_simp
                                              with_reducible rfl
                                            rotate_left
                                            · simp only [Act.put, List.setIfInBounds_toArray, List.set_cons_zero, List.set_cons_succ, i64_w, i32_w]
                                              rfl
                                            refine pure_ (i := 4) (N := some 85) (v := ?_) (a' := ?_) #[true, true, true, true, true, false, false, false, false, false, false, false, false, false, false, false] rfl rfl (any_of HT_.out (by kernel_rfl)) (fun _ _ _ h => h) (Or.inl ⟨by rfl, ?_⟩) ?_ ?_
                                            rotate_left
                                            · intro w'
                                              go_simp
                                              with_reducible rfl
                                            rotate_left
                                            · simp only [Act.put, List.setIfInBounds_toArray, List.set_cons_zero, List.set_cons_succ, i64_w, i32_w]
                                              rfl
                                            refine pure_ (i := 5) (N := some 86) (v := ?_) (a' := ?_) #[true, true, true, true, true, true, false, false, false, false, false, false, false, false, false, false] rfl rfl (any_of HT_.out (by kernel_rfl)) (fun _ _ _ h => h) (Or.inl ⟨by rfl, ?_⟩) ?_ ?_
                                            rotate_left
                                            · intro w'
                                              go_simp
                                              with_reducible rfl
                                            rotate_left
                                            · simp only [Act.put, List.setIfInBounds_toArray, List.set_cons_zero, List.set_cons_succ, i64_w, i32_w]
                                              rfl
                                            refine pure_ (i := 8) (N := some 89) (v := ?_) (a' := ?_) #[true, true, true, true, true, true, false, false, true, false, false, false, false, false, false, false] rfl rfl (any_of HT_.out (by kernel_rfl)) (fun _ _ _ h => h) (Or.inl ⟨by rfl, ?_⟩) ?_ ?_
                                            rotate_left
                                            · intro w'
                                              go_simp
                                              with_reducible rfl
                                            rotate_left
                                            · simp only [Act.put, List.setIfInBounds_toArray, List.set_cons_zero, List.set_cons_succ, i64_w, i32_w]
                                              rfl
                                            refine pure_ (i := 9) (N := some 90) (v := ?_) (a' := ?_) #[true, true, true, true, true, true, false, false, true, true, false, false, false, false, false, false] rfl rfl (any_of HT_.out (by kernel_rfl)) (fun _ _ _ h => h) (Or.inl ⟨by rfl, ?_⟩) ?_ ?_
                                            rotate_left
                                            · intro w'
                                              go_simp
                                              with_reducible rfl
                                            rotate_left
                                            · simp only [Act.put, List.setIfInBounds_toArray, List.set_cons_zero, List.set_cons_succ, i64_w, i32_w]
                                              rfl
                                            refine pure_ (i := 10) (N := some 91) (v := ?_) (a' := ?_) #[true, true, true, true, true, true, false, false, true, true, true, false, false, false, false, false] rfl rfl (any_of HT_.out (by kernel_rfl)) (fun _ _ _ h => h) (Or.inl ⟨by rfl, ?_⟩) ?_ ?_
                                            rotate_left
                                            · intro w'
                                              go_simp
                                              with_reducible rfl
                                            rotate_left
                                            · simp only [Act.put, List.setIfInBounds_toArray, List.set_cons_zero, List.set_cons_succ, i64_w, i32_w]
                                              rfl
                                            refine pure_ (i := 11) (N := some 92) (v := ?_) (a' := ?_) #[true, true, true, true, true, true, false, false, true, true, true, true, false, false, false, false] rfl rfl (any_of HT_.out (by kernel_rfl)) (fun _ _ _ h => h) (Or.inl ⟨by rfl, ?_⟩) ?_ ?_
                                            rotate_left
                                            · intro w'
                                              go_simp
                                              with_reducible rfl
                                            rotate_left
                                            · simp only [Act.put, List.setIfInBounds_toArray, List.set_cons_zero, List.set_cons_succ, i64_w, i32_w]
                                              rfl
                                            refine pure_ (i := 12) (N := some 93) (v := ?_) (a' := ?_) #[true, true, true, true, true, true, false, false, true, true, true, true, true, false, false, false] rfl rfl (any_of HT_.out (by kernel_rfl)) (fun _ _ _ h => h) (Or.inl ⟨by rfl, ?_⟩) ?_ ?_
                                            rotate_left
                                            · intro w'
                                              go_simp
                                              with_reducible rfl
                                            rotate_left
                                            · simp only [Act.put, List.setIfInBounds_toArray, List.set_cons_zero, List.set_cons_succ, i64_w, i32_w]
                                              rfl
                                            refine take_ (i := 6) (N := some 87) (v := ?_) (a' := ?_) #[true, true, true, true, true, true, true, false, true, true, true, true, true, false, false, false] rfl rfl (take_ofW HT_.out HW_.out (by kernel_rfl)) (fun _ _ _ h => h) (Or.inl ⟨by rfl, ?_⟩) hHeld ?_ ?_
                                            rotate_left
                                            · rintro w' ⟨s0, s1, s2, s3⟩
                                              go_simp
                                              with_reducible rfl
                                            rotate_left
                                            · simp only [Act.put, List.setIfInBounds_toArray, List.set_cons_zero, List.set_cons_succ, i64_w, i32_w]
                                              rfl
                                            refine pure_ (i := 7) (N := some 88) (v := ?_) (a' := ?_) #[true, true, true, true, true, true, true, true, true, true, true, true, true, false, false, false] rfl rfl (any_of HT_.out (by kernel_rfl)) (fun _ _ _ h => h) (Or.inl ⟨by rfl, ?_⟩) ?_ ?_
                                            rotate_left
                                            · intro w'
                                              go_simp
                                              with_reducible rfl
                                            rotate_left
                                            · simp only [Act.put, List.setIfInBounds_toArray, List.set_cons_zero, List.set_cons_succ, i64_w, i32_w]
                                              rfl
                                            refine take_ (i := 13) (N := some 94) (v := ?_) (a' := ?_) #[true, true, true, true, true, true, true, true, true, true, true, true, true, true, false, false] rfl rfl (take_ofW HT_.out HW_.out (by kernel_rfl)) (fun _ _ _ h => h) (Or.inl ⟨by rfl, ?_⟩) hHeld ?_ ?_
                                            rotate_left
                                            · rintro w' ⟨s0, s1, s2, s3⟩
                                              go_simp
                                              with_reducible rfl
                                            rotate_left
                                            · simp only [Act.put, List.setIfInBounds_toArray, List.set_cons_zero, List.set_cons_succ, i64_w, i32_w]
                                              rfl
                                            refine pure_ (i := 14) (N := some 95) (v := ?_) (a' := ?_) #[true, true, true, true, true, true, true, true, true, true, true, true, true, true, true, false] rfl rfl (any_of HT_.out (by kernel_rfl)) (fun _ _ _ h => h) (Or.inl ⟨by rfl, ?_⟩) ?_ ?_
                                            rotate_left
                                            · intro w'
                                              go_simp
                                              with_reducible rfl
                                            rotate_left
                                            · simp only [Act.put, List.setIfInBounds_toArray, List.set_cons_zero, List.set_cons_succ, i64_w, i32_w]
                                              rfl
                                            refine pure_ (i := 15) (N := some 6) (v := ?_) (a' := ?_) #[true, true, true, true, true, true, true, true, true, true, true, true, true, true, true, true] rfl rfl (any_of HT_.out (by kernel_rfl)) (fun _ _ _ h => h) (Or.inl ⟨by rfl, ?_⟩) ?_ ?_
                                            rotate_left
                                            · intro w'
                                              go_simp
                                              with_reducible rfl
                                            rotate_left
                                            · simp only [Act.put, List.setIfInBounds_toArray, List.set_cons_zero, List.set_cons_succ, i64_w, i32_w]
                                              rfl
                                            refine done_ (done_of HT_.out (by kernel_rfl)) ?_
                                            try go_wp2
                                            have n0_ := Aside0.mk (Kd.R_drew HO_4.out)
                                            have n1_ := Aside0.mk (blk_drew BK183.out)
                                            have n2_ := Aside0.mk (below_drew1 HB.out)
                                            clear HO_4
                                            clear BK183
                                            clear HB
                                            have HO_4 := n0_
                                            have BK183 := n1_
                                            have HB := n2_
                                            clear n0_ n1_ n2_
                                            have p193 : 0 ≤ ((ji31) : Int) := of_decide_eq_true (by first | (with_reducible assumption) | assumption)
                                            have q193 : (ji31) < (x4_2.length : Int) := of_decide_eq_true (by first | (with_reducible assumption) | assumption)
                                            obtain ⟨ad193, e193, hx193_0, hx193_1⟩ := at_T42 (Kd.R_reads' HO_4.out).2.2 (ji31) p193 q193
                                            obtain rfl : ad191 = ad193 := (by injection e193)
                                            replace p193 := eq_true p193
                                            replace q193 := eq_true q193
                                            have p194 : 0 ≤ ((ji34) : Int) := of_decide_eq_true (by first | (with_reducible assumption) | assumption)
                                            have q194 : (ji34) < (x4_2.length : Int) := of_decide_eq_true (by first | (with_reducible assumption) | assumption)
                                            obtain ⟨ad194, e194, hx194_0, hx194_1⟩ := at_T42 (Kd.R_reads' HO_4.out).2.2 (ji34) p194 q194
                                            obtain rfl : ad191 = ad194 := (by injection e194)
                                            replace p194 := eq_true p194
                                            replace q194 := eq_true q194
                                            refine start_ (n := 16) (S := fun w' => w'.cell? (ad191.add (((ji31)).toNat * 2)) = some (.int .i64 ((rd_T42 x4_2 (ji31)).f0)) ∧ w'.cell? ⟨(ad191.add (((ji31)).toNat * 2)).block, (ad191.add (((ji31)).toNat * 2)).off + 1, none⟩ = some (.int .i64 ((rd_T42 x4_2 (ji31)).f1)) ∧ w'.cell? (ad191.add (((ji34)).toNat * 2)) = some (.int .i64 ((rd_T42 x4_2 (ji34)).f0)) ∧ w'.cell? ⟨(ad191.add (((ji34)).toNat * 2)).block, (ad191.add (((ji34)).toNat * 2)).off + 1, none⟩ = some (.int .i64 ((rd_T42 x4_2 (ji34)).f1))) (ds := []) #[false, false, false, false, false, false, false, false, false, false, false, false, false, false, false, false] (by kernel_rfl) rfl rfl ⟨hx193_0, hx193_1, hx194_0, hx194_1⟩ (fun hHeld => ?_); refine with_tabW windroseref11_Unpack.tab16 windroseref11_Unpack.bits16 (fun HT_ HW_ => ?_)
                                            generalize w44.drew = w45 at HO_4 BK183 HB hx193_0 hx193_1 hx194_0 hx194_1 hHeld ⊢
                                            refine pure_ (i := 0) (N := some 96) (v := ?_) (a' := ?_) #[true, false, false, false, false, false, false, false, false, false, false, false, false, false, false, false] rfl rfl (any_of HT_.out (by kernel_rfl)) (fun _ _ _ h => h) (Or.inl ⟨by rfl, ?_⟩) ?_ ?_
                                            rotate_left
                                            · intro w'
                                              go_simp
                                              with_reducible rfl
                                            rotate_left
                                            · simp only [Act.put, List.setIfInBounds_toArray, List.set_cons_zero, List.set_cons_succ, i64_w, i32_w]
                                              rfl
                                            refine pure_ (i := 1) (N := some 97) (v := ?_) (a' := ?_) #[true, true, false, false, false, false, false, false, false, false, false, false, false, false, false, false] rfl rfl (any_of HT_.out (by kernel_rfl)) (fun _ _ _ h => h) (Or.inl ⟨by rfl, ?_⟩) ?_ ?_
                                            rotate_left
                                            · intro w'
                                              go_simp
                                              with_reducible rfl
                                            rotate_left
                                            · simp only [Act.put, List.setIfInBounds_toArray, List.set_cons_zero, List.set_cons_succ, i64_w, i32_w]
                                              rfl
                                            refine pure_ (i := 2) (N := some 98) (v := ?_) (a' := ?_) #[true, true, true, false, false, false, false, false, false, false, false, false, false, false, false, false] rfl rfl (any_of HT_.out (by kernel_rfl)) (fun _ _ _ h => h) (Or.inl ⟨by rfl, ?_⟩) ?_ ?_
                                            rotate_left
                                            · intro w'
                                              go_simp
                                              with_reducible rfl
                                            rotate_left
                                            · simp only [Act.put, List.setIfInBounds_toArray, List.set_cons_zero, List.set_cons_succ, i64_w, i32_w]
                                              rfl
                                            refine pure_ (i := 3) (N := some 99) (v := ?_) (a' := ?_) #[true, true, true, true, false, false, false, false, false, false, false, false, false, false, false, false] rfl rfl (any_of HT_.out (by kernel_rfl)) (fun _ _ _ h => h) (Or.inl ⟨by rfl, ?_⟩) ?_ ?_
                                            rotate_left
                                            · intro w'
                                              go_simp
                                              with_reducible rfl
                                            rotate_left
                                            · simp only [Act.put, List.setIfInBounds_toArray, List.set_cons_zero, List.set_cons_succ, i64_w, i32_w]
                                              rfl
                                            refine pure_ (i := 4) (N := some 100) (v := ?_) (a' := ?_) #[true, true, true, true, true, false, false, false, false, false, false, false, false, false, false, false] rfl rfl (any_of HT_.out (by kernel_rfl)) (fun _ _ _ h => h) (Or.inl ⟨by rfl, ?_⟩) ?_ ?_
                                            rotate_left
                                            · intro w'
                                              go_simp
                                              with_reducible rfl
                                            rotate_left
                                            · simp only [Act.put, List.setIfInBounds_toArray, List.set_cons_zero, List.set_cons_succ, i64_w, i32_w]
                                              rfl
                                            refine pure_ (i := 5) (N := some 101) (v := ?_) (a' := ?_) #[true, true, true, true, true, true, false, false, false, false, false, false, false, false, false, false] rfl rfl (any_of HT_.out (by kernel_rfl)) (fun _ _ _ h => h) (Or.inl ⟨by rfl, ?_⟩) ?_ ?_
                                            rotate_left
                                            · intro w'
                                              go_simp
                                              with_reducible rfl
                                            rotate_left
                                            · simp only [Act.put, List.setIfInBounds_toArray, List.set_cons_zero, List.set_cons_succ, i64_w, i32_w]
                                              rfl
                                            refine pure_ (i := 8) (N := some 104) (v := ?_) (a' := ?_) #[true, true, true, true, true, true, false, false, true, false, false, false, false, false, false, false] rfl rfl (any_of HT_.out (by kernel_rfl)) (fun _ _ _ h => h) (Or.inl ⟨by rfl, ?_⟩) ?_ ?_
                                            rotate_left
                                            · intro w'
                                              go_simp
                                              with_reducible rfl
                                            rotate_left
                                            · simp only [Act.put, List.setIfInBounds_toArray, List.set_cons_zero, List.set_cons_succ, i64_w, i32_w]
                                              rfl
                                            refine pure_ (i := 9) (N := some 105) (v := ?_) (a' := ?_) #[true, true, true, true, true, true, false, false, true, true, false, false, false, false, false, false] rfl rfl (any_of HT_.out (by kernel_rfl)) (fun _ _ _ h => h) (Or.inl ⟨by rfl, ?_⟩) ?_ ?_
                                            rotate_left
                                            · intro w'
                                              go_simp
                                              with_reducible rfl
                                            rotate_left
                                            · simp only [Act.put, List.setIfInBounds_toArray, List.set_cons_zero, List.set_cons_succ, i64_w, i32_w]
                                              rfl
                                            refine pure_ (i := 10) (N := some 106) (v := ?_) (a' := ?_) #[true, true, true, true, true, true, false, false, true, true, true, false, false, false, false, false] rfl rfl (any_of HT_.out (by kernel_rfl)) (fun _ _ _ h => h) (Or.inl ⟨by rfl, ?_⟩) ?_ ?_
                                            rotate_left
                                            · intro w'
                                              go_simp
                                              with_reducible rfl
                                            rotate_left
                                            · simp only [Act.put, List.setIfInBounds_toArray, List.set_cons_zero, List.set_cons_succ, i64_w, i32_w]
                                              rfl
                                            refine pure_ (i := 11) (N := some 107) (v := ?_) (a' := ?_) #[true, true, true, true, true, true, false, false, true, true, true, true, false, false, false, false] rfl rfl (any_of HT_.out (by kernel_rfl)) (fun _ _ _ h => h) (Or.inl ⟨by rfl, ?_⟩) ?_ ?_
                                            rotate_left
                                            · intro w'
                                              go_simp
                                              with_reducible rfl
                                            rotate_left
                                            · simp only [Act.put, List.setIfInBounds_toArray, List.set_cons_zero, List.set_cons_succ, i64_w, i32_w]
                                              rfl
                                            refine pure_ (i := 12) (N := some 108) (v := ?_) (a' := ?_) #[true, true, true, true, true, true, false, false, true, true, true, true, true, false, false, false] rfl rfl (any_of HT_.out (by kernel_rfl)) (fun _ _ _ h => h) (Or.inl ⟨by rfl, ?_⟩) ?_ ?_
                                            rotate_left
                                            · intro w'
                                              go_simp
                                              with_reducible rfl
                                            rotate_left
                                            · simp only [Act.put, List.setIfInBounds_toArray, List.set_cons_zero, List.set_cons_succ, i64_w, i32_w]
                                              rfl
                                            refine take_ (i := 6) (N := some 102) (v := ?_) (a' := ?_) #[true, true, true, true, true, true, true, false, true, true, true, true, true, false, false, false] rfl rfl (take_ofW HT_.out HW_.out (by kernel_rfl)) (fun _ _ _ h => h) (Or.inl ⟨by rfl, ?_⟩) hHeld ?_ ?_
                                            rotate_left
                                            · rintro w' ⟨s0, s1, s2, s3⟩
                                              go_simp
                                              with_reducible rfl
                                            rotate_left
                                            · simp only [Act.put, List.setIfInBounds_toArray, List.set_cons_zero, List.set_cons_succ, i64_w, i32_w]
                                              rfl
                                            refine pure_ (i := 7) (N := some 103) (v := ?_) (a' := ?_) #[true, true, true, true, true, true, true, true, true, true, true, true, true, false, false, false] rfl rfl (any_of HT_.out (by kernel_rfl)) (fun _ _ _ h => h) (Or.inl ⟨by rfl, ?_⟩) ?_ ?_
                                            rotate_left
                                            · intro w'
                                              go_simp
                                              with_reducible rfl
                                            rotate_left
                                            · simp only [Act.put, List.setIfInBounds_toArray, List.set_cons_zero, List.set_cons_succ, i64_w, i32_w]
                                              rfl
                                            refine take_ (i := 13) (N := some 109) (v := ?_) (a' := ?_) #[true, true, true, true, true, true, true, true, true, true, true, true, true, true, false, false] rfl rfl (take_ofW HT_.out HW_.out (by kernel_rfl)) (fun _ _ _ h => h) (Or.inl ⟨by rfl, ?_⟩) hHeld ?_ ?_
                                            rotate_left
                                            · rintro w' ⟨s0, s1, s2, s3⟩
                                              go_simp
                                              with_reducible rfl
                                            rotate_left
                                            · simp only [Act.put, List.setIfInBounds_toArray, List.set_cons_zero, List.set_cons_succ, i64_w, i32_w]
                                              rfl
                                            refine pure_ (i := 14) (N := some 110) (v := ?_) (a' := ?_) #[true, true, true, true, true, true, true, true, true, true, true, true, true, true, true, false] rfl rfl (any_of HT_.out (by kernel_rfl)) (fun _ _ _ h => h) (Or.inl ⟨by rfl, ?_⟩) ?_ ?_
                                            rotate_left
                                            · intro w'
                                              go_simp
                                              with_reducible rfl
                                            rotate_left
                                            · simp only [Act.put, List.setIfInBounds_toArray, List.set_cons_zero, List.set_cons_succ, i64_w, i32_w]
                                              rfl
                                            refine pure_ (i := 15) (N := some 7) (v := ?_) (a' := ?_) #[true, true, true, true, true, true, true, true, true, true, true, true, true, true, true, true] rfl rfl (any_of HT_.out (by kernel_rfl)) (fun _ _ _ h => h) (Or.inl ⟨by rfl, ?_⟩) ?_ ?_
                                            rotate_left
                                            · intro w'
                                              go_simp
                                              with_reducible rfl
                                            rotate_left
                                            · simp only [Act.put, List.setIfInBounds_toArray, List.set_cons_zero, List.set_cons_succ, i64_w, i32_w]
                                              rfl
                                            refine done_ (done_of HT_.out (by kernel_rfl)) ?_
                                            try go_wp2_with (first | ((with_reducible refine gate_builtin (b := .append) (xs := #[.tmp 111, .tmp 115]) rfl ?_); (try (refine gate_guard (by rfl) ?_; dsimp only)); at_builtin; refine Kd.R_append k42 (w0 := w) w.heap.size rfl (.tmp 111) (.tmp 115) 30 42 (.agg #[(.int .i64 0), (.int .i64 0)]) 16 rfl Try.underlying30 info42 rfl (by decide) (by omega) (.slice (some ad191) x4_2.length co25) x4_2 (⟨wrap64 ((wrap64 (x6_23 + ((rd_T42 x4_2 (ji31)).f0))) - ((rd_T42 x4_2 (ji34)).f0)), wrap64 ((wrap64 (x7_23 + ((rd_T42 x4_2 (ji31)).f1))) - ((rd_T42 x4_2 (ji34)).f1))⟩ : S42) [.int .i64 (wrap64 ((wrap64 (x6_23 + ((rd_T42 x4_2 (ji31)).f0))) - ((rd_T42 x4_2 (ji34)).f0))), .int .i64 (wrap64 ((wrap64 (x7_23 + ((rd_T42 x4_2 (ji31)).f1))) - ((rd_T42 x4_2 (ji34)).f1)))] (fun _ => True) (fun _ => False) rfl rfl ?aP (fun _ hk => hk.elim) ?aF ?aO ?aB ?aS ?aL ?_; (case aP => exact k42_mkM _ _ _ (⟨wrap64 ((wrap64 (x6_23 + ((rd_T42 x4_2 (ji31)).f0))) - ((rd_T42 x4_2 (ji34)).f0)), wrap64 ((wrap64 (x7_23 + ((rd_T42 x4_2 (ji31)).f1))) - ((rd_T42 x4_2 (ji34)).f1))⟩ : S42)); (case aB => exact (by repeat (first | (with_reducible first | exact HB.out | apply below_alloc | apply pw_below_drewN | apply below_drew1 | refine below_set ?_ GE183.out) | exact HB.out))); (case aF => exact (fun _ _ => trivial)); (case aO => exact (by (with_reducible repeat (first | apply Kd.R_alloc | apply Kd.R_drewN | apply Kd.R_drew)); exact HO_4.out)); (case aS => exact (below_size (by repeat (first | (with_reducible first | exact HB.out | apply below_alloc | apply pw_below_drewN | apply below_drew1 | refine below_set ?_ GE183.out) | exact HB.out)))); (case aL => have := LMc37.out; omega); intro v196 w46 ho hb hg hat; rw [← Ny195.out] at ho; have n0_ := Aside0.mk (blk_grown (g := gb183) (o := .cells #[.slice (some ad187) l0_0.length c0_0, .slice A0_1 l0_1.length c0_1] 29 (0, 0)) (by (with_reducible repeat (first | refine blk_drewN ?_ _ | refine blk_drew ?_ | refine blk_alloc ?_ _)); exact BK183.out) hg (Kd.R_ne HO_4.out BK183.out (by decide))); have n1_ := Aside0.mk (hb); have n2_ := Aside0.mk (ho); clear BK183; clear HB; clear HO_4; have BK183 := n0_; have HB := n1_; have HO197 := n2_; clear n0_ n1_ n2_; clear ho hb hg hat; obtain ⟨Ao47, co47, eo47⟩ := Kd.R_slice HO197.out; subst eo47) | ((with_reducible refine gate_callee (f := 35) rfl ?_); refine goesL_ (some 118) rfl rfl Try.func35 (by kernel_rfl) rfl #[.slice Ao47 y195.length co47] rfl (by (try simp only [List.map_toArray, List.map_cons, List.map_nil]); first | done | rfl | (simp only [List.length_drop, List.length_take]; rfl)) ?_; (with_reducible refine (windroseref11_May.calls kj23 _ _ y195 false _ ?side1 ?side2 A38.out).mono ?_); (case side1 => repeat (first | exact (Kd.R_reads' HO197.out).2.2 | (with_reducible refine Kd.C_alloc ?_ _) | (with_reducible refine Kd.C_drewN ?_ _) | (with_reducible refine Kd.C_drew ?_))); (case side2 => exact (Kd.R_reads' HO197.out).2.1); rintro e w' ⟨rfl, ⟨nd, rfl⟩⟩; refine ⟨_, rfl, ?_⟩))
                                            go_ret2
                                            exact ⟨_, by first | rfl | (simp [errW_none, errW_some] <;> rfl) | (simp only [← hji15, ← hji31, ← hji34]; first | rfl | (simp [errW_none, errW_some] <;> rfl)) | (simp [*, errW_none, errW_some] <;> rfl), by first | exact Kd.R_nil _ _ _ _ _ | exact Kd.N_nil _ _ _ _ _ | exact Kd.V_nil _ _ _ _ _ | exact Kd.Q_nil _ _ _ _ _ | exact Kd.S_nil _ _ _ _ _, by repeat (first | (with_reducible first | exact HB.out | apply below_alloc | apply pw_below_drewN | apply below_drew1 | refine below_set ?_ GE183.out) | exact HB.out)⟩
                                        · rw [if_neg c37] at H
                                          exact absurd H (by simp)
                                      · rw [if_neg c36] at H
                                        exact absurd H (by simp)
                                    · rw [if_neg c35] at H
                                      exact absurd H (by simp)
                                  · rw [if_neg c33] at H
                                    exact absurd H (by simp)
                                · rw [if_neg c32] at H
                                  exact absurd H (by simp)
                              · rw [if_neg c30] at H
                                have c30b0 : decide (1 < (x4_2.length : Int)) = false := decide_eq_false c30
                                have c30b1 : decide (1 < x4_2.length) = false := decide_eq_false (by omega)
                                have c30b1_ := eq_false (of_decide_eq_false c30b1)
                                clear c30
                                by_cases c48 : x4_2.length < 8796093022208
                                · rw [if_pos c48] at H
                                  have LMc48 := Aside0.mk c48
                                  clear c48
                                  obtain ⟨y199, hy199⟩ : ∃ y_ : List (S42), y_ = (x4_2 ++ [(⟨x6_23, x7_23⟩ : S42)]) := ⟨_, rfl⟩
                                  replace H : ((windroseref11_May.f kj23 y199).bind fun t202 => (if t202 = true then (windroseref11_Unpack.l0 kj23 y199 (wrap64 (x5_2 + 2)) l0_0 l0_1) else (some (([] : List (S42)), false)))) = some (r1, r2) := by first | (rw [hy199]; with_reducible exact H) | (have H2_ := (Option.bind_some _ _).symm.trans H; rw [hy199]; with_reducible exact H2_) | (have H2_ := (Option.bind_some _ _).symm.trans H; with_reducible exact H2_) | with_reducible exact H | (rw [hy199]; exact H) | exact H
                                  have Ny199 := Aside0.mk hy199
                                  clear hy199
                                  replace H := Option.bind_eq_some_iff.mp H
                                  obtain ⟨t202, A490, H⟩ := H
                                  replace H : (if t202 = true then (windroseref11_Unpack.l0 kj23 y199 (wrap64 (x5_2 + 2)) l0_0 l0_1) else (some (([] : List (S42)), false))) = some (r1, r2) := H
                                  have A49 := Aside0.mk A490
                                  clear A490
                                  by_cases c50 : t202 = true
                                  · subst c50
                                    have H1 : (windroseref11_Unpack.l0 kj23 y199 (wrap64 (x5_2 + 2)) l0_0 l0_1) = some (r1, r2) := by rw [if_pos rfl] at H; exact H
                                    clear H
                                    have H := H1
                                    clear H1
                                    have H' := Aside0.mk H
                                    clear H
                                    go_wp2_with (first | ((with_reducible refine gate_builtin (b := .append) (xs := #[.tmp 111, .tmp 115]) rfl ?_); (try (refine gate_guard (by rfl) ?_; dsimp only)); at_builtin; refine Kd.R_append k42 (w0 := w) w.heap.size rfl (.tmp 111) (.tmp 115) 30 42 (.agg #[(.int .i64 0), (.int .i64 0)]) 16 rfl Try.underlying30 info42 rfl (by decide) (by omega) (.slice Ao25 x4_2.length co25) x4_2 (⟨x6_23, x7_23⟩ : S42) [.int .i64 x6_23, .int .i64 x7_23] (fun _ => True) (fun _ => False) rfl rfl ?aP (fun _ hk => hk.elim) ?aF ?aO ?aB ?aS ?aL ?_; (case aP => exact k42_mkM _ _ _ (⟨x6_23, x7_23⟩ : S42)); (case aB => exact (by repeat (first | (with_reducible first | exact HB.out | apply below_alloc | apply pw_below_drewN | apply below_drew1 | refine below_set ?_ GE183.out) | exact HB.out))); (case aF => exact (fun _ _ => trivial)); (case aO => exact (by (with_reducible repeat (first | apply Kd.R_alloc | apply Kd.R_drewN | apply Kd.R_drew)); exact HO_4.out)); (case aS => exact (below_size (by repeat (first | (with_reducible first | exact HB.out | apply below_alloc | apply pw_below_drewN | apply below_drew1 | refine below_set ?_ GE183.out) | exact HB.out)))); (case aL => have := LMc48.out; omega); intro v200 w51 ho hb hg hat; rw [← Ny199.out] at ho; have n0_ := Aside0.mk (blk_grown (g := gb183) (o := .cells #[.slice (some ad187) l0_0.length c0_0, .slice A0_1 l0_1.length c0_1] 29 (0, 0)) (by (with_reducible repeat (first | refine blk_drewN ?_ _ | refine blk_drew ?_ | refine blk_alloc ?_ _)); exact BK183.out) hg (Kd.R_ne HO_4.out BK183.out (by decide))); have n1_ := Aside0.mk (hb); have n2_ := Aside0.mk (ho); clear BK183; clear HB; clear HO_4; have BK183 := n0_; have HB := n1_; have HO201 := n2_; clear n0_ n1_ n2_; clear ho hb hg hat; obtain ⟨Ao52, co52, eo52⟩ := Kd.R_slice HO201.out; subst eo52) | ((with_reducible refine gate_callee (f := 35) rfl ?_); refine goesL_ (some 118) rfl rfl Try.func35 (by kernel_rfl) rfl #[.slice Ao52 y199.length co52] rfl (by (try simp only [List.map_toArray, List.map_cons, List.map_nil]); first | done | rfl | (simp only [List.length_drop, List.length_take]; rfl)) ?_; (with_reducible refine (windroseref11_May.calls kj23 _ _ y199 true _ ?side1 ?side2 A49.out).mono ?_); (case side1 => repeat (first | exact (Kd.R_reads' HO201.out).2.2 | (with_reducible refine Kd.C_alloc ?_ _) | (with_reducible refine Kd.C_drewN ?_ _) | (with_reducible refine Kd.C_drew ?_))); (case side2 => exact (Kd.R_reads' HO201.out).2.1); rintro e w' ⟨rfl, ⟨nd, rfl⟩⟩; refine ⟨_, rfl, ?_⟩))
                                    go_roundg kj23
                                    case measure => have := HJ1.out; have := HK2.out; have := HJ16.out; have := HJ23.out; omega
                                    case rel => exact ⟨(y199), (wrap64 (x5_2 + 2)), (by first | rfl | (simp; done) | (simp [*]; done)), H', ⟨by have := HJ1.out; have := HK2.out; have := HJ16.out; have := HJ23.out; omega⟩, ⟨by (with_reducible repeat (first | apply Kd.R_alloc | apply Kd.R_drewN | apply Kd.R_drew)); exact HO201.out⟩, ⟨by (with_reducible repeat (first | refine blk_drewN ?_ _ | refine blk_drew ?_ | refine blk_alloc ?_ _)); exact BK183.out⟩, ⟨by repeat (first | (with_reducible first | exact HB.out | apply below_alloc | apply pw_below_drewN | apply below_drew1 | refine below_set ?_ GE183.out) | exact HB.out)⟩⟩
                                  · replace c50 := Bool.eq_false_iff.mpr c50
                                    subst c50
                                    have H1 : (some (([] : List (S42)), false)) = some (r1, r2) := by rw [if_neg (show ¬ (false = true) by decide)] at H; exact H
                                    clear H
                                    have H := H1
                                    clear H1
                                    simp only [Option.some.injEq, Prod.mk.injEq] at H
                                    obtain ⟨rfl, rfl⟩ := H
                                    go_wp2_with (first | ((with_reducible refine gate_builtin (b := .append) (xs := #[.tmp 111, .tmp 115]) rfl ?_); (try (refine gate_guard (by rfl) ?_; dsimp only)); at_builtin; refine Kd.R_append k42 (w0 := w) w.heap.size rfl (.tmp 111) (.tmp 115) 30 42 (.agg #[(.int .i64 0), (.int .i64 0)]) 16 rfl Try.underlying30 info42 rfl (by decide) (by omega) (.slice Ao25 x4_2.length co25) x4_2 (⟨x6_23, x7_23⟩ : S42) [.int .i64 x6_23, .int .i64 x7_23] (fun _ => True) (fun _ => False) rfl rfl ?aP (fun _ hk => hk.elim) ?aF ?aO ?aB ?aS ?aL ?_; (case aP => exact k42_mkM _ _ _ (⟨x6_23, x7_23⟩ : S42)); (case aB => exact (by repeat (first | (with_reducible first | exact HB.out | apply below_alloc | apply pw_below_drewN | apply below_drew1 | refine below_set ?_ GE183.out) | exact HB.out))); (case aF => exact (fun _ _ => trivial)); (case aO => exact (by (with_reducible repeat (first | apply Kd.R_alloc | apply Kd.R_drewN | apply Kd.R_drew)); exact HO_4.out)); (case aS => exact (below_size (by repeat (first | (with_reducible first | exact HB.out | apply below_alloc | apply pw_below_drewN | apply below_drew1 | refine below_set ?_ GE183.out) | exact HB.out)))); (case aL => have := LMc48.out; omega); intro v200 w53 ho hb hg hat; rw [← Ny199.out] at ho; have n0_ := Aside0.mk (blk_grown (g := gb183) (o := .cells #[.slice (some ad187) l0_0.length c0_0, .slice A0_1 l0_1.length c0_1] 29 (0, 0)) (by (with_reducible repeat (first | refine blk_drewN ?_ _ | refine blk_drew ?_ | refine blk_alloc ?_ _)); exact BK183.out) hg (Kd.R_ne HO_4.out BK183.out (by decide))); have n1_ := Aside0.mk (hb); have n2_ := Aside0.mk (ho); clear BK183; clear HB; clear HO_4; have BK183 := n0_; have HB := n1_; have HO201 := n2_; clear n0_ n1_ n2_; clear ho hb hg hat; obtain ⟨Ao54, co54, eo54⟩ := Kd.R_slice HO201.out; subst eo54) | ((with_reducible refine gate_callee (f := 35) rfl ?_); refine goesL_ (some 118) rfl rfl Try.func35 (by kernel_rfl) rfl #[.slice Ao54 y199.length co54] rfl (by (try simp only [List.map_toArray, List.map_cons, List.map_nil]); first | done | rfl | (simp only [List.length_drop, List.length_take]; rfl)) ?_; (with_reducible refine (windroseref11_May.calls kj23 _ _ y199 false _ ?side1 ?side2 A49.out).mono ?_); (case side1 => repeat (first | exact (Kd.R_reads' HO201.out).2.2 | (with_reducible refine Kd.C_alloc ?_ _) | (with_reducible refine Kd.C_drewN ?_ _) | (with_reducible refine Kd.C_drew ?_))); (case side2 => exact (Kd.R_reads' HO201.out).2.1); rintro e w' ⟨rfl, ⟨nd, rfl⟩⟩; refine ⟨_, rfl, ?_⟩))
                                    go_ret2
                                    exact ⟨_, by first | rfl | (simp [errW_none, errW_some] <;> rfl) | (simp only [← hji15]; first | rfl | (simp [errW_none, errW_some] <;> rfl)) | (simp [*, errW_none, errW_some] <;> rfl), by first | exact Kd.R_nil _ _ _ _ _ | exact Kd.N_nil _ _ _ _ _ | exact Kd.V_nil _ _ _ _ _ | exact Kd.Q_nil _ _ _ _ _ | exact Kd.S_nil _ _ _ _ _, by repeat (first | (with_reducible first | exact HB.out | apply below_alloc | apply pw_below_drewN | apply below_drew1 | refine below_set ?_ GE183.out) | exact HB.out)⟩
                                · rw [if_neg c48] at H
                                  exact absurd H (by simp)
                  · rw [if_neg c16] at H
                    exact absurd H (by simp)
                · rw [if_neg c14] at H
                  exact absurd H (by simp)
              · rw [if_neg c13] at H
                exact absurd H (by simp)
            · rw [if_neg c12] at H
              have c12b0 : decide ((wrap64 (x5_2 + 1)) < (l0_0.length : Int)) = false := decide_eq_false c12
              clear c12
              replace H := Option.bind_eq_some_iff.mp H
              obtain ⟨t203, A550, H⟩ := H
              replace H : ((windroseref02_Ints.f k2 t203 l0_0).bind fun t206 => (if t206 = true then (some (x4_2, true)) else (some (([] : List (S42)), false)))) = some (r1, r2) := H
              have A55 := Aside0.mk A550
              clear A550
              replace H := Option.bind_eq_some_iff.mp H
              obtain ⟨t206, A560, H⟩ := H
              replace H : (if t206 = true then (some (x4_2, true)) else (some (([] : List (S42)), false))) = some (r1, r2) := H
              have A56 := Aside0.mk A560
              clear A560
              by_cases c57 : t206 = true
              · subst c57
                have H1 : (some (x4_2, true)) = some (r1, r2) := by rw [if_pos rfl] at H; exact H
                clear H
                have H := H1
                clear H1
                simp only [Option.some.injEq, Prod.mk.injEq] at H
                obtain ⟨rfl, rfl⟩ := H
                have hcz58_0 : wr.cell? ⟨gb183, 0, none⟩ = some (.slice A0_0 l0_0.length c0_0) := (blk_cell BK183.out 0).trans rfl
                have hcz58_1 : wr.cell? ⟨gb183, 1, none⟩ = some (.slice A0_1 l0_1.length c0_1) := (blk_cell BK183.out 1).trans rfl
                have hfz58_0 := blk_frozen BK183.out 0
                have hfz58_1 := blk_frozen BK183.out 1
                try go_wp2
                have n0_ := Aside0.mk (Kd.R_drew HO_4.out)
                have n1_ := Aside0.mk (blk_drew BK183.out)
                have n2_ := Aside0.mk (below_drew1 HB.out)
                clear HO_4
                clear BK183
                clear HB
                have HO_4 := n0_
                have BK183 := n1_
                have HB := n2_
                clear n0_ n1_ n2_
                obtain ⟨Ao60, co60, eo60⟩ := Kd.R_slice HO_4.out
                (first | subst eo60 | (injection eo60 with f1_ f2_ f3_; have f4_ := f1_.symm; have f5_ := f3_.symm; clear f1_ f2_ f3_; subst f4_; subst f5_))
                refine start_ (n := 6) (S := fun w' => w'.cell? ⟨gb183, 0, none⟩ = some (.slice A0_0 l0_0.length c0_0) ∧ w'.cell? ⟨gb183, 1, none⟩ = some (.slice A0_1 l0_1.length c0_1)) (ds := []) #[false, false, false, false, false, false] (by kernel_rfl) rfl rfl ⟨(blk_cell BK183.out 0).trans rfl, (blk_cell BK183.out 1).trans rfl⟩ (fun hHeld => ?_)
                generalize wr.drew = w59 at HO_4 BK183 HB hHeld ⊢
                refine pure_ (i := 0) (N := some 120) (v := ?_) (a' := ?_) #[true, false, false, false, false, false] rfl rfl (by kernel_rfl) (fun _ _ _ h => h) (Or.inl ⟨by rfl, ?_⟩) ?_ ?_
                rotate_left
                · intro w'
                  go_simp
                  with_reducible rfl
                rotate_left
                · simp only [Act.put, List.setIfInBounds_toArray, List.set_cons_zero, List.set_cons_succ, i64_w, i32_w]
                  rfl
                refine pure_ (i := 2) (N := some 122) (v := ?_) (a' := ?_) #[true, false, true, false, false, false] rfl rfl (by kernel_rfl) (fun _ _ _ h => h) (Or.inl ⟨by rfl, ?_⟩) ?_ ?_
                rotate_left
                · intro w'
                  go_simp
                  with_reducible rfl
                rotate_left
                · simp only [Act.put, List.setIfInBounds_toArray, List.set_cons_zero, List.set_cons_succ, i64_w, i32_w]
                  rfl
                refine take_ (i := 3) (N := some 123) (v := ?_) (a' := ?_) #[true, false, true, true, false, false] rfl rfl (by kernel_rfl) (fun _ _ _ h => h) (Or.inl ⟨by rfl, ?_⟩) hHeld ?_ ?_
                rotate_left
                · rintro w' ⟨s0, s1⟩
                  go_simp
                  with_reducible rfl
                rotate_left
                · simp only [Act.put, List.setIfInBounds_toArray, List.set_cons_zero, List.set_cons_succ, i64_w, i32_w]
                  rfl
                refine one_ (i := 1) (N := some 121) #[true, true, true, true, false, false] rfl rfl (by kernel_rfl) (by decide) (fun K hK => ?_)
                refine goes_ Try.func36 (by kernel_rfl) rfl #[.slice Ao60 x4_2.length co60] (by rfl) rfl rfl (by (try simp only [List.map_toArray, List.map_cons, List.map_nil]); first | done | rfl | (simp only [List.length_drop, List.length_take]; rfl)) ?_
                with_reducible refine (windroseref11_Nums.calls k2 _ _ x4_2 t203 _ ?side1 ?side2 A55.out).mono ?_
                (case side1 => repeat (first | exact (Kd.R_reads' HO_4.out).2.2 | (with_reducible refine Kd.C_alloc ?_ _) | (with_reducible refine Kd.C_drewN ?_ _) | (with_reducible refine Kd.C_drew ?_)))
                (case side2 => exact (Kd.R_reads' HO_4.out).2.1)
                rintro e w61 ⟨v204, rfl, ho0, hb⟩
                refine ⟨_, rfl, ?_⟩
                have n0_ := Aside0.mk (Kd.R_below (by (with_reducible repeat (first | apply Kd.R_alloc | apply Kd.R_drewN | apply Kd.R_drew)); exact HO_4.out) hb)
                have n1_ := Aside0.mk (Kd.R_lower ho0 (below_size (by repeat (first | (with_reducible first | exact HB.out | apply below_alloc | apply pw_below_drewN | apply below_drew1 | refine below_set ?_ GE183.out) | exact HB.out))))
                have n2_ := Aside0.mk (blk_below (g := gb183) (o := .cells #[.slice A0_0 l0_0.length c0_0, .slice A0_1 l0_1.length c0_1] 29 (0, 0)) (by (with_reducible repeat (first | refine blk_drewN ?_ _ | refine blk_drew ?_ | refine blk_alloc ?_ _)); exact BK183.out) hb)
                have n3_ := Aside0.mk (below_step (by repeat (first | (with_reducible first | exact HB.out | apply below_alloc | apply pw_below_drewN | apply below_drew1 | refine below_set ?_ GE183.out) | exact HB.out)) hb)
                clear HO_4
                clear BK183
                clear HB
                have HO_4 := n0_
                have HO205 := n1_
                have BK183 := n2_
                have HB := n3_
                clear n0_ n1_ n2_ n3_
                (try clear hb)
                (try clear hb2)
                (try clear hk)
                (try clear hi)
                (try clear ho0)
                obtain ⟨Ao62, co62, eo62⟩ := Kd.R_slice HO205.out
                (first | subst eo62 | (injection eo62 with f1_ f2_ f3_; have f4_ := f1_.symm; have f5_ := f3_.symm; clear f1_ f2_ f3_; subst f4_; subst f5_))
                refine hK.out _ _ ⟨(blk_cell BK183.out 0).trans rfl, (blk_cell BK183.out 1).trans rfl⟩ (fun hHeld => ?_)
                clear hK K
                refine norm_ (a' := ?_) ?_ ?_
                rotate_left
                · show Act.put _ (some 121) _ = _
                  simp only [Act.put, List.setIfInBounds_toArray, List.set_cons_zero, List.set_cons_succ, i64_w, i32_w]
                  rfl
                refine one_ (i := 4) (N := some 124) #[true, true, true, true, true, false] rfl rfl (by kernel_rfl) (by decide) (fun K hK => ?_)
                refine goes_ Try.func46 (by kernel_rfl) rfl #[.slice Ao62 t203.length co62, .slice A0_0 l0_0.length c0_0] (by rfl) rfl rfl (by (try simp only [List.map_toArray, List.map_cons, List.map_nil]); first | done | rfl | (simp only [List.length_drop, List.length_take]; rfl)) ?_
                with_reducible refine (windroseref02_Ints.calls k2 _ _ t203 _ _ l0_0 true _ ?side1 ?side2 ?side3 ?side4 A56.out).mono ?_
                (case side1 => repeat (first | exact (Kd.R_reads' HO205.out).2.2 | (with_reducible refine Kd.C_alloc ?_ _) | (with_reducible refine Kd.C_drewN ?_ _) | (with_reducible refine Kd.C_drew ?_)))
                (case side2 => exact (Kd.R_reads' HO205.out).2.1)
                (case side3 => repeat (first | exact (Kd.C_below HR0_0.out HB.out) | (with_reducible refine Kd.C_alloc ?_ _) | (with_reducible refine Kd.C_drewN ?_ _) | (with_reducible refine Kd.C_drew ?_)))
                (case side4 => exact HC0_0.out)
                rintro e w' ⟨rfl, ⟨nd, rfl⟩⟩
                refine ⟨_, rfl, ?_⟩
                refine hK.out _ _ ⟨(blk_cell BK183.out 0).trans rfl, (blk_cell BK183.out 1).trans rfl⟩ (fun hHeld => ?_)
                clear hK K
                refine norm_ (a' := ?_) ?_ ?_
                rotate_left
                · show Act.put _ (some 124) _ = _
                  simp only [Act.put, List.setIfInBounds_toArray, List.set_cons_zero, List.set_cons_succ, i64_w, i32_w]
                  rfl
                refine pure_ (i := 5) (N := some 125) (v := ?_) (a' := ?_) #[true, true, true, true, true, true] rfl rfl (by kernel_rfl) (fun _ _ _ h => h) (Or.inl ⟨by rfl, ?_⟩) ?_ ?_
                rotate_left
                · intro w'
                  go_simp
                  with_reducible rfl
                rotate_left
                · simp only [Act.put, List.setIfInBounds_toArray, List.set_cons_zero, List.set_cons_succ, i64_w, i32_w]
                  rfl
                refine done_ (by kernel_rfl) ?_
                try go_wp2
                go_ret2
                exact ⟨_, by first | rfl | (simp [errW_none, errW_some] <;> rfl) | (simp [*, errW_none, errW_some] <;> rfl), by (with_reducible repeat (first | apply Kd.R_alloc | apply Kd.R_drewN | apply Kd.R_drew)); exact HO_4.out, by repeat (first | (with_reducible first | exact HB.out | apply below_alloc | apply pw_below_drewN | apply below_drew1 | refine below_set ?_ GE183.out) | exact HB.out)⟩
              · replace c57 := Bool.eq_false_iff.mpr c57
                subst c57
                have H1 : (some (([] : List (S42)), false)) = some (r1, r2) := by rw [if_neg (show ¬ (false = true) by decide)] at H; exact H
                clear H
                have H := H1
                clear H1
                simp only [Option.some.injEq, Prod.mk.injEq] at H
                obtain ⟨rfl, rfl⟩ := H
                have hcz63_0 : wr.cell? ⟨gb183, 0, none⟩ = some (.slice A0_0 l0_0.length c0_0) := (blk_cell BK183.out 0).trans rfl
                have hcz63_1 : wr.cell? ⟨gb183, 1, none⟩ = some (.slice A0_1 l0_1.length c0_1) := (blk_cell BK183.out 1).trans rfl
                have hfz63_0 := blk_frozen BK183.out 0
                have hfz63_1 := blk_frozen BK183.out 1
                try go_wp2
                have n0_ := Aside0.mk (Kd.R_drew HO_4.out)
                have n1_ := Aside0.mk (blk_drew BK183.out)
                have n2_ := Aside0.mk (below_drew1 HB.out)
                clear HO_4
                clear BK183
                clear HB
                have HO_4 := n0_
                have BK183 := n1_
                have HB := n2_
                clear n0_ n1_ n2_
                obtain ⟨Ao65, co65, eo65⟩ := Kd.R_slice HO_4.out
                (first | subst eo65 | (injection eo65 with f1_ f2_ f3_; have f4_ := f1_.symm; have f5_ := f3_.symm; clear f1_ f2_ f3_; subst f4_; subst f5_))
                refine start_ (n := 6) (S := fun w' => w'.cell? ⟨gb183, 0, none⟩ = some (.slice A0_0 l0_0.length c0_0) ∧ w'.cell? ⟨gb183, 1, none⟩ = some (.slice A0_1 l0_1.length c0_1)) (ds := []) #[false, false, false, false, false, false] (by kernel_rfl) rfl rfl ⟨(blk_cell BK183.out 0).trans rfl, (blk_cell BK183.out 1).trans rfl⟩ (fun hHeld => ?_)
                generalize wr.drew = w64 at HO_4 BK183 HB hHeld ⊢
                refine pure_ (i := 0) (N := some 120) (v := ?_) (a' := ?_) #[true, false, false, false, false, false] rfl rfl (by kernel_rfl) (fun _ _ _ h => h) (Or.inl ⟨by rfl, ?_⟩) ?_ ?_
                rotate_left
                · intro w'
                  go_simp
                  with_reducible rfl
                rotate_left
                · simp only [Act.put, List.setIfInBounds_toArray, List.set_cons_zero, List.set_cons_succ, i64_w, i32_w]
                  rfl
                refine pure_ (i := 2) (N := some 122) (v := ?_) (a' := ?_) #[true, false, true, false, false, false] rfl rfl (by kernel_rfl) (fun _ _ _ h => h) (Or.inl ⟨by rfl, ?_⟩) ?_ ?_
                rotate_left
                · intro w'
                  go_simp
                  with_reducible rfl
                rotate_left
                · simp only [Act.put, List.setIfInBounds_toArray, List.set_cons_zero, List.set_cons_succ, i64_w, i32_w]
                  rfl
                refine take_ (i := 3) (N := some 123) (v := ?_) (a' := ?_) #[true, false, true, true, false, false] rfl rfl (by kernel_rfl) (fun _ _ _ h => h) (Or.inl ⟨by rfl, ?_⟩) hHeld ?_ ?_
                rotate_left
                · rintro w' ⟨s0, s1⟩
                  go_simp
                  with_reducible rfl
                rotate_left
                · simp only [Act.put, List.setIfInBounds_toArray, List.set_cons_zero, List.set_cons_succ, i64_w, i32_w]
                  rfl
                refine one_ (i := 1) (N := some 121) #[true, true, true, true, false, false] rfl rfl (by kernel_rfl) (by decide) (fun K hK => ?_)
                refine goes_ Try.func36 (by kernel_rfl) rfl #[.slice Ao65 x4_2.length co65] (by rfl) rfl rfl (by (try simp only [List.map_toArray, List.map_cons, List.map_nil]); first | done | rfl | (simp only [List.length_drop, List.length_take]; rfl)) ?_
                with_reducible refine (windroseref11_Nums.calls k2 _ _ x4_2 t203 _ ?side1 ?side2 A55.out).mono ?_
                (case side1 => repeat (first | exact (Kd.R_reads' HO_4.out).2.2 | (with_reducible refine Kd.C_alloc ?_ _) | (with_reducible refine Kd.C_drewN ?_ _) | (with_reducible refine Kd.C_drew ?_)))
                (case side2 => exact (Kd.R_reads' HO_4.out).2.1)
                rintro e w66 ⟨v204, rfl, ho0, hb⟩
                refine ⟨_, rfl, ?_⟩
                have n0_ := Aside0.mk (Kd.R_below (by (with_reducible repeat (first | apply Kd.R_alloc | apply Kd.R_drewN | apply Kd.R_drew)); exact HO_4.out) hb)
                have n1_ := Aside0.mk (Kd.R_lower ho0 (below_size (by repeat (first | (with_reducible first | exact HB.out | apply below_alloc | apply pw_below_drewN | apply below_drew1 | refine below_set ?_ GE183.out) | exact HB.out))))
                have n2_ := Aside0.mk (blk_below (g := gb183) (o := .cells #[.slice A0_0 l0_0.length c0_0, .slice A0_1 l0_1.length c0_1] 29 (0, 0)) (by (with_reducible repeat (first | refine blk_drewN ?_ _ | refine blk_drew ?_ | refine blk_alloc ?_ _)); exact BK183.out) hb)
                have n3_ := Aside0.mk (below_step (by repeat (first | (with_reducible first | exact HB.out | apply below_alloc | apply pw_below_drewN | apply below_drew1 | refine below_set ?_ GE183.out) | exact HB.out)) hb)
                clear HO_4
                clear BK183
                clear HB
                have HO_4 := n0_
                have HO205 := n1_
                have BK183 := n2_
                have HB := n3_
                clear n0_ n1_ n2_ n3_
                (try clear hb)
                (try clear hb2)
                (try clear hk)
                (try clear hi)
                (try clear ho0)
                obtain ⟨Ao67, co67, eo67⟩ := Kd.R_slice HO205.out
                (first | subst eo67 | (injection eo67 with f1_ f2_ f3_; have f4_ := f1_.symm; have f5_ := f3_.symm; clear f1_ f2_ f3_; subst f4_; subst f5_))
                refine hK.out _ _ ⟨(blk_cell BK183.out 0).trans rfl, (blk_cell BK183.out 1).trans rfl⟩ (fun hHeld => ?_)
                clear hK K
                refine norm_ (a' := ?_) ?_ ?_
                rotate_left
                · show Act.put _ (some 121) _ = _
                  simp only [Act.put, List.setIfInBounds_toArray, List.set_cons_zero, List.set_cons_succ, i64_w, i32_w]
                  rfl
                refine one_ (i := 4) (N := some 124) #[true, true, true, true, true, false] rfl rfl (by kernel_rfl) (by decide) (fun K hK => ?_)
                refine goes_ Try.func46 (by kernel_rfl) rfl #[.slice Ao67 t203.length co67, .slice A0_0 l0_0.length c0_0] (by rfl) rfl rfl (by (try simp only [List.map_toArray, List.map_cons, List.map_nil]); first | done | rfl | (simp only [List.length_drop, List.length_take]; rfl)) ?_
                with_reducible refine (windroseref02_Ints.calls k2 _ _ t203 _ _ l0_0 false _ ?side1 ?side2 ?side3 ?side4 A56.out).mono ?_
                (case side1 => repeat (first | exact (Kd.R_reads' HO205.out).2.2 | (with_reducible refine Kd.C_alloc ?_ _) | (with_reducible refine Kd.C_drewN ?_ _) | (with_reducible refine Kd.C_drew ?_)))
                (case side2 => exact (Kd.R_reads' HO205.out).2.1)
                (case side3 => repeat (first | exact (Kd.C_below HR0_0.out HB.out) | (with_reducible refine Kd.C_alloc ?_ _) | (with_reducible refine Kd.C_drewN ?_ _) | (with_reducible refine Kd.C_drew ?_)))
                (case side4 => exact HC0_0.out)
                rintro e w' ⟨rfl, ⟨nd, rfl⟩⟩
                refine ⟨_, rfl, ?_⟩
                refine hK.out _ _ ⟨(blk_cell BK183.out 0).trans rfl, (blk_cell BK183.out 1).trans rfl⟩ (fun hHeld => ?_)
                clear hK K
                refine norm_ (a' := ?_) ?_ ?_
                rotate_left
                · show Act.put _ (some 124) _ = _
                  simp only [Act.put, List.setIfInBounds_toArray, List.set_cons_zero, List.set_cons_succ, i64_w, i32_w]
                  rfl
                refine pure_ (i := 5) (N := some 125) (v := ?_) (a' := ?_) #[true, true, true, true, true, true] rfl rfl (by kernel_rfl) (fun _ _ _ h => h) (Or.inl ⟨by rfl, ?_⟩) ?_ ?_
                rotate_left
                · intro w'
                  go_simp
                  with_reducible rfl
                rotate_left
                · simp only [Act.put, List.setIfInBounds_toArray, List.set_cons_zero, List.set_cons_succ, i64_w, i32_w]
                  rfl
                refine done_ (by kernel_rfl) ?_
                try go_wp2
                go_ret2
                exact ⟨_, by first | rfl | (simp [errW_none, errW_some] <;> rfl) | (simp [*, errW_none, errW_some] <;> rfl), by first | exact Kd.R_nil _ _ _ _ _ | exact Kd.N_nil _ _ _ _ _ | exact Kd.V_nil _ _ _ _ _ | exact Kd.Q_nil _ _ _ _ _ | exact Kd.S_nil _ _ _ _ _, by repeat (first | (with_reducible first | exact HB.out | apply below_alloc | apply pw_below_drewN | apply below_drew1 | refine below_set ?_ GE183.out) | exact HB.out)⟩
end Go.Proofs.Ytlpohipneianjaa.G
end
section
set_option linter.unusedVariables false
set_option linter.unusedSimpArgs false
namespace Go.Proofs.Ytlpohipneianjaa.G
open Go Go.RowKit Go.Shelf Go.Proofs.YtlpohipneianjaaW.PrintWords Go.Proofs.YtlpohipneianjaaW.PrintLast Go.Proofs.YtlpohipneianjaaW.PrintMore
attribute [local go_sem] Oper.semAt_some
def KeepsTwo (Bs Bn : Nat) (W W' : World) : Prop := W'.heap[Bs]? = W.heap[Bs]? ∧ W'.heap[Bn]? = W.heap[Bn]?
theorem cell_of_heap {W W' : World} {b : Nat} (h : W'.heap[b]? = W.heap[b]?) (o : Nat) : W'.cell? ⟨b, o, none⟩ = W.cell? ⟨b, o, none⟩ := by unfold World.cell?; simp [h]
theorem keepsTwo_t {Bs Bn : Nat} {A B C : World} (h : KeepsTwo Bs Bn A B) (k : KeepsTwo Bs Bn B C) : KeepsTwo Bs Bn A C := ⟨k.1.trans h.1, k.2.trans h.2⟩
theorem keepsTwo_b {Bs Bn N : Nat} (h1 : Bs < N) (h2 : Bn < N) : ∀ (W : World) (l : Nat) (o o' : Obj), N ≤ l → W.heap[l]? = some o → o.isCells = false → o.isWalk = false → KeepsTwo Bs Bn W (W.putObj l o') :=
  fun W l o o' hl _ _ _ => ⟨World.putObj_heap_other (by omega), World.putObj_heap_other (by omega)⟩
theorem addr_add (b off j : Nat) : (⟨b, off, none⟩ : Addr).add j = ⟨b, off + j, none⟩ := by
  unfold Addr.add
  split <;> simp_all
theorem cut3 {P : Program} (t e : TypeId) (kl kh km : IntKind) {i : TypeInfo} (ht : P.underlying t = some (.slice e)) (hi : P.info? e = some i) (size : Nat) (hsz : i.size = size) (A : Option Addr) (n c : Nat) (lo hi' mx : Int) (h0 : 0 ≤ lo) (h1 : lo ≤ hi') (h2 : hi' ≤ mx) (hc : mx ≤ c) :
    ∀ W : World, (Instr.slice t (.slice A n c) (some (.int kl lo)) (some (.int kh hi')) (some (.int km mx))).run P W = .ok (.slice (if mx.toNat = lo.toNat then A else A.map (·.add (lo.toNat * size))) (hi'.toNat - lo.toNat) (mx.toNat - lo.toNat)) W := by
  intro W
  have hel : P.elem t = e := by simp [Program.elem, ht]
  have hu : P.underlying t = some (.slice (P.elem t)) := by rw [hel]; exact ht
  rw [run_slice_lhm W t A n c hu kl kh km lo hi' mx h0 h1 h2 hc, hel]
  simp [sizeOf, typeInfo, hi, hsz, sliced, Result.andThen]
set_option maxRecDepth 100000 in
set_option maxHeartbeats 2000000 in
theorem chunk1_in (F : Fence) (n : Nat) (h7 : F.fn 56) (hro : F.round = none) (hn : 1 ≤ n) (l Bs Bn b off m cap : Nat) (hm : m ≤ 100000) (hcap : 2 * m ≤ cap) (J Jx : List (Fin m) → World → Prop)
    (hJd : ∀ pre W, J pre W → J pre W.drew)
    (hY : ∀ pre (x : Fin m) W, J pre W → pre.length < m → YieldAt F (n - 1) Try.prog l #[.slice (some ⟨b, off + 2 * x.val, none⟩) 2 2] W fun e W' =>
      (e = .returned (.bool true) ∧ J (pre ++ [x]) W' ∧ KeepsTwo Bs Bn W W') ∨ (e = .returned (.bool false) ∧ Jx (pre ++ [x]) W'))
    (W : World) (hBs : W.cell? ⟨Bs, 0, none⟩ = some (.slice (some ⟨b, off, none⟩) (2 * m) cap)) (hBn : W.cell? ⟨Bn, 0, none⟩ = some (.int .i64 2)) (h0 : J [] W) :
    CallsIn F n Try.prog 56 #[.func (.yield l) #[] #[], .pointer (some ⟨Bs, 0, none⟩), .pointer (some ⟨Bn, 0, none⟩)] W fun e W' => (∃ v, e = .returned v) ∧
      ((∃ ys, ys = List.finRange m ∧ J ys W') ∨ (∃ pre, pre <+: List.finRange m ∧ Jx pre W')) := by
  refine callsIn_of_wp Try.func56 rfl h7 ?_ hro
  simp only [Try.ntmps56, List.size_toArray, List.length_cons, List.length_nil, Nat.reduceAdd, Nat.reduceSub, Array.replicate_succ, Array.replicate_zero, List.push_toArray, List.append_toArray, List.nil_append, List.cons_append]
  gi_wp2
  gi_loopw [4] (fun i wr => ∃ k : Nat, k ≤ m ∧ i = .int .i64 (2 * k : Nat) ∧ J ((List.finRange m).take k) wr ∧ KeepsTwo Bs Bn W wr)
    (fun i _ => 2 * m - (intOf i).toNat)
  case atStart => exact ⟨0, Nat.zero_le _, rfl, h0, rfl, rfl⟩
  case round =>
    obtain ⟨k, hk, rfl, hJs, hnx⟩ := hrel
    have hs : wr.cell? ⟨Bs, 0, none⟩ = some (.slice (some ⟨b, off, none⟩) (2 * m) cap) := (cell_of_heap hnx.1 0).trans hBs
    have hnn : wr.cell? ⟨Bn, 0, none⟩ = some (.int .i64 2) := (cell_of_heap hnx.2 0).trans hBn
    by_cases hlt : k < m
    · obtain ⟨i0, hi, hz0, hz1, hz2⟩ := info_parts info3
      have fc1 : ∀ W : World, (Instr.slice 26 (.slice (some ⟨b, off, none⟩) (2 * m) cap) (some (.int .i64 ((2 * k : Nat) : Int))) none none).run Try.prog W = .ok (.slice (some ⟨b, off + 2 * k, none⟩) (2 * m - 2 * k) (cap - 2 * k)) W := by
        intro W
        have h := cut_from (P := Try.prog) 26 3 .i64 Try.underlying26 hi 1 hz1 (some ⟨b, off, none⟩) (2 * m) cap ((2 * k : Nat) : Int) (by omega) (by omega) W
        rw [Int.toNat_natCast, if_neg (by omega), Nat.mul_one] at h
        rw [h, Option.map_some, addr_add]
      have fc2 : ∀ W : World, (Instr.slice 26 (.slice (some ⟨b, off, none⟩) (2 * m) cap) (some (.int .i64 ((2 * k : Nat) : Int))) (some (.int .i64 (((2 * k : Nat) : Int) + 2))) (some (.int .i64 (((2 * k : Nat) : Int) + 2)))).run Try.prog W = .ok (.slice (some ⟨b, off + 2 * k, none⟩) 2 2) W := by
        intro W
        have h := cut3 (P := Try.prog) 26 3 .i64 .i64 .i64 Try.underlying26 hi 1 hz1 (some ⟨b, off, none⟩) (2 * m) cap ((2 * k : Nat) : Int) (((2 * k : Nat) : Int) + 2) (((2 * k : Nat) : Int) + 2) (by omega) (by omega) (by omega) (by omega) W
        rw [if_neg (by omega), Int.toNat_natCast, Nat.mul_one, show (((2 * k : Nat) : Int) + 2).toNat - 2 * k = 2 by omega] at h
        rw [h, Option.map_some, addr_add]
      have hmn : ¬ ((2 * m - 2 * k : Nat) : Int) < 2 := by omega
      have htk : (List.finRange m).take (k + 1) = (List.finRange m).take k ++ [⟨k, hlt⟩] := by
        rw [List.take_succ_eq_append_getElem (by simpa using hlt)]
        simp
      obtain ⟨fn, tmps, assign, body, hy, hR⟩ := hY _ ⟨k, hlt⟩ wr.drew (hJd _ _ hJs) (by simp; omega)
      dsimp only at hy
      clear hi hz0 hz1 hz2
      gi_wp2
      gi_region
      all_goals gi_wp2
      all_goals refine hR.mono ?_
      all_goals rintro e W3 (⟨rfl, hJ3, hk3⟩ | ⟨rfl, hJx3⟩)
      all_goals first
        | (have hnn3 : W3.cell? ⟨Bn, 0, none⟩ = some (.int .i64 2) := (cell_of_heap hk3.2 0).trans (by simpa using hnn)
           gi_wp2
           go_roundw
           case rel => exact ⟨k + 1, by omega, by simp; omega, by rw [htk]; exact hJ3, keepsTwo_t (B := wr.drew) hnx hk3⟩
           case measure => simp [intOf]; omega)
        | (gi_wp2
           refine bodyPost_ret (results_none rfl _ _ _) rfl ?_
           exact ⟨⟨_, rfl⟩, .inr ⟨_, ⟨(List.finRange m).drop (k + 1), by rw [← htk, List.take_append_drop]⟩, hJx3⟩⟩)
    · obtain rfl : k = m := by omega
      gi_wp2
      go_end0
      exact ⟨⟨_, rfl⟩, .inl ⟨_, by rw [List.take_of_length_le (by simp)], hJs⟩⟩
set_option maxRecDepth 100000 in
set_option maxHeartbeats 1000000 in
theorem chunk0_in (F : Fence) (n : Nat) (h7 : F.fn 56) (hro : F.round = none) (l Bs Bn : Nat) (A : Option Addr) (cap : Nat) (P : World → Prop) (W : World) (hBs : W.cell? ⟨Bs, 0, none⟩ = some (.slice A 0 cap)) (h0 : P W) :
    CallsIn F n Try.prog 56 #[.func (.yield l) #[] #[], .pointer (some ⟨Bs, 0, none⟩), .pointer (some ⟨Bn, 0, none⟩)] W fun e W' => (∃ v, e = .returned v) ∧ P W' := by
  refine callsIn_of_wp Try.func56 rfl h7 ?_ hro
  simp only [Try.ntmps56, List.size_toArray, List.length_cons, List.length_nil, Nat.reduceAdd, Nat.reduceSub, Array.replicate_succ, Array.replicate_zero, List.push_toArray, List.append_toArray, List.nil_append, List.cons_append]
  gi_wp2
  gi_loopw [4] (fun i wr => i = .int .i64 0 ∧ P wr ∧ wr.cell? ⟨Bs, 0, none⟩ = some (.slice A 0 cap)) (fun _ _ => 0)
  case atStart => exact ⟨rfl, h0, hBs⟩
  case round =>
    obtain ⟨rfl, hP, hs⟩ := hrel
    gi_wp2
    go_end0
    exact ⟨⟨_, rfl⟩, hP⟩
set_option maxHeartbeats 1000000 in
theorem chunk_in (F : Fence) (n : Nat) (h5 : F.fn 47) (hro : F.round = none) (a : Option Addr) (len cap : Nat) (w : World) :
    CallsIn F n Try.prog 47 #[.slice a len cap, .int .i64 2] w fun e w' => e = .returned (.func (.func 56) #[] #[.pointer (some ⟨w.heap.size, 0, none⟩), .pointer (some ⟨w.heap.size + 1, 0, none⟩)]) ∧ w' = (w.alloc (.cells #[.slice a len cap] 26)).alloc (.cells #[.int .i64 2] 3) := by
  refine callsIn_of_wp Try.func47 rfl h5 ?_ hro
  simp only [Try.ntmps47, List.size_toArray, List.length_cons, List.length_nil, Nat.reduceAdd, Nat.reduceSub, Array.replicate_succ, Array.replicate_zero, List.push_toArray, List.append_toArray, List.nil_append, List.cons_append]
  gi_wp2
  go_ret
  exact ⟨rfl, rfl⟩
def ChunkOf (m : Nat) (sv : Value) (b off : Nat) : Prop := (m = 0 ∧ ∃ A cap, sv = .slice A 0 cap) ∨ ∃ cap, sv = .slice (some ⟨b, off, none⟩) (2 * m) cap ∧ 2 * m ≤ cap
theorem chunk_stops (F : Fence) (n : Nat) (h7 : F.fn 56) (hro : F.round = none) (hn : 1 ≤ n) (Bs Bn b off m : Nat) (hm : m ≤ 100000) (sv : Value) (hsv : ChunkOf m sv b off) (w : World) (hBs0 : Bs < w.heap.size) (hBn0 : Bn < w.heap.size)
    (hBs : w.cell? ⟨Bs, 0, none⟩ = some sv) (hBn : w.cell? ⟨Bn, 0, none⟩ = some (.int .i64 2)) :
    SeqStopsK F n Try.prog 56 #[.pointer (some ⟨Bs, 0, none⟩), .pointer (some ⟨Bn, 0, none⟩)] (fun x : Fin m => #[.slice (some ⟨b, off + 2 * x.val, none⟩) 2 2]) (KeepsTwo Bs Bn) (fun ys => ys = List.finRange m) (fun pre => pre <+: List.finRange m) m w := fun l J Jx W hW hJ _ hY h0 => by
  have hs := (hW.cell (p := ⟨Bs, 0, none⟩) hBs0).trans hBs
  have hn' := (hW.cell (p := ⟨Bn, 0, none⟩) hBn0).trans hBn
  have hJd : ∀ pre W1, J pre W1 → J pre W1.drew := fun pre W1 h => hJ pre W1 _ none h ⟨rfl, rfl, rfl, Nat.le_refl _, fun _ _ _ => rfl⟩ (fun r e => by cases e)
  rcases hsv with ⟨rfl, A, cap, rfl⟩ | ⟨cap, rfl, hc⟩
  · exact (chunk0_in F n h7 hro l Bs Bn A cap (J []) W hs h0).mono fun e W' ⟨he, hj⟩ => ⟨he, .inl ⟨[], by simp, hj⟩⟩
  · exact chunk1_in F n h7 hro hn l Bs Bn b off m cap hm hc J Jx hJd hY W hs hn' h0
end Go.Proofs.Ytlpohipneianjaa.G
end
section
namespace Go
section
variable {F : Fence} {n : Nat} {P : Program} {ops : Array Oper} {Q : Exit → Act → World → Prop} {md : Region.Mode} {S : World → Prop}
def YieldsHeld (P : Program) (ops : Array Oper) (S : World → Prop) (o : Oper) (v : Value) (a : Act) : Prop := YieldsIf P ops S o v a ∧ ∀ w, o.about P w a.eval = none
def NoDefers (ops : Array Oper) : Prop := ∀ (j : Nat) (o : Oper), ops[j]? = some o → ∀ c, o.op ≠ .defer c
theorem YieldsHeld.wpOpIn {i : Nat} {o : Oper} {v : Value} {a : Act} (hnd : NoDefers ops) (hi : ops[i]? = some o) (hy : YieldsHeld P ops S o v a)
    {K : Act → World → Prop} {w : World} (hS : S w) (h : K (a.put o.dst v) w) : wpOpIn F n P ops Q i K a w := by
  unfold Go.wpOpIn
  simp only [hi]
  have hab : ∀ f, o.about P w a.eval = some f → F.fn f := fun f hf => by rw [hy.2 w] at hf; cases hf
  rcases hy.1 with ⟨hw, hv⟩ | ⟨hw, rfl⟩
  · simp only [hw, if_true, Oper.wpIn, Oper.semAt_eq _ _ _ (hnd i o hi), hv w hS, Oper.uponIn]; exact ⟨hab, h⟩
  · simp only [hw, Bool.false_eq_true, if_false]; exact ⟨hab, h⟩
theorem YieldsHeld.of_same {o : Oper} {v : Value} {a a' : Act} (hy : YieldsHeld P ops S o v a) (he : execOp a'.eval o = execOp a.eval o)
    (hw : Region.wanted o (yielded ops a'.tmps) = Region.wanted o (yielded ops a.tmps)) (hb : ∀ w, o.about P w a'.eval = o.about P w a.eval) : YieldsHeld P ops S o v a' :=
  ⟨hy.1.of_same he hw, fun w => by rw [hb w]; exact hy.2 w⟩
theorem wpOpIn_putHeld {j : Nat} {oi oj : Oper} {v : Value} (hnd : NoDefers ops) (hj : ops[j]? = some oj) (hap : oi.apart ops oj = true)
    (hsi : ∀ cs b, oi.op ≠ .select cs b) (hsj : ∀ cs b, oj.op ≠ .select cs b)
    (hQ : ∀ c a w, Q (.panic c) (a.put oi.dst v) w → Q (.panic c) a w) {K : Act → World → Prop} {a : Act} {w : World}
    (hy : YieldsHeld P ops S oi v a) (h : wpOpIn F n P ops Q j K (a.put oi.dst v) w) :
    wpOpIn F n P ops Q j (fun a' w' => YieldsHeld P ops S oi v a' ∧ K (a'.put oi.dst v) w') a w := by
  have hndj := hnd j oj hj
  obtain ⟨h1, h2, h3⟩ := Oper.apart_spec hap
  have keep : ∀ (a : Act), YieldsHeld P ops S oi v a → ∀ u, YieldsHeld P ops S oi v (a.put oj.dst u) := fun a hy u =>
    YieldsHeld.of_same hy (execOp_put oi hsi a oj.dst u h3) (wanted_put oi a oj.dst u h3) (fun w => about_put oi w a oj.dst u h3)
  have keepD : ∀ d, YieldsHeld P ops S oi v { a with defers := d :: a.defers } := fun d => YieldsHeld.of_same hy rfl rfl (fun _ => rfl)
  unfold wpOpIn at *
  simp only [hj] at *
  rw [wanted_put oj a oi.dst v h1, about_put oj w a oi.dst v h1] at h
  split
  · rename_i hw
    simp only [hw, if_true] at h
    unfold Oper.wpIn at *
    rw [about_put oj w a oi.dst v h1] at h
    refine ⟨h.1, ?_⟩
    have h := h.2
    rw [Oper.semAt_eq _ _ _ hndj, execOp_put oj hsj a oi.dst v h1] at h
    rw [Oper.semAt_eq _ _ _ hndj]
    generalize (execOp a.eval oj).run P w = r at *
    cases r with
    | ok x w' =>
      cases x <;> simp only [Oper.uponIn] at h ⊢
      case value u => exact ⟨keep a hy u, by rw [← Act.put_comm a v u h2]; exact h⟩
      case skip => exact ⟨keep a hy _, by rw [← Act.put_comm a v undef h2]; exact h⟩
      case defer d =>
        refine ⟨keep _ (keepD d) _, ?_⟩
        rw [← Act.put_comm _ v undef h2, ← Act.put_defers]
        exact h
      case enter f args =>
        refine ⟨h.1, CallsIn.mono h.2 fun e w'' he => ?_⟩
        cases e with
        | returned u => exact ⟨keep a hy u, by rw [← Act.put_comm a v u h2]; exact he⟩
        | panicked c => exact hQ _ _ _ he
        | outgrown => exact he
      case row row args => exact ⟨h.1, RowsIn.mono h.2 fun u w'' he => ⟨keep a hy u, by rw [← Act.put_comm a v u h2]; exact he⟩⟩
      case round l f tmps assign body =>
        refine ⟨h.1, RoundIn.mono h.2 fun e w'' he => ?_⟩
        cases e with
        | returned u => exact ⟨keep a hy u, by rw [← Act.put_comm a v u h2]; exact he⟩
        | panicked c => exact hQ _ _ _ he
        | outgrown => exact he
    | halt x w' =>
      cases x <;> simp only [Oper.uponIn] at h ⊢
      case panic u => exact hQ _ _ _ h
  · rename_i hw
    simp only [hw] at h
    exact ⟨h.1, keep a hy _, by rw [← Act.put_comm a v undef h2]; exact h.2⟩
def wpAnyHeld (F : Fence) (n : Nat) (P : Program) (md : Region.Mode) (ops : Array Oper) (Q : Exit → Act → World → Prop) (S : World → Prop) : Nat → Array Bool → Act → World → Prop
  | 0, listed, a, w => Region.ready md ops listed = [] ∧ Q .normal a w
  | fuel + 1, listed, a, w =>
    (Region.ready md ops listed = [] → Q .normal a w) ∧
    ∀ i ∈ Region.ready md ops listed, wpOpIn F n P ops Q i (fun a' w' => S w' ∧ wpAnyHeld F n P md ops Q S fuel (listed.setIfInBounds i true) a' w') a w
theorem wpAnyIn_of_held : ∀ (fuel : Nat) (listed : Array Bool) (a : Act) (w : World), wpAnyHeld F n P md ops Q S fuel listed a w → wpAnyIn F n P md ops Q fuel listed a w
  | 0, _, _, _, h => h
  | fuel + 1, _, _, _, h => ⟨h.1, fun i hi => wpOpIn_mono (fun a' w' h' => wpAnyIn_of_held fuel _ a' w' h'.2) (h.2 i hi)⟩
theorem wpAnyHeld_first {i : Nat} {oi : Oper} {v : Value} (hnd : NoDefers ops) (hi : ops[i]? = some oi) (hsel : ∀ (j : Nat) (o : Oper) cs b, ops[j]? = some o → o.op ≠ .select cs b)
    (hQ : ∀ c a w, Q (.panic c) (a.put oi.dst v) w → Q (.panic c) a w) :
    ∀ (fuel : Nat) (listed : Array Bool) (a : Act) (w : World),
      (∀ j oj, ops[j]? = some oj → j ≠ i → listed.getD j true = false → (∀ e ∈ oj.after, Region.binds md e = true → e.on ≠ i) → oi.apart ops oj = true) →
      i ∈ Region.ready md ops listed → YieldsHeld P ops S oi v a → S w →
      wpAnyHeld F n P md ops Q S fuel (listed.setIfInBounds i true) (a.put oi.dst v) w → wpAnyHeld F n P md ops Q S (fuel + 1) listed a w := by
  intro fuel
  induction fuel with
  | zero =>
    intro listed a w _ hr hy hS H
    refine ⟨fun h => (by rw [h] at hr; cases hr), fun j hj => ?_⟩
    by_cases hji : j = i
    · subst hji; exact YieldsHeld.wpOpIn hnd hi hy hS ⟨hS, H⟩
    · have := ready_mono hj hji
      rw [H.1] at this
      cases this
  | succ fuel ih =>
    intro listed a w hfree hr hy hS H
    refine ⟨fun h => (by rw [h] at hr; cases hr), fun j hj => ?_⟩
    by_cases hji : j = i
    · subst hji; exact YieldsHeld.wpOpIn hnd hi hy hS ⟨hS, H⟩
    · have h1 := H.2 j (ready_mono hj hji)
      obtain ⟨hjun, oj, hoj, hall⟩ := mem_ready.1 hj
      have hnot : ∀ e ∈ oj.after, Region.binds md e = true → e.on ≠ i := fun e he hb heq => by
        have h1 := hall e he hb
        have h0 := (mem_ready.1 hr).1
        rw [heq] at h1
        rcases Nat.lt_or_ge i listed.size with h' | h'
        · simp [h'] at h0 h1; rw [h0] at h1; cases h1
        · simp [Array.getElem?_eq_none h'] at h1
      have h2 := wpOpIn_putHeld hnd hoj (hfree j oj hoj hji hjun hnot) (fun cs b => hsel i oi cs b hi) (fun cs b => hsel j oj cs b hoj) hQ hy h1
      have hfree' : ∀ k ok, ops[k]? = some ok → k ≠ i → (listed.setIfInBounds j true).getD k true = false →
          (∀ e ∈ ok.after, Region.binds md e = true → e.on ≠ i) → oi.apart ops ok = true := fun k ok hk hki hun hno => by
        refine hfree k ok hk hki ?_ hno
        by_cases hjk : j = k
        · subst hjk; exact hjun
        · rw [getD_set_ne true hjk] at hun; exact hun
      refine wpOpIn_mono (fun a' w' h3 => ⟨h3.2.1, ih (listed.setIfInBounds j true) a' w' hfree' (ready_mono hr (Ne.symm hji)) h3.1 h3.2.1 ?_⟩) h2
      rw [Array.setIfInBounds_comm _ _ hji]
      exact h3.2.2
theorem wpAnyHeld_take {i : Nat} {oi : Oper} {v : Value} {fuel : Nat} {listed : Array Bool} {a : Act} {w : World} (hnd : NoDefers ops) (hi : ops[i]? = some oi)
    (hs : Region.noSelect ops = true) (hf : Region.free md ops listed i = true) (hr : (Region.ready md ops listed).contains i = true)
    (hQ : ∀ c a w, Q (.panic c) (a.put oi.dst v) w → Q (.panic c) a w) (hy : YieldsHeld P ops S oi v a) (hS : S w)
    (h : wpAnyHeld F n P md ops Q S fuel (listed.setIfInBounds i true) (a.put oi.dst v) w) : wpAnyHeld F n P md ops Q S (fuel + 1) listed a w :=
  wpAnyHeld_first hnd hi (Region.noSelect_spec hs) hQ fuel listed a w (Region.free_spec hi hf) (by simpa using hr) hy hS h
theorem wpAnyHeld_one {i : Nat} {o : Oper} {fuel : Nat} {listed : Array Bool} {a : Act} {w : World} (hr : Region.ready md ops listed = [i]) (ho : ops[i]? = some o) (hw : Region.wanted o (yielded ops a.tmps) = true)
    (h : ∀ K : Act → World → Prop, (∀ a w, S w → wpAnyHeld F n P md ops Q S fuel (listed.setIfInBounds i true) a w → K a w) → o.wpIn F n P a w K Q) : wpAnyHeld F n P md ops Q S (fuel + 1) listed a w :=
  ⟨fun h0 => absurd (hr.symm.trans h0) (by simp), fun j hj => by
    rw [hr] at hj
    simp at hj
    subst hj
    unfold wpOpIn
    simp only [ho]
    rw [if_pos hw]
    exact h _ (fun _ _ h1 h2 => ⟨h1, h2⟩)⟩
theorem wpAnyHeld_done {listed : Array Bool} {a : Act} {w : World} (hr : Region.ready md ops listed = []) (h : Q .normal a w) :
    ∀ fuel, wpAnyHeld F n P md ops Q S fuel listed a w
  | 0 => ⟨hr, h⟩
  | _ + 1 => ⟨fun _ => h, by rw [hr]; simp⟩
theorem wpIn_region_heldF (S : World → Prop) {id : Nat} {a : Act} {w : World} (hm : P.follows .mixedOrders = true)
    (h : wpAnyHeld F n P .any ops Q S ops.size (Array.replicate ops.size false) a w.drew) : (Code.region id ops true).wpIn F n P Q a w :=
  wpIn_region_any hm (wpAnyIn_of_held _ _ _ _ h)
end
end Go
namespace Go.Proofs.Ytlpohipneianjaa.G
open Go Go.RowKit Go.Proofs.YtlpohipneianjaaW.PrintWords Go.Proofs.YtlpohipneianjaaW.PrintLast Go.Proofs.YtlpohipneianjaaW.PrintMore
section
variable {F : Fence} {nF : Nat} {P : Program} {ops : Array Oper} {rest : List Oper} {o : Oper} {a : Act} {Q : Exit → Act → World → Prop} {α : Type}
theorem R_append_in (d : Kd α) {w0 W : World} (base : Nat) (hgd : o.guard = none) (s x : Operand) (t e : TypeId) (z : Value) (bytes : Nat)
    (ho : o.op = .call { callee := .builtin .append, args := #[s, x], argTypes := #[t, t] })
    (ht : P.underlying t = some (.slice e)) (hinfo : (P.info? e).map (fun i => (i.zero, i.size, i.bytes)) = some (some z, d.sz, bytes)) (hz : z.cells.size = d.sz) (hs0 : 0 < d.sz) (hb0 : 0 < bytes)
    (v : Value) (xs : List α) (p : α) (cs : List Value) (ok okp : Nat → Prop) (hs : a.eval s = v) (hx : a.eval x = .slice (some ⟨W.heap.size, 0, none⟩) 1 1) (hp : d.M W base okp p cs) (hokp : ∀ k, okp k → ok k ∧ some k ≠ v.ownBlock) (hfresh : ∀ k, W.heap.size ≤ k → ok k)
    (HO : d.R e W base ok v xs) (HB : Below base w0 W) (hbase : base ≤ W.heap.size) (hl : (xs.length + 1) * bytes ≤ 140737488355328)
    (h : ∀ v1 w1, d.R e w1 base ok v1 (xs ++ [p]) → Below base w0 w1 → W.grownBy w1 v.ownBlock → (v1.ownBlock = v.ownBlock ∨ ∃ b, v1.ownBlock = some b ∧ W.heap.size ≤ b) → wpListIn F nF P ops Q rest (a.put o.dst v1) w1) :
    wpListIn F nF P ops Q (o :: rest) a (W.alloc (.cells cs.toArray e)) := by
  obtain ⟨h0, inner, HOo, hr⟩ := HO
  obtain ⟨i0, hi, hzz⟩ := Option.map_eq_some_iff.1 hinfo
  simp only [Prod.mk.injEq] at hzz
  obtain ⟨hz0, hz1, hz2⟩ := hzz
  have hlen : xs.length + 1 ≤ 140737488355328 := Nat.le_trans (Nat.le_mul_of_pos_right _ hb0) hl
  have hys : cs.length = d.sz := d.K_len (d.K_of_M hp)
  refine wpListIn_append_own_at (w := W.alloc (.cells cs.toArray e)) hgd s x t ho base e i0 z d.sz bytes ht hi hz0 hz1 hz2 hz hs0 v xs.length inner hs (HOo.alloc _) ⟨W.heap.size, 0, none⟩ 1 1 cs hx (by rw [hys]; simp)
    (by simpa using World.news_of_block (cs := cs.toArray) (t := e) (fr := (0, 0)) (heap_alloc_new W (.cells cs.toArray e))) (d.K_one (d.K_of_M hp)) (by simp only [maxLen]; omega) hl (by simp; omega) ?_
  intro v1 w1 hown hg _ hat
  have hg' := World.grownBy.trans (World.grownBy_alloc W (.cells cs.toArray e) v.ownBlock) hg
  have hat' : v1.ownBlock = v.ownBlock ∨ ∃ b, v1.ownBlock = some b ∧ W.heap.size ≤ b := by
    rcases hat with hat | hat
    · exact .inl hat
    · exact .inr ⟨_, hat, by simp⟩
  exact h v1 w1 (Kd.R_appended h0 hr hp hokp hfresh hown hg' hat') ((HB.alloc hbase _).grown hg (by simp; omega) (own_base HOo)) hg' hat'
end
end Go.Proofs.Ytlpohipneianjaa.G
end
section
set_option linter.unusedVariables false
set_option linter.unusedSimpArgs false
namespace Go.Proofs.Ytlpohipneianjaa.G
open Go Go.RowKit Go.Shelf Go.Proofs.YtlpohipneianjaaW.PrintWords Go.Proofs.YtlpohipneianjaaW.PrintLast Go.Proofs.YtlpohipneianjaaW.PrintMore
attribute [local go_sem] Oper.semAt_some
def inB (x : Int) : Bool := decide (-4398046511104 ≤ x) && decide (x ≤ 4398046511104)
def unpStep (z : List S42 × S42 × S42) (a b : Int) : List S42 × S42 × S42 :=
  (z.1 ++ [⟨wrap64 (z.2.1.f0 + wrap64 (z.2.2.f0 + a)), wrap64 (z.2.1.f1 + wrap64 (z.2.2.f1 + b))⟩], ⟨wrap64 (z.2.1.f0 + wrap64 (z.2.2.f0 + a)), wrap64 (z.2.1.f1 + wrap64 (z.2.2.f1 + b))⟩,
    if z.1.length + 1 > 1 then ⟨wrap64 (z.2.2.f0 + a), wrap64 (z.2.2.f1 + b)⟩ else z.2.2)
def numA (nums : List Int) (j : Nat) : Int := rd nums ((1 + 2 * j : Nat) : Int)
def numB (nums : List Int) (j : Nat) : Int := rd nums ((2 + 2 * j : Nat) : Int)
def goodAt (nums : List Int) (j : Nat) : Bool := inB (numA nums j) && inB (numB nums j)
def unpSt (nums : List Int) {m : Nat} (pre : List (Fin m)) : List S42 × S42 × S42 := pre.foldl (fun z j => unpStep z (numA nums j.val) (numB nums j.val)) ([], z42, z42)
theorem unpSt_snoc (nums : List Int) {m : Nat} (pre : List (Fin m)) (x : Fin m) : unpSt nums (pre ++ [x]) = unpStep (unpSt nums pre) (numA nums x.val) (numB nums x.val) := by simp [unpSt]
set_option maxHeartbeats 1000000 in
theorem block_in_eq (a : Int) (w : World) : Calls Try.prog 48 #[.int .i64 a] w fun e w' => e = .returned (.bool (inB a)) ∧ w' = w := by
  by_cases h1 : -4398046511104 ≤ a
  · by_cases h2 : a ≤ 4398046511104
    · have e : inB a = true := by simp [inB, h1, h2]
      rw [e]
      go_enter Try.func48, Try.ntmps48
      go_wp2
      go_ret
      exact ⟨rfl, rfl⟩
    · have e : inB a = false := by simp [inB, h2]
      rw [e]
      have h3 : decide (a ≤ 4398046511104) = false := decide_eq_false h2
      go_enter Try.func48, Try.ntmps48
      go_wp2
      go_ret
      exact ⟨rfl, rfl⟩
  · have e : inB a = false := by simp [inB, h1]
    rw [e]
    have h3 : decide (-4398046511104 ≤ a) = false := decide_eq_false h1
    go_enter Try.func48, Try.ntmps48
    go_wp2
    go_ret
    exact ⟨rfl, rfl⟩
theorem blk_turn {W W' : World} {row : Option Nat} {l : Nat} {cs : Array Value} {t : Nat} (h : W.heap[l]? = some (.cells cs t (0, 0))) (hg : W.grownBy W' row) (hr : ∀ r, row = some r → ∃ o : Obj, W.heap[r]? = some o ∧ o.isCells = false) : W'.heap[l]? = some (.cells cs t (0, 0)) := by
  refine (hg.block l (Array.getElem?_eq_some_iff.1 h).1 (fun e => ?_)).trans h
  obtain ⟨o, ho, hc⟩ := hr l e.symm
  rw [h] at ho
  injection ho with ho
  subst ho
  cases hc
theorem R_turn {α : Type} {d : Kd α} {e : Nat} {W W' : World} {base : Nat} {ok : Nat → Prop} {v : Value} {xs : List α} {row : Option Nat} (h : d.R e W base ok v xs) (hg : W.grownBy W' row) (hr : ∀ r, row = some r → ∃ o : Obj, W.heap[r]? = some o ∧ o.isCells = false) : d.R e W' base ok v xs :=
  Kd.R_mono (Kd.R_move (Kd.R_bound h) (fun k hk => hg.block k hk.2.2.1 (fun e => by
    obtain ⟨o, ho, hc⟩ := hr k e.symm
    obtain ⟨_, _, _, q, hq, cells, hk2⟩ := hk
    rw [hk2] at ho
    injection ho with ho
    subst ho
    cases hc))) (fun _ hk => hk.1)
theorem heap_new_at (W : World) (o : Obj) (k : Nat) (h : W.heap.size = k) : (W.alloc o).heap[k]? = some o := by subst h; exact World.alloc_heap_new W o
theorem heap_old_at (W : World) (o o' : Obj) (k : Nat) (hk : W.heap[k]? = some o') : (W.alloc o).heap[k]? = some o' := (Below.heap_alloc W o k (Array.getElem?_eq_some_iff.1 hk).1).trans hk
def UI (w : World) (nums : List Int) {m : Nat} (pre : List (Fin m)) (W : World) : Prop :=
  (∀ j ∈ pre, goodAt nums j.val = true) ∧ W.heap[w.heap.size + 1]? = some (.cells #[.slice none 0 0] 30 (0, 0)) ∧ W.heap[w.heap.size + 1 + 1]? = some (.cells #[.int .i64 0] 31 (0, 0)) ∧
  W.heap[w.heap.size + 1 + 1 + 1 + 1]? = some (.cells #[.int .i64 (unpSt nums pre).2.1.f0, .int .i64 (unpSt nums pre).2.1.f1] 42 (0, 0)) ∧
  W.heap[w.heap.size + 1 + 1 + 1 + 1 + 1]? = some (.cells #[.int .i64 (unpSt nums pre).2.2.f0, .int .i64 (unpSt nums pre).2.2.f1] 42 (0, 0)) ∧
  (∃ v, W.heap[w.heap.size + 1 + 1 + 1]? = some (.cells #[v] 30 (0, 0)) ∧ Kd.R k42 42 W w.heap.size (fun k => w.heap.size + 8 ≤ k) v (unpSt nums pre).1) ∧ Below w.heap.size w W ∧ w.heap.size + 8 ≤ W.heap.size
def UX (w : World) (nums : List Int) {m : Nat} (c : Code) (pre : List (Fin m)) (W : World) : Prop :=
  c = .ret ∧ (∃ j ∈ pre, goodAt nums j.val = false) ∧ W.heap[w.heap.size + 1]? = some (.cells #[.slice none 0 0] 30 (0, 0)) ∧ W.heap[w.heap.size + 1 + 1]? = some (.cells #[.int .i64 2] 31 (0, 0)) ∧ Below w.heap.size w W
theorem UI_own (w : World) (nums : List Int) {m : Nat} (B : Nat) (hB : w.heap.size ≤ B) : OwnFrom B (UI w nums (m := m)) := by
  rintro s W W' row ⟨h0, h1, h2, h3, h4, ⟨v, h5, h6⟩, h7, h8⟩ hg hr
  have hr' := fun r e => (hr r e).2
  exact ⟨h0, blk_turn h1 hg hr', blk_turn h2 hg hr', blk_turn h3 hg hr', blk_turn h4 hg hr', ⟨v, blk_turn h5 hg hr', R_turn h6 hg hr'⟩, h7.grown hg h7.size (fun k e => Nat.le_trans hB (hr k e).1), Nat.le_trans h8 hg.size⟩
theorem UX_own (w : World) (nums : List Int) {m : Nat} (B : Nat) (hB : w.heap.size ≤ B) (c : Code) : OwnFrom B (UX w nums (m := m) c) := by
  rintro s W W' row ⟨h0, h00, h1, h2, h7⟩ hg hr
  have hr' := fun r e => (hr r e).2
  exact ⟨h0, h00, blk_turn h1 hg hr', blk_turn h2 hg hr', h7.grown hg h7.size (fun k e => Nat.le_trans hB (hr k e).1)⟩
theorem cut_by {C G : Prop} (main : C → G) (cont : C) : G := main cont
theorem ux_bad (w W : World) (nums : List Int) {m : Nat} (pre : List (Fin m)) (x : Fin m) (hb : goodAt nums x.val = false) (h1 : W.heap[w.heap.size + 1]? = some (.cells #[.slice none 0 0] 30 (0, 0))) (h2 : W.heap[w.heap.size + 1 + 1]? = some (.cells #[.int .i64 0] 31 (0, 0))) (h7 : Below w.heap.size w W) :
    KeepsOthers W ((W.setCell ⟨w.heap.size + 1, 0, none⟩ (.slice none 0 0)).setCell ⟨w.heap.size + 1 + 1, 0, none⟩ (.int .i64 2)) ∧ UX w nums .ret (pre ++ [x]) ((W.setCell ⟨w.heap.size + 1, 0, none⟩ (.slice none 0 0)).setCell ⟨w.heap.size + 1 + 1, 0, none⟩ (.int .i64 2)) := by
  refine ⟨(KeepsOthers.setCell _ _ _).trans (KeepsOthers.setCell _ _ _), rfl, ⟨x, by simp, hb⟩, ?_, ?_, ?_⟩
  · exact blk_far (p := ⟨w.heap.size + 1 + 1, 0, none⟩) (blk_set h1 0 _) (by simp) _
  · exact blk_set (blk_far (p := ⟨w.heap.size + 1, 0, none⟩) h2 (by simp) _) 0 _
  · exact (h7.setCell (by simp only; omega) _).setCell (by simp only; omega) _
theorem unpSt_len (nums : List Int) {m : Nat} (pre : List (Fin m)) : (unpSt nums pre).1.length = pre.length := by
  unfold unpSt
  have : ∀ (l : List (Fin m)) (z : List S42 × S42 × S42), (l.foldl (fun z j => unpStep z (numA nums j.val) (numB nums j.val)) z).1.length = z.1.length + l.length := by
    intro l
    induction l with
    | nil => intro z; rfl
    | cons y ys ih => intro z; rw [List.foldl_cons, ih]; simp [unpStep]; omega
  simpa using this pre ([], z42, z42)
theorem R_set {α : Type} {d : Kd α} {e : Nat} {W : World} {base : Nat} {ok : Nat → Prop} {v : Value} {xs : List α} (h : d.R e W base ok v xs) (p : Addr) (u : Value) (hp : ∀ k, ok k → k ≠ p.block) : d.R e (W.setCell p u) base ok v xs :=
  Kd.R_move h (fun k hk => Below.heap_setCell _ _ _ _ (hp k hk))
theorem ui_next (w w' w1 : World) (nums : List Int) {m : Nat} (pre : List (Fin m)) (x : Fin m) (A B X Y : Int) (v v1 : Value) (hA : A = wrap64 ((unpSt nums pre).2.2.f0 + numA nums x.val)) (hB : B = wrap64 ((unpSt nums pre).2.2.f1 + numB nums x.val))
    (hX : X = wrap64 ((unpSt nums pre).2.1.f0 + A)) (hY : Y = wrap64 ((unpSt nums pre).2.1.f1 + B)) (hgood : ∀ j ∈ pre, goodAt nums j.val = true) (hx : goodAt nums x.val = true) (K1 : KeepsOthers w' w1)
    (g1 : w1.heap[w.heap.size + 1]? = some (.cells #[.slice none 0 0] 30 (0, 0))) (g2 : w1.heap[w.heap.size + 1 + 1]? = some (.cells #[.int .i64 0] 31 (0, 0))) (g3 : w1.heap[w.heap.size + 1 + 1 + 1]? = some (.cells #[v] 30 (0, 0)))
    (g4 : w1.heap[w.heap.size + 1 + 1 + 1 + 1]? = some (.cells #[.int .i64 X, .int .i64 Y] 42 (0, 0))) (g5 : w1.heap[w.heap.size + 1 + 1 + 1 + 1 + 1]? = some (.cells #[.int .i64 (unpSt nums pre).2.2.f0, .int .i64 (unpSt nums pre).2.2.f1] 42 (0, 0)))
    (g6 : w1.heap[w.heap.size + 1 + 1 + 1 + 1 + 1 + 1]? = w'.heap[w.heap.size + 1 + 1 + 1 + 1 + 1 + 1]?) (g7 : w1.heap[w.heap.size + 1 + 1 + 1 + 1 + 1 + 1 + 1]? = w'.heap[w.heap.size + 1 + 1 + 1 + 1 + 1 + 1 + 1]?)
    (hr1 : Kd.R k42 42 w1 w.heap.size (fun k => w.heap.size + 8 ≤ k) v1 ((unpSt nums pre).1 ++ [⟨X, Y⟩])) (hb1 : Below w.heap.size w w1) (hs1 : w.heap.size + 8 ≤ w1.heap.size) :
    (∀ Wf : World, ¬ 1 < (unpSt nums pre).1.length + 1 → Wf = w1.setCell ⟨w.heap.size + 1 + 1 + 1, 0, none⟩ v1 → KeepsOthers w' Wf ∧ KeepsTwo (w.heap.size + 1 + 1 + 1 + 1 + 1 + 1) (w.heap.size + 1 + 1 + 1 + 1 + 1 + 1 + 1) w' Wf ∧ UI w nums (pre ++ [x]) Wf) ∧
    (∀ Wf : World, 1 < (unpSt nums pre).1.length + 1 → Wf = ((w1.setCell ⟨w.heap.size + 1 + 1 + 1, 0, none⟩ v1).setCell ⟨w.heap.size + 1 + 1 + 1 + 1 + 1, 0, none⟩ (.int .i64 A)).setCell ⟨w.heap.size + 1 + 1 + 1 + 1 + 1, 1, none⟩ (.int .i64 B) → KeepsOthers w' Wf ∧ KeepsTwo (w.heap.size + 1 + 1 + 1 + 1 + 1 + 1) (w.heap.size + 1 + 1 + 1 + 1 + 1 + 1 + 1) w' Wf ∧ UI w nums (pre ++ [x]) Wf) := by
  have hg' : ∀ j ∈ pre ++ [x], goodAt nums j.val = true := fun j hj => by
    rcases List.mem_append.1 hj with h | h
    · exact hgood j h
    · rw [List.mem_singleton.1 h]; exact hx
  have far : ∀ (W : World) (g h' i : Nat) (u : Value) (cs : Array Value) (t : Nat), W.heap[g]? = some (.cells cs t (0, 0)) → g ≠ h' → (W.setCell ⟨h', i, none⟩ u).heap[g]? = some (.cells cs t (0, 0)) := fun W g h' i u cs t hb hne => blk_far (p := ⟨h', i, none⟩) hb hne u
  have same : ∀ (W : World) (g h' i : Nat) (u : Value), g ≠ h' → (W.setCell ⟨h', i, none⟩ u).heap[g]? = W.heap[g]? := fun W g h' i u hne => Below.heap_setCell W ⟨h', i, none⟩ u g hne
  constructor
  · rintro Wf hc rfl
    refine ⟨K1.trans (KeepsOthers.setCell _ _ _), ⟨?_, ?_⟩, hg', ?_, ?_, ?_, ?_, ⟨v1, ?_, ?_⟩, hb1.setCell (by simp only; omega) _, by simpa using hs1⟩
    · rw [same _ _ _ _ _ (by omega)]; exact g6
    · rw [same _ _ _ _ _ (by omega)]; exact g7
    · exact far _ _ _ _ _ _ _ g1 (by omega)
    · exact far _ _ _ _ _ _ _ g2 (by omega)
    · rw [unpSt_snoc]
      simp only [unpStep]
      rw [← hA, ← hB, ← hX, ← hY]
      exact far _ _ _ _ _ _ _ g4 (by omega)
    · rw [unpSt_snoc]
      simp only [unpStep]
      rw [if_neg (by simpa using hc)]
      exact far _ _ _ _ _ _ _ g5 (by omega)
    · exact blk_set g3 0 v1
    · rw [unpSt_snoc]
      simp only [unpStep]
      rw [← hA, ← hB, ← hX, ← hY]
      exact R_set hr1 _ _ (fun k hk => by simp only; omega)
  · rintro Wf hc rfl
    refine ⟨((K1.trans (KeepsOthers.setCell _ _ _)).trans (KeepsOthers.setCell _ _ _)).trans (KeepsOthers.setCell _ _ _), ⟨?_, ?_⟩, hg', ?_, ?_, ?_, ?_, ⟨v1, ?_, ?_⟩, ((hb1.setCell (by simp only; omega) _).setCell (by simp only; omega) _).setCell (by simp only; omega) _, by simpa using hs1⟩
    · rw [same _ _ _ _ _ (by omega), same _ _ _ _ _ (by omega), same _ _ _ _ _ (by omega)]; exact g6
    · rw [same _ _ _ _ _ (by omega), same _ _ _ _ _ (by omega), same _ _ _ _ _ (by omega)]; exact g7
    · exact far _ _ _ _ _ _ _ (far _ _ _ _ _ _ _ (far _ _ _ _ _ _ _ g1 (by omega)) (by omega)) (by omega)
    · exact far _ _ _ _ _ _ _ (far _ _ _ _ _ _ _ (far _ _ _ _ _ _ _ g2 (by omega)) (by omega)) (by omega)
    · rw [unpSt_snoc]
      simp only [unpStep]
      rw [← hA, ← hB, ← hX, ← hY]
      exact far _ _ _ _ _ _ _ (far _ _ _ _ _ _ _ (far _ _ _ _ _ _ _ g4 (by omega)) (by omega)) (by omega)
    · rw [unpSt_snoc]
      simp only [unpStep]
      rw [if_pos (by simpa using hc)]
      rw [← hA, ← hB]
      exact blk_set (blk_set (far _ _ _ _ _ _ _ g5 (by omega)) 0 _) 1 _
    · exact far _ _ _ _ _ _ _ (far _ _ _ _ _ _ _ (blk_set g3 0 v1) (by omega)) (by omega)
    · rw [unpSt_snoc]
      simp only [unpStep]
      rw [← hA, ← hB, ← hX, ← hY]
      exact R_set (R_set (R_set hr1 _ _ (fun k hk => by simp only; omega)) _ _ (fun k hk => by simp only; omega)) _ _ (fun k hk => by simp only; omega)
theorem unp_end (w Wf : World) (r1 : List S42) (r2 : Int) (Q : Ending → World → Prop) (hQ : (fun e w' => ∃ v0_ : Value, e = .returned (.tuple #[v0_, .int .i64 r2]) ∧ Kd.R k42 42 w' w.heap.size (fun _ => True) v0_ r1 ∧ Below w.heap.size w w') = Q)
    (tm : Array Value) (D : Nat) (hD : w.heap.size ≤ D) (v0 : Value) (ht2 : tm[2]?.getD undef = .pointer (some ⟨w.heap.size + 1, 0, none⟩)) (ht3 : tm[3]?.getD undef = .pointer (some ⟨w.heap.size + 1 + 1, 0, none⟩))
    (h1 : Wf.heap[w.heap.size + 1]? = some (.cells #[v0] 30 (0, 0))) (h2 : Wf.heap[w.heap.size + 1 + 1]? = some (.cells #[.int .i64 r2] 31 (0, 0))) (hK : Wf.heap[D]? = some (.deferred (some []))) (hR : Kd.R k42 42 Wf w.heap.size (fun _ => True) v0 r1) (hB : Below w.heap.size w Wf) :
    bodyPostM Fence.wide 5 Try.prog Try.f18 Q Exit.ret { tmps := tm, defers := [{ target := Target.collected D, args := #[] }] } Wf := by
  refine ⟨by simp, .inl ⟨_, _, rfl, run_takeDeferred hK, ?_⟩⟩
  have hg := grownBy_putObj' Wf D (.deferred none)
  have hr : ∀ r, some D = some r → ∃ o : Obj, Wf.heap[r]? = some o ∧ o.isCells = false := fun r e => by cases e; exact ⟨_, hK, rfl⟩
  have g1 := blk_turn h1 hg hr
  have g2 := blk_turn h2 hg hr
  have c1 : (Wf.putObj D (.deferred none)).cell? ⟨w.heap.size + 1, 0, none⟩ = some v0 := (blk_cell g1 0).trans rfl
  have c2 : (Wf.putObj D (.deferred none)).cell? ⟨w.heap.size + 1 + 1, 0, none⟩ = some (.int .i64 r2) := (blk_cell g2 0).trans rfl
  refine ⟨.tuple #[v0, .int .i64 r2], ?_, ?_⟩
  · simp [results, Try.f18, go_sem, c1, c2, ht2, ht3]
  · rw [← hQ]
    exact ⟨v0, rfl, R_turn hR hg hr, hB.grown hg hB.size (fun k e => by cases e; exact hD)⟩
theorem bad_next (w W : World) (h1 : W.heap[w.heap.size + 1]? = some (.cells #[.slice none 0 0] 30 (0, 0))) (h2 : W.heap[w.heap.size + 1 + 1]? = some (.cells #[.int .i64 0] 31 (0, 0))) (h7 : Below w.heap.size w W) (Wf : World) (hW : Wf = (W.setCell ⟨w.heap.size + 1, 0, none⟩ (.slice none 0 0)).setCell ⟨w.heap.size + 1 + 1, 0, none⟩ (.int .i64 2)) :
    KeepsOthers W Wf ∧ Wf.heap[w.heap.size + 1]? = some (.cells #[.slice none 0 0] 30 (0, 0)) ∧ Wf.heap[w.heap.size + 1 + 1]? = some (.cells #[.int .i64 2] 31 (0, 0)) ∧ Below w.heap.size w Wf := by
  subst hW
  exact ⟨(KeepsOthers.setCell _ _ _).trans (KeepsOthers.setCell _ _ _), blk_far (p := ⟨w.heap.size + 1 + 1, 0, none⟩) (blk_set h1 0 _) (by simp) _, blk_set (blk_far (p := ⟨w.heap.size + 1, 0, none⟩) h2 (by simp) _) 0 _, (h7.setCell (by simp only; omega) _).setCell (by simp only; omega) _⟩
theorem good_next (w W : World) (v : Value) (h1 : W.heap[w.heap.size + 1]? = some (.cells #[.slice none 0 0] 30 (0, 0))) (h2 : W.heap[w.heap.size + 1 + 1]? = some (.cells #[.int .i64 0] 31 (0, 0))) (h7 : Below w.heap.size w W) (r1 : List S42) (hR : Kd.R k42 42 W w.heap.size (fun k => w.heap.size + 8 ≤ k) v r1) (Wf : World) (hW : Wf = (W.setCell ⟨w.heap.size + 1, 0, none⟩ v).setCell ⟨w.heap.size + 1 + 1, 0, none⟩ (.int .i64 0)) :
    KeepsOthers W Wf ∧ Wf.heap[w.heap.size + 1]? = some (.cells #[v] 30 (0, 0)) ∧ Wf.heap[w.heap.size + 1 + 1]? = some (.cells #[.int .i64 0] 31 (0, 0)) ∧ Kd.R k42 42 Wf w.heap.size (fun _ => True) v r1 ∧ Below w.heap.size w Wf := by
  subst hW
  exact ⟨(KeepsOthers.setCell _ _ _).trans (KeepsOthers.setCell _ _ _), blk_far (p := ⟨w.heap.size + 1 + 1, 0, none⟩) (blk_set h1 0 _) (by simp) _, blk_set (blk_far (p := ⟨w.heap.size + 1, 0, none⟩) h2 (by simp) _) 0 _, Kd.R_mono (R_set (R_set hR _ _ (fun k hk => by simp only; omega)) _ _ (fun k hk => by simp only; omega)) (fun _ _ => trivial), (h7.setCell (by simp only; omega) _).setCell (by simp only; omega) _⟩
set_option maxRecDepth 100000 in
set_option maxHeartbeats 4000000 in
theorem unp_walk (k : Nat) (ad : Addr) (c0_0 : Nat) (nums : List Int) (A0_1 : Option Addr) (c0_1 : Nat) (texts : List ByteArray) (w : World) (hr0 : Kd.C (Kd.int .i64) w (some ad) nums.length nums) (hc0 : nums.length ≤ c0_0)
   (m : Nat) (hm : nums.length = 2 * m + 1) (hm64 : m ≤ 64) (h00 : rd nums 0 = m) (ht : texts = []) (r1 : List S42) (r2 : Int)
   (hres1 : (∀ j : Fin m, goodAt nums j.val = true) → ∃ rc, block_Check.f k (unpSt nums (List.finRange m)).1 = some rc ∧ (r1, r2) = if rc = 0 then ((unpSt nums (List.finRange m)).1, (0 : Int)) else ([], 2))
   (hres2 : (∃ j : Fin m, goodAt nums j.val = false) → (r1, r2) = ([], (2 : Int))) :
    Calls Try.prog 18 #[.agg #[.slice (some ad) nums.length c0_0, .slice A0_1 texts.length c0_1]] w fun e w' => ∃ v0_ : Value, e = .returned (.tuple #[v0_, .int .i64 r2]) ∧ Kd.R k42 42 w' w.heap.size (fun _ => True) v0_ r1 ∧ Below w.heap.size w w' := by
  obtain ⟨Q, hQ⟩ : ∃ Q : Ending → World → Prop, (fun e w' => ∃ v0_ : Value, e = .returned (.tuple #[v0_, .int .i64 r2]) ∧ Kd.R k42 42 w' w.heap.size (fun _ => True) v0_ r1 ∧ Below w.heap.size w w') = Q := ⟨_, rfl⟩
  rw [hQ]
  have HQQ := Aside0.mk hQ
  have HRES1 := Aside0.mk hres1
  have HRES2 := Aside0.mk hres2
  clear hQ hres1 hres2
  refine (callsIn_wide (n := 5)).1 ?_
  have hro : Fence.wide.round = none := rfl
  have hfn : ∀ f, Fence.wide.fn f = True := fun _ => eq_true trivial
  refine callsIn_of_wp_marks Try.func18 rfl trivial ?_ hro
  simp only [Try.ntmps18, List.size_toArray, List.length_cons, List.length_nil, Nat.reduceAdd, Nat.reduceSub, Array.replicate_succ, Array.replicate_zero, List.push_toArray, List.append_toArray, List.nil_append, List.cons_append]
  subst ht
  have hu29 := Try.underlying29
  have hu42 := Try.underlying42
  have hc00 : w.cell? ad = some (.int .i64 m) := by
    obtain ⟨ad', e, hx⟩ := Kd.at_int hr0 0 (by omega) (by omega)
    cases e
    rw [h00] at hx
    simpa [Addr.add] using hx
  have hlt := World.block_lt_of_cell? w _ hc00
  have hA : ∀ o1 o2 o3, (((w.alloc o1).alloc o2).alloc o3).cell? ad = some (.int .i64 m) := fun o1 o2 o3 => by
    rw [World.cell?_alloc_lt _ _ _ (by simp; omega), World.cell?_alloc_lt _ _ _ (by simp; omega), World.cell?_alloc_lt _ _ _ hlt, hc00]
  obtain ⟨q, hq⟩ : ∃ q : Int, q = (m : Int) := ⟨_, rfl⟩
  rw [← hq] at hA
  have HQ := Aside0.mk hq
  have t1 : (2 * (m : Int) + 1 == 0) = false := by simp; omega
  have t2 : (2 * (m : Int) + 1) / 2 = q := by omega
  have t3 : decide (64 < q) = false := by simp; omega
  clear hq
  obtain ⟨i0, hi, hz0, hz1, hz2⟩ := info_parts info3
  obtain ⟨A1, hA1, hcut⟩ : ∃ A1 : Option Addr, (m = 0 ∨ A1 = some ⟨ad.block, ad.off + 1, none⟩) ∧ ∀ W : World, (Instr.slice 26 (.slice (some ad) (2 * m + 1) c0_0) (some (.int .i64 1)) none none).run Try.prog W = .ok (.slice A1 (2 * m) (c0_0 - 1)) W := by
    refine ⟨if c0_0 = 1 then some ad else some ⟨ad.block, ad.off + 1, none⟩, ?_, fun W => ?_⟩
    · rcases Nat.eq_zero_or_pos m with h | h
      · exact .inl h
      · exact .inr (if_neg (by omega))
    · have h := cut_from (P := Try.prog) 26 3 .i64 Try.underlying26 hi 1 hz1 (some ad) (2 * m + 1) c0_0 1 (by omega) (by omega) W
      exact h
  have HA1 := Aside0.mk hA1
  clear hi hz0 hz1 hz2 hA1
  clear hc00 h00
  have HLT := Aside0.mk hlt
  have HM := Aside0.mk hm
  have HRR := Aside0.mk hr0
  have HC := Aside0.mk hc0
  have hn1 : nums.length = 2 * m + 1 := hm
  clear hlt hm hr0 hc0
  gi_wp2_with (gi_at_call 47; refine (chunk_in Fence.wide 4 trivial hro _ _ _ _).mono ?_; rintro e w' ⟨rfl, rfl⟩)
  obtain ⟨W0, hW0⟩ : ∃ W0 : World, ((((((((w.alloc (Obj.cells #[Value.slice (some ad) (2 * m + 1) c0_0, Value.slice A0_1 0 c0_1] 29)).alloc (Obj.cells #[Value.slice none 0 0] 30)).alloc (Obj.cells #[Value.int IntKind.i64 0] 31)).alloc (Obj.cells #[Value.slice none 0 0] 30)).alloc (Obj.cells #[Value.int IntKind.i64 0, Value.int IntKind.i64 0] 42)).alloc (Obj.cells #[Value.int IntKind.i64 0, Value.int IntKind.i64 0] 42)).alloc (Obj.cells #[Value.slice A1 (2 * m) (c0_0 - 1)] 26)).alloc (Obj.cells #[Value.int IntKind.i64 2] 3)) = W0 := ⟨_, rfl⟩
  have hsz : W0.heap.size = w.heap.size + 8 := by rw [← hW0]; simp
  have hB0 : Below w.heap.size w W0 := by
    rw [← hW0]
    exact ((((((((Below.refl _ w).alloc (Nat.le_refl _) _).alloc (by simp) _).alloc (by simp; omega) _).alloc (by simp; omega) _).alloc (by simp; omega) _).alloc (by simp; omega) _).alloc (by simp; omega) _).alloc (by simp; omega) _
  have hI0 : UI w nums (m := m) [] W0 := by
    rw [← hW0]
    refine ⟨fun j hj => by simp at hj, ?_, ?_, ?_, ?_, ⟨.slice none 0 0, ?_, Kd.R_nil _ _ _ _ _⟩, by rw [hW0]; exact hB0, by rw [hW0, hsz]; exact Nat.le_refl _⟩
    all_goals (repeat (first | (refine heap_new_at _ _ _ ?_; simp; done) | refine heap_old_at _ _ _ _ ?_))
  have hcs : W0.cell? ⟨w.heap.size + 1 + 1 + 1 + 1 + 1 + 1, 0, none⟩ = some (.slice A1 (2 * m) (c0_0 - 1)) := by
    have hb : W0.heap[w.heap.size + 1 + 1 + 1 + 1 + 1 + 1]? = some (.cells #[.slice A1 (2 * m) (c0_0 - 1)] 26 (0, 0)) := by
      rw [← hW0]
      repeat (first | (refine heap_new_at _ _ _ ?_; simp; done) | refine heap_old_at _ _ _ _ ?_)
    exact (blk_cell hb 0).trans rfl
  have hcn : W0.cell? ⟨w.heap.size + 1 + 1 + 1 + 1 + 1 + 1 + 1, 0, none⟩ = some (.int .i64 2) := by
    have hb : W0.heap[w.heap.size + 1 + 1 + 1 + 1 + 1 + 1 + 1]? = some (.cells #[.int .i64 2] 3 (0, 0)) := by
      rw [← hW0]
      repeat (first | (refine heap_new_at _ _ _ ?_; simp; done) | refine heap_old_at _ _ _ _ ?_)
    exact (blk_cell hb 0).trans rfl
  have hsv : ChunkOf m (.slice A1 (2 * m) (c0_0 - 1)) ad.block (ad.off + 1) := by
    have := HC.out
    have hm := HM.out
    rcases HA1.out with h | h
    · subst h; exact .inl ⟨rfl, _, _, rfl⟩
    · subst h; exact .inr ⟨_, rfl, by omega⟩
  have HSZ := Aside0.mk hsz
  rw [hW0]
  clear hW0 hsz
  refine wpIn_rangeFunc_ownF hro (by omega) (gf := 56) (lb := #[.pointer (some ⟨w.heap.size + 1 + 1 + 1 + 1 + 1 + 1, 0, none⟩), .pointer (some ⟨w.heap.size + 1 + 1 + 1 + 1 + 1 + 1 + 1, 0, none⟩)]) rfl trivial (enters_of Try.func56 (by kernel_rfl) rfl)
    (chunk_stops Fence.wide 4 trivial hro (by omega) _ _ ad.block (ad.off + 1) m (by omega) _ hsv W0 (by have := HSZ.out; omega) (by have := HSZ.out; omega) hcs hcn) keepsTwo_t (keepsTwo_b (by have := HSZ.out; omega) (by have := HSZ.out; omega)) (Below.refl _ _) (fun _ => rfl)
    (UI w nums) (UX w nums) (UI_own w nums _ hB0.size) (UX_own w nums _ hB0.size) hI0
    (fun x => { tmps := #[Value.agg #[Value.slice (some ad) (2 * m + 1) c0_0, Value.slice A0_1 0 c0_1], Value.pointer (some { block := w.heap.size, off := 0 }), Value.pointer (some { block := w.heap.size + 1, off := 0 }), Value.pointer (some { block := w.heap.size + 1 + 1, off := 0 }), Value.int IntKind.i64 (2 * (m : Int) + 1), Value.pointer (some { block := w.heap.size + 1 + 1 + 1, off := 0 }), Value.pointer (some { block := w.heap.size + 1 + 1 + 1 + 1, off := 0 }), Value.pointer (some { block := w.heap.size + 1 + 1 + 1 + 1 + 1, off := 0 }), Value.slice (some { block := ad.block, off := ad.off + 1 + 2 * x.val }) 2 2, undef, Value.pointer (some { block := w.heap.size, off := 0 }), Value.slice (some ad) (2 * m + 1) c0_0, Value.int IntKind.i64 (2 * (m : Int) + 1), Value.int IntKind.i64 (2 * (m : Int) + 1), Value.bool false, Value.bool false, Value.int IntKind.i64 (2 * (m : Int) + 1), Value.int IntKind.i64 1, Value.bool false, Value.bool false, Value.bool false, Value.pointer (some { block := w.heap.size, off := 0 }), Value.slice (some ad) (2 * m + 1) c0_0, Value.pointer (some ad), Value.int IntKind.i64 q, Value.int IntKind.i64 (2 * (m : Int) + 1), Value.int IntKind.i64 q, Value.bool false, Value.bool false, Value.bool false, Value.pointer (some { block := w.heap.size, off := 1 }), Value.slice A0_1 0 c0_1, Value.int IntKind.i64 0, Value.bool false, Value.bool false, Value.bool false, Value.int IntKind.i64 (2 * (m : Int) + 1), Value.int IntKind.i64 q, Value.bool false, Value.bool false, Value.pointer (some { block := w.heap.size, off := 0 }), Value.slice (some ad) (2 * m + 1) c0_0, Value.slice A1 (2 * m) (c0_0 - 1), Value.func (Fn.func 56) #[] #[Value.pointer (some { block := w.heap.size + 1 + 1 + 1 + 1 + 1 + 1, off := 0 }), Value.pointer (some { block := w.heap.size + 1 + 1 + 1 + 1 + 1 + 1 + 1, off := 0 })], Value.slice (some { block := ad.block, off := ad.off + 1 + 2 * x.val }) 2 2, undef, undef, undef, undef, undef, undef, undef, undef, undef, undef, undef, undef, undef, undef, undef, undef, undef, undef, undef, undef, undef, undef, undef, undef, undef, undef, undef, undef, undef, undef, undef, undef, undef, undef, undef, undef, undef, undef, undef, undef, undef, undef, undef, undef, undef, undef, undef, undef], defers := [] }) ?assign ?body ?done ?stop
  case assign =>
    intro l x W K hK
    gi_wp2
    exact hK
  case body =>
    rintro l pre x W ⟨hgd, h1, h2, h3, h4, ⟨v, h5, h6⟩, h7, h8⟩ hlt
    have H8 := Aside0.mk h8
    clear h8
    have d1 : 1 ≤ 5 - 1 - 1 := by omega
    have hx := x.isLt
    have hm := HM.out
    have hC := Kd.C_below HRR.out h7
    obtain ⟨a, ha⟩ : ∃ a : Int, a = numA nums x.val := ⟨_, rfl⟩
    obtain ⟨b, hb⟩ : ∃ b : Int, b = numB nums x.val := ⟨_, rfl⟩
    have ca : W.cell? ⟨ad.block, ad.off + 1 + 2 * x.val, none⟩ = some (.int .i64 a) := by
      obtain ⟨ad', e, hx'⟩ := Kd.at_int hC ((1 + 2 * x.val : Nat) : Int) (by omega) (by omega)
      cases e
      rw [Int.toNat_natCast] at hx'
      rw [ha]
      unfold numA
      rw [← hx']
      congr 1
      unfold Addr.add
      rw [if_neg (by omega)]
      simp [Nat.add_assoc]
    have cb : W.cell? ⟨ad.block, ad.off + 1 + 2 * x.val + 1, none⟩ = some (.int .i64 b) := by
      obtain ⟨ad', e, hx'⟩ := Kd.at_int hC ((2 + 2 * x.val : Nat) : Int) (by omega) (by omega)
      cases e
      rw [Int.toNat_natCast] at hx'
      rw [hb]
      unfold numB
      rw [← hx']
      congr 1
      unfold Addr.add
      rw [if_neg (by omega)]
      simp [Nat.add_assoc]
    have HA := Aside0.mk ha
    have HBb := Aside0.mk hb
    have H1 := Aside0.mk h1
    have H2 := Aside0.mk h2
    have H3 := Aside0.mk h3
    have H4 := Aside0.mk h4
    have H5 := Aside0.mk h5
    have H6 := Aside0.mk h6
    have H7 := Aside0.mk h7
    have HG := Aside0.mk hgd
    have c10 : W.cell? ⟨w.heap.size + 1, 0, none⟩ = some (.slice none 0 0) := (blk_cell h1 0).trans rfl
    have f10 := blk_frozen h1 0
    have c20 : W.cell? ⟨w.heap.size + 1 + 1, 0, none⟩ = some (.int .i64 0) := (blk_cell h2 0).trans rfl
    have f20 := blk_frozen h2 0
    generalize hz : unpSt nums pre = z at h3 h4 h6
    have HZ := Aside0.mk hz
    have c30 : W.cell? ⟨w.heap.size + 1 + 1 + 1, 0, none⟩ = some v := (blk_cell h5 0).trans rfl
    have f30 := blk_frozen h5 0
    have c40 : W.cell? ⟨w.heap.size + 1 + 1 + 1 + 1, 0, none⟩ = some (.int .i64 z.2.1.f0) := (blk_cell h3 0).trans rfl
    have c41 : W.cell? ⟨w.heap.size + 1 + 1 + 1 + 1, 1, none⟩ = some (.int .i64 z.2.1.f1) := (blk_cell h3 1).trans rfl
    have f40 := blk_frozen h3 0
    have f41 := blk_frozen h3 1
    have c50 : W.cell? ⟨w.heap.size + 1 + 1 + 1 + 1 + 1, 0, none⟩ = some (.int .i64 z.2.2.f0) := (blk_cell h4 0).trans rfl
    have c51 : W.cell? ⟨w.heap.size + 1 + 1 + 1 + 1 + 1, 1, none⟩ = some (.int .i64 z.2.2.f1) := (blk_cell h4 1).trans rfl
    have f50 := blk_frozen h4 0
    have f51 := blk_frozen h4 1
    clear ha hb hz h1 h2 h3 h4 h5 h6 h7 hgd hC hm
    have calla := fun W => (callsIn_wide (n := 2)).2 (block_in_eq a W)
    have callb := fun W => (callsIn_wide (n := 2)).2 (block_in_eq b W)
    have CA := Aside0.mk calla
    have CB := Aside0.mk callb
    clear calla callb
    cases ga : inB a with
    | false =>
      have GA := Aside0.mk ga
      gi_wp2_with (gi_at_call 48; refine (CallsIn.inRound l (CA.out _)).mono ?_; rintro e w' ⟨rfl, rfl⟩)
      exact ux_bad w w' nums pre x (by unfold goodAt; rw [← HA.out, GA.out]; rfl) H1.out H2.out H7.out
    | true =>
      have GA := Aside0.mk ga
      cases gb : inB b with
      | false =>
        have GB := Aside0.mk gb
        gi_wp2_with (first
          | (gi_at_call 48; refine (CallsIn.inRound l (CA.out _)).mono ?_; rintro e w' ⟨rfl, rfl⟩; clear CA)
          | (gi_at_call 48; refine (CallsIn.inRound l (CB.out _)).mono ?_; rintro e w' ⟨rfl, rfl⟩))
        exact ux_bad w w' nums pre x (by unfold goodAt; rw [← HA.out, ← HBb.out, GA.out, GB.out]; rfl) H1.out H2.out H7.out
      | true =>
        have GB := Aside0.mk gb
        gi_wp2_with (first
          | (gi_at_call 48; refine (CallsIn.inRound l (CA.out _)).mono ?_; rintro e w' ⟨rfl, rfl⟩; clear CA)
          | (gi_at_call 48; refine (CallsIn.inRound l (CB.out _)).mono ?_; rintro e w' ⟨rfl, rfl⟩))
        refine wpIn_region_heldF (fun V => V.cell? ⟨ad.block, ad.off + 1 + 2 * x.val, none⟩ = some (.int .i64 a) ∧ V.cell? ⟨ad.block, ad.off + 1 + 2 * x.val + 1, none⟩ = some (.int .i64 b) ∧ V.cell? ⟨w.heap.size + 1 + 1 + 1 + 1 + 1, 0, none⟩ = some (.int .i64 z.2.2.f0) ∧ V.cell? ⟨w.heap.size + 1 + 1 + 1 + 1 + 1, 1, none⟩ = some (.int .i64 z.2.2.f1)) (by kernel_rfl) ?_
        have hS : (w'.drew).cell? ⟨ad.block, ad.off + 1 + 2 * x.val, none⟩ = some (.int .i64 a) ∧ (w'.drew).cell? ⟨ad.block, ad.off + 1 + 2 * x.val + 1, none⟩ = some (.int .i64 b) ∧ (w'.drew).cell? ⟨w.heap.size + 1 + 1 + 1 + 1 + 1, 0, none⟩ = some (.int .i64 z.2.2.f0) ∧ (w'.drew).cell? ⟨w.heap.size + 1 + 1 + 1 + 1 + 1, 1, none⟩ = some (.int .i64 z.2.2.f1) := ⟨ca, cb, c50, c51⟩
        apply cut_by
        case main =>
          intro hc
          go_simp
          (refine wpAnyHeld_take (i := 0) (v := .pointer (some ⟨w.heap.size + 1 + 1 + 1 + 1 + 1, 0, none⟩)) (by intro j o ho c; have := List.mem_of_getElem? ((Array.getElem?_toList ..).trans ho); simp at this; rcases this with rfl | rfl | rfl | rfl | rfl | rfl | rfl | rfl | rfl | rfl | rfl | rfl | rfl | rfl | rfl <;> simp) rfl (by kernel_rfl) (by kernel_rfl) (by kernel_rfl) (fun _ _ _ h => h) ⟨.inl ⟨by rfl, ?_⟩, fun _ => rfl⟩ hS ?_; (focus (rintro w0 ⟨s1, s2, s3, s4⟩; go_simp; done)); go_simp)
          (refine wpAnyHeld_take (i := 1) (v := .int .i64 z.2.2.f0) (by intro j o ho c; have := List.mem_of_getElem? ((Array.getElem?_toList ..).trans ho); simp at this; rcases this with rfl | rfl | rfl | rfl | rfl | rfl | rfl | rfl | rfl | rfl | rfl | rfl | rfl | rfl | rfl <;> simp) rfl (by kernel_rfl) (by kernel_rfl) (by kernel_rfl) (fun _ _ _ h => h) ⟨.inl ⟨by rfl, ?_⟩, fun _ => rfl⟩ hS ?_; (focus (rintro w0 ⟨s1, s2, s3, s4⟩; go_simp; done)); go_simp)
          (refine wpAnyHeld_take (i := 2) (v := .slice (some ⟨ad.block, ad.off + 1 + 2 * x.val, none⟩) 2 2) (by intro j o ho c; have := List.mem_of_getElem? ((Array.getElem?_toList ..).trans ho); simp at this; rcases this with rfl | rfl | rfl | rfl | rfl | rfl | rfl | rfl | rfl | rfl | rfl | rfl | rfl | rfl | rfl <;> simp) rfl (by kernel_rfl) (by kernel_rfl) (by kernel_rfl) (fun _ _ _ h => h) ⟨.inl ⟨by rfl, ?_⟩, fun _ => rfl⟩ hS ?_; (focus (rintro w0 ⟨s1, s2, s3, s4⟩; go_simp; done)); go_simp)
          (refine wpAnyHeld_take (i := 3) (v := .pointer (some ⟨ad.block, ad.off + 1 + 2 * x.val, none⟩)) (by intro j o ho c; have := List.mem_of_getElem? ((Array.getElem?_toList ..).trans ho); simp at this; rcases this with rfl | rfl | rfl | rfl | rfl | rfl | rfl | rfl | rfl | rfl | rfl | rfl | rfl | rfl | rfl <;> simp) rfl (by kernel_rfl) (by kernel_rfl) (by kernel_rfl) (fun _ _ _ h => h) ⟨.inl ⟨by rfl, ?_⟩, fun _ => rfl⟩ hS ?_; (focus (rintro w0 ⟨s1, s2, s3, s4⟩; go_simp; done)); go_simp)
          (refine wpAnyHeld_take (i := 4) (v := .int .i64 a) (by intro j o ho c; have := List.mem_of_getElem? ((Array.getElem?_toList ..).trans ho); simp at this; rcases this with rfl | rfl | rfl | rfl | rfl | rfl | rfl | rfl | rfl | rfl | rfl | rfl | rfl | rfl | rfl <;> simp) rfl (by kernel_rfl) (by kernel_rfl) (by kernel_rfl) (fun _ _ _ h => h) ⟨.inl ⟨by rfl, ?_⟩, fun _ => rfl⟩ hS ?_; (focus (rintro w0 ⟨s1, s2, s3, s4⟩; go_simp; done)); go_simp)
          (refine wpAnyHeld_take (i := 5) (v := .int .i64 (IntKind.i64.wrap (z.2.2.f0 + a))) (by intro j o ho c; have := List.mem_of_getElem? ((Array.getElem?_toList ..).trans ho); simp at this; rcases this with rfl | rfl | rfl | rfl | rfl | rfl | rfl | rfl | rfl | rfl | rfl | rfl | rfl | rfl | rfl <;> simp) rfl (by kernel_rfl) (by kernel_rfl) (by kernel_rfl) (fun _ _ _ h => h) ⟨.inl ⟨by rfl, ?_⟩, fun _ => rfl⟩ hS ?_; (focus (rintro w0 ⟨s1, s2, s3, s4⟩; go_simp; done)); go_simp)
          (refine wpAnyHeld_take (i := 6) (v := .pointer (some ⟨w.heap.size + 1 + 1 + 1 + 1 + 1, 1, none⟩)) (by intro j o ho c; have := List.mem_of_getElem? ((Array.getElem?_toList ..).trans ho); simp at this; rcases this with rfl | rfl | rfl | rfl | rfl | rfl | rfl | rfl | rfl | rfl | rfl | rfl | rfl | rfl | rfl <;> simp) rfl (by kernel_rfl) (by kernel_rfl) (by kernel_rfl) (fun _ _ _ h => h) ⟨.inl ⟨by rfl, ?_⟩, fun _ => rfl⟩ hS ?_; (focus (rintro w0 ⟨s1, s2, s3, s4⟩; go_simp; done)); go_simp)
          (refine wpAnyHeld_take (i := 7) (v := .int .i64 z.2.2.f1) (by intro j o ho c; have := List.mem_of_getElem? ((Array.getElem?_toList ..).trans ho); simp at this; rcases this with rfl | rfl | rfl | rfl | rfl | rfl | rfl | rfl | rfl | rfl | rfl | rfl | rfl | rfl | rfl <;> simp) rfl (by kernel_rfl) (by kernel_rfl) (by kernel_rfl) (fun _ _ _ h => h) ⟨.inl ⟨by rfl, ?_⟩, fun _ => rfl⟩ hS ?_; (focus (rintro w0 ⟨s1, s2, s3, s4⟩; go_simp; done)); go_simp)
          (refine wpAnyHeld_take (i := 8) (v := .slice (some ⟨ad.block, ad.off + 1 + 2 * x.val, none⟩) 2 2) (by intro j o ho c; have := List.mem_of_getElem? ((Array.getElem?_toList ..).trans ho); simp at this; rcases this with rfl | rfl | rfl | rfl | rfl | rfl | rfl | rfl | rfl | rfl | rfl | rfl | rfl | rfl | rfl <;> simp) rfl (by kernel_rfl) (by kernel_rfl) (by kernel_rfl) (fun _ _ _ h => h) ⟨.inl ⟨by rfl, ?_⟩, fun _ => rfl⟩ hS ?_; (focus (rintro w0 ⟨s1, s2, s3, s4⟩; go_simp; done)); go_simp)
          (refine wpAnyHeld_take (i := 9) (v := .pointer (some ⟨ad.block, ad.off + 1 + 2 * x.val + 1, none⟩)) (by intro j o ho c; have := List.mem_of_getElem? ((Array.getElem?_toList ..).trans ho); simp at this; rcases this with rfl | rfl | rfl | rfl | rfl | rfl | rfl | rfl | rfl | rfl | rfl | rfl | rfl | rfl | rfl <;> simp) rfl (by kernel_rfl) (by kernel_rfl) (by kernel_rfl) (fun _ _ _ h => h) ⟨.inl ⟨by rfl, ?_⟩, fun _ => rfl⟩ hS ?_; (focus (rintro w0 ⟨s1, s2, s3, s4⟩; go_simp; done)); go_simp)
          (refine wpAnyHeld_take (i := 10) (v := .int .i64 b) (by intro j o ho c; have := List.mem_of_getElem? ((Array.getElem?_toList ..).trans ho); simp at this; rcases this with rfl | rfl | rfl | rfl | rfl | rfl | rfl | rfl | rfl | rfl | rfl | rfl | rfl | rfl | rfl <;> simp) rfl (by kernel_rfl) (by kernel_rfl) (by kernel_rfl) (fun _ _ _ h => h) ⟨.inl ⟨by rfl, ?_⟩, fun _ => rfl⟩ hS ?_; (focus (rintro w0 ⟨s1, s2, s3, s4⟩; go_simp; done)); go_simp)
          (refine wpAnyHeld_take (i := 11) (v := .int .i64 (IntKind.i64.wrap (z.2.2.f1 + b))) (by intro j o ho c; have := List.mem_of_getElem? ((Array.getElem?_toList ..).trans ho); simp at this; rcases this with rfl | rfl | rfl | rfl | rfl | rfl | rfl | rfl | rfl | rfl | rfl | rfl | rfl | rfl | rfl <;> simp) rfl (by kernel_rfl) (by kernel_rfl) (by kernel_rfl) (fun _ _ _ h => h) ⟨.inl ⟨by rfl, ?_⟩, fun _ => rfl⟩ hS ?_; (focus (rintro w0 ⟨s1, s2, s3, s4⟩; go_simp; done)); go_simp)
          (refine wpAnyHeld_take (i := 12) (v := .agg #[.int .i64 (IntKind.i64.wrap (z.2.2.f0 + a)), .int .i64 (IntKind.i64.wrap (z.2.2.f1 + b))]) (by intro j o ho c; have := List.mem_of_getElem? ((Array.getElem?_toList ..).trans ho); simp at this; rcases this with rfl | rfl | rfl | rfl | rfl | rfl | rfl | rfl | rfl | rfl | rfl | rfl | rfl | rfl | rfl <;> simp) rfl (by kernel_rfl) (by kernel_rfl) (by kernel_rfl) (fun _ _ _ h => h) ⟨.inl ⟨by rfl, ?_⟩, fun _ => rfl⟩ hS ?_; (focus (rintro w0 ⟨s1, s2, s3, s4⟩; go_simp; done)); go_simp)
          have ca' := fun o : Obj => (World.cell?_alloc_lt w' o _ (World.block_lt_of_cell? w' _ ca)).trans ca
          have cb' := fun o : Obj => (World.cell?_alloc_lt w' o _ (World.block_lt_of_cell? w' _ cb)).trans cb
          have c50' := fun o : Obj => (World.cell?_alloc_lt w' o _ (World.block_lt_of_cell? w' _ c50)).trans c50
          have c51' := fun o : Obj => (World.cell?_alloc_lt w' o _ (World.block_lt_of_cell? w' _ c51)).trans c51
          refine wpAnyHeld_one (i := 13) (by kernel_rfl) rfl rfl (fun K hK => ?_)
          go_simp
          refine hK _ _ ⟨ca' _, cb' _, c50' _, c51' _⟩ ?_
          clear hK K
          go_simp
          refine wpAnyHeld_one (i := 14) (by kernel_rfl) rfl rfl (fun K hK => ?_)
          go_simp
          refine hK _ _ ⟨ca' _, cb' _, c50' _, c51' _⟩ ?_
          clear hK K
          go_simp
          refine wpAnyHeld_done (by kernel_rfl) ?_ _
          exact hc
        case cont =>
          clear ca cb c50 c51 c10 f10 c20 f20 c30 f30 c40 c41 f40 f41 f50 f51 hS
          obtain ⟨A, hA'⟩ : ∃ A : Int, A = IntKind.i64.wrap (z.2.2.f0 + a) := ⟨_, rfl⟩
          obtain ⟨B, hB'⟩ : ∃ B : Int, B = IntKind.i64.wrap (z.2.2.f1 + b) := ⟨_, rfl⟩
          rw [← hA', ← hB']
          have HA' := Aside0.mk hA'
          have HB' := Aside0.mk hB'
          clear hA' hB'
          obtain ⟨V, hV⟩ : ∃ V : World, (w'.alloc (Obj.cells #[.int .i64 A, .int .i64 B] 42)).drew = V := ⟨_, rfl⟩
          have gV : w'.grownBy V none := by rw [← hV]; exact World.grownBy.trans (World.grownBy_alloc w' (Obj.cells #[.int .i64 A, .int .i64 B] 42) none) ⟨rfl, rfl, rfl, Nat.le_refl _, fun _ _ _ => rfl⟩
          obtain ⟨N, hN⟩ : ∃ N : Nat, w'.heap.size = N := ⟨_, rfl⟩
          have bN : V.heap[N]? = some (.cells #[.int .i64 A, .int .i64 B] 42 (0, 0)) := by rw [← hV, ← hN]; exact World.alloc_heap_new w' (Obj.cells #[.int .i64 A, .int .i64 B] 42)
          have sN : V.heap.size = N + 1 := by rw [← hV, ← hN]; exact World.size_alloc w' (Obj.cells #[.int .i64 A, .int .i64 B] 42)
          have b1 := blk_grown H1.out gV (by simp)
          have b2 := blk_grown H2.out gV (by simp)
          have b3 := blk_grown H5.out gV (by simp)
          have b4 := blk_grown H3.out gV (by simp)
          have b5 := blk_grown H4.out gV (by simp)
          have lN : w.heap.size + 1 + 1 + 1 + 1 + 1 < N := by rw [← hN]; exact blk_lt H4.out
          rw [HZ.out] at b4 b5
          have n3 : w.heap.size + 1 + 1 + 1 ≠ N := by omega
          have n4 : w.heap.size + 1 + 1 + 1 + 1 ≠ N := by omega
          have n5 : w.heap.size + 1 + 1 + 1 + 1 + 1 ≠ N := by omega
          have m3 := n3.symm
          have m4 := n4.symm
          have m5 := n5.symm
          have GV := Aside0.mk gV
          have SN := Aside0.mk sN
          have LN := Aside0.mk lN
          rw [hV, hN]
          have HN := Aside0.mk hN
          clear hV gV hN sN lN
          have c30 : V.cell? ⟨w.heap.size + 1 + 1 + 1, 0, none⟩ = some (v) := (blk_cell b3 0).trans rfl
          have f30 := blk_frozen b3 0
          have c40 : V.cell? ⟨w.heap.size + 1 + 1 + 1 + 1, 0, none⟩ = some (.int .i64 z.2.1.f0) := (blk_cell b4 0).trans rfl
          have f40 := blk_frozen b4 0
          have c41 : V.cell? ⟨w.heap.size + 1 + 1 + 1 + 1, 1, none⟩ = some (.int .i64 z.2.1.f1) := (blk_cell b4 1).trans rfl
          have f41 := blk_frozen b4 1
          have c50 : V.cell? ⟨w.heap.size + 1 + 1 + 1 + 1 + 1, 0, none⟩ = some (.int .i64 z.2.2.f0) := (blk_cell b5 0).trans rfl
          have f50 := blk_frozen b5 0
          have c51 : V.cell? ⟨w.heap.size + 1 + 1 + 1 + 1 + 1, 1, none⟩ = some (.int .i64 z.2.2.f1) := (blk_cell b5 1).trans rfl
          have f51 := blk_frozen b5 1
          have cN0 : V.cell? ⟨N, 0, none⟩ = some (.int .i64 A) := (blk_cell bN 0).trans rfl
          have fN0 := blk_frozen bN 0
          have cN1 : V.cell? ⟨N, 1, none⟩ = some (.int .i64 B) := (blk_cell bN 1).trans rfl
          have fN1 := blk_frozen bN 1
          have B1 := Aside0.mk b1
          have B2 := Aside0.mk b2
          have B3 := Aside0.mk b3
          have B4 := Aside0.mk b4
          have B5 := Aside0.mk b5
          have BN := Aside0.mk bN
          clear b1 b2 b3 b4 b5 bN
          gi_wp2_with (
            gi_at_builtin
            refine R_append_in k42 (w0 := w) w.heap.size rfl (.tmp 81) (.tmp 83) 30 42 (.agg #[.int .i64 0, .int .i64 0]) 16 rfl Try.underlying30 info42 rfl (by decide) (by decide) v z.1 (⟨wrap64 (z.2.1.f0 + A), wrap64 (z.2.1.f1 + B)⟩ : S42) [.int .i64 (wrap64 (z.2.1.f0 + A)), .int .i64 (wrap64 (z.2.1.f1 + B))] (fun k => w.heap.size + 8 ≤ k) (fun _ => False) rfl (by simp; rfl) (k42_mkM _ _ _ (⟨wrap64 (z.2.1.f0 + A), wrap64 (z.2.1.f1 + B)⟩ : S42)) (fun _ h => h.elim) ?fresh ?own ?bel ?base ?len ?_
            (case fresh => intro k hk; have h1 := H8.out; have h2 := SN.out; have h3 := HN.out; simp at hk; omega)
            (case own => have h := H6.out; rw [HZ.out] at h; exact R_set (R_set (R_turn h GV.out (by simp)) _ _ (fun k hk => by simp only; omega)) _ _ (fun k hk => by simp only; omega))
            (case bel => exact ((H7.out.grown GV.out H7.out.size (by simp)).setCell (by simp only; omega) _).setCell (by simp only; omega) _)
            (case base => have h1 := H8.out; have h2 := SN.out; have h3 := HN.out; simp; omega)
            (case len => have h := unpSt_len nums pre; rw [HZ.out] at h; omega)
            intro v1 w1 hr1 hb1 hg1 hat1
            go_loud (
              have hrow : ∀ k, v.ownBlock = some k → w.heap.size + 8 ≤ k ∧ k < N ∧ ∃ o, w'.heap[k]? = some o ∧ o.isCells = true := by
                intro k hk
                obtain ⟨h1, h2, h3, q, hq, cells, h4⟩ := (Kd.R_bound H6.out).1 k hk
                exact ⟨h1, by rw [← HN.out]; exact h3, _, h4, rfl⟩
              have no : ∀ k, k < w.heap.size + 8 ∨ N ≤ k → some k ≠ v.ownBlock := fun k hk e => by
                have := hrow k e.symm
                omega
              obtain ⟨V2, hV2⟩ : ∃ V2 : World, (V.setCell ⟨w.heap.size + 1 + 1 + 1 + 1, 0, none⟩ (.int .i64 (wrap64 (z.2.1.f0 + A)))).setCell ⟨w.heap.size + 1 + 1 + 1 + 1, 1, none⟩ (.int .i64 (wrap64 (z.2.1.f1 + B))) = V2 := ⟨_, rfl⟩
              rw [hV2] at hg1 hat1
              have KV : KeepsOthers w' V2 := by rw [← hV2]; exact ((KeepsOthers.of_grownBy GV.out (by simp)).trans (KeepsOthers.setCell _ _ _)).trans (KeepsOthers.setCell _ _ _)
              have hV2o : ∀ k, k ≠ w.heap.size + 1 + 1 + 1 + 1 → V2.heap[k]? = V.heap[k]? := fun k hk => by
                rw [← hV2]
                exact (Below.heap_setCell _ ⟨w.heap.size + 1 + 1 + 1 + 1, 1, none⟩ _ k hk).trans (Below.heap_setCell _ ⟨w.heap.size + 1 + 1 + 1 + 1, 0, none⟩ _ k hk)
              have hVo : ∀ k, k < N → V.heap[k]? = w'.heap[k]? := fun k hk => GV.out.block k (by rw [HN.out]; exact hk) (by simp)
              have s2 : V2.heap.size = N + 1 := by rw [← hV2]; simpa using SN.out
              have ho : ∀ k, k < w.heap.size + 8 ∨ N ≤ k → k < N + 1 → k ≠ w.heap.size + 1 + 1 + 1 + 1 → w1.heap[k]? = V.heap[k]? := fun k hk hk2 hk4 =>
                (hg1.block k (by rw [s2]; exact hk2) (no k hk)).trans (hV2o k hk4)
              have l8 := H8.out
              rw [HN.out] at l8
              have g1 := (ho _ (by omega) (by omega) (by omega)).trans B1.out
              have g2 := (ho _ (by omega) (by omega) (by omega)).trans B2.out
              have g3 := (ho _ (by omega) (by omega) (by omega)).trans B3.out
              have g5 := (ho _ (by omega) (by omega) (by omega)).trans B5.out
              have gN := (ho _ (by omega) (by omega) (by omega)).trans BN.out
              have g4 : w1.heap[w.heap.size + 1 + 1 + 1 + 1]? = some (.cells #[.int .i64 (wrap64 (z.2.1.f0 + A)), .int .i64 (wrap64 (z.2.1.f1 + B))] 42 (0, 0)) := by
                refine (hg1.block _ (by rw [s2]; omega) (no _ (by omega))).trans ?_
                rw [← hV2]
                exact blk_set (blk_set B4.out 0 _) 1 _
              have g6 := (ho (w.heap.size + 1 + 1 + 1 + 1 + 1 + 1) (by omega) (by omega) (by omega)).trans (hVo _ (by omega))
              have g7 := (ho (w.heap.size + 1 + 1 + 1 + 1 + 1 + 1 + 1) (by omega) (by omega) (by omega)).trans (hVo _ (by omega))
              have K1 : KeepsOthers w' w1 := KV.trans (KeepsOthers.of_grownBy hg1 (fun j o e hj => by
                obtain ⟨h1, h2, o', h3, h4⟩ := hrow j e
                rw [hV2o j (by omega), hVo j h2, h3] at hj
                injection hj with hj
                rw [← hj]
                exact h4))
              have s1 : w.heap.size + 8 ≤ w1.heap.size := by have := hg1.size; omega
              have UN := ui_next w w' w1 nums pre x A B (wrap64 (z.2.1.f0 + A)) (wrap64 (z.2.1.f1 + B)) v v1 (by rw [HZ.out, ← HA.out]; exact HA'.out.trans (IntWalk.i64_left _)) (by rw [HZ.out, ← HBb.out]; exact HB'.out.trans (IntWalk.i64_left _)) (by rw [HZ.out]) (by rw [HZ.out]) HG.out (by unfold goodAt; rw [← HA.out, ← HBb.out, GA.out, GB.out]; rfl) K1 g1 g2 g3 g4 (by rw [HZ.out]; exact g5) g6 g7 (by rw [HZ.out]; exact hr1) hb1 s1
              rw [HZ.out] at UN
              have UNA := Aside0.mk UN
              have e3 := blk_frozen g3 0
              have e50 := blk_frozen g5 0
              have e51 := blk_frozen g5 1
              have e30 : w1.cell? ⟨w.heap.size + 1 + 1 + 1, 0, none⟩ = some v := (blk_cell g3 0).trans rfl
              have e500 : w1.cell? ⟨w.heap.size + 1 + 1 + 1 + 1 + 1, 0, none⟩ = some (.int .i64 z.2.2.f0) := (blk_cell g5 0).trans rfl
              have e501 : w1.cell? ⟨w.heap.size + 1 + 1 + 1 + 1 + 1, 1, none⟩ = some (.int .i64 z.2.2.f1) := (blk_cell g5 1).trans rfl
              have eN0 : w1.cell? ⟨N, 0, none⟩ = some (.int .i64 A) := (blk_cell gN 0).trans rfl
              have eN1 : w1.cell? ⟨N, 1, none⟩ = some (.int .i64 B) := (blk_cell gN 1).trans rfl
              obtain ⟨A2, c2, hv1⟩ := Kd.R_slice hr1
              obtain ⟨L, hL⟩ : ∃ L : Nat, L = (z.1 ++ [(⟨wrap64 (z.2.1.f0 + A), wrap64 (z.2.1.f1 + B)⟩ : S42)]).length := ⟨_, rfl⟩
              rw [← hL] at hv1
              have hLL : L = z.1.length + 1 := by rw [hL]; simp
              have LL := Aside0.mk hLL
              clear hr1 hb1 hg1 hat1 hrow no hV2 KV hV2o hVo s2 ho l8 g1 g2 g3 g5 gN g4 g6 g7 K1 s1 UN hL hLL
              subst hv1)
            cases hd : decide (1 < (L : Int)))
          all_goals (first
            | exact UNA.out.2 _ (by have := LL.out; have := of_decide_eq_true hd; omega) rfl
            | exact UNA.out.1 _ (by have := LL.out; have := of_decide_eq_false hd; omega) rfl)
  case done =>
    intro D xs W hDD hxs hI hK
    have HDD := Aside0.mk hDD
    have hxs : xs = List.finRange m := hxs
    subst hxs
    obtain ⟨hgd, h1, h2, h3, h4, ⟨v, h5, h6⟩, h7, h8⟩ := hI
    obtain ⟨rc, hck, hr⟩ := HRES1.out (fun j => hgd j (List.mem_finRange j))
    have c30 : W.cell? ⟨w.heap.size + 1 + 1 + 1, 0, none⟩ = some v := (blk_cell h5 0).trans rfl
    have f10 := blk_frozen h1 0
    have f20 := blk_frozen h2 0
    obtain ⟨A3, c3, hv, hc3, hC3⟩ := Kd.R_reads h6
    subst hv
    have callc := (callsIn_wide (n := 4)).2 (block_Check.calls k A3 c3 _ rc W hC3 hc3 hck)
    have HCC := Aside0.mk callc
    have H1 := Aside0.mk h1
    have H2 := Aside0.mk h2
    have H5 := Aside0.mk h5
    have H6 := Aside0.mk h6
    have H7 := Aside0.mk h7
    have H8 := Aside0.mk h8
    have HR := Aside0.mk hr
    have HK := Aside0.mk hK
    clear callc h1 h2 h3 h4 h5 h6 h7 h8 hC3 hc3 hck hr hK hgd f10 f20
    gi_wp2_with (gi_at_call 34; refine HCC.out.mono ?_; go_loud (
      rintro e W2 ⟨rfl, hB2⟩
      have g1 := (hB2.block _ (by have := H8.out; omega)).trans H1.out
      have g2 := (hB2.block _ (by have := H8.out; omega)).trans H2.out
      have g5 := (hB2.block _ (by have := H8.out; omega)).trans H5.out
      have f10 := blk_frozen g1 0
      have f20 := blk_frozen g2 0
      have c10 : W2.cell? ⟨w.heap.size + 1, 0, none⟩ = some (.slice none 0 0) := (blk_cell g1 0).trans rfl
      have c20 : W2.cell? ⟨w.heap.size + 1 + 1, 0, none⟩ = some (.int .i64 0) := (blk_cell g2 0).trans rfl
      have c30 : W2.cell? ⟨w.heap.size + 1 + 1 + 1, 0, none⟩ = some _ := (blk_cell g5 0).trans rfl
      have g7 : Below w.heap.size w W2 := H7.out.trans (hB2.mono (by have := H8.out; omega))
      have gR : Kd.R k42 42 W2 w.heap.size (fun k => w.heap.size + 8 ≤ k) (.slice A3 (unpSt nums (List.finRange m)).1.length c3) (unpSt nums (List.finRange m)).1 :=
        Kd.R_mono (Kd.R_move (Kd.R_bound H6.out) (fun k hk => hB2.block k hk.2.2.1)) (fun _ hk => hk.1)
      have gD : W2.heap[D]? = some (.deferred (some [])) := (hB2.block D (Array.getElem?_eq_some_iff.1 HK.out).1).trans HK.out
      have BN := Aside0.mk (bad_next w W2 g1 g2 g7)
      have GN := Aside0.mk (good_next w W2 _ g1 g2 g7 _ gR)
      have GD := Aside0.mk gD
      clear g1 g2 g5 hB2 g7 gR gD
      obtain ⟨bb, hbb⟩ : ∃ bb : Bool, bb = (rc != 0) := ⟨_, rfl⟩
      have HBB := Aside0.mk hbb
      try rw [← hbb]
      clear hbb))
    all_goals (rename_i hcc; first
      | (have hrc : rc ≠ 0 := by simpa using hcc
         obtain ⟨k1, k2, k3, k4⟩ := BN.out _ rfl
         have hr := HR.out
         rw [if_neg hrc] at hr
         obtain ⟨rfl, rfl⟩ := Prod.mk.inj hr
         refine unp_end w _ [] 2 Q HQQ.out _ D (by have := HDD.out; have := HSZ.out; omega) (.slice none 0 0) rfl rfl k2 k3 (k1.same D _ GD.out rfl) (Kd.R_nil _ _ _ _ _) k4)
      | (have hrc : rc = 0 := by simpa using hcc
         obtain ⟨k1, k2, k3, k4, k5⟩ := GN.out _ rfl
         have hr := HR.out
         rw [if_pos hrc] at hr
         obtain ⟨rfl, rfl⟩ := Prod.mk.inj hr
         refine unp_end w _ _ 0 Q HQQ.out _ D (by have := HDD.out; have := HSZ.out; omega) _ rfl rfl k2 k3 (k1.same D _ GD.out rfl) k4 k5))
  case stop =>
    intro D c pre W hDD hpre hI hK
    obtain ⟨rfl, ⟨j, _, hj⟩, h1, h2, h7⟩ := hI
    have hr := HRES2.out ⟨j, hj⟩
    obtain ⟨rfl, rfl⟩ := Prod.mk.inj hr
    refine wpIn_ret ?_
    exact unp_end w W [] 2 Q HQQ.out _ D (by have := HSZ.out; omega) (.slice none 0 0) rfl rfl h1 h2 hK (Kd.R_nil _ _ _ _ _) h7
set_option maxRecDepth 100000 in
set_option maxHeartbeats 4000000 in
theorem unp_err (A0_0 : Option Addr) (c0_0 : Nat) (n : Nat) (A0_1 : Option Addr) (c0_1 : Nat) (tl : Nat) (w : World)
   (hmax : n ≤ maxLen) (hn : n = 0 ∨ (∃ m, n = 2 * m + 2) ∨ ∃ m ad q, n = 2 * m + 1 ∧ A0_0 = some ad ∧ w.cell? ad = some (.int .i64 q) ∧ (q ≠ m ∨ 0 < tl ∨ 64 < m)) :
    Calls Try.prog 18 #[.agg #[.slice A0_0 n c0_0, .slice A0_1 tl c0_1]] w fun e w' => ∃ v0_ : Value, e = .returned (.tuple #[v0_, .int .i64 2]) ∧ Kd.R k42 42 w' w.heap.size (fun _ => True) v0_ [] ∧ Below w.heap.size w w' := by
  have hu29 := Try.underlying29
  have hu42 := Try.underlying42
  have done : ∀ (o1 o2 o3 : Obj), Kd.R k42 42 (((w.alloc o1).alloc o2).alloc o3) w.heap.size (fun _ => True) (.slice none 0 0) [] ∧ Below w.heap.size w (((w.alloc o1).alloc o2).alloc o3) := fun o1 o2 o3 =>
    ⟨Kd.R_nil _ _ _ _ _, (((Below.refl _ w).alloc (Nat.le_refl _) _).alloc (by simp) _).alloc (by simp; omega) _⟩
  have DN := Aside0.mk done
  clear done
  rcases hn with rfl | ⟨m, rfl⟩ | ⟨m, ad, q, rfl, rfl, hc, hcase⟩
  · go_enter Try.func18, Try.ntmps18
    go_wp2
    exact bodyPost_ret (v := .tuple #[.slice none 0 0, .int .i64 2]) (by simp [results, Try.f18, go_sem]) rfl ⟨_, rfl, DN.out _ _ _⟩
  · have t1 : (2 * (m : Int) + 2 == 0) = false := by simp; omega
    go_enter Try.func18, Try.ntmps18
    go_wp2
    exact bodyPost_ret (v := .tuple #[.slice none 0 0, .int .i64 2]) (by simp [results, Try.f18, go_sem]) rfl ⟨_, rfl, DN.out _ _ _⟩
  · have hlt := World.block_lt_of_cell? w _ hc
    have hA : ∀ o1 o2 o3, (((w.alloc o1).alloc o2).alloc o3).cell? ad = some (.int .i64 q) := fun o1 o2 o3 => by
      rw [World.cell?_alloc_lt _ _ _ (by simp; omega), World.cell?_alloc_lt _ _ _ (by simp; omega), World.cell?_alloc_lt _ _ _ hlt, hc]
    have hm : m ≤ 4611686018427387903 := by simp only [maxLen] at hmax; omega
    clear hmax
    have t1 : (2 * (m : Int) + 1 == 0) = false := by simp; omega
    obtain ⟨p, hp⟩ : ∃ p : Int, p = (m : Int) := ⟨_, rfl⟩
    have t2 : (2 * (m : Int) + 1) / 2 = p := by omega
    clear hc hlt
    by_cases hq : q = p
    · subst hq
      have hcase : 0 < tl ∨ 64 < m := by omega
      have HP := Aside0.mk hp
      clear hp
      by_cases ht : 0 < tl
      · have t3 : decide (0 < (tl : Int)) = true := by simp; omega
        clear hcase ht
        go_enter Try.func18, Try.ntmps18
        go_wp2
        all_goals exact bodyPost_ret (v := .tuple #[.slice none 0 0, .int .i64 2]) (by simp [results, Try.f18, go_sem]) rfl ⟨_, rfl, DN.out _ _ _⟩
      · have ht0 : tl = 0 := by omega
        subst ht0
        have t3 : decide (64 < q) = true := by have := HP.out; simp; omega
        clear hcase ht
        go_enter Try.func18, Try.ntmps18
        go_wp2
        all_goals exact bodyPost_ret (v := .tuple #[.slice none 0 0, .int .i64 2]) (by simp [results, Try.f18, go_sem]) rfl ⟨_, rfl, DN.out _ _ _⟩
    · have t3 : (q != p) = true := by simpa using hq
      have t4 : (q == p) = false := by simpa using hq
      clear hcase hp
      go_enter Try.func18, Try.ntmps18
      go_wp2
      all_goals exact bodyPost_ret (v := .tuple #[.slice none 0 0, .int .i64 2]) (by simp [results, Try.f18, go_sem]) rfl ⟨_, rfl, DN.out _ _ _⟩
def block_Unpack.ok (nums : List Int) (texts : List ByteArray) : Bool := decide (nums.length % 2 = 1) && decide (rd nums 0 = ((nums.length / 2 : Nat) : Int)) && decide (texts.length = 0) && decide (nums.length / 2 ≤ 64)
def block_Unpack.good (nums : List Int) : Bool := (List.finRange (nums.length / 2)).all fun j => goodAt nums j.val
def block_Unpack.row (nums : List Int) : List S42 := (unpSt nums (List.finRange (nums.length / 2))).1
def block_Unpack.f (k : Nat) (nums : List Int) (texts : List ByteArray) : Option (List S42 × Int) :=
  if nums.length ≤ maxLen then
    if block_Unpack.ok nums texts = true then
      if block_Unpack.good nums = true then (block_Check.f k (block_Unpack.row nums)).bind fun rc => some (if rc = 0 then (block_Unpack.row nums, 0) else ([], 2))
      else some ([], 2)
    else some ([], 2)
  else none
theorem block_Unpack.calls (k : Nat) (A0_0 : Option Addr) (c0_0 : Nat) (l0_0 : List Int) (A0_1 : Option Addr) (c0_1 : Nat) (l0_1 : List ByteArray) (r1 : List (S42)) (r2 : Int) (w : World) (hr0_0 : Kd.C (Kd.int .i64) w A0_0 l0_0.length l0_0) (hc0_0 : l0_0.length ≤ c0_0) (hr0_1 : Kd.C Kd.string w A0_1 l0_1.length l0_1) (hc0_1 : l0_1.length ≤ c0_1) (h : block_Unpack.f k l0_0 l0_1 = some (r1, r2)) :
    Calls Try.prog 18 #[.agg #[.slice A0_0 l0_0.length c0_0, .slice A0_1 l0_1.length c0_1]] w fun e w' => ∃ v0_ : Value, e = .returned (.tuple #[v0_, .int .i64 r2]) ∧ Kd.R k42 42 w' w.heap.size (fun _ => True) v0_ r1 ∧ Below w.heap.size w w' := by
  unfold block_Unpack.f at h
  split at h
  case isFalse => cases h
  rename_i hmax
  have cell0 : 0 < l0_0.length → ∃ ad, A0_0 = some ad ∧ w.cell? ad = some (.int .i64 (rd l0_0 0)) := fun hp => by
    obtain ⟨ad, e1, hx⟩ := Kd.at_int hr0_0 0 (by omega) (by omega)
    exact ⟨ad, e1, by simpa [Addr.add] using hx⟩
  split at h
  case isTrue hok =>
    unfold block_Unpack.ok at hok
    simp only [Bool.and_eq_true, decide_eq_true_eq] at hok
    obtain ⟨⟨⟨h1, h2⟩, h3⟩, h4⟩ := hok
    obtain ⟨ad, rfl, hc⟩ := cell0 (by omega)
    obtain ⟨m, hm⟩ : ∃ m, m = l0_0.length / 2 := ⟨_, rfl⟩
    have ht : l0_1 = [] := List.eq_nil_of_length_eq_zero h3
    refine unp_walk k ad c0_0 l0_0 A0_1 c0_1 l0_1 w hr0_0 hc0_0 m (by omega) (by omega) (by rw [h2, hm]) ht r1 r2 ?_ ?_
    · intro hall
      have hg : block_Unpack.good l0_0 = true := by
        unfold block_Unpack.good
        rw [← hm]
        exact List.all_eq_true.2 fun j _ => hall j
      rw [if_pos hg] at h
      obtain ⟨rc, hck, he⟩ := Option.bind_eq_some_iff.1 h
      unfold block_Unpack.row at hck he
      rw [← hm] at hck he
      exact ⟨rc, hck, (Option.some.inj he).symm⟩
    · rintro ⟨j, hj⟩
      have hg : ¬ block_Unpack.good l0_0 = true := fun hg => by
        unfold block_Unpack.good at hg
        rw [← hm] at hg
        have := List.all_eq_true.1 hg j (List.mem_finRange j)
        rw [hj] at this
        cases this
      rw [if_neg hg] at h
      exact (Option.some.inj h).symm
  case isFalse hok =>
    obtain ⟨rfl, rfl⟩ := Prod.mk.inj (Option.some.inj h)
    refine unp_err A0_0 c0_0 l0_0.length A0_1 c0_1 l0_1.length w hmax ?_
    rcases Nat.eq_zero_or_pos l0_0.length with hz | hp
    · exact .inl hz
    · rcases Nat.mod_two_eq_zero_or_one l0_0.length with h2 | h2
      · exact .inr (.inl ⟨l0_0.length / 2 - 1, by omega⟩)
      · obtain ⟨ad, e1, hc⟩ := cell0 hp
        refine .inr (.inr ⟨l0_0.length / 2, ad, _, by omega, e1, hc, ?_⟩)
        unfold block_Unpack.ok at hok
        simp only [Bool.and_eq_true, decide_eq_true_eq] at hok
        by_cases q1 : rd l0_0 0 = ((l0_0.length / 2 : Nat) : Int)
        · by_cases q2 : l0_1.length = 0
          · exact .inr (.inr (Nat.lt_of_not_le fun q3 => hok ⟨⟨⟨h2, q1⟩, q2⟩, q3⟩))
          · exact .inr (.inl (Nat.pos_of_ne_zero q2))
        · exact .inl q1
end Go.Proofs.Ytlpohipneianjaa.G
end
section
namespace Go.Proofs.Ytlpohipneianjaa.G
open Go.RowKit Go.Proofs.YtlpohipneianjaaW.PrintWords Go.Proofs.YtlpohipneianjaaW.PrintLast Go.Proofs.YtlpohipneianjaaW.PrintMore
set_option linter.unusedVariables false
set_option linter.unusedSimpArgs false
attribute [local go_sem high] eqA42
def windroseref11_Same.l0 : Nat → List (S42) → List (S42) → Int → Option (Bool)
  | 0, _, _, _ => none
  | k + 1, x0, x1, x5 => if x5 < (x0.length : Int) then (if 0 ≤ x5 then (if x5 < (x1.length : Int) then (if (!(((rd_T42 x0 x5).f0) == ((rd_T42 x1 x5).f0)) || (!(((rd_T42 x0 x5).f1) == ((rd_T42 x1 x5).f1)))) = true then (some false) else (windroseref11_Same.l0 k x0 x1 (wrap64 (x5 + 1)))) else (none)) else (none)) else (some true)
def windroseref11_Same.f (k : Nat) (l0 : List (S42)) (l1 : List (S42)) : Option (Bool) := if (l0.length : Int) = (l1.length : Int) then (windroseref11_Same.l0 k l0 l1 0) else (some false)
set_option maxHeartbeats 8000000 in
set_option maxRecDepth 100000 in
theorem windroseref11_Same.calls (k : Nat) (A0 : Option Addr) (c0 : Nat) (l0 : List (S42)) (A1 : Option Addr) (c1 : Nat) (l1 : List (S42)) (r : Bool) (w : World) (hr0 : Kd.C k42 w A0 l0.length l0) (hc0 : l0.length ≤ c0) (hr1 : Kd.C k42 w A1 l1.length l1) (hc1 : l1.length ≤ c1) (h : windroseref11_Same.f k l0 l1 = some r) :
    Calls Try.prog 20 #[.slice A0 l0.length c0, .slice A1 l1.length c1] w fun e w' => e = .returned (.bool r) ∧ Drawn0 w w' := by
  have hu42 := Try.underlying42
  have HR0 := Aside0.mk hr0
  have HC0 := Aside0.mk hc0
  clear hr0 hc0
  have HR1 := Aside0.mk hr1
  have HC1 := Aside0.mk hc1
  clear hr1 hc1
  have H : (if (l0.length : Int) = (l1.length : Int) then (windroseref11_Same.l0 k l0 l1 0) else (some false)) = some r := h
  clear h
  by_cases c3 : (l0.length : Int) = (l1.length : Int)
  · rw [if_pos c3] at H
    have c3b0 : ((l0.length : Int) == (l1.length : Int)) = true := beq_iff_eq.mpr c3
    have c3b1 : ((l0.length : Int) != (l1.length : Int)) = false := bne_eq_false_iff_eq.mpr c3
    have c3b2 : (l0.length == l1.length) = true := by first | simpa using c3 | (simp at c3 ⊢; omega)
    clear c3
    have H' := Aside0.mk H
    clear H
    go_enter Try.func20, Try.ntmps20
    go_wp2
    repeat (go_quiet (fail); try go_wp2)
    go_loopg [5] k (fun kq v5 w' => ∃ (x5_1 : Int), v5 = .int .i64 x5_1 ∧ Aside0 (windroseref11_Same.l0 kq l0 l1 x5_1 = some r) ∧ Aside0 (kq ≤ k) ∧ Drawn0 w w')
    case atStart => exact ⟨(0), (by first | rfl | (simp; done) | (simp [*]; done)), H', ⟨Nat.le_refl _⟩, by repeat (first | exact Drawn0.refl _ | apply Drawn0.step)⟩
    case round =>
      clear H'
      try clear c1
      try clear c2
      try clear p2
      try clear c3
      try clear c3b0
      try clear c3b1
      try clear c3b2
      obtain ⟨x5_1, rfl, HA, HK1, ⟨m1, rfl⟩⟩ := hrel
      cases gk with
      | zero => exact absurd HA.out (by simp [windroseref11_Same.l0])
      | succ k1 =>
        have H := HA.out
        clear HA
        simp only [windroseref11_Same.l0] at H
        by_cases c4 : x5_1 < (l0.length : Int)
        · rw [if_pos c4] at H
          have c4b0 : decide (x5_1 < (l0.length : Int)) = true := decide_eq_true c4
          clear c4
          by_cases c5 : 0 ≤ x5_1
          · rw [if_pos c5] at H
            have c5b0 : decide (0 ≤ x5_1) = true := decide_eq_true c5
            clear c5
            by_cases c6 : x5_1 < (l1.length : Int)
            · rw [if_pos c6] at H
              have c6b0 : decide (x5_1 < (l1.length : Int)) = true := decide_eq_true c6
              clear c6
              by_cases c7 : (!(((rd_T42 l0 x5_1).f0) == ((rd_T42 l1 x5_1).f0)) || (!(((rd_T42 l0 x5_1).f1) == ((rd_T42 l1 x5_1).f1)))) = true
              · rw [if_pos c7] at H
                have c7b0 : (!(((rd_T42 l0 x5_1).f0) == ((rd_T42 l1 x5_1).f0)) || (!(((rd_T42 l0 x5_1).f1) == ((rd_T42 l1 x5_1).f1)))) = true := c7
                clear c7
                obtain rfl := Option.some.inj H
                have p207 : 0 ≤ (x5_1 : Int) := of_decide_eq_true (by first | (with_reducible assumption) | assumption)
                have q207 : x5_1 < (l0.length : Int) := of_decide_eq_true (by first | (with_reducible assumption) | assumption)
                obtain ⟨ad207, e207, hx207_0, hx207_1⟩ := at_T42 HR0.out x5_1 p207 q207
                cases e207
                replace p207 := eq_true p207
                replace q207 := eq_true q207
                have p208 : 0 ≤ (x5_1 : Int) := of_decide_eq_true (by first | (with_reducible assumption) | assumption)
                have q208 : x5_1 < (l1.length : Int) := of_decide_eq_true (by first | (with_reducible assumption) | assumption)
                obtain ⟨ad208, e208, hx208_0, hx208_1⟩ := at_T42 HR1.out x5_1 p208 q208
                cases e208
                replace p208 := eq_true p208
                replace q208 := eq_true q208
                go_wp2
                repeat (go_quiet (fail); try go_wp2)
                go_ret
                exact ⟨by first | rfl | (simp; done) | (simp [*]; done), by repeat (first | exact Drawn0.refl _ | apply Drawn0.step)⟩
              · rw [if_neg c7] at H
                have c7b0 : (!(((rd_T42 l0 x5_1).f0) == ((rd_T42 l1 x5_1).f0)) || (!(((rd_T42 l0 x5_1).f1) == ((rd_T42 l1 x5_1).f1)))) = false := by simpa using c7
                clear c7
                have H' := Aside0.mk H
                clear H
                have p207 : 0 ≤ (x5_1 : Int) := of_decide_eq_true (by first | (with_reducible assumption) | assumption)
                have q207 : x5_1 < (l0.length : Int) := of_decide_eq_true (by first | (with_reducible assumption) | assumption)
                obtain ⟨ad207, e207, hx207_0, hx207_1⟩ := at_T42 HR0.out x5_1 p207 q207
                cases e207
                replace p207 := eq_true p207
                replace q207 := eq_true q207
                have p208 : 0 ≤ (x5_1 : Int) := of_decide_eq_true (by first | (with_reducible assumption) | assumption)
                have q208 : x5_1 < (l1.length : Int) := of_decide_eq_true (by first | (with_reducible assumption) | assumption)
                obtain ⟨ad208, e208, hx208_0, hx208_1⟩ := at_T42 HR1.out x5_1 p208 q208
                cases e208
                replace p208 := eq_true p208
                replace q208 := eq_true q208
                go_wp2
                repeat (go_quiet (fail); try go_wp2)
                go_roundg k1
                case measure => have := HK1.out; omega
                case rel => exact ⟨(wrap64 (x5_1 + 1)), (by first | rfl | (simp; done) | (simp [*]; done)), H', ⟨by have := HK1.out; omega⟩, by repeat (first | exact Drawn0.refl _ | apply Drawn0.step)⟩
            · rw [if_neg c6] at H
              exact absurd H (by simp)
          · rw [if_neg c5] at H
            exact absurd H (by simp)
        · rw [if_neg c4] at H
          have c4b0 : decide (x5_1 < (l0.length : Int)) = false := decide_eq_false c4
          clear c4
          obtain rfl := Option.some.inj H
          go_wp2
          repeat (go_quiet (fail); try go_wp2)
          go_ret
          exact ⟨by first | rfl | (simp; done) | (simp [*]; done), by repeat (first | exact Drawn0.refl _ | apply Drawn0.step)⟩
  · rw [if_neg c3] at H
    have c3b0 : ((l0.length : Int) == (l1.length : Int)) = false := beq_eq_false_iff_ne.mpr c3
    have c3b1 : ((l0.length : Int) != (l1.length : Int)) = true := bne_iff_ne.mpr c3
    have c3b2 : (l0.length == l1.length) = false := by first | simpa using c3 | (simp at c3 ⊢; omega)
    obtain rfl := Option.some.inj H
    go_enter Try.func20, Try.ntmps20
    go_wp2
    repeat (go_quiet (fail); try go_wp2)
    go_ret
    exact ⟨by first | rfl | (simp; done) | (simp [*]; done), by repeat (first | exact Drawn0.refl _ | apply Drawn0.step)⟩
def windroselaw11_BlockUnpacks.j0 : Nat → Bool → List Int → List ByteArray → Option (Bool)
  | 0, _, _, _ => none
  | k + 1, x16, x210000, x210001 => if x16 = true then ((windroselaw11_awake.f k).bind fun t210 => (some t210)) else ((block_Unpack.f k x210000 x210001).bind fun bt211 => ((windroseref11_Unpack.f k x210000 x210001).bind fun bt215 => (if bt215.2 = true then (if bt211.2 = 0 then ((windroseref11_Same.f k bt211.1 bt215.1).bind fun t219 => (if t219 = true then ((windroselaw11_awake.f k).bind fun t220 => (some t220)) else (some false))) else (some false)) else (if bt211.2 = 2 then (if (bt211.1.length : Int) = 0 then ((windroselaw11_awake.f k).bind fun t221 => (some t221)) else (some false)) else (some false)))))
def windroselaw11_BlockUnpacks.f (k : Nat) (l0_0 : List Int) (l0_1 : List ByteArray) : Option (Bool) := if (l0_0.length : Int) > 400 then (windroselaw11_BlockUnpacks.j0 k true l0_0 l0_1) else (windroselaw11_BlockUnpacks.j0 k (decide ((l0_1.length : Int) > 100)) l0_0 l0_1)
set_option maxHeartbeats 8000000 in
set_option maxRecDepth 100000 in
theorem windroselaw11_BlockUnpacks.calls (k : Nat) (A0_0 : Option Addr) (c0_0 : Nat) (l0_0 : List Int) (A0_1 : Option Addr) (c0_1 : Nat) (l0_1 : List ByteArray) (r : Bool) (w : World) (hr0_0 : Kd.C (Kd.int .i64) w A0_0 l0_0.length l0_0) (hc0_0 : l0_0.length ≤ c0_0) (hr0_1 : Kd.C Kd.string w A0_1 l0_1.length l0_1) (hc0_1 : l0_1.length ≤ c0_1) (h : windroselaw11_BlockUnpacks.f k l0_0 l0_1 = some r) :
    Calls Try.prog 4 #[.agg #[.slice A0_0 l0_0.length c0_0, .slice A0_1 l0_1.length c0_1]] w fun e w' => e = .returned (.bool r) ∧ Below w.heap.size w w' := by
  have hu29 := Try.underlying29
  have HR0_0 := Aside0.mk hr0_0
  have HC0_0 := Aside0.mk hc0_0
  clear hr0_0 hc0_0
  have HR0_1 := Aside0.mk hr0_1
  have HC0_1 := Aside0.mk hc0_1
  clear hr0_1 hc0_1
  have HB := Aside0.mk (Below.refl w.heap.size w)
  have H : (if (l0_0.length : Int) > 400 then (windroselaw11_BlockUnpacks.j0 k true l0_0 l0_1) else (windroselaw11_BlockUnpacks.j0 k (decide ((l0_1.length : Int) > 100)) l0_0 l0_1)) = some r := h
  clear h
  have HC2 := Aside0.mk H
  clear H
  go_enter Try.func4, Try.ntmps4
  go_upto_region 1 with (first | ((with_reducible refine gate_dst (N := 1) rfl ?_); (try (refine gate_guard (by rfl) ?_; dsimp only)); refine box_event ?hg (N := 1) ?hd (cs := #[.slice A0_0 l0_0.length c0_0, .slice A0_1 l0_1.length c0_1]) (t := 29) ?hr ?_; (case hd => rfl); (case hg => rfl); (case hr => first | (go_simp; done) | (go_simp; rfl)); intro gb209 hg w3 hbox hb; have n0_ := Aside0.mk (below_step (by repeat (first | (with_reducible first | exact HB.out | apply below_alloc | apply pw_below_drewN | apply below_drew1) | exact HB.out)) hb); have n1_ := Aside0.mk (hbox); have n2_ := Aside0.mk ((by rw [hg]; exact (below_size (by repeat (first | (with_reducible first | exact HB.out | apply below_alloc | apply pw_below_drewN | apply below_drew1) | exact HB.out))) : w.heap.size ≤ gb209)); have n3_ := Aside0.mk ((by rw [hg]; exact (below_size (by repeat (first | (with_reducible first | exact HB.out | apply below_alloc | apply pw_below_drewN | apply below_drew1) | exact HB.out))) : w.heap.size ≤ gb209)); clear HB; have HB := n0_; have BK209 := n1_; have GW209 := n2_; have GE209 := n3_; clear n0_ n1_ n2_ n3_; clear hb hbox hg))
  (try simp only [Act.put, List.setIfInBounds_toArray, List.set_cons_zero, List.set_cons_succ])
  go_cut [16] (fun v16 wc => ∃ (kq : Nat) (x16_1 : Bool), v16 = .bool x16_1 ∧ Aside0 (windroselaw11_BlockUnpacks.j0 kq x16_1 l0_0 l0_1 = some r) ∧ Aside0 (kq ≤ k) ∧ Aside0 (wc.heap[gb209]? = some (.cells #[(.slice A0_0 l0_0.length c0_0), (.slice A0_1 l0_1.length c0_1)] 29 (0, 0))) ∧ Aside0 (Below w.heap.size w wc))
  case first =>
    have H := HC2.out
    clear HC2
    by_cases c4 : (l0_0.length : Int) > 400
    · rw [if_pos c4] at H
      have c4b0 : decide (400 < (l0_0.length : Int)) = true := decide_eq_true c4
      have c4b1 : decide (400 < l0_0.length) = true := decide_eq_true (by omega)
      clear c4
      (first | rw [c4b0] | (simp only [i64_w, i32_w]; rw [c4b0]) | skip)
      have H' := Aside0.mk H
      clear H
      have hcz5_0 : w3.cell? ⟨gb209, 0, none⟩ = some (.slice A0_0 l0_0.length c0_0) := (blk_cell BK209.out 0).trans rfl
      have hcz5_1 : w3.cell? ⟨gb209, 1, none⟩ = some (.slice A0_1 l0_1.length c0_1) := (blk_cell BK209.out 1).trans rfl
      have hfz5_0 := blk_frozen BK209.out 0
      have hfz5_1 := blk_frozen BK209.out 1
      go_wp2
      go_meet
      case rel => exact ⟨_, (true), (by first | rfl | (simp; done) | (simp [*]; done)), H', ⟨by first | omega | exact Nat.le_refl _⟩, ⟨by (with_reducible repeat (first | refine blk_drewN ?_ _ | refine blk_drew ?_ | refine blk_alloc ?_ _)); exact BK209.out⟩, ⟨by repeat (first | (with_reducible first | exact HB.out | apply below_alloc | apply pw_below_drewN | apply below_drew1 | refine below_set ?_ GE209.out) | exact HB.out)⟩⟩
    · rw [if_neg c4] at H
      have c4b0 : decide (400 < (l0_0.length : Int)) = false := decide_eq_false c4
      have c4b1 : decide (400 < l0_0.length) = false := decide_eq_false (by omega)
      clear c4
      (first | rw [c4b0] | (simp only [i64_w, i32_w]; rw [c4b0]) | skip)
      have H' := Aside0.mk H
      clear H
      have hcz6_0 : w3.cell? ⟨gb209, 0, none⟩ = some (.slice A0_0 l0_0.length c0_0) := (blk_cell BK209.out 0).trans rfl
      have hcz6_1 : w3.cell? ⟨gb209, 1, none⟩ = some (.slice A0_1 l0_1.length c0_1) := (blk_cell BK209.out 1).trans rfl
      have hfz6_0 := blk_frozen BK209.out 0
      have hfz6_1 := blk_frozen BK209.out 1
      go_wp2
      go_meet
      case rel => exact ⟨_, (decide ((l0_1.length : Int) > 100)), (by first | rfl | (simp; done) | (simp [*]; done)), H', ⟨by first | omega | exact Nat.le_refl _⟩, ⟨by (with_reducible repeat (first | refine blk_drewN ?_ _ | refine blk_drew ?_ | refine blk_alloc ?_ _)); exact BK209.out⟩, ⟨by repeat (first | (with_reducible first | exact HB.out | apply below_alloc | apply pw_below_drewN | apply below_drew1 | refine below_set ?_ GE209.out) | exact HB.out)⟩⟩
  case rest =>
    clear HC2
    try clear p2
    try clear c4
    try clear c4b0
    try clear c4b1
    try clear hcz5_0
    try clear hcz5_1
    try clear hcz6_0
    try clear hcz6_1
    try clear hfz5_0
    try clear hfz5_1
    try clear hfz6_0
    try clear hfz6_1
    obtain ⟨kq, x16_1, rfl, HA, HJ1, BK209, HB⟩ := hcut
    cases kq with
    | zero => exact absurd HA.out (by simp [windroselaw11_BlockUnpacks.j0])
    | succ kj1 =>
      have H := HA.out
      clear HA
      simp only [windroselaw11_BlockUnpacks.j0] at H
      by_cases c7 : x16_1 = true
      · subst c7
        have H1 : ((windroselaw11_awake.f kj1).bind fun t210 => (some t210)) = some r := by rw [if_pos rfl] at H; exact H
        clear H
        have H := H1
        clear H1
        replace H := Option.bind_eq_some_iff.mp H
        obtain ⟨t210, A80, H⟩ := H
        replace H : (some t210) = some r := H
        have A8 := Aside0.mk A80
        clear A80
        obtain rfl := Option.some.inj H
        go_wp2_with (first | ((with_reducible refine gate_callee (f := 17) rfl ?_); refine goesL_ (some 17) rfl rfl Try.func17 (by kernel_rfl) rfl #[] rfl (by (try simp only [List.map_toArray, List.map_cons, List.map_nil]); first | done | rfl | (simp only [List.length_drop, List.length_take]; rfl)) ?_; (with_reducible refine (windroselaw11_awake.calls kj1  t210 _ A8.out).mono ?_); rintro e w9 ⟨rfl, hb⟩; refine ⟨_, rfl, ?_⟩; have n0_ := Aside0.mk (blk_below (g := gb209) (o := .cells #[.slice A0_0 l0_0.length c0_0, .slice A0_1 l0_1.length c0_1] 29 (0, 0)) (by (with_reducible repeat (first | refine blk_drewN ?_ _ | refine blk_drew ?_ | refine blk_alloc ?_ _)); exact BK209.out) hb); have n1_ := Aside0.mk (below_step (by repeat (first | (with_reducible first | exact HB.out | apply below_alloc | apply pw_below_drewN | apply below_drew1 | refine below_set ?_ GE209.out) | exact HB.out)) hb); clear BK209; clear HB; have BK209 := n0_; have HB := n1_; clear n0_ n1_; (try clear hb); (try clear hb2); (try clear hk); (try clear hi)))
        go_ret
        exact ⟨by first | rfl | (simp [errW_none, errW_some] <;> rfl) | (simp [*, errW_none, errW_some] <;> rfl), by repeat (first | (with_reducible first | exact HB.out | apply below_alloc | apply pw_below_drewN | apply below_drew1 | refine below_set ?_ GE209.out) | exact HB.out)⟩
      · replace c7 := Bool.eq_false_iff.mpr c7
        subst c7
        have H1 : ((block_Unpack.f kj1 l0_0 l0_1).bind fun bt211 => ((windroseref11_Unpack.f kj1 l0_0 l0_1).bind fun bt215 => (if bt215.2 = true then (if bt211.2 = 0 then ((windroseref11_Same.f kj1 bt211.1 bt215.1).bind fun t219 => (if t219 = true then ((windroselaw11_awake.f kj1).bind fun t220 => (some t220)) else (some false))) else (some false)) else (if bt211.2 = 2 then (if (bt211.1.length : Int) = 0 then ((windroselaw11_awake.f kj1).bind fun t221 => (some t221)) else (some false)) else (some false))))) = some r := by rw [if_neg (show ¬ (false = true) by decide)] at H; exact H
        clear H
        have H := H1
        clear H1
        replace H := Option.bind_eq_some_iff.mp H
        obtain ⟨⟨t211, t214⟩, A100, H⟩ := H
        replace H : ((windroseref11_Unpack.f kj1 l0_0 l0_1).bind fun bt215 => (if bt215.2 = true then (if t214 = 0 then ((windroseref11_Same.f kj1 t211 bt215.1).bind fun t219 => (if t219 = true then ((windroselaw11_awake.f kj1).bind fun t220 => (some t220)) else (some false))) else (some false)) else (if t214 = 2 then (if (t211.length : Int) = 0 then ((windroselaw11_awake.f kj1).bind fun t221 => (some t221)) else (some false)) else (some false)))) = some r := H
        have A10 := Aside0.mk A100
        clear A100
        replace H := Option.bind_eq_some_iff.mp H
        obtain ⟨⟨t215, t218⟩, A110, H⟩ := H
        replace H : (if t218 = true then (if t214 = 0 then ((windroseref11_Same.f kj1 t211 t215).bind fun t219 => (if t219 = true then ((windroselaw11_awake.f kj1).bind fun t220 => (some t220)) else (some false))) else (some false)) else (if t214 = 2 then (if (t211.length : Int) = 0 then ((windroselaw11_awake.f kj1).bind fun t221 => (some t221)) else (some false)) else (some false))) = some r := H
        have A11 := Aside0.mk A110
        clear A110
        by_cases c12 : t218 = true
        · subst c12
          have H1 : (if t214 = 0 then ((windroseref11_Same.f kj1 t211 t215).bind fun t219 => (if t219 = true then ((windroselaw11_awake.f kj1).bind fun t220 => (some t220)) else (some false))) else (some false)) = some r := by rw [if_pos rfl] at H; exact H
          clear H
          have H := H1
          clear H1
          by_cases c13 : t214 = 0
          · rw [if_pos c13] at H
            have c13b0 : (t214 == 0) = true := beq_iff_eq.mpr c13
            have c13b1 : (t214 != 0) = false := bne_eq_false_iff_eq.mpr c13
            clear c13
            replace H := Option.bind_eq_some_iff.mp H
            obtain ⟨t219, A140, H⟩ := H
            replace H : (if t219 = true then ((windroselaw11_awake.f kj1).bind fun t220 => (some t220)) else (some false)) = some r := H
            have A14 := Aside0.mk A140
            clear A140
            by_cases c15 : t219 = true
            · subst c15
              have H1 : ((windroselaw11_awake.f kj1).bind fun t220 => (some t220)) = some r := by rw [if_pos rfl] at H; exact H
              clear H
              have H := H1
              clear H1
              replace H := Option.bind_eq_some_iff.mp H
              obtain ⟨t220, A160, H⟩ := H
              replace H : (some t220) = some r := H
              have A16 := Aside0.mk A160
              clear A160
              obtain rfl := Option.some.inj H
              have hcz17_0 : wc.cell? ⟨gb209, 0, none⟩ = some (.slice A0_0 l0_0.length c0_0) := (blk_cell BK209.out 0).trans rfl
              have hcz17_1 : wc.cell? ⟨gb209, 1, none⟩ = some (.slice A0_1 l0_1.length c0_1) := (blk_cell BK209.out 1).trans rfl
              have hfz17_0 := blk_frozen BK209.out 0
              have hfz17_1 := blk_frozen BK209.out 1
              go_wp2_with (first | ((with_reducible refine gate_callee (f := 18) rfl ?_); refine goesL_ (some 20) rfl rfl Try.func18 (by kernel_rfl) rfl #[.agg #[.slice A0_0 l0_0.length c0_0, .slice A0_1 l0_1.length c0_1]] rfl (by (try simp only [List.map_toArray, List.map_cons, List.map_nil]); first | done | rfl | (simp only [List.length_drop, List.length_take]; rfl)) ?_; (with_reducible refine (block_Unpack.calls kj1 _ _ l0_0 _ _ l0_1 t211 t214 _ ?side1 ?side2 ?side3 ?side4 A10.out).mono ?_); (case side1 => repeat (first | exact (Kd.C_below HR0_0.out HB.out) | (with_reducible refine Kd.C_alloc ?_ _) | (with_reducible refine Kd.C_drewN ?_ _) | (with_reducible refine Kd.C_drew ?_))); (case side2 => exact HC0_0.out); (case side3 => repeat (first | exact (Kd.C_below HR0_1.out HB.out) | (with_reducible refine Kd.C_alloc ?_ _) | (with_reducible refine Kd.C_drewN ?_ _) | (with_reducible refine Kd.C_drew ?_))); (case side4 => exact HC0_1.out); rintro e w18 ⟨v212, rfl, ho0, hb⟩; refine ⟨_, rfl, ?_⟩; have n0_ := Aside0.mk (Kd.R_lower ho0 (below_size (by repeat (first | (with_reducible first | exact HB.out | apply below_alloc | apply pw_below_drewN | apply below_drew1 | refine below_set ?_ GE209.out) | exact HB.out)))); have n1_ := Aside0.mk (blk_below (g := gb209) (o := .cells #[.slice A0_0 l0_0.length c0_0, .slice A0_1 l0_1.length c0_1] 29 (0, 0)) (by (with_reducible repeat (first | refine blk_drewN ?_ _ | refine blk_drew ?_ | refine blk_alloc ?_ _)); exact BK209.out) hb); have n2_ := Aside0.mk (below_step (by repeat (first | (with_reducible first | exact HB.out | apply below_alloc | apply pw_below_drewN | apply below_drew1 | refine below_set ?_ GE209.out) | exact HB.out)) hb); clear BK209; clear HB; have HO213 := n0_; have BK209 := n1_; have HB := n2_; clear n0_ n1_ n2_; (try clear hb); (try clear hb2); (try clear hk); (try clear hi); (try clear ho0); have hcz19_0 : w18.cell? ⟨gb209, 0, none⟩ = some (.slice A0_0 l0_0.length c0_0) := (blk_cell BK209.out 0).trans rfl; have hcz19_1 : w18.cell? ⟨gb209, 1, none⟩ = some (.slice A0_1 l0_1.length c0_1) := (blk_cell BK209.out 1).trans rfl; have hfz19_0 := blk_frozen BK209.out 0; have hfz19_1 := blk_frozen BK209.out 1) | ((with_reducible refine gate_callee (f := 19) rfl ?_); refine goesL_ (some 25) rfl rfl Try.func19 (by kernel_rfl) rfl #[.agg #[.slice A0_0 l0_0.length c0_0, .slice A0_1 l0_1.length c0_1]] rfl (by (try simp only [List.map_toArray, List.map_cons, List.map_nil]); first | done | rfl | (simp only [List.length_drop, List.length_take]; rfl)) ?_; (with_reducible refine (windroseref11_Unpack.calls kj1 _ _ l0_0 _ _ l0_1 t215 true _ ?side1 ?side2 ?side3 ?side4 A11.out).mono ?_); (case side1 => repeat (first | exact (Kd.C_below HR0_0.out HB.out) | (with_reducible refine Kd.C_alloc ?_ _) | (with_reducible refine Kd.C_drewN ?_ _) | (with_reducible refine Kd.C_drew ?_))); (case side2 => exact HC0_0.out); (case side3 => repeat (first | exact (Kd.C_below HR0_1.out HB.out) | (with_reducible refine Kd.C_alloc ?_ _) | (with_reducible refine Kd.C_drewN ?_ _) | (with_reducible refine Kd.C_drew ?_))); (case side4 => exact HC0_1.out); rintro e w20 ⟨v216, rfl, ho0, hb⟩; refine ⟨_, rfl, ?_⟩; have n0_ := Aside0.mk (Kd.R_elder' (by (with_reducible repeat (first | apply Kd.R_alloc | apply Kd.R_drewN | apply Kd.R_drew)); exact HO213.out) (Kd.R_base ho0) hb); have n1_ := Aside0.mk (Kd.R_lower (Kd.R_new' ho0 (Kd.R_lt (by (with_reducible repeat (first | apply Kd.R_alloc | apply Kd.R_drewN | apply Kd.R_drew)); exact HO213.out))) (below_size (by repeat (first | (with_reducible first | exact HB.out | apply below_alloc | apply pw_below_drewN | apply below_drew1 | refine below_set ?_ GE209.out) | exact HB.out)))); have n2_ := Aside0.mk (blk_below (g := gb209) (o := .cells #[.slice A0_0 l0_0.length c0_0, .slice A0_1 l0_1.length c0_1] 29 (0, 0)) (by (with_reducible repeat (first | refine blk_drewN ?_ _ | refine blk_drew ?_ | refine blk_alloc ?_ _)); exact BK209.out) hb); have n3_ := Aside0.mk (below_step (by repeat (first | (with_reducible first | exact HB.out | apply below_alloc | apply pw_below_drewN | apply below_drew1 | refine below_set ?_ GE209.out) | exact HB.out)) hb); clear HO213; clear BK209; clear HB; have HO213 := n0_; have HO217 := n1_; have BK209 := n2_; have HB := n3_; clear n0_ n1_ n2_ n3_; (try clear hb); (try clear hb2); (try clear hk); (try clear hi); (try clear ho0); obtain ⟨Ao21, co21, eo21⟩ := Kd.R_slice HO213.out; subst eo21; obtain ⟨Ao22, co22, eo22⟩ := Kd.R_slice HO217.out; subst eo22) | (go_at_call 20; (with_reducible refine (windroseref11_Same.calls kj1 _ _ t211 _ _ t215 true _ ?side1 ?side2 ?side3 ?side4 A14.out).mono ?_); (case side1 => repeat (first | exact (Kd.R_reads' HO213.out).2.2 | (with_reducible refine Kd.C_alloc ?_ _) | (with_reducible refine Kd.C_drewN ?_ _) | (with_reducible refine Kd.C_drew ?_))); (case side2 => exact (Kd.R_reads' HO213.out).2.1); (case side3 => repeat (first | exact (Kd.R_reads' HO217.out).2.2 | (with_reducible refine Kd.C_alloc ?_ _) | (with_reducible refine Kd.C_drewN ?_ _) | (with_reducible refine Kd.C_drew ?_))); (case side4 => exact (Kd.R_reads' HO217.out).2.1); rintro e w' ⟨rfl, ⟨nd, rfl⟩⟩) | (go_at_call 17; (with_reducible refine (windroselaw11_awake.calls kj1  t220 _ A16.out).mono ?_); rintro e w23 ⟨rfl, hb⟩; have n0_ := Aside0.mk (Kd.R_below (by (with_reducible repeat (first | apply Kd.R_alloc | apply Kd.R_drewN | apply Kd.R_drew)); exact HO213.out) hb); have n1_ := Aside0.mk (Kd.R_below (by (with_reducible repeat (first | apply Kd.R_alloc | apply Kd.R_drewN | apply Kd.R_drew)); exact HO217.out) hb); have n2_ := Aside0.mk (blk_below (g := gb209) (o := .cells #[.slice A0_0 l0_0.length c0_0, .slice A0_1 l0_1.length c0_1] 29 (0, 0)) (by (with_reducible repeat (first | refine blk_drewN ?_ _ | refine blk_drew ?_ | refine blk_alloc ?_ _)); exact BK209.out) hb); have n3_ := Aside0.mk (below_step (by repeat (first | (with_reducible first | exact HB.out | apply below_alloc | apply pw_below_drewN | apply below_drew1 | refine below_set ?_ GE209.out) | exact HB.out)) hb); clear HO213; clear HO217; clear BK209; clear HB; have HO213 := n0_; have HO217 := n1_; have BK209 := n2_; have HB := n3_; clear n0_ n1_ n2_ n3_; (try clear hb); (try clear hb2); (try clear hk); (try clear hi)))
              go_ret
              exact ⟨by first | rfl | (simp [errW_none, errW_some] <;> rfl) | (simp [*, errW_none, errW_some] <;> rfl), by repeat (first | (with_reducible first | exact HB.out | apply below_alloc | apply pw_below_drewN | apply below_drew1 | refine below_set ?_ GE209.out) | exact HB.out)⟩
            · replace c15 := Bool.eq_false_iff.mpr c15
              subst c15
              have H1 : (some false) = some r := by rw [if_neg (show ¬ (false = true) by decide)] at H; exact H
              clear H
              have H := H1
              clear H1
              obtain rfl := Option.some.inj H
              have hcz24_0 : wc.cell? ⟨gb209, 0, none⟩ = some (.slice A0_0 l0_0.length c0_0) := (blk_cell BK209.out 0).trans rfl
              have hcz24_1 : wc.cell? ⟨gb209, 1, none⟩ = some (.slice A0_1 l0_1.length c0_1) := (blk_cell BK209.out 1).trans rfl
              have hfz24_0 := blk_frozen BK209.out 0
              have hfz24_1 := blk_frozen BK209.out 1
              go_wp2_with (first | ((with_reducible refine gate_callee (f := 18) rfl ?_); refine goesL_ (some 20) rfl rfl Try.func18 (by kernel_rfl) rfl #[.agg #[.slice A0_0 l0_0.length c0_0, .slice A0_1 l0_1.length c0_1]] rfl (by (try simp only [List.map_toArray, List.map_cons, List.map_nil]); first | done | rfl | (simp only [List.length_drop, List.length_take]; rfl)) ?_; (with_reducible refine (block_Unpack.calls kj1 _ _ l0_0 _ _ l0_1 t211 t214 _ ?side1 ?side2 ?side3 ?side4 A10.out).mono ?_); (case side1 => repeat (first | exact (Kd.C_below HR0_0.out HB.out) | (with_reducible refine Kd.C_alloc ?_ _) | (with_reducible refine Kd.C_drewN ?_ _) | (with_reducible refine Kd.C_drew ?_))); (case side2 => exact HC0_0.out); (case side3 => repeat (first | exact (Kd.C_below HR0_1.out HB.out) | (with_reducible refine Kd.C_alloc ?_ _) | (with_reducible refine Kd.C_drewN ?_ _) | (with_reducible refine Kd.C_drew ?_))); (case side4 => exact HC0_1.out); rintro e w25 ⟨v212, rfl, ho0, hb⟩; refine ⟨_, rfl, ?_⟩; have n0_ := Aside0.mk (Kd.R_lower ho0 (below_size (by repeat (first | (with_reducible first | exact HB.out | apply below_alloc | apply pw_below_drewN | apply below_drew1 | refine below_set ?_ GE209.out) | exact HB.out)))); have n1_ := Aside0.mk (blk_below (g := gb209) (o := .cells #[.slice A0_0 l0_0.length c0_0, .slice A0_1 l0_1.length c0_1] 29 (0, 0)) (by (with_reducible repeat (first | refine blk_drewN ?_ _ | refine blk_drew ?_ | refine blk_alloc ?_ _)); exact BK209.out) hb); have n2_ := Aside0.mk (below_step (by repeat (first | (with_reducible first | exact HB.out | apply below_alloc | apply pw_below_drewN | apply below_drew1 | refine below_set ?_ GE209.out) | exact HB.out)) hb); clear BK209; clear HB; have HO213 := n0_; have BK209 := n1_; have HB := n2_; clear n0_ n1_ n2_; (try clear hb); (try clear hb2); (try clear hk); (try clear hi); (try clear ho0); have hcz26_0 : w25.cell? ⟨gb209, 0, none⟩ = some (.slice A0_0 l0_0.length c0_0) := (blk_cell BK209.out 0).trans rfl; have hcz26_1 : w25.cell? ⟨gb209, 1, none⟩ = some (.slice A0_1 l0_1.length c0_1) := (blk_cell BK209.out 1).trans rfl; have hfz26_0 := blk_frozen BK209.out 0; have hfz26_1 := blk_frozen BK209.out 1) | ((with_reducible refine gate_callee (f := 19) rfl ?_); refine goesL_ (some 25) rfl rfl Try.func19 (by kernel_rfl) rfl #[.agg #[.slice A0_0 l0_0.length c0_0, .slice A0_1 l0_1.length c0_1]] rfl (by (try simp only [List.map_toArray, List.map_cons, List.map_nil]); first | done | rfl | (simp only [List.length_drop, List.length_take]; rfl)) ?_; (with_reducible refine (windroseref11_Unpack.calls kj1 _ _ l0_0 _ _ l0_1 t215 true _ ?side1 ?side2 ?side3 ?side4 A11.out).mono ?_); (case side1 => repeat (first | exact (Kd.C_below HR0_0.out HB.out) | (with_reducible refine Kd.C_alloc ?_ _) | (with_reducible refine Kd.C_drewN ?_ _) | (with_reducible refine Kd.C_drew ?_))); (case side2 => exact HC0_0.out); (case side3 => repeat (first | exact (Kd.C_below HR0_1.out HB.out) | (with_reducible refine Kd.C_alloc ?_ _) | (with_reducible refine Kd.C_drewN ?_ _) | (with_reducible refine Kd.C_drew ?_))); (case side4 => exact HC0_1.out); rintro e w27 ⟨v216, rfl, ho0, hb⟩; refine ⟨_, rfl, ?_⟩; have n0_ := Aside0.mk (Kd.R_elder' (by (with_reducible repeat (first | apply Kd.R_alloc | apply Kd.R_drewN | apply Kd.R_drew)); exact HO213.out) (Kd.R_base ho0) hb); have n1_ := Aside0.mk (Kd.R_lower (Kd.R_new' ho0 (Kd.R_lt (by (with_reducible repeat (first | apply Kd.R_alloc | apply Kd.R_drewN | apply Kd.R_drew)); exact HO213.out))) (below_size (by repeat (first | (with_reducible first | exact HB.out | apply below_alloc | apply pw_below_drewN | apply below_drew1 | refine below_set ?_ GE209.out) | exact HB.out)))); have n2_ := Aside0.mk (blk_below (g := gb209) (o := .cells #[.slice A0_0 l0_0.length c0_0, .slice A0_1 l0_1.length c0_1] 29 (0, 0)) (by (with_reducible repeat (first | refine blk_drewN ?_ _ | refine blk_drew ?_ | refine blk_alloc ?_ _)); exact BK209.out) hb); have n3_ := Aside0.mk (below_step (by repeat (first | (with_reducible first | exact HB.out | apply below_alloc | apply pw_below_drewN | apply below_drew1 | refine below_set ?_ GE209.out) | exact HB.out)) hb); clear HO213; clear BK209; clear HB; have HO213 := n0_; have HO217 := n1_; have BK209 := n2_; have HB := n3_; clear n0_ n1_ n2_ n3_; (try clear hb); (try clear hb2); (try clear hk); (try clear hi); (try clear ho0); obtain ⟨Ao28, co28, eo28⟩ := Kd.R_slice HO213.out; subst eo28; obtain ⟨Ao29, co29, eo29⟩ := Kd.R_slice HO217.out; subst eo29) | (go_at_call 20; (with_reducible refine (windroseref11_Same.calls kj1 _ _ t211 _ _ t215 false _ ?side1 ?side2 ?side3 ?side4 A14.out).mono ?_); (case side1 => repeat (first | exact (Kd.R_reads' HO213.out).2.2 | (with_reducible refine Kd.C_alloc ?_ _) | (with_reducible refine Kd.C_drewN ?_ _) | (with_reducible refine Kd.C_drew ?_))); (case side2 => exact (Kd.R_reads' HO213.out).2.1); (case side3 => repeat (first | exact (Kd.R_reads' HO217.out).2.2 | (with_reducible refine Kd.C_alloc ?_ _) | (with_reducible refine Kd.C_drewN ?_ _) | (with_reducible refine Kd.C_drew ?_))); (case side4 => exact (Kd.R_reads' HO217.out).2.1); rintro e w' ⟨rfl, ⟨nd, rfl⟩⟩))
              go_ret
              exact ⟨by first | rfl | (simp [errW_none, errW_some] <;> rfl) | (simp [*, errW_none, errW_some] <;> rfl), by repeat (first | (with_reducible first | exact HB.out | apply below_alloc | apply pw_below_drewN | apply below_drew1 | refine below_set ?_ GE209.out) | exact HB.out)⟩
          · rw [if_neg c13] at H
            have c13b0 : (t214 == 0) = false := beq_eq_false_iff_ne.mpr c13
            have c13b1 : (t214 != 0) = true := bne_iff_ne.mpr c13
            obtain rfl := Option.some.inj H
            have hcz30_0 : wc.cell? ⟨gb209, 0, none⟩ = some (.slice A0_0 l0_0.length c0_0) := (blk_cell BK209.out 0).trans rfl
            have hcz30_1 : wc.cell? ⟨gb209, 1, none⟩ = some (.slice A0_1 l0_1.length c0_1) := (blk_cell BK209.out 1).trans rfl
            have hfz30_0 := blk_frozen BK209.out 0
            have hfz30_1 := blk_frozen BK209.out 1
            go_wp2_with (first | ((with_reducible refine gate_callee (f := 18) rfl ?_); refine goesL_ (some 20) rfl rfl Try.func18 (by kernel_rfl) rfl #[.agg #[.slice A0_0 l0_0.length c0_0, .slice A0_1 l0_1.length c0_1]] rfl (by (try simp only [List.map_toArray, List.map_cons, List.map_nil]); first | done | rfl | (simp only [List.length_drop, List.length_take]; rfl)) ?_; (with_reducible refine (block_Unpack.calls kj1 _ _ l0_0 _ _ l0_1 t211 t214 _ ?side1 ?side2 ?side3 ?side4 A10.out).mono ?_); (case side1 => repeat (first | exact (Kd.C_below HR0_0.out HB.out) | (with_reducible refine Kd.C_alloc ?_ _) | (with_reducible refine Kd.C_drewN ?_ _) | (with_reducible refine Kd.C_drew ?_))); (case side2 => exact HC0_0.out); (case side3 => repeat (first | exact (Kd.C_below HR0_1.out HB.out) | (with_reducible refine Kd.C_alloc ?_ _) | (with_reducible refine Kd.C_drewN ?_ _) | (with_reducible refine Kd.C_drew ?_))); (case side4 => exact HC0_1.out); rintro e w31 ⟨v212, rfl, ho0, hb⟩; refine ⟨_, rfl, ?_⟩; have n0_ := Aside0.mk (Kd.R_lower ho0 (below_size (by repeat (first | (with_reducible first | exact HB.out | apply below_alloc | apply pw_below_drewN | apply below_drew1 | refine below_set ?_ GE209.out) | exact HB.out)))); have n1_ := Aside0.mk (blk_below (g := gb209) (o := .cells #[.slice A0_0 l0_0.length c0_0, .slice A0_1 l0_1.length c0_1] 29 (0, 0)) (by (with_reducible repeat (first | refine blk_drewN ?_ _ | refine blk_drew ?_ | refine blk_alloc ?_ _)); exact BK209.out) hb); have n2_ := Aside0.mk (below_step (by repeat (first | (with_reducible first | exact HB.out | apply below_alloc | apply pw_below_drewN | apply below_drew1 | refine below_set ?_ GE209.out) | exact HB.out)) hb); clear BK209; clear HB; have HO213 := n0_; have BK209 := n1_; have HB := n2_; clear n0_ n1_ n2_; (try clear hb); (try clear hb2); (try clear hk); (try clear hi); (try clear ho0); have hcz32_0 : w31.cell? ⟨gb209, 0, none⟩ = some (.slice A0_0 l0_0.length c0_0) := (blk_cell BK209.out 0).trans rfl; have hcz32_1 : w31.cell? ⟨gb209, 1, none⟩ = some (.slice A0_1 l0_1.length c0_1) := (blk_cell BK209.out 1).trans rfl; have hfz32_0 := blk_frozen BK209.out 0; have hfz32_1 := blk_frozen BK209.out 1) | ((with_reducible refine gate_callee (f := 19) rfl ?_); refine goesL_ (some 25) rfl rfl Try.func19 (by kernel_rfl) rfl #[.agg #[.slice A0_0 l0_0.length c0_0, .slice A0_1 l0_1.length c0_1]] rfl (by (try simp only [List.map_toArray, List.map_cons, List.map_nil]); first | done | rfl | (simp only [List.length_drop, List.length_take]; rfl)) ?_; (with_reducible refine (windroseref11_Unpack.calls kj1 _ _ l0_0 _ _ l0_1 t215 true _ ?side1 ?side2 ?side3 ?side4 A11.out).mono ?_); (case side1 => repeat (first | exact (Kd.C_below HR0_0.out HB.out) | (with_reducible refine Kd.C_alloc ?_ _) | (with_reducible refine Kd.C_drewN ?_ _) | (with_reducible refine Kd.C_drew ?_))); (case side2 => exact HC0_0.out); (case side3 => repeat (first | exact (Kd.C_below HR0_1.out HB.out) | (with_reducible refine Kd.C_alloc ?_ _) | (with_reducible refine Kd.C_drewN ?_ _) | (with_reducible refine Kd.C_drew ?_))); (case side4 => exact HC0_1.out); rintro e w33 ⟨v216, rfl, ho0, hb⟩; refine ⟨_, rfl, ?_⟩; have n0_ := Aside0.mk (Kd.R_elder' (by (with_reducible repeat (first | apply Kd.R_alloc | apply Kd.R_drewN | apply Kd.R_drew)); exact HO213.out) (Kd.R_base ho0) hb); have n1_ := Aside0.mk (Kd.R_lower (Kd.R_new' ho0 (Kd.R_lt (by (with_reducible repeat (first | apply Kd.R_alloc | apply Kd.R_drewN | apply Kd.R_drew)); exact HO213.out))) (below_size (by repeat (first | (with_reducible first | exact HB.out | apply below_alloc | apply pw_below_drewN | apply below_drew1 | refine below_set ?_ GE209.out) | exact HB.out)))); have n2_ := Aside0.mk (blk_below (g := gb209) (o := .cells #[.slice A0_0 l0_0.length c0_0, .slice A0_1 l0_1.length c0_1] 29 (0, 0)) (by (with_reducible repeat (first | refine blk_drewN ?_ _ | refine blk_drew ?_ | refine blk_alloc ?_ _)); exact BK209.out) hb); have n3_ := Aside0.mk (below_step (by repeat (first | (with_reducible first | exact HB.out | apply below_alloc | apply pw_below_drewN | apply below_drew1 | refine below_set ?_ GE209.out) | exact HB.out)) hb); clear HO213; clear BK209; clear HB; have HO213 := n0_; have HO217 := n1_; have BK209 := n2_; have HB := n3_; clear n0_ n1_ n2_ n3_; (try clear hb); (try clear hb2); (try clear hk); (try clear hi); (try clear ho0)))
            go_ret
            exact ⟨by first | rfl | (simp [errW_none, errW_some] <;> rfl) | (simp [*, errW_none, errW_some] <;> rfl), by repeat (first | (with_reducible first | exact HB.out | apply below_alloc | apply pw_below_drewN | apply below_drew1 | refine below_set ?_ GE209.out) | exact HB.out)⟩
        · replace c12 := Bool.eq_false_iff.mpr c12
          subst c12
          have H1 : (if t214 = 2 then (if (t211.length : Int) = 0 then ((windroselaw11_awake.f kj1).bind fun t221 => (some t221)) else (some false)) else (some false)) = some r := by rw [if_neg (show ¬ (false = true) by decide)] at H; exact H
          clear H
          have H := H1
          clear H1
          by_cases c34 : t214 = 2
          · rw [if_pos c34] at H
            have c34b0 : (t214 == 2) = true := beq_iff_eq.mpr c34
            have c34b1 : (t214 != 2) = false := bne_eq_false_iff_eq.mpr c34
            clear c34
            by_cases c35 : (t211.length : Int) = 0
            · rw [if_pos c35] at H
              have c35b0 : ((t211.length : Int) == 0) = true := beq_iff_eq.mpr c35
              have c35b1 : ((t211.length : Int) != 0) = false := bne_eq_false_iff_eq.mpr c35
              clear c35
              replace H := Option.bind_eq_some_iff.mp H
              obtain ⟨t221, A360, H⟩ := H
              replace H : (some t221) = some r := H
              have A36 := Aside0.mk A360
              clear A360
              obtain rfl := Option.some.inj H
              have hcz37_0 : wc.cell? ⟨gb209, 0, none⟩ = some (.slice A0_0 l0_0.length c0_0) := (blk_cell BK209.out 0).trans rfl
              have hcz37_1 : wc.cell? ⟨gb209, 1, none⟩ = some (.slice A0_1 l0_1.length c0_1) := (blk_cell BK209.out 1).trans rfl
              have hfz37_0 := blk_frozen BK209.out 0
              have hfz37_1 := blk_frozen BK209.out 1
              go_wp2_with (first | ((with_reducible refine gate_callee (f := 18) rfl ?_); refine goesL_ (some 20) rfl rfl Try.func18 (by kernel_rfl) rfl #[.agg #[.slice A0_0 l0_0.length c0_0, .slice A0_1 l0_1.length c0_1]] rfl (by (try simp only [List.map_toArray, List.map_cons, List.map_nil]); first | done | rfl | (simp only [List.length_drop, List.length_take]; rfl)) ?_; (with_reducible refine (block_Unpack.calls kj1 _ _ l0_0 _ _ l0_1 t211 t214 _ ?side1 ?side2 ?side3 ?side4 A10.out).mono ?_); (case side1 => repeat (first | exact (Kd.C_below HR0_0.out HB.out) | (with_reducible refine Kd.C_alloc ?_ _) | (with_reducible refine Kd.C_drewN ?_ _) | (with_reducible refine Kd.C_drew ?_))); (case side2 => exact HC0_0.out); (case side3 => repeat (first | exact (Kd.C_below HR0_1.out HB.out) | (with_reducible refine Kd.C_alloc ?_ _) | (with_reducible refine Kd.C_drewN ?_ _) | (with_reducible refine Kd.C_drew ?_))); (case side4 => exact HC0_1.out); rintro e w38 ⟨v212, rfl, ho0, hb⟩; refine ⟨_, rfl, ?_⟩; have n0_ := Aside0.mk (Kd.R_lower ho0 (below_size (by repeat (first | (with_reducible first | exact HB.out | apply below_alloc | apply pw_below_drewN | apply below_drew1 | refine below_set ?_ GE209.out) | exact HB.out)))); have n1_ := Aside0.mk (blk_below (g := gb209) (o := .cells #[.slice A0_0 l0_0.length c0_0, .slice A0_1 l0_1.length c0_1] 29 (0, 0)) (by (with_reducible repeat (first | refine blk_drewN ?_ _ | refine blk_drew ?_ | refine blk_alloc ?_ _)); exact BK209.out) hb); have n2_ := Aside0.mk (below_step (by repeat (first | (with_reducible first | exact HB.out | apply below_alloc | apply pw_below_drewN | apply below_drew1 | refine below_set ?_ GE209.out) | exact HB.out)) hb); clear BK209; clear HB; have HO213 := n0_; have BK209 := n1_; have HB := n2_; clear n0_ n1_ n2_; (try clear hb); (try clear hb2); (try clear hk); (try clear hi); (try clear ho0); have hcz39_0 : w38.cell? ⟨gb209, 0, none⟩ = some (.slice A0_0 l0_0.length c0_0) := (blk_cell BK209.out 0).trans rfl; have hcz39_1 : w38.cell? ⟨gb209, 1, none⟩ = some (.slice A0_1 l0_1.length c0_1) := (blk_cell BK209.out 1).trans rfl; have hfz39_0 := blk_frozen BK209.out 0; have hfz39_1 := blk_frozen BK209.out 1) | ((with_reducible refine gate_callee (f := 19) rfl ?_); refine goesL_ (some 25) rfl rfl Try.func19 (by kernel_rfl) rfl #[.agg #[.slice A0_0 l0_0.length c0_0, .slice A0_1 l0_1.length c0_1]] rfl (by (try simp only [List.map_toArray, List.map_cons, List.map_nil]); first | done | rfl | (simp only [List.length_drop, List.length_take]; rfl)) ?_; (with_reducible refine (windroseref11_Unpack.calls kj1 _ _ l0_0 _ _ l0_1 t215 false _ ?side1 ?side2 ?side3 ?side4 A11.out).mono ?_); (case side1 => repeat (first | exact (Kd.C_below HR0_0.out HB.out) | (with_reducible refine Kd.C_alloc ?_ _) | (with_reducible refine Kd.C_drewN ?_ _) | (with_reducible refine Kd.C_drew ?_))); (case side2 => exact HC0_0.out); (case side3 => repeat (first | exact (Kd.C_below HR0_1.out HB.out) | (with_reducible refine Kd.C_alloc ?_ _) | (with_reducible refine Kd.C_drewN ?_ _) | (with_reducible refine Kd.C_drew ?_))); (case side4 => exact HC0_1.out); rintro e w40 ⟨v216, rfl, ho0, hb⟩; refine ⟨_, rfl, ?_⟩; have n0_ := Aside0.mk (Kd.R_elder' (by (with_reducible repeat (first | apply Kd.R_alloc | apply Kd.R_drewN | apply Kd.R_drew)); exact HO213.out) (Kd.R_base ho0) hb); have n1_ := Aside0.mk (Kd.R_lower (Kd.R_new' ho0 (Kd.R_lt (by (with_reducible repeat (first | apply Kd.R_alloc | apply Kd.R_drewN | apply Kd.R_drew)); exact HO213.out))) (below_size (by repeat (first | (with_reducible first | exact HB.out | apply below_alloc | apply pw_below_drewN | apply below_drew1 | refine below_set ?_ GE209.out) | exact HB.out)))); have n2_ := Aside0.mk (blk_below (g := gb209) (o := .cells #[.slice A0_0 l0_0.length c0_0, .slice A0_1 l0_1.length c0_1] 29 (0, 0)) (by (with_reducible repeat (first | refine blk_drewN ?_ _ | refine blk_drew ?_ | refine blk_alloc ?_ _)); exact BK209.out) hb); have n3_ := Aside0.mk (below_step (by repeat (first | (with_reducible first | exact HB.out | apply below_alloc | apply pw_below_drewN | apply below_drew1 | refine below_set ?_ GE209.out) | exact HB.out)) hb); clear HO213; clear BK209; clear HB; have HO213 := n0_; have HO217 := n1_; have BK209 := n2_; have HB := n3_; clear n0_ n1_ n2_ n3_; (try clear hb); (try clear hb2); (try clear hk); (try clear hi); (try clear ho0); obtain ⟨Ao41, co41, eo41⟩ := Kd.R_slice HO213.out; subst eo41) | (go_at_call 17; (with_reducible refine (windroselaw11_awake.calls kj1  t221 _ A36.out).mono ?_); rintro e w42 ⟨rfl, hb⟩; have n0_ := Aside0.mk (Kd.R_below (by (with_reducible repeat (first | apply Kd.R_alloc | apply Kd.R_drewN | apply Kd.R_drew)); exact HO213.out) hb); have n1_ := Aside0.mk (Kd.R_below (by (with_reducible repeat (first | apply Kd.R_alloc | apply Kd.R_drewN | apply Kd.R_drew)); exact HO217.out) hb); have n2_ := Aside0.mk (blk_below (g := gb209) (o := .cells #[.slice A0_0 l0_0.length c0_0, .slice A0_1 l0_1.length c0_1] 29 (0, 0)) (by (with_reducible repeat (first | refine blk_drewN ?_ _ | refine blk_drew ?_ | refine blk_alloc ?_ _)); exact BK209.out) hb); have n3_ := Aside0.mk (below_step (by repeat (first | (with_reducible first | exact HB.out | apply below_alloc | apply pw_below_drewN | apply below_drew1 | refine below_set ?_ GE209.out) | exact HB.out)) hb); clear HO213; clear HO217; clear BK209; clear HB; have HO213 := n0_; have HO217 := n1_; have BK209 := n2_; have HB := n3_; clear n0_ n1_ n2_ n3_; (try clear hb); (try clear hb2); (try clear hk); (try clear hi)))
              go_ret
              exact ⟨by first | rfl | (simp [errW_none, errW_some] <;> rfl) | (simp [*, errW_none, errW_some] <;> rfl), by repeat (first | (with_reducible first | exact HB.out | apply below_alloc | apply pw_below_drewN | apply below_drew1 | refine below_set ?_ GE209.out) | exact HB.out)⟩
            · rw [if_neg c35] at H
              have c35b0 : ((t211.length : Int) == 0) = false := beq_eq_false_iff_ne.mpr c35
              have c35b1 : ((t211.length : Int) != 0) = true := bne_iff_ne.mpr c35
              have c35b2 : ¬ (t211 = []) := fun h_ => c35 (by rw [h_]; rfl)
              obtain rfl := Option.some.inj H
              have hcz43_0 : wc.cell? ⟨gb209, 0, none⟩ = some (.slice A0_0 l0_0.length c0_0) := (blk_cell BK209.out 0).trans rfl
              have hcz43_1 : wc.cell? ⟨gb209, 1, none⟩ = some (.slice A0_1 l0_1.length c0_1) := (blk_cell BK209.out 1).trans rfl
              have hfz43_0 := blk_frozen BK209.out 0
              have hfz43_1 := blk_frozen BK209.out 1
              go_wp2_with (first | ((with_reducible refine gate_callee (f := 18) rfl ?_); refine goesL_ (some 20) rfl rfl Try.func18 (by kernel_rfl) rfl #[.agg #[.slice A0_0 l0_0.length c0_0, .slice A0_1 l0_1.length c0_1]] rfl (by (try simp only [List.map_toArray, List.map_cons, List.map_nil]); first | done | rfl | (simp only [List.length_drop, List.length_take]; rfl)) ?_; (with_reducible refine (block_Unpack.calls kj1 _ _ l0_0 _ _ l0_1 t211 t214 _ ?side1 ?side2 ?side3 ?side4 A10.out).mono ?_); (case side1 => repeat (first | exact (Kd.C_below HR0_0.out HB.out) | (with_reducible refine Kd.C_alloc ?_ _) | (with_reducible refine Kd.C_drewN ?_ _) | (with_reducible refine Kd.C_drew ?_))); (case side2 => exact HC0_0.out); (case side3 => repeat (first | exact (Kd.C_below HR0_1.out HB.out) | (with_reducible refine Kd.C_alloc ?_ _) | (with_reducible refine Kd.C_drewN ?_ _) | (with_reducible refine Kd.C_drew ?_))); (case side4 => exact HC0_1.out); rintro e w44 ⟨v212, rfl, ho0, hb⟩; refine ⟨_, rfl, ?_⟩; have n0_ := Aside0.mk (Kd.R_lower ho0 (below_size (by repeat (first | (with_reducible first | exact HB.out | apply below_alloc | apply pw_below_drewN | apply below_drew1 | refine below_set ?_ GE209.out) | exact HB.out)))); have n1_ := Aside0.mk (blk_below (g := gb209) (o := .cells #[.slice A0_0 l0_0.length c0_0, .slice A0_1 l0_1.length c0_1] 29 (0, 0)) (by (with_reducible repeat (first | refine blk_drewN ?_ _ | refine blk_drew ?_ | refine blk_alloc ?_ _)); exact BK209.out) hb); have n2_ := Aside0.mk (below_step (by repeat (first | (with_reducible first | exact HB.out | apply below_alloc | apply pw_below_drewN | apply below_drew1 | refine below_set ?_ GE209.out) | exact HB.out)) hb); clear BK209; clear HB; have HO213 := n0_; have BK209 := n1_; have HB := n2_; clear n0_ n1_ n2_; (try clear hb); (try clear hb2); (try clear hk); (try clear hi); (try clear ho0); have hcz45_0 : w44.cell? ⟨gb209, 0, none⟩ = some (.slice A0_0 l0_0.length c0_0) := (blk_cell BK209.out 0).trans rfl; have hcz45_1 : w44.cell? ⟨gb209, 1, none⟩ = some (.slice A0_1 l0_1.length c0_1) := (blk_cell BK209.out 1).trans rfl; have hfz45_0 := blk_frozen BK209.out 0; have hfz45_1 := blk_frozen BK209.out 1) | ((with_reducible refine gate_callee (f := 19) rfl ?_); refine goesL_ (some 25) rfl rfl Try.func19 (by kernel_rfl) rfl #[.agg #[.slice A0_0 l0_0.length c0_0, .slice A0_1 l0_1.length c0_1]] rfl (by (try simp only [List.map_toArray, List.map_cons, List.map_nil]); first | done | rfl | (simp only [List.length_drop, List.length_take]; rfl)) ?_; (with_reducible refine (windroseref11_Unpack.calls kj1 _ _ l0_0 _ _ l0_1 t215 false _ ?side1 ?side2 ?side3 ?side4 A11.out).mono ?_); (case side1 => repeat (first | exact (Kd.C_below HR0_0.out HB.out) | (with_reducible refine Kd.C_alloc ?_ _) | (with_reducible refine Kd.C_drewN ?_ _) | (with_reducible refine Kd.C_drew ?_))); (case side2 => exact HC0_0.out); (case side3 => repeat (first | exact (Kd.C_below HR0_1.out HB.out) | (with_reducible refine Kd.C_alloc ?_ _) | (with_reducible refine Kd.C_drewN ?_ _) | (with_reducible refine Kd.C_drew ?_))); (case side4 => exact HC0_1.out); rintro e w46 ⟨v216, rfl, ho0, hb⟩; refine ⟨_, rfl, ?_⟩; have n0_ := Aside0.mk (Kd.R_elder' (by (with_reducible repeat (first | apply Kd.R_alloc | apply Kd.R_drewN | apply Kd.R_drew)); exact HO213.out) (Kd.R_base ho0) hb); have n1_ := Aside0.mk (Kd.R_lower (Kd.R_new' ho0 (Kd.R_lt (by (with_reducible repeat (first | apply Kd.R_alloc | apply Kd.R_drewN | apply Kd.R_drew)); exact HO213.out))) (below_size (by repeat (first | (with_reducible first | exact HB.out | apply below_alloc | apply pw_below_drewN | apply below_drew1 | refine below_set ?_ GE209.out) | exact HB.out)))); have n2_ := Aside0.mk (blk_below (g := gb209) (o := .cells #[.slice A0_0 l0_0.length c0_0, .slice A0_1 l0_1.length c0_1] 29 (0, 0)) (by (with_reducible repeat (first | refine blk_drewN ?_ _ | refine blk_drew ?_ | refine blk_alloc ?_ _)); exact BK209.out) hb); have n3_ := Aside0.mk (below_step (by repeat (first | (with_reducible first | exact HB.out | apply below_alloc | apply pw_below_drewN | apply below_drew1 | refine below_set ?_ GE209.out) | exact HB.out)) hb); clear HO213; clear BK209; clear HB; have HO213 := n0_; have HO217 := n1_; have BK209 := n2_; have HB := n3_; clear n0_ n1_ n2_ n3_; (try clear hb); (try clear hb2); (try clear hk); (try clear hi); (try clear ho0); obtain ⟨Ao47, co47, eo47⟩ := Kd.R_slice HO213.out; subst eo47))
              go_ret
              exact ⟨by first | rfl | (simp [errW_none, errW_some] <;> rfl) | (simp [*, errW_none, errW_some] <;> rfl), by repeat (first | (with_reducible first | exact HB.out | apply below_alloc | apply pw_below_drewN | apply below_drew1 | refine below_set ?_ GE209.out) | exact HB.out)⟩
          · rw [if_neg c34] at H
            have c34b0 : (t214 == 2) = false := beq_eq_false_iff_ne.mpr c34
            have c34b1 : (t214 != 2) = true := bne_iff_ne.mpr c34
            obtain rfl := Option.some.inj H
            have hcz48_0 : wc.cell? ⟨gb209, 0, none⟩ = some (.slice A0_0 l0_0.length c0_0) := (blk_cell BK209.out 0).trans rfl
            have hcz48_1 : wc.cell? ⟨gb209, 1, none⟩ = some (.slice A0_1 l0_1.length c0_1) := (blk_cell BK209.out 1).trans rfl
            have hfz48_0 := blk_frozen BK209.out 0
            have hfz48_1 := blk_frozen BK209.out 1
            go_wp2_with (first | ((with_reducible refine gate_callee (f := 18) rfl ?_); refine goesL_ (some 20) rfl rfl Try.func18 (by kernel_rfl) rfl #[.agg #[.slice A0_0 l0_0.length c0_0, .slice A0_1 l0_1.length c0_1]] rfl (by (try simp only [List.map_toArray, List.map_cons, List.map_nil]); first | done | rfl | (simp only [List.length_drop, List.length_take]; rfl)) ?_; (with_reducible refine (block_Unpack.calls kj1 _ _ l0_0 _ _ l0_1 t211 t214 _ ?side1 ?side2 ?side3 ?side4 A10.out).mono ?_); (case side1 => repeat (first | exact (Kd.C_below HR0_0.out HB.out) | (with_reducible refine Kd.C_alloc ?_ _) | (with_reducible refine Kd.C_drewN ?_ _) | (with_reducible refine Kd.C_drew ?_))); (case side2 => exact HC0_0.out); (case side3 => repeat (first | exact (Kd.C_below HR0_1.out HB.out) | (with_reducible refine Kd.C_alloc ?_ _) | (with_reducible refine Kd.C_drewN ?_ _) | (with_reducible refine Kd.C_drew ?_))); (case side4 => exact HC0_1.out); rintro e w49 ⟨v212, rfl, ho0, hb⟩; refine ⟨_, rfl, ?_⟩; have n0_ := Aside0.mk (Kd.R_lower ho0 (below_size (by repeat (first | (with_reducible first | exact HB.out | apply below_alloc | apply pw_below_drewN | apply below_drew1 | refine below_set ?_ GE209.out) | exact HB.out)))); have n1_ := Aside0.mk (blk_below (g := gb209) (o := .cells #[.slice A0_0 l0_0.length c0_0, .slice A0_1 l0_1.length c0_1] 29 (0, 0)) (by (with_reducible repeat (first | refine blk_drewN ?_ _ | refine blk_drew ?_ | refine blk_alloc ?_ _)); exact BK209.out) hb); have n2_ := Aside0.mk (below_step (by repeat (first | (with_reducible first | exact HB.out | apply below_alloc | apply pw_below_drewN | apply below_drew1 | refine below_set ?_ GE209.out) | exact HB.out)) hb); clear BK209; clear HB; have HO213 := n0_; have BK209 := n1_; have HB := n2_; clear n0_ n1_ n2_; (try clear hb); (try clear hb2); (try clear hk); (try clear hi); (try clear ho0); have hcz50_0 : w49.cell? ⟨gb209, 0, none⟩ = some (.slice A0_0 l0_0.length c0_0) := (blk_cell BK209.out 0).trans rfl; have hcz50_1 : w49.cell? ⟨gb209, 1, none⟩ = some (.slice A0_1 l0_1.length c0_1) := (blk_cell BK209.out 1).trans rfl; have hfz50_0 := blk_frozen BK209.out 0; have hfz50_1 := blk_frozen BK209.out 1) | ((with_reducible refine gate_callee (f := 19) rfl ?_); refine goesL_ (some 25) rfl rfl Try.func19 (by kernel_rfl) rfl #[.agg #[.slice A0_0 l0_0.length c0_0, .slice A0_1 l0_1.length c0_1]] rfl (by (try simp only [List.map_toArray, List.map_cons, List.map_nil]); first | done | rfl | (simp only [List.length_drop, List.length_take]; rfl)) ?_; (with_reducible refine (windroseref11_Unpack.calls kj1 _ _ l0_0 _ _ l0_1 t215 false _ ?side1 ?side2 ?side3 ?side4 A11.out).mono ?_); (case side1 => repeat (first | exact (Kd.C_below HR0_0.out HB.out) | (with_reducible refine Kd.C_alloc ?_ _) | (with_reducible refine Kd.C_drewN ?_ _) | (with_reducible refine Kd.C_drew ?_))); (case side2 => exact HC0_0.out); (case side3 => repeat (first | exact (Kd.C_below HR0_1.out HB.out) | (with_reducible refine Kd.C_alloc ?_ _) | (with_reducible refine Kd.C_drewN ?_ _) | (with_reducible refine Kd.C_drew ?_))); (case side4 => exact HC0_1.out); rintro e w51 ⟨v216, rfl, ho0, hb⟩; refine ⟨_, rfl, ?_⟩; have n0_ := Aside0.mk (Kd.R_elder' (by (with_reducible repeat (first | apply Kd.R_alloc | apply Kd.R_drewN | apply Kd.R_drew)); exact HO213.out) (Kd.R_base ho0) hb); have n1_ := Aside0.mk (Kd.R_lower (Kd.R_new' ho0 (Kd.R_lt (by (with_reducible repeat (first | apply Kd.R_alloc | apply Kd.R_drewN | apply Kd.R_drew)); exact HO213.out))) (below_size (by repeat (first | (with_reducible first | exact HB.out | apply below_alloc | apply pw_below_drewN | apply below_drew1 | refine below_set ?_ GE209.out) | exact HB.out)))); have n2_ := Aside0.mk (blk_below (g := gb209) (o := .cells #[.slice A0_0 l0_0.length c0_0, .slice A0_1 l0_1.length c0_1] 29 (0, 0)) (by (with_reducible repeat (first | refine blk_drewN ?_ _ | refine blk_drew ?_ | refine blk_alloc ?_ _)); exact BK209.out) hb); have n3_ := Aside0.mk (below_step (by repeat (first | (with_reducible first | exact HB.out | apply below_alloc | apply pw_below_drewN | apply below_drew1 | refine below_set ?_ GE209.out) | exact HB.out)) hb); clear HO213; clear BK209; clear HB; have HO213 := n0_; have HO217 := n1_; have BK209 := n2_; have HB := n3_; clear n0_ n1_ n2_ n3_; (try clear hb); (try clear hb2); (try clear hk); (try clear hi); (try clear ho0)))
            go_ret
            exact ⟨by first | rfl | (simp [errW_none, errW_some] <;> rfl) | (simp [*, errW_none, errW_some] <;> rfl), by repeat (first | (with_reducible first | exact HB.out | apply below_alloc | apply pw_below_drewN | apply below_drew1 | refine below_set ?_ GE209.out) | exact HB.out)⟩
end Go.Proofs.Ytlpohipneianjaa.G
end
section
set_option linter.unusedVariables false
set_option linter.unusedSimpArgs false
namespace Go.Proofs.YtlpohipneianjaaX
open Go Go.RowKit Go.Proofs.YtlpohipneianjaaW.PrintWords Go.ChangeShapes Go.WideShapes
def Rd (P : Program) (t : TypeId) {α : Type} (d : Kd α) (ok : α → Prop) : Prop :=
  ∀ {H : Type} (enc : TypeId × Value → H) (W : World) (base : Nat) (spare : Nat → Bool) (held : Bool) (fuel : Nat) (cs : List Value) (x : DataW H × List MemPlace),
    DataW.trod enc P W base spare held fuel t cs = some x → ∃ a, d.K W a cs ∧ ok a
def RdFs (P : Program) (L : List (TypeId × Nat)) (o e : Nat) {α : Type} (d : Kd α) (ok : α → Prop) : Prop :=
  ∀ {H : Type} (enc : TypeId × Value → H) (W : World) (base : Nat) (spare : Nat → Bool) (held : Bool) (fuel : Nat) (cs : List Value), cs.length = e →
    (∀ (i : Nat) (p : TypeId × Nat), L[i]? = some p → ∃ y, DataW.trod enc P W base spare held fuel p.1 ((cs.drop p.2).take (P.cellsOf p.1)) = some y) → ∃ a, d.K W a (cs.drop o) ∧ ok a
section
variable {P : Program} {t e : TypeId}
theorem Rd.int {k : IntKind} (ht : P.underlying t = some (.int k)) : Rd P t (Kd.int k) (fun n => (Lit.int k n).wf = true) := by
  intro H enc W base spare held fuel cs x h
  obtain ⟨n, rfl, _, hn⟩ := DataW.trod_int ht h
  exact ⟨n, rfl, hn⟩
theorem Rd.bool (ht : P.underlying t = some .bool) : Rd P t Kd.bool (fun _ => True) := by
  intro H enc W base spare held fuel cs x h
  obtain ⟨b, rfl, _⟩ := DataW.trod_bool ht h
  exact ⟨b, rfl, trivial⟩
theorem Rd.string (ht : P.underlying t = some .string) : Rd P t Kd.string (fun s => s.size ≤ maxLen) := by
  intro H enc W base spare held fuel cs x h
  obtain ⟨s, rfl, _, hs⟩ := DataW.trod_string ht h
  exact ⟨s, rfl, hs⟩
theorem cells_get {w : World} {base : Nat} {a : Addr} {n : Nat} {cs : List Value} (h : w.cells? base a n = some cs) : ∀ i u, cs[i]? = some u → w.cell? (a.add i) = some u := by
  intro i u hi
  obtain ⟨_, hl, hc⟩ := World.cells?_some h
  have hlt : i < cs.length := (List.getElem?_eq_some_iff.1 hi).1
  have := hc i (by omega)
  rw [hi] at this
  exact this
end
end Go.Proofs.YtlpohipneianjaaX
end
