/- Ytlpohipneianjaa: lines of the words and functions that the row FrameRows rests on, and the row. No condition. -/
import Derived.Test.YtlpohipneianjaaZFrameRows3
section
namespace Go.Proofs.Ytlpohipneianjaa.G
open Go.RowKit Go.Proofs.YtlpohipneianjaaW.PrintWords Go.Proofs.YtlpohipneianjaaW.PrintLast Go.Proofs.YtlpohipneianjaaW.PrintMore
set_option linter.unusedVariables false
set_option linter.unusedSimpArgs false
set_option maxHeartbeats 8000000 in
set_option maxRecDepth 100000 in
theorem windroselaw02_FrameRows.calls (k : Nat) (A0 : Option Addr) (c0 : Nat) (l0 : List Int) (r : Bool) (w : World) (hr0 : Kd.C (Kd.int .u8) w A0 l0.length l0) (hc0 : l0.length ≤ c0) (h : windroselaw02_FrameRows.f k l0 = some r) :
    Calls Try.prog 10 #[.slice A0 l0.length c0] w fun e w' => e = .returned (.bool r) ∧ Below w.heap.size w w' := by
  have hu29 := Try.underlying29
  have HR0 := Aside0.mk hr0
  have HC0 := Aside0.mk hc0
  clear hr0 hc0
  have HB := Aside0.mk (Below.refl w.heap.size w)
  have H : (if (l0.length : Int) > 6000 then ((windroselaw02_awake.f k).bind fun t647 => (some t647)) else ((some (([] : List Int) : List Int)).bind fun y648 => (if y648.length + l0.length < 140737488355328 then ((frame_First.f k (y648 ++ l0)).bind fun bt654 => ((windroseref02_First.f k l0).bind fun bt663 => ((frame_Row.f k l0).bind fun bt672 => ((windroseref02_Row.f k l0).bind fun bt676 => (if bt654.2.2.2 = bt663.2.2.2 then (if bt654.2.2.1 = bt663.2.2.1 then ((windroseref02_Same.f k bt654.1 bt654.2.1 bt663.1 bt663.2.1).bind fun t680 => (if t680 = true then (if bt672.2 = bt676.2 then ((windroseref02_List.f k bt672.1 bt676.1).bind fun t681 => (if t681 = true then ((windroselaw02_awake.f k).bind fun t682 => (some t682)) else (some false))) else (some false)) else (some false))) else (some false)) else (some false)))))) else (none)))) = some r := h
  clear h
  by_cases c2 : (l0.length : Int) > 6000
  · rw [if_pos c2] at H
    have c2b0 : decide (6000 < (l0.length : Int)) = true := decide_eq_true c2
    have c2b1 : decide (6000 < l0.length) = true := decide_eq_true (by omega)
    clear c2
    replace H := Option.bind_eq_some_iff.mp H
    obtain ⟨t647, A30, H⟩ := H
    replace H : (some t647) = some r := H
    have A3 := Aside0.mk A30
    clear A30
    obtain rfl := Option.some.inj H
    go_enter Try.func10, Try.ntmps10
    go_wp2_with (first | ((with_reducible refine gate_callee (f := 15) rfl ?_); refine goesL_ (some 16) rfl rfl Try.func15 (by kernel_rfl) rfl #[] rfl (by (try simp only [List.map_toArray, List.map_cons, List.map_nil]); first | done | rfl | (simp only [List.length_drop, List.length_take]; rfl)) ?_; (with_reducible refine (windroselaw02_awake.calls k  t647 _ A3.out).mono ?_); rintro e w4 ⟨rfl, hb⟩; refine ⟨_, rfl, ?_⟩; have n0_ := Aside0.mk (below_step (by repeat (first | (with_reducible first | exact HB.out | apply below_alloc | apply pw_below_drewN | apply below_drew1) | exact HB.out)) hb); clear HB; have HB := n0_; clear n0_; (try clear hb); (try clear hb2); (try clear hk); (try clear hi)))
    go_ret
    exact ⟨by first | rfl | (simp [errW_none, errW_some] <;> rfl) | (simp [*, errW_none, errW_some] <;> rfl), by repeat (first | (with_reducible first | exact HB.out | apply below_alloc | apply pw_below_drewN | apply below_drew1) | exact HB.out)⟩
  · rw [if_neg c2] at H
    have c2b0 : decide (6000 < (l0.length : Int)) = false := decide_eq_false c2
    have c2b1 : decide (6000 < l0.length) = false := decide_eq_false (by omega)
    clear c2
    obtain ⟨y648, hy648⟩ : ∃ y_ : List Int, y_ = (([] : List Int)) := ⟨_, rfl⟩
    replace H : (if y648.length + l0.length < 140737488355328 then ((frame_First.f k (y648 ++ l0)).bind fun bt654 => ((windroseref02_First.f k l0).bind fun bt663 => ((frame_Row.f k l0).bind fun bt672 => ((windroseref02_Row.f k l0).bind fun bt676 => (if bt654.2.2.2 = bt663.2.2.2 then (if bt654.2.2.1 = bt663.2.2.1 then ((windroseref02_Same.f k bt654.1 bt654.2.1 bt663.1 bt663.2.1).bind fun t680 => (if t680 = true then (if bt672.2 = bt676.2 then ((windroseref02_List.f k bt672.1 bt676.1).bind fun t681 => (if t681 = true then ((windroselaw02_awake.f k).bind fun t682 => (some t682)) else (some false))) else (some false)) else (some false))) else (some false)) else (some false)))))) else (none)) = some r := by first | (rw [hy648]; with_reducible exact H) | (have H2_ := (Option.bind_some _ _).symm.trans H; rw [hy648]; with_reducible exact H2_) | (have H2_ := (Option.bind_some _ _).symm.trans H; with_reducible exact H2_) | with_reducible exact H | (rw [hy648]; exact H) | exact H
    have Ny648 := Aside0.mk hy648
    clear hy648
    by_cases c5 : y648.length + l0.length < 140737488355328
    · rw [if_pos c5] at H
      have LMc5 := Aside0.mk c5
      clear c5
      obtain ⟨y651, hy651⟩ : ∃ y_ : List Int, y_ = (y648 ++ l0) := ⟨_, rfl⟩
      replace H : ((frame_First.f k y651).bind fun bt654 => ((windroseref02_First.f k l0).bind fun bt663 => ((frame_Row.f k l0).bind fun bt672 => ((windroseref02_Row.f k l0).bind fun bt676 => (if bt654.2.2.2 = bt663.2.2.2 then (if bt654.2.2.1 = bt663.2.2.1 then ((windroseref02_Same.f k bt654.1 bt654.2.1 bt663.1 bt663.2.1).bind fun t680 => (if t680 = true then (if bt672.2 = bt676.2 then ((windroseref02_List.f k bt672.1 bt676.1).bind fun t681 => (if t681 = true then ((windroselaw02_awake.f k).bind fun t682 => (some t682)) else (some false))) else (some false)) else (some false))) else (some false)) else (some false)))))) = some r := by first | (rw [hy651]; with_reducible exact H) | (have H2_ := (Option.bind_some _ _).symm.trans H; rw [hy651]; with_reducible exact H2_) | (have H2_ := (Option.bind_some _ _).symm.trans H; with_reducible exact H2_) | with_reducible exact H | (rw [hy651]; exact H) | exact H
      have Ny651 := Aside0.mk hy651
      clear hy651
      replace H := Option.bind_eq_some_iff.mp H
      obtain ⟨⟨t654, t657, t660, t661⟩, A60, H⟩ := H
      replace H : ((windroseref02_First.f k l0).bind fun bt663 => ((frame_Row.f k l0).bind fun bt672 => ((windroseref02_Row.f k l0).bind fun bt676 => (if t661 = bt663.2.2.2 then (if t660 = bt663.2.2.1 then ((windroseref02_Same.f k t654 t657 bt663.1 bt663.2.1).bind fun t680 => (if t680 = true then (if bt672.2 = bt676.2 then ((windroseref02_List.f k bt672.1 bt676.1).bind fun t681 => (if t681 = true then ((windroselaw02_awake.f k).bind fun t682 => (some t682)) else (some false))) else (some false)) else (some false))) else (some false)) else (some false))))) = some r := H
      have A6 := Aside0.mk A60
      clear A60
      replace H := Option.bind_eq_some_iff.mp H
      obtain ⟨⟨t663, t666, t669, t670⟩, A70, H⟩ := H
      replace H : ((frame_Row.f k l0).bind fun bt672 => ((windroseref02_Row.f k l0).bind fun bt676 => (if t661 = t670 then (if t660 = t669 then ((windroseref02_Same.f k t654 t657 t663 t666).bind fun t680 => (if t680 = true then (if bt672.2 = bt676.2 then ((windroseref02_List.f k bt672.1 bt676.1).bind fun t681 => (if t681 = true then ((windroselaw02_awake.f k).bind fun t682 => (some t682)) else (some false))) else (some false)) else (some false))) else (some false)) else (some false)))) = some r := H
      have A7 := Aside0.mk A70
      clear A70
      replace H := Option.bind_eq_some_iff.mp H
      obtain ⟨⟨t672, t673⟩, A80, H⟩ := H
      replace H : ((windroseref02_Row.f k l0).bind fun bt676 => (if t661 = t670 then (if t660 = t669 then ((windroseref02_Same.f k t654 t657 t663 t666).bind fun t680 => (if t680 = true then (if t673 = bt676.2 then ((windroseref02_List.f k t672 bt676.1).bind fun t681 => (if t681 = true then ((windroselaw02_awake.f k).bind fun t682 => (some t682)) else (some false))) else (some false)) else (some false))) else (some false)) else (some false))) = some r := H
      have A8 := Aside0.mk A80
      clear A80
      replace H := Option.bind_eq_some_iff.mp H
      obtain ⟨⟨t676, t677⟩, A90, H⟩ := H
      replace H : (if t661 = t670 then (if t660 = t669 then ((windroseref02_Same.f k t654 t657 t663 t666).bind fun t680 => (if t680 = true then (if t673 = t677 then ((windroseref02_List.f k t672 t676).bind fun t681 => (if t681 = true then ((windroselaw02_awake.f k).bind fun t682 => (some t682)) else (some false))) else (some false)) else (some false))) else (some false)) else (some false)) = some r := H
      have A9 := Aside0.mk A90
      clear A90
      by_cases c10 : t661 = t670
      · rw [if_pos c10] at H
        have c10b0 : (t661 == t670) = true := beq_iff_eq.mpr c10
        have c10b1 : (t661 != t670) = false := bne_eq_false_iff_eq.mpr c10
        clear c10
        by_cases c11 : t660 = t669
        · rw [if_pos c11] at H
          have c11b0 : (t660 == t669) = true := beq_iff_eq.mpr c11
          have c11b1 : (t660 != t669) = false := bne_eq_false_iff_eq.mpr c11
          clear c11
          replace H := Option.bind_eq_some_iff.mp H
          obtain ⟨t680, A120, H⟩ := H
          replace H : (if t680 = true then (if t673 = t677 then ((windroseref02_List.f k t672 t676).bind fun t681 => (if t681 = true then ((windroselaw02_awake.f k).bind fun t682 => (some t682)) else (some false))) else (some false)) else (some false)) = some r := H
          have A12 := Aside0.mk A120
          clear A120
          by_cases c13 : t680 = true
          · subst c13
            have H1 : (if t673 = t677 then ((windroseref02_List.f k t672 t676).bind fun t681 => (if t681 = true then ((windroselaw02_awake.f k).bind fun t682 => (some t682)) else (some false))) else (some false)) = some r := by rw [if_pos rfl] at H; exact H
            clear H
            have H := H1
            clear H1
            by_cases c14 : t673 = t677
            · rw [if_pos c14] at H
              have c14b0 : (t673 == t677) = true := beq_iff_eq.mpr c14
              have c14b1 : (t673 != t677) = false := bne_eq_false_iff_eq.mpr c14
              clear c14
              replace H := Option.bind_eq_some_iff.mp H
              obtain ⟨t681, A150, H⟩ := H
              replace H : (if t681 = true then ((windroselaw02_awake.f k).bind fun t682 => (some t682)) else (some false)) = some r := H
              have A15 := Aside0.mk A150
              clear A150
              by_cases c16 : t681 = true
              · subst c16
                have H1 : ((windroselaw02_awake.f k).bind fun t682 => (some t682)) = some r := by rw [if_pos rfl] at H; exact H
                clear H
                have H := H1
                clear H1
                replace H := Option.bind_eq_some_iff.mp H
                obtain ⟨t682, A170, H⟩ := H
                replace H : (some t682) = some r := H
                have A17 := Aside0.mk A170
                clear A170
                obtain rfl := Option.some.inj H
                go_enter Try.func10, Try.ntmps10
                go_wp2_with (first | ((with_reducible refine gate_dst (N := 18) rfl ?_); refine Kd.R_lit (Kd.int .u8) _ 5 ?hg (N := 18) ?hd (xs := ([] : List Int)) (inner := []) (ok := fun _ => True) (okp := fun _ => True) ?hr ?hp (fun _ hk => hk) trivial (Below.refl _ _) (Nat.le_refl _) (by simp) ?_; (case hd => rfl); (case hg => rfl); (case hr => first | (go_simp; done) | (go_simp; rfl)); (case hp => exact (Reps.none _ _)); intro v649 w18 ho19 hb hg_ hnew_; clear hg_ hnew_; (first | rw [← Ny648.out] at ho19 | (simp only [Int.reduceToNat] at ho19; rw [← Ny648.out] at ho19)); have n0_ := Aside0.mk (Kd.R_lower ho19 (below_size (by repeat (first | (with_reducible first | exact HB.out | apply below_alloc | apply pw_below_drewN | apply below_drew1) | exact HB.out)))); have n1_ := Aside0.mk (below_step (by repeat (first | (with_reducible first | exact HB.out | apply below_alloc | apply pw_below_drewN | apply below_drew1) | exact HB.out)) hb); clear HB; have HO650 := n0_; have HB := n1_; clear n0_ n1_; clear hb ho19) | ((with_reducible refine gate_builtin (b := .append) (xs := #[.tmp 18, .tmp 19]) rfl ?_); at_builtin; refine Kd.R_append_rows (Kd.int .u8) (w0 := w) w.heap.size rfl (.tmp 18) (.tmp 19) 22 5 (.int .u8 0) 1 rfl Try.underlying22 info5 rfl (by decide) (by omega) v649 y648 l0 _ _ _ (fun _ => True) (fun _ => False) rfl rfl ?aO ?aR (fun _ _ h => h) (fun _ h => h.elim) ?aF ?aB ?aS ?aL ?_; (case aR => repeat (first | exact (Kd.C_below HR0.out HB.out) | (with_reducible refine Kd.C_alloc ?_ _) | (with_reducible refine Kd.C_drewN ?_ _) | (with_reducible refine Kd.C_drew ?_))); (case aB => exact (by repeat (first | (with_reducible first | exact HB.out | apply below_alloc | apply pw_below_drewN | apply below_drew1) | exact HB.out))); (case aF => exact (fun _ _ => trivial)); (case aO => exact (by (with_reducible repeat (first | apply Kd.R_alloc | apply Kd.R_drewN | apply Kd.R_drew)); exact HO650.out)); (case aS => exact (below_size (by repeat (first | (with_reducible first | exact HB.out | apply below_alloc | apply pw_below_drewN | apply below_drew1) | exact HB.out)))); (case aL => have := LMc5.out; omega); intro v652 w20 ho hb hg hat; rw [← Ny651.out] at ho; have n0_ := Aside0.mk (hb); have n1_ := Aside0.mk (ho); clear HB; clear HO650; have HB := n0_; have HO653 := n1_; clear n0_ n1_; clear ho hb hg hat; obtain ⟨Ao21, co21, eo21⟩ := Kd.R_slice HO653.out; subst eo21) | ((with_reducible refine gate_callee (f := 39) rfl ?_); refine goesL_ (some 21) rfl rfl Try.func39 (by kernel_rfl) rfl #[.slice Ao21 y651.length co21] rfl (by (try simp only [List.map_toArray, List.map_cons, List.map_nil]); first | done | rfl | (simp only [List.length_drop, List.length_take]; rfl)) ?_; (with_reducible refine (frame_First.calls k _ _ y651 t654 t657 t660 t661 _ ?side1 ?side2 A6.out).mono ?_); (case side1 => repeat (first | exact (Kd.R_reads' HO653.out).2.2 | (with_reducible refine Kd.C_alloc ?_ _) | (with_reducible refine Kd.C_drewN ?_ _) | (with_reducible refine Kd.C_drew ?_))); (case side2 => exact (Kd.R_reads' HO653.out).2.1); rintro e w22 ⟨v655, v658, rfl, ho0, ho1, hb⟩; refine ⟨_, rfl, ?_⟩; have n0_ := Aside0.mk (Kd.R_below (by (with_reducible repeat (first | apply Kd.R_alloc | apply Kd.R_drewN | apply Kd.R_drew)); exact HO653.out) hb); have n1_ := Aside0.mk (Kd.R_lower ho0 (below_size (by repeat (first | (with_reducible first | exact HB.out | apply below_alloc | apply pw_below_drewN | apply below_drew1) | exact HB.out)))); have n2_ := Aside0.mk (Kd.R_lower ho1 (below_size (by repeat (first | (with_reducible first | exact HB.out | apply below_alloc | apply pw_below_drewN | apply below_drew1) | exact HB.out)))); have n3_ := Aside0.mk (below_step (by repeat (first | (with_reducible first | exact HB.out | apply below_alloc | apply pw_below_drewN | apply below_drew1) | exact HB.out)) hb); clear HO653; clear HB; have HO653 := n0_; have HO656 := n1_; have HO659 := n2_; have HB := n3_; clear n0_ n1_ n2_ n3_; (try clear hb); (try clear hb2); (try clear hk); (try clear hi); (try clear ho0); (try clear ho1)) | ((with_reducible refine gate_dst (N := 3) rfl ?_); refine box_event ?hg (N := 3) ?hd (cs := #[.slice none 0 0, .slice none 0 0]) (t := 29) ?hr ?_; (case hd => rfl); (case hg => rfl); (case hr => first | (go_simp; done) | (go_simp; rfl)); intro gb662 hg w23 hbox hb; have n0_ := Aside0.mk (Kd.R_below (by (with_reducible repeat (first | apply Kd.R_alloc | apply Kd.R_drewN | apply Kd.R_drew)); exact HO653.out) hb); have n1_ := Aside0.mk (Kd.R_below (by (with_reducible repeat (first | apply Kd.R_alloc | apply Kd.R_drewN | apply Kd.R_drew)); exact HO656.out) hb); have n2_ := Aside0.mk (Kd.R_below (by (with_reducible repeat (first | apply Kd.R_alloc | apply Kd.R_drewN | apply Kd.R_drew)); exact HO659.out) hb); have n3_ := Aside0.mk (below_step (by repeat (first | (with_reducible first | exact HB.out | apply below_alloc | apply pw_below_drewN | apply below_drew1) | exact HB.out)) hb); have n4_ := Aside0.mk (hbox); have n5_ := Aside0.mk ((by rw [hg]; exact (below_size (by repeat (first | (with_reducible first | exact HB.out | apply below_alloc | apply pw_below_drewN | apply below_drew1) | exact HB.out))) : w.heap.size ≤ gb662)); have n6_ := Aside0.mk ((by rw [hg]; exact (below_size (by repeat (first | (with_reducible first | exact HB.out | apply below_alloc | apply pw_below_drewN | apply below_drew1) | exact HB.out))) : w.heap.size ≤ gb662)); clear HO653; clear HO656; clear HO659; clear HB; have HO653 := n0_; have HO656 := n1_; have HO659 := n2_; have HB := n3_; have BK662 := n4_; have GW662 := n5_; have GE662 := n6_; clear n0_ n1_ n2_ n3_ n4_ n5_ n6_; clear hb hbox hg; obtain ⟨Ao24, co24, eo24⟩ := Kd.R_slice HO656.out; subst eo24; have hcz25_0 : w23.cell? ⟨gb662, 0, none⟩ = some (.slice none 0 0) := (blk_cell BK662.out 0).trans rfl; have hcz25_1 : w23.cell? ⟨gb662, 1, none⟩ = some (.slice none 0 0) := (blk_cell BK662.out 1).trans rfl; have hfz25_0 := blk_frozen BK662.out 0; have hfz25_1 := blk_frozen BK662.out 1; obtain ⟨Ao26, co26, eo26⟩ := Kd.R_slice HO659.out; subst eo26) | ((with_reducible refine gate_callee (f := 40) rfl ?_); refine goesL_ (some 27) rfl rfl Try.func40 (by kernel_rfl) rfl #[.slice A0 l0.length c0] rfl (by (try simp only [List.map_toArray, List.map_cons, List.map_nil]); first | done | rfl | (simp only [List.length_drop, List.length_take]; rfl)) ?_; (with_reducible refine (windroseref02_First.calls k _ _ l0 t663 t666 t669 t670 _ ?side1 ?side2 A7.out).mono ?_); (case side1 => exact Kd.C_below HR0.out (by repeat (first | (with_reducible first | exact HB.out | apply below_alloc | apply pw_below_drewN | apply below_drew1 | refine below_set ?_ GE662.out) | exact HB.out))); (case side2 => exact HC0.out); rintro e w27 ⟨v664, v667, rfl, ho0, ho1, hb⟩; refine ⟨_, rfl, ?_⟩; have n0_ := Aside0.mk (Kd.R_below (by (with_reducible repeat (first | apply Kd.R_alloc | apply Kd.R_drewN | apply Kd.R_drew)); exact (Kd.R_mono (Kd.R_far (p := ⟨gb662, 1, none⟩) (Kd.R_far (p := ⟨gb662, 0, none⟩) (Kd.R_types HO653.out BK662.out (by decide)) (fun _ hk => hk.2) (.slice Ao24 t654.length co24)) (fun _ hk => hk.2) (.slice Ao26 t657.length co26)) (fun _ h_ => h_.1))) hb); have n1_ := Aside0.mk (Kd.R_elder' (by (with_reducible repeat (first | apply Kd.R_alloc | apply Kd.R_drewN | apply Kd.R_drew)); exact (Kd.R_mono (Kd.R_far (p := ⟨gb662, 1, none⟩) (Kd.R_far (p := ⟨gb662, 0, none⟩) (Kd.R_types HO656.out BK662.out (by decide)) (fun _ hk => hk.2) (.slice Ao24 t654.length co24)) (fun _ hk => hk.2) (.slice Ao26 t657.length co26)) (fun _ h_ => h_.1))) (Kd.R_base ho0) hb); have n2_ := Aside0.mk (Kd.R_elder' (by (with_reducible repeat (first | apply Kd.R_alloc | apply Kd.R_drewN | apply Kd.R_drew)); exact (Kd.R_mono (Kd.R_far (p := ⟨gb662, 1, none⟩) (Kd.R_far (p := ⟨gb662, 0, none⟩) (Kd.R_types HO659.out BK662.out (by decide)) (fun _ hk => hk.2) (.slice Ao24 t654.length co24)) (fun _ hk => hk.2) (.slice Ao26 t657.length co26)) (fun _ h_ => h_.1))) (Kd.R_base ho1) hb); have n3_ := Aside0.mk (Kd.R_lower (Kd.R_new' ho0 (Kd.R_lt (by (with_reducible repeat (first | apply Kd.R_alloc | apply Kd.R_drewN | apply Kd.R_drew)); exact (Kd.R_mono (Kd.R_far (p := ⟨gb662, 1, none⟩) (Kd.R_far (p := ⟨gb662, 0, none⟩) (Kd.R_types HO656.out BK662.out (by decide)) (fun _ hk => hk.2) (.slice Ao24 t654.length co24)) (fun _ hk => hk.2) (.slice Ao26 t657.length co26)) (fun _ h_ => h_.1))))) (below_size (by repeat (first | (with_reducible first | exact HB.out | apply below_alloc | apply pw_below_drewN | apply below_drew1 | refine below_set ?_ GE662.out) | exact HB.out)))); have n4_ := Aside0.mk (Kd.R_lower (Kd.R_new' ho1 (Kd.R_lt (by (with_reducible repeat (first | apply Kd.R_alloc | apply Kd.R_drewN | apply Kd.R_drew)); exact (Kd.R_mono (Kd.R_far (p := ⟨gb662, 1, none⟩) (Kd.R_far (p := ⟨gb662, 0, none⟩) (Kd.R_types HO659.out BK662.out (by decide)) (fun _ hk => hk.2) (.slice Ao24 t654.length co24)) (fun _ hk => hk.2) (.slice Ao26 t657.length co26)) (fun _ h_ => h_.1))))) (below_size (by repeat (first | (with_reducible first | exact HB.out | apply below_alloc | apply pw_below_drewN | apply below_drew1 | refine below_set ?_ GE662.out) | exact HB.out)))); have n5_ := Aside0.mk (blk_below (g := gb662) (o := .cells #[.slice Ao24 t654.length co24, .slice Ao26 t657.length co26] 29 (0, 0)) (by (with_reducible repeat (first | refine blk_drewN ?_ _ | refine blk_drew ?_ | refine blk_alloc ?_ _)); refine blk_put (cs := #[.slice Ao24 t654.length co24, .slice none 0 0]) ?_ 1 _ rfl; (with_reducible repeat (first | refine blk_drewN ?_ _ | refine blk_drew ?_ | refine blk_alloc ?_ _)); refine blk_put (cs := #[.slice none 0 0, .slice none 0 0]) ?_ 0 _ rfl; (with_reducible repeat (first | refine blk_drewN ?_ _ | refine blk_drew ?_ | refine blk_alloc ?_ _)); exact BK662.out) hb); have n6_ := Aside0.mk (below_step (by repeat (first | (with_reducible first | exact HB.out | apply below_alloc | apply pw_below_drewN | apply below_drew1 | refine below_set ?_ GE662.out) | exact HB.out)) hb); clear HO653; clear HO656; clear HO659; clear BK662; clear HB; have HO653 := n0_; have HO656 := n1_; have HO659 := n2_; have HO665 := n3_; have HO668 := n4_; have BK662 := n5_; have HB := n6_; clear n0_ n1_ n2_ n3_ n4_ n5_ n6_; (try clear hb); (try clear hb2); (try clear hk); (try clear hi); (try clear ho0); (try clear ho1)) | ((with_reducible refine gate_dst (N := 6) rfl ?_); refine box_event ?hg (N := 6) ?hd (cs := #[.slice none 0 0, .slice none 0 0]) (t := 29) ?hr ?_; (case hd => rfl); (case hg => rfl); (case hr => first | (go_simp; done) | (go_simp; rfl)); intro gb671 hg w28 hbox hb; have n0_ := Aside0.mk (Kd.R_below (by (with_reducible repeat (first | apply Kd.R_alloc | apply Kd.R_drewN | apply Kd.R_drew)); exact HO653.out) hb); have n1_ := Aside0.mk (Kd.R_below (by (with_reducible repeat (first | apply Kd.R_alloc | apply Kd.R_drewN | apply Kd.R_drew)); exact HO656.out) hb); have n2_ := Aside0.mk (Kd.R_below (by (with_reducible repeat (first | apply Kd.R_alloc | apply Kd.R_drewN | apply Kd.R_drew)); exact HO659.out) hb); have n3_ := Aside0.mk (Kd.R_below (by (with_reducible repeat (first | apply Kd.R_alloc | apply Kd.R_drewN | apply Kd.R_drew)); exact HO665.out) hb); have n4_ := Aside0.mk (Kd.R_below (by (with_reducible repeat (first | apply Kd.R_alloc | apply Kd.R_drewN | apply Kd.R_drew)); exact HO668.out) hb); have n5_ := Aside0.mk (blk_below (g := gb662) (o := .cells #[.slice Ao24 t654.length co24, .slice Ao26 t657.length co26] 29 (0, 0)) (by (with_reducible repeat (first | refine blk_drewN ?_ _ | refine blk_drew ?_ | refine blk_alloc ?_ _)); exact BK662.out) hb); have n6_ := Aside0.mk (below_step (by repeat (first | (with_reducible first | exact HB.out | apply below_alloc | apply pw_below_drewN | apply below_drew1 | refine below_set ?_ GE662.out) | exact HB.out)) hb); have n7_ := Aside0.mk (hbox); have n8_ := Aside0.mk ((by rw [hg]; exact (below_size (by repeat (first | (with_reducible first | exact HB.out | apply below_alloc | apply pw_below_drewN | apply below_drew1 | refine below_set ?_ GE662.out) | exact HB.out))) : w.heap.size ≤ gb671)); have n9_ := Aside0.mk ((by rw [hg]; exact (below_size (by repeat (first | (with_reducible first | exact HB.out | apply below_alloc | apply pw_below_drewN | apply below_drew1 | refine below_set ?_ GE662.out) | exact HB.out))) : w.heap.size ≤ gb671)); have n10_ := Aside0.mk ((by rw [hg]; exact Nat.ne_of_lt (blk_lt (g := gb662) (o := .cells #[.slice Ao24 t654.length co24, .slice Ao26 t657.length co26] 29 (0, 0)) (by (with_reducible repeat (first | refine blk_drewN ?_ _ | refine blk_drew ?_ | refine blk_alloc ?_ _)); exact BK662.out)) : gb662 ≠ gb671)); have n11_ := Aside0.mk ((by rw [hg]; exact Nat.ne_of_gt (blk_lt (g := gb662) (o := .cells #[.slice Ao24 t654.length co24, .slice Ao26 t657.length co26] 29 (0, 0)) (by (with_reducible repeat (first | refine blk_drewN ?_ _ | refine blk_drew ?_ | refine blk_alloc ?_ _)); exact BK662.out)) : gb671 ≠ gb662)); clear HO653; clear HO656; clear HO659; clear HO665; clear HO668; clear BK662; clear HB; have HO653 := n0_; have HO656 := n1_; have HO659 := n2_; have HO665 := n3_; have HO668 := n4_; have BK662 := n5_; have HB := n6_; have BK671 := n7_; have GW671 := n8_; have GE671 := n9_; have NB662_671 := n10_; have NB671_662 := n11_; clear n0_ n1_ n2_ n3_ n4_ n5_ n6_ n7_ n8_ n9_ n10_ n11_; clear hb hbox hg; obtain ⟨Ao29, co29, eo29⟩ := Kd.R_slice HO665.out; subst eo29; have hnb30 := NB671_662.out; have hnc30 := NB662_671.out; have hcz31_0 : w28.cell? ⟨gb671, 0, none⟩ = some (.slice none 0 0) := (blk_cell BK671.out 0).trans rfl; have hcz31_1 : w28.cell? ⟨gb671, 1, none⟩ = some (.slice none 0 0) := (blk_cell BK671.out 1).trans rfl; have hfz31_0 := blk_frozen BK671.out 0; have hfz31_1 := blk_frozen BK671.out 1; obtain ⟨Ao32, co32, eo32⟩ := Kd.R_slice HO668.out; subst eo32) | ((with_reducible refine gate_callee (f := 41) rfl ?_); refine goesL_ (some 33) rfl rfl Try.func41 (by kernel_rfl) rfl #[.slice A0 l0.length c0] rfl (by (try simp only [List.map_toArray, List.map_cons, List.map_nil]); first | done | rfl | (simp only [List.length_drop, List.length_take]; rfl)) ?_; (with_reducible refine (frame_Row.calls k _ _ l0 t672 t673 _ ?side1 ?side2 A8.out).mono ?_); (case side1 => exact Kd.C_below HR0.out (by repeat (first | (with_reducible first | exact HB.out | apply below_alloc | apply pw_below_drewN | apply below_drew1 | refine below_set ?_ GE662.out | refine below_set ?_ GE671.out) | exact HB.out))); (case side2 => exact HC0.out); rintro e w33 ⟨v674, rfl, ho0, hb⟩; refine ⟨_, rfl, ?_⟩; have n0_ := Aside0.mk (Kd.R_below (by (with_reducible repeat (first | apply Kd.R_alloc | apply Kd.R_drewN | apply Kd.R_drew)); exact (Kd.R_mono (Kd.R_far (p := ⟨gb671, 1, none⟩) (Kd.R_far (p := ⟨gb671, 0, none⟩) (Kd.R_types HO653.out BK671.out (by decide)) (fun _ hk => hk.2) (.slice Ao29 t663.length co29)) (fun _ hk => hk.2) (.slice Ao32 t666.length co32)) (fun _ h_ => h_.1))) hb); have n1_ := Aside0.mk (Kd.R_below (by (with_reducible repeat (first | apply Kd.R_alloc | apply Kd.R_drewN | apply Kd.R_drew)); exact (Kd.R_mono (Kd.R_far (p := ⟨gb671, 1, none⟩) (Kd.R_far (p := ⟨gb671, 0, none⟩) (Kd.R_types HO656.out BK671.out (by decide)) (fun _ hk => hk.2) (.slice Ao29 t663.length co29)) (fun _ hk => hk.2) (.slice Ao32 t666.length co32)) (fun _ h_ => h_.1))) hb); have n2_ := Aside0.mk (Kd.R_below (by (with_reducible repeat (first | apply Kd.R_alloc | apply Kd.R_drewN | apply Kd.R_drew)); exact (Kd.R_mono (Kd.R_far (p := ⟨gb671, 1, none⟩) (Kd.R_far (p := ⟨gb671, 0, none⟩) (Kd.R_types HO659.out BK671.out (by decide)) (fun _ hk => hk.2) (.slice Ao29 t663.length co29)) (fun _ hk => hk.2) (.slice Ao32 t666.length co32)) (fun _ h_ => h_.1))) hb); have n3_ := Aside0.mk (Kd.R_below (by (with_reducible repeat (first | apply Kd.R_alloc | apply Kd.R_drewN | apply Kd.R_drew)); exact (Kd.R_mono (Kd.R_far (p := ⟨gb671, 1, none⟩) (Kd.R_far (p := ⟨gb671, 0, none⟩) (Kd.R_types HO665.out BK671.out (by decide)) (fun _ hk => hk.2) (.slice Ao29 t663.length co29)) (fun _ hk => hk.2) (.slice Ao32 t666.length co32)) (fun _ h_ => h_.1))) hb); have n4_ := Aside0.mk (Kd.R_below (by (with_reducible repeat (first | apply Kd.R_alloc | apply Kd.R_drewN | apply Kd.R_drew)); exact (Kd.R_mono (Kd.R_far (p := ⟨gb671, 1, none⟩) (Kd.R_far (p := ⟨gb671, 0, none⟩) (Kd.R_types HO668.out BK671.out (by decide)) (fun _ hk => hk.2) (.slice Ao29 t663.length co29)) (fun _ hk => hk.2) (.slice Ao32 t666.length co32)) (fun _ h_ => h_.1))) hb); have n5_ := Aside0.mk (Kd.S_lower (Kd.S_newB (Kd.S_newB (Kd.S_new' (Kd.S_new' (Kd.S_new' (Kd.S_new' ho0 (Kd.R_lt (by (with_reducible repeat (first | apply Kd.R_alloc | apply Kd.R_drewN | apply Kd.R_drew)); exact (Kd.R_mono (Kd.R_far (p := ⟨gb671, 1, none⟩) (Kd.R_far (p := ⟨gb671, 0, none⟩) (Kd.R_types HO656.out BK671.out (by decide)) (fun _ hk => hk.2) (.slice Ao29 t663.length co29)) (fun _ hk => hk.2) (.slice Ao32 t666.length co32)) (fun _ h_ => h_.1))))) (Kd.R_lt (by (with_reducible repeat (first | apply Kd.R_alloc | apply Kd.R_drewN | apply Kd.R_drew)); exact (Kd.R_mono (Kd.R_far (p := ⟨gb671, 1, none⟩) (Kd.R_far (p := ⟨gb671, 0, none⟩) (Kd.R_types HO659.out BK671.out (by decide)) (fun _ hk => hk.2) (.slice Ao29 t663.length co29)) (fun _ hk => hk.2) (.slice Ao32 t666.length co32)) (fun _ h_ => h_.1))))) (Kd.R_lt (by (with_reducible repeat (first | apply Kd.R_alloc | apply Kd.R_drewN | apply Kd.R_drew)); exact (Kd.R_mono (Kd.R_far (p := ⟨gb671, 1, none⟩) (Kd.R_far (p := ⟨gb671, 0, none⟩) (Kd.R_types HO665.out BK671.out (by decide)) (fun _ hk => hk.2) (.slice Ao29 t663.length co29)) (fun _ hk => hk.2) (.slice Ao32 t666.length co32)) (fun _ h_ => h_.1))))) (Kd.R_lt (by (with_reducible repeat (first | apply Kd.R_alloc | apply Kd.R_drewN | apply Kd.R_drew)); exact (Kd.R_mono (Kd.R_far (p := ⟨gb671, 1, none⟩) (Kd.R_far (p := ⟨gb671, 0, none⟩) (Kd.R_types HO668.out BK671.out (by decide)) (fun _ hk => hk.2) (.slice Ao29 t663.length co29)) (fun _ hk => hk.2) (.slice Ao32 t666.length co32)) (fun _ h_ => h_.1))))) (g := gb662) (o := .cells #[.slice Ao24 t654.length co24, .slice Ao26 t657.length co26] 29 (0, 0)) (by (with_reducible repeat (first | refine blk_drewN ?_ _ | refine blk_drew ?_ | refine blk_alloc ?_ _)); refine blk_far ?_ NB662_671.out _; (with_reducible repeat (first | refine blk_drewN ?_ _ | refine blk_drew ?_ | refine blk_alloc ?_ _)); refine blk_far ?_ NB662_671.out _; (with_reducible repeat (first | refine blk_drewN ?_ _ | refine blk_drew ?_ | refine blk_alloc ?_ _)); exact BK662.out)) (g := gb671) (o := .cells #[.slice Ao29 t663.length co29, .slice Ao32 t666.length co32] 29 (0, 0)) (by (with_reducible repeat (first | refine blk_drewN ?_ _ | refine blk_drew ?_ | refine blk_alloc ?_ _)); refine blk_put (cs := #[.slice Ao29 t663.length co29, .slice none 0 0]) ?_ 1 _ rfl; (with_reducible repeat (first | refine blk_drewN ?_ _ | refine blk_drew ?_ | refine blk_alloc ?_ _)); refine blk_put (cs := #[.slice none 0 0, .slice none 0 0]) ?_ 0 _ rfl; (with_reducible repeat (first | refine blk_drewN ?_ _ | refine blk_drew ?_ | refine blk_alloc ?_ _)); exact BK671.out)) (below_size (by repeat (first | (with_reducible first | exact HB.out | apply below_alloc | apply pw_below_drewN | apply below_drew1 | refine below_set ?_ GE662.out | refine below_set ?_ GE671.out) | exact HB.out)))); have n6_ := Aside0.mk (blk_below (g := gb662) (o := .cells #[.slice Ao24 t654.length co24, .slice Ao26 t657.length co26] 29 (0, 0)) (by (with_reducible repeat (first | refine blk_drewN ?_ _ | refine blk_drew ?_ | refine blk_alloc ?_ _)); refine blk_far ?_ NB662_671.out _; (with_reducible repeat (first | refine blk_drewN ?_ _ | refine blk_drew ?_ | refine blk_alloc ?_ _)); refine blk_far ?_ NB662_671.out _; (with_reducible repeat (first | refine blk_drewN ?_ _ | refine blk_drew ?_ | refine blk_alloc ?_ _)); exact BK662.out) hb); have n7_ := Aside0.mk (blk_below (g := gb671) (o := .cells #[.slice Ao29 t663.length co29, .slice Ao32 t666.length co32] 29 (0, 0)) (by (with_reducible repeat (first | refine blk_drewN ?_ _ | refine blk_drew ?_ | refine blk_alloc ?_ _)); refine blk_put (cs := #[.slice Ao29 t663.length co29, .slice none 0 0]) ?_ 1 _ rfl; (with_reducible repeat (first | refine blk_drewN ?_ _ | refine blk_drew ?_ | refine blk_alloc ?_ _)); refine blk_put (cs := #[.slice none 0 0, .slice none 0 0]) ?_ 0 _ rfl; (with_reducible repeat (first | refine blk_drewN ?_ _ | refine blk_drew ?_ | refine blk_alloc ?_ _)); exact BK671.out) hb); have n8_ := Aside0.mk (below_step (by repeat (first | (with_reducible first | exact HB.out | apply below_alloc | apply pw_below_drewN | apply below_drew1 | refine below_set ?_ GE662.out | refine below_set ?_ GE671.out) | exact HB.out)) hb); clear HO653; clear HO656; clear HO659; clear HO665; clear HO668; clear BK662; clear BK671; clear HB; have HO653 := n0_; have HO656 := n1_; have HO659 := n2_; have HO665 := n3_; have HO668 := n4_; have HO675 := n5_; have BK662 := n6_; have BK671 := n7_; have HB := n8_; clear n0_ n1_ n2_ n3_ n4_ n5_ n6_ n7_ n8_; (try clear hb); (try clear hb2); (try clear hk); (try clear hi); (try clear ho0)) | ((with_reducible refine gate_callee (f := 42) rfl ?_); refine goesL_ (some 38) rfl rfl Try.func42 (by kernel_rfl) rfl #[.slice A0 l0.length c0] rfl (by (try simp only [List.map_toArray, List.map_cons, List.map_nil]); first | done | rfl | (simp only [List.length_drop, List.length_take]; rfl)) ?_; (with_reducible refine (windroseref02_Row.calls k _ _ l0 t676 t677 _ ?side1 ?side2 A9.out).mono ?_); (case side1 => repeat (first | exact (Kd.C_below HR0.out HB.out) | (with_reducible refine Kd.C_alloc ?_ _) | (with_reducible refine Kd.C_drewN ?_ _) | (with_reducible refine Kd.C_drew ?_))); (case side2 => exact HC0.out); rintro e w34 ⟨v678, rfl, ho0, hb⟩; refine ⟨_, rfl, ?_⟩; have n0_ := Aside0.mk (Kd.R_below (by (with_reducible repeat (first | apply Kd.R_alloc | apply Kd.R_drewN | apply Kd.R_drew)); exact HO653.out) hb); have n1_ := Aside0.mk (Kd.R_below (by (with_reducible repeat (first | apply Kd.R_alloc | apply Kd.R_drewN | apply Kd.R_drew)); exact HO656.out) hb); have n2_ := Aside0.mk (Kd.R_below (by (with_reducible repeat (first | apply Kd.R_alloc | apply Kd.R_drewN | apply Kd.R_drew)); exact HO659.out) hb); have n3_ := Aside0.mk (Kd.R_below (by (with_reducible repeat (first | apply Kd.R_alloc | apply Kd.R_drewN | apply Kd.R_drew)); exact HO665.out) hb); have n4_ := Aside0.mk (Kd.R_below (by (with_reducible repeat (first | apply Kd.R_alloc | apply Kd.R_drewN | apply Kd.R_drew)); exact HO668.out) hb); have n5_ := Aside0.mk (Kd.S_elder' (by (with_reducible repeat (first | apply Kd.S_alloc | apply Kd.S_drewN | apply Kd.S_drew)); exact HO675.out) (Kd.S_base ho0) hb); have n6_ := Aside0.mk (Kd.S_lower (Kd.S_newB (Kd.S_newB (Kd.S_new' (Kd.S_new' (Kd.S_new' (Kd.S_new' (Kd.S_new' ho0 (Kd.R_lt (by (with_reducible repeat (first | apply Kd.R_alloc | apply Kd.R_drewN | apply Kd.R_drew)); exact HO656.out))) (Kd.R_lt (by (with_reducible repeat (first | apply Kd.R_alloc | apply Kd.R_drewN | apply Kd.R_drew)); exact HO659.out))) (Kd.R_lt (by (with_reducible repeat (first | apply Kd.R_alloc | apply Kd.R_drewN | apply Kd.R_drew)); exact HO665.out))) (Kd.R_lt (by (with_reducible repeat (first | apply Kd.R_alloc | apply Kd.R_drewN | apply Kd.R_drew)); exact HO668.out))) (Kd.S_lt (by (with_reducible repeat (first | apply Kd.S_alloc | apply Kd.S_drewN | apply Kd.S_drew)); exact HO675.out))) (g := gb662) (o := .cells #[.slice Ao24 t654.length co24, .slice Ao26 t657.length co26] 29 (0, 0)) (by (with_reducible repeat (first | refine blk_drewN ?_ _ | refine blk_drew ?_ | refine blk_alloc ?_ _)); exact BK662.out)) (g := gb671) (o := .cells #[.slice Ao29 t663.length co29, .slice Ao32 t666.length co32] 29 (0, 0)) (by (with_reducible repeat (first | refine blk_drewN ?_ _ | refine blk_drew ?_ | refine blk_alloc ?_ _)); exact BK671.out)) (below_size (by repeat (first | (with_reducible first | exact HB.out | apply below_alloc | apply pw_below_drewN | apply below_drew1 | refine below_set ?_ GE662.out | refine below_set ?_ GE671.out) | exact HB.out)))); have n7_ := Aside0.mk (blk_below (g := gb662) (o := .cells #[.slice Ao24 t654.length co24, .slice Ao26 t657.length co26] 29 (0, 0)) (by (with_reducible repeat (first | refine blk_drewN ?_ _ | refine blk_drew ?_ | refine blk_alloc ?_ _)); exact BK662.out) hb); have n8_ := Aside0.mk (blk_below (g := gb671) (o := .cells #[.slice Ao29 t663.length co29, .slice Ao32 t666.length co32] 29 (0, 0)) (by (with_reducible repeat (first | refine blk_drewN ?_ _ | refine blk_drew ?_ | refine blk_alloc ?_ _)); exact BK671.out) hb); have n9_ := Aside0.mk (below_step (by repeat (first | (with_reducible first | exact HB.out | apply below_alloc | apply pw_below_drewN | apply below_drew1 | refine below_set ?_ GE662.out | refine below_set ?_ GE671.out) | exact HB.out)) hb); clear HO653; clear HO656; clear HO659; clear HO665; clear HO668; clear HO675; clear BK662; clear BK671; clear HB; have HO653 := n0_; have HO656 := n1_; have HO659 := n2_; have HO665 := n3_; have HO668 := n4_; have HO675 := n5_; have HO679 := n6_; have BK662 := n7_; have BK671 := n8_; have HB := n9_; clear n0_ n1_ n2_ n3_ n4_ n5_ n6_ n7_ n8_ n9_; (try clear hb); (try clear hb2); (try clear hk); (try clear hi); (try clear ho0); have hcz35_0 : w34.cell? ⟨gb662, 0, none⟩ = some (.slice Ao24 t654.length co24) := (blk_cell BK662.out 0).trans rfl; have hcz35_1 : w34.cell? ⟨gb662, 1, none⟩ = some (.slice Ao26 t657.length co26) := (blk_cell BK662.out 1).trans rfl; have hfz35_0 := blk_frozen BK662.out 0; have hfz35_1 := blk_frozen BK662.out 1; have hcz36_0 : w34.cell? ⟨gb671, 0, none⟩ = some (.slice Ao29 t663.length co29) := (blk_cell BK671.out 0).trans rfl; have hcz36_1 : w34.cell? ⟨gb671, 1, none⟩ = some (.slice Ao32 t666.length co32) := (blk_cell BK671.out 1).trans rfl; have hfz36_0 := blk_frozen BK671.out 0; have hfz36_1 := blk_frozen BK671.out 1) | (go_at_call 30; (with_reducible refine (windroseref02_Same.calls k _ _ t654 _ _ t657 _ _ t663 _ _ t666 true _ ?side1 ?side2 ?side3 ?side4 ?side5 ?side6 ?side7 ?side8 A12.out).mono ?_); (case side1 => repeat (first | exact (Kd.R_reads' HO656.out).2.2 | (with_reducible refine Kd.C_alloc ?_ _) | (with_reducible refine Kd.C_drewN ?_ _) | (with_reducible refine Kd.C_drew ?_))); (case side2 => exact (Kd.R_reads' HO656.out).2.1); (case side3 => repeat (first | exact (Kd.R_reads' HO659.out).2.2 | (with_reducible refine Kd.C_alloc ?_ _) | (with_reducible refine Kd.C_drewN ?_ _) | (with_reducible refine Kd.C_drew ?_))); (case side4 => exact (Kd.R_reads' HO659.out).2.1); (case side5 => repeat (first | exact (Kd.R_reads' HO665.out).2.2 | (with_reducible refine Kd.C_alloc ?_ _) | (with_reducible refine Kd.C_drewN ?_ _) | (with_reducible refine Kd.C_drew ?_))); (case side6 => exact (Kd.R_reads' HO665.out).2.1); (case side7 => repeat (first | exact (Kd.R_reads' HO668.out).2.2 | (with_reducible refine Kd.C_alloc ?_ _) | (with_reducible refine Kd.C_drewN ?_ _) | (with_reducible refine Kd.C_drew ?_))); (case side8 => exact (Kd.R_reads' HO668.out).2.1); rintro e w37 ⟨rfl, hb⟩; have n0_ := Aside0.mk (Kd.R_below (by (with_reducible repeat (first | apply Kd.R_alloc | apply Kd.R_drewN | apply Kd.R_drew)); exact HO653.out) hb); have n1_ := Aside0.mk (Kd.R_below (by (with_reducible repeat (first | apply Kd.R_alloc | apply Kd.R_drewN | apply Kd.R_drew)); exact HO656.out) hb); have n2_ := Aside0.mk (Kd.R_below (by (with_reducible repeat (first | apply Kd.R_alloc | apply Kd.R_drewN | apply Kd.R_drew)); exact HO659.out) hb); have n3_ := Aside0.mk (Kd.R_below (by (with_reducible repeat (first | apply Kd.R_alloc | apply Kd.R_drewN | apply Kd.R_drew)); exact HO665.out) hb); have n4_ := Aside0.mk (Kd.R_below (by (with_reducible repeat (first | apply Kd.R_alloc | apply Kd.R_drewN | apply Kd.R_drew)); exact HO668.out) hb); have n5_ := Aside0.mk (Kd.S_below (by (with_reducible repeat (first | apply Kd.S_alloc | apply Kd.S_drewN | apply Kd.S_drew)); exact HO675.out) hb); have n6_ := Aside0.mk (Kd.S_below (by (with_reducible repeat (first | apply Kd.S_alloc | apply Kd.S_drewN | apply Kd.S_drew)); exact HO679.out) hb); have n7_ := Aside0.mk (blk_below (g := gb662) (o := .cells #[.slice Ao24 t654.length co24, .slice Ao26 t657.length co26] 29 (0, 0)) (by (with_reducible repeat (first | refine blk_drewN ?_ _ | refine blk_drew ?_ | refine blk_alloc ?_ _)); exact BK662.out) hb); have n8_ := Aside0.mk (blk_below (g := gb671) (o := .cells #[.slice Ao29 t663.length co29, .slice Ao32 t666.length co32] 29 (0, 0)) (by (with_reducible repeat (first | refine blk_drewN ?_ _ | refine blk_drew ?_ | refine blk_alloc ?_ _)); exact BK671.out) hb); have n9_ := Aside0.mk (below_step (by repeat (first | (with_reducible first | exact HB.out | apply below_alloc | apply pw_below_drewN | apply below_drew1 | refine below_set ?_ GE662.out | refine below_set ?_ GE671.out) | exact HB.out)) hb); clear HO653; clear HO656; clear HO659; clear HO665; clear HO668; clear HO675; clear HO679; clear BK662; clear BK671; clear HB; have HO653 := n0_; have HO656 := n1_; have HO659 := n2_; have HO665 := n3_; have HO668 := n4_; have HO675 := n5_; have HO679 := n6_; have BK662 := n7_; have BK671 := n8_; have HB := n9_; clear n0_ n1_ n2_ n3_ n4_ n5_ n6_ n7_ n8_ n9_; (try clear hb); (try clear hb2); (try clear hk); (try clear hi); obtain ⟨Ao38, co38, eo38⟩ := Kd.S_slice HO675.out; subst eo38; obtain ⟨Ao39, co39, eo39⟩ := Kd.S_slice HO679.out; subst eo39) | (go_at_call 43; (with_reducible refine (windroseref02_List.calls k _ _ t672 _ _ t676 true _ ?side1 ?side2 ?side3 ?side4 A15.out).mono ?_); (case side1 => repeat (first | exact (Kd.S_reads' HO675.out).2.2 | (with_reducible refine Kd.C_alloc ?_ _) | (with_reducible refine Kd.C_drewN ?_ _) | (with_reducible refine Kd.C_drew ?_))); (case side2 => exact (Kd.S_reads' HO675.out).2.1); (case side3 => repeat (first | exact (Kd.S_reads' HO679.out).2.2 | (with_reducible refine Kd.C_alloc ?_ _) | (with_reducible refine Kd.C_drewN ?_ _) | (with_reducible refine Kd.C_drew ?_))); (case side4 => exact (Kd.S_reads' HO679.out).2.1); rintro e w40 ⟨rfl, hb⟩; have n0_ := Aside0.mk (Kd.R_below (by (with_reducible repeat (first | apply Kd.R_alloc | apply Kd.R_drewN | apply Kd.R_drew)); exact HO653.out) hb); have n1_ := Aside0.mk (Kd.R_below (by (with_reducible repeat (first | apply Kd.R_alloc | apply Kd.R_drewN | apply Kd.R_drew)); exact HO656.out) hb); have n2_ := Aside0.mk (Kd.R_below (by (with_reducible repeat (first | apply Kd.R_alloc | apply Kd.R_drewN | apply Kd.R_drew)); exact HO659.out) hb); have n3_ := Aside0.mk (Kd.R_below (by (with_reducible repeat (first | apply Kd.R_alloc | apply Kd.R_drewN | apply Kd.R_drew)); exact HO665.out) hb); have n4_ := Aside0.mk (Kd.R_below (by (with_reducible repeat (first | apply Kd.R_alloc | apply Kd.R_drewN | apply Kd.R_drew)); exact HO668.out) hb); have n5_ := Aside0.mk (Kd.S_below (by (with_reducible repeat (first | apply Kd.S_alloc | apply Kd.S_drewN | apply Kd.S_drew)); exact HO675.out) hb); have n6_ := Aside0.mk (Kd.S_below (by (with_reducible repeat (first | apply Kd.S_alloc | apply Kd.S_drewN | apply Kd.S_drew)); exact HO679.out) hb); have n7_ := Aside0.mk (blk_below (g := gb662) (o := .cells #[.slice Ao24 t654.length co24, .slice Ao26 t657.length co26] 29 (0, 0)) (by (with_reducible repeat (first | refine blk_drewN ?_ _ | refine blk_drew ?_ | refine blk_alloc ?_ _)); exact BK662.out) hb); have n8_ := Aside0.mk (blk_below (g := gb671) (o := .cells #[.slice Ao29 t663.length co29, .slice Ao32 t666.length co32] 29 (0, 0)) (by (with_reducible repeat (first | refine blk_drewN ?_ _ | refine blk_drew ?_ | refine blk_alloc ?_ _)); exact BK671.out) hb); have n9_ := Aside0.mk (below_step (by repeat (first | (with_reducible first | exact HB.out | apply below_alloc | apply pw_below_drewN | apply below_drew1 | refine below_set ?_ GE662.out | refine below_set ?_ GE671.out) | exact HB.out)) hb); clear HO653; clear HO656; clear HO659; clear HO665; clear HO668; clear HO675; clear HO679; clear BK662; clear BK671; clear HB; have HO653 := n0_; have HO656 := n1_; have HO659 := n2_; have HO665 := n3_; have HO668 := n4_; have HO675 := n5_; have HO679 := n6_; have BK662 := n7_; have BK671 := n8_; have HB := n9_; clear n0_ n1_ n2_ n3_ n4_ n5_ n6_ n7_ n8_ n9_; (try clear hb); (try clear hb2); (try clear hk); (try clear hi)) | (go_at_call 15; (with_reducible refine (windroselaw02_awake.calls k  t682 _ A17.out).mono ?_); rintro e w41 ⟨rfl, hb⟩; have n0_ := Aside0.mk (Kd.R_below (by (with_reducible repeat (first | apply Kd.R_alloc | apply Kd.R_drewN | apply Kd.R_drew)); exact HO653.out) hb); have n1_ := Aside0.mk (Kd.R_below (by (with_reducible repeat (first | apply Kd.R_alloc | apply Kd.R_drewN | apply Kd.R_drew)); exact HO656.out) hb); have n2_ := Aside0.mk (Kd.R_below (by (with_reducible repeat (first | apply Kd.R_alloc | apply Kd.R_drewN | apply Kd.R_drew)); exact HO659.out) hb); have n3_ := Aside0.mk (Kd.R_below (by (with_reducible repeat (first | apply Kd.R_alloc | apply Kd.R_drewN | apply Kd.R_drew)); exact HO665.out) hb); have n4_ := Aside0.mk (Kd.R_below (by (with_reducible repeat (first | apply Kd.R_alloc | apply Kd.R_drewN | apply Kd.R_drew)); exact HO668.out) hb); have n5_ := Aside0.mk (Kd.S_below (by (with_reducible repeat (first | apply Kd.S_alloc | apply Kd.S_drewN | apply Kd.S_drew)); exact HO675.out) hb); have n6_ := Aside0.mk (Kd.S_below (by (with_reducible repeat (first | apply Kd.S_alloc | apply Kd.S_drewN | apply Kd.S_drew)); exact HO679.out) hb); have n7_ := Aside0.mk (blk_below (g := gb662) (o := .cells #[.slice Ao24 t654.length co24, .slice Ao26 t657.length co26] 29 (0, 0)) (by (with_reducible repeat (first | refine blk_drewN ?_ _ | refine blk_drew ?_ | refine blk_alloc ?_ _)); exact BK662.out) hb); have n8_ := Aside0.mk (blk_below (g := gb671) (o := .cells #[.slice Ao29 t663.length co29, .slice Ao32 t666.length co32] 29 (0, 0)) (by (with_reducible repeat (first | refine blk_drewN ?_ _ | refine blk_drew ?_ | refine blk_alloc ?_ _)); exact BK671.out) hb); have n9_ := Aside0.mk (below_step (by repeat (first | (with_reducible first | exact HB.out | apply below_alloc | apply pw_below_drewN | apply below_drew1 | refine below_set ?_ GE662.out | refine below_set ?_ GE671.out) | exact HB.out)) hb); clear HO653; clear HO656; clear HO659; clear HO665; clear HO668; clear HO675; clear HO679; clear BK662; clear BK671; clear HB; have HO653 := n0_; have HO656 := n1_; have HO659 := n2_; have HO665 := n3_; have HO668 := n4_; have HO675 := n5_; have HO679 := n6_; have BK662 := n7_; have BK671 := n8_; have HB := n9_; clear n0_ n1_ n2_ n3_ n4_ n5_ n6_ n7_ n8_ n9_; (try clear hb); (try clear hb2); (try clear hk); (try clear hi)))
                go_ret
                exact ⟨by first | rfl | (simp [errW_none, errW_some] <;> rfl) | (simp [*, errW_none, errW_some] <;> rfl), by repeat (first | (with_reducible first | exact HB.out | apply below_alloc | apply pw_below_drewN | apply below_drew1 | refine below_set ?_ GE662.out | refine below_set ?_ GE671.out) | exact HB.out)⟩
              · replace c16 := Bool.eq_false_iff.mpr c16
                subst c16
                have H1 : (some false) = some r := by rw [if_neg (show ¬ (false = true) by decide)] at H; exact H
                clear H
                have H := H1
                clear H1
                obtain rfl := Option.some.inj H
                go_enter Try.func10, Try.ntmps10
                go_wp2_with (first | ((with_reducible refine gate_dst (N := 18) rfl ?_); refine Kd.R_lit (Kd.int .u8) _ 5 ?hg (N := 18) ?hd (xs := ([] : List Int)) (inner := []) (ok := fun _ => True) (okp := fun _ => True) ?hr ?hp (fun _ hk => hk) trivial (Below.refl _ _) (Nat.le_refl _) (by simp) ?_; (case hd => rfl); (case hg => rfl); (case hr => first | (go_simp; done) | (go_simp; rfl)); (case hp => exact (Reps.none _ _)); intro v649 w42 ho43 hb hg_ hnew_; clear hg_ hnew_; (first | rw [← Ny648.out] at ho43 | (simp only [Int.reduceToNat] at ho43; rw [← Ny648.out] at ho43)); have n0_ := Aside0.mk (Kd.R_lower ho43 (below_size (by repeat (first | (with_reducible first | exact HB.out | apply below_alloc | apply pw_below_drewN | apply below_drew1) | exact HB.out)))); have n1_ := Aside0.mk (below_step (by repeat (first | (with_reducible first | exact HB.out | apply below_alloc | apply pw_below_drewN | apply below_drew1) | exact HB.out)) hb); clear HB; have HO650 := n0_; have HB := n1_; clear n0_ n1_; clear hb ho43) | ((with_reducible refine gate_builtin (b := .append) (xs := #[.tmp 18, .tmp 19]) rfl ?_); at_builtin; refine Kd.R_append_rows (Kd.int .u8) (w0 := w) w.heap.size rfl (.tmp 18) (.tmp 19) 22 5 (.int .u8 0) 1 rfl Try.underlying22 info5 rfl (by decide) (by omega) v649 y648 l0 _ _ _ (fun _ => True) (fun _ => False) rfl rfl ?aO ?aR (fun _ _ h => h) (fun _ h => h.elim) ?aF ?aB ?aS ?aL ?_; (case aR => repeat (first | exact (Kd.C_below HR0.out HB.out) | (with_reducible refine Kd.C_alloc ?_ _) | (with_reducible refine Kd.C_drewN ?_ _) | (with_reducible refine Kd.C_drew ?_))); (case aB => exact (by repeat (first | (with_reducible first | exact HB.out | apply below_alloc | apply pw_below_drewN | apply below_drew1) | exact HB.out))); (case aF => exact (fun _ _ => trivial)); (case aO => exact (by (with_reducible repeat (first | apply Kd.R_alloc | apply Kd.R_drewN | apply Kd.R_drew)); exact HO650.out)); (case aS => exact (below_size (by repeat (first | (with_reducible first | exact HB.out | apply below_alloc | apply pw_below_drewN | apply below_drew1) | exact HB.out)))); (case aL => have := LMc5.out; omega); intro v652 w44 ho hb hg hat; rw [← Ny651.out] at ho; have n0_ := Aside0.mk (hb); have n1_ := Aside0.mk (ho); clear HB; clear HO650; have HB := n0_; have HO653 := n1_; clear n0_ n1_; clear ho hb hg hat; obtain ⟨Ao45, co45, eo45⟩ := Kd.R_slice HO653.out; subst eo45) | ((with_reducible refine gate_callee (f := 39) rfl ?_); refine goesL_ (some 21) rfl rfl Try.func39 (by kernel_rfl) rfl #[.slice Ao45 y651.length co45] rfl (by (try simp only [List.map_toArray, List.map_cons, List.map_nil]); first | done | rfl | (simp only [List.length_drop, List.length_take]; rfl)) ?_; (with_reducible refine (frame_First.calls k _ _ y651 t654 t657 t660 t661 _ ?side1 ?side2 A6.out).mono ?_); (case side1 => repeat (first | exact (Kd.R_reads' HO653.out).2.2 | (with_reducible refine Kd.C_alloc ?_ _) | (with_reducible refine Kd.C_drewN ?_ _) | (with_reducible refine Kd.C_drew ?_))); (case side2 => exact (Kd.R_reads' HO653.out).2.1); rintro e w46 ⟨v655, v658, rfl, ho0, ho1, hb⟩; refine ⟨_, rfl, ?_⟩; have n0_ := Aside0.mk (Kd.R_below (by (with_reducible repeat (first | apply Kd.R_alloc | apply Kd.R_drewN | apply Kd.R_drew)); exact HO653.out) hb); have n1_ := Aside0.mk (Kd.R_lower ho0 (below_size (by repeat (first | (with_reducible first | exact HB.out | apply below_alloc | apply pw_below_drewN | apply below_drew1) | exact HB.out)))); have n2_ := Aside0.mk (Kd.R_lower ho1 (below_size (by repeat (first | (with_reducible first | exact HB.out | apply below_alloc | apply pw_below_drewN | apply below_drew1) | exact HB.out)))); have n3_ := Aside0.mk (below_step (by repeat (first | (with_reducible first | exact HB.out | apply below_alloc | apply pw_below_drewN | apply below_drew1) | exact HB.out)) hb); clear HO653; clear HB; have HO653 := n0_; have HO656 := n1_; have HO659 := n2_; have HB := n3_; clear n0_ n1_ n2_ n3_; (try clear hb); (try clear hb2); (try clear hk); (try clear hi); (try clear ho0); (try clear ho1)) | ((with_reducible refine gate_dst (N := 3) rfl ?_); refine box_event ?hg (N := 3) ?hd (cs := #[.slice none 0 0, .slice none 0 0]) (t := 29) ?hr ?_; (case hd => rfl); (case hg => rfl); (case hr => first | (go_simp; done) | (go_simp; rfl)); intro gb662 hg w47 hbox hb; have n0_ := Aside0.mk (Kd.R_below (by (with_reducible repeat (first | apply Kd.R_alloc | apply Kd.R_drewN | apply Kd.R_drew)); exact HO653.out) hb); have n1_ := Aside0.mk (Kd.R_below (by (with_reducible repeat (first | apply Kd.R_alloc | apply Kd.R_drewN | apply Kd.R_drew)); exact HO656.out) hb); have n2_ := Aside0.mk (Kd.R_below (by (with_reducible repeat (first | apply Kd.R_alloc | apply Kd.R_drewN | apply Kd.R_drew)); exact HO659.out) hb); have n3_ := Aside0.mk (below_step (by repeat (first | (with_reducible first | exact HB.out | apply below_alloc | apply pw_below_drewN | apply below_drew1) | exact HB.out)) hb); have n4_ := Aside0.mk (hbox); have n5_ := Aside0.mk ((by rw [hg]; exact (below_size (by repeat (first | (with_reducible first | exact HB.out | apply below_alloc | apply pw_below_drewN | apply below_drew1) | exact HB.out))) : w.heap.size ≤ gb662)); have n6_ := Aside0.mk ((by rw [hg]; exact (below_size (by repeat (first | (with_reducible first | exact HB.out | apply below_alloc | apply pw_below_drewN | apply below_drew1) | exact HB.out))) : w.heap.size ≤ gb662)); clear HO653; clear HO656; clear HO659; clear HB; have HO653 := n0_; have HO656 := n1_; have HO659 := n2_; have HB := n3_; have BK662 := n4_; have GW662 := n5_; have GE662 := n6_; clear n0_ n1_ n2_ n3_ n4_ n5_ n6_; clear hb hbox hg; obtain ⟨Ao48, co48, eo48⟩ := Kd.R_slice HO656.out; subst eo48; have hcz49_0 : w47.cell? ⟨gb662, 0, none⟩ = some (.slice none 0 0) := (blk_cell BK662.out 0).trans rfl; have hcz49_1 : w47.cell? ⟨gb662, 1, none⟩ = some (.slice none 0 0) := (blk_cell BK662.out 1).trans rfl; have hfz49_0 := blk_frozen BK662.out 0; have hfz49_1 := blk_frozen BK662.out 1; obtain ⟨Ao50, co50, eo50⟩ := Kd.R_slice HO659.out; subst eo50) | ((with_reducible refine gate_callee (f := 40) rfl ?_); refine goesL_ (some 27) rfl rfl Try.func40 (by kernel_rfl) rfl #[.slice A0 l0.length c0] rfl (by (try simp only [List.map_toArray, List.map_cons, List.map_nil]); first | done | rfl | (simp only [List.length_drop, List.length_take]; rfl)) ?_; (with_reducible refine (windroseref02_First.calls k _ _ l0 t663 t666 t669 t670 _ ?side1 ?side2 A7.out).mono ?_); (case side1 => exact Kd.C_below HR0.out (by repeat (first | (with_reducible first | exact HB.out | apply below_alloc | apply pw_below_drewN | apply below_drew1 | refine below_set ?_ GE662.out) | exact HB.out))); (case side2 => exact HC0.out); rintro e w51 ⟨v664, v667, rfl, ho0, ho1, hb⟩; refine ⟨_, rfl, ?_⟩; have n0_ := Aside0.mk (Kd.R_below (by (with_reducible repeat (first | apply Kd.R_alloc | apply Kd.R_drewN | apply Kd.R_drew)); exact (Kd.R_mono (Kd.R_far (p := ⟨gb662, 1, none⟩) (Kd.R_far (p := ⟨gb662, 0, none⟩) (Kd.R_types HO653.out BK662.out (by decide)) (fun _ hk => hk.2) (.slice Ao48 t654.length co48)) (fun _ hk => hk.2) (.slice Ao50 t657.length co50)) (fun _ h_ => h_.1))) hb); have n1_ := Aside0.mk (Kd.R_elder' (by (with_reducible repeat (first | apply Kd.R_alloc | apply Kd.R_drewN | apply Kd.R_drew)); exact (Kd.R_mono (Kd.R_far (p := ⟨gb662, 1, none⟩) (Kd.R_far (p := ⟨gb662, 0, none⟩) (Kd.R_types HO656.out BK662.out (by decide)) (fun _ hk => hk.2) (.slice Ao48 t654.length co48)) (fun _ hk => hk.2) (.slice Ao50 t657.length co50)) (fun _ h_ => h_.1))) (Kd.R_base ho0) hb); have n2_ := Aside0.mk (Kd.R_elder' (by (with_reducible repeat (first | apply Kd.R_alloc | apply Kd.R_drewN | apply Kd.R_drew)); exact (Kd.R_mono (Kd.R_far (p := ⟨gb662, 1, none⟩) (Kd.R_far (p := ⟨gb662, 0, none⟩) (Kd.R_types HO659.out BK662.out (by decide)) (fun _ hk => hk.2) (.slice Ao48 t654.length co48)) (fun _ hk => hk.2) (.slice Ao50 t657.length co50)) (fun _ h_ => h_.1))) (Kd.R_base ho1) hb); have n3_ := Aside0.mk (Kd.R_lower (Kd.R_new' ho0 (Kd.R_lt (by (with_reducible repeat (first | apply Kd.R_alloc | apply Kd.R_drewN | apply Kd.R_drew)); exact (Kd.R_mono (Kd.R_far (p := ⟨gb662, 1, none⟩) (Kd.R_far (p := ⟨gb662, 0, none⟩) (Kd.R_types HO656.out BK662.out (by decide)) (fun _ hk => hk.2) (.slice Ao48 t654.length co48)) (fun _ hk => hk.2) (.slice Ao50 t657.length co50)) (fun _ h_ => h_.1))))) (below_size (by repeat (first | (with_reducible first | exact HB.out | apply below_alloc | apply pw_below_drewN | apply below_drew1 | refine below_set ?_ GE662.out) | exact HB.out)))); have n4_ := Aside0.mk (Kd.R_lower (Kd.R_new' ho1 (Kd.R_lt (by (with_reducible repeat (first | apply Kd.R_alloc | apply Kd.R_drewN | apply Kd.R_drew)); exact (Kd.R_mono (Kd.R_far (p := ⟨gb662, 1, none⟩) (Kd.R_far (p := ⟨gb662, 0, none⟩) (Kd.R_types HO659.out BK662.out (by decide)) (fun _ hk => hk.2) (.slice Ao48 t654.length co48)) (fun _ hk => hk.2) (.slice Ao50 t657.length co50)) (fun _ h_ => h_.1))))) (below_size (by repeat (first | (with_reducible first | exact HB.out | apply below_alloc | apply pw_below_drewN | apply below_drew1 | refine below_set ?_ GE662.out) | exact HB.out)))); have n5_ := Aside0.mk (blk_below (g := gb662) (o := .cells #[.slice Ao48 t654.length co48, .slice Ao50 t657.length co50] 29 (0, 0)) (by (with_reducible repeat (first | refine blk_drewN ?_ _ | refine blk_drew ?_ | refine blk_alloc ?_ _)); refine blk_put (cs := #[.slice Ao48 t654.length co48, .slice none 0 0]) ?_ 1 _ rfl; (with_reducible repeat (first | refine blk_drewN ?_ _ | refine blk_drew ?_ | refine blk_alloc ?_ _)); refine blk_put (cs := #[.slice none 0 0, .slice none 0 0]) ?_ 0 _ rfl; (with_reducible repeat (first | refine blk_drewN ?_ _ | refine blk_drew ?_ | refine blk_alloc ?_ _)); exact BK662.out) hb); have n6_ := Aside0.mk (below_step (by repeat (first | (with_reducible first | exact HB.out | apply below_alloc | apply pw_below_drewN | apply below_drew1 | refine below_set ?_ GE662.out) | exact HB.out)) hb); clear HO653; clear HO656; clear HO659; clear BK662; clear HB; have HO653 := n0_; have HO656 := n1_; have HO659 := n2_; have HO665 := n3_; have HO668 := n4_; have BK662 := n5_; have HB := n6_; clear n0_ n1_ n2_ n3_ n4_ n5_ n6_; (try clear hb); (try clear hb2); (try clear hk); (try clear hi); (try clear ho0); (try clear ho1)) | ((with_reducible refine gate_dst (N := 6) rfl ?_); refine box_event ?hg (N := 6) ?hd (cs := #[.slice none 0 0, .slice none 0 0]) (t := 29) ?hr ?_; (case hd => rfl); (case hg => rfl); (case hr => first | (go_simp; done) | (go_simp; rfl)); intro gb671 hg w52 hbox hb; have n0_ := Aside0.mk (Kd.R_below (by (with_reducible repeat (first | apply Kd.R_alloc | apply Kd.R_drewN | apply Kd.R_drew)); exact HO653.out) hb); have n1_ := Aside0.mk (Kd.R_below (by (with_reducible repeat (first | apply Kd.R_alloc | apply Kd.R_drewN | apply Kd.R_drew)); exact HO656.out) hb); have n2_ := Aside0.mk (Kd.R_below (by (with_reducible repeat (first | apply Kd.R_alloc | apply Kd.R_drewN | apply Kd.R_drew)); exact HO659.out) hb); have n3_ := Aside0.mk (Kd.R_below (by (with_reducible repeat (first | apply Kd.R_alloc | apply Kd.R_drewN | apply Kd.R_drew)); exact HO665.out) hb); have n4_ := Aside0.mk (Kd.R_below (by (with_reducible repeat (first | apply Kd.R_alloc | apply Kd.R_drewN | apply Kd.R_drew)); exact HO668.out) hb); have n5_ := Aside0.mk (blk_below (g := gb662) (o := .cells #[.slice Ao48 t654.length co48, .slice Ao50 t657.length co50] 29 (0, 0)) (by (with_reducible repeat (first | refine blk_drewN ?_ _ | refine blk_drew ?_ | refine blk_alloc ?_ _)); exact BK662.out) hb); have n6_ := Aside0.mk (below_step (by repeat (first | (with_reducible first | exact HB.out | apply below_alloc | apply pw_below_drewN | apply below_drew1 | refine below_set ?_ GE662.out) | exact HB.out)) hb); have n7_ := Aside0.mk (hbox); have n8_ := Aside0.mk ((by rw [hg]; exact (below_size (by repeat (first | (with_reducible first | exact HB.out | apply below_alloc | apply pw_below_drewN | apply below_drew1 | refine below_set ?_ GE662.out) | exact HB.out))) : w.heap.size ≤ gb671)); have n9_ := Aside0.mk ((by rw [hg]; exact (below_size (by repeat (first | (with_reducible first | exact HB.out | apply below_alloc | apply pw_below_drewN | apply below_drew1 | refine below_set ?_ GE662.out) | exact HB.out))) : w.heap.size ≤ gb671)); have n10_ := Aside0.mk ((by rw [hg]; exact Nat.ne_of_lt (blk_lt (g := gb662) (o := .cells #[.slice Ao48 t654.length co48, .slice Ao50 t657.length co50] 29 (0, 0)) (by (with_reducible repeat (first | refine blk_drewN ?_ _ | refine blk_drew ?_ | refine blk_alloc ?_ _)); exact BK662.out)) : gb662 ≠ gb671)); have n11_ := Aside0.mk ((by rw [hg]; exact Nat.ne_of_gt (blk_lt (g := gb662) (o := .cells #[.slice Ao48 t654.length co48, .slice Ao50 t657.length co50] 29 (0, 0)) (by (with_reducible repeat (first | refine blk_drewN ?_ _ | refine blk_drew ?_ | refine blk_alloc ?_ _)); exact BK662.out)) : gb671 ≠ gb662)); clear HO653; clear HO656; clear HO659; clear HO665; clear HO668; clear BK662; clear HB; have HO653 := n0_; have HO656 := n1_; have HO659 := n2_; have HO665 := n3_; have HO668 := n4_; have BK662 := n5_; have HB := n6_; have BK671 := n7_; have GW671 := n8_; have GE671 := n9_; have NB662_671 := n10_; have NB671_662 := n11_; clear n0_ n1_ n2_ n3_ n4_ n5_ n6_ n7_ n8_ n9_ n10_ n11_; clear hb hbox hg; obtain ⟨Ao53, co53, eo53⟩ := Kd.R_slice HO665.out; subst eo53; have hnb54 := NB671_662.out; have hnc54 := NB662_671.out; have hcz55_0 : w52.cell? ⟨gb671, 0, none⟩ = some (.slice none 0 0) := (blk_cell BK671.out 0).trans rfl; have hcz55_1 : w52.cell? ⟨gb671, 1, none⟩ = some (.slice none 0 0) := (blk_cell BK671.out 1).trans rfl; have hfz55_0 := blk_frozen BK671.out 0; have hfz55_1 := blk_frozen BK671.out 1; obtain ⟨Ao56, co56, eo56⟩ := Kd.R_slice HO668.out; subst eo56) | ((with_reducible refine gate_callee (f := 41) rfl ?_); refine goesL_ (some 33) rfl rfl Try.func41 (by kernel_rfl) rfl #[.slice A0 l0.length c0] rfl (by (try simp only [List.map_toArray, List.map_cons, List.map_nil]); first | done | rfl | (simp only [List.length_drop, List.length_take]; rfl)) ?_; (with_reducible refine (frame_Row.calls k _ _ l0 t672 t673 _ ?side1 ?side2 A8.out).mono ?_); (case side1 => exact Kd.C_below HR0.out (by repeat (first | (with_reducible first | exact HB.out | apply below_alloc | apply pw_below_drewN | apply below_drew1 | refine below_set ?_ GE662.out | refine below_set ?_ GE671.out) | exact HB.out))); (case side2 => exact HC0.out); rintro e w57 ⟨v674, rfl, ho0, hb⟩; refine ⟨_, rfl, ?_⟩; have n0_ := Aside0.mk (Kd.R_below (by (with_reducible repeat (first | apply Kd.R_alloc | apply Kd.R_drewN | apply Kd.R_drew)); exact (Kd.R_mono (Kd.R_far (p := ⟨gb671, 1, none⟩) (Kd.R_far (p := ⟨gb671, 0, none⟩) (Kd.R_types HO653.out BK671.out (by decide)) (fun _ hk => hk.2) (.slice Ao53 t663.length co53)) (fun _ hk => hk.2) (.slice Ao56 t666.length co56)) (fun _ h_ => h_.1))) hb); have n1_ := Aside0.mk (Kd.R_below (by (with_reducible repeat (first | apply Kd.R_alloc | apply Kd.R_drewN | apply Kd.R_drew)); exact (Kd.R_mono (Kd.R_far (p := ⟨gb671, 1, none⟩) (Kd.R_far (p := ⟨gb671, 0, none⟩) (Kd.R_types HO656.out BK671.out (by decide)) (fun _ hk => hk.2) (.slice Ao53 t663.length co53)) (fun _ hk => hk.2) (.slice Ao56 t666.length co56)) (fun _ h_ => h_.1))) hb); have n2_ := Aside0.mk (Kd.R_below (by (with_reducible repeat (first | apply Kd.R_alloc | apply Kd.R_drewN | apply Kd.R_drew)); exact (Kd.R_mono (Kd.R_far (p := ⟨gb671, 1, none⟩) (Kd.R_far (p := ⟨gb671, 0, none⟩) (Kd.R_types HO659.out BK671.out (by decide)) (fun _ hk => hk.2) (.slice Ao53 t663.length co53)) (fun _ hk => hk.2) (.slice Ao56 t666.length co56)) (fun _ h_ => h_.1))) hb); have n3_ := Aside0.mk (Kd.R_below (by (with_reducible repeat (first | apply Kd.R_alloc | apply Kd.R_drewN | apply Kd.R_drew)); exact (Kd.R_mono (Kd.R_far (p := ⟨gb671, 1, none⟩) (Kd.R_far (p := ⟨gb671, 0, none⟩) (Kd.R_types HO665.out BK671.out (by decide)) (fun _ hk => hk.2) (.slice Ao53 t663.length co53)) (fun _ hk => hk.2) (.slice Ao56 t666.length co56)) (fun _ h_ => h_.1))) hb); have n4_ := Aside0.mk (Kd.R_below (by (with_reducible repeat (first | apply Kd.R_alloc | apply Kd.R_drewN | apply Kd.R_drew)); exact (Kd.R_mono (Kd.R_far (p := ⟨gb671, 1, none⟩) (Kd.R_far (p := ⟨gb671, 0, none⟩) (Kd.R_types HO668.out BK671.out (by decide)) (fun _ hk => hk.2) (.slice Ao53 t663.length co53)) (fun _ hk => hk.2) (.slice Ao56 t666.length co56)) (fun _ h_ => h_.1))) hb); have n5_ := Aside0.mk (Kd.S_lower (Kd.S_newB (Kd.S_newB (Kd.S_new' (Kd.S_new' (Kd.S_new' (Kd.S_new' ho0 (Kd.R_lt (by (with_reducible repeat (first | apply Kd.R_alloc | apply Kd.R_drewN | apply Kd.R_drew)); exact (Kd.R_mono (Kd.R_far (p := ⟨gb671, 1, none⟩) (Kd.R_far (p := ⟨gb671, 0, none⟩) (Kd.R_types HO656.out BK671.out (by decide)) (fun _ hk => hk.2) (.slice Ao53 t663.length co53)) (fun _ hk => hk.2) (.slice Ao56 t666.length co56)) (fun _ h_ => h_.1))))) (Kd.R_lt (by (with_reducible repeat (first | apply Kd.R_alloc | apply Kd.R_drewN | apply Kd.R_drew)); exact (Kd.R_mono (Kd.R_far (p := ⟨gb671, 1, none⟩) (Kd.R_far (p := ⟨gb671, 0, none⟩) (Kd.R_types HO659.out BK671.out (by decide)) (fun _ hk => hk.2) (.slice Ao53 t663.length co53)) (fun _ hk => hk.2) (.slice Ao56 t666.length co56)) (fun _ h_ => h_.1))))) (Kd.R_lt (by (with_reducible repeat (first | apply Kd.R_alloc | apply Kd.R_drewN | apply Kd.R_drew)); exact (Kd.R_mono (Kd.R_far (p := ⟨gb671, 1, none⟩) (Kd.R_far (p := ⟨gb671, 0, none⟩) (Kd.R_types HO665.out BK671.out (by decide)) (fun _ hk => hk.2) (.slice Ao53 t663.length co53)) (fun _ hk => hk.2) (.slice Ao56 t666.length co56)) (fun _ h_ => h_.1))))) (Kd.R_lt (by (with_reducible repeat (first | apply Kd.R_alloc | apply Kd.R_drewN | apply Kd.R_drew)); exact (Kd.R_mono (Kd.R_far (p := ⟨gb671, 1, none⟩) (Kd.R_far (p := ⟨gb671, 0, none⟩) (Kd.R_types HO668.out BK671.out (by decide)) (fun _ hk => hk.2) (.slice Ao53 t663.length co53)) (fun _ hk => hk.2) (.slice Ao56 t666.length co56)) (fun _ h_ => h_.1))))) (g := gb662) (o := .cells #[.slice Ao48 t654.length co48, .slice Ao50 t657.length co50] 29 (0, 0)) (by (with_reducible repeat (first | refine blk_drewN ?_ _ | refine blk_drew ?_ | refine blk_alloc ?_ _)); refine blk_far ?_ NB662_671.out _; (with_reducible repeat (first | refine blk_drewN ?_ _ | refine blk_drew ?_ | refine blk_alloc ?_ _)); refine blk_far ?_ NB662_671.out _; (with_reducible repeat (first | refine blk_drewN ?_ _ | refine blk_drew ?_ | refine blk_alloc ?_ _)); exact BK662.out)) (g := gb671) (o := .cells #[.slice Ao53 t663.length co53, .slice Ao56 t666.length co56] 29 (0, 0)) (by (with_reducible repeat (first | refine blk_drewN ?_ _ | refine blk_drew ?_ | refine blk_alloc ?_ _)); refine blk_put (cs := #[.slice Ao53 t663.length co53, .slice none 0 0]) ?_ 1 _ rfl; (with_reducible repeat (first | refine blk_drewN ?_ _ | refine blk_drew ?_ | refine blk_alloc ?_ _)); refine blk_put (cs := #[.slice none 0 0, .slice none 0 0]) ?_ 0 _ rfl; (with_reducible repeat (first | refine blk_drewN ?_ _ | refine blk_drew ?_ | refine blk_alloc ?_ _)); exact BK671.out)) (below_size (by repeat (first | (with_reducible first | exact HB.out | apply below_alloc | apply pw_below_drewN | apply below_drew1 | refine below_set ?_ GE662.out | refine below_set ?_ GE671.out) | exact HB.out)))); have n6_ := Aside0.mk (blk_below (g := gb662) (o := .cells #[.slice Ao48 t654.length co48, .slice Ao50 t657.length co50] 29 (0, 0)) (by (with_reducible repeat (first | refine blk_drewN ?_ _ | refine blk_drew ?_ | refine blk_alloc ?_ _)); refine blk_far ?_ NB662_671.out _; (with_reducible repeat (first | refine blk_drewN ?_ _ | refine blk_drew ?_ | refine blk_alloc ?_ _)); refine blk_far ?_ NB662_671.out _; (with_reducible repeat (first | refine blk_drewN ?_ _ | refine blk_drew ?_ | refine blk_alloc ?_ _)); exact BK662.out) hb); have n7_ := Aside0.mk (blk_below (g := gb671) (o := .cells #[.slice Ao53 t663.length co53, .slice Ao56 t666.length co56] 29 (0, 0)) (by (with_reducible repeat (first | refine blk_drewN ?_ _ | refine blk_drew ?_ | refine blk_alloc ?_ _)); refine blk_put (cs := #[.slice Ao53 t663.length co53, .slice none 0 0]) ?_ 1 _ rfl; (with_reducible repeat (first | refine blk_drewN ?_ _ | refine blk_drew ?_ | refine blk_alloc ?_ _)); refine blk_put (cs := #[.slice none 0 0, .slice none 0 0]) ?_ 0 _ rfl; (with_reducible repeat (first | refine blk_drewN ?_ _ | refine blk_drew ?_ | refine blk_alloc ?_ _)); exact BK671.out) hb); have n8_ := Aside0.mk (below_step (by repeat (first | (with_reducible first | exact HB.out | apply below_alloc | apply pw_below_drewN | apply below_drew1 | refine below_set ?_ GE662.out | refine below_set ?_ GE671.out) | exact HB.out)) hb); clear HO653; clear HO656; clear HO659; clear HO665; clear HO668; clear BK662; clear BK671; clear HB; have HO653 := n0_; have HO656 := n1_; have HO659 := n2_; have HO665 := n3_; have HO668 := n4_; have HO675 := n5_; have BK662 := n6_; have BK671 := n7_; have HB := n8_; clear n0_ n1_ n2_ n3_ n4_ n5_ n6_ n7_ n8_; (try clear hb); (try clear hb2); (try clear hk); (try clear hi); (try clear ho0)) | ((with_reducible refine gate_callee (f := 42) rfl ?_); refine goesL_ (some 38) rfl rfl Try.func42 (by kernel_rfl) rfl #[.slice A0 l0.length c0] rfl (by (try simp only [List.map_toArray, List.map_cons, List.map_nil]); first | done | rfl | (simp only [List.length_drop, List.length_take]; rfl)) ?_; (with_reducible refine (windroseref02_Row.calls k _ _ l0 t676 t677 _ ?side1 ?side2 A9.out).mono ?_); (case side1 => repeat (first | exact (Kd.C_below HR0.out HB.out) | (with_reducible refine Kd.C_alloc ?_ _) | (with_reducible refine Kd.C_drewN ?_ _) | (with_reducible refine Kd.C_drew ?_))); (case side2 => exact HC0.out); rintro e w58 ⟨v678, rfl, ho0, hb⟩; refine ⟨_, rfl, ?_⟩; have n0_ := Aside0.mk (Kd.R_below (by (with_reducible repeat (first | apply Kd.R_alloc | apply Kd.R_drewN | apply Kd.R_drew)); exact HO653.out) hb); have n1_ := Aside0.mk (Kd.R_below (by (with_reducible repeat (first | apply Kd.R_alloc | apply Kd.R_drewN | apply Kd.R_drew)); exact HO656.out) hb); have n2_ := Aside0.mk (Kd.R_below (by (with_reducible repeat (first | apply Kd.R_alloc | apply Kd.R_drewN | apply Kd.R_drew)); exact HO659.out) hb); have n3_ := Aside0.mk (Kd.R_below (by (with_reducible repeat (first | apply Kd.R_alloc | apply Kd.R_drewN | apply Kd.R_drew)); exact HO665.out) hb); have n4_ := Aside0.mk (Kd.R_below (by (with_reducible repeat (first | apply Kd.R_alloc | apply Kd.R_drewN | apply Kd.R_drew)); exact HO668.out) hb); have n5_ := Aside0.mk (Kd.S_elder' (by (with_reducible repeat (first | apply Kd.S_alloc | apply Kd.S_drewN | apply Kd.S_drew)); exact HO675.out) (Kd.S_base ho0) hb); have n6_ := Aside0.mk (Kd.S_lower (Kd.S_newB (Kd.S_newB (Kd.S_new' (Kd.S_new' (Kd.S_new' (Kd.S_new' (Kd.S_new' ho0 (Kd.R_lt (by (with_reducible repeat (first | apply Kd.R_alloc | apply Kd.R_drewN | apply Kd.R_drew)); exact HO656.out))) (Kd.R_lt (by (with_reducible repeat (first | apply Kd.R_alloc | apply Kd.R_drewN | apply Kd.R_drew)); exact HO659.out))) (Kd.R_lt (by (with_reducible repeat (first | apply Kd.R_alloc | apply Kd.R_drewN | apply Kd.R_drew)); exact HO665.out))) (Kd.R_lt (by (with_reducible repeat (first | apply Kd.R_alloc | apply Kd.R_drewN | apply Kd.R_drew)); exact HO668.out))) (Kd.S_lt (by (with_reducible repeat (first | apply Kd.S_alloc | apply Kd.S_drewN | apply Kd.S_drew)); exact HO675.out))) (g := gb662) (o := .cells #[.slice Ao48 t654.length co48, .slice Ao50 t657.length co50] 29 (0, 0)) (by (with_reducible repeat (first | refine blk_drewN ?_ _ | refine blk_drew ?_ | refine blk_alloc ?_ _)); exact BK662.out)) (g := gb671) (o := .cells #[.slice Ao53 t663.length co53, .slice Ao56 t666.length co56] 29 (0, 0)) (by (with_reducible repeat (first | refine blk_drewN ?_ _ | refine blk_drew ?_ | refine blk_alloc ?_ _)); exact BK671.out)) (below_size (by repeat (first | (with_reducible first | exact HB.out | apply below_alloc | apply pw_below_drewN | apply below_drew1 | refine below_set ?_ GE662.out | refine below_set ?_ GE671.out) | exact HB.out)))); have n7_ := Aside0.mk (blk_below (g := gb662) (o := .cells #[.slice Ao48 t654.length co48, .slice Ao50 t657.length co50] 29 (0, 0)) (by (with_reducible repeat (first | refine blk_drewN ?_ _ | refine blk_drew ?_ | refine blk_alloc ?_ _)); exact BK662.out) hb); have n8_ := Aside0.mk (blk_below (g := gb671) (o := .cells #[.slice Ao53 t663.length co53, .slice Ao56 t666.length co56] 29 (0, 0)) (by (with_reducible repeat (first | refine blk_drewN ?_ _ | refine blk_drew ?_ | refine blk_alloc ?_ _)); exact BK671.out) hb); have n9_ := Aside0.mk (below_step (by repeat (first | (with_reducible first | exact HB.out | apply below_alloc | apply pw_below_drewN | apply below_drew1 | refine below_set ?_ GE662.out | refine below_set ?_ GE671.out) | exact HB.out)) hb); clear HO653; clear HO656; clear HO659; clear HO665; clear HO668; clear HO675; clear BK662; clear BK671; clear HB; have HO653 := n0_; have HO656 := n1_; have HO659 := n2_; have HO665 := n3_; have HO668 := n4_; have HO675 := n5_; have HO679 := n6_; have BK662 := n7_; have BK671 := n8_; have HB := n9_; clear n0_ n1_ n2_ n3_ n4_ n5_ n6_ n7_ n8_ n9_; (try clear hb); (try clear hb2); (try clear hk); (try clear hi); (try clear ho0); have hcz59_0 : w58.cell? ⟨gb662, 0, none⟩ = some (.slice Ao48 t654.length co48) := (blk_cell BK662.out 0).trans rfl; have hcz59_1 : w58.cell? ⟨gb662, 1, none⟩ = some (.slice Ao50 t657.length co50) := (blk_cell BK662.out 1).trans rfl; have hfz59_0 := blk_frozen BK662.out 0; have hfz59_1 := blk_frozen BK662.out 1; have hcz60_0 : w58.cell? ⟨gb671, 0, none⟩ = some (.slice Ao53 t663.length co53) := (blk_cell BK671.out 0).trans rfl; have hcz60_1 : w58.cell? ⟨gb671, 1, none⟩ = some (.slice Ao56 t666.length co56) := (blk_cell BK671.out 1).trans rfl; have hfz60_0 := blk_frozen BK671.out 0; have hfz60_1 := blk_frozen BK671.out 1) | (go_at_call 30; (with_reducible refine (windroseref02_Same.calls k _ _ t654 _ _ t657 _ _ t663 _ _ t666 true _ ?side1 ?side2 ?side3 ?side4 ?side5 ?side6 ?side7 ?side8 A12.out).mono ?_); (case side1 => repeat (first | exact (Kd.R_reads' HO656.out).2.2 | (with_reducible refine Kd.C_alloc ?_ _) | (with_reducible refine Kd.C_drewN ?_ _) | (with_reducible refine Kd.C_drew ?_))); (case side2 => exact (Kd.R_reads' HO656.out).2.1); (case side3 => repeat (first | exact (Kd.R_reads' HO659.out).2.2 | (with_reducible refine Kd.C_alloc ?_ _) | (with_reducible refine Kd.C_drewN ?_ _) | (with_reducible refine Kd.C_drew ?_))); (case side4 => exact (Kd.R_reads' HO659.out).2.1); (case side5 => repeat (first | exact (Kd.R_reads' HO665.out).2.2 | (with_reducible refine Kd.C_alloc ?_ _) | (with_reducible refine Kd.C_drewN ?_ _) | (with_reducible refine Kd.C_drew ?_))); (case side6 => exact (Kd.R_reads' HO665.out).2.1); (case side7 => repeat (first | exact (Kd.R_reads' HO668.out).2.2 | (with_reducible refine Kd.C_alloc ?_ _) | (with_reducible refine Kd.C_drewN ?_ _) | (with_reducible refine Kd.C_drew ?_))); (case side8 => exact (Kd.R_reads' HO668.out).2.1); rintro e w61 ⟨rfl, hb⟩; have n0_ := Aside0.mk (Kd.R_below (by (with_reducible repeat (first | apply Kd.R_alloc | apply Kd.R_drewN | apply Kd.R_drew)); exact HO653.out) hb); have n1_ := Aside0.mk (Kd.R_below (by (with_reducible repeat (first | apply Kd.R_alloc | apply Kd.R_drewN | apply Kd.R_drew)); exact HO656.out) hb); have n2_ := Aside0.mk (Kd.R_below (by (with_reducible repeat (first | apply Kd.R_alloc | apply Kd.R_drewN | apply Kd.R_drew)); exact HO659.out) hb); have n3_ := Aside0.mk (Kd.R_below (by (with_reducible repeat (first | apply Kd.R_alloc | apply Kd.R_drewN | apply Kd.R_drew)); exact HO665.out) hb); have n4_ := Aside0.mk (Kd.R_below (by (with_reducible repeat (first | apply Kd.R_alloc | apply Kd.R_drewN | apply Kd.R_drew)); exact HO668.out) hb); have n5_ := Aside0.mk (Kd.S_below (by (with_reducible repeat (first | apply Kd.S_alloc | apply Kd.S_drewN | apply Kd.S_drew)); exact HO675.out) hb); have n6_ := Aside0.mk (Kd.S_below (by (with_reducible repeat (first | apply Kd.S_alloc | apply Kd.S_drewN | apply Kd.S_drew)); exact HO679.out) hb); have n7_ := Aside0.mk (blk_below (g := gb662) (o := .cells #[.slice Ao48 t654.length co48, .slice Ao50 t657.length co50] 29 (0, 0)) (by (with_reducible repeat (first | refine blk_drewN ?_ _ | refine blk_drew ?_ | refine blk_alloc ?_ _)); exact BK662.out) hb); have n8_ := Aside0.mk (blk_below (g := gb671) (o := .cells #[.slice Ao53 t663.length co53, .slice Ao56 t666.length co56] 29 (0, 0)) (by (with_reducible repeat (first | refine blk_drewN ?_ _ | refine blk_drew ?_ | refine blk_alloc ?_ _)); exact BK671.out) hb); have n9_ := Aside0.mk (below_step (by repeat (first | (with_reducible first | exact HB.out | apply below_alloc | apply pw_below_drewN | apply below_drew1 | refine below_set ?_ GE662.out | refine below_set ?_ GE671.out) | exact HB.out)) hb); clear HO653; clear HO656; clear HO659; clear HO665; clear HO668; clear HO675; clear HO679; clear BK662; clear BK671; clear HB; have HO653 := n0_; have HO656 := n1_; have HO659 := n2_; have HO665 := n3_; have HO668 := n4_; have HO675 := n5_; have HO679 := n6_; have BK662 := n7_; have BK671 := n8_; have HB := n9_; clear n0_ n1_ n2_ n3_ n4_ n5_ n6_ n7_ n8_ n9_; (try clear hb); (try clear hb2); (try clear hk); (try clear hi); obtain ⟨Ao62, co62, eo62⟩ := Kd.S_slice HO675.out; subst eo62; obtain ⟨Ao63, co63, eo63⟩ := Kd.S_slice HO679.out; subst eo63) | (go_at_call 43; (with_reducible refine (windroseref02_List.calls k _ _ t672 _ _ t676 false _ ?side1 ?side2 ?side3 ?side4 A15.out).mono ?_); (case side1 => repeat (first | exact (Kd.S_reads' HO675.out).2.2 | (with_reducible refine Kd.C_alloc ?_ _) | (with_reducible refine Kd.C_drewN ?_ _) | (with_reducible refine Kd.C_drew ?_))); (case side2 => exact (Kd.S_reads' HO675.out).2.1); (case side3 => repeat (first | exact (Kd.S_reads' HO679.out).2.2 | (with_reducible refine Kd.C_alloc ?_ _) | (with_reducible refine Kd.C_drewN ?_ _) | (with_reducible refine Kd.C_drew ?_))); (case side4 => exact (Kd.S_reads' HO679.out).2.1); rintro e w64 ⟨rfl, hb⟩; have n0_ := Aside0.mk (Kd.R_below (by (with_reducible repeat (first | apply Kd.R_alloc | apply Kd.R_drewN | apply Kd.R_drew)); exact HO653.out) hb); have n1_ := Aside0.mk (Kd.R_below (by (with_reducible repeat (first | apply Kd.R_alloc | apply Kd.R_drewN | apply Kd.R_drew)); exact HO656.out) hb); have n2_ := Aside0.mk (Kd.R_below (by (with_reducible repeat (first | apply Kd.R_alloc | apply Kd.R_drewN | apply Kd.R_drew)); exact HO659.out) hb); have n3_ := Aside0.mk (Kd.R_below (by (with_reducible repeat (first | apply Kd.R_alloc | apply Kd.R_drewN | apply Kd.R_drew)); exact HO665.out) hb); have n4_ := Aside0.mk (Kd.R_below (by (with_reducible repeat (first | apply Kd.R_alloc | apply Kd.R_drewN | apply Kd.R_drew)); exact HO668.out) hb); have n5_ := Aside0.mk (Kd.S_below (by (with_reducible repeat (first | apply Kd.S_alloc | apply Kd.S_drewN | apply Kd.S_drew)); exact HO675.out) hb); have n6_ := Aside0.mk (Kd.S_below (by (with_reducible repeat (first | apply Kd.S_alloc | apply Kd.S_drewN | apply Kd.S_drew)); exact HO679.out) hb); have n7_ := Aside0.mk (blk_below (g := gb662) (o := .cells #[.slice Ao48 t654.length co48, .slice Ao50 t657.length co50] 29 (0, 0)) (by (with_reducible repeat (first | refine blk_drewN ?_ _ | refine blk_drew ?_ | refine blk_alloc ?_ _)); exact BK662.out) hb); have n8_ := Aside0.mk (blk_below (g := gb671) (o := .cells #[.slice Ao53 t663.length co53, .slice Ao56 t666.length co56] 29 (0, 0)) (by (with_reducible repeat (first | refine blk_drewN ?_ _ | refine blk_drew ?_ | refine blk_alloc ?_ _)); exact BK671.out) hb); have n9_ := Aside0.mk (below_step (by repeat (first | (with_reducible first | exact HB.out | apply below_alloc | apply pw_below_drewN | apply below_drew1 | refine below_set ?_ GE662.out | refine below_set ?_ GE671.out) | exact HB.out)) hb); clear HO653; clear HO656; clear HO659; clear HO665; clear HO668; clear HO675; clear HO679; clear BK662; clear BK671; clear HB; have HO653 := n0_; have HO656 := n1_; have HO659 := n2_; have HO665 := n3_; have HO668 := n4_; have HO675 := n5_; have HO679 := n6_; have BK662 := n7_; have BK671 := n8_; have HB := n9_; clear n0_ n1_ n2_ n3_ n4_ n5_ n6_ n7_ n8_ n9_; (try clear hb); (try clear hb2); (try clear hk); (try clear hi)))
                go_ret
                exact ⟨by first | rfl | (simp [errW_none, errW_some] <;> rfl) | (simp [*, errW_none, errW_some] <;> rfl), by repeat (first | (with_reducible first | exact HB.out | apply below_alloc | apply pw_below_drewN | apply below_drew1 | refine below_set ?_ GE662.out | refine below_set ?_ GE671.out) | exact HB.out)⟩
            · rw [if_neg c14] at H
              have c14b0 : (t673 == t677) = false := beq_eq_false_iff_ne.mpr c14
              have c14b1 : (t673 != t677) = true := bne_iff_ne.mpr c14
              obtain rfl := Option.some.inj H
              go_enter Try.func10, Try.ntmps10
              go_wp2_with (first | ((with_reducible refine gate_dst (N := 18) rfl ?_); refine Kd.R_lit (Kd.int .u8) _ 5 ?hg (N := 18) ?hd (xs := ([] : List Int)) (inner := []) (ok := fun _ => True) (okp := fun _ => True) ?hr ?hp (fun _ hk => hk) trivial (Below.refl _ _) (Nat.le_refl _) (by simp) ?_; (case hd => rfl); (case hg => rfl); (case hr => first | (go_simp; done) | (go_simp; rfl)); (case hp => exact (Reps.none _ _)); intro v649 w65 ho66 hb hg_ hnew_; clear hg_ hnew_; (first | rw [← Ny648.out] at ho66 | (simp only [Int.reduceToNat] at ho66; rw [← Ny648.out] at ho66)); have n0_ := Aside0.mk (Kd.R_lower ho66 (below_size (by repeat (first | (with_reducible first | exact HB.out | apply below_alloc | apply pw_below_drewN | apply below_drew1) | exact HB.out)))); have n1_ := Aside0.mk (below_step (by repeat (first | (with_reducible first | exact HB.out | apply below_alloc | apply pw_below_drewN | apply below_drew1) | exact HB.out)) hb); clear HB; have HO650 := n0_; have HB := n1_; clear n0_ n1_; clear hb ho66) | ((with_reducible refine gate_builtin (b := .append) (xs := #[.tmp 18, .tmp 19]) rfl ?_); at_builtin; refine Kd.R_append_rows (Kd.int .u8) (w0 := w) w.heap.size rfl (.tmp 18) (.tmp 19) 22 5 (.int .u8 0) 1 rfl Try.underlying22 info5 rfl (by decide) (by omega) v649 y648 l0 _ _ _ (fun _ => True) (fun _ => False) rfl rfl ?aO ?aR (fun _ _ h => h) (fun _ h => h.elim) ?aF ?aB ?aS ?aL ?_; (case aR => repeat (first | exact (Kd.C_below HR0.out HB.out) | (with_reducible refine Kd.C_alloc ?_ _) | (with_reducible refine Kd.C_drewN ?_ _) | (with_reducible refine Kd.C_drew ?_))); (case aB => exact (by repeat (first | (with_reducible first | exact HB.out | apply below_alloc | apply pw_below_drewN | apply below_drew1) | exact HB.out))); (case aF => exact (fun _ _ => trivial)); (case aO => exact (by (with_reducible repeat (first | apply Kd.R_alloc | apply Kd.R_drewN | apply Kd.R_drew)); exact HO650.out)); (case aS => exact (below_size (by repeat (first | (with_reducible first | exact HB.out | apply below_alloc | apply pw_below_drewN | apply below_drew1) | exact HB.out)))); (case aL => have := LMc5.out; omega); intro v652 w67 ho hb hg hat; rw [← Ny651.out] at ho; have n0_ := Aside0.mk (hb); have n1_ := Aside0.mk (ho); clear HB; clear HO650; have HB := n0_; have HO653 := n1_; clear n0_ n1_; clear ho hb hg hat; obtain ⟨Ao68, co68, eo68⟩ := Kd.R_slice HO653.out; subst eo68) | ((with_reducible refine gate_callee (f := 39) rfl ?_); refine goesL_ (some 21) rfl rfl Try.func39 (by kernel_rfl) rfl #[.slice Ao68 y651.length co68] rfl (by (try simp only [List.map_toArray, List.map_cons, List.map_nil]); first | done | rfl | (simp only [List.length_drop, List.length_take]; rfl)) ?_; (with_reducible refine (frame_First.calls k _ _ y651 t654 t657 t660 t661 _ ?side1 ?side2 A6.out).mono ?_); (case side1 => repeat (first | exact (Kd.R_reads' HO653.out).2.2 | (with_reducible refine Kd.C_alloc ?_ _) | (with_reducible refine Kd.C_drewN ?_ _) | (with_reducible refine Kd.C_drew ?_))); (case side2 => exact (Kd.R_reads' HO653.out).2.1); rintro e w69 ⟨v655, v658, rfl, ho0, ho1, hb⟩; refine ⟨_, rfl, ?_⟩; have n0_ := Aside0.mk (Kd.R_below (by (with_reducible repeat (first | apply Kd.R_alloc | apply Kd.R_drewN | apply Kd.R_drew)); exact HO653.out) hb); have n1_ := Aside0.mk (Kd.R_lower ho0 (below_size (by repeat (first | (with_reducible first | exact HB.out | apply below_alloc | apply pw_below_drewN | apply below_drew1) | exact HB.out)))); have n2_ := Aside0.mk (Kd.R_lower ho1 (below_size (by repeat (first | (with_reducible first | exact HB.out | apply below_alloc | apply pw_below_drewN | apply below_drew1) | exact HB.out)))); have n3_ := Aside0.mk (below_step (by repeat (first | (with_reducible first | exact HB.out | apply below_alloc | apply pw_below_drewN | apply below_drew1) | exact HB.out)) hb); clear HO653; clear HB; have HO653 := n0_; have HO656 := n1_; have HO659 := n2_; have HB := n3_; clear n0_ n1_ n2_ n3_; (try clear hb); (try clear hb2); (try clear hk); (try clear hi); (try clear ho0); (try clear ho1)) | ((with_reducible refine gate_dst (N := 3) rfl ?_); refine box_event ?hg (N := 3) ?hd (cs := #[.slice none 0 0, .slice none 0 0]) (t := 29) ?hr ?_; (case hd => rfl); (case hg => rfl); (case hr => first | (go_simp; done) | (go_simp; rfl)); intro gb662 hg w70 hbox hb; have n0_ := Aside0.mk (Kd.R_below (by (with_reducible repeat (first | apply Kd.R_alloc | apply Kd.R_drewN | apply Kd.R_drew)); exact HO653.out) hb); have n1_ := Aside0.mk (Kd.R_below (by (with_reducible repeat (first | apply Kd.R_alloc | apply Kd.R_drewN | apply Kd.R_drew)); exact HO656.out) hb); have n2_ := Aside0.mk (Kd.R_below (by (with_reducible repeat (first | apply Kd.R_alloc | apply Kd.R_drewN | apply Kd.R_drew)); exact HO659.out) hb); have n3_ := Aside0.mk (below_step (by repeat (first | (with_reducible first | exact HB.out | apply below_alloc | apply pw_below_drewN | apply below_drew1) | exact HB.out)) hb); have n4_ := Aside0.mk (hbox); have n5_ := Aside0.mk ((by rw [hg]; exact (below_size (by repeat (first | (with_reducible first | exact HB.out | apply below_alloc | apply pw_below_drewN | apply below_drew1) | exact HB.out))) : w.heap.size ≤ gb662)); have n6_ := Aside0.mk ((by rw [hg]; exact (below_size (by repeat (first | (with_reducible first | exact HB.out | apply below_alloc | apply pw_below_drewN | apply below_drew1) | exact HB.out))) : w.heap.size ≤ gb662)); clear HO653; clear HO656; clear HO659; clear HB; have HO653 := n0_; have HO656 := n1_; have HO659 := n2_; have HB := n3_; have BK662 := n4_; have GW662 := n5_; have GE662 := n6_; clear n0_ n1_ n2_ n3_ n4_ n5_ n6_; clear hb hbox hg; obtain ⟨Ao71, co71, eo71⟩ := Kd.R_slice HO656.out; subst eo71; have hcz72_0 : w70.cell? ⟨gb662, 0, none⟩ = some (.slice none 0 0) := (blk_cell BK662.out 0).trans rfl; have hcz72_1 : w70.cell? ⟨gb662, 1, none⟩ = some (.slice none 0 0) := (blk_cell BK662.out 1).trans rfl; have hfz72_0 := blk_frozen BK662.out 0; have hfz72_1 := blk_frozen BK662.out 1; obtain ⟨Ao73, co73, eo73⟩ := Kd.R_slice HO659.out; subst eo73) | ((with_reducible refine gate_callee (f := 40) rfl ?_); refine goesL_ (some 27) rfl rfl Try.func40 (by kernel_rfl) rfl #[.slice A0 l0.length c0] rfl (by (try simp only [List.map_toArray, List.map_cons, List.map_nil]); first | done | rfl | (simp only [List.length_drop, List.length_take]; rfl)) ?_; (with_reducible refine (windroseref02_First.calls k _ _ l0 t663 t666 t669 t670 _ ?side1 ?side2 A7.out).mono ?_); (case side1 => exact Kd.C_below HR0.out (by repeat (first | (with_reducible first | exact HB.out | apply below_alloc | apply pw_below_drewN | apply below_drew1 | refine below_set ?_ GE662.out) | exact HB.out))); (case side2 => exact HC0.out); rintro e w74 ⟨v664, v667, rfl, ho0, ho1, hb⟩; refine ⟨_, rfl, ?_⟩; have n0_ := Aside0.mk (Kd.R_below (by (with_reducible repeat (first | apply Kd.R_alloc | apply Kd.R_drewN | apply Kd.R_drew)); exact (Kd.R_mono (Kd.R_far (p := ⟨gb662, 1, none⟩) (Kd.R_far (p := ⟨gb662, 0, none⟩) (Kd.R_types HO653.out BK662.out (by decide)) (fun _ hk => hk.2) (.slice Ao71 t654.length co71)) (fun _ hk => hk.2) (.slice Ao73 t657.length co73)) (fun _ h_ => h_.1))) hb); have n1_ := Aside0.mk (Kd.R_elder' (by (with_reducible repeat (first | apply Kd.R_alloc | apply Kd.R_drewN | apply Kd.R_drew)); exact (Kd.R_mono (Kd.R_far (p := ⟨gb662, 1, none⟩) (Kd.R_far (p := ⟨gb662, 0, none⟩) (Kd.R_types HO656.out BK662.out (by decide)) (fun _ hk => hk.2) (.slice Ao71 t654.length co71)) (fun _ hk => hk.2) (.slice Ao73 t657.length co73)) (fun _ h_ => h_.1))) (Kd.R_base ho0) hb); have n2_ := Aside0.mk (Kd.R_elder' (by (with_reducible repeat (first | apply Kd.R_alloc | apply Kd.R_drewN | apply Kd.R_drew)); exact (Kd.R_mono (Kd.R_far (p := ⟨gb662, 1, none⟩) (Kd.R_far (p := ⟨gb662, 0, none⟩) (Kd.R_types HO659.out BK662.out (by decide)) (fun _ hk => hk.2) (.slice Ao71 t654.length co71)) (fun _ hk => hk.2) (.slice Ao73 t657.length co73)) (fun _ h_ => h_.1))) (Kd.R_base ho1) hb); have n3_ := Aside0.mk (Kd.R_lower (Kd.R_new' ho0 (Kd.R_lt (by (with_reducible repeat (first | apply Kd.R_alloc | apply Kd.R_drewN | apply Kd.R_drew)); exact (Kd.R_mono (Kd.R_far (p := ⟨gb662, 1, none⟩) (Kd.R_far (p := ⟨gb662, 0, none⟩) (Kd.R_types HO656.out BK662.out (by decide)) (fun _ hk => hk.2) (.slice Ao71 t654.length co71)) (fun _ hk => hk.2) (.slice Ao73 t657.length co73)) (fun _ h_ => h_.1))))) (below_size (by repeat (first | (with_reducible first | exact HB.out | apply below_alloc | apply pw_below_drewN | apply below_drew1 | refine below_set ?_ GE662.out) | exact HB.out)))); have n4_ := Aside0.mk (Kd.R_lower (Kd.R_new' ho1 (Kd.R_lt (by (with_reducible repeat (first | apply Kd.R_alloc | apply Kd.R_drewN | apply Kd.R_drew)); exact (Kd.R_mono (Kd.R_far (p := ⟨gb662, 1, none⟩) (Kd.R_far (p := ⟨gb662, 0, none⟩) (Kd.R_types HO659.out BK662.out (by decide)) (fun _ hk => hk.2) (.slice Ao71 t654.length co71)) (fun _ hk => hk.2) (.slice Ao73 t657.length co73)) (fun _ h_ => h_.1))))) (below_size (by repeat (first | (with_reducible first | exact HB.out | apply below_alloc | apply pw_below_drewN | apply below_drew1 | refine below_set ?_ GE662.out) | exact HB.out)))); have n5_ := Aside0.mk (blk_below (g := gb662) (o := .cells #[.slice Ao71 t654.length co71, .slice Ao73 t657.length co73] 29 (0, 0)) (by (with_reducible repeat (first | refine blk_drewN ?_ _ | refine blk_drew ?_ | refine blk_alloc ?_ _)); refine blk_put (cs := #[.slice Ao71 t654.length co71, .slice none 0 0]) ?_ 1 _ rfl; (with_reducible repeat (first | refine blk_drewN ?_ _ | refine blk_drew ?_ | refine blk_alloc ?_ _)); refine blk_put (cs := #[.slice none 0 0, .slice none 0 0]) ?_ 0 _ rfl; (with_reducible repeat (first | refine blk_drewN ?_ _ | refine blk_drew ?_ | refine blk_alloc ?_ _)); exact BK662.out) hb); have n6_ := Aside0.mk (below_step (by repeat (first | (with_reducible first | exact HB.out | apply below_alloc | apply pw_below_drewN | apply below_drew1 | refine below_set ?_ GE662.out) | exact HB.out)) hb); clear HO653; clear HO656; clear HO659; clear BK662; clear HB; have HO653 := n0_; have HO656 := n1_; have HO659 := n2_; have HO665 := n3_; have HO668 := n4_; have BK662 := n5_; have HB := n6_; clear n0_ n1_ n2_ n3_ n4_ n5_ n6_; (try clear hb); (try clear hb2); (try clear hk); (try clear hi); (try clear ho0); (try clear ho1)) | ((with_reducible refine gate_dst (N := 6) rfl ?_); refine box_event ?hg (N := 6) ?hd (cs := #[.slice none 0 0, .slice none 0 0]) (t := 29) ?hr ?_; (case hd => rfl); (case hg => rfl); (case hr => first | (go_simp; done) | (go_simp; rfl)); intro gb671 hg w75 hbox hb; have n0_ := Aside0.mk (Kd.R_below (by (with_reducible repeat (first | apply Kd.R_alloc | apply Kd.R_drewN | apply Kd.R_drew)); exact HO653.out) hb); have n1_ := Aside0.mk (Kd.R_below (by (with_reducible repeat (first | apply Kd.R_alloc | apply Kd.R_drewN | apply Kd.R_drew)); exact HO656.out) hb); have n2_ := Aside0.mk (Kd.R_below (by (with_reducible repeat (first | apply Kd.R_alloc | apply Kd.R_drewN | apply Kd.R_drew)); exact HO659.out) hb); have n3_ := Aside0.mk (Kd.R_below (by (with_reducible repeat (first | apply Kd.R_alloc | apply Kd.R_drewN | apply Kd.R_drew)); exact HO665.out) hb); have n4_ := Aside0.mk (Kd.R_below (by (with_reducible repeat (first | apply Kd.R_alloc | apply Kd.R_drewN | apply Kd.R_drew)); exact HO668.out) hb); have n5_ := Aside0.mk (blk_below (g := gb662) (o := .cells #[.slice Ao71 t654.length co71, .slice Ao73 t657.length co73] 29 (0, 0)) (by (with_reducible repeat (first | refine blk_drewN ?_ _ | refine blk_drew ?_ | refine blk_alloc ?_ _)); exact BK662.out) hb); have n6_ := Aside0.mk (below_step (by repeat (first | (with_reducible first | exact HB.out | apply below_alloc | apply pw_below_drewN | apply below_drew1 | refine below_set ?_ GE662.out) | exact HB.out)) hb); have n7_ := Aside0.mk (hbox); have n8_ := Aside0.mk ((by rw [hg]; exact (below_size (by repeat (first | (with_reducible first | exact HB.out | apply below_alloc | apply pw_below_drewN | apply below_drew1 | refine below_set ?_ GE662.out) | exact HB.out))) : w.heap.size ≤ gb671)); have n9_ := Aside0.mk ((by rw [hg]; exact (below_size (by repeat (first | (with_reducible first | exact HB.out | apply below_alloc | apply pw_below_drewN | apply below_drew1 | refine below_set ?_ GE662.out) | exact HB.out))) : w.heap.size ≤ gb671)); have n10_ := Aside0.mk ((by rw [hg]; exact Nat.ne_of_lt (blk_lt (g := gb662) (o := .cells #[.slice Ao71 t654.length co71, .slice Ao73 t657.length co73] 29 (0, 0)) (by (with_reducible repeat (first | refine blk_drewN ?_ _ | refine blk_drew ?_ | refine blk_alloc ?_ _)); exact BK662.out)) : gb662 ≠ gb671)); have n11_ := Aside0.mk ((by rw [hg]; exact Nat.ne_of_gt (blk_lt (g := gb662) (o := .cells #[.slice Ao71 t654.length co71, .slice Ao73 t657.length co73] 29 (0, 0)) (by (with_reducible repeat (first | refine blk_drewN ?_ _ | refine blk_drew ?_ | refine blk_alloc ?_ _)); exact BK662.out)) : gb671 ≠ gb662)); clear HO653; clear HO656; clear HO659; clear HO665; clear HO668; clear BK662; clear HB; have HO653 := n0_; have HO656 := n1_; have HO659 := n2_; have HO665 := n3_; have HO668 := n4_; have BK662 := n5_; have HB := n6_; have BK671 := n7_; have GW671 := n8_; have GE671 := n9_; have NB662_671 := n10_; have NB671_662 := n11_; clear n0_ n1_ n2_ n3_ n4_ n5_ n6_ n7_ n8_ n9_ n10_ n11_; clear hb hbox hg; obtain ⟨Ao76, co76, eo76⟩ := Kd.R_slice HO665.out; subst eo76; have hnb77 := NB671_662.out; have hnc77 := NB662_671.out; have hcz78_0 : w75.cell? ⟨gb671, 0, none⟩ = some (.slice none 0 0) := (blk_cell BK671.out 0).trans rfl; have hcz78_1 : w75.cell? ⟨gb671, 1, none⟩ = some (.slice none 0 0) := (blk_cell BK671.out 1).trans rfl; have hfz78_0 := blk_frozen BK671.out 0; have hfz78_1 := blk_frozen BK671.out 1; obtain ⟨Ao79, co79, eo79⟩ := Kd.R_slice HO668.out; subst eo79) | ((with_reducible refine gate_callee (f := 41) rfl ?_); refine goesL_ (some 33) rfl rfl Try.func41 (by kernel_rfl) rfl #[.slice A0 l0.length c0] rfl (by (try simp only [List.map_toArray, List.map_cons, List.map_nil]); first | done | rfl | (simp only [List.length_drop, List.length_take]; rfl)) ?_; (with_reducible refine (frame_Row.calls k _ _ l0 t672 t673 _ ?side1 ?side2 A8.out).mono ?_); (case side1 => exact Kd.C_below HR0.out (by repeat (first | (with_reducible first | exact HB.out | apply below_alloc | apply pw_below_drewN | apply below_drew1 | refine below_set ?_ GE662.out | refine below_set ?_ GE671.out) | exact HB.out))); (case side2 => exact HC0.out); rintro e w80 ⟨v674, rfl, ho0, hb⟩; refine ⟨_, rfl, ?_⟩; have n0_ := Aside0.mk (Kd.R_below (by (with_reducible repeat (first | apply Kd.R_alloc | apply Kd.R_drewN | apply Kd.R_drew)); exact (Kd.R_mono (Kd.R_far (p := ⟨gb671, 1, none⟩) (Kd.R_far (p := ⟨gb671, 0, none⟩) (Kd.R_types HO653.out BK671.out (by decide)) (fun _ hk => hk.2) (.slice Ao76 t663.length co76)) (fun _ hk => hk.2) (.slice Ao79 t666.length co79)) (fun _ h_ => h_.1))) hb); have n1_ := Aside0.mk (Kd.R_below (by (with_reducible repeat (first | apply Kd.R_alloc | apply Kd.R_drewN | apply Kd.R_drew)); exact (Kd.R_mono (Kd.R_far (p := ⟨gb671, 1, none⟩) (Kd.R_far (p := ⟨gb671, 0, none⟩) (Kd.R_types HO656.out BK671.out (by decide)) (fun _ hk => hk.2) (.slice Ao76 t663.length co76)) (fun _ hk => hk.2) (.slice Ao79 t666.length co79)) (fun _ h_ => h_.1))) hb); have n2_ := Aside0.mk (Kd.R_below (by (with_reducible repeat (first | apply Kd.R_alloc | apply Kd.R_drewN | apply Kd.R_drew)); exact (Kd.R_mono (Kd.R_far (p := ⟨gb671, 1, none⟩) (Kd.R_far (p := ⟨gb671, 0, none⟩) (Kd.R_types HO659.out BK671.out (by decide)) (fun _ hk => hk.2) (.slice Ao76 t663.length co76)) (fun _ hk => hk.2) (.slice Ao79 t666.length co79)) (fun _ h_ => h_.1))) hb); have n3_ := Aside0.mk (Kd.R_below (by (with_reducible repeat (first | apply Kd.R_alloc | apply Kd.R_drewN | apply Kd.R_drew)); exact (Kd.R_mono (Kd.R_far (p := ⟨gb671, 1, none⟩) (Kd.R_far (p := ⟨gb671, 0, none⟩) (Kd.R_types HO665.out BK671.out (by decide)) (fun _ hk => hk.2) (.slice Ao76 t663.length co76)) (fun _ hk => hk.2) (.slice Ao79 t666.length co79)) (fun _ h_ => h_.1))) hb); have n4_ := Aside0.mk (Kd.R_below (by (with_reducible repeat (first | apply Kd.R_alloc | apply Kd.R_drewN | apply Kd.R_drew)); exact (Kd.R_mono (Kd.R_far (p := ⟨gb671, 1, none⟩) (Kd.R_far (p := ⟨gb671, 0, none⟩) (Kd.R_types HO668.out BK671.out (by decide)) (fun _ hk => hk.2) (.slice Ao76 t663.length co76)) (fun _ hk => hk.2) (.slice Ao79 t666.length co79)) (fun _ h_ => h_.1))) hb); have n5_ := Aside0.mk (Kd.S_lower (Kd.S_newB (Kd.S_newB (Kd.S_new' (Kd.S_new' (Kd.S_new' (Kd.S_new' ho0 (Kd.R_lt (by (with_reducible repeat (first | apply Kd.R_alloc | apply Kd.R_drewN | apply Kd.R_drew)); exact (Kd.R_mono (Kd.R_far (p := ⟨gb671, 1, none⟩) (Kd.R_far (p := ⟨gb671, 0, none⟩) (Kd.R_types HO656.out BK671.out (by decide)) (fun _ hk => hk.2) (.slice Ao76 t663.length co76)) (fun _ hk => hk.2) (.slice Ao79 t666.length co79)) (fun _ h_ => h_.1))))) (Kd.R_lt (by (with_reducible repeat (first | apply Kd.R_alloc | apply Kd.R_drewN | apply Kd.R_drew)); exact (Kd.R_mono (Kd.R_far (p := ⟨gb671, 1, none⟩) (Kd.R_far (p := ⟨gb671, 0, none⟩) (Kd.R_types HO659.out BK671.out (by decide)) (fun _ hk => hk.2) (.slice Ao76 t663.length co76)) (fun _ hk => hk.2) (.slice Ao79 t666.length co79)) (fun _ h_ => h_.1))))) (Kd.R_lt (by (with_reducible repeat (first | apply Kd.R_alloc | apply Kd.R_drewN | apply Kd.R_drew)); exact (Kd.R_mono (Kd.R_far (p := ⟨gb671, 1, none⟩) (Kd.R_far (p := ⟨gb671, 0, none⟩) (Kd.R_types HO665.out BK671.out (by decide)) (fun _ hk => hk.2) (.slice Ao76 t663.length co76)) (fun _ hk => hk.2) (.slice Ao79 t666.length co79)) (fun _ h_ => h_.1))))) (Kd.R_lt (by (with_reducible repeat (first | apply Kd.R_alloc | apply Kd.R_drewN | apply Kd.R_drew)); exact (Kd.R_mono (Kd.R_far (p := ⟨gb671, 1, none⟩) (Kd.R_far (p := ⟨gb671, 0, none⟩) (Kd.R_types HO668.out BK671.out (by decide)) (fun _ hk => hk.2) (.slice Ao76 t663.length co76)) (fun _ hk => hk.2) (.slice Ao79 t666.length co79)) (fun _ h_ => h_.1))))) (g := gb662) (o := .cells #[.slice Ao71 t654.length co71, .slice Ao73 t657.length co73] 29 (0, 0)) (by (with_reducible repeat (first | refine blk_drewN ?_ _ | refine blk_drew ?_ | refine blk_alloc ?_ _)); refine blk_far ?_ NB662_671.out _; (with_reducible repeat (first | refine blk_drewN ?_ _ | refine blk_drew ?_ | refine blk_alloc ?_ _)); refine blk_far ?_ NB662_671.out _; (with_reducible repeat (first | refine blk_drewN ?_ _ | refine blk_drew ?_ | refine blk_alloc ?_ _)); exact BK662.out)) (g := gb671) (o := .cells #[.slice Ao76 t663.length co76, .slice Ao79 t666.length co79] 29 (0, 0)) (by (with_reducible repeat (first | refine blk_drewN ?_ _ | refine blk_drew ?_ | refine blk_alloc ?_ _)); refine blk_put (cs := #[.slice Ao76 t663.length co76, .slice none 0 0]) ?_ 1 _ rfl; (with_reducible repeat (first | refine blk_drewN ?_ _ | refine blk_drew ?_ | refine blk_alloc ?_ _)); refine blk_put (cs := #[.slice none 0 0, .slice none 0 0]) ?_ 0 _ rfl; (with_reducible repeat (first | refine blk_drewN ?_ _ | refine blk_drew ?_ | refine blk_alloc ?_ _)); exact BK671.out)) (below_size (by repeat (first | (with_reducible first | exact HB.out | apply below_alloc | apply pw_below_drewN | apply below_drew1 | refine below_set ?_ GE662.out | refine below_set ?_ GE671.out) | exact HB.out)))); have n6_ := Aside0.mk (blk_below (g := gb662) (o := .cells #[.slice Ao71 t654.length co71, .slice Ao73 t657.length co73] 29 (0, 0)) (by (with_reducible repeat (first | refine blk_drewN ?_ _ | refine blk_drew ?_ | refine blk_alloc ?_ _)); refine blk_far ?_ NB662_671.out _; (with_reducible repeat (first | refine blk_drewN ?_ _ | refine blk_drew ?_ | refine blk_alloc ?_ _)); refine blk_far ?_ NB662_671.out _; (with_reducible repeat (first | refine blk_drewN ?_ _ | refine blk_drew ?_ | refine blk_alloc ?_ _)); exact BK662.out) hb); have n7_ := Aside0.mk (blk_below (g := gb671) (o := .cells #[.slice Ao76 t663.length co76, .slice Ao79 t666.length co79] 29 (0, 0)) (by (with_reducible repeat (first | refine blk_drewN ?_ _ | refine blk_drew ?_ | refine blk_alloc ?_ _)); refine blk_put (cs := #[.slice Ao76 t663.length co76, .slice none 0 0]) ?_ 1 _ rfl; (with_reducible repeat (first | refine blk_drewN ?_ _ | refine blk_drew ?_ | refine blk_alloc ?_ _)); refine blk_put (cs := #[.slice none 0 0, .slice none 0 0]) ?_ 0 _ rfl; (with_reducible repeat (first | refine blk_drewN ?_ _ | refine blk_drew ?_ | refine blk_alloc ?_ _)); exact BK671.out) hb); have n8_ := Aside0.mk (below_step (by repeat (first | (with_reducible first | exact HB.out | apply below_alloc | apply pw_below_drewN | apply below_drew1 | refine below_set ?_ GE662.out | refine below_set ?_ GE671.out) | exact HB.out)) hb); clear HO653; clear HO656; clear HO659; clear HO665; clear HO668; clear BK662; clear BK671; clear HB; have HO653 := n0_; have HO656 := n1_; have HO659 := n2_; have HO665 := n3_; have HO668 := n4_; have HO675 := n5_; have BK662 := n6_; have BK671 := n7_; have HB := n8_; clear n0_ n1_ n2_ n3_ n4_ n5_ n6_ n7_ n8_; (try clear hb); (try clear hb2); (try clear hk); (try clear hi); (try clear ho0)) | ((with_reducible refine gate_callee (f := 42) rfl ?_); refine goesL_ (some 38) rfl rfl Try.func42 (by kernel_rfl) rfl #[.slice A0 l0.length c0] rfl (by (try simp only [List.map_toArray, List.map_cons, List.map_nil]); first | done | rfl | (simp only [List.length_drop, List.length_take]; rfl)) ?_; (with_reducible refine (windroseref02_Row.calls k _ _ l0 t676 t677 _ ?side1 ?side2 A9.out).mono ?_); (case side1 => repeat (first | exact (Kd.C_below HR0.out HB.out) | (with_reducible refine Kd.C_alloc ?_ _) | (with_reducible refine Kd.C_drewN ?_ _) | (with_reducible refine Kd.C_drew ?_))); (case side2 => exact HC0.out); rintro e w81 ⟨v678, rfl, ho0, hb⟩; refine ⟨_, rfl, ?_⟩; have n0_ := Aside0.mk (Kd.R_below (by (with_reducible repeat (first | apply Kd.R_alloc | apply Kd.R_drewN | apply Kd.R_drew)); exact HO653.out) hb); have n1_ := Aside0.mk (Kd.R_below (by (with_reducible repeat (first | apply Kd.R_alloc | apply Kd.R_drewN | apply Kd.R_drew)); exact HO656.out) hb); have n2_ := Aside0.mk (Kd.R_below (by (with_reducible repeat (first | apply Kd.R_alloc | apply Kd.R_drewN | apply Kd.R_drew)); exact HO659.out) hb); have n3_ := Aside0.mk (Kd.R_below (by (with_reducible repeat (first | apply Kd.R_alloc | apply Kd.R_drewN | apply Kd.R_drew)); exact HO665.out) hb); have n4_ := Aside0.mk (Kd.R_below (by (with_reducible repeat (first | apply Kd.R_alloc | apply Kd.R_drewN | apply Kd.R_drew)); exact HO668.out) hb); have n5_ := Aside0.mk (Kd.S_elder' (by (with_reducible repeat (first | apply Kd.S_alloc | apply Kd.S_drewN | apply Kd.S_drew)); exact HO675.out) (Kd.S_base ho0) hb); have n6_ := Aside0.mk (Kd.S_lower (Kd.S_newB (Kd.S_newB (Kd.S_new' (Kd.S_new' (Kd.S_new' (Kd.S_new' (Kd.S_new' ho0 (Kd.R_lt (by (with_reducible repeat (first | apply Kd.R_alloc | apply Kd.R_drewN | apply Kd.R_drew)); exact HO656.out))) (Kd.R_lt (by (with_reducible repeat (first | apply Kd.R_alloc | apply Kd.R_drewN | apply Kd.R_drew)); exact HO659.out))) (Kd.R_lt (by (with_reducible repeat (first | apply Kd.R_alloc | apply Kd.R_drewN | apply Kd.R_drew)); exact HO665.out))) (Kd.R_lt (by (with_reducible repeat (first | apply Kd.R_alloc | apply Kd.R_drewN | apply Kd.R_drew)); exact HO668.out))) (Kd.S_lt (by (with_reducible repeat (first | apply Kd.S_alloc | apply Kd.S_drewN | apply Kd.S_drew)); exact HO675.out))) (g := gb662) (o := .cells #[.slice Ao71 t654.length co71, .slice Ao73 t657.length co73] 29 (0, 0)) (by (with_reducible repeat (first | refine blk_drewN ?_ _ | refine blk_drew ?_ | refine blk_alloc ?_ _)); exact BK662.out)) (g := gb671) (o := .cells #[.slice Ao76 t663.length co76, .slice Ao79 t666.length co79] 29 (0, 0)) (by (with_reducible repeat (first | refine blk_drewN ?_ _ | refine blk_drew ?_ | refine blk_alloc ?_ _)); exact BK671.out)) (below_size (by repeat (first | (with_reducible first | exact HB.out | apply below_alloc | apply pw_below_drewN | apply below_drew1 | refine below_set ?_ GE662.out | refine below_set ?_ GE671.out) | exact HB.out)))); have n7_ := Aside0.mk (blk_below (g := gb662) (o := .cells #[.slice Ao71 t654.length co71, .slice Ao73 t657.length co73] 29 (0, 0)) (by (with_reducible repeat (first | refine blk_drewN ?_ _ | refine blk_drew ?_ | refine blk_alloc ?_ _)); exact BK662.out) hb); have n8_ := Aside0.mk (blk_below (g := gb671) (o := .cells #[.slice Ao76 t663.length co76, .slice Ao79 t666.length co79] 29 (0, 0)) (by (with_reducible repeat (first | refine blk_drewN ?_ _ | refine blk_drew ?_ | refine blk_alloc ?_ _)); exact BK671.out) hb); have n9_ := Aside0.mk (below_step (by repeat (first | (with_reducible first | exact HB.out | apply below_alloc | apply pw_below_drewN | apply below_drew1 | refine below_set ?_ GE662.out | refine below_set ?_ GE671.out) | exact HB.out)) hb); clear HO653; clear HO656; clear HO659; clear HO665; clear HO668; clear HO675; clear BK662; clear BK671; clear HB; have HO653 := n0_; have HO656 := n1_; have HO659 := n2_; have HO665 := n3_; have HO668 := n4_; have HO675 := n5_; have HO679 := n6_; have BK662 := n7_; have BK671 := n8_; have HB := n9_; clear n0_ n1_ n2_ n3_ n4_ n5_ n6_ n7_ n8_ n9_; (try clear hb); (try clear hb2); (try clear hk); (try clear hi); (try clear ho0); have hcz82_0 : w81.cell? ⟨gb662, 0, none⟩ = some (.slice Ao71 t654.length co71) := (blk_cell BK662.out 0).trans rfl; have hcz82_1 : w81.cell? ⟨gb662, 1, none⟩ = some (.slice Ao73 t657.length co73) := (blk_cell BK662.out 1).trans rfl; have hfz82_0 := blk_frozen BK662.out 0; have hfz82_1 := blk_frozen BK662.out 1; have hcz83_0 : w81.cell? ⟨gb671, 0, none⟩ = some (.slice Ao76 t663.length co76) := (blk_cell BK671.out 0).trans rfl; have hcz83_1 : w81.cell? ⟨gb671, 1, none⟩ = some (.slice Ao79 t666.length co79) := (blk_cell BK671.out 1).trans rfl; have hfz83_0 := blk_frozen BK671.out 0; have hfz83_1 := blk_frozen BK671.out 1) | (go_at_call 30; (with_reducible refine (windroseref02_Same.calls k _ _ t654 _ _ t657 _ _ t663 _ _ t666 true _ ?side1 ?side2 ?side3 ?side4 ?side5 ?side6 ?side7 ?side8 A12.out).mono ?_); (case side1 => repeat (first | exact (Kd.R_reads' HO656.out).2.2 | (with_reducible refine Kd.C_alloc ?_ _) | (with_reducible refine Kd.C_drewN ?_ _) | (with_reducible refine Kd.C_drew ?_))); (case side2 => exact (Kd.R_reads' HO656.out).2.1); (case side3 => repeat (first | exact (Kd.R_reads' HO659.out).2.2 | (with_reducible refine Kd.C_alloc ?_ _) | (with_reducible refine Kd.C_drewN ?_ _) | (with_reducible refine Kd.C_drew ?_))); (case side4 => exact (Kd.R_reads' HO659.out).2.1); (case side5 => repeat (first | exact (Kd.R_reads' HO665.out).2.2 | (with_reducible refine Kd.C_alloc ?_ _) | (with_reducible refine Kd.C_drewN ?_ _) | (with_reducible refine Kd.C_drew ?_))); (case side6 => exact (Kd.R_reads' HO665.out).2.1); (case side7 => repeat (first | exact (Kd.R_reads' HO668.out).2.2 | (with_reducible refine Kd.C_alloc ?_ _) | (with_reducible refine Kd.C_drewN ?_ _) | (with_reducible refine Kd.C_drew ?_))); (case side8 => exact (Kd.R_reads' HO668.out).2.1); rintro e w84 ⟨rfl, hb⟩; have n0_ := Aside0.mk (Kd.R_below (by (with_reducible repeat (first | apply Kd.R_alloc | apply Kd.R_drewN | apply Kd.R_drew)); exact HO653.out) hb); have n1_ := Aside0.mk (Kd.R_below (by (with_reducible repeat (first | apply Kd.R_alloc | apply Kd.R_drewN | apply Kd.R_drew)); exact HO656.out) hb); have n2_ := Aside0.mk (Kd.R_below (by (with_reducible repeat (first | apply Kd.R_alloc | apply Kd.R_drewN | apply Kd.R_drew)); exact HO659.out) hb); have n3_ := Aside0.mk (Kd.R_below (by (with_reducible repeat (first | apply Kd.R_alloc | apply Kd.R_drewN | apply Kd.R_drew)); exact HO665.out) hb); have n4_ := Aside0.mk (Kd.R_below (by (with_reducible repeat (first | apply Kd.R_alloc | apply Kd.R_drewN | apply Kd.R_drew)); exact HO668.out) hb); have n5_ := Aside0.mk (Kd.S_below (by (with_reducible repeat (first | apply Kd.S_alloc | apply Kd.S_drewN | apply Kd.S_drew)); exact HO675.out) hb); have n6_ := Aside0.mk (Kd.S_below (by (with_reducible repeat (first | apply Kd.S_alloc | apply Kd.S_drewN | apply Kd.S_drew)); exact HO679.out) hb); have n7_ := Aside0.mk (blk_below (g := gb662) (o := .cells #[.slice Ao71 t654.length co71, .slice Ao73 t657.length co73] 29 (0, 0)) (by (with_reducible repeat (first | refine blk_drewN ?_ _ | refine blk_drew ?_ | refine blk_alloc ?_ _)); exact BK662.out) hb); have n8_ := Aside0.mk (blk_below (g := gb671) (o := .cells #[.slice Ao76 t663.length co76, .slice Ao79 t666.length co79] 29 (0, 0)) (by (with_reducible repeat (first | refine blk_drewN ?_ _ | refine blk_drew ?_ | refine blk_alloc ?_ _)); exact BK671.out) hb); have n9_ := Aside0.mk (below_step (by repeat (first | (with_reducible first | exact HB.out | apply below_alloc | apply pw_below_drewN | apply below_drew1 | refine below_set ?_ GE662.out | refine below_set ?_ GE671.out) | exact HB.out)) hb); clear HO653; clear HO656; clear HO659; clear HO665; clear HO668; clear HO675; clear HO679; clear BK662; clear BK671; clear HB; have HO653 := n0_; have HO656 := n1_; have HO659 := n2_; have HO665 := n3_; have HO668 := n4_; have HO675 := n5_; have HO679 := n6_; have BK662 := n7_; have BK671 := n8_; have HB := n9_; clear n0_ n1_ n2_ n3_ n4_ n5_ n6_ n7_ n8_ n9_; (try clear hb); (try clear hb2); (try clear hk); (try clear hi)))
              go_ret
              exact ⟨by first | rfl | (simp [errW_none, errW_some] <;> rfl) | (simp [*, errW_none, errW_some] <;> rfl), by repeat (first | (with_reducible first | exact HB.out | apply below_alloc | apply pw_below_drewN | apply below_drew1 | refine below_set ?_ GE662.out | refine below_set ?_ GE671.out) | exact HB.out)⟩
          · replace c13 := Bool.eq_false_iff.mpr c13
            subst c13
            have H1 : (some false) = some r := by rw [if_neg (show ¬ (false = true) by decide)] at H; exact H
            clear H
            have H := H1
            clear H1
            obtain rfl := Option.some.inj H
            go_enter Try.func10, Try.ntmps10
            go_wp2_with (first | ((with_reducible refine gate_dst (N := 18) rfl ?_); refine Kd.R_lit (Kd.int .u8) _ 5 ?hg (N := 18) ?hd (xs := ([] : List Int)) (inner := []) (ok := fun _ => True) (okp := fun _ => True) ?hr ?hp (fun _ hk => hk) trivial (Below.refl _ _) (Nat.le_refl _) (by simp) ?_; (case hd => rfl); (case hg => rfl); (case hr => first | (go_simp; done) | (go_simp; rfl)); (case hp => exact (Reps.none _ _)); intro v649 w85 ho86 hb hg_ hnew_; clear hg_ hnew_; (first | rw [← Ny648.out] at ho86 | (simp only [Int.reduceToNat] at ho86; rw [← Ny648.out] at ho86)); have n0_ := Aside0.mk (Kd.R_lower ho86 (below_size (by repeat (first | (with_reducible first | exact HB.out | apply below_alloc | apply pw_below_drewN | apply below_drew1) | exact HB.out)))); have n1_ := Aside0.mk (below_step (by repeat (first | (with_reducible first | exact HB.out | apply below_alloc | apply pw_below_drewN | apply below_drew1) | exact HB.out)) hb); clear HB; have HO650 := n0_; have HB := n1_; clear n0_ n1_; clear hb ho86) | ((with_reducible refine gate_builtin (b := .append) (xs := #[.tmp 18, .tmp 19]) rfl ?_); at_builtin; refine Kd.R_append_rows (Kd.int .u8) (w0 := w) w.heap.size rfl (.tmp 18) (.tmp 19) 22 5 (.int .u8 0) 1 rfl Try.underlying22 info5 rfl (by decide) (by omega) v649 y648 l0 _ _ _ (fun _ => True) (fun _ => False) rfl rfl ?aO ?aR (fun _ _ h => h) (fun _ h => h.elim) ?aF ?aB ?aS ?aL ?_; (case aR => repeat (first | exact (Kd.C_below HR0.out HB.out) | (with_reducible refine Kd.C_alloc ?_ _) | (with_reducible refine Kd.C_drewN ?_ _) | (with_reducible refine Kd.C_drew ?_))); (case aB => exact (by repeat (first | (with_reducible first | exact HB.out | apply below_alloc | apply pw_below_drewN | apply below_drew1) | exact HB.out))); (case aF => exact (fun _ _ => trivial)); (case aO => exact (by (with_reducible repeat (first | apply Kd.R_alloc | apply Kd.R_drewN | apply Kd.R_drew)); exact HO650.out)); (case aS => exact (below_size (by repeat (first | (with_reducible first | exact HB.out | apply below_alloc | apply pw_below_drewN | apply below_drew1) | exact HB.out)))); (case aL => have := LMc5.out; omega); intro v652 w87 ho hb hg hat; rw [← Ny651.out] at ho; have n0_ := Aside0.mk (hb); have n1_ := Aside0.mk (ho); clear HB; clear HO650; have HB := n0_; have HO653 := n1_; clear n0_ n1_; clear ho hb hg hat; obtain ⟨Ao88, co88, eo88⟩ := Kd.R_slice HO653.out; subst eo88) | ((with_reducible refine gate_callee (f := 39) rfl ?_); refine goesL_ (some 21) rfl rfl Try.func39 (by kernel_rfl) rfl #[.slice Ao88 y651.length co88] rfl (by (try simp only [List.map_toArray, List.map_cons, List.map_nil]); first | done | rfl | (simp only [List.length_drop, List.length_take]; rfl)) ?_; (with_reducible refine (frame_First.calls k _ _ y651 t654 t657 t660 t661 _ ?side1 ?side2 A6.out).mono ?_); (case side1 => repeat (first | exact (Kd.R_reads' HO653.out).2.2 | (with_reducible refine Kd.C_alloc ?_ _) | (with_reducible refine Kd.C_drewN ?_ _) | (with_reducible refine Kd.C_drew ?_))); (case side2 => exact (Kd.R_reads' HO653.out).2.1); rintro e w89 ⟨v655, v658, rfl, ho0, ho1, hb⟩; refine ⟨_, rfl, ?_⟩; have n0_ := Aside0.mk (Kd.R_below (by (with_reducible repeat (first | apply Kd.R_alloc | apply Kd.R_drewN | apply Kd.R_drew)); exact HO653.out) hb); have n1_ := Aside0.mk (Kd.R_lower ho0 (below_size (by repeat (first | (with_reducible first | exact HB.out | apply below_alloc | apply pw_below_drewN | apply below_drew1) | exact HB.out)))); have n2_ := Aside0.mk (Kd.R_lower ho1 (below_size (by repeat (first | (with_reducible first | exact HB.out | apply below_alloc | apply pw_below_drewN | apply below_drew1) | exact HB.out)))); have n3_ := Aside0.mk (below_step (by repeat (first | (with_reducible first | exact HB.out | apply below_alloc | apply pw_below_drewN | apply below_drew1) | exact HB.out)) hb); clear HO653; clear HB; have HO653 := n0_; have HO656 := n1_; have HO659 := n2_; have HB := n3_; clear n0_ n1_ n2_ n3_; (try clear hb); (try clear hb2); (try clear hk); (try clear hi); (try clear ho0); (try clear ho1)) | ((with_reducible refine gate_dst (N := 3) rfl ?_); refine box_event ?hg (N := 3) ?hd (cs := #[.slice none 0 0, .slice none 0 0]) (t := 29) ?hr ?_; (case hd => rfl); (case hg => rfl); (case hr => first | (go_simp; done) | (go_simp; rfl)); intro gb662 hg w90 hbox hb; have n0_ := Aside0.mk (Kd.R_below (by (with_reducible repeat (first | apply Kd.R_alloc | apply Kd.R_drewN | apply Kd.R_drew)); exact HO653.out) hb); have n1_ := Aside0.mk (Kd.R_below (by (with_reducible repeat (first | apply Kd.R_alloc | apply Kd.R_drewN | apply Kd.R_drew)); exact HO656.out) hb); have n2_ := Aside0.mk (Kd.R_below (by (with_reducible repeat (first | apply Kd.R_alloc | apply Kd.R_drewN | apply Kd.R_drew)); exact HO659.out) hb); have n3_ := Aside0.mk (below_step (by repeat (first | (with_reducible first | exact HB.out | apply below_alloc | apply pw_below_drewN | apply below_drew1) | exact HB.out)) hb); have n4_ := Aside0.mk (hbox); have n5_ := Aside0.mk ((by rw [hg]; exact (below_size (by repeat (first | (with_reducible first | exact HB.out | apply below_alloc | apply pw_below_drewN | apply below_drew1) | exact HB.out))) : w.heap.size ≤ gb662)); have n6_ := Aside0.mk ((by rw [hg]; exact (below_size (by repeat (first | (with_reducible first | exact HB.out | apply below_alloc | apply pw_below_drewN | apply below_drew1) | exact HB.out))) : w.heap.size ≤ gb662)); clear HO653; clear HO656; clear HO659; clear HB; have HO653 := n0_; have HO656 := n1_; have HO659 := n2_; have HB := n3_; have BK662 := n4_; have GW662 := n5_; have GE662 := n6_; clear n0_ n1_ n2_ n3_ n4_ n5_ n6_; clear hb hbox hg; obtain ⟨Ao91, co91, eo91⟩ := Kd.R_slice HO656.out; subst eo91; have hcz92_0 : w90.cell? ⟨gb662, 0, none⟩ = some (.slice none 0 0) := (blk_cell BK662.out 0).trans rfl; have hcz92_1 : w90.cell? ⟨gb662, 1, none⟩ = some (.slice none 0 0) := (blk_cell BK662.out 1).trans rfl; have hfz92_0 := blk_frozen BK662.out 0; have hfz92_1 := blk_frozen BK662.out 1; obtain ⟨Ao93, co93, eo93⟩ := Kd.R_slice HO659.out; subst eo93) | ((with_reducible refine gate_callee (f := 40) rfl ?_); refine goesL_ (some 27) rfl rfl Try.func40 (by kernel_rfl) rfl #[.slice A0 l0.length c0] rfl (by (try simp only [List.map_toArray, List.map_cons, List.map_nil]); first | done | rfl | (simp only [List.length_drop, List.length_take]; rfl)) ?_; (with_reducible refine (windroseref02_First.calls k _ _ l0 t663 t666 t669 t670 _ ?side1 ?side2 A7.out).mono ?_); (case side1 => exact Kd.C_below HR0.out (by repeat (first | (with_reducible first | exact HB.out | apply below_alloc | apply pw_below_drewN | apply below_drew1 | refine below_set ?_ GE662.out) | exact HB.out))); (case side2 => exact HC0.out); rintro e w94 ⟨v664, v667, rfl, ho0, ho1, hb⟩; refine ⟨_, rfl, ?_⟩; have n0_ := Aside0.mk (Kd.R_below (by (with_reducible repeat (first | apply Kd.R_alloc | apply Kd.R_drewN | apply Kd.R_drew)); exact (Kd.R_mono (Kd.R_far (p := ⟨gb662, 1, none⟩) (Kd.R_far (p := ⟨gb662, 0, none⟩) (Kd.R_types HO653.out BK662.out (by decide)) (fun _ hk => hk.2) (.slice Ao91 t654.length co91)) (fun _ hk => hk.2) (.slice Ao93 t657.length co93)) (fun _ h_ => h_.1))) hb); have n1_ := Aside0.mk (Kd.R_elder' (by (with_reducible repeat (first | apply Kd.R_alloc | apply Kd.R_drewN | apply Kd.R_drew)); exact (Kd.R_mono (Kd.R_far (p := ⟨gb662, 1, none⟩) (Kd.R_far (p := ⟨gb662, 0, none⟩) (Kd.R_types HO656.out BK662.out (by decide)) (fun _ hk => hk.2) (.slice Ao91 t654.length co91)) (fun _ hk => hk.2) (.slice Ao93 t657.length co93)) (fun _ h_ => h_.1))) (Kd.R_base ho0) hb); have n2_ := Aside0.mk (Kd.R_elder' (by (with_reducible repeat (first | apply Kd.R_alloc | apply Kd.R_drewN | apply Kd.R_drew)); exact (Kd.R_mono (Kd.R_far (p := ⟨gb662, 1, none⟩) (Kd.R_far (p := ⟨gb662, 0, none⟩) (Kd.R_types HO659.out BK662.out (by decide)) (fun _ hk => hk.2) (.slice Ao91 t654.length co91)) (fun _ hk => hk.2) (.slice Ao93 t657.length co93)) (fun _ h_ => h_.1))) (Kd.R_base ho1) hb); have n3_ := Aside0.mk (Kd.R_lower (Kd.R_new' ho0 (Kd.R_lt (by (with_reducible repeat (first | apply Kd.R_alloc | apply Kd.R_drewN | apply Kd.R_drew)); exact (Kd.R_mono (Kd.R_far (p := ⟨gb662, 1, none⟩) (Kd.R_far (p := ⟨gb662, 0, none⟩) (Kd.R_types HO656.out BK662.out (by decide)) (fun _ hk => hk.2) (.slice Ao91 t654.length co91)) (fun _ hk => hk.2) (.slice Ao93 t657.length co93)) (fun _ h_ => h_.1))))) (below_size (by repeat (first | (with_reducible first | exact HB.out | apply below_alloc | apply pw_below_drewN | apply below_drew1 | refine below_set ?_ GE662.out) | exact HB.out)))); have n4_ := Aside0.mk (Kd.R_lower (Kd.R_new' ho1 (Kd.R_lt (by (with_reducible repeat (first | apply Kd.R_alloc | apply Kd.R_drewN | apply Kd.R_drew)); exact (Kd.R_mono (Kd.R_far (p := ⟨gb662, 1, none⟩) (Kd.R_far (p := ⟨gb662, 0, none⟩) (Kd.R_types HO659.out BK662.out (by decide)) (fun _ hk => hk.2) (.slice Ao91 t654.length co91)) (fun _ hk => hk.2) (.slice Ao93 t657.length co93)) (fun _ h_ => h_.1))))) (below_size (by repeat (first | (with_reducible first | exact HB.out | apply below_alloc | apply pw_below_drewN | apply below_drew1 | refine below_set ?_ GE662.out) | exact HB.out)))); have n5_ := Aside0.mk (blk_below (g := gb662) (o := .cells #[.slice Ao91 t654.length co91, .slice Ao93 t657.length co93] 29 (0, 0)) (by (with_reducible repeat (first | refine blk_drewN ?_ _ | refine blk_drew ?_ | refine blk_alloc ?_ _)); refine blk_put (cs := #[.slice Ao91 t654.length co91, .slice none 0 0]) ?_ 1 _ rfl; (with_reducible repeat (first | refine blk_drewN ?_ _ | refine blk_drew ?_ | refine blk_alloc ?_ _)); refine blk_put (cs := #[.slice none 0 0, .slice none 0 0]) ?_ 0 _ rfl; (with_reducible repeat (first | refine blk_drewN ?_ _ | refine blk_drew ?_ | refine blk_alloc ?_ _)); exact BK662.out) hb); have n6_ := Aside0.mk (below_step (by repeat (first | (with_reducible first | exact HB.out | apply below_alloc | apply pw_below_drewN | apply below_drew1 | refine below_set ?_ GE662.out) | exact HB.out)) hb); clear HO653; clear HO656; clear HO659; clear BK662; clear HB; have HO653 := n0_; have HO656 := n1_; have HO659 := n2_; have HO665 := n3_; have HO668 := n4_; have BK662 := n5_; have HB := n6_; clear n0_ n1_ n2_ n3_ n4_ n5_ n6_; (try clear hb); (try clear hb2); (try clear hk); (try clear hi); (try clear ho0); (try clear ho1)) | ((with_reducible refine gate_dst (N := 6) rfl ?_); refine box_event ?hg (N := 6) ?hd (cs := #[.slice none 0 0, .slice none 0 0]) (t := 29) ?hr ?_; (case hd => rfl); (case hg => rfl); (case hr => first | (go_simp; done) | (go_simp; rfl)); intro gb671 hg w95 hbox hb; have n0_ := Aside0.mk (Kd.R_below (by (with_reducible repeat (first | apply Kd.R_alloc | apply Kd.R_drewN | apply Kd.R_drew)); exact HO653.out) hb); have n1_ := Aside0.mk (Kd.R_below (by (with_reducible repeat (first | apply Kd.R_alloc | apply Kd.R_drewN | apply Kd.R_drew)); exact HO656.out) hb); have n2_ := Aside0.mk (Kd.R_below (by (with_reducible repeat (first | apply Kd.R_alloc | apply Kd.R_drewN | apply Kd.R_drew)); exact HO659.out) hb); have n3_ := Aside0.mk (Kd.R_below (by (with_reducible repeat (first | apply Kd.R_alloc | apply Kd.R_drewN | apply Kd.R_drew)); exact HO665.out) hb); have n4_ := Aside0.mk (Kd.R_below (by (with_reducible repeat (first | apply Kd.R_alloc | apply Kd.R_drewN | apply Kd.R_drew)); exact HO668.out) hb); have n5_ := Aside0.mk (blk_below (g := gb662) (o := .cells #[.slice Ao91 t654.length co91, .slice Ao93 t657.length co93] 29 (0, 0)) (by (with_reducible repeat (first | refine blk_drewN ?_ _ | refine blk_drew ?_ | refine blk_alloc ?_ _)); exact BK662.out) hb); have n6_ := Aside0.mk (below_step (by repeat (first | (with_reducible first | exact HB.out | apply below_alloc | apply pw_below_drewN | apply below_drew1 | refine below_set ?_ GE662.out) | exact HB.out)) hb); have n7_ := Aside0.mk (hbox); have n8_ := Aside0.mk ((by rw [hg]; exact (below_size (by repeat (first | (with_reducible first | exact HB.out | apply below_alloc | apply pw_below_drewN | apply below_drew1 | refine below_set ?_ GE662.out) | exact HB.out))) : w.heap.size ≤ gb671)); have n9_ := Aside0.mk ((by rw [hg]; exact (below_size (by repeat (first | (with_reducible first | exact HB.out | apply below_alloc | apply pw_below_drewN | apply below_drew1 | refine below_set ?_ GE662.out) | exact HB.out))) : w.heap.size ≤ gb671)); have n10_ := Aside0.mk ((by rw [hg]; exact Nat.ne_of_lt (blk_lt (g := gb662) (o := .cells #[.slice Ao91 t654.length co91, .slice Ao93 t657.length co93] 29 (0, 0)) (by (with_reducible repeat (first | refine blk_drewN ?_ _ | refine blk_drew ?_ | refine blk_alloc ?_ _)); exact BK662.out)) : gb662 ≠ gb671)); have n11_ := Aside0.mk ((by rw [hg]; exact Nat.ne_of_gt (blk_lt (g := gb662) (o := .cells #[.slice Ao91 t654.length co91, .slice Ao93 t657.length co93] 29 (0, 0)) (by (with_reducible repeat (first | refine blk_drewN ?_ _ | refine blk_drew ?_ | refine blk_alloc ?_ _)); exact BK662.out)) : gb671 ≠ gb662)); clear HO653; clear HO656; clear HO659; clear HO665; clear HO668; clear BK662; clear HB; have HO653 := n0_; have HO656 := n1_; have HO659 := n2_; have HO665 := n3_; have HO668 := n4_; have BK662 := n5_; have HB := n6_; have BK671 := n7_; have GW671 := n8_; have GE671 := n9_; have NB662_671 := n10_; have NB671_662 := n11_; clear n0_ n1_ n2_ n3_ n4_ n5_ n6_ n7_ n8_ n9_ n10_ n11_; clear hb hbox hg; obtain ⟨Ao96, co96, eo96⟩ := Kd.R_slice HO665.out; subst eo96; have hnb97 := NB671_662.out; have hnc97 := NB662_671.out; have hcz98_0 : w95.cell? ⟨gb671, 0, none⟩ = some (.slice none 0 0) := (blk_cell BK671.out 0).trans rfl; have hcz98_1 : w95.cell? ⟨gb671, 1, none⟩ = some (.slice none 0 0) := (blk_cell BK671.out 1).trans rfl; have hfz98_0 := blk_frozen BK671.out 0; have hfz98_1 := blk_frozen BK671.out 1; obtain ⟨Ao99, co99, eo99⟩ := Kd.R_slice HO668.out; subst eo99) | ((with_reducible refine gate_callee (f := 41) rfl ?_); refine goesL_ (some 33) rfl rfl Try.func41 (by kernel_rfl) rfl #[.slice A0 l0.length c0] rfl (by (try simp only [List.map_toArray, List.map_cons, List.map_nil]); first | done | rfl | (simp only [List.length_drop, List.length_take]; rfl)) ?_; (with_reducible refine (frame_Row.calls k _ _ l0 t672 t673 _ ?side1 ?side2 A8.out).mono ?_); (case side1 => exact Kd.C_below HR0.out (by repeat (first | (with_reducible first | exact HB.out | apply below_alloc | apply pw_below_drewN | apply below_drew1 | refine below_set ?_ GE662.out | refine below_set ?_ GE671.out) | exact HB.out))); (case side2 => exact HC0.out); rintro e w100 ⟨v674, rfl, ho0, hb⟩; refine ⟨_, rfl, ?_⟩; have n0_ := Aside0.mk (Kd.R_below (by (with_reducible repeat (first | apply Kd.R_alloc | apply Kd.R_drewN | apply Kd.R_drew)); exact (Kd.R_mono (Kd.R_far (p := ⟨gb671, 1, none⟩) (Kd.R_far (p := ⟨gb671, 0, none⟩) (Kd.R_types HO653.out BK671.out (by decide)) (fun _ hk => hk.2) (.slice Ao96 t663.length co96)) (fun _ hk => hk.2) (.slice Ao99 t666.length co99)) (fun _ h_ => h_.1))) hb); have n1_ := Aside0.mk (Kd.R_below (by (with_reducible repeat (first | apply Kd.R_alloc | apply Kd.R_drewN | apply Kd.R_drew)); exact (Kd.R_mono (Kd.R_far (p := ⟨gb671, 1, none⟩) (Kd.R_far (p := ⟨gb671, 0, none⟩) (Kd.R_types HO656.out BK671.out (by decide)) (fun _ hk => hk.2) (.slice Ao96 t663.length co96)) (fun _ hk => hk.2) (.slice Ao99 t666.length co99)) (fun _ h_ => h_.1))) hb); have n2_ := Aside0.mk (Kd.R_below (by (with_reducible repeat (first | apply Kd.R_alloc | apply Kd.R_drewN | apply Kd.R_drew)); exact (Kd.R_mono (Kd.R_far (p := ⟨gb671, 1, none⟩) (Kd.R_far (p := ⟨gb671, 0, none⟩) (Kd.R_types HO659.out BK671.out (by decide)) (fun _ hk => hk.2) (.slice Ao96 t663.length co96)) (fun _ hk => hk.2) (.slice Ao99 t666.length co99)) (fun _ h_ => h_.1))) hb); have n3_ := Aside0.mk (Kd.R_below (by (with_reducible repeat (first | apply Kd.R_alloc | apply Kd.R_drewN | apply Kd.R_drew)); exact (Kd.R_mono (Kd.R_far (p := ⟨gb671, 1, none⟩) (Kd.R_far (p := ⟨gb671, 0, none⟩) (Kd.R_types HO665.out BK671.out (by decide)) (fun _ hk => hk.2) (.slice Ao96 t663.length co96)) (fun _ hk => hk.2) (.slice Ao99 t666.length co99)) (fun _ h_ => h_.1))) hb); have n4_ := Aside0.mk (Kd.R_below (by (with_reducible repeat (first | apply Kd.R_alloc | apply Kd.R_drewN | apply Kd.R_drew)); exact (Kd.R_mono (Kd.R_far (p := ⟨gb671, 1, none⟩) (Kd.R_far (p := ⟨gb671, 0, none⟩) (Kd.R_types HO668.out BK671.out (by decide)) (fun _ hk => hk.2) (.slice Ao96 t663.length co96)) (fun _ hk => hk.2) (.slice Ao99 t666.length co99)) (fun _ h_ => h_.1))) hb); have n5_ := Aside0.mk (Kd.S_lower (Kd.S_newB (Kd.S_newB (Kd.S_new' (Kd.S_new' (Kd.S_new' (Kd.S_new' ho0 (Kd.R_lt (by (with_reducible repeat (first | apply Kd.R_alloc | apply Kd.R_drewN | apply Kd.R_drew)); exact (Kd.R_mono (Kd.R_far (p := ⟨gb671, 1, none⟩) (Kd.R_far (p := ⟨gb671, 0, none⟩) (Kd.R_types HO656.out BK671.out (by decide)) (fun _ hk => hk.2) (.slice Ao96 t663.length co96)) (fun _ hk => hk.2) (.slice Ao99 t666.length co99)) (fun _ h_ => h_.1))))) (Kd.R_lt (by (with_reducible repeat (first | apply Kd.R_alloc | apply Kd.R_drewN | apply Kd.R_drew)); exact (Kd.R_mono (Kd.R_far (p := ⟨gb671, 1, none⟩) (Kd.R_far (p := ⟨gb671, 0, none⟩) (Kd.R_types HO659.out BK671.out (by decide)) (fun _ hk => hk.2) (.slice Ao96 t663.length co96)) (fun _ hk => hk.2) (.slice Ao99 t666.length co99)) (fun _ h_ => h_.1))))) (Kd.R_lt (by (with_reducible repeat (first | apply Kd.R_alloc | apply Kd.R_drewN | apply Kd.R_drew)); exact (Kd.R_mono (Kd.R_far (p := ⟨gb671, 1, none⟩) (Kd.R_far (p := ⟨gb671, 0, none⟩) (Kd.R_types HO665.out BK671.out (by decide)) (fun _ hk => hk.2) (.slice Ao96 t663.length co96)) (fun _ hk => hk.2) (.slice Ao99 t666.length co99)) (fun _ h_ => h_.1))))) (Kd.R_lt (by (with_reducible repeat (first | apply Kd.R_alloc | apply Kd.R_drewN | apply Kd.R_drew)); exact (Kd.R_mono (Kd.R_far (p := ⟨gb671, 1, none⟩) (Kd.R_far (p := ⟨gb671, 0, none⟩) (Kd.R_types HO668.out BK671.out (by decide)) (fun _ hk => hk.2) (.slice Ao96 t663.length co96)) (fun _ hk => hk.2) (.slice Ao99 t666.length co99)) (fun _ h_ => h_.1))))) (g := gb662) (o := .cells #[.slice Ao91 t654.length co91, .slice Ao93 t657.length co93] 29 (0, 0)) (by (with_reducible repeat (first | refine blk_drewN ?_ _ | refine blk_drew ?_ | refine blk_alloc ?_ _)); refine blk_far ?_ NB662_671.out _; (with_reducible repeat (first | refine blk_drewN ?_ _ | refine blk_drew ?_ | refine blk_alloc ?_ _)); refine blk_far ?_ NB662_671.out _; (with_reducible repeat (first | refine blk_drewN ?_ _ | refine blk_drew ?_ | refine blk_alloc ?_ _)); exact BK662.out)) (g := gb671) (o := .cells #[.slice Ao96 t663.length co96, .slice Ao99 t666.length co99] 29 (0, 0)) (by (with_reducible repeat (first | refine blk_drewN ?_ _ | refine blk_drew ?_ | refine blk_alloc ?_ _)); refine blk_put (cs := #[.slice Ao96 t663.length co96, .slice none 0 0]) ?_ 1 _ rfl; (with_reducible repeat (first | refine blk_drewN ?_ _ | refine blk_drew ?_ | refine blk_alloc ?_ _)); refine blk_put (cs := #[.slice none 0 0, .slice none 0 0]) ?_ 0 _ rfl; (with_reducible repeat (first | refine blk_drewN ?_ _ | refine blk_drew ?_ | refine blk_alloc ?_ _)); exact BK671.out)) (below_size (by repeat (first | (with_reducible first | exact HB.out | apply below_alloc | apply pw_below_drewN | apply below_drew1 | refine below_set ?_ GE662.out | refine below_set ?_ GE671.out) | exact HB.out)))); have n6_ := Aside0.mk (blk_below (g := gb662) (o := .cells #[.slice Ao91 t654.length co91, .slice Ao93 t657.length co93] 29 (0, 0)) (by (with_reducible repeat (first | refine blk_drewN ?_ _ | refine blk_drew ?_ | refine blk_alloc ?_ _)); refine blk_far ?_ NB662_671.out _; (with_reducible repeat (first | refine blk_drewN ?_ _ | refine blk_drew ?_ | refine blk_alloc ?_ _)); refine blk_far ?_ NB662_671.out _; (with_reducible repeat (first | refine blk_drewN ?_ _ | refine blk_drew ?_ | refine blk_alloc ?_ _)); exact BK662.out) hb); have n7_ := Aside0.mk (blk_below (g := gb671) (o := .cells #[.slice Ao96 t663.length co96, .slice Ao99 t666.length co99] 29 (0, 0)) (by (with_reducible repeat (first | refine blk_drewN ?_ _ | refine blk_drew ?_ | refine blk_alloc ?_ _)); refine blk_put (cs := #[.slice Ao96 t663.length co96, .slice none 0 0]) ?_ 1 _ rfl; (with_reducible repeat (first | refine blk_drewN ?_ _ | refine blk_drew ?_ | refine blk_alloc ?_ _)); refine blk_put (cs := #[.slice none 0 0, .slice none 0 0]) ?_ 0 _ rfl; (with_reducible repeat (first | refine blk_drewN ?_ _ | refine blk_drew ?_ | refine blk_alloc ?_ _)); exact BK671.out) hb); have n8_ := Aside0.mk (below_step (by repeat (first | (with_reducible first | exact HB.out | apply below_alloc | apply pw_below_drewN | apply below_drew1 | refine below_set ?_ GE662.out | refine below_set ?_ GE671.out) | exact HB.out)) hb); clear HO653; clear HO656; clear HO659; clear HO665; clear HO668; clear BK662; clear BK671; clear HB; have HO653 := n0_; have HO656 := n1_; have HO659 := n2_; have HO665 := n3_; have HO668 := n4_; have HO675 := n5_; have BK662 := n6_; have BK671 := n7_; have HB := n8_; clear n0_ n1_ n2_ n3_ n4_ n5_ n6_ n7_ n8_; (try clear hb); (try clear hb2); (try clear hk); (try clear hi); (try clear ho0)) | ((with_reducible refine gate_callee (f := 42) rfl ?_); refine goesL_ (some 38) rfl rfl Try.func42 (by kernel_rfl) rfl #[.slice A0 l0.length c0] rfl (by (try simp only [List.map_toArray, List.map_cons, List.map_nil]); first | done | rfl | (simp only [List.length_drop, List.length_take]; rfl)) ?_; (with_reducible refine (windroseref02_Row.calls k _ _ l0 t676 t677 _ ?side1 ?side2 A9.out).mono ?_); (case side1 => repeat (first | exact (Kd.C_below HR0.out HB.out) | (with_reducible refine Kd.C_alloc ?_ _) | (with_reducible refine Kd.C_drewN ?_ _) | (with_reducible refine Kd.C_drew ?_))); (case side2 => exact HC0.out); rintro e w101 ⟨v678, rfl, ho0, hb⟩; refine ⟨_, rfl, ?_⟩; have n0_ := Aside0.mk (Kd.R_below (by (with_reducible repeat (first | apply Kd.R_alloc | apply Kd.R_drewN | apply Kd.R_drew)); exact HO653.out) hb); have n1_ := Aside0.mk (Kd.R_below (by (with_reducible repeat (first | apply Kd.R_alloc | apply Kd.R_drewN | apply Kd.R_drew)); exact HO656.out) hb); have n2_ := Aside0.mk (Kd.R_below (by (with_reducible repeat (first | apply Kd.R_alloc | apply Kd.R_drewN | apply Kd.R_drew)); exact HO659.out) hb); have n3_ := Aside0.mk (Kd.R_below (by (with_reducible repeat (first | apply Kd.R_alloc | apply Kd.R_drewN | apply Kd.R_drew)); exact HO665.out) hb); have n4_ := Aside0.mk (Kd.R_below (by (with_reducible repeat (first | apply Kd.R_alloc | apply Kd.R_drewN | apply Kd.R_drew)); exact HO668.out) hb); have n5_ := Aside0.mk (Kd.S_elder' (by (with_reducible repeat (first | apply Kd.S_alloc | apply Kd.S_drewN | apply Kd.S_drew)); exact HO675.out) (Kd.S_base ho0) hb); have n6_ := Aside0.mk (Kd.S_lower (Kd.S_newB (Kd.S_newB (Kd.S_new' (Kd.S_new' (Kd.S_new' (Kd.S_new' (Kd.S_new' ho0 (Kd.R_lt (by (with_reducible repeat (first | apply Kd.R_alloc | apply Kd.R_drewN | apply Kd.R_drew)); exact HO656.out))) (Kd.R_lt (by (with_reducible repeat (first | apply Kd.R_alloc | apply Kd.R_drewN | apply Kd.R_drew)); exact HO659.out))) (Kd.R_lt (by (with_reducible repeat (first | apply Kd.R_alloc | apply Kd.R_drewN | apply Kd.R_drew)); exact HO665.out))) (Kd.R_lt (by (with_reducible repeat (first | apply Kd.R_alloc | apply Kd.R_drewN | apply Kd.R_drew)); exact HO668.out))) (Kd.S_lt (by (with_reducible repeat (first | apply Kd.S_alloc | apply Kd.S_drewN | apply Kd.S_drew)); exact HO675.out))) (g := gb662) (o := .cells #[.slice Ao91 t654.length co91, .slice Ao93 t657.length co93] 29 (0, 0)) (by (with_reducible repeat (first | refine blk_drewN ?_ _ | refine blk_drew ?_ | refine blk_alloc ?_ _)); exact BK662.out)) (g := gb671) (o := .cells #[.slice Ao96 t663.length co96, .slice Ao99 t666.length co99] 29 (0, 0)) (by (with_reducible repeat (first | refine blk_drewN ?_ _ | refine blk_drew ?_ | refine blk_alloc ?_ _)); exact BK671.out)) (below_size (by repeat (first | (with_reducible first | exact HB.out | apply below_alloc | apply pw_below_drewN | apply below_drew1 | refine below_set ?_ GE662.out | refine below_set ?_ GE671.out) | exact HB.out)))); have n7_ := Aside0.mk (blk_below (g := gb662) (o := .cells #[.slice Ao91 t654.length co91, .slice Ao93 t657.length co93] 29 (0, 0)) (by (with_reducible repeat (first | refine blk_drewN ?_ _ | refine blk_drew ?_ | refine blk_alloc ?_ _)); exact BK662.out) hb); have n8_ := Aside0.mk (blk_below (g := gb671) (o := .cells #[.slice Ao96 t663.length co96, .slice Ao99 t666.length co99] 29 (0, 0)) (by (with_reducible repeat (first | refine blk_drewN ?_ _ | refine blk_drew ?_ | refine blk_alloc ?_ _)); exact BK671.out) hb); have n9_ := Aside0.mk (below_step (by repeat (first | (with_reducible first | exact HB.out | apply below_alloc | apply pw_below_drewN | apply below_drew1 | refine below_set ?_ GE662.out | refine below_set ?_ GE671.out) | exact HB.out)) hb); clear HO653; clear HO656; clear HO659; clear HO665; clear HO668; clear HO675; clear BK662; clear BK671; clear HB; have HO653 := n0_; have HO656 := n1_; have HO659 := n2_; have HO665 := n3_; have HO668 := n4_; have HO675 := n5_; have HO679 := n6_; have BK662 := n7_; have BK671 := n8_; have HB := n9_; clear n0_ n1_ n2_ n3_ n4_ n5_ n6_ n7_ n8_ n9_; (try clear hb); (try clear hb2); (try clear hk); (try clear hi); (try clear ho0); have hcz102_0 : w101.cell? ⟨gb662, 0, none⟩ = some (.slice Ao91 t654.length co91) := (blk_cell BK662.out 0).trans rfl; have hcz102_1 : w101.cell? ⟨gb662, 1, none⟩ = some (.slice Ao93 t657.length co93) := (blk_cell BK662.out 1).trans rfl; have hfz102_0 := blk_frozen BK662.out 0; have hfz102_1 := blk_frozen BK662.out 1; have hcz103_0 : w101.cell? ⟨gb671, 0, none⟩ = some (.slice Ao96 t663.length co96) := (blk_cell BK671.out 0).trans rfl; have hcz103_1 : w101.cell? ⟨gb671, 1, none⟩ = some (.slice Ao99 t666.length co99) := (blk_cell BK671.out 1).trans rfl; have hfz103_0 := blk_frozen BK671.out 0; have hfz103_1 := blk_frozen BK671.out 1) | (go_at_call 30; (with_reducible refine (windroseref02_Same.calls k _ _ t654 _ _ t657 _ _ t663 _ _ t666 false _ ?side1 ?side2 ?side3 ?side4 ?side5 ?side6 ?side7 ?side8 A12.out).mono ?_); (case side1 => repeat (first | exact (Kd.R_reads' HO656.out).2.2 | (with_reducible refine Kd.C_alloc ?_ _) | (with_reducible refine Kd.C_drewN ?_ _) | (with_reducible refine Kd.C_drew ?_))); (case side2 => exact (Kd.R_reads' HO656.out).2.1); (case side3 => repeat (first | exact (Kd.R_reads' HO659.out).2.2 | (with_reducible refine Kd.C_alloc ?_ _) | (with_reducible refine Kd.C_drewN ?_ _) | (with_reducible refine Kd.C_drew ?_))); (case side4 => exact (Kd.R_reads' HO659.out).2.1); (case side5 => repeat (first | exact (Kd.R_reads' HO665.out).2.2 | (with_reducible refine Kd.C_alloc ?_ _) | (with_reducible refine Kd.C_drewN ?_ _) | (with_reducible refine Kd.C_drew ?_))); (case side6 => exact (Kd.R_reads' HO665.out).2.1); (case side7 => repeat (first | exact (Kd.R_reads' HO668.out).2.2 | (with_reducible refine Kd.C_alloc ?_ _) | (with_reducible refine Kd.C_drewN ?_ _) | (with_reducible refine Kd.C_drew ?_))); (case side8 => exact (Kd.R_reads' HO668.out).2.1); rintro e w104 ⟨rfl, hb⟩; have n0_ := Aside0.mk (Kd.R_below (by (with_reducible repeat (first | apply Kd.R_alloc | apply Kd.R_drewN | apply Kd.R_drew)); exact HO653.out) hb); have n1_ := Aside0.mk (Kd.R_below (by (with_reducible repeat (first | apply Kd.R_alloc | apply Kd.R_drewN | apply Kd.R_drew)); exact HO656.out) hb); have n2_ := Aside0.mk (Kd.R_below (by (with_reducible repeat (first | apply Kd.R_alloc | apply Kd.R_drewN | apply Kd.R_drew)); exact HO659.out) hb); have n3_ := Aside0.mk (Kd.R_below (by (with_reducible repeat (first | apply Kd.R_alloc | apply Kd.R_drewN | apply Kd.R_drew)); exact HO665.out) hb); have n4_ := Aside0.mk (Kd.R_below (by (with_reducible repeat (first | apply Kd.R_alloc | apply Kd.R_drewN | apply Kd.R_drew)); exact HO668.out) hb); have n5_ := Aside0.mk (Kd.S_below (by (with_reducible repeat (first | apply Kd.S_alloc | apply Kd.S_drewN | apply Kd.S_drew)); exact HO675.out) hb); have n6_ := Aside0.mk (Kd.S_below (by (with_reducible repeat (first | apply Kd.S_alloc | apply Kd.S_drewN | apply Kd.S_drew)); exact HO679.out) hb); have n7_ := Aside0.mk (blk_below (g := gb662) (o := .cells #[.slice Ao91 t654.length co91, .slice Ao93 t657.length co93] 29 (0, 0)) (by (with_reducible repeat (first | refine blk_drewN ?_ _ | refine blk_drew ?_ | refine blk_alloc ?_ _)); exact BK662.out) hb); have n8_ := Aside0.mk (blk_below (g := gb671) (o := .cells #[.slice Ao96 t663.length co96, .slice Ao99 t666.length co99] 29 (0, 0)) (by (with_reducible repeat (first | refine blk_drewN ?_ _ | refine blk_drew ?_ | refine blk_alloc ?_ _)); exact BK671.out) hb); have n9_ := Aside0.mk (below_step (by repeat (first | (with_reducible first | exact HB.out | apply below_alloc | apply pw_below_drewN | apply below_drew1 | refine below_set ?_ GE662.out | refine below_set ?_ GE671.out) | exact HB.out)) hb); clear HO653; clear HO656; clear HO659; clear HO665; clear HO668; clear HO675; clear HO679; clear BK662; clear BK671; clear HB; have HO653 := n0_; have HO656 := n1_; have HO659 := n2_; have HO665 := n3_; have HO668 := n4_; have HO675 := n5_; have HO679 := n6_; have BK662 := n7_; have BK671 := n8_; have HB := n9_; clear n0_ n1_ n2_ n3_ n4_ n5_ n6_ n7_ n8_ n9_; (try clear hb); (try clear hb2); (try clear hk); (try clear hi)))
            go_ret
            exact ⟨by first | rfl | (simp [errW_none, errW_some] <;> rfl) | (simp [*, errW_none, errW_some] <;> rfl), by repeat (first | (with_reducible first | exact HB.out | apply below_alloc | apply pw_below_drewN | apply below_drew1 | refine below_set ?_ GE662.out | refine below_set ?_ GE671.out) | exact HB.out)⟩
        · rw [if_neg c11] at H
          have c11b0 : (t660 == t669) = false := beq_eq_false_iff_ne.mpr c11
          have c11b1 : (t660 != t669) = true := bne_iff_ne.mpr c11
          obtain rfl := Option.some.inj H
          go_enter Try.func10, Try.ntmps10
          go_wp2_with (first | ((with_reducible refine gate_dst (N := 18) rfl ?_); refine Kd.R_lit (Kd.int .u8) _ 5 ?hg (N := 18) ?hd (xs := ([] : List Int)) (inner := []) (ok := fun _ => True) (okp := fun _ => True) ?hr ?hp (fun _ hk => hk) trivial (Below.refl _ _) (Nat.le_refl _) (by simp) ?_; (case hd => rfl); (case hg => rfl); (case hr => first | (go_simp; done) | (go_simp; rfl)); (case hp => exact (Reps.none _ _)); intro v649 w105 ho106 hb hg_ hnew_; clear hg_ hnew_; (first | rw [← Ny648.out] at ho106 | (simp only [Int.reduceToNat] at ho106; rw [← Ny648.out] at ho106)); have n0_ := Aside0.mk (Kd.R_lower ho106 (below_size (by repeat (first | (with_reducible first | exact HB.out | apply below_alloc | apply pw_below_drewN | apply below_drew1) | exact HB.out)))); have n1_ := Aside0.mk (below_step (by repeat (first | (with_reducible first | exact HB.out | apply below_alloc | apply pw_below_drewN | apply below_drew1) | exact HB.out)) hb); clear HB; have HO650 := n0_; have HB := n1_; clear n0_ n1_; clear hb ho106) | ((with_reducible refine gate_builtin (b := .append) (xs := #[.tmp 18, .tmp 19]) rfl ?_); at_builtin; refine Kd.R_append_rows (Kd.int .u8) (w0 := w) w.heap.size rfl (.tmp 18) (.tmp 19) 22 5 (.int .u8 0) 1 rfl Try.underlying22 info5 rfl (by decide) (by omega) v649 y648 l0 _ _ _ (fun _ => True) (fun _ => False) rfl rfl ?aO ?aR (fun _ _ h => h) (fun _ h => h.elim) ?aF ?aB ?aS ?aL ?_; (case aR => repeat (first | exact (Kd.C_below HR0.out HB.out) | (with_reducible refine Kd.C_alloc ?_ _) | (with_reducible refine Kd.C_drewN ?_ _) | (with_reducible refine Kd.C_drew ?_))); (case aB => exact (by repeat (first | (with_reducible first | exact HB.out | apply below_alloc | apply pw_below_drewN | apply below_drew1) | exact HB.out))); (case aF => exact (fun _ _ => trivial)); (case aO => exact (by (with_reducible repeat (first | apply Kd.R_alloc | apply Kd.R_drewN | apply Kd.R_drew)); exact HO650.out)); (case aS => exact (below_size (by repeat (first | (with_reducible first | exact HB.out | apply below_alloc | apply pw_below_drewN | apply below_drew1) | exact HB.out)))); (case aL => have := LMc5.out; omega); intro v652 w107 ho hb hg hat; rw [← Ny651.out] at ho; have n0_ := Aside0.mk (hb); have n1_ := Aside0.mk (ho); clear HB; clear HO650; have HB := n0_; have HO653 := n1_; clear n0_ n1_; clear ho hb hg hat; obtain ⟨Ao108, co108, eo108⟩ := Kd.R_slice HO653.out; subst eo108) | ((with_reducible refine gate_callee (f := 39) rfl ?_); refine goesL_ (some 21) rfl rfl Try.func39 (by kernel_rfl) rfl #[.slice Ao108 y651.length co108] rfl (by (try simp only [List.map_toArray, List.map_cons, List.map_nil]); first | done | rfl | (simp only [List.length_drop, List.length_take]; rfl)) ?_; (with_reducible refine (frame_First.calls k _ _ y651 t654 t657 t660 t661 _ ?side1 ?side2 A6.out).mono ?_); (case side1 => repeat (first | exact (Kd.R_reads' HO653.out).2.2 | (with_reducible refine Kd.C_alloc ?_ _) | (with_reducible refine Kd.C_drewN ?_ _) | (with_reducible refine Kd.C_drew ?_))); (case side2 => exact (Kd.R_reads' HO653.out).2.1); rintro e w109 ⟨v655, v658, rfl, ho0, ho1, hb⟩; refine ⟨_, rfl, ?_⟩; have n0_ := Aside0.mk (Kd.R_below (by (with_reducible repeat (first | apply Kd.R_alloc | apply Kd.R_drewN | apply Kd.R_drew)); exact HO653.out) hb); have n1_ := Aside0.mk (Kd.R_lower ho0 (below_size (by repeat (first | (with_reducible first | exact HB.out | apply below_alloc | apply pw_below_drewN | apply below_drew1) | exact HB.out)))); have n2_ := Aside0.mk (Kd.R_lower ho1 (below_size (by repeat (first | (with_reducible first | exact HB.out | apply below_alloc | apply pw_below_drewN | apply below_drew1) | exact HB.out)))); have n3_ := Aside0.mk (below_step (by repeat (first | (with_reducible first | exact HB.out | apply below_alloc | apply pw_below_drewN | apply below_drew1) | exact HB.out)) hb); clear HO653; clear HB; have HO653 := n0_; have HO656 := n1_; have HO659 := n2_; have HB := n3_; clear n0_ n1_ n2_ n3_; (try clear hb); (try clear hb2); (try clear hk); (try clear hi); (try clear ho0); (try clear ho1)) | ((with_reducible refine gate_dst (N := 3) rfl ?_); refine box_event ?hg (N := 3) ?hd (cs := #[.slice none 0 0, .slice none 0 0]) (t := 29) ?hr ?_; (case hd => rfl); (case hg => rfl); (case hr => first | (go_simp; done) | (go_simp; rfl)); intro gb662 hg w110 hbox hb; have n0_ := Aside0.mk (Kd.R_below (by (with_reducible repeat (first | apply Kd.R_alloc | apply Kd.R_drewN | apply Kd.R_drew)); exact HO653.out) hb); have n1_ := Aside0.mk (Kd.R_below (by (with_reducible repeat (first | apply Kd.R_alloc | apply Kd.R_drewN | apply Kd.R_drew)); exact HO656.out) hb); have n2_ := Aside0.mk (Kd.R_below (by (with_reducible repeat (first | apply Kd.R_alloc | apply Kd.R_drewN | apply Kd.R_drew)); exact HO659.out) hb); have n3_ := Aside0.mk (below_step (by repeat (first | (with_reducible first | exact HB.out | apply below_alloc | apply pw_below_drewN | apply below_drew1) | exact HB.out)) hb); have n4_ := Aside0.mk (hbox); have n5_ := Aside0.mk ((by rw [hg]; exact (below_size (by repeat (first | (with_reducible first | exact HB.out | apply below_alloc | apply pw_below_drewN | apply below_drew1) | exact HB.out))) : w.heap.size ≤ gb662)); have n6_ := Aside0.mk ((by rw [hg]; exact (below_size (by repeat (first | (with_reducible first | exact HB.out | apply below_alloc | apply pw_below_drewN | apply below_drew1) | exact HB.out))) : w.heap.size ≤ gb662)); clear HO653; clear HO656; clear HO659; clear HB; have HO653 := n0_; have HO656 := n1_; have HO659 := n2_; have HB := n3_; have BK662 := n4_; have GW662 := n5_; have GE662 := n6_; clear n0_ n1_ n2_ n3_ n4_ n5_ n6_; clear hb hbox hg; obtain ⟨Ao111, co111, eo111⟩ := Kd.R_slice HO656.out; subst eo111; have hcz112_0 : w110.cell? ⟨gb662, 0, none⟩ = some (.slice none 0 0) := (blk_cell BK662.out 0).trans rfl; have hcz112_1 : w110.cell? ⟨gb662, 1, none⟩ = some (.slice none 0 0) := (blk_cell BK662.out 1).trans rfl; have hfz112_0 := blk_frozen BK662.out 0; have hfz112_1 := blk_frozen BK662.out 1; obtain ⟨Ao113, co113, eo113⟩ := Kd.R_slice HO659.out; subst eo113) | ((with_reducible refine gate_callee (f := 40) rfl ?_); refine goesL_ (some 27) rfl rfl Try.func40 (by kernel_rfl) rfl #[.slice A0 l0.length c0] rfl (by (try simp only [List.map_toArray, List.map_cons, List.map_nil]); first | done | rfl | (simp only [List.length_drop, List.length_take]; rfl)) ?_; (with_reducible refine (windroseref02_First.calls k _ _ l0 t663 t666 t669 t670 _ ?side1 ?side2 A7.out).mono ?_); (case side1 => exact Kd.C_below HR0.out (by repeat (first | (with_reducible first | exact HB.out | apply below_alloc | apply pw_below_drewN | apply below_drew1 | refine below_set ?_ GE662.out) | exact HB.out))); (case side2 => exact HC0.out); rintro e w114 ⟨v664, v667, rfl, ho0, ho1, hb⟩; refine ⟨_, rfl, ?_⟩; have n0_ := Aside0.mk (Kd.R_below (by (with_reducible repeat (first | apply Kd.R_alloc | apply Kd.R_drewN | apply Kd.R_drew)); exact (Kd.R_mono (Kd.R_far (p := ⟨gb662, 1, none⟩) (Kd.R_far (p := ⟨gb662, 0, none⟩) (Kd.R_types HO653.out BK662.out (by decide)) (fun _ hk => hk.2) (.slice Ao111 t654.length co111)) (fun _ hk => hk.2) (.slice Ao113 t657.length co113)) (fun _ h_ => h_.1))) hb); have n1_ := Aside0.mk (Kd.R_elder' (by (with_reducible repeat (first | apply Kd.R_alloc | apply Kd.R_drewN | apply Kd.R_drew)); exact (Kd.R_mono (Kd.R_far (p := ⟨gb662, 1, none⟩) (Kd.R_far (p := ⟨gb662, 0, none⟩) (Kd.R_types HO656.out BK662.out (by decide)) (fun _ hk => hk.2) (.slice Ao111 t654.length co111)) (fun _ hk => hk.2) (.slice Ao113 t657.length co113)) (fun _ h_ => h_.1))) (Kd.R_base ho0) hb); have n2_ := Aside0.mk (Kd.R_elder' (by (with_reducible repeat (first | apply Kd.R_alloc | apply Kd.R_drewN | apply Kd.R_drew)); exact (Kd.R_mono (Kd.R_far (p := ⟨gb662, 1, none⟩) (Kd.R_far (p := ⟨gb662, 0, none⟩) (Kd.R_types HO659.out BK662.out (by decide)) (fun _ hk => hk.2) (.slice Ao111 t654.length co111)) (fun _ hk => hk.2) (.slice Ao113 t657.length co113)) (fun _ h_ => h_.1))) (Kd.R_base ho1) hb); have n3_ := Aside0.mk (Kd.R_lower (Kd.R_new' ho0 (Kd.R_lt (by (with_reducible repeat (first | apply Kd.R_alloc | apply Kd.R_drewN | apply Kd.R_drew)); exact (Kd.R_mono (Kd.R_far (p := ⟨gb662, 1, none⟩) (Kd.R_far (p := ⟨gb662, 0, none⟩) (Kd.R_types HO656.out BK662.out (by decide)) (fun _ hk => hk.2) (.slice Ao111 t654.length co111)) (fun _ hk => hk.2) (.slice Ao113 t657.length co113)) (fun _ h_ => h_.1))))) (below_size (by repeat (first | (with_reducible first | exact HB.out | apply below_alloc | apply pw_below_drewN | apply below_drew1 | refine below_set ?_ GE662.out) | exact HB.out)))); have n4_ := Aside0.mk (Kd.R_lower (Kd.R_new' ho1 (Kd.R_lt (by (with_reducible repeat (first | apply Kd.R_alloc | apply Kd.R_drewN | apply Kd.R_drew)); exact (Kd.R_mono (Kd.R_far (p := ⟨gb662, 1, none⟩) (Kd.R_far (p := ⟨gb662, 0, none⟩) (Kd.R_types HO659.out BK662.out (by decide)) (fun _ hk => hk.2) (.slice Ao111 t654.length co111)) (fun _ hk => hk.2) (.slice Ao113 t657.length co113)) (fun _ h_ => h_.1))))) (below_size (by repeat (first | (with_reducible first | exact HB.out | apply below_alloc | apply pw_below_drewN | apply below_drew1 | refine below_set ?_ GE662.out) | exact HB.out)))); have n5_ := Aside0.mk (blk_below (g := gb662) (o := .cells #[.slice Ao111 t654.length co111, .slice Ao113 t657.length co113] 29 (0, 0)) (by (with_reducible repeat (first | refine blk_drewN ?_ _ | refine blk_drew ?_ | refine blk_alloc ?_ _)); refine blk_put (cs := #[.slice Ao111 t654.length co111, .slice none 0 0]) ?_ 1 _ rfl; (with_reducible repeat (first | refine blk_drewN ?_ _ | refine blk_drew ?_ | refine blk_alloc ?_ _)); refine blk_put (cs := #[.slice none 0 0, .slice none 0 0]) ?_ 0 _ rfl; (with_reducible repeat (first | refine blk_drewN ?_ _ | refine blk_drew ?_ | refine blk_alloc ?_ _)); exact BK662.out) hb); have n6_ := Aside0.mk (below_step (by repeat (first | (with_reducible first | exact HB.out | apply below_alloc | apply pw_below_drewN | apply below_drew1 | refine below_set ?_ GE662.out) | exact HB.out)) hb); clear HO653; clear HO656; clear HO659; clear BK662; clear HB; have HO653 := n0_; have HO656 := n1_; have HO659 := n2_; have HO665 := n3_; have HO668 := n4_; have BK662 := n5_; have HB := n6_; clear n0_ n1_ n2_ n3_ n4_ n5_ n6_; (try clear hb); (try clear hb2); (try clear hk); (try clear hi); (try clear ho0); (try clear ho1)) | ((with_reducible refine gate_dst (N := 6) rfl ?_); refine box_event ?hg (N := 6) ?hd (cs := #[.slice none 0 0, .slice none 0 0]) (t := 29) ?hr ?_; (case hd => rfl); (case hg => rfl); (case hr => first | (go_simp; done) | (go_simp; rfl)); intro gb671 hg w115 hbox hb; have n0_ := Aside0.mk (Kd.R_below (by (with_reducible repeat (first | apply Kd.R_alloc | apply Kd.R_drewN | apply Kd.R_drew)); exact HO653.out) hb); have n1_ := Aside0.mk (Kd.R_below (by (with_reducible repeat (first | apply Kd.R_alloc | apply Kd.R_drewN | apply Kd.R_drew)); exact HO656.out) hb); have n2_ := Aside0.mk (Kd.R_below (by (with_reducible repeat (first | apply Kd.R_alloc | apply Kd.R_drewN | apply Kd.R_drew)); exact HO659.out) hb); have n3_ := Aside0.mk (Kd.R_below (by (with_reducible repeat (first | apply Kd.R_alloc | apply Kd.R_drewN | apply Kd.R_drew)); exact HO665.out) hb); have n4_ := Aside0.mk (Kd.R_below (by (with_reducible repeat (first | apply Kd.R_alloc | apply Kd.R_drewN | apply Kd.R_drew)); exact HO668.out) hb); have n5_ := Aside0.mk (blk_below (g := gb662) (o := .cells #[.slice Ao111 t654.length co111, .slice Ao113 t657.length co113] 29 (0, 0)) (by (with_reducible repeat (first | refine blk_drewN ?_ _ | refine blk_drew ?_ | refine blk_alloc ?_ _)); exact BK662.out) hb); have n6_ := Aside0.mk (below_step (by repeat (first | (with_reducible first | exact HB.out | apply below_alloc | apply pw_below_drewN | apply below_drew1 | refine below_set ?_ GE662.out) | exact HB.out)) hb); have n7_ := Aside0.mk (hbox); have n8_ := Aside0.mk ((by rw [hg]; exact (below_size (by repeat (first | (with_reducible first | exact HB.out | apply below_alloc | apply pw_below_drewN | apply below_drew1 | refine below_set ?_ GE662.out) | exact HB.out))) : w.heap.size ≤ gb671)); have n9_ := Aside0.mk ((by rw [hg]; exact (below_size (by repeat (first | (with_reducible first | exact HB.out | apply below_alloc | apply pw_below_drewN | apply below_drew1 | refine below_set ?_ GE662.out) | exact HB.out))) : w.heap.size ≤ gb671)); have n10_ := Aside0.mk ((by rw [hg]; exact Nat.ne_of_lt (blk_lt (g := gb662) (o := .cells #[.slice Ao111 t654.length co111, .slice Ao113 t657.length co113] 29 (0, 0)) (by (with_reducible repeat (first | refine blk_drewN ?_ _ | refine blk_drew ?_ | refine blk_alloc ?_ _)); exact BK662.out)) : gb662 ≠ gb671)); have n11_ := Aside0.mk ((by rw [hg]; exact Nat.ne_of_gt (blk_lt (g := gb662) (o := .cells #[.slice Ao111 t654.length co111, .slice Ao113 t657.length co113] 29 (0, 0)) (by (with_reducible repeat (first | refine blk_drewN ?_ _ | refine blk_drew ?_ | refine blk_alloc ?_ _)); exact BK662.out)) : gb671 ≠ gb662)); clear HO653; clear HO656; clear HO659; clear HO665; clear HO668; clear BK662; clear HB; have HO653 := n0_; have HO656 := n1_; have HO659 := n2_; have HO665 := n3_; have HO668 := n4_; have BK662 := n5_; have HB := n6_; have BK671 := n7_; have GW671 := n8_; have GE671 := n9_; have NB662_671 := n10_; have NB671_662 := n11_; clear n0_ n1_ n2_ n3_ n4_ n5_ n6_ n7_ n8_ n9_ n10_ n11_; clear hb hbox hg; obtain ⟨Ao116, co116, eo116⟩ := Kd.R_slice HO665.out; subst eo116; have hnb117 := NB671_662.out; have hnc117 := NB662_671.out; have hcz118_0 : w115.cell? ⟨gb671, 0, none⟩ = some (.slice none 0 0) := (blk_cell BK671.out 0).trans rfl; have hcz118_1 : w115.cell? ⟨gb671, 1, none⟩ = some (.slice none 0 0) := (blk_cell BK671.out 1).trans rfl; have hfz118_0 := blk_frozen BK671.out 0; have hfz118_1 := blk_frozen BK671.out 1; obtain ⟨Ao119, co119, eo119⟩ := Kd.R_slice HO668.out; subst eo119) | ((with_reducible refine gate_callee (f := 41) rfl ?_); refine goesL_ (some 33) rfl rfl Try.func41 (by kernel_rfl) rfl #[.slice A0 l0.length c0] rfl (by (try simp only [List.map_toArray, List.map_cons, List.map_nil]); first | done | rfl | (simp only [List.length_drop, List.length_take]; rfl)) ?_; (with_reducible refine (frame_Row.calls k _ _ l0 t672 t673 _ ?side1 ?side2 A8.out).mono ?_); (case side1 => exact Kd.C_below HR0.out (by repeat (first | (with_reducible first | exact HB.out | apply below_alloc | apply pw_below_drewN | apply below_drew1 | refine below_set ?_ GE662.out | refine below_set ?_ GE671.out) | exact HB.out))); (case side2 => exact HC0.out); rintro e w120 ⟨v674, rfl, ho0, hb⟩; refine ⟨_, rfl, ?_⟩; have n0_ := Aside0.mk (Kd.R_below (by (with_reducible repeat (first | apply Kd.R_alloc | apply Kd.R_drewN | apply Kd.R_drew)); exact (Kd.R_mono (Kd.R_far (p := ⟨gb671, 1, none⟩) (Kd.R_far (p := ⟨gb671, 0, none⟩) (Kd.R_types HO653.out BK671.out (by decide)) (fun _ hk => hk.2) (.slice Ao116 t663.length co116)) (fun _ hk => hk.2) (.slice Ao119 t666.length co119)) (fun _ h_ => h_.1))) hb); have n1_ := Aside0.mk (Kd.R_below (by (with_reducible repeat (first | apply Kd.R_alloc | apply Kd.R_drewN | apply Kd.R_drew)); exact (Kd.R_mono (Kd.R_far (p := ⟨gb671, 1, none⟩) (Kd.R_far (p := ⟨gb671, 0, none⟩) (Kd.R_types HO656.out BK671.out (by decide)) (fun _ hk => hk.2) (.slice Ao116 t663.length co116)) (fun _ hk => hk.2) (.slice Ao119 t666.length co119)) (fun _ h_ => h_.1))) hb); have n2_ := Aside0.mk (Kd.R_below (by (with_reducible repeat (first | apply Kd.R_alloc | apply Kd.R_drewN | apply Kd.R_drew)); exact (Kd.R_mono (Kd.R_far (p := ⟨gb671, 1, none⟩) (Kd.R_far (p := ⟨gb671, 0, none⟩) (Kd.R_types HO659.out BK671.out (by decide)) (fun _ hk => hk.2) (.slice Ao116 t663.length co116)) (fun _ hk => hk.2) (.slice Ao119 t666.length co119)) (fun _ h_ => h_.1))) hb); have n3_ := Aside0.mk (Kd.R_below (by (with_reducible repeat (first | apply Kd.R_alloc | apply Kd.R_drewN | apply Kd.R_drew)); exact (Kd.R_mono (Kd.R_far (p := ⟨gb671, 1, none⟩) (Kd.R_far (p := ⟨gb671, 0, none⟩) (Kd.R_types HO665.out BK671.out (by decide)) (fun _ hk => hk.2) (.slice Ao116 t663.length co116)) (fun _ hk => hk.2) (.slice Ao119 t666.length co119)) (fun _ h_ => h_.1))) hb); have n4_ := Aside0.mk (Kd.R_below (by (with_reducible repeat (first | apply Kd.R_alloc | apply Kd.R_drewN | apply Kd.R_drew)); exact (Kd.R_mono (Kd.R_far (p := ⟨gb671, 1, none⟩) (Kd.R_far (p := ⟨gb671, 0, none⟩) (Kd.R_types HO668.out BK671.out (by decide)) (fun _ hk => hk.2) (.slice Ao116 t663.length co116)) (fun _ hk => hk.2) (.slice Ao119 t666.length co119)) (fun _ h_ => h_.1))) hb); have n5_ := Aside0.mk (Kd.S_lower (Kd.S_newB (Kd.S_newB (Kd.S_new' (Kd.S_new' (Kd.S_new' (Kd.S_new' ho0 (Kd.R_lt (by (with_reducible repeat (first | apply Kd.R_alloc | apply Kd.R_drewN | apply Kd.R_drew)); exact (Kd.R_mono (Kd.R_far (p := ⟨gb671, 1, none⟩) (Kd.R_far (p := ⟨gb671, 0, none⟩) (Kd.R_types HO656.out BK671.out (by decide)) (fun _ hk => hk.2) (.slice Ao116 t663.length co116)) (fun _ hk => hk.2) (.slice Ao119 t666.length co119)) (fun _ h_ => h_.1))))) (Kd.R_lt (by (with_reducible repeat (first | apply Kd.R_alloc | apply Kd.R_drewN | apply Kd.R_drew)); exact (Kd.R_mono (Kd.R_far (p := ⟨gb671, 1, none⟩) (Kd.R_far (p := ⟨gb671, 0, none⟩) (Kd.R_types HO659.out BK671.out (by decide)) (fun _ hk => hk.2) (.slice Ao116 t663.length co116)) (fun _ hk => hk.2) (.slice Ao119 t666.length co119)) (fun _ h_ => h_.1))))) (Kd.R_lt (by (with_reducible repeat (first | apply Kd.R_alloc | apply Kd.R_drewN | apply Kd.R_drew)); exact (Kd.R_mono (Kd.R_far (p := ⟨gb671, 1, none⟩) (Kd.R_far (p := ⟨gb671, 0, none⟩) (Kd.R_types HO665.out BK671.out (by decide)) (fun _ hk => hk.2) (.slice Ao116 t663.length co116)) (fun _ hk => hk.2) (.slice Ao119 t666.length co119)) (fun _ h_ => h_.1))))) (Kd.R_lt (by (with_reducible repeat (first | apply Kd.R_alloc | apply Kd.R_drewN | apply Kd.R_drew)); exact (Kd.R_mono (Kd.R_far (p := ⟨gb671, 1, none⟩) (Kd.R_far (p := ⟨gb671, 0, none⟩) (Kd.R_types HO668.out BK671.out (by decide)) (fun _ hk => hk.2) (.slice Ao116 t663.length co116)) (fun _ hk => hk.2) (.slice Ao119 t666.length co119)) (fun _ h_ => h_.1))))) (g := gb662) (o := .cells #[.slice Ao111 t654.length co111, .slice Ao113 t657.length co113] 29 (0, 0)) (by (with_reducible repeat (first | refine blk_drewN ?_ _ | refine blk_drew ?_ | refine blk_alloc ?_ _)); refine blk_far ?_ NB662_671.out _; (with_reducible repeat (first | refine blk_drewN ?_ _ | refine blk_drew ?_ | refine blk_alloc ?_ _)); refine blk_far ?_ NB662_671.out _; (with_reducible repeat (first | refine blk_drewN ?_ _ | refine blk_drew ?_ | refine blk_alloc ?_ _)); exact BK662.out)) (g := gb671) (o := .cells #[.slice Ao116 t663.length co116, .slice Ao119 t666.length co119] 29 (0, 0)) (by (with_reducible repeat (first | refine blk_drewN ?_ _ | refine blk_drew ?_ | refine blk_alloc ?_ _)); refine blk_put (cs := #[.slice Ao116 t663.length co116, .slice none 0 0]) ?_ 1 _ rfl; (with_reducible repeat (first | refine blk_drewN ?_ _ | refine blk_drew ?_ | refine blk_alloc ?_ _)); refine blk_put (cs := #[.slice none 0 0, .slice none 0 0]) ?_ 0 _ rfl; (with_reducible repeat (first | refine blk_drewN ?_ _ | refine blk_drew ?_ | refine blk_alloc ?_ _)); exact BK671.out)) (below_size (by repeat (first | (with_reducible first | exact HB.out | apply below_alloc | apply pw_below_drewN | apply below_drew1 | refine below_set ?_ GE662.out | refine below_set ?_ GE671.out) | exact HB.out)))); have n6_ := Aside0.mk (blk_below (g := gb662) (o := .cells #[.slice Ao111 t654.length co111, .slice Ao113 t657.length co113] 29 (0, 0)) (by (with_reducible repeat (first | refine blk_drewN ?_ _ | refine blk_drew ?_ | refine blk_alloc ?_ _)); refine blk_far ?_ NB662_671.out _; (with_reducible repeat (first | refine blk_drewN ?_ _ | refine blk_drew ?_ | refine blk_alloc ?_ _)); refine blk_far ?_ NB662_671.out _; (with_reducible repeat (first | refine blk_drewN ?_ _ | refine blk_drew ?_ | refine blk_alloc ?_ _)); exact BK662.out) hb); have n7_ := Aside0.mk (blk_below (g := gb671) (o := .cells #[.slice Ao116 t663.length co116, .slice Ao119 t666.length co119] 29 (0, 0)) (by (with_reducible repeat (first | refine blk_drewN ?_ _ | refine blk_drew ?_ | refine blk_alloc ?_ _)); refine blk_put (cs := #[.slice Ao116 t663.length co116, .slice none 0 0]) ?_ 1 _ rfl; (with_reducible repeat (first | refine blk_drewN ?_ _ | refine blk_drew ?_ | refine blk_alloc ?_ _)); refine blk_put (cs := #[.slice none 0 0, .slice none 0 0]) ?_ 0 _ rfl; (with_reducible repeat (first | refine blk_drewN ?_ _ | refine blk_drew ?_ | refine blk_alloc ?_ _)); exact BK671.out) hb); have n8_ := Aside0.mk (below_step (by repeat (first | (with_reducible first | exact HB.out | apply below_alloc | apply pw_below_drewN | apply below_drew1 | refine below_set ?_ GE662.out | refine below_set ?_ GE671.out) | exact HB.out)) hb); clear HO653; clear HO656; clear HO659; clear HO665; clear HO668; clear BK662; clear BK671; clear HB; have HO653 := n0_; have HO656 := n1_; have HO659 := n2_; have HO665 := n3_; have HO668 := n4_; have HO675 := n5_; have BK662 := n6_; have BK671 := n7_; have HB := n8_; clear n0_ n1_ n2_ n3_ n4_ n5_ n6_ n7_ n8_; (try clear hb); (try clear hb2); (try clear hk); (try clear hi); (try clear ho0)) | ((with_reducible refine gate_callee (f := 42) rfl ?_); refine goesL_ (some 38) rfl rfl Try.func42 (by kernel_rfl) rfl #[.slice A0 l0.length c0] rfl (by (try simp only [List.map_toArray, List.map_cons, List.map_nil]); first | done | rfl | (simp only [List.length_drop, List.length_take]; rfl)) ?_; (with_reducible refine (windroseref02_Row.calls k _ _ l0 t676 t677 _ ?side1 ?side2 A9.out).mono ?_); (case side1 => repeat (first | exact (Kd.C_below HR0.out HB.out) | (with_reducible refine Kd.C_alloc ?_ _) | (with_reducible refine Kd.C_drewN ?_ _) | (with_reducible refine Kd.C_drew ?_))); (case side2 => exact HC0.out); rintro e w121 ⟨v678, rfl, ho0, hb⟩; refine ⟨_, rfl, ?_⟩; have n0_ := Aside0.mk (Kd.R_below (by (with_reducible repeat (first | apply Kd.R_alloc | apply Kd.R_drewN | apply Kd.R_drew)); exact HO653.out) hb); have n1_ := Aside0.mk (Kd.R_below (by (with_reducible repeat (first | apply Kd.R_alloc | apply Kd.R_drewN | apply Kd.R_drew)); exact HO656.out) hb); have n2_ := Aside0.mk (Kd.R_below (by (with_reducible repeat (first | apply Kd.R_alloc | apply Kd.R_drewN | apply Kd.R_drew)); exact HO659.out) hb); have n3_ := Aside0.mk (Kd.R_below (by (with_reducible repeat (first | apply Kd.R_alloc | apply Kd.R_drewN | apply Kd.R_drew)); exact HO665.out) hb); have n4_ := Aside0.mk (Kd.R_below (by (with_reducible repeat (first | apply Kd.R_alloc | apply Kd.R_drewN | apply Kd.R_drew)); exact HO668.out) hb); have n5_ := Aside0.mk (Kd.S_elder' (by (with_reducible repeat (first | apply Kd.S_alloc | apply Kd.S_drewN | apply Kd.S_drew)); exact HO675.out) (Kd.S_base ho0) hb); have n6_ := Aside0.mk (Kd.S_lower (Kd.S_newB (Kd.S_newB (Kd.S_new' (Kd.S_new' (Kd.S_new' (Kd.S_new' (Kd.S_new' ho0 (Kd.R_lt (by (with_reducible repeat (first | apply Kd.R_alloc | apply Kd.R_drewN | apply Kd.R_drew)); exact HO656.out))) (Kd.R_lt (by (with_reducible repeat (first | apply Kd.R_alloc | apply Kd.R_drewN | apply Kd.R_drew)); exact HO659.out))) (Kd.R_lt (by (with_reducible repeat (first | apply Kd.R_alloc | apply Kd.R_drewN | apply Kd.R_drew)); exact HO665.out))) (Kd.R_lt (by (with_reducible repeat (first | apply Kd.R_alloc | apply Kd.R_drewN | apply Kd.R_drew)); exact HO668.out))) (Kd.S_lt (by (with_reducible repeat (first | apply Kd.S_alloc | apply Kd.S_drewN | apply Kd.S_drew)); exact HO675.out))) (g := gb662) (o := .cells #[.slice Ao111 t654.length co111, .slice Ao113 t657.length co113] 29 (0, 0)) (by (with_reducible repeat (first | refine blk_drewN ?_ _ | refine blk_drew ?_ | refine blk_alloc ?_ _)); exact BK662.out)) (g := gb671) (o := .cells #[.slice Ao116 t663.length co116, .slice Ao119 t666.length co119] 29 (0, 0)) (by (with_reducible repeat (first | refine blk_drewN ?_ _ | refine blk_drew ?_ | refine blk_alloc ?_ _)); exact BK671.out)) (below_size (by repeat (first | (with_reducible first | exact HB.out | apply below_alloc | apply pw_below_drewN | apply below_drew1 | refine below_set ?_ GE662.out | refine below_set ?_ GE671.out) | exact HB.out)))); have n7_ := Aside0.mk (blk_below (g := gb662) (o := .cells #[.slice Ao111 t654.length co111, .slice Ao113 t657.length co113] 29 (0, 0)) (by (with_reducible repeat (first | refine blk_drewN ?_ _ | refine blk_drew ?_ | refine blk_alloc ?_ _)); exact BK662.out) hb); have n8_ := Aside0.mk (blk_below (g := gb671) (o := .cells #[.slice Ao116 t663.length co116, .slice Ao119 t666.length co119] 29 (0, 0)) (by (with_reducible repeat (first | refine blk_drewN ?_ _ | refine blk_drew ?_ | refine blk_alloc ?_ _)); exact BK671.out) hb); have n9_ := Aside0.mk (below_step (by repeat (first | (with_reducible first | exact HB.out | apply below_alloc | apply pw_below_drewN | apply below_drew1 | refine below_set ?_ GE662.out | refine below_set ?_ GE671.out) | exact HB.out)) hb); clear HO653; clear HO656; clear HO659; clear HO665; clear HO668; clear HO675; clear BK662; clear BK671; clear HB; have HO653 := n0_; have HO656 := n1_; have HO659 := n2_; have HO665 := n3_; have HO668 := n4_; have HO675 := n5_; have HO679 := n6_; have BK662 := n7_; have BK671 := n8_; have HB := n9_; clear n0_ n1_ n2_ n3_ n4_ n5_ n6_ n7_ n8_ n9_; (try clear hb); (try clear hb2); (try clear hk); (try clear hi); (try clear ho0)))
          go_ret
          exact ⟨by first | rfl | (simp [errW_none, errW_some] <;> rfl) | (simp [*, errW_none, errW_some] <;> rfl), by repeat (first | (with_reducible first | exact HB.out | apply below_alloc | apply pw_below_drewN | apply below_drew1 | refine below_set ?_ GE662.out | refine below_set ?_ GE671.out) | exact HB.out)⟩
      · rw [if_neg c10] at H
        have c10b0 : (t661 == t670) = false := beq_eq_false_iff_ne.mpr c10
        have c10b1 : (t661 != t670) = true := bne_iff_ne.mpr c10
        obtain rfl := Option.some.inj H
        go_enter Try.func10, Try.ntmps10
        go_wp2_with (first | ((with_reducible refine gate_dst (N := 18) rfl ?_); refine Kd.R_lit (Kd.int .u8) _ 5 ?hg (N := 18) ?hd (xs := ([] : List Int)) (inner := []) (ok := fun _ => True) (okp := fun _ => True) ?hr ?hp (fun _ hk => hk) trivial (Below.refl _ _) (Nat.le_refl _) (by simp) ?_; (case hd => rfl); (case hg => rfl); (case hr => first | (go_simp; done) | (go_simp; rfl)); (case hp => exact (Reps.none _ _)); intro v649 w122 ho123 hb hg_ hnew_; clear hg_ hnew_; (first | rw [← Ny648.out] at ho123 | (simp only [Int.reduceToNat] at ho123; rw [← Ny648.out] at ho123)); have n0_ := Aside0.mk (Kd.R_lower ho123 (below_size (by repeat (first | (with_reducible first | exact HB.out | apply below_alloc | apply pw_below_drewN | apply below_drew1) | exact HB.out)))); have n1_ := Aside0.mk (below_step (by repeat (first | (with_reducible first | exact HB.out | apply below_alloc | apply pw_below_drewN | apply below_drew1) | exact HB.out)) hb); clear HB; have HO650 := n0_; have HB := n1_; clear n0_ n1_; clear hb ho123) | ((with_reducible refine gate_builtin (b := .append) (xs := #[.tmp 18, .tmp 19]) rfl ?_); at_builtin; refine Kd.R_append_rows (Kd.int .u8) (w0 := w) w.heap.size rfl (.tmp 18) (.tmp 19) 22 5 (.int .u8 0) 1 rfl Try.underlying22 info5 rfl (by decide) (by omega) v649 y648 l0 _ _ _ (fun _ => True) (fun _ => False) rfl rfl ?aO ?aR (fun _ _ h => h) (fun _ h => h.elim) ?aF ?aB ?aS ?aL ?_; (case aR => repeat (first | exact (Kd.C_below HR0.out HB.out) | (with_reducible refine Kd.C_alloc ?_ _) | (with_reducible refine Kd.C_drewN ?_ _) | (with_reducible refine Kd.C_drew ?_))); (case aB => exact (by repeat (first | (with_reducible first | exact HB.out | apply below_alloc | apply pw_below_drewN | apply below_drew1) | exact HB.out))); (case aF => exact (fun _ _ => trivial)); (case aO => exact (by (with_reducible repeat (first | apply Kd.R_alloc | apply Kd.R_drewN | apply Kd.R_drew)); exact HO650.out)); (case aS => exact (below_size (by repeat (first | (with_reducible first | exact HB.out | apply below_alloc | apply pw_below_drewN | apply below_drew1) | exact HB.out)))); (case aL => have := LMc5.out; omega); intro v652 w124 ho hb hg hat; rw [← Ny651.out] at ho; have n0_ := Aside0.mk (hb); have n1_ := Aside0.mk (ho); clear HB; clear HO650; have HB := n0_; have HO653 := n1_; clear n0_ n1_; clear ho hb hg hat; obtain ⟨Ao125, co125, eo125⟩ := Kd.R_slice HO653.out; subst eo125) | ((with_reducible refine gate_callee (f := 39) rfl ?_); refine goesL_ (some 21) rfl rfl Try.func39 (by kernel_rfl) rfl #[.slice Ao125 y651.length co125] rfl (by (try simp only [List.map_toArray, List.map_cons, List.map_nil]); first | done | rfl | (simp only [List.length_drop, List.length_take]; rfl)) ?_; (with_reducible refine (frame_First.calls k _ _ y651 t654 t657 t660 t661 _ ?side1 ?side2 A6.out).mono ?_); (case side1 => repeat (first | exact (Kd.R_reads' HO653.out).2.2 | (with_reducible refine Kd.C_alloc ?_ _) | (with_reducible refine Kd.C_drewN ?_ _) | (with_reducible refine Kd.C_drew ?_))); (case side2 => exact (Kd.R_reads' HO653.out).2.1); rintro e w126 ⟨v655, v658, rfl, ho0, ho1, hb⟩; refine ⟨_, rfl, ?_⟩; have n0_ := Aside0.mk (Kd.R_below (by (with_reducible repeat (first | apply Kd.R_alloc | apply Kd.R_drewN | apply Kd.R_drew)); exact HO653.out) hb); have n1_ := Aside0.mk (Kd.R_lower ho0 (below_size (by repeat (first | (with_reducible first | exact HB.out | apply below_alloc | apply pw_below_drewN | apply below_drew1) | exact HB.out)))); have n2_ := Aside0.mk (Kd.R_lower ho1 (below_size (by repeat (first | (with_reducible first | exact HB.out | apply below_alloc | apply pw_below_drewN | apply below_drew1) | exact HB.out)))); have n3_ := Aside0.mk (below_step (by repeat (first | (with_reducible first | exact HB.out | apply below_alloc | apply pw_below_drewN | apply below_drew1) | exact HB.out)) hb); clear HO653; clear HB; have HO653 := n0_; have HO656 := n1_; have HO659 := n2_; have HB := n3_; clear n0_ n1_ n2_ n3_; (try clear hb); (try clear hb2); (try clear hk); (try clear hi); (try clear ho0); (try clear ho1)) | ((with_reducible refine gate_dst (N := 3) rfl ?_); refine box_event ?hg (N := 3) ?hd (cs := #[.slice none 0 0, .slice none 0 0]) (t := 29) ?hr ?_; (case hd => rfl); (case hg => rfl); (case hr => first | (go_simp; done) | (go_simp; rfl)); intro gb662 hg w127 hbox hb; have n0_ := Aside0.mk (Kd.R_below (by (with_reducible repeat (first | apply Kd.R_alloc | apply Kd.R_drewN | apply Kd.R_drew)); exact HO653.out) hb); have n1_ := Aside0.mk (Kd.R_below (by (with_reducible repeat (first | apply Kd.R_alloc | apply Kd.R_drewN | apply Kd.R_drew)); exact HO656.out) hb); have n2_ := Aside0.mk (Kd.R_below (by (with_reducible repeat (first | apply Kd.R_alloc | apply Kd.R_drewN | apply Kd.R_drew)); exact HO659.out) hb); have n3_ := Aside0.mk (below_step (by repeat (first | (with_reducible first | exact HB.out | apply below_alloc | apply pw_below_drewN | apply below_drew1) | exact HB.out)) hb); have n4_ := Aside0.mk (hbox); have n5_ := Aside0.mk ((by rw [hg]; exact (below_size (by repeat (first | (with_reducible first | exact HB.out | apply below_alloc | apply pw_below_drewN | apply below_drew1) | exact HB.out))) : w.heap.size ≤ gb662)); have n6_ := Aside0.mk ((by rw [hg]; exact (below_size (by repeat (first | (with_reducible first | exact HB.out | apply below_alloc | apply pw_below_drewN | apply below_drew1) | exact HB.out))) : w.heap.size ≤ gb662)); clear HO653; clear HO656; clear HO659; clear HB; have HO653 := n0_; have HO656 := n1_; have HO659 := n2_; have HB := n3_; have BK662 := n4_; have GW662 := n5_; have GE662 := n6_; clear n0_ n1_ n2_ n3_ n4_ n5_ n6_; clear hb hbox hg; obtain ⟨Ao128, co128, eo128⟩ := Kd.R_slice HO656.out; subst eo128; have hcz129_0 : w127.cell? ⟨gb662, 0, none⟩ = some (.slice none 0 0) := (blk_cell BK662.out 0).trans rfl; have hcz129_1 : w127.cell? ⟨gb662, 1, none⟩ = some (.slice none 0 0) := (blk_cell BK662.out 1).trans rfl; have hfz129_0 := blk_frozen BK662.out 0; have hfz129_1 := blk_frozen BK662.out 1; obtain ⟨Ao130, co130, eo130⟩ := Kd.R_slice HO659.out; subst eo130) | ((with_reducible refine gate_callee (f := 40) rfl ?_); refine goesL_ (some 27) rfl rfl Try.func40 (by kernel_rfl) rfl #[.slice A0 l0.length c0] rfl (by (try simp only [List.map_toArray, List.map_cons, List.map_nil]); first | done | rfl | (simp only [List.length_drop, List.length_take]; rfl)) ?_; (with_reducible refine (windroseref02_First.calls k _ _ l0 t663 t666 t669 t670 _ ?side1 ?side2 A7.out).mono ?_); (case side1 => exact Kd.C_below HR0.out (by repeat (first | (with_reducible first | exact HB.out | apply below_alloc | apply pw_below_drewN | apply below_drew1 | refine below_set ?_ GE662.out) | exact HB.out))); (case side2 => exact HC0.out); rintro e w131 ⟨v664, v667, rfl, ho0, ho1, hb⟩; refine ⟨_, rfl, ?_⟩; have n0_ := Aside0.mk (Kd.R_below (by (with_reducible repeat (first | apply Kd.R_alloc | apply Kd.R_drewN | apply Kd.R_drew)); exact (Kd.R_mono (Kd.R_far (p := ⟨gb662, 1, none⟩) (Kd.R_far (p := ⟨gb662, 0, none⟩) (Kd.R_types HO653.out BK662.out (by decide)) (fun _ hk => hk.2) (.slice Ao128 t654.length co128)) (fun _ hk => hk.2) (.slice Ao130 t657.length co130)) (fun _ h_ => h_.1))) hb); have n1_ := Aside0.mk (Kd.R_elder' (by (with_reducible repeat (first | apply Kd.R_alloc | apply Kd.R_drewN | apply Kd.R_drew)); exact (Kd.R_mono (Kd.R_far (p := ⟨gb662, 1, none⟩) (Kd.R_far (p := ⟨gb662, 0, none⟩) (Kd.R_types HO656.out BK662.out (by decide)) (fun _ hk => hk.2) (.slice Ao128 t654.length co128)) (fun _ hk => hk.2) (.slice Ao130 t657.length co130)) (fun _ h_ => h_.1))) (Kd.R_base ho0) hb); have n2_ := Aside0.mk (Kd.R_elder' (by (with_reducible repeat (first | apply Kd.R_alloc | apply Kd.R_drewN | apply Kd.R_drew)); exact (Kd.R_mono (Kd.R_far (p := ⟨gb662, 1, none⟩) (Kd.R_far (p := ⟨gb662, 0, none⟩) (Kd.R_types HO659.out BK662.out (by decide)) (fun _ hk => hk.2) (.slice Ao128 t654.length co128)) (fun _ hk => hk.2) (.slice Ao130 t657.length co130)) (fun _ h_ => h_.1))) (Kd.R_base ho1) hb); have n3_ := Aside0.mk (Kd.R_lower (Kd.R_new' ho0 (Kd.R_lt (by (with_reducible repeat (first | apply Kd.R_alloc | apply Kd.R_drewN | apply Kd.R_drew)); exact (Kd.R_mono (Kd.R_far (p := ⟨gb662, 1, none⟩) (Kd.R_far (p := ⟨gb662, 0, none⟩) (Kd.R_types HO656.out BK662.out (by decide)) (fun _ hk => hk.2) (.slice Ao128 t654.length co128)) (fun _ hk => hk.2) (.slice Ao130 t657.length co130)) (fun _ h_ => h_.1))))) (below_size (by repeat (first | (with_reducible first | exact HB.out | apply below_alloc | apply pw_below_drewN | apply below_drew1 | refine below_set ?_ GE662.out) | exact HB.out)))); have n4_ := Aside0.mk (Kd.R_lower (Kd.R_new' ho1 (Kd.R_lt (by (with_reducible repeat (first | apply Kd.R_alloc | apply Kd.R_drewN | apply Kd.R_drew)); exact (Kd.R_mono (Kd.R_far (p := ⟨gb662, 1, none⟩) (Kd.R_far (p := ⟨gb662, 0, none⟩) (Kd.R_types HO659.out BK662.out (by decide)) (fun _ hk => hk.2) (.slice Ao128 t654.length co128)) (fun _ hk => hk.2) (.slice Ao130 t657.length co130)) (fun _ h_ => h_.1))))) (below_size (by repeat (first | (with_reducible first | exact HB.out | apply below_alloc | apply pw_below_drewN | apply below_drew1 | refine below_set ?_ GE662.out) | exact HB.out)))); have n5_ := Aside0.mk (blk_below (g := gb662) (o := .cells #[.slice Ao128 t654.length co128, .slice Ao130 t657.length co130] 29 (0, 0)) (by (with_reducible repeat (first | refine blk_drewN ?_ _ | refine blk_drew ?_ | refine blk_alloc ?_ _)); refine blk_put (cs := #[.slice Ao128 t654.length co128, .slice none 0 0]) ?_ 1 _ rfl; (with_reducible repeat (first | refine blk_drewN ?_ _ | refine blk_drew ?_ | refine blk_alloc ?_ _)); refine blk_put (cs := #[.slice none 0 0, .slice none 0 0]) ?_ 0 _ rfl; (with_reducible repeat (first | refine blk_drewN ?_ _ | refine blk_drew ?_ | refine blk_alloc ?_ _)); exact BK662.out) hb); have n6_ := Aside0.mk (below_step (by repeat (first | (with_reducible first | exact HB.out | apply below_alloc | apply pw_below_drewN | apply below_drew1 | refine below_set ?_ GE662.out) | exact HB.out)) hb); clear HO653; clear HO656; clear HO659; clear BK662; clear HB; have HO653 := n0_; have HO656 := n1_; have HO659 := n2_; have HO665 := n3_; have HO668 := n4_; have BK662 := n5_; have HB := n6_; clear n0_ n1_ n2_ n3_ n4_ n5_ n6_; (try clear hb); (try clear hb2); (try clear hk); (try clear hi); (try clear ho0); (try clear ho1)) | ((with_reducible refine gate_dst (N := 6) rfl ?_); refine box_event ?hg (N := 6) ?hd (cs := #[.slice none 0 0, .slice none 0 0]) (t := 29) ?hr ?_; (case hd => rfl); (case hg => rfl); (case hr => first | (go_simp; done) | (go_simp; rfl)); intro gb671 hg w132 hbox hb; have n0_ := Aside0.mk (Kd.R_below (by (with_reducible repeat (first | apply Kd.R_alloc | apply Kd.R_drewN | apply Kd.R_drew)); exact HO653.out) hb); have n1_ := Aside0.mk (Kd.R_below (by (with_reducible repeat (first | apply Kd.R_alloc | apply Kd.R_drewN | apply Kd.R_drew)); exact HO656.out) hb); have n2_ := Aside0.mk (Kd.R_below (by (with_reducible repeat (first | apply Kd.R_alloc | apply Kd.R_drewN | apply Kd.R_drew)); exact HO659.out) hb); have n3_ := Aside0.mk (Kd.R_below (by (with_reducible repeat (first | apply Kd.R_alloc | apply Kd.R_drewN | apply Kd.R_drew)); exact HO665.out) hb); have n4_ := Aside0.mk (Kd.R_below (by (with_reducible repeat (first | apply Kd.R_alloc | apply Kd.R_drewN | apply Kd.R_drew)); exact HO668.out) hb); have n5_ := Aside0.mk (blk_below (g := gb662) (o := .cells #[.slice Ao128 t654.length co128, .slice Ao130 t657.length co130] 29 (0, 0)) (by (with_reducible repeat (first | refine blk_drewN ?_ _ | refine blk_drew ?_ | refine blk_alloc ?_ _)); exact BK662.out) hb); have n6_ := Aside0.mk (below_step (by repeat (first | (with_reducible first | exact HB.out | apply below_alloc | apply pw_below_drewN | apply below_drew1 | refine below_set ?_ GE662.out) | exact HB.out)) hb); have n7_ := Aside0.mk (hbox); have n8_ := Aside0.mk ((by rw [hg]; exact (below_size (by repeat (first | (with_reducible first | exact HB.out | apply below_alloc | apply pw_below_drewN | apply below_drew1 | refine below_set ?_ GE662.out) | exact HB.out))) : w.heap.size ≤ gb671)); have n9_ := Aside0.mk ((by rw [hg]; exact (below_size (by repeat (first | (with_reducible first | exact HB.out | apply below_alloc | apply pw_below_drewN | apply below_drew1 | refine below_set ?_ GE662.out) | exact HB.out))) : w.heap.size ≤ gb671)); have n10_ := Aside0.mk ((by rw [hg]; exact Nat.ne_of_lt (blk_lt (g := gb662) (o := .cells #[.slice Ao128 t654.length co128, .slice Ao130 t657.length co130] 29 (0, 0)) (by (with_reducible repeat (first | refine blk_drewN ?_ _ | refine blk_drew ?_ | refine blk_alloc ?_ _)); exact BK662.out)) : gb662 ≠ gb671)); have n11_ := Aside0.mk ((by rw [hg]; exact Nat.ne_of_gt (blk_lt (g := gb662) (o := .cells #[.slice Ao128 t654.length co128, .slice Ao130 t657.length co130] 29 (0, 0)) (by (with_reducible repeat (first | refine blk_drewN ?_ _ | refine blk_drew ?_ | refine blk_alloc ?_ _)); exact BK662.out)) : gb671 ≠ gb662)); clear HO653; clear HO656; clear HO659; clear HO665; clear HO668; clear BK662; clear HB; have HO653 := n0_; have HO656 := n1_; have HO659 := n2_; have HO665 := n3_; have HO668 := n4_; have BK662 := n5_; have HB := n6_; have BK671 := n7_; have GW671 := n8_; have GE671 := n9_; have NB662_671 := n10_; have NB671_662 := n11_; clear n0_ n1_ n2_ n3_ n4_ n5_ n6_ n7_ n8_ n9_ n10_ n11_; clear hb hbox hg; obtain ⟨Ao133, co133, eo133⟩ := Kd.R_slice HO665.out; subst eo133; have hnb134 := NB671_662.out; have hnc134 := NB662_671.out; have hcz135_0 : w132.cell? ⟨gb671, 0, none⟩ = some (.slice none 0 0) := (blk_cell BK671.out 0).trans rfl; have hcz135_1 : w132.cell? ⟨gb671, 1, none⟩ = some (.slice none 0 0) := (blk_cell BK671.out 1).trans rfl; have hfz135_0 := blk_frozen BK671.out 0; have hfz135_1 := blk_frozen BK671.out 1; obtain ⟨Ao136, co136, eo136⟩ := Kd.R_slice HO668.out; subst eo136) | ((with_reducible refine gate_callee (f := 41) rfl ?_); refine goesL_ (some 33) rfl rfl Try.func41 (by kernel_rfl) rfl #[.slice A0 l0.length c0] rfl (by (try simp only [List.map_toArray, List.map_cons, List.map_nil]); first | done | rfl | (simp only [List.length_drop, List.length_take]; rfl)) ?_; (with_reducible refine (frame_Row.calls k _ _ l0 t672 t673 _ ?side1 ?side2 A8.out).mono ?_); (case side1 => exact Kd.C_below HR0.out (by repeat (first | (with_reducible first | exact HB.out | apply below_alloc | apply pw_below_drewN | apply below_drew1 | refine below_set ?_ GE662.out | refine below_set ?_ GE671.out) | exact HB.out))); (case side2 => exact HC0.out); rintro e w137 ⟨v674, rfl, ho0, hb⟩; refine ⟨_, rfl, ?_⟩; have n0_ := Aside0.mk (Kd.R_below (by (with_reducible repeat (first | apply Kd.R_alloc | apply Kd.R_drewN | apply Kd.R_drew)); exact (Kd.R_mono (Kd.R_far (p := ⟨gb671, 1, none⟩) (Kd.R_far (p := ⟨gb671, 0, none⟩) (Kd.R_types HO653.out BK671.out (by decide)) (fun _ hk => hk.2) (.slice Ao133 t663.length co133)) (fun _ hk => hk.2) (.slice Ao136 t666.length co136)) (fun _ h_ => h_.1))) hb); have n1_ := Aside0.mk (Kd.R_below (by (with_reducible repeat (first | apply Kd.R_alloc | apply Kd.R_drewN | apply Kd.R_drew)); exact (Kd.R_mono (Kd.R_far (p := ⟨gb671, 1, none⟩) (Kd.R_far (p := ⟨gb671, 0, none⟩) (Kd.R_types HO656.out BK671.out (by decide)) (fun _ hk => hk.2) (.slice Ao133 t663.length co133)) (fun _ hk => hk.2) (.slice Ao136 t666.length co136)) (fun _ h_ => h_.1))) hb); have n2_ := Aside0.mk (Kd.R_below (by (with_reducible repeat (first | apply Kd.R_alloc | apply Kd.R_drewN | apply Kd.R_drew)); exact (Kd.R_mono (Kd.R_far (p := ⟨gb671, 1, none⟩) (Kd.R_far (p := ⟨gb671, 0, none⟩) (Kd.R_types HO659.out BK671.out (by decide)) (fun _ hk => hk.2) (.slice Ao133 t663.length co133)) (fun _ hk => hk.2) (.slice Ao136 t666.length co136)) (fun _ h_ => h_.1))) hb); have n3_ := Aside0.mk (Kd.R_below (by (with_reducible repeat (first | apply Kd.R_alloc | apply Kd.R_drewN | apply Kd.R_drew)); exact (Kd.R_mono (Kd.R_far (p := ⟨gb671, 1, none⟩) (Kd.R_far (p := ⟨gb671, 0, none⟩) (Kd.R_types HO665.out BK671.out (by decide)) (fun _ hk => hk.2) (.slice Ao133 t663.length co133)) (fun _ hk => hk.2) (.slice Ao136 t666.length co136)) (fun _ h_ => h_.1))) hb); have n4_ := Aside0.mk (Kd.R_below (by (with_reducible repeat (first | apply Kd.R_alloc | apply Kd.R_drewN | apply Kd.R_drew)); exact (Kd.R_mono (Kd.R_far (p := ⟨gb671, 1, none⟩) (Kd.R_far (p := ⟨gb671, 0, none⟩) (Kd.R_types HO668.out BK671.out (by decide)) (fun _ hk => hk.2) (.slice Ao133 t663.length co133)) (fun _ hk => hk.2) (.slice Ao136 t666.length co136)) (fun _ h_ => h_.1))) hb); have n5_ := Aside0.mk (Kd.S_lower (Kd.S_newB (Kd.S_newB (Kd.S_new' (Kd.S_new' (Kd.S_new' (Kd.S_new' ho0 (Kd.R_lt (by (with_reducible repeat (first | apply Kd.R_alloc | apply Kd.R_drewN | apply Kd.R_drew)); exact (Kd.R_mono (Kd.R_far (p := ⟨gb671, 1, none⟩) (Kd.R_far (p := ⟨gb671, 0, none⟩) (Kd.R_types HO656.out BK671.out (by decide)) (fun _ hk => hk.2) (.slice Ao133 t663.length co133)) (fun _ hk => hk.2) (.slice Ao136 t666.length co136)) (fun _ h_ => h_.1))))) (Kd.R_lt (by (with_reducible repeat (first | apply Kd.R_alloc | apply Kd.R_drewN | apply Kd.R_drew)); exact (Kd.R_mono (Kd.R_far (p := ⟨gb671, 1, none⟩) (Kd.R_far (p := ⟨gb671, 0, none⟩) (Kd.R_types HO659.out BK671.out (by decide)) (fun _ hk => hk.2) (.slice Ao133 t663.length co133)) (fun _ hk => hk.2) (.slice Ao136 t666.length co136)) (fun _ h_ => h_.1))))) (Kd.R_lt (by (with_reducible repeat (first | apply Kd.R_alloc | apply Kd.R_drewN | apply Kd.R_drew)); exact (Kd.R_mono (Kd.R_far (p := ⟨gb671, 1, none⟩) (Kd.R_far (p := ⟨gb671, 0, none⟩) (Kd.R_types HO665.out BK671.out (by decide)) (fun _ hk => hk.2) (.slice Ao133 t663.length co133)) (fun _ hk => hk.2) (.slice Ao136 t666.length co136)) (fun _ h_ => h_.1))))) (Kd.R_lt (by (with_reducible repeat (first | apply Kd.R_alloc | apply Kd.R_drewN | apply Kd.R_drew)); exact (Kd.R_mono (Kd.R_far (p := ⟨gb671, 1, none⟩) (Kd.R_far (p := ⟨gb671, 0, none⟩) (Kd.R_types HO668.out BK671.out (by decide)) (fun _ hk => hk.2) (.slice Ao133 t663.length co133)) (fun _ hk => hk.2) (.slice Ao136 t666.length co136)) (fun _ h_ => h_.1))))) (g := gb662) (o := .cells #[.slice Ao128 t654.length co128, .slice Ao130 t657.length co130] 29 (0, 0)) (by (with_reducible repeat (first | refine blk_drewN ?_ _ | refine blk_drew ?_ | refine blk_alloc ?_ _)); refine blk_far ?_ NB662_671.out _; (with_reducible repeat (first | refine blk_drewN ?_ _ | refine blk_drew ?_ | refine blk_alloc ?_ _)); refine blk_far ?_ NB662_671.out _; (with_reducible repeat (first | refine blk_drewN ?_ _ | refine blk_drew ?_ | refine blk_alloc ?_ _)); exact BK662.out)) (g := gb671) (o := .cells #[.slice Ao133 t663.length co133, .slice Ao136 t666.length co136] 29 (0, 0)) (by (with_reducible repeat (first | refine blk_drewN ?_ _ | refine blk_drew ?_ | refine blk_alloc ?_ _)); refine blk_put (cs := #[.slice Ao133 t663.length co133, .slice none 0 0]) ?_ 1 _ rfl; (with_reducible repeat (first | refine blk_drewN ?_ _ | refine blk_drew ?_ | refine blk_alloc ?_ _)); refine blk_put (cs := #[.slice none 0 0, .slice none 0 0]) ?_ 0 _ rfl; (with_reducible repeat (first | refine blk_drewN ?_ _ | refine blk_drew ?_ | refine blk_alloc ?_ _)); exact BK671.out)) (below_size (by repeat (first | (with_reducible first | exact HB.out | apply below_alloc | apply pw_below_drewN | apply below_drew1 | refine below_set ?_ GE662.out | refine below_set ?_ GE671.out) | exact HB.out)))); have n6_ := Aside0.mk (blk_below (g := gb662) (o := .cells #[.slice Ao128 t654.length co128, .slice Ao130 t657.length co130] 29 (0, 0)) (by (with_reducible repeat (first | refine blk_drewN ?_ _ | refine blk_drew ?_ | refine blk_alloc ?_ _)); refine blk_far ?_ NB662_671.out _; (with_reducible repeat (first | refine blk_drewN ?_ _ | refine blk_drew ?_ | refine blk_alloc ?_ _)); refine blk_far ?_ NB662_671.out _; (with_reducible repeat (first | refine blk_drewN ?_ _ | refine blk_drew ?_ | refine blk_alloc ?_ _)); exact BK662.out) hb); have n7_ := Aside0.mk (blk_below (g := gb671) (o := .cells #[.slice Ao133 t663.length co133, .slice Ao136 t666.length co136] 29 (0, 0)) (by (with_reducible repeat (first | refine blk_drewN ?_ _ | refine blk_drew ?_ | refine blk_alloc ?_ _)); refine blk_put (cs := #[.slice Ao133 t663.length co133, .slice none 0 0]) ?_ 1 _ rfl; (with_reducible repeat (first | refine blk_drewN ?_ _ | refine blk_drew ?_ | refine blk_alloc ?_ _)); refine blk_put (cs := #[.slice none 0 0, .slice none 0 0]) ?_ 0 _ rfl; (with_reducible repeat (first | refine blk_drewN ?_ _ | refine blk_drew ?_ | refine blk_alloc ?_ _)); exact BK671.out) hb); have n8_ := Aside0.mk (below_step (by repeat (first | (with_reducible first | exact HB.out | apply below_alloc | apply pw_below_drewN | apply below_drew1 | refine below_set ?_ GE662.out | refine below_set ?_ GE671.out) | exact HB.out)) hb); clear HO653; clear HO656; clear HO659; clear HO665; clear HO668; clear BK662; clear BK671; clear HB; have HO653 := n0_; have HO656 := n1_; have HO659 := n2_; have HO665 := n3_; have HO668 := n4_; have HO675 := n5_; have BK662 := n6_; have BK671 := n7_; have HB := n8_; clear n0_ n1_ n2_ n3_ n4_ n5_ n6_ n7_ n8_; (try clear hb); (try clear hb2); (try clear hk); (try clear hi); (try clear ho0)) | ((with_reducible refine gate_callee (f := 42) rfl ?_); refine goesL_ (some 38) rfl rfl Try.func42 (by kernel_rfl) rfl #[.slice A0 l0.length c0] rfl (by (try simp only [List.map_toArray, List.map_cons, List.map_nil]); first | done | rfl | (simp only [List.length_drop, List.length_take]; rfl)) ?_; (with_reducible refine (windroseref02_Row.calls k _ _ l0 t676 t677 _ ?side1 ?side2 A9.out).mono ?_); (case side1 => repeat (first | exact (Kd.C_below HR0.out HB.out) | (with_reducible refine Kd.C_alloc ?_ _) | (with_reducible refine Kd.C_drewN ?_ _) | (with_reducible refine Kd.C_drew ?_))); (case side2 => exact HC0.out); rintro e w138 ⟨v678, rfl, ho0, hb⟩; refine ⟨_, rfl, ?_⟩; have n0_ := Aside0.mk (Kd.R_below (by (with_reducible repeat (first | apply Kd.R_alloc | apply Kd.R_drewN | apply Kd.R_drew)); exact HO653.out) hb); have n1_ := Aside0.mk (Kd.R_below (by (with_reducible repeat (first | apply Kd.R_alloc | apply Kd.R_drewN | apply Kd.R_drew)); exact HO656.out) hb); have n2_ := Aside0.mk (Kd.R_below (by (with_reducible repeat (first | apply Kd.R_alloc | apply Kd.R_drewN | apply Kd.R_drew)); exact HO659.out) hb); have n3_ := Aside0.mk (Kd.R_below (by (with_reducible repeat (first | apply Kd.R_alloc | apply Kd.R_drewN | apply Kd.R_drew)); exact HO665.out) hb); have n4_ := Aside0.mk (Kd.R_below (by (with_reducible repeat (first | apply Kd.R_alloc | apply Kd.R_drewN | apply Kd.R_drew)); exact HO668.out) hb); have n5_ := Aside0.mk (Kd.S_elder' (by (with_reducible repeat (first | apply Kd.S_alloc | apply Kd.S_drewN | apply Kd.S_drew)); exact HO675.out) (Kd.S_base ho0) hb); have n6_ := Aside0.mk (Kd.S_lower (Kd.S_newB (Kd.S_newB (Kd.S_new' (Kd.S_new' (Kd.S_new' (Kd.S_new' (Kd.S_new' ho0 (Kd.R_lt (by (with_reducible repeat (first | apply Kd.R_alloc | apply Kd.R_drewN | apply Kd.R_drew)); exact HO656.out))) (Kd.R_lt (by (with_reducible repeat (first | apply Kd.R_alloc | apply Kd.R_drewN | apply Kd.R_drew)); exact HO659.out))) (Kd.R_lt (by (with_reducible repeat (first | apply Kd.R_alloc | apply Kd.R_drewN | apply Kd.R_drew)); exact HO665.out))) (Kd.R_lt (by (with_reducible repeat (first | apply Kd.R_alloc | apply Kd.R_drewN | apply Kd.R_drew)); exact HO668.out))) (Kd.S_lt (by (with_reducible repeat (first | apply Kd.S_alloc | apply Kd.S_drewN | apply Kd.S_drew)); exact HO675.out))) (g := gb662) (o := .cells #[.slice Ao128 t654.length co128, .slice Ao130 t657.length co130] 29 (0, 0)) (by (with_reducible repeat (first | refine blk_drewN ?_ _ | refine blk_drew ?_ | refine blk_alloc ?_ _)); exact BK662.out)) (g := gb671) (o := .cells #[.slice Ao133 t663.length co133, .slice Ao136 t666.length co136] 29 (0, 0)) (by (with_reducible repeat (first | refine blk_drewN ?_ _ | refine blk_drew ?_ | refine blk_alloc ?_ _)); exact BK671.out)) (below_size (by repeat (first | (with_reducible first | exact HB.out | apply below_alloc | apply pw_below_drewN | apply below_drew1 | refine below_set ?_ GE662.out | refine below_set ?_ GE671.out) | exact HB.out)))); have n7_ := Aside0.mk (blk_below (g := gb662) (o := .cells #[.slice Ao128 t654.length co128, .slice Ao130 t657.length co130] 29 (0, 0)) (by (with_reducible repeat (first | refine blk_drewN ?_ _ | refine blk_drew ?_ | refine blk_alloc ?_ _)); exact BK662.out) hb); have n8_ := Aside0.mk (blk_below (g := gb671) (o := .cells #[.slice Ao133 t663.length co133, .slice Ao136 t666.length co136] 29 (0, 0)) (by (with_reducible repeat (first | refine blk_drewN ?_ _ | refine blk_drew ?_ | refine blk_alloc ?_ _)); exact BK671.out) hb); have n9_ := Aside0.mk (below_step (by repeat (first | (with_reducible first | exact HB.out | apply below_alloc | apply pw_below_drewN | apply below_drew1 | refine below_set ?_ GE662.out | refine below_set ?_ GE671.out) | exact HB.out)) hb); clear HO653; clear HO656; clear HO659; clear HO665; clear HO668; clear HO675; clear BK662; clear BK671; clear HB; have HO653 := n0_; have HO656 := n1_; have HO659 := n2_; have HO665 := n3_; have HO668 := n4_; have HO675 := n5_; have HO679 := n6_; have BK662 := n7_; have BK671 := n8_; have HB := n9_; clear n0_ n1_ n2_ n3_ n4_ n5_ n6_ n7_ n8_ n9_; (try clear hb); (try clear hb2); (try clear hk); (try clear hi); (try clear ho0)))
        go_ret
        exact ⟨by first | rfl | (simp [errW_none, errW_some] <;> rfl) | (simp [*, errW_none, errW_some] <;> rfl), by repeat (first | (with_reducible first | exact HB.out | apply below_alloc | apply pw_below_drewN | apply below_drew1 | refine below_set ?_ GE662.out | refine below_set ?_ GE671.out) | exact HB.out)⟩
    · rw [if_neg c5] at H
      exact absurd H (by simp)
end Go.Proofs.Ytlpohipneianjaa.G
end
section
set_option linter.unusedVariables false
set_option linter.unusedSimpArgs false
namespace Go.Proofs.YtlpohipneianjaaX
open Go Go.RowKit Go.Proofs.YtlpohipneianjaaW.PrintWords Go.ChangeShapes Go.WideShapes
def Rd (P : Program) (t : TypeId) {α : Type} (d : Kd α) (ok : α → Prop) : Prop :=
  ∀ {H : Type} (enc : TypeId × Value → H) (W : World) (base : Nat) (spare : Nat → Bool) (held : Bool) (fuel : Nat) (cs : List Value) (x : DataW H × List MemPlace),
    DataW.trod enc P W base spare held fuel t cs = some x → ∃ a, d.K W a cs ∧ ok a
def RdFs (P : Program) (L : List (TypeId × Nat)) (o e : Nat) {α : Type} (d : Kd α) (ok : α → Prop) : Prop :=
  ∀ {H : Type} (enc : TypeId × Value → H) (W : World) (base : Nat) (spare : Nat → Bool) (held : Bool) (fuel : Nat) (cs : List Value), cs.length = e →
    (∀ (i : Nat) (p : TypeId × Nat), L[i]? = some p → ∃ y, DataW.trod enc P W base spare held fuel p.1 ((cs.drop p.2).take (P.cellsOf p.1)) = some y) → ∃ a, d.K W a (cs.drop o) ∧ ok a
section
variable {P : Program} {t e : TypeId}
theorem Rd.int {k : IntKind} (ht : P.underlying t = some (.int k)) : Rd P t (Kd.int k) (fun n => (Lit.int k n).wf = true) := by
  intro H enc W base spare held fuel cs x h
  obtain ⟨n, rfl, _, hn⟩ := DataW.trod_int ht h
  exact ⟨n, rfl, hn⟩
theorem Rd.bool (ht : P.underlying t = some .bool) : Rd P t Kd.bool (fun _ => True) := by
  intro H enc W base spare held fuel cs x h
  obtain ⟨b, rfl, _⟩ := DataW.trod_bool ht h
  exact ⟨b, rfl, trivial⟩
theorem Rd.string (ht : P.underlying t = some .string) : Rd P t Kd.string (fun s => s.size ≤ maxLen) := by
  intro H enc W base spare held fuel cs x h
  obtain ⟨s, rfl, _, hs⟩ := DataW.trod_string ht h
  exact ⟨s, rfl, hs⟩
theorem cells_get {w : World} {base : Nat} {a : Addr} {n : Nat} {cs : List Value} (h : w.cells? base a n = some cs) : ∀ i u, cs[i]? = some u → w.cell? (a.add i) = some u := by
  intro i u hi
  obtain ⟨_, hl, hc⟩ := World.cells?_some h
  have hlt : i < cs.length := (List.getElem?_eq_some_iff.1 hi).1
  have := hc i (by omega)
  rw [hi] at this
  exact this
theorem Rd.slice {α : Type} {d : Kd α} {ok : α → Prop} (ht : P.underlying t = some (.slice e)) (he : P.cellsOf e = d.sz) (hd : Rd P e d ok) :
    Rd P t (Kd.slice e d) (fun l => l.length ≤ maxLen ∧ ∀ x ∈ l, ok x) := by
  intro H enc W base spare held fuel cs x h
  rcases Deep.open_slice ht h with ⟨rfl, _⟩ | ⟨a, len, cap, m, n, D, Pl, rfl, hb, hl, hm, hmm, rfl, hx⟩
  · exact ⟨[], ⟨none, 0, rfl, Nat.le_refl _, rfl, by simp, fun h0 => absurd h0 (Nat.lt_irrefl _)⟩, by simp [maxLen], fun x hx => by cases hx⟩
  · have hlm : len ≤ m := by rw [hmm]; split <;> omega
    have hall : ∀ i, i < len → ∃ y : α, (∃ c, W.cells? base (a.add (i * P.cellsOf e)) (P.cellsOf e) = some c ∧ d.K W y c) ∧ ok y := by
      intro i hi
      obtain ⟨c, h1, h2⟩ := hx i (by omega)
      obtain ⟨y, h3, h4⟩ := hd enc W base spare held n c _ h2
      exact ⟨y, ⟨c, h1, h3⟩, h4⟩
    have hlist : ∃ l : List α, l.length = len ∧ ∀ i y, l[i]? = some y → (∃ c, W.cells? base (a.add (i * P.cellsOf e)) (P.cellsOf e) = some c ∧ d.K W y c) ∧ ok y := by
      have key : ∀ k, k ≤ len → ∃ l : List α, l.length = k ∧ ∀ i y, l[i]? = some y → (∃ c, W.cells? base (a.add (i * P.cellsOf e)) (P.cellsOf e) = some c ∧ d.K W y c) ∧ ok y := by
        intro k
        induction k with
        | zero => exact fun _ => ⟨[], rfl, fun i y hy => by simp at hy⟩
        | succ k ih =>
          intro hk
          obtain ⟨l, hl1, hl2⟩ := ih (by omega)
          obtain ⟨y, hy⟩ := hall k (by omega)
          refine ⟨l ++ [y], by simp [hl1], fun i z hz => ?_⟩
          rcases Nat.lt_or_ge i l.length with hi | hi
          · rw [List.getElem?_append_left hi] at hz
            exact hl2 i z hz
          · rw [List.getElem?_append_right hi] at hz
            have h0 : i - l.length = 0 := by
              have := (List.getElem?_eq_some_iff.1 hz).1
              simp at this
              omega
            rw [h0] at hz
            simp at hz
            subst hz
            have : i = k := by omega
            subst this
            exact hy
      exact key len (Nat.le_refl _)
    obtain ⟨l, hl1, hl2⟩ := hlist
    refine ⟨l, ⟨some a, cap, by rw [hl1], by omega, rfl, by rw [hl1]; simp only [maxLen] at hm; omega, fun _ => ⟨a, rfl, fun j p hp => ?_⟩⟩, by omega, fun y hy => ?_⟩
    · obtain ⟨⟨c, h1, h2⟩, _⟩ := hl2 j p hp
      refine ⟨c, d.K_len h2, h2, fun i u hu => ?_⟩
      have := cells_get h1 i u hu
      rw [Deep.add_add, he] at this
      exact this
    · obtain ⟨i, hi, rfl⟩ := List.getElem_of_mem hy
      exact (hl2 i _ (List.getElem?_eq_getElem hi)).2
theorem RdFs.one {t o : Nat} {α : Type} {d : Kd α} {ok : α → Prop} (h : Rd P t d ok) : RdFs P [(t, o)] o (o + P.cellsOf t) d ok := by
  intro H enc W base spare held fuel cs hl hi
  obtain ⟨y, hy⟩ := hi 0 _ rfl
  obtain ⟨a, ha, hk⟩ := h enc W base spare held fuel _ _ hy
  rw [List.take_of_length_le (by simp [hl])] at ha
  exact ⟨a, ha, hk⟩
theorem RdFs.cons {t o e' : Nat} {L : List (TypeId × Nat)} {α β : Type} {d : Kd α} {d' : Kd β} {ok : α → Prop} {ok' : β → Prop} (h : Rd P t d ok) (hs : RdFs P L (o + P.cellsOf t) e' d' ok') :
    RdFs P ((t, o) :: L) o e' (Kd.pair d d') (fun x => ok x.1 ∧ ok' x.2) := by
  intro H enc W base spare held fuel cs hl hi
  obtain ⟨y, hy⟩ := hi 0 _ rfl
  obtain ⟨a, ha, hk⟩ := h enc W base spare held fuel _ _ hy
  obtain ⟨b, hb, hk'⟩ := hs enc W base spare held fuel cs hl (fun i p hp => hi (i + 1) p (by simpa using hp))
  refine ⟨(a, b), ⟨_, _, ?_, ha, hb⟩, hk, hk'⟩
  rw [← List.drop_drop]
  exact (List.take_append_drop _ _).symm
theorem Rd.struct {α β : Type} {d : Kd α} {ok : α → Prop} {fs : Array Field} (f : β → α) (g : α → β) (hg : ∀ a, f (g a) = a) (ht : P.underlying t = some (.struct fs))
    (h : RdFs P (fs.toList.map fun f => (f.type, f.offset)) 0 (P.cellsOf t) d ok) : Rd P t (Kd.iso d f) (fun x => ok (f x)) := by
  intro H enc W base spare held fuel cs x hx
  obtain ⟨xs, n, rfl, _, hl, hn, hi⟩ := DataW.trod_struct ht hx
  obtain ⟨a, ha, hk⟩ := h enc W base spare held n cs hl (fun i p hp => by
    rw [List.getElem?_map] at hp
    obtain ⟨f', hf', rfl⟩ := Option.map_eq_some_iff.1 hp
    have h1 := hi i f' (by simpa using hf')
    have hlt : i < xs.length := by
      have := (List.getElem?_eq_some_iff.1 hf').1
      simp at this
      omega
    rw [List.getElem?_eq_getElem hlt] at h1
    exact ⟨_, h1⟩)
  refine ⟨g a, ?_, by show ok (f (g a)); rw [hg]; exact hk⟩
  show d.K W (f (g a)) cs
  rw [hg]
  simpa using ha
theorem Rd.array {α β : Type} {d : Kd α} {ok : α → Prop} {n : Nat} (f : β → α) (g : α → β) (hg : ∀ a, f (g a) = a) (ht : P.underlying t = some (.array n e))
    (h : RdFs P ((List.range n).map fun i => (e, i * P.cellsOf e)) 0 (P.cellsOf t) d ok) : Rd P t (Kd.iso d f) (fun x => ok (f x)) := by
  intro H enc W base spare held fuel cs x hx
  obtain ⟨xs, m, rfl, _, hl, hn, hi⟩ := DataW.trod_array ht hx
  obtain ⟨a, ha, hk⟩ := h enc W base spare held m cs hl (fun i p hp => by
    rw [List.getElem?_map] at hp
    obtain ⟨j, hj, rfl⟩ := Option.map_eq_some_iff.1 hp
    obtain ⟨hlt, hj⟩ := List.getElem?_eq_some_iff.1 hj
    simp at hj hlt
    subst hj
    have h1 := hi i hlt
    rw [List.getElem?_eq_getElem (by omega)] at h1
    exact ⟨_, h1⟩)
  refine ⟨g a, ?_, by show ok (f (g a)); rw [hg]; exact hk⟩
  show d.K W (f (g a)) cs
  rw [hg]
  simpa using ha
end
end Go.Proofs.YtlpohipneianjaaX
end
section
set_option linter.unusedVariables false
namespace Go.Proofs.Ytlpohipneianjaa.Q
open Go Go.RowKit Go.Proofs.YtlpohipneianjaaW.PrintWords
theorem w64 {x : Int} (h : -9223372036854775808 ≤ x) (h' : x ≤ 9223372036854775807) : wrap64 x = x := by unfold wrap64; omega
theorem Ev.succ {α : Type} {g : Nat → Option α} {r : α} (K : Nat) (h : ∀ k, K ≤ k → g (k + 1) = some r) : Ev g r := by
  refine ⟨K + 1, fun k hk => ?_⟩
  obtain ⟨m, rfl⟩ : ∃ m, k = m + 1 := ⟨k - 1, by omega⟩
  exact h m (by omega)
theorem Ev.mk {α : Type} {g : Nat → Option α} {r : α} (K : Nat) (h : ∀ k, K ≤ k → g k = some r) : Ev g r := ⟨K, h⟩
theorem getD_mem {α : Type} (l : List α) (i : Nat) (d : α) (h : i < l.length) : l.getD i d ∈ l := by
  rw [List.getD_eq_getElem?_getD, List.getElem?_eq_getElem h]
  exact List.getElem_mem h
theorem drop_getD {α : Type} (l : List α) (i : Nat) (d : α) (h : i < l.length) : l.drop i = l.getD i d :: l.drop (i + 1) := by
  rw [List.drop_eq_getElem_cons h, List.getD_eq_getElem?_getD, List.getElem?_eq_getElem h]
  rfl
theorem tmod_nn {a b : Int} (h : 0 ≤ a) : Int.tmod a b = a % b := Int.tmod_eq_emod_of_nonneg h
theorem tdiv_nn {a b : Int} (h : 0 ≤ a) : Int.tdiv a b = a / b := Int.tdiv_eq_ediv_of_nonneg h
end Go.Proofs.Ytlpohipneianjaa.Q
end
section
namespace Go.Proofs.Ytlpohipneianjaa.Q
open Go Go.RowKit Go.Proofs.Ytlpohipneianjaa.G Go.Proofs.YtlpohipneianjaaW.PrintWords Go.Proofs.YtlpohipneianjaaW.PrintLast
theorem awake02_ev : (∃ K, ∀ k, K ≤ k → windroselaw02_awake.f k = some (true)) := by
  have h1 : frame_Encode.f 40 [5] [(⟨#[97]⟩ : ByteArray)] = some ([1, 10, 1, 1, 97], 0) := by decide +kernel
  have h2 : frame_Sum.f 200 [49, 50, 51, 52, 53, 54, 55, 56, 57] = some 783370361 := by decide +kernel
  refine ⟨200, fun k hk => ?_⟩
  unfold windroselaw02_awake.f
  rw [if_pos ⟨at_rounds (g := fun k => frame_Encode.f k [5] [(⟨#[97]⟩ : ByteArray)]) (fun k => frame_Encode.mono _ _ k) (by omega) h1, at_rounds (g := fun k => frame_Sum.f k [49, 50, 51, 52, 53, 54, 55, 56, 57]) (fun k => frame_Sum.mono _ k) hk h2⟩]
end Go.Proofs.Ytlpohipneianjaa.Q
end
section
set_option linter.unusedVariables false
namespace Go.Proofs.Ytlpohipneianjaa.Q
open Go Go.RowKit Go.Proofs.Ytlpohipneianjaa.G Go.Proofs.YtlpohipneianjaaW.PrintWords Go.Proofs.YtlpohipneianjaaW.PrintLast
def countS (u : Nat) : List Int := if h : u < 128 then [(u : Int)] else ((u % 128 + 128 : Nat) : Int) :: countS (u / 128)
termination_by u
decreasing_by omega
theorem countS_lt {u : Nat} (h : u < 128) : countS u = [(u : Int)] := by rw [countS, dif_pos h]
theorem countS_ge {u : Nat} (h : ¬ u < 128) : countS u = ((u % 128 + 128 : Nat) : Int) :: countS (u / 128) := by rw [countS, dif_neg h]
theorem countS_len (n : Nat) : ∀ u : Nat, u < 128 ^ (n + 1) → (countS u).length ≤ n + 1 := by
  induction n with
  | zero => intro u h; rw [countS_lt (by simpa using h)]; simp
  | succ n ih =>
    intro u h
    by_cases h1 : u < 128
    · rw [countS_lt h1]; simp
    · rw [countS_ge h1]
      have := ih (u / 128) (by rw [Nat.pow_succ] at h; omega)
      simp only [List.length_cons]
      omega
theorem countS_len10 {u : Nat} (h : u < 18446744073709551616) : (countS u).length ≤ 10 := countS_len 9 u (by omega)
theorem countS_pos (u : Nat) : 0 < (countS u).length := by
  by_cases h : u < 128
  · rw [countS_lt h]; simp
  · rw [countS_ge h]; simp
theorem refcount_ev (n : Nat) : ∀ u : Nat, u < 128 ^ (n + 1) → u < 18446744073709551616 → n ≤ 100 → (∃ K, ∀ k, K ≤ k → windroseref02_count.f k (u : Int) = some ((countS u))) := by
  induction n with
  | zero =>
    intro u h _ _
    have h1 : u < 128 := by simpa using h
    refine Ev.succ 0 fun k _ => ?_
    simp only [windroseref02_count.f]
    rw [if_pos (by omega), countS_lt h1]
    congr 2
    omega
  | succ n ih =>
    intro u h h64 hn
    by_cases h1 : u < 128
    · refine Ev.succ 0 fun k _ => ?_
      simp only [windroseref02_count.f]
      rw [if_pos (by omega), countS_lt h1]
      congr 2
      omega
    · have hl : u / 128 < 128 ^ (n + 1) := by rw [Nat.pow_succ] at h; omega
      obtain ⟨K, hK⟩ := ih (u / 128) hl (by omega) (by omega)
      have hlen := countS_len n (u / 128) hl
      refine Ev.succ K fun k hk => ?_
      simp only [windroseref02_count.f]
      have e1 : IntKind.u64.wrap (Int.tdiv (u : Int) 128) = ((u / 128 : Nat) : Int) := by
        rw [IntKind.wrap_u64, tdiv_nn (by omega)]; omega
      have e2 : IntKind.u64.wrap (Int.tmod (u : Int) 128 + 128) % 256 = ((u % 128 + 128 : Nat) : Int) := by
        rw [IntKind.wrap_u64, tmod_nn (by omega)]; omega
      rw [if_neg (by omega), Option.bind_some, e1, hK k hk, Option.bind_some, if_pos (by simp; omega), e2, countS_ge h1]
      rfl
theorem refcount {u : Nat} (h : u < 18446744073709551616) : (∃ K, ∀ k, K ≤ k → windroseref02_count.f k (u : Int) = some ((countS u))) := refcount_ev 9 u (by omega) h (by omega)
theorem refCount_ev (n : Nat) (h : n ≤ 9223372036854775807) : (∃ K, ∀ k, K ≤ k → windroseref02_Count.f k (n : Int) = some ((countS n))) := by
  obtain ⟨K, hK⟩ := refcount (u := n) (by omega)
  refine ⟨K, fun k hk => ?_⟩
  unfold windroseref02_Count.f
  rw [IntKind.wrap_u64, show (n : Int) % 18446744073709551616 = (n : Int) by omega, hK k hk]
  rfl
def zig (n : Int) : Nat := if 0 ≤ n then (2 * n).toNat else (2 * (-1 - n) + 1).toNat
theorem zig_lt {n : Int} (h : -9223372036854775808 ≤ n ∧ n ≤ 9223372036854775807) : zig n < 18446744073709551616 := by unfold zig; split <;> omega
theorem xor_ones {x : Nat} (h : x < 18446744073709551616) : x ^^^ 18446744073709551615 = 18446744073709551615 - x := by
  have e : (BitVec.ofNat 64 x ^^^ BitVec.allOnes 64).toNat = (~~~ BitVec.ofNat 64 x).toNat := by rw [BitVec.xor_allOnes]
  rw [BitVec.toNat_xor, BitVec.toNat_not, BitVec.toNat_allOnes, BitVec.toNat_ofNat, Nat.mod_eq_of_lt (by omega : x < 2 ^ 64)] at e
  exact e
theorem refNumber_ev {n : Int} (h : -9223372036854775808 ≤ n ∧ n ≤ 9223372036854775807) : (∃ K, ∀ k, K ≤ k → windroseref02_Number.f k n = some ((countS (zig n)))) := by
  obtain ⟨K, hK⟩ := refcount (zig_lt h)
  refine ⟨K, fun k hk => ?_⟩
  unfold windroseref02_Number.f
  by_cases h0 : 0 ≤ n
  · have e : IntKind.u64.wrap ((IntKind.u64.wrap n) * 2) = ((zig n : Nat) : Int) := by rw [IntKind.wrap_u64, IntKind.wrap_u64]; unfold zig; rw [if_pos h0]; omega
    rw [if_pos (by omega), e, hK k hk]
    rfl
  · have e : IntKind.u64.wrap ((IntKind.u64.wrap ((IntKind.u64.wrap (wrap64 ((-1) - n))) * 2)) + 1) = ((zig n : Nat) : Int) := by
      rw [w64 (by omega) (by omega), IntKind.wrap_u64, IntKind.wrap_u64, IntKind.wrap_u64]; unfold zig; rw [if_neg h0]; omega
    rw [if_neg (by omega), e, hK k hk]
    rfl
end Go.Proofs.Ytlpohipneianjaa.Q
end
section
set_option linter.unusedVariables false
namespace Go.Proofs.Ytlpohipneianjaa.Q
open Go Go.RowKit Go.Proofs.Ytlpohipneianjaa.G Go.Proofs.YtlpohipneianjaaW.PrintWords Go.Proofs.YtlpohipneianjaaW.PrintLast
def I64 (n : Int) : Prop := -9223372036854775808 ≤ n ∧ n ≤ 9223372036854775807
def encN (l : List Int) : List Int := l.flatMap fun n => countS (zig n)
def encT (l : List ByteArray) : List Int := l.flatMap fun s => countS s.size ++ bytesOf s
def enc (nums : List Int) (texts : List ByteArray) : List Int := countS nums.length ++ encN nums ++ countS texts.length ++ encT texts
def Held (nums : List Int) (texts : List ByteArray) : Prop := nums.length ≤ 9223372036854775807 ∧ (∀ n ∈ nums, I64 n) ∧ texts.length ≤ 9223372036854775807 ∧ ∀ s ∈ texts, s.size ≤ 9223372036854775807
theorem encN_cons (n : Int) (l : List Int) : encN (n :: l) = countS (zig n) ++ encN l := by simp [encN]
theorem encT_cons (s : ByteArray) (l : List ByteArray) : encT (s :: l) = countS s.size ++ bytesOf s ++ encT l := by simp [encT]
theorem rd_at (l : List Int) (i : Nat) (h : i < l.length) : l.drop i = rd l i :: l.drop (i + 1) := by rw [drop_getD l i 0 h]; rfl
theorem rdOf_at (l : List ByteArray) (i : Nat) (h : i < l.length) : l.drop i = rdOf ByteArray.empty l i :: l.drop (i + 1) := by rw [drop_getD l i ByteArray.empty h]; rfl
theorem rd_mem (l : List Int) (i : Nat) (h : i < l.length) : rd l i ∈ l := by simp only [rd, Int.toNat_natCast]; exact getD_mem l i 0 h
theorem rdOf_mem (l : List ByteArray) (i : Nat) (h : i < l.length) : rdOf ByteArray.empty l i ∈ l := by simp only [rdOf, Int.toNat_natCast]; exact getD_mem l i _ h
def CutOf (R B : List Int) : Prop := (B.length ≤ 4096 → R = B) ∧ (4096 < B.length → 4096 < R.length)
theorem bytes_texts (nums : List Int) (texts : List ByteArray) (hh : texts.length ≤ 9223372036854775807) (ht : ∀ s ∈ texts, s.size ≤ 9223372036854775807) (d : Nat) : ∀ (i : Nat) (acc : List Int), i + d = texts.length → acc.length ≤ 20000 →
    ∃ R, (∃ K, ∀ k, K ≤ k → windroseref02_Bytes.l1 k acc i nums texts = some (R)) ∧ CutOf R (acc ++ encT (texts.drop i)) := by
  induction d with
  | zero =>
    intro i acc hi ha
    refine ⟨acc, ⟨2, fun k hk => ?_⟩, by rw [List.drop_of_length_le (by omega)]; simp [CutOf, encT]⟩
    obtain ⟨k, rfl⟩ : ∃ m, k = m + 2 := ⟨k - 2, by omega⟩
    rw [windroseref02_Bytes.l1, if_neg (by omega), windroseref02_Bytes.j3, if_neg (by simp)]
  | succ d ih =>
    intro i acc hi ha
    have hd := rdOf_at texts i (by omega)
    have hm := ht _ (rdOf_mem texts i (by omega))
    generalize hs : rdOf ByteArray.empty texts i = s at hd hm
    obtain ⟨K0, h0⟩ := refCount_ev s.size hm
    have hcl := countS_len10 (u := s.size) (by omega)
    have e1 : wrap64 ((i : Int) + 1) = ((i + 1 : Nat) : Int) := by rw [w64] <;> omega
    rw [hd, encT_cons]
    have hbl := bytesOf_length s
    have hal : (acc ++ countS s.size).length = acc.length + (countS s.size).length := List.length_append
    by_cases c0 : acc.length < 5000
    · by_cases c1 : s.size > 5000
      · have hxs : (s.extract 0 5000).size = 5000 := by simp; omega
        have hxb := bytesOf_length (s.extract 0 5000)
        obtain ⟨R, ⟨K, hK⟩, hR⟩ := ih (i + 1) (acc ++ countS s.size ++ bytesOf (s.extract 0 5000)) (by omega) (by simp only [List.length_append] at *; omega)
        refine ⟨R, ⟨K + K0 + 2, fun k hk => ?_⟩, fun h => absurd h (by simp only [List.length_append] at *; omega), fun _ => hR.2 (by simp only [List.length_append] at *; omega)⟩
        obtain ⟨k, rfl⟩ : ∃ m, k = m + 2 := ⟨k - 2, by omega⟩
        rw [windroseref02_Bytes.l1, if_pos (by omega), decide_eq_true (by omega), windroseref02_Bytes.j3, if_pos rfl, if_pos (by omega), if_pos (by omega), hs, h0 k (by omega), Option.bind_some, if_pos (by omega), Option.bind_some, if_pos (by omega), if_pos (by omega), if_pos (by omega), e1]
        exact hK k (by omega)
      · obtain ⟨R, ⟨K, hK⟩, hR⟩ := ih (i + 1) (acc ++ countS s.size ++ bytesOf s) (by omega) (by simp only [List.length_append] at *; omega)
        refine ⟨R, ⟨K + K0 + 2, fun k hk => ?_⟩, by simpa only [List.append_assoc] using hR⟩
        obtain ⟨k, rfl⟩ : ∃ m, k = m + 2 := ⟨k - 2, by omega⟩
        rw [windroseref02_Bytes.l1, if_pos (by omega), decide_eq_true (by omega), windroseref02_Bytes.j3, if_pos rfl, if_pos (by omega), if_pos (by omega), hs, h0 k (by omega), Option.bind_some, if_pos (by omega), Option.bind_some, if_neg (by omega), if_pos (by omega), e1]
        exact hK k (by omega)
    · refine ⟨acc, ⟨2, fun k hk => ?_⟩, fun h => absurd h (by simp only [List.length_append] at *; omega), fun _ => by omega⟩
      obtain ⟨k, rfl⟩ : ∃ m, k = m + 2 := ⟨k - 2, by omega⟩
      rw [windroseref02_Bytes.l1, if_pos (by omega), decide_eq_false (by omega), windroseref02_Bytes.j3, if_neg (by simp)]
theorem bytes_j1 (nums : List Int) (texts : List ByteArray) (hh : Held nums texts) (acc : List Int) (ha : acc.length ≤ 19000) :
    ∃ R, (∃ K, ∀ k, K ≤ k → windroseref02_Bytes.j1 k acc nums texts = some (R)) ∧ CutOf R (acc ++ countS texts.length ++ encT texts) := by
  have h2 := hh.2.2.1
  have htl := countS_len10 (u := texts.length) (by omega)
  obtain ⟨K0, h0⟩ := refCount_ev texts.length h2
  obtain ⟨R, ⟨K, hK⟩, hR⟩ := bytes_texts nums texts hh.2.2.1 hh.2.2.2 texts.length 0 (acc ++ countS texts.length) (by omega) (by simp only [List.length_append]; omega)
  refine ⟨R, Ev.succ (K + K0) fun k hk => ?_, by simpa using hR⟩
  simp only [windroseref02_Bytes.j1]
  rw [h0 k (by omega), Option.bind_some, if_pos (by omega)]
  exact hK k (by omega)
theorem bytes_nums (nums : List Int) (texts : List ByteArray) (hh : Held nums texts) (d : Nat) : ∀ (i : Nat) (acc : List Int), i + d = nums.length → acc.length ≤ 18000 →
    ∃ R, (∃ K, ∀ k, K ≤ k → windroseref02_Bytes.l0 k acc i nums texts = some (R)) ∧ CutOf R (acc ++ encN (nums.drop i) ++ countS texts.length ++ encT texts) := by
  induction d with
  | zero =>
    intro i acc hi ha
    obtain ⟨R, ⟨K, hK⟩, hR⟩ := bytes_j1 nums texts hh acc (by omega)
    refine ⟨R, Ev.succ K fun k hk => ?_, by rw [List.drop_of_length_le (by omega)]; simpa [encN] using hR⟩
    simp only [windroseref02_Bytes.l0]
    rw [if_neg (by omega)]
    exact hK k hk
  | succ d ih =>
    intro i acc hi ha
    have hn1 := hh.1
    have hd := rd_at nums i (by omega)
    have hm := hh.2.1 _ (rd_mem nums i (by omega))
    generalize hs : rd nums i = n at hd hm
    obtain ⟨K0, h0⟩ := refNumber_ev hm
    have hcl := countS_len10 (zig_lt hm)
    have e1 : wrap64 ((i : Int) + 1) = ((i + 1 : Nat) : Int) := by rw [w64] <;> omega
    rw [hd, encN_cons]
    by_cases c0 : acc.length < 5000
    · obtain ⟨R, ⟨K, hK⟩, hR⟩ := ih (i + 1) (acc ++ countS (zig n)) (by omega) (by simp only [List.length_append]; omega)
      refine ⟨R, Ev.succ (K + K0) fun k hk => ?_, by simpa only [List.append_assoc] using hR⟩
      simp only [windroseref02_Bytes.l0]
      rw [if_pos (by omega), if_pos (by omega), if_pos (by omega), hs, h0 k (by omega), Option.bind_some, if_pos (by omega), e1]
      exact hK k (by omega)
    · obtain ⟨R, ⟨K, hK⟩, hR⟩ := bytes_j1 nums texts hh acc (by omega)
      refine ⟨R, Ev.succ K fun k hk => ?_, fun h => absurd h (by simp only [List.length_append] at *; omega), fun _ => hR.2 (by simp only [List.length_append] at *; omega)⟩
      simp only [windroseref02_Bytes.l0]
      rw [if_pos (by omega), if_neg (by omega)]
      exact hK k hk
theorem Bytes_ev (nums : List Int) (texts : List ByteArray) (hh : Held nums texts) : ∃ R, (∃ K, ∀ k, K ≤ k → windroseref02_Bytes.f k nums texts = some (R)) ∧ CutOf R (enc nums texts) := by
  have h1 := hh.1
  obtain ⟨K0, h0⟩ := refCount_ev nums.length h1
  obtain ⟨R, ⟨K, hK⟩, hR⟩ := bytes_nums nums texts hh nums.length 0 (countS nums.length) (by omega) (by have := countS_len10 (u := nums.length) (by omega); omega)
  refine ⟨R, ⟨K + K0, fun k hk => ?_⟩, by simpa [enc] using hR⟩
  unfold windroseref02_Bytes.f
  rw [h0 k (by omega), Option.bind_some]
  exact hK k (by omega)
end Go.Proofs.Ytlpohipneianjaa.Q
end
section
set_option linter.unusedVariables false
namespace Go.Proofs.Ytlpohipneianjaa.Q
open Go Go.RowKit Go.Proofs.Ytlpohipneianjaa.G Go.Proofs.YtlpohipneianjaaW.PrintWords Go.Proofs.YtlpohipneianjaaW.PrintLast Go.Proofs.YtlpohipneianjaaW.PrintMore
def By (b : List Int) : Prop := ∀ x ∈ b, 0 ≤ x ∧ x ≤ 255
def Co (b : List Int) : Prop := ∀ x ∈ b, 128 ≤ x ∧ x ≤ 255
def valL : List Int → Nat
  | [] => 0
  | c :: cs => c.toNat % 128 + 128 * valL cs
theorem valL_append (a b : List Int) : valL (a ++ b) = valL a + 128 ^ a.length * valL b := by
  induction a with
  | nil => simp [valL]
  | cons c a ih =>
    simp only [List.cons_append, valL, ih, List.length_cons, Nat.pow_succ]
    rw [Nat.mul_add, Nat.mul_comm (128 ^ a.length) 128, Nat.mul_assoc]
    omega
theorem valL_lt (a : List Int) : valL a < 128 ^ a.length := by
  induction a with
  | nil => simp [valL]
  | cons c a ih =>
    simp only [valL, List.length_cons, Nat.pow_succ]
    omega
theorem countS_val (pre : List Int) (c : Int) (hp : Co pre) (hc : 0 ≤ c ∧ c < 128) (h : 0 < c ∨ pre = []) : countS (valL (pre ++ [c])) = pre ++ [c] := by
  induction pre with
  | nil =>
    simp only [List.nil_append, valL, Nat.mul_zero, Nat.add_zero]
    rw [countS_lt (by omega)]
    congr 1
    omega
  | cons p ps ih =>
    have hpp := hp p (by simp)
    have hc0 : 0 < c := by rcases h with h | h; exact h; cases h
    have := ih (fun x hx => hp x (by simp [hx])) (.inl hc0)
    have hv : 1 ≤ valL (ps ++ [c]) := by
      rw [valL_append]
      have : 0 < 128 ^ ps.length := Nat.pow_pos (by omega)
      have h1 : 1 ≤ valL [c] := by simp only [valL]; omega
      have := Nat.mul_le_mul this h1
      omega
    simp only [List.cons_append, valL]
    rw [countS_ge (by omega), show (p.toNat % 128 + 128 * valL (ps ++ [c])) / 128 = valL (ps ++ [c]) by omega, this]
    congr 1
    omega
theorem countS_form (n : Nat) : ∀ u : Nat, u < 128 ^ (n + 1) → ∃ pre c, countS u = pre ++ [c] ∧ Co pre ∧ 0 ≤ c ∧ c < 128 ∧ (0 < c ∨ pre = []) ∧ valL (pre ++ [c]) = u ∧ pre.length ≤ n := by
  induction n with
  | zero =>
    intro u h
    have h1 : u < 128 := by simpa using h
    exact ⟨[], (u : Int), countS_lt h1, fun x hx => by simp at hx, by omega, by omega, .inr rfl, by simp [valL]; omega, by simp⟩
  | succ n ih =>
    intro u h
    by_cases h1 : u < 128
    · exact ⟨[], (u : Int), countS_lt h1, fun x hx => by simp at hx, by omega, by omega, .inr rfl, by simp [valL]; omega, by simp⟩
    · obtain ⟨pre, c, e, hp, c0, c1, h0, hv, hl⟩ := ih (u / 128) (by rw [Nat.pow_succ] at h; omega)
      refine ⟨((u % 128 + 128 : Nat) : Int) :: pre, c, by rw [countS_ge h1, e]; rfl, fun x hx => ?_, c0, c1, .inl ?_, ?_, by simp; omega⟩
      · rcases List.mem_cons.1 hx with rfl | hx
        · omega
        · exact hp x hx
      · rcases h0 with h0 | h0
        · exact h0
        · subst h0
          simp [valL] at hv
          omega
      · simp only [List.cons_append, valL, hv]
        omega
theorem by_countS {u : Nat} (h : u < 18446744073709551616) : By (countS u) := by
  obtain ⟨pre, c, e, hp, c0, c1, _, _, _⟩ := countS_form 9 u (by omega)
  rw [e]
  intro x hx
  rcases List.mem_append.1 hx with hx | hx
  · have := hp x hx; omega
  · simp at hx; omega
theorem cut_unique (pre pre' : List Int) (c c' : Int) (r r' : List Int) (hp : Co pre) (hp' : Co pre') (hc : c < 128) (hc' : c' < 128) (h : pre ++ c :: r = pre' ++ c' :: r') : pre = pre' ∧ c = c' ∧ r = r' := by
  induction pre generalizing pre' with
  | nil =>
    cases pre' with
    | nil => simp at h; exact ⟨rfl, h.1, h.2⟩
    | cons p ps => simp at h; have := hp' p (by simp); omega
  | cons p ps ih =>
    cases pre' with
    | nil => simp at h; have := hp p (by simp); omega
    | cons q qs =>
      simp at h
      obtain ⟨a, b, d⟩ := ih qs (fun x hx => hp x (by simp [hx])) (fun x hx => hp' x (by simp [hx])) h.2
      exact ⟨by rw [h.1, a], b, d⟩
theorem cut_or (b : List Int) (hb : By b) : (∃ pre c r, b = pre ++ c :: r ∧ Co pre ∧ 0 ≤ c ∧ c < 128) ∨ Co b := by
  induction b with
  | nil => exact .inr fun x hx => by simp at hx
  | cons x b ih =>
    have hx := hb x (by simp)
    by_cases h : x < 128
    · exact .inl ⟨[], x, b, rfl, fun y hy => by simp at hy, hx.1, h⟩
    · rcases ih (fun y hy => hb y (by simp [hy])) with ⟨pre, c, r, e, hp, c0, c1⟩ | hc
      · refine .inl ⟨x :: pre, c, r, by rw [e]; rfl, fun y hy => ?_, c0, c1⟩
        rcases List.mem_cons.1 hy with rfl | hy
        · omega
        · exact hp y hy
      · refine .inr fun y hy => ?_
        rcases List.mem_cons.1 hy with rfl | hy
        · omega
        · exact hc y hy
theorem wraps_u64 (n : Int) (h0 : 0 ≤ n) (h1 : n < 2 ^ 64) : IntKind.u64.wrap n = n := by rw [IntKind.wrap_u64]; omega
theorem and127 {x : Int} (h0 : 0 ≤ x) (h1 : x < 256) : Go.bits .and .u64 x 127 = x % 128 := by
  have := bits_mask .u64 64 (by decide) wraps_u64 7 (by decide) x h0 (by omega)
  simpa using this
theorem or_step (a : Nat) (c : Int) (i : Nat) (ha : a < 128 ^ i) (hc : 0 ≤ c ∧ c ≤ 255) (hi : i ≤ 8 ∨ i = 9 ∧ c ≤ 1) :
    Go.bits .or .u64 (a : Int) (shl .u64 (Go.bits .and .u64 (IntKind.u64.wrap c) 127) (wrap64 (7 * (i : Int)))) = ((a + 128 ^ i * (c.toNat % 128) : Nat) : Int) := by
  rw [wraps_u64 c hc.1 (by omega), and127 hc.1 (by omega), w64 (by omega) (by omega)]
  have e7 : (7 * (i : Int)).toNat = 7 * i := by omega
  have hp : (2 : Nat) ^ (7 * i) = 128 ^ i := by rw [Nat.pow_mul]
  have hm : min (7 * (i : Int)).toNat IntKind.u64.bits = 7 * i := by
    rw [e7]; exact Nat.min_eq_left (by simp only [IntKind.bits]; omega)
  unfold shl
  rw [hm]
  have hc' : c % 128 = ((c.toNat % 128 : Nat) : Int) := by omega
  have e1 : c % 128 * 2 ^ (7 * i) = ((128 ^ i * (c.toNat % 128) : Nat) : Int) := by
    rw [hc', ← hp, Int.natCast_mul, Int.natCast_pow, Int.mul_comm]; rfl
  have hlt : a + 128 ^ i * (c.toNat % 128) < 18446744073709551616 := by
    rcases hi with hi | ⟨rfl, hc1⟩
    · have h8 : 128 ^ i ≤ 128 ^ 8 := Nat.pow_le_pow_right (by omega) hi
      have := Nat.mul_le_mul h8 (show c.toNat % 128 ≤ 127 by omega)
      omega
    · have : c.toNat % 128 ≤ 1 := by omega
      have := Nat.mul_le_mul (Nat.le_refl (128 ^ 9)) this
      omega
  rw [e1, wraps_u64 _ (by omega) (by omega)]
  have hb := (bits_nat .u64 64 (by decide) wraps_u64 a (128 ^ i * (c.toNat % 128)) (by omega) (by omega)).2
  rw [hb, Nat.or_comm, ← hp, ← Nat.two_pow_add_eq_or_of_lt (by rw [hp]; exact ha)]
  congr 1
  omega
theorem rd_app (pre : List Int) (c : Int) (r : List Int) : rd (pre ++ c :: r) (pre.length : Nat) = c := by
  simp [rd, List.getD_eq_getElem?_getD]
theorem take_loop (b : List Int) (hb : By b) (hl : b.length ≤ 100000) (n : Nat) (hn : n ≤ b.length ∧ n ≤ 9) (hco : ∀ j, j < n → 128 ≤ rd b (j : Nat)) (m : Int) (hm : (n : Int) ≤ m ∧ m ≤ 10 ∧ m ≤ b.length) (R : Int × List Int × Bool)
    (h : (∃ K, ∀ k, K ≤ k → frame_take.l0 k b ((valL (b.take n) : Nat) : Int) m n = some (R))) (d : Nat) : ∀ i : Nat, i + d = n → (∃ K, ∀ k, K ≤ k → frame_take.l0 k b ((valL (b.take i) : Nat) : Int) m i = some (R)) := by
  induction d with
  | zero => intro i hi; obtain rfl : i = n := by omega
            exact h
  | succ d ih =>
    intro i hi
    obtain ⟨K, hK⟩ := ih (i + 1) (by omega)
    have hx := hb _ (rd_mem b i (by omega))
    have hc := hco i (by omega)
    have hlen : (b.take i).length = i := by rw [List.length_take]; omega
    have hv := valL_lt (b.take i)
    rw [hlen] at hv
    have ho := or_step (valL (b.take i)) (rd b i) i hv hx (.inl (by omega))
    have e2 : valL (b.take (i + 1)) = valL (b.take i) + 128 ^ i * ((rd b i).toNat % 128) := by
      have : b.take (i + 1) = b.take i ++ [rd b i] := by
        rw [List.take_succ_eq_append_getElem (by omega)]
        simp [rd, List.getD_eq_getElem?_getD, List.getElem?_eq_getElem (show i < b.length by omega)]
      rw [this, valL_append, hlen]
      simp [valL]
    refine Ev.succ K fun k hk => ?_
    simp only [frame_take.l0]
    rw [if_pos (by omega), if_pos (by omega), if_pos (by omega), if_pos (by rw [w64] <;> omega), if_neg (by rw [wraps_u64 _ hx.1 (by omega)]; omega), ho, ← e2, show wrap64 ((i : Int) + 1) = ((i + 1 : Nat) : Int) by rw [w64] <;> omega]
    exact hK k hk
theorem take_ev (b : List Int) (hb : By b) (hl : b.length ≤ 100000) : ∃ u r ok, (∃ K, ∀ k, K ≤ k → frame_take.f k b = some (((u : Int), r, ok))) ∧
    (ok = true → ∃ v : Nat, u = v ∧ v < 18446744073709551616 ∧ b = countS v ++ r) ∧ (ok = false → ∀ (v : Nat) (r' : List Int), v < 18446744073709551616 → b ≠ countS v ++ r') ∧ (∃ p, b = p ++ r ∨ r = []) := by
  have hmn : ∀ x y : Int, mn x y = if y < x then y else x := fun x y => rfl
  have form : ∀ (v : Nat) (r' : List Int), v < 18446744073709551616 → b = countS v ++ r' → ∃ pre c, b = pre ++ c :: r' ∧ Co pre ∧ 0 ≤ c ∧ c < 128 ∧ (0 < c ∨ pre = []) ∧ valL (pre ++ [c]) = v ∧ pre.length ≤ 9 := by
    intro v r' hv e
    obtain ⟨pre, c, e1, hp, c0, c1, h0, hvv, hlen⟩ := countS_form 9 v (by omega)
    exact ⟨pre, c, by rw [e, e1]; simp, hp, c0, c1, h0, hvv, hlen⟩
  have noTerm : (∀ j : Nat, j < b.length → j < 10 → 128 ≤ rd b (j : Nat)) → ∃ u r ok, (∃ K, ∀ k, K ≤ k → frame_take.f k b = some (((u : Int), r, ok))) ∧
      (ok = true → ∃ v : Nat, u = v ∧ v < 18446744073709551616 ∧ b = countS v ++ r) ∧ (ok = false → ∀ (v : Nat) (r' : List Int), v < 18446744073709551616 → b ≠ countS v ++ r') ∧ (∃ p, b = p ++ r ∨ r = []) := by
    intro hno
    refine ⟨0, [], false, ?_, (fun h => by cases h), fun _ v r' hv e => ?_, [], .inr rfl⟩
    ·
      by_cases h10 : 10 ≤ b.length
      ·
        have hx := hb _ (rd_mem b 9 (by omega))
        have hc := hno 9 (by omega) (by omega)
        have h9 : (∃ K, ∀ k, K ≤ k → frame_take.l0 k b ((valL (b.take 9) : Nat) : Int) 10 (9 : Nat) = some ((0, ([] : List Int), false))) := by
          refine ⟨2, fun k hk => ?_⟩
          obtain ⟨k, rfl⟩ : ∃ m, k = m + 2 := ⟨k - 2, by omega⟩
          rw [frame_take.l0, if_pos (by omega), if_pos (by omega), if_pos (by omega), if_pos (by rw [w64] <;> omega), if_neg (by rw [wraps_u64 _ hx.1 (by omega)]; omega), show wrap64 (((9 : Nat) : Int) + 1) = 10 by rw [w64] <;> omega]
          rw [frame_take.l0, if_neg (by omega)]
        obtain ⟨K, hK⟩ := take_loop b hb hl 9 (by omega) (fun j hj => hno j (by omega) (by omega)) 10 (by omega) _ h9 9 0 (by omega)
        refine ⟨K, fun k hk => ?_⟩
        unfold frame_take.f
        rw [hmn, if_neg (by omega)]
        exact hK k hk
      · have hend : (∃ K, ∀ k, K ≤ k → frame_take.l0 k b ((valL (b.take b.length) : Nat) : Int) (b.length : Int) (b.length : Nat) = some ((0, ([] : List Int), false))) := by
          refine Ev.succ 0 fun k _ => ?_
          simp only [frame_take.l0]
          rw [if_neg (by omega)]
        obtain ⟨K, hK⟩ := take_loop b hb hl b.length (by omega) (fun j hj => hno j (by omega) (by omega)) (b.length : Int) (by omega) _ hend b.length 0 (by omega)
        refine ⟨K, fun k hk => ?_⟩
        unfold frame_take.f
        rw [hmn, if_pos (by omega)]
        exact hK k hk
    · obtain ⟨pre, c, e1, hp, c0, c1, _, _, hlen⟩ := form v r' hv e
      have := hno pre.length (by rw [e1]; simp) (by omega)
      rw [e1, rd_app] at this
      omega
  rcases cut_or b hb with ⟨pre, c, r, e, hp, c0, c1⟩ | hco
  · by_cases h9 : pre.length ≤ 9
    · have hlb : b.length = pre.length + 1 + r.length := by rw [e]; simp; omega
      have hco : ∀ j, j < pre.length → 128 ≤ rd b (j : Nat) := by
        intro j hj
        have : rd b (j : Nat) ∈ pre := by
          rw [e]; simp only [rd, Int.toNat_natCast]
          rw [List.getD_eq_getElem?_getD, List.getElem?_append_left hj, List.getElem?_eq_getElem hj]
          exact List.getElem_mem hj
        exact (hp _ this).1
      have hrd : rd b (pre.length : Nat) = c := by rw [e]; exact rd_app pre c r
      have htk : b.take pre.length = pre := by rw [e, List.take_left]
      have hdr : b.drop (((pre.length + 1 : Nat) : Int)).toNat = r := by
        rw [Int.toNat_natCast, e, List.drop_append, List.drop_of_length_le (by omega)]
        simp
      have m1 : mn 10 (b.length : Int) = (if (b.length : Int) < 10 then (b.length : Int) else 10) := rfl
      generalize hm : mn 10 (b.length : Int) = m at m1
      have hmb : (pre.length : Int) < m ∧ m ≤ 10 ∧ m ≤ b.length := by split at m1 <;> omega
      have e1 : wrap64 ((pre.length : Int) + 1) = ((pre.length + 1 : Nat) : Int) := by rw [w64] <;> omega
      have hw : IntKind.u64.wrap c = c := wraps_u64 c c0 (by omega)
      have hv9 := valL_lt pre
      have hval : valL (pre ++ [c]) = valL pre + 128 ^ pre.length * (c.toNat % 128) := by rw [valL_append]; simp [valL]
      have last : ∃ u ok, (∃ K, ∀ k, K ≤ k → frame_take.l0 k b ((valL (b.take pre.length) : Nat) : Int) m (pre.length : Nat) = some (((u : Int), r, ok))) ∧ (ok = true → u = (valL (pre ++ [c]) : Nat) ∧ (pre.length ≤ 8 ∨ pre.length = 9 ∧ c ≤ 1) ∧ (0 < c ∨ pre = [])) ∧
          (ok = false → ¬ ((pre.length ≤ 8 ∨ pre.length = 9 ∧ c ≤ 1) ∧ (0 < c ∨ pre = []))) := by
        have hpre : (pre.length : Int) = 0 ↔ pre = [] := by rw [← List.length_eq_zero_iff]; omega
        by_cases hn9 : pre.length = 9
        · by_cases hc1 : c > 1
          · refine ⟨Go.bits .or .u64 ((valL (b.take pre.length) : Nat) : Int) (shl .u64 (Go.bits .and .u64 c 127) (wrap64 (7 * (pre.length : Int)))), false, Ev.succ 0 fun k _ => ?_, (fun h => by cases h), fun _ h => by omega⟩
            simp only [frame_take.l0]
            rw [if_pos (by omega), if_pos (by omega), if_pos (by omega), if_pos (by rw [w64] <;> omega), hrd, hw, if_pos (by omega), if_pos (by omega), e1, if_pos (by omega), if_pos (by omega), Option.bind_some, if_pos hc1, hdr]
          · have ho := or_step (valL pre) c pre.length hv9 (by omega) (.inr (by omega))
            rw [hw] at ho
            by_cases hc0 : c > 0
            · refine ⟨((valL (pre ++ [c]) : Nat) : Int), true, Ev.succ 0 fun k _ => ?_, fun _ => ⟨rfl, .inr ⟨hn9, by omega⟩, .inl hc0⟩, fun h => by cases h⟩
              simp only [frame_take.l0]
              rw [if_pos (by omega), if_pos (by omega), if_pos (by omega), if_pos (by rw [w64] <;> omega), hrd, hw, if_pos (by omega), if_pos (by omega), e1, if_pos (by omega), if_pos (by omega), Option.bind_some, if_neg hc1, if_pos hc0, htk, ho, hdr, hval]
            · refine ⟨((valL pre + 128 ^ pre.length * (c.toNat % 128) : Nat) : Int), false, Ev.succ 0 fun k _ => ?_, (fun h => by cases h), fun _ h => ?_⟩
              · simp only [frame_take.l0]
                rw [if_pos (by omega), if_pos (by omega), if_pos (by omega), if_pos (by rw [w64] <;> omega), hrd, hw, if_pos (by omega), if_pos (by omega), e1, if_pos (by omega), if_pos (by omega), Option.bind_some, if_neg hc1, if_neg hc0, htk, ho, hdr,
                  show ((pre.length : Int) == 0) = false by simp; intro h; simp [h] at hn9]
              · rcases h.2 with h | h
                · exact hc0 h
                · rw [h] at hn9; simp at hn9
        · have ho := or_step (valL pre) c pre.length hv9 (by omega) (.inl (by omega))
          rw [hw] at ho
          by_cases hc0 : c > 0
          · refine ⟨((valL (pre ++ [c]) : Nat) : Int), true, Ev.succ 0 fun k _ => ?_, fun _ => ⟨rfl, .inl (by omega), .inl hc0⟩, fun h => by cases h⟩
            simp only [frame_take.l0]
            rw [if_pos (by omega), if_pos (by omega), if_pos (by omega), if_pos (by rw [w64] <;> omega), hrd, hw, if_pos (by omega), if_neg (by omega), e1, if_pos (by omega), if_pos (by omega), Option.bind_some, if_pos hc0, htk, ho, hdr, hval]
          · refine ⟨((valL (pre ++ [c]) : Nat) : Int), ((pre.length : Int) == 0), Ev.succ 0 fun k _ => ?_, fun h => ⟨rfl, .inl (by omega), .inr (hpre.1 (by simpa using h))⟩, fun h h2 => ?_⟩
            · simp only [frame_take.l0]
              rw [if_pos (by omega), if_pos (by omega), if_pos (by omega), if_pos (by rw [w64] <;> omega), hrd, hw, if_pos (by omega), if_neg (by omega), e1, if_pos (by omega), if_pos (by omega), Option.bind_some, if_neg hc0, htk, ho, hdr, hval]
            · rcases h2.2 with h2 | h2
              · exact hc0 h2
              · rw [hpre.2 h2] at h; simp at h
      obtain ⟨u, ok, hlast, ht, hf⟩ := last
      obtain ⟨K, hK⟩ := take_loop b hb hl pre.length (by omega) hco m (by omega) _ hlast pre.length 0 (by omega)
      refine ⟨u, r, ok, ⟨K, fun k hk => ?_⟩, fun h => ?_, fun h v r' hv eb => ?_, pre ++ [c], .inl (by rw [e]; simp)⟩
      · unfold frame_take.f
        rw [hm]
        exact hK k hk
      · obtain ⟨hu, hs, h0⟩ := ht h
        refine ⟨valL (pre ++ [c]), hu, ?_, ?_⟩
        · rw [hval]
          rcases hs with hs | ⟨hs, hc⟩
          · have h8 : 128 ^ pre.length ≤ 128 ^ 8 := Nat.pow_le_pow_right (by omega) hs
            have := Nat.mul_le_mul h8 (show c.toNat % 128 ≤ 127 by omega)
            omega
          · have := Nat.mul_le_mul (Nat.le_refl (128 ^ pre.length)) (show c.toNat % 128 ≤ 1 by omega)
            rw [hs] at this hv9 ⊢
            omega
        · rw [countS_val pre c hp ⟨c0, c1⟩ h0, e]; simp
      · obtain ⟨pre', c', e', hp', _, c1', h0', hv', hl'⟩ := form v r' hv eb
        rw [e] at e'
        obtain ⟨rfl, rfl, rfl⟩ := cut_unique pre pre' c c' r r' hp hp' c1 c1' e'
        refine hf h ⟨?_, h0'⟩
        by_cases h8 : pre.length ≤ 8
        · exact .inl h8
        · refine .inr ⟨by omega, ?_⟩
          have h9' : pre.length = 9 := by omega
          rw [hval, h9'] at hv'
          have : c.toNat % 128 = c.toNat := by omega
          rw [this] at hv'
          by_cases hc : c ≤ 1
          · exact hc
          · have := Nat.mul_le_mul (Nat.le_refl (128 ^ 9)) (show 2 ≤ c.toNat by omega)
            omega
    · refine noTerm (fun j hj h10 => ?_)
      have : rd b (j : Nat) ∈ pre := by
        rw [e]; simp only [rd, Int.toNat_natCast]
        rw [List.getD_eq_getElem?_getD, List.getElem?_append_left (by omega), List.getElem?_eq_getElem (by omega)]
        exact List.getElem_mem (by omega)
      exact (hp _ this).1
  · exact noTerm (fun j hj _ => (hco _ (rd_mem b j hj)).1)
end Go.Proofs.Ytlpohipneianjaa.Q
end
section
set_option linter.unusedVariables false
namespace Go.Proofs.Ytlpohipneianjaa.Q
open Go Go.RowKit Go.Proofs.Ytlpohipneianjaa.G Go.Proofs.YtlpohipneianjaaW.PrintWords Go.Proofs.YtlpohipneianjaaW.PrintLast Go.Proofs.YtlpohipneianjaaW.PrintMore
theorem countS_prefix {v v' : Nat} {r r' : List Int} (hv : v < 18446744073709551616) (hv' : v' < 18446744073709551616) (h : countS v ++ r = countS v' ++ r') : v = v' ∧ r = r' := by
  obtain ⟨pre, c, e, hp, c0, c1, _, hval, _⟩ := countS_form 9 v (by omega)
  obtain ⟨pre', c', e', hp', c0', c1', _, hval', _⟩ := countS_form 9 v' (by omega)
  rw [e, e'] at h
  obtain ⟨rfl, rfl, h3⟩ := cut_unique pre pre' c c' r r' hp hp' c1 c1' (by simpa using h)
  exact ⟨by rw [← hval, hval'], h3⟩
def unz (v : Nat) : Int := if v % 2 = 0 then ((v / 2 : Nat) : Int) else -1 - ((v / 2 : Nat) : Int)
theorem zig_unz (v : Nat) : zig (unz v) = v := by unfold zig unz; split <;> split <;> omega
theorem unz_zig (n : Int) : unz (zig n) = n := by unfold zig unz; split <;> split <;> omega
theorem unz_i64 {v : Nat} (h : v < 18446744073709551616) : I64 (unz v) := by unfold I64 unz; split <;> omega
theorem and1 {x : Nat} (h : x < 18446744073709551616) : Go.bits .and .u64 (x : Int) 1 = ((x % 2 : Nat) : Int) := by
  have := bits_mask .u64 64 (by decide) wraps_u64 1 (by decide) (x : Int) (by omega) (by omega)
  simp at this
  rw [this]
  omega
theorem unz_eq {v : Nat} (h : v < 18446744073709551616) : wrap64 (Go.bits .xor .u64 ((v : Int) / 2) (IntKind.u64.wrap (-(Go.bits .and .u64 (v : Int) 1)))) = unz v := by
  rw [and1 h, IntKind.wrap_u64, show (v : Int) / 2 = ((v / 2 : Nat) : Int) by omega]
  unfold unz
  by_cases h2 : v % 2 = 0
  · rw [if_pos h2, h2, show (-((0 : Nat) : Int)) % 18446744073709551616 = ((0 : Nat) : Int) by omega, bits_xor_u64_nat _ _ (by omega) (by omega), Nat.xor_zero, w64] <;> omega
  · have h1 : v % 2 = 1 := by omega
    rw [if_neg h2, h1, show (-((1 : Nat) : Int)) % 18446744073709551616 = ((18446744073709551615 : Nat) : Int) by omega, bits_xor_u64_nat _ _ (by omega) (by omega), xor_ones (by omega)]
    unfold wrap64
    omega
theorem strOf_bytes (s : ByteArray) : strOfNums (bytesOf s) = s := by
  unfold strOfNums bytesOf
  rw [List.map_map]
  have : (fun n : Int => UInt8.ofNat n.toNat) ∘ (fun b : UInt8 => (b.toNat : Int)) = id := by
    funext b
    simp
  rw [this, List.map_id]
theorem bytes_strOf (l : List Int) (h : By l) : bytesOf (strOfNums l) = l := by
  unfold strOfNums bytesOf
  simp only [List.map_map]
  rw [List.map_congr_left (g := id), List.map_id]
  intro x hx
  have := h x hx
  simp only [Function.comp, id, UInt8.toNat_ofNat', Nat.reducePow]
  omega
theorem by_bytesOf (s : ByteArray) : By (bytesOf s) := by
  intro x hx
  simp only [bytesOf, List.mem_map] at hx
  obtain ⟨b, _, rfl⟩ := hx
  have := b.toNat_lt
  omega
theorem By.append {a b : List Int} (ha : By a) (hb : By b) : By (a ++ b) := fun x hx => by
  rcases List.mem_append.1 hx with h | h
  · exact ha x h
  · exact hb x h
theorem By.right {a b : List Int} (h : By (a ++ b)) : By b := fun x hx => h x (by simp [hx])
theorem By.take {a : List Int} (h : By a) (n : Nat) : By (a.take n) := fun x hx => h x (List.mem_of_mem_take hx)
theorem By.drop {a : List Int} (h : By a) (n : Nat) : By (a.drop n) := fun x hx => h x (List.mem_of_mem_drop hx)
abbrev DRes := List Int × List ByteArray × Int
def bad : DRes := ([], [], 2)
theorem dec_off1 (k : Nat) (x0 : List Int) (x5 : Int) (a : List Int) (t : List ByteArray) : frame_Decode.l1 (k + 2) x0 x5 false a t = some bad := by
  rw [frame_Decode.l1, if_neg (by simp), frame_Decode.j4, if_neg (by simp), if_neg (by simp)]
  rfl
theorem dec_off0 (k : Nat) (x0 : List Int) (x5 : Int) (a : List Int) : frame_Decode.l0 (k + 5) x0 x5 false a = some bad := by
  rw [frame_Decode.l0, if_neg (by simp), frame_Decode.j1, if_neg (by simp), if_neg (by simp), frame_Decode.j2, dec_off1]
theorem dec_texts (n : Nat) : ∀ (rest : List Int) (m : Nat) (nums : List Int) (acc : List ByteArray), rest.length ≤ n → By rest → rest.length ≤ 100000 → acc.length + rest.length ≤ 100000 → m < 18446744073709551616 →
    ∃ R : DRes, (∃ K, ∀ k, K ≤ k → frame_Decode.l1 k rest (m : Int) true nums acc = some (R)) ∧ ((∃ ts : List ByteArray, ts.length = m ∧ rest = encT ts ∧ R = (nums, acc ++ ts, 0)) ∨ (R = bad ∧ ∀ ts : List ByteArray, ts.length = m → (∀ s ∈ ts, s.size ≤ 9223372036854775807) → rest ≠ encT ts)) := by
  induction n with
  | zero =>
    intro rest m nums acc hl hb h1 h2 hm
    obtain rfl : rest = [] := List.eq_nil_of_length_eq_zero (by omega)
    cases m with
    | zero =>
      refine ⟨(nums, acc, 0), ⟨2, fun k hk => ?_⟩, .inl ⟨[], rfl, rfl, by simp⟩⟩
      obtain ⟨k, rfl⟩ : ∃ m, k = m + 2 := ⟨k - 2, by omega⟩
      rw [frame_Decode.l1, if_pos rfl, decide_eq_false (by omega), frame_Decode.j4, if_neg (by simp), if_pos rfl, if_neg (by simp)]
    | succ m =>
      obtain ⟨u, r, ok, ⟨K, hK⟩, ht, hf, hr⟩ := take_ev [] hb h1
      cases ok with
      | true =>
        obtain ⟨v, _, _, e⟩ := ht rfl
        have := countS_pos v
        have := congrArg List.length e
        simp at this
        omega
      | false =>
        refine ⟨bad, ⟨K + 5, fun k hk => ?_⟩, .inr ⟨rfl, fun ts hts hsz e => ?_⟩⟩
        · obtain ⟨k, rfl⟩ : ∃ m, k = m + 4 := ⟨k - 4, by omega⟩
          rw [frame_Decode.l1, if_pos rfl, decide_eq_true (by omega), frame_Decode.j4, if_pos rfl, hK _ (by omega), Option.bind_some, if_neg (by simp)]
          exact dec_off1 _ _ _ _ _
        · cases ts with
          | nil => simp at hts
          | cons s ts =>
            rw [encT_cons, List.append_assoc] at e
            exact hf rfl s.size _ (by have := hsz s (by simp); omega) e
  | succ n ih =>
    intro rest m nums acc hl hb h1 h2 hm
    cases m with
    | zero =>
      by_cases h0 : rest = []
      · subst h0
        refine ⟨(nums, acc, 0), ⟨2, fun k hk => ?_⟩, .inl ⟨[], rfl, rfl, by simp⟩⟩
        obtain ⟨k, rfl⟩ : ∃ m, k = m + 2 := ⟨k - 2, by omega⟩
        rw [frame_Decode.l1, if_pos rfl, decide_eq_false (by omega), frame_Decode.j4, if_neg (by simp), if_pos rfl, if_neg (by simp)]
      · have hpos : 0 < rest.length := List.length_pos_iff.2 h0
        refine ⟨bad, ⟨2, fun k hk => ?_⟩, .inr ⟨rfl, fun ts hts _ e => ?_⟩⟩
        · obtain ⟨k, rfl⟩ : ∃ m, k = m + 2 := ⟨k - 2, by omega⟩
          rw [frame_Decode.l1, if_pos rfl, decide_eq_false (by omega), frame_Decode.j4, if_neg (by simp), if_pos rfl, if_pos (by omega)]
          rfl
        · obtain rfl : ts = [] := List.eq_nil_of_length_eq_zero hts
          exact h0 e
    | succ m =>
      obtain ⟨u, r, ok, ⟨K, hK⟩, ht, hf, hr⟩ := take_ev rest hb h1
      have e1 : IntKind.u64.wrap (((m + 1 : Nat) : Int) - 1) = (m : Int) := by rw [IntKind.wrap_u64]; omega
      cases ok with
      | false =>
        refine ⟨bad, ⟨K + 5, fun k hk => ?_⟩, .inr ⟨rfl, fun ts hts hsz e => ?_⟩⟩
        · obtain ⟨k, rfl⟩ : ∃ m, k = m + 4 := ⟨k - 4, by omega⟩
          rw [frame_Decode.l1, if_pos rfl, decide_eq_true (by omega), frame_Decode.j4, if_pos rfl, hK _ (by omega), Option.bind_some, if_neg (by simp)]
          exact dec_off1 _ _ _ _ _
        · cases ts with
          | nil => simp at hts
          | cons s ts =>
            rw [encT_cons, List.append_assoc] at e
            exact hf rfl s.size _ (by have := hsz s (by simp); omega) e
      | true =>
        obtain ⟨v, rfl, hv, e⟩ := ht rfl
        have hbr : By r := by rw [e] at hb; exact hb.right
        have hcp := countS_pos v
        have hlen : rest.length = (countS v).length + r.length := by rw [e]; simp
        have ew : IntKind.u64.wrap (r.length : Int) = (r.length : Int) := by rw [IntKind.wrap_u64]; omega
        by_cases hvl : v ≤ r.length
        · have hdl : (r.drop v).length = r.length - v := List.length_drop
          obtain ⟨R, ⟨K2, hK2⟩, hR⟩ := ih (r.drop v) m nums (acc ++ [strOfNums (r.take v)]) (by omega) (hbr.drop v) (by omega) (by simp only [List.length_append, List.length_cons, List.length_nil]; omega) (by omega)
          have hs : (strOfNums (r.take v)).size = v := by rw [strOfNums_size, List.length_take]; omega
          have hbs : bytesOf (strOfNums (r.take v)) = r.take v := bytes_strOf _ (hbr.take v)
          refine ⟨R, ⟨K + K2 + 2, fun k hk => ?_⟩, ?_⟩
          · obtain ⟨k, rfl⟩ : ∃ m, k = m + 2 := ⟨k - 2, by omega⟩
            rw [frame_Decode.l1, if_pos rfl, decide_eq_true (by omega), frame_Decode.j4, if_pos rfl, hK _ (by omega), Option.bind_some]
            simp only [if_true]
            rw [ew, if_pos (by omega), if_pos (by omega), if_pos (by omega), if_pos (by omega), e1, Int.toNat_natCast]
            exact hK2 k (by omega)
          · rcases hR with ⟨ts, h3, h4, h5⟩ | ⟨h3, h4⟩
            · refine .inl ⟨strOfNums (r.take v) :: ts, by simp [h3], ?_, by rw [h5]; simp⟩
              rw [encT_cons, hs, hbs, ← h4, e, List.append_assoc, List.take_append_drop]
            · refine .inr ⟨h3, fun ts hts hsz e' => ?_⟩
              cases ts with
              | nil => simp at hts
              | cons s ts =>
                rw [encT_cons, List.append_assoc, e] at e'
                obtain ⟨h6, h7⟩ := countS_prefix hv (by have := hsz s (by simp); omega) e'
                refine h4 ts (by simpa using hts) (fun s' hs' => hsz s' (by simp [hs'])) ?_
                rw [h7, h6, List.drop_append, bytesOf_length, List.drop_of_length_le (by rw [bytesOf_length]; omega)]
                simp
        · refine ⟨bad, ⟨K + 5, fun k hk => ?_⟩, .inr ⟨rfl, fun ts hts hsz e' => ?_⟩⟩
          · obtain ⟨k, rfl⟩ : ∃ m, k = m + 4 := ⟨k - 4, by omega⟩
            rw [frame_Decode.l1, if_pos rfl, decide_eq_true (by omega), frame_Decode.j4, if_pos rfl, hK _ (by omega), Option.bind_some]
            simp only [if_true]
            rw [ew, if_neg (by omega)]
            exact dec_off1 _ _ _ _ _
          · cases ts with
            | nil => simp at hts
            | cons s ts =>
              rw [encT_cons, List.append_assoc, e] at e'
              obtain ⟨h6, h7⟩ := countS_prefix hv (by have := hsz s (by simp); omega) e'
              rw [h7, List.length_append, bytesOf_length] at hvl
              omega
theorem dec_nums (n : Nat) : ∀ (rest : List Int) (m : Nat) (acc : List Int), rest.length ≤ n → By rest → rest.length ≤ 100000 → acc.length + rest.length ≤ 100000 → m < 18446744073709551616 →
    ∃ R : DRes, (∃ K, ∀ k, K ≤ k → frame_Decode.l0 k rest (m : Int) true acc = some (R)) ∧ ((∃ (ns : List Int) (ts : List ByteArray), ns.length = m ∧ (∀ x ∈ ns, I64 x) ∧ rest = encN ns ++ countS ts.length ++ encT ts ∧ R = (acc ++ ns, ts, 0)) ∨
      (R = bad ∧ ∀ (ns : List Int) (ts : List ByteArray), ns.length = m → Held ns ts → rest ≠ encN ns ++ countS ts.length ++ encT ts)) := by
  induction n using Nat.strongRecOn with
  | _ n ih =>
  intro rest m acc hl hb h1 h2 hm
  obtain ⟨u, r, ok, ⟨K, hK⟩, ht, hf, hr⟩ := take_ev rest hb h1
  cases m with
  | zero =>
    cases ok with
    | false =>
      refine ⟨bad, ⟨K + 6, fun k hk => ?_⟩, .inr ⟨rfl, fun ns ts hns hh e => ?_⟩⟩
      · obtain ⟨k, rfl⟩ : ∃ m, k = m + 5 := ⟨k - 5, by omega⟩
        rw [frame_Decode.l0, if_pos rfl, decide_eq_false (by omega), frame_Decode.j1, if_neg (by simp), if_pos rfl, hK _ (by omega), Option.bind_some, frame_Decode.j2]
        exact dec_off1 _ _ _ _ _
      · obtain rfl : ns = [] := List.eq_nil_of_length_eq_zero hns
        have := hh.2.2.1
        exact hf rfl ts.length _ (by omega) (by simpa [encN] using e)
    | true =>
      obtain ⟨v, rfl, hv, e⟩ := ht rfl
      have hbr : By r := by rw [e] at hb; exact hb.right
      have hlen : rest.length = (countS v).length + r.length := by rw [e]; simp
      obtain ⟨R, ⟨K2, hK2⟩, hR⟩ := dec_texts r.length r v acc [] (Nat.le_refl _) hbr (by omega) (by simp; omega) hv
      refine ⟨R, ⟨K + K2 + 3, fun k hk => ?_⟩, ?_⟩
      · obtain ⟨k, rfl⟩ : ∃ m, k = m + 3 := ⟨k - 3, by omega⟩
        rw [frame_Decode.l0, if_pos rfl, decide_eq_false (by omega), frame_Decode.j1, if_neg (by simp), if_pos rfl, hK _ (by omega), Option.bind_some, frame_Decode.j2]
        exact hK2 k (by omega)
      · rcases hR with ⟨ts, h3, h4, h5⟩ | ⟨h3, h4⟩
        · exact .inl ⟨[], ts, rfl, fun x hx => by simp at hx, by rw [h3, ← h4]; simpa [encN] using e, by rw [h5]; simp⟩
        · refine .inr ⟨h3, fun ns ts hns hh e' => ?_⟩
          obtain rfl : ns = [] := List.eq_nil_of_length_eq_zero hns
          have := hh.2.2.1
          rw [e] at e'
          obtain ⟨h6, h7⟩ := countS_prefix hv (by omega : ts.length < 18446744073709551616) (by simpa [encN] using e')
          exact h4 ts h6.symm hh.2.2.2 h7
  | succ m =>
    have e1 : IntKind.u64.wrap (((m + 1 : Nat) : Int) - 1) = (m : Int) := by rw [IntKind.wrap_u64]; omega
    cases ok with
    | false =>
      refine ⟨bad, ⟨K + 8, fun k hk => ?_⟩, .inr ⟨rfl, fun ns ts hns hh e => ?_⟩⟩
      · obtain ⟨k, rfl⟩ : ∃ m, k = m + 7 := ⟨k - 7, by omega⟩
        rw [frame_Decode.l0, if_pos rfl, decide_eq_true (by omega), frame_Decode.j1, if_pos rfl, hK _ (by omega), Option.bind_some, if_neg (by simp)]
        exact dec_off0 _ _ _ _
      · cases ns with
        | nil => simp at hns
        | cons x ns =>
          rw [encN_cons] at e
          exact hf rfl (zig x) _ (zig_lt (hh.2.1 x (by simp))) (by simpa using e)
    | true =>
      obtain ⟨v, rfl, hv, e⟩ := ht rfl
      have hbr : By r := by rw [e] at hb; exact hb.right
      have hcp := countS_pos v
      have hlen : rest.length = (countS v).length + r.length := by rw [e]; simp
      obtain ⟨R, ⟨K2, hK2⟩, hR⟩ := ih r.length (by omega) r m (acc ++ [unz v]) (Nat.le_refl _) hbr (by omega) (by simp only [List.length_append, List.length_cons, List.length_nil]; omega) (by omega)
      refine ⟨R, ⟨K + K2 + 2, fun k hk => ?_⟩, ?_⟩
      · obtain ⟨k, rfl⟩ : ∃ m, k = m + 2 := ⟨k - 2, by omega⟩
        rw [frame_Decode.l0, if_pos rfl, decide_eq_true (by omega), frame_Decode.j1, if_pos rfl, hK _ (by omega), Option.bind_some]
        simp only [if_true]
        rw [if_pos (by omega), unz_eq hv, e1]
        exact hK2 k (by omega)
      · rcases hR with ⟨ns, ts, h3, h3', h4, h5⟩ | ⟨h3, h4⟩
        · refine .inl ⟨unz v :: ns, ts, by simp [h3], fun x hx => ?_, ?_, by rw [h5]; simp⟩
          · rcases List.mem_cons.1 hx with rfl | hx
            · exact unz_i64 hv
            · exact h3' x hx
          · rw [encN_cons, zig_unz, e, h4]; simp
        · refine .inr ⟨h3, fun ns ts hns hh e' => ?_⟩
          cases ns with
          | nil => simp at hns
          | cons x ns =>
            rw [encN_cons, e] at e'
            obtain ⟨h6, h7⟩ := countS_prefix hv (zig_lt (hh.2.1 x (by simp))) (by simpa using e')
            refine h4 ns ts (by simpa using hns) ⟨by have := hh.1; simp at this; omega, fun y hy => hh.2.1 y (by simp [hy]), hh.2.2⟩ (by simpa using h7)
theorem encN_len (l : List Int) : l.length ≤ (encN l).length := by
  induction l with
  | nil => simp
  | cons n l ih => rw [encN_cons]; have := countS_pos (zig n); simp only [List.length_append, List.length_cons]; omega
theorem encT_len (l : List ByteArray) : l.length ≤ (encT l).length ∧ ∀ s ∈ l, s.size ≤ (encT l).length := by
  induction l with
  | nil => simp
  | cons s l ih =>
    rw [encT_cons]
    have := countS_pos s.size
    have hb := bytesOf_length s
    simp only [List.length_append, List.length_cons]
    refine ⟨by omega, fun x hx => ?_⟩
    rcases List.mem_cons.1 hx with rfl | hx
    · omega
    · have := ih.2 x hx; omega
theorem Decode_ev (b : List Int) (hb : By b) (hl : b.length ≤ 4096) : ∃ R : DRes, (∃ K, ∀ k, K ≤ k → frame_Decode.f k b = some (R)) ∧ ((∃ ns ts, Held ns ts ∧ b = enc ns ts ∧ R = (ns, ts, 0)) ∨ (R = bad ∧ ∀ ns ts, Held ns ts → b ≠ enc ns ts)) := by
  obtain ⟨u, r, ok, ⟨K, hK⟩, ht, hf, hr⟩ := take_ev b hb (by omega)
  cases ok with
  | false =>
    refine ⟨bad, ⟨K + 6, fun k hk => ?_⟩, .inr ⟨rfl, fun ns ts hh e => ?_⟩⟩
    · obtain ⟨k, rfl⟩ : ∃ m, k = m + 5 := ⟨k - 5, by omega⟩
      unfold frame_Decode.f
      rw [if_neg (by omega), hK _ (by omega), Option.bind_some]
      exact dec_off0 _ _ _ _
    · have := hh.1
      exact hf rfl ns.length (encN ns ++ (countS ts.length ++ encT ts)) (by omega) (by rw [e]; simp [enc])
  | true =>
    obtain ⟨v, rfl, hv, e⟩ := ht rfl
    have hbr : By r := by rw [e] at hb; exact hb.right
    have hlen : b.length = (countS v).length + r.length := by rw [e]; simp
    obtain ⟨R, ⟨K2, hK2⟩, hR⟩ := dec_nums r.length r v [] (Nat.le_refl _) hbr (by omega) (by simp; omega) hv
    refine ⟨R, ⟨K + K2, fun k hk => ?_⟩, ?_⟩
    · unfold frame_Decode.f
      rw [if_neg (by omega), hK _ (by omega), Option.bind_some]
      exact hK2 k (by omega)
    · rcases hR with ⟨ns, ts, h3, h3', h4, h5⟩ | ⟨h3, h4⟩
      · refine .inl ⟨ns, ts, ?_, ?_, by rw [h5]; simp⟩
        · have a := encN_len ns
          have t := encT_len ts
          have hle : r.length = (encN ns).length + (countS ts.length).length + (encT ts).length := by rw [h4]; simp; omega
          exact ⟨by omega, h3', by omega, fun s hs => by have := t.2 s hs; omega⟩
        · rw [e, h4, ← h3]; simp [enc]
      · refine .inr ⟨h3, fun ns ts hh e' => ?_⟩
        have := hh.1
        rw [e] at e'
        obtain ⟨h6, h7⟩ := countS_prefix hv (by omega : ns.length < 18446744073709551616) (r' := encN ns ++ countS ts.length ++ encT ts) (by rw [e']; simp [enc])
        exact h4 ns ts h6.symm hh h7
theorem encN_inj : ∀ (a b : List Int) (x y : List Int), a.length = b.length → (∀ n ∈ a, I64 n) → (∀ n ∈ b, I64 n) → encN a ++ x = encN b ++ y → a = b ∧ x = y
  | [], [], x, y, _, _, _, h => ⟨rfl, by simpa [encN] using h⟩
  | [], _ :: _, _, _, h, _, _, _ => by simp at h
  | _ :: _, [], _, _, h, _, _, _ => by simp at h
  | n :: a, m :: b, x, y, hl, ha, hb, h => by
    rw [encN_cons, encN_cons, List.append_assoc, List.append_assoc] at h
    obtain ⟨h1, h2⟩ := countS_prefix (zig_lt (ha n (by simp))) (zig_lt (hb m (by simp))) h
    obtain ⟨h3, h4⟩ := encN_inj a b x y (by simpa using hl) (fun z hz => ha z (by simp [hz])) (fun z hz => hb z (by simp [hz])) h2
    exact ⟨by rw [h3, ← unz_zig n, h1, unz_zig], h4⟩
theorem encT_inj : ∀ (a b : List ByteArray), a.length = b.length → (∀ s ∈ a, s.size ≤ 9223372036854775807) → (∀ s ∈ b, s.size ≤ 9223372036854775807) → encT a = encT b → a = b
  | [], [], _, _, _, _ => rfl
  | [], _ :: _, h, _, _, _ => by simp at h
  | _ :: _, [], h, _, _, _ => by simp at h
  | s :: a, t :: b, hl, ha, hb, h => by
    rw [encT_cons, encT_cons, List.append_assoc, List.append_assoc] at h
    obtain ⟨h1, h2⟩ := countS_prefix (by have := ha s (by simp); omega) (by have := hb t (by simp); omega) h
    obtain ⟨h3, h4⟩ := List.append_inj h2 (by rw [bytesOf_length, bytesOf_length, h1])
    have := encT_inj a b (by simpa using hl) (fun z hz => ha z (by simp [hz])) (fun z hz => hb z (by simp [hz])) h4
    rw [this, ← strOf_bytes s, h3, strOf_bytes]
theorem enc_inj {a a' : List Int} {t t' : List ByteArray} (h : Held a t) (h' : Held a' t') (e : enc a t = enc a' t') : a = a' ∧ t = t' := by
  unfold enc at e
  simp only [List.append_assoc] at e
  have := h.1; have := h'.1; have := h.2.2.1; have := h'.2.2.1
  obtain ⟨h1, h2⟩ := countS_prefix (by omega) (by omega) e
  obtain ⟨h3, h4⟩ := encN_inj a a' _ _ h1 h.2.1 h'.2.1 h2
  obtain ⟨h5, h6⟩ := countS_prefix (by omega) (by omega) h4
  exact ⟨h3, encT_inj t t' h5 h.2.2.2 h'.2.2.2 h6⟩
end Go.Proofs.Ytlpohipneianjaa.Q
end
section
set_option linter.unusedVariables false
namespace Go.Proofs.Ytlpohipneianjaa.Q
open Go Go.RowKit Go.Proofs.Ytlpohipneianjaa.G Go.Proofs.YtlpohipneianjaaW.PrintWords Go.Proofs.YtlpohipneianjaaW.PrintLast Go.Proofs.YtlpohipneianjaaW.PrintMore
def lz (i : Nat) (c : Int) : Nat := 128 ^ i * (c.toNat % 128) % 18446744073709551616
theorem lz_eq {i : Nat} {c : Int} (h : 128 ^ i * (c.toNat % 128) < 18446744073709551616) : lz i c = 128 ^ i * (c.toNat % 128) := Nat.mod_eq_of_lt h
theorem lead_shl (c : Int) (hc : 0 ≤ c ∧ c ≤ 255) (i : Nat) (hi : i ≤ 9) : shl .u64 (IntKind.u64.wrap (Int.tmod c 128)) (IntKind.u64.wrap (wrap64 (7 * (i : Int)))) = (lz i c : Int) := by
  rw [w64 (by omega) (by omega), tmod_nn hc.1, wraps_u64 (c % 128) (by omega) (by omega), wraps_u64 (7 * (i : Int)) (by omega) (by omega)]
  have hm : min (7 * (i : Int)).toNat IntKind.u64.bits = 7 * i := by
    rw [show (7 * (i : Int)).toNat = 7 * i by omega]; exact Nat.min_eq_left (by simp only [IntKind.bits]; omega)
  have hp : (2 : Nat) ^ (7 * i) = 128 ^ i := by rw [Nat.pow_mul]
  have hc' : c % 128 = ((c.toNat % 128 : Nat) : Int) := by omega
  have e1 : c % 128 * 2 ^ (7 * i) = ((128 ^ i * (c.toNat % 128) : Nat) : Int) := by
    rw [hc', ← hp, Int.natCast_mul, Int.natCast_pow, Int.mul_comm]; rfl
  unfold shl lz
  rw [hm, e1, IntKind.wrap_u64]
  generalize 128 ^ i * (c.toNat % 128) = z
  omega
theorem lead_step (b : List Int) (i : Nat) (x y : Int) (k : Nat) (h : i < b.length) (hi : i ≤ 9) (hc : 0 ≤ rd b i ∧ rd b i ≤ 255) (hy : IntKind.u64.wrap (x + (lz i (rd b i) : Int)) = y) :
    windroseref02_Lead.l0 (k + 2) b x i = if rd b i < 128 then some (y, ((i + 1 : Nat) : Int)) else windroseref02_Lead.l0 k b y ((i + 1 : Nat) : Int) := by
  have ew : wrap64 ((i : Int) + 1) = ((i + 1 : Nat) : Int) := by rw [w64] <;> omega
  have e7 : 0 ≤ IntKind.u64.wrap (wrap64 (7 * (i : Int))) := by rw [w64 (by omega) (by omega), wraps_u64 _ (by omega) (by omega)]; omega
  rw [windroseref02_Lead.l0, if_pos (by omega), decide_eq_true (by omega), windroseref02_Lead.j1, if_pos rfl, if_pos (by omega), if_pos (by omega), if_pos e7, lead_shl _ hc i hi, hy, ew]
theorem lead_stop (b : List Int) (i : Nat) (x : Int) (h : ¬ (i < b.length ∧ i < 10)) : (∃ K, ∀ k, K ≤ k → windroseref02_Lead.l0 k b x i = some (((((0 : Nat) : Int)), (((0 : Nat)) : Int)))) := by
  refine ⟨2, fun k hk => ?_⟩
  obtain ⟨k, rfl⟩ : ∃ m, k = m + 2 := ⟨k - 2, by omega⟩
  rw [windroseref02_Lead.l0]
  by_cases h1 : i < b.length
  · rw [if_pos (by omega), decide_eq_false (by omega), windroseref02_Lead.j1, if_neg (by simp)]; rfl
  · rw [if_neg (by omega), windroseref02_Lead.j1, if_neg (by simp)]; rfl
theorem lead_any (b : List Int) (hb : By b) (hl : b.length ≤ 100000) (d : Nat) : ∀ (i : Nat) (x : Int), i + d = 10 → 0 ≤ x → x < 18446744073709551616 → ∃ (u : Nat) (n : Nat), (∃ K, ∀ k, K ≤ k → windroseref02_Lead.l0 k b x i = some (((u : Int), (n : Int)))) ∧ u < 18446744073709551616 ∧ n ≤ b.length ∧ n ≤ 10 := by
  induction d with
  | zero => intro i x hi _ _; exact ⟨0, 0, lead_stop b i x (by omega), by omega, by omega, by omega⟩
  | succ d ih =>
    intro i x hi hx0 hx1
    by_cases h : i < b.length
    · have hc := hb _ (rd_mem b i h)
      obtain ⟨y, hy, hy2⟩ : ∃ y : Nat, IntKind.u64.wrap (x + (lz i (rd b i) : Int)) = (y : Int) ∧ y < 18446744073709551616 := by
        rw [IntKind.wrap_u64]
        generalize lz i (rd b i) = z
        exact ⟨((x + (z : Int)) % 18446744073709551616).toNat, by omega, by omega⟩
      by_cases h1 : rd b i < 128
      · refine ⟨y, i + 1, ⟨2, fun k hk => ?_⟩, hy2, by omega, by omega⟩
        obtain ⟨k, rfl⟩ : ∃ m, k = m + 2 := ⟨k - 2, by omega⟩
        rw [lead_step b i x y k h (by omega) hc hy, if_pos h1]
      · obtain ⟨u, n, ⟨K, hK⟩, hu, hn⟩ := ih (i + 1) (y : Int) (by omega) (by omega) (by omega)
        refine ⟨u, n, ⟨K + 2, fun k hk => ?_⟩, hu, hn⟩
        obtain ⟨k, rfl⟩ : ∃ m, k = m + 2 := ⟨k - 2, by omega⟩
        rw [lead_step b i x y k h (by omega) hc hy, if_neg h1]
        exact hK k (by omega)
    · exact ⟨0, 0, lead_stop b i x (by omega), by omega, by omega, by omega⟩
theorem Lead_ev (b : List Int) (hb : By b) (hl : b.length ≤ 100000) : ∃ (u : Nat) (n : Nat), (∃ K, ∀ k, K ≤ k → windroseref02_Lead.f k b = some (((u : Int), (n : Int)))) ∧ u < 18446744073709551616 ∧ n ≤ b.length ∧ n ≤ 10 := by
  obtain ⟨u, n, ⟨K, hK⟩, h⟩ := lead_any b hb hl 10 0 0 (by omega) (by omega) (by omega)
  refine ⟨u, n, ⟨K, fun k hk => ?_⟩, h⟩
  unfold windroseref02_Lead.f
  exact hK k hk
theorem lead_pre (pre r : List Int) (c : Int) (v : Nat) (hp : Co pre) (hc : 0 ≤ c ∧ c < 128) (hval : valL (pre ++ [c]) = v) (hv : v < 18446744073709551616) (hlen : pre.length ≤ 9) (d : Nat) : ∀ i : Nat, i + d = pre.length →
    (∃ K, ∀ k, K ≤ k → windroseref02_Lead.l0 k (pre ++ c :: r) ((valL (pre.take i) : Nat) : Int) i = some (((v : Int), ((pre.length + 1 : Nat) : Int)))) := by
  induction d with
  | zero =>
    intro i hi
    obtain rfl : i = pre.length := by omega
    have hlb : pre.length < (pre ++ c :: r).length := by simp
    have hrd := rd_app pre c r
    have hv2 : valL (pre ++ [c]) = valL pre + 128 ^ pre.length * (c.toNat % 128) := by rw [valL_append]; simp [valL]
    have hz : lz pre.length c = 128 ^ pre.length * (c.toNat % 128) := lz_eq (by rw [hval] at hv2; exact Nat.lt_of_le_of_lt (Nat.le_add_left _ _) (hv2 ▸ hv))
    refine ⟨2, fun k hk => ?_⟩
    obtain ⟨k, rfl⟩ : ∃ m, k = m + 2 := ⟨k - 2, by omega⟩
    rw [lead_step _ pre.length _ (v : Int) k hlb hlen (by rw [hrd]; omega) (by
      rw [hrd, List.take_of_length_le (Nat.le_refl _), hz, ← Int.natCast_add, ← hv2, hval]
      exact wraps_u64 _ (by omega) (by omega)), hrd, if_pos hc.2]
  | succ d ih =>
    intro i hi
    obtain ⟨K, hK⟩ := ih (i + 1) (by omega)
    have hi' : i < pre.length := by omega
    have hlb : i < (pre ++ c :: r).length := by simp; omega
    have hrd : rd (pre ++ c :: r) (i : Nat) = pre[i] := by simp [rd, List.getD_eq_getElem?_getD, List.getElem?_append_left hi', List.getElem?_eq_getElem hi']
    have hx := hp _ (List.getElem_mem hi')
    have e2 : valL (pre.take (i + 1)) = valL (pre.take i) + 128 ^ i * (pre[i].toNat % 128) := by
      rw [List.take_succ_eq_append_getElem hi', valL_append, List.length_take, Nat.min_eq_left (by omega)]
      simp [valL]
    have vle : valL (pre.take (i + 1)) ≤ v := by
      rw [← hval]
      conv => rhs; rw [← List.take_append_drop (i + 1) pre, List.append_assoc, valL_append]
      exact Nat.le_add_right _ _
    generalize pre[i] = q at hrd hx e2
    have hz : lz i q = 128 ^ i * (q.toNat % 128) := lz_eq (by rw [e2] at vle; exact Nat.lt_of_le_of_lt (Nat.le_trans (Nat.le_add_left _ _) vle) hv)
    have hstep : IntKind.u64.wrap (((valL (pre.take i) : Nat) : Int) + (lz i (rd (pre ++ c :: r) (i : Nat)) : Int)) = ((valL (pre.take (i + 1)) : Nat) : Int) := by
      rw [hrd, hz, ← Int.natCast_add, ← e2]
      generalize valL (pre.take (i + 1)) = z at vle
      exact wraps_u64 _ (by omega) (by omega)
    refine ⟨K + 2, fun k hk => ?_⟩
    obtain ⟨k, rfl⟩ : ∃ m, k = m + 2 := ⟨k - 2, by omega⟩
    rw [lead_step _ i _ _ k hlb (by omega) (by rw [hrd]; omega) hstep, hrd, if_neg (by omega)]
    exact hK k (by omega)
theorem Lead_count (v : Nat) (hv : v < 18446744073709551616) (r : List Int) (hl : (countS v ++ r).length ≤ 100000) : (∃ K, ∀ k, K ≤ k → windroseref02_Lead.f k (countS v ++ r) = some (((v : Int), ((countS v).length : Int)))) := by
  obtain ⟨pre, c, e, hp, c0, c1, h0, hval, hlen⟩ := countS_form 9 v (by omega)
  have hb : countS v ++ r = pre ++ c :: r := by rw [e]; simp
  have hcl : (countS v).length = pre.length + 1 := by rw [e]; simp
  obtain ⟨K, hK⟩ := lead_pre pre r c v hp ⟨c0, c1⟩ hval hv hlen pre.length 0 (by omega)
  refine ⟨K, fun k hk => ?_⟩
  unfold windroseref02_Lead.f
  rw [hb, hcl]
  simpa [valL] using hK k hk
end Go.Proofs.Ytlpohipneianjaa.Q
end
section
set_option linter.unusedVariables false
namespace Go.Proofs.Ytlpohipneianjaa.Q
open Go Go.RowKit Go.Proofs.Ytlpohipneianjaa.G Go.Proofs.YtlpohipneianjaaW.PrintWords Go.Proofs.YtlpohipneianjaaW.PrintLast
theorem ints_loop (a b : List Int) (hab : a.length = b.length) (hl : a.length ≤ 9223372036854775807) (d : Nat) : ∀ i : Nat, i + d = a.length → (∃ K, ∀ k, K ≤ k → windroseref02_Ints.l0 k a b i = some ((decide (a.drop i = b.drop i)))) := by
  induction d with
  | zero =>
    intro i hi
    refine Ev.succ 0 fun k _ => ?_
    simp only [windroseref02_Ints.l0]
    rw [if_neg (by omega), decide_eq_true (by rw [List.drop_of_length_le (by omega), List.drop_of_length_le (by omega)])]
  | succ d ih =>
    intro i hi
    obtain ⟨K, hK⟩ := ih (i + 1) (by omega)
    refine Ev.succ K fun k hk => ?_
    simp only [windroseref02_Ints.l0]
    have e1 : wrap64 ((i : Int) + 1) = ((i + 1 : Nat) : Int) := by rw [w64] <;> omega
    rw [if_pos (by omega), if_pos (by omega), if_pos (by omega), rd_at a i (by omega), rd_at b i (by omega)]
    by_cases h : rd a i = rd b i
    · rw [if_pos h, e1, hK k hk]
      congr 1
      rw [decide_eq_decide, h]
      simp
    · rw [if_neg h, decide_eq_false (fun e => h (List.cons.inj e).1)]
theorem Ints_ev (a b : List Int) (hl : a.length ≤ 9223372036854775807) : (∃ K, ∀ k, K ≤ k → windroseref02_Ints.f k a b = some ((decide (a = b)))) := by
  by_cases h : a.length = b.length
  · obtain ⟨K, hK⟩ := ints_loop a b h hl a.length 0 (by omega)
    refine ⟨K, fun k hk => ?_⟩
    unfold windroseref02_Ints.f
    rw [if_pos (by omega)]
    exact hK k hk
  · refine ⟨0, fun k _ => ?_⟩
    unfold windroseref02_Ints.f
    rw [if_neg (by omega), decide_eq_false (fun e => h (by rw [e]))]
theorem toList_loop (bs : ByteArray) (d : Nat) : ∀ (i : Nat) (r : List UInt8), i + d = bs.size → ByteArray.toList.loop bs i r = r.reverse ++ bs.data.toList.drop i := by
  have hsz : bs.data.toList.length = bs.size := by rw [Array.length_toList]; rfl
  induction d with
  | zero =>
    intro i r hi
    rw [ByteArray.toList.loop, if_neg (by omega), List.drop_of_length_le (by omega), List.append_nil]
  | succ d ih =>
    intro i r hi
    rw [ByteArray.toList.loop, if_pos (by omega), ih (i + 1) _ (by omega), List.drop_eq_getElem_cons (by omega : i < bs.data.toList.length), List.reverse_cons, List.append_assoc]
    congr 1
    have e : bs.get! i = bs.data.toList[i]'(by omega) := by
      show bs.data[i]! = _
      rw [getElem!_pos bs.data i (by have : bs.data.size = bs.size := rfl; omega)]
      simp
    rw [e]
    rfl
theorem toList_data (bs : ByteArray) : bs.toList = bs.data.toList := by
  rw [ByteArray.toList, toList_loop bs bs.size 0 [] (by omega)]
  simp
theorem toList_inj (a b : ByteArray) : a.toList = b.toList ↔ a = b := by
  constructor
  · intro h
    rw [toList_data, toList_data] at h
    exact ByteArray.ext (Array.ext' h)
  · rintro rfl; rfl
theorem strings_loop (a b : List ByteArray) (hab : a.length = b.length) (hl : a.length ≤ 9223372036854775807) (d : Nat) : ∀ i : Nat, i + d = a.length → (∃ K, ∀ k, K ≤ k → windroseref02_Strings.l0 k a b i = some ((decide (a.drop i = b.drop i)))) := by
  induction d with
  | zero =>
    intro i hi
    refine Ev.succ 0 fun k _ => ?_
    simp only [windroseref02_Strings.l0]
    rw [if_neg (by omega), decide_eq_true (by rw [List.drop_of_length_le (by omega), List.drop_of_length_le (by omega)])]
  | succ d ih =>
    intro i hi
    obtain ⟨K, hK⟩ := ih (i + 1) (by omega)
    refine Ev.succ K fun k hk => ?_
    simp only [windroseref02_Strings.l0]
    have e1 : wrap64 ((i : Int) + 1) = ((i + 1 : Nat) : Int) := by rw [w64] <;> omega
    rw [if_pos (by omega), if_pos (by omega), if_pos (by omega), rdOf_at a i (by omega), rdOf_at b i (by omega)]
    by_cases h : rdOf ByteArray.empty a i = rdOf ByteArray.empty b i
    · rw [if_pos (by rw [h]), e1, hK k hk]
      congr 1
      rw [decide_eq_decide, h]
      simp
    · rw [if_neg (fun e => h ((toList_inj _ _).1 e)), decide_eq_false (fun e => h (List.cons.inj e).1)]
theorem Strings_ev (a b : List ByteArray) (hl : a.length ≤ 9223372036854775807) : (∃ K, ∀ k, K ≤ k → windroseref02_Strings.f k a b = some ((decide (a = b)))) := by
  by_cases h : a.length = b.length
  · obtain ⟨K, hK⟩ := strings_loop a b h hl a.length 0 (by omega)
    refine ⟨K, fun k hk => ?_⟩
    unfold windroseref02_Strings.f
    rw [if_pos (by omega)]
    exact hK k hk
  · refine ⟨0, fun k _ => ?_⟩
    unfold windroseref02_Strings.f
    rw [if_neg (by omega), decide_eq_false (fun e => h (by rw [e]))]
theorem Same02_ev (a : List Int) (s : List ByteArray) (b : List Int) (t : List ByteArray) (h1 : a.length ≤ 9223372036854775807) (h2 : s.length ≤ 9223372036854775807) :
    (∃ K, ∀ k, K ≤ k → windroseref02_Same.f k a s b t = some ((decide (a = b ∧ s = t)))) := by
  obtain ⟨K1, hK1⟩ := Ints_ev a b h1
  obtain ⟨K2, hK2⟩ := Strings_ev s t h2
  refine ⟨K1 + K2, fun k hk => ?_⟩
  unfold windroseref02_Same.f
  rw [hK1 k (by omega), Option.bind_some]
  by_cases h : a = b
  · rw [decide_eq_true h, if_pos rfl, hK2 k (by omega), Option.bind_some]
    congr 1
    rw [decide_eq_decide]
    exact ⟨fun e => ⟨h, e⟩, fun e => e.2⟩
  · rw [decide_eq_false h, if_neg (by simp), decide_eq_false (fun e => h e.1)]
end Go.Proofs.Ytlpohipneianjaa.Q
end
section
set_option linter.unusedVariables false
namespace Go.Proofs.Ytlpohipneianjaa.Q
open Go Go.RowKit Go.Proofs.Ytlpohipneianjaa.G Go.Proofs.YtlpohipneianjaaW.PrintWords Go.Proofs.YtlpohipneianjaaW.PrintLast Go.Proofs.YtlpohipneianjaaW.PrintMore
theorem refunz_odd {u : Nat} (h : u < 18446744073709551616) (h1 : Int.tmod (u : Int) 2 = 1) : wrap64 ((-1) - (wrap64 (IntKind.u64.wrap (Int.tdiv (u : Int) 2)))) = unz u := by
  rw [tmod_nn (by omega)] at h1
  rw [tdiv_nn (by omega), IntKind.wrap_u64, w64 (x := (u : Int) / 2 % 18446744073709551616) (by omega) (by omega), w64 (by omega) (by omega)]
  unfold unz
  rw [if_neg (by omega)]
  omega
theorem refunz_even {u : Nat} (h : u < 18446744073709551616) (h1 : ¬ Int.tmod (u : Int) 2 = 1) : wrap64 (IntKind.u64.wrap (Int.tdiv (u : Int) 2)) = unz u := by
  rw [tmod_nn (by omega)] at h1
  rw [tdiv_nn (by omega), IntKind.wrap_u64, w64 (by omega) (by omega)]
  unfold unz
  rw [if_pos (by omega)]
  omega
theorem rdec_end (b : List Int) (hb : By b) (hl : b.length ≤ 4096) (n : Int) (kk : Int) (at' i : Nat) (nums : List Int) (texts : List ByteArray) (hh : Held nums texts) (hend : ¬ (0 < kk ∧ (i : Int) < n)) :
    ∃ R : DRes, (∃ K, ∀ k, K ≤ k → windroseref02_Decode.l1 k b n kk at' i nums texts = some (R)) ∧ (R = bad ∨ (b = enc nums texts ∧ R = (nums, texts, 0))) ∧ (¬ kk = 0 → b = enc nums texts → R = (nums, texts, 0)) := by
  have start : ∀ k, windroseref02_Decode.l1 (k + 1) b n kk at' i nums texts = windroseref02_Decode.j4 k b n kk at' i false nums texts := by
    intro k
    rw [windroseref02_Decode.l1]
    by_cases h : kk > 0
    · rw [if_pos h, decide_eq_false (by omega)]
    · rw [if_neg h]
  by_cases hk0 : kk = 0
  · refine ⟨bad, ⟨2, fun k hk => ?_⟩, .inl rfl, fun h => absurd hk0 h⟩
    obtain ⟨k, rfl⟩ : ∃ m, k = m + 2 := ⟨k - 2, by omega⟩
    rw [start, windroseref02_Decode.j4, if_neg (by simp), if_pos hk0]
    rfl
  · obtain ⟨R0, ⟨K, hK⟩, hc⟩ := Bytes_ev nums texts hh
    by_cases he : (strOfNums R0).toList = (strOfNums b).toList
    · have hs : strOfNums R0 = strOfNums b := (toList_inj _ _).1 he
      have hlen : R0.length = b.length := by rw [← strOfNums_size, ← strOfNums_size b, hs]
      have h4 : (enc nums texts).length ≤ 4096 := by
        rcases Nat.lt_or_ge 4096 (enc nums texts).length with h | h
        · have := hc.2 h; omega
        · exact h
      obtain rfl := hc.1 h4
      have hby : By (enc nums texts) := by
        have h1 := hh.1; have h2 := hh.2.2.1
        refine ((((by_countS (by omega)).append ?_).append (by_countS (by omega))).append ?_)
        · intro x hx
          obtain ⟨n, hn, hx⟩ := List.mem_flatMap.1 hx
          exact by_countS (zig_lt (hh.2.1 n hn)) x hx
        · intro x hx
          obtain ⟨s, hs, hx⟩ := List.mem_flatMap.1 hx
          have h3 := hh.2.2.2 s hs
          exact ((by_countS (by omega)).append (by_bytesOf s)) x hx
      have hbe : b = enc nums texts := by rw [← bytes_strOf b hb, ← bytes_strOf _ hby, hs]
      refine ⟨(nums, texts, 0), ⟨K + 2, fun k hk => ?_⟩, .inr ⟨hbe, rfl⟩, fun _ _ => rfl⟩
      obtain ⟨k, rfl⟩ : ∃ m, k = m + 2 := ⟨k - 2, by omega⟩
      rw [start, windroseref02_Decode.j4, if_neg (by simp), if_neg hk0, hK _ (by omega), Option.bind_some, if_pos he]
    · refine ⟨bad, ⟨K + 2, fun k hk => ?_⟩, .inl rfl, fun _ e => ?_⟩
      · obtain ⟨k, rfl⟩ : ∃ m, k = m + 2 := ⟨k - 2, by omega⟩
        rw [start, windroseref02_Decode.j4, if_neg (by simp), if_neg hk0, hK _ (by omega), Option.bind_some, if_neg he]
        rfl
      · have := hc.1 (by rw [← e]; exact hl)
        exact absurd (by rw [this, ← e]) he
theorem held_snoc {nums : List Int} {texts : List ByteArray} {s : ByteArray} (h : Held nums texts) (hs : s.size ≤ 100000) (ht : texts.length ≤ 100000) : Held nums (texts ++ [s]) :=
  ⟨h.1, h.2.1, by simp only [List.length_append, List.length_cons, List.length_nil]; omega, fun x hx => by
    rcases List.mem_append.1 hx with hx | hx
    · exact h.2.2.2 x hx
    · simp only [List.mem_singleton] at hx; subst hx; omega⟩
theorem held_num {nums : List Int} {texts : List ByteArray} {x : Int} (h : Held nums texts) (hx : I64 x) (ht : nums.length ≤ 100000) : Held (nums ++ [x]) texts :=
  ⟨by simp only [List.length_append, List.length_cons, List.length_nil]; omega, fun y hy => by
    rcases List.mem_append.1 hy with hy | hy
    · exact h.2.1 y hy
    · simp only [List.mem_singleton] at hy; subst hy; exact hx, h.2.2⟩
theorem rdec_text (b : List Int) (hb : By b) (hl : b.length ≤ 4096) (n : Int) (hn : n < 18446744073709551616) (kk : Int) (hk0 : 0 < kk) (p i : Nat) (hp : p ≤ b.length) (hi : (i : Int) < n) (hi2 : i ≤ 100000) (nums : List Int) (texts : List ByteArray) (ht : texts.length ≤ 100000)
    (u m : Nat) (hL : (∃ K, ∀ k, K ≤ k → windroseref02_Lead.f k (b.drop p) = some (((u : Int), (m : Int))))) (hm : m ≤ b.length - p) (hu : u < 18446744073709551616) (R : DRes) :
    (0 < m → p + m + u ≤ b.length → (∃ K, ∀ k, K ≤ k → windroseref02_Decode.l1 k b n m ((p + m + u : Nat) : Int) ((i + 1 : Nat) : Int) nums (texts ++ [strOfNums ((b.take (p + m + u)).drop (p + m))]) = some (R)) → (∃ K, ∀ k, K ≤ k → windroseref02_Decode.l1 k b n kk p i nums texts = some (R))) ∧
    (¬ (0 < m ∧ p + m + u ≤ b.length) → (∃ K, ∀ k, K ≤ k → windroseref02_Decode.l1 k b n 0 p ((i + 1 : Nat) : Int) nums texts = some (R)) → (∃ K, ∀ k, K ≤ k → windroseref02_Decode.l1 k b n kk p i nums texts = some (R))) := by
  obtain ⟨K, hK⟩ := hL
  have ei : Aside0 (IntKind.u64.wrap ((i : Int) + 1) = ((i + 1 : Nat) : Int)) := ⟨by rw [IntKind.wrap_u64]; omega⟩
  have ew : Aside0 (IntKind.u64.wrap (wrap64 ((wrap64 ((b.length : Int) - (p : Int))) - (m : Int))) = ((b.length - p - m : Nat) : Int)) := ⟨by
    rw [w64 (x := (b.length : Int) - (p : Int)) (by omega) (by omega), w64 (by omega) (by omega), IntKind.wrap_u64]; omega⟩
  constructor
  · intro hm0 hfit hR
    obtain ⟨K2, hK2⟩ := hR
    have e1 : Aside0 (wrap64 ((p : Int) + (m : Int)) = ((p + m : Nat) : Int)) := ⟨by rw [w64] <;> omega⟩
    have e2 : Aside0 (wrap64 (((p + m : Nat) : Int) + (wrap64 (u : Int))) = ((p + m + u : Nat) : Int)) := ⟨by rw [w64 (x := (u : Int)) (by omega) (by omega), w64] <;> omega⟩
    refine ⟨K + K2 + 3, fun k hk => ?_⟩
    obtain ⟨k, rfl⟩ : ∃ m, k = m + 3 := ⟨k - 3, by omega⟩
    rw [windroseref02_Decode.l1, if_pos hk0, decide_eq_true hi, windroseref02_Decode.j4, if_pos rfl, if_pos (by omega), if_pos (by omega), Int.toNat_natCast, hK _ (by omega), Option.bind_some]
    simp only []
    rw [if_pos (show (m : Int) > 0 by omega), ew.out, decide_eq_false (show ¬ ((u : Int) > ((b.length - p - m : Nat) : Int)) by omega), windroseref02_Decode.j5, if_neg (by simp), if_pos (show (m : Int) > 0 by omega), e1.out, e2.out, if_pos (by omega), if_pos (by omega), if_pos (by omega), if_pos (by omega), Int.toNat_natCast, Int.toNat_natCast, ei.out]
    exact hK2 k (by omega)
  · intro hno hR
    obtain ⟨K2, hK2⟩ := hR
    refine ⟨K + K2 + 3, fun k hk => ?_⟩
    obtain ⟨k, rfl⟩ : ∃ m, k = m + 3 := ⟨k - 3, by omega⟩
    rw [windroseref02_Decode.l1, if_pos hk0, decide_eq_true hi, windroseref02_Decode.j4, if_pos rfl, if_pos (by omega), if_pos (by omega), Int.toNat_natCast, hK _ (by omega), Option.bind_some]
    simp only []
    by_cases hm0 : 0 < m
    · rw [if_pos (show (m : Int) > 0 by omega), ew.out, decide_eq_true (show ((u : Int) > ((b.length - p - m : Nat) : Int)) by omega), windroseref02_Decode.j5, if_pos rfl, ei.out]
      exact hK2 k (by omega)
    · obtain rfl : m = 0 := by omega
      rw [if_neg (show ¬ ((0 : Nat) : Int) > 0 by omega), windroseref02_Decode.j5, if_neg (by simp), if_neg (show ¬ ((0 : Nat) : Int) > 0 by omega), ei.out]
      exact hK2 k (by omega)
theorem rdec_texts (b : List Int) (hb : By b) (hl : b.length ≤ 4096) (n : Int) (hn : n < 18446744073709551616) (nums : List Int) (d : Nat) : ∀ (p i : Nat) (kk : Int) (texts : List ByteArray), b.length - p ≤ d → p ≤ b.length → i ≤ p → texts.length ≤ p → Held nums texts →
    ∃ R : DRes, (∃ K, ∀ k, K ≤ k → windroseref02_Decode.l1 k b n kk p i nums texts = some (R)) ∧ (R = bad ∨ ∃ ts, Held nums ts ∧ b = enc nums ts ∧ R = (nums, ts, 0)) := by
  have stop : ∀ (p i : Nat) (kk : Int) (texts : List ByteArray), Held nums texts → ¬ (0 < kk ∧ (i : Int) < n) → ∃ R : DRes, (∃ K, ∀ k, K ≤ k → windroseref02_Decode.l1 k b n kk p i nums texts = some (R)) ∧ (R = bad ∨ ∃ ts, Held nums ts ∧ b = enc nums ts ∧ R = (nums, ts, 0)) := by
    intro p i kk texts hh h
    obtain ⟨R, hR, h1, _⟩ := rdec_end b hb hl n kk p i nums texts hh h
    refine ⟨R, hR, ?_⟩
    rcases h1 with h1 | ⟨h1, h2⟩
    · exact .inl h1
    · exact .inr ⟨texts, hh, h1, h2⟩
  induction d with
  | zero =>
    intro p i kk texts hd hp hi ht hh
    by_cases hc : 0 < kk ∧ (i : Int) < n
    · obtain ⟨u, m, hL, hu, hm, _⟩ := Lead_ev (b.drop p) (hb.drop p) (by rw [List.length_drop]; omega)
      rw [List.length_drop] at hm
      obtain ⟨R, hR, h⟩ := stop p (i + 1) 0 texts hh (by omega)
      exact ⟨R, (rdec_text b hb hl n hn kk hc.1 p i hp hc.2 (by omega) nums texts (by omega) u m hL hm hu R).2 (by omega) hR, h⟩
    · exact stop p i kk texts hh hc
  | succ d ih =>
    intro p i kk texts hd hp hi ht hh
    by_cases hc : 0 < kk ∧ (i : Int) < n
    · obtain ⟨u, m, hL, hu, hm, _⟩ := Lead_ev (b.drop p) (hb.drop p) (by rw [List.length_drop]; omega)
      rw [List.length_drop] at hm
      by_cases hf : 0 < m ∧ p + m + u ≤ b.length
      · have hsz : (strOfNums ((b.take (p + m + u)).drop (p + m))).size ≤ 100000 := by rw [strOfNums_size, List.length_drop, List.length_take]; omega
        obtain ⟨R, hR, h⟩ := ih (p + m + u) (i + 1) m (texts ++ [strOfNums ((b.take (p + m + u)).drop (p + m))]) (by omega) hf.2 (by omega) (by simp only [List.length_append, List.length_cons, List.length_nil]; omega) (held_snoc hh hsz (by omega))
        exact ⟨R, (rdec_text b hb hl n hn kk hc.1 p i hp hc.2 (by omega) nums texts (by omega) u m hL hm hu R).1 hf.1 hf.2 hR, h⟩
      · obtain ⟨R, hR, h⟩ := stop p (i + 1) 0 texts hh (by omega)
        exact ⟨R, (rdec_text b hb hl n hn kk hc.1 p i hp hc.2 (by omega) nums texts (by omega) u m hL hm hu R).2 hf hR, h⟩
    · exact stop p i kk texts hh hc
theorem rdec_num (b : List Int) (hl : b.length ≤ 4096) (n : Int) (hn : n < 18446744073709551616) (kk : Int) (hk0 : 0 < kk) (p i : Nat) (hp : p ≤ b.length) (hi : (i : Int) < n) (hi2 : i ≤ 100000) (nums : List Int) (ht : nums.length ≤ 100000)
    (u m : Nat) (hL : (∃ K, ∀ k, K ≤ k → windroseref02_Lead.f k (b.drop p) = some (((u : Int), (m : Int))))) (hm : m ≤ b.length - p) (hu : u < 18446744073709551616) (R : DRes)
    (hR : (∃ K, ∀ k, K ≤ k → windroseref02_Decode.l0 k b n m ((p + m : Nat) : Int) ((i + 1 : Nat) : Int) (nums ++ [unz u]) = some (R))) : (∃ K, ∀ k, K ≤ k → windroseref02_Decode.l0 k b n kk p i nums = some (R)) := by
  obtain ⟨K, hK⟩ := hL
  obtain ⟨K2, hK2⟩ := hR
  have ei : Aside0 (IntKind.u64.wrap ((i : Int) + 1) = ((i + 1 : Nat) : Int)) := ⟨by rw [IntKind.wrap_u64]; omega⟩
  have e1 : Aside0 (wrap64 ((p : Int) + (m : Int)) = ((p + m : Nat) : Int)) := ⟨by rw [w64] <;> omega⟩
  refine ⟨K + K2 + 2, fun k hk => ?_⟩
  obtain ⟨k, rfl⟩ : ∃ m, k = m + 2 := ⟨k - 2, by omega⟩
  rw [windroseref02_Decode.l0, if_pos hk0, decide_eq_true hi, windroseref02_Decode.j1, if_pos rfl, if_pos (by omega), if_pos (by omega), Int.toNat_natCast, hK _ (by omega), Option.bind_some]
  simp only []
  by_cases h1 : Int.tmod (u : Int) 2 = 1
  · rw [if_pos h1, if_pos (by omega), refunz_odd hu h1, e1.out, ei.out]
    exact hK2 k (by omega)
  · rw [if_neg h1, if_pos (by omega), refunz_even hu h1, e1.out, ei.out]
    exact hK2 k (by omega)
theorem rdec_mid (b : List Int) (n : Int) (kk : Int) (hk0 : 0 < kk) (p i : Nat) (hp : p ≤ b.length) (hl : b.length ≤ 4096) (hi : ¬ (i : Int) < n) (nums : List Int) (u m : Nat) (hL : (∃ K, ∀ k, K ≤ k → windroseref02_Lead.f k (b.drop p) = some (((u : Int), (m : Int))))) (hm : m ≤ b.length - p) (R : DRes)
    (hR : (∃ K, ∀ k, K ≤ k → windroseref02_Decode.l1 k b u m ((p + m : Nat) : Int) ((0 : Nat) : Int) nums [] = some (R))) : (∃ K, ∀ k, K ≤ k → windroseref02_Decode.l0 k b n kk p i nums = some (R)) := by
  obtain ⟨K, hK⟩ := hL
  obtain ⟨K2, hK2⟩ := hR
  have e1 : Aside0 (wrap64 ((p : Int) + (m : Int)) = ((p + m : Nat) : Int)) := ⟨by rw [w64] <;> omega⟩
  refine ⟨K + K2 + 3, fun k hk => ?_⟩
  obtain ⟨k, rfl⟩ : ∃ m, k = m + 3 := ⟨k - 3, by omega⟩
  rw [windroseref02_Decode.l0, if_pos hk0, decide_eq_false hi, windroseref02_Decode.j1, if_neg (by simp), if_pos hk0, if_pos (by omega), if_pos (by omega), Int.toNat_natCast, hK _ (by omega), Option.bind_some, windroseref02_Decode.j2]
  simp only [e1.out]
  exact hK2 k (by omega)
theorem rdec_none (b : List Int) (n : Int) (p i : Int) (nums : List Int) : (∃ K, ∀ k, K ≤ k → windroseref02_Decode.l0 k b n 0 p i nums = some (bad)) := by
  refine ⟨5, fun k hk => ?_⟩
  obtain ⟨k, rfl⟩ : ∃ m, k = m + 5 := ⟨k - 5, by omega⟩
  rw [windroseref02_Decode.l0, if_neg (by omega), windroseref02_Decode.j1, if_neg (by simp), if_neg (by omega), windroseref02_Decode.j2, windroseref02_Decode.l1, if_neg (by omega), windroseref02_Decode.j4, if_neg (by simp), if_pos rfl]
  rfl
theorem rdec_nums (b : List Int) (hb : By b) (hl : b.length ≤ 4096) (n : Int) (hn : n < 18446744073709551616) (d : Nat) : ∀ (p i : Nat) (kk : Int) (nums : List Int), 0 ≤ kk → b.length - p ≤ d → p ≤ b.length → i ≤ p → nums.length ≤ p → Held nums [] →
    ∃ R : DRes, (∃ K, ∀ k, K ≤ k → windroseref02_Decode.l0 k b n kk p i nums = some (R)) ∧ (R = bad ∨ ∃ ns ts, Held ns ts ∧ b = enc ns ts ∧ R = (ns, ts, 0)) := by
  have mid : ∀ (p i : Nat) (kk : Int) (nums : List Int), 0 ≤ kk → p ≤ b.length → ¬ (i : Int) < n → Held nums [] → ∃ R : DRes, (∃ K, ∀ k, K ≤ k → windroseref02_Decode.l0 k b n kk p i nums = some (R)) ∧ (R = bad ∨ ∃ ns ts, Held ns ts ∧ b = enc ns ts ∧ R = (ns, ts, 0)) := by
    intro p i kk nums hk hp hi hh
    by_cases h0 : 0 < kk
    · obtain ⟨u, m, hL, hu, hm, _⟩ := Lead_ev (b.drop p) (hb.drop p) (by rw [List.length_drop]; omega)
      rw [List.length_drop] at hm
      obtain ⟨R, hR, h⟩ := rdec_texts b hb hl u (by omega) nums b.length (p + m) 0 m [] (by omega) (by omega) (by omega) (by simp) hh
      refine ⟨R, rdec_mid b n kk h0 p i hp hl hi nums u m hL hm R hR, ?_⟩
      rcases h with h | ⟨ts, h1, h2, h3⟩
      · exact .inl h
      · exact .inr ⟨nums, ts, h1, h2, h3⟩
    · obtain rfl : kk = 0 := by omega
      exact ⟨bad, rdec_none b n p i nums, .inl rfl⟩
  induction d with
  | zero =>
    intro p i kk nums hk hd hp hi ht hh
    by_cases h0 : 0 < kk
    · by_cases hc : (i : Int) < n
      · obtain ⟨u, m, hL, hu, hm, _⟩ := Lead_ev (b.drop p) (hb.drop p) (by rw [List.length_drop]; omega)
        rw [List.length_drop] at hm
        obtain rfl : m = 0 := by omega
        exact ⟨bad, rdec_num b hl n hn kk h0 p i hp hc (by omega) nums (by omega) u 0 hL (by omega) hu bad (rdec_none b n _ _ _), .inl rfl⟩
      · exact mid p i kk nums hk hp hc hh
    · obtain rfl : kk = 0 := by omega
      exact ⟨bad, rdec_none b n p i nums, .inl rfl⟩
  | succ d ih =>
    intro p i kk nums hk hd hp hi ht hh
    by_cases h0 : 0 < kk
    · by_cases hc : (i : Int) < n
      · obtain ⟨u, m, hL, hu, hm, _⟩ := Lead_ev (b.drop p) (hb.drop p) (by rw [List.length_drop]; omega)
        rw [List.length_drop] at hm
        by_cases hm0 : 0 < m
        · obtain ⟨R, hR, h⟩ := ih (p + m) (i + 1) m (nums ++ [unz u]) (by omega) (by omega) (by omega) (by omega) (by simp only [List.length_append, List.length_cons, List.length_nil]; omega) (held_num hh (unz_i64 hu) (by omega))
          exact ⟨R, rdec_num b hl n hn kk h0 p i hp hc (by omega) nums (by omega) u m hL hm hu R hR, h⟩
        · obtain rfl : m = 0 := by omega
          exact ⟨bad, rdec_num b hl n hn kk h0 p i hp hc (by omega) nums (by omega) u 0 hL (by omega) hu bad (rdec_none b n _ _ _), .inl rfl⟩
      · exact mid p i kk nums hk hp hc hh
    · obtain rfl : kk = 0 := by omega
      exact ⟨bad, rdec_none b n p i nums, .inl rfl⟩
theorem rdec_encT (b : List Int) (hb : By b) (hl : b.length ≤ 4096) (nums : List Int) (ts : List ByteArray) (hh : Held nums ts) (he : b = enc nums ts) (r : List ByteArray) : ∀ (p : Nat) (kk : Int) (a : List ByteArray), 0 < kk → ts = a ++ r → p ≤ b.length → b.drop p = encT r →
    (∃ K, ∀ k, K ≤ k → windroseref02_Decode.l1 k b (ts.length : Int) kk p (a.length : Nat) nums a = some ((nums, ts, 0))) := by
  have htl : ts.length ≤ 4096 := by
    have := (encT_len ts).1
    have h2 := congrArg List.length he
    simp only [enc, List.length_append] at h2
    omega
  induction r with
  | nil =>
    intro p kk a hk ht hp hd
    simp only [List.append_nil] at ht
    subst ht
    obtain ⟨R, hR, _, h⟩ := rdec_end b hb hl (ts.length : Int) kk p ts.length nums ts hh (by omega)
    rw [h (by omega) he] at hR
    exact hR
  | cons s r ih =>
    intro p kk a hk ht hp hd
    have hlen := congrArg List.length ht
    simp only [List.length_append, List.length_cons] at hlen
    have hsz : s.size ≤ 9223372036854775807 := hh.2.2.2 s (by rw [ht]; simp)
    rw [encT_cons, List.append_assoc] at hd
    have hdl := congrArg List.length hd
    rw [List.length_drop] at hdl
    simp only [List.length_append, bytesOf_length] at hdl
    have hL := Lead_count s.size (by omega) (bytesOf s ++ encT r) (by simp only [List.length_append, bytesOf_length]; omega)
    rw [← hd] at hL
    have hcut : (b.take (p + (countS s.size).length + s.size)).drop (p + (countS s.size).length) = bytesOf s := by
      rw [← List.drop_drop, List.drop_take, List.drop_take, hd]
      rw [List.drop_append, List.drop_of_length_le (Nat.le_refl _), Nat.sub_self]
      simp only [List.nil_append, List.drop_zero]
      rw [show p + (countS s.size).length + s.size - p - (countS s.size).length = s.size by omega, List.take_append_of_le_length (by rw [bytesOf_length]; exact Nat.le_refl _), List.take_of_length_le (by rw [bytesOf_length]; exact Nat.le_refl _)]
    have hih := ih (p + (countS s.size).length + s.size) ((countS s.size).length : Int) (a ++ [s]) (by have := countS_pos s.size; omega) (by rw [ht]; simp) (by omega) (by
      rw [show p + (countS s.size).length + s.size = p + ((countS s.size).length + s.size) by omega, ← List.drop_drop, hd, ← List.append_assoc, List.drop_append, List.drop_of_length_le (by simp only [List.length_append, bytesOf_length]; omega)]
      simp only [List.length_append, bytesOf_length, Nat.sub_self, List.nil_append, List.drop_zero])
    refine (rdec_text b hb hl (ts.length : Int) (by omega) kk hk p a.length hp (by omega) (by omega) nums a (by omega) s.size (countS s.size).length hL (by omega) (by omega) _).1 (countS_pos _) (by omega) ?_
    rw [hcut, strOf_bytes]
    simpa using hih
theorem rdec_encN (b : List Int) (hb : By b) (hl : b.length ≤ 4096) (ns : List Int) (ts : List ByteArray) (hh : Held ns ts) (he : b = enc ns ts) (r : List Int) : ∀ (p : Nat) (kk : Int) (a : List Int), 0 < kk → ns = a ++ r → p ≤ b.length → b.drop p = encN r ++ (countS ts.length ++ encT ts) →
    (∃ K, ∀ k, K ≤ k → windroseref02_Decode.l0 k b (ns.length : Int) kk p (a.length : Nat) a = some ((ns, ts, 0))) := by
  have hbl : (countS ns.length).length + (encN ns).length + (countS ts.length).length + (encT ts).length = b.length := by
    have h2 := congrArg List.length he
    simp only [enc, List.length_append] at h2
    omega
  have hnl : ns.length ≤ 4096 := by have := encN_len ns; omega
  induction r with
  | nil =>
    intro p kk a hk ht hp hd
    simp only [List.append_nil] at ht
    subst ht
    simp only [encN, List.flatMap_nil, List.nil_append] at hd
    have h3 := hh.2.2.1
    have hdl := congrArg List.length hd
    rw [List.length_drop] at hdl
    simp only [List.length_append] at hdl
    have hL := Lead_count ts.length (by omega) (encT ts) (by simp only [List.length_append]; omega)
    rw [← hd] at hL
    have hT := rdec_encT b hb hl ns ts hh he ts (p + (countS ts.length).length) ((countS ts.length).length : Int) [] (by have := countS_pos ts.length; omega) rfl (by omega) (by
      rw [← List.drop_drop, hd, List.drop_append, List.drop_of_length_le (Nat.le_refl _)]; simp)
    exact rdec_mid b (ns.length : Int) kk hk p ns.length hp hl (by omega) ns ts.length _ hL (by omega) _ hT
  | cons x r ih =>
    intro p kk a hk ht hp hd
    have hlen := congrArg List.length ht
    simp only [List.length_append, List.length_cons] at hlen
    have hx : I64 x := hh.2.1 x (by rw [ht]; simp)
    rw [encN_cons, List.append_assoc] at hd
    have hdl := congrArg List.length hd
    rw [List.length_drop] at hdl
    simp only [List.length_append] at hdl
    have hL := Lead_count (zig x) (zig_lt hx) (encN r ++ (countS ts.length ++ encT ts)) (by simp only [List.length_append]; omega)
    rw [← hd] at hL
    have hih := ih (p + (countS (zig x)).length) ((countS (zig x)).length : Int) (a ++ [x]) (by have := countS_pos (zig x); omega) (by rw [ht]; simp) (by omega) (by
      rw [← List.drop_drop, hd, List.drop_append, List.drop_of_length_le (Nat.le_refl _)]; simp)
    refine rdec_num b hl (ns.length : Int) (by omega) kk hk p a.length hp (by omega) (by omega) a (by omega) (zig x) _ hL (by omega) (zig_lt hx) _ ?_
    rw [unz_zig]
    simpa using hih
theorem refDecode_ev (b : List Int) (hb : By b) (hl : b.length ≤ 4096) : ∃ R : DRes, (∃ K, ∀ k, K ≤ k → windroseref02_Decode.f k b = some (R)) ∧ ((∃ ns ts, Held ns ts ∧ b = enc ns ts ∧ R = (ns, ts, 0)) ∨ (R = bad ∧ ∀ ns ts, Held ns ts → b ≠ enc ns ts)) := by
  obtain ⟨u, m, ⟨K, hK⟩, hu, hm, _⟩ := Lead_ev b hb (by omega)
  obtain ⟨R, ⟨K2, hK2⟩, h⟩ := rdec_nums b hb hl u (by omega) b.length m 0 m [] (by omega) (by omega) hm (by omega) (by simp) ⟨by simp, fun x hx => by simp at hx, by simp, fun x hx => by simp at hx⟩
  have hf : (∃ K, ∀ k, K ≤ k → windroseref02_Decode.f k b = some (R)) := ⟨K + K2, fun k hk => by
    unfold windroseref02_Decode.f
    rw [if_neg (by omega), hK _ (by omega), Option.bind_some]
    exact hK2 k (by omega)⟩
  by_cases he : ∃ ns ts, Held ns ts ∧ b = enc ns ts
  · obtain ⟨ns, ts, hh, e⟩ := he
    have h1 := hh.1
    have hbl := congrArg List.length e
    simp only [enc, List.length_append] at hbl
    have e' : b = countS ns.length ++ (encN ns ++ (countS ts.length ++ encT ts)) := by rw [e]; simp [enc]
    obtain ⟨K3, hK3⟩ := Lead_count ns.length (by omega) (encN ns ++ (countS ts.length ++ encT ts)) (by simp only [List.length_append]; omega)
    rw [← e'] at hK3
    obtain ⟨K4, hK4⟩ := rdec_encN b hb hl ns ts hh e ns (countS ns.length).length ((countS ns.length).length : Int) [] (by have := countS_pos ns.length; omega) rfl (by omega) (by
      conv => lhs; rw [e']
      rw [List.drop_append, List.drop_of_length_le (Nat.le_refl _)]; simp)
    refine ⟨(ns, ts, 0), ⟨K3 + K4, fun k hk => ?_⟩, .inl ⟨ns, ts, hh, e, rfl⟩⟩
    unfold windroseref02_Decode.f
    rw [if_neg (by omega), hK3 _ (by omega), Option.bind_some]
    exact hK4 k (by omega)
  · refine ⟨R, hf, .inr ⟨?_, fun ns ts hh e => he ⟨ns, ts, hh, e⟩⟩⟩
    rcases h with h | ⟨ns, ts, hh, e, _⟩
    · exact h
    · exact absurd ⟨ns, ts, hh, e⟩ he
theorem both_dec (b : List Int) (hb : By b) (hl : b.length ≤ 4096) : ∃ R : DRes, (∃ K, ∀ k, K ≤ k → frame_Decode.f k b = some (R)) ∧ (∃ K, ∀ k, K ≤ k → windroseref02_Decode.f k b = some (R)) ∧ ((∃ ns ts, Held ns ts ∧ b = enc ns ts ∧ R = (ns, ts, 0)) ∨ (R = bad ∧ ∀ ns ts, Held ns ts → b ≠ enc ns ts)) := by
  obtain ⟨R, h1, h2⟩ := Decode_ev b hb hl
  obtain ⟨R', h3, h4⟩ := refDecode_ev b hb hl
  rcases h2 with ⟨ns, ts, hh, e, rfl⟩ | ⟨rfl, hno⟩
  · rcases h4 with ⟨ns', ts', hh', e', rfl⟩ | ⟨rfl, hno'⟩
    · obtain ⟨rfl, rfl⟩ := enc_inj hh hh' (by rw [← e, ← e'])
      exact ⟨_, h1, h3, .inl ⟨ns, ts, hh, e, rfl⟩⟩
    · exact absurd e (hno' ns ts hh)
  · rcases h4 with ⟨ns', ts', hh', e', rfl⟩ | ⟨rfl, hno'⟩
    · exact absurd e' (hno ns' ts' hh')
    · exact ⟨_, h1, h3, .inr ⟨rfl, hno⟩⟩
end Go.Proofs.Ytlpohipneianjaa.Q
end
