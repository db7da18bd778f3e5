/- Ytmddmbagehjdeaa: lines of the words and functions that the row BitsReads rests on, and the row. No condition. -/
import Derived.Test.YtmddmbagehjdeaaZBitsReads6
section
namespace Go.Proofs.Ytmddmbagehjdeaa.G
open Go.RowKit Go.Proofs.YtmddmbagehjdeaaW.PrintWords Go.Proofs.YtmddmbagehjdeaaW.PrintLast Go.Proofs.YtmddmbagehjdeaaW.PrintMore
attribute [local go_sem] max2_int min2_int max_two min_two max_three min_three max_four min_four
set_option linter.unusedVariables false
set_option linter.unusedSimpArgs false
set_option maxHeartbeats 8000000 in
set_option maxRecDepth 100000 in
theorem windroselaw17_BitsReads.calls (k : Nat) (A0_0 : Option Addr) (c0_0 : Nat) (l0_0 : List Int) (a0_1 : Int) (A1 : Option Addr) (c1 : Nat) (l1 : List (S42)) (r : Bool) (w : World) (hr0_0 : Kd.C (Kd.int .u8) w A0_0 l0_0.length l0_0) (hc0_0 : l0_0.length ≤ c0_0) (hr1 : Kd.C k42 w A1 l1.length l1) (hc1 : l1.length ≤ c1) (h : windroselaw17_BitsReads.f k l0_0 a0_1 l1 = some r) :
    Calls Try.prog 4 #[.agg #[.slice A0_0 l0_0.length c0_0, .int .i64 a0_1], .slice A1 l1.length c1] w fun e w' => e = .returned (.bool r) ∧ Below w.heap.size w w' := by
  have hu25 := Try.underlying25
  have HR0_0 := Aside0.mk hr0_0
  have HC0_0 := Aside0.mk hc0_0
  clear hr0_0 hc0_0
  have HR1 := Aside0.mk hr1
  have HC1 := Aside0.mk hc1
  clear hr1 hc1
  have HB := Aside0.mk (Below.refl w.heap.size w)
  have H : ((windroselaw17_light.f l0_0 a0_1).bind fun t243 => (if t243 = true then ((bits_Read.f k l0_0 a0_1).bind fun bt245 => ((windroseref17_May.f l0_0 a0_1).bind fun t252 => (if t252 = true then ((windroseref17_List.f k l0_0 a0_1).bind fun t253 => (windroselaw17_BitsReads.j0 k l1 t253 bt245.1 bt245.2.1 bt245.2.2)) else (windroselaw17_BitsReads.j0 k l1 (([] : List Bool)) bt245.1 bt245.2.1 bt245.2.2)))) else ((windroselaw17_awake.f k).bind fun t244 => (some t244)))) = some r := h
  clear h
  replace H := Option.bind_eq_some_iff.mp H
  obtain ⟨t243, A30, H⟩ := H
  replace H : (if t243 = true then ((bits_Read.f k l0_0 a0_1).bind fun bt245 => ((windroseref17_May.f l0_0 a0_1).bind fun t252 => (if t252 = true then ((windroseref17_List.f k l0_0 a0_1).bind fun t253 => (windroselaw17_BitsReads.j0 k l1 t253 bt245.1 bt245.2.1 bt245.2.2)) else (windroselaw17_BitsReads.j0 k l1 (([] : List Bool)) bt245.1 bt245.2.1 bt245.2.2)))) else ((windroselaw17_awake.f k).bind fun t244 => (some t244))) = some r := H
  have A3 := Aside0.mk A30
  clear A30
  by_cases c4 : t243 = true
  · subst c4
    have H1 : ((bits_Read.f k l0_0 a0_1).bind fun bt245 => ((windroseref17_May.f l0_0 a0_1).bind fun t252 => (if t252 = true then ((windroseref17_List.f k l0_0 a0_1).bind fun t253 => (windroselaw17_BitsReads.j0 k l1 t253 bt245.1 bt245.2.1 bt245.2.2)) else (windroselaw17_BitsReads.j0 k l1 (([] : List Bool)) bt245.1 bt245.2.1 bt245.2.2)))) = some r := by rw [if_pos rfl] at H; exact H
    clear H
    have H := H1
    clear H1
    replace H := Option.bind_eq_some_iff.mp H
    obtain ⟨⟨t245, t246, t247⟩, A50, H⟩ := H
    replace H : ((windroseref17_May.f l0_0 a0_1).bind fun t252 => (if t252 = true then ((windroseref17_List.f k l0_0 a0_1).bind fun t253 => (windroselaw17_BitsReads.j0 k l1 t253 t245 t246 t247)) else (windroselaw17_BitsReads.j0 k l1 (([] : List Bool)) t245 t246 t247))) = some r := H
    have A5 := Aside0.mk A50
    clear A50
    obtain ⟨y249, hy249⟩ : ∃ y_ : List Bool, y_ = (([] : List Bool)) := ⟨_, rfl⟩
    replace H : ((windroseref17_May.f l0_0 a0_1).bind fun t252 => (if t252 = true then ((windroseref17_List.f k l0_0 a0_1).bind fun t253 => (windroselaw17_BitsReads.j0 k l1 t253 t245 t246 t247)) else (windroselaw17_BitsReads.j0 k l1 y249 t245 t246 t247))) = some r := by first | (rw [hy249]; with_reducible exact H) | (have H2_ := (Option.bind_some _ _).symm.trans H; rw [hy249]; with_reducible exact H2_) | (have H2_ := (Option.bind_some _ _).symm.trans H; with_reducible exact H2_) | with_reducible exact H | (rw [hy249]; exact H) | exact H
    have Ny249 := Aside0.mk hy249
    clear hy249
    replace H := Option.bind_eq_some_iff.mp H
    obtain ⟨t252, A60, H⟩ := H
    replace H : (if t252 = true then ((windroseref17_List.f k l0_0 a0_1).bind fun t253 => (windroselaw17_BitsReads.j0 k l1 t253 t245 t246 t247)) else (windroselaw17_BitsReads.j0 k l1 y249 t245 t246 t247)) = some r := H
    have A6 := Aside0.mk A60
    clear A60
    have HC7 := Aside0.mk H
    clear H
    go_enter Try.func4, Try.ntmps4
    go_upto_if 27 with (first | ((with_reducible refine gate_dst (N := 2) rfl ?_); (try (refine gate_guard (by rfl) ?_; dsimp only)); refine box_event ?hg (N := 2) ?hd (cs := #[.slice A0_0 l0_0.length c0_0, .int .i64 a0_1]) (t := 25) ?hr ?_; (case hd => rfl); (case hg => rfl); (case hr => first | (go_simp; done) | (go_simp; rfl)); intro gb242 hg w8 hbox hb; have n0_ := Aside0.mk (below_step (by repeat (first | (with_reducible first | exact HB.out | apply below_alloc | apply pw_below_drewN | apply below_drew1) | exact HB.out)) hb); have n1_ := Aside0.mk (hbox); have n2_ := Aside0.mk ((by rw [hg]; exact (below_size (by repeat (first | (with_reducible first | exact HB.out | apply below_alloc | apply pw_below_drewN | apply below_drew1) | exact HB.out))) : w.heap.size ≤ gb242)); have n3_ := Aside0.mk ((by rw [hg]; exact (below_size (by repeat (first | (with_reducible first | exact HB.out | apply below_alloc | apply pw_below_drewN | apply below_drew1) | exact HB.out))) : w.heap.size ≤ gb242)); clear HB; have HB := n0_; have BK242 := n1_; have GW242 := n2_; have GE242 := n3_; clear n0_ n1_ n2_ n3_; clear hb hbox hg; have hcz9_0 : w8.cell? ⟨gb242, 0, none⟩ = some (.slice A0_0 l0_0.length c0_0) := (blk_cell BK242.out 0).trans rfl; have hcz9_1 : w8.cell? ⟨gb242, 1, none⟩ = some (.int .i64 a0_1) := (blk_cell BK242.out 1).trans rfl; have hfz9_0 := blk_frozen BK242.out 0; have hfz9_1 := blk_frozen BK242.out 1) | ((with_reducible refine gate_callee (f := 21) rfl ?_); refine goesL_ (some 18) rfl rfl Try.func21 (by kernel_rfl) rfl #[.agg #[.slice A0_0 l0_0.length c0_0, .int .i64 a0_1]] rfl (by (try simp only [List.map_toArray, List.map_cons, List.map_nil]); first | done | rfl | (simp only [List.length_drop, List.length_take]; rfl)) ?_; (with_reducible refine (windroselaw17_light.calls _ _ l0_0 a0_1 true _ ?side1 ?side2 A3.out).mono ?_); (case side1 => repeat (first | exact (Kd.C_below HR0_0.out HB.out) | (with_reducible refine Kd.C_alloc ?_ _) | (with_reducible refine Kd.C_drewN ?_ _) | (with_reducible refine Kd.C_drew ?_))); (case side2 => exact HC0_0.out); rintro e w10 ⟨rfl, hb⟩; refine ⟨_, rfl, ?_⟩; have n0_ := Aside0.mk (blk_below (g := gb242) (o := .cells #[.slice A0_0 l0_0.length c0_0, .int .i64 a0_1] 25 (0, 0)) (by (with_reducible repeat (first | refine blk_drewN ?_ _ | refine blk_drew ?_ | refine blk_alloc ?_ _)); exact BK242.out) hb); have n1_ := Aside0.mk (below_step (by repeat (first | (with_reducible first | exact HB.out | apply below_alloc | apply pw_below_drewN | apply below_drew1 | refine below_set ?_ GE242.out) | exact HB.out)) hb); clear BK242; clear HB; have BK242 := n0_; have HB := n1_; clear n0_ n1_; (try clear hb); (try clear hb2); (try clear hk); (try clear hi); have hcz11_0 : w10.cell? ⟨gb242, 0, none⟩ = some (.slice A0_0 l0_0.length c0_0) := (blk_cell BK242.out 0).trans rfl; have hcz11_1 : w10.cell? ⟨gb242, 1, none⟩ = some (.int .i64 a0_1) := (blk_cell BK242.out 1).trans rfl; have hfz11_0 := blk_frozen BK242.out 0; have hfz11_1 := blk_frozen BK242.out 1) | ((with_reducible refine gate_callee (f := 17) rfl ?_); refine goesL_ (some 22) rfl rfl Try.func17 (by kernel_rfl) rfl #[.agg #[.slice A0_0 l0_0.length c0_0, .int .i64 a0_1]] rfl (by (try simp only [List.map_toArray, List.map_cons, List.map_nil]); first | done | rfl | (simp only [List.length_drop, List.length_take]; rfl)) ?_; (with_reducible refine (bits_Read.calls k _ _ l0_0 a0_1 t245 t246 t247 w _ ?side1 ?side2 ?side3 A5.out).mono ?_); (case side1 => repeat (first | (with_reducible first | exact HB.out | apply below_alloc | apply pw_below_drewN | apply below_drew1 | refine below_set ?_ GE242.out) | exact HB.out)); (case side2 => repeat (first | exact (Kd.C_below HR0_0.out HB.out) | (with_reducible refine Kd.C_alloc ?_ _) | (with_reducible refine Kd.C_drewN ?_ _) | (with_reducible refine Kd.C_drew ?_))); (case side3 => exact HC0_0.out); rintro e w12 ⟨g248, rfl, hi, hb, hb2⟩; refine ⟨_, rfl, ?_⟩; have n0_ := Aside0.mk (blk_below (g := gb242) (o := .cells #[.slice A0_0 l0_0.length c0_0, .int .i64 a0_1] 25 (0, 0)) (by (with_reducible repeat (first | refine blk_drewN ?_ _ | refine blk_drew ?_ | refine blk_alloc ?_ _)); exact BK242.out) hb2); have n1_ := Aside0.mk (hb); have n2_ := Aside0.mk (hi); have n3_ := Aside0.mk (IsS52.ne_blk hi (blk_below (g := gb242) (o := .cells #[.slice A0_0 l0_0.length c0_0, .int .i64 a0_1] 25 (0, 0)) (by (with_reducible repeat (first | refine blk_drewN ?_ _ | refine blk_drew ?_ | refine blk_alloc ?_ _)); exact BK242.out) hb2) (by decide)); have n4_ := Aside0.mk (Ne.symm (IsS52.ne_blk hi (blk_below (g := gb242) (o := .cells #[.slice A0_0 l0_0.length c0_0, .int .i64 a0_1] 25 (0, 0)) (by (with_reducible repeat (first | refine blk_drewN ?_ _ | refine blk_drew ?_ | refine blk_alloc ?_ _)); exact BK242.out) hb2) (by decide))); clear BK242; clear HB; have BK242 := n0_; have HB := n1_; have HI248 := n2_; have NB248_242 := n3_; have NB242_248 := n4_; clear n0_ n1_ n2_ n3_ n4_; (try clear hb); (try clear hb2); (try clear hk); (try clear hi)) | ((with_reducible refine gate_dst (N := 25) rfl ?_); (try (refine gate_guard (by rfl) ?_; dsimp only)); refine Kd.R_lit Kd.bool _ 4 ?hg (N := 25) ?hd (xs := ([] : List Bool)) (inner := []) (ok := fun _ => True) (okp := fun _ => True) ?hr ?hp (fun _ hk => hk) trivial (Below.refl _ _) (Nat.le_refl _) (by simp) ?_; (case hd => rfl); (case hg => rfl); (case hr => first | (go_simp; done) | (go_simp; rfl)); (case hp => exact (Reps.none _ _)); intro v250 w13 ho14 hb hg_ hnew_; clear hg_ hnew_; (first | rw [← Ny249.out] at ho14 | (simp only [Int.reduceToNat] at ho14; rw [← Ny249.out] at ho14)); have n0_ := Aside0.mk (Kd.R_lower ho14 (below_size (by repeat (first | (with_reducible first | exact HB.out | apply below_alloc | apply pw_below_drewN | apply below_drew1 | refine below_set ?_ (IsS52.ge HI248.out) | refine below_set ?_ GE242.out) | exact HB.out)))); have n1_ := Aside0.mk (blk_below (g := gb242) (o := .cells #[.slice A0_0 l0_0.length c0_0, .int .i64 a0_1] 25 (0, 0)) (by (with_reducible repeat (first | refine blk_drewN ?_ _ | refine blk_drew ?_ | refine blk_alloc ?_ _)); exact BK242.out) hb); have n2_ := Aside0.mk (IsS52.below (by repeat (first | (with_reducible first | exact HI248.out | apply IsS52.alloc | apply IsS52.drewN | apply IsS52.drew | apply IsS52.set_1 | apply IsS52.set_2 | refine IsS52.far ?_ NB248_242.out _) | exact HI248.out)) hb); have n3_ := Aside0.mk (below_step (by repeat (first | (with_reducible first | exact HB.out | apply below_alloc | apply pw_below_drewN | apply below_drew1 | refine below_set ?_ (IsS52.ge HI248.out) | refine below_set ?_ GE242.out) | exact HB.out)) hb); clear BK242; clear HI248; clear HB; have HO251 := n0_; have BK242 := n1_; have HI248 := n2_; have HB := n3_; clear n0_ n1_ n2_ n3_; clear hb ho14; have hnb15 := NB242_248.out; have hnc15 := NB248_242.out; have hcz16_0 : w13.cell? ⟨gb242, 0, none⟩ = some (.slice A0_0 l0_0.length c0_0) := (blk_cell BK242.out 0).trans rfl; have hcz16_1 : w13.cell? ⟨gb242, 1, none⟩ = some (.int .i64 a0_1) := (blk_cell BK242.out 1).trans rfl; have hfz16_0 := blk_frozen BK242.out 0; have hfz16_1 := blk_frozen BK242.out 1) | ((with_reducible refine gate_callee (f := 22) rfl ?_); refine goesL_ (some 27) rfl rfl Try.func22 (by kernel_rfl) rfl #[.agg #[.slice A0_0 l0_0.length c0_0, .int .i64 a0_1]] rfl (by (try simp only [List.map_toArray, List.map_cons, List.map_nil]); first | done | rfl | (simp only [List.length_drop, List.length_take]; rfl)) ?_; (with_reducible refine (windroseref17_May.calls _ _ l0_0 a0_1 t252 _ ?side1 ?side2 A6.out).mono ?_); (case side1 => repeat (first | exact (Kd.C_below HR0_0.out HB.out) | (with_reducible refine Kd.C_alloc ?_ _) | (with_reducible refine Kd.C_drewN ?_ _) | (with_reducible refine Kd.C_drew ?_))); (case side2 => exact HC0_0.out); rintro e w17 ⟨rfl, hb⟩; refine ⟨_, rfl, ?_⟩; have n0_ := Aside0.mk (Kd.R_below (by (with_reducible repeat (first | apply Kd.R_alloc | apply Kd.R_drewN | apply Kd.R_drew)); exact HO251.out) hb); have n1_ := Aside0.mk (blk_below (g := gb242) (o := .cells #[.slice A0_0 l0_0.length c0_0, .int .i64 a0_1] 25 (0, 0)) (by (with_reducible repeat (first | refine blk_drewN ?_ _ | refine blk_drew ?_ | refine blk_alloc ?_ _)); exact BK242.out) hb); have n2_ := Aside0.mk (IsS52.below (by repeat (first | (with_reducible first | exact HI248.out | apply IsS52.alloc | apply IsS52.drewN | apply IsS52.drew | apply IsS52.set_1 | apply IsS52.set_2 | refine IsS52.far ?_ NB248_242.out _) | exact HI248.out)) hb); have n3_ := Aside0.mk (below_step (by repeat (first | (with_reducible first | exact HB.out | apply below_alloc | apply pw_below_drewN | apply below_drew1 | refine below_set ?_ (IsS52.ge HI248.out) | refine below_set ?_ GE242.out) | exact HB.out)) hb); clear HO251; clear BK242; clear HI248; clear HB; have HO251 := n0_; have BK242 := n1_; have HI248 := n2_; have HB := n3_; clear n0_ n1_ n2_ n3_; (try clear hb); (try clear hb2); (try clear hk); (try clear hi)))
    (try simp only [Act.put, List.setIfInBounds_toArray, List.set_cons_zero, List.set_cons_succ])
    go_cut [6] (fun v6 wc => ∃ (kq : Nat) (x6_6 : List Bool), Aside0 (windroselaw17_BitsReads.j0 kq l1 x6_6 t245 t246 t247 = some r) ∧ Aside0 (kq ≤ k) ∧ Aside0 (Kd.R Kd.bool 4 wc w.heap.size (fun _ => True) v6 x6_6) ∧ Aside0 (wc.heap[gb242]? = some (.cells #[(.slice A0_0 l0_0.length c0_0), .int .i64 a0_1] 25 (0, 0))) ∧ Aside0 (IsS52 w wc g248 t245 t246 t247) ∧ Aside0 (Below w.heap.size w wc))
    case first =>
      have H := HC7.out
      clear HC7
      by_cases c18 : t252 = true
      · subst c18
        have H1 : ((windroseref17_List.f k l0_0 a0_1).bind fun t253 => (windroselaw17_BitsReads.j0 k l1 t253 t245 t246 t247)) = some r := by rw [if_pos rfl] at H; exact H
        clear H
        have H := H1
        clear H1
        replace H := Option.bind_eq_some_iff.mp H
        obtain ⟨t253, A190, H⟩ := H
        replace H : (windroselaw17_BitsReads.j0 k l1 t253 t245 t246 t247) = some r := H
        have A19 := Aside0.mk A190
        clear A190
        have H' := Aside0.mk H
        clear H
        have hnb20 := NB242_248.out
        have hnc20 := NB248_242.out
        have hcz21_0 : w17.cell? ⟨gb242, 0, none⟩ = some (.slice A0_0 l0_0.length c0_0) := (blk_cell BK242.out 0).trans rfl
        have hcz21_1 : w17.cell? ⟨gb242, 1, none⟩ = some (.int .i64 a0_1) := (blk_cell BK242.out 1).trans rfl
        have hfz21_0 := blk_frozen BK242.out 0
        have hfz21_1 := blk_frozen BK242.out 1
        go_wp2_with (first | ((with_reducible refine gate_callee (f := 23) rfl ?_); refine goesL_ (some 29) rfl rfl Try.func23 (by kernel_rfl) rfl #[.agg #[.slice A0_0 l0_0.length c0_0, .int .i64 a0_1]] rfl (by (try simp only [List.map_toArray, List.map_cons, List.map_nil]); first | done | rfl | (simp only [List.length_drop, List.length_take]; rfl)) ?_; (with_reducible refine (windroseref17_List.calls k _ _ l0_0 a0_1 t253 _ ?side1 ?side2 A19.out).mono ?_); (case side1 => repeat (first | exact (Kd.C_below HR0_0.out HB.out) | (with_reducible refine Kd.C_alloc ?_ _) | (with_reducible refine Kd.C_drewN ?_ _) | (with_reducible refine Kd.C_drew ?_))); (case side2 => exact HC0_0.out); rintro e w22 ⟨v254, rfl, ho0, hb⟩; refine ⟨_, rfl, ?_⟩; have n0_ := Aside0.mk (Kd.R_elder' (by (with_reducible repeat (first | apply Kd.R_alloc | apply Kd.R_drewN | apply Kd.R_drew)); exact HO251.out) (Kd.R_base ho0) hb); have n1_ := Aside0.mk (Kd.R_lower (Kd.R_new' ho0 (Kd.R_lt (by (with_reducible repeat (first | apply Kd.R_alloc | apply Kd.R_drewN | apply Kd.R_drew)); exact HO251.out))) (below_size (by repeat (first | (with_reducible first | exact HB.out | apply below_alloc | apply pw_below_drewN | apply below_drew1 | refine below_set ?_ (IsS52.ge HI248.out) | refine below_set ?_ GE242.out) | exact HB.out)))); have n2_ := Aside0.mk (blk_below (g := gb242) (o := .cells #[.slice A0_0 l0_0.length c0_0, .int .i64 a0_1] 25 (0, 0)) (by (with_reducible repeat (first | refine blk_drewN ?_ _ | refine blk_drew ?_ | refine blk_alloc ?_ _)); exact BK242.out) hb); have n3_ := Aside0.mk (IsS52.below (by repeat (first | (with_reducible first | exact HI248.out | apply IsS52.alloc | apply IsS52.drewN | apply IsS52.drew | apply IsS52.set_1 | apply IsS52.set_2 | refine IsS52.far ?_ NB248_242.out _) | exact HI248.out)) hb); have n4_ := Aside0.mk (below_step (by repeat (first | (with_reducible first | exact HB.out | apply below_alloc | apply pw_below_drewN | apply below_drew1 | refine below_set ?_ (IsS52.ge HI248.out) | refine below_set ?_ GE242.out) | exact HB.out)) hb); clear HO251; clear BK242; clear HI248; clear HB; have HO251 := n0_; have HO255 := n1_; have BK242 := n2_; have HI248 := n3_; have HB := n4_; clear n0_ n1_ n2_ n3_ n4_; (try clear hb); (try clear hb2); (try clear hk); (try clear hi); (try clear ho0)))
        go_meet
        case rel => exact ⟨_, (t253), H', ⟨by first | omega | exact Nat.le_refl _⟩, ⟨by (with_reducible repeat (first | apply Kd.R_alloc | apply Kd.R_drewN | apply Kd.R_drew)); exact Kd.R_mono HO255.out (fun _ hk => trivial)⟩, ⟨by (with_reducible repeat (first | refine blk_drewN ?_ _ | refine blk_drew ?_ | refine blk_alloc ?_ _)); exact BK242.out⟩, ⟨by repeat (first | (with_reducible first | exact HI248.out | apply IsS52.alloc | apply IsS52.drewN | apply IsS52.drew | apply IsS52.set_1 | apply IsS52.set_2 | refine IsS52.far ?_ NB248_242.out _) | exact HI248.out)⟩, ⟨by repeat (first | (with_reducible first | exact HB.out | apply below_alloc | apply pw_below_drewN | apply below_drew1 | refine below_set ?_ (IsS52.ge HI248.out) | refine below_set ?_ GE242.out) | exact HB.out)⟩⟩
      · replace c18 := Bool.eq_false_iff.mpr c18
        subst c18
        have H1 : (windroselaw17_BitsReads.j0 k l1 y249 t245 t246 t247) = some r := by rw [if_neg (show ¬ (false = true) by decide)] at H; exact H
        clear H
        have H := H1
        clear H1
        have H' := Aside0.mk H
        clear H
        go_wp2
        go_meet
        case rel => exact ⟨_, (y249), H', ⟨by first | omega | exact Nat.le_refl _⟩, ⟨by (with_reducible repeat (first | apply Kd.R_alloc | apply Kd.R_drewN | apply Kd.R_drew)); exact HO251.out⟩, ⟨by (with_reducible repeat (first | refine blk_drewN ?_ _ | refine blk_drew ?_ | refine blk_alloc ?_ _)); exact BK242.out⟩, ⟨by repeat (first | (with_reducible first | exact HI248.out | apply IsS52.alloc | apply IsS52.drewN | apply IsS52.drew | apply IsS52.set_1 | apply IsS52.set_2 | refine IsS52.far ?_ NB248_242.out _) | exact HI248.out)⟩, ⟨by repeat (first | (with_reducible first | exact HB.out | apply below_alloc | apply pw_below_drewN | apply below_drew1 | refine below_set ?_ (IsS52.ge HI248.out) | refine below_set ?_ GE242.out) | exact HB.out)⟩⟩
    case rest =>
      clear HC7
      try clear c1
      try clear c2
      try clear p2
      try clear c4
      try clear c15
      try clear c17
      try clear c18
      try clear c20
      try clear c21
      try clear c22
      try clear hcz11_0
      try clear hcz11_1
      try clear hcz16_0
      try clear hcz16_1
      try clear hcz21_0
      try clear hcz21_1
      try clear hcz9_0
      try clear hcz9_1
      try clear hfz11_0
      try clear hfz11_1
      try clear hfz16_0
      try clear hfz16_1
      try clear hfz21_0
      try clear hfz21_1
      try clear hfz9_0
      try clear hfz9_1
      obtain ⟨kq, x6_6, HA, HJ6, HO_6, BK242, HI248, HB⟩ := hcut
      cases kq with
      | zero => exact absurd HA.out (by simp [windroselaw17_BitsReads.j0])
      | succ kj6 =>
        have H := HA.out
        clear HA
        simp only [windroselaw17_BitsReads.j0] at H
        have H' := Aside0.mk H
        clear H
        go_wp2
        go_loopg [7, 8] kj6 (fun kq v7 v8 w' => ∃ (x7_2 : Int) (x8_2 : Int) (x249001_2 : Int) (x249002_2 : Int), v7 = .int .i64 x7_2 ∧ v8 = .int .i64 x8_2 ∧ Aside0 (windroselaw17_BitsReads.l0 kq l1 x6_6 x7_2 x8_2 t245 x249001_2 x249002_2 = some r) ∧ Aside0 (kq ≤ kj6) ∧ Aside0 (Kd.R Kd.bool 4 w' w.heap.size (fun _ => True) u6 x6_6) ∧ Aside0 (w'.heap[gb242]? = some (.cells #[(.slice A0_0 l0_0.length c0_0), .int .i64 a0_1] 25 (0, 0))) ∧ Aside0 (IsS52 w w' g248 t245 x249001_2 x249002_2) ∧ Aside0 (Below w.heap.size w w'))
        case atStart => exact ⟨(0), (0), (t246), (t247), (by first | rfl | (simp; done) | (simp [*]; done)), (by first | rfl | (simp; done) | (simp [*]; done)), H', ⟨Nat.le_refl _⟩, ⟨by (with_reducible repeat (first | apply Kd.R_alloc | apply Kd.R_drewN | apply Kd.R_drew)); exact HO_6.out⟩, ⟨by (with_reducible repeat (first | refine blk_drewN ?_ _ | refine blk_drew ?_ | refine blk_alloc ?_ _)); exact BK242.out⟩, ⟨by repeat (first | (with_reducible first | exact HI248.out | apply IsS52.alloc | apply IsS52.drewN | apply IsS52.drew | apply IsS52.set_1 | apply IsS52.set_2 | refine IsS52.far ?_ NB248_242.out _) | exact HI248.out)⟩, ⟨by repeat (first | (with_reducible first | exact HB.out | apply below_alloc | apply pw_below_drewN | apply below_drew1 | refine below_set ?_ (IsS52.ge HI248.out) | refine below_set ?_ GE242.out) | exact HB.out)⟩⟩
        case round =>
          clear H'
          try clear c1
          try clear c2
          try clear p2
          try clear c4
          try clear c15
          try clear c17
          try clear c18
          try clear c20
          try clear c21
          try clear c22
          try clear hcz11_0
          try clear hcz11_1
          try clear hcz16_0
          try clear hcz16_1
          try clear hcz21_0
          try clear hcz21_1
          try clear hcz9_0
          try clear hcz9_1
          try clear hfz11_0
          try clear hfz11_1
          try clear hfz16_0
          try clear hfz16_1
          try clear hfz21_0
          try clear hfz21_1
          try clear hfz9_0
          try clear hfz9_1
          try clear p2
          obtain ⟨x7_2, x8_2, x249001_2, x249002_2, rfl, rfl, HA, HK2, HO_6, BK242, HI248, HB⟩ := hrel
          cases gk with
          | zero => exact absurd HA.out (by simp [windroselaw17_BitsReads.l0])
          | succ k2 =>
            have H := HA.out
            clear HA
            simp only [windroselaw17_BitsReads.l0] at H
            have HC23 := Aside0.mk H
            clear H
            go_upto_region 11 with (fail)
            go_cut [37] (fun v37 wc => ∃ (kq : Nat) (x37_22 : Bool), v37 = .bool x37_22 ∧ Aside0 (windroselaw17_BitsReads.j2 kq l1 x6_6 x7_2 x8_2 x37_22 t245 x249001_2 x249002_2 = some r) ∧ Aside0 (kq ≤ k2) ∧ Aside0 (Kd.R Kd.bool 4 wc w.heap.size (fun _ => True) u6 x6_6) ∧ Aside0 (wc.heap[gb242]? = some (.cells #[(.slice A0_0 l0_0.length c0_0), .int .i64 a0_1] 25 (0, 0))) ∧ Aside0 (IsS52 w wc g248 t245 x249001_2 x249002_2) ∧ Aside0 (Below w.heap.size w wc))
            case first =>
              have H := HC23.out
              clear HC23
              by_cases c24 : x8_2 < (l1.length : Int)
              · rw [if_pos c24] at H
                have c24b0 : decide (x8_2 < (l1.length : Int)) = true := decide_eq_true c24
                clear c24
                (first | rw [c24b0] | (simp only [i64_w, i32_w]; rw [c24b0]) | skip)
                have H' := Aside0.mk H
                clear H
                go_wp2
                go_meet
                case rel => exact ⟨_, (decide (x8_2 < 60)), (by first | rfl | (simp; done) | (simp [*]; done)), H', ⟨by have := HJ6.out; have := HK2.out; first | omega | exact Nat.le_refl _⟩, ⟨by (with_reducible repeat (first | apply Kd.R_alloc | apply Kd.R_drewN | apply Kd.R_drew)); exact HO_6.out⟩, ⟨by (with_reducible repeat (first | refine blk_drewN ?_ _ | refine blk_drew ?_ | refine blk_alloc ?_ _)); exact BK242.out⟩, ⟨by repeat (first | (with_reducible first | exact HI248.out | apply IsS52.alloc | apply IsS52.drewN | apply IsS52.drew | apply IsS52.set_1 | apply IsS52.set_2 | refine IsS52.far ?_ NB248_242.out _) | exact HI248.out)⟩, ⟨by repeat (first | (with_reducible first | exact HB.out | apply below_alloc | apply pw_below_drewN | apply below_drew1 | refine below_set ?_ (IsS52.ge HI248.out) | refine below_set ?_ GE242.out) | exact HB.out)⟩⟩
              · rw [if_neg c24] at H
                have c24b0 : decide (x8_2 < (l1.length : Int)) = false := decide_eq_false c24
                clear c24
                (first | rw [c24b0] | (simp only [i64_w, i32_w]; rw [c24b0]) | skip)
                have H' := Aside0.mk H
                clear H
                go_wp2
                go_meet
                case rel => exact ⟨_, (false), (by first | rfl | (simp; done) | (simp [*]; done)), H', ⟨by have := HJ6.out; have := HK2.out; first | omega | exact Nat.le_refl _⟩, ⟨by (with_reducible repeat (first | apply Kd.R_alloc | apply Kd.R_drewN | apply Kd.R_drew)); exact HO_6.out⟩, ⟨by (with_reducible repeat (first | refine blk_drewN ?_ _ | refine blk_drew ?_ | refine blk_alloc ?_ _)); exact BK242.out⟩, ⟨by repeat (first | (with_reducible first | exact HI248.out | apply IsS52.alloc | apply IsS52.drewN | apply IsS52.drew | apply IsS52.set_1 | apply IsS52.set_2 | refine IsS52.far ?_ NB248_242.out _) | exact HI248.out)⟩, ⟨by repeat (first | (with_reducible first | exact HB.out | apply below_alloc | apply pw_below_drewN | apply below_drew1 | refine below_set ?_ (IsS52.ge HI248.out) | refine below_set ?_ GE242.out) | exact HB.out)⟩⟩
            case rest =>
              clear HC23
              try clear c1
              try clear c2
              try clear p2
              try clear c4
              try clear c15
              try clear c17
              try clear c18
              try clear c20
              try clear c21
              try clear c22
              try clear c23
              try clear c24
              try clear c24b0
              try clear hcz11_0
              try clear hcz11_1
              try clear hcz16_0
              try clear hcz16_1
              try clear hcz21_0
              try clear hcz21_1
              try clear hcz9_0
              try clear hcz9_1
              try clear hfz11_0
              try clear hfz11_1
              try clear hfz16_0
              try clear hfz16_1
              try clear hfz21_0
              try clear hfz21_1
              try clear hfz9_0
              try clear hfz9_1
              try clear p2
              obtain ⟨kq, x37_22, rfl, HA, HJ22, HO_6, BK242, HI248, HB⟩ := hcut
              cases kq with
              | zero => exact absurd HA.out (by simp [windroselaw17_BitsReads.j2])
              | succ kj22 =>
                have H := HA.out
                clear HA
                simp only [windroselaw17_BitsReads.j2] at H
                by_cases c25 : x37_22 = true
                · subst c25
                  have H1 : (if 0 ≤ x8_2 then (if x8_2 < (l1.length : Int) then (if ((rd_T42 l1 x8_2).f0) = 0 then ((bits_Reader_Take.f kj22 t245 x249001_2 x249002_2 ((rd_T42 l1 x8_2).f1)).bind fun bt259 => (if ((rd_T42 l1 x8_2).f1) < 0 then (windroselaw17_BitsReads.j3 kj22 l1 x6_6 x7_2 x8_2 ((rd_T42 l1 x8_2).f1) bt259.1 bt259.2.1 true t245 bt259.2.2.1 bt259.2.2.2) else (windroselaw17_BitsReads.j3 kj22 l1 x6_6 x7_2 x8_2 ((rd_T42 l1 x8_2).f1) bt259.1 bt259.2.1 (decide (((rd_T42 l1 x8_2).f1) > 64)) t245 bt259.2.2.1 bt259.2.2.2))) else (if ((rd_T42 l1 x8_2).f0) = 1 then ((bits_Reader_Number.f kj22 t245 x249001_2 x249002_2).bind fun bt268 => (if 0 ≤ x7_2 then (if x7_2 ≤ (x6_6.length : Int) then ((windroseref17_Number.f kj22 (x6_6.drop (x7_2 : Int).toNat)).bind fun bt276 => (if bt268.1 = bt276.1 then (if ((bt268.2.1 == 0) != (decide (bt276.2 > 0))) = true then (some false) else (if bt276.2 = 0 then (if bt268.2.1 = 2 then (windroselaw17_BitsReads.j5 kj22 l1 x6_6 (wrap64 (x7_2 + bt276.2)) x8_2 t245 bt268.2.2.1 bt268.2.2.2) else (some false)) else (windroselaw17_BitsReads.j5 kj22 l1 x6_6 (wrap64 (x7_2 + bt276.2)) x8_2 t245 bt268.2.2.1 bt268.2.2.2))) else (some false))) else (none)) else (none))) else ((bits_Reader_Seek.f t245 x249001_2 x249002_2 ((rd_T42 l1 x8_2).f1)).bind fun bt278 => (if ((rd_T42 l1 x8_2).f1) < 0 then (windroselaw17_BitsReads.j4 kj22 l1 x6_6 x7_2 x8_2 ((rd_T42 l1 x8_2).f1) bt278.1 true t245 bt278.2.1 bt278.2.2) else (windroselaw17_BitsReads.j4 kj22 l1 x6_6 x7_2 x8_2 ((rd_T42 l1 x8_2).f1) bt278.1 (decide (((rd_T42 l1 x8_2).f1) > (x6_6.length : Int))) t245 bt278.2.1 bt278.2.2))))) else (none)) else (none)) = some r := by rw [if_pos rfl] at H; exact H
                  clear H
                  have H := H1
                  clear H1
                  by_cases c26 : 0 ≤ x8_2
                  · rw [if_pos c26] at H
                    have c26b0 : decide (0 ≤ x8_2) = true := decide_eq_true c26
                    clear c26
                    by_cases c27 : x8_2 < (l1.length : Int)
                    · rw [if_pos c27] at H
                      have c27b0 : decide (x8_2 < (l1.length : Int)) = true := decide_eq_true c27
                      clear c27
                      have HC28 := Aside0.mk H
                      clear H
                      have p257 : 0 ≤ (x8_2 : Int) := of_decide_eq_true (by first | (with_reducible assumption) | assumption)
                      have q257 : x8_2 < (l1.length : Int) := of_decide_eq_true (by first | (with_reducible assumption) | assumption)
                      obtain ⟨ad257, e257, hx257_0, hx257_1⟩ := at_T42 HR1.out x8_2 p257 q257
                      cases e257
                      replace hx257_0 := (HB.out.cell (World.block_lt_of_cell? w _ hx257_0)).trans hx257_0
                      replace hx257_1 := (HB.out.cell (World.block_lt_of_cell? w _ hx257_1)).trans hx257_1
                      replace p257 := eq_true p257
                      replace q257 := eq_true q257
                      have p258 : 0 ≤ (x8_2 : Int) := of_decide_eq_true (by first | (with_reducible assumption) | assumption)
                      have q258 : x8_2 < (l1.length : Int) := of_decide_eq_true (by first | (with_reducible assumption) | assumption)
                      obtain ⟨ad258, e258, hx258_0, hx258_1⟩ := at_T42 HR1.out x8_2 p258 q258
                      obtain rfl : ad257 = ad258 := (by injection e258)
                      replace hx258_0 := (HB.out.cell (World.block_lt_of_cell? w _ hx258_0)).trans hx258_0
                      replace hx258_1 := (HB.out.cell (World.block_lt_of_cell? w _ hx258_1)).trans hx258_1
                      replace p258 := eq_true p258
                      replace q258 := eq_true q258
                      go_upto_block 2 with (fail)
                      go_cut [7] (fun v7 wc => ∃ (kq : Nat) (x7_27 : Int) (x249001_27 : Int) (x249002_27 : Int), v7 = .int .i64 x7_27 ∧ Aside0 (windroselaw17_BitsReads.j5 kq l1 x6_6 x7_27 x8_2 t245 x249001_27 x249002_27 = some r) ∧ Aside0 (kq ≤ kj22) ∧ Aside0 (Kd.R Kd.bool 4 wc w.heap.size (fun _ => True) u6 x6_6) ∧ Aside0 (wc.heap[gb242]? = some (.cells #[(.slice A0_0 l0_0.length c0_0), .int .i64 a0_1] 25 (0, 0))) ∧ Aside0 (IsS52 w wc g248 t245 x249001_27 x249002_27) ∧ Aside0 (Below w.heap.size w wc))
                      case first =>
                        have H := HC28.out
                        clear HC28
                        by_cases c29 : ((rd_T42 l1 x8_2).f0) = 0
                        · rw [if_pos c29] at H
                          have c29b0 : (((rd_T42 l1 x8_2).f0) == 0) = true := beq_iff_eq.mpr c29
                          have c29b1 : (((rd_T42 l1 x8_2).f0) != 0) = false := bne_eq_false_iff_eq.mpr c29
                          clear c29
                          (first | rw [c29b0] | (simp only [i64_w, i32_w]; rw [c29b0]) | skip)
                          replace H := Option.bind_eq_some_iff.mp H
                          obtain ⟨⟨t259, t260, t261, t262⟩, A300, H⟩ := H
                          replace H : (if ((rd_T42 l1 x8_2).f1) < 0 then (windroselaw17_BitsReads.j3 kj22 l1 x6_6 x7_2 x8_2 ((rd_T42 l1 x8_2).f1) t259 t260 true t245 t261 t262) else (windroselaw17_BitsReads.j3 kj22 l1 x6_6 x7_2 x8_2 ((rd_T42 l1 x8_2).f1) t259 t260 (decide (((rd_T42 l1 x8_2).f1) > 64)) t245 t261 t262)) = some r := H
                          have A30 := Aside0.mk A300
                          clear A300
                          have HC31 := Aside0.mk H
                          clear H
                          go_upto_region 24 with (first | ((with_reducible refine gate_callee (f := 24) rfl ?_); refine goesL_ (some 71) rfl rfl Try.func24 (by kernel_rfl) rfl #[.pointer (some ⟨g248, 0, none⟩), .int .i64 ((rd_T42 l1 x8_2).f1)] rfl (by (try simp only [List.map_toArray, List.map_cons, List.map_nil]); first | done | rfl | (simp only [List.length_drop, List.length_take]; rfl)) ?_; (with_reducible refine (bits_Reader_Take.calls kj22 g248 t245 x249001_2 x249002_2 ((rd_T42 l1 x8_2).f1) t259 t260 t261 t262 w _ ?side1 ?side2 A30.out).mono ?_); (case side1 => repeat (first | (with_reducible first | exact HI248.out | apply IsS52.alloc | apply IsS52.drewN | apply IsS52.drew | apply IsS52.set_1 | apply IsS52.set_2 | refine IsS52.far ?_ NB248_242.out _) | exact HI248.out)); (case side2 => repeat (first | (with_reducible first | exact HB.out | apply below_alloc | apply pw_below_drewN | apply below_drew1 | refine below_set ?_ (IsS52.ge HI248.out) | refine below_set ?_ GE242.out) | exact HB.out)); rintro e w32 ⟨rfl, hi, hb, hk⟩; refine ⟨_, rfl, ?_⟩; have n0_ := Aside0.mk (Kd.R_mono (Kd.R_keep (IsS52.apart (show IsS52 w _ g248 t245 x249001_2 x249002_2 from by repeat (first | (with_reducible first | exact HI248.out | apply IsS52.alloc | apply IsS52.drewN | apply IsS52.drew | apply IsS52.set_1 | apply IsS52.set_2 | refine IsS52.far ?_ NB248_242.out _) | exact HI248.out)) (by (with_reducible repeat (first | apply Kd.R_alloc | apply Kd.R_drewN | apply Kd.R_drew)); exact HO_6.out) (by decide)) hk (fun _ h => h.2)) (fun _ h => h.1)); have n1_ := Aside0.mk (KeepBut.blk hk (g' := gb242) (o := .cells #[.slice A0_0 l0_0.length c0_0, .int .i64 a0_1] 25 (0, 0)) (by (with_reducible repeat (first | refine blk_drewN ?_ _ | refine blk_drew ?_ | refine blk_alloc ?_ _)); exact BK242.out) NB242_248.out (by simp)); have n2_ := Aside0.mk (hb); have n3_ := Aside0.mk (hi); clear HO_6; clear BK242; clear HB; clear HI248; have HO_6 := n0_; have BK242 := n1_; have HB := n2_; have HI248 := n3_; clear n0_ n1_ n2_ n3_; (try clear hb); (try clear hb2); (try clear hk); (try clear hi)))
                          (try simp only [Act.put, List.setIfInBounds_toArray, List.set_cons_zero, List.set_cons_succ])
                          go_cut [79] (fun v79 wc => ∃ (kq : Nat) (x79_30 : Bool), v79 = .bool x79_30 ∧ Aside0 (windroselaw17_BitsReads.j3 kq l1 x6_6 x7_2 x8_2 ((rd_T42 l1 x8_2).f1) t259 t260 x79_30 t245 t261 t262 = some r) ∧ Aside0 (kq ≤ kj22) ∧ Aside0 (Kd.R Kd.bool 4 wc w.heap.size (fun _ => True) u6 x6_6) ∧ Aside0 (wc.heap[gb242]? = some (.cells #[(.slice A0_0 l0_0.length c0_0), .int .i64 a0_1] 25 (0, 0))) ∧ Aside0 (IsS52 w wc g248 t245 t261 t262) ∧ Aside0 (Below w.heap.size w wc))
                          case first =>
                            have H := HC31.out
                            clear HC31
                            by_cases c33 : ((rd_T42 l1 x8_2).f1) < 0
                            · rw [if_pos c33] at H
                              have c33b0 : decide (((rd_T42 l1 x8_2).f1) < 0) = true := decide_eq_true c33
                              clear c33
                              (first | rw [c33b0] | (simp only [i64_w, i32_w]; rw [c33b0]) | skip)
                              have H' := Aside0.mk H
                              clear H
                              go_wp2
                              go_meet
                              case rel => exact ⟨_, (true), (by first | rfl | (simp; done) | (simp [*]; done)), H', ⟨by have := HJ6.out; have := HK2.out; have := HJ22.out; first | omega | exact Nat.le_refl _⟩, ⟨by (with_reducible repeat (first | apply Kd.R_alloc | apply Kd.R_drewN | apply Kd.R_drew)); exact HO_6.out⟩, ⟨by (with_reducible repeat (first | refine blk_drewN ?_ _ | refine blk_drew ?_ | refine blk_alloc ?_ _)); exact BK242.out⟩, ⟨by repeat (first | (with_reducible first | exact HI248.out | apply IsS52.alloc | apply IsS52.drewN | apply IsS52.drew | apply IsS52.set_1 | apply IsS52.set_2 | refine IsS52.far ?_ NB248_242.out _) | exact HI248.out)⟩, ⟨by repeat (first | (with_reducible first | exact HB.out | apply below_alloc | apply pw_below_drewN | apply below_drew1 | refine below_set ?_ (IsS52.ge HI248.out) | refine below_set ?_ GE242.out) | exact HB.out)⟩⟩
                            · rw [if_neg c33] at H
                              have c33b0 : decide (((rd_T42 l1 x8_2).f1) < 0) = false := decide_eq_false c33
                              clear c33
                              (first | rw [c33b0] | (simp only [i64_w, i32_w]; rw [c33b0]) | skip)
                              have H' := Aside0.mk H
                              clear H
                              go_wp2
                              go_meet
                              case rel => exact ⟨_, (decide (((rd_T42 l1 x8_2).f1) > 64)), (by first | rfl | (simp; done) | (simp [*]; done)), H', ⟨by have := HJ6.out; have := HK2.out; have := HJ22.out; first | omega | exact Nat.le_refl _⟩, ⟨by (with_reducible repeat (first | apply Kd.R_alloc | apply Kd.R_drewN | apply Kd.R_drew)); exact HO_6.out⟩, ⟨by (with_reducible repeat (first | refine blk_drewN ?_ _ | refine blk_drew ?_ | refine blk_alloc ?_ _)); exact BK242.out⟩, ⟨by repeat (first | (with_reducible first | exact HI248.out | apply IsS52.alloc | apply IsS52.drewN | apply IsS52.drew | apply IsS52.set_1 | apply IsS52.set_2 | refine IsS52.far ?_ NB248_242.out _) | exact HI248.out)⟩, ⟨by repeat (first | (with_reducible first | exact HB.out | apply below_alloc | apply pw_below_drewN | apply below_drew1 | refine below_set ?_ (IsS52.ge HI248.out) | refine below_set ?_ GE242.out) | exact HB.out)⟩⟩
                          case rest =>
                            clear HC31
                            try clear c1
                            try clear c2
                            try clear p2
                            try clear q2
                            try clear hx2
                            try clear c3
                            try clear c4
                            try clear p6
                            try clear c15
                            try clear c17
                            try clear c18
                            try clear c20
                            try clear c21
                            try clear c22
                            try clear c23
                            try clear c24
                            try clear c24b0
                            try clear c25
                            try clear p25
                            try clear q25
                            try clear hx25
                            try clear c26
                            try clear c26b0
                            try clear c27
                            try clear c27b0
                            try clear c29
                            try clear c29b0
                            try clear c29b1
                            try clear c33
                            try clear c33b0
                            try clear hcz11_0
                            try clear hcz11_1
                            try clear hcz16_0
                            try clear hcz16_1
                            try clear hcz21_0
                            try clear hcz21_1
                            try clear hcz9_0
                            try clear hcz9_1
                            try clear hfz11_0
                            try clear hfz11_1
                            try clear hfz16_0
                            try clear hfz16_1
                            try clear hfz21_0
                            try clear hfz21_1
                            try clear hfz9_0
                            try clear hfz9_1
                            try clear hx257_0
                            try clear hx257_1
                            try clear hx258_0
                            try clear hx258_1
                            try clear p2
                            try clear p257
                            try clear p258
                            try clear q257
                            try clear q258
                            obtain ⟨kq, x79_30, rfl, HA, HJ30, HO_6, BK242, HI248, HB⟩ := hcut
                            cases kq with
                            | zero => exact absurd HA.out (by simp [windroselaw17_BitsReads.j3])
                            | succ kj30 =>
                              have H := HA.out
                              clear HA
                              simp only [windroselaw17_BitsReads.j3] at H
                              by_cases c34 : x79_30 = true
                              · subst c34
                                have H1 : (if t260 = 1 then (if t259 = 0 then (windroselaw17_BitsReads.j5 kj30 l1 x6_6 x7_2 x8_2 t245 t261 t262) else (some false)) else (some false)) = some r := by rw [if_pos rfl] at H; exact H
                                clear H
                                have H := H1
                                clear H1
                                by_cases c35 : t260 = 1
                                · rw [if_pos c35] at H
                                  have c35b0 : (t260 == 1) = true := beq_iff_eq.mpr c35
                                  have c35b1 : (t260 != 1) = false := bne_eq_false_iff_eq.mpr c35
                                  clear c35
                                  by_cases c36 : t259 = 0
                                  · rw [if_pos c36] at H
                                    have c36b0 : (t259 == 0) = true := beq_iff_eq.mpr c36
                                    have c36b1 : (t259 != 0) = false := bne_eq_false_iff_eq.mpr c36
                                    clear c36
                                    have H' := Aside0.mk H
                                    clear H
                                    go_wp2
                                    go_meet
                                    case rel => exact ⟨_, (x7_2), (t261), (t262), (by first | rfl | (simp; done) | (simp [*]; done)), H', ⟨by have := HJ6.out; have := HK2.out; have := HJ22.out; have := HJ30.out; first | omega | exact Nat.le_refl _⟩, ⟨by (with_reducible repeat (first | apply Kd.R_alloc | apply Kd.R_drewN | apply Kd.R_drew)); exact HO_6.out⟩, ⟨by (with_reducible repeat (first | refine blk_drewN ?_ _ | refine blk_drew ?_ | refine blk_alloc ?_ _)); exact BK242.out⟩, ⟨by repeat (first | (with_reducible first | exact HI248.out | apply IsS52.alloc | apply IsS52.drewN | apply IsS52.drew | apply IsS52.set_1 | apply IsS52.set_2 | refine IsS52.far ?_ NB248_242.out _) | exact HI248.out)⟩, ⟨by repeat (first | (with_reducible first | exact HB.out | apply below_alloc | apply pw_below_drewN | apply below_drew1 | refine below_set ?_ (IsS52.ge HI248.out) | refine below_set ?_ GE242.out) | exact HB.out)⟩⟩
                                  · rw [if_neg c36] at H
                                    have c36b0 : (t259 == 0) = false := beq_eq_false_iff_ne.mpr c36
                                    have c36b1 : (t259 != 0) = true := bne_iff_ne.mpr c36
                                    obtain rfl := Option.some.inj H
                                    go_wp2
                                    go_ret
                                    exact ⟨by first | rfl | (simp [errW_none, errW_some] <;> rfl) | (simp [*, errW_none, errW_some] <;> rfl), by repeat (first | (with_reducible first | exact HB.out | apply below_alloc | apply pw_below_drewN | apply below_drew1 | refine below_set ?_ (IsS52.ge HI248.out) | refine below_set ?_ GE242.out) | exact HB.out)⟩
                                · rw [if_neg c35] at H
                                  have c35b0 : (t260 == 1) = false := beq_eq_false_iff_ne.mpr c35
                                  have c35b1 : (t260 != 1) = true := bne_iff_ne.mpr c35
                                  obtain rfl := Option.some.inj H
                                  go_wp2
                                  go_ret
                                  exact ⟨by first | rfl | (simp [errW_none, errW_some] <;> rfl) | (simp [*, errW_none, errW_some] <;> rfl), by repeat (first | (with_reducible first | exact HB.out | apply below_alloc | apply pw_below_drewN | apply below_drew1 | refine below_set ?_ (IsS52.ge HI248.out) | refine below_set ?_ GE242.out) | exact HB.out)⟩
                              · replace c34 := Bool.eq_false_iff.mpr c34
                                subst c34
                                have H1 : (if ((rd_T42 l1 x8_2).f1) > (wrap64 ((x6_6.length : Int) - x7_2)) then (if t260 = 2 then (if t259 = 0 then (windroselaw17_BitsReads.j5 kj30 l1 x6_6 x7_2 x8_2 t245 t261 t262) else (some false)) else (some false)) else (if t260 = 0 then (if 0 ≤ x7_2 then (if x7_2 ≤ (wrap64 (x7_2 + ((rd_T42 l1 x8_2).f1))) then (if (wrap64 (x7_2 + ((rd_T42 l1 x8_2).f1))) ≤ (x6_6.length : Int) then ((windroseref17_Value.f kj30 ((x6_6.take ((wrap64 (x7_2 + ((rd_T42 l1 x8_2).f1))) : Int).toNat).drop (x7_2 : Int).toNat)).bind fun t267 => (if t259 = t267 then (windroselaw17_BitsReads.j5 kj30 l1 x6_6 (wrap64 (x7_2 + ((rd_T42 l1 x8_2).f1))) x8_2 t245 t261 t262) else (some false))) else (none)) else (none)) else (none)) else (some false))) = some r := by rw [if_neg (show ¬ (false = true) by decide)] at H; exact H
                                clear H
                                have H := H1
                                clear H1
                                by_cases c37 : ((rd_T42 l1 x8_2).f1) > (wrap64 ((x6_6.length : Int) - x7_2))
                                · rw [if_pos c37] at H
                                  have c37b0 : decide ((wrap64 ((x6_6.length : Int) - x7_2)) < ((rd_T42 l1 x8_2).f1)) = true := decide_eq_true c37
                                  clear c37
                                  by_cases c38 : t260 = 2
                                  · rw [if_pos c38] at H
                                    have c38b0 : (t260 == 2) = true := beq_iff_eq.mpr c38
                                    have c38b1 : (t260 != 2) = false := bne_eq_false_iff_eq.mpr c38
                                    clear c38
                                    by_cases c39 : t259 = 0
                                    · rw [if_pos c39] at H
                                      have c39b0 : (t259 == 0) = true := beq_iff_eq.mpr c39
                                      have c39b1 : (t259 != 0) = false := bne_eq_false_iff_eq.mpr c39
                                      clear c39
                                      have H' := Aside0.mk H
                                      clear H
                                      obtain ⟨Ao40, co40, eo40⟩ := Kd.R_slice HO_6.out
                                      subst eo40
                                      go_wp2
                                      go_meet
                                      case rel => exact ⟨_, (x7_2), (t261), (t262), (by first | rfl | (simp; done) | (simp [*]; done)), H', ⟨by have := HJ6.out; have := HK2.out; have := HJ22.out; have := HJ30.out; first | omega | exact Nat.le_refl _⟩, ⟨by (with_reducible repeat (first | apply Kd.R_alloc | apply Kd.R_drewN | apply Kd.R_drew)); exact HO_6.out⟩, ⟨by (with_reducible repeat (first | refine blk_drewN ?_ _ | refine blk_drew ?_ | refine blk_alloc ?_ _)); exact BK242.out⟩, ⟨by repeat (first | (with_reducible first | exact HI248.out | apply IsS52.alloc | apply IsS52.drewN | apply IsS52.drew | apply IsS52.set_1 | apply IsS52.set_2 | refine IsS52.far ?_ NB248_242.out _) | exact HI248.out)⟩, ⟨by repeat (first | (with_reducible first | exact HB.out | apply below_alloc | apply pw_below_drewN | apply below_drew1 | refine below_set ?_ (IsS52.ge HI248.out) | refine below_set ?_ GE242.out) | exact HB.out)⟩⟩
                                    · rw [if_neg c39] at H
                                      have c39b0 : (t259 == 0) = false := beq_eq_false_iff_ne.mpr c39
                                      have c39b1 : (t259 != 0) = true := bne_iff_ne.mpr c39
                                      obtain rfl := Option.some.inj H
                                      obtain ⟨Ao41, co41, eo41⟩ := Kd.R_slice HO_6.out
                                      subst eo41
                                      go_wp2
                                      go_ret
                                      exact ⟨by first | rfl | (simp [errW_none, errW_some] <;> rfl) | (simp [*, errW_none, errW_some] <;> rfl), by repeat (first | (with_reducible first | exact HB.out | apply below_alloc | apply pw_below_drewN | apply below_drew1 | refine below_set ?_ (IsS52.ge HI248.out) | refine below_set ?_ GE242.out) | exact HB.out)⟩
                                  · rw [if_neg c38] at H
                                    have c38b0 : (t260 == 2) = false := beq_eq_false_iff_ne.mpr c38
                                    have c38b1 : (t260 != 2) = true := bne_iff_ne.mpr c38
                                    obtain rfl := Option.some.inj H
                                    obtain ⟨Ao42, co42, eo42⟩ := Kd.R_slice HO_6.out
                                    subst eo42
                                    go_wp2
                                    go_ret
                                    exact ⟨by first | rfl | (simp [errW_none, errW_some] <;> rfl) | (simp [*, errW_none, errW_some] <;> rfl), by repeat (first | (with_reducible first | exact HB.out | apply below_alloc | apply pw_below_drewN | apply below_drew1 | refine below_set ?_ (IsS52.ge HI248.out) | refine below_set ?_ GE242.out) | exact HB.out)⟩
                                · rw [if_neg c37] at H
                                  have c37b0 : decide ((wrap64 ((x6_6.length : Int) - x7_2)) < ((rd_T42 l1 x8_2).f1)) = false := decide_eq_false c37
                                  clear c37
                                  by_cases c43 : t260 = 0
                                  · rw [if_pos c43] at H
                                    have c43b0 : (t260 == 0) = true := beq_iff_eq.mpr c43
                                    have c43b1 : (t260 != 0) = false := bne_eq_false_iff_eq.mpr c43
                                    clear c43
                                    by_cases c44 : 0 ≤ x7_2
                                    · rw [if_pos c44] at H
                                      have c44b0 := eq_true c44
                                      have c44b1 : decide (0 ≤ x7_2) = true := decide_eq_true c44
                                      clear c44
                                      by_cases c45 : x7_2 ≤ (wrap64 (x7_2 + ((rd_T42 l1 x8_2).f1)))
                                      · rw [if_pos c45] at H
                                        have c45b0 := eq_true c45
                                        have c45b1 : decide (x7_2 ≤ (wrap64 (x7_2 + ((rd_T42 l1 x8_2).f1)))) = true := decide_eq_true c45
                                        by_cases c46 : (wrap64 (x7_2 + ((rd_T42 l1 x8_2).f1))) ≤ (x6_6.length : Int)
                                        · rw [if_pos c46] at H
                                          have c46b0 := eq_true c46
                                          have c46b1 : decide ((wrap64 (x7_2 + ((rd_T42 l1 x8_2).f1))) ≤ (x6_6.length : Int)) = true := decide_eq_true c46
                                          obtain ⟨y263, hy263⟩ : ∃ y_ : List Bool, y_ = ((x6_6.take ((wrap64 (x7_2 + ((rd_T42 l1 x8_2).f1))) : Int).toNat).drop (x7_2 : Int).toNat) := ⟨_, rfl⟩
                                          replace H : ((windroseref17_Value.f kj30 y263).bind fun t267 => (if t259 = t267 then (windroselaw17_BitsReads.j5 kj30 l1 x6_6 (wrap64 (x7_2 + ((rd_T42 l1 x8_2).f1))) x8_2 t245 t261 t262) else (some false))) = some r := by first | (rw [hy263]; with_reducible exact H) | (have H2_ := (Option.bind_some _ _).symm.trans H; rw [hy263]; with_reducible exact H2_) | (have H2_ := (Option.bind_some _ _).symm.trans H; with_reducible exact H2_) | with_reducible exact H | (rw [hy263]; exact H) | exact H
                                          have Ny263 := Aside0.mk hy263
                                          clear hy263
                                          replace H := Option.bind_eq_some_iff.mp H
                                          obtain ⟨t267, A470, H⟩ := H
                                          replace H : (if t259 = t267 then (windroselaw17_BitsReads.j5 kj30 l1 x6_6 (wrap64 (x7_2 + ((rd_T42 l1 x8_2).f1))) x8_2 t245 t261 t262) else (some false)) = some r := H
                                          have A47 := Aside0.mk A470
                                          clear A470
                                          by_cases c48 : t259 = t267
                                          · rw [if_pos c48] at H
                                            have c48b0 : (t259 == t267) = true := beq_iff_eq.mpr c48
                                            have c48b1 : (t259 != t267) = false := bne_eq_false_iff_eq.mpr c48
                                            clear c48
                                            have H' := Aside0.mk H
                                            clear H
                                            obtain ⟨Ao49, co49, eo49⟩ := Kd.R_slice HO_6.out
                                            subst eo49
                                            have q50 : ((wrap64 (x7_2 + ((rd_T42 l1 x8_2).f1))) : Int) ≤ ((x6_6.length : Int) : Int) := of_decide_eq_true (by first | (with_reducible assumption) | assumption)
                                            obtain ⟨i050, hi050, _, hsz50, _⟩ := info_parts info4
                                            have hroom50 : x6_6.length ≤ co49 := (Kd.R_reads' HO_6.out).2.1
                                            have hC50 : Kd.C Kd.bool _ Ao49 x6_6.length x6_6 := (Kd.R_reads' HO_6.out).2.2
                                            have ql50 : (x7_2 : Int) ≤ ((wrap64 (x7_2 + ((rd_T42 l1 x8_2).f1))) : Int) := of_decide_eq_true (by first | (with_reducible assumption) | assumption)
                                            have q050 : (0 : Int) ≤ (x7_2 : Int) := of_decide_eq_true (by first | (with_reducible assumption) | assumption)
                                            have hcut50 := cut_mid (P := Try.prog) 39 4 .i64 .i64 Try.underlying39 hi050 1 hsz50 Ao49 x6_6.length co49 x7_2 (wrap64 (x7_2 + ((rd_T42 l1 x8_2).f1))) q050 ql50 q50 hroom50
                                            have hr50 := Kd.C_mid (lo := (x7_2 : Int).toNat) (hi := ((wrap64 (x7_2 + ((rd_T42 l1 x8_2).f1))) : Int).toNat) (c := co49) hC50 (by omega) (by omega) hroom50
                                            obtain ⟨A50, hA50⟩ : ∃ A1, A1 = (if co49 = (x7_2 : Int).toNat then Ao49 else (Ao49 : Option Addr).map (·.add ((x7_2 : Int).toNat * 1))) := ⟨_, rfl⟩
                                            obtain ⟨c50, hc50⟩ : ∃ c1, c1 = co49 - (x7_2 : Int).toNat := ⟨_, rfl⟩
                                            have hy50 : y263.length = ((wrap64 (x7_2 + ((rd_T42 l1 x8_2).f1))) : Int).toNat - (x7_2 : Int).toNat := (by rw [Ny263.out, List.length_drop, List.length_take] <;> omega)
                                            rw [show ((x6_6).take ((wrap64 (x7_2 + ((rd_T42 l1 x8_2).f1))) : Int).toNat).drop (x7_2 : Int).toNat = y263 from Ny263.out.symm] at hr50
                                            replace hr50 : Kd.C Kd.bool _ A50 y263.length y263 := (by rw [hA50]; exact hr50)
                                            rw [← hy50, ← hA50, ← hc50] at hcut50
                                            have HR266 := Aside0.mk hr50
                                            have HC266 := Aside0.mk (show y263.length ≤ c50 from by rw [hy50, hc50]; exact Nat.sub_le_sub_right (Nat.le_trans (by omega) hroom50) _)
                                            clear hr50 hC50 hroom50 hi050 hsz50 hc50
                                            have KY50 := Aside0.mk hy50
                                            have KA50 := Aside0.mk hA50
                                            clear hy50 hA50
                                            have KL50 := Aside0.mk (show ((wrap64 (x7_2 + ((rd_T42 l1 x8_2).f1))) : Int).toNat ≤ x6_6.length from by omega)
                                            have KM50 := Aside0.mk (show (x7_2 : Int).toNat ≤ ((wrap64 (x7_2 + ((rd_T42 l1 x8_2).f1))) : Int).toNat from by omega)
                                            replace q50 := eq_true q50
                                            have hwr50 := fun z => IntWalk.i64_left z
                                            go_wp2_with (first | (go_at_call 25; (with_reducible refine (windroseref17_Value.calls kj30 _ _ y263 t267 _ ?side1 ?side2 A47.out).mono ?_); (case side1 => repeat (first | exact (by repeat (first | (with_reducible exact HR266.out) | (with_reducible refine Kd.C_alloc ?_ _) | (with_reducible refine Kd.C_drewN ?_ _) | (with_reducible refine Kd.C_drew ?_) | exact HR266.out)) | (with_reducible refine Kd.C_alloc ?_ _) | (with_reducible refine Kd.C_drewN ?_ _) | (with_reducible refine Kd.C_drew ?_))); (case side2 => exact HC266.out); rintro e w' ⟨rfl, ⟨nd, rfl⟩⟩))
                                            go_meet
                                            case rel => exact ⟨_, (wrap64 (x7_2 + ((rd_T42 l1 x8_2).f1))), (t261), (t262), (by first | rfl | (simp; done) | (simp [*]; done)), H', ⟨by have := HJ6.out; have := HK2.out; have := HJ22.out; have := HJ30.out; first | omega | exact Nat.le_refl _⟩, ⟨by (with_reducible repeat (first | apply Kd.R_alloc | apply Kd.R_drewN | apply Kd.R_drew)); exact HO_6.out⟩, ⟨by (with_reducible repeat (first | refine blk_drewN ?_ _ | refine blk_drew ?_ | refine blk_alloc ?_ _)); exact BK242.out⟩, ⟨by repeat (first | (with_reducible first | exact HI248.out | apply IsS52.alloc | apply IsS52.drewN | apply IsS52.drew | apply IsS52.set_1 | apply IsS52.set_2 | refine IsS52.far ?_ NB248_242.out _) | exact HI248.out)⟩, ⟨by repeat (first | (with_reducible first | exact HB.out | apply below_alloc | apply pw_below_drewN | apply below_drew1 | refine below_set ?_ (IsS52.ge HI248.out) | refine below_set ?_ GE242.out) | exact HB.out)⟩⟩
                                          · rw [if_neg c48] at H
                                            have c48b0 : (t259 == t267) = false := beq_eq_false_iff_ne.mpr c48
                                            have c48b1 : (t259 != t267) = true := bne_iff_ne.mpr c48
                                            obtain rfl := Option.some.inj H
                                            obtain ⟨Ao51, co51, eo51⟩ := Kd.R_slice HO_6.out
                                            subst eo51
                                            have q52 : ((wrap64 (x7_2 + ((rd_T42 l1 x8_2).f1))) : Int) ≤ ((x6_6.length : Int) : Int) := of_decide_eq_true (by first | (with_reducible assumption) | assumption)
                                            obtain ⟨i052, hi052, _, hsz52, _⟩ := info_parts info4
                                            have hroom52 : x6_6.length ≤ co51 := (Kd.R_reads' HO_6.out).2.1
                                            have hC52 : Kd.C Kd.bool _ Ao51 x6_6.length x6_6 := (Kd.R_reads' HO_6.out).2.2
                                            have ql52 : (x7_2 : Int) ≤ ((wrap64 (x7_2 + ((rd_T42 l1 x8_2).f1))) : Int) := of_decide_eq_true (by first | (with_reducible assumption) | assumption)
                                            have q052 : (0 : Int) ≤ (x7_2 : Int) := of_decide_eq_true (by first | (with_reducible assumption) | assumption)
                                            have hcut52 := cut_mid (P := Try.prog) 39 4 .i64 .i64 Try.underlying39 hi052 1 hsz52 Ao51 x6_6.length co51 x7_2 (wrap64 (x7_2 + ((rd_T42 l1 x8_2).f1))) q052 ql52 q52 hroom52
                                            have hr52 := Kd.C_mid (lo := (x7_2 : Int).toNat) (hi := ((wrap64 (x7_2 + ((rd_T42 l1 x8_2).f1))) : Int).toNat) (c := co51) hC52 (by omega) (by omega) hroom52
                                            obtain ⟨A52, hA52⟩ : ∃ A1, A1 = (if co51 = (x7_2 : Int).toNat then Ao51 else (Ao51 : Option Addr).map (·.add ((x7_2 : Int).toNat * 1))) := ⟨_, rfl⟩
                                            obtain ⟨c52, hc52⟩ : ∃ c1, c1 = co51 - (x7_2 : Int).toNat := ⟨_, rfl⟩
                                            have hy52 : y263.length = ((wrap64 (x7_2 + ((rd_T42 l1 x8_2).f1))) : Int).toNat - (x7_2 : Int).toNat := (by rw [Ny263.out, List.length_drop, List.length_take] <;> omega)
                                            rw [show ((x6_6).take ((wrap64 (x7_2 + ((rd_T42 l1 x8_2).f1))) : Int).toNat).drop (x7_2 : Int).toNat = y263 from Ny263.out.symm] at hr52
                                            replace hr52 : Kd.C Kd.bool _ A52 y263.length y263 := (by rw [hA52]; exact hr52)
                                            rw [← hy52, ← hA52, ← hc52] at hcut52
                                            have HR266 := Aside0.mk hr52
                                            have HC266 := Aside0.mk (show y263.length ≤ c52 from by rw [hy52, hc52]; exact Nat.sub_le_sub_right (Nat.le_trans (by omega) hroom52) _)
                                            clear hr52 hC52 hroom52 hi052 hsz52 hc52
                                            have KY52 := Aside0.mk hy52
                                            have KA52 := Aside0.mk hA52
                                            clear hy52 hA52
                                            have KL52 := Aside0.mk (show ((wrap64 (x7_2 + ((rd_T42 l1 x8_2).f1))) : Int).toNat ≤ x6_6.length from by omega)
                                            have KM52 := Aside0.mk (show (x7_2 : Int).toNat ≤ ((wrap64 (x7_2 + ((rd_T42 l1 x8_2).f1))) : Int).toNat from by omega)
                                            replace q52 := eq_true q52
                                            have hwr52 := fun z => IntWalk.i64_left z
                                            go_wp2_with (first | (go_at_call 25; (with_reducible refine (windroseref17_Value.calls kj30 _ _ y263 t267 _ ?side1 ?side2 A47.out).mono ?_); (case side1 => repeat (first | exact (by repeat (first | (with_reducible exact HR266.out) | (with_reducible refine Kd.C_alloc ?_ _) | (with_reducible refine Kd.C_drewN ?_ _) | (with_reducible refine Kd.C_drew ?_) | exact HR266.out)) | (with_reducible refine Kd.C_alloc ?_ _) | (with_reducible refine Kd.C_drewN ?_ _) | (with_reducible refine Kd.C_drew ?_))); (case side2 => exact HC266.out); rintro e w' ⟨rfl, ⟨nd, rfl⟩⟩))
                                            go_ret
                                            exact ⟨by first | rfl | (simp [errW_none, errW_some] <;> rfl) | (simp [*, errW_none, errW_some] <;> rfl), by repeat (first | (with_reducible first | exact HB.out | apply below_alloc | apply pw_below_drewN | apply below_drew1 | refine below_set ?_ (IsS52.ge HI248.out) | refine below_set ?_ GE242.out) | exact HB.out)⟩
                                        · rw [if_neg c46] at H
                                          exact absurd H (by simp)
                                      · rw [if_neg c45] at H
                                        exact absurd H (by simp)
                                    · rw [if_neg c44] at H
                                      exact absurd H (by simp)
                                  · rw [if_neg c43] at H
                                    have c43b0 : (t260 == 0) = false := beq_eq_false_iff_ne.mpr c43
                                    have c43b1 : (t260 != 0) = true := bne_iff_ne.mpr c43
                                    obtain rfl := Option.some.inj H
                                    obtain ⟨Ao53, co53, eo53⟩ := Kd.R_slice HO_6.out
                                    subst eo53
                                    go_wp2
                                    go_ret
                                    exact ⟨by first | rfl | (simp [errW_none, errW_some] <;> rfl) | (simp [*, errW_none, errW_some] <;> rfl), by repeat (first | (with_reducible first | exact HB.out | apply below_alloc | apply pw_below_drewN | apply below_drew1 | refine below_set ?_ (IsS52.ge HI248.out) | refine below_set ?_ GE242.out) | exact HB.out)⟩
                        · rw [if_neg c29] at H
                          have c29b0 : (((rd_T42 l1 x8_2).f0) == 0) = false := beq_eq_false_iff_ne.mpr c29
                          have c29b1 : (((rd_T42 l1 x8_2).f0) != 0) = true := bne_iff_ne.mpr c29
                          (first | rw [c29b0] | (simp only [i64_w, i32_w]; rw [c29b0]) | skip)
                          by_cases c54 : ((rd_T42 l1 x8_2).f0) = 1
                          · rw [if_pos c54] at H
                            have c54b0 : (((rd_T42 l1 x8_2).f0) == 1) = true := beq_iff_eq.mpr c54
                            have c54b1 : (((rd_T42 l1 x8_2).f0) != 1) = false := bne_eq_false_iff_eq.mpr c54
                            clear c54
                            replace H := Option.bind_eq_some_iff.mp H
                            obtain ⟨⟨t268, t269, t270, t271⟩, A550, H⟩ := H
                            replace H : (if 0 ≤ x7_2 then (if x7_2 ≤ (x6_6.length : Int) then ((windroseref17_Number.f kj22 (x6_6.drop (x7_2 : Int).toNat)).bind fun bt276 => (if t268 = bt276.1 then (if ((t269 == 0) != (decide (bt276.2 > 0))) = true then (some false) else (if bt276.2 = 0 then (if t269 = 2 then (windroselaw17_BitsReads.j5 kj22 l1 x6_6 (wrap64 (x7_2 + bt276.2)) x8_2 t245 t270 t271) else (some false)) else (windroselaw17_BitsReads.j5 kj22 l1 x6_6 (wrap64 (x7_2 + bt276.2)) x8_2 t245 t270 t271))) else (some false))) else (none)) else (none)) = some r := H
                            have A55 := Aside0.mk A550
                            clear A550
                            by_cases c56 : 0 ≤ x7_2
                            · rw [if_pos c56] at H
                              have c56b0 := eq_true c56
                              have c56b1 : decide (0 ≤ x7_2) = true := decide_eq_true c56
                              clear c56
                              by_cases c57 : x7_2 ≤ (x6_6.length : Int)
                              · rw [if_pos c57] at H
                                have c57b0 := eq_true c57
                                have c57b1 : decide (x7_2 ≤ (x6_6.length : Int)) = true := decide_eq_true c57
                                clear c57
                                obtain ⟨y272, hy272⟩ : ∃ y_ : List Bool, y_ = (x6_6.drop (x7_2 : Int).toNat) := ⟨_, rfl⟩
                                replace H : ((windroseref17_Number.f kj22 y272).bind fun bt276 => (if t268 = bt276.1 then (if ((t269 == 0) != (decide (bt276.2 > 0))) = true then (some false) else (if bt276.2 = 0 then (if t269 = 2 then (windroselaw17_BitsReads.j5 kj22 l1 x6_6 (wrap64 (x7_2 + bt276.2)) x8_2 t245 t270 t271) else (some false)) else (windroselaw17_BitsReads.j5 kj22 l1 x6_6 (wrap64 (x7_2 + bt276.2)) x8_2 t245 t270 t271))) else (some false))) = some r := by first | (rw [hy272]; with_reducible exact H) | (have H2_ := (Option.bind_some _ _).symm.trans H; rw [hy272]; with_reducible exact H2_) | (have H2_ := (Option.bind_some _ _).symm.trans H; with_reducible exact H2_) | with_reducible exact H | (rw [hy272]; exact H) | exact H
                                have Ny272 := Aside0.mk hy272
                                clear hy272
                                replace H := Option.bind_eq_some_iff.mp H
                                obtain ⟨⟨t276, t277⟩, A580, H⟩ := H
                                replace H : (if t268 = t276 then (if ((t269 == 0) != (decide (t277 > 0))) = true then (some false) else (if t277 = 0 then (if t269 = 2 then (windroselaw17_BitsReads.j5 kj22 l1 x6_6 (wrap64 (x7_2 + t277)) x8_2 t245 t270 t271) else (some false)) else (windroselaw17_BitsReads.j5 kj22 l1 x6_6 (wrap64 (x7_2 + t277)) x8_2 t245 t270 t271))) else (some false)) = some r := H
                                have A58 := Aside0.mk A580
                                clear A580
                                by_cases c59 : t268 = t276
                                · rw [if_pos c59] at H
                                  have c59b0 : (t268 == t276) = true := beq_iff_eq.mpr c59
                                  have c59b1 : (t268 != t276) = false := bne_eq_false_iff_eq.mpr c59
                                  clear c59
                                  by_cases c60 : ((t269 == 0) != (decide (t277 > 0))) = true
                                  · rw [if_pos c60] at H
                                    have c60b0 : ((t269 == 0) != (decide (t277 > 0))) = true := c60
                                    (try (have c60b1 : decide ((t269 == 0) = (decide (t277 > 0))) = false := by simpa using c60))
                                    (try (have c60b2 : ((t269 == 0) == (decide (t277 > 0))) = false := by simpa using c60))
                                    (try (have c60b3 : ¬ ((t269 == 0) = (decide (t277 > 0))) := by simpa using c60))
                                    clear c60
                                    obtain rfl := Option.some.inj H
                                    go_wp2_with (first | ((with_reducible refine gate_callee (f := 18) rfl ?_); refine goesL_ (some 118) rfl rfl Try.func18 (by kernel_rfl) rfl #[.pointer (some ⟨g248, 0, none⟩)] rfl (by (try simp only [List.map_toArray, List.map_cons, List.map_nil]); first | done | rfl | (simp only [List.length_drop, List.length_take]; rfl)) ?_; (with_reducible refine (bits_Reader_Number.calls kj22 g248 t245 x249001_2 x249002_2 t268 t269 t270 t271 w _ ?side1 ?side2 A55.out).mono ?_); (case side1 => repeat (first | (with_reducible first | exact HI248.out | apply IsS52.alloc | apply IsS52.drewN | apply IsS52.drew | apply IsS52.set_1 | apply IsS52.set_2 | refine IsS52.far ?_ NB248_242.out _) | exact HI248.out)); (case side2 => repeat (first | (with_reducible first | exact HB.out | apply below_alloc | apply pw_below_drewN | apply below_drew1 | refine below_set ?_ (IsS52.ge HI248.out) | refine below_set ?_ GE242.out) | exact HB.out)); rintro e w61 ⟨rfl, hi, hb, hk⟩; refine ⟨_, rfl, ?_⟩; have n0_ := Aside0.mk (Kd.R_mono (Kd.R_keep (IsS52.apart (show IsS52 w _ g248 t245 x249001_2 x249002_2 from by repeat (first | (with_reducible first | exact HI248.out | apply IsS52.alloc | apply IsS52.drewN | apply IsS52.drew | apply IsS52.set_1 | apply IsS52.set_2 | refine IsS52.far ?_ NB248_242.out _) | exact HI248.out)) (by (with_reducible repeat (first | apply Kd.R_alloc | apply Kd.R_drewN | apply Kd.R_drew)); exact HO_6.out) (by decide)) hk (fun _ h => h.2)) (fun _ h => h.1)); have n1_ := Aside0.mk (KeepBut.blk hk (g' := gb242) (o := .cells #[.slice A0_0 l0_0.length c0_0, .int .i64 a0_1] 25 (0, 0)) (by (with_reducible repeat (first | refine blk_drewN ?_ _ | refine blk_drew ?_ | refine blk_alloc ?_ _)); exact BK242.out) NB242_248.out (by simp)); have n2_ := Aside0.mk (hb); have n3_ := Aside0.mk (hi); clear HO_6; clear BK242; clear HB; clear HI248; have HO_6 := n0_; have BK242 := n1_; have HB := n2_; have HI248 := n3_; clear n0_ n1_ n2_ n3_; (try clear hb); (try clear hb2); (try clear hk); (try clear hi); obtain ⟨Ao63, co63, eo63⟩ := Kd.R_slice HO_6.out; subst eo63; have q62 : (x7_2 : Int) ≤ ((x6_6.length : Int) : Int) := of_decide_eq_true (by first | (with_reducible assumption) | assumption); obtain ⟨i062, hi062, _, hsz62, _⟩ := info_parts info4; have hroom62 : x6_6.length ≤ co63 := (Kd.R_reads' HO_6.out).2.1; have hC62 : Kd.C Kd.bool _ Ao63 x6_6.length x6_6 := (Kd.R_reads' HO_6.out).2.2; have q062 : (0 : Int) ≤ (x7_2 : Int) := of_decide_eq_true (by first | (with_reducible assumption) | assumption); have hcut62 := cut_from (P := Try.prog) 39 4 .i64 Try.underlying39 hi062 1 hsz62 Ao63 x6_6.length co63 x7_2 q062 q62; have hr62 := Kd.C_drop (m := (x7_2 : Int).toNat) (c := co63) hC62 (by omega) hroom62; obtain ⟨A62, hA62⟩ : ∃ A1, A1 = (if co63 = (x7_2 : Int).toNat then Ao63 else (Ao63 : Option Addr).map (·.add ((x7_2 : Int).toNat * 1))) := ⟨_, rfl⟩; obtain ⟨c62, hc62⟩ : ∃ c1, c1 = co63 - (x7_2 : Int).toNat := ⟨_, rfl⟩; have hy62 : y272.length = x6_6.length - (x7_2 : Int).toNat := (by rw [Ny272.out, List.length_drop] <;> omega); rw [show (x6_6).drop (x7_2 : Int).toNat = y272 from Ny272.out.symm] at hr62; replace hr62 : Kd.C Kd.bool _ A62 y272.length y272 := (by rw [hA62]; exact hr62); rw [← hy62, ← hA62, ← hc62] at hcut62; have HR275 := Aside0.mk hr62; have HC275 := Aside0.mk (show y272.length ≤ c62 from by rw [hy62, hc62]; exact Nat.sub_le_sub_right hroom62 _); clear hr62 hC62 hroom62 hi062 hsz62 hc62; have KY62 := Aside0.mk hy62; have KA62 := Aside0.mk hA62; clear hy62 hA62; have KL62 := Aside0.mk (show (x7_2 : Int).toNat ≤ x6_6.length from by omega); replace q62 := eq_true q62) | ((with_reducible refine gate_callee (f := 26) rfl ?_); refine goesL_ (some 125) rfl rfl Try.func26 (by kernel_rfl) rfl #[.slice A62 y272.length c62] rfl (by (try simp only [List.map_toArray, List.map_cons, List.map_nil]); first | done | rfl | (simp only [List.length_drop, List.length_take]; rfl)) ?_; (with_reducible refine (windroseref17_Number.calls kj22 _ _ y272 t276 t277 _ ?side1 ?side2 A58.out).mono ?_); (case side1 => repeat (first | exact (by repeat (first | (with_reducible exact HR275.out) | (with_reducible refine Kd.C_alloc ?_ _) | (with_reducible refine Kd.C_drewN ?_ _) | (with_reducible refine Kd.C_drew ?_) | exact HR275.out)) | (with_reducible refine Kd.C_alloc ?_ _) | (with_reducible refine Kd.C_drewN ?_ _) | (with_reducible refine Kd.C_drew ?_))); (case side2 => exact HC275.out); rintro e w64 ⟨rfl, hb⟩; refine ⟨_, rfl, ?_⟩; have n0_ := Aside0.mk (Kd.R_below (by (with_reducible repeat (first | apply Kd.R_alloc | apply Kd.R_drewN | apply Kd.R_drew)); exact HO_6.out) hb); have n1_ := Aside0.mk (blk_below (g := gb242) (o := .cells #[.slice A0_0 l0_0.length c0_0, .int .i64 a0_1] 25 (0, 0)) (by (with_reducible repeat (first | refine blk_drewN ?_ _ | refine blk_drew ?_ | refine blk_alloc ?_ _)); exact BK242.out) hb); have n2_ := Aside0.mk (IsS52.below (by repeat (first | (with_reducible first | exact HI248.out | apply IsS52.alloc | apply IsS52.drewN | apply IsS52.drew | apply IsS52.set_1 | apply IsS52.set_2 | refine IsS52.far ?_ NB248_242.out _) | exact HI248.out)) hb); have n3_ := Aside0.mk (Kd.C_below (by repeat (first | (with_reducible exact HR275.out) | (with_reducible refine Kd.C_alloc ?_ _) | (with_reducible refine Kd.C_drewN ?_ _) | (with_reducible refine Kd.C_drew ?_) | exact HR275.out)) hb); have n4_ := Aside0.mk (below_step (by repeat (first | (with_reducible first | exact HB.out | apply below_alloc | apply pw_below_drewN | apply below_drew1 | refine below_set ?_ (IsS52.ge HI248.out) | refine below_set ?_ GE242.out) | exact HB.out)) hb); clear HO_6; clear BK242; clear HI248; clear HR275; clear HB; have HO_6 := n0_; have BK242 := n1_; have HI248 := n2_; have HR275 := n3_; have HB := n4_; clear n0_ n1_ n2_ n3_ n4_; (try clear hb); (try clear hb2); (try clear hk); (try clear hi)))
                                    go_ret
                                    exact ⟨by first | rfl | (simp [errW_none, errW_some] <;> rfl) | (simp [*, errW_none, errW_some] <;> rfl), by repeat (first | (with_reducible first | exact HB.out | apply below_alloc | apply pw_below_drewN | apply below_drew1 | refine below_set ?_ (IsS52.ge HI248.out) | refine below_set ?_ GE242.out) | exact HB.out)⟩
                                  · rw [if_neg c60] at H
                                    have c60b0 : ((t269 == 0) != (decide (t277 > 0))) = false := by simpa using c60
                                    (try (have c60b1 : decide ((t269 == 0) = (decide (t277 > 0))) = true := by simpa using c60))
                                    (try (have c60b2 : ((t269 == 0) == (decide (t277 > 0))) = true := by simpa using c60))
                                    clear c60
                                    by_cases c65 : t277 = 0
                                    · rw [if_pos c65] at H
                                      have c65b0 : (t277 == 0) = true := beq_iff_eq.mpr c65
                                      have c65b1 : (t277 != 0) = false := bne_eq_false_iff_eq.mpr c65
                                      clear c65
                                      by_cases c66 : t269 = 2
                                      · rw [if_pos c66] at H
                                        have c66b0 : (t269 == 2) = true := beq_iff_eq.mpr c66
                                        have c66b1 : (t269 != 2) = false := bne_eq_false_iff_eq.mpr c66
                                        clear c66
                                        have H' := Aside0.mk H
                                        clear H
                                        go_wp2_with (first | ((with_reducible refine gate_callee (f := 18) rfl ?_); refine goesL_ (some 118) rfl rfl Try.func18 (by kernel_rfl) rfl #[.pointer (some ⟨g248, 0, none⟩)] rfl (by (try simp only [List.map_toArray, List.map_cons, List.map_nil]); first | done | rfl | (simp only [List.length_drop, List.length_take]; rfl)) ?_; (with_reducible refine (bits_Reader_Number.calls kj22 g248 t245 x249001_2 x249002_2 t268 t269 t270 t271 w _ ?side1 ?side2 A55.out).mono ?_); (case side1 => repeat (first | (with_reducible first | exact HI248.out | apply IsS52.alloc | apply IsS52.drewN | apply IsS52.drew | apply IsS52.set_1 | apply IsS52.set_2 | refine IsS52.far ?_ NB248_242.out _) | exact HI248.out)); (case side2 => repeat (first | (with_reducible first | exact HB.out | apply below_alloc | apply pw_below_drewN | apply below_drew1 | refine below_set ?_ (IsS52.ge HI248.out) | refine below_set ?_ GE242.out) | exact HB.out)); rintro e w67 ⟨rfl, hi, hb, hk⟩; refine ⟨_, rfl, ?_⟩; have n0_ := Aside0.mk (Kd.R_mono (Kd.R_keep (IsS52.apart (show IsS52 w _ g248 t245 x249001_2 x249002_2 from by repeat (first | (with_reducible first | exact HI248.out | apply IsS52.alloc | apply IsS52.drewN | apply IsS52.drew | apply IsS52.set_1 | apply IsS52.set_2 | refine IsS52.far ?_ NB248_242.out _) | exact HI248.out)) (by (with_reducible repeat (first | apply Kd.R_alloc | apply Kd.R_drewN | apply Kd.R_drew)); exact HO_6.out) (by decide)) hk (fun _ h => h.2)) (fun _ h => h.1)); have n1_ := Aside0.mk (KeepBut.blk hk (g' := gb242) (o := .cells #[.slice A0_0 l0_0.length c0_0, .int .i64 a0_1] 25 (0, 0)) (by (with_reducible repeat (first | refine blk_drewN ?_ _ | refine blk_drew ?_ | refine blk_alloc ?_ _)); exact BK242.out) NB242_248.out (by simp)); have n2_ := Aside0.mk (hb); have n3_ := Aside0.mk (hi); clear HO_6; clear BK242; clear HB; clear HI248; have HO_6 := n0_; have BK242 := n1_; have HB := n2_; have HI248 := n3_; clear n0_ n1_ n2_ n3_; (try clear hb); (try clear hb2); (try clear hk); (try clear hi); obtain ⟨Ao69, co69, eo69⟩ := Kd.R_slice HO_6.out; subst eo69; have q68 : (x7_2 : Int) ≤ ((x6_6.length : Int) : Int) := of_decide_eq_true (by first | (with_reducible assumption) | assumption); obtain ⟨i068, hi068, _, hsz68, _⟩ := info_parts info4; have hroom68 : x6_6.length ≤ co69 := (Kd.R_reads' HO_6.out).2.1; have hC68 : Kd.C Kd.bool _ Ao69 x6_6.length x6_6 := (Kd.R_reads' HO_6.out).2.2; have q068 : (0 : Int) ≤ (x7_2 : Int) := of_decide_eq_true (by first | (with_reducible assumption) | assumption); have hcut68 := cut_from (P := Try.prog) 39 4 .i64 Try.underlying39 hi068 1 hsz68 Ao69 x6_6.length co69 x7_2 q068 q68; have hr68 := Kd.C_drop (m := (x7_2 : Int).toNat) (c := co69) hC68 (by omega) hroom68; obtain ⟨A68, hA68⟩ : ∃ A1, A1 = (if co69 = (x7_2 : Int).toNat then Ao69 else (Ao69 : Option Addr).map (·.add ((x7_2 : Int).toNat * 1))) := ⟨_, rfl⟩; obtain ⟨c68, hc68⟩ : ∃ c1, c1 = co69 - (x7_2 : Int).toNat := ⟨_, rfl⟩; have hy68 : y272.length = x6_6.length - (x7_2 : Int).toNat := (by rw [Ny272.out, List.length_drop] <;> omega); rw [show (x6_6).drop (x7_2 : Int).toNat = y272 from Ny272.out.symm] at hr68; replace hr68 : Kd.C Kd.bool _ A68 y272.length y272 := (by rw [hA68]; exact hr68); rw [← hy68, ← hA68, ← hc68] at hcut68; have HR275 := Aside0.mk hr68; have HC275 := Aside0.mk (show y272.length ≤ c68 from by rw [hy68, hc68]; exact Nat.sub_le_sub_right hroom68 _); clear hr68 hC68 hroom68 hi068 hsz68 hc68; have KY68 := Aside0.mk hy68; have KA68 := Aside0.mk hA68; clear hy68 hA68; have KL68 := Aside0.mk (show (x7_2 : Int).toNat ≤ x6_6.length from by omega); replace q68 := eq_true q68) | ((with_reducible refine gate_callee (f := 26) rfl ?_); refine goesL_ (some 125) rfl rfl Try.func26 (by kernel_rfl) rfl #[.slice A68 y272.length c68] rfl (by (try simp only [List.map_toArray, List.map_cons, List.map_nil]); first | done | rfl | (simp only [List.length_drop, List.length_take]; rfl)) ?_; (with_reducible refine (windroseref17_Number.calls kj22 _ _ y272 t276 t277 _ ?side1 ?side2 A58.out).mono ?_); (case side1 => repeat (first | exact (by repeat (first | (with_reducible exact HR275.out) | (with_reducible refine Kd.C_alloc ?_ _) | (with_reducible refine Kd.C_drewN ?_ _) | (with_reducible refine Kd.C_drew ?_) | exact HR275.out)) | (with_reducible refine Kd.C_alloc ?_ _) | (with_reducible refine Kd.C_drewN ?_ _) | (with_reducible refine Kd.C_drew ?_))); (case side2 => exact HC275.out); rintro e w70 ⟨rfl, hb⟩; refine ⟨_, rfl, ?_⟩; have n0_ := Aside0.mk (Kd.R_below (by (with_reducible repeat (first | apply Kd.R_alloc | apply Kd.R_drewN | apply Kd.R_drew)); exact HO_6.out) hb); have n1_ := Aside0.mk (blk_below (g := gb242) (o := .cells #[.slice A0_0 l0_0.length c0_0, .int .i64 a0_1] 25 (0, 0)) (by (with_reducible repeat (first | refine blk_drewN ?_ _ | refine blk_drew ?_ | refine blk_alloc ?_ _)); exact BK242.out) hb); have n2_ := Aside0.mk (IsS52.below (by repeat (first | (with_reducible first | exact HI248.out | apply IsS52.alloc | apply IsS52.drewN | apply IsS52.drew | apply IsS52.set_1 | apply IsS52.set_2 | refine IsS52.far ?_ NB248_242.out _) | exact HI248.out)) hb); have n3_ := Aside0.mk (Kd.C_below (by repeat (first | (with_reducible exact HR275.out) | (with_reducible refine Kd.C_alloc ?_ _) | (with_reducible refine Kd.C_drewN ?_ _) | (with_reducible refine Kd.C_drew ?_) | exact HR275.out)) hb); have n4_ := Aside0.mk (below_step (by repeat (first | (with_reducible first | exact HB.out | apply below_alloc | apply pw_below_drewN | apply below_drew1 | refine below_set ?_ (IsS52.ge HI248.out) | refine below_set ?_ GE242.out) | exact HB.out)) hb); clear HO_6; clear BK242; clear HI248; clear HR275; clear HB; have HO_6 := n0_; have BK242 := n1_; have HI248 := n2_; have HR275 := n3_; have HB := n4_; clear n0_ n1_ n2_ n3_ n4_; (try clear hb); (try clear hb2); (try clear hk); (try clear hi)))
                                        go_meet
                                        case rel => exact ⟨_, (wrap64 (x7_2 + t277)), (t270), (t271), (by first | rfl | (simp; done) | (simp [*]; done)), H', ⟨by have := HJ6.out; have := HK2.out; have := HJ22.out; first | omega | exact Nat.le_refl _⟩, ⟨by (with_reducible repeat (first | apply Kd.R_alloc | apply Kd.R_drewN | apply Kd.R_drew)); exact HO_6.out⟩, ⟨by (with_reducible repeat (first | refine blk_drewN ?_ _ | refine blk_drew ?_ | refine blk_alloc ?_ _)); exact BK242.out⟩, ⟨by repeat (first | (with_reducible first | exact HI248.out | apply IsS52.alloc | apply IsS52.drewN | apply IsS52.drew | apply IsS52.set_1 | apply IsS52.set_2 | refine IsS52.far ?_ NB248_242.out _) | exact HI248.out)⟩, ⟨by repeat (first | (with_reducible first | exact HB.out | apply below_alloc | apply pw_below_drewN | apply below_drew1 | refine below_set ?_ (IsS52.ge HI248.out) | refine below_set ?_ GE242.out) | exact HB.out)⟩⟩
                                      · rw [if_neg c66] at H
                                        have c66b0 : (t269 == 2) = false := beq_eq_false_iff_ne.mpr c66
                                        have c66b1 : (t269 != 2) = true := bne_iff_ne.mpr c66
                                        obtain rfl := Option.some.inj H
                                        go_wp2_with (first | ((with_reducible refine gate_callee (f := 18) rfl ?_); refine goesL_ (some 118) rfl rfl Try.func18 (by kernel_rfl) rfl #[.pointer (some ⟨g248, 0, none⟩)] rfl (by (try simp only [List.map_toArray, List.map_cons, List.map_nil]); first | done | rfl | (simp only [List.length_drop, List.length_take]; rfl)) ?_; (with_reducible refine (bits_Reader_Number.calls kj22 g248 t245 x249001_2 x249002_2 t268 t269 t270 t271 w _ ?side1 ?side2 A55.out).mono ?_); (case side1 => repeat (first | (with_reducible first | exact HI248.out | apply IsS52.alloc | apply IsS52.drewN | apply IsS52.drew | apply IsS52.set_1 | apply IsS52.set_2 | refine IsS52.far ?_ NB248_242.out _) | exact HI248.out)); (case side2 => repeat (first | (with_reducible first | exact HB.out | apply below_alloc | apply pw_below_drewN | apply below_drew1 | refine below_set ?_ (IsS52.ge HI248.out) | refine below_set ?_ GE242.out) | exact HB.out)); rintro e w71 ⟨rfl, hi, hb, hk⟩; refine ⟨_, rfl, ?_⟩; have n0_ := Aside0.mk (Kd.R_mono (Kd.R_keep (IsS52.apart (show IsS52 w _ g248 t245 x249001_2 x249002_2 from by repeat (first | (with_reducible first | exact HI248.out | apply IsS52.alloc | apply IsS52.drewN | apply IsS52.drew | apply IsS52.set_1 | apply IsS52.set_2 | refine IsS52.far ?_ NB248_242.out _) | exact HI248.out)) (by (with_reducible repeat (first | apply Kd.R_alloc | apply Kd.R_drewN | apply Kd.R_drew)); exact HO_6.out) (by decide)) hk (fun _ h => h.2)) (fun _ h => h.1)); have n1_ := Aside0.mk (KeepBut.blk hk (g' := gb242) (o := .cells #[.slice A0_0 l0_0.length c0_0, .int .i64 a0_1] 25 (0, 0)) (by (with_reducible repeat (first | refine blk_drewN ?_ _ | refine blk_drew ?_ | refine blk_alloc ?_ _)); exact BK242.out) NB242_248.out (by simp)); have n2_ := Aside0.mk (hb); have n3_ := Aside0.mk (hi); clear HO_6; clear BK242; clear HB; clear HI248; have HO_6 := n0_; have BK242 := n1_; have HB := n2_; have HI248 := n3_; clear n0_ n1_ n2_ n3_; (try clear hb); (try clear hb2); (try clear hk); (try clear hi); obtain ⟨Ao73, co73, eo73⟩ := Kd.R_slice HO_6.out; subst eo73; have q72 : (x7_2 : Int) ≤ ((x6_6.length : Int) : Int) := of_decide_eq_true (by first | (with_reducible assumption) | assumption); obtain ⟨i072, hi072, _, hsz72, _⟩ := info_parts info4; have hroom72 : x6_6.length ≤ co73 := (Kd.R_reads' HO_6.out).2.1; have hC72 : Kd.C Kd.bool _ Ao73 x6_6.length x6_6 := (Kd.R_reads' HO_6.out).2.2; have q072 : (0 : Int) ≤ (x7_2 : Int) := of_decide_eq_true (by first | (with_reducible assumption) | assumption); have hcut72 := cut_from (P := Try.prog) 39 4 .i64 Try.underlying39 hi072 1 hsz72 Ao73 x6_6.length co73 x7_2 q072 q72; have hr72 := Kd.C_drop (m := (x7_2 : Int).toNat) (c := co73) hC72 (by omega) hroom72; obtain ⟨A72, hA72⟩ : ∃ A1, A1 = (if co73 = (x7_2 : Int).toNat then Ao73 else (Ao73 : Option Addr).map (·.add ((x7_2 : Int).toNat * 1))) := ⟨_, rfl⟩; obtain ⟨c72, hc72⟩ : ∃ c1, c1 = co73 - (x7_2 : Int).toNat := ⟨_, rfl⟩; have hy72 : y272.length = x6_6.length - (x7_2 : Int).toNat := (by rw [Ny272.out, List.length_drop] <;> omega); rw [show (x6_6).drop (x7_2 : Int).toNat = y272 from Ny272.out.symm] at hr72; replace hr72 : Kd.C Kd.bool _ A72 y272.length y272 := (by rw [hA72]; exact hr72); rw [← hy72, ← hA72, ← hc72] at hcut72; have HR275 := Aside0.mk hr72; have HC275 := Aside0.mk (show y272.length ≤ c72 from by rw [hy72, hc72]; exact Nat.sub_le_sub_right hroom72 _); clear hr72 hC72 hroom72 hi072 hsz72 hc72; have KY72 := Aside0.mk hy72; have KA72 := Aside0.mk hA72; clear hy72 hA72; have KL72 := Aside0.mk (show (x7_2 : Int).toNat ≤ x6_6.length from by omega); replace q72 := eq_true q72) | ((with_reducible refine gate_callee (f := 26) rfl ?_); refine goesL_ (some 125) rfl rfl Try.func26 (by kernel_rfl) rfl #[.slice A72 y272.length c72] rfl (by (try simp only [List.map_toArray, List.map_cons, List.map_nil]); first | done | rfl | (simp only [List.length_drop, List.length_take]; rfl)) ?_; (with_reducible refine (windroseref17_Number.calls kj22 _ _ y272 t276 t277 _ ?side1 ?side2 A58.out).mono ?_); (case side1 => repeat (first | exact (by repeat (first | (with_reducible exact HR275.out) | (with_reducible refine Kd.C_alloc ?_ _) | (with_reducible refine Kd.C_drewN ?_ _) | (with_reducible refine Kd.C_drew ?_) | exact HR275.out)) | (with_reducible refine Kd.C_alloc ?_ _) | (with_reducible refine Kd.C_drewN ?_ _) | (with_reducible refine Kd.C_drew ?_))); (case side2 => exact HC275.out); rintro e w74 ⟨rfl, hb⟩; refine ⟨_, rfl, ?_⟩; have n0_ := Aside0.mk (Kd.R_below (by (with_reducible repeat (first | apply Kd.R_alloc | apply Kd.R_drewN | apply Kd.R_drew)); exact HO_6.out) hb); have n1_ := Aside0.mk (blk_below (g := gb242) (o := .cells #[.slice A0_0 l0_0.length c0_0, .int .i64 a0_1] 25 (0, 0)) (by (with_reducible repeat (first | refine blk_drewN ?_ _ | refine blk_drew ?_ | refine blk_alloc ?_ _)); exact BK242.out) hb); have n2_ := Aside0.mk (IsS52.below (by repeat (first | (with_reducible first | exact HI248.out | apply IsS52.alloc | apply IsS52.drewN | apply IsS52.drew | apply IsS52.set_1 | apply IsS52.set_2 | refine IsS52.far ?_ NB248_242.out _) | exact HI248.out)) hb); have n3_ := Aside0.mk (Kd.C_below (by repeat (first | (with_reducible exact HR275.out) | (with_reducible refine Kd.C_alloc ?_ _) | (with_reducible refine Kd.C_drewN ?_ _) | (with_reducible refine Kd.C_drew ?_) | exact HR275.out)) hb); have n4_ := Aside0.mk (below_step (by repeat (first | (with_reducible first | exact HB.out | apply below_alloc | apply pw_below_drewN | apply below_drew1 | refine below_set ?_ (IsS52.ge HI248.out) | refine below_set ?_ GE242.out) | exact HB.out)) hb); clear HO_6; clear BK242; clear HI248; clear HR275; clear HB; have HO_6 := n0_; have BK242 := n1_; have HI248 := n2_; have HR275 := n3_; have HB := n4_; clear n0_ n1_ n2_ n3_ n4_; (try clear hb); (try clear hb2); (try clear hk); (try clear hi)))
                                        go_ret
                                        exact ⟨by first | rfl | (simp [errW_none, errW_some] <;> rfl) | (simp [*, errW_none, errW_some] <;> rfl), by repeat (first | (with_reducible first | exact HB.out | apply below_alloc | apply pw_below_drewN | apply below_drew1 | refine below_set ?_ (IsS52.ge HI248.out) | refine below_set ?_ GE242.out) | exact HB.out)⟩
                                    · rw [if_neg c65] at H
                                      have c65b0 : (t277 == 0) = false := beq_eq_false_iff_ne.mpr c65
                                      have c65b1 : (t277 != 0) = true := bne_iff_ne.mpr c65
                                      have H' := Aside0.mk H
                                      clear H
                                      go_wp2_with (first | ((with_reducible refine gate_callee (f := 18) rfl ?_); refine goesL_ (some 118) rfl rfl Try.func18 (by kernel_rfl) rfl #[.pointer (some ⟨g248, 0, none⟩)] rfl (by (try simp only [List.map_toArray, List.map_cons, List.map_nil]); first | done | rfl | (simp only [List.length_drop, List.length_take]; rfl)) ?_; (with_reducible refine (bits_Reader_Number.calls kj22 g248 t245 x249001_2 x249002_2 t268 t269 t270 t271 w _ ?side1 ?side2 A55.out).mono ?_); (case side1 => repeat (first | (with_reducible first | exact HI248.out | apply IsS52.alloc | apply IsS52.drewN | apply IsS52.drew | apply IsS52.set_1 | apply IsS52.set_2 | refine IsS52.far ?_ NB248_242.out _) | exact HI248.out)); (case side2 => repeat (first | (with_reducible first | exact HB.out | apply below_alloc | apply pw_below_drewN | apply below_drew1 | refine below_set ?_ (IsS52.ge HI248.out) | refine below_set ?_ GE242.out) | exact HB.out)); rintro e w75 ⟨rfl, hi, hb, hk⟩; refine ⟨_, rfl, ?_⟩; have n0_ := Aside0.mk (Kd.R_mono (Kd.R_keep (IsS52.apart (show IsS52 w _ g248 t245 x249001_2 x249002_2 from by repeat (first | (with_reducible first | exact HI248.out | apply IsS52.alloc | apply IsS52.drewN | apply IsS52.drew | apply IsS52.set_1 | apply IsS52.set_2 | refine IsS52.far ?_ NB248_242.out _) | exact HI248.out)) (by (with_reducible repeat (first | apply Kd.R_alloc | apply Kd.R_drewN | apply Kd.R_drew)); exact HO_6.out) (by decide)) hk (fun _ h => h.2)) (fun _ h => h.1)); have n1_ := Aside0.mk (KeepBut.blk hk (g' := gb242) (o := .cells #[.slice A0_0 l0_0.length c0_0, .int .i64 a0_1] 25 (0, 0)) (by (with_reducible repeat (first | refine blk_drewN ?_ _ | refine blk_drew ?_ | refine blk_alloc ?_ _)); exact BK242.out) NB242_248.out (by simp)); have n2_ := Aside0.mk (hb); have n3_ := Aside0.mk (hi); clear HO_6; clear BK242; clear HB; clear HI248; have HO_6 := n0_; have BK242 := n1_; have HB := n2_; have HI248 := n3_; clear n0_ n1_ n2_ n3_; (try clear hb); (try clear hb2); (try clear hk); (try clear hi); obtain ⟨Ao77, co77, eo77⟩ := Kd.R_slice HO_6.out; subst eo77; have q76 : (x7_2 : Int) ≤ ((x6_6.length : Int) : Int) := of_decide_eq_true (by first | (with_reducible assumption) | assumption); obtain ⟨i076, hi076, _, hsz76, _⟩ := info_parts info4; have hroom76 : x6_6.length ≤ co77 := (Kd.R_reads' HO_6.out).2.1; have hC76 : Kd.C Kd.bool _ Ao77 x6_6.length x6_6 := (Kd.R_reads' HO_6.out).2.2; have q076 : (0 : Int) ≤ (x7_2 : Int) := of_decide_eq_true (by first | (with_reducible assumption) | assumption); have hcut76 := cut_from (P := Try.prog) 39 4 .i64 Try.underlying39 hi076 1 hsz76 Ao77 x6_6.length co77 x7_2 q076 q76; have hr76 := Kd.C_drop (m := (x7_2 : Int).toNat) (c := co77) hC76 (by omega) hroom76; obtain ⟨A76, hA76⟩ : ∃ A1, A1 = (if co77 = (x7_2 : Int).toNat then Ao77 else (Ao77 : Option Addr).map (·.add ((x7_2 : Int).toNat * 1))) := ⟨_, rfl⟩; obtain ⟨c76, hc76⟩ : ∃ c1, c1 = co77 - (x7_2 : Int).toNat := ⟨_, rfl⟩; have hy76 : y272.length = x6_6.length - (x7_2 : Int).toNat := (by rw [Ny272.out, List.length_drop] <;> omega); rw [show (x6_6).drop (x7_2 : Int).toNat = y272 from Ny272.out.symm] at hr76; replace hr76 : Kd.C Kd.bool _ A76 y272.length y272 := (by rw [hA76]; exact hr76); rw [← hy76, ← hA76, ← hc76] at hcut76; have HR275 := Aside0.mk hr76; have HC275 := Aside0.mk (show y272.length ≤ c76 from by rw [hy76, hc76]; exact Nat.sub_le_sub_right hroom76 _); clear hr76 hC76 hroom76 hi076 hsz76 hc76; have KY76 := Aside0.mk hy76; have KA76 := Aside0.mk hA76; clear hy76 hA76; have KL76 := Aside0.mk (show (x7_2 : Int).toNat ≤ x6_6.length from by omega); replace q76 := eq_true q76) | ((with_reducible refine gate_callee (f := 26) rfl ?_); refine goesL_ (some 125) rfl rfl Try.func26 (by kernel_rfl) rfl #[.slice A76 y272.length c76] rfl (by (try simp only [List.map_toArray, List.map_cons, List.map_nil]); first | done | rfl | (simp only [List.length_drop, List.length_take]; rfl)) ?_; (with_reducible refine (windroseref17_Number.calls kj22 _ _ y272 t276 t277 _ ?side1 ?side2 A58.out).mono ?_); (case side1 => repeat (first | exact (by repeat (first | (with_reducible exact HR275.out) | (with_reducible refine Kd.C_alloc ?_ _) | (with_reducible refine Kd.C_drewN ?_ _) | (with_reducible refine Kd.C_drew ?_) | exact HR275.out)) | (with_reducible refine Kd.C_alloc ?_ _) | (with_reducible refine Kd.C_drewN ?_ _) | (with_reducible refine Kd.C_drew ?_))); (case side2 => exact HC275.out); rintro e w78 ⟨rfl, hb⟩; refine ⟨_, rfl, ?_⟩; have n0_ := Aside0.mk (Kd.R_below (by (with_reducible repeat (first | apply Kd.R_alloc | apply Kd.R_drewN | apply Kd.R_drew)); exact HO_6.out) hb); have n1_ := Aside0.mk (blk_below (g := gb242) (o := .cells #[.slice A0_0 l0_0.length c0_0, .int .i64 a0_1] 25 (0, 0)) (by (with_reducible repeat (first | refine blk_drewN ?_ _ | refine blk_drew ?_ | refine blk_alloc ?_ _)); exact BK242.out) hb); have n2_ := Aside0.mk (IsS52.below (by repeat (first | (with_reducible first | exact HI248.out | apply IsS52.alloc | apply IsS52.drewN | apply IsS52.drew | apply IsS52.set_1 | apply IsS52.set_2 | refine IsS52.far ?_ NB248_242.out _) | exact HI248.out)) hb); have n3_ := Aside0.mk (Kd.C_below (by repeat (first | (with_reducible exact HR275.out) | (with_reducible refine Kd.C_alloc ?_ _) | (with_reducible refine Kd.C_drewN ?_ _) | (with_reducible refine Kd.C_drew ?_) | exact HR275.out)) hb); have n4_ := Aside0.mk (below_step (by repeat (first | (with_reducible first | exact HB.out | apply below_alloc | apply pw_below_drewN | apply below_drew1 | refine below_set ?_ (IsS52.ge HI248.out) | refine below_set ?_ GE242.out) | exact HB.out)) hb); clear HO_6; clear BK242; clear HI248; clear HR275; clear HB; have HO_6 := n0_; have BK242 := n1_; have HI248 := n2_; have HR275 := n3_; have HB := n4_; clear n0_ n1_ n2_ n3_ n4_; (try clear hb); (try clear hb2); (try clear hk); (try clear hi)))
                                      go_meet
                                      case rel => exact ⟨_, (wrap64 (x7_2 + t277)), (t270), (t271), (by first | rfl | (simp; done) | (simp [*]; done)), H', ⟨by have := HJ6.out; have := HK2.out; have := HJ22.out; first | omega | exact Nat.le_refl _⟩, ⟨by (with_reducible repeat (first | apply Kd.R_alloc | apply Kd.R_drewN | apply Kd.R_drew)); exact HO_6.out⟩, ⟨by (with_reducible repeat (first | refine blk_drewN ?_ _ | refine blk_drew ?_ | refine blk_alloc ?_ _)); exact BK242.out⟩, ⟨by repeat (first | (with_reducible first | exact HI248.out | apply IsS52.alloc | apply IsS52.drewN | apply IsS52.drew | apply IsS52.set_1 | apply IsS52.set_2 | refine IsS52.far ?_ NB248_242.out _) | exact HI248.out)⟩, ⟨by repeat (first | (with_reducible first | exact HB.out | apply below_alloc | apply pw_below_drewN | apply below_drew1 | refine below_set ?_ (IsS52.ge HI248.out) | refine below_set ?_ GE242.out) | exact HB.out)⟩⟩
                                · rw [if_neg c59] at H
                                  have c59b0 : (t268 == t276) = false := beq_eq_false_iff_ne.mpr c59
                                  have c59b1 : (t268 != t276) = true := bne_iff_ne.mpr c59
                                  obtain rfl := Option.some.inj H
                                  go_wp2_with (first | ((with_reducible refine gate_callee (f := 18) rfl ?_); refine goesL_ (some 118) rfl rfl Try.func18 (by kernel_rfl) rfl #[.pointer (some ⟨g248, 0, none⟩)] rfl (by (try simp only [List.map_toArray, List.map_cons, List.map_nil]); first | done | rfl | (simp only [List.length_drop, List.length_take]; rfl)) ?_; (with_reducible refine (bits_Reader_Number.calls kj22 g248 t245 x249001_2 x249002_2 t268 t269 t270 t271 w _ ?side1 ?side2 A55.out).mono ?_); (case side1 => repeat (first | (with_reducible first | exact HI248.out | apply IsS52.alloc | apply IsS52.drewN | apply IsS52.drew | apply IsS52.set_1 | apply IsS52.set_2 | refine IsS52.far ?_ NB248_242.out _) | exact HI248.out)); (case side2 => repeat (first | (with_reducible first | exact HB.out | apply below_alloc | apply pw_below_drewN | apply below_drew1 | refine below_set ?_ (IsS52.ge HI248.out) | refine below_set ?_ GE242.out) | exact HB.out)); rintro e w79 ⟨rfl, hi, hb, hk⟩; refine ⟨_, rfl, ?_⟩; have n0_ := Aside0.mk (Kd.R_mono (Kd.R_keep (IsS52.apart (show IsS52 w _ g248 t245 x249001_2 x249002_2 from by repeat (first | (with_reducible first | exact HI248.out | apply IsS52.alloc | apply IsS52.drewN | apply IsS52.drew | apply IsS52.set_1 | apply IsS52.set_2 | refine IsS52.far ?_ NB248_242.out _) | exact HI248.out)) (by (with_reducible repeat (first | apply Kd.R_alloc | apply Kd.R_drewN | apply Kd.R_drew)); exact HO_6.out) (by decide)) hk (fun _ h => h.2)) (fun _ h => h.1)); have n1_ := Aside0.mk (KeepBut.blk hk (g' := gb242) (o := .cells #[.slice A0_0 l0_0.length c0_0, .int .i64 a0_1] 25 (0, 0)) (by (with_reducible repeat (first | refine blk_drewN ?_ _ | refine blk_drew ?_ | refine blk_alloc ?_ _)); exact BK242.out) NB242_248.out (by simp)); have n2_ := Aside0.mk (hb); have n3_ := Aside0.mk (hi); clear HO_6; clear BK242; clear HB; clear HI248; have HO_6 := n0_; have BK242 := n1_; have HB := n2_; have HI248 := n3_; clear n0_ n1_ n2_ n3_; (try clear hb); (try clear hb2); (try clear hk); (try clear hi); obtain ⟨Ao81, co81, eo81⟩ := Kd.R_slice HO_6.out; subst eo81; have q80 : (x7_2 : Int) ≤ ((x6_6.length : Int) : Int) := of_decide_eq_true (by first | (with_reducible assumption) | assumption); obtain ⟨i080, hi080, _, hsz80, _⟩ := info_parts info4; have hroom80 : x6_6.length ≤ co81 := (Kd.R_reads' HO_6.out).2.1; have hC80 : Kd.C Kd.bool _ Ao81 x6_6.length x6_6 := (Kd.R_reads' HO_6.out).2.2; have q080 : (0 : Int) ≤ (x7_2 : Int) := of_decide_eq_true (by first | (with_reducible assumption) | assumption); have hcut80 := cut_from (P := Try.prog) 39 4 .i64 Try.underlying39 hi080 1 hsz80 Ao81 x6_6.length co81 x7_2 q080 q80; have hr80 := Kd.C_drop (m := (x7_2 : Int).toNat) (c := co81) hC80 (by omega) hroom80; obtain ⟨A80, hA80⟩ : ∃ A1, A1 = (if co81 = (x7_2 : Int).toNat then Ao81 else (Ao81 : Option Addr).map (·.add ((x7_2 : Int).toNat * 1))) := ⟨_, rfl⟩; obtain ⟨c80, hc80⟩ : ∃ c1, c1 = co81 - (x7_2 : Int).toNat := ⟨_, rfl⟩; have hy80 : y272.length = x6_6.length - (x7_2 : Int).toNat := (by rw [Ny272.out, List.length_drop] <;> omega); rw [show (x6_6).drop (x7_2 : Int).toNat = y272 from Ny272.out.symm] at hr80; replace hr80 : Kd.C Kd.bool _ A80 y272.length y272 := (by rw [hA80]; exact hr80); rw [← hy80, ← hA80, ← hc80] at hcut80; have HR275 := Aside0.mk hr80; have HC275 := Aside0.mk (show y272.length ≤ c80 from by rw [hy80, hc80]; exact Nat.sub_le_sub_right hroom80 _); clear hr80 hC80 hroom80 hi080 hsz80 hc80; have KY80 := Aside0.mk hy80; have KA80 := Aside0.mk hA80; clear hy80 hA80; have KL80 := Aside0.mk (show (x7_2 : Int).toNat ≤ x6_6.length from by omega); replace q80 := eq_true q80) | ((with_reducible refine gate_callee (f := 26) rfl ?_); refine goesL_ (some 125) rfl rfl Try.func26 (by kernel_rfl) rfl #[.slice A80 y272.length c80] rfl (by (try simp only [List.map_toArray, List.map_cons, List.map_nil]); first | done | rfl | (simp only [List.length_drop, List.length_take]; rfl)) ?_; (with_reducible refine (windroseref17_Number.calls kj22 _ _ y272 t276 t277 _ ?side1 ?side2 A58.out).mono ?_); (case side1 => repeat (first | exact (by repeat (first | (with_reducible exact HR275.out) | (with_reducible refine Kd.C_alloc ?_ _) | (with_reducible refine Kd.C_drewN ?_ _) | (with_reducible refine Kd.C_drew ?_) | exact HR275.out)) | (with_reducible refine Kd.C_alloc ?_ _) | (with_reducible refine Kd.C_drewN ?_ _) | (with_reducible refine Kd.C_drew ?_))); (case side2 => exact HC275.out); rintro e w82 ⟨rfl, hb⟩; refine ⟨_, rfl, ?_⟩; have n0_ := Aside0.mk (Kd.R_below (by (with_reducible repeat (first | apply Kd.R_alloc | apply Kd.R_drewN | apply Kd.R_drew)); exact HO_6.out) hb); have n1_ := Aside0.mk (blk_below (g := gb242) (o := .cells #[.slice A0_0 l0_0.length c0_0, .int .i64 a0_1] 25 (0, 0)) (by (with_reducible repeat (first | refine blk_drewN ?_ _ | refine blk_drew ?_ | refine blk_alloc ?_ _)); exact BK242.out) hb); have n2_ := Aside0.mk (IsS52.below (by repeat (first | (with_reducible first | exact HI248.out | apply IsS52.alloc | apply IsS52.drewN | apply IsS52.drew | apply IsS52.set_1 | apply IsS52.set_2 | refine IsS52.far ?_ NB248_242.out _) | exact HI248.out)) hb); have n3_ := Aside0.mk (Kd.C_below (by repeat (first | (with_reducible exact HR275.out) | (with_reducible refine Kd.C_alloc ?_ _) | (with_reducible refine Kd.C_drewN ?_ _) | (with_reducible refine Kd.C_drew ?_) | exact HR275.out)) hb); have n4_ := Aside0.mk (below_step (by repeat (first | (with_reducible first | exact HB.out | apply below_alloc | apply pw_below_drewN | apply below_drew1 | refine below_set ?_ (IsS52.ge HI248.out) | refine below_set ?_ GE242.out) | exact HB.out)) hb); clear HO_6; clear BK242; clear HI248; clear HR275; clear HB; have HO_6 := n0_; have BK242 := n1_; have HI248 := n2_; have HR275 := n3_; have HB := n4_; clear n0_ n1_ n2_ n3_ n4_; (try clear hb); (try clear hb2); (try clear hk); (try clear hi)))
                                  go_ret
                                  exact ⟨by first | rfl | (simp [errW_none, errW_some] <;> rfl) | (simp [*, errW_none, errW_some] <;> rfl), by repeat (first | (with_reducible first | exact HB.out | apply below_alloc | apply pw_below_drewN | apply below_drew1 | refine below_set ?_ (IsS52.ge HI248.out) | refine below_set ?_ GE242.out) | exact HB.out)⟩
                              · rw [if_neg c57] at H
                                exact absurd H (by simp)
                            · rw [if_neg c56] at H
                              exact absurd H (by simp)
                          · rw [if_neg c54] at H
                            have c54b0 : (((rd_T42 l1 x8_2).f0) == 1) = false := beq_eq_false_iff_ne.mpr c54
                            have c54b1 : (((rd_T42 l1 x8_2).f0) != 1) = true := bne_iff_ne.mpr c54
                            replace H := Option.bind_eq_some_iff.mp H
                            obtain ⟨⟨t278, t279, t280⟩, A830, H⟩ := H
                            replace H : (if ((rd_T42 l1 x8_2).f1) < 0 then (windroselaw17_BitsReads.j4 kj22 l1 x6_6 x7_2 x8_2 ((rd_T42 l1 x8_2).f1) t278 true t245 t279 t280) else (windroselaw17_BitsReads.j4 kj22 l1 x6_6 x7_2 x8_2 ((rd_T42 l1 x8_2).f1) t278 (decide (((rd_T42 l1 x8_2).f1) > (x6_6.length : Int))) t245 t279 t280)) = some r := H
                            have A83 := Aside0.mk A830
                            clear A830
                            have HC84 := Aside0.mk H
                            clear H
                            go_upto_region 16 with (first | ((with_reducible refine gate_callee (f := 27) rfl ?_); refine goesL_ (some 52) rfl rfl Try.func27 (by kernel_rfl) rfl #[.pointer (some ⟨g248, 0, none⟩), .int .i64 ((rd_T42 l1 x8_2).f1)] rfl (by (try simp only [List.map_toArray, List.map_cons, List.map_nil]); first | done | rfl | (simp only [List.length_drop, List.length_take]; rfl)) ?_; (with_reducible refine (bits_Reader_Seek.calls g248 t245 x249001_2 x249002_2 ((rd_T42 l1 x8_2).f1) t278 t279 t280 w _ ?side1 ?side2 A83.out).mono ?_); (case side1 => repeat (first | (with_reducible first | exact HI248.out | apply IsS52.alloc | apply IsS52.drewN | apply IsS52.drew | apply IsS52.set_1 | apply IsS52.set_2 | refine IsS52.far ?_ NB248_242.out _) | exact HI248.out)); (case side2 => repeat (first | (with_reducible first | exact HB.out | apply below_alloc | apply pw_below_drewN | apply below_drew1 | refine below_set ?_ (IsS52.ge HI248.out) | refine below_set ?_ GE242.out) | exact HB.out)); rintro e w85 ⟨rfl, hi, hb, hk⟩; refine ⟨_, rfl, ?_⟩; have n0_ := Aside0.mk (Kd.R_mono (Kd.R_keep (IsS52.apart (show IsS52 w _ g248 t245 x249001_2 x249002_2 from by repeat (first | (with_reducible first | exact HI248.out | apply IsS52.alloc | apply IsS52.drewN | apply IsS52.drew | apply IsS52.set_1 | apply IsS52.set_2 | refine IsS52.far ?_ NB248_242.out _) | exact HI248.out)) (by (with_reducible repeat (first | apply Kd.R_alloc | apply Kd.R_drewN | apply Kd.R_drew)); exact HO_6.out) (by decide)) hk (fun _ h => h.2)) (fun _ h => h.1)); have n1_ := Aside0.mk (KeepBut.blk hk (g' := gb242) (o := .cells #[.slice A0_0 l0_0.length c0_0, .int .i64 a0_1] 25 (0, 0)) (by (with_reducible repeat (first | refine blk_drewN ?_ _ | refine blk_drew ?_ | refine blk_alloc ?_ _)); exact BK242.out) NB242_248.out (by simp)); have n2_ := Aside0.mk (hb); have n3_ := Aside0.mk (hi); clear HO_6; clear BK242; clear HB; clear HI248; have HO_6 := n0_; have BK242 := n1_; have HB := n2_; have HI248 := n3_; clear n0_ n1_ n2_ n3_; (try clear hb); (try clear hb2); (try clear hk); (try clear hi)))
                            (try simp only [Act.put, List.setIfInBounds_toArray, List.set_cons_zero, List.set_cons_succ])
                            go_cut [60] (fun v60 wc => ∃ (kq : Nat) (x60_83 : Bool), v60 = .bool x60_83 ∧ Aside0 (windroselaw17_BitsReads.j4 kq l1 x6_6 x7_2 x8_2 ((rd_T42 l1 x8_2).f1) t278 x60_83 t245 t279 t280 = some r) ∧ Aside0 (kq ≤ kj22) ∧ Aside0 (Kd.R Kd.bool 4 wc w.heap.size (fun _ => True) u6 x6_6) ∧ Aside0 (wc.heap[gb242]? = some (.cells #[(.slice A0_0 l0_0.length c0_0), .int .i64 a0_1] 25 (0, 0))) ∧ Aside0 (IsS52 w wc g248 t245 t279 t280) ∧ Aside0 (Below w.heap.size w wc))
                            case first =>
                              have H := HC84.out
                              clear HC84
                              by_cases c86 : ((rd_T42 l1 x8_2).f1) < 0
                              · rw [if_pos c86] at H
                                have c86b0 : decide (((rd_T42 l1 x8_2).f1) < 0) = true := decide_eq_true c86
                                clear c86
                                (first | rw [c86b0] | (simp only [i64_w, i32_w]; rw [c86b0]) | skip)
                                have H' := Aside0.mk H
                                clear H
                                go_wp2
                                go_meet
                                case rel => exact ⟨_, (true), (by first | rfl | (simp; done) | (simp [*]; done)), H', ⟨by have := HJ6.out; have := HK2.out; have := HJ22.out; first | omega | exact Nat.le_refl _⟩, ⟨by (with_reducible repeat (first | apply Kd.R_alloc | apply Kd.R_drewN | apply Kd.R_drew)); exact HO_6.out⟩, ⟨by (with_reducible repeat (first | refine blk_drewN ?_ _ | refine blk_drew ?_ | refine blk_alloc ?_ _)); exact BK242.out⟩, ⟨by repeat (first | (with_reducible first | exact HI248.out | apply IsS52.alloc | apply IsS52.drewN | apply IsS52.drew | apply IsS52.set_1 | apply IsS52.set_2 | refine IsS52.far ?_ NB248_242.out _) | exact HI248.out)⟩, ⟨by repeat (first | (with_reducible first | exact HB.out | apply below_alloc | apply pw_below_drewN | apply below_drew1 | refine below_set ?_ (IsS52.ge HI248.out) | refine below_set ?_ GE242.out) | exact HB.out)⟩⟩
                              · rw [if_neg c86] at H
                                have c86b0 : decide (((rd_T42 l1 x8_2).f1) < 0) = false := decide_eq_false c86
                                clear c86
                                (first | rw [c86b0] | (simp only [i64_w, i32_w]; rw [c86b0]) | skip)
                                have H' := Aside0.mk H
                                clear H
                                obtain ⟨Ao87, co87, eo87⟩ := Kd.R_slice HO_6.out
                                subst eo87
                                go_wp2
                                go_meet
                                case rel => exact ⟨_, (decide (((rd_T42 l1 x8_2).f1) > (x6_6.length : Int))), (by first | rfl | (simp; done) | (simp [*]; done)), H', ⟨by have := HJ6.out; have := HK2.out; have := HJ22.out; first | omega | exact Nat.le_refl _⟩, ⟨by (with_reducible repeat (first | apply Kd.R_alloc | apply Kd.R_drewN | apply Kd.R_drew)); exact HO_6.out⟩, ⟨by (with_reducible repeat (first | refine blk_drewN ?_ _ | refine blk_drew ?_ | refine blk_alloc ?_ _)); exact BK242.out⟩, ⟨by repeat (first | (with_reducible first | exact HI248.out | apply IsS52.alloc | apply IsS52.drewN | apply IsS52.drew | apply IsS52.set_1 | apply IsS52.set_2 | refine IsS52.far ?_ NB248_242.out _) | exact HI248.out)⟩, ⟨by repeat (first | (with_reducible first | exact HB.out | apply below_alloc | apply pw_below_drewN | apply below_drew1 | refine below_set ?_ (IsS52.ge HI248.out) | refine below_set ?_ GE242.out) | exact HB.out)⟩⟩
                            case rest =>
                              clear HC84
                              try clear c1
                              try clear c2
                              try clear p2
                              try clear q2
                              try clear hx2
                              try clear c3
                              try clear c4
                              try clear c5
                              try clear q5
                              try clear c6
                              try clear p6
                              try clear q6
                              try clear c7
                              try clear q7
                              try clear c8
                              try clear q8
                              try clear c15
                              try clear c17
                              try clear c18
                              try clear c20
                              try clear c21
                              try clear c22
                              try clear c23
                              try clear c24
                              try clear c24b0
                              try clear c25
                              try clear p25
                              try clear q25
                              try clear hx25
                              try clear c26
                              try clear c26b0
                              try clear c27
                              try clear c27b0
                              try clear c29
                              try clear c29b0
                              try clear c29b1
                              try clear c33
                              try clear c33b0
                              try clear c34
                              try clear c35
                              try clear c35b0
                              try clear c35b1
                              try clear c36
                              try clear c36b0
                              try clear c36b1
                              try clear c37
                              try clear c37b0
                              try clear c38
                              try clear c38b0
                              try clear c38b1
                              try clear c39
                              try clear c39b0
                              try clear c39b1
                              try clear c43
                              try clear c43b0
                              try clear c43b1
                              try clear c44
                              try clear c44b0
                              try clear c44b1
                              try clear c45
                              try clear c45b0
                              try clear c45b1
                              try clear c46
                              try clear c46b0
                              try clear c46b1
                              try clear c48
                              try clear c48b0
                              try clear c48b1
                              try clear c50
                              try clear q50
                              try clear c52
                              try clear q52
                              try clear c54
                              try clear c54b0
                              try clear c54b1
                              try clear c56
                              try clear c56b0
                              try clear c56b1
                              try clear c57
                              try clear c57b0
                              try clear c57b1
                              try clear c59
                              try clear c59b0
                              try clear c59b1
                              try clear c60
                              try clear c60b0
                              try clear c60b1
                              try clear c60b2
                              try clear c62
                              try clear q62
                              try clear p64
                              try clear c65
                              try clear c65b0
                              try clear c65b1
                              try clear c66
                              try clear c66b0
                              try clear c66b1
                              try clear c68
                              try clear q68
                              try clear c72
                              try clear q72
                              try clear c76
                              try clear q76
                              try clear c80
                              try clear q80
                              try clear c86
                              try clear c86b0
                              try clear hcz11_0
                              try clear hcz11_1
                              try clear hcz16_0
                              try clear hcz16_1
                              try clear hcz21_0
                              try clear hcz21_1
                              try clear hcz9_0
                              try clear hcz9_1
                              try clear hfz11_0
                              try clear hfz11_1
                              try clear hfz16_0
                              try clear hfz16_1
                              try clear hfz21_0
                              try clear hfz21_1
                              try clear hfz9_0
                              try clear hfz9_1
                              try clear hx257_0
                              try clear hx257_1
                              try clear hx258_0
                              try clear hx258_1
                              try clear p2
                              try clear p25
                              try clear p257
                              try clear p258
                              try clear p6
                              try clear q050
                              try clear q052
                              try clear q062
                              try clear q068
                              try clear q072
                              try clear q076
                              try clear q080
                              try clear q2
                              try clear q25
                              try clear q257
                              try clear q258
                              try clear q50
                              try clear q52
                              try clear q62
                              try clear q68
                              try clear q72
                              try clear q76
                              try clear q80
                              obtain ⟨kq, x60_83, rfl, HA, HJ83, HO_6, BK242, HI248, HB⟩ := hcut
                              cases kq with
                              | zero => exact absurd HA.out (by simp [windroselaw17_BitsReads.j4])
                              | succ kj83 =>
                                have H := HA.out
                                clear HA
                                simp only [windroselaw17_BitsReads.j4] at H
                                by_cases c88 : x60_83 = true
                                · subst c88
                                  have H1 : (if t278 = 1 then (windroselaw17_BitsReads.j5 kj83 l1 x6_6 x7_2 x8_2 t245 t279 t280) else (some false)) = some r := by rw [if_pos rfl] at H; exact H
                                  clear H
                                  have H := H1
                                  clear H1
                                  by_cases c89 : t278 = 1
                                  · rw [if_pos c89] at H
                                    have c89b0 : (t278 == 1) = true := beq_iff_eq.mpr c89
                                    have c89b1 : (t278 != 1) = false := bne_eq_false_iff_eq.mpr c89
                                    clear c89
                                    have H' := Aside0.mk H
                                    clear H
                                    go_wp2
                                    go_meet
                                    case rel => exact ⟨_, (x7_2), (t279), (t280), (by first | rfl | (simp; done) | (simp [*]; done)), H', ⟨by have := HJ6.out; have := HK2.out; have := HJ22.out; have := HJ83.out; first | omega | exact Nat.le_refl _⟩, ⟨by (with_reducible repeat (first | apply Kd.R_alloc | apply Kd.R_drewN | apply Kd.R_drew)); exact HO_6.out⟩, ⟨by (with_reducible repeat (first | refine blk_drewN ?_ _ | refine blk_drew ?_ | refine blk_alloc ?_ _)); exact BK242.out⟩, ⟨by repeat (first | (with_reducible first | exact HI248.out | apply IsS52.alloc | apply IsS52.drewN | apply IsS52.drew | apply IsS52.set_1 | apply IsS52.set_2 | refine IsS52.far ?_ NB248_242.out _) | exact HI248.out)⟩, ⟨by repeat (first | (with_reducible first | exact HB.out | apply below_alloc | apply pw_below_drewN | apply below_drew1 | refine below_set ?_ (IsS52.ge HI248.out) | refine below_set ?_ GE242.out) | exact HB.out)⟩⟩
                                  · rw [if_neg c89] at H
                                    have c89b0 : (t278 == 1) = false := beq_eq_false_iff_ne.mpr c89
                                    have c89b1 : (t278 != 1) = true := bne_iff_ne.mpr c89
                                    obtain rfl := Option.some.inj H
                                    go_wp2
                                    go_ret
                                    exact ⟨by first | rfl | (simp [errW_none, errW_some] <;> rfl) | (simp [*, errW_none, errW_some] <;> rfl), by repeat (first | (with_reducible first | exact HB.out | apply below_alloc | apply pw_below_drewN | apply below_drew1 | refine below_set ?_ (IsS52.ge HI248.out) | refine below_set ?_ GE242.out) | exact HB.out)⟩
                                · replace c88 := Bool.eq_false_iff.mpr c88
                                  subst c88
                                  have H1 : (if t278 = 0 then (windroselaw17_BitsReads.j5 kj83 l1 x6_6 ((rd_T42 l1 x8_2).f1) x8_2 t245 t279 t280) else (some false)) = some r := by rw [if_neg (show ¬ (false = true) by decide)] at H; exact H
                                  clear H
                                  have H := H1
                                  clear H1
                                  by_cases c90 : t278 = 0
                                  · rw [if_pos c90] at H
                                    have c90b0 : (t278 == 0) = true := beq_iff_eq.mpr c90
                                    have c90b1 : (t278 != 0) = false := bne_eq_false_iff_eq.mpr c90
                                    clear c90
                                    have H' := Aside0.mk H
                                    clear H
                                    go_wp2
                                    go_meet
                                    case rel => exact ⟨_, (((rd_T42 l1 x8_2).f1)), (t279), (t280), (by first | rfl | (simp; done) | (simp [*]; done)), H', ⟨by have := HJ6.out; have := HK2.out; have := HJ22.out; have := HJ83.out; first | omega | exact Nat.le_refl _⟩, ⟨by (with_reducible repeat (first | apply Kd.R_alloc | apply Kd.R_drewN | apply Kd.R_drew)); exact HO_6.out⟩, ⟨by (with_reducible repeat (first | refine blk_drewN ?_ _ | refine blk_drew ?_ | refine blk_alloc ?_ _)); exact BK242.out⟩, ⟨by repeat (first | (with_reducible first | exact HI248.out | apply IsS52.alloc | apply IsS52.drewN | apply IsS52.drew | apply IsS52.set_1 | apply IsS52.set_2 | refine IsS52.far ?_ NB248_242.out _) | exact HI248.out)⟩, ⟨by repeat (first | (with_reducible first | exact HB.out | apply below_alloc | apply pw_below_drewN | apply below_drew1 | refine below_set ?_ (IsS52.ge HI248.out) | refine below_set ?_ GE242.out) | exact HB.out)⟩⟩
                                  · rw [if_neg c90] at H
                                    have c90b0 : (t278 == 0) = false := beq_eq_false_iff_ne.mpr c90
                                    have c90b1 : (t278 != 0) = true := bne_iff_ne.mpr c90
                                    obtain rfl := Option.some.inj H
                                    go_wp2
                                    go_ret
                                    exact ⟨by first | rfl | (simp [errW_none, errW_some] <;> rfl) | (simp [*, errW_none, errW_some] <;> rfl), by repeat (first | (with_reducible first | exact HB.out | apply below_alloc | apply pw_below_drewN | apply below_drew1 | refine below_set ?_ (IsS52.ge HI248.out) | refine below_set ?_ GE242.out) | exact HB.out)⟩
                      case rest =>
                        clear HC28
                        try clear c1
                        try clear c2
                        try clear p2
                        try clear q2
                        try clear hx2
                        try clear c3
                        try clear c4
                        try clear c5
                        try clear q5
                        try clear c6
                        try clear p6
                        try clear q6
                        try clear c7
                        try clear q7
                        try clear c8
                        try clear q8
                        try clear c9
                        try clear c15
                        try clear c17
                        try clear c18
                        try clear c20
                        try clear c21
                        try clear c22
                        try clear c23
                        try clear c24
                        try clear c24b0
                        try clear c25
                        try clear p25
                        try clear q25
                        try clear hx25
                        try clear c26
                        try clear c26b0
                        try clear c27
                        try clear c27b0
                        try clear c29
                        try clear c29b0
                        try clear c29b1
                        try clear c33
                        try clear c33b0
                        try clear c34
                        try clear c35
                        try clear c35b0
                        try clear c35b1
                        try clear c36
                        try clear c36b0
                        try clear c36b1
                        try clear c37
                        try clear c37b0
                        try clear c38
                        try clear c38b0
                        try clear c38b1
                        try clear c39
                        try clear c39b0
                        try clear c39b1
                        try clear c43
                        try clear c43b0
                        try clear c43b1
                        try clear c44
                        try clear c44b0
                        try clear c44b1
                        try clear c45
                        try clear c45b0
                        try clear c45b1
                        try clear c46
                        try clear c46b0
                        try clear c46b1
                        try clear c48
                        try clear c48b0
                        try clear c48b1
                        try clear c50
                        try clear q50
                        try clear c52
                        try clear q52
                        try clear c54
                        try clear c54b0
                        try clear c54b1
                        try clear c56
                        try clear c56b0
                        try clear c56b1
                        try clear c57
                        try clear c57b0
                        try clear c57b1
                        try clear c59
                        try clear c59b0
                        try clear c59b1
                        try clear c60
                        try clear c60b0
                        try clear c60b1
                        try clear c60b2
                        try clear c62
                        try clear q62
                        try clear p64
                        try clear c65
                        try clear c65b0
                        try clear c65b1
                        try clear c66
                        try clear c66b0
                        try clear c66b1
                        try clear c68
                        try clear q68
                        try clear c72
                        try clear q72
                        try clear c76
                        try clear q76
                        try clear c80
                        try clear q80
                        try clear c86
                        try clear c86b0
                        try clear c88
                        try clear c89
                        try clear c89b0
                        try clear c89b1
                        try clear c90
                        try clear c90b0
                        try clear c90b1
                        try clear hcz11_0
                        try clear hcz11_1
                        try clear hcz16_0
                        try clear hcz16_1
                        try clear hcz21_0
                        try clear hcz21_1
                        try clear hcz9_0
                        try clear hcz9_1
                        try clear hfz11_0
                        try clear hfz11_1
                        try clear hfz16_0
                        try clear hfz16_1
                        try clear hfz21_0
                        try clear hfz21_1
                        try clear hfz9_0
                        try clear hfz9_1
                        try clear hx257_0
                        try clear hx257_1
                        try clear hx258_0
                        try clear hx258_1
                        try clear p2
                        try clear p25
                        try clear p257
                        try clear p258
                        try clear p6
                        try clear p64
                        try clear q050
                        try clear q052
                        try clear q062
                        try clear q068
                        try clear q072
                        try clear q076
                        try clear q080
                        try clear q2
                        try clear q25
                        try clear q257
                        try clear q258
                        try clear q5
                        try clear q50
                        try clear q52
                        try clear q6
                        try clear q62
                        try clear q68
                        try clear q7
                        try clear q72
                        try clear q76
                        try clear q8
                        try clear q80
                        obtain ⟨kq, x7_27, x249001_27, x249002_27, rfl, HA, HJ27, HO_6, BK242, HI248, HB⟩ := hcut
                        cases kq with
                        | zero => exact absurd HA.out (by simp [windroselaw17_BitsReads.j5])
                        | succ kj27 =>
                          have H := HA.out
                          clear HA
                          simp only [windroselaw17_BitsReads.j5] at H
                          replace H := Option.bind_eq_some_iff.mp H
                          obtain ⟨⟨t281, t282, t283⟩, A910, H⟩ := H
                          replace H : (if t281 = x7_27 then ((bits_Reader_Left.f t245 t282 t283).bind fun bt284 => (if bt284.1 = (wrap64 ((x6_6.length : Int) - x7_27)) then (windroselaw17_BitsReads.l0 kj27 l1 x6_6 x7_27 (wrap64 (x8_2 + 1)) t245 bt284.2.1 bt284.2.2) else (some false))) else (some false)) = some r := H
                          have A91 := Aside0.mk A910
                          clear A910
                          by_cases c92 : t281 = x7_27
                          · rw [if_pos c92] at H
                            have c92b0 : (t281 == x7_27) = true := beq_iff_eq.mpr c92
                            have c92b1 : (t281 != x7_27) = false := bne_eq_false_iff_eq.mpr c92
                            clear c92
                            replace H := Option.bind_eq_some_iff.mp H
                            obtain ⟨⟨t284, t285, t286⟩, A930, H⟩ := H
                            replace H : (if t284 = (wrap64 ((x6_6.length : Int) - x7_27)) then (windroselaw17_BitsReads.l0 kj27 l1 x6_6 x7_27 (wrap64 (x8_2 + 1)) t245 t285 t286) else (some false)) = some r := H
                            have A93 := Aside0.mk A930
                            clear A930
                            by_cases c94 : t284 = (wrap64 ((x6_6.length : Int) - x7_27))
                            · rw [if_pos c94] at H
                              have c94b0 : (t284 == (wrap64 ((x6_6.length : Int) - x7_27))) = true := beq_iff_eq.mpr c94
                              have c94b1 : (t284 != (wrap64 ((x6_6.length : Int) - x7_27))) = false := bne_eq_false_iff_eq.mpr c94
                              clear c94
                              have H' := Aside0.mk H
                              clear H
                              go_wp2_with (first | ((with_reducible refine gate_callee (f := 28) rfl ?_); refine goesL_ (some 150) rfl rfl Try.func28 (by kernel_rfl) rfl #[.pointer (some ⟨g248, 0, none⟩)] rfl (by (try simp only [List.map_toArray, List.map_cons, List.map_nil]); first | done | rfl | (simp only [List.length_drop, List.length_take]; rfl)) ?_; (with_reducible refine (bits_Reader_At.calls g248 t245 x249001_27 x249002_27 t281 t282 t283 w _ ?side1 ?side2 A91.out).mono ?_); (case side1 => repeat (first | (with_reducible first | exact HI248.out | apply IsS52.alloc | apply IsS52.drewN | apply IsS52.drew | apply IsS52.set_1 | apply IsS52.set_2 | refine IsS52.far ?_ NB248_242.out _) | exact HI248.out)); (case side2 => repeat (first | (with_reducible first | exact HB.out | apply below_alloc | apply pw_below_drewN | apply below_drew1 | refine below_set ?_ (IsS52.ge HI248.out) | refine below_set ?_ GE242.out) | exact HB.out)); rintro e w95 ⟨rfl, hi, hb, hk⟩; refine ⟨_, rfl, ?_⟩; have n0_ := Aside0.mk (Kd.R_mono (Kd.R_keep (IsS52.apart (show IsS52 w _ g248 t245 x249001_27 x249002_27 from by repeat (first | (with_reducible first | exact HI248.out | apply IsS52.alloc | apply IsS52.drewN | apply IsS52.drew | apply IsS52.set_1 | apply IsS52.set_2 | refine IsS52.far ?_ NB248_242.out _) | exact HI248.out)) (by (with_reducible repeat (first | apply Kd.R_alloc | apply Kd.R_drewN | apply Kd.R_drew)); exact HO_6.out) (by decide)) hk (fun _ h => h.2)) (fun _ h => h.1)); have n1_ := Aside0.mk (KeepBut.blk hk (g' := gb242) (o := .cells #[.slice A0_0 l0_0.length c0_0, .int .i64 a0_1] 25 (0, 0)) (by (with_reducible repeat (first | refine blk_drewN ?_ _ | refine blk_drew ?_ | refine blk_alloc ?_ _)); exact BK242.out) NB242_248.out (by simp)); have n2_ := Aside0.mk (hb); have n3_ := Aside0.mk (hi); clear HO_6; clear BK242; clear HB; clear HI248; have HO_6 := n0_; have BK242 := n1_; have HB := n2_; have HI248 := n3_; clear n0_ n1_ n2_ n3_; (try clear hb); (try clear hb2); (try clear hk); (try clear hi)) | (go_at_call 19; (with_reducible refine (bits_Reader_Left.calls g248 t245 t282 t283 t284 t285 t286 w _ ?side1 ?side2 A93.out).mono ?_); (case side1 => repeat (first | (with_reducible first | exact HI248.out | apply IsS52.alloc | apply IsS52.drewN | apply IsS52.drew | apply IsS52.set_1 | apply IsS52.set_2 | refine IsS52.far ?_ NB248_242.out _) | exact HI248.out)); (case side2 => repeat (first | (with_reducible first | exact HB.out | apply below_alloc | apply pw_below_drewN | apply below_drew1 | refine below_set ?_ (IsS52.ge HI248.out) | refine below_set ?_ GE242.out) | exact HB.out)); rintro e w96 ⟨rfl, hi, hb, hk⟩; have n0_ := Aside0.mk (Kd.R_mono (Kd.R_keep (IsS52.apart (show IsS52 w _ g248 t245 t282 t283 from by repeat (first | (with_reducible first | exact HI248.out | apply IsS52.alloc | apply IsS52.drewN | apply IsS52.drew | apply IsS52.set_1 | apply IsS52.set_2 | refine IsS52.far ?_ NB248_242.out _) | exact HI248.out)) (by (with_reducible repeat (first | apply Kd.R_alloc | apply Kd.R_drewN | apply Kd.R_drew)); exact HO_6.out) (by decide)) hk (fun _ h => h.2)) (fun _ h => h.1)); have n1_ := Aside0.mk (KeepBut.blk hk (g' := gb242) (o := .cells #[.slice A0_0 l0_0.length c0_0, .int .i64 a0_1] 25 (0, 0)) (by (with_reducible repeat (first | refine blk_drewN ?_ _ | refine blk_drew ?_ | refine blk_alloc ?_ _)); exact BK242.out) NB242_248.out (by simp)); have n2_ := Aside0.mk (hb); have n3_ := Aside0.mk (hi); clear HO_6; clear BK242; clear HB; clear HI248; have HO_6 := n0_; have BK242 := n1_; have HB := n2_; have HI248 := n3_; clear n0_ n1_ n2_ n3_; (try clear hb); (try clear hb2); (try clear hk); (try clear hi); obtain ⟨Ao97, co97, eo97⟩ := Kd.R_slice HO_6.out; subst eo97))
                              go_roundg kj27
                              case measure => have := HJ6.out; have := HK2.out; have := HJ22.out; have := HJ27.out; omega
                              case rel => exact ⟨(x7_27), (wrap64 (x8_2 + 1)), (t285), (t286), (by first | rfl | (simp; done) | (simp [*]; done)), (by first | rfl | (simp; done) | (simp [*]; done)), H', ⟨by have := HJ6.out; have := HK2.out; have := HJ22.out; have := HJ27.out; omega⟩, ⟨by (with_reducible repeat (first | apply Kd.R_alloc | apply Kd.R_drewN | apply Kd.R_drew)); exact HO_6.out⟩, ⟨by (with_reducible repeat (first | refine blk_drewN ?_ _ | refine blk_drew ?_ | refine blk_alloc ?_ _)); exact BK242.out⟩, ⟨by repeat (first | (with_reducible first | exact HI248.out | apply IsS52.alloc | apply IsS52.drewN | apply IsS52.drew | apply IsS52.set_1 | apply IsS52.set_2 | refine IsS52.far ?_ NB248_242.out _) | exact HI248.out)⟩, ⟨by repeat (first | (with_reducible first | exact HB.out | apply below_alloc | apply pw_below_drewN | apply below_drew1 | refine below_set ?_ (IsS52.ge HI248.out) | refine below_set ?_ GE242.out) | exact HB.out)⟩⟩
                            · rw [if_neg c94] at H
                              have c94b0 : (t284 == (wrap64 ((x6_6.length : Int) - x7_27))) = false := beq_eq_false_iff_ne.mpr c94
                              have c94b1 : (t284 != (wrap64 ((x6_6.length : Int) - x7_27))) = true := bne_iff_ne.mpr c94
                              obtain rfl := Option.some.inj H
                              go_wp2_with (first | ((with_reducible refine gate_callee (f := 28) rfl ?_); refine goesL_ (some 150) rfl rfl Try.func28 (by kernel_rfl) rfl #[.pointer (some ⟨g248, 0, none⟩)] rfl (by (try simp only [List.map_toArray, List.map_cons, List.map_nil]); first | done | rfl | (simp only [List.length_drop, List.length_take]; rfl)) ?_; (with_reducible refine (bits_Reader_At.calls g248 t245 x249001_27 x249002_27 t281 t282 t283 w _ ?side1 ?side2 A91.out).mono ?_); (case side1 => repeat (first | (with_reducible first | exact HI248.out | apply IsS52.alloc | apply IsS52.drewN | apply IsS52.drew | apply IsS52.set_1 | apply IsS52.set_2 | refine IsS52.far ?_ NB248_242.out _) | exact HI248.out)); (case side2 => repeat (first | (with_reducible first | exact HB.out | apply below_alloc | apply pw_below_drewN | apply below_drew1 | refine below_set ?_ (IsS52.ge HI248.out) | refine below_set ?_ GE242.out) | exact HB.out)); rintro e w98 ⟨rfl, hi, hb, hk⟩; refine ⟨_, rfl, ?_⟩; have n0_ := Aside0.mk (Kd.R_mono (Kd.R_keep (IsS52.apart (show IsS52 w _ g248 t245 x249001_27 x249002_27 from by repeat (first | (with_reducible first | exact HI248.out | apply IsS52.alloc | apply IsS52.drewN | apply IsS52.drew | apply IsS52.set_1 | apply IsS52.set_2 | refine IsS52.far ?_ NB248_242.out _) | exact HI248.out)) (by (with_reducible repeat (first | apply Kd.R_alloc | apply Kd.R_drewN | apply Kd.R_drew)); exact HO_6.out) (by decide)) hk (fun _ h => h.2)) (fun _ h => h.1)); have n1_ := Aside0.mk (KeepBut.blk hk (g' := gb242) (o := .cells #[.slice A0_0 l0_0.length c0_0, .int .i64 a0_1] 25 (0, 0)) (by (with_reducible repeat (first | refine blk_drewN ?_ _ | refine blk_drew ?_ | refine blk_alloc ?_ _)); exact BK242.out) NB242_248.out (by simp)); have n2_ := Aside0.mk (hb); have n3_ := Aside0.mk (hi); clear HO_6; clear BK242; clear HB; clear HI248; have HO_6 := n0_; have BK242 := n1_; have HB := n2_; have HI248 := n3_; clear n0_ n1_ n2_ n3_; (try clear hb); (try clear hb2); (try clear hk); (try clear hi)) | (go_at_call 19; (with_reducible refine (bits_Reader_Left.calls g248 t245 t282 t283 t284 t285 t286 w _ ?side1 ?side2 A93.out).mono ?_); (case side1 => repeat (first | (with_reducible first | exact HI248.out | apply IsS52.alloc | apply IsS52.drewN | apply IsS52.drew | apply IsS52.set_1 | apply IsS52.set_2 | refine IsS52.far ?_ NB248_242.out _) | exact HI248.out)); (case side2 => repeat (first | (with_reducible first | exact HB.out | apply below_alloc | apply pw_below_drewN | apply below_drew1 | refine below_set ?_ (IsS52.ge HI248.out) | refine below_set ?_ GE242.out) | exact HB.out)); rintro e w99 ⟨rfl, hi, hb, hk⟩; have n0_ := Aside0.mk (Kd.R_mono (Kd.R_keep (IsS52.apart (show IsS52 w _ g248 t245 t282 t283 from by repeat (first | (with_reducible first | exact HI248.out | apply IsS52.alloc | apply IsS52.drewN | apply IsS52.drew | apply IsS52.set_1 | apply IsS52.set_2 | refine IsS52.far ?_ NB248_242.out _) | exact HI248.out)) (by (with_reducible repeat (first | apply Kd.R_alloc | apply Kd.R_drewN | apply Kd.R_drew)); exact HO_6.out) (by decide)) hk (fun _ h => h.2)) (fun _ h => h.1)); have n1_ := Aside0.mk (KeepBut.blk hk (g' := gb242) (o := .cells #[.slice A0_0 l0_0.length c0_0, .int .i64 a0_1] 25 (0, 0)) (by (with_reducible repeat (first | refine blk_drewN ?_ _ | refine blk_drew ?_ | refine blk_alloc ?_ _)); exact BK242.out) NB242_248.out (by simp)); have n2_ := Aside0.mk (hb); have n3_ := Aside0.mk (hi); clear HO_6; clear BK242; clear HB; clear HI248; have HO_6 := n0_; have BK242 := n1_; have HB := n2_; have HI248 := n3_; clear n0_ n1_ n2_ n3_; (try clear hb); (try clear hb2); (try clear hk); (try clear hi); obtain ⟨Ao100, co100, eo100⟩ := Kd.R_slice HO_6.out; subst eo100))
                              go_ret
                              exact ⟨by first | rfl | (simp [errW_none, errW_some] <;> rfl) | (simp [*, errW_none, errW_some] <;> rfl), by repeat (first | (with_reducible first | exact HB.out | apply below_alloc | apply pw_below_drewN | apply below_drew1 | refine below_set ?_ (IsS52.ge HI248.out) | refine below_set ?_ GE242.out) | exact HB.out)⟩
                          · rw [if_neg c92] at H
                            have c92b0 : (t281 == x7_27) = false := beq_eq_false_iff_ne.mpr c92
                            have c92b1 : (t281 != x7_27) = true := bne_iff_ne.mpr c92
                            obtain rfl := Option.some.inj H
                            go_wp2_with (first | ((with_reducible refine gate_callee (f := 28) rfl ?_); refine goesL_ (some 150) rfl rfl Try.func28 (by kernel_rfl) rfl #[.pointer (some ⟨g248, 0, none⟩)] rfl (by (try simp only [List.map_toArray, List.map_cons, List.map_nil]); first | done | rfl | (simp only [List.length_drop, List.length_take]; rfl)) ?_; (with_reducible refine (bits_Reader_At.calls g248 t245 x249001_27 x249002_27 t281 t282 t283 w _ ?side1 ?side2 A91.out).mono ?_); (case side1 => repeat (first | (with_reducible first | exact HI248.out | apply IsS52.alloc | apply IsS52.drewN | apply IsS52.drew | apply IsS52.set_1 | apply IsS52.set_2 | refine IsS52.far ?_ NB248_242.out _) | exact HI248.out)); (case side2 => repeat (first | (with_reducible first | exact HB.out | apply below_alloc | apply pw_below_drewN | apply below_drew1 | refine below_set ?_ (IsS52.ge HI248.out) | refine below_set ?_ GE242.out) | exact HB.out)); rintro e w101 ⟨rfl, hi, hb, hk⟩; refine ⟨_, rfl, ?_⟩; have n0_ := Aside0.mk (Kd.R_mono (Kd.R_keep (IsS52.apart (show IsS52 w _ g248 t245 x249001_27 x249002_27 from by repeat (first | (with_reducible first | exact HI248.out | apply IsS52.alloc | apply IsS52.drewN | apply IsS52.drew | apply IsS52.set_1 | apply IsS52.set_2 | refine IsS52.far ?_ NB248_242.out _) | exact HI248.out)) (by (with_reducible repeat (first | apply Kd.R_alloc | apply Kd.R_drewN | apply Kd.R_drew)); exact HO_6.out) (by decide)) hk (fun _ h => h.2)) (fun _ h => h.1)); have n1_ := Aside0.mk (KeepBut.blk hk (g' := gb242) (o := .cells #[.slice A0_0 l0_0.length c0_0, .int .i64 a0_1] 25 (0, 0)) (by (with_reducible repeat (first | refine blk_drewN ?_ _ | refine blk_drew ?_ | refine blk_alloc ?_ _)); exact BK242.out) NB242_248.out (by simp)); have n2_ := Aside0.mk (hb); have n3_ := Aside0.mk (hi); clear HO_6; clear BK242; clear HB; clear HI248; have HO_6 := n0_; have BK242 := n1_; have HB := n2_; have HI248 := n3_; clear n0_ n1_ n2_ n3_; (try clear hb); (try clear hb2); (try clear hk); (try clear hi)))
                            go_ret
                            exact ⟨by first | rfl | (simp [errW_none, errW_some] <;> rfl) | (simp [*, errW_none, errW_some] <;> rfl), by repeat (first | (with_reducible first | exact HB.out | apply below_alloc | apply pw_below_drewN | apply below_drew1 | refine below_set ?_ (IsS52.ge HI248.out) | refine below_set ?_ GE242.out) | exact HB.out)⟩
                    · rw [if_neg c27] at H
                      exact absurd H (by simp)
                  · rw [if_neg c26] at H
                    exact absurd H (by simp)
                · replace c25 := Bool.eq_false_iff.mpr c25
                  subst c25
                  have H1 : ((windroselaw17_awake.f kj22).bind fun t256 => (some t256)) = some r := by rw [if_neg (show ¬ (false = true) by decide)] at H; exact H
                  clear H
                  have H := H1
                  clear H1
                  replace H := Option.bind_eq_some_iff.mp H
                  obtain ⟨t256, A1020, H⟩ := H
                  replace H : (some t256) = some r := H
                  have A102 := Aside0.mk A1020
                  clear A1020
                  obtain rfl := Option.some.inj H
                  go_wp2_with (first | ((with_reducible refine gate_callee (f := 20) rfl ?_); refine goesL_ (some 162) rfl rfl Try.func20 (by kernel_rfl) rfl #[] rfl (by (try simp only [List.map_toArray, List.map_cons, List.map_nil]); first | done | rfl | (simp only [List.length_drop, List.length_take]; rfl)) ?_; (with_reducible refine (windroselaw17_awake.calls kj22  t256 _ A102.out).mono ?_); rintro e w103 ⟨rfl, hb⟩; refine ⟨_, rfl, ?_⟩; have n0_ := Aside0.mk (Kd.R_below (by (with_reducible repeat (first | apply Kd.R_alloc | apply Kd.R_drewN | apply Kd.R_drew)); exact HO_6.out) hb); have n1_ := Aside0.mk (blk_below (g := gb242) (o := .cells #[.slice A0_0 l0_0.length c0_0, .int .i64 a0_1] 25 (0, 0)) (by (with_reducible repeat (first | refine blk_drewN ?_ _ | refine blk_drew ?_ | refine blk_alloc ?_ _)); exact BK242.out) hb); have n2_ := Aside0.mk (IsS52.below (by repeat (first | (with_reducible first | exact HI248.out | apply IsS52.alloc | apply IsS52.drewN | apply IsS52.drew | apply IsS52.set_1 | apply IsS52.set_2 | refine IsS52.far ?_ NB248_242.out _) | exact HI248.out)) hb); have n3_ := Aside0.mk (below_step (by repeat (first | (with_reducible first | exact HB.out | apply below_alloc | apply pw_below_drewN | apply below_drew1 | refine below_set ?_ (IsS52.ge HI248.out) | refine below_set ?_ GE242.out) | exact HB.out)) hb); clear HO_6; clear BK242; clear HI248; clear HB; have HO_6 := n0_; have BK242 := n1_; have HI248 := n2_; have HB := n3_; clear n0_ n1_ n2_ n3_; (try clear hb); (try clear hb2); (try clear hk); (try clear hi)))
                  go_ret
                  exact ⟨by first | rfl | (simp [errW_none, errW_some] <;> rfl) | (simp [*, errW_none, errW_some] <;> rfl), by repeat (first | (with_reducible first | exact HB.out | apply below_alloc | apply pw_below_drewN | apply below_drew1 | refine below_set ?_ (IsS52.ge HI248.out) | refine below_set ?_ GE242.out) | exact HB.out)⟩
  · replace c4 := Bool.eq_false_iff.mpr c4
    subst c4
    have H1 : ((windroselaw17_awake.f k).bind fun t244 => (some t244)) = some r := by rw [if_neg (show ¬ (false = true) by decide)] at H; exact H
    clear H
    have H := H1
    clear H1
    replace H := Option.bind_eq_some_iff.mp H
    obtain ⟨t244, A1040, H⟩ := H
    replace H : (some t244) = some r := H
    have A104 := Aside0.mk A1040
    clear A1040
    obtain rfl := Option.some.inj H
    go_enter Try.func4, Try.ntmps4
    go_wp2_with (first | ((with_reducible refine gate_dst (N := 2) rfl ?_); (try (refine gate_guard (by rfl) ?_; dsimp only)); refine box_event ?hg (N := 2) ?hd (cs := #[.slice A0_0 l0_0.length c0_0, .int .i64 a0_1]) (t := 25) ?hr ?_; (case hd => rfl); (case hg => rfl); (case hr => first | (go_simp; done) | (go_simp; rfl)); intro gb242 hg w105 hbox hb; have n0_ := Aside0.mk (below_step (by repeat (first | (with_reducible first | exact HB.out | apply below_alloc | apply pw_below_drewN | apply below_drew1) | exact HB.out)) hb); have n1_ := Aside0.mk (hbox); have n2_ := Aside0.mk ((by rw [hg]; exact (below_size (by repeat (first | (with_reducible first | exact HB.out | apply below_alloc | apply pw_below_drewN | apply below_drew1) | exact HB.out))) : w.heap.size ≤ gb242)); have n3_ := Aside0.mk ((by rw [hg]; exact (below_size (by repeat (first | (with_reducible first | exact HB.out | apply below_alloc | apply pw_below_drewN | apply below_drew1) | exact HB.out))) : w.heap.size ≤ gb242)); clear HB; have HB := n0_; have BK242 := n1_; have GW242 := n2_; have GE242 := n3_; clear n0_ n1_ n2_ n3_; clear hb hbox hg; have hcz106_0 : w105.cell? ⟨gb242, 0, none⟩ = some (.slice A0_0 l0_0.length c0_0) := (blk_cell BK242.out 0).trans rfl; have hcz106_1 : w105.cell? ⟨gb242, 1, none⟩ = some (.int .i64 a0_1) := (blk_cell BK242.out 1).trans rfl; have hfz106_0 := blk_frozen BK242.out 0; have hfz106_1 := blk_frozen BK242.out 1) | ((with_reducible refine gate_callee (f := 21) rfl ?_); refine goesL_ (some 18) rfl rfl Try.func21 (by kernel_rfl) rfl #[.agg #[.slice A0_0 l0_0.length c0_0, .int .i64 a0_1]] rfl (by (try simp only [List.map_toArray, List.map_cons, List.map_nil]); first | done | rfl | (simp only [List.length_drop, List.length_take]; rfl)) ?_; (with_reducible refine (windroselaw17_light.calls _ _ l0_0 a0_1 false _ ?side1 ?side2 A3.out).mono ?_); (case side1 => repeat (first | exact (Kd.C_below HR0_0.out HB.out) | (with_reducible refine Kd.C_alloc ?_ _) | (with_reducible refine Kd.C_drewN ?_ _) | (with_reducible refine Kd.C_drew ?_))); (case side2 => exact HC0_0.out); rintro e w107 ⟨rfl, hb⟩; refine ⟨_, rfl, ?_⟩; have n0_ := Aside0.mk (blk_below (g := gb242) (o := .cells #[.slice A0_0 l0_0.length c0_0, .int .i64 a0_1] 25 (0, 0)) (by (with_reducible repeat (first | refine blk_drewN ?_ _ | refine blk_drew ?_ | refine blk_alloc ?_ _)); exact BK242.out) hb); have n1_ := Aside0.mk (below_step (by repeat (first | (with_reducible first | exact HB.out | apply below_alloc | apply pw_below_drewN | apply below_drew1 | refine below_set ?_ GE242.out) | exact HB.out)) hb); clear BK242; clear HB; have BK242 := n0_; have HB := n1_; clear n0_ n1_; (try clear hb); (try clear hb2); (try clear hk); (try clear hi)) | ((with_reducible refine gate_callee (f := 20) rfl ?_); refine goesL_ (some 20) rfl rfl Try.func20 (by kernel_rfl) rfl #[] rfl (by (try simp only [List.map_toArray, List.map_cons, List.map_nil]); first | done | rfl | (simp only [List.length_drop, List.length_take]; rfl)) ?_; (with_reducible refine (windroselaw17_awake.calls k  t244 _ A104.out).mono ?_); rintro e w108 ⟨rfl, hb⟩; refine ⟨_, rfl, ?_⟩; have n0_ := Aside0.mk (blk_below (g := gb242) (o := .cells #[.slice A0_0 l0_0.length c0_0, .int .i64 a0_1] 25 (0, 0)) (by (with_reducible repeat (first | refine blk_drewN ?_ _ | refine blk_drew ?_ | refine blk_alloc ?_ _)); exact BK242.out) hb); have n1_ := Aside0.mk (below_step (by repeat (first | (with_reducible first | exact HB.out | apply below_alloc | apply pw_below_drewN | apply below_drew1 | refine below_set ?_ GE242.out) | exact HB.out)) hb); clear BK242; clear HB; have BK242 := n0_; have HB := n1_; clear n0_ n1_; (try clear hb); (try clear hb2); (try clear hk); (try clear hi)))
    go_ret
    exact ⟨by first | rfl | (simp [errW_none, errW_some] <;> rfl) | (simp [*, errW_none, errW_some] <;> rfl), by repeat (first | (with_reducible first | exact HB.out | apply below_alloc | apply pw_below_drewN | apply below_drew1 | refine below_set ?_ GE242.out) | exact HB.out)⟩
end Go.Proofs.Ytmddmbagehjdeaa.G
end
