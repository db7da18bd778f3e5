/- More lines for the row. -/
import Derived.Test.YtmddmbagehjdeaaZBitsPuts4
import Derived.WalkSpells
set_option linter.unusedVariables false
set_option linter.unusedSimpArgs false
section
namespace Go.Proofs.Ytmddmbagehjdeaa.G
open Go Go.RowKit Go.Proofs.YtmddmbagehjdeaaW.PrintWords Go.Proofs.YtmddmbagehjdeaaW.PrintLast Go.Proofs.YtmddmbagehjdeaaW.PrintMore
def slices_Clone_byte_byte.f (l0 : List Int) : Option (List Int) := if l0.length < 140737488355328 then some l0 else none
set_option maxHeartbeats 8000000 in
set_option maxRecDepth 100000 in
theorem slices_Clone_byte_byte.calls (A0 : Option Addr) (c0 : Nat) (l0 : List Int) (r : List Int) (w : World) (hr0 : Kd.C (Kd.int .u8) w A0 l0.length l0) (hc0 : l0.length ≤ c0) (h : slices_Clone_byte_byte.f l0 = some r) :
    Calls Try.prog 83 #[.slice A0 l0.length c0] w fun e w' => ∃ v0_ : Value, e = .returned (v0_) ∧ Kd.R (Kd.int .u8) 5 w' w.heap.size (fun _ => True) v0_ r ∧ Below w.heap.size w w' := by
  unfold slices_Clone_byte_byte.f at h
  by_cases hl : l0.length < 140737488355328
  · rw [if_pos hl] at h
    obtain rfl := Option.some.inj h
    have HL := Aside0.mk hl
    have HR := Aside0.mk hr0
    have HC := Aside0.mk hc0
    have HB := Aside0.mk (Below.refl w.heap.size w)
    have hnil := fun (W : World) => Lib.run_eql_slice_nil (P := Try.prog) W 23 5 A0 l0.length c0 0 0 Try.underlying23
    clear h hl hc0
    rcases A0 with _ | ad
    · have h0 : l0 = [] := by
        rcases Nat.eq_zero_or_pos l0.length with h0 | h0
        · exact List.eq_nil_of_length_eq_zero h0
        · obtain ⟨ad, e, _⟩ := hr0.2.2 h0
          cases e
      clear hr0
      have H0 := Aside0.mk h0
      clear h0
      go_enter Try.func83, Try.ntmps83
      go_wp2
      go_ret
      exact ⟨_, rfl, by rw [H0.out]; exact Kd.R_nil _ _ _ _ _, Below.refl _ _⟩
    · clear hr0
      go_enter Try.func83, Try.ntmps83
      go_wp2_with (first
        | ((with_reducible refine gate_dst (N := 5) rfl ?_); refine Kd.R_lit (Kd.int .u8) _ 5 ?hg (N := 5) ?hd (xs := ([] : List Int)) (inner := []) (ok := fun _ => True) (okp := fun _ => True) ?hr ?hp (fun _ hk => hk) trivial (Below.refl _ _) (Nat.le_refl _) (by simp) ?_; (case hd => rfl); (case hg => rfl); (case hr => first | (go_simp; done) | (go_simp; rfl)); (case hp => exact (Reps.none _ _)); intro v5 w5 ho5 hb5 hg_ hnew_; clear hg_ hnew_; have HO5 := Aside0.mk ho5; have HB5 := Aside0.mk hb5; clear ho5 hb5)
        | ((with_reducible refine gate_builtin (b := .append) (xs := #[.tmp 5, .tmp 6]) rfl ?_); at_builtin; refine Kd.R_append_rows (Kd.int .u8) (w0 := w) w.heap.size rfl (.tmp 5) (.tmp 6) 23 5 (.int .u8 0) 1 rfl Try.underlying23 info5 rfl (by decide) (by omega) v5 [] l0 _ _ _ (fun _ => True) (fun _ => False) rfl rfl ?aO ?aR (fun _ _ h => h) (fun _ h => h.elim) ?aF ?aB ?aS ?aL ?_; (case aR => exact Kd.C_below HR.out (below_then (Below.refl _ _) (Nat.le_refl _) HB5.out)); (case aF => exact (fun _ _ => trivial)); (case aB => exact HB5.out); (case aO => exact HO5.out); (case aS => exact HB5.out.size); (case aL => have := HL.out; simp; omega); intro v7 w7 ho hb hg hat; rw [List.nil_append] at ho; have HO7 := Aside0.mk ho; have HB7 := Aside0.mk hb; clear ho hb hg hat))
      go_ret
      exact ⟨_, rfl, HO7.out, HB7.out⟩
  · rw [if_neg hl] at h
    cases h
end Go.Proofs.Ytmddmbagehjdeaa.G
end
section
namespace Go.Proofs.Ytmddmbagehjdeaa.G
open Go.RowKit Go.Proofs.YtmddmbagehjdeaaX Go.Proofs.YtmddmbagehjdeaaW.PrintWords Go.Proofs.YtmddmbagehjdeaaW.PrintLast Go.Proofs.YtmddmbagehjdeaaW.PrintMore
attribute [local go_sem] max2_int min2_int max_two min_two max_three min_three max_four min_four
def bits_own.f (l0_0 : List Int) (a0_1 : Int) : Option (List Int × Int) := (slices_Clone_byte_byte.f l0_0).bind fun t113 => (some (t113, a0_1))
set_option maxHeartbeats 8000000 in
set_option maxRecDepth 100000 in
theorem bits_own.calls (A0_0 : Option Addr) (c0_0 : Nat) (l0_0 : List Int) (a0_1 : Int) (r1 : List Int) (r2 : Int) (w : World) (hr0_0 : Kd.C (Kd.int .u8) w A0_0 l0_0.length l0_0) (hc0_0 : l0_0.length ≤ c0_0) (h : bits_own.f l0_0 a0_1 = some (r1, r2)) :
    Calls Try.prog 59 #[.agg #[.slice A0_0 l0_0.length c0_0, .int .i64 a0_1]] w fun e w' => ∃ v0_ : Value, e = .returned (.agg #[v0_, .int .i64 r2]) ∧ Kd.R (Kd.int .u8) 5 w' w.heap.size (fun _ => True) v0_ r1 ∧ Below w.heap.size w w' := by
  have hu25 := Try.underlying25
  have HR0_0 := Aside0.mk hr0_0
  have HC0_0 := Aside0.mk hc0_0
  clear hr0_0 hc0_0
  have HB := Aside0.mk (Below.refl w.heap.size w)
  have H : ((slices_Clone_byte_byte.f l0_0).bind fun t113 => (some (t113, a0_1))) = some (r1, r2) := h
  clear h
  replace H := bindA H
  obtain ⟨t113, A2, H⟩ := H
  try dsimp only at H
  simp only [Option.some.injEq, Prod.mk.injEq] at H
  obtain ⟨rfl, rfl⟩ := H
  go_enter Try.func59, Try.ntmps59
  go_wp2_with (first | ((with_reducible refine gate_dst (N := 1) rfl ?_); refine box_ev 1 #[.slice A0_0 l0_0.length c0_0, .int .i64 a0_1] 25 ?_; intro gb7000 hg w7000 hbox hb; have n_ := pk4 (below_step bl_ hb) (hbox) ((ge_ hg bl_ : w.heap.size ≤ gb7000)) ((ge_ hg bl_ : w.heap.size ≤ gb7000)); clear HB; obtain ⟨HB, BK7000, GW7000, GE7000⟩ := n_; clear hb hbox hg) | ((with_reducible refine gate_dst (N := 2) rfl ?_); refine box_ev 2 #[.slice none 0 0, .int .i64 0] 25 ?_; intro gb7001 hg w7001 hbox hb; have n_ := pk7 (blk_below (bo_ BK7000) hb) (below_step bl_ hb) (hbox) ((ge_ hg bl_ : w.heap.size ≤ gb7001)) ((ge_ hg bl_ : w.heap.size ≤ gb7001)) ((nb_ hg (bo_ BK7000) : gb7000 ≠ gb7001)) ((nc_ hg (bo_ BK7000) : gb7001 ≠ gb7000)); clear BK7000 HB; obtain ⟨BK7000, HB, BK7001, GW7001, GE7001, NB7000_7001, NB7001_7000⟩ := n_; clear hb hbox hg; have hnb7000 := NB7000_7001.out; have hnc7000 := NB7001_7000.out; have hcz7000_0 : w7001.cell? ⟨gb7000, 0, none⟩ = some (.slice A0_0 l0_0.length c0_0) := (blk_cell BK7000.out 0).trans rfl; have hcz7000_1 : w7001.cell? ⟨gb7000, 1, none⟩ = some (.int .i64 a0_1) := (blk_cell BK7000.out 1).trans rfl; have hfz7000_0 := blk_frozen BK7000.out 0; have hfz7000_1 := blk_frozen BK7000.out 1) | ((with_reducible refine gate_callee (f := 83) rfl ?_); refine goL_ (some 5) Try.func83 #[.slice A0_0 l0_0.length c0_0] ?_; (with_reducible refine (slices_Clone_byte_byte.calls _ _ l0_0 t113 _ ?side1 ?side2 A2.out).mono ?_); (case side1 => exact cb_ HR0_0); (case side2 => exact HC0_0.out); rintro e w7002 ⟨v7000, rfl, ho7000, hb⟩; refine ⟨_, rfl, ?_⟩; have n_ := pk4 (Kd.R_lower ho7000 (below_size bl_)) (blk_below (bo_ BK7000) hb) (blk_below (bo_ BK7001) hb) (below_step bl_ hb); clear BK7000 BK7001 HB; obtain ⟨HO7000, BK7000, BK7001, HB⟩ := n_; (try clear hb ho7000); obtain ⟨Ao7000, co7000, eo7000⟩ := Kd.R_slice HO7000.out; subst eo7000; have hcz7001_0 : w7002.cell? ⟨gb7000, 0, none⟩ = some (.slice A0_0 l0_0.length c0_0) := (blk_cell BK7000.out 0).trans rfl; have hcz7001_1 : w7002.cell? ⟨gb7000, 1, none⟩ = some (.int .i64 a0_1) := (blk_cell BK7000.out 1).trans rfl; have hfz7001_0 := blk_frozen BK7000.out 0; have hfz7001_1 := blk_frozen BK7000.out 1; have hcz7002_0 : w7002.cell? ⟨gb7001, 0, none⟩ = some (.slice none 0 0) := (blk_cell BK7001.out 0).trans rfl; have hcz7002_1 : w7002.cell? ⟨gb7001, 1, none⟩ = some (.int .i64 0) := (blk_cell BK7001.out 1).trans rfl; have hfz7002_0 := blk_frozen BK7001.out 0; have hfz7002_1 := blk_frozen BK7001.out 1))
  refine bodyPost_ret (results_cell_row rfl _ _ gb7001 25 #[.slice Ao7000 t113.length co7000, .int .i64 a0_1] (0, 0) _ rfl (by (with_reducible repeat (first | refine blk_drewN ?_ _ | refine blk_drew ?_ | refine blk_alloc ?_ _)); refine blk_put (cs := #[.slice Ao7000 t113.length co7000, .int .i64 0]) ?_ 1 _ rfl; (with_reducible repeat (first | refine blk_drewN ?_ _ | refine blk_drew ?_ | refine blk_alloc ?_ _)); refine blk_put (cs := #[.slice none 0 0, .int .i64 0]) ?_ 0 _ rfl; (with_reducible repeat (first | refine blk_drewN ?_ _ | refine blk_drew ?_ | refine blk_alloc ?_ _)); refine blk_far ?_ NB7001_7000.out _; exact (bo_ BK7001)) Try.underlying25 rfl (by kernel_rfl)) rfl ?_
  exact ⟨_, rf_, (rt_ (Kd.R_mono (Kd.R_far (p := ⟨gb7001, 1, none⟩) (Kd.R_far (p := ⟨gb7001, 0, none⟩) (Kd.R_far (p := ⟨gb7000, 0, none⟩) (Kd.R_types (Kd.R_types HO7000.out BK7000.out (by decide)) BK7001.out (by decide)) (fun _ hk => hk.1.2) (.slice Ao7000 t113.length co7000)) (fun _ hk => hk.2) (.slice Ao7000 t113.length co7000)) (fun _ hk => hk.2) (.int .i64 a0_1)) (fun _ hk => trivial))), bl_⟩
def bits_put.l0 : Nat → Int → Int → List Int → Int → Option (List Int × Int)
  | 0, _, _, _, _ => none
  | k + 1, x1, x2, x117000, x117001 => if x2 > 0 then (if (Int.tmod x117001 8) = 0 then (if x117000.length < 140737488355328 then ((some (x117000 ++ [0] : List Int)).bind fun y118 => (if 0 ≤ (wrap64 (x2 - (mn x2 (wrap64 (8 - (Int.tmod x117001 8)))))) then (if 0 ≤ (wrap64 ((y118.length : Int) - 1)) then (if (wrap64 ((y118.length : Int) - 1)) < (y118.length : Int) then (if 0 ≤ (wrap64 (8 - (mn x2 (wrap64 (8 - (Int.tmod x117001 8)))))) then (if 0 ≤ (Int.tmod x117001 8) then (bits_put.l0 k x1 (wrap64 (x2 - (mn x2 (wrap64 (8 - (Int.tmod x117001 8)))))) (y118.set ((wrap64 ((y118.length : Int) - 1)) : Int).toNat (Go.bits .or .u8 (rd y118 (wrap64 ((y118.length : Int) - 1))) (shr .u8 (shl .u8 ((shr .u64 x1 (wrap64 (x2 - (mn x2 (wrap64 (8 - (Int.tmod x117001 8))))))) % 256) (wrap64 (8 - (mn x2 (wrap64 (8 - (Int.tmod x117001 8))))))) (Int.tmod x117001 8)))) (wrap64 (x117001 + (mn x2 (wrap64 (8 - (Int.tmod x117001 8))))))) else (none)) else (none)) else (none)) else (none)) else (none))) else (none)) else (if 0 ≤ (wrap64 (x2 - (mn x2 (wrap64 (8 - (Int.tmod x117001 8)))))) then (if 0 ≤ (wrap64 ((x117000.length : Int) - 1)) then (if (wrap64 ((x117000.length : Int) - 1)) < (x117000.length : Int) then (if 0 ≤ (wrap64 (8 - (mn x2 (wrap64 (8 - (Int.tmod x117001 8)))))) then (if 0 ≤ (Int.tmod x117001 8) then (bits_put.l0 k x1 (wrap64 (x2 - (mn x2 (wrap64 (8 - (Int.tmod x117001 8)))))) (x117000.set ((wrap64 ((x117000.length : Int) - 1)) : Int).toNat (Go.bits .or .u8 (rd x117000 (wrap64 ((x117000.length : Int) - 1))) (shr .u8 (shl .u8 ((shr .u64 x1 (wrap64 (x2 - (mn x2 (wrap64 (8 - (Int.tmod x117001 8))))))) % 256) (wrap64 (8 - (mn x2 (wrap64 (8 - (Int.tmod x117001 8))))))) (Int.tmod x117001 8)))) (wrap64 (x117001 + (mn x2 (wrap64 (8 - (Int.tmod x117001 8))))))) else (none)) else (none)) else (none)) else (none)) else (none))) else (some (x117000, x117001))
def bits_put.f (k : Nat) (l0_0 : List Int) (a0_1 : Int) (a1 : Int) (a2 : Int) : Option (List Int × Int) := bits_put.l0 k a1 a2 l0_0 a0_1
theorem bits_put.mono_l : ∀ k, (∀ y0 y1 y2 y3, LeO (bits_put.l0 k y0 y1 y2 y3) (bits_put.l0 (k + 1) y0 y1 y2 y3))
  | 0 => fun _ _ _ _ r h => by simp [bits_put.l0] at h
  | k + 1 => by
    have ih0 := bits_put.mono_l k
    · intro y0 y1 y2 y3
      unfold bits_put.l0
      repeat' first
      | (with_reducible exact ih0 _ _ _ _)
      | (with_reducible exact LeO.refl _)
      | (with_reducible exact LeO.none _)
      | (with_reducible refine LeO.ite ?_ ?_)
      | (with_reducible refine LeO.bind ?_ (fun _ => ?_))
      | exact ih0 _ _ _ _
      | exact LeO.none _
      | refine LeO.ite ?_ ?_
      | refine LeO.bind ?_ (fun _ => ?_)
theorem bits_put.mono : ∀ a0 a1 a2 a3 k, LeO (bits_put.f k a0 a1 a2 a3) (bits_put.f (k + 1) a0 a1 a2 a3) := by
  intro a0 a1 a2 a3 k
  have ih0 := bits_put.mono_l k
  unfold bits_put.f
  repeat' first
      | (with_reducible exact ih0 _ _ _ _)
      | (with_reducible exact LeO.refl _)
      | (with_reducible exact LeO.none _)
      | (with_reducible refine LeO.ite ?_ ?_)
      | (with_reducible refine LeO.bind ?_ (fun _ => ?_))
      | exact ih0 _ _ _ _
      | exact LeO.none _
      | refine LeO.ite ?_ ?_
      | refine LeO.bind ?_ (fun _ => ?_)
def bits_put.T7 : Bool × List (List Nat × List Nat) := (true, [([], []), ([0], [0]), ([], []), ([2], [2]), ([3], [3]), ([4], [4]), ([1, 5], [1, 5]), ([6], [6]), ([], []), ([], []), ([9], [9]), ([8, 10], [8, 10]), ([], []), ([11, 12], [11, 12]), ([7, 13], [7, 13]), ([1, 5, 0, 1, 2, 3, 4, 5, 6, 7, 8, 9, 10, 11, 12, 13, 14], [1, 5]), ([15, 14, 0, 1, 2, 3, 4, 5, 6, 7, 8, 9, 10, 11, 12, 13, 14], [14, 15])])
def bits_put.B7 : List Nat := [0, 1, 0, 4, 12, 28, 63, 127, 0, 0, 512, 1792, 0, 7936, 16383, 32767, 65535]
theorem bits_put.tab7 : rtab .any (opsOf Try.f61 7) = bits_put.T7 := by kernel_rfl
theorem bits_put.bits7 : waitsOk bits_put.T7.2 bits_put.B7 = true := by kernel_rfl
set_option maxHeartbeats 8000000 in
set_option maxRecDepth 100000 in
theorem bits_put.calls (k : Nat) (P0_0_ : Nat → Prop) (u9000_ : Value) (l0_0 : List Int) (a0_1 : Int) (a1 : Int) (a2 : Int) (r1 : List Int) (r2 : Int) (w0 w : World) (hB : Below w0.heap.size w0 w) (ho0_0 : Kd.R (Kd.int .u8) 5 w w0.heap.size P0_0_ u9000_ l0_0) (h : bits_put.f k l0_0 a0_1 a1 a2 = some (r1, r2)) :
    Calls Try.prog 61 #[.agg #[u9000_, .int .i64 a0_1], .int .u64 a1, .int .i64 a2] w fun e w' => ∃ v0_ : Value, e = .returned (.agg #[v0_, .int .i64 r2]) ∧ Kd.R (Kd.int .u8) 5 w' w0.heap.size (fun k_ => (P0_0_ k_ ∨ w.heap.size ≤ k_)) v0_ r1 ∧ Below w0.heap.size w0 w' ∧ Kept w w' (fun k_ => P0_0_ k_) := by
  have hu25 := Try.underlying25
  have HO0_0 := Aside0.mk (show Kd.R (Kd.int .u8) 5 w w0.heap.size (fun k_ => (P0_0_ k_ ∨ w.heap.size ≤ k_)) u9000_ l0_0 from Kd.R_mono ho0_0 (fun k_ hk => (.inl hk)))
  have HK := Aside0.mk (Kept.refl w (fun k_ => P0_0_ k_))
  have HW0 := Aside0.mk hB.size
  have HB := Aside0.mk hB
  clear hB
  have H : (bits_put.l0 k a1 a2 l0_0 a0_1) = some (r1, r2) := h
  clear h
  have H' := Aside0.mk H
  clear H
  obtain ⟨Ao4, co4, eo4⟩ := Kd.R_slice HO0_0.out
  subst eo4
  go_enter Try.func61, Try.ntmps61
  go_wp2_with (first | ((with_reducible refine gate_dst (N := 3) rfl ?_); refine box_ev 3 #[.slice Ao4 l0_0.length co4, .int .i64 a0_1] 25 ?_; intro gb116 hg w5 hbox hb; have n_ := pk6 (Kd.R_below (ro_ HO0_0) hb) (Kept.below (S := (fun k_ => P0_0_ k_)) (by repeat (first | (with_reducible first | exact HK.out | apply Kept.alloc | apply Kept.drewN | apply Kept.drew) | exact HK.out)) hb) (below_step bl_ hb) (hbox) ((by rw [hg]; exact (by first | exact HK.out.1 | exact (show Kept w _ (fun k_ => P0_0_ k_) from by repeat (first | (with_reducible first | exact HK.out | apply Kept.alloc | apply Kept.drewN | apply Kept.drew) | exact HK.out)).1) : w.heap.size ≤ gb116)) ((ge_ hg bl_ : w0.heap.size ≤ gb116)); clear HO0_0 HK HB; obtain ⟨HO0_0, HK, HB, BK116, GW116, GE116⟩ := n_; clear hb hbox hg) | ((with_reducible refine gate_dst (N := 6) rfl ?_); refine box_ev 6 #[.slice none 0 0, .int .i64 0] 25 ?_; intro gb117 hg w6 hbox hb; have n_ := pk9 (Kd.R_below (ro_ HO0_0) hb) (blk_below (bo_ BK116) hb) (Kept.below (S := (fun k_ => P0_0_ k_)) (by repeat (first | (with_reducible first | exact HK.out | apply Kept.alloc | apply Kept.drewN | apply Kept.drew | refine Kept.setCell ?_ (.inr GW116.out) _) | exact HK.out)) hb) (below_step bl_ hb) (hbox) ((by rw [hg]; exact (by first | exact HK.out.1 | exact (show Kept w _ (fun k_ => P0_0_ k_) from by repeat (first | (with_reducible first | exact HK.out | apply Kept.alloc | apply Kept.drewN | apply Kept.drew | refine Kept.setCell ?_ (.inr GW116.out) _) | exact HK.out)).1) : w.heap.size ≤ gb117)) ((ge_ hg bl_ : w0.heap.size ≤ gb117)) ((nb_ hg (bo_ BK116) : gb116 ≠ gb117)) ((nc_ hg (bo_ BK116) : gb117 ≠ gb116)); clear HO0_0 BK116 HK HB; obtain ⟨HO0_0, BK116, HK, HB, BK117, GW117, GE117, NB116_117, NB117_116⟩ := n_; clear hb hbox hg))
  go_frame
  go_loopg [2] k (fun kq v2 w' => ∃ (x2_1 : Int) (x117000_1 : List Int) (x117001_1 : Int) (u117000 : Value), v2 = .int .i64 x2_1 ∧ Aside0 (bits_put.l0 kq a1 x2_1 x117000_1 x117001_1 = some (r1, r2)) ∧ Aside0 (kq ≤ k) ∧ Aside0 (Kd.R (Kd.int .u8) 5 w' w0.heap.size (fun k_ => (P0_0_ k_ ∨ w.heap.size ≤ k_)) u117000 x117000_1) ∧ Aside0 (w'.heap[gb116]? = some (.cells #[u117000, .int .i64 x117001_1] 25 (0, 0))) ∧ Aside0 (w'.heap[gb117]? = some (.cells #[(.slice none 0 0), .int .i64 0] 25 (0, 0))) ∧ Aside0 (Kept w w' (fun k_ => P0_0_ k_)) ∧ Aside0 (Below w0.heap.size w0 w'))
  case atStart => exact ⟨(a2), (l0_0), (a0_1), (.slice Ao4 l0_0.length co4), sm_, H', ⟨Nat.le_refl _⟩, ⟨(ro_ HO0_0)⟩, ⟨(bo_ BK116)⟩, ⟨(bo_ BK117)⟩, ⟨by repeat (first | (with_reducible first | exact HK.out | apply Kept.alloc | apply Kept.drewN | apply Kept.drew | refine Kept.setCell ?_ (.inr GW116.out) _ | refine Kept.setCell ?_ (.inr GW117.out) _) | exact HK.out)⟩, ⟨bl_⟩⟩
  case round =>
    clear H'
    obtain ⟨x2_1, x117000_1, x117001_1, u117000, rfl, HA, HK1, HO_117000, BK116, BK117, HK, HB⟩ := hrel
    cases gk with
    | zero => exact absurd HA.out (by simp [bits_put.l0])
    | succ k1 =>
      have H := HA.out
      clear HA
      simp only [bits_put.l0] at H
      replace H := dgt H
      rcases H with ⟨c7b0, H⟩ | ⟨c7b0, H⟩
      focus
        replace H := deqn H
        rcases H with ⟨c8b0, c8b1, H⟩ | ⟨c8b0, c8b1, c8, H⟩
        focus
          by_cases c9 : x117000_1.length < 140737488355328
          rotate_left
          · rw [if_neg c9] at H
            exact absurd H (by simp)
          rw [if_pos c9] at H
          have LMc9 := Aside0.mk c9
          clear c9
          obtain ⟨y118, hy118⟩ : ∃ y_ : List Int, y_ = (x117000_1 ++ [0]) := ⟨_, rfl⟩
          replace H : (if 0 ≤ (wrap64 (x2_1 - (mn x2_1 (wrap64 (8 - (Int.tmod x117001_1 8)))))) then (if 0 ≤ (wrap64 ((y118.length : Int) - 1)) then (if (wrap64 ((y118.length : Int) - 1)) < (y118.length : Int) then (if 0 ≤ (wrap64 (8 - (mn x2_1 (wrap64 (8 - (Int.tmod x117001_1 8)))))) then (if 0 ≤ (Int.tmod x117001_1 8) then (bits_put.l0 k1 a1 (wrap64 (x2_1 - (mn x2_1 (wrap64 (8 - (Int.tmod x117001_1 8)))))) (y118.set ((wrap64 ((y118.length : Int) - 1)) : Int).toNat (Go.bits .or .u8 (rd y118 (wrap64 ((y118.length : Int) - 1))) (shr .u8 (shl .u8 ((shr .u64 a1 (wrap64 (x2_1 - (mn x2_1 (wrap64 (8 - (Int.tmod x117001_1 8))))))) % 256) (wrap64 (8 - (mn x2_1 (wrap64 (8 - (Int.tmod x117001_1 8))))))) (Int.tmod x117001_1 8)))) (wrap64 (x117001_1 + (mn x2_1 (wrap64 (8 - (Int.tmod x117001_1 8))))))) else (none)) else (none)) else (none)) else (none)) else (none)) = some (r1, r2) := by first | (rw [hy118]; with_reducible exact H) | (have H2_ := (Option.bind_some _ _).symm.trans H; rw [hy118]; with_reducible exact H2_) | (have H2_ := (Option.bind_some _ _).symm.trans H; with_reducible exact H2_) | with_reducible exact H | (rw [hy118]; exact H) | exact H
          have Ny118 := Aside0.mk hy118
          clear hy118
          obtain ⟨ji10, hji10⟩ : ∃ j_ : Int, (mn x2_1 (wrap64 (8 - (Int.tmod x117001_1 8)))) = j_ := ⟨_, rfl⟩
          replace H : (if 0 ≤ (wrap64 (x2_1 - (ji10))) then (if 0 ≤ (wrap64 ((y118.length : Int) - 1)) then (if (wrap64 ((y118.length : Int) - 1)) < (y118.length : Int) then (if 0 ≤ (wrap64 (8 - (ji10))) then (if 0 ≤ (Int.tmod x117001_1 8) then (bits_put.l0 k1 a1 (wrap64 (x2_1 - (ji10))) (y118.set ((wrap64 ((y118.length : Int) - 1)) : Int).toNat (Go.bits .or .u8 (rd y118 (wrap64 ((y118.length : Int) - 1))) (shr .u8 (shl .u8 ((shr .u64 a1 (wrap64 (x2_1 - (ji10)))) % 256) (wrap64 (8 - (ji10)))) (Int.tmod x117001_1 8)))) (wrap64 (x117001_1 + (ji10)))) else (none)) else (none)) else (none)) else (none)) else (none)) = some (r1, r2) := by first | (rw [hji10] at H; exact H) | (simp only [hji10] at H ⊢; exact H)
          have hji10_ : (if (wrap64 (8 - (Int.tmod x117001_1 8))) < x2_1 then (wrap64 (8 - (Int.tmod x117001_1 8))) else x2_1) = ji10 := hji10
          obtain ⟨ji11, hji11⟩ : ∃ j_ : Int, (wrap64 (x2_1 - (ji10))) = j_ := ⟨_, rfl⟩
          replace H : (if 0 ≤ (ji11) then (if 0 ≤ (wrap64 ((y118.length : Int) - 1)) then (if (wrap64 ((y118.length : Int) - 1)) < (y118.length : Int) then (if 0 ≤ (wrap64 (8 - (ji10))) then (if 0 ≤ (Int.tmod x117001_1 8) then (bits_put.l0 k1 a1 ji11 (y118.set ((wrap64 ((y118.length : Int) - 1)) : Int).toNat (Go.bits .or .u8 (rd y118 (wrap64 ((y118.length : Int) - 1))) (shr .u8 (shl .u8 ((shr .u64 a1 (ji11)) % 256) (wrap64 (8 - (ji10)))) (Int.tmod x117001_1 8)))) (wrap64 (x117001_1 + (ji10)))) else (none)) else (none)) else (none)) else (none)) else (none)) = some (r1, r2) := by first | (rw [hji11] at H; exact H) | (simp only [hji11] at H ⊢; exact H)
          have hji11w : (IntKind.i64.wrap (x2_1 - (ji10))) = ji11 := (i64_w _).trans hji11
          by_cases c12 : 0 ≤ (ji11)
          rotate_left
          · rw [if_neg c12] at H
            exact absurd H (by simp)
          rw [if_pos c12] at H
          have c12b0 := eq_true c12
          have c12b1 : decide (0 ≤ (ji11)) = true := decide_eq_true c12
          clear c12
          obtain ⟨ji13, hji13⟩ : ∃ j_ : Int, (shr .u64 a1 (ji11)) = j_ := ⟨_, rfl⟩
          replace H : (if 0 ≤ (wrap64 ((y118.length : Int) - 1)) then (if (wrap64 ((y118.length : Int) - 1)) < (y118.length : Int) then (if 0 ≤ (wrap64 (8 - (ji10))) then (if 0 ≤ (Int.tmod x117001_1 8) then (bits_put.l0 k1 a1 ji11 (y118.set ((wrap64 ((y118.length : Int) - 1)) : Int).toNat (Go.bits .or .u8 (rd y118 (wrap64 ((y118.length : Int) - 1))) (shr .u8 (shl .u8 ((ji13) % 256) (wrap64 (8 - (ji10)))) (Int.tmod x117001_1 8)))) (wrap64 (x117001_1 + (ji10)))) else (none)) else (none)) else (none)) else (none)) = some (r1, r2) := by first | (rw [hji13] at H; exact H) | (simp only [hji13] at H ⊢; exact H)
          have hji13_ : (a1 / 2 ^ min (ji11).toNat 64) = ji13 := hji13
          have hji13z : (ji11) ≤ 64 → (a1 / 2 ^ (ji11).toNat) = ji13 := shr_small hji13
          obtain ⟨ji14, hji14⟩ : ∃ j_ : Int, (wrap64 ((y118.length : Int) - 1)) = j_ := ⟨_, rfl⟩
          replace H : (if 0 ≤ (ji14) then (if (ji14) < (y118.length : Int) then (if 0 ≤ (wrap64 (8 - (ji10))) then (if 0 ≤ (Int.tmod x117001_1 8) then (bits_put.l0 k1 a1 ji11 (y118.set ((ji14) : Int).toNat (Go.bits .or .u8 (rd y118 (ji14)) (shr .u8 (shl .u8 ((ji13) % 256) (wrap64 (8 - (ji10)))) (Int.tmod x117001_1 8)))) (wrap64 (x117001_1 + (ji10)))) else (none)) else (none)) else (none)) else (none)) = some (r1, r2) := by first | (rw [hji14] at H; exact H) | (simp only [hji14] at H ⊢; exact H)
          have hji14w : (IntKind.i64.wrap ((y118.length : Int) - 1)) = ji14 := (i64_w _).trans hji14
          replace H := dle H
          rcases H with ⟨c15b0, H⟩ | ⟨c15b0, H⟩
          rotate_left
          · exact absurd H (by simp)
          replace H := dle H
          rcases H with ⟨c16b0, H⟩ | ⟨c16b0, H⟩
          rotate_left
          · exact absurd H (by simp)
          obtain ⟨ji17, hji17⟩ : ∃ j_ : Int, (wrap64 (8 - (ji10))) = j_ := ⟨_, rfl⟩
          replace H : (if 0 ≤ (ji17) then (if 0 ≤ (Int.tmod x117001_1 8) then (bits_put.l0 k1 a1 ji11 (y118.set ((ji14) : Int).toNat (Go.bits .or .u8 (rd y118 (ji14)) (shr .u8 (shl .u8 ((ji13) % 256) (ji17)) (Int.tmod x117001_1 8)))) (wrap64 (x117001_1 + (ji10)))) else (none)) else (none)) = some (r1, r2) := by first | (rw [hji17] at H; exact H) | (simp only [hji17] at H ⊢; exact H)
          have hji17w : (IntKind.i64.wrap (8 - (ji10))) = ji17 := (i64_w _).trans hji17
          by_cases c18 : 0 ≤ (ji17)
          rotate_left
          · rw [if_neg c18] at H
            exact absurd H (by simp)
          rw [if_pos c18] at H
          have c18b0 := eq_true c18
          have c18b1 : decide (0 ≤ (ji17)) = true := decide_eq_true c18
          clear c18
          obtain ⟨ji19, hji19⟩ : ∃ j_ : Int, (shl .u8 ((ji13) % 256) (ji17)) = j_ := ⟨_, rfl⟩
          replace H : (if 0 ≤ (Int.tmod x117001_1 8) then (bits_put.l0 k1 a1 ji11 (y118.set ((ji14) : Int).toNat (Go.bits .or .u8 (rd y118 (ji14)) (shr .u8 (ji19) (Int.tmod x117001_1 8)))) (wrap64 (x117001_1 + (ji10)))) else (none)) = some (r1, r2) := by first | (rw [hji19] at H; exact H) | (simp only [hji19] at H ⊢; exact H)
          have hji19_ : (IntKind.u8.wrap (((ji13) % 256) * 2 ^ min (ji17).toNat 8)) = ji19 := hji19
          have hji19z : (ji17) ≤ 8 → (IntKind.u8.wrap (((ji13) % 256) * 2 ^ (ji17).toNat)) = ji19 := shl_small hji19
          obtain ⟨ji20, hji20⟩ : ∃ j_ : Int, (Int.tmod x117001_1 8) = j_ := ⟨_, rfl⟩
          (try rw [hji20] at hji10_)
          replace H : (if 0 ≤ (ji20) then (bits_put.l0 k1 a1 ji11 (y118.set ((ji14) : Int).toNat (Go.bits .or .u8 (rd y118 (ji14)) (shr .u8 (ji19) (ji20)))) (wrap64 (x117001_1 + (ji10)))) else (none)) = some (r1, r2) := by first | (rw [hji20] at H; exact H) | (simp only [hji20] at H ⊢; exact H)
          (try rw [hji20] at c8b0)
          (try rw [hji20] at c8b1)
          by_cases c21 : 0 ≤ (ji20)
          rotate_left
          · rw [if_neg c21] at H
            exact absurd H (by simp)
          rw [if_pos c21] at H
          have c21b0 := eq_true c21
          have c21b1 : decide (0 ≤ (ji20)) = true := decide_eq_true c21
          clear c21
          obtain ⟨ji22, hji22⟩ : ∃ j_ : Int, (shr .u8 (ji19) (ji20)) = j_ := ⟨_, rfl⟩
          replace H : (bits_put.l0 k1 a1 ji11 (y118.set ((ji14) : Int).toNat (Go.bits .or .u8 (rd y118 (ji14)) (ji22))) (wrap64 (x117001_1 + (ji10)))) = some (r1, r2) := by first | (rw [hji22] at H; exact H) | (simp only [hji22] at H ⊢; exact H)
          have hji22_ : ((ji19) / 2 ^ min (ji20).toNat 8) = ji22 := hji22
          have hji22z : (ji20) ≤ 8 → ((ji19) / 2 ^ (ji20).toNat) = ji22 := shr_small hji22
          obtain ⟨y122, hy122⟩ : ∃ y_ : List Int, y_ = (y118.set ((ji14) : Int).toNat (Go.bits .or .u8 (rd y118 (ji14)) (ji22))) := ⟨_, rfl⟩
          replace H : (bits_put.l0 k1 a1 ji11 y122 (wrap64 (x117001_1 + (ji10)))) = some (r1, r2) := by first | (rw [hy122]; with_reducible exact H) | (have H2_ := (Option.bind_some _ _).symm.trans H; rw [hy122]; with_reducible exact H2_) | (have H2_ := (Option.bind_some _ _).symm.trans H; with_reducible exact H2_) | with_reducible exact H | (rw [hy122]; exact H) | exact H
          have Ny122 := Aside0.mk hy122
          clear hy122
          have H' := Aside0.mk H
          clear H
          have hnb24 := NB116_117.out
          have hnc24 := NB117_116.out
          obtain ⟨hcz25_0, hcz25_1, hfz25_0, hfz25_1⟩ := blk_at2 BK116.out
        rotate_left
        focus
          obtain ⟨ji34, hji34⟩ : ∃ j_ : Int, (mn x2_1 (wrap64 (8 - (Int.tmod x117001_1 8)))) = j_ := ⟨_, rfl⟩
          replace H : (if 0 ≤ (wrap64 (x2_1 - (ji34))) then (if 0 ≤ (wrap64 ((x117000_1.length : Int) - 1)) then (if (wrap64 ((x117000_1.length : Int) - 1)) < (x117000_1.length : Int) then (if 0 ≤ (wrap64 (8 - (ji34))) then (if 0 ≤ (Int.tmod x117001_1 8) then (bits_put.l0 k1 a1 (wrap64 (x2_1 - (ji34))) (x117000_1.set ((wrap64 ((x117000_1.length : Int) - 1)) : Int).toNat (Go.bits .or .u8 (rd x117000_1 (wrap64 ((x117000_1.length : Int) - 1))) (shr .u8 (shl .u8 ((shr .u64 a1 (wrap64 (x2_1 - (ji34)))) % 256) (wrap64 (8 - (ji34)))) (Int.tmod x117001_1 8)))) (wrap64 (x117001_1 + (ji34)))) else (none)) else (none)) else (none)) else (none)) else (none)) = some (r1, r2) := by first | (rw [hji34] at H; exact H) | (simp only [hji34] at H ⊢; exact H)
          have hji34_ : (if (wrap64 (8 - (Int.tmod x117001_1 8))) < x2_1 then (wrap64 (8 - (Int.tmod x117001_1 8))) else x2_1) = ji34 := hji34
          obtain ⟨ji35, hji35⟩ : ∃ j_ : Int, (wrap64 (x2_1 - (ji34))) = j_ := ⟨_, rfl⟩
          replace H : (if 0 ≤ (ji35) then (if 0 ≤ (wrap64 ((x117000_1.length : Int) - 1)) then (if (wrap64 ((x117000_1.length : Int) - 1)) < (x117000_1.length : Int) then (if 0 ≤ (wrap64 (8 - (ji34))) then (if 0 ≤ (Int.tmod x117001_1 8) then (bits_put.l0 k1 a1 ji35 (x117000_1.set ((wrap64 ((x117000_1.length : Int) - 1)) : Int).toNat (Go.bits .or .u8 (rd x117000_1 (wrap64 ((x117000_1.length : Int) - 1))) (shr .u8 (shl .u8 ((shr .u64 a1 (ji35)) % 256) (wrap64 (8 - (ji34)))) (Int.tmod x117001_1 8)))) (wrap64 (x117001_1 + (ji34)))) else (none)) else (none)) else (none)) else (none)) else (none)) = some (r1, r2) := by first | (rw [hji35] at H; exact H) | (simp only [hji35] at H ⊢; exact H)
          have hji35w : (IntKind.i64.wrap (x2_1 - (ji34))) = ji35 := (i64_w _).trans hji35
          by_cases c36 : 0 ≤ (ji35)
          rotate_left
          · rw [if_neg c36] at H
            exact absurd H (by simp)
          rw [if_pos c36] at H
          have c36b0 := eq_true c36
          have c36b1 : decide (0 ≤ (ji35)) = true := decide_eq_true c36
          clear c36
          obtain ⟨ji37, hji37⟩ : ∃ j_ : Int, (shr .u64 a1 (ji35)) = j_ := ⟨_, rfl⟩
          replace H : (if 0 ≤ (wrap64 ((x117000_1.length : Int) - 1)) then (if (wrap64 ((x117000_1.length : Int) - 1)) < (x117000_1.length : Int) then (if 0 ≤ (wrap64 (8 - (ji34))) then (if 0 ≤ (Int.tmod x117001_1 8) then (bits_put.l0 k1 a1 ji35 (x117000_1.set ((wrap64 ((x117000_1.length : Int) - 1)) : Int).toNat (Go.bits .or .u8 (rd x117000_1 (wrap64 ((x117000_1.length : Int) - 1))) (shr .u8 (shl .u8 ((ji37) % 256) (wrap64 (8 - (ji34)))) (Int.tmod x117001_1 8)))) (wrap64 (x117001_1 + (ji34)))) else (none)) else (none)) else (none)) else (none)) = some (r1, r2) := by first | (rw [hji37] at H; exact H) | (simp only [hji37] at H ⊢; exact H)
          have hji37_ : (a1 / 2 ^ min (ji35).toNat 64) = ji37 := hji37
          have hji37z : (ji35) ≤ 64 → (a1 / 2 ^ (ji35).toNat) = ji37 := shr_small hji37
          obtain ⟨ji38, hji38⟩ : ∃ j_ : Int, (wrap64 ((x117000_1.length : Int) - 1)) = j_ := ⟨_, rfl⟩
          replace H : (if 0 ≤ (ji38) then (if (ji38) < (x117000_1.length : Int) then (if 0 ≤ (wrap64 (8 - (ji34))) then (if 0 ≤ (Int.tmod x117001_1 8) then (bits_put.l0 k1 a1 ji35 (x117000_1.set ((ji38) : Int).toNat (Go.bits .or .u8 (rd x117000_1 (ji38)) (shr .u8 (shl .u8 ((ji37) % 256) (wrap64 (8 - (ji34)))) (Int.tmod x117001_1 8)))) (wrap64 (x117001_1 + (ji34)))) else (none)) else (none)) else (none)) else (none)) = some (r1, r2) := by first | (rw [hji38] at H; exact H) | (simp only [hji38] at H ⊢; exact H)
          have hji38w : (IntKind.i64.wrap ((x117000_1.length : Int) - 1)) = ji38 := (i64_w _).trans hji38
          replace H := dle H
          rcases H with ⟨c39b0, H⟩ | ⟨c39b0, H⟩
          rotate_left
          · exact absurd H (by simp)
          replace H := dle H
          rcases H with ⟨c40b0, H⟩ | ⟨c40b0, H⟩
          rotate_left
          · exact absurd H (by simp)
          obtain ⟨ji41, hji41⟩ : ∃ j_ : Int, (wrap64 (8 - (ji34))) = j_ := ⟨_, rfl⟩
          replace H : (if 0 ≤ (ji41) then (if 0 ≤ (Int.tmod x117001_1 8) then (bits_put.l0 k1 a1 ji35 (x117000_1.set ((ji38) : Int).toNat (Go.bits .or .u8 (rd x117000_1 (ji38)) (shr .u8 (shl .u8 ((ji37) % 256) (ji41)) (Int.tmod x117001_1 8)))) (wrap64 (x117001_1 + (ji34)))) else (none)) else (none)) = some (r1, r2) := by first | (rw [hji41] at H; exact H) | (simp only [hji41] at H ⊢; exact H)
          have hji41w : (IntKind.i64.wrap (8 - (ji34))) = ji41 := (i64_w _).trans hji41
          by_cases c42 : 0 ≤ (ji41)
          rotate_left
          · rw [if_neg c42] at H
            exact absurd H (by simp)
          rw [if_pos c42] at H
          have c42b0 := eq_true c42
          have c42b1 : decide (0 ≤ (ji41)) = true := decide_eq_true c42
          clear c42
          obtain ⟨ji43, hji43⟩ : ∃ j_ : Int, (shl .u8 ((ji37) % 256) (ji41)) = j_ := ⟨_, rfl⟩
          replace H : (if 0 ≤ (Int.tmod x117001_1 8) then (bits_put.l0 k1 a1 ji35 (x117000_1.set ((ji38) : Int).toNat (Go.bits .or .u8 (rd x117000_1 (ji38)) (shr .u8 (ji43) (Int.tmod x117001_1 8)))) (wrap64 (x117001_1 + (ji34)))) else (none)) = some (r1, r2) := by first | (rw [hji43] at H; exact H) | (simp only [hji43] at H ⊢; exact H)
          have hji43_ : (IntKind.u8.wrap (((ji37) % 256) * 2 ^ min (ji41).toNat 8)) = ji43 := hji43
          have hji43z : (ji41) ≤ 8 → (IntKind.u8.wrap (((ji37) % 256) * 2 ^ (ji41).toNat)) = ji43 := shl_small hji43
          obtain ⟨ji44, hji44⟩ : ∃ j_ : Int, (Int.tmod x117001_1 8) = j_ := ⟨_, rfl⟩
          (try rw [hji44] at hji34_)
          replace H : (if 0 ≤ (ji44) then (bits_put.l0 k1 a1 ji35 (x117000_1.set ((ji38) : Int).toNat (Go.bits .or .u8 (rd x117000_1 (ji38)) (shr .u8 (ji43) (ji44)))) (wrap64 (x117001_1 + (ji34)))) else (none)) = some (r1, r2) := by first | (rw [hji44] at H; exact H) | (simp only [hji44] at H ⊢; exact H)
          (try rw [hji44] at c8b0)
          (try rw [hji44] at c8b1)
          by_cases c45 : 0 ≤ (ji44)
          rotate_left
          · rw [if_neg c45] at H
            exact absurd H (by simp)
          rw [if_pos c45] at H
          have c45b0 := eq_true c45
          have c45b1 : decide (0 ≤ (ji44)) = true := decide_eq_true c45
          clear c45
          obtain ⟨ji46, hji46⟩ : ∃ j_ : Int, (shr .u8 (ji43) (ji44)) = j_ := ⟨_, rfl⟩
          replace H : (bits_put.l0 k1 a1 ji35 (x117000_1.set ((ji38) : Int).toNat (Go.bits .or .u8 (rd x117000_1 (ji38)) (ji46))) (wrap64 (x117001_1 + (ji34)))) = some (r1, r2) := by first | (rw [hji46] at H; exact H) | (simp only [hji46] at H ⊢; exact H)
          have hji46_ : ((ji43) / 2 ^ min (ji44).toNat 8) = ji46 := hji46
          have hji46z : (ji44) ≤ 8 → ((ji43) / 2 ^ (ji44).toNat) = ji46 := shr_small hji46
          obtain ⟨y124, hy124⟩ : ∃ y_ : List Int, y_ = (x117000_1.set ((ji38) : Int).toNat (Go.bits .or .u8 (rd x117000_1 (ji38)) (ji46))) := ⟨_, rfl⟩
          replace H : (bits_put.l0 k1 a1 ji35 y124 (wrap64 (x117001_1 + (ji34)))) = some (r1, r2) := by first | (rw [hy124]; with_reducible exact H) | (have H2_ := (Option.bind_some _ _).symm.trans H; rw [hy124]; with_reducible exact H2_) | (have H2_ := (Option.bind_some _ _).symm.trans H; with_reducible exact H2_) | with_reducible exact H | (rw [hy124]; exact H) | exact H
          have Ny124 := Aside0.mk hy124
          clear hy124
          have H' := Aside0.mk H
          clear H
          have hnb48 := NB116_117.out
          have hnc48 := NB117_116.out
          obtain ⟨hcz49_0, hcz49_1, hfz49_0, hfz49_1⟩ := blk_at2 BK116.out
      rotate_left 2
      focus
        simp only [Option.some.injEq, Prod.mk.injEq] at H
        obtain ⟨rfl, rfl⟩ := H
        have hnb55 := NB116_117.out
        have hnc55 := NB117_116.out
        obtain ⟨hcz56_0, hcz56_1, hfz56_0, hfz56_1⟩ := blk_at2 BK116.out
        obtain ⟨Ao57, co57, eo57⟩ := Kd.R_slice HO_117000.out
        subst eo57
        obtain ⟨hcz58_0, hcz58_1, hfz58_0, hfz58_1⟩ := blk_at2 BK117.out
      all_goals
        first
          | try go_wp2_with (first | ((with_reducible refine gate_builtin (b := .append) (xs := #[.tmp 18, .tmp 19]) rfl ?_); at_builtin; refine Kd.R_append (Kd.int .u8) (w0 := w0) w0.heap.size rfl (.tmp 18) (.tmp 19) 23 5 (.int .u8 0) 1 rfl Try.underlying23 info5 rfl (by decide) (by omega) u117000 x117000_1 0 [.int .u8 0] (fun k_ => (P0_0_ k_ ∨ w.heap.size ≤ k_)) (fun _ => False) rfl rfl ?aP (fun _ hk => hk.elim) ?aF ?aO ?aB ?aS ?aL ?_; (case aP => exact rfl); (case aB => exact bl_); (case aF => exact (fun k_ hk => (.inr (Nat.le_trans (by first | exact HK.out.1 | exact (show Kept w _ (fun k_ => P0_0_ k_) from by repeat (first | (with_reducible first | exact HK.out | apply Kept.alloc | apply Kept.drewN | apply Kept.drew | refine Kept.setCell ?_ (.inr GW116.out) _ | refine Kept.setCell ?_ (.inr GW117.out) _) | exact HK.out)).1) hk)))); (case aO => exact (ro_ HO_117000)); (case aS => exact (below_size bl_)); (case aL => have := LMc9.out; omega); intro v7000 w7000 ho hb hg hat; rw [← Ny118.out] at ho; have n_ := pk5 (blk_grown (bo_ BK116) hg (Kd.R_ne HO_117000.out BK116.out (by decide))) (blk_grown (bo_ BK117) hg (Kd.R_ne HO_117000.out BK117.out (by decide))) (hb) (Kept.of_grown (S := (fun k_ => P0_0_ k_)) hg (by repeat (first | (with_reducible first | exact HK.out | apply Kept.alloc | apply Kept.drewN | apply Kept.drew | refine Kept.setCell ?_ (.inr GW116.out) _ | refine Kept.setCell ?_ (.inr GW117.out) _) | exact HK.out)) (fun k_ e_ => (HO_117000.out.1 k_ e_))) (ho); clear BK116 BK117 HB HK HO_117000; obtain ⟨BK116, BK117, HB, HK, HO7000⟩ := n_; clear ho hb hg hat; obtain ⟨Ao7000, co7000, eo7000⟩ := Kd.R_slice HO7000.out; subst eo7000; have hcz7000_0 : w7000.cell? ⟨gb116, 0, none⟩ = some (u117000) := (blk_cell BK116.out 0).trans rfl; have hcz7000_1 : w7000.cell? ⟨gb116, 1, none⟩ = some (.int .i64 x117001_1) := (blk_cell BK116.out 1).trans rfl; have hfz7000_0 := blk_frozen BK116.out 0; have hfz7000_1 := blk_frozen BK116.out 1))
            first
              | have n7000_ : Aside0 (Kd.R (Kd.int .u8) 5 (w7000.setCell ⟨gb116, 0, none⟩ (.slice Ao7000 y118.length co7000)) w0.heap.size (fun k_ => (P0_0_ k_ ∨ w.heap.size ≤ k_)) (.slice Ao7000 y118.length co7000) y118) := ⟨(rt_ (Kd.R_mono (Kd.R_far (p := ⟨gb116, 0, none⟩) (Kd.R_types HO7000.out BK116.out (by decide)) (fun _ hk => hk.2) (.slice Ao7000 y118.length co7000)) (fun _ hk => hk.1)))⟩
                have n7001_ : Aside0 ((w7000.setCell ⟨gb116, 0, none⟩ (.slice Ao7000 y118.length co7000)).heap[gb116]? = some (.cells #[.slice Ao7000 y118.length co7000, .int .i64 x117001_1] 25 (0, 0))) := ⟨by (with_reducible repeat (first | refine blk_drewN ?_ _ | refine blk_drew ?_ | refine blk_alloc ?_ _)); refine blk_put (cs := #[u117000, .int .i64 x117001_1]) ?_ 0 _ rfl; exact (bo_ BK116)⟩
                have n7002_ : Aside0 ((w7000.setCell ⟨gb116, 0, none⟩ (.slice Ao7000 y118.length co7000)).heap[gb117]? = some (.cells #[.slice none 0 0, .int .i64 0] 25 (0, 0))) := ⟨by (with_reducible repeat (first | refine blk_drewN ?_ _ | refine blk_drew ?_ | refine blk_alloc ?_ _)); refine blk_far ?_ NB117_116.out _; exact (bo_ BK117)⟩
                have n7003_ : Aside0 (Kept w (w7000.setCell ⟨gb116, 0, none⟩ (.slice Ao7000 y118.length co7000)) (fun k_ => P0_0_ k_)) := ⟨by repeat (first | (with_reducible first | exact HK.out | apply Kept.alloc | apply Kept.drewN | apply Kept.drew | refine Kept.setCell ?_ (.inr GW116.out) _ | refine Kept.setCell ?_ (.inr GW117.out) _) | exact HK.out)⟩
                have n7004_ : Aside0 (Below w0.heap.size w0 (w7000.setCell ⟨gb116, 0, none⟩ (.slice Ao7000 y118.length co7000))) := ⟨bl_⟩
                (try clear HO7000)
                (try clear BK116)
                (try clear BK117)
                (try clear HK)
                (try clear HB)
                generalize (w7000.setCell ⟨gb116, 0, none⟩ (.slice Ao7000 y118.length co7000)) = w7001 at n7000_ n7001_ n7002_ n7003_ n7004_ ⊢
                have HO7000 := n7000_
                have BK116 := n7001_
                have BK117 := n7002_
                have HK := n7003_
                have HB := n7004_
                clear n7000_ n7001_ n7002_ n7003_ n7004_
                have n_ := pk5 (Kd.R_drew HO7000.out) (blk_drew BK116.out) (blk_drew BK117.out) (Kept.drew HK.out) (below_drew1 HB.out)
                clear HO7000 BK116 BK117 HK HB
                obtain ⟨HO7000, BK116, BK117, HK, HB⟩ := n_
                have p7000 : 0 ≤ ((ji14) : Int) := dc_
                have q7000 : (ji14) < (y118.length : Int) := dc_
                obtain ⟨ad7000, e7000, hx7000_0⟩ := Kd.at_int (Kd.R_reads' HO7000.out).2.2 (ji14) p7000 q7000
                cases e7000
                replace p7000 := eq_true p7000
                replace q7000 := eq_true q7000
                have p7001 : 0 ≤ ((ji14) : Int) := dc_
                have q7001 : ((ji14) : Int) < ((y118.length : Int) : Int) := dc_
                obtain ⟨go7000, co7001, eo7001, gb7000, gl7000, cl7000, HG7000⟩ := Kd.R_form HO7000.out (by omega)
                (first | cases eo7001 | (injection eo7001 with ea_ en_ ec_; (first | subst ea_ | (injection ea_ with ea_; subst ea_)); subst ec_; clear en_))
                have GB7000 := Aside0.mk gb7000
                have GG7000 := Aside0.mk HG7000
                clear gb7000 gl7000 HG7000
                have HMgo7000 := Aside0.mk (show (P0_0_ go7000 ∨ w.heap.size ≤ go7000) from (HO7000.out.1 _ rfl))
                (first | simp only [add_plain] at hx7000_0 | skip)
                obtain ⟨hx7001_0, hf7000_0⟩ := Kd.R_celln 0 HO7000.out ((ji14) : Int) p7001 q7001
                replace p7001 := eq_true p7001
                replace q7001 := eq_true q7001
                have HP7000 := Kd.R_putn HO7000.out ((ji14) : Int) (Go.bits .or .u8 (rd y118 (ji14)) (ji22))
                rw [← Ny122.out] at HP7000
                have HQ7000 := Aside0.mk HP7000
                clear HP7000
                refine start_ (n := 17) (S := fun w' => w'.cell? ⟨gb116, 0, none⟩ = some (.slice (some ⟨go7000, 0, none⟩) y118.length co7000) ∧ w'.cell? ⟨gb116, 1, none⟩ = some (.int .i64 x117001_1) ∧ w'.cell? ⟨go7000, ((ji14)).toNat, none⟩ = some (.int .u8 (rd y118 (ji14)))) (ds := [16]) #[false, false, false, false, false, false, false, false, false, false, false, false, false, false, false, false, false] (by kernel_rfl) rfl rfl ⟨(blk_cell BK116.out 0).trans rfl, (blk_cell BK116.out 1).trans rfl, hx7000_0⟩ (fun hHeld => ?_); refine with_tabW bits_put.tab7 bits_put.bits7 (fun HT_ HW_ => ?_)
                generalize w7001.drew = w7002 at HO7000 BK116 BK117 HK HB GG7000 HQ7000 hf7000_0 hx7000_0 hx7001_0 hHeld ⊢
                refine pure_ (i := 0) (N := some 32) (v := ?_) (a' := ?_) #[true, false, false, false, false, false, false, false, false, false, false, false, false, false, false, false, false] rfl rfl (any_of HT_.out (by kernel_rfl)) (fun _ _ _ h => h) (Or.inl ⟨by rfl, ?_⟩) ?_ ?_
                rotate_left
                · intro w'
                  go_simp
                  with_reducible rfl
                rotate_left
                · simp only [ap_, sb_, s0_, s1_, i64_w, i32_w]
                  rfl
                refine pure_ (i := 2) (N := some 34) (v := ?_) (a' := ?_) #[true, false, true, false, false, false, false, false, false, false, false, false, false, false, false, false, false] rfl rfl (any_of HT_.out (by kernel_rfl)) (fun _ _ _ h => h) (Or.inl ⟨by rfl, ?_⟩) ?_ ?_
                rotate_left
                · intro w'
                  go_simp
                  with_reducible rfl
                rotate_left
                · simp only [ap_, sb_, s0_, s1_, i64_w, i32_w]
                  rfl
                refine pure_ (i := 8) (N := some 40) (v := ?_) (a' := ?_) #[true, false, true, false, false, false, false, false, true, false, false, false, false, false, false, false, false] rfl rfl (any_of HT_.out (by kernel_rfl)) (fun _ _ _ h => h) (Or.inl ⟨by rfl, ?_⟩) ?_ ?_
                rotate_left
                · intro w'
                  go_simp
                  with_reducible rfl
                rotate_left
                · simp only [ap_, sb_, s0_, s1_, i64_w, i32_w]
                  rfl
                refine pure_ (i := 9) (N := some 41) (v := ?_) (a' := ?_) #[true, false, true, false, false, false, false, false, true, true, false, false, false, false, false, false, false] rfl rfl (any_of HT_.out (by kernel_rfl)) (fun _ _ _ h => h) (Or.inl ⟨by rfl, ?_⟩) ?_ ?_
                rotate_left
                · intro w'
                  go_simp
                  with_reducible rfl
                rotate_left
                · simp only [ap_, sb_, s0_, s1_, i64_w, i32_w]
                  rfl
                refine pure_ (i := 10) (N := some 42) (v := ?_) (a' := ?_) #[true, false, true, false, false, false, false, false, true, true, true, false, false, false, false, false, false] rfl rfl (any_of HT_.out (by kernel_rfl)) (fun _ _ _ h => h) (Or.inl ⟨by rfl, ?_⟩) ?_ ?_
                rotate_left
                · intro w'
                  go_simp
                  with_reducible rfl
                rotate_left
                · simp only [ap_, sb_, s0_, s1_, i64_w, i32_w]
                  rfl
                refine pure_ (i := 11) (N := some 43) (v := ?_) (a' := ?_) #[true, false, true, false, false, false, false, false, true, true, true, true, false, false, false, false, false] rfl rfl (any_of HT_.out (by kernel_rfl)) (fun _ _ _ h => h) (Or.inl ⟨by rfl, ?_⟩) ?_ ?_
                rotate_left
                · intro w'
                  go_simp
                  with_reducible rfl
                rotate_left
                · simp only [ap_, sb_, s0_, s1_, i64_w, i32_w]
                  rfl
                refine pure_ (i := 12) (N := some 44) (v := ?_) (a' := ?_) #[true, false, true, false, false, false, false, false, true, true, true, true, true, false, false, false, false] rfl rfl (any_of HT_.out (by kernel_rfl)) (fun _ _ _ h => h) (Or.inl ⟨by rfl, ?_⟩) ?_ ?_
                rotate_left
                · intro w'
                  go_simp
                  with_reducible rfl
                rotate_left
                · simp only [ap_, sb_, s0_, s1_, i64_w, i32_w]
                  rfl
                refine pure_ (i := 13) (N := some 45) (v := ?_) (a' := ?_) #[true, false, true, false, false, false, false, false, true, true, true, true, true, true, false, false, false] rfl rfl (any_of HT_.out (by kernel_rfl)) (fun _ _ _ h => h) (Or.inl ⟨by rfl, ?_⟩) ?_ ?_
                rotate_left
                · intro w'
                  go_simp
                  with_reducible rfl
                rotate_left
                · simp only [ap_, sb_, s0_, s1_, i64_w, i32_w]
                  rfl
                refine take_ (i := 1) (N := some 33) (v := ?_) (a' := ?_) #[true, true, true, false, false, false, false, false, true, true, true, true, true, true, false, false, false] rfl rfl (take_ofW HT_.out HW_.out (by kernel_rfl)) (fun _ _ _ h => h) (Or.inl ⟨by rfl, ?_⟩) hHeld ?_ ?_
                rotate_left
                · rintro w' ⟨s7000, s7001, s7002⟩
                  go_simp
                  with_reducible rfl
                rotate_left
                · simp only [ap_, sb_, s0_, s1_, i64_w, i32_w]
                  rfl
                refine take_ (i := 3) (N := some 35) (v := ?_) (a' := ?_) #[true, true, true, true, false, false, false, false, true, true, true, true, true, true, false, false, false] rfl rfl (take_ofW HT_.out HW_.out (by kernel_rfl)) (fun _ _ _ h => h) (Or.inl ⟨by rfl, ?_⟩) hHeld ?_ ?_
                rotate_left
                · rintro w' ⟨s7000, s7001, s7002⟩
                  go_simp
                  with_reducible rfl
                rotate_left
                · simp only [ap_, sb_, s0_, s1_, i64_w, i32_w]
                  rfl
                refine pure_ (i := 4) (N := some 36) (v := ?_) (a' := ?_) #[true, true, true, true, true, false, false, false, true, true, true, true, true, true, false, false, false] rfl rfl (any_of HT_.out (by kernel_rfl)) (fun _ _ _ h => h) (Or.inl ⟨by rfl, ?_⟩) ?_ ?_
                rotate_left
                · intro w'
                  go_simp
                  with_reducible rfl
                rotate_left
                · simp only [ap_, sb_, s0_, s1_, i64_w, i32_w]
                  rfl
                refine pure_ (i := 5) (N := some 37) (v := ?_) (a' := ?_) #[true, true, true, true, true, true, false, false, true, true, true, true, true, true, false, false, false] rfl rfl (any_of HT_.out (by kernel_rfl)) (fun _ _ _ h => h) (Or.inl ⟨by rfl, ?_⟩) ?_ ?_
                rotate_left
                · intro w'
                  go_simp
                  with_reducible rfl
                rotate_left
                · simp only [ap_, sb_, s0_, s1_, i64_w, i32_w]
                  rfl
                refine pure_ (i := 6) (N := some 38) (v := ?_) (a' := ?_) #[true, true, true, true, true, true, true, false, true, true, true, true, true, true, false, false, false] rfl rfl (any_of HT_.out (by kernel_rfl)) (fun _ _ _ h => h) (Or.inl ⟨by rfl, ?_⟩) ?_ ?_
                rotate_left
                · intro w'
                  go_simp
                  with_reducible rfl
                rotate_left
                · simp only [ap_, sb_, s0_, s1_, i64_w, i32_w]
                  rfl
                refine take_ (i := 7) (N := some 39) (v := ?_) (a' := ?_) #[true, true, true, true, true, true, true, true, true, true, true, true, true, true, false, false, false] rfl rfl (take_ofW HT_.out HW_.out (by kernel_rfl)) (fun _ _ _ h => h) (Or.inl ⟨by rfl, ?_⟩) hHeld ?_ ?_
                rotate_left
                · rintro w' ⟨s7000, s7001, s7002⟩
                  go_simp
                  with_reducible rfl
                rotate_left
                · simp only [ap_, sb_, s0_, s1_, i64_w, i32_w]
                  rfl
                refine pure_ (i := 14) (N := some 46) (v := ?_) (a' := ?_) #[true, true, true, true, true, true, true, true, true, true, true, true, true, true, true, false, false] rfl rfl (any_of HT_.out (by kernel_rfl)) (fun _ _ _ h => h) (Or.inl ⟨by rfl, ?_⟩) ?_ ?_
                rotate_left
                · intro w'
                  go_simp
                  with_reducible rfl
                rotate_left
                · simp only [ap_, sb_, s0_, s1_, i64_w, i32_w]
                  rfl
                refine pure_ (i := 15) (N := some 47) (v := ?_) (a' := ?_) #[true, true, true, true, true, true, true, true, true, true, true, true, true, true, true, true, false] rfl rfl (any_of HT_.out (by kernel_rfl)) (fun _ _ _ h => h) (Or.inl ⟨by rfl, ?_⟩) ?_ ?_
                rotate_left
                · intro w'
                  go_simp
                  with_reducible rfl
                rotate_left
                · simp only [ap_, sb_, s0_, s1_, i64_w, i32_w]
                  rfl
                refine last_ (i := 16) (N := none) #[true, true, true, true, true, true, true, true, true, true, true, true, true, true, true, true, true] rfl rfl (one_of HT_.out (by kernel_rfl)) (by decide) (fun K hK => ?_)
                refine skip_ (w1 := ?_) (by rfl) rfl ?_ ?_
                rotate_left
                · go_simp
                  rfl
                refine hK.out _ _ ?_
                clear hK K
                refine done_ (done_of HT_.out (by kernel_rfl)) ?_
                (try rw [hji19z (by rw [← hji17]; exact Int.le_of_lt (Int.tmod_lt_of_pos _ (by decide)))])
                (try rw [hji22z (by rw [← hji20]; exact Int.le_of_lt (Int.tmod_lt_of_pos _ (by decide)))])
                have n7000_ : Aside0 (Kd.R (Kd.int .u8) 5 (w7002.setCell ⟨go7000, ((ji14) : Int).toNat, none⟩ (.int .u8 (Go.bits .or .u8 (rd y118 (ji14)) (ji22)))) w0.heap.size (fun k_ => (P0_0_ k_ ∨ w.heap.size ≤ k_)) (.slice (some ⟨go7000, 0, none⟩) y118.length co7000) y122) := ⟨(rt_ HQ7000.out)⟩
                have n7001_ : Aside0 ((w7002.setCell ⟨go7000, ((ji14) : Int).toNat, none⟩ (.int .u8 (Go.bits .or .u8 (rd y118 (ji14)) (ji22)))).heap[gb116]? = some (.cells #[.slice (some ⟨go7000, 0, none⟩) y118.length co7000, .int .i64 x117001_1] 25 (0, 0))) := ⟨by (with_reducible repeat (first | refine blk_drewN ?_ _ | refine blk_drew ?_ | refine blk_alloc ?_ _)); refine blk_far ?_ (by have h_ := Kd.R_ne HO7000.out BK116.out (by decide); intro e_; exact h_ (by rw [e_]; rfl)) _; exact (bo_ BK116)⟩
                have n7002_ : Aside0 ((w7002.setCell ⟨go7000, ((ji14) : Int).toNat, none⟩ (.int .u8 (Go.bits .or .u8 (rd y118 (ji14)) (ji22)))).heap[gb117]? = some (.cells #[.slice none 0 0, .int .i64 0] 25 (0, 0))) := ⟨by (with_reducible repeat (first | refine blk_drewN ?_ _ | refine blk_drew ?_ | refine blk_alloc ?_ _)); refine blk_far ?_ (by have h_ := Kd.R_ne HO7000.out BK117.out (by decide); intro e_; exact h_ (by rw [e_]; rfl)) _; exact (bo_ BK117)⟩
                have n7003_ : Aside0 (Kept w (w7002.setCell ⟨go7000, ((ji14) : Int).toNat, none⟩ (.int .u8 (Go.bits .or .u8 (rd y118 (ji14)) (ji22)))) (fun k_ => P0_0_ k_)) := ⟨by repeat (first | (with_reducible first | exact HK.out | apply Kept.alloc | apply Kept.drewN | apply Kept.drew | refine Kept.setCell ?_ HMgo7000.out _ | refine Kept.setCell ?_ (.inr GW116.out) _ | refine Kept.setCell ?_ (.inr GW117.out) _) | exact HK.out)⟩
                have n7004_ : Aside0 (Below w0.heap.size w0 (w7002.setCell ⟨go7000, ((ji14) : Int).toNat, none⟩ (.int .u8 (Go.bits .or .u8 (rd y118 (ji14)) (ji22))))) := ⟨by repeat (first | (with_reducible first | exact HB.out | apply below_alloc | apply pw_below_drewN | apply below_drew1 | refine below_set ?_ GB7000.out | refine below_set ?_ GE116.out | refine below_set ?_ GE117.out) | exact HB.out)⟩
                (try clear HO7000)
                (try clear BK116)
                (try clear BK117)
                (try clear HK)
                (try clear HB)
                generalize (w7002.setCell ⟨go7000, ((ji14) : Int).toNat, none⟩ (.int .u8 (Go.bits .or .u8 (rd y118 (ji14)) (ji22)))) = w7003 at n7000_ n7001_ n7002_ n7003_ n7004_ ⊢
                have HO7000 := n7000_
                have BK116 := n7001_
                have BK117 := n7002_
                have HK := n7003_
                have HB := n7004_
                clear n7000_ n7001_ n7002_ n7003_ n7004_
                obtain ⟨hcz7001_0, hcz7001_1, hfz7001_0, hfz7001_1⟩ := blk_at2 BK116.out
                try go_wp2
                go_roundg k1
                case measure => have := HK1.out; omega
                case rel => exact ⟨(ji11), (y122), (wrap64 (x117001_1 + (ji10))), (.slice (some ⟨go7000, 0, none⟩) y118.length co7000), (by first | rfl | (simp; done) | (simp only [← hji11] <;> (first | rfl | simp)) | (simp [*]; done)), H', ⟨by have := HK1.out; omega⟩, ⟨(rt_ (Kd.R_mono (Kd.R_far (p := ⟨gb116, 1, none⟩) (Kd.R_types HO7000.out BK116.out (by decide)) (fun _ hk => hk.2) (.int .i64 (wrap64 (x117001_1 + (ji10))))) (fun _ hk => hk.1)))⟩, ⟨by (with_reducible repeat (first | refine blk_drewN ?_ _ | refine blk_drew ?_ | refine blk_alloc ?_ _)); refine blk_put (cs := #[.slice (some ⟨go7000, 0, none⟩) y118.length co7000, .int .i64 x117001_1]) ?_ 1 _ rfl; exact (bo_ BK116)⟩, ⟨by (with_reducible repeat (first | refine blk_drewN ?_ _ | refine blk_drew ?_ | refine blk_alloc ?_ _)); refine blk_far ?_ NB117_116.out _; exact (bo_ BK117)⟩, ⟨by repeat (first | (with_reducible first | exact HK.out | apply Kept.alloc | apply Kept.drewN | apply Kept.drew | refine Kept.setCell ?_ (.inr GW116.out) _ | refine Kept.setCell ?_ (.inr GW117.out) _) | exact HK.out)⟩, ⟨bl_⟩⟩
              | have n_ := pk5 (Kd.R_drew HO_117000.out) (blk_drew BK116.out) (blk_drew BK117.out) (Kept.drew HK.out) (below_drew1 HB.out)
                clear HO_117000 BK116 BK117 HK HB
                obtain ⟨HO_117000, BK116, BK117, HK, HB⟩ := n_
                obtain ⟨Ao7000, co7000, eo7000⟩ := Kd.R_slice HO_117000.out
                (first | subst eo7000 | (injection eo7000 with f1_ f2_ f3_; have f7000_ := f1_.symm; have f7001_ := f3_.symm; clear f1_ f2_ f3_; subst f7000_; subst f7001_))
                have p7000 : 0 ≤ ((ji38) : Int) := dc_
                have q7000 : (ji38) < (x117000_1.length : Int) := dc_
                obtain ⟨ad7000, e7000, hx7000_0⟩ := Kd.at_int (Kd.R_reads' HO_117000.out).2.2 (ji38) p7000 q7000
                cases e7000
                replace p7000 := eq_true p7000
                replace q7000 := eq_true q7000
                have p7001 : 0 ≤ ((ji38) : Int) := dc_
                have q7001 : ((ji38) : Int) < ((x117000_1.length : Int) : Int) := dc_
                obtain ⟨go7000, co7001, eo7001, gb7000, gl7000, cl7000, HG7000⟩ := Kd.R_form HO_117000.out (by omega)
                (first | cases eo7001 | (injection eo7001 with ea_ en_ ec_; (first | subst ea_ | (injection ea_ with ea_; subst ea_)); subst ec_; clear en_))
                have GB7000 := Aside0.mk gb7000
                have GG7000 := Aside0.mk HG7000
                clear gb7000 gl7000 HG7000
                have HMgo7000 := Aside0.mk (show (P0_0_ go7000 ∨ w.heap.size ≤ go7000) from (HO_117000.out.1 _ rfl))
                (first | simp only [add_plain] at hx7000_0 | skip)
                obtain ⟨hx7001_0, hf7000_0⟩ := Kd.R_celln 0 HO_117000.out ((ji38) : Int) p7001 q7001
                replace p7001 := eq_true p7001
                replace q7001 := eq_true q7001
                have HP7000 := Kd.R_putn HO_117000.out ((ji38) : Int) (Go.bits .or .u8 (rd x117000_1 (ji38)) (ji46))
                rw [← Ny124.out] at HP7000
                have HQ7000 := Aside0.mk HP7000
                clear HP7000
                refine start_ (n := 17) (S := fun w' => w'.cell? ⟨gb116, 0, none⟩ = some (.slice (some ⟨go7000, 0, none⟩) x117000_1.length co7000) ∧ w'.cell? ⟨gb116, 1, none⟩ = some (.int .i64 x117001_1) ∧ w'.cell? ⟨go7000, ((ji38)).toNat, none⟩ = some (.int .u8 (rd x117000_1 (ji38)))) (ds := [16]) #[false, false, false, false, false, false, false, false, false, false, false, false, false, false, false, false, false] (by kernel_rfl) rfl rfl ⟨(blk_cell BK116.out 0).trans rfl, (blk_cell BK116.out 1).trans rfl, hx7000_0⟩ (fun hHeld => ?_); refine with_tabW bits_put.tab7 bits_put.bits7 (fun HT_ HW_ => ?_)
                generalize wr.drew = w7000 at HO_117000 BK116 BK117 HK HB GG7000 HQ7000 hf7000_0 hx7000_0 hx7001_0 hHeld ⊢
                refine pure_ (i := 0) (N := some 32) (v := ?_) (a' := ?_) #[true, false, false, false, false, false, false, false, false, false, false, false, false, false, false, false, false] rfl rfl (any_of HT_.out (by kernel_rfl)) (fun _ _ _ h => h) (Or.inl ⟨by rfl, ?_⟩) ?_ ?_
                rotate_left
                · intro w'
                  go_simp
                  with_reducible rfl
                rotate_left
                · simp only [ap_, sb_, s0_, s1_, i64_w, i32_w]
                  rfl
                refine pure_ (i := 2) (N := some 34) (v := ?_) (a' := ?_) #[true, false, true, false, false, false, false, false, false, false, false, false, false, false, false, false, false] rfl rfl (any_of HT_.out (by kernel_rfl)) (fun _ _ _ h => h) (Or.inl ⟨by rfl, ?_⟩) ?_ ?_
                rotate_left
                · intro w'
                  go_simp
                  with_reducible rfl
                rotate_left
                · simp only [ap_, sb_, s0_, s1_, i64_w, i32_w]
                  rfl
                refine pure_ (i := 8) (N := some 40) (v := ?_) (a' := ?_) #[true, false, true, false, false, false, false, false, true, false, false, false, false, false, false, false, false] rfl rfl (any_of HT_.out (by kernel_rfl)) (fun _ _ _ h => h) (Or.inl ⟨by rfl, ?_⟩) ?_ ?_
                rotate_left
                · intro w'
                  go_simp
                  with_reducible rfl
                rotate_left
                · simp only [ap_, sb_, s0_, s1_, i64_w, i32_w]
                  rfl
                refine pure_ (i := 9) (N := some 41) (v := ?_) (a' := ?_) #[true, false, true, false, false, false, false, false, true, true, false, false, false, false, false, false, false] rfl rfl (any_of HT_.out (by kernel_rfl)) (fun _ _ _ h => h) (Or.inl ⟨by rfl, ?_⟩) ?_ ?_
                rotate_left
                · intro w'
                  go_simp
                  with_reducible rfl
                rotate_left
                · simp only [ap_, sb_, s0_, s1_, i64_w, i32_w]
                  rfl
                refine pure_ (i := 10) (N := some 42) (v := ?_) (a' := ?_) #[true, false, true, false, false, false, false, false, true, true, true, false, false, false, false, false, false] rfl rfl (any_of HT_.out (by kernel_rfl)) (fun _ _ _ h => h) (Or.inl ⟨by rfl, ?_⟩) ?_ ?_
                rotate_left
                · intro w'
                  go_simp
                  with_reducible rfl
                rotate_left
                · simp only [ap_, sb_, s0_, s1_, i64_w, i32_w]
                  rfl
                refine pure_ (i := 11) (N := some 43) (v := ?_) (a' := ?_) #[true, false, true, false, false, false, false, false, true, true, true, true, false, false, false, false, false] rfl rfl (any_of HT_.out (by kernel_rfl)) (fun _ _ _ h => h) (Or.inl ⟨by rfl, ?_⟩) ?_ ?_
                rotate_left
                · intro w'
                  go_simp
                  with_reducible rfl
                rotate_left
                · simp only [ap_, sb_, s0_, s1_, i64_w, i32_w]
                  rfl
                refine pure_ (i := 12) (N := some 44) (v := ?_) (a' := ?_) #[true, false, true, false, false, false, false, false, true, true, true, true, true, false, false, false, false] rfl rfl (any_of HT_.out (by kernel_rfl)) (fun _ _ _ h => h) (Or.inl ⟨by rfl, ?_⟩) ?_ ?_
                rotate_left
                · intro w'
                  go_simp
                  with_reducible rfl
                rotate_left
                · simp only [ap_, sb_, s0_, s1_, i64_w, i32_w]
                  rfl
                refine pure_ (i := 13) (N := some 45) (v := ?_) (a' := ?_) #[true, false, true, false, false, false, false, false, true, true, true, true, true, true, false, false, false] rfl rfl (any_of HT_.out (by kernel_rfl)) (fun _ _ _ h => h) (Or.inl ⟨by rfl, ?_⟩) ?_ ?_
                rotate_left
                · intro w'
                  go_simp
                  with_reducible rfl
                rotate_left
                · simp only [ap_, sb_, s0_, s1_, i64_w, i32_w]
                  rfl
                refine take_ (i := 1) (N := some 33) (v := ?_) (a' := ?_) #[true, true, true, false, false, false, false, false, true, true, true, true, true, true, false, false, false] rfl rfl (take_ofW HT_.out HW_.out (by kernel_rfl)) (fun _ _ _ h => h) (Or.inl ⟨by rfl, ?_⟩) hHeld ?_ ?_
                rotate_left
                · rintro w' ⟨s7000, s7001, s7002⟩
                  go_simp
                  with_reducible rfl
                rotate_left
                · simp only [ap_, sb_, s0_, s1_, i64_w, i32_w]
                  rfl
                refine take_ (i := 3) (N := some 35) (v := ?_) (a' := ?_) #[true, true, true, true, false, false, false, false, true, true, true, true, true, true, false, false, false] rfl rfl (take_ofW HT_.out HW_.out (by kernel_rfl)) (fun _ _ _ h => h) (Or.inl ⟨by rfl, ?_⟩) hHeld ?_ ?_
                rotate_left
                · rintro w' ⟨s7000, s7001, s7002⟩
                  go_simp
                  with_reducible rfl
                rotate_left
                · simp only [ap_, sb_, s0_, s1_, i64_w, i32_w]
                  rfl
                refine pure_ (i := 4) (N := some 36) (v := ?_) (a' := ?_) #[true, true, true, true, true, false, false, false, true, true, true, true, true, true, false, false, false] rfl rfl (any_of HT_.out (by kernel_rfl)) (fun _ _ _ h => h) (Or.inl ⟨by rfl, ?_⟩) ?_ ?_
                rotate_left
                · intro w'
                  go_simp
                  with_reducible rfl
                rotate_left
                · simp only [ap_, sb_, s0_, s1_, i64_w, i32_w]
                  rfl
                refine pure_ (i := 5) (N := some 37) (v := ?_) (a' := ?_) #[true, true, true, true, true, true, false, false, true, true, true, true, true, true, false, false, false] rfl rfl (any_of HT_.out (by kernel_rfl)) (fun _ _ _ h => h) (Or.inl ⟨by rfl, ?_⟩) ?_ ?_
                rotate_left
                · intro w'
                  go_simp
                  with_reducible rfl
                rotate_left
                · simp only [ap_, sb_, s0_, s1_, i64_w, i32_w]
                  rfl
                refine pure_ (i := 6) (N := some 38) (v := ?_) (a' := ?_) #[true, true, true, true, true, true, true, false, true, true, true, true, true, true, false, false, false] rfl rfl (any_of HT_.out (by kernel_rfl)) (fun _ _ _ h => h) (Or.inl ⟨by rfl, ?_⟩) ?_ ?_
                rotate_left
                · intro w'
                  go_simp
                  with_reducible rfl
                rotate_left
                · simp only [ap_, sb_, s0_, s1_, i64_w, i32_w]
                  rfl
                refine take_ (i := 7) (N := some 39) (v := ?_) (a' := ?_) #[true, true, true, true, true, true, true, true, true, true, true, true, true, true, false, false, false] rfl rfl (take_ofW HT_.out HW_.out (by kernel_rfl)) (fun _ _ _ h => h) (Or.inl ⟨by rfl, ?_⟩) hHeld ?_ ?_
                rotate_left
                · rintro w' ⟨s7000, s7001, s7002⟩
                  go_simp
                  with_reducible rfl
                rotate_left
                · simp only [ap_, sb_, s0_, s1_, i64_w, i32_w]
                  rfl
                refine pure_ (i := 14) (N := some 46) (v := ?_) (a' := ?_) #[true, true, true, true, true, true, true, true, true, true, true, true, true, true, true, false, false] rfl rfl (any_of HT_.out (by kernel_rfl)) (fun _ _ _ h => h) (Or.inl ⟨by rfl, ?_⟩) ?_ ?_
                rotate_left
                · intro w'
                  go_simp
                  with_reducible rfl
                rotate_left
                · simp only [ap_, sb_, s0_, s1_, i64_w, i32_w]
                  rfl
                refine pure_ (i := 15) (N := some 47) (v := ?_) (a' := ?_) #[true, true, true, true, true, true, true, true, true, true, true, true, true, true, true, true, false] rfl rfl (any_of HT_.out (by kernel_rfl)) (fun _ _ _ h => h) (Or.inl ⟨by rfl, ?_⟩) ?_ ?_
                rotate_left
                · intro w'
                  go_simp
                  with_reducible rfl
                rotate_left
                · simp only [ap_, sb_, s0_, s1_, i64_w, i32_w]
                  rfl
                refine last_ (i := 16) (N := none) #[true, true, true, true, true, true, true, true, true, true, true, true, true, true, true, true, true] rfl rfl (one_of HT_.out (by kernel_rfl)) (by decide) (fun K hK => ?_)
                refine skip_ (w1 := ?_) (by rfl) rfl ?_ ?_
                rotate_left
                · go_simp
                  rfl
                refine hK.out _ _ ?_
                clear hK K
                refine done_ (done_of HT_.out (by kernel_rfl)) ?_
                (try rw [hji43z (by rw [← hji41]; exact Int.le_of_lt (Int.tmod_lt_of_pos _ (by decide)))])
                (try rw [hji46z (by rw [← hji44]; exact Int.le_of_lt (Int.tmod_lt_of_pos _ (by decide)))])
                have n7000_ : Aside0 (Kd.R (Kd.int .u8) 5 (w7000.setCell ⟨go7000, ((ji38) : Int).toNat, none⟩ (.int .u8 (Go.bits .or .u8 (rd x117000_1 (ji38)) (ji46)))) w0.heap.size (fun k_ => (P0_0_ k_ ∨ w.heap.size ≤ k_)) (.slice (some ⟨go7000, 0, none⟩) x117000_1.length co7000) y124) := ⟨(rt_ HQ7000.out)⟩
                have n7001_ : Aside0 ((w7000.setCell ⟨go7000, ((ji38) : Int).toNat, none⟩ (.int .u8 (Go.bits .or .u8 (rd x117000_1 (ji38)) (ji46)))).heap[gb116]? = some (.cells #[.slice (some ⟨go7000, 0, none⟩) x117000_1.length co7000, .int .i64 x117001_1] 25 (0, 0))) := ⟨by (with_reducible repeat (first | refine blk_drewN ?_ _ | refine blk_drew ?_ | refine blk_alloc ?_ _)); refine blk_far ?_ (by have h_ := Kd.R_ne HO_117000.out BK116.out (by decide); intro e_; exact h_ (by rw [e_]; rfl)) _; exact (bo_ BK116)⟩
                have n7002_ : Aside0 ((w7000.setCell ⟨go7000, ((ji38) : Int).toNat, none⟩ (.int .u8 (Go.bits .or .u8 (rd x117000_1 (ji38)) (ji46)))).heap[gb117]? = some (.cells #[.slice none 0 0, .int .i64 0] 25 (0, 0))) := ⟨by (with_reducible repeat (first | refine blk_drewN ?_ _ | refine blk_drew ?_ | refine blk_alloc ?_ _)); refine blk_far ?_ (by have h_ := Kd.R_ne HO_117000.out BK117.out (by decide); intro e_; exact h_ (by rw [e_]; rfl)) _; exact (bo_ BK117)⟩
                have n7003_ : Aside0 (Kept w (w7000.setCell ⟨go7000, ((ji38) : Int).toNat, none⟩ (.int .u8 (Go.bits .or .u8 (rd x117000_1 (ji38)) (ji46)))) (fun k_ => P0_0_ k_)) := ⟨by repeat (first | (with_reducible first | exact HK.out | apply Kept.alloc | apply Kept.drewN | apply Kept.drew | refine Kept.setCell ?_ HMgo7000.out _ | refine Kept.setCell ?_ (.inr GW116.out) _ | refine Kept.setCell ?_ (.inr GW117.out) _) | exact HK.out)⟩
                have n7004_ : Aside0 (Below w0.heap.size w0 (w7000.setCell ⟨go7000, ((ji38) : Int).toNat, none⟩ (.int .u8 (Go.bits .or .u8 (rd x117000_1 (ji38)) (ji46))))) := ⟨by repeat (first | (with_reducible first | exact HB.out | apply below_alloc | apply pw_below_drewN | apply below_drew1 | refine below_set ?_ GB7000.out | refine below_set ?_ GE116.out | refine below_set ?_ GE117.out) | exact HB.out)⟩
                (try clear HO_117000)
                (try clear BK116)
                (try clear BK117)
                (try clear HK)
                (try clear HB)
                generalize (w7000.setCell ⟨go7000, ((ji38) : Int).toNat, none⟩ (.int .u8 (Go.bits .or .u8 (rd x117000_1 (ji38)) (ji46)))) = w7001 at n7000_ n7001_ n7002_ n7003_ n7004_ ⊢
                have HO_117000 := n7000_
                have BK116 := n7001_
                have BK117 := n7002_
                have HK := n7003_
                have HB := n7004_
                clear n7000_ n7001_ n7002_ n7003_ n7004_
                obtain ⟨hcz7000_0, hcz7000_1, hfz7000_0, hfz7000_1⟩ := blk_at2 BK116.out
                try go_wp2
                go_roundg k1
                case measure => have := HK1.out; omega
                case rel => exact ⟨(ji35), (y124), (wrap64 (x117001_1 + (ji34))), (.slice (some ⟨go7000, 0, none⟩) x117000_1.length co7000), (by first | rfl | (simp; done) | (simp only [← hji35] <;> (first | rfl | simp)) | (simp [*]; done)), H', ⟨by have := HK1.out; omega⟩, ⟨(rt_ (Kd.R_mono (Kd.R_far (p := ⟨gb116, 1, none⟩) (Kd.R_types HO_117000.out BK116.out (by decide)) (fun _ hk => hk.2) (.int .i64 (wrap64 (x117001_1 + (ji34))))) (fun _ hk => hk.1)))⟩, ⟨by (with_reducible repeat (first | refine blk_drewN ?_ _ | refine blk_drew ?_ | refine blk_alloc ?_ _)); refine blk_put (cs := #[.slice (some ⟨go7000, 0, none⟩) x117000_1.length co7000, .int .i64 x117001_1]) ?_ 1 _ rfl; exact (bo_ BK116)⟩, ⟨by (with_reducible repeat (first | refine blk_drewN ?_ _ | refine blk_drew ?_ | refine blk_alloc ?_ _)); refine blk_far ?_ NB117_116.out _; exact (bo_ BK117)⟩, ⟨by repeat (first | (with_reducible first | exact HK.out | apply Kept.alloc | apply Kept.drewN | apply Kept.drew | refine Kept.setCell ?_ (.inr GW116.out) _ | refine Kept.setCell ?_ (.inr GW117.out) _) | exact HK.out)⟩, ⟨bl_⟩⟩
          | go_wp2
            refine bodyPost_ret (results_cell_row rfl _ _ gb117 25 #[.slice Ao57 x117000_1.length co57, .int .i64 x117001_1] (0, 0) _ rfl (by (with_reducible repeat (first | refine blk_drewN ?_ _ | refine blk_drew ?_ | refine blk_alloc ?_ _)); refine blk_put (cs := #[.slice Ao57 x117000_1.length co57, .int .i64 0]) ?_ 1 _ rfl; (with_reducible repeat (first | refine blk_drewN ?_ _ | refine blk_drew ?_ | refine blk_alloc ?_ _)); refine blk_put (cs := #[.slice none 0 0, .int .i64 0]) ?_ 0 _ rfl; exact (bo_ BK117)) Try.underlying25 rfl (by kernel_rfl)) rfl ?_
            exact ⟨_, rf_, (rt_ (Kd.R_mono (Kd.R_far (p := ⟨gb117, 1, none⟩) (Kd.R_far (p := ⟨gb117, 0, none⟩) (Kd.R_types HO_117000.out BK117.out (by decide)) (fun _ hk => hk.2) (.slice Ao57 x117000_1.length co57)) (fun _ hk => hk.2) (.int .i64 x117001_1)) (fun _ hk => hk.1))), bl_, by repeat (first | (with_reducible first | exact HK.out | apply Kept.alloc | apply Kept.drewN | apply Kept.drew | refine Kept.setCell ?_ (.inr GW116.out) _ | refine Kept.setCell ?_ (.inr GW117.out) _) | exact HK.out)⟩
end Go.Proofs.Ytmddmbagehjdeaa.G
end
section
namespace Go.Proofs.Ytmddmbagehjdeaa.G
open Go.RowKit Go.Proofs.YtmddmbagehjdeaaX Go.Proofs.YtmddmbagehjdeaaW.PrintWords Go.Proofs.YtmddmbagehjdeaaW.PrintLast Go.Proofs.YtmddmbagehjdeaaW.PrintMore
attribute [local go_sem] max2_int min2_int max_two min_two max_three min_three max_four min_four
def HeldB (W : World) (A : Option Addr) (c : Nat) (f : List Int) : Prop := f.length ≤ c ∧ ∀ W' : World, (∀ (k : Nat) (cs : Array Value) (fr : Nat × Nat), W.heap[k]? = some (Obj.cells cs 5 fr) → W'.heap[k]? = W.heap[k]?) → Kd.C (Kd.int .u8) W' A f.length f
theorem HeldB.step {W W1 : World} {A : Option Addr} {c : Nat} {f : List Int} (h : HeldB W A c f) (hk : ∀ (k : Nat) (cs : Array Value) (fr : Nat × Nat), W.heap[k]? = some (Obj.cells cs 5 fr) → W1.heap[k]? = W.heap[k]?) : HeldB W1 A c f := ⟨h.1, fun W' hW => h.2 W' (fun k cs fr hc => (hW k cs fr ((hk k cs fr hc).trans hc)).trans (hk k cs fr hc))⟩
theorem HeldB.now {W : World} {A : Option Addr} {c : Nat} {f : List Int} (h : HeldB W A c f) : Kd.C (Kd.int .u8) W A f.length f := h.2 W (fun _ _ _ _ => rfl)
theorem HeldB.of_R {W : World} {base : Nat} {ok : Nat → Prop} {A : Option Addr} {n c : Nat} {f : List Int} (h : Kd.R (Kd.int .u8) 5 W base ok (.slice A n c) f) : HeldB W A c f := ⟨by have h1 := Kd.R_reads' h; omega, fun W' hW => (Kd.R_reads' (Kd.R_move (Kd.R_bound h) (fun k hk => by
  obtain ⟨_, _, _, q, hq, cells, hc⟩ := hk
  have hq' : q = 5 := by rw [show (Kd.int .u8).E = [] from rfl] at hq; simpa using hq
  subst hq'
  exact hW k cells (0, 0) hc))).2.2⟩
theorem HeldB.nil (W : World) : HeldB W none 0 [] := ⟨Nat.le_refl _, fun W' _ => Kd.C_nil _ _⟩
def AwayB (W : World) (g : Nat) (row : Option Nat) : Prop := some g ≠ row ∧ ∀ (r : Nat), row = some r → ∀ (cs : Array Value) (fr : Nat × Nat), W.heap[r]? ≠ some (Obj.cells cs 5 fr)
theorem HeldB.grown {W W1 : World} {g : Nat} {row : Option Nat} {A : Option Addr} {c : Nat} {f : List Int} (h : HeldB W A c f) (hw : W.grownBy W1 row) (hne : AwayB W g row) : HeldB W1 A c f := h.step (fun k cs fr hc => hw.block k (blk_lt hc) (fun e => hne.2 k e.symm cs fr hc))
theorem HeldB.setAt {W : World} {g : Nat} {A : Option Addr} {c : Nat} {f : List Int} (h : HeldB W A c f) (p : Addr) (u : Value) (hu : ∀ (cs : Array Value) (fr : Nat × Nat), W.heap[p.block]? ≠ some (Obj.cells cs 5 fr)) : HeldB (W.setCell p u) A c f := h.step (fun k cs fr hc => Below.heap_setCell _ _ _ _ (fun e => hu cs fr (by rw [← e]; exact hc)))
theorem AwayB.of_R {α : Type} {d : Kd α} {e : Nat} {base : Nat} {ok : Nat → Prop} {v : Value} {xs : List α} {W : World} {g : Nat} (ho : d.R e W base ok v xs) (hg : some g ≠ v.ownBlock) (ht : e ≠ 5) : AwayB W g v.ownBlock := ⟨hg, fun r hr cs fr hc => by
  obtain ⟨inner, hown⟩ := Kd.R_own ho
  obtain ⟨cells, hc'⟩ := own_typed hown r hr
  rw [hc] at hc'
  injection hc' with hc'
  injection hc' with _ ht2
  exact ht ht2.symm⟩
def IsS52 (w0 W : World) (g : Nat) (f0 : List Int) (f1 : Int) (f2 : Int) : Prop := ∃ A0 c0, W.heap[g]? = some (.cells #[.slice A0 f0.length c0, .int .i64 f1, .int .i64 f2] 52 (0, 0)) ∧ w0.heap.size ≤ g ∧ HeldB W A0 c0 f0
theorem IsS52.grown {w0 W : World} {g : Nat} {f0 : List Int} {f1 : Int} {f2 : Int} {W1 : World} {row : Option Nat} (h : IsS52 w0 W g f0 f1 f2) (hw : W.grownBy W1 row) (hne : AwayB W g row) : IsS52 w0 W1 g f0 f1 f2 := by
  obtain ⟨A0, c0, hb, hg, hr0⟩ := h
  exact ⟨A0, c0, blk_grown hb hw hne.1, hg, hr0.grown hw hne⟩
theorem IsS52.kept {w0 W : World} {g : Nat} {f0 : List Int} {f1 : Int} {f2 : Int} {W1 : World} {S : Nat → Prop} (h : IsS52 w0 W g f0 f1 f2) (hk : Kept W W1 S) (hne : ¬ S g) (hu : ∀ k, S k → ∀ (cs : Array Value) (fr : Nat × Nat), W.heap[k]? ≠ some (Obj.cells cs 5 fr)) : IsS52 w0 W1 g f0 f1 f2 := by
  obtain ⟨A0, c0, hb, hg, hr0⟩ := h
  exact ⟨A0, c0, blk_kept hb hk hne, hg, hr0.step (fun k cs fr hc => hk.2 k (blk_lt hc) (fun hs => hu k hs cs fr hc))⟩
theorem IsS52.below {w0 W : World} {g : Nat} {f0 : List Int} {f1 : Int} {f2 : Int} {W1 : World} (h : IsS52 w0 W g f0 f1 f2) (hw : Below W.heap.size W W1) : IsS52 w0 W1 g f0 f1 f2 := h.grown (grown_of_below hw none) ⟨by simp, fun r hr => by cases hr⟩
theorem IsS52.alloc {w0 W : World} {g : Nat} {f0 : List Int} {f1 : Int} {f2 : Int} (h : IsS52 w0 W g f0 f1 f2) (o : Obj) : IsS52 w0 (W.alloc o) g f0 f1 f2 := h.below (below_alloc (Below.refl _ _) o)
theorem IsS52.drewN {w0 W : World} {g : Nat} {f0 : List Int} {f1 : Int} {f2 : Int} (h : IsS52 w0 W g f0 f1 f2) (m : Nat) : IsS52 w0 (W.drewN m) g f0 f1 f2 := h
theorem IsS52.drew {w0 W : World} {g : Nat} {f0 : List Int} {f1 : Int} {f2 : Int} (h : IsS52 w0 W g f0 f1 f2) : IsS52 w0 W.drew g f0 f1 f2 := h
theorem IsS52.at_ {w0 W : World} {g : Nat} {f0 : List Int} {f1 : Int} {f2 : Int} {w' : World} {m : Nat} (hq : W.drewN m = w') (h : IsS52 w0 W g f0 f1 f2) : IsS52 w0 w' g f0 f1 f2 := by subst hq; exact IsS52.drewN h m
theorem IsS52.apart {w0 W : World} {g : Nat} {f0 : List Int} {f1 : Int} {f2 : Int} {α : Type} {d : Kd α} {e : Nat} {base : Nat} {ok : Nat → Prop} {v : Value} {xs : List α} (h : IsS52 w0 W g f0 f1 f2) (ho : d.R e W base ok v xs) (ht : ∀ q, q ∈ e :: d.E → q ≠ 52) : d.R e W base (fun k => ok k ∧ k ≠ g) v xs := by
  obtain ⟨A0, c0, hb, hg, hr0⟩ := h
  exact Kd.R_types ho hb ht
theorem IsS52.own_ne {w0 W : World} {g : Nat} {f0 : List Int} {f1 : Int} {f2 : Int} {α : Type} {d : Kd α} {e : Nat} {base : Nat} {ok : Nat → Prop} {v : Value} {xs : List α} (h : IsS52 w0 W g f0 f1 f2) (ho : d.R e W base ok v xs) (ht : e ≠ 52) : some g ≠ v.ownBlock := by
  obtain ⟨A0, c0, hb, hg, hr0⟩ := h
  exact Kd.R_ne ho hb ht
theorem IsS52.ge {w0 W : World} {g : Nat} {f0 : List Int} {f1 : Int} {f2 : Int} (h : IsS52 w0 W g f0 f1 f2) : w0.heap.size ≤ g := by
  obtain ⟨A0, c0, hb, hg, hr0⟩ := h
  exact hg
theorem IsS52.ne_blk {w0 W : World} {g : Nat} {f0 : List Int} {f1 : Int} {f2 : Int} {a : Nat} {cs : Array Value} {t : TypeId} {fr : Nat × Nat} (h : IsS52 w0 W g f0 f1 f2) (hb2 : W.heap[a]? = some (.cells cs t fr)) (ht : t ≠ 52) : g ≠ a := by
  obtain ⟨A0, c0, hb, hg, hr0⟩ := h
  rintro rfl
  rw [hb] at hb2
  injection hb2 with hb2
  injection hb2 with _ ht2
  exact ht ht2.symm
theorem IsS52.far {w0 W : World} {g : Nat} {f0 : List Int} {f1 : Int} {f2 : Int} {p : Addr} (h : IsS52 w0 W g f0 f1 f2) (hne : g ≠ p.block) (hu : ∀ (cs : Array Value) (fr : Nat × Nat), W.heap[p.block]? ≠ some (Obj.cells cs 5 fr)) (u : Value) : IsS52 w0 (W.setCell p u) g f0 f1 f2 := by
  obtain ⟨A0, c0, hb, hg, hr0⟩ := h
  exact ⟨A0, c0, blk_far hb hne u, hg, hr0.setAt (g := g) p u hu⟩
theorem cellS52_0 {W : World} {g : Nat} {A0 : Option Addr} {c0 : Nat} {f0 : List Int} {f1 : Int} {f2 : Int} (h : W.heap[g]? = some (.cells #[.slice A0 f0.length c0, .int .i64 f1, .int .i64 f2] 52 (0, 0))) : W.cell? ⟨g, 0, none⟩ = some (.slice A0 f0.length c0) := (blk_cell h 0).trans rfl
theorem cellS52_1 {W : World} {g : Nat} {A0 : Option Addr} {c0 : Nat} {f0 : List Int} {f1 : Int} {f2 : Int} (h : W.heap[g]? = some (.cells #[.slice A0 f0.length c0, .int .i64 f1, .int .i64 f2] 52 (0, 0))) : W.cell? ⟨g, 1, none⟩ = some (.int .i64 f1) := (blk_cell h 1).trans rfl
theorem IsS52.set_1 {w0 W : World} {g : Nat} {f0 : List Int} {f1 : Int} {f2 : Int} (h : IsS52 w0 W g f0 f1 f2) (x : Int) : IsS52 w0 (W.setCell ⟨g, 1, none⟩ (.int .i64 x)) g f0 x f2 := by
  obtain ⟨A0, c0, hb, hg, hr0⟩ := h
  exact ⟨A0, c0, by simpa using blk_set hb 1 (.int .i64 x), hg, hr0.setAt (g := g) _ _ (fun cs fr hc => by rw [hb] at hc; injection hc with hc; injection hc with _ ht2; exact absurd ht2 (by decide))⟩
theorem cellS52_2 {W : World} {g : Nat} {A0 : Option Addr} {c0 : Nat} {f0 : List Int} {f1 : Int} {f2 : Int} (h : W.heap[g]? = some (.cells #[.slice A0 f0.length c0, .int .i64 f1, .int .i64 f2] 52 (0, 0))) : W.cell? ⟨g, 2, none⟩ = some (.int .i64 f2) := (blk_cell h 2).trans rfl
theorem IsS52.set_2 {w0 W : World} {g : Nat} {f0 : List Int} {f1 : Int} {f2 : Int} (h : IsS52 w0 W g f0 f1 f2) (x : Int) : IsS52 w0 (W.setCell ⟨g, 2, none⟩ (.int .i64 x)) g f0 f1 x := by
  obtain ⟨A0, c0, hb, hg, hr0⟩ := h
  exact ⟨A0, c0, by simpa using blk_set hb 2 (.int .i64 x), hg, hr0.setAt (g := g) _ _ (fun cs fr hc => by rw [hb] at hc; injection hc with hc; injection hc with _ ht2; exact absurd ht2 (by decide))⟩
def bits_Reader_Left.f (s0_0 : List Int) (s0_1 : Int) (s0_2 : Int) : Option (Int × Int × Int) := some (wrap64 (s0_1 - s0_2), s0_1, s0_2)
set_option maxHeartbeats 8000000 in
set_option maxRecDepth 100000 in
theorem bits_Reader_Left.calls (g : Nat) (s0_0 : List Int) (s0_1 : Int) (s0_2 : Int) (r1 : Int) (r2 : Int) (r3 : Int) (w0 w : World) (hI : IsS52 w0 w g s0_0 s0_1 s0_2) (hB : Below w0.heap.size w0 w) (h : bits_Reader_Left.f s0_0 s0_1 s0_2 = some (r1, r2, r3)) :
    Calls Try.prog 19 #[.pointer (some ⟨g, 0, none⟩)] w fun e w' => e = .returned (.int .i64 r1) ∧ IsS52 w0 w' g s0_0 r2 r3 ∧ Below w0.heap.size w0 w' ∧ KeepBut w w' g none := by
  have HI0 := Aside0.mk hI
  have HK := Aside0.mk (KeepBut.refl w g none)
  have HL := Aside0.mk hB.size
  clear hI
  have HW0 := Aside0.mk hB.size
  have HB := Aside0.mk hB
  clear hB
  have H : (some (wrap64 (s0_1 - s0_2), s0_1, s0_2)) = some (r1, r2, r3) := h
  clear h
  simp only [Option.some.injEq, Prod.mk.injEq] at H
  obtain ⟨rfl, rfl, rfl⟩ := H
  obtain ⟨ASz2_0, cSz2_0, HGz2, hgz2, HSz2_0⟩ := HI0.out
  have hcz2_0 := cellS52_0 HGz2
  have hcz2_1 := cellS52_1 HGz2
  have hcz2_2 := cellS52_2 HGz2
  have hfz2_1 := blk_frozen HGz2 1
  have hfz2_2 := blk_frozen HGz2 2
  clear HGz2 hgz2
  go_enter Try.func19, Try.ntmps19
  go_wp2
  repeat (go_quiet (fail); try go_wp2)
  go_ret
  exact ⟨rf_, by repeat (first | (with_reducible first | exact HI0.out | apply IsS52.alloc | apply IsS52.drewN | apply IsS52.drew | apply IsS52.set_1 | apply IsS52.set_2) | exact HI0.out), by repeat (first | (with_reducible first | exact HB.out | apply below_alloc | apply pw_below_drewN | apply below_drew1 | refine below_set ?_ (IsS52.ge HI0.out)) | exact HB.out), by repeat (first | (with_reducible first | exact HK.out | apply KeepBut.set_ | apply keep_drewN | apply keep_drew | apply keep_alloc) | exact HK.out)⟩
def bits_get.l0 : Nat → Int → Int → Int → List Int → Int → Option (Int)
  | 0, _, _, _, _, _ => none
  | k + 1, x1, x2, x7, x147000, x147001 => if x2 > 0 then (if 0 ≤ (wrap64 (Int.tdiv x1 8)) then (if (wrap64 (Int.tdiv x1 8)) < (x147000.length : Int) then (if 0 ≤ (Int.tmod x1 8) then (if 0 ≤ (wrap64 (8 - (mn x2 (wrap64 (8 - (Int.tmod x1 8)))))) then (if 0 ≤ (mn x2 (wrap64 (8 - (Int.tmod x1 8)))) then (bits_get.l0 k (wrap64 (x1 + (mn x2 (wrap64 (8 - (Int.tmod x1 8)))))) (wrap64 (x2 - (mn x2 (wrap64 (8 - (Int.tmod x1 8)))))) (Go.bits .or .u64 (shl .u64 x7 (mn x2 (wrap64 (8 - (Int.tmod x1 8))))) (IntKind.u64.wrap (shr .u8 (shl .u8 (rd x147000 (wrap64 (Int.tdiv x1 8))) (Int.tmod x1 8)) (wrap64 (8 - (mn x2 (wrap64 (8 - (Int.tmod x1 8))))))))) x147000 x147001) else (none)) else (none)) else (none)) else (none)) else (none)) else (some x7)
def bits_get.f (k : Nat) (l0_0 : List Int) (a0_1 : Int) (a1 : Int) (a2 : Int) : Option (Int) := bits_get.l0 k a1 a2 0 l0_0 a0_1
theorem bits_get.mono_l : ∀ k, (∀ y0 y1 y2 y3 y4, LeO (bits_get.l0 k y0 y1 y2 y3 y4) (bits_get.l0 (k + 1) y0 y1 y2 y3 y4))
  | 0 => fun _ _ _ _ _ r h => by simp [bits_get.l0] at h
  | k + 1 => by
    have ih0 := bits_get.mono_l k
    · intro y0 y1 y2 y3 y4
      unfold bits_get.l0
      repeat' first
      | (with_reducible exact ih0 _ _ _ _ _)
      | (with_reducible exact LeO.refl _)
      | (with_reducible exact LeO.none _)
      | (with_reducible refine LeO.ite ?_ ?_)
      | (with_reducible refine LeO.bind ?_ (fun _ => ?_))
      | exact ih0 _ _ _ _ _
      | exact LeO.none _
      | refine LeO.ite ?_ ?_
      | refine LeO.bind ?_ (fun _ => ?_)
theorem bits_get.mono : ∀ a0 a1 a2 a3 k, LeO (bits_get.f k a0 a1 a2 a3) (bits_get.f (k + 1) a0 a1 a2 a3) := by
  intro a0 a1 a2 a3 k
  have ih0 := bits_get.mono_l k
  unfold bits_get.f
  repeat' first
      | (with_reducible exact ih0 _ _ _ _ _)
      | (with_reducible exact LeO.refl _)
      | (with_reducible exact LeO.none _)
      | (with_reducible refine LeO.ite ?_ ?_)
      | (with_reducible refine LeO.bind ?_ (fun _ => ?_))
      | exact ih0 _ _ _ _ _
      | exact LeO.none _
      | refine LeO.ite ?_ ?_
      | refine LeO.bind ?_ (fun _ => ?_)
set_option maxHeartbeats 8000000 in
set_option maxRecDepth 100000 in
theorem bits_get.calls (k : Nat) (A0_0 : Option Addr) (c0_0 : Nat) (l0_0 : List Int) (a0_1 : Int) (a1 : Int) (a2 : Int) (r : Int) (w : World) (hr0_0 : Kd.C (Kd.int .u8) w A0_0 l0_0.length l0_0) (hc0_0 : l0_0.length ≤ c0_0) (h : bits_get.f k l0_0 a0_1 a1 a2 = some r) :
    Calls Try.prog 65 #[.agg #[.slice A0_0 l0_0.length c0_0, .int .i64 a0_1], .int .i64 a1, .int .i64 a2] w fun e w' => e = .returned (.int .u64 r) ∧ Below w.heap.size w w' := by
  have hu25 := Try.underlying25
  have HR0_0 := Aside0.mk hr0_0
  have HC0_0 := Aside0.mk hc0_0
  clear hr0_0 hc0_0
  have HB := Aside0.mk (Below.refl w.heap.size w)
  have H : (bits_get.l0 k a1 a2 0 l0_0 a0_1) = some r := h
  clear h
  have H' := Aside0.mk H
  clear H
  go_enter Try.func65, Try.ntmps65
  go_wp2_with (first | ((with_reducible refine gate_dst (N := 3) rfl ?_); refine box_ev 3 #[.slice A0_0 l0_0.length c0_0, .int .i64 a0_1] 25 ?_; intro gb146 hg w4 hbox hb; have n_ := pk4 (below_step bl_ hb) (hbox) ((ge_ hg bl_ : w.heap.size ≤ gb146)) ((ge_ hg bl_ : w.heap.size ≤ gb146)); clear HB; obtain ⟨HB, BK146, GW146, GE146⟩ := n_; clear hb hbox hg))
  go_loopg [1, 2, 7] k (fun kq v1 v2 v7 w' => ∃ (x1_1 : Int) (x2_1 : Int) (x7_1 : Int), v1 = .int .i64 x1_1 ∧ v2 = .int .i64 x2_1 ∧ v7 = .int .u64 x7_1 ∧ Aside0 (bits_get.l0 kq x1_1 x2_1 x7_1 l0_0 a0_1 = some r) ∧ Aside0 (kq ≤ k) ∧ Aside0 (w'.heap[gb146]? = some (.cells #[(.slice A0_0 l0_0.length c0_0), .int .i64 a0_1] 25 (0, 0))) ∧ Aside0 (Below w.heap.size w w'))
  case atStart => exact ⟨(a1), (a2), (0), sm_, sm_, sm_, H', ⟨Nat.le_refl _⟩, ⟨(bo_ BK146)⟩, ⟨bl_⟩⟩
  case round =>
    clear H'
    obtain ⟨x1_1, x2_1, x7_1, rfl, rfl, rfl, HA, HK1, BK146, HB⟩ := hrel
    cases gk with
    | zero => exact absurd HA.out (by simp [bits_get.l0])
    | succ k1 =>
      have H := HA.out
      clear HA
      simp only [bits_get.l0] at H
      replace H := dgt H
      rcases H with ⟨c5b0, H⟩ | ⟨c5b0, H⟩
      focus
        obtain ⟨ji6, hji6⟩ : ∃ j_ : Int, (mn x2_1 (wrap64 (8 - (Int.tmod x1_1 8)))) = j_ := ⟨_, rfl⟩
        replace H : (if 0 ≤ (wrap64 (Int.tdiv x1_1 8)) then (if (wrap64 (Int.tdiv x1_1 8)) < (l0_0.length : Int) then (if 0 ≤ (Int.tmod x1_1 8) then (if 0 ≤ (wrap64 (8 - (ji6))) then (if 0 ≤ (ji6) then (bits_get.l0 k1 (wrap64 (x1_1 + (ji6))) (wrap64 (x2_1 - (ji6))) (Go.bits .or .u64 (shl .u64 x7_1 (ji6)) (IntKind.u64.wrap (shr .u8 (shl .u8 (rd l0_0 (wrap64 (Int.tdiv x1_1 8))) (Int.tmod x1_1 8)) (wrap64 (8 - (ji6)))))) l0_0 a0_1) else (none)) else (none)) else (none)) else (none)) else (none)) = some r := by first | (rw [hji6] at H; exact H) | (simp only [hji6] at H ⊢; exact H)
        have hji6_ : (if (wrap64 (8 - (Int.tmod x1_1 8))) < x2_1 then (wrap64 (8 - (Int.tmod x1_1 8))) else x2_1) = ji6 := hji6
        obtain ⟨ji7, hji7⟩ : ∃ j_ : Int, (wrap64 (Int.tdiv x1_1 8)) = j_ := ⟨_, rfl⟩
        replace H : (if 0 ≤ (ji7) then (if (ji7) < (l0_0.length : Int) then (if 0 ≤ (Int.tmod x1_1 8) then (if 0 ≤ (wrap64 (8 - (ji6))) then (if 0 ≤ (ji6) then (bits_get.l0 k1 (wrap64 (x1_1 + (ji6))) (wrap64 (x2_1 - (ji6))) (Go.bits .or .u64 (shl .u64 x7_1 (ji6)) (IntKind.u64.wrap (shr .u8 (shl .u8 (rd l0_0 (ji7)) (Int.tmod x1_1 8)) (wrap64 (8 - (ji6)))))) l0_0 a0_1) else (none)) else (none)) else (none)) else (none)) else (none)) = some r := by first | (rw [hji7] at H; exact H) | (simp only [hji7] at H ⊢; exact H)
        have hji7w : (IntKind.i64.wrap (Int.tdiv x1_1 8)) = ji7 := (i64_w _).trans hji7
        replace H := dle H
        rcases H with ⟨c8b0, H⟩ | ⟨c8b0, H⟩
        rotate_left
        · exact absurd H (by simp)
        replace H := dle H
        rcases H with ⟨c9b0, H⟩ | ⟨c9b0, H⟩
        rotate_left
        · exact absurd H (by simp)
        obtain ⟨ji10, hji10⟩ : ∃ j_ : Int, (Int.tmod x1_1 8) = j_ := ⟨_, rfl⟩
        (try rw [hji10] at hji6_)
        replace H : (if 0 ≤ (ji10) then (if 0 ≤ (wrap64 (8 - (ji6))) then (if 0 ≤ (ji6) then (bits_get.l0 k1 (wrap64 (x1_1 + (ji6))) (wrap64 (x2_1 - (ji6))) (Go.bits .or .u64 (shl .u64 x7_1 (ji6)) (IntKind.u64.wrap (shr .u8 (shl .u8 (rd l0_0 (ji7)) (ji10)) (wrap64 (8 - (ji6)))))) l0_0 a0_1) else (none)) else (none)) else (none)) = some r := by first | (rw [hji10] at H; exact H) | (simp only [hji10] at H ⊢; exact H)
        by_cases c11 : 0 ≤ (ji10)
        rotate_left
        · rw [if_neg c11] at H
          exact absurd H (by simp)
        rw [if_pos c11] at H
        have c11b0 := eq_true c11
        have c11b1 : decide (0 ≤ (ji10)) = true := decide_eq_true c11
        clear c11
        obtain ⟨ji12, hji12⟩ : ∃ j_ : Int, (shl .u8 (rd l0_0 (ji7)) (ji10)) = j_ := ⟨_, rfl⟩
        replace H : (if 0 ≤ (wrap64 (8 - (ji6))) then (if 0 ≤ (ji6) then (bits_get.l0 k1 (wrap64 (x1_1 + (ji6))) (wrap64 (x2_1 - (ji6))) (Go.bits .or .u64 (shl .u64 x7_1 (ji6)) (IntKind.u64.wrap (shr .u8 (ji12) (wrap64 (8 - (ji6)))))) l0_0 a0_1) else (none)) else (none)) = some r := by first | (rw [hji12] at H; exact H) | (simp only [hji12] at H ⊢; exact H)
        have hji12_ : (IntKind.u8.wrap ((rd l0_0 (ji7)) * 2 ^ min (ji10).toNat 8)) = ji12 := hji12
        have hji12z : (ji10) ≤ 8 → (IntKind.u8.wrap ((rd l0_0 (ji7)) * 2 ^ (ji10).toNat)) = ji12 := shl_small hji12
        obtain ⟨ji13, hji13⟩ : ∃ j_ : Int, (wrap64 (8 - (ji6))) = j_ := ⟨_, rfl⟩
        replace H : (if 0 ≤ (ji13) then (if 0 ≤ (ji6) then (bits_get.l0 k1 (wrap64 (x1_1 + (ji6))) (wrap64 (x2_1 - (ji6))) (Go.bits .or .u64 (shl .u64 x7_1 (ji6)) (IntKind.u64.wrap (shr .u8 (ji12) (ji13)))) l0_0 a0_1) else (none)) else (none)) = some r := by first | (rw [hji13] at H; exact H) | (simp only [hji13] at H ⊢; exact H)
        have hji13w : (IntKind.i64.wrap (8 - (ji6))) = ji13 := (i64_w _).trans hji13
        by_cases c14 : 0 ≤ (ji13)
        rotate_left
        · rw [if_neg c14] at H
          exact absurd H (by simp)
        rw [if_pos c14] at H
        have c14b0 := eq_true c14
        have c14b1 : decide (0 ≤ (ji13)) = true := decide_eq_true c14
        clear c14
        obtain ⟨ji15, hji15⟩ : ∃ j_ : Int, (shr .u8 (ji12) (ji13)) = j_ := ⟨_, rfl⟩
        replace H : (if 0 ≤ (ji6) then (bits_get.l0 k1 (wrap64 (x1_1 + (ji6))) (wrap64 (x2_1 - (ji6))) (Go.bits .or .u64 (shl .u64 x7_1 (ji6)) (IntKind.u64.wrap (ji15))) l0_0 a0_1) else (none)) = some r := by first | (rw [hji15] at H; exact H) | (simp only [hji15] at H ⊢; exact H)
        have hji15_ : ((ji12) / 2 ^ min (ji13).toNat 8) = ji15 := hji15
        have hji15z : (ji13) ≤ 8 → ((ji12) / 2 ^ (ji13).toNat) = ji15 := shr_small hji15
        by_cases c16 : 0 ≤ (ji6)
        rotate_left
        · rw [if_neg c16] at H
          exact absurd H (by simp)
        rw [if_pos c16] at H
        have c16b0 := eq_true c16
        have c16b1 : decide (0 ≤ (ji6)) = true := decide_eq_true c16
        clear c16
        obtain ⟨ji17, hji17⟩ : ∃ j_ : Int, (shl .u64 x7_1 (ji6)) = j_ := ⟨_, rfl⟩
        replace H : (bits_get.l0 k1 (wrap64 (x1_1 + (ji6))) (wrap64 (x2_1 - (ji6))) (Go.bits .or .u64 (ji17) (IntKind.u64.wrap (ji15))) l0_0 a0_1) = some r := by first | (rw [hji17] at H; exact H) | (simp only [hji17] at H ⊢; exact H)
        have hji17_ : (IntKind.u64.wrap (x7_1 * 2 ^ min (ji6).toNat 64)) = ji17 := hji17
        have hji17z : (ji6) ≤ 64 → (IntKind.u64.wrap (x7_1 * 2 ^ (ji6).toNat)) = ji17 := shl_small hji17
        have H' := Aside0.mk H
        clear H
        obtain ⟨hcz18_0, hcz18_1, hfz18_0, hfz18_1⟩ := blk_at2 BK146.out
        have p147 : 0 ≤ ((ji7) : Int) := dc_
        have q147 : (ji7) < (l0_0.length : Int) := dc_
        obtain ⟨ad147, e147, hx147_0⟩ := Kd.at_int HR0_0.out (ji7) p147 q147
        cases e147
        replace hx147_0 := (HB.out.cell (World.block_lt_of_cell? w _ hx147_0)).trans hx147_0
        replace p147 := eq_true p147
        replace q147 := eq_true q147
      rotate_left
      focus
        obtain rfl := Option.some.inj H
      all_goals
        go_wp2
        first
          | go_roundg k1
            case measure => have := HK1.out; omega
            case rel => exact ⟨(wrap64 (x1_1 + (ji6))), (wrap64 (x2_1 - (ji6))), (Go.bits .or .u64 (ji17) (IntKind.u64.wrap (ji15))), (by first | rfl | (simp; done) | (simp only [← hji6] <;> (first | rfl | simp)) | (simp [*]; done)), (by first | rfl | (simp; done) | (simp only [← hji6] <;> (first | rfl | simp)) | (simp [*]; done)), (by first | rfl | (simp; done) | (simp only [← hji15, ← hji17] <;> (first | rfl | simp)) | (simp [*]; done)), H', ⟨by have := HK1.out; omega⟩, ⟨(bo_ BK146)⟩, ⟨bl_⟩⟩
          | go_ret
            exact ⟨rf_, bl_⟩
end Go.Proofs.Ytmddmbagehjdeaa.G
end
section
namespace Go.Proofs.Ytmddmbagehjdeaa.G
open Go.RowKit Go.Proofs.YtmddmbagehjdeaaX Go.Proofs.YtmddmbagehjdeaaW.PrintWords Go.Proofs.YtmddmbagehjdeaaW.PrintLast Go.Proofs.YtmddmbagehjdeaaW.PrintMore
attribute [local go_sem] max2_int min2_int max_two min_two max_three min_three max_four min_four
def bits_Put.j0 : Nat → Int → Int → Bool → List Int → Int → Option (List Int × Int × Int)
  | 0, _, _, _, _, _ => none
  | k + 1, x1, x2, x17, x288000, x288001 => if x17 = true then (some (x288000, x288001, 1)) else (if x2 > (wrap64 (131072 - x288001)) then (some (x288000, x288001, 6)) else ((bits_put.f k x288000 x288001 x1 x2).bind fun bt294 => (some (bt294.1, bt294.2, 0))))
def bits_Put.f (k : Nat) (l0_0 : List Int) (a0_1 : Int) (a1 : Int) (a2 : Int) : Option (List Int × Int × Int) := (bits_Check.f k l0_0 a0_1).bind fun t289 => (if t289 = 0 then ((bits_own.f l0_0 a0_1).bind fun bt290 => (if a2 < 0 then (bits_Put.j0 k a1 a2 true bt290.1 bt290.2) else (if a2 > 64 then (bits_Put.j0 k a1 a2 true bt290.1 bt290.2) else (if a2 < 64 then (if 0 ≤ a2 then (bits_Put.j0 k a1 a2 ((shr .u64 a1 a2) != 0) bt290.1 bt290.2) else (none)) else (bits_Put.j0 k a1 a2 false bt290.1 bt290.2))))) else (some (([] : List Int), 0, t289)))
set_option maxHeartbeats 8000000 in
set_option maxRecDepth 100000 in
theorem bits_Put.calls (k : Nat) (A0_0 : Option Addr) (c0_0 : Nat) (l0_0 : List Int) (a0_1 : Int) (a1 : Int) (a2 : Int) (r1 : List Int) (r2 : Int) (r3 : Int) (w : World) (hr0_0 : Kd.C (Kd.int .u8) w A0_0 l0_0.length l0_0) (hc0_0 : l0_0.length ≤ c0_0) (h : bits_Put.f k l0_0 a0_1 a1 a2 = some (r1, r2, r3)) :
    Calls Try.prog 29 #[.agg #[.slice A0_0 l0_0.length c0_0, .int .i64 a0_1], .int .u64 a1, .int .i64 a2] w fun e w' => ∃ v0_ : Value, e = .returned (.tuple #[.agg #[v0_, .int .i64 r2], .int .i64 r3]) ∧ Kd.R (Kd.int .u8) 5 w' w.heap.size (fun _ => True) v0_ r1 ∧ Below w.heap.size w w' := by
  have hu25 := Try.underlying25
  have HR0_0 := Aside0.mk hr0_0
  have HC0_0 := Aside0.mk hc0_0
  clear hr0_0 hc0_0
  have HB := Aside0.mk (Below.refl w.heap.size w)
  have H : ((bits_Check.f k l0_0 a0_1).bind fun t289 => (if t289 = 0 then ((bits_own.f l0_0 a0_1).bind fun bt290 => (if a2 < 0 then (bits_Put.j0 k a1 a2 true bt290.1 bt290.2) else (if a2 > 64 then (bits_Put.j0 k a1 a2 true bt290.1 bt290.2) else (if a2 < 64 then (if 0 ≤ a2 then (bits_Put.j0 k a1 a2 ((shr .u64 a1 a2) != 0) bt290.1 bt290.2) else (none)) else (bits_Put.j0 k a1 a2 false bt290.1 bt290.2))))) else (some (([] : List Int), 0, t289)))) = some (r1, r2, r3) := h
  clear h
  replace H := bindA H
  obtain ⟨t289, A4, H⟩ := H
  try dsimp only at H
  replace H := deqn H
  rcases H with ⟨c5b0, c5b1, H⟩ | ⟨c5b0, c5b1, c5, H⟩
  · replace H := bindA H
    obtain ⟨⟨t290, t293⟩, A6, H⟩ := H
    try dsimp only at H
    have HC7 := Aside0.mk H
    clear H
    go_enter Try.func29, Try.ntmps29
    go_upto_region 5 with (first | ((with_reducible refine gate_dst (N := 3) rfl ?_); refine box_ev 3 #[.slice A0_0 l0_0.length c0_0, .int .i64 a0_1] 25 ?_; intro gb287 hg w8 hbox hb; have n_ := pk4 (below_step bl_ hb) (hbox) ((ge_ hg bl_ : w.heap.size ≤ gb287)) ((ge_ hg bl_ : w.heap.size ≤ gb287)); clear HB; obtain ⟨HB, BK287, GW287, GE287⟩ := n_; clear hb hbox hg) | ((with_reducible refine gate_dst (N := 6) rfl ?_); refine box_ev 6 #[.slice none 0 0, .int .i64 0] 25 ?_; intro gb288 hg w9 hbox hb; have n_ := pk7 (blk_below (bo_ BK287) hb) (below_step bl_ hb) (hbox) ((ge_ hg bl_ : w.heap.size ≤ gb288)) ((ge_ hg bl_ : w.heap.size ≤ gb288)) ((nb_ hg (bo_ BK287) : gb287 ≠ gb288)) ((nc_ hg (bo_ BK287) : gb288 ≠ gb287)); clear BK287 HB; obtain ⟨BK287, HB, BK288, GW288, GE288, NB287_288, NB288_287⟩ := n_; clear hb hbox hg; have hnb10 := NB287_288.out; have hnc10 := NB288_287.out; have hcz11_0 : w9.cell? ⟨gb287, 0, none⟩ = some (.slice A0_0 l0_0.length c0_0) := (blk_cell BK287.out 0).trans rfl; have hcz11_1 : w9.cell? ⟨gb287, 1, none⟩ = some (.int .i64 a0_1) := (blk_cell BK287.out 1).trans rfl; have hfz11_0 := blk_frozen BK287.out 0; have hfz11_1 := blk_frozen BK287.out 1) | ((with_reducible refine gate_callee (f := 58) rfl ?_); refine goL_ (some 10) Try.func58 #[.agg #[.slice A0_0 l0_0.length c0_0, .int .i64 a0_1]] ?_; (with_reducible refine (bits_Check.calls k _ _ l0_0 a0_1 t289 _ ?side1 ?side2 A4.out).mono ?_); (case side1 => exact cb_ HR0_0); (case side2 => exact HC0_0.out); rintro e w12 ⟨rfl, hb⟩; refine ⟨_, rfl, ?_⟩; have n_ := pk3 (blk_below (bo_ BK287) hb) (blk_below (bo_ BK288) hb) (below_step bl_ hb); clear BK287 BK288 HB; obtain ⟨BK287, BK288, HB⟩ := n_; (try clear hb); have hcz13_0 : w12.cell? ⟨gb287, 0, none⟩ = some (.slice A0_0 l0_0.length c0_0) := (blk_cell BK287.out 0).trans rfl; have hcz13_1 : w12.cell? ⟨gb287, 1, none⟩ = some (.int .i64 a0_1) := (blk_cell BK287.out 1).trans rfl; have hfz13_0 := blk_frozen BK287.out 0; have hfz13_1 := blk_frozen BK287.out 1) | ((with_reducible refine gate_callee (f := 59) rfl ?_); refine goL_ (some 16) Try.func59 #[.agg #[.slice A0_0 l0_0.length c0_0, .int .i64 a0_1]] ?_; (with_reducible refine (bits_own.calls _ _ l0_0 a0_1 t290 t293 _ ?side1 ?side2 A6.out).mono ?_); (case side1 => exact cb_ HR0_0); (case side2 => exact HC0_0.out); rintro e w14 ⟨v291, rfl, ho0, hb⟩; refine ⟨_, rfl, ?_⟩; have n_ := pk4 (Kd.R_lower ho0 (below_size bl_)) (blk_below (bo_ BK287) hb) (blk_below (bo_ BK288) hb) (below_step bl_ hb); clear BK287 BK288 HB; obtain ⟨HO292, BK287, BK288, HB⟩ := n_; (try clear hb ho0); obtain ⟨Ao15, co15, eo15⟩ := Kd.R_slice HO292.out; subst eo15; have hcz16_0 : w14.cell? ⟨gb287, 0, none⟩ = some (.slice A0_0 l0_0.length c0_0) := (blk_cell BK287.out 0).trans rfl; have hcz16_1 : w14.cell? ⟨gb287, 1, none⟩ = some (.int .i64 a0_1) := (blk_cell BK287.out 1).trans rfl; have hfz16_0 := blk_frozen BK287.out 0; have hfz16_1 := blk_frozen BK287.out 1))
    (try simp only [ap_, sb_, s0_, s1_])
    go_cut [17] (fun v17 wc => ∃ (kq : Nat) (x17_6 : Bool), v17 = .bool x17_6 ∧ Aside0 (bits_Put.j0 kq a1 a2 x17_6 t290 t293 = some (r1, r2, r3)) ∧ Aside0 (kq ≤ k) ∧ Aside0 (Kd.R (Kd.int .u8) 5 wc w.heap.size (fun _ => True) (.slice Ao15 t290.length co15) t290) ∧ Aside0 (wc.heap[gb287]? = some (.cells #[(.slice Ao15 t290.length co15), .int .i64 t293] 25 (0, 0))) ∧ Aside0 (wc.heap[gb288]? = some (.cells #[(.slice none 0 0), .int .i64 0] 25 (0, 0))) ∧ Aside0 (Below w.heap.size w wc))
    case first =>
      have H := HC7.out
      clear HC7
      replace H := dle H
      rcases H with ⟨c17b0, H⟩ | ⟨c17b0, H⟩
      focus
        (first | rw [c17b0] | (simp only [i64_w, i32_w]; rw [c17b0]) | skip)
        have H' := Aside0.mk H
        clear H
      rotate_left
      focus
        (first | rw [c17b0] | (simp only [i64_w, i32_w]; rw [c17b0]) | skip)
        replace H := dgt H
        rcases H with ⟨c18b0, H⟩ | ⟨c18b0, H⟩
        focus
          have H' := Aside0.mk H
          clear H
        rotate_left
        focus
          replace H := dle H
          rcases H with ⟨c19b0, H⟩ | ⟨c19b0, H⟩
          focus
            by_cases c20 : 0 ≤ a2
            rotate_left
            · rw [if_neg c20] at H
              exact absurd H (by simp)
            rw [if_pos c20] at H
            have c20b0 := eq_true c20
            have c20b1 : decide (0 ≤ a2) = true := decide_eq_true c20
            clear c20
            obtain ⟨ji21, hji21⟩ : ∃ j_ : Int, (shr .u64 a1 a2) = j_ := ⟨_, rfl⟩
            replace H : (bits_Put.j0 k a1 a2 ((ji21) != 0) t290 t293) = some (r1, r2, r3) := by first | (rw [hji21] at H; exact H) | (simp only [hji21] at H ⊢; exact H)
            have hji21_ : (a1 / 2 ^ min a2.toNat 64) = ji21 := hji21
            have hji21z : a2 ≤ 64 → (a1 / 2 ^ a2.toNat) = ji21 := shr_small hji21
            have H' := Aside0.mk H
            clear H
          rotate_left
          focus
            have H' := Aside0.mk H
            clear H
      all_goals
        go_wp2
        go_meet
        first
          | case rel => exact ⟨_, (true), sm_, H', ⟨om_⟩, ⟨(rt_ (Kd.R_mono (Kd.R_far (p := ⟨gb287, 1, none⟩) (Kd.R_far (p := ⟨gb287, 0, none⟩) (Kd.R_types HO292.out BK287.out (by decide)) (fun _ hk => hk.2) (.slice Ao15 t290.length co15)) (fun _ hk => hk.2) (.int .i64 t293)) (fun _ hk => trivial)))⟩, ⟨by (with_reducible repeat (first | refine blk_drewN ?_ _ | refine blk_drew ?_ | refine blk_alloc ?_ _)); refine blk_put (cs := #[.slice Ao15 t290.length co15, .int .i64 a0_1]) ?_ 1 _ rfl; (with_reducible repeat (first | refine blk_drewN ?_ _ | refine blk_drew ?_ | refine blk_alloc ?_ _)); refine blk_put (cs := #[.slice A0_0 l0_0.length c0_0, .int .i64 a0_1]) ?_ 0 _ rfl; exact (bo_ BK287)⟩, ⟨by (with_reducible repeat (first | refine blk_drewN ?_ _ | refine blk_drew ?_ | refine blk_alloc ?_ _)); refine blk_far ?_ NB288_287.out _; (with_reducible repeat (first | refine blk_drewN ?_ _ | refine blk_drew ?_ | refine blk_alloc ?_ _)); refine blk_far ?_ NB288_287.out _; exact (bo_ BK288)⟩, ⟨bl_⟩⟩
          | case rel => exact ⟨_, (((ji21) != 0)), (by first | rfl | (simp; done) | (simp only [← hji21] <;> (first | rfl | simp)) | (simp [*]; done)), H', ⟨om_⟩, ⟨(rt_ (Kd.R_mono (Kd.R_far (p := ⟨gb287, 1, none⟩) (Kd.R_far (p := ⟨gb287, 0, none⟩) (Kd.R_types HO292.out BK287.out (by decide)) (fun _ hk => hk.2) (.slice Ao15 t290.length co15)) (fun _ hk => hk.2) (.int .i64 t293)) (fun _ hk => trivial)))⟩, ⟨by (with_reducible repeat (first | refine blk_drewN ?_ _ | refine blk_drew ?_ | refine blk_alloc ?_ _)); refine blk_put (cs := #[.slice Ao15 t290.length co15, .int .i64 a0_1]) ?_ 1 _ rfl; (with_reducible repeat (first | refine blk_drewN ?_ _ | refine blk_drew ?_ | refine blk_alloc ?_ _)); refine blk_put (cs := #[.slice A0_0 l0_0.length c0_0, .int .i64 a0_1]) ?_ 0 _ rfl; exact (bo_ BK287)⟩, ⟨by (with_reducible repeat (first | refine blk_drewN ?_ _ | refine blk_drew ?_ | refine blk_alloc ?_ _)); refine blk_far ?_ NB288_287.out _; (with_reducible repeat (first | refine blk_drewN ?_ _ | refine blk_drew ?_ | refine blk_alloc ?_ _)); refine blk_far ?_ NB288_287.out _; exact (bo_ BK288)⟩, ⟨bl_⟩⟩
          | case rel => exact ⟨_, (false), sm_, H', ⟨om_⟩, ⟨(rt_ (Kd.R_mono (Kd.R_far (p := ⟨gb287, 1, none⟩) (Kd.R_far (p := ⟨gb287, 0, none⟩) (Kd.R_types HO292.out BK287.out (by decide)) (fun _ hk => hk.2) (.slice Ao15 t290.length co15)) (fun _ hk => hk.2) (.int .i64 t293)) (fun _ hk => trivial)))⟩, ⟨by (with_reducible repeat (first | refine blk_drewN ?_ _ | refine blk_drew ?_ | refine blk_alloc ?_ _)); refine blk_put (cs := #[.slice Ao15 t290.length co15, .int .i64 a0_1]) ?_ 1 _ rfl; (with_reducible repeat (first | refine blk_drewN ?_ _ | refine blk_drew ?_ | refine blk_alloc ?_ _)); refine blk_put (cs := #[.slice A0_0 l0_0.length c0_0, .int .i64 a0_1]) ?_ 0 _ rfl; exact (bo_ BK287)⟩, ⟨by (with_reducible repeat (first | refine blk_drewN ?_ _ | refine blk_drew ?_ | refine blk_alloc ?_ _)); refine blk_far ?_ NB288_287.out _; (with_reducible repeat (first | refine blk_drewN ?_ _ | refine blk_drew ?_ | refine blk_alloc ?_ _)); refine blk_far ?_ NB288_287.out _; exact (bo_ BK288)⟩, ⟨bl_⟩⟩
    case rest =>
      clear HC7
      try clear c5
      try clear c5b0
      try clear c5b1
      obtain ⟨kq, x17_6, rfl, HA, HJ6, HO_288000, BK287, BK288, HB⟩ := hcut
      cases kq with
      | zero => exact absurd HA.out (by simp [bits_Put.j0])
      | succ kj6 =>
        have H := HA.out
        clear HA
        simp only [bits_Put.j0] at H
        replace H := dbool H
        rcases H with ⟨rfl, H⟩ | ⟨rfl, H⟩
        focus
          simp only [Option.some.injEq, Prod.mk.injEq] at H
          obtain ⟨rfl, rfl, rfl⟩ := H
          have hnb23 := NB287_288.out
          have hnc23 := NB288_287.out
          obtain ⟨hcz24_0, hcz24_1, hfz24_0, hfz24_1⟩ := blk_at2 BK287.out
          obtain ⟨hcz25_0, hcz25_1, hfz25_0, hfz25_1⟩ := blk_at2 BK288.out
        rotate_left
        focus
          by_cases c26 : a2 > (wrap64 (131072 - t293))
          focus
            rw [if_pos c26] at H
            have c26b0 : decide ((wrap64 (131072 - t293)) < a2) = true := decide_eq_true c26
            have c26b0w : decide ((IntKind.i64.wrap (131072 - t293)) < a2) = true := by simpa only [i64_w] using c26b0
            clear c26
            simp only [Option.some.injEq, Prod.mk.injEq] at H
            obtain ⟨rfl, rfl, rfl⟩ := H
            have hnb27 := NB287_288.out
            have hnc27 := NB288_287.out
            obtain ⟨hcz28_0, hcz28_1, hfz28_0, hfz28_1⟩ := blk_at2 BK287.out
            obtain ⟨hcz29_0, hcz29_1, hfz29_0, hfz29_1⟩ := blk_at2 BK288.out
          rotate_left
          focus
            rw [if_neg c26] at H
            have c26b0 : decide ((wrap64 (131072 - t293)) < a2) = false := decide_eq_false c26
            have c26b0w : decide ((IntKind.i64.wrap (131072 - t293)) < a2) = false := by simpa only [i64_w] using c26b0
            clear c26
            replace H := bindA H
            obtain ⟨⟨t294, t297⟩, A30, H⟩ := H
            try dsimp only at H
            simp only [Option.some.injEq, Prod.mk.injEq] at H
            obtain ⟨rfl, rfl, rfl⟩ := H
            have hnb31 := NB287_288.out
            have hnc31 := NB288_287.out
            obtain ⟨hcz32_0, hcz32_1, hfz32_0, hfz32_1⟩ := blk_at2 BK287.out
        all_goals
          go_wp2_with (first | ((with_reducible refine gate_callee (f := 61) rfl ?_); refine goL_ (some 45) Try.func61 #[.agg #[.slice Ao15 t290.length co15, .int .i64 t293], .int .u64 a1, .int .i64 a2] ?_; (with_reducible refine (bits_put.calls kj6 (fun k_ => some k_ = (.slice Ao15 t290.length co15 : Value).ownBlock) (.slice Ao15 t290.length co15) t290 t293 a1 a2 t294 t297 w _ ?side1 ?side2 A30.out).mono ?_); (case side1 => exact bl_); (case side2 => exact Kd.R_tight rfl HO_288000.out); rintro e w7000 ⟨v7000, rfl, ho0, hb, hkp⟩; refine ⟨_, rfl, ?_⟩; have n_ := pk4 (blk_kept (bo_ BK287) hkp (fun hs_ => (fun e_ => (Kd.R_ne HO_288000.out BK287.out (by decide)) e_) hs_)) (blk_kept (bo_ BK288) hkp (fun hs_ => (fun e_ => (Kd.R_ne HO_288000.out BK288.out (by decide)) e_) hs_)) (Kd.R_mono (ok' := fun k_ => True) ho0 (fun k_ hk_ => trivial)) (hb); clear BK287 BK288 HB HO_288000; obtain ⟨BK287, BK288, HO7000, HB⟩ := n_; (try clear hb hkp ho0); obtain ⟨Ao7000, co7000, eo7000⟩ := Kd.R_slice HO7000.out; subst eo7000; have hcz7000_0 : w7000.cell? ⟨gb288, 0, none⟩ = some (.slice none 0 0) := (blk_cell BK288.out 0).trans rfl; have hcz7000_1 : w7000.cell? ⟨gb288, 1, none⟩ = some (.int .i64 0) := (blk_cell BK288.out 1).trans rfl; have hfz7000_0 := blk_frozen BK288.out 0; have hfz7000_1 := blk_frozen BK288.out 1))
          first
            | refine bodyPost_ret (results_ct rfl _ _ gb288 25 #[.slice Ao15 t290.length co15, .int .i64 t293] (0, 0) _ rfl (by (with_reducible repeat (first | refine blk_drewN ?_ _ | refine blk_drew ?_ | refine blk_alloc ?_ _)); refine blk_put (cs := #[.slice Ao15 t290.length co15, .int .i64 0]) ?_ 1 _ rfl; (with_reducible repeat (first | refine blk_drewN ?_ _ | refine blk_drew ?_ | refine blk_alloc ?_ _)); refine blk_put (cs := #[.slice none 0 0, .int .i64 0]) ?_ 0 _ rfl; exact (bo_ BK288)) Try.underlying25 rfl (by kernel_rfl)) rfl ?_
              exact ⟨_, rf_, (rt_ (Kd.R_mono (Kd.R_far (p := ⟨gb288, 1, none⟩) (Kd.R_far (p := ⟨gb288, 0, none⟩) (Kd.R_types HO_288000.out BK288.out (by decide)) (fun _ hk => hk.2) (.slice Ao15 t290.length co15)) (fun _ hk => hk.2) (.int .i64 t293)) (fun _ hk => trivial))), bl_⟩
            | refine bodyPost_ret (results_ct rfl _ _ gb288 25 #[.slice Ao7000 t294.length co7000, .int .i64 t297] (0, 0) _ rfl (by (with_reducible repeat (first | refine blk_drewN ?_ _ | refine blk_drew ?_ | refine blk_alloc ?_ _)); refine blk_put (cs := #[.slice Ao7000 t294.length co7000, .int .i64 0]) ?_ 1 _ rfl; (with_reducible repeat (first | refine blk_drewN ?_ _ | refine blk_drew ?_ | refine blk_alloc ?_ _)); refine blk_put (cs := #[.slice none 0 0, .int .i64 0]) ?_ 0 _ rfl; exact (bo_ BK288)) Try.underlying25 rfl (by kernel_rfl)) rfl ?_
              exact ⟨_, rf_, (rt_ (Kd.R_mono (Kd.R_far (p := ⟨gb288, 1, none⟩) (Kd.R_far (p := ⟨gb288, 0, none⟩) (Kd.R_types HO7000.out BK288.out (by decide)) (fun _ hk => hk.2) (.slice Ao7000 t294.length co7000)) (fun _ hk => hk.2) (.int .i64 t297)) (fun _ hk => trivial))), bl_⟩
  simp only [Option.some.injEq, Prod.mk.injEq] at H
  obtain ⟨rfl, rfl, rfl⟩ := H
  go_enter Try.func29, Try.ntmps29
  go_wp2_with (first | ((with_reducible refine gate_dst (N := 3) rfl ?_); refine box_ev 3 #[.slice A0_0 l0_0.length c0_0, .int .i64 a0_1] 25 ?_; intro gb287 hg w7100 hbox hb; have n_ := pk4 (below_step bl_ hb) (hbox) ((ge_ hg bl_ : w.heap.size ≤ gb287)) ((ge_ hg bl_ : w.heap.size ≤ gb287)); clear HB; obtain ⟨HB, BK287, GW287, GE287⟩ := n_; clear hb hbox hg) | ((with_reducible refine gate_dst (N := 6) rfl ?_); refine box_ev 6 #[.slice none 0 0, .int .i64 0] 25 ?_; intro gb288 hg w7101 hbox hb; have n_ := pk7 (blk_below (bo_ BK287) hb) (below_step bl_ hb) (hbox) ((ge_ hg bl_ : w.heap.size ≤ gb288)) ((ge_ hg bl_ : w.heap.size ≤ gb288)) ((nb_ hg (bo_ BK287) : gb287 ≠ gb288)) ((nc_ hg (bo_ BK287) : gb288 ≠ gb287)); clear BK287 HB; obtain ⟨BK287, HB, BK288, GW288, GE288, NB287_288, NB288_287⟩ := n_; clear hb hbox hg; have hnb7100 := NB287_288.out; have hnc7100 := NB288_287.out; have hcz7100_0 : w7101.cell? ⟨gb287, 0, none⟩ = some (.slice A0_0 l0_0.length c0_0) := (blk_cell BK287.out 0).trans rfl; have hcz7100_1 : w7101.cell? ⟨gb287, 1, none⟩ = some (.int .i64 a0_1) := (blk_cell BK287.out 1).trans rfl; have hfz7100_0 := blk_frozen BK287.out 0; have hfz7100_1 := blk_frozen BK287.out 1) | ((with_reducible refine gate_callee (f := 58) rfl ?_); refine goL_ (some 10) Try.func58 #[.agg #[.slice A0_0 l0_0.length c0_0, .int .i64 a0_1]] ?_; (with_reducible refine (bits_Check.calls k _ _ l0_0 a0_1 t289 _ ?side1 ?side2 A4.out).mono ?_); (case side1 => exact cb_ HR0_0); (case side2 => exact HC0_0.out); rintro e w7102 ⟨rfl, hb⟩; refine ⟨_, rfl, ?_⟩; have n_ := pk3 (blk_below (bo_ BK287) hb) (blk_below (bo_ BK288) hb) (below_step bl_ hb); clear BK287 BK288 HB; obtain ⟨BK287, BK288, HB⟩ := n_; (try clear hb); have hcz7101_0 : w7102.cell? ⟨gb288, 0, none⟩ = some (.slice none 0 0) := (blk_cell BK288.out 0).trans rfl; have hcz7101_1 : w7102.cell? ⟨gb288, 1, none⟩ = some (.int .i64 0) := (blk_cell BK288.out 1).trans rfl; have hfz7101_0 := blk_frozen BK288.out 0; have hfz7101_1 := blk_frozen BK288.out 1))
  refine bodyPost_ret (results_ct rfl _ _ gb288 25 #[.slice none 0 0, .int .i64 0] (0, 0) _ rfl (by (with_reducible repeat (first | refine blk_drewN ?_ _ | refine blk_drew ?_ | refine blk_alloc ?_ _)); refine blk_put (cs := #[.slice none 0 0, .int .i64 0]) ?_ 1 _ rfl; (with_reducible repeat (first | refine blk_drewN ?_ _ | refine blk_drew ?_ | refine blk_alloc ?_ _)); refine blk_put (cs := #[.slice none 0 0, .int .i64 0]) ?_ 0 _ rfl; exact (bo_ BK288)) Try.underlying25 rfl (by kernel_rfl)) rfl ?_
  exact ⟨_, rf_, nl_, bl_⟩
mutual
def bits_Join.j0 : Nat → Bool → List Int → Int → List Int → Int → Option (List Int × Int × Int)
  | 0, _, _, _, _, _ => none
  | k + 1, x15, x299000, x299001, x300000, x300001 => if x15 = true then (some (([] : List Int), 0, 1)) else ((bits_own.f x299000 x299001).bind fun bt303 => (if x300001 > (wrap64 (131072 - bt303.2)) then (some (bt303.1, bt303.2, 6)) else (bits_Join.l0 k 0 bt303.1 bt303.2 x300000 x300001)))
def bits_Join.l0 : Nat → Int → List Int → Int → List Int → Int → Option (List Int × Int × Int)
  | 0, _, _, _, _, _ => none
  | k + 1, x6, x299000, x299001, x300000, x300001 => if x6 < x300001 then ((bits_get.f k x300000 x300001 x6 (mn 64 (wrap64 (x300001 - x6)))).bind fun t307 => ((bits_put.f k x299000 x299001 t307 (mn 64 (wrap64 (x300001 - x6)))).bind fun bt308 => (bits_Join.l0 k (wrap64 (x6 + 64)) bt308.1 bt308.2 x300000 x300001))) else (some (x299000, x299001, 0))
end
def bits_Join.f (k : Nat) (l0_0 : List Int) (a0_1 : Int) (l1_0 : List Int) (a1_1 : Int) : Option (List Int × Int × Int) := (bits_Check.f k l0_0 a0_1).bind fun t301 => (if t301 = 0 then ((bits_Check.f k l1_0 a1_1).bind fun t302 => (bits_Join.j0 k (t302 != 0) l0_0 a0_1 l1_0 a1_1)) else (bits_Join.j0 k true l0_0 a0_1 l1_0 a1_1))
def bits_Join.T10 : Bool × List (List Nat × List Nat) := (true, [([], []), ([], []), ([], []), ([], []), ([1, 2, 3], [1, 2, 3]), ([], []), ([0, 4, 5, 4], [0, 4, 5]), ([6, 6, 0, 1, 2, 3, 4, 5, 6], [6])])
def bits_Join.B10 : List Nat := [0, 0, 0, 0, 14, 0, 63, 127]
theorem bits_Join.tab10 : rtab .any (opsOf Try.f30 10) = bits_Join.T10 := by kernel_rfl
theorem bits_Join.bits10 : waitsOk bits_Join.T10.2 bits_Join.B10 = true := by kernel_rfl
set_option maxHeartbeats 8000000 in
set_option maxRecDepth 100000 in
theorem bits_Join.calls (k : Nat) (A0_0 : Option Addr) (c0_0 : Nat) (l0_0 : List Int) (a0_1 : Int) (A1_0 : Option Addr) (c1_0 : Nat) (l1_0 : List Int) (a1_1 : Int) (r1 : List Int) (r2 : Int) (r3 : Int) (w : World) (hr0_0 : Kd.C (Kd.int .u8) w A0_0 l0_0.length l0_0) (hc0_0 : l0_0.length ≤ c0_0) (hr1_0 : Kd.C (Kd.int .u8) w A1_0 l1_0.length l1_0) (hc1_0 : l1_0.length ≤ c1_0) (h : bits_Join.f k l0_0 a0_1 l1_0 a1_1 = some (r1, r2, r3)) :
    Calls Try.prog 30 #[.agg #[.slice A0_0 l0_0.length c0_0, .int .i64 a0_1], .agg #[.slice A1_0 l1_0.length c1_0, .int .i64 a1_1]] w fun e w' => ∃ v0_ : Value, e = .returned (.tuple #[.agg #[v0_, .int .i64 r2], .int .i64 r3]) ∧ Kd.R (Kd.int .u8) 5 w' w.heap.size (fun _ => True) v0_ r1 ∧ Below w.heap.size w w' := by
  have hu25 := Try.underlying25
  have HR0_0 := Aside0.mk hr0_0
  have HC0_0 := Aside0.mk hc0_0
  clear hr0_0 hc0_0
  have HR1_0 := Aside0.mk hr1_0
  have HC1_0 := Aside0.mk hc1_0
  clear hr1_0 hc1_0
  have HB := Aside0.mk (Below.refl w.heap.size w)
  have H : ((bits_Check.f k l0_0 a0_1).bind fun t301 => (if t301 = 0 then ((bits_Check.f k l1_0 a1_1).bind fun t302 => (bits_Join.j0 k (t302 != 0) l0_0 a0_1 l1_0 a1_1)) else (bits_Join.j0 k true l0_0 a0_1 l1_0 a1_1))) = some (r1, r2, r3) := h
  clear h
  have HC3 := Aside0.mk H
  clear H
  go_enter Try.func30, Try.ntmps30
  go_upto_region 1 with (first | ((with_reducible refine gate_dst (N := 2) rfl ?_); refine box_ev 2 #[.slice A0_0 l0_0.length c0_0, .int .i64 a0_1] 25 ?_; intro gb298 hg w4 hbox hb; have n_ := pk4 (below_step bl_ hb) (hbox) ((ge_ hg bl_ : w.heap.size ≤ gb298)) ((ge_ hg bl_ : w.heap.size ≤ gb298)); clear HB; obtain ⟨HB, BK298, GW298, GE298⟩ := n_; clear hb hbox hg) | ((with_reducible refine gate_dst (N := 3) rfl ?_); refine box_ev 3 #[.slice A1_0 l1_0.length c1_0, .int .i64 a1_1] 25 ?_; intro gb299 hg w5 hbox hb; have n_ := pk7 (blk_below (bo_ BK298) hb) (below_step bl_ hb) (hbox) ((ge_ hg bl_ : w.heap.size ≤ gb299)) ((ge_ hg bl_ : w.heap.size ≤ gb299)) ((nb_ hg (bo_ BK298) : gb298 ≠ gb299)) ((nc_ hg (bo_ BK298) : gb299 ≠ gb298)); clear BK298 HB; obtain ⟨BK298, HB, BK299, GW299, GE299, NB298_299, NB299_298⟩ := n_; clear hb hbox hg) | ((with_reducible refine gate_dst (N := 4) rfl ?_); refine box_ev 4 #[.slice none 0 0, .int .i64 0] 25 ?_; intro gb300 hg w6 hbox hb; have n_ := pk10 (blk_below (bo_ BK298) hb) (blk_below (bo_ BK299) hb) (below_step bl_ hb) (hbox) ((ge_ hg bl_ : w.heap.size ≤ gb300)) ((ge_ hg bl_ : w.heap.size ≤ gb300)) ((nb_ hg (bo_ BK298) : gb298 ≠ gb300)) ((nc_ hg (bo_ BK298) : gb300 ≠ gb298)) ((nb_ hg (bo_ BK299) : gb299 ≠ gb300)) ((nc_ hg (bo_ BK299) : gb300 ≠ gb299)); clear BK298 BK299 HB; obtain ⟨BK298, BK299, HB, BK300, GW300, GE300, NB298_300, NB300_298, NB299_300, NB300_299⟩ := n_; clear hb hbox hg))
  (try simp only [ap_, sb_, s0_, s1_])
  go_cut [15] (fun v15 wc => ∃ (kq : Nat) (x15_2 : Bool), v15 = .bool x15_2 ∧ Aside0 (bits_Join.j0 kq x15_2 l0_0 a0_1 l1_0 a1_1 = some (r1, r2, r3)) ∧ Aside0 (kq ≤ k) ∧ Aside0 (wc.heap[gb298]? = some (.cells #[(.slice A0_0 l0_0.length c0_0), .int .i64 a0_1] 25 (0, 0))) ∧ Aside0 (wc.heap[gb299]? = some (.cells #[(.slice A1_0 l1_0.length c1_0), .int .i64 a1_1] 25 (0, 0))) ∧ Aside0 (wc.heap[gb300]? = some (.cells #[(.slice none 0 0), .int .i64 0] 25 (0, 0))) ∧ Aside0 (Below w.heap.size w wc))
  case first =>
    have H := HC3.out
    clear HC3
    replace H := bindA H
    obtain ⟨t301, A7, H⟩ := H
    try dsimp only at H
    replace H := deqn H
    rcases H with ⟨c8b0, c8b1, H⟩ | ⟨c8b0, c8b1, c8, H⟩
    focus
      (first | rw [c8b0] | (simp only [i64_w, i32_w]; rw [c8b0]) | skip)
      replace H := bindA H
      obtain ⟨t302, A9, H⟩ := H
      try dsimp only at H
      have H' := Aside0.mk H
      clear H
      have hnb10 := NB298_299.out
      have hnc10 := NB299_298.out
      have hnb11 := NB298_300.out
      have hnc11 := NB300_298.out
      obtain ⟨hcz12_0, hcz12_1, hfz12_0, hfz12_1⟩ := blk_at2 BK298.out
    rotate_left
    focus
      (first | rw [c8b0] | (simp only [i64_w, i32_w]; rw [c8b0]) | skip)
      have H' := Aside0.mk H
      clear H
      have hnb17 := NB298_299.out
      have hnc17 := NB299_298.out
      have hnb18 := NB298_300.out
      have hnc18 := NB300_298.out
      obtain ⟨hcz19_0, hcz19_1, hfz19_0, hfz19_1⟩ := blk_at2 BK298.out
    all_goals
      go_wp2_with (first | ((with_reducible refine gate_callee (f := 58) rfl ?_); refine goL_ (some 9) Try.func58 #[.agg #[.slice A0_0 l0_0.length c0_0, .int .i64 a0_1]] ?_; (with_reducible refine (bits_Check.calls k _ _ l0_0 a0_1 t301 _ ?side1 ?side2 A7.out).mono ?_); (case side1 => repeat (first | exact (Kd.C_below HR0_0.out bl_) | (with_reducible refine Kd.C_alloc ?_ _) | (with_reducible refine Kd.C_drewN ?_ _) | (with_reducible refine Kd.C_drew ?_))); (case side2 => exact HC0_0.out); rintro e w7000 ⟨rfl, hb⟩; refine ⟨_, rfl, ?_⟩; have n_ := pk4 (blk_below (bo_ BK298) hb) (blk_below (bo_ BK299) hb) (blk_below (bo_ BK300) hb) (below_step bl_ hb); clear BK298 BK299 BK300 HB; obtain ⟨BK298, BK299, BK300, HB⟩ := n_; (try clear hb); (try (have hnb7000 := NB299_300.out; have hnc7000 := NB300_299.out; have hcz7000_0 : w7000.cell? ⟨gb299, 0, none⟩ = some (.slice A1_0 l1_0.length c1_0) := (blk_cell BK299.out 0).trans rfl; have hcz7000_1 : w7000.cell? ⟨gb299, 1, none⟩ = some (.int .i64 a1_1) := (blk_cell BK299.out 1).trans rfl; have hfz7000_0 := blk_frozen BK299.out 0; have hfz7000_1 := blk_frozen BK299.out 1))) | (go_at_call 58; (with_reducible refine (bits_Check.calls k _ _ l1_0 a1_1 t302 _ ?side1 ?side2 A9.out).mono ?_); (case side1 => exact cb_ HR1_0); (case side2 => exact HC1_0.out); rintro e w7001 ⟨rfl, hb⟩; have n_ := pk4 (blk_below (bo_ BK298) hb) (blk_below (bo_ BK299) hb) (blk_below (bo_ BK300) hb) (below_step bl_ hb); clear BK298 BK299 BK300 HB; obtain ⟨BK298, BK299, BK300, HB⟩ := n_; (try clear hb)))
      go_meet
      first
        | case rel => exact ⟨_, ((t302 != 0)), sm_, H', ⟨om_⟩, ⟨(bo_ BK298)⟩, ⟨(bo_ BK299)⟩, ⟨(bo_ BK300)⟩, ⟨bl_⟩⟩
        | case rel => exact ⟨_, (true), sm_, H', ⟨om_⟩, ⟨(bo_ BK298)⟩, ⟨(bo_ BK299)⟩, ⟨(bo_ BK300)⟩, ⟨bl_⟩⟩
  case rest =>
    clear HC3
    obtain ⟨kq, x15_2, rfl, HA, HJ2, BK298, BK299, BK300, HB⟩ := hcut
    cases kq with
    | zero => exact absurd HA.out (by simp [bits_Join.j0])
    | succ kj2 =>
      have H := HA.out
      clear HA
      simp only [bits_Join.j0] at H
      replace H := dbool H
      rcases H with ⟨rfl, H⟩ | ⟨rfl, H⟩
      focus
        simp only [Option.some.injEq, Prod.mk.injEq] at H
        obtain ⟨rfl, rfl, rfl⟩ := H
        have hnb22 := NB300_298.out
        have hnc22 := NB298_300.out
        have hnb23 := NB300_299.out
        have hnc23 := NB299_300.out
        obtain ⟨hcz24_0, hcz24_1, hfz24_0, hfz24_1⟩ := blk_at2 BK300.out
      rotate_left
      focus
        replace H := bindA H
        obtain ⟨⟨t303, t306⟩, A25, H⟩ := H
        try dsimp only at H
        by_cases c26 : a1_1 > (wrap64 (131072 - t306))
        rotate_left
        · rw [if_neg c26] at H
          have c26b0 : decide ((wrap64 (131072 - t306)) < a1_1) = false := decide_eq_false c26
          have c26b0w : decide ((IntKind.i64.wrap (131072 - t306)) < a1_1) = false := by simpa only [i64_w] using c26b0
          clear c26
          have H' := Aside0.mk H
          clear H
          have hnb36 := NB298_299.out
          have hnc36 := NB299_298.out
          have hnb37 := NB298_300.out
          have hnc37 := NB300_298.out
          obtain ⟨hcz38_0, hcz38_1, hfz38_0, hfz38_1⟩ := blk_at2 BK298.out
          go_wp2_with (first | ((with_reducible refine gate_callee (f := 59) rfl ?_); refine goL_ (some 18) Try.func59 #[.agg #[.slice A0_0 l0_0.length c0_0, .int .i64 a0_1]] ?_; (with_reducible refine (bits_own.calls _ _ l0_0 a0_1 t303 t306 _ ?side1 ?side2 A25.out).mono ?_); (case side1 => exact cb_ HR0_0); (case side2 => exact HC0_0.out); rintro e w39 ⟨v304, rfl, ho0, hb⟩; refine ⟨_, rfl, ?_⟩; have n_ := pk5 (Kd.R_lower ho0 (below_size bl_)) (blk_below (bo_ BK298) hb) (blk_below (bo_ BK299) hb) (blk_below (bo_ BK300) hb) (below_step bl_ hb); clear BK298 BK299 BK300 HB; obtain ⟨HO305, BK298, BK299, BK300, HB⟩ := n_; (try clear hb ho0); obtain ⟨Ao40, co40, eo40⟩ := Kd.R_slice HO305.out; subst eo40; have hcz41_0 : w39.cell? ⟨gb298, 0, none⟩ = some (.slice A0_0 l0_0.length c0_0) := (blk_cell BK298.out 0).trans rfl; have hcz41_1 : w39.cell? ⟨gb298, 1, none⟩ = some (.int .i64 a0_1) := (blk_cell BK298.out 1).trans rfl; have hfz41_0 := blk_frozen BK298.out 0; have hfz41_1 := blk_frozen BK298.out 1; have hnb42 := NB299_300.out; have hnc42 := NB300_299.out; have hcz43_0 : w39.cell? ⟨gb299, 0, none⟩ = some (.slice A1_0 l1_0.length c1_0) := (blk_cell BK299.out 0).trans rfl; have hcz43_1 : w39.cell? ⟨gb299, 1, none⟩ = some (.int .i64 a1_1) := (blk_cell BK299.out 1).trans rfl; have hfz43_0 := blk_frozen BK299.out 0; have hfz43_1 := blk_frozen BK299.out 1))
          go_loopg [6] kj2 (fun kq v6 w' => ∃ (x6_2 : Int) (x299000_2 : List Int) (x299001_2 : Int) (u299000 : Value), v6 = .int .i64 x6_2 ∧ Aside0 (bits_Join.l0 kq x6_2 x299000_2 x299001_2 l1_0 a1_1 = some (r1, r2, r3)) ∧ Aside0 (kq ≤ kj2) ∧ Aside0 (Kd.R (Kd.int .u8) 5 w' w.heap.size (fun _ => True) u299000 x299000_2) ∧ Aside0 (w'.heap[gb298]? = some (.cells #[u299000, .int .i64 x299001_2] 25 (0, 0))) ∧ Aside0 (w'.heap[gb299]? = some (.cells #[(.slice A1_0 l1_0.length c1_0), .int .i64 a1_1] 25 (0, 0))) ∧ Aside0 (w'.heap[gb300]? = some (.cells #[(.slice none 0 0), .int .i64 0] 25 (0, 0))) ∧ Aside0 (Below w.heap.size w w'))
          case atStart => exact ⟨(0), (t303), (t306), (.slice Ao40 t303.length co40), sm_, H', ⟨Nat.le_refl _⟩, ⟨(rt_ (Kd.R_mono (Kd.R_far (p := ⟨gb298, 1, none⟩) (Kd.R_far (p := ⟨gb298, 0, none⟩) (Kd.R_types HO305.out BK298.out (by decide)) (fun _ hk => hk.2) (.slice Ao40 t303.length co40)) (fun _ hk => hk.2) (.int .i64 t306)) (fun _ hk => trivial)))⟩, ⟨by (with_reducible repeat (first | refine blk_drewN ?_ _ | refine blk_drew ?_ | refine blk_alloc ?_ _)); refine blk_put (cs := #[.slice Ao40 t303.length co40, .int .i64 a0_1]) ?_ 1 _ rfl; (with_reducible repeat (first | refine blk_drewN ?_ _ | refine blk_drew ?_ | refine blk_alloc ?_ _)); refine blk_put (cs := #[.slice A0_0 l0_0.length c0_0, .int .i64 a0_1]) ?_ 0 _ rfl; exact (bo_ BK298)⟩, ⟨by (with_reducible repeat (first | refine blk_drewN ?_ _ | refine blk_drew ?_ | refine blk_alloc ?_ _)); refine blk_far ?_ NB299_298.out _; (with_reducible repeat (first | refine blk_drewN ?_ _ | refine blk_drew ?_ | refine blk_alloc ?_ _)); refine blk_far ?_ NB299_298.out _; exact (bo_ BK299)⟩, ⟨by (with_reducible repeat (first | refine blk_drewN ?_ _ | refine blk_drew ?_ | refine blk_alloc ?_ _)); refine blk_far ?_ NB300_298.out _; (with_reducible repeat (first | refine blk_drewN ?_ _ | refine blk_drew ?_ | refine blk_alloc ?_ _)); refine blk_far ?_ NB300_298.out _; exact (bo_ BK300)⟩, ⟨bl_⟩⟩
          case round =>
            clear H'
            try clear c21
            try clear c26
            try clear c26b0
            try clear hcz38_0
            try clear hcz38_1
            try clear hfz38_0
            try clear hfz38_1
            obtain ⟨x6_2, x299000_2, x299001_2, u299000, rfl, HA, HK2, HO_299000, BK298, BK299, BK300, HB⟩ := hrel
            cases gk with
            | zero => exact absurd HA.out (by simp [bits_Join.l0])
            | succ k2 =>
              have H := HA.out
              clear HA
              simp only [bits_Join.l0] at H
              replace H := dle H
              rcases H with ⟨c44b0, H⟩ | ⟨c44b0, H⟩
              focus
                obtain ⟨ji45, hji45⟩ : ∃ j_ : Int, (mn 64 (wrap64 (a1_1 - x6_2))) = j_ := ⟨_, rfl⟩
                replace H : ((bits_get.f k2 l1_0 a1_1 x6_2 (ji45)).bind fun t307 => ((bits_put.f k2 x299000_2 x299001_2 t307 (ji45)).bind fun bt308 => (bits_Join.l0 k2 (wrap64 (x6_2 + 64)) bt308.1 bt308.2 l1_0 a1_1))) = some (r1, r2, r3) := by first | (rw [hji45] at H; exact H) | (simp only [hji45] at H ⊢; exact H)
                have hji45_ : (if (wrap64 (a1_1 - x6_2)) < 64 then (wrap64 (a1_1 - x6_2)) else 64) = ji45 := hji45
                replace H := bindA H
                obtain ⟨t307, A46, H⟩ := H
                try dsimp only at H
                replace H := bindA H
                obtain ⟨⟨t308, t311⟩, A47, H⟩ := H
                try dsimp only at H
                have H' := Aside0.mk H
                clear H
                have hnb48 := NB299_298.out
                have hnc48 := NB298_299.out
                have hnb49 := NB299_300.out
                have hnc49 := NB300_299.out
                obtain ⟨hcz50_0, hcz50_1, hfz50_0, hfz50_1⟩ := blk_at2 BK299.out
              rotate_left
              focus
                simp only [Option.some.injEq, Prod.mk.injEq] at H
                obtain ⟨rfl, rfl, rfl⟩ := H
                have hnb58 := NB299_298.out
                have hnc58 := NB298_299.out
                have hnb59 := NB299_300.out
                have hnc59 := NB300_299.out
                obtain ⟨hcz60_0, hcz60_1, hfz60_0, hfz60_1⟩ := blk_at2 BK299.out
                have hnb61 := NB298_300.out
                have hnc61 := NB300_298.out
                obtain ⟨hcz62_0, hcz62_1, hfz62_0, hfz62_1⟩ := blk_at2 BK298.out
                obtain ⟨Ao63, co63, eo63⟩ := Kd.R_slice HO_299000.out
                subst eo63
                obtain ⟨hcz64_0, hcz64_1, hfz64_0, hfz64_1⟩ := blk_at2 BK300.out
              all_goals
                first
                  | try go_wp2
                    have n_ := pk5 (Kd.R_drew HO_299000.out) (blk_drew BK298.out) (blk_drew BK299.out) (blk_drew BK300.out) (below_drew1 HB.out)
                    clear HO_299000 BK298 BK299 BK300 HB
                    obtain ⟨HO_299000, BK298, BK299, BK300, HB⟩ := n_
                    refine start_ (n := 8) (S := fun w' => w'.cell? ⟨gb298, 0, none⟩ = some (u299000) ∧ w'.cell? ⟨gb298, 1, none⟩ = some (.int .i64 x299001_2) ∧ w'.cell? ⟨gb299, 0, none⟩ = some (.slice A1_0 l1_0.length c1_0) ∧ w'.cell? ⟨gb299, 1, none⟩ = some (.int .i64 a1_1)) (ds := [7]) #[false, false, false, false, false, false, false, false] (by kernel_rfl) rfl rfl ⟨(blk_cell BK298.out 0).trans rfl, (blk_cell BK298.out 1).trans rfl, (blk_cell BK299.out 0).trans rfl, (blk_cell BK299.out 1).trans rfl⟩ (fun hHeld => ?_); refine with_tabW bits_Join.tab10 bits_Join.bits10 (fun HT_ HW_ => ?_)
                    generalize wr.drew = w7000 at HO_299000 BK298 BK299 BK300 HB hHeld ⊢
                    refine pure_ (i := 2) (N := some 39) (v := ?_) (a' := ?_) #[false, false, true, false, false, false, false, false] rfl rfl (any_of HT_.out (by kernel_rfl)) (fun _ _ _ h => h) (Or.inl ⟨by rfl, ?_⟩) ?_ ?_
                    rotate_left
                    · intro w'
                      go_simp
                      with_reducible rfl
                    rotate_left
                    · simp only [ap_, sb_, s0_, s1_, i64_w, i32_w]
                      rfl
                    refine pure_ (i := 3) (N := some 40) (v := ?_) (a' := ?_) #[false, false, true, true, false, false, false, false] rfl rfl (any_of HT_.out (by kernel_rfl)) (fun _ _ _ h => h) (Or.inl ⟨by rfl, ?_⟩) ?_ ?_
                    rotate_left
                    · intro w'
                      go_simp
                      with_reducible rfl
                    rotate_left
                    · simp only [ap_, sb_, s0_, s1_, i64_w, i32_w]
                      rfl
                    refine pure_ (i := 5) (N := some 42) (v := ?_) (a' := ?_) #[false, false, true, true, false, true, false, false] rfl rfl (any_of HT_.out (by kernel_rfl)) (fun _ _ _ h => h) (Or.inl ⟨by rfl, ?_⟩) ?_ ?_
                    rotate_left
                    · intro w'
                      go_simp
                      with_reducible rfl
                    rotate_left
                    · simp only [ap_, sb_, s0_, s1_, i64_w, i32_w]
                      rfl
                    refine take_ (i := 0) (N := some 37) (v := ?_) (a' := ?_) #[true, false, true, true, false, true, false, false] rfl rfl (take_ofW HT_.out HW_.out (by kernel_rfl)) (fun _ _ _ h => h) (Or.inl ⟨by rfl, ?_⟩) hHeld ?_ ?_
                    rotate_left
                    · rintro w' ⟨s7000, s7001, s7002, s7003⟩
                      go_simp
                      with_reducible rfl
                    rotate_left
                    · simp only [ap_, sb_, s0_, s1_, i64_w, i32_w]
                      rfl
                    refine take_ (i := 1) (N := some 38) (v := ?_) (a' := ?_) #[true, true, true, true, false, true, false, false] rfl rfl (take_ofW HT_.out HW_.out (by kernel_rfl)) (fun _ _ _ h => h) (Or.inl ⟨by rfl, ?_⟩) hHeld ?_ ?_
                    rotate_left
                    · rintro w' ⟨s7000, s7001, s7002, s7003⟩
                      go_simp
                      with_reducible rfl
                    rotate_left
                    · simp only [ap_, sb_, s0_, s1_, i64_w, i32_w]
                      rfl
                    refine one_ (i := 4) (N := some 41) #[true, true, true, true, true, true, false, false] rfl rfl (one_of HT_.out (by kernel_rfl)) (by decide) (fun K hK => ?_)
                    refine goes_ Try.func65 (by kernel_rfl) rfl #[.agg #[.slice A1_0 l1_0.length c1_0, .int .i64 a1_1], .int .i64 x6_2, .int .i64 ji45] (by rfl) rfl rfl (by (try simp only [List.map_toArray, List.map_cons, List.map_nil]); first | done | (simp only [hji45]; rfl) | rfl | (simp only [List.length_drop, List.length_take]; rfl)) ?_
                    with_reducible refine (bits_get.calls k2 _ _ l1_0 a1_1 x6_2 ji45 t307 _ ?side1 ?side2 A46.out).mono ?_
                    (case side1 => exact cb_ HR1_0)
                    (case side2 => exact HC1_0.out)
                    rintro e w7001 ⟨rfl, hb⟩
                    refine ⟨_, rfl, ?_⟩
                    have n_ := pk5 (Kd.R_below (ro_ HO_299000) hb) (blk_below (bo_ BK298) hb) (blk_below (bo_ BK299) hb) (blk_below (bo_ BK300) hb) (below_step bl_ hb)
                    clear HO_299000 BK298 BK299 BK300 HB
                    obtain ⟨HO_299000, BK298, BK299, BK300, HB⟩ := n_
                    (try clear hb)
                    (try clear hb2)
                    (try clear hk)
                    (try clear hi)
                    obtain ⟨Ao7000, co7000, eo7000⟩ := Kd.R_slice HO_299000.out
                    (first | subst eo7000 | (injection eo7000 with f1_ f2_ f3_; have f7000_ := f1_.symm; have f7001_ := f3_.symm; clear f1_ f2_ f3_; subst f7000_; subst f7001_))
                    refine hK.out _ _ ⟨(blk_cell BK298.out 0).trans rfl, (blk_cell BK298.out 1).trans rfl, (blk_cell BK299.out 0).trans rfl, (blk_cell BK299.out 1).trans rfl⟩ (fun hHeld => ?_)
                    clear hK K
                    refine norm_ (a' := ?_) ?_ ?_
                    rotate_left
                    · show Act.put _ (some 41) _ = _
                      simp only [ap_, sb_, s0_, s1_, i64_w, i32_w]
                      rfl
                    refine one_ (i := 6) (N := some 43) #[true, true, true, true, true, true, true, false] rfl rfl (one_of HT_.out (by kernel_rfl)) (by decide) (fun K hK => ?_)
                    refine goes_ Try.func61 (by kernel_rfl) rfl #[.agg #[.slice Ao7000 x299000_2.length co7000, .int .i64 x299001_2], .int .u64 t307, .int .i64 ji45] (by rfl) rfl rfl (by (try simp only [List.map_toArray, List.map_cons, List.map_nil]); first | done | (simp only [hji45]; rfl) | rfl | (simp only [List.length_drop, List.length_take]; rfl)) ?_
                    with_reducible refine (bits_put.calls k2 (fun k_ => some k_ = (.slice Ao7000 x299000_2.length co7000 : Value).ownBlock) (.slice Ao7000 x299000_2.length co7000) x299000_2 x299001_2 t307 ji45 t308 t311 w _ ?side1 ?side2 A47.out).mono ?_
                    (case side1 => exact bl_)
                    (case side2 => exact Kd.R_tight rfl HO_299000.out)
                    rintro e w7002 ⟨v7000, rfl, ho0, hb, hkp⟩
                    refine ⟨_, rfl, ?_⟩
                    have n_ := pk5 (blk_kept (bo_ BK298) hkp (fun hs_ => (fun e_ => (Kd.R_ne HO_299000.out BK298.out (by decide)) e_) hs_)) (blk_kept (bo_ BK299) hkp (fun hs_ => (fun e_ => (Kd.R_ne HO_299000.out BK299.out (by decide)) e_) hs_)) (blk_kept (bo_ BK300) hkp (fun hs_ => (fun e_ => (Kd.R_ne HO_299000.out BK300.out (by decide)) e_) hs_)) (Kd.R_mono (ok' := fun k_ => True) ho0 (fun k_ hk_ => trivial)) (hb)
                    clear BK298 BK299 BK300 HB HO_299000
                    obtain ⟨BK298, BK299, BK300, HO7000, HB⟩ := n_
                    (try clear hb)
                    (try clear hkp)
                    (try clear ho0)
                    obtain ⟨Ao7001, co7001, eo7001⟩ := Kd.R_slice HO7000.out
                    (first | subst eo7001 | (injection eo7001 with f1_ f2_ f3_; have f7000_ := f1_.symm; have f7001_ := f3_.symm; clear f1_ f2_ f3_; subst f7000_; subst f7001_))
                    refine hK.out _ _ ⟨(blk_cell BK298.out 0).trans rfl, (blk_cell BK298.out 1).trans rfl, (blk_cell BK299.out 0).trans rfl, (blk_cell BK299.out 1).trans rfl⟩ (fun hHeld => ?_)
                    clear hK K
                    refine norm_ (a' := ?_) ?_ ?_
                    rotate_left
                    · show Act.put _ (some 43) _ = _
                      simp only [ap_, sb_, s0_, s1_, i64_w, i32_w]
                      rfl
                    refine last_ (i := 7) (N := none) #[true, true, true, true, true, true, true, true] rfl rfl (one_of HT_.out (by kernel_rfl)) (by decide) (fun K hK => ?_)
                    have hs7000 : w7002.cell? ⟨gb298, 0, none⟩ = some (.slice Ao7000 x299000_2.length co7000) := (blk_cell BK298.out 0).trans rfl
                    have hfs7000 := blk_frozen BK298.out 0
                    have hns7000_1 := NB299_298.out
                    have hns7000_2 := NB300_298.out
                    have hms7000_1 := NB298_299.out
                    have hms7000_2 := NB298_300.out
                    have hs7001 : w7002.cell? ⟨gb298, 1, none⟩ = some (.int .i64 x299001_2) := (blk_cell BK298.out 1).trans rfl
                    have hfs7001 := blk_frozen BK298.out 1
                    have hns7001_1 := NB299_298.out
                    have hns7001_2 := NB300_298.out
                    have hms7001_1 := NB298_299.out
                    have hms7001_2 := NB298_300.out
                    refine skip_ (w1 := ?_) (by rfl) rfl ?_ ?_
                    rotate_left
                    · go_simp
                      rfl
                    refine hK.out _ _ ?_
                    clear hK K
                    refine done_ (done_of HT_.out (by kernel_rfl)) ?_
                    try go_wp2
                    go_roundg k2
                    case measure => have := HJ2.out; have := HK2.out; omega
                    case rel => exact ⟨(wrap64 (x6_2 + 64)), (t308), (t311), (.slice Ao7001 t308.length co7001), sm_, H', ⟨by have := HJ2.out; have := HK2.out; omega⟩, ⟨(rt_ (Kd.R_mono (Kd.R_far (p := ⟨gb298, 1, none⟩) (Kd.R_far (p := ⟨gb298, 0, none⟩) (Kd.R_types HO7000.out BK298.out (by decide)) (fun _ hk => hk.2) (.slice Ao7001 t308.length co7001)) (fun _ hk => hk.2) (.int .i64 t311)) (fun _ hk => trivial)))⟩, ⟨by (with_reducible repeat (first | refine blk_drewN ?_ _ | refine blk_drew ?_ | refine blk_alloc ?_ _)); refine blk_put (cs := #[.slice Ao7001 t308.length co7001, .int .i64 x299001_2]) ?_ 1 _ rfl; (with_reducible repeat (first | refine blk_drewN ?_ _ | refine blk_drew ?_ | refine blk_alloc ?_ _)); refine blk_put (cs := #[.slice Ao7000 x299000_2.length co7000, .int .i64 x299001_2]) ?_ 0 _ rfl; exact (bo_ BK298)⟩, ⟨by (with_reducible repeat (first | refine blk_drewN ?_ _ | refine blk_drew ?_ | refine blk_alloc ?_ _)); refine blk_far ?_ NB299_298.out _; (with_reducible repeat (first | refine blk_drewN ?_ _ | refine blk_drew ?_ | refine blk_alloc ?_ _)); refine blk_far ?_ NB299_298.out _; exact (bo_ BK299)⟩, ⟨by (with_reducible repeat (first | refine blk_drewN ?_ _ | refine blk_drew ?_ | refine blk_alloc ?_ _)); refine blk_far ?_ NB300_298.out _; (with_reducible repeat (first | refine blk_drewN ?_ _ | refine blk_drew ?_ | refine blk_alloc ?_ _)); refine blk_far ?_ NB300_298.out _; exact (bo_ BK300)⟩, ⟨bl_⟩⟩
                  | go_wp2
                    refine bodyPost_ret (results_ct rfl _ _ gb300 25 #[.slice Ao63 x299000_2.length co63, .int .i64 x299001_2] (0, 0) _ rfl (by (with_reducible repeat (first | refine blk_drewN ?_ _ | refine blk_drew ?_ | refine blk_alloc ?_ _)); refine blk_put (cs := #[.slice Ao63 x299000_2.length co63, .int .i64 0]) ?_ 1 _ rfl; (with_reducible repeat (first | refine blk_drewN ?_ _ | refine blk_drew ?_ | refine blk_alloc ?_ _)); refine blk_put (cs := #[.slice none 0 0, .int .i64 0]) ?_ 0 _ rfl; exact (bo_ BK300)) Try.underlying25 rfl (by kernel_rfl)) rfl ?_
                    exact ⟨_, rf_, (rt_ (Kd.R_mono (Kd.R_far (p := ⟨gb300, 1, none⟩) (Kd.R_far (p := ⟨gb300, 0, none⟩) (Kd.R_types HO_299000.out BK300.out (by decide)) (fun _ hk => hk.2) (.slice Ao63 x299000_2.length co63)) (fun _ hk => hk.2) (.int .i64 x299001_2)) (fun _ hk => trivial))), bl_⟩
        rw [if_pos c26] at H
        have c26b0 : decide ((wrap64 (131072 - t306)) < a1_1) = true := decide_eq_true c26
        have c26b0w : decide ((IntKind.i64.wrap (131072 - t306)) < a1_1) = true := by simpa only [i64_w] using c26b0
        clear c26
        simp only [Option.some.injEq, Prod.mk.injEq] at H
        obtain ⟨rfl, rfl, rfl⟩ := H
        have hnb27 := NB298_299.out
        have hnc27 := NB299_298.out
        have hnb28 := NB298_300.out
        have hnc28 := NB300_298.out
        obtain ⟨hcz29_0, hcz29_1, hfz29_0, hfz29_1⟩ := blk_at2 BK298.out
      all_goals
        go_wp2_with (first | ((with_reducible refine gate_callee (f := 59) rfl ?_); refine goL_ (some 18) Try.func59 #[.agg #[.slice A0_0 l0_0.length c0_0, .int .i64 a0_1]] ?_; (with_reducible refine (bits_own.calls _ _ l0_0 a0_1 t303 t306 _ ?side1 ?side2 A25.out).mono ?_); (case side1 => exact cb_ HR0_0); (case side2 => exact HC0_0.out); rintro e w7100 ⟨v304, rfl, ho0, hb⟩; refine ⟨_, rfl, ?_⟩; have n_ := pk5 (Kd.R_lower ho0 (below_size bl_)) (blk_below (bo_ BK298) hb) (blk_below (bo_ BK299) hb) (blk_below (bo_ BK300) hb) (below_step bl_ hb); clear BK298 BK299 BK300 HB; obtain ⟨HO305, BK298, BK299, BK300, HB⟩ := n_; (try clear hb ho0); obtain ⟨Ao7100, co7100, eo7100⟩ := Kd.R_slice HO305.out; subst eo7100; have hcz7100_0 : w7100.cell? ⟨gb298, 0, none⟩ = some (.slice A0_0 l0_0.length c0_0) := (blk_cell BK298.out 0).trans rfl; have hcz7100_1 : w7100.cell? ⟨gb298, 1, none⟩ = some (.int .i64 a0_1) := (blk_cell BK298.out 1).trans rfl; have hfz7100_0 := blk_frozen BK298.out 0; have hfz7100_1 := blk_frozen BK298.out 1; have hnb7100 := NB299_300.out; have hnc7100 := NB300_299.out; have hcz7101_0 : w7100.cell? ⟨gb299, 0, none⟩ = some (.slice A1_0 l1_0.length c1_0) := (blk_cell BK299.out 0).trans rfl; have hcz7101_1 : w7100.cell? ⟨gb299, 1, none⟩ = some (.int .i64 a1_1) := (blk_cell BK299.out 1).trans rfl; have hfz7101_0 := blk_frozen BK299.out 0; have hfz7101_1 := blk_frozen BK299.out 1; have hcz7102_0 : w7100.cell? ⟨gb300, 0, none⟩ = some (.slice none 0 0) := (blk_cell BK300.out 0).trans rfl; have hcz7102_1 : w7100.cell? ⟨gb300, 1, none⟩ = some (.int .i64 0) := (blk_cell BK300.out 1).trans rfl; have hfz7102_0 := blk_frozen BK300.out 0; have hfz7102_1 := blk_frozen BK300.out 1))
        first
          | refine bodyPost_ret (results_ct rfl _ _ gb300 25 #[.slice none 0 0, .int .i64 0] (0, 0) _ rfl (by (with_reducible repeat (first | refine blk_drewN ?_ _ | refine blk_drew ?_ | refine blk_alloc ?_ _)); refine blk_put (cs := #[.slice none 0 0, .int .i64 0]) ?_ 1 _ rfl; (with_reducible repeat (first | refine blk_drewN ?_ _ | refine blk_drew ?_ | refine blk_alloc ?_ _)); refine blk_put (cs := #[.slice none 0 0, .int .i64 0]) ?_ 0 _ rfl; exact (bo_ BK300)) Try.underlying25 rfl (by kernel_rfl)) rfl ?_
            exact ⟨_, rf_, nl_, bl_⟩
          | refine bodyPost_ret (results_ct rfl _ _ gb300 25 #[.slice Ao7100 t303.length co7100, .int .i64 t306] (0, 0) _ rfl (by (with_reducible repeat (first | refine blk_drewN ?_ _ | refine blk_drew ?_ | refine blk_alloc ?_ _)); refine blk_put (cs := #[.slice Ao7100 t303.length co7100, .int .i64 0]) ?_ 1 _ rfl; (with_reducible repeat (first | refine blk_drewN ?_ _ | refine blk_drew ?_ | refine blk_alloc ?_ _)); refine blk_put (cs := #[.slice none 0 0, .int .i64 0]) ?_ 0 _ rfl; (with_reducible repeat (first | refine blk_drewN ?_ _ | refine blk_drew ?_ | refine blk_alloc ?_ _)); refine blk_far ?_ NB300_298.out _; (with_reducible repeat (first | refine blk_drewN ?_ _ | refine blk_drew ?_ | refine blk_alloc ?_ _)); refine blk_far ?_ NB300_298.out _; exact (bo_ BK300)) Try.underlying25 rfl (by kernel_rfl)) rfl ?_
            exact ⟨_, rf_, (rt_ (Kd.R_mono (Kd.R_far (p := ⟨gb300, 1, none⟩) (Kd.R_far (p := ⟨gb300, 0, none⟩) (Kd.R_far (p := ⟨gb298, 1, none⟩) (Kd.R_far (p := ⟨gb298, 0, none⟩) (Kd.R_types (Kd.R_types HO305.out BK298.out (by decide)) BK300.out (by decide)) (fun _ hk => hk.1.2) (.slice Ao7100 t303.length co7100)) (fun _ hk => hk.1.2) (.int .i64 t306)) (fun _ hk => hk.2) (.slice Ao7100 t303.length co7100)) (fun _ hk => hk.2) (.int .i64 t306)) (fun _ hk => trivial))), bl_⟩
def windroseref17_Same.f (l0_0 : List Int) (a0_1 : Int) (l1_0 : List Int) (a1_1 : Int) : Option (Bool) := if a0_1 = a1_1 then (some ((strOfNums l0_0).toList == (strOfNums l1_0).toList)) else (some false)
set_option maxHeartbeats 8000000 in
set_option maxRecDepth 100000 in
theorem windroseref17_Same.calls (A0_0 : Option Addr) (c0_0 : Nat) (l0_0 : List Int) (a0_1 : Int) (A1_0 : Option Addr) (c1_0 : Nat) (l1_0 : List Int) (a1_1 : Int) (r : Bool) (w : World) (hr0_0 : Kd.C (Kd.int .u8) w A0_0 l0_0.length l0_0) (hc0_0 : l0_0.length ≤ c0_0) (hr1_0 : Kd.C (Kd.int .u8) w A1_0 l1_0.length l1_0) (hc1_0 : l1_0.length ≤ c1_0) (h : windroseref17_Same.f l0_0 a0_1 l1_0 a1_1 = some r) :
    Calls Try.prog 66 #[.agg #[.slice A0_0 l0_0.length c0_0, .int .i64 a0_1], .agg #[.slice A1_0 l1_0.length c1_0, .int .i64 a1_1]] w fun e w' => e = .returned (.bool r) ∧ Below w.heap.size w w' := by
  have hu25 := Try.underlying25
  have HR0_0 := Aside0.mk hr0_0
  have HC0_0 := Aside0.mk hc0_0
  clear hr0_0 hc0_0
  have HR1_0 := Aside0.mk hr1_0
  have HC1_0 := Aside0.mk hc1_0
  clear hr1_0 hc1_0
  have HB := Aside0.mk (Below.refl w.heap.size w)
  have H : (if a0_1 = a1_1 then (some ((strOfNums l0_0).toList == (strOfNums l1_0).toList)) else (some false)) = some r := h
  clear h
  replace H := deqn H
  rcases H with ⟨c3b0, c3b1, H⟩ | ⟨c3b0, c3b1, c3, H⟩
  focus
    obtain rfl := Option.some.inj H
  rotate_left
  focus
    obtain rfl := Option.some.inj H
  all_goals
    go_enter Try.func66, Try.ntmps66
    go_wp2_with (first | ((with_reducible refine gate_dst (N := 2) rfl ?_); refine box_ev 2 #[.slice A0_0 l0_0.length c0_0, .int .i64 a0_1] 25 ?_; intro gb7000 hg w7000 hbox hb; have n_ := pk4 (below_step bl_ hb) (hbox) ((ge_ hg bl_ : w.heap.size ≤ gb7000)) ((ge_ hg bl_ : w.heap.size ≤ gb7000)); clear HB; obtain ⟨HB, BK7000, GW7000, GE7000⟩ := n_; clear hb hbox hg) | ((with_reducible refine gate_dst (N := 3) rfl ?_); refine box_ev 3 #[.slice A1_0 l1_0.length c1_0, .int .i64 a1_1] 25 ?_; intro gb7001 hg w7001 hbox hb; have n_ := pk7 (blk_below (bo_ BK7000) hb) (below_step bl_ hb) (hbox) ((ge_ hg bl_ : w.heap.size ≤ gb7001)) ((ge_ hg bl_ : w.heap.size ≤ gb7001)) ((nb_ hg (bo_ BK7000) : gb7000 ≠ gb7001)) ((nc_ hg (bo_ BK7000) : gb7001 ≠ gb7000)); clear BK7000 HB; obtain ⟨BK7000, HB, BK7001, GW7001, GE7001, NB7000_7001, NB7001_7000⟩ := n_; clear hb hbox hg; have hnb7000 := NB7000_7001.out; have hnc7000 := NB7001_7000.out; have hcz7000_0 : w7001.cell? ⟨gb7000, 0, none⟩ = some (.slice A0_0 l0_0.length c0_0) := (blk_cell BK7000.out 0).trans rfl; have hcz7000_1 : w7001.cell? ⟨gb7000, 1, none⟩ = some (.int .i64 a0_1) := (blk_cell BK7000.out 1).trans rfl; have hfz7000_0 := blk_frozen BK7000.out 0; have hfz7000_1 := blk_frozen BK7000.out 1; have hcz7001_0 : w7001.cell? ⟨gb7001, 0, none⟩ = some (.slice A1_0 l1_0.length c1_0) := (blk_cell BK7001.out 0).trans rfl; have hcz7001_1 : w7001.cell? ⟨gb7001, 1, none⟩ = some (.int .i64 a1_1) := (blk_cell BK7001.out 1).trans rfl; have hfz7001_0 := blk_frozen BK7001.out 0; have hfz7001_1 := blk_frozen BK7001.out 1; (try (have hcv7000 := Kd.C_string (P := Try.prog) (A := A0_0) (c := c0_0) Try.underlying23 Try.underlying5 Try.underlying9 (Kd.C_below HR0_0.out HB.out); have hcv7001 := Kd.C_string (P := Try.prog) (A := A1_0) (c := c1_0) Try.underlying23 Try.underlying5 Try.underlying9 (Kd.C_below HR1_0.out HB.out)))))
    go_ret
    exact ⟨rf_, bl_⟩
end Go.Proofs.Ytmddmbagehjdeaa.G
end
section
namespace Go.Proofs.Ytmddmbagehjdeaa.G
open Go.RowKit Go.Proofs.YtmddmbagehjdeaaX Go.Proofs.YtmddmbagehjdeaaW.PrintWords Go.Proofs.YtmddmbagehjdeaaW.PrintLast Go.Proofs.YtmddmbagehjdeaaW.PrintMore
attribute [local go_sem] max2_int min2_int max_two min_two max_three min_three max_four min_four
def windroseref17_Of.l0 : Nat → List Bool → List Int → Int → Option (List Int × Int)
  | 0, _, _, _ => none
  | k + 1, x0, x3, x4 => if x4 < (x0.length : Int) then (if 0 ≤ x4 then (if rdOf false x0 x4 = true then (if 0 ≤ (wrap64 (Int.tdiv x4 8)) then (if (wrap64 (Int.tdiv x4 8)) < (x3.length : Int) then (if 0 ≤ (IntKind.u64.wrap (wrap64 (7 - (Int.tmod x4 8)))) then (windroseref17_Of.l0 k x0 (x3.set ((wrap64 (Int.tdiv x4 8)) : Int).toNat (((rd x3 (wrap64 (Int.tdiv x4 8))) + (shl .u8 1 (IntKind.u64.wrap (wrap64 (7 - (Int.tmod x4 8)))))) % 256)) (wrap64 (x4 + 1))) else (none)) else (none)) else (none)) else (windroseref17_Of.l0 k x0 x3 (wrap64 (x4 + 1)))) else (none)) else (some (x3, (x0.length : Int)))
def windroseref17_Of.f (k : Nat) (l0 : List Bool) : Option (List Int × Int) := if 0 ≤ (wrap64 (Int.tdiv (wrap64 ((l0.length : Int) + 7)) 8)) then (if (wrap64 (Int.tdiv (wrap64 ((l0.length : Int) + 7)) 8) : Int).toNat ≤ 281474976710656 then (windroseref17_Of.l0 k l0 (List.replicate (wrap64 (Int.tdiv (wrap64 ((l0.length : Int) + 7)) 8) : Int).toNat 0) 0) else (none)) else (none)
set_option maxHeartbeats 8000000 in
set_option maxRecDepth 100000 in
theorem windroseref17_Of.calls (k : Nat) (A0 : Option Addr) (c0 : Nat) (l0 : List Bool) (r1 : List Int) (r2 : Int) (w : World) (hr0 : Kd.C Kd.bool w A0 l0.length l0) (hc0 : l0.length ≤ c0) (h : windroseref17_Of.f k l0 = some (r1, r2)) :
    Calls Try.prog 67 #[.slice A0 l0.length c0] w fun e w' => ∃ v0_ : Value, e = .returned (.agg #[v0_, .int .i64 r2]) ∧ Kd.R (Kd.int .u8) 5 w' w.heap.size (fun _ => True) v0_ r1 ∧ Below w.heap.size w w' := by
  have hu25 := Try.underlying25
  have HR0 := Aside0.mk hr0
  have HC0 := Aside0.mk hc0
  clear hr0 hc0
  have HB := Aside0.mk (Below.refl w.heap.size w)
  have H : (if 0 ≤ (wrap64 (Int.tdiv (wrap64 ((l0.length : Int) + 7)) 8)) then (if (wrap64 (Int.tdiv (wrap64 ((l0.length : Int) + 7)) 8) : Int).toNat ≤ 281474976710656 then (windroseref17_Of.l0 k l0 (List.replicate (wrap64 (Int.tdiv (wrap64 ((l0.length : Int) + 7)) 8) : Int).toNat 0) 0) else (none)) else (none)) = some (r1, r2) := h
  clear h
  obtain ⟨ji2, hji2⟩ : ∃ j_ : Int, (wrap64 (Int.tdiv (wrap64 ((l0.length : Int) + 7)) 8)) = j_ := ⟨_, rfl⟩
  replace H : (if 0 ≤ (ji2) then (if (ji2 : Int).toNat ≤ 281474976710656 then (windroseref17_Of.l0 k l0 (List.replicate (ji2 : Int).toNat 0) 0) else (none)) else (none)) = some (r1, r2) := by first | (rw [hji2] at H; exact H) | (simp only [hji2] at H ⊢; exact H)
  have hji2w : (IntKind.i64.wrap (Int.tdiv (wrap64 ((l0.length : Int) + 7)) 8)) = ji2 := (i64_w _).trans hji2
  by_cases c3 : 0 ≤ (ji2)
  · rw [if_pos c3] at H
    have c3b0 := eq_true c3
    have c3b1 : decide (0 ≤ (ji2)) = true := decide_eq_true c3
    clear c3
    by_cases c4 : (ji2 : Int).toNat ≤ 281474976710656
    · rw [if_pos c4] at H
      have c4b0 := eq_true c4
      have c4b1 : decide ((ji2 : Int).toNat ≤ 281474976710656) = true := decide_eq_true c4
      clear c4
      obtain ⟨y315, hy315⟩ : ∃ y_ : List Int, y_ = (List.replicate (ji2 : Int).toNat 0) := ⟨_, rfl⟩
      replace H : (windroseref17_Of.l0 k l0 y315 0) = some (r1, r2) := by first | (rw [hy315]; with_reducible exact H) | (have H2_ := (Option.bind_some _ _).symm.trans H; rw [hy315]; with_reducible exact H2_) | (have H2_ := (Option.bind_some _ _).symm.trans H; with_reducible exact H2_) | with_reducible exact H | (rw [hy315]; exact H) | exact H
      have Ny315 := Aside0.mk hy315
      clear hy315
      have H' := Aside0.mk H
      clear H
      go_enter Try.func67, Try.ntmps67
      go_wp2_with (first | ((with_reducible refine gate_dst (N := 2) rfl ?_); refine box_ev 2 #[.slice none 0 0, .int .i64 0] 25 ?_; intro gb314 hg w5 hbox hb; have n_ := pk4 (below_step bl_ hb) (hbox) ((ge_ hg bl_ : w.heap.size ≤ gb314)) ((ge_ hg bl_ : w.heap.size ≤ gb314)); clear HB; obtain ⟨HB, BK314, GW314, GE314⟩ := n_; clear hb hbox hg) | ((with_reducible refine gate_dst (N := 9) rfl ?_); refine Kd.R_make (Kd.int .u8) _ 5 rfl (N := 9) rfl 23 _ _ rfl ji2 rfl rfl Try.underlying23 (.int .u8 0) 1 info5 rfl (by decide) (by omega) 0 (ok := fun _ => True) (okp := fun _ => True) rfl (fun _ hk => hk) trivial dc_ (Nat.le_trans (Nat.mul_le_mul_right _ (dc_ : ji2.toNat ≤ 281474976710656)) (by omega)) (Below.refl _ _) (Nat.le_refl _) ?_; intro v316 w6 ho7 hb hg_ hnew_; clear hg_ hnew_; (first | rw [← Ny315.out] at ho7 | (simp only [Int.reduceToNat] at ho7; rw [← Ny315.out] at ho7)); have n_ := pk3 (Kd.R_lower ho7 (below_size bl_)) (blk_below (bo_ BK314) hb) (below_step bl_ hb); clear BK314 HB; obtain ⟨HO317, BK314, HB⟩ := n_; clear hb ho7))
      go_loopg [4] k (fun kq v4 w' => ∃ (x3_1 : List Int) (x4_1 : Int), v4 = .int .i64 x4_1 ∧ Aside0 (windroseref17_Of.l0 kq l0 x3_1 x4_1 = some (r1, r2)) ∧ Aside0 (kq ≤ k) ∧ Aside0 (Kd.R (Kd.int .u8) 5 w' w.heap.size (fun _ => True) v316 x3_1) ∧ Aside0 (w'.heap[gb314]? = some (.cells #[(.slice none 0 0), .int .i64 0] 25 (0, 0))) ∧ Aside0 (Below w.heap.size w w'))
      case atStart => exact ⟨(y315), (0), sm_, H', ⟨Nat.le_refl _⟩, ⟨(ro_ HO317)⟩, ⟨(bo_ BK314)⟩, ⟨bl_⟩⟩
      case round =>
        clear H'
        try clear c3
        try clear c3b0
        try clear c3b1
        try clear c4
        try clear c4b0
        try clear c4b1
        obtain ⟨x3_1, x4_1, rfl, HA, HK1, HO_3, BK314, HB⟩ := hrel
        cases gk with
        | zero => exact absurd HA.out (by simp [windroseref17_Of.l0])
        | succ k1 =>
          have H := HA.out
          clear HA
          simp only [windroseref17_Of.l0] at H
          replace H := dle H
          rcases H with ⟨c8b0, H⟩ | ⟨c8b0, H⟩
          focus
            replace H := dle H
            rcases H with ⟨c9b0, H⟩ | ⟨c9b0, H⟩
            rotate_left
            · exact absurd H (by simp)
            obtain ⟨bq10, hbq10⟩ : ∃ b_ : Bool, b_ = (rdOf false l0 x4_1) := ⟨_, rfl⟩
            replace H : (if bq10 = true then (if 0 ≤ (wrap64 (Int.tdiv x4_1 8)) then (if (wrap64 (Int.tdiv x4_1 8)) < (x3_1.length : Int) then (if 0 ≤ (IntKind.u64.wrap (wrap64 (7 - (Int.tmod x4_1 8)))) then (windroseref17_Of.l0 k1 l0 (x3_1.set ((wrap64 (Int.tdiv x4_1 8)) : Int).toNat (((rd x3_1 (wrap64 (Int.tdiv x4_1 8))) + (shl .u8 1 (IntKind.u64.wrap (wrap64 (7 - (Int.tmod x4_1 8)))))) % 256)) (wrap64 (x4_1 + 1))) else (none)) else (none)) else (none)) else (windroseref17_Of.l0 k1 l0 x3_1 (wrap64 (x4_1 + 1)))) = some (r1, r2) := by rw [← hbq10] at H; exact H
            have Nbq10 := Aside0.mk hbq10
            clear hbq10
            replace H := dbool H
            rcases H with ⟨rfl, H⟩ | ⟨rfl, H⟩
            focus
              obtain ⟨ji12, hji12⟩ : ∃ j_ : Int, (wrap64 (Int.tdiv x4_1 8)) = j_ := ⟨_, rfl⟩
              replace H : (if 0 ≤ (ji12) then (if (ji12) < (x3_1.length : Int) then (if 0 ≤ (IntKind.u64.wrap (wrap64 (7 - (Int.tmod x4_1 8)))) then (windroseref17_Of.l0 k1 l0 (x3_1.set ((ji12) : Int).toNat (((rd x3_1 (ji12)) + (shl .u8 1 (IntKind.u64.wrap (wrap64 (7 - (Int.tmod x4_1 8)))))) % 256)) (wrap64 (x4_1 + 1))) else (none)) else (none)) else (none)) = some (r1, r2) := by first | (rw [hji12] at H; exact H) | (simp only [hji12] at H ⊢; exact H)
              have hji12w : (IntKind.i64.wrap (Int.tdiv x4_1 8)) = ji12 := (i64_w _).trans hji12
              replace H := dle H
              rcases H with ⟨c13b0, H⟩ | ⟨c13b0, H⟩
              rotate_left
              · exact absurd H (by simp)
              replace H := dle H
              rcases H with ⟨c14b0, H⟩ | ⟨c14b0, H⟩
              rotate_left
              · exact absurd H (by simp)
              obtain ⟨ji15, hji15⟩ : ∃ j_ : Int, (IntKind.u64.wrap (wrap64 (7 - (Int.tmod x4_1 8)))) = j_ := ⟨_, rfl⟩
              replace H : (if 0 ≤ (ji15) then (windroseref17_Of.l0 k1 l0 (x3_1.set ((ji12) : Int).toNat (((rd x3_1 (ji12)) + (shl .u8 1 (ji15))) % 256)) (wrap64 (x4_1 + 1))) else (none)) = some (r1, r2) := by first | (rw [hji15] at H; exact H) | (simp only [hji15] at H ⊢; exact H)
              by_cases c16 : 0 ≤ (ji15)
              rotate_left
              · rw [if_neg c16] at H
                exact absurd H (by simp)
              rw [if_pos c16] at H
              have c16b0 := eq_true c16
              have c16b1 : decide (0 ≤ (ji15)) = true := decide_eq_true c16
              clear c16
              obtain ⟨ji17, hji17⟩ : ∃ j_ : Int, (shl .u8 1 (ji15)) = j_ := ⟨_, rfl⟩
              replace H : (windroseref17_Of.l0 k1 l0 (x3_1.set ((ji12) : Int).toNat (((rd x3_1 (ji12)) + (ji17)) % 256)) (wrap64 (x4_1 + 1))) = some (r1, r2) := by first | (rw [hji17] at H; exact H) | (simp only [hji17] at H ⊢; exact H)
              have hji17_ : (IntKind.u8.wrap (1 * 2 ^ min (ji15).toNat 8)) = ji17 := hji17
              have hji17z : (ji15) ≤ 8 → (IntKind.u8.wrap (1 * 2 ^ (ji15).toNat)) = ji17 := shl_small hji17
              have hji17u : (IntKind.u8.wrap (2 ^ min (ji15).toNat 8)) = ji17 := by have h_ := hji17_; rw [Int.one_mul] at h_; exact h_
              have hji17v : (ji15) ≤ 8 → (IntKind.u8.wrap (2 ^ (ji15).toNat)) = ji17 := fun hle_ => by have h_ := hji17z hle_; rw [Int.one_mul] at h_; exact h_
              obtain ⟨y320, hy320⟩ : ∃ y_ : List Int, y_ = (x3_1.set ((ji12) : Int).toNat (((rd x3_1 (ji12)) + (ji17)) % 256)) := ⟨_, rfl⟩
              replace H : (windroseref17_Of.l0 k1 l0 y320 (wrap64 (x4_1 + 1))) = some (r1, r2) := by first | (rw [hy320]; with_reducible exact H) | (have H2_ := (Option.bind_some _ _).symm.trans H; rw [hy320]; with_reducible exact H2_) | (have H2_ := (Option.bind_some _ _).symm.trans H; with_reducible exact H2_) | with_reducible exact H | (rw [hy320]; exact H) | exact H
              have Ny320 := Aside0.mk hy320
              clear hy320
              have H' := Aside0.mk H
              clear H
              have p318 : 0 ≤ (x4_1 : Int) := dc_
              have q318 : x4_1 < (l0.length : Int) := dc_
              obtain ⟨ad318, e318, hx318_0⟩ := Kd.at_bool HR0.out x4_1 p318 q318
              (try rw [← Nbq10.out] at hx318_0)
              cases e318
              replace hx318_0 := (HB.out.cell (World.block_lt_of_cell? w _ hx318_0)).trans hx318_0
              replace p318 := eq_true p318
              replace q318 := eq_true q318
              obtain ⟨Ao19, co19, eo19⟩ := Kd.R_slice HO_3.out
              subst eo19
              have p319 : 0 ≤ ((ji12) : Int) := dc_
              have q319 : (ji12) < (x3_1.length : Int) := dc_
              obtain ⟨ad319, e319, hx319_0⟩ := Kd.at_int (Kd.R_reads' HO_3.out).2.2 (ji12) p319 q319
              cases e319
              replace p319 := eq_true p319
              replace q319 := eq_true q319
              have p18 : 0 ≤ ((ji12) : Int) := dc_
              have q18 : ((ji12) : Int) < ((x3_1.length : Int) : Int) := dc_
              obtain ⟨go18, co18, eo18, gb18, gl18, cl18, HG18⟩ := Kd.R_form HO_3.out (by omega)
            rotate_left
            focus
              have H' := Aside0.mk H
              clear H
              have p318 : 0 ≤ (x4_1 : Int) := dc_
              have q318 : x4_1 < (l0.length : Int) := dc_
              obtain ⟨ad318, e318, hx318_0⟩ := Kd.at_bool HR0.out x4_1 p318 q318
              (try rw [← Nbq10.out] at hx318_0)
              cases e318
              replace hx318_0 := (HB.out.cell (World.block_lt_of_cell? w _ hx318_0)).trans hx318_0
              replace p318 := eq_true p318
              replace q318 := eq_true q318
          rotate_left 2
          focus
            simp only [Option.some.injEq, Prod.mk.injEq] at H
            obtain ⟨rfl, rfl⟩ := H
            obtain ⟨Ao22, co22, eo22⟩ := Kd.R_slice HO_3.out
            subst eo22
            obtain ⟨hcz23_0, hcz23_1, hfz23_0, hfz23_1⟩ := blk_at2 BK314.out
          all_goals
            first
              | go_wp2
                first
                  | go_roundg k1
                    case measure => have := HK1.out; omega
                    case rel => exact ⟨(x3_1), (wrap64 (x4_1 + 1)), sm_, H', ⟨by have := HK1.out; omega⟩, ⟨(ro_ HO_3)⟩, ⟨(bo_ BK314)⟩, ⟨bl_⟩⟩
                  | refine bodyPost_ret (results_cell_row rfl _ _ gb314 25 #[.slice Ao22 x3_1.length co22, .int .i64 (l0.length : Int)] (0, 0) _ rfl (by (with_reducible repeat (first | refine blk_drewN ?_ _ | refine blk_drew ?_ | refine blk_alloc ?_ _)); refine blk_put (cs := #[.slice Ao22 x3_1.length co22, .int .i64 0]) ?_ 1 _ rfl; (with_reducible repeat (first | refine blk_drewN ?_ _ | refine blk_drew ?_ | refine blk_alloc ?_ _)); refine blk_put (cs := #[.slice none 0 0, .int .i64 0]) ?_ 0 _ rfl; exact (bo_ BK314)) Try.underlying25 rfl (by kernel_rfl)) rfl ?_
                    exact ⟨_, by first | rfl | (simp [errW_none, errW_some] <;> rfl) | (simp only [← hji2]; first | rfl | (simp [errW_none, errW_some] <;> rfl)) | (simp [*, errW_none, errW_some] <;> rfl), (rt_ (Kd.R_mono (Kd.R_far (p := ⟨gb314, 1, none⟩) (Kd.R_far (p := ⟨gb314, 0, none⟩) (Kd.R_types HO_3.out BK314.out (by decide)) (fun _ hk => hk.2) (.slice Ao22 x3_1.length co22)) (fun _ hk => hk.2) (.int .i64 (l0.length : Int))) (fun _ hk => trivial))), bl_⟩
              | (first | cases eo18 | (injection eo18 with ea_ en_ ec_; (first | subst ea_ | (injection ea_ with ea_; subst ea_)); subst ec_; clear en_))
                have GB7000 := Aside0.mk gb18
                have GG7000 := Aside0.mk HG18
                clear gb18 gl18 HG18
                (first | simp only [add_plain] at hx319_0 | skip)
                obtain ⟨hx7000_0, hf7000_0⟩ := Kd.R_celln 0 HO_3.out ((ji12) : Int) p18 q18
                replace p18 := eq_true p18
                replace q18 := eq_true q18
                have HP7000 := Kd.R_putg HO_3.out ((ji12) : Int) (((rd x3_1 (ji12)) + (ji17)) % 256)
                go_wp2_with (first | ((with_reducible refine gate_store (t := 5) (p := 34) rfl ?_); refine store_event (t := 5) (p := 34) (v := ?vo_w21) (w1 := (wr.setCell ⟨go18, ((ji12) : Int).toNat, none⟩ (.int .u8 (((rd x3_1 (ji12)) + (ji17)) % 256)))) ?hg ?ho ?hn ?hr ?_; (case ho => rfl); (case hg => rfl); (case hn => rfl); (case hr => first | (go_simp; done) | (go_simp; rfl)); intro w7000 hw; have hg : wr.grownBy w7000 (some go18) := (by rw [hw]; exact HP7000.2); have hp_ : Kd.R (Kd.int .u8) 5 w7000 w.heap.size (fun _ => True) (.slice (some ⟨go18, 0, none⟩) x3_1.length co19) y320 := (by rw [hw, Ny320.out]; exact HP7000.1); clear HP7000; have n_ := pk3 (hp_) (blk_grown (bo_ BK314) hg (Kd.R_ne HO_3.out BK314.out (by decide))) ((by rw [hw]; exact below_set (HB.out) GB7000.out : Below w.heap.size w w7000)); clear HO_3 BK314 HB; obtain ⟨HO_3, BK314, HB⟩ := n_; clear hg hw hp_))
                go_roundg k1
                case measure => have := HK1.out; omega
                case rel => exact ⟨(y320), (wrap64 (x4_1 + 1)), sm_, H', ⟨by have := HK1.out; omega⟩, ⟨(ro_ HO_3)⟩, ⟨(bo_ BK314)⟩, ⟨bl_⟩⟩
    · rw [if_neg c4] at H
      exact absurd H (by simp)
  · rw [if_neg c3] at H
    exact absurd H (by simp)
def windroselaw17_told.f (k : Nat) (l0_0 : List Int) (a0_1 : Int) (a1 : Int) (l2 : List Bool) (a3 : Int) : Option (Bool) := if a1 = a3 then ((windroseref17_Of.f k l2).bind fun bt322 => ((windroseref17_Same.f l0_0 a0_1 bt322.1 bt322.2).bind fun t326 => (some t326))) else (some false)
def windroselaw17_told.T1 : Bool × List (List Nat × List Nat) := (true, [([], []), ([], []), ([0, 1], [0, 1]), ([2], [2]), ([3], [3]), ([3], [3]), ([5, 3, 3], [3, 5]), ([4, 6, 6, 3], [3, 4, 6]), ([3, 7], [3, 7]), ([8, 7, 0, 1, 2, 3, 4, 5, 6, 7, 8], [8])])
def windroselaw17_told.B1 : List Nat := [0, 0, 3, 7, 15, 15, 47, 127, 255, 511]
theorem windroselaw17_told.tab1 : rtab .any (opsOf Try.f31 1) = windroselaw17_told.T1 := by kernel_rfl
theorem windroselaw17_told.bits1 : waitsOk windroselaw17_told.T1.2 windroselaw17_told.B1 = true := by kernel_rfl
set_option maxHeartbeats 8000000 in
set_option maxRecDepth 100000 in
theorem windroselaw17_told.calls (k : Nat) (A0_0 : Option Addr) (c0_0 : Nat) (l0_0 : List Int) (a0_1 : Int) (a1 : Int) (A2 : Option Addr) (c2 : Nat) (l2 : List Bool) (a3 : Int) (r : Bool) (w : World) (hr0_0 : Kd.C (Kd.int .u8) w A0_0 l0_0.length l0_0) (hc0_0 : l0_0.length ≤ c0_0) (hr2 : Kd.C Kd.bool w A2 l2.length l2) (hc2 : l2.length ≤ c2) (h : windroselaw17_told.f k l0_0 a0_1 a1 l2 a3 = some r) :
    Calls Try.prog 31 #[.agg #[.slice A0_0 l0_0.length c0_0, .int .i64 a0_1], .int .i64 a1, .slice A2 l2.length c2, .int .i64 a3] w fun e w' => e = .returned (.bool r) ∧ Below w.heap.size w w' := by
  have hu25 := Try.underlying25
  have HR0_0 := Aside0.mk hr0_0
  have HC0_0 := Aside0.mk hc0_0
  clear hr0_0 hc0_0
  have HR2 := Aside0.mk hr2
  have HC2 := Aside0.mk hc2
  clear hr2 hc2
  have HB := Aside0.mk (Below.refl w.heap.size w)
  have H : (if a1 = a3 then ((windroseref17_Of.f k l2).bind fun bt322 => ((windroseref17_Same.f l0_0 a0_1 bt322.1 bt322.2).bind fun t326 => (some t326))) else (some false)) = some r := h
  clear h
  replace H := deqn H
  rcases H with ⟨c5b0, c5b1, H⟩ | ⟨c5b0, c5b1, c5, H⟩
  focus
    replace H := bindA H
    obtain ⟨⟨t322, t325⟩, A6, H⟩ := H
    try dsimp only at H
    replace H := bindA H
    obtain ⟨t326, A7, H⟩ := H
    try dsimp only at H
    obtain rfl := Option.some.inj H
  rotate_left
  focus
    obtain rfl := Option.some.inj H
  all_goals
    go_enter Try.func31, Try.ntmps31
    try go_wp2_with (first | ((with_reducible refine gate_dst (N := 4) rfl ?_); refine box_ev 4 #[.slice A0_0 l0_0.length c0_0, .int .i64 a0_1] 25 ?_; intro gb7000 hg w7000 hbox hb; have n_ := pk4 (below_step bl_ hb) (hbox) ((ge_ hg bl_ : w.heap.size ≤ gb7000)) ((ge_ hg bl_ : w.heap.size ≤ gb7000)); clear HB; obtain ⟨HB, BK7000, GW7000, GE7000⟩ := n_; clear hb hbox hg))
    have n_ := pk2 (blk_drew BK7000.out) (below_drew1 HB.out)
    clear BK7000 HB
    obtain ⟨BK7000, HB⟩ := n_
    first
      | refine start_ (n := 10) (S := fun w' => w'.cell? ⟨gb7000, 0, none⟩ = some (.slice A0_0 l0_0.length c0_0) ∧ w'.cell? ⟨gb7000, 1, none⟩ = some (.int .i64 a0_1)) (ds := []) #[false, false, false, false, false, false, false, false, false, false] (by kernel_rfl) rfl rfl ⟨(blk_cell BK7000.out 0).trans rfl, (blk_cell BK7000.out 1).trans rfl⟩ (fun hHeld => ?_); refine with_tabW windroselaw17_told.tab1 windroselaw17_told.bits1 (fun HT_ HW_ => ?_)
        generalize w7000.drew = w7001 at BK7000 HB hHeld ⊢
        refine pure_ (i := 0) (N := some 9) (v := ?_) (a' := ?_) #[true, false, false, false, false, false, false, false, false, false] rfl rfl (any_of HT_.out (by kernel_rfl)) (fun _ _ _ h => h) (Or.inl ⟨by rfl, ?_⟩) ?_ ?_
        rotate_left
        · intro w'
          go_simp
          with_reducible rfl
        rotate_left
        · simp only [ap_, sb_, s0_, s1_, i64_w, i32_w]
          rfl
        refine pure_ (i := 1) (N := some 10) (v := ?_) (a' := ?_) #[true, true, false, false, false, false, false, false, false, false] rfl rfl (any_of HT_.out (by kernel_rfl)) (fun _ _ _ h => h) (Or.inl ⟨by rfl, ?_⟩) ?_ ?_
        rotate_left
        · intro w'
          go_simp
          with_reducible rfl
        rotate_left
        · simp only [ap_, sb_, s0_, s1_, i64_w, i32_w]
          rfl
        refine pure_ (i := 2) (N := some 11) (v := ?_) (a' := ?_) #[true, true, true, false, false, false, false, false, false, false] rfl rfl (any_of HT_.out (by kernel_rfl)) (fun _ _ _ h => h) (Or.inl ⟨by rfl, ?_⟩) ?_ ?_
        rotate_left
        · intro w'
          go_simp
          with_reducible rfl
        rotate_left
        · simp only [ap_, sb_, s0_, s1_, i64_w, i32_w]
          rfl
        refine pure_ (i := 3) (N := some 12) (v := ?_) (a' := ?_) #[true, true, true, true, false, false, false, false, false, false] rfl rfl (any_of HT_.out (by kernel_rfl)) (fun _ _ _ h => h) (Or.inl ⟨by rfl, ?_⟩) ?_ ?_
        rotate_left
        · intro w'
          go_simp
          with_reducible rfl
        rotate_left
        · simp only [ap_, sb_, s0_, s1_, i64_w, i32_w]
          rfl
        refine pure_ (i := 5) (N := some 14) (v := ?_) (a' := ?_) #[true, true, true, true, false, true, false, false, false, false] rfl rfl (any_of HT_.out (by kernel_rfl)) (fun _ _ _ h => h) (Or.inl ⟨by rfl, ?_⟩) ?_ ?_
        rotate_left
        · intro w'
          go_simp
          with_reducible rfl
        rotate_left
        · simp only [ap_, sb_, s0_, s1_, i64_w, i32_w]
          rfl
        refine take_ (i := 4) (N := some 13) (v := ?_) (a' := ?_) #[true, true, true, true, true, true, false, false, false, false] rfl rfl (take_ofW HT_.out HW_.out (by kernel_rfl)) (fun _ _ _ h => h) (Or.inl ⟨by rfl, ?_⟩) hHeld ?_ ?_
        rotate_left
        · rintro w' ⟨s7000, s7001⟩
          go_simp
          with_reducible rfl
        rotate_left
        · simp only [ap_, sb_, s0_, s1_, i64_w, i32_w]
          rfl
        refine one_ (i := 6) (N := some 15) #[true, true, true, true, true, true, true, false, false, false] rfl rfl (one_of HT_.out (by kernel_rfl)) (by decide) (fun K hK => ?_)
        refine goes_ Try.func67 (by kernel_rfl) rfl #[.slice A2 l2.length c2] (by rfl) rfl rfl (by (try simp only [List.map_toArray, List.map_cons, List.map_nil]); first | done | rfl | (simp only [List.length_drop, List.length_take]; rfl)) ?_
        with_reducible refine (windroseref17_Of.calls k _ _ l2 t322 t325 _ ?side1 ?side2 A6.out).mono ?_
        (case side1 => exact cb_ HR2)
        (case side2 => exact HC2.out)
        rintro e w7002 ⟨v7000, rfl, ho7000, hb⟩
        refine ⟨_, rfl, ?_⟩
        have n_ := pk3 (Kd.R_lower ho7000 (below_size bl_)) (blk_below (bo_ BK7000) hb) (below_step bl_ hb)
        clear BK7000 HB
        obtain ⟨HO7000, BK7000, HB⟩ := n_
        (try clear hb)
        (try clear hb2)
        (try clear hk)
        (try clear hi)
        (try clear ho7000)
        obtain ⟨Ao7000, co7000, eo7000⟩ := Kd.R_slice HO7000.out
        (first | subst eo7000 | (injection eo7000 with f1_ f2_ f3_; have f7000_ := f1_.symm; have f7001_ := f3_.symm; clear f1_ f2_ f3_; subst f7000_; subst f7001_))
        refine hK.out _ _ ⟨(blk_cell BK7000.out 0).trans rfl, (blk_cell BK7000.out 1).trans rfl⟩ (fun hHeld => ?_)
        clear hK K
        refine norm_ (a' := ?_) ?_ ?_
        rotate_left
        · show Act.put _ (some 15) _ = _
          simp only [ap_, sb_, s0_, s1_, i64_w, i32_w]
          rfl
        refine one_ (i := 7) (N := some 16) #[true, true, true, true, true, true, true, true, false, false] rfl rfl (one_of HT_.out (by kernel_rfl)) (by decide) (fun K hK => ?_)
        refine goes_ Try.func66 (by kernel_rfl) rfl #[.agg #[.slice A0_0 l0_0.length c0_0, .int .i64 a0_1], .agg #[.slice Ao7000 t322.length co7000, .int .i64 t325]] (by rfl) rfl rfl (by (try simp only [List.map_toArray, List.map_cons, List.map_nil]); first | done | rfl | (simp only [List.length_drop, List.length_take]; rfl)) ?_
        with_reducible refine (windroseref17_Same.calls _ _ l0_0 a0_1 _ _ t322 t325 t326 _ ?side1 ?side2 ?side3 ?side4 A7.out).mono ?_
        (case side1 => exact cb_ HR0_0)
        (case side2 => exact HC0_0.out)
        (case side3 => exact cr_ HO7000)
        (case side4 => exact (Kd.R_reads' HO7000.out).2.1)
        rintro e w7003 ⟨rfl, hb⟩
        refine ⟨_, rfl, ?_⟩
        have n_ := pk3 (Kd.R_below (ro_ HO7000) hb) (blk_below (bo_ BK7000) hb) (below_step bl_ hb)
        clear HO7000 BK7000 HB
        obtain ⟨HO7000, BK7000, HB⟩ := n_
        (try clear hb)
        (try clear hb2)
        (try clear hk)
        (try clear hi)
        refine hK.out _ _ ⟨(blk_cell BK7000.out 0).trans rfl, (blk_cell BK7000.out 1).trans rfl⟩ (fun hHeld => ?_)
        clear hK K
        refine norm_ (a' := ?_) ?_ ?_
        rotate_left
        · show Act.put _ (some 16) _ = _
          simp only [ap_, sb_, s0_, s1_, i64_w, i32_w]
          rfl
        refine pure_ (i := 8) (N := some 17) (v := ?_) (a' := ?_) #[true, true, true, true, true, true, true, true, true, false] rfl rfl (any_of HT_.out (by kernel_rfl)) (fun _ _ _ h => h) (Or.inl ⟨by rfl, ?_⟩) ?_ ?_
        rotate_left
        · intro w'
          go_simp
          with_reducible rfl
        rotate_left
        · simp only [ap_, sb_, s0_, s1_, i64_w, i32_w]
          rfl
        refine pure_ (i := 9) (N := some 8) (v := ?_) (a' := ?_) #[true, true, true, true, true, true, true, true, true, true] rfl rfl (any_of HT_.out (by kernel_rfl)) (fun _ _ _ h => h) (Or.inl ⟨by rfl, ?_⟩) ?_ ?_
        rotate_left
        · intro w'
          go_simp
          with_reducible rfl
        rotate_left
        · simp only [ap_, sb_, s0_, s1_, i64_w, i32_w]
          rfl
        refine done_ (done_of HT_.out (by kernel_rfl)) ?_
        try go_wp2
        go_ret
        exact ⟨rf_, bl_⟩
      | refine start_ (n := 10) (S := fun w' => True) (ds := []) #[false, false, false, false, false, false, false, false, false, false] (by kernel_rfl) rfl rfl trivial (fun hHeld => ?_); refine with_tabW windroselaw17_told.tab1 windroselaw17_told.bits1 (fun HT_ HW_ => ?_)
        generalize w7000.drew = w7001 at BK7000 HB hHeld ⊢
        refine pure_ (i := 0) (N := some 9) (v := ?_) (a' := ?_) #[true, false, false, false, false, false, false, false, false, false] rfl rfl (any_of HT_.out (by kernel_rfl)) (fun _ _ _ h => h) (Or.inl ⟨by rfl, ?_⟩) ?_ ?_
        rotate_left
        · intro w'
          go_simp
          with_reducible rfl
        rotate_left
        · simp only [ap_, sb_, s0_, s1_, i64_w, i32_w]
          rfl
        refine pure_ (i := 1) (N := some 10) (v := ?_) (a' := ?_) #[true, true, false, false, false, false, false, false, false, false] rfl rfl (any_of HT_.out (by kernel_rfl)) (fun _ _ _ h => h) (Or.inl ⟨by rfl, ?_⟩) ?_ ?_
        rotate_left
        · intro w'
          go_simp
          with_reducible rfl
        rotate_left
        · simp only [ap_, sb_, s0_, s1_, i64_w, i32_w]
          rfl
        refine pure_ (i := 2) (N := some 11) (v := ?_) (a' := ?_) #[true, true, true, false, false, false, false, false, false, false] rfl rfl (any_of HT_.out (by kernel_rfl)) (fun _ _ _ h => h) (Or.inl ⟨by rfl, ?_⟩) ?_ ?_
        rotate_left
        · intro w'
          go_simp
          with_reducible rfl
        rotate_left
        · simp only [ap_, sb_, s0_, s1_, i64_w, i32_w]
          rfl
        refine pure_ (i := 3) (N := some 12) (v := ?_) (a' := ?_) #[true, true, true, true, false, false, false, false, false, false] rfl rfl (any_of HT_.out (by kernel_rfl)) (fun _ _ _ h => h) (Or.inl ⟨by rfl, ?_⟩) ?_ ?_
        rotate_left
        · intro w'
          go_simp
          with_reducible rfl
        rotate_left
        · simp only [ap_, sb_, s0_, s1_, i64_w, i32_w]
          rfl
        refine pure_ (i := 4) (N := some 13) (v := undef) (a' := ?_) #[true, true, true, true, true, false, false, false, false, false] rfl rfl (any_of HT_.out (by kernel_rfl)) (fun _ _ _ h => h) (Or.inr ⟨by rfl, rfl⟩) ?_ ?_
        rotate_left
        · simp only [ap_, sb_, s0_, s1_, i64_w, i32_w]
          rfl
        refine pure_ (i := 5) (N := some 14) (v := undef) (a' := ?_) #[true, true, true, true, true, true, false, false, false, false] rfl rfl (any_of HT_.out (by kernel_rfl)) (fun _ _ _ h => h) (Or.inr ⟨by rfl, rfl⟩) ?_ ?_
        rotate_left
        · simp only [ap_, sb_, s0_, s1_, i64_w, i32_w]
          rfl
        refine pure_ (i := 6) (N := some 15) (v := undef) (a' := ?_) #[true, true, true, true, true, true, true, false, false, false] rfl rfl (any_of HT_.out (by kernel_rfl)) (fun _ _ _ h => h) (Or.inr ⟨by rfl, rfl⟩) ?_ ?_
        rotate_left
        · simp only [ap_, sb_, s0_, s1_, i64_w, i32_w]
          rfl
        refine pure_ (i := 7) (N := some 16) (v := undef) (a' := ?_) #[true, true, true, true, true, true, true, true, false, false] rfl rfl (any_of HT_.out (by kernel_rfl)) (fun _ _ _ h => h) (Or.inr ⟨by rfl, rfl⟩) ?_ ?_
        rotate_left
        · simp only [ap_, sb_, s0_, s1_, i64_w, i32_w]
          rfl
        refine pure_ (i := 8) (N := some 17) (v := ?_) (a' := ?_) #[true, true, true, true, true, true, true, true, true, false] rfl rfl (any_of HT_.out (by kernel_rfl)) (fun _ _ _ h => h) (Or.inl ⟨by rfl, ?_⟩) ?_ ?_
        rotate_left
        · intro w'
          go_simp
          with_reducible rfl
        rotate_left
        · simp only [ap_, sb_, s0_, s1_, i64_w, i32_w]
          rfl
        refine pure_ (i := 9) (N := some 8) (v := ?_) (a' := ?_) #[true, true, true, true, true, true, true, true, true, true] rfl rfl (any_of HT_.out (by kernel_rfl)) (fun _ _ _ h => h) (Or.inl ⟨by rfl, ?_⟩) ?_ ?_
        rotate_left
        · intro w'
          go_simp
          with_reducible rfl
        rotate_left
        · simp only [ap_, sb_, s0_, s1_, i64_w, i32_w]
          rfl
        refine done_ (done_of HT_.out (by kernel_rfl)) ?_
        try go_wp2
        go_ret
        exact ⟨rf_, bl_⟩
def windroseref17_Low.l0 : Nat → Int → List Bool → Int → Option (List Bool)
  | 0, _, _, _ => none
  | k + 1, x0, x5, x6 => if x6 ≥ 0 then (if 0 ≤ x6 then (if x6 < (x5.length : Int) then (windroseref17_Low.l0 k (IntKind.u64.wrap (Int.tdiv x0 2)) (x5.set (x6 : Int).toNat ((Int.tmod x0 2) == 1)) (wrap64 (x6 - 1))) else (none)) else (none)) else (some x5)
def windroseref17_Low.f (k : Nat) (a0 : Int) (a1 : Int) : Option (List Bool) := if 0 ≤ a1 then (if (a1 : Int).toNat ≤ 281474976710656 then (windroseref17_Low.l0 k a0 (List.replicate (a1 : Int).toNat false) (wrap64 (a1 - 1))) else (none)) else (none)
set_option maxHeartbeats 8000000 in
set_option maxRecDepth 100000 in
theorem windroseref17_Low.calls (k : Nat) (a0 : Int) (a1 : Int) (r : List Bool) (w : World) (h : windroseref17_Low.f k a0 a1 = some r) :
    Calls Try.prog 35 #[.int .u64 a0, .int .i64 a1] w fun e w' => ∃ v0_ : Value, e = .returned (v0_) ∧ Kd.R Kd.bool 4 w' w.heap.size (fun _ => True) v0_ r ∧ Below w.heap.size w w' := by
  have HB := Aside0.mk (Below.refl w.heap.size w)
  have H : (if 0 ≤ a1 then (if (a1 : Int).toNat ≤ 281474976710656 then (windroseref17_Low.l0 k a0 (List.replicate (a1 : Int).toNat false) (wrap64 (a1 - 1))) else (none)) else (none)) = some r := h
  clear h
  by_cases c3 : 0 ≤ a1
  · rw [if_pos c3] at H
    have c3b0 := eq_true c3
    have c3b1 : decide (0 ≤ a1) = true := decide_eq_true c3
    clear c3
    by_cases c4 : (a1 : Int).toNat ≤ 281474976710656
    · rw [if_pos c4] at H
      have c4b0 := eq_true c4
      have c4b1 : decide ((a1 : Int).toNat ≤ 281474976710656) = true := decide_eq_true c4
      clear c4
      obtain ⟨y327, hy327⟩ : ∃ y_ : List Bool, y_ = (List.replicate (a1 : Int).toNat false) := ⟨_, rfl⟩
      replace H : (windroseref17_Low.l0 k a0 y327 (wrap64 (a1 - 1))) = some r := by first | (rw [hy327]; with_reducible exact H) | (have H2_ := (Option.bind_some _ _).symm.trans H; rw [hy327]; with_reducible exact H2_) | (have H2_ := (Option.bind_some _ _).symm.trans H; with_reducible exact H2_) | with_reducible exact H | (rw [hy327]; exact H) | exact H
      have Ny327 := Aside0.mk hy327
      clear hy327
      have H' := Aside0.mk H
      clear H
      go_enter Try.func35, Try.ntmps35
      go_wp2_with (first | ((with_reducible refine gate_dst (N := 8) rfl ?_); refine Kd.R_make Kd.bool _ 4 rfl (N := 8) rfl 39 _ _ rfl a1 rfl rfl Try.underlying39 (.bool false) 1 info4 rfl (by decide) (by omega) false (ok := fun _ => True) (okp := fun _ => True) rfl (fun _ hk => hk) trivial dc_ (Nat.le_trans (Nat.mul_le_mul_right _ (dc_ : a1.toNat ≤ 281474976710656)) (by omega)) (Below.refl _ _) (Nat.le_refl _) ?_; intro v328 w5 ho6 hb hg_ hnew_; clear hg_ hnew_; (first | rw [← Ny327.out] at ho6 | (simp only [Int.reduceToNat] at ho6; rw [← Ny327.out] at ho6)); have n_ := pk2 (Kd.R_lower ho6 (below_size bl_)) (below_step bl_ hb); clear HB; obtain ⟨HO329, HB⟩ := n_; clear hb ho6))
      go_loopg [0, 6] k (fun kq v0 v6 w' => ∃ (x0_1 : Int) (x5_1 : List Bool) (x6_1 : Int), v0 = .int .u64 x0_1 ∧ v6 = .int .i64 x6_1 ∧ Aside0 (windroseref17_Low.l0 kq x0_1 x5_1 x6_1 = some r) ∧ Aside0 (kq ≤ k) ∧ Aside0 (Kd.R Kd.bool 4 w' w.heap.size (fun _ => True) v328 x5_1) ∧ Aside0 (Below w.heap.size w w'))
      case atStart => exact ⟨(a0), (y327), (wrap64 (a1 - 1)), sm_, sm_, H', ⟨Nat.le_refl _⟩, ⟨(ro_ HO329)⟩, ⟨bl_⟩⟩
      case round =>
        clear H'
        try clear c3
        try clear c3b0
        try clear c3b1
        try clear c4
        try clear c4b0
        try clear c4b1
        obtain ⟨x0_1, x5_1, x6_1, rfl, rfl, HA, HK1, HO_5, HB⟩ := hrel
        cases gk with
        | zero => exact absurd HA.out (by simp [windroseref17_Low.l0])
        | succ k1 =>
          have H := HA.out
          clear HA
          simp only [windroseref17_Low.l0] at H
          replace H := dge H
          rcases H with ⟨c7b0, H⟩ | ⟨c7b0, H⟩
          focus
            replace H := dle H
            rcases H with ⟨c8b0, H⟩ | ⟨c8b0, H⟩
            rotate_left
            · exact absurd H (by simp)
            replace H := dle H
            rcases H with ⟨c9b0, H⟩ | ⟨c9b0, H⟩
            rotate_left
            · exact absurd H (by simp)
            obtain ⟨y330, hy330⟩ : ∃ y_ : List Bool, y_ = (x5_1.set (x6_1 : Int).toNat ((Int.tmod x0_1 2) == 1)) := ⟨_, rfl⟩
            replace H : (windroseref17_Low.l0 k1 (IntKind.u64.wrap (Int.tdiv x0_1 2)) y330 (wrap64 (x6_1 - 1))) = some r := by first | (rw [hy330]; with_reducible exact H) | (have H2_ := (Option.bind_some _ _).symm.trans H; rw [hy330]; with_reducible exact H2_) | (have H2_ := (Option.bind_some _ _).symm.trans H; with_reducible exact H2_) | with_reducible exact H | (rw [hy330]; exact H) | exact H
            have Ny330 := Aside0.mk hy330
            clear hy330
            have H' := Aside0.mk H
            clear H
            have p10 : 0 ≤ (x6_1 : Int) := dc_
            have q10 : (x6_1 : Int) < ((x5_1.length : Int) : Int) := dc_
            obtain ⟨go10, co10, eo10, gb10, gl10, cl10, HG10⟩ := Kd.R_form HO_5.out (by omega)
          rotate_left
          focus
            obtain rfl := Option.some.inj H
          all_goals
            first
              | (first | cases eo10 | (injection eo10 with ea_ en_ ec_; (first | subst ea_ | (injection ea_ with ea_; subst ea_)); subst ec_; clear en_))
                have GB7000 := Aside0.mk gb10
                have GG7000 := Aside0.mk HG10
                clear gb10 gl10 HG10
                obtain ⟨hx7000_0, hf7000_0⟩ := Kd.R_celln false HO_5.out (x6_1 : Int) p10 q10
                replace p10 := eq_true p10
                replace q10 := eq_true q10
                have HP7000 := Kd.R_putg HO_5.out (x6_1 : Int) ((Int.tmod x0_1 2) == 1)
                go_wp2_with (first | ((with_reducible refine gate_store (t := 4) (p := 20) rfl ?_); refine store_event (t := 4) (p := 20) (v := ?vo_w12) (w1 := (wr.setCell ⟨go10, (x6_1 : Int).toNat, none⟩ (.bool ((Int.tmod x0_1 2) == 1)))) ?hg ?ho ?hn ?hr ?_; (case ho => rfl); (case hg => rfl); (case hn => rfl); (case hr => first | (go_simp; done) | (go_simp; rfl)); intro w7000 hw; have hg : wr.grownBy w7000 (some go10) := (by rw [hw]; exact HP7000.2); have hp_ : Kd.R Kd.bool 4 w7000 w.heap.size (fun _ => True) (.slice (some ⟨go10, 0, none⟩) x5_1.length co10) y330 := (by rw [hw, Ny330.out]; exact HP7000.1); clear HP7000; have n_ := pk2 (hp_) ((by rw [hw]; exact below_set (HB.out) GB7000.out : Below w.heap.size w w7000)); clear HO_5 HB; obtain ⟨HO_5, HB⟩ := n_; clear hg hw hp_))
                go_roundg k1
                case measure => have := HK1.out; omega
                case rel => exact ⟨(IntKind.u64.wrap (Int.tdiv x0_1 2)), (y330), (wrap64 (x6_1 - 1)), sm_, sm_, H', ⟨by have := HK1.out; omega⟩, ⟨(ro_ HO_5)⟩, ⟨bl_⟩⟩
              | go_wp2
                go_ret
                exact ⟨_, rf_, (ro_ HO_5), bl_⟩
    · rw [if_neg c4] at H
      exact absurd H (by simp)
  · rw [if_neg c3] at H
    exact absurd H (by simp)
end Go.Proofs.Ytmddmbagehjdeaa.G
end
section
namespace Go.Proofs.Ytmddmbagehjdeaa.G
open Go.RowKit Go.Proofs.YtmddmbagehjdeaaX Go.Proofs.YtmddmbagehjdeaaW.PrintWords Go.Proofs.YtmddmbagehjdeaaW.PrintLast Go.Proofs.YtmddmbagehjdeaaW.PrintMore
attribute [local go_sem] max2_int min2_int max_two min_two max_three min_three max_four min_four
def windroseref17_Coded.l0 : Nat → Int → List Int → Int → List Bool → Int → Option (List Bool)
  | 0, _, _, _, _, _ => none
  | k + 1, x0, x3, x4, x5, x6 => if x6 < x4 then (if x5.length < 140737488355328 then (windroseref17_Coded.l0 k x0 x3 x4 (x5 ++ [true]) (wrap64 (x6 + 1))) else (none)) else (if x4 < 4 then (if x5.length < 140737488355328 then ((some (x5 ++ [false] : List Bool)).bind fun y341 => ((windroseref17_fold.f x0).bind fun t344 => (if 0 ≤ x4 then (if x4 < (x3.length : Int) then ((windroseref17_Low.f k t344 (rd x3 x4)).bind fun t346 => (if y341.length + t346.length < 140737488355328 then (some (y341 ++ t346)) else (none))) else (none)) else (none)))) else (none)) else ((windroseref17_fold.f x0).bind fun t352 => (if 0 ≤ x4 then (if x4 < (x3.length : Int) then ((windroseref17_Low.f k t352 (rd x3 x4)).bind fun t354 => (if x5.length + t354.length < 140737488355328 then (some (x5 ++ t354)) else (none))) else (none)) else (none))))
def windroseref17_Coded.f (k : Nat) (a0 : Int) : Option (List Bool) := (windroseref17_Class.f a0).bind fun t334 => (windroseref17_Coded.l0 k a0 (([0, 7, 12, 20, 64] : List Int)) t334 (([] : List Bool)) 0)
def windroseref17_Coded.T10 : Bool × List (List Nat × List Nat) := (true, [([], []), ([], []), ([1], [1]), ([], []), ([], []), ([3, 4], [3, 4]), ([5], [5]), ([2, 6, 2], [2, 6]), ([0, 7, 7], [0, 7]), ([8, 8, 0, 1, 2, 3, 4, 5, 6, 7, 8], [8])])
def windroseref17_Coded.B10 : List Nat := [0, 0, 2, 0, 0, 24, 56, 126, 255, 511]
theorem windroseref17_Coded.tab10 : rtab .any (opsOf Try.f32 10) = windroseref17_Coded.T10 := by kernel_rfl
theorem windroseref17_Coded.bits10 : waitsOk windroseref17_Coded.T10.2 windroseref17_Coded.B10 = true := by kernel_rfl
set_option maxHeartbeats 8000000 in
set_option maxRecDepth 100000 in
theorem windroseref17_Coded.calls (k : Nat) (a0 : Int) (r : List Bool) (w : World) (h : windroseref17_Coded.f k a0 = some r) :
    Calls Try.prog 32 #[.int .i64 a0] w fun e w' => ∃ v0_ : Value, e = .returned (v0_) ∧ Kd.R Kd.bool 4 w' w.heap.size (fun _ => True) v0_ r ∧ Below w.heap.size w w' := by
  have HB := Aside0.mk (Below.refl w.heap.size w)
  have H : ((windroseref17_Class.f a0).bind fun t334 => (windroseref17_Coded.l0 k a0 (([0, 7, 12, 20, 64] : List Int)) t334 (([] : List Bool)) 0)) = some r := h
  clear h
  obtain ⟨y331, hy331⟩ : ∃ y_ : List Int, y_ = (([0, 7, 12, 20, 64] : List Int)) := ⟨_, rfl⟩
  replace H : ((windroseref17_Class.f a0).bind fun t334 => (windroseref17_Coded.l0 k a0 y331 t334 (([] : List Bool)) 0)) = some r := by first | (rw [hy331]; with_reducible exact H) | (have H2_ := (Option.bind_some _ _).symm.trans H; rw [hy331]; with_reducible exact H2_) | (have H2_ := (Option.bind_some _ _).symm.trans H; with_reducible exact H2_) | with_reducible exact H | (rw [hy331]; exact H) | exact H
  have Ny331 := Aside0.mk hy331
  clear hy331
  replace H := bindA H
  obtain ⟨t334, A2, H⟩ := H
  try dsimp only at H
  obtain ⟨y335, hy335⟩ : ∃ y_ : List Bool, y_ = (([] : List Bool)) := ⟨_, rfl⟩
  replace H : (windroseref17_Coded.l0 k a0 y331 t334 y335 0) = some r := by first | (rw [hy335]; with_reducible exact H) | (have H2_ := (Option.bind_some _ _).symm.trans H; rw [hy335]; with_reducible exact H2_) | (have H2_ := (Option.bind_some _ _).symm.trans H; with_reducible exact H2_) | with_reducible exact H | (rw [hy335]; exact H) | exact H
  have Ny335 := Aside0.mk hy335
  clear hy335
  have H' := Aside0.mk H
  clear H
  go_enter Try.func32, Try.ntmps32
  go_wp2_with (first | ((with_reducible refine gate_dst (N := 7) rfl ?_); refine Kd.R_lit (Kd.int .i64) _ 3 ?hg (N := 7) ?hd (xs := ([0, 7, 12, 20, 64] : List Int)) (inner := [.int .i64 0, .int .i64 7, .int .i64 12, .int .i64 20, .int .i64 64]) (ok := fun _ => True) (okp := fun _ => True) ?hr ?hp (fun _ hk => hk) trivial (Below.refl _ _) (Nat.le_refl _) (by simp) ?_; (case hd => rfl); (case hg => rfl); (case hr => first | (go_simp; done) | (go_simp; rfl)); (case hp => exact (Reps.one (show Kd.M (Kd.int .i64) _ _ _ 0 [.int .i64 0] from rfl) (Reps.one (show Kd.M (Kd.int .i64) _ _ _ 7 [.int .i64 7] from rfl) (Reps.one (show Kd.M (Kd.int .i64) _ _ _ 12 [.int .i64 12] from rfl) (Reps.one (show Kd.M (Kd.int .i64) _ _ _ 20 [.int .i64 20] from rfl) (Reps.one (show Kd.M (Kd.int .i64) _ _ _ 64 [.int .i64 64] from rfl) (Reps.none _ _))))))); intro v332 w3 ho4 hb hg_ hnew_; clear hg_ hnew_; (first | rw [← Ny331.out] at ho4 | (simp only [Int.reduceToNat] at ho4; rw [← Ny331.out] at ho4)); have n_ := pk2 (Kd.R_lower ho4 (below_size bl_)) (below_step bl_ hb); clear HB; obtain ⟨HO333, HB⟩ := n_; clear hb ho4) | ((with_reducible refine gate_callee (f := 34) rfl ?_); refine goL_ (some 9) Try.func34 #[.int .i64 a0] ?_; (with_reducible refine (windroseref17_Class.calls a0 t334 _ A2.out).mono ?_); rintro e w' ⟨rfl, ⟨nd, rfl⟩⟩; refine ⟨_, rfl, ?_⟩) | ((with_reducible refine gate_dst (N := 10) rfl ?_); refine Kd.R_lit Kd.bool _ 4 ?hg (N := 10) ?hd (xs := ([] : List Bool)) (inner := []) (ok := fun _ => True) (okp := fun _ => True) ?hr ?hp (fun _ hk => hk) trivial (Below.refl _ _) (Nat.le_refl _) (by simp) ?_; (case hd => rfl); (case hg => rfl); (case hr => first | (go_simp; done) | (go_simp; rfl)); (case hp => exact (Reps.none _ _)); intro v336 w5 ho6 hb hg_ hnew_; clear hg_ hnew_; (first | rw [← Ny335.out] at ho6 | (simp only [Int.reduceToNat] at ho6; rw [← Ny335.out] at ho6)); have n_ := pk3 (Kd.R_below (ro_ HO333) hb) (Kd.R_lower ho6 (below_size bl_)) (below_step bl_ hb); clear HO333 HB; obtain ⟨HO333, HO337, HB⟩ := n_; clear hb ho6))
  go_loopg [5, 6] k (fun kq v5 v6 w' => ∃ (x5_1 : List Bool) (x6_1 : Int), v6 = .int .i64 x6_1 ∧ Aside0 (windroseref17_Coded.l0 kq a0 y331 t334 x5_1 x6_1 = some r) ∧ Aside0 (kq ≤ k) ∧ Aside0 (Kd.R (Kd.int .i64) 3 w' w.heap.size (fun _ => True) v332 y331) ∧ Aside0 (Kd.R Kd.bool 4 w' w.heap.size (fun _ => True) v5 x5_1) ∧ Aside0 (Below w.heap.size w w'))
  case atStart => exact ⟨(y335), (0), sm_, H', ⟨Nat.le_refl _⟩, ⟨(ro_ HO333)⟩, ⟨(ro_ HO337)⟩, ⟨bl_⟩⟩
  case round =>
    clear H'
    obtain ⟨x5_1, x6_1, rfl, HA, HK1, HO_3, HO_5, HB⟩ := hrel
    cases gk with
    | zero => exact absurd HA.out (by simp [windroseref17_Coded.l0])
    | succ k1 =>
      have H := HA.out
      clear HA
      simp only [windroseref17_Coded.l0] at H
      replace H := dle H
      rcases H with ⟨c7b0, H⟩ | ⟨c7b0, H⟩
      focus
        by_cases c8 : x5_1.length < 140737488355328
        rotate_left
        · rw [if_neg c8] at H
          exact absurd H (by simp)
        rw [if_pos c8] at H
        have LMc8 := Aside0.mk c8
        clear c8
        obtain ⟨y338, hy338⟩ : ∃ y_ : List Bool, y_ = (x5_1 ++ [true]) := ⟨_, rfl⟩
        replace H : (windroseref17_Coded.l0 k1 a0 y331 t334 y338 (wrap64 (x6_1 + 1))) = some r := by first | (rw [hy338]; with_reducible exact H) | (have H2_ := (Option.bind_some _ _).symm.trans H; rw [hy338]; with_reducible exact H2_) | (have H2_ := (Option.bind_some _ _).symm.trans H; with_reducible exact H2_) | with_reducible exact H | (rw [hy338]; exact H) | exact H
        have Ny338 := Aside0.mk hy338
        clear hy338
        have H' := Aside0.mk H
        clear H
      rotate_left
      focus
        replace H := dle H
        rcases H with ⟨c10b0, H⟩ | ⟨c10b0, H⟩
        focus
          by_cases c11 : x5_1.length < 140737488355328
          rotate_left
          · rw [if_neg c11] at H
            exact absurd H (by simp)
          rw [if_pos c11] at H
          have LMc11 := Aside0.mk c11
          clear c11
          obtain ⟨y341, hy341⟩ : ∃ y_ : List Bool, y_ = (x5_1 ++ [false]) := ⟨_, rfl⟩
          replace H : ((windroseref17_fold.f a0).bind fun t344 => (if 0 ≤ t334 then (if t334 < (y331.length : Int) then ((windroseref17_Low.f k1 t344 (rd y331 t334)).bind fun t346 => (if y341.length + t346.length < 140737488355328 then (some (y341 ++ t346)) else (none))) else (none)) else (none))) = some r := by first | (rw [hy341]; with_reducible exact H) | (have H2_ := (Option.bind_some _ _).symm.trans H; rw [hy341]; with_reducible exact H2_) | (have H2_ := (Option.bind_some _ _).symm.trans H; with_reducible exact H2_) | with_reducible exact H | (rw [hy341]; exact H) | exact H
          have Ny341 := Aside0.mk hy341
          clear hy341
          replace H := bindA H
          obtain ⟨t344, A12, H⟩ := H
          try dsimp only at H
          replace H := dle H
          rcases H with ⟨c13b0, H⟩ | ⟨c13b0, H⟩
          rotate_left
          · exact absurd H (by simp)
          replace H := dle H
          rcases H with ⟨c14b0, H⟩ | ⟨c14b0, H⟩
          rotate_left
          · exact absurd H (by simp)
          replace H := bindA H
          obtain ⟨t346, A15, H⟩ := H
          try dsimp only at H
          by_cases c16 : y341.length + t346.length < 140737488355328
          rotate_left
          · rw [if_neg c16] at H
            exact absurd H (by simp)
          rw [if_pos c16] at H
          have LMc16 := Aside0.mk c16
          clear c16
          obtain ⟨y349, hy349⟩ : ∃ y_ : List Bool, y_ = (y341 ++ t346) := ⟨_, rfl⟩
          replace H : (some y349) = some r := by first | (rw [hy349]; with_reducible exact H) | (have H2_ := (Option.bind_some _ _).symm.trans H; rw [hy349]; with_reducible exact H2_) | (have H2_ := (Option.bind_some _ _).symm.trans H; with_reducible exact H2_) | with_reducible exact H | (rw [hy349]; exact H) | exact H
          have Ny349 := Aside0.mk hy349
          clear hy349
          obtain rfl := Option.some.inj H
        rotate_left
        focus
          replace H := bindA H
          obtain ⟨t352, A23, H⟩ := H
          try dsimp only at H
          replace H := dle H
          rcases H with ⟨c24b0, H⟩ | ⟨c24b0, H⟩
          rotate_left
          · exact absurd H (by simp)
          replace H := dle H
          rcases H with ⟨c25b0, H⟩ | ⟨c25b0, H⟩
          rotate_left
          · exact absurd H (by simp)
          replace H := bindA H
          obtain ⟨t354, A26, H⟩ := H
          try dsimp only at H
          by_cases c27 : x5_1.length + t354.length < 140737488355328
          rotate_left
          · rw [if_neg c27] at H
            exact absurd H (by simp)
          rw [if_pos c27] at H
          have LMc27 := Aside0.mk c27
          clear c27
          obtain ⟨y357, hy357⟩ : ∃ y_ : List Bool, y_ = (x5_1 ++ t354) := ⟨_, rfl⟩
          replace H : (some y357) = some r := by first | (rw [hy357]; with_reducible exact H) | (have H2_ := (Option.bind_some _ _).symm.trans H; rw [hy357]; with_reducible exact H2_) | (have H2_ := (Option.bind_some _ _).symm.trans H; with_reducible exact H2_) | with_reducible exact H | (rw [hy357]; exact H) | exact H
          have Ny357 := Aside0.mk hy357
          clear hy357
          obtain rfl := Option.some.inj H
      all_goals
        first
          | go_wp2_with (first | ((with_reducible refine gate_builtin (b := .append) (xs := #[.tmp 16, .tmp 17]) rfl ?_); at_builtin; refine Kd.R_append Kd.bool (w0 := w) w.heap.size rfl (.tmp 16) (.tmp 17) 39 4 (.bool false) 1 rfl Try.underlying39 info4 rfl (by decide) (by omega) u5 x5_1 true [.bool true] (fun _ => True) (fun _ => False) rfl rfl ?aP (fun _ hk => hk.elim) ?aF ?aO ?aB ?aS ?aL ?_; (case aP => exact rfl); (case aB => exact bl_); (case aF => exact (fun _ _ => trivial)); (case aO => exact (ro_ HO_5)); (case aS => exact (below_size bl_)); (case aL => have := LMc8.out; omega); intro v7000 w7000 ho hb hg hat; rw [← Ny338.out] at ho; have n_ := pk3 (Kd.R_over' (ro_ HO_3) (Kd.R_typed (ro_ HO_5)) (by decide) hg) (hb) (ho); clear HO_3 HB HO_5; obtain ⟨HO_3, HB, HO7000⟩ := n_; clear ho hb hg hat))
            go_roundg k1
            case measure => have := HK1.out; omega
            case rel => exact ⟨(y338), (wrap64 (x6_1 + 1)), sm_, H', ⟨by have := HK1.out; omega⟩, ⟨(ro_ HO_3)⟩, ⟨(ro_ HO7000)⟩, ⟨bl_⟩⟩
          | try go_wp2_with (first | ((with_reducible refine gate_builtin (b := .append) (xs := #[.tmp 21, .tmp 22]) rfl ?_); at_builtin; refine Kd.R_append Kd.bool (w0 := w) w.heap.size rfl (.tmp 21) (.tmp 22) 39 4 (.bool false) 1 rfl Try.underlying39 info4 rfl (by decide) (by omega) u5 x5_1 false [.bool false] (fun _ => True) (fun _ => False) rfl rfl ?aP (fun _ hk => hk.elim) ?aF ?aO ?aB ?aS ?aL ?_; (case aP => exact rfl); (case aB => exact bl_); (case aF => exact (fun _ _ => trivial)); (case aO => exact (ro_ HO_5)); (case aS => exact (below_size bl_)); (case aL => have := LMc11.out; omega); intro v7000 w7000 ho hb hg hat; rw [← Ny341.out] at ho; have n_ := pk3 (Kd.R_over' (ro_ HO_3) (Kd.R_typed (ro_ HO_5)) (by decide) hg) (hb) (ho); clear HO_3 HB HO_5; obtain ⟨HO_3, HB, HO7000⟩ := n_; clear ho hb hg hat))
            first
              | have n_ := pk3 (Kd.R_drew HO_3.out) (Kd.R_drew HO7000.out) (below_drew1 HB.out)
                clear HO_3 HO7000 HB
                obtain ⟨HO_3, HO7000, HB⟩ := n_
                obtain ⟨Ao7000, co7000, eo7000⟩ := Kd.R_slice HO_3.out
                (first | subst eo7000 | (injection eo7000 with f1_ f2_ f3_; have f7000_ := f1_.symm; have f7001_ := f3_.symm; clear f1_ f2_ f3_; subst f7000_; subst f7001_))
                have p7000 : 0 ≤ (t334 : Int) := dc_
                have q7000 : t334 < (y331.length : Int) := dc_
                obtain ⟨ad7000, e7000, hx7000_0⟩ := Kd.at_int (Kd.R_reads' HO_3.out).2.2 t334 p7000 q7000
                cases e7000
                replace p7000 := eq_true p7000
                replace q7000 := eq_true q7000
                refine start_ (n := 10) (S := fun w' => w'.cell? (ad7000.add (t334).toNat) = some (.int .i64 (rd y331 t334))) (ds := [8]) #[false, false, false, false, false, false, false, false, false, false] (by kernel_rfl) rfl rfl (hx7000_0) (fun hHeld => ?_); refine with_tabW windroseref17_Coded.tab10 windroseref17_Coded.bits10 (fun HT_ HW_ => ?_)
                generalize w7000.drew = w7001 at HO_3 HO7000 HB hx7000_0 hHeld ⊢
                refine pure_ (i := 0) (N := some 24) (v := ?_) (a' := ?_) #[true, false, false, false, false, false, false, false, false, false] rfl rfl (any_of HT_.out (by kernel_rfl)) (fun _ _ _ h => h) (Or.inl ⟨by rfl, ?_⟩) ?_ ?_
                rotate_left
                · intro w'
                  go_simp
                  with_reducible rfl
                rotate_left
                · simp only [ap_, sb_, s0_, s1_, i64_w, i32_w]
                  rfl
                refine pure_ (i := 1) (N := some 25) (v := ?_) (a' := ?_) #[true, true, false, false, false, false, false, false, false, false] rfl rfl (any_of HT_.out (by kernel_rfl)) (fun _ _ _ h => h) (Or.inl ⟨by rfl, ?_⟩) ?_ ?_
                rotate_left
                · intro w'
                  go_simp
                  with_reducible rfl
                rotate_left
                · simp only [ap_, sb_, s0_, s1_, i64_w, i32_w]
                  rfl
                refine pure_ (i := 3) (N := some 27) (v := ?_) (a' := ?_) #[true, true, false, true, false, false, false, false, false, false] rfl rfl (any_of HT_.out (by kernel_rfl)) (fun _ _ _ h => h) (Or.inl ⟨by rfl, ?_⟩) ?_ ?_
                rotate_left
                · intro w'
                  go_simp
                  with_reducible rfl
                rotate_left
                · simp only [ap_, sb_, s0_, s1_, i64_w, i32_w]
                  rfl
                refine pure_ (i := 4) (N := some 28) (v := ?_) (a' := ?_) #[true, true, false, true, true, false, false, false, false, false] rfl rfl (any_of HT_.out (by kernel_rfl)) (fun _ _ _ h => h) (Or.inl ⟨by rfl, ?_⟩) ?_ ?_
                rotate_left
                · intro w'
                  go_simp
                  with_reducible rfl
                rotate_left
                · simp only [ap_, sb_, s0_, s1_, i64_w, i32_w]
                  rfl
                refine pure_ (i := 5) (N := some 29) (v := ?_) (a' := ?_) #[true, true, false, true, true, true, false, false, false, false] rfl rfl (any_of HT_.out (by kernel_rfl)) (fun _ _ _ h => h) (Or.inl ⟨by rfl, ?_⟩) ?_ ?_
                rotate_left
                · intro w'
                  go_simp
                  with_reducible rfl
                rotate_left
                · simp only [ap_, sb_, s0_, s1_, i64_w, i32_w]
                  rfl
                refine take_ (i := 6) (N := some 30) (v := ?_) (a' := ?_) #[true, true, false, true, true, true, true, false, false, false] rfl rfl (take_ofW HT_.out HW_.out (by kernel_rfl)) (fun _ _ _ h => h) (Or.inl ⟨by rfl, ?_⟩) hHeld ?_ ?_
                rotate_left
                · intro w' s7000
                  go_simp
                  with_reducible rfl
                rotate_left
                · simp only [ap_, sb_, s0_, s1_, i64_w, i32_w]
                  rfl
                refine one_ (i := 2) (N := some 26) #[true, true, true, true, true, true, true, false, false, false] rfl rfl (one_of HT_.out (by kernel_rfl)) (by decide) (fun K hK => ?_)
                refine goes_ Try.func68 (by kernel_rfl) rfl #[.int .i64 a0] (by rfl) rfl rfl (by (try simp only [List.map_toArray, List.map_cons, List.map_nil]); first | done | rfl | (simp only [List.length_drop, List.length_take]; rfl)) ?_
                with_reducible refine (windroseref17_fold.calls a0 t344 _ A12.out).mono ?_
                rintro e w' ⟨rfl, ⟨nd, rfl⟩⟩
                refine ⟨_, rfl, ?_⟩
                refine hK.out _ _ (hHeld) (fun hHeld => ?_)
                clear hK K
                refine norm_ (a' := ?_) ?_ ?_
                rotate_left
                · show Act.put _ (some 26) _ = _
                  simp only [ap_, sb_, s0_, s1_, i64_w, i32_w]
                  rfl
                refine one_ (i := 7) (N := some 31) #[true, true, true, true, true, true, true, true, false, false] rfl rfl (one_of HT_.out (by kernel_rfl)) (by decide) (fun K hK => ?_)
                refine goes_ Try.func35 (by kernel_rfl) rfl #[.int .u64 t344, .int .i64 (rd y331 t334)] (by rfl) rfl rfl (by (try simp only [List.map_toArray, List.map_cons, List.map_nil]); first | done | rfl | (simp only [List.length_drop, List.length_take]; rfl)) ?_
                with_reducible refine (windroseref17_Low.calls k1 t344 (rd y331 t334) t346 _ A15.out).mono ?_
                rintro e w7002 ⟨v7001, rfl, ho7000, hb⟩
                have HS7000_ := (hb.cell (World.block_lt_of_cell? _ _ (hHeld))).trans (hHeld)
                refine ⟨_, rfl, ?_⟩
                have n_ := pk4 (Kd.R_below (ro_ HO_3) hb) (Kd.R_elder' (ro_ HO7000) (Kd.R_base ho7000) hb) (Kd.R_lower (Kd.R_new' ho7000 (Kd.R_lt (ro_ HO7000))) (below_size bl_)) (below_step bl_ hb)
                clear HO_3 HO7000 HB
                obtain ⟨HO_3, HO7000, HO7001, HB⟩ := n_
                (try clear hb)
                (try clear hb2)
                (try clear hk)
                (try clear hi)
                (try clear ho7000)
                obtain ⟨Ao7001, co7001, eo7001⟩ := Kd.R_slice HO7001.out
                (first | subst eo7001 | (injection eo7001 with f1_ f2_ f3_; have f7000_ := f1_.symm; have f7001_ := f3_.symm; clear f1_ f2_ f3_; subst f7000_; subst f7001_))
                refine hK.out _ _ (HS7000_) (fun hHeld => ?_)
                clear hK K
                refine norm_ (a' := ?_) ?_ ?_
                rotate_left
                · show Act.put _ (some 31) _ = _
                  simp only [ap_, sb_, s0_, s1_, i64_w, i32_w]
                  rfl
                refine last_ (i := 8) (N := some 32) #[true, true, true, true, true, true, true, true, true, false] rfl rfl (one_of HT_.out (by kernel_rfl)) (by decide) (fun K hK => ?_)
                refine Kd.R_append_rows_step Kd.bool (w0 := w) w.heap.size (by rfl) (.tmp 24) (.tmp 31) 39 4 (.bool false) 1 rfl Try.underlying39 info4 rfl (by decide) (by omega) v7000 y341 t346 _ _ _ (fun k_ => some k_ ≠ (.slice Ao7001 t346.length co7001 : Value).ownBlock) (fun _ => False) rfl rfl ?aO ?aR (fun _ _ h => h) (fun _ h => h.elim) ?aF ?aB ?aS ?aL ?_
                (case aR => exact cr_ HO7001)
                (case aB => exact bl_)
                (case aF => exact (fun k_ hk => Kd.fresh' (Kd.R_lt (ro_ HO7001)) k_ hk))
                (case aO => exact (rt_ (Kd.R_mono HO7000.out (fun _ hk => hk.2))))
                (case aS => exact (below_size bl_))
                (case aL => have := LMc16.out; omega)
                intro v7002 w7003 ho hb hg hat
                rw [← Ny349.out] at ho
                have n_ := pk4 (Kd.R_over' (ro_ HO_3) (Kd.R_typed (ro_ HO7000)) (by decide) hg) (Kd.R_after (ok := (fun _ => True)) (ro_ HO7001) hg hat) (hb) (ho)
                clear HO_3 HO7001 HB HO7000
                obtain ⟨HO_3, HO7001, HB, HO7002⟩ := n_
                clear ho hb hg hat
                refine hK.out _ _ ?_
                clear hK K
                refine norm_ (a' := ?_) ?_ ?_
                rotate_left
                · show Act.put _ (some 32) _ = _
                  simp only [ap_, sb_, s0_, s1_, i64_w, i32_w]
                  rfl
                refine pure_ (i := 9) (N := some 2) (v := ?_) (a' := ?_) #[true, true, true, true, true, true, true, true, true, true] rfl rfl (any_of HT_.out (by kernel_rfl)) (fun _ _ _ h => h) (Or.inl ⟨by rfl, ?_⟩) ?_ ?_
                rotate_left
                · intro w'
                  go_simp
                  with_reducible rfl
                rotate_left
                · simp only [ap_, sb_, s0_, s1_, i64_w, i32_w]
                  rfl
                refine done_ (done_of HT_.out (by kernel_rfl)) ?_
                try go_wp2
                go_ret
                exact ⟨_, rf_, (rt_ (Kd.R_mono HO7002.out (fun _ hk => trivial))), bl_⟩
              | have n_ := pk3 (Kd.R_drew HO_3.out) (Kd.R_drew HO_5.out) (below_drew1 HB.out)
                clear HO_3 HO_5 HB
                obtain ⟨HO_3, HO_5, HB⟩ := n_
                obtain ⟨Ao7000, co7000, eo7000⟩ := Kd.R_slice HO_3.out
                (first | subst eo7000 | (injection eo7000 with f1_ f2_ f3_; have f7000_ := f1_.symm; have f7001_ := f3_.symm; clear f1_ f2_ f3_; subst f7000_; subst f7001_))
                have p7000 : 0 ≤ (t334 : Int) := dc_
                have q7000 : t334 < (y331.length : Int) := dc_
                obtain ⟨ad7000, e7000, hx7000_0⟩ := Kd.at_int (Kd.R_reads' HO_3.out).2.2 t334 p7000 q7000
                cases e7000
                replace p7000 := eq_true p7000
                replace q7000 := eq_true q7000
                refine start_ (n := 10) (S := fun w' => w'.cell? (ad7000.add (t334).toNat) = some (.int .i64 (rd y331 t334))) (ds := [8]) #[false, false, false, false, false, false, false, false, false, false] (by kernel_rfl) rfl rfl (hx7000_0) (fun hHeld => ?_); refine with_tabW windroseref17_Coded.tab10 windroseref17_Coded.bits10 (fun HT_ HW_ => ?_)
                generalize wr.drew = w7000 at HO_3 HO_5 HB hx7000_0 hHeld ⊢
                refine pure_ (i := 0) (N := some 24) (v := ?_) (a' := ?_) #[true, false, false, false, false, false, false, false, false, false] rfl rfl (any_of HT_.out (by kernel_rfl)) (fun _ _ _ h => h) (Or.inl ⟨by rfl, ?_⟩) ?_ ?_
                rotate_left
                · intro w'
                  go_simp
                  with_reducible rfl
                rotate_left
                · simp only [ap_, sb_, s0_, s1_, i64_w, i32_w]
                  rfl
                refine pure_ (i := 1) (N := some 25) (v := ?_) (a' := ?_) #[true, true, false, false, false, false, false, false, false, false] rfl rfl (any_of HT_.out (by kernel_rfl)) (fun _ _ _ h => h) (Or.inl ⟨by rfl, ?_⟩) ?_ ?_
                rotate_left
                · intro w'
                  go_simp
                  with_reducible rfl
                rotate_left
                · simp only [ap_, sb_, s0_, s1_, i64_w, i32_w]
                  rfl
                refine pure_ (i := 3) (N := some 27) (v := ?_) (a' := ?_) #[true, true, false, true, false, false, false, false, false, false] rfl rfl (any_of HT_.out (by kernel_rfl)) (fun _ _ _ h => h) (Or.inl ⟨by rfl, ?_⟩) ?_ ?_
                rotate_left
                · intro w'
                  go_simp
                  with_reducible rfl
                rotate_left
                · simp only [ap_, sb_, s0_, s1_, i64_w, i32_w]
                  rfl
                refine pure_ (i := 4) (N := some 28) (v := ?_) (a' := ?_) #[true, true, false, true, true, false, false, false, false, false] rfl rfl (any_of HT_.out (by kernel_rfl)) (fun _ _ _ h => h) (Or.inl ⟨by rfl, ?_⟩) ?_ ?_
                rotate_left
                · intro w'
                  go_simp
                  with_reducible rfl
                rotate_left
                · simp only [ap_, sb_, s0_, s1_, i64_w, i32_w]
                  rfl
                refine pure_ (i := 5) (N := some 29) (v := ?_) (a' := ?_) #[true, true, false, true, true, true, false, false, false, false] rfl rfl (any_of HT_.out (by kernel_rfl)) (fun _ _ _ h => h) (Or.inl ⟨by rfl, ?_⟩) ?_ ?_
                rotate_left
                · intro w'
                  go_simp
                  with_reducible rfl
                rotate_left
                · simp only [ap_, sb_, s0_, s1_, i64_w, i32_w]
                  rfl
                refine take_ (i := 6) (N := some 30) (v := ?_) (a' := ?_) #[true, true, false, true, true, true, true, false, false, false] rfl rfl (take_ofW HT_.out HW_.out (by kernel_rfl)) (fun _ _ _ h => h) (Or.inl ⟨by rfl, ?_⟩) hHeld ?_ ?_
                rotate_left
                · intro w' s7000
                  go_simp
                  with_reducible rfl
                rotate_left
                · simp only [ap_, sb_, s0_, s1_, i64_w, i32_w]
                  rfl
                refine one_ (i := 2) (N := some 26) #[true, true, true, true, true, true, true, false, false, false] rfl rfl (one_of HT_.out (by kernel_rfl)) (by decide) (fun K hK => ?_)
                refine goes_ Try.func68 (by kernel_rfl) rfl #[.int .i64 a0] (by rfl) rfl rfl (by (try simp only [List.map_toArray, List.map_cons, List.map_nil]); first | done | rfl | (simp only [List.length_drop, List.length_take]; rfl)) ?_
                with_reducible refine (windroseref17_fold.calls a0 t352 _ A23.out).mono ?_
                rintro e w' ⟨rfl, ⟨nd, rfl⟩⟩
                refine ⟨_, rfl, ?_⟩
                refine hK.out _ _ (hHeld) (fun hHeld => ?_)
                clear hK K
                refine norm_ (a' := ?_) ?_ ?_
                rotate_left
                · show Act.put _ (some 26) _ = _
                  simp only [ap_, sb_, s0_, s1_, i64_w, i32_w]
                  rfl
                refine one_ (i := 7) (N := some 31) #[true, true, true, true, true, true, true, true, false, false] rfl rfl (one_of HT_.out (by kernel_rfl)) (by decide) (fun K hK => ?_)
                refine goes_ Try.func35 (by kernel_rfl) rfl #[.int .u64 t352, .int .i64 (rd y331 t334)] (by rfl) rfl rfl (by (try simp only [List.map_toArray, List.map_cons, List.map_nil]); first | done | rfl | (simp only [List.length_drop, List.length_take]; rfl)) ?_
                with_reducible refine (windroseref17_Low.calls k1 t352 (rd y331 t334) t354 _ A26.out).mono ?_
                rintro e w7001 ⟨v7000, rfl, ho7000, hb⟩
                have HS7000_ := (hb.cell (World.block_lt_of_cell? _ _ (hHeld))).trans (hHeld)
                refine ⟨_, rfl, ?_⟩
                have n_ := pk4 (Kd.R_below (ro_ HO_3) hb) (Kd.R_elder' (ro_ HO_5) (Kd.R_base ho7000) hb) (Kd.R_lower (Kd.R_new' ho7000 (Kd.R_lt (ro_ HO_5))) (below_size bl_)) (below_step bl_ hb)
                clear HO_3 HO_5 HB
                obtain ⟨HO_3, HO_5, HO7000, HB⟩ := n_
                (try clear hb)
                (try clear hb2)
                (try clear hk)
                (try clear hi)
                (try clear ho7000)
                obtain ⟨Ao7001, co7001, eo7001⟩ := Kd.R_slice HO7000.out
                (first | subst eo7001 | (injection eo7001 with f1_ f2_ f3_; have f7000_ := f1_.symm; have f7001_ := f3_.symm; clear f1_ f2_ f3_; subst f7000_; subst f7001_))
                refine hK.out _ _ (HS7000_) (fun hHeld => ?_)
                clear hK K
                refine norm_ (a' := ?_) ?_ ?_
                rotate_left
                · show Act.put _ (some 31) _ = _
                  simp only [ap_, sb_, s0_, s1_, i64_w, i32_w]
                  rfl
                refine last_ (i := 8) (N := some 32) #[true, true, true, true, true, true, true, true, true, false] rfl rfl (one_of HT_.out (by kernel_rfl)) (by decide) (fun K hK => ?_)
                refine Kd.R_append_rows_step Kd.bool (w0 := w) w.heap.size (by rfl) (.tmp 24) (.tmp 31) 39 4 (.bool false) 1 rfl Try.underlying39 info4 rfl (by decide) (by omega) u5 x5_1 t354 _ _ _ (fun k_ => some k_ ≠ (.slice Ao7001 t354.length co7001 : Value).ownBlock) (fun _ => False) rfl rfl ?aO ?aR (fun _ _ h => h) (fun _ h => h.elim) ?aF ?aB ?aS ?aL ?_
                (case aR => exact cr_ HO7000)
                (case aB => exact bl_)
                (case aF => exact (fun k_ hk => Kd.fresh' (Kd.R_lt (ro_ HO7000)) k_ hk))
                (case aO => exact (rt_ (Kd.R_mono HO_5.out (fun _ hk => hk.2))))
                (case aS => exact (below_size bl_))
                (case aL => have := LMc27.out; omega)
                intro v7001 w7002 ho hb hg hat
                rw [← Ny357.out] at ho
                have n_ := pk4 (Kd.R_over' (ro_ HO_3) (Kd.R_typed (ro_ HO_5)) (by decide) hg) (Kd.R_after (ok := (fun _ => True)) (ro_ HO7000) hg hat) (hb) (ho)
                clear HO_3 HO7000 HB HO_5
                obtain ⟨HO_3, HO7000, HB, HO7001⟩ := n_
                clear ho hb hg hat
                refine hK.out _ _ ?_
                clear hK K
                refine norm_ (a' := ?_) ?_ ?_
                rotate_left
                · show Act.put _ (some 32) _ = _
                  simp only [ap_, sb_, s0_, s1_, i64_w, i32_w]
                  rfl
                refine pure_ (i := 9) (N := some 2) (v := ?_) (a' := ?_) #[true, true, true, true, true, true, true, true, true, true] rfl rfl (any_of HT_.out (by kernel_rfl)) (fun _ _ _ h => h) (Or.inl ⟨by rfl, ?_⟩) ?_ ?_
                rotate_left
                · intro w'
                  go_simp
                  with_reducible rfl
                rotate_left
                · simp only [ap_, sb_, s0_, s1_, i64_w, i32_w]
                  rfl
                refine done_ (done_of HT_.out (by kernel_rfl)) ?_
                try go_wp2
                go_ret
                exact ⟨_, rf_, (rt_ (Kd.R_mono HO7001.out (fun _ hk => trivial))), bl_⟩
end Go.Proofs.Ytmddmbagehjdeaa.G
end
section
namespace Go.Proofs.Ytmddmbagehjdeaa.G
open Go.RowKit Go.Proofs.YtmddmbagehjdeaaX Go.Proofs.YtmddmbagehjdeaaW.PrintWords Go.Proofs.YtmddmbagehjdeaaW.PrintLast Go.Proofs.YtmddmbagehjdeaaW.PrintMore
attribute [local go_sem] max2_int min2_int max_two min_two max_three min_three max_four min_four
def bits_Number.f (k : Nat) (l0_0 : List Int) (a0_1 : Int) (a1 : Int) : Option (List Int × Int × Int) := (bits_Check.f k l0_0 a0_1).bind fun t127 => (if t127 = 0 then ((bits_own.f l0_0 a0_1).bind fun bt128 => ((bits_Size.f k a1).bind fun t132 => (if t132 > (wrap64 (131072 - bt128.2)) then (some (bt128.1, bt128.2, 6)) else ((bits_Class.f k a1).bind fun t133 => ((bits_lead.f t133).bind fun bt134 => ((bits_put.f k bt128.1 bt128.2 bt134.1 bt134.2).bind fun bt136 => ((bits_fold.f a1).bind fun t140 => ((bits_width.f t133).bind fun t141 => ((bits_put.f k bt136.1 bt136.2 t140 t141).bind fun bt142 => (some (bt142.1, bt142.2, 0))))))))))) else (some (([] : List Int), 0, t127)))
theorem bits_Number.mono : ∀ a0 a1 a2 k, LeO (bits_Number.f k a0 a1 a2) (bits_Number.f (k + 1) a0 a1 a2) := by
  intro a0 a1 a2 k
  unfold bits_Number.f
  repeat' first
      | (with_reducible exact bits_Check.mono _ _ _)
      | (with_reducible exact bits_Class.mono _ _)
      | (with_reducible exact bits_Size.mono _ _)
      | (with_reducible exact bits_put.mono _ _ _ _ _)
      | (with_reducible exact LeO.refl _)
      | (with_reducible exact LeO.none _)
      | (with_reducible refine LeO.ite ?_ ?_)
      | (with_reducible refine LeO.bind ?_ (fun _ => ?_))
      | exact bits_Check.mono _ _ _
      | exact bits_Class.mono _ _
      | exact bits_Size.mono _ _
      | exact bits_put.mono _ _ _ _ _
      | exact LeO.none _
      | refine LeO.ite ?_ ?_
      | refine LeO.bind ?_ (fun _ => ?_)
set_option maxHeartbeats 8000000 in
set_option maxRecDepth 100000 in
theorem bits_Number.calls (k : Nat) (A0_0 : Option Addr) (c0_0 : Nat) (l0_0 : List Int) (a0_1 : Int) (a1 : Int) (r1 : List Int) (r2 : Int) (r3 : Int) (w : World) (hr0_0 : Kd.C (Kd.int .u8) w A0_0 l0_0.length l0_0) (hc0_0 : l0_0.length ≤ c0_0) (h : bits_Number.f k l0_0 a0_1 a1 = some (r1, r2, r3)) :
    Calls Try.prog 15 #[.agg #[.slice A0_0 l0_0.length c0_0, .int .i64 a0_1], .int .i64 a1] w fun e w' => ∃ v0_ : Value, e = .returned (.tuple #[.agg #[v0_, .int .i64 r2], .int .i64 r3]) ∧ Kd.R (Kd.int .u8) 5 w' w.heap.size (fun _ => True) v0_ r1 ∧ Below w.heap.size w w' := by
  have hu25 := Try.underlying25
  have HR0_0 := Aside0.mk hr0_0
  have HC0_0 := Aside0.mk hc0_0
  clear hr0_0 hc0_0
  have HB := Aside0.mk (Below.refl w.heap.size w)
  have H : ((bits_Check.f k l0_0 a0_1).bind fun t127 => (if t127 = 0 then ((bits_own.f l0_0 a0_1).bind fun bt128 => ((bits_Size.f k a1).bind fun t132 => (if t132 > (wrap64 (131072 - bt128.2)) then (some (bt128.1, bt128.2, 6)) else ((bits_Class.f k a1).bind fun t133 => ((bits_lead.f t133).bind fun bt134 => ((bits_put.f k bt128.1 bt128.2 bt134.1 bt134.2).bind fun bt136 => ((bits_fold.f a1).bind fun t140 => ((bits_width.f t133).bind fun t141 => ((bits_put.f k bt136.1 bt136.2 t140 t141).bind fun bt142 => (some (bt142.1, bt142.2, 0))))))))))) else (some (([] : List Int), 0, t127)))) = some (r1, r2, r3) := h
  clear h
  replace H := bindA H
  obtain ⟨t127, A3, H⟩ := H
  try dsimp only at H
  replace H := deqn H
  rcases H with ⟨c4b0, c4b1, H⟩ | ⟨c4b0, c4b1, c4, H⟩
  focus
    replace H := bindA H
    obtain ⟨⟨t128, t131⟩, A5, H⟩ := H
    try dsimp only at H
    replace H := bindA H
    obtain ⟨t132, A6, H⟩ := H
    try dsimp only at H
    by_cases c7 : t132 > (wrap64 (131072 - t131))
    focus
      rw [if_pos c7] at H
      have c7b0 : decide ((wrap64 (131072 - t131)) < t132) = true := decide_eq_true c7
      have c7b0w : decide ((IntKind.i64.wrap (131072 - t131)) < t132) = true := by simpa only [i64_w] using c7b0
      clear c7
      simp only [Option.some.injEq, Prod.mk.injEq] at H
      obtain ⟨rfl, rfl, rfl⟩ := H
    rotate_left
    focus
      rw [if_neg c7] at H
      have c7b0 : decide ((wrap64 (131072 - t131)) < t132) = false := decide_eq_false c7
      have c7b0w : decide ((IntKind.i64.wrap (131072 - t131)) < t132) = false := by simpa only [i64_w] using c7b0
      clear c7
      replace H := bindA H
      obtain ⟨t133, A18, H⟩ := H
      try dsimp only at H
      replace H := bindA H
      obtain ⟨⟨t134, t135⟩, A19, H⟩ := H
      try dsimp only at H
      replace H := bindA H
      obtain ⟨⟨t136, t139⟩, A20, H⟩ := H
      try dsimp only at H
      replace H := bindA H
      obtain ⟨t140, A21, H⟩ := H
      try dsimp only at H
      replace H := bindA H
      obtain ⟨t141, A22, H⟩ := H
      try dsimp only at H
      replace H := bindA H
      obtain ⟨⟨t142, t145⟩, A23, H⟩ := H
      try dsimp only at H
      simp only [Option.some.injEq, Prod.mk.injEq] at H
      obtain ⟨rfl, rfl, rfl⟩ := H
  rotate_left 2
  focus
    simp only [Option.some.injEq, Prod.mk.injEq] at H
    obtain ⟨rfl, rfl, rfl⟩ := H
  all_goals
    first
      | go_enter Try.func15, Try.ntmps15
        go_wp2_with (first | ((with_reducible refine gate_dst (N := 2) rfl ?_); refine box_ev 2 #[.slice A0_0 l0_0.length c0_0, .int .i64 a0_1] 25 ?_; intro gb7000 hg w7000 hbox hb; have n_ := pk4 (below_step bl_ hb) (hbox) ((ge_ hg bl_ : w.heap.size ≤ gb7000)) ((ge_ hg bl_ : w.heap.size ≤ gb7000)); clear HB; obtain ⟨HB, BK7000, GW7000, GE7000⟩ := n_; clear hb hbox hg) | ((with_reducible refine gate_dst (N := 4) rfl ?_); refine box_ev 4 #[.slice none 0 0, .int .i64 0] 25 ?_; intro gb7001 hg w7001 hbox hb; have n_ := pk7 (blk_below (bo_ BK7000) hb) (below_step bl_ hb) (hbox) ((ge_ hg bl_ : w.heap.size ≤ gb7001)) ((ge_ hg bl_ : w.heap.size ≤ gb7001)) ((nb_ hg (bo_ BK7000) : gb7000 ≠ gb7001)) ((nc_ hg (bo_ BK7000) : gb7001 ≠ gb7000)); clear BK7000 HB; obtain ⟨BK7000, HB, BK7001, GW7001, GE7001, NB7000_7001, NB7001_7000⟩ := n_; clear hb hbox hg; have hnb7000 := NB7000_7001.out; have hnc7000 := NB7001_7000.out; have hcz7000_0 : w7001.cell? ⟨gb7000, 0, none⟩ = some (.slice A0_0 l0_0.length c0_0) := (blk_cell BK7000.out 0).trans rfl; have hcz7000_1 : w7001.cell? ⟨gb7000, 1, none⟩ = some (.int .i64 a0_1) := (blk_cell BK7000.out 1).trans rfl; have hfz7000_0 := blk_frozen BK7000.out 0; have hfz7000_1 := blk_frozen BK7000.out 1) | (go_at_call 58; (with_reducible refine (bits_Check.calls k _ _ l0_0 a0_1 t127 _ ?side1 ?side2 A3.out).mono ?_); (case side1 => exact cb_ HR0_0); (case side2 => exact HC0_0.out); rintro e w7002 ⟨rfl, hb⟩; have n_ := pk3 (blk_below (bo_ BK7000) hb) (blk_below (bo_ BK7001) hb) (below_step bl_ hb); clear BK7000 BK7001 HB; obtain ⟨BK7000, BK7001, HB⟩ := n_; (try clear hb); (try (have hcz7001_0 : w7002.cell? ⟨gb7000, 0, none⟩ = some (.slice A0_0 l0_0.length c0_0) := (blk_cell BK7000.out 0).trans rfl; have hcz7001_1 : w7002.cell? ⟨gb7000, 1, none⟩ = some (.int .i64 a0_1) := (blk_cell BK7000.out 1).trans rfl; have hfz7001_0 := blk_frozen BK7000.out 0; have hfz7001_1 := blk_frozen BK7000.out 1)); (try (have hcz7001_0 : w7002.cell? ⟨gb7001, 0, none⟩ = some (.slice none 0 0) := (blk_cell BK7001.out 0).trans rfl; have hcz7001_1 : w7002.cell? ⟨gb7001, 1, none⟩ = some (.int .i64 0) := (blk_cell BK7001.out 1).trans rfl; have hfz7001_0 := blk_frozen BK7001.out 0; have hfz7001_1 := blk_frozen BK7001.out 1))) | (go_at_call 59; (with_reducible refine (bits_own.calls _ _ l0_0 a0_1 t128 t131 _ ?side1 ?side2 A5.out).mono ?_); (case side1 => exact cb_ HR0_0); (case side2 => exact HC0_0.out); rintro e w7003 ⟨v7000, rfl, ho7000, hb⟩; have n_ := pk4 (Kd.R_lower ho7000 (below_size bl_)) (blk_below (bo_ BK7000) hb) (blk_below (bo_ BK7001) hb) (below_step bl_ hb); clear BK7000 BK7001 HB; obtain ⟨HO7000, BK7000, BK7001, HB⟩ := n_; (try clear hb ho7000); obtain ⟨Ao7000, co7000, eo7000⟩ := Kd.R_slice HO7000.out; subst eo7000; have hcz7002_0 : w7003.cell? ⟨gb7000, 0, none⟩ = some (.slice A0_0 l0_0.length c0_0) := (blk_cell BK7000.out 0).trans rfl; have hcz7002_1 : w7003.cell? ⟨gb7000, 1, none⟩ = some (.int .i64 a0_1) := (blk_cell BK7000.out 1).trans rfl; have hfz7002_0 := blk_frozen BK7000.out 0; have hfz7002_1 := blk_frozen BK7000.out 1) | (go_at_call 16; (with_reducible refine (bits_Size.calls k a1 t132 _ A6.out).mono ?_); rintro e w' ⟨rfl, ⟨nd, rfl⟩⟩; (try first | exact ⟨rfl, _, World.drewN_drewN _ _ _⟩ | exact ⟨rfl, _, Eq.trans (World.drewN_drewN _ _ _) (congrArg (World.drewN _) (Nat.add_assoc _ _ _))⟩); have hcz7003_0 : w7003.cell? ⟨gb7001, 0, none⟩ = some (.slice none 0 0) := (blk_cell BK7001.out 0).trans rfl; have hcz7003_1 : w7003.cell? ⟨gb7001, 1, none⟩ = some (.int .i64 0) := (blk_cell BK7001.out 1).trans rfl; have hfz7003_0 := blk_frozen BK7001.out 0; have hfz7003_1 := blk_frozen BK7001.out 1))
        repeat (go_quiet (first | ((with_reducible refine gate_dst (N := 2) rfl ?_); refine box_ev 2 #[.slice A0_0 l0_0.length c0_0, .int .i64 a0_1] 25 ?_; intro gb7000 hg w7000 hbox hb; have n_ := pk4 (below_step bl_ hb) (hbox) ((ge_ hg bl_ : w.heap.size ≤ gb7000)) ((ge_ hg bl_ : w.heap.size ≤ gb7000)); clear HB; obtain ⟨HB, BK7000, GW7000, GE7000⟩ := n_; clear hb hbox hg) | ((with_reducible refine gate_dst (N := 4) rfl ?_); refine box_ev 4 #[.slice none 0 0, .int .i64 0] 25 ?_; intro gb7001 hg w7001 hbox hb; have n_ := pk7 (blk_below (bo_ BK7000) hb) (below_step bl_ hb) (hbox) ((ge_ hg bl_ : w.heap.size ≤ gb7001)) ((ge_ hg bl_ : w.heap.size ≤ gb7001)) ((nb_ hg (bo_ BK7000) : gb7000 ≠ gb7001)) ((nc_ hg (bo_ BK7000) : gb7001 ≠ gb7000)); clear BK7000 HB; obtain ⟨BK7000, HB, BK7001, GW7001, GE7001, NB7000_7001, NB7001_7000⟩ := n_; clear hb hbox hg; have hnb7000 := NB7000_7001.out; have hnc7000 := NB7001_7000.out; have hcz7000_0 : w7001.cell? ⟨gb7000, 0, none⟩ = some (.slice A0_0 l0_0.length c0_0) := (blk_cell BK7000.out 0).trans rfl; have hcz7000_1 : w7001.cell? ⟨gb7000, 1, none⟩ = some (.int .i64 a0_1) := (blk_cell BK7000.out 1).trans rfl; have hfz7000_0 := blk_frozen BK7000.out 0; have hfz7000_1 := blk_frozen BK7000.out 1) | (go_at_call 58; (with_reducible refine (bits_Check.calls k _ _ l0_0 a0_1 t127 _ ?side1 ?side2 A3.out).mono ?_); (case side1 => exact cb_ HR0_0); (case side2 => exact HC0_0.out); rintro e w7002 ⟨rfl, hb⟩; have n_ := pk3 (blk_below (bo_ BK7000) hb) (blk_below (bo_ BK7001) hb) (below_step bl_ hb); clear BK7000 BK7001 HB; obtain ⟨BK7000, BK7001, HB⟩ := n_; (try clear hb); (try (have hcz7001_0 : w7002.cell? ⟨gb7000, 0, none⟩ = some (.slice A0_0 l0_0.length c0_0) := (blk_cell BK7000.out 0).trans rfl; have hcz7001_1 : w7002.cell? ⟨gb7000, 1, none⟩ = some (.int .i64 a0_1) := (blk_cell BK7000.out 1).trans rfl; have hfz7001_0 := blk_frozen BK7000.out 0; have hfz7001_1 := blk_frozen BK7000.out 1)); (try (have hcz7001_0 : w7002.cell? ⟨gb7001, 0, none⟩ = some (.slice none 0 0) := (blk_cell BK7001.out 0).trans rfl; have hcz7001_1 : w7002.cell? ⟨gb7001, 1, none⟩ = some (.int .i64 0) := (blk_cell BK7001.out 1).trans rfl; have hfz7001_0 := blk_frozen BK7001.out 0; have hfz7001_1 := blk_frozen BK7001.out 1))) | (go_at_call 59; (with_reducible refine (bits_own.calls _ _ l0_0 a0_1 t128 t131 _ ?side1 ?side2 A5.out).mono ?_); (case side1 => exact cb_ HR0_0); (case side2 => exact HC0_0.out); rintro e w7003 ⟨v7000, rfl, ho7000, hb⟩; have n_ := pk4 (Kd.R_lower ho7000 (below_size bl_)) (blk_below (bo_ BK7000) hb) (blk_below (bo_ BK7001) hb) (below_step bl_ hb); clear BK7000 BK7001 HB; obtain ⟨HO7000, BK7000, BK7001, HB⟩ := n_; (try clear hb ho7000); obtain ⟨Ao7000, co7000, eo7000⟩ := Kd.R_slice HO7000.out; subst eo7000; have hcz7002_0 : w7003.cell? ⟨gb7000, 0, none⟩ = some (.slice A0_0 l0_0.length c0_0) := (blk_cell BK7000.out 0).trans rfl; have hcz7002_1 : w7003.cell? ⟨gb7000, 1, none⟩ = some (.int .i64 a0_1) := (blk_cell BK7000.out 1).trans rfl; have hfz7002_0 := blk_frozen BK7000.out 0; have hfz7002_1 := blk_frozen BK7000.out 1) | (go_at_call 16; (with_reducible refine (bits_Size.calls k a1 t132 _ A6.out).mono ?_); rintro e w' ⟨rfl, ⟨nd, rfl⟩⟩; (try first | exact ⟨rfl, _, World.drewN_drewN _ _ _⟩ | exact ⟨rfl, _, Eq.trans (World.drewN_drewN _ _ _) (congrArg (World.drewN _) (Nat.add_assoc _ _ _))⟩); have hcz7003_0 : w7003.cell? ⟨gb7001, 0, none⟩ = some (.slice none 0 0) := (blk_cell BK7001.out 0).trans rfl; have hcz7003_1 : w7003.cell? ⟨gb7001, 1, none⟩ = some (.int .i64 0) := (blk_cell BK7001.out 1).trans rfl; have hfz7003_0 := blk_frozen BK7001.out 0; have hfz7003_1 := blk_frozen BK7001.out 1)); try go_wp2_with (first | ((with_reducible refine gate_dst (N := 2) rfl ?_); refine box_ev 2 #[.slice A0_0 l0_0.length c0_0, .int .i64 a0_1] 25 ?_; intro gb7000 hg w7000 hbox hb; have n_ := pk4 (below_step bl_ hb) (hbox) ((ge_ hg bl_ : w.heap.size ≤ gb7000)) ((ge_ hg bl_ : w.heap.size ≤ gb7000)); clear HB; obtain ⟨HB, BK7000, GW7000, GE7000⟩ := n_; clear hb hbox hg) | ((with_reducible refine gate_dst (N := 4) rfl ?_); refine box_ev 4 #[.slice none 0 0, .int .i64 0] 25 ?_; intro gb7001 hg w7001 hbox hb; have n_ := pk7 (blk_below (bo_ BK7000) hb) (below_step bl_ hb) (hbox) ((ge_ hg bl_ : w.heap.size ≤ gb7001)) ((ge_ hg bl_ : w.heap.size ≤ gb7001)) ((nb_ hg (bo_ BK7000) : gb7000 ≠ gb7001)) ((nc_ hg (bo_ BK7000) : gb7001 ≠ gb7000)); clear BK7000 HB; obtain ⟨BK7000, HB, BK7001, GW7001, GE7001, NB7000_7001, NB7001_7000⟩ := n_; clear hb hbox hg; have hnb7000 := NB7000_7001.out; have hnc7000 := NB7001_7000.out; have hcz7000_0 : w7001.cell? ⟨gb7000, 0, none⟩ = some (.slice A0_0 l0_0.length c0_0) := (blk_cell BK7000.out 0).trans rfl; have hcz7000_1 : w7001.cell? ⟨gb7000, 1, none⟩ = some (.int .i64 a0_1) := (blk_cell BK7000.out 1).trans rfl; have hfz7000_0 := blk_frozen BK7000.out 0; have hfz7000_1 := blk_frozen BK7000.out 1) | (go_at_call 58; (with_reducible refine (bits_Check.calls k _ _ l0_0 a0_1 t127 _ ?side1 ?side2 A3.out).mono ?_); (case side1 => exact cb_ HR0_0); (case side2 => exact HC0_0.out); rintro e w7002 ⟨rfl, hb⟩; have n_ := pk3 (blk_below (bo_ BK7000) hb) (blk_below (bo_ BK7001) hb) (below_step bl_ hb); clear BK7000 BK7001 HB; obtain ⟨BK7000, BK7001, HB⟩ := n_; (try clear hb); (try (have hcz7001_0 : w7002.cell? ⟨gb7000, 0, none⟩ = some (.slice A0_0 l0_0.length c0_0) := (blk_cell BK7000.out 0).trans rfl; have hcz7001_1 : w7002.cell? ⟨gb7000, 1, none⟩ = some (.int .i64 a0_1) := (blk_cell BK7000.out 1).trans rfl; have hfz7001_0 := blk_frozen BK7000.out 0; have hfz7001_1 := blk_frozen BK7000.out 1)); (try (have hcz7001_0 : w7002.cell? ⟨gb7001, 0, none⟩ = some (.slice none 0 0) := (blk_cell BK7001.out 0).trans rfl; have hcz7001_1 : w7002.cell? ⟨gb7001, 1, none⟩ = some (.int .i64 0) := (blk_cell BK7001.out 1).trans rfl; have hfz7001_0 := blk_frozen BK7001.out 0; have hfz7001_1 := blk_frozen BK7001.out 1))) | (go_at_call 59; (with_reducible refine (bits_own.calls _ _ l0_0 a0_1 t128 t131 _ ?side1 ?side2 A5.out).mono ?_); (case side1 => exact cb_ HR0_0); (case side2 => exact HC0_0.out); rintro e w7003 ⟨v7000, rfl, ho7000, hb⟩; have n_ := pk4 (Kd.R_lower ho7000 (below_size bl_)) (blk_below (bo_ BK7000) hb) (blk_below (bo_ BK7001) hb) (below_step bl_ hb); clear BK7000 BK7001 HB; obtain ⟨HO7000, BK7000, BK7001, HB⟩ := n_; (try clear hb ho7000); obtain ⟨Ao7000, co7000, eo7000⟩ := Kd.R_slice HO7000.out; subst eo7000; have hcz7002_0 : w7003.cell? ⟨gb7000, 0, none⟩ = some (.slice A0_0 l0_0.length c0_0) := (blk_cell BK7000.out 0).trans rfl; have hcz7002_1 : w7003.cell? ⟨gb7000, 1, none⟩ = some (.int .i64 a0_1) := (blk_cell BK7000.out 1).trans rfl; have hfz7002_0 := blk_frozen BK7000.out 0; have hfz7002_1 := blk_frozen BK7000.out 1) | (go_at_call 16; (with_reducible refine (bits_Size.calls k a1 t132 _ A6.out).mono ?_); rintro e w' ⟨rfl, ⟨nd, rfl⟩⟩; (try first | exact ⟨rfl, _, World.drewN_drewN _ _ _⟩ | exact ⟨rfl, _, Eq.trans (World.drewN_drewN _ _ _) (congrArg (World.drewN _) (Nat.add_assoc _ _ _))⟩); have hcz7003_0 : w7003.cell? ⟨gb7001, 0, none⟩ = some (.slice none 0 0) := (blk_cell BK7001.out 0).trans rfl; have hcz7003_1 : w7003.cell? ⟨gb7001, 1, none⟩ = some (.int .i64 0) := (blk_cell BK7001.out 1).trans rfl; have hfz7003_0 := blk_frozen BK7001.out 0; have hfz7003_1 := blk_frozen BK7001.out 1)))
        first
          | refine bodyPost_ret (results_ct rfl _ _ gb7001 25 #[.slice Ao7000 t128.length co7000, .int .i64 t131] (0, 0) _ rfl (by (with_reducible repeat (first | refine blk_drewN ?_ _ | refine blk_drew ?_ | refine blk_alloc ?_ _)); refine blk_put (cs := #[.slice Ao7000 t128.length co7000, .int .i64 0]) ?_ 1 _ rfl; (with_reducible repeat (first | refine blk_drewN ?_ _ | refine blk_drew ?_ | refine blk_alloc ?_ _)); refine blk_put (cs := #[.slice none 0 0, .int .i64 0]) ?_ 0 _ rfl; (with_reducible repeat (first | refine blk_drewN ?_ _ | refine blk_drew ?_ | refine blk_alloc ?_ _)); refine blk_far ?_ NB7001_7000.out _; (with_reducible repeat (first | refine blk_drewN ?_ _ | refine blk_drew ?_ | refine blk_alloc ?_ _)); refine blk_far ?_ NB7001_7000.out _; exact (bo_ BK7001)) Try.underlying25 rfl (by kernel_rfl)) rfl ?_
            exact ⟨_, rf_, (rt_ (Kd.R_mono (Kd.R_far (p := ⟨gb7001, 1, none⟩) (Kd.R_far (p := ⟨gb7001, 0, none⟩) (Kd.R_far (p := ⟨gb7000, 1, none⟩) (Kd.R_far (p := ⟨gb7000, 0, none⟩) (Kd.R_types (Kd.R_types HO7000.out BK7000.out (by decide)) BK7001.out (by decide)) (fun _ hk => hk.1.2) (.slice Ao7000 t128.length co7000)) (fun _ hk => hk.1.2) (.int .i64 t131)) (fun _ hk => hk.2) (.slice Ao7000 t128.length co7000)) (fun _ hk => hk.2) (.int .i64 t131)) (fun _ hk => trivial))), bl_⟩
          | refine bodyPost_ret (results_ct rfl _ _ gb7001 25 #[.slice none 0 0, .int .i64 0] (0, 0) _ rfl (by (with_reducible repeat (first | refine blk_drewN ?_ _ | refine blk_drew ?_ | refine blk_alloc ?_ _)); refine blk_put (cs := #[.slice none 0 0, .int .i64 0]) ?_ 1 _ rfl; (with_reducible repeat (first | refine blk_drewN ?_ _ | refine blk_drew ?_ | refine blk_alloc ?_ _)); refine blk_put (cs := #[.slice none 0 0, .int .i64 0]) ?_ 0 _ rfl; exact (bo_ BK7001)) Try.underlying25 rfl (by kernel_rfl)) rfl ?_
            exact ⟨_, rf_, nl_, bl_⟩
      | go_enter Try.func15, Try.ntmps15
        go_wp2_with (first | ((with_reducible refine gate_dst (N := 2) rfl ?_); refine box_ev 2 #[.slice A0_0 l0_0.length c0_0, .int .i64 a0_1] 25 ?_; intro gb7000 hg w7000 hbox hb; have n_ := pk4 (below_step bl_ hb) (hbox) ((ge_ hg bl_ : w.heap.size ≤ gb7000)) ((ge_ hg bl_ : w.heap.size ≤ gb7000)); clear HB; obtain ⟨HB, BK7000, GW7000, GE7000⟩ := n_; clear hb hbox hg) | ((with_reducible refine gate_dst (N := 4) rfl ?_); refine box_ev 4 #[.slice none 0 0, .int .i64 0] 25 ?_; intro gb7001 hg w7001 hbox hb; have n_ := pk7 (blk_below (bo_ BK7000) hb) (below_step bl_ hb) (hbox) ((ge_ hg bl_ : w.heap.size ≤ gb7001)) ((ge_ hg bl_ : w.heap.size ≤ gb7001)) ((nb_ hg (bo_ BK7000) : gb7000 ≠ gb7001)) ((nc_ hg (bo_ BK7000) : gb7001 ≠ gb7000)); clear BK7000 HB; obtain ⟨BK7000, HB, BK7001, GW7001, GE7001, NB7000_7001, NB7001_7000⟩ := n_; clear hb hbox hg; have hnb7000 := NB7000_7001.out; have hnc7000 := NB7001_7000.out; have hcz7000_0 : w7001.cell? ⟨gb7000, 0, none⟩ = some (.slice A0_0 l0_0.length c0_0) := (blk_cell BK7000.out 0).trans rfl; have hcz7000_1 : w7001.cell? ⟨gb7000, 1, none⟩ = some (.int .i64 a0_1) := (blk_cell BK7000.out 1).trans rfl; have hfz7000_0 := blk_frozen BK7000.out 0; have hfz7000_1 := blk_frozen BK7000.out 1) | (go_at_call 58; (with_reducible refine (bits_Check.calls k _ _ l0_0 a0_1 t127 _ ?side1 ?side2 A3.out).mono ?_); (case side1 => exact cb_ HR0_0); (case side2 => exact HC0_0.out); rintro e w7002 ⟨rfl, hb⟩; have n_ := pk3 (blk_below (bo_ BK7000) hb) (blk_below (bo_ BK7001) hb) (below_step bl_ hb); clear BK7000 BK7001 HB; obtain ⟨BK7000, BK7001, HB⟩ := n_; (try clear hb); have hcz7001_0 : w7002.cell? ⟨gb7000, 0, none⟩ = some (.slice A0_0 l0_0.length c0_0) := (blk_cell BK7000.out 0).trans rfl; have hcz7001_1 : w7002.cell? ⟨gb7000, 1, none⟩ = some (.int .i64 a0_1) := (blk_cell BK7000.out 1).trans rfl; have hfz7001_0 := blk_frozen BK7000.out 0; have hfz7001_1 := blk_frozen BK7000.out 1) | (go_at_call 59; (with_reducible refine (bits_own.calls _ _ l0_0 a0_1 t128 t131 _ ?side1 ?side2 A5.out).mono ?_); (case side1 => exact cb_ HR0_0); (case side2 => exact HC0_0.out); rintro e w7003 ⟨v7000, rfl, ho7000, hb⟩; have n_ := pk4 (Kd.R_lower ho7000 (below_size bl_)) (blk_below (bo_ BK7000) hb) (blk_below (bo_ BK7001) hb) (below_step bl_ hb); clear BK7000 BK7001 HB; obtain ⟨HO7000, BK7000, BK7001, HB⟩ := n_; (try clear hb ho7000); obtain ⟨Ao7000, co7000, eo7000⟩ := Kd.R_slice HO7000.out; subst eo7000; have hcz7002_0 : w7003.cell? ⟨gb7000, 0, none⟩ = some (.slice A0_0 l0_0.length c0_0) := (blk_cell BK7000.out 0).trans rfl; have hcz7002_1 : w7003.cell? ⟨gb7000, 1, none⟩ = some (.int .i64 a0_1) := (blk_cell BK7000.out 1).trans rfl; have hfz7002_0 := blk_frozen BK7000.out 0; have hfz7002_1 := blk_frozen BK7000.out 1) | ((with_reducible refine gate_store (t := 25) (p := 2) rfl ?_); (try (rw [drewN_self w7003]; generalize hq_ : World.drewN w7003 _ = w7003; have n7000_ := Aside0.mk (Kd.R_at hq_ HO7000.out); have n7001_ := Aside0.mk (blk_at hq_ BK7000.out); have n7002_ := Aside0.mk (blk_at hq_ BK7001.out); have n7003_ := Aside0.mk (below_at hq_ HB.out); clear hq_ HO7000 BK7000 BK7001 HB; have HO7000 := n7000_; have BK7000 := n7001_; have BK7001 := n7002_; have HB := n7003_; clear n7000_ n7001_ n7002_ n7003_)); refine store_event (t := 25) (p := 2) (v := ?vo_w33) (w1 := ((w7003.setCell ⟨gb7000, 0, none⟩ (.slice Ao7000 t128.length co7000)).setCell ⟨gb7000, 1, none⟩ (.int .i64 t131))) ?hg ?ho ?hn ?hr ?_; (case ho => rfl); (case hg => rfl); (case hn => rfl); (case hr => first | (go_simp; done) | (go_simp; rfl)); intro w7004 hw; have n7000_ : Aside0 (Kd.R (Kd.int .u8) 5 w7004 w.heap.size (fun _ => True) (.slice Ao7000 t128.length co7000) t128) := ⟨(by rw [hw]; exact (rt_ (Kd.R_mono (Kd.R_far (p := ⟨gb7000, 1, none⟩) (Kd.R_far (p := ⟨gb7000, 0, none⟩) (Kd.R_types HO7000.out BK7000.out (by decide)) (fun _ hk => hk.2) (.slice Ao7000 t128.length co7000)) (fun _ hk => hk.2) (.int .i64 t131)) (fun _ hk => trivial))))⟩; have n7001_ : Aside0 (w7004.heap[gb7000]? = some (.cells #[.slice Ao7000 t128.length co7000, .int .i64 t131] 25 (0, 0))) := ⟨(by rw [hw]; exact (by (with_reducible repeat (first | refine blk_drewN ?_ _ | refine blk_drew ?_ | refine blk_alloc ?_ _)); refine blk_put (cs := #[.slice Ao7000 t128.length co7000, .int .i64 a0_1]) ?_ 1 _ rfl; (with_reducible repeat (first | refine blk_drewN ?_ _ | refine blk_drew ?_ | refine blk_alloc ?_ _)); refine blk_put (cs := #[.slice A0_0 l0_0.length c0_0, .int .i64 a0_1]) ?_ 0 _ rfl; exact (bo_ BK7000)))⟩; have n7002_ : Aside0 (w7004.heap[gb7001]? = some (.cells #[.slice none 0 0, .int .i64 0] 25 (0, 0))) := ⟨(by rw [hw]; exact (by (with_reducible repeat (first | refine blk_drewN ?_ _ | refine blk_drew ?_ | refine blk_alloc ?_ _)); refine blk_far ?_ NB7001_7000.out _; (with_reducible repeat (first | refine blk_drewN ?_ _ | refine blk_drew ?_ | refine blk_alloc ?_ _)); refine blk_far ?_ NB7001_7000.out _; exact (bo_ BK7001)))⟩; have n7003_ : Aside0 (Below w.heap.size w w7004) := ⟨(by rw [hw]; exact bl_)⟩; clear hw; clear HO7000; clear BK7000; clear BK7001; clear HB; have HO7000 := n7000_; have BK7000 := n7001_; have BK7001 := n7002_; have HB := n7003_; clear n7000_ n7001_ n7002_ n7003_) | (go_at_call 16; (with_reducible refine (bits_Size.calls k a1 t132 _ A6.out).mono ?_); rintro e w' ⟨rfl, ⟨nd, rfl⟩⟩; (try first | exact ⟨rfl, _, World.drewN_drewN _ _ _⟩ | exact ⟨rfl, _, Eq.trans (World.drewN_drewN _ _ _) (congrArg (World.drewN _) (Nat.add_assoc _ _ _))⟩); have hcz7003_0 : w7004.cell? ⟨gb7000, 0, none⟩ = some (.slice Ao7000 t128.length co7000) := (blk_cell BK7000.out 0).trans rfl; have hcz7003_1 : w7004.cell? ⟨gb7000, 1, none⟩ = some (.int .i64 t131) := (blk_cell BK7000.out 1).trans rfl; have hfz7003_0 := blk_frozen BK7000.out 0; have hfz7003_1 := blk_frozen BK7000.out 1) | (go_at_call 33; (with_reducible refine (bits_Class.calls k a1 t133 _ A18.out).mono ?_); rintro e w' ⟨rfl, ⟨nd, rfl⟩⟩; (try first | exact ⟨rfl, _, World.drewN_drewN _ _ _⟩ | exact ⟨rfl, _, Eq.trans (World.drewN_drewN _ _ _) (congrArg (World.drewN _) (Nat.add_assoc _ _ _))⟩)) | (go_at_call 60; (with_reducible refine (bits_lead.calls t133 t134 t135 _ A19.out).mono ?_); rintro e w' ⟨rfl, ⟨nd, rfl⟩⟩; (try first | exact ⟨rfl, _, World.drewN_drewN _ _ _⟩ | exact ⟨rfl, _, Eq.trans (World.drewN_drewN _ _ _) (congrArg (World.drewN _) (Nat.add_assoc _ _ _))⟩)) | (go_at_call 61; (with_reducible refine (bits_put.calls k (fun k_ => some k_ = (.slice Ao7000 t128.length co7000 : Value).ownBlock) (.slice Ao7000 t128.length co7000) t128 t131 t134 t135 t136 t139 w _ ?side1 ?side2 A20.out).mono ?_); (case side1 => exact bl_); (case side2 => exact Kd.R_tight rfl HO7000.out); rintro e w7005 ⟨v7001, rfl, ho7000, hb, hkp⟩; have n_ := pk4 (blk_kept (bo_ BK7000) hkp (fun hs_ => (fun e_ => (Kd.R_ne HO7000.out BK7000.out (by decide)) e_) hs_)) (blk_kept (bo_ BK7001) hkp (fun hs_ => (fun e_ => (Kd.R_ne HO7000.out BK7001.out (by decide)) e_) hs_)) (Kd.R_mono (ok' := fun k_ => True) ho7000 (fun k_ hk_ => trivial)) (hb); clear BK7000 BK7001 HB HO7000; obtain ⟨BK7000, BK7001, HO7001, HB⟩ := n_; (try clear hb hkp ho7000)) | (go_at_call 62; (with_reducible refine (bits_fold.calls a1 t140 _ A21.out).mono ?_); rintro e w' ⟨rfl, ⟨nd, rfl⟩⟩; (try first | exact ⟨rfl, _, World.drewN_drewN _ _ _⟩ | exact ⟨rfl, _, Eq.trans (World.drewN_drewN _ _ _) (congrArg (World.drewN _) (Nat.add_assoc _ _ _))⟩)) | (go_at_call 63; (with_reducible refine (bits_width.calls t133 t141 _ A22.out).mono ?_); rintro e w' ⟨rfl, ⟨nd, rfl⟩⟩; (try first | exact ⟨rfl, _, World.drewN_drewN _ _ _⟩ | exact ⟨rfl, _, Eq.trans (World.drewN_drewN _ _ _) (congrArg (World.drewN _) (Nat.add_assoc _ _ _))⟩); obtain ⟨Ao7001, co7001, eo7001⟩ := Kd.R_slice HO7001.out; subst eo7001) | (go_at_call 61; (with_reducible refine (bits_put.calls k (fun k_ => some k_ = (.slice Ao7001 t136.length co7001 : Value).ownBlock) (.slice Ao7001 t136.length co7001) t136 t139 t140 t141 t142 t145 w _ ?side1 ?side2 A23.out).mono ?_); (case side1 => exact bl_); (case side2 => exact Kd.R_tight rfl HO7001.out); rintro e w7006 ⟨v7002, rfl, ho7000, hb, hkp⟩; have n_ := pk4 (blk_kept (bo_ BK7000) hkp (fun hs_ => (fun e_ => (Kd.R_ne HO7001.out BK7000.out (by decide)) e_) hs_)) (blk_kept (bo_ BK7001) hkp (fun hs_ => (fun e_ => (Kd.R_ne HO7001.out BK7001.out (by decide)) e_) hs_)) (Kd.R_mono (ok' := fun k_ => True) ho7000 (fun k_ hk_ => trivial)) (hb); clear BK7000 BK7001 HB HO7001; obtain ⟨BK7000, BK7001, HO7002, HB⟩ := n_; (try clear hb hkp ho7000); obtain ⟨Ao7002, co7002, eo7002⟩ := Kd.R_slice HO7002.out; subst eo7002; have hcz7004_0 : w7006.cell? ⟨gb7001, 0, none⟩ = some (.slice none 0 0) := (blk_cell BK7001.out 0).trans rfl; have hcz7004_1 : w7006.cell? ⟨gb7001, 1, none⟩ = some (.int .i64 0) := (blk_cell BK7001.out 1).trans rfl; have hfz7004_0 := blk_frozen BK7001.out 0; have hfz7004_1 := blk_frozen BK7001.out 1))
        repeat (go_quiet (first | ((with_reducible refine gate_dst (N := 2) rfl ?_); refine box_ev 2 #[.slice A0_0 l0_0.length c0_0, .int .i64 a0_1] 25 ?_; intro gb7000 hg w7000 hbox hb; have n_ := pk4 (below_step bl_ hb) (hbox) ((ge_ hg bl_ : w.heap.size ≤ gb7000)) ((ge_ hg bl_ : w.heap.size ≤ gb7000)); clear HB; obtain ⟨HB, BK7000, GW7000, GE7000⟩ := n_; clear hb hbox hg) | ((with_reducible refine gate_dst (N := 4) rfl ?_); refine box_ev 4 #[.slice none 0 0, .int .i64 0] 25 ?_; intro gb7001 hg w7001 hbox hb; have n_ := pk7 (blk_below (bo_ BK7000) hb) (below_step bl_ hb) (hbox) ((ge_ hg bl_ : w.heap.size ≤ gb7001)) ((ge_ hg bl_ : w.heap.size ≤ gb7001)) ((nb_ hg (bo_ BK7000) : gb7000 ≠ gb7001)) ((nc_ hg (bo_ BK7000) : gb7001 ≠ gb7000)); clear BK7000 HB; obtain ⟨BK7000, HB, BK7001, GW7001, GE7001, NB7000_7001, NB7001_7000⟩ := n_; clear hb hbox hg; have hnb7000 := NB7000_7001.out; have hnc7000 := NB7001_7000.out; have hcz7000_0 : w7001.cell? ⟨gb7000, 0, none⟩ = some (.slice A0_0 l0_0.length c0_0) := (blk_cell BK7000.out 0).trans rfl; have hcz7000_1 : w7001.cell? ⟨gb7000, 1, none⟩ = some (.int .i64 a0_1) := (blk_cell BK7000.out 1).trans rfl; have hfz7000_0 := blk_frozen BK7000.out 0; have hfz7000_1 := blk_frozen BK7000.out 1) | (go_at_call 58; (with_reducible refine (bits_Check.calls k _ _ l0_0 a0_1 t127 _ ?side1 ?side2 A3.out).mono ?_); (case side1 => exact cb_ HR0_0); (case side2 => exact HC0_0.out); rintro e w7002 ⟨rfl, hb⟩; have n_ := pk3 (blk_below (bo_ BK7000) hb) (blk_below (bo_ BK7001) hb) (below_step bl_ hb); clear BK7000 BK7001 HB; obtain ⟨BK7000, BK7001, HB⟩ := n_; (try clear hb); have hcz7001_0 : w7002.cell? ⟨gb7000, 0, none⟩ = some (.slice A0_0 l0_0.length c0_0) := (blk_cell BK7000.out 0).trans rfl; have hcz7001_1 : w7002.cell? ⟨gb7000, 1, none⟩ = some (.int .i64 a0_1) := (blk_cell BK7000.out 1).trans rfl; have hfz7001_0 := blk_frozen BK7000.out 0; have hfz7001_1 := blk_frozen BK7000.out 1) | (go_at_call 59; (with_reducible refine (bits_own.calls _ _ l0_0 a0_1 t128 t131 _ ?side1 ?side2 A5.out).mono ?_); (case side1 => exact cb_ HR0_0); (case side2 => exact HC0_0.out); rintro e w7003 ⟨v7000, rfl, ho7000, hb⟩; have n_ := pk4 (Kd.R_lower ho7000 (below_size bl_)) (blk_below (bo_ BK7000) hb) (blk_below (bo_ BK7001) hb) (below_step bl_ hb); clear BK7000 BK7001 HB; obtain ⟨HO7000, BK7000, BK7001, HB⟩ := n_; (try clear hb ho7000); obtain ⟨Ao7000, co7000, eo7000⟩ := Kd.R_slice HO7000.out; subst eo7000; have hcz7002_0 : w7003.cell? ⟨gb7000, 0, none⟩ = some (.slice A0_0 l0_0.length c0_0) := (blk_cell BK7000.out 0).trans rfl; have hcz7002_1 : w7003.cell? ⟨gb7000, 1, none⟩ = some (.int .i64 a0_1) := (blk_cell BK7000.out 1).trans rfl; have hfz7002_0 := blk_frozen BK7000.out 0; have hfz7002_1 := blk_frozen BK7000.out 1) | ((with_reducible refine gate_store (t := 25) (p := 2) rfl ?_); (try (rw [drewN_self w7003]; generalize hq_ : World.drewN w7003 _ = w7003; have n7000_ := Aside0.mk (Kd.R_at hq_ HO7000.out); have n7001_ := Aside0.mk (blk_at hq_ BK7000.out); have n7002_ := Aside0.mk (blk_at hq_ BK7001.out); have n7003_ := Aside0.mk (below_at hq_ HB.out); clear hq_ HO7000 BK7000 BK7001 HB; have HO7000 := n7000_; have BK7000 := n7001_; have BK7001 := n7002_; have HB := n7003_; clear n7000_ n7001_ n7002_ n7003_)); refine store_event (t := 25) (p := 2) (v := ?vo_w33) (w1 := ((w7003.setCell ⟨gb7000, 0, none⟩ (.slice Ao7000 t128.length co7000)).setCell ⟨gb7000, 1, none⟩ (.int .i64 t131))) ?hg ?ho ?hn ?hr ?_; (case ho => rfl); (case hg => rfl); (case hn => rfl); (case hr => first | (go_simp; done) | (go_simp; rfl)); intro w7004 hw; have n7000_ : Aside0 (Kd.R (Kd.int .u8) 5 w7004 w.heap.size (fun _ => True) (.slice Ao7000 t128.length co7000) t128) := ⟨(by rw [hw]; exact (rt_ (Kd.R_mono (Kd.R_far (p := ⟨gb7000, 1, none⟩) (Kd.R_far (p := ⟨gb7000, 0, none⟩) (Kd.R_types HO7000.out BK7000.out (by decide)) (fun _ hk => hk.2) (.slice Ao7000 t128.length co7000)) (fun _ hk => hk.2) (.int .i64 t131)) (fun _ hk => trivial))))⟩; have n7001_ : Aside0 (w7004.heap[gb7000]? = some (.cells #[.slice Ao7000 t128.length co7000, .int .i64 t131] 25 (0, 0))) := ⟨(by rw [hw]; exact (by (with_reducible repeat (first | refine blk_drewN ?_ _ | refine blk_drew ?_ | refine blk_alloc ?_ _)); refine blk_put (cs := #[.slice Ao7000 t128.length co7000, .int .i64 a0_1]) ?_ 1 _ rfl; (with_reducible repeat (first | refine blk_drewN ?_ _ | refine blk_drew ?_ | refine blk_alloc ?_ _)); refine blk_put (cs := #[.slice A0_0 l0_0.length c0_0, .int .i64 a0_1]) ?_ 0 _ rfl; exact (bo_ BK7000)))⟩; have n7002_ : Aside0 (w7004.heap[gb7001]? = some (.cells #[.slice none 0 0, .int .i64 0] 25 (0, 0))) := ⟨(by rw [hw]; exact (by (with_reducible repeat (first | refine blk_drewN ?_ _ | refine blk_drew ?_ | refine blk_alloc ?_ _)); refine blk_far ?_ NB7001_7000.out _; (with_reducible repeat (first | refine blk_drewN ?_ _ | refine blk_drew ?_ | refine blk_alloc ?_ _)); refine blk_far ?_ NB7001_7000.out _; exact (bo_ BK7001)))⟩; have n7003_ : Aside0 (Below w.heap.size w w7004) := ⟨(by rw [hw]; exact bl_)⟩; clear hw; clear HO7000; clear BK7000; clear BK7001; clear HB; have HO7000 := n7000_; have BK7000 := n7001_; have BK7001 := n7002_; have HB := n7003_; clear n7000_ n7001_ n7002_ n7003_) | (go_at_call 16; (with_reducible refine (bits_Size.calls k a1 t132 _ A6.out).mono ?_); rintro e w' ⟨rfl, ⟨nd, rfl⟩⟩; (try first | exact ⟨rfl, _, World.drewN_drewN _ _ _⟩ | exact ⟨rfl, _, Eq.trans (World.drewN_drewN _ _ _) (congrArg (World.drewN _) (Nat.add_assoc _ _ _))⟩); have hcz7003_0 : w7004.cell? ⟨gb7000, 0, none⟩ = some (.slice Ao7000 t128.length co7000) := (blk_cell BK7000.out 0).trans rfl; have hcz7003_1 : w7004.cell? ⟨gb7000, 1, none⟩ = some (.int .i64 t131) := (blk_cell BK7000.out 1).trans rfl; have hfz7003_0 := blk_frozen BK7000.out 0; have hfz7003_1 := blk_frozen BK7000.out 1) | (go_at_call 33; (with_reducible refine (bits_Class.calls k a1 t133 _ A18.out).mono ?_); rintro e w' ⟨rfl, ⟨nd, rfl⟩⟩; (try first | exact ⟨rfl, _, World.drewN_drewN _ _ _⟩ | exact ⟨rfl, _, Eq.trans (World.drewN_drewN _ _ _) (congrArg (World.drewN _) (Nat.add_assoc _ _ _))⟩)) | (go_at_call 60; (with_reducible refine (bits_lead.calls t133 t134 t135 _ A19.out).mono ?_); rintro e w' ⟨rfl, ⟨nd, rfl⟩⟩; (try first | exact ⟨rfl, _, World.drewN_drewN _ _ _⟩ | exact ⟨rfl, _, Eq.trans (World.drewN_drewN _ _ _) (congrArg (World.drewN _) (Nat.add_assoc _ _ _))⟩)) | (go_at_call 61; (with_reducible refine (bits_put.calls k (fun k_ => some k_ = (.slice Ao7000 t128.length co7000 : Value).ownBlock) (.slice Ao7000 t128.length co7000) t128 t131 t134 t135 t136 t139 w _ ?side1 ?side2 A20.out).mono ?_); (case side1 => exact bl_); (case side2 => exact Kd.R_tight rfl HO7000.out); rintro e w7005 ⟨v7001, rfl, ho7000, hb, hkp⟩; have n_ := pk4 (blk_kept (bo_ BK7000) hkp (fun hs_ => (fun e_ => (Kd.R_ne HO7000.out BK7000.out (by decide)) e_) hs_)) (blk_kept (bo_ BK7001) hkp (fun hs_ => (fun e_ => (Kd.R_ne HO7000.out BK7001.out (by decide)) e_) hs_)) (Kd.R_mono (ok' := fun k_ => True) ho7000 (fun k_ hk_ => trivial)) (hb); clear BK7000 BK7001 HB HO7000; obtain ⟨BK7000, BK7001, HO7001, HB⟩ := n_; (try clear hb hkp ho7000)) | (go_at_call 62; (with_reducible refine (bits_fold.calls a1 t140 _ A21.out).mono ?_); rintro e w' ⟨rfl, ⟨nd, rfl⟩⟩; (try first | exact ⟨rfl, _, World.drewN_drewN _ _ _⟩ | exact ⟨rfl, _, Eq.trans (World.drewN_drewN _ _ _) (congrArg (World.drewN _) (Nat.add_assoc _ _ _))⟩)) | (go_at_call 63; (with_reducible refine (bits_width.calls t133 t141 _ A22.out).mono ?_); rintro e w' ⟨rfl, ⟨nd, rfl⟩⟩; (try first | exact ⟨rfl, _, World.drewN_drewN _ _ _⟩ | exact ⟨rfl, _, Eq.trans (World.drewN_drewN _ _ _) (congrArg (World.drewN _) (Nat.add_assoc _ _ _))⟩); obtain ⟨Ao7001, co7001, eo7001⟩ := Kd.R_slice HO7001.out; subst eo7001) | (go_at_call 61; (with_reducible refine (bits_put.calls k (fun k_ => some k_ = (.slice Ao7001 t136.length co7001 : Value).ownBlock) (.slice Ao7001 t136.length co7001) t136 t139 t140 t141 t142 t145 w _ ?side1 ?side2 A23.out).mono ?_); (case side1 => exact bl_); (case side2 => exact Kd.R_tight rfl HO7001.out); rintro e w7006 ⟨v7002, rfl, ho7000, hb, hkp⟩; have n_ := pk4 (blk_kept (bo_ BK7000) hkp (fun hs_ => (fun e_ => (Kd.R_ne HO7001.out BK7000.out (by decide)) e_) hs_)) (blk_kept (bo_ BK7001) hkp (fun hs_ => (fun e_ => (Kd.R_ne HO7001.out BK7001.out (by decide)) e_) hs_)) (Kd.R_mono (ok' := fun k_ => True) ho7000 (fun k_ hk_ => trivial)) (hb); clear BK7000 BK7001 HB HO7001; obtain ⟨BK7000, BK7001, HO7002, HB⟩ := n_; (try clear hb hkp ho7000); obtain ⟨Ao7002, co7002, eo7002⟩ := Kd.R_slice HO7002.out; subst eo7002; have hcz7004_0 : w7006.cell? ⟨gb7001, 0, none⟩ = some (.slice none 0 0) := (blk_cell BK7001.out 0).trans rfl; have hcz7004_1 : w7006.cell? ⟨gb7001, 1, none⟩ = some (.int .i64 0) := (blk_cell BK7001.out 1).trans rfl; have hfz7004_0 := blk_frozen BK7001.out 0; have hfz7004_1 := blk_frozen BK7001.out 1)); try go_wp2_with (first | ((with_reducible refine gate_dst (N := 2) rfl ?_); refine box_ev 2 #[.slice A0_0 l0_0.length c0_0, .int .i64 a0_1] 25 ?_; intro gb7000 hg w7000 hbox hb; have n_ := pk4 (below_step bl_ hb) (hbox) ((ge_ hg bl_ : w.heap.size ≤ gb7000)) ((ge_ hg bl_ : w.heap.size ≤ gb7000)); clear HB; obtain ⟨HB, BK7000, GW7000, GE7000⟩ := n_; clear hb hbox hg) | ((with_reducible refine gate_dst (N := 4) rfl ?_); refine box_ev 4 #[.slice none 0 0, .int .i64 0] 25 ?_; intro gb7001 hg w7001 hbox hb; have n_ := pk7 (blk_below (bo_ BK7000) hb) (below_step bl_ hb) (hbox) ((ge_ hg bl_ : w.heap.size ≤ gb7001)) ((ge_ hg bl_ : w.heap.size ≤ gb7001)) ((nb_ hg (bo_ BK7000) : gb7000 ≠ gb7001)) ((nc_ hg (bo_ BK7000) : gb7001 ≠ gb7000)); clear BK7000 HB; obtain ⟨BK7000, HB, BK7001, GW7001, GE7001, NB7000_7001, NB7001_7000⟩ := n_; clear hb hbox hg; have hnb7000 := NB7000_7001.out; have hnc7000 := NB7001_7000.out; have hcz7000_0 : w7001.cell? ⟨gb7000, 0, none⟩ = some (.slice A0_0 l0_0.length c0_0) := (blk_cell BK7000.out 0).trans rfl; have hcz7000_1 : w7001.cell? ⟨gb7000, 1, none⟩ = some (.int .i64 a0_1) := (blk_cell BK7000.out 1).trans rfl; have hfz7000_0 := blk_frozen BK7000.out 0; have hfz7000_1 := blk_frozen BK7000.out 1) | (go_at_call 58; (with_reducible refine (bits_Check.calls k _ _ l0_0 a0_1 t127 _ ?side1 ?side2 A3.out).mono ?_); (case side1 => exact cb_ HR0_0); (case side2 => exact HC0_0.out); rintro e w7002 ⟨rfl, hb⟩; have n_ := pk3 (blk_below (bo_ BK7000) hb) (blk_below (bo_ BK7001) hb) (below_step bl_ hb); clear BK7000 BK7001 HB; obtain ⟨BK7000, BK7001, HB⟩ := n_; (try clear hb); have hcz7001_0 : w7002.cell? ⟨gb7000, 0, none⟩ = some (.slice A0_0 l0_0.length c0_0) := (blk_cell BK7000.out 0).trans rfl; have hcz7001_1 : w7002.cell? ⟨gb7000, 1, none⟩ = some (.int .i64 a0_1) := (blk_cell BK7000.out 1).trans rfl; have hfz7001_0 := blk_frozen BK7000.out 0; have hfz7001_1 := blk_frozen BK7000.out 1) | (go_at_call 59; (with_reducible refine (bits_own.calls _ _ l0_0 a0_1 t128 t131 _ ?side1 ?side2 A5.out).mono ?_); (case side1 => exact cb_ HR0_0); (case side2 => exact HC0_0.out); rintro e w7003 ⟨v7000, rfl, ho7000, hb⟩; have n_ := pk4 (Kd.R_lower ho7000 (below_size bl_)) (blk_below (bo_ BK7000) hb) (blk_below (bo_ BK7001) hb) (below_step bl_ hb); clear BK7000 BK7001 HB; obtain ⟨HO7000, BK7000, BK7001, HB⟩ := n_; (try clear hb ho7000); obtain ⟨Ao7000, co7000, eo7000⟩ := Kd.R_slice HO7000.out; subst eo7000; have hcz7002_0 : w7003.cell? ⟨gb7000, 0, none⟩ = some (.slice A0_0 l0_0.length c0_0) := (blk_cell BK7000.out 0).trans rfl; have hcz7002_1 : w7003.cell? ⟨gb7000, 1, none⟩ = some (.int .i64 a0_1) := (blk_cell BK7000.out 1).trans rfl; have hfz7002_0 := blk_frozen BK7000.out 0; have hfz7002_1 := blk_frozen BK7000.out 1) | ((with_reducible refine gate_store (t := 25) (p := 2) rfl ?_); (try (rw [drewN_self w7003]; generalize hq_ : World.drewN w7003 _ = w7003; have n7000_ := Aside0.mk (Kd.R_at hq_ HO7000.out); have n7001_ := Aside0.mk (blk_at hq_ BK7000.out); have n7002_ := Aside0.mk (blk_at hq_ BK7001.out); have n7003_ := Aside0.mk (below_at hq_ HB.out); clear hq_ HO7000 BK7000 BK7001 HB; have HO7000 := n7000_; have BK7000 := n7001_; have BK7001 := n7002_; have HB := n7003_; clear n7000_ n7001_ n7002_ n7003_)); refine store_event (t := 25) (p := 2) (v := ?vo_w33) (w1 := ((w7003.setCell ⟨gb7000, 0, none⟩ (.slice Ao7000 t128.length co7000)).setCell ⟨gb7000, 1, none⟩ (.int .i64 t131))) ?hg ?ho ?hn ?hr ?_; (case ho => rfl); (case hg => rfl); (case hn => rfl); (case hr => first | (go_simp; done) | (go_simp; rfl)); intro w7004 hw; have n7000_ : Aside0 (Kd.R (Kd.int .u8) 5 w7004 w.heap.size (fun _ => True) (.slice Ao7000 t128.length co7000) t128) := ⟨(by rw [hw]; exact (rt_ (Kd.R_mono (Kd.R_far (p := ⟨gb7000, 1, none⟩) (Kd.R_far (p := ⟨gb7000, 0, none⟩) (Kd.R_types HO7000.out BK7000.out (by decide)) (fun _ hk => hk.2) (.slice Ao7000 t128.length co7000)) (fun _ hk => hk.2) (.int .i64 t131)) (fun _ hk => trivial))))⟩; have n7001_ : Aside0 (w7004.heap[gb7000]? = some (.cells #[.slice Ao7000 t128.length co7000, .int .i64 t131] 25 (0, 0))) := ⟨(by rw [hw]; exact (by (with_reducible repeat (first | refine blk_drewN ?_ _ | refine blk_drew ?_ | refine blk_alloc ?_ _)); refine blk_put (cs := #[.slice Ao7000 t128.length co7000, .int .i64 a0_1]) ?_ 1 _ rfl; (with_reducible repeat (first | refine blk_drewN ?_ _ | refine blk_drew ?_ | refine blk_alloc ?_ _)); refine blk_put (cs := #[.slice A0_0 l0_0.length c0_0, .int .i64 a0_1]) ?_ 0 _ rfl; exact (bo_ BK7000)))⟩; have n7002_ : Aside0 (w7004.heap[gb7001]? = some (.cells #[.slice none 0 0, .int .i64 0] 25 (0, 0))) := ⟨(by rw [hw]; exact (by (with_reducible repeat (first | refine blk_drewN ?_ _ | refine blk_drew ?_ | refine blk_alloc ?_ _)); refine blk_far ?_ NB7001_7000.out _; (with_reducible repeat (first | refine blk_drewN ?_ _ | refine blk_drew ?_ | refine blk_alloc ?_ _)); refine blk_far ?_ NB7001_7000.out _; exact (bo_ BK7001)))⟩; have n7003_ : Aside0 (Below w.heap.size w w7004) := ⟨(by rw [hw]; exact bl_)⟩; clear hw; clear HO7000; clear BK7000; clear BK7001; clear HB; have HO7000 := n7000_; have BK7000 := n7001_; have BK7001 := n7002_; have HB := n7003_; clear n7000_ n7001_ n7002_ n7003_) | (go_at_call 16; (with_reducible refine (bits_Size.calls k a1 t132 _ A6.out).mono ?_); rintro e w' ⟨rfl, ⟨nd, rfl⟩⟩; (try first | exact ⟨rfl, _, World.drewN_drewN _ _ _⟩ | exact ⟨rfl, _, Eq.trans (World.drewN_drewN _ _ _) (congrArg (World.drewN _) (Nat.add_assoc _ _ _))⟩); have hcz7003_0 : w7004.cell? ⟨gb7000, 0, none⟩ = some (.slice Ao7000 t128.length co7000) := (blk_cell BK7000.out 0).trans rfl; have hcz7003_1 : w7004.cell? ⟨gb7000, 1, none⟩ = some (.int .i64 t131) := (blk_cell BK7000.out 1).trans rfl; have hfz7003_0 := blk_frozen BK7000.out 0; have hfz7003_1 := blk_frozen BK7000.out 1) | (go_at_call 33; (with_reducible refine (bits_Class.calls k a1 t133 _ A18.out).mono ?_); rintro e w' ⟨rfl, ⟨nd, rfl⟩⟩; (try first | exact ⟨rfl, _, World.drewN_drewN _ _ _⟩ | exact ⟨rfl, _, Eq.trans (World.drewN_drewN _ _ _) (congrArg (World.drewN _) (Nat.add_assoc _ _ _))⟩)) | (go_at_call 60; (with_reducible refine (bits_lead.calls t133 t134 t135 _ A19.out).mono ?_); rintro e w' ⟨rfl, ⟨nd, rfl⟩⟩; (try first | exact ⟨rfl, _, World.drewN_drewN _ _ _⟩ | exact ⟨rfl, _, Eq.trans (World.drewN_drewN _ _ _) (congrArg (World.drewN _) (Nat.add_assoc _ _ _))⟩)) | (go_at_call 61; (with_reducible refine (bits_put.calls k (fun k_ => some k_ = (.slice Ao7000 t128.length co7000 : Value).ownBlock) (.slice Ao7000 t128.length co7000) t128 t131 t134 t135 t136 t139 w _ ?side1 ?side2 A20.out).mono ?_); (case side1 => exact bl_); (case side2 => exact Kd.R_tight rfl HO7000.out); rintro e w7005 ⟨v7001, rfl, ho7000, hb, hkp⟩; have n_ := pk4 (blk_kept (bo_ BK7000) hkp (fun hs_ => (fun e_ => (Kd.R_ne HO7000.out BK7000.out (by decide)) e_) hs_)) (blk_kept (bo_ BK7001) hkp (fun hs_ => (fun e_ => (Kd.R_ne HO7000.out BK7001.out (by decide)) e_) hs_)) (Kd.R_mono (ok' := fun k_ => True) ho7000 (fun k_ hk_ => trivial)) (hb); clear BK7000 BK7001 HB HO7000; obtain ⟨BK7000, BK7001, HO7001, HB⟩ := n_; (try clear hb hkp ho7000)) | (go_at_call 62; (with_reducible refine (bits_fold.calls a1 t140 _ A21.out).mono ?_); rintro e w' ⟨rfl, ⟨nd, rfl⟩⟩; (try first | exact ⟨rfl, _, World.drewN_drewN _ _ _⟩ | exact ⟨rfl, _, Eq.trans (World.drewN_drewN _ _ _) (congrArg (World.drewN _) (Nat.add_assoc _ _ _))⟩)) | (go_at_call 63; (with_reducible refine (bits_width.calls t133 t141 _ A22.out).mono ?_); rintro e w' ⟨rfl, ⟨nd, rfl⟩⟩; (try first | exact ⟨rfl, _, World.drewN_drewN _ _ _⟩ | exact ⟨rfl, _, Eq.trans (World.drewN_drewN _ _ _) (congrArg (World.drewN _) (Nat.add_assoc _ _ _))⟩); obtain ⟨Ao7001, co7001, eo7001⟩ := Kd.R_slice HO7001.out; subst eo7001) | (go_at_call 61; (with_reducible refine (bits_put.calls k (fun k_ => some k_ = (.slice Ao7001 t136.length co7001 : Value).ownBlock) (.slice Ao7001 t136.length co7001) t136 t139 t140 t141 t142 t145 w _ ?side1 ?side2 A23.out).mono ?_); (case side1 => exact bl_); (case side2 => exact Kd.R_tight rfl HO7001.out); rintro e w7006 ⟨v7002, rfl, ho7000, hb, hkp⟩; have n_ := pk4 (blk_kept (bo_ BK7000) hkp (fun hs_ => (fun e_ => (Kd.R_ne HO7001.out BK7000.out (by decide)) e_) hs_)) (blk_kept (bo_ BK7001) hkp (fun hs_ => (fun e_ => (Kd.R_ne HO7001.out BK7001.out (by decide)) e_) hs_)) (Kd.R_mono (ok' := fun k_ => True) ho7000 (fun k_ hk_ => trivial)) (hb); clear BK7000 BK7001 HB HO7001; obtain ⟨BK7000, BK7001, HO7002, HB⟩ := n_; (try clear hb hkp ho7000); obtain ⟨Ao7002, co7002, eo7002⟩ := Kd.R_slice HO7002.out; subst eo7002; have hcz7004_0 : w7006.cell? ⟨gb7001, 0, none⟩ = some (.slice none 0 0) := (blk_cell BK7001.out 0).trans rfl; have hcz7004_1 : w7006.cell? ⟨gb7001, 1, none⟩ = some (.int .i64 0) := (blk_cell BK7001.out 1).trans rfl; have hfz7004_0 := blk_frozen BK7001.out 0; have hfz7004_1 := blk_frozen BK7001.out 1)))
        refine bodyPost_ret (results_ct rfl _ _ gb7001 25 #[.slice Ao7002 t142.length co7002, .int .i64 t145] (0, 0) _ rfl (by (with_reducible repeat (first | refine blk_drewN ?_ _ | refine blk_drew ?_ | refine blk_alloc ?_ _)); refine blk_put (cs := #[.slice Ao7002 t142.length co7002, .int .i64 0]) ?_ 1 _ rfl; (with_reducible repeat (first | refine blk_drewN ?_ _ | refine blk_drew ?_ | refine blk_alloc ?_ _)); refine blk_put (cs := #[.slice none 0 0, .int .i64 0]) ?_ 0 _ rfl; exact (bo_ BK7001)) Try.underlying25 rfl (by kernel_rfl)) rfl ?_
        exact ⟨_, rf_, (rt_ (Kd.R_mono (Kd.R_far (p := ⟨gb7001, 1, none⟩) (Kd.R_far (p := ⟨gb7001, 0, none⟩) (Kd.R_types HO7002.out BK7001.out (by decide)) (fun _ hk => hk.2) (.slice Ao7002 t142.length co7002)) (fun _ hk => hk.2) (.int .i64 t145)) (fun _ hk => trivial))), bl_⟩
end Go.Proofs.Ytmddmbagehjdeaa.G
end
section
namespace Go.Proofs.Ytmddmbagehjdeaa.G
open Go Go.RowKit Go.Proofs.YtmddmbagehjdeaaW.PrintWords Go.Proofs.YtmddmbagehjdeaaW.PrintLast Go.Proofs.YtmddmbagehjdeaaW.PrintMore
def bits_Reader_Take.f (k : Nat) (s0_0 : List Int) (s0_1 : Int) (s0_2 : Int) (a1 : Int) : Option (Int × Int × Int × Int) :=
  if a1 < 0 then some (0, 1, s0_1, s0_2) else if 64 < a1 then some (0, 1, s0_1, s0_2) else
  (bits_Reader_Left.f s0_0 s0_1 s0_2).bind fun t => if t.1 < a1 then some (0, 2, t.2.1, t.2.2) else if a1 = 0 then some (0, 0, t.2.1, t.2.2) else
  (bits_get.f k s0_0 t.2.1 t.2.2 a1).bind fun u => some (u, 0, t.2.1, wrap64 (t.2.2 + a1))
theorem bits_Reader_Take.mono : ∀ a0 a1 a2 a3 k, LeO (bits_Reader_Take.f k a0 a1 a2 a3) (bits_Reader_Take.f (k + 1) a0 a1 a2 a3) := by
  intro a0 a1 a2 a3 k
  unfold bits_Reader_Take.f
  refine LeO.ite (LeO.refl _) (LeO.ite (LeO.refl _) (LeO.bind (LeO.refl _) (fun _ => LeO.ite (LeO.refl _) (LeO.ite (LeO.refl _) (LeO.bind (bits_get.mono _ _ _ _ _) (fun _ => LeO.refl _))))))
set_option maxHeartbeats 2000000 in
set_option maxRecDepth 100000 in
theorem bits_Reader_Take.calls (k : Nat) (g : Nat) (s0_0 : List Int) (s0_1 : Int) (s0_2 : Int) (a1 : Int) (r1 r2 r3 r4 : Int) (w0 w : World) (hI : IsS52 w0 w g s0_0 s0_1 s0_2) (hB : Below w0.heap.size w0 w) (h : bits_Reader_Take.f k s0_0 s0_1 s0_2 a1 = some (r1, r2, r3, r4)) :
    Calls Try.prog 24 #[.pointer (some ⟨g, 0, none⟩), .int .i64 a1] w fun e w' => e = .returned (.tuple #[.int .u64 r1, .int .i64 r2]) ∧ IsS52 w0 w' g s0_0 r3 r4 ∧ Below w0.heap.size w0 w' ∧ KeepBut w w' g none := by
  have hu25 := Try.underlying25
  unfold bits_Reader_Take.f at h
  have HI := Aside0.mk hI
  have HB := Aside0.mk hB
  clear hI hB
  by_cases h1 : a1 < 0
  · rw [if_pos h1] at h
    simp only [Option.some.injEq, Prod.mk.injEq] at h
    obtain ⟨rfl, rfl, rfl, rfl⟩ := h
    have c1 : decide (a1 < 0) = true := decide_eq_true h1
    clear h1
    go_enter Try.func24, Try.ntmps24
    go_wp2
    go_ret2
    exact ⟨rfl, HI.out, HB.out, KeepBut.refl _ _ _⟩
  rw [if_neg h1] at h
  have c1 : decide (a1 < 0) = false := decide_eq_false h1
  by_cases h2 : 64 < a1
  · rw [if_pos h2] at h
    simp only [Option.some.injEq, Prod.mk.injEq] at h
    obtain ⟨rfl, rfl, rfl, rfl⟩ := h
    have c2 : decide (64 < a1) = true := decide_eq_true h2
    clear h1 h2
    go_enter Try.func24, Try.ntmps24
    go_wp2
    go_ret2
    exact ⟨rfl, HI.out, HB.out, KeepBut.refl _ _ _⟩
  rw [if_neg h2] at h
  have c2 : decide (64 < a1) = false := decide_eq_false h2
  have hnn : 0 ≤ a1 := by omega
  have hle : a1 ≤ 64 := by omega
  clear h1 h2
  obtain ⟨⟨t1, t2, t3⟩, hL, h⟩ := Option.bind_eq_some_iff.1 h
  simp only at h
  have HL := Aside0.mk hL
  clear hL
  by_cases h3 : t1 < a1
  · rw [if_pos h3] at h
    simp only [Option.some.injEq, Prod.mk.injEq] at h
    obtain ⟨rfl, rfl, rfl, rfl⟩ := h
    have c3 : decide (t1 < a1) = true := decide_eq_true h3
    clear h3
    go_enter Try.func24, Try.ntmps24
    go_wp2_with (go_at_call 19; (with_reducible refine (bits_Reader_Left.calls g s0_0 s0_1 s0_2 t1 t2 t3 w0 _ HI.out HB.out HL.out).mono ?_); rintro e w3 ⟨rfl, hi, hb, hk⟩; have HI3 := Aside0.mk hi; have HB3 := Aside0.mk hb; have HK3 := Aside0.mk hk; clear hi hb hk)
    go_ret2
    exact ⟨rfl, HI3.out, HB3.out, HK3.out⟩
  rw [if_neg h3] at h
  have c3 : decide (t1 < a1) = false := decide_eq_false h3
  clear h3
  by_cases h4 : a1 = 0
  · subst h4
    rw [if_pos rfl] at h
    simp only [Option.some.injEq, Prod.mk.injEq] at h
    obtain ⟨rfl, rfl, rfl, rfl⟩ := h
    go_enter Try.func24, Try.ntmps24
    go_wp2_with (go_at_call 19; (with_reducible refine (bits_Reader_Left.calls g s0_0 s0_1 s0_2 t1 t2 t3 w0 _ HI.out HB.out HL.out).mono ?_); rintro e w3 ⟨rfl, hi, hb, hk⟩; have HI3 := Aside0.mk hi; have HB3 := Aside0.mk hb; have HK3 := Aside0.mk hk; clear hi hb hk)
    go_ret2
    exact ⟨rfl, HI3.out, HB3.out, HK3.out⟩
  rw [if_neg h4] at h
  have c4 : (a1 == 0) = false := by simpa using h4
  clear h4
  obtain ⟨u, hG, h⟩ := Option.bind_eq_some_iff.1 h
  simp only [Option.some.injEq, Prod.mk.injEq] at h
  obtain ⟨rfl, rfl, rfl, rfl⟩ := h
  have HG := Aside0.mk hG
  clear hG
  go_enter Try.func24, Try.ntmps24
  go_wp2_with (go_at_call 19; (with_reducible refine (bits_Reader_Left.calls g s0_0 s0_1 s0_2 t1 t2 t3 w0 _ HI.out HB.out HL.out).mono ?_); rintro e w3 ⟨rfl, hi, hb, hk⟩; obtain ⟨A0, c0, hb0, hg0, hh0⟩ := hi; have HH := Aside0.mk hh0; have HG0 := Aside0.mk hg0; have BK := Aside0.mk hb0; have HB3 := Aside0.mk hb; have HK3 := Aside0.mk hk; have q0 := cellS52_0 hb0; have q1 := cellS52_1 hb0; have q2 := cellS52_2 hb0; have f0 := blk_frozen hb0 0; have f1 := blk_frozen hb0 1; have f2 := blk_frozen hb0 2; clear hb0 hg0 hh0 hb hk)
  go_region_held3 (fun w' => w'.cell? ⟨g, 0, none⟩ = some (.slice A0 s0_0.length c0) ∧ w'.cell? ⟨g, 1, none⟩ = some (.int .i64 t2) ∧ w'.cell? ⟨g, 2, none⟩ = some (.int .i64 t3)) (go_keep) ((go_at_call 65; (with_reducible refine (bits_get.calls k A0 c0 s0_0 t2 t3 a1 u _ ?side1 ?side2 HG.out).mono ?_); (case side1 => (with_reducible repeat (first | apply Kd.C_drewN | apply Kd.C_drew | apply Kd.C_alloc)); exact HH.out.now); (case side2 => exact HH.out.1); rintro e w4 ⟨rfl, hb4⟩; (have hb5 : Below w3.heap.size w3 w4 := ⟨hb4.os, hb4.tape, hb4.output, hb4.size, hb4.block⟩; clear hb4; have bk := (hb5.block g (blk_lt BK.out)).trans BK.out; have q0 := cellS52_0 bk; have q1 := cellS52_1 bk; have q2 := cellS52_2 bk; have f0 := blk_frozen bk 0; have f1 := blk_frozen bk 1; have f2 := blk_frozen bk 2; have BK4 := Aside0.mk bk; have HH4 := Aside0.mk (HH.out.step (W1 := w4) (fun k cs fr hc => hb5.block k (blk_lt hc))); have HB4 := Aside0.mk (below_then HB3.out HB3.out.size hb5); have HK4 := Aside0.mk (KeepBut.trans HK3.out (KeepBut.of_below hb5 g none) (.inl rfl)); clear bk hb5)))
  go_wp2
  go_ret2
  exact ⟨rfl, IsS52.set_2 (show IsS52 w0 w4 g s0_0 t2 t3 from ⟨A0, c0, BK4.out, HG0.out, HH4.out⟩) _, HB4.out.setCell HG0.out _, KeepBut.set_ HK4.out _ _⟩
end Go.Proofs.Ytmddmbagehjdeaa.G
end
section
namespace Go.Proofs.Ytmddmbagehjdeaa.G
open Go.RowKit Go.Proofs.YtmddmbagehjdeaaX Go.Proofs.YtmddmbagehjdeaaW.PrintWords Go.Proofs.YtmddmbagehjdeaaW.PrintLast Go.Proofs.YtmddmbagehjdeaaW.PrintMore
attribute [local go_sem] max2_int min2_int max_two min_two max_three min_three max_four min_four
def bits_Reader_At.f (s0_0 : List Int) (s0_1 : Int) (s0_2 : Int) : Option (Int × Int × Int) := some (s0_2, s0_1, s0_2)
set_option maxHeartbeats 8000000 in
set_option maxRecDepth 100000 in
theorem bits_Reader_At.calls (g : Nat) (s0_0 : List Int) (s0_1 : Int) (s0_2 : Int) (r1 : Int) (r2 : Int) (r3 : Int) (w0 w : World) (hI : IsS52 w0 w g s0_0 s0_1 s0_2) (hB : Below w0.heap.size w0 w) (h : bits_Reader_At.f s0_0 s0_1 s0_2 = some (r1, r2, r3)) :
    Calls Try.prog 28 #[.pointer (some ⟨g, 0, none⟩)] w fun e w' => e = .returned (.int .i64 r1) ∧ IsS52 w0 w' g s0_0 r2 r3 ∧ Below w0.heap.size w0 w' ∧ KeepBut w w' g none := by
  have HI0 := Aside0.mk hI
  have HK := Aside0.mk (KeepBut.refl w g none)
  have HL := Aside0.mk hB.size
  clear hI
  have HW0 := Aside0.mk hB.size
  have HB := Aside0.mk hB
  clear hB
  have H : (some (s0_2, s0_1, s0_2)) = some (r1, r2, r3) := h
  clear h
  simp only [Option.some.injEq, Prod.mk.injEq] at H
  obtain ⟨rfl, rfl, rfl⟩ := H
  obtain ⟨ASz2_0, cSz2_0, HGz2, hgz2, HSz2_0⟩ := HI0.out
  have hcz2_0 := cellS52_0 HGz2
  have hcz2_1 := cellS52_1 HGz2
  have hcz2_2 := cellS52_2 HGz2
  have hfz2_1 := blk_frozen HGz2 1
  have hfz2_2 := blk_frozen HGz2 2
  clear HGz2 hgz2
  go_enter Try.func28, Try.ntmps28
  go_wp2
  go_ret
  exact ⟨rf_, by repeat (first | (with_reducible first | exact HI0.out | apply IsS52.alloc | apply IsS52.drewN | apply IsS52.drew | apply IsS52.set_1 | apply IsS52.set_2) | exact HI0.out), by repeat (first | (with_reducible first | exact HB.out | apply below_alloc | apply pw_below_drewN | apply below_drew1 | refine below_set ?_ (IsS52.ge HI0.out)) | exact HB.out), by repeat (first | (with_reducible first | exact HK.out | apply KeepBut.set_ | apply keep_drewN | apply keep_drew | apply keep_alloc) | exact HK.out)⟩
def bits_Reader_class.l0 : Nat → Int → List Int → Int → Int → Option (Int × Int × Int × Int)
  | 0, _, _, _, _ => none
  | k + 1, x7, x1000, x1001, x1002 => if x7 < 4 then ((bits_Reader_Take.f k x1000 x1001 x1002 1).bind fun bt148 => (if bt148.2.1 = 0 then (if bt148.1 = 0 then (some (x7, bt148.2.1, bt148.2.2.1, bt148.2.2.2)) else (bits_Reader_class.l0 k (wrap64 (x7 + 1)) x1000 bt148.2.2.1 bt148.2.2.2)) else (some (x7, bt148.2.1, bt148.2.2.1, bt148.2.2.2)))) else (some (4, 0, x1001, x1002))
def bits_Reader_class.f (k : Nat) (s0_0 : List Int) (s0_1 : Int) (s0_2 : Int) : Option (Int × Int × Int × Int) := bits_Reader_class.l0 k 0 s0_0 s0_1 s0_2
theorem bits_Reader_class.mono_l : ∀ k, (∀ y0 y1 y2 y3, LeO (bits_Reader_class.l0 k y0 y1 y2 y3) (bits_Reader_class.l0 (k + 1) y0 y1 y2 y3))
  | 0 => fun _ _ _ _ r h => by simp [bits_Reader_class.l0] at h
  | k + 1 => by
    have ih0 := bits_Reader_class.mono_l k
    · intro y0 y1 y2 y3
      unfold bits_Reader_class.l0
      repeat' first
      | (with_reducible exact ih0 _ _ _ _)
      | (with_reducible exact bits_Reader_Take.mono _ _ _ _ _)
      | (with_reducible exact LeO.refl _)
      | (with_reducible exact LeO.none _)
      | (with_reducible refine LeO.ite ?_ ?_)
      | (with_reducible refine LeO.bind ?_ (fun _ => ?_))
      | exact ih0 _ _ _ _
      | exact bits_Reader_Take.mono _ _ _ _ _
      | exact LeO.none _
      | refine LeO.ite ?_ ?_
      | refine LeO.bind ?_ (fun _ => ?_)
theorem bits_Reader_class.mono : ∀ a0 a1 a2 k, LeO (bits_Reader_class.f k a0 a1 a2) (bits_Reader_class.f (k + 1) a0 a1 a2) := by
  intro a0 a1 a2 k
  have ih0 := bits_Reader_class.mono_l k
  unfold bits_Reader_class.f
  repeat' first
      | (with_reducible exact ih0 _ _ _ _)
      | (with_reducible exact bits_Reader_Take.mono _ _ _ _ _)
      | (with_reducible exact LeO.refl _)
      | (with_reducible exact LeO.none _)
      | (with_reducible refine LeO.ite ?_ ?_)
      | (with_reducible refine LeO.bind ?_ (fun _ => ?_))
      | exact ih0 _ _ _ _
      | exact bits_Reader_Take.mono _ _ _ _ _
      | exact LeO.none _
      | refine LeO.ite ?_ ?_
      | refine LeO.bind ?_ (fun _ => ?_)
set_option maxHeartbeats 8000000 in
set_option maxRecDepth 100000 in
theorem bits_Reader_class.calls (k : Nat) (g : Nat) (s0_0 : List Int) (s0_1 : Int) (s0_2 : Int) (r1 : Int) (r2 : Int) (r3 : Int) (r4 : Int) (w0 w : World) (hI : IsS52 w0 w g s0_0 s0_1 s0_2) (hB : Below w0.heap.size w0 w) (h : bits_Reader_class.f k s0_0 s0_1 s0_2 = some (r1, r2, r3, r4)) :
    Calls Try.prog 64 #[.pointer (some ⟨g, 0, none⟩)] w fun e w' => e = .returned (.tuple #[.int .i64 r1, .int .i64 r2]) ∧ IsS52 w0 w' g s0_0 r3 r4 ∧ Below w0.heap.size w0 w' ∧ KeepBut w w' g none := by
  have HI0 := Aside0.mk hI
  have HK := Aside0.mk (KeepBut.refl w g none)
  have HL := Aside0.mk hB.size
  clear hI
  have HW0 := Aside0.mk hB.size
  have HB := Aside0.mk hB
  clear hB
  have H : (bits_Reader_class.l0 k 0 s0_0 s0_1 s0_2) = some (r1, r2, r3, r4) := h
  clear h
  have H' := Aside0.mk H
  clear H
  go_enter Try.func64, Try.ntmps64
  go_wp2
  go_loopg [7] k (fun kq v7 w' => ∃ (x7_1 : Int) (x1001_1 : Int) (x1002_1 : Int), v7 = .int .i64 x7_1 ∧ Aside0 (bits_Reader_class.l0 kq x7_1 s0_0 x1001_1 x1002_1 = some (r1, r2, r3, r4)) ∧ Aside0 (kq ≤ k) ∧ Aside0 (IsS52 w0 w' g s0_0 x1001_1 x1002_1) ∧ Aside0 (KeepBut w w' g none) ∧ Aside0 (Below w0.heap.size w0 w'))
  case atStart => exact ⟨(0), (s0_1), (s0_2), sm_, H', ⟨Nat.le_refl _⟩, ⟨by repeat (first | (with_reducible first | exact HI0.out | apply IsS52.alloc | apply IsS52.drewN | apply IsS52.drew | apply IsS52.set_1 | apply IsS52.set_2) | exact HI0.out)⟩, ⟨by repeat (first | (with_reducible first | exact HK.out | apply KeepBut.set_ | apply keep_drewN | apply keep_drew | apply keep_alloc) | exact HK.out)⟩, ⟨by repeat (first | (with_reducible first | exact HB.out | apply below_alloc | apply pw_below_drewN | apply below_drew1 | refine below_set ?_ (IsS52.ge HI0.out)) | exact HB.out)⟩⟩
  case round =>
    clear H'
    obtain ⟨x7_1, x1001_1, x1002_1, rfl, HA, HK1, HI0, HK, HB⟩ := hrel
    cases gk with
    | zero => exact absurd HA.out (by simp [bits_Reader_class.l0])
    | succ k1 =>
      have H := HA.out
      clear HA
      simp only [bits_Reader_class.l0] at H
      replace H := dle H
      rcases H with ⟨c2b0, H⟩ | ⟨c2b0, H⟩
      focus
        replace H := bindA H
        obtain ⟨⟨t148, t149, t150, t151⟩, A3, H⟩ := H
        try dsimp only at H
        replace H := deqn H
        rcases H with ⟨c4b0, c4b1, H⟩ | ⟨c4b0, c4b1, c4, H⟩
        focus
          replace H := deqn H
          rcases H with ⟨c5b0, c5b1, H⟩ | ⟨c5b0, c5b1, c5, H⟩
          focus
            simp only [Option.some.injEq, Prod.mk.injEq] at H
            obtain ⟨rfl, rfl, rfl, rfl⟩ := H
          rotate_left
          focus
            have H' := Aside0.mk H
            clear H
        rotate_left 2
        focus
          simp only [Option.some.injEq, Prod.mk.injEq] at H
          obtain ⟨rfl, rfl, rfl, rfl⟩ := H
      rotate_left 3
      focus
        simp only [Option.some.injEq, Prod.mk.injEq] at H
        obtain ⟨rfl, rfl, rfl, rfl⟩ := H
      all_goals
        go_wp2_with (first | ((with_reducible refine gate_callee (f := 24) rfl ?_); refine goL_ (some 12) Try.func24 #[.pointer (some ⟨g, 0, none⟩), .int .i64 1] ?_; (with_reducible refine (bits_Reader_Take.calls k1 g s0_0 x1001_1 x1002_1 1 t148 t149 t150 t151 w0 _ ?side1 ?side2 A3.out).mono ?_); (case side1 => repeat (first | (with_reducible first | exact HI0.out | apply IsS52.alloc | apply IsS52.drewN | apply IsS52.drew | apply IsS52.set_1 | apply IsS52.set_2) | exact HI0.out)); (case side2 => repeat (first | (with_reducible first | exact HB.out | apply below_alloc | apply pw_below_drewN | apply below_drew1 | refine below_set ?_ (IsS52.ge HI0.out)) | exact HB.out)); rintro e w7000 ⟨rfl, hi, hb, hk⟩; refine ⟨_, rfl, ?_⟩; have n_ := pk3 (KeepBut.trans (by repeat (first | (with_reducible first | exact HK.out | apply KeepBut.set_ | apply keep_drewN | apply keep_drew | apply keep_alloc) | exact HK.out)) hk (.inl rfl)) (hb) (hi); clear HK HB HI0; obtain ⟨HK, HB, HI0⟩ := n_; (try clear hb hk hi)))
        first
          | go_ret2
            exact ⟨rf_, by repeat (first | (with_reducible first | exact HI0.out | apply IsS52.alloc | apply IsS52.drewN | apply IsS52.drew | apply IsS52.set_1 | apply IsS52.set_2) | exact HI0.out), by repeat (first | (with_reducible first | exact HB.out | apply below_alloc | apply pw_below_drewN | apply below_drew1 | refine below_set ?_ (IsS52.ge HI0.out)) | exact HB.out), by repeat (first | (with_reducible first | exact HK.out | apply KeepBut.set_ | apply keep_drewN | apply keep_drew | apply keep_alloc) | exact HK.out)⟩
          | go_roundg k1
            case measure => have := HK1.out; omega
            case rel => exact ⟨(wrap64 (x7_1 + 1)), (t150), (t151), sm_, H', ⟨by have := HK1.out; omega⟩, ⟨by repeat (first | (with_reducible first | exact HI0.out | apply IsS52.alloc | apply IsS52.drewN | apply IsS52.drew | apply IsS52.set_1 | apply IsS52.set_2) | exact HI0.out)⟩, ⟨by repeat (first | (with_reducible first | exact HK.out | apply KeepBut.set_ | apply keep_drewN | apply keep_drew | apply keep_alloc) | exact HK.out)⟩, ⟨by repeat (first | (with_reducible first | exact HB.out | apply below_alloc | apply pw_below_drewN | apply below_drew1 | refine below_set ?_ (IsS52.ge HI0.out)) | exact HB.out)⟩⟩
def bits_Reader_Number.j0 : Nat → Int → Int → Bool → List Int → Int → Int → Option (Int × Int × Int × Int)
  | 0, _, _, _, _, _, _ => none
  | k + 1, x4, x9, x40, x1000, x1001, x1002 => if x40 = true then (some (x9, 0, x1001, x1002)) else (some (0, 2, x1001, x4))
def bits_Reader_Number.f (k : Nat) (s0_0 : List Int) (s0_1 : Int) (s0_2 : Int) : Option (Int × Int × Int × Int) := (bits_Reader_At.f s0_0 s0_1 s0_2).bind fun bt152 => ((bits_Reader_class.f k s0_0 bt152.2.1 bt152.2.2).bind fun bt155 => (if bt155.2.1 = 0 then ((bits_width.f bt155.1).bind fun t159 => ((bits_Reader_Take.f k s0_0 bt155.2.2.1 bt155.2.2.2 t159).bind fun bt160 => (if bt160.2.1 = 0 then ((bits_Class.f k (wrap64 (Go.bits .xor .u64 (bt160.1 / 2) (IntKind.u64.wrap (-(Go.bits .and .u64 bt160.1 1)))))).bind fun t164 => (bits_Reader_Number.j0 k bt152.1 (wrap64 (Go.bits .xor .u64 (bt160.1 / 2) (IntKind.u64.wrap (-(Go.bits .and .u64 bt160.1 1))))) (t164 == bt155.1) s0_0 bt160.2.2.1 bt160.2.2.2)) else (bits_Reader_Number.j0 k bt152.1 (wrap64 (Go.bits .xor .u64 (bt160.1 / 2) (IntKind.u64.wrap (-(Go.bits .and .u64 bt160.1 1))))) false s0_0 bt160.2.2.1 bt160.2.2.2)))) else (some (0, 2, bt155.2.2.1, bt152.1))))
theorem bits_Reader_Number.mono_l : ∀ k, (∀ y0 y1 y2 y3 y4 y5, LeO (bits_Reader_Number.j0 k y0 y1 y2 y3 y4 y5) (bits_Reader_Number.j0 (k + 1) y0 y1 y2 y3 y4 y5))
  | 0 => fun _ _ _ _ _ _ r h => by simp [bits_Reader_Number.j0] at h
  | k + 1 => by
    have ih0 := bits_Reader_Number.mono_l k
    · intro y0 y1 y2 y3 y4 y5
      unfold bits_Reader_Number.j0
      repeat' first
      | (with_reducible exact ih0 _ _ _ _ _ _)
      | (with_reducible exact bits_Class.mono _ _)
      | (with_reducible exact bits_Reader_Take.mono _ _ _ _ _)
      | (with_reducible exact bits_Reader_class.mono _ _ _ _)
      | (with_reducible exact LeO.refl _)
      | (with_reducible exact LeO.none _)
      | (with_reducible refine LeO.ite ?_ ?_)
      | (with_reducible refine LeO.bind ?_ (fun _ => ?_))
      | exact ih0 _ _ _ _ _ _
      | exact bits_Class.mono _ _
      | exact bits_Reader_Take.mono _ _ _ _ _
      | exact bits_Reader_class.mono _ _ _ _
      | exact LeO.none _
      | refine LeO.ite ?_ ?_
      | refine LeO.bind ?_ (fun _ => ?_)
theorem bits_Reader_Number.mono : ∀ a0 a1 a2 k, LeO (bits_Reader_Number.f k a0 a1 a2) (bits_Reader_Number.f (k + 1) a0 a1 a2) := by
  intro a0 a1 a2 k
  have ih0 := bits_Reader_Number.mono_l k
  unfold bits_Reader_Number.f
  repeat' first
      | (with_reducible exact ih0 _ _ _ _ _ _)
      | (with_reducible exact bits_Class.mono _ _)
      | (with_reducible exact bits_Reader_Take.mono _ _ _ _ _)
      | (with_reducible exact bits_Reader_class.mono _ _ _ _)
      | (with_reducible exact LeO.refl _)
      | (with_reducible exact LeO.none _)
      | (with_reducible refine LeO.ite ?_ ?_)
      | (with_reducible refine LeO.bind ?_ (fun _ => ?_))
      | exact ih0 _ _ _ _ _ _
      | exact bits_Class.mono _ _
      | exact bits_Reader_Take.mono _ _ _ _ _
      | exact bits_Reader_class.mono _ _ _ _
      | exact LeO.none _
      | refine LeO.ite ?_ ?_
      | refine LeO.bind ?_ (fun _ => ?_)
end Go.Proofs.Ytmddmbagehjdeaa.G
end
