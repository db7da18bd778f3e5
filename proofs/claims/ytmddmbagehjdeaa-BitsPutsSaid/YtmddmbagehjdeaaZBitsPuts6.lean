/- More lines for the row. -/
import Derived.Test.YtmddmbagehjdeaaZBitsPuts5
set_option linter.unusedVariables false
set_option linter.unusedSimpArgs false
section
namespace Go.Proofs.Ytmddmbagehjdeaa.G
open Go.RowKit Go.Proofs.YtmddmbagehjdeaaX Go.Proofs.YtmddmbagehjdeaaW.PrintWords Go.Proofs.YtmddmbagehjdeaaW.PrintLast Go.Proofs.YtmddmbagehjdeaaW.PrintMore
attribute [local go_sem] max2_int min2_int max_two min_two max_three min_three max_four min_four
set_option maxHeartbeats 8000000 in
set_option maxRecDepth 100000 in
theorem bits_Reader_Number.calls (k : Nat) (g : Nat) (s0_0 : List Int) (s0_1 : Int) (s0_2 : Int) (r1 : Int) (r2 : Int) (r3 : Int) (r4 : Int) (w0 w : World) (hI : IsS52 w0 w g s0_0 s0_1 s0_2) (hB : Below w0.heap.size w0 w) (h : bits_Reader_Number.f k s0_0 s0_1 s0_2 = some (r1, r2, r3, r4)) :
    Calls Try.prog 18 #[.pointer (some ⟨g, 0, none⟩)] w fun e w' => e = .returned (.tuple #[.int .i64 r1, .int .i64 r2]) ∧ IsS52 w0 w' g s0_0 r3 r4 ∧ Below w0.heap.size w0 w' ∧ KeepBut w w' g none := by
  have HI0 := Aside0.mk hI
  have HK := Aside0.mk (KeepBut.refl w g none)
  have HL := Aside0.mk hB.size
  clear hI
  have HW0 := Aside0.mk hB.size
  have HB := Aside0.mk hB
  clear hB
  have H : ((bits_Reader_At.f s0_0 s0_1 s0_2).bind fun bt152 => ((bits_Reader_class.f k s0_0 bt152.2.1 bt152.2.2).bind fun bt155 => (if bt155.2.1 = 0 then ((bits_width.f bt155.1).bind fun t159 => ((bits_Reader_Take.f k s0_0 bt155.2.2.1 bt155.2.2.2 t159).bind fun bt160 => (if bt160.2.1 = 0 then ((bits_Class.f k (wrap64 (Go.bits .xor .u64 (bt160.1 / 2) (IntKind.u64.wrap (-(Go.bits .and .u64 bt160.1 1)))))).bind fun t164 => (bits_Reader_Number.j0 k bt152.1 (wrap64 (Go.bits .xor .u64 (bt160.1 / 2) (IntKind.u64.wrap (-(Go.bits .and .u64 bt160.1 1))))) (t164 == bt155.1) s0_0 bt160.2.2.1 bt160.2.2.2)) else (bits_Reader_Number.j0 k bt152.1 (wrap64 (Go.bits .xor .u64 (bt160.1 / 2) (IntKind.u64.wrap (-(Go.bits .and .u64 bt160.1 1))))) false s0_0 bt160.2.2.1 bt160.2.2.2)))) else (some (0, 2, bt155.2.2.1, bt152.1))))) = some (r1, r2, r3, r4) := h
  clear h
  replace H := bindA H
  obtain ⟨⟨t152, t153, t154⟩, A2, H⟩ := H
  try dsimp only at H
  replace H := bindA H
  obtain ⟨⟨t155, t156, t157, t158⟩, A3, H⟩ := H
  try dsimp only at H
  replace H := deqn H
  rcases H with ⟨c4b0, c4b1, H⟩ | ⟨c4b0, c4b1, c4, H⟩
  · replace H := bindA H
    obtain ⟨t159, A5, H⟩ := H
    try dsimp only at H
    replace H := bindA H
    obtain ⟨⟨t160, t161, t162, t163⟩, A6, H⟩ := H
    try dsimp only at H
    have HC7 := Aside0.mk H
    clear H
    go_enter Try.func18, Try.ntmps18
    go_upto_region 6 with (first | ((with_reducible refine gate_callee (f := 28) rfl ?_); refine goL_ (some 11) Try.func28 #[.pointer (some ⟨g, 0, none⟩)] ?_; (with_reducible refine (bits_Reader_At.calls g s0_0 s0_1 s0_2 t152 t153 t154 w0 _ ?side1 ?side2 A2.out).mono ?_); (case side1 => repeat (first | (with_reducible first | exact HI0.out | apply IsS52.alloc | apply IsS52.drewN | apply IsS52.drew | apply IsS52.set_1 | apply IsS52.set_2) | exact HI0.out)); (case side2 => repeat (first | (with_reducible first | exact HB.out | apply below_alloc | apply pw_below_drewN | apply below_drew1 | refine below_set ?_ (IsS52.ge HI0.out)) | exact HB.out)); rintro e w8 ⟨rfl, hi, hb, hk⟩; refine ⟨_, rfl, ?_⟩; have n_ := pk3 (KeepBut.trans (by repeat (first | (with_reducible first | exact HK.out | apply KeepBut.set_ | apply keep_drewN | apply keep_drew | apply keep_alloc) | exact HK.out)) hk (.inl rfl)) (hb) (hi); clear HK HB HI0; obtain ⟨HK, HB, HI0⟩ := n_; (try clear hb hk hi)) | ((with_reducible refine gate_callee (f := 64) rfl ?_); refine goL_ (some 14) Try.func64 #[.pointer (some ⟨g, 0, none⟩)] ?_; (with_reducible refine (bits_Reader_class.calls k g s0_0 t153 t154 t155 t156 t157 t158 w0 _ ?side1 ?side2 A3.out).mono ?_); (case side1 => repeat (first | (with_reducible first | exact HI0.out | apply IsS52.alloc | apply IsS52.drewN | apply IsS52.drew | apply IsS52.set_1 | apply IsS52.set_2) | exact HI0.out)); (case side2 => repeat (first | (with_reducible first | exact HB.out | apply below_alloc | apply pw_below_drewN | apply below_drew1 | refine below_set ?_ (IsS52.ge HI0.out)) | exact HB.out)); rintro e w9 ⟨rfl, hi, hb, hk⟩; refine ⟨_, rfl, ?_⟩; have n_ := pk3 (KeepBut.trans (by repeat (first | (with_reducible first | exact HK.out | apply KeepBut.set_ | apply keep_drewN | apply keep_drew | apply keep_alloc) | exact HK.out)) hk (.inl rfl)) (hb) (hi); clear HK HB HI0; obtain ⟨HK, HB, HI0⟩ := n_; (try clear hb hk hi)) | ((with_reducible refine gate_callee (f := 63) rfl ?_); refine goL_ (some 22) Try.func63 #[.int .i64 t155] ?_; (with_reducible refine (bits_width.calls t155 t159 _ A5.out).mono ?_); rintro e w' ⟨rfl, ⟨nd, rfl⟩⟩; refine ⟨_, rfl, ?_⟩) | ((with_reducible refine gate_callee (f := 24) rfl ?_); refine goL_ (some 23) Try.func24 #[.pointer (some ⟨g, 0, none⟩), .int .i64 t159] ?_; (with_reducible refine (bits_Reader_Take.calls k g s0_0 t157 t158 t159 t160 t161 t162 t163 w0 _ ?side1 ?side2 A6.out).mono ?_); (case side1 => repeat (first | (with_reducible first | exact HI0.out | apply IsS52.alloc | apply IsS52.drewN | apply IsS52.drew | apply IsS52.set_1 | apply IsS52.set_2) | exact HI0.out)); (case side2 => repeat (first | (with_reducible first | exact HB.out | apply below_alloc | apply pw_below_drewN | apply below_drew1 | refine below_set ?_ (IsS52.ge HI0.out)) | exact HB.out)); rintro e w10 ⟨rfl, hi, hb, hk⟩; refine ⟨_, rfl, ?_⟩; have n_ := pk3 (KeepBut.trans (by repeat (first | (with_reducible first | exact HK.out | apply KeepBut.set_ | apply keep_drewN | apply keep_drew | apply keep_alloc) | exact HK.out)) hk (.inl rfl)) (hb) (hi); clear HK HB HI0; obtain ⟨HK, HB, HI0⟩ := n_; (try clear hb hk hi)))
    (try simp only [ap_, sb_, s0_, s1_])
    go_cut [40] (fun v40 wc => ∃ (kq : Nat) (x40_6 : Bool), v40 = .bool x40_6 ∧ Aside0 (bits_Reader_Number.j0 kq t152 (wrap64 (Go.bits .xor .u64 (t160 / 2) (IntKind.u64.wrap (-(Go.bits .and .u64 t160 1))))) x40_6 s0_0 t162 t163 = some (r1, r2, r3, r4)) ∧ Aside0 (kq ≤ k) ∧ Aside0 (IsS52 w0 wc g s0_0 t162 t163) ∧ Aside0 (KeepBut w wc g none) ∧ Aside0 (Below w0.heap.size w0 wc))
    case first =>
      have H := HC7.out
      clear HC7
      replace H := deqn H
      rcases H with ⟨c11b0, c11b1, H⟩ | ⟨c11b0, c11b1, c11, H⟩
      focus
        (first | rw [c11b0] | (simp only [i64_w, i32_w]; rw [c11b0]) | skip)
        replace H := bindA H
        obtain ⟨t164, A12, H⟩ := H
        try dsimp only at H
        have H' := Aside0.mk H
        clear H
      rotate_left
      focus
        (first | rw [c11b0] | (simp only [i64_w, i32_w]; rw [c11b0]) | skip)
        have H' := Aside0.mk H
        clear H
      all_goals
        go_wp2_with (first | (go_at_call 33; (with_reducible refine (bits_Class.calls k (wrap64 (Go.bits .xor .u64 (t160 / 2) (IntKind.u64.wrap (-(Go.bits .and .u64 t160 1))))) t164 _ A12.out).mono ?_); rintro e w' ⟨rfl, ⟨nd, rfl⟩⟩))
        go_meet
        first
          | case rel => exact ⟨_, ((t164 == t155)), sm_, H', ⟨om_⟩, ⟨by repeat (first | (with_reducible first | exact HI0.out | apply IsS52.alloc | apply IsS52.drewN | apply IsS52.drew | apply IsS52.set_1 | apply IsS52.set_2) | exact HI0.out)⟩, ⟨by repeat (first | (with_reducible first | exact HK.out | apply KeepBut.set_ | apply keep_drewN | apply keep_drew | apply keep_alloc) | exact HK.out)⟩, ⟨by repeat (first | (with_reducible first | exact HB.out | apply below_alloc | apply pw_below_drewN | apply below_drew1 | refine below_set ?_ (IsS52.ge HI0.out)) | exact HB.out)⟩⟩
          | case rel => exact ⟨_, (false), sm_, H', ⟨om_⟩, ⟨by repeat (first | (with_reducible first | exact HI0.out | apply IsS52.alloc | apply IsS52.drewN | apply IsS52.drew | apply IsS52.set_1 | apply IsS52.set_2) | exact HI0.out)⟩, ⟨by repeat (first | (with_reducible first | exact HK.out | apply KeepBut.set_ | apply keep_drewN | apply keep_drew | apply keep_alloc) | exact HK.out)⟩, ⟨by repeat (first | (with_reducible first | exact HB.out | apply below_alloc | apply pw_below_drewN | apply below_drew1 | refine below_set ?_ (IsS52.ge HI0.out)) | exact HB.out)⟩⟩
    case rest =>
      clear HC7
      try clear c4
      try clear c4b0
      try clear c4b1
      obtain ⟨kq, x40_6, rfl, HA, HJ6, HI0, HK, HB⟩ := hcut
      cases kq with
      | zero => exact absurd HA.out (by simp [bits_Reader_Number.j0])
      | succ kj6 =>
        have H := HA.out
        clear HA
        simp only [bits_Reader_Number.j0] at H
        replace H := dbool H
        rcases H with ⟨rfl, H⟩ | ⟨rfl, H⟩
        focus
          simp only [Option.some.injEq, Prod.mk.injEq] at H
          obtain ⟨rfl, rfl, rfl, rfl⟩ := H
        rotate_left
        focus
          simp only [Option.some.injEq, Prod.mk.injEq] at H
          obtain ⟨rfl, rfl, rfl, rfl⟩ := H
          obtain ⟨ASz14_0, cSz14_0, HGz14, hgz14, HSz14_0⟩ := HI0.out
          have hcz14_0 := cellS52_0 HGz14
          have hcz14_1 := cellS52_1 HGz14
          have hcz14_2 := cellS52_2 HGz14
          have hfz14_1 := blk_frozen HGz14 1
          have hfz14_2 := blk_frozen HGz14 2
          clear HGz14 hgz14
        all_goals
          go_wp2
          go_ret2
          exact ⟨rf_, by repeat (first | (with_reducible first | exact HI0.out | apply IsS52.alloc | apply IsS52.drewN | apply IsS52.drew | apply IsS52.set_1 | apply IsS52.set_2) | exact HI0.out), by repeat (first | (with_reducible first | exact HB.out | apply below_alloc | apply pw_below_drewN | apply below_drew1 | refine below_set ?_ (IsS52.ge HI0.out)) | exact HB.out), by repeat (first | (with_reducible first | exact HK.out | apply KeepBut.set_ | apply keep_drewN | apply keep_drew | apply keep_alloc) | exact HK.out)⟩
  simp only [Option.some.injEq, Prod.mk.injEq] at H
  obtain ⟨rfl, rfl, rfl, rfl⟩ := H
  go_enter Try.func18, Try.ntmps18
  go_wp2_with (first | ((with_reducible refine gate_callee (f := 28) rfl ?_); refine goL_ (some 11) Try.func28 #[.pointer (some ⟨g, 0, none⟩)] ?_; (with_reducible refine (bits_Reader_At.calls g s0_0 s0_1 s0_2 t152 t153 t154 w0 _ ?side1 ?side2 A2.out).mono ?_); (case side1 => repeat (first | (with_reducible first | exact HI0.out | apply IsS52.alloc | apply IsS52.drewN | apply IsS52.drew | apply IsS52.set_1 | apply IsS52.set_2) | exact HI0.out)); (case side2 => repeat (first | (with_reducible first | exact HB.out | apply below_alloc | apply pw_below_drewN | apply below_drew1 | refine below_set ?_ (IsS52.ge HI0.out)) | exact HB.out)); rintro e w7000 ⟨rfl, hi, hb, hk⟩; refine ⟨_, rfl, ?_⟩; have n_ := pk3 (KeepBut.trans (by repeat (first | (with_reducible first | exact HK.out | apply KeepBut.set_ | apply keep_drewN | apply keep_drew | apply keep_alloc) | exact HK.out)) hk (.inl rfl)) (hb) (hi); clear HK HB HI0; obtain ⟨HK, HB, HI0⟩ := n_; (try clear hb hk hi)) | ((with_reducible refine gate_callee (f := 64) rfl ?_); refine goL_ (some 14) Try.func64 #[.pointer (some ⟨g, 0, none⟩)] ?_; (with_reducible refine (bits_Reader_class.calls k g s0_0 t153 t154 t155 t156 t157 t158 w0 _ ?side1 ?side2 A3.out).mono ?_); (case side1 => repeat (first | (with_reducible first | exact HI0.out | apply IsS52.alloc | apply IsS52.drewN | apply IsS52.drew | apply IsS52.set_1 | apply IsS52.set_2) | exact HI0.out)); (case side2 => repeat (first | (with_reducible first | exact HB.out | apply below_alloc | apply pw_below_drewN | apply below_drew1 | refine below_set ?_ (IsS52.ge HI0.out)) | exact HB.out)); rintro e w7001 ⟨rfl, hi, hb, hk⟩; refine ⟨_, rfl, ?_⟩; have n_ := pk3 (KeepBut.trans (by repeat (first | (with_reducible first | exact HK.out | apply KeepBut.set_ | apply keep_drewN | apply keep_drew | apply keep_alloc) | exact HK.out)) hk (.inl rfl)) (hb) (hi); clear HK HB HI0; obtain ⟨HK, HB, HI0⟩ := n_; (try clear hb hk hi); obtain ⟨ASz7000_0, cSz7000_0, HGz7000, hgz7000, HSz7000_0⟩ := HI0.out; have hcz7000_0 := cellS52_0 HGz7000; have hcz7000_1 := cellS52_1 HGz7000; have hcz7000_2 := cellS52_2 HGz7000; have hfz7000_1 := blk_frozen HGz7000 1; have hfz7000_2 := blk_frozen HGz7000 2; clear HGz7000 hgz7000))
  go_ret2
  exact ⟨rf_, by repeat (first | (with_reducible first | exact HI0.out | apply IsS52.alloc | apply IsS52.drewN | apply IsS52.drew | apply IsS52.set_1 | apply IsS52.set_2) | exact HI0.out), by repeat (first | (with_reducible first | exact HB.out | apply below_alloc | apply pw_below_drewN | apply below_drew1 | refine below_set ?_ (IsS52.ge HI0.out)) | exact HB.out), by repeat (first | (with_reducible first | exact HK.out | apply KeepBut.set_ | apply keep_drewN | apply keep_drew | apply keep_alloc) | exact HK.out)⟩
end Go.Proofs.Ytmddmbagehjdeaa.G
end
section
namespace Go.Proofs.Ytmddmbagehjdeaa.G
open Go Go.RowKit Go.Proofs.YtmddmbagehjdeaaW.PrintWords Go.Proofs.YtmddmbagehjdeaaW.PrintLast Go.Proofs.YtmddmbagehjdeaaW.PrintMore
def bits_Read.f (k : Nat) (l0_0 : List Int) (a0_1 : Int) : Option (List Int × Int × Int) := (bits_Check.f k l0_0 a0_1).bind fun e0 => if e0 = 0 then (bits_own.f l0_0 a0_1).bind fun t => some (t.1, t.2, 0) else some ([], 0, 0)
theorem bits_Read.mono : ∀ a0 a1 k, LeO (bits_Read.f k a0 a1) (bits_Read.f (k + 1) a0 a1) := by
  intro a0 a1 k
  unfold bits_Read.f
  exact LeO.bind (bits_Check.mono _ _ _) (fun _ => LeO.refl _)
set_option maxHeartbeats 2000000 in
set_option maxRecDepth 100000 in
theorem bits_Read.calls (k : Nat) (A0_0 : Option Addr) (c0_0 : Nat) (l0_0 : List Int) (a0_1 : Int) (r1 : List Int) (r2 r3 : Int) (w0 w : World) (hB : Below w0.heap.size w0 w) (hr0_0 : Kd.C (Kd.int .u8) w A0_0 l0_0.length l0_0) (hc0_0 : l0_0.length ≤ c0_0) (h : bits_Read.f k l0_0 a0_1 = some (r1, r2, r3)) :
    Calls Try.prog 17 #[.agg #[.slice A0_0 l0_0.length c0_0, .int .i64 a0_1]] w fun e w' => ∃ g_, e = .returned (.pointer (some ⟨g_, 0, none⟩)) ∧ IsS52 w0 w' g_ r1 r2 r3 ∧ Below w0.heap.size w0 w' ∧ Below w.heap.size w w' := by
  have hu25 := Try.underlying25
  have hu52 := Try.underlying52
  unfold bits_Read.f at h
  obtain ⟨e0, hA, h⟩ := Option.bind_eq_some_iff.1 h
  have HR := Aside0.mk hr0_0
  have HC := Aside0.mk hc0_0
  have HB := Aside0.mk hB
  have HA := Aside0.mk hA
  have GE := Aside0.mk hB.size
  clear hr0_0 hc0_0 hB hA
  have fin : ∀ (W : World) (cs : Array Value), Below w.heap.size w W → Below w0.heap.size w0 (W.alloc (.cells cs 52)) ∧ Below w.heap.size w (W.alloc (.cells cs 52)) := fun W cs hb => ⟨(below_then HB.out GE.out hb).alloc (Nat.le_trans GE.out hb.size) _, below_alloc hb _⟩
  have FIN := Aside0.mk fin
  clear fin
  by_cases he : e0 = 0
  · rw [if_pos he] at h
    obtain ⟨⟨t1, t2⟩, hO, h⟩ := Option.bind_eq_some_iff.1 h
    simp only [Option.some.injEq, Prod.mk.injEq] at h
    obtain ⟨rfl, rfl, rfl⟩ := h
    have HO := Aside0.mk hO
    clear hO
    subst he
    go_enter Try.func17, Try.ntmps17
    go_wp2_with (first
      | (go_at_call 58; (with_reducible refine (bits_Check.calls k A0_0 c0_0 l0_0 a0_1 0 _ ?side1 HC.out HA.out).mono ?_); (case side1 => exact Kd.C_alloc HR.out _); rintro e w3 ⟨rfl, hb3⟩; have hblk := (hb3.block w.heap.size (by simp)).trans (heap_alloc_new w (.cells #[.slice A0_0 l0_0.length c0_0, .int .i64 a0_1] 25)); have hc0 : w3.cell? ⟨w.heap.size, 0, none⟩ = some (.slice A0_0 l0_0.length c0_0) := (blk_cell hblk 0).trans rfl; have hc1 : w3.cell? ⟨w.heap.size, 1, none⟩ = some (.int .i64 a0_1) := (blk_cell hblk 1).trans rfl; have HB3 := Aside0.mk (below_step (below_alloc (Below.refl _ w) _) hb3); clear hb3 hblk)
      | (go_at_call 59; (with_reducible refine (bits_own.calls A0_0 c0_0 l0_0 a0_1 t1 t2 _ ?side1 HC.out HO.out).mono ?_); (case side1 => exact Kd.C_below HR.out HB3.out); rintro e w4 ⟨v, rfl, ho, hb4⟩; have HB4 := Aside0.mk (below_step HB3.out hb4); clear hb4; obtain ⟨A1, c1, hv⟩ := Kd.R_slice ho; subst hv; have HH := Aside0.mk (HeldB.of_R ho); clear ho))
    go_ret
    have hf := FIN.out _ #[.slice A1 t1.length c1, .int .i64 t2, .int .i64 0] HB4.out
    refine ⟨_, rfl, ⟨A1, c1, by simpa using heap_alloc_new w4 _, Nat.le_trans GE.out HB4.out.size, HH.out.step (fun k cs fr hc => (Below.heap_alloc _ _ k (blk_lt hc)))⟩, hf.1, hf.2⟩
  · rw [if_neg he] at h
    simp only [Option.some.injEq, Prod.mk.injEq] at h
    obtain ⟨rfl, rfl, rfl⟩ := h
    have hne : (e0 != 0) = true := by simpa using he
    clear he
    go_enter Try.func17, Try.ntmps17
    go_wp2_with (go_at_call 58; (with_reducible refine (bits_Check.calls k A0_0 c0_0 l0_0 a0_1 e0 _ ?side1 HC.out HA.out).mono ?_); (case side1 => exact Kd.C_alloc HR.out _); rintro e w3 ⟨rfl, hb3⟩; have HB3 := Aside0.mk (below_step (below_alloc (Below.refl _ w) _) hb3); clear hb3)
    go_ret
    have hf := FIN.out _ #[.slice none 0 0, .int .i64 0, .int .i64 0] HB3.out
    exact ⟨_, rfl, ⟨none, 0, by simpa using heap_alloc_new w3 _, Nat.le_trans GE.out HB3.out.size, HeldB.nil _⟩, hf.1, hf.2⟩
end Go.Proofs.Ytmddmbagehjdeaa.G
end
section
namespace Go.Proofs.Ytmddmbagehjdeaa.G
open Go.RowKit Go.Proofs.YtmddmbagehjdeaaX Go.Proofs.YtmddmbagehjdeaaW.PrintWords Go.Proofs.YtmddmbagehjdeaaW.PrintLast Go.Proofs.YtmddmbagehjdeaaW.PrintMore
attribute [local go_sem] max2_int min2_int max_two min_two max_three min_three max_four min_four
def windroselaw17_awake.f (k : Nat)  : Option (Bool) := (bits_Number.f k ([] : List Int) 0 0).bind fun bt165 => ((bits_Number.f k bt165.1 bt165.2.1 (-1)).bind fun bt171 => ((bits_Read.f k bt171.1 bt171.2.1).bind fun bt176 => ((bits_Reader_Number.f k bt176.1 bt176.2.1 bt176.2.2).bind fun bt180 => ((bits_Reader_Number.f k bt176.1 bt180.2.2.1 bt180.2.2.2).bind fun bt184 => (if bt165.2.2 = 0 then (if bt171.2.2 = 0 then (if bt184.2.1 = 0 then (if bt184.1 = (-1) then (if bt171.2.1 = 10 then (if (bt171.1.length : Int) = 2 then (if 0 < (bt171.1.length : Int) then (if (rd bt171.1 0) = 64 then (if 1 < (bt171.1.length : Int) then (some ((rd bt171.1 1) == 64)) else (none)) else (some false)) else (none)) else (some false)) else (some false)) else (some false)) else (some false)) else (some false)) else (some false))))))
theorem windroselaw17_awake.mono : ∀ k, LeO (windroselaw17_awake.f k ) (windroselaw17_awake.f (k + 1) ) := by
  intro  k
  unfold windroselaw17_awake.f
  repeat' first
      | (with_reducible exact bits_Number.mono _ _ _ _)
      | (with_reducible exact bits_Read.mono _ _ _)
      | (with_reducible exact bits_Reader_Number.mono _ _ _ _)
      | (with_reducible exact LeO.refl _)
      | (with_reducible exact LeO.none _)
      | (with_reducible refine LeO.ite ?_ ?_)
      | (with_reducible refine LeO.bind ?_ (fun _ => ?_))
      | exact bits_Number.mono _ _ _ _
      | exact bits_Read.mono _ _ _
      | exact bits_Reader_Number.mono _ _ _ _
      | exact LeO.none _
      | refine LeO.ite ?_ ?_
      | refine LeO.bind ?_ (fun _ => ?_)
set_option maxHeartbeats 8000000 in
set_option maxRecDepth 100000 in
theorem windroselaw17_awake.calls (k : Nat)  (r : Bool) (w : World) (h : windroselaw17_awake.f k  = some r) :
    Calls Try.prog 20 #[] w fun e w' => e = .returned (.bool r) ∧ Below w.heap.size w w' := by
  have hu25 := Try.underlying25
  have HB := Aside0.mk (Below.refl w.heap.size w)
  have H : ((bits_Number.f k ([] : List Int) 0 0).bind fun bt165 => ((bits_Number.f k bt165.1 bt165.2.1 (-1)).bind fun bt171 => ((bits_Read.f k bt171.1 bt171.2.1).bind fun bt176 => ((bits_Reader_Number.f k bt176.1 bt176.2.1 bt176.2.2).bind fun bt180 => ((bits_Reader_Number.f k bt176.1 bt180.2.2.1 bt180.2.2.2).bind fun bt184 => (if bt165.2.2 = 0 then (if bt171.2.2 = 0 then (if bt184.2.1 = 0 then (if bt184.1 = (-1) then (if bt171.2.1 = 10 then (if (bt171.1.length : Int) = 2 then (if 0 < (bt171.1.length : Int) then (if (rd bt171.1 0) = 64 then (if 1 < (bt171.1.length : Int) then (some ((rd bt171.1 1) == 64)) else (none)) else (some false)) else (none)) else (some false)) else (some false)) else (some false)) else (some false)) else (some false)) else (some false))))))) = some r := h
  clear h
  replace H := bindA H
  obtain ⟨⟨t165, t168, t169⟩, A1, H⟩ := H
  try dsimp only at H
  replace H := bindA H
  obtain ⟨⟨t171, t174, t175⟩, A2, H⟩ := H
  try dsimp only at H
  replace H := bindA H
  obtain ⟨⟨t176, t177, t178⟩, A3, H⟩ := H
  try dsimp only at H
  replace H := bindA H
  obtain ⟨⟨t180, t181, t182, t183⟩, A4, H⟩ := H
  try dsimp only at H
  replace H := bindA H
  obtain ⟨⟨t184, t185, t186, t187⟩, A5, H⟩ := H
  try dsimp only at H
  replace H := deqn H
  rcases H with ⟨c6b0, c6b1, H⟩ | ⟨c6b0, c6b1, c6, H⟩
  focus
    replace H := deqn H
    rcases H with ⟨c7b0, c7b1, H⟩ | ⟨c7b0, c7b1, c7, H⟩
    focus
      replace H := deqn H
      rcases H with ⟨c8b0, c8b1, H⟩ | ⟨c8b0, c8b1, c8, H⟩
      focus
        replace H := deqn H
        rcases H with ⟨c9b0, c9b1, H⟩ | ⟨c9b0, c9b1, c9, H⟩
        focus
          replace H := deqn H
          rcases H with ⟨c10b0, c10b1, H⟩ | ⟨c10b0, c10b1, c10, H⟩
          focus
            replace H := deqn H
            rcases H with ⟨c11b0, c11b1, H⟩ | ⟨c11b0, c11b1, c11, H⟩
            focus
              by_cases c12 : 0 < (t171.length : Int)
              rotate_left
              · rw [if_neg c12] at H
                exact absurd H (by simp)
              rw [if_pos c12] at H
              have c12b0 : decide (0 < (t171.length : Int)) = true := decide_eq_true c12
              have c12b1 : decide (0 < t171.length) = true := decide_eq_true (by omega)
              clear c12
              replace H := deqn H
              rcases H with ⟨c13b0, c13b1, H⟩ | ⟨c13b0, c13b1, c13, H⟩
              focus
                by_cases c14 : 1 < (t171.length : Int)
                rotate_left
                · rw [if_neg c14] at H
                  exact absurd H (by simp)
                rw [if_pos c14] at H
                have c14b0 : decide (1 < (t171.length : Int)) = true := decide_eq_true c14
                have c14b1 : decide (1 < t171.length) = true := decide_eq_true (by omega)
                clear c14
                obtain rfl := Option.some.inj H
              rotate_left
              focus
                obtain rfl := Option.some.inj H
            rotate_left 2
            focus
              obtain rfl := Option.some.inj H
          rotate_left 3
          focus
            obtain rfl := Option.some.inj H
        rotate_left 4
        focus
          obtain rfl := Option.some.inj H
      rotate_left 5
      focus
        obtain rfl := Option.some.inj H
    rotate_left 6
    focus
      obtain rfl := Option.some.inj H
  rotate_left 7
  focus
    obtain rfl := Option.some.inj H
  all_goals
    go_enter Try.func20, Try.ntmps20
    go_wp2_with (first | ((with_reducible refine gate_callee (f := 15) rfl ?_); refine goL_ (some 14) Try.func15 #[.agg #[.slice Ao7000 t165.length co7000, .int .i64 t168], .int .i64 (-1)] ?_; (with_reducible refine (bits_Number.calls k _ _ t165 t168 (-1) t171 t174 t175 _ ?side1 ?side2 A2.out).mono ?_); (case side1 => refine (Kd.R_reads' (e := 5) (base := w.heap.size) (ok := fun k_ => True) (n := t165.length) (c := co7000) ?_).2.2; exact (rt_ ((Kd.R_mono (Kd.R_far (p := ⟨gb7000, 1, none⟩) (Kd.R_far (p := ⟨gb7000, 0, none⟩) (Kd.R_types HO7000.out BK7000.out (by decide)) (fun _ hk => hk.2) (.slice Ao7000 t165.length co7000)) (fun _ hk => hk.2) (.int .i64 t168)) (fun _ h_ => h_.1))))); (case side2 => exact (Kd.R_reads' HO7000.out).2.1); rintro e w7002 ⟨v7001, rfl, ho7000, hb⟩; refine ⟨_, rfl, ?_⟩; have n_ := pk4 (Kd.R_elder' (rt_ ((Kd.R_mono (Kd.R_far (p := ⟨gb7000, 1, none⟩) (Kd.R_far (p := ⟨gb7000, 0, none⟩) (Kd.R_types HO7000.out BK7000.out (by decide)) (fun _ hk => hk.2) (.slice Ao7000 t165.length co7000)) (fun _ hk => hk.2) (.int .i64 t168)) (fun _ h_ => h_.1)))) (Kd.R_base ho7000) hb) (Kd.R_lower (Kd.R_new' ho7000 (Kd.R_lt (rt_ ((Kd.R_mono (Kd.R_far (p := ⟨gb7000, 1, none⟩) (Kd.R_far (p := ⟨gb7000, 0, none⟩) (Kd.R_types HO7000.out BK7000.out (by decide)) (fun _ hk => hk.2) (.slice Ao7000 t165.length co7000)) (fun _ hk => hk.2) (.int .i64 t168)) (fun _ h_ => h_.1)))))) (below_size bl_)) (blk_below (g := gb7000) (o := .cells #[.slice Ao7000 t165.length co7000, .int .i64 t168] 25 (0, 0)) (by (with_reducible repeat (first | refine blk_drewN ?_ _ | refine blk_drew ?_ | refine blk_alloc ?_ _)); refine blk_put (cs := #[.slice Ao7000 t165.length co7000, .int .i64 0]) ?_ 1 _ rfl; (with_reducible repeat (first | refine blk_drewN ?_ _ | refine blk_drew ?_ | refine blk_alloc ?_ _)); refine blk_put (cs := #[.slice none 0 0, .int .i64 0]) ?_ 0 _ rfl; exact (bo_ BK7000)) hb) (below_step bl_ hb); clear HO7000 BK7000 HB; obtain ⟨HO7000, HO7001, BK7000, HB⟩ := n_; (try clear hb ho7000); obtain ⟨Ao7001, co7001, eo7001⟩ := Kd.R_slice HO7001.out; subst eo7001; have hcz7001_0 : w7002.cell? ⟨gb7000, 0, none⟩ = some (.slice Ao7000 t165.length co7000) := (blk_cell BK7000.out 0).trans rfl; have hcz7001_1 : w7002.cell? ⟨gb7000, 1, none⟩ = some (.int .i64 t168) := (blk_cell BK7000.out 1).trans rfl; have hfz7001_0 := blk_frozen BK7000.out 0; have hfz7001_1 := blk_frozen BK7000.out 1) | ((with_reducible refine gate_callee (f := 15) rfl ?_); refine goL_ (some 9) Try.func15 #[.agg #[.slice none 0 0, .int .i64 0], .int .i64 0] ?_; (refine (bits_Number.calls k _ _ ([] : List Int) 0 0 t165 t168 t169 _ ?side1 ?side2 A1.out).mono ?_); (case side1 => exact Kd.C_nil _ _); (case side2 => exact Nat.le_refl _); rintro e w7000 ⟨v7000, rfl, ho7000, hb⟩; refine ⟨_, rfl, ?_⟩; have n_ := pk2 (Kd.R_lower ho7000 (below_size bl_)) (below_step bl_ hb); clear HB; obtain ⟨HO7000, HB⟩ := n_; (try clear hb ho7000)) | ((with_reducible refine gate_dst (N := 1) rfl ?_); (try (refine gate_guard (by rfl) ?_; dsimp only)); refine box_ev 1 #[.slice none 0 0, .int .i64 0] 25 ?_; intro gb7000 hg w7001 hbox hb; have n_ := pk5 (Kd.R_below (ro_ HO7000) hb) (below_step bl_ hb) (hbox) ((ge_ hg bl_ : w.heap.size ≤ gb7000)) ((ge_ hg bl_ : w.heap.size ≤ gb7000)); clear HO7000 HB; obtain ⟨HO7000, HB, BK7000, GW7000, GE7000⟩ := n_; clear hb hbox hg; obtain ⟨Ao7000, co7000, eo7000⟩ := Kd.R_slice HO7000.out; subst eo7000; have hcz7000_0 : w7001.cell? ⟨gb7000, 0, none⟩ = some (.slice none 0 0) := (blk_cell BK7000.out 0).trans rfl; have hcz7000_1 : w7001.cell? ⟨gb7000, 1, none⟩ = some (.int .i64 0) := (blk_cell BK7000.out 1).trans rfl; have hfz7000_0 := blk_frozen BK7000.out 0; have hfz7000_1 := blk_frozen BK7000.out 1) | ((with_reducible refine gate_callee (f := 17) rfl ?_); refine goL_ (some 18) Try.func17 #[.agg #[.slice Ao7001 t171.length co7001, .int .i64 t174]] ?_; (with_reducible refine (bits_Read.calls k _ _ t171 t174 t176 t177 t178 w _ ?side1 ?side2 ?side3 A3.out).mono ?_); (case side1 => exact bl_); (case side2 => refine (Kd.R_reads' (e := 5) (base := w.heap.size) (ok := fun k_ => (True ∧ some k_ ≠ (.slice Ao7000 t165.length co7000 : Value).ownBlock)) (n := t171.length) (c := co7001) ?_).2.2; exact (rt_ ((Kd.R_mono (Kd.R_far (p := ⟨gb7000, 1, none⟩) (Kd.R_far (p := ⟨gb7000, 0, none⟩) (Kd.R_types HO7001.out BK7000.out (by decide)) (fun _ hk => hk.2) (.slice Ao7001 t171.length co7001)) (fun _ hk => hk.2) (.int .i64 t174)) (fun _ h_ => h_.1))))); (case side3 => exact (Kd.R_reads' HO7001.out).2.1); rintro e w7003 ⟨g7000, rfl, hi, hb, hb7000⟩; refine ⟨_, rfl, ?_⟩; have n_ := pk7 (Kd.R_below (rt_ ((Kd.R_mono (Kd.R_far (p := ⟨gb7000, 1, none⟩) (Kd.R_far (p := ⟨gb7000, 0, none⟩) (Kd.R_types HO7000.out BK7000.out (by decide)) (fun _ hk => hk.2) (.slice Ao7001 t171.length co7001)) (fun _ hk => hk.2) (.int .i64 t174)) (fun _ h_ => h_.1)))) hb7000) (Kd.R_below (rt_ ((Kd.R_mono (Kd.R_far (p := ⟨gb7000, 1, none⟩) (Kd.R_far (p := ⟨gb7000, 0, none⟩) (Kd.R_types HO7001.out BK7000.out (by decide)) (fun _ hk => hk.2) (.slice Ao7001 t171.length co7001)) (fun _ hk => hk.2) (.int .i64 t174)) (fun _ h_ => h_.1)))) hb7000) (blk_below (g := gb7000) (o := .cells #[.slice Ao7001 t171.length co7001, .int .i64 t174] 25 (0, 0)) (by (with_reducible repeat (first | refine blk_drewN ?_ _ | refine blk_drew ?_ | refine blk_alloc ?_ _)); refine blk_put (cs := #[.slice Ao7001 t171.length co7001, .int .i64 t168]) ?_ 1 _ rfl; (with_reducible repeat (first | refine blk_drewN ?_ _ | refine blk_drew ?_ | refine blk_alloc ?_ _)); refine blk_put (cs := #[.slice Ao7000 t165.length co7000, .int .i64 t168]) ?_ 0 _ rfl; exact (bo_ BK7000)) hb7000) (hb) (hi) (IsS52.ne_blk hi (blk_below (g := gb7000) (o := .cells #[.slice Ao7001 t171.length co7001, .int .i64 t174] 25 (0, 0)) (by (with_reducible repeat (first | refine blk_drewN ?_ _ | refine blk_drew ?_ | refine blk_alloc ?_ _)); refine blk_put (cs := #[.slice Ao7001 t171.length co7001, .int .i64 t168]) ?_ 1 _ rfl; (with_reducible repeat (first | refine blk_drewN ?_ _ | refine blk_drew ?_ | refine blk_alloc ?_ _)); refine blk_put (cs := #[.slice Ao7000 t165.length co7000, .int .i64 t168]) ?_ 0 _ rfl; exact (bo_ BK7000)) hb7000) (by decide)) (Ne.symm (IsS52.ne_blk hi (blk_below (g := gb7000) (o := .cells #[.slice Ao7001 t171.length co7001, .int .i64 t174] 25 (0, 0)) (by (with_reducible repeat (first | refine blk_drewN ?_ _ | refine blk_drew ?_ | refine blk_alloc ?_ _)); refine blk_put (cs := #[.slice Ao7001 t171.length co7001, .int .i64 t168]) ?_ 1 _ rfl; (with_reducible repeat (first | refine blk_drewN ?_ _ | refine blk_drew ?_ | refine blk_alloc ?_ _)); refine blk_put (cs := #[.slice Ao7000 t165.length co7000, .int .i64 t168]) ?_ 0 _ rfl; exact (bo_ BK7000)) hb7000) (by decide))); clear HO7000 HO7001 BK7000 HB; obtain ⟨HO7000, HO7001, BK7000, HB, HI7000, NB179_7000, NB7000_179⟩ := n_; (try clear hb hb7000 hi)) | ((with_reducible refine gate_callee (f := 18) rfl ?_); refine goL_ (some 25) Try.func18 #[.pointer (some ⟨g7000, 0, none⟩)] ?_; (with_reducible refine (bits_Reader_Number.calls k g7000 t176 t182 t183 t184 t185 t186 t187 w _ ?side1 ?side2 A5.out).mono ?_); (case side1 => repeat (first | (with_reducible first | exact HI7000.out | apply IsS52.alloc | apply IsS52.drewN | apply IsS52.drew | apply IsS52.set_1 | apply IsS52.set_2 | refine IsS52.far ?_ NB179_7000.out _) | exact HI7000.out)); (case side2 => repeat (first | (with_reducible first | exact HB.out | apply below_alloc | apply pw_below_drewN | apply below_drew1 | refine below_set ?_ (IsS52.ge HI7000.out) | refine below_set ?_ GE7000.out) | exact HB.out)); rintro e w7005 ⟨rfl, hi, hb, hk⟩; refine ⟨_, rfl, ?_⟩; have n_ := pk5 (Kd.R_mono (Kd.R_keep (IsS52.apart (show IsS52 w _ g7000 t176 t182 t183 from by repeat (first | (with_reducible first | exact HI7000.out | apply IsS52.alloc | apply IsS52.drewN | apply IsS52.drew | apply IsS52.set_1 | apply IsS52.set_2 | refine IsS52.far ?_ NB179_7000.out _) | exact HI7000.out)) (ro_ HO7000) (by decide)) hk (fun _ h => h.2)) (fun _ h => h.1)) (KeepBut.blk hk (g' := gb7000) (o := .cells #[.slice Ao7001 t171.length co7001, .int .i64 t174] 25 (0, 0)) (bo_ BK7000) NB7000_179.out (by simp)) (Kd.R_mono (Kd.R_keep (IsS52.apart (show IsS52 w _ g7000 t176 t182 t183 from by repeat (first | (with_reducible first | exact HI7000.out | apply IsS52.alloc | apply IsS52.drewN | apply IsS52.drew | apply IsS52.set_1 | apply IsS52.set_2 | refine IsS52.far ?_ NB179_7000.out _) | exact HI7000.out)) (ro_ HO7001) (by decide)) hk (fun _ h => h.2)) (fun _ h => h.1)) (hb) (hi); clear HO7000 BK7000 HO7001 HB HI7000; obtain ⟨HO7000, BK7000, HO7001, HB, HI7000⟩ := n_; (try clear hb hk hi); (try (have hnb7000 := NB7000_179.out; have hnc7000 := NB179_7000.out; have hcz7002_0 : w7005.cell? ⟨gb7000, 0, none⟩ = some (.slice Ao7001 t171.length co7001) := (blk_cell BK7000.out 0).trans rfl; have hcz7002_1 : w7005.cell? ⟨gb7000, 1, none⟩ = some (.int .i64 t174) := (blk_cell BK7000.out 1).trans rfl; have hfz7002_0 := blk_frozen BK7000.out 0; have hfz7002_1 := blk_frozen BK7000.out 1; have p7000 : 0 ≤ (0 : Int) := (by omega); have q7000 : 0 < (t171.length : Int) := dc_; obtain ⟨ad7000, e7000, hx7000_0⟩ := Kd.at_int (Kd.R_reads' HO7001.out).2.2 0 p7000 q7000; cases e7000; have qi7000 : (0 < t171.length) = True := eq_true (by omega); (try rw [show ((0 : Int)).toNat = 0 from rfl] at hx7000_0); (try rw [Addr.add_zero'] at hx7000_0); replace p7000 := eq_true p7000; replace q7000 := eq_true q7000; have p7001 : 0 ≤ (1 : Int) := (by omega); have q7001 : 1 < (t171.length : Int) := dc_; obtain ⟨ad7001, e7001, hx7001_0⟩ := Kd.at_int (Kd.R_reads' HO7001.out).2.2 1 p7001 q7001; obtain rfl : ad7000 = ad7001 := (by injection e7001); (try simp only [show (1 : Int).toNat = 1 from rfl, Nat.reduceMul, Nat.reduceEqDiff, Go.Addr.add, ↓reduceIte] at hx7001_0); have qi7001 : (1 < t171.length) = True := eq_true (by omega); (try rw [show ((1 : Int)).toNat = 1 from rfl] at hx7001_0); replace p7001 := eq_true p7001; replace q7001 := eq_true q7001)); (try (have hnb7000 := NB7000_179.out; have hnc7000 := NB179_7000.out; have hcz7002_0 : w7005.cell? ⟨gb7000, 0, none⟩ = some (.slice Ao7001 t171.length co7001) := (blk_cell BK7000.out 0).trans rfl; have hcz7002_1 : w7005.cell? ⟨gb7000, 1, none⟩ = some (.int .i64 t174) := (blk_cell BK7000.out 1).trans rfl; have hfz7002_0 := blk_frozen BK7000.out 0; have hfz7002_1 := blk_frozen BK7000.out 1; have p7000 : 0 ≤ (0 : Int) := (by omega); have q7000 : 0 < (t171.length : Int) := dc_; obtain ⟨ad7000, e7000, hx7000_0⟩ := Kd.at_int (Kd.R_reads' HO7001.out).2.2 0 p7000 q7000; cases e7000; have qi7000 : (0 < t171.length) = True := eq_true (by omega); (try rw [show ((0 : Int)).toNat = 0 from rfl] at hx7000_0); (try rw [Addr.add_zero'] at hx7000_0); replace p7000 := eq_true p7000; replace q7000 := eq_true q7000)); (try (have hnb7000 := NB7000_179.out; have hnc7000 := NB179_7000.out; have hcz7002_0 : w7005.cell? ⟨gb7000, 0, none⟩ = some (.slice Ao7001 t171.length co7001) := (blk_cell BK7000.out 0).trans rfl; have hcz7002_1 : w7005.cell? ⟨gb7000, 1, none⟩ = some (.int .i64 t174) := (blk_cell BK7000.out 1).trans rfl; have hfz7002_0 := blk_frozen BK7000.out 0; have hfz7002_1 := blk_frozen BK7000.out 1))) | ((with_reducible refine gate_callee (f := 18) rfl ?_); refine goL_ (some 22) Try.func18 #[.pointer (some ⟨g7000, 0, none⟩)] ?_; (with_reducible refine (bits_Reader_Number.calls k g7000 t176 t177 t178 t180 t181 t182 t183 w _ ?side1 ?side2 A4.out).mono ?_); (case side1 => repeat (first | (with_reducible first | exact HI7000.out | apply IsS52.alloc | apply IsS52.drewN | apply IsS52.drew | apply IsS52.set_1 | apply IsS52.set_2 | refine IsS52.far ?_ NB179_7000.out _) | exact HI7000.out)); (case side2 => repeat (first | (with_reducible first | exact HB.out | apply below_alloc | apply pw_below_drewN | apply below_drew1 | refine below_set ?_ (IsS52.ge HI7000.out) | refine below_set ?_ GE7000.out) | exact HB.out)); rintro e w7004 ⟨rfl, hi, hb, hk⟩; refine ⟨_, rfl, ?_⟩; have n_ := pk5 (Kd.R_mono (Kd.R_keep (IsS52.apart (show IsS52 w _ g7000 t176 t177 t178 from by repeat (first | (with_reducible first | exact HI7000.out | apply IsS52.alloc | apply IsS52.drewN | apply IsS52.drew | apply IsS52.set_1 | apply IsS52.set_2 | refine IsS52.far ?_ NB179_7000.out _) | exact HI7000.out)) (ro_ HO7000) (by decide)) hk (fun _ h => h.2)) (fun _ h => h.1)) (KeepBut.blk hk (g' := gb7000) (o := .cells #[.slice Ao7001 t171.length co7001, .int .i64 t174] 25 (0, 0)) (bo_ BK7000) NB7000_179.out (by simp)) (Kd.R_mono (Kd.R_keep (IsS52.apart (show IsS52 w _ g7000 t176 t177 t178 from by repeat (first | (with_reducible first | exact HI7000.out | apply IsS52.alloc | apply IsS52.drewN | apply IsS52.drew | apply IsS52.set_1 | apply IsS52.set_2 | refine IsS52.far ?_ NB179_7000.out _) | exact HI7000.out)) (ro_ HO7001) (by decide)) hk (fun _ h => h.2)) (fun _ h => h.1)) (hb) (hi); clear HO7000 BK7000 HO7001 HB HI7000; obtain ⟨HO7000, BK7000, HO7001, HB, HI7000⟩ := n_; (try clear hb hk hi)))
    go_ret
    exact ⟨rf_, by repeat (first | (with_reducible first | exact HB.out | apply below_alloc | apply pw_below_drewN | apply below_drew1 | refine below_set ?_ (IsS52.ge HI7000.out) | refine below_set ?_ GE7000.out) | exact HB.out)⟩
end Go.Proofs.Ytmddmbagehjdeaa.G
end
section
namespace Go.Proofs.Ytmddmbagehjdeaa.G
open Go.RowKit Go.Proofs.YtmddmbagehjdeaaX Go.Proofs.YtmddmbagehjdeaaW.PrintWords Go.Proofs.YtmddmbagehjdeaaW.PrintLast Go.Proofs.YtmddmbagehjdeaaW.PrintMore
attribute [local go_sem] max2_int min2_int max_two min_two max_three min_three max_four min_four
mutual
def windroselaw17_BitsPuts.j0 : Nat → Int → Int → Bool → List Int → Int → List Int → Int → Option (Bool)
  | 0, _, _, _, _, _, _, _ => none
  | k + 1, x7, x8, x29, x361000, x361001, x362000, x362001 => if x29 = true then ((windroselaw17_awake.f k).bind fun t365 => (some t365)) else ((bits_Put.f k x361000 x361001 x7 x8).bind fun bt366 => ((bits_Number.f k x361000 x361001 (wrap64 (x7))).bind fun bt372 => ((bits_Join.f k x361000 x361001 x362000 x362001).bind fun bt378 => ((windroseref17_May.f x361000 x361001).bind fun t384 => (if t384 = true then ((windroseref17_List.f k x361000 x361001).bind fun t389 => ((windroseref17_Coded.f k (wrap64 (x7))).bind fun t392 => ((some (([] : List Bool) : List Bool)).bind fun y395 => (if y395.length + t389.length < 140737488355328 then ((some (y395 ++ t389 : List Bool)).bind fun y398 => (if y398.length + t392.length < 140737488355328 then ((windroselaw17_told.f k bt372.1 bt372.2.1 bt372.2.2 (y398 ++ t392) 0).bind fun t404 => (if t404 = true then ((bits_Class.f k (wrap64 (x7))).bind fun t405 => ((windroseref17_Class.f (wrap64 (x7))).bind fun t406 => (if t405 = t406 then ((bits_Size.f k (wrap64 (x7))).bind fun t407 => (windroselaw17_BitsPuts.j1 k x7 x8 bt366.2.2 bt378.2.2 t389 (t407 != (t392.length : Int)) x362000 x362001 bt366.1 bt366.2.1 bt378.1 bt378.2.1)) else (none)))) else (none))) else (none))) else (none))))) else ((windroselaw17_told.f k bt366.1 bt366.2.1 bt366.2.2 ([] : List Bool) 1).bind fun t385 => (if t385 = true then ((windroselaw17_told.f k bt372.1 bt372.2.1 bt372.2.2 ([] : List Bool) 1).bind fun t386 => (if t386 = true then ((windroselaw17_told.f k bt378.1 bt378.2.1 bt378.2.2 ([] : List Bool) 1).bind fun t387 => (if t387 = true then ((windroselaw17_awake.f k).bind fun t388 => (some t388)) else (none))) else (none))) else (none))))))))
def windroselaw17_BitsPuts.j1 : Nat → Int → Int → Int → Int → List Bool → Bool → List Int → Int → List Int → Int → List Int → Int → Option (Bool)
  | 0, _, _, _, _, _, _, _, _, _, _, _, _ => none
  | k + 1, x7, x8, x10, x14, x15, x100, x362000, x362001, x372000, x372001, x384000, x384001 => if x100 = true then (none) else ((windroseref17_May.f x362000 x362001).bind fun t408 => (if t408 = true then ((some (([] : List Bool) : List Bool)).bind fun y409 => (if y409.length + x15.length < 140737488355328 then ((some (y409 ++ x15 : List Bool)).bind fun y412 => ((windroseref17_List.f k x362000 x362001).bind fun t415 => (if y412.length + t415.length < 140737488355328 then ((windroselaw17_told.f k x384000 x384001 x14 (y412 ++ t415) 0).bind fun t421 => (if t421 = true then (windroselaw17_BitsPuts.j2 k x7 x8 x10 x15 x372000 x372001) else (none))) else (none)))) else (none))) else ((windroselaw17_told.f k x384000 x384001 x14 ([] : List Bool) 1).bind fun t422 => (if t422 = true then (windroselaw17_BitsPuts.j2 k x7 x8 x10 x15 x372000 x372001) else (none)))))
def windroselaw17_BitsPuts.j2 : Nat → Int → Int → Int → List Bool → List Int → Int → Option (Bool)
  | 0, _, _, _, _, _, _ => none
  | k + 1, x7, x8, x10, x15, x372000, x372001 => if x8 < 0 then (windroselaw17_BitsPuts.j3 k x7 x8 x10 x15 true x372000 x372001) else (if x8 > 64 then (windroselaw17_BitsPuts.j3 k x7 x8 x10 x15 true x372000 x372001) else (if x8 < 64 then (if 0 ≤ (IntKind.u64.wrap (x8)) then (windroselaw17_BitsPuts.j3 k x7 x8 x10 x15 ((shr .u64 x7 (IntKind.u64.wrap (x8))) != 0) x372000 x372001) else (none)) else (windroselaw17_BitsPuts.j3 k x7 x8 x10 x15 false x372000 x372001)))
def windroselaw17_BitsPuts.j3 : Nat → Int → Int → Int → List Bool → Bool → List Int → Int → Option (Bool)
  | 0, _, _, _, _, _, _, _ => none
  | k + 1, x7, x8, x10, x15, x134, x372000, x372001 => if x134 = true then ((windroselaw17_told.f k x372000 x372001 x10 x15 1).bind fun t423 => (if t423 = true then ((windroselaw17_awake.f k).bind fun t424 => (some t424)) else (none))) else ((some (([] : List Bool) : List Bool)).bind fun y425 => (if y425.length + x15.length < 140737488355328 then ((some (y425 ++ x15 : List Bool)).bind fun y428 => ((windroseref17_Low.f k x7 x8).bind fun t431 => (if y428.length + t431.length < 140737488355328 then ((windroselaw17_told.f k x372000 x372001 x10 (y428 ++ t431) 0).bind fun t437 => (if t437 = true then ((windroselaw17_awake.f k).bind fun t438 => (some t438)) else (none))) else (none)))) else (none)))
end
def windroselaw17_BitsPuts.f (k : Nat) (l0_0 : List Int) (a0_1 : Int) (l1_0 : List Int) (a1_1 : Int) (a2_0 : Int) (a2_1 : Int) : Option (Bool) := (windroselaw17_light.f l0_0 a0_1).bind fun t363 => (if t363 = true then ((windroselaw17_light.f l1_0 a1_1).bind fun t364 => (windroselaw17_BitsPuts.j0 k a2_0 (wrap64 (a2_1)) (!t364) l0_0 a0_1 l1_0 a1_1)) else (windroselaw17_BitsPuts.j0 k a2_0 (wrap64 (a2_1)) true l0_0 a0_1 l1_0 a1_1))
def windroselaw17_BitsPuts.T11 : Bool × List (List Nat × List Nat) := (true, [([], []), ([], []), ([], []), ([], []), ([2, 3], [2, 3]), ([], []), ([4, 5, 4], [4, 5]), ([0, 1, 6, 6], [0, 1, 6]), ([7], [7]), ([8, 7], [8]), ([9], [9]), ([10, 9], [9, 10]), ([11, 9, 9], [9, 11]), ([9], [9]), ([13, 9], [9, 13]), ([14, 12, 9], [9, 14]), ([12, 15, 9], [9, 12, 15]), ([9, 16], [9, 16]), ([17, 15], [17]), ([18], [18]), ([19, 18], [18, 19]), ([20, 18, 18], [18, 20]), ([18], [18]), ([22, 18], [18, 22]), ([21, 23, 18], [18, 21, 23]), ([18, 24], [18, 24])])
def windroselaw17_BitsPuts.B11 : List Nat := [0, 0, 0, 0, 12, 0, 60, 127, 255, 511, 1023, 2047, 4095, 1023, 9215, 32767, 65535, 131071, 262143, 524287, 1048575, 2097151, 524287, 4718591, 16777215, 33554431]
theorem windroselaw17_BitsPuts.tab11 : rtab .any (opsOf Try.f6 11) = windroselaw17_BitsPuts.T11 := by kernel_rfl
theorem windroselaw17_BitsPuts.bits11 : waitsOk windroselaw17_BitsPuts.T11.2 windroselaw17_BitsPuts.B11 = true := by kernel_rfl
def windroselaw17_BitsPuts.T16 : Bool × List (List Nat × List Nat) := (true, [([], []), ([], []), ([], []), ([], []), ([2, 3], [2, 3]), ([], []), ([5, 4], [5]), ([4, 6, 6], [4, 6]), ([0, 1, 7, 7], [0, 1, 7]), ([8], [8])])
def windroselaw17_BitsPuts.B16 : List Nat := [0, 0, 0, 0, 12, 0, 60, 124, 255, 511]
theorem windroselaw17_BitsPuts.tab16 : rtab .any (opsOf Try.f6 16) = windroselaw17_BitsPuts.T16 := by kernel_rfl
theorem windroselaw17_BitsPuts.bits16 : waitsOk windroselaw17_BitsPuts.T16.2 windroselaw17_BitsPuts.B16 = true := by kernel_rfl
def windroselaw17_BitsPuts.T20 : Bool × List (List Nat × List Nat) := (true, [([], []), ([], []), ([], []), ([], []), ([2, 3], [2, 3]), ([], []), ([], []), ([5, 6, 4], [5, 6]), ([4, 7, 7], [4, 7]), ([0, 1, 8, 8], [0, 1, 8]), ([9, 9], [9]), ([10, 10], [10]), ([10, 11], [10, 11]), ([12, 11, 0, 1, 2, 3, 4, 5, 6, 7, 8, 9, 10, 11, 12], [12])])
def windroselaw17_BitsPuts.B20 : List Nat := [0, 0, 0, 0, 12, 0, 0, 124, 252, 511, 1023, 2047, 4095, 8191]
theorem windroselaw17_BitsPuts.tab20 : rtab .any (opsOf Try.f6 20) = windroselaw17_BitsPuts.T20 := by kernel_rfl
theorem windroselaw17_BitsPuts.bits20 : waitsOk windroselaw17_BitsPuts.T20.2 windroselaw17_BitsPuts.B20 = true := by kernel_rfl
theorem told_nil (k : Nat) (A : Option Addr) (c : Nat) (l : List Int) (n e f : Int) (r : Bool) (w : World) (h1 : Kd.C (Kd.int .u8) w A l.length l) (h2 : l.length ≤ c) (h : windroselaw17_told.f k l n e ([] : List Bool) f = some r) :
    Calls Try.prog 31 #[.agg #[.slice A l.length c, .int .i64 n], .int .i64 e, .slice none 0 0, .int .i64 f] w fun e w' => e = .returned (.bool r) ∧ Below w.heap.size w w' :=
  windroselaw17_told.calls k A c l n e none 0 [] f r w h1 h2 (Kd.C_nil _ _) (Nat.le_refl _) h
set_option maxHeartbeats 80000000 in
set_option maxRecDepth 100000 in
theorem windroselaw17_BitsPuts.calls (k : Nat) (A0_0 : Option Addr) (c0_0 : Nat) (l0_0 : List Int) (a0_1 : Int) (A1_0 : Option Addr) (c1_0 : Nat) (l1_0 : List Int) (a1_1 : Int) (a2_0 : Int) (a2_1 : Int) (r : Bool) (w : World) (hr0_0 : Kd.C (Kd.int .u8) w A0_0 l0_0.length l0_0) (hc0_0 : l0_0.length ≤ c0_0) (hr1_0 : Kd.C (Kd.int .u8) w A1_0 l1_0.length l1_0) (hc1_0 : l1_0.length ≤ c1_0) (h : windroselaw17_BitsPuts.f k l0_0 a0_1 l1_0 a1_1 a2_0 a2_1 = some r) :
    Calls Try.prog 6 #[.agg #[.slice A0_0 l0_0.length c0_0, .int .i64 a0_1], .agg #[.slice A1_0 l1_0.length c1_0, .int .i64 a1_1], .agg #[.int .u64 a2_0, .int .u64 a2_1]] w fun e w' => e = .returned (.bool r) ∧ Below w.heap.size w w' := by
  have hu25 := Try.underlying25
  have hu54 := Try.underlying54
  have HR0_0 := Aside0.mk hr0_0
  have HC0_0 := Aside0.mk hc0_0
  clear hr0_0 hc0_0
  have HR1_0 := Aside0.mk hr1_0
  have HC1_0 := Aside0.mk hc1_0
  clear hr1_0 hc1_0
  have HB := Aside0.mk (Below.refl w.heap.size w)
  have H : ((windroselaw17_light.f l0_0 a0_1).bind fun t363 => (if t363 = true then ((windroselaw17_light.f l1_0 a1_1).bind fun t364 => (windroselaw17_BitsPuts.j0 k a2_0 (wrap64 (a2_1)) (!t364) l0_0 a0_1 l1_0 a1_1)) else (windroselaw17_BitsPuts.j0 k a2_0 (wrap64 (a2_1)) true l0_0 a0_1 l1_0 a1_1))) = some r := h
  clear h
  have HC4 := Aside0.mk H
  clear H
  go_enter Try.func6, Try.ntmps6
  try go_wp2_with (first | ((with_reducible refine gate_dst (N := 3) rfl ?_); (try (refine gate_guard (by rfl) ?_; dsimp only)); refine box_ev 3 #[.slice A0_0 l0_0.length c0_0, .int .i64 a0_1] 25 ?_; intro gb360 hg w5 hbox hb; have n_ := pk4 (below_step bl_ hb) (hbox) ((ge_ hg bl_ : w.heap.size ≤ gb360)) ((ge_ hg bl_ : w.heap.size ≤ gb360)); clear HB; obtain ⟨HB, BK360, GW360, GE360⟩ := n_; clear hb hbox hg) | ((with_reducible refine gate_dst (N := 4) rfl ?_); (try (refine gate_guard (by rfl) ?_; dsimp only)); refine box_ev 4 #[.slice A1_0 l1_0.length c1_0, .int .i64 a1_1] 25 ?_; intro gb361 hg w6 hbox hb; have n_ := pk7 (blk_below (bo_ BK360) hb) (below_step bl_ hb) (hbox) ((ge_ hg bl_ : w.heap.size ≤ gb361)) ((ge_ hg bl_ : w.heap.size ≤ gb361)) ((nb_ hg (bo_ BK360) : gb360 ≠ gb361)) ((nc_ hg (bo_ BK360) : gb361 ≠ gb360)); clear BK360 HB; obtain ⟨BK360, HB, BK361, GW361, GE361, NB360_361, NB361_360⟩ := n_; clear hb hbox hg) | ((with_reducible refine gate_dst (N := 5) rfl ?_); (try (refine gate_guard (by rfl) ?_; dsimp only)); refine box_ev 5 #[.int .u64 a2_0, .int .u64 a2_1] 54 ?_; intro gb362 hg w7 hbox hb; have n_ := pk10 (blk_below (bo_ BK360) hb) (blk_below (bo_ BK361) hb) (below_step bl_ hb) (hbox) ((ge_ hg bl_ : w.heap.size ≤ gb362)) ((ge_ hg bl_ : w.heap.size ≤ gb362)) ((nb_ hg (bo_ BK360) : gb360 ≠ gb362)) ((nc_ hg (bo_ BK360) : gb362 ≠ gb360)) ((nb_ hg (bo_ BK361) : gb361 ≠ gb362)) ((nc_ hg (bo_ BK361) : gb362 ≠ gb361)); clear BK360 BK361 HB; obtain ⟨BK360, BK361, HB, BK362, GW362, GE362, NB360_362, NB362_360, NB361_362, NB362_361⟩ := n_; clear hb hbox hg))
  have n_ := pk4 (blk_drew BK360.out) (blk_drew BK361.out) (blk_drew BK362.out) (below_drew1 HB.out)
  clear BK360 BK361 BK362 HB
  obtain ⟨BK360, BK361, BK362, HB⟩ := n_
  refine start_ (n := 7) (S := fun w' => w'.cell? ⟨gb362, 0, none⟩ = some (.int .u64 a2_0) ∧ w'.cell? ⟨gb362, 1, none⟩ = some (.int .u64 a2_1)) (ds := []) #[false, false, false, false, false, false, false] (by kernel_rfl) rfl rfl ⟨(blk_cell BK362.out 0).trans rfl, (blk_cell BK362.out 1).trans rfl⟩ (fun hHeld => ?_)
  generalize w7.drew = w8 at BK360 BK361 BK362 HB hHeld ⊢
  refine pure_ (i := 0) (N := some 17) (v := ?_) (a' := ?_) #[true, false, false, false, false, false, false] rfl rfl (by kernel_rfl) (fun _ _ _ h => h) (Or.inl ⟨by rfl, ?_⟩) ?_ ?_
  rotate_left
  · intro w'
    go_simp
    with_reducible rfl
  rotate_left
  · simp only [ap_, sb_, s0_, s1_, i64_w, i32_w]
    rfl
  refine pure_ (i := 2) (N := some 19) (v := ?_) (a' := ?_) #[true, false, true, false, false, false, false] rfl rfl (by kernel_rfl) (fun _ _ _ h => h) (Or.inl ⟨by rfl, ?_⟩) ?_ ?_
  rotate_left
  · intro w'
    go_simp
    with_reducible rfl
  rotate_left
  · simp only [ap_, sb_, s0_, s1_, i64_w, i32_w]
    rfl
  refine take_ (i := 1) (N := some 18) (v := ?_) (a' := ?_) #[true, true, true, false, false, false, false] rfl rfl (by kernel_rfl) (fun _ _ _ h => h) (Or.inl ⟨by rfl, ?_⟩) hHeld ?_ ?_
  rotate_left
  · rintro w' ⟨s0, s1⟩
    go_simp
    with_reducible rfl
  rotate_left
  · simp only [ap_, sb_, s0_, s1_, i64_w, i32_w]
    rfl
  refine pure_ (i := 5) (N := some 7) (v := ?_) (a' := ?_) #[true, true, true, false, false, true, false] rfl rfl (by kernel_rfl) (fun _ _ _ h => h) (Or.inl ⟨by rfl, ?_⟩) ?_ ?_
  rotate_left
  · intro w'
    go_simp
    with_reducible rfl
  rotate_left
  · simp only [ap_, sb_, s0_, s1_, i64_w, i32_w]
    rfl
  refine take_ (i := 3) (N := some 20) (v := ?_) (a' := ?_) #[true, true, true, true, false, true, false] rfl rfl (by kernel_rfl) (fun _ _ _ h => h) (Or.inl ⟨by rfl, ?_⟩) hHeld ?_ ?_
  rotate_left
  · rintro w' ⟨s0, s1⟩
    go_simp
    with_reducible rfl
  rotate_left
  · simp only [ap_, sb_, s0_, s1_, i64_w, i32_w]
    rfl
  refine pure_ (i := 4) (N := some 21) (v := ?_) (a' := ?_) #[true, true, true, true, true, true, false] rfl rfl (by kernel_rfl) (fun _ _ _ h => h) (Or.inl ⟨by rfl, ?_⟩) ?_ ?_
  rotate_left
  · intro w'
    go_simp
    with_reducible rfl
  rotate_left
  · simp only [ap_, sb_, s0_, s1_, i64_w, i32_w]
    rfl
  refine pure_ (i := 6) (N := some 8) (v := ?_) (a' := ?_) #[true, true, true, true, true, true, true] rfl rfl (by kernel_rfl) (fun _ _ _ h => h) (Or.inl ⟨by rfl, ?_⟩) ?_ ?_
  rotate_left
  · intro w'
    go_simp
    with_reducible rfl
  rotate_left
  · simp only [ap_, sb_, s0_, s1_, i64_w, i32_w]
    rfl
  refine done_ (by kernel_rfl) ?_
  go_upto_region 2 with (fail)
  go_cut [29] (fun v29 wc => ∃ (kq : Nat) (x29_3 : Bool), v29 = .bool x29_3 ∧ Aside0 (windroselaw17_BitsPuts.j0 kq a2_0 (wrap64 (a2_1)) x29_3 l0_0 a0_1 l1_0 a1_1 = some r) ∧ Aside0 (kq ≤ k) ∧ Aside0 (wc.heap[gb360]? = some (.cells #[(.slice A0_0 l0_0.length c0_0), .int .i64 a0_1] 25 (0, 0))) ∧ Aside0 (wc.heap[gb361]? = some (.cells #[(.slice A1_0 l1_0.length c1_0), .int .i64 a1_1] 25 (0, 0))) ∧ Aside0 (wc.heap[gb362]? = some (.cells #[.int .u64 a2_0, .int .u64 a2_1] 54 (0, 0))) ∧ Aside0 (Below w.heap.size w wc))
  case first =>
    have H := HC4.out
    clear HC4
    replace H := bindA H
    obtain ⟨t363, A9, H⟩ := H
    try dsimp only at H
    replace H := dbool H
    rcases H with ⟨rfl, H⟩ | ⟨rfl, H⟩
    focus
      replace H := bindA H
      obtain ⟨t364, A11, H⟩ := H
      try dsimp only at H
      have H' := Aside0.mk H
      clear H
      have hnb12 := NB360_361.out
      have hnc12 := NB361_360.out
      have hnb13 := NB360_362.out
      have hnc13 := NB362_360.out
      obtain ⟨hcz14_0, hcz14_1, hfz14_0, hfz14_1⟩ := blk_at2 BK360.out
    rotate_left
    focus
      have H' := Aside0.mk H
      clear H
      have hnb19 := NB360_361.out
      have hnc19 := NB361_360.out
      have hnb20 := NB360_362.out
      have hnc20 := NB362_360.out
      obtain ⟨hcz21_0, hcz21_1, hfz21_0, hfz21_1⟩ := blk_at2 BK360.out
    all_goals
      first
        | go_wp2_with (first | ((with_reducible refine gate_callee (f := 21) rfl ?_); refine goL_ (some 23) Try.func21 #[.agg #[.slice A0_0 l0_0.length c0_0, .int .i64 a0_1]] ?_; (with_reducible refine (windroselaw17_light.calls _ _ l0_0 a0_1 true _ ?side1 ?side2 A9.out).mono ?_); (case side1 => repeat (first | exact (Kd.C_below HR0_0.out bl_) | (with_reducible refine Kd.C_alloc ?_ _) | (with_reducible refine Kd.C_drewN ?_ _) | (with_reducible refine Kd.C_drew ?_))); (case side2 => exact HC0_0.out); rintro e w7000 ⟨rfl, hb⟩; refine ⟨_, rfl, ?_⟩; have n_ := pk4 (blk_below (bo_ BK360) hb) (blk_below (bo_ BK361) hb) (blk_below (bo_ BK362) hb) (below_step bl_ hb); clear BK360 BK361 BK362 HB; obtain ⟨BK360, BK361, BK362, HB⟩ := n_; (try clear hb); have hnb7000 := NB361_362.out; have hnc7000 := NB362_361.out; have hcz7000_0 : w7000.cell? ⟨gb361, 0, none⟩ = some (.slice A1_0 l1_0.length c1_0) := (blk_cell BK361.out 0).trans rfl; have hcz7000_1 : w7000.cell? ⟨gb361, 1, none⟩ = some (.int .i64 a1_1) := (blk_cell BK361.out 1).trans rfl; have hfz7000_0 := blk_frozen BK361.out 0; have hfz7000_1 := blk_frozen BK361.out 1) | (go_at_call 21; (with_reducible refine (windroselaw17_light.calls _ _ l1_0 a1_1 t364 _ ?side1 ?side2 A11.out).mono ?_); (case side1 => exact cb_ HR1_0); (case side2 => exact HC1_0.out); rintro e w7001 ⟨rfl, hb⟩; have n_ := pk4 (blk_below (bo_ BK360) hb) (blk_below (bo_ BK361) hb) (blk_below (bo_ BK362) hb) (below_step bl_ hb); clear BK360 BK361 BK362 HB; obtain ⟨BK360, BK361, BK362, HB⟩ := n_; (try clear hb)))
          go_meet
          case rel => exact ⟨_, (!t364), sm_, H', ⟨om_⟩, ⟨(bo_ BK360)⟩, ⟨(bo_ BK361)⟩, ⟨(bo_ BK362)⟩, ⟨bl_⟩⟩
        | go_wp2_with (first | ((with_reducible refine gate_callee (f := 21) rfl ?_); refine goL_ (some 23) Try.func21 #[.agg #[.slice A0_0 l0_0.length c0_0, .int .i64 a0_1]] ?_; (with_reducible refine (windroselaw17_light.calls _ _ l0_0 a0_1 false _ ?side1 ?side2 A9.out).mono ?_); (case side1 => repeat (first | exact (Kd.C_below HR0_0.out bl_) | (with_reducible refine Kd.C_alloc ?_ _) | (with_reducible refine Kd.C_drewN ?_ _) | (with_reducible refine Kd.C_drew ?_))); (case side2 => exact HC0_0.out); rintro e w7000 ⟨rfl, hb⟩; refine ⟨_, rfl, ?_⟩; have n_ := pk4 (blk_below (bo_ BK360) hb) (blk_below (bo_ BK361) hb) (blk_below (bo_ BK362) hb) (below_step bl_ hb); clear BK360 BK361 BK362 HB; obtain ⟨BK360, BK361, BK362, HB⟩ := n_; (try clear hb)))
          go_meet
          case rel => exact ⟨_, (true), sm_, H', ⟨om_⟩, ⟨(bo_ BK360)⟩, ⟨(bo_ BK361)⟩, ⟨(bo_ BK362)⟩, ⟨bl_⟩⟩
  case rest =>
    clear HC4
    obtain ⟨kq, x29_3, rfl, HA, HJ3, BK360, BK361, BK362, HB⟩ := hcut
    cases kq with
    | zero => exact absurd HA.out (by simp [windroselaw17_BitsPuts.j0])
    | succ kj3 =>
      have H := HA.out
      clear HA
      simp only [windroselaw17_BitsPuts.j0] at H
      replace H := dbool H
      rcases H with ⟨rfl, H⟩ | ⟨rfl, H⟩
      focus
        replace H := bindA H
        obtain ⟨t365, A24, H⟩ := H
        try dsimp only at H
        obtain rfl := Option.some.inj H
      rotate_left
      focus
        replace H := bindA H
        obtain ⟨⟨t366, t369, t370⟩, A26, H⟩ := H
        try dsimp only at H
        replace H := bindA H
        obtain ⟨⟨t372, t375, t376⟩, A27, H⟩ := H
        try dsimp only at H
        replace H := bindA H
        obtain ⟨⟨t378, t381, t382⟩, A28, H⟩ := H
        try dsimp only at H
        replace H := bindA H
        obtain ⟨t384, A29, H⟩ := H
        try dsimp only at H
        replace H := dbool H
        rcases H with ⟨rfl, H⟩ | ⟨rfl, H⟩
        · replace H := bindA H
          obtain ⟨t389, A31, H⟩ := H
          try dsimp only at H
          replace H := bindA H
          obtain ⟨t392, A32, H⟩ := H
          try dsimp only at H
          have HC33 := Aside0.mk H
          clear H
          have hnb34 := NB360_361.out
          have hnc34 := NB361_360.out
          have hnb35 := NB360_362.out
          have hnc35 := NB362_360.out
          obtain ⟨hcz36_0, hcz36_1, hfz36_0, hfz36_1⟩ := blk_at2 BK360.out
          go_upto_region 11 with (first | ((with_reducible refine gate_callee (f := 29) rfl ?_); refine goL_ (some 35) Try.func29 #[.agg #[.slice A0_0 l0_0.length c0_0, .int .i64 a0_1], .int .u64 a2_0, .int .i64 (wrap64 (a2_1))] ?_; (with_reducible refine (bits_Put.calls kj3 _ _ l0_0 a0_1 a2_0 (wrap64 (a2_1)) t366 t369 t370 _ ?side1 ?side2 A26.out).mono ?_); (case side1 => exact cb_ HR0_0); (case side2 => exact HC0_0.out); rintro e w37 ⟨v367, rfl, ho0, hb⟩; refine ⟨_, rfl, ?_⟩; have n_ := pk5 (Kd.R_lower ho0 (below_size bl_)) (blk_below (bo_ BK360) hb) (blk_below (bo_ BK361) hb) (blk_below (bo_ BK362) hb) (below_step bl_ hb); clear BK360 BK361 BK362 HB; obtain ⟨HO368, BK360, BK361, BK362, HB⟩ := n_; (try clear hb ho0)) | ((with_reducible refine gate_dst (N := 9) rfl ?_); (try (refine gate_guard (by rfl) ?_; dsimp only)); refine box_ev 9 #[.slice none 0 0, .int .i64 0] 25 ?_; intro gb371 hg w38 hbox hb; have n0_ := Aside0.mk (Kd.R_below (ro_ HO368) hb); have n1_ := Aside0.mk (blk_below (bo_ BK360) hb); have n2_ := Aside0.mk (blk_below (bo_ BK361) hb); have n3_ := Aside0.mk (blk_below (bo_ BK362) hb); have n4_ := Aside0.mk (below_step bl_ hb); have n5_ := Aside0.mk (hbox); have n6_ := Aside0.mk ((ge_ hg bl_ : w.heap.size ≤ gb371)); have n7_ := Aside0.mk ((ge_ hg bl_ : w.heap.size ≤ gb371)); have n8_ := Aside0.mk ((nb_ hg (bo_ BK360) : gb360 ≠ gb371)); have n9_ := Aside0.mk ((nc_ hg (bo_ BK360) : gb371 ≠ gb360)); have n10_ := Aside0.mk ((nb_ hg (bo_ BK361) : gb361 ≠ gb371)); have n11_ := Aside0.mk ((nc_ hg (bo_ BK361) : gb371 ≠ gb361)); have n12_ := Aside0.mk ((nb_ hg (bo_ BK362) : gb362 ≠ gb371)); have n13_ := Aside0.mk ((nc_ hg (bo_ BK362) : gb371 ≠ gb362)); clear HO368; clear BK360; clear BK361; clear BK362; clear HB; have HO368 := n0_; have BK360 := n1_; have BK361 := n2_; have BK362 := n3_; have HB := n4_; have BK371 := n5_; have GW371 := n6_; have GE371 := n7_; have NB360_371 := n8_; have NB371_360 := n9_; have NB361_371 := n10_; have NB371_361 := n11_; have NB362_371 := n12_; have NB371_362 := n13_; clear n0_ n1_ n2_ n3_ n4_ n5_ n6_ n7_ n8_ n9_ n10_ n11_ n12_ n13_; clear hb hbox hg; obtain ⟨Ao39, co39, eo39⟩ := Kd.R_slice HO368.out; subst eo39; have hnb40 := NB371_360.out; have hnc40 := NB360_371.out; have hnb41 := NB371_361.out; have hnc41 := NB361_371.out; have hnb42 := NB371_362.out; have hnc42 := NB362_371.out; have hcz43_0 : w38.cell? ⟨gb371, 0, none⟩ = some (.slice none 0 0) := (blk_cell BK371.out 0).trans rfl; have hcz43_1 : w38.cell? ⟨gb371, 1, none⟩ = some (.int .i64 0) := (blk_cell BK371.out 1).trans rfl; have hfz43_0 := blk_frozen BK371.out 0; have hfz43_1 := blk_frozen BK371.out 1; have hcz44_0 : w38.cell? ⟨gb360, 0, none⟩ = some (.slice A0_0 l0_0.length c0_0) := (blk_cell BK360.out 0).trans rfl; have hcz44_1 : w38.cell? ⟨gb360, 1, none⟩ = some (.int .i64 a0_1) := (blk_cell BK360.out 1).trans rfl; have hfz44_0 := blk_frozen BK360.out 0; have hfz44_1 := blk_frozen BK360.out 1) | ((with_reducible refine gate_callee (f := 15) rfl ?_); refine goL_ (some 42) Try.func15 #[.agg #[.slice A0_0 l0_0.length c0_0, .int .i64 a0_1], .int .i64 (wrap64 (a2_0))] ?_; (with_reducible refine (bits_Number.calls kj3 _ _ l0_0 a0_1 (wrap64 (a2_0)) t372 t375 t376 _ ?side1 ?side2 A27.out).mono ?_); (case side1 => exact Kd.C_below HR0_0.out bl_); (case side2 => exact HC0_0.out); rintro e w45 ⟨v373, rfl, ho0, hb⟩; refine ⟨_, rfl, ?_⟩; have n_ := pk7 (Kd.R_elder' (rt_ ((Kd.R_mono (Kd.R_far (p := ⟨gb371, 1, none⟩) (Kd.R_far (p := ⟨gb371, 0, none⟩) (Kd.R_types HO368.out BK371.out (by decide)) (fun _ hk => hk.2) (.slice Ao39 t366.length co39)) (fun _ hk => hk.2) (.int .i64 t369)) (fun _ h_ => h_.1)))) (Kd.R_base ho0) hb) (Kd.R_lower (Kd.R_new' ho0 (Kd.R_lt (rt_ ((Kd.R_mono (Kd.R_far (p := ⟨gb371, 1, none⟩) (Kd.R_far (p := ⟨gb371, 0, none⟩) (Kd.R_types HO368.out BK371.out (by decide)) (fun _ hk => hk.2) (.slice Ao39 t366.length co39)) (fun _ hk => hk.2) (.int .i64 t369)) (fun _ h_ => h_.1)))))) (below_size bl_)) (blk_below (g := gb360) (o := .cells #[.slice A0_0 l0_0.length c0_0, .int .i64 a0_1] 25 (0, 0)) (by (with_reducible repeat (first | refine blk_drewN ?_ _ | refine blk_drew ?_ | refine blk_alloc ?_ _)); refine blk_far ?_ NB360_371.out _; (with_reducible repeat (first | refine blk_drewN ?_ _ | refine blk_drew ?_ | refine blk_alloc ?_ _)); refine blk_far ?_ NB360_371.out _; exact (bo_ BK360)) hb) (blk_below (g := gb361) (o := .cells #[.slice A1_0 l1_0.length c1_0, .int .i64 a1_1] 25 (0, 0)) (by (with_reducible repeat (first | refine blk_drewN ?_ _ | refine blk_drew ?_ | refine blk_alloc ?_ _)); refine blk_far ?_ NB361_371.out _; (with_reducible repeat (first | refine blk_drewN ?_ _ | refine blk_drew ?_ | refine blk_alloc ?_ _)); refine blk_far ?_ NB361_371.out _; exact (bo_ BK361)) hb) (blk_below (g := gb362) (o := .cells #[.int .u64 a2_0, .int .u64 a2_1] 54 (0, 0)) (by (with_reducible repeat (first | refine blk_drewN ?_ _ | refine blk_drew ?_ | refine blk_alloc ?_ _)); refine blk_far ?_ NB362_371.out _; (with_reducible repeat (first | refine blk_drewN ?_ _ | refine blk_drew ?_ | refine blk_alloc ?_ _)); refine blk_far ?_ NB362_371.out _; exact (bo_ BK362)) hb) (blk_below (g := gb371) (o := .cells #[.slice Ao39 t366.length co39, .int .i64 t369] 25 (0, 0)) (by (with_reducible repeat (first | refine blk_drewN ?_ _ | refine blk_drew ?_ | refine blk_alloc ?_ _)); refine blk_put (cs := #[.slice Ao39 t366.length co39, .int .i64 0]) ?_ 1 _ rfl; (with_reducible repeat (first | refine blk_drewN ?_ _ | refine blk_drew ?_ | refine blk_alloc ?_ _)); refine blk_put (cs := #[.slice none 0 0, .int .i64 0]) ?_ 0 _ rfl; exact (bo_ BK371)) hb) (below_step bl_ hb); clear HO368 BK360 BK361 BK362 BK371 HB; obtain ⟨HO368, HO374, BK360, BK361, BK362, BK371, HB⟩ := n_; (try clear hb ho0)) | ((with_reducible refine gate_dst (N := 11) rfl ?_); (try (refine gate_guard (by rfl) ?_; dsimp only)); refine box_ev 11 #[.slice none 0 0, .int .i64 0] 25 ?_; intro gb377 hg w46 hbox hb; have n0_ := Aside0.mk (Kd.R_below (ro_ HO368) hb); have n1_ := Aside0.mk (Kd.R_below (ro_ HO374) hb); have n2_ := Aside0.mk (blk_below (bo_ BK360) hb); have n3_ := Aside0.mk (blk_below (bo_ BK361) hb); have n4_ := Aside0.mk (blk_below (bo_ BK362) hb); have n5_ := Aside0.mk (blk_below (bo_ BK371) hb); have n6_ := Aside0.mk (below_step bl_ hb); have n7_ := Aside0.mk (hbox); have n8_ := Aside0.mk ((ge_ hg bl_ : w.heap.size ≤ gb377)); have n9_ := Aside0.mk ((ge_ hg bl_ : w.heap.size ≤ gb377)); have n10_ := Aside0.mk ((nb_ hg (bo_ BK360) : gb360 ≠ gb377)); have n11_ := Aside0.mk ((nc_ hg (bo_ BK360) : gb377 ≠ gb360)); have n12_ := Aside0.mk ((nb_ hg (bo_ BK361) : gb361 ≠ gb377)); have n13_ := Aside0.mk ((nc_ hg (bo_ BK361) : gb377 ≠ gb361)); have n14_ := Aside0.mk ((nb_ hg (bo_ BK362) : gb362 ≠ gb377)); have n15_ := Aside0.mk ((nc_ hg (bo_ BK362) : gb377 ≠ gb362)); have n16_ := Aside0.mk ((nb_ hg (bo_ BK371) : gb371 ≠ gb377)); have n17_ := Aside0.mk ((nc_ hg (bo_ BK371) : gb377 ≠ gb371)); clear HO368; clear HO374; clear BK360; clear BK361; clear BK362; clear BK371; clear HB; have HO368 := n0_; have HO374 := n1_; have BK360 := n2_; have BK361 := n3_; have BK362 := n4_; have BK371 := n5_; have HB := n6_; have BK377 := n7_; have GW377 := n8_; have GE377 := n9_; have NB360_377 := n10_; have NB377_360 := n11_; have NB361_377 := n12_; have NB377_361 := n13_; have NB362_377 := n14_; have NB377_362 := n15_; have NB371_377 := n16_; have NB377_371 := n17_; clear n0_ n1_ n2_ n3_ n4_ n5_ n6_ n7_ n8_ n9_ n10_ n11_ n12_ n13_ n14_ n15_ n16_ n17_; clear hb hbox hg; obtain ⟨Ao47, co47, eo47⟩ := Kd.R_slice HO374.out; subst eo47; have hnb48 := NB377_360.out; have hnc48 := NB360_377.out; have hnb49 := NB377_361.out; have hnc49 := NB361_377.out; have hnb50 := NB377_362.out; have hnc50 := NB362_377.out; have hnb51 := NB377_371.out; have hnc51 := NB371_377.out; have hcz52_0 : w46.cell? ⟨gb377, 0, none⟩ = some (.slice none 0 0) := (blk_cell BK377.out 0).trans rfl; have hcz52_1 : w46.cell? ⟨gb377, 1, none⟩ = some (.int .i64 0) := (blk_cell BK377.out 1).trans rfl; have hfz52_0 := blk_frozen BK377.out 0; have hfz52_1 := blk_frozen BK377.out 1; have hcz53_0 : w46.cell? ⟨gb360, 0, none⟩ = some (.slice A0_0 l0_0.length c0_0) := (blk_cell BK360.out 0).trans rfl; have hcz53_1 : w46.cell? ⟨gb360, 1, none⟩ = some (.int .i64 a0_1) := (blk_cell BK360.out 1).trans rfl; have hfz53_0 := blk_frozen BK360.out 0; have hfz53_1 := blk_frozen BK360.out 1; have hnb54 := NB361_362.out; have hnc54 := NB362_361.out; have hcz55_0 : w46.cell? ⟨gb361, 0, none⟩ = some (.slice A1_0 l1_0.length c1_0) := (blk_cell BK361.out 0).trans rfl; have hcz55_1 : w46.cell? ⟨gb361, 1, none⟩ = some (.int .i64 a1_1) := (blk_cell BK361.out 1).trans rfl; have hfz55_0 := blk_frozen BK361.out 0; have hfz55_1 := blk_frozen BK361.out 1) | ((with_reducible refine gate_callee (f := 30) rfl ?_); refine goL_ (some 48) Try.func30 #[.agg #[.slice A0_0 l0_0.length c0_0, .int .i64 a0_1], .agg #[.slice A1_0 l1_0.length c1_0, .int .i64 a1_1]] ?_; (with_reducible refine (bits_Join.calls kj3 _ _ l0_0 a0_1 _ _ l1_0 a1_1 t378 t381 t382 _ ?side1 ?side2 ?side3 ?side4 A28.out).mono ?_); (case side1 => exact Kd.C_below HR0_0.out bl_); (case side2 => exact HC0_0.out); (case side3 => exact Kd.C_below HR1_0.out bl_); (case side4 => exact HC1_0.out); rintro e w56 ⟨v379, rfl, ho0, hb⟩; refine ⟨_, rfl, ?_⟩; have n_ := pk9 (Kd.R_elder' (rt_ ((Kd.R_mono (Kd.R_far (p := ⟨gb377, 1, none⟩) (Kd.R_far (p := ⟨gb377, 0, none⟩) (Kd.R_types HO368.out BK377.out (by decide)) (fun _ hk => hk.2) (.slice Ao47 t372.length co47)) (fun _ hk => hk.2) (.int .i64 t375)) (fun _ h_ => h_.1)))) (Kd.R_base ho0) hb) (Kd.R_elder' (rt_ ((Kd.R_mono (Kd.R_far (p := ⟨gb377, 1, none⟩) (Kd.R_far (p := ⟨gb377, 0, none⟩) (Kd.R_types HO374.out BK377.out (by decide)) (fun _ hk => hk.2) (.slice Ao47 t372.length co47)) (fun _ hk => hk.2) (.int .i64 t375)) (fun _ h_ => h_.1)))) (Kd.R_base ho0) hb) (Kd.R_lower (Kd.R_new' (Kd.R_new' ho0 (Kd.R_lt (rt_ ((Kd.R_mono (Kd.R_far (p := ⟨gb377, 1, none⟩) (Kd.R_far (p := ⟨gb377, 0, none⟩) (Kd.R_types HO368.out BK377.out (by decide)) (fun _ hk => hk.2) (.slice Ao47 t372.length co47)) (fun _ hk => hk.2) (.int .i64 t375)) (fun _ h_ => h_.1)))))) (Kd.R_lt (rt_ ((Kd.R_mono (Kd.R_far (p := ⟨gb377, 1, none⟩) (Kd.R_far (p := ⟨gb377, 0, none⟩) (Kd.R_types HO374.out BK377.out (by decide)) (fun _ hk => hk.2) (.slice Ao47 t372.length co47)) (fun _ hk => hk.2) (.int .i64 t375)) (fun _ h_ => h_.1)))))) (below_size bl_)) (blk_below (g := gb360) (o := .cells #[.slice A0_0 l0_0.length c0_0, .int .i64 a0_1] 25 (0, 0)) (by (with_reducible repeat (first | refine blk_drewN ?_ _ | refine blk_drew ?_ | refine blk_alloc ?_ _)); refine blk_far ?_ NB360_377.out _; (with_reducible repeat (first | refine blk_drewN ?_ _ | refine blk_drew ?_ | refine blk_alloc ?_ _)); refine blk_far ?_ NB360_377.out _; exact (bo_ BK360)) hb) (blk_below (g := gb361) (o := .cells #[.slice A1_0 l1_0.length c1_0, .int .i64 a1_1] 25 (0, 0)) (by (with_reducible repeat (first | refine blk_drewN ?_ _ | refine blk_drew ?_ | refine blk_alloc ?_ _)); refine blk_far ?_ NB361_377.out _; (with_reducible repeat (first | refine blk_drewN ?_ _ | refine blk_drew ?_ | refine blk_alloc ?_ _)); refine blk_far ?_ NB361_377.out _; exact (bo_ BK361)) hb) (blk_below (g := gb362) (o := .cells #[.int .u64 a2_0, .int .u64 a2_1] 54 (0, 0)) (by (with_reducible repeat (first | refine blk_drewN ?_ _ | refine blk_drew ?_ | refine blk_alloc ?_ _)); refine blk_far ?_ NB362_377.out _; (with_reducible repeat (first | refine blk_drewN ?_ _ | refine blk_drew ?_ | refine blk_alloc ?_ _)); refine blk_far ?_ NB362_377.out _; exact (bo_ BK362)) hb) (blk_below (g := gb371) (o := .cells #[.slice Ao39 t366.length co39, .int .i64 t369] 25 (0, 0)) (by (with_reducible repeat (first | refine blk_drewN ?_ _ | refine blk_drew ?_ | refine blk_alloc ?_ _)); refine blk_far ?_ NB371_377.out _; (with_reducible repeat (first | refine blk_drewN ?_ _ | refine blk_drew ?_ | refine blk_alloc ?_ _)); refine blk_far ?_ NB371_377.out _; exact (bo_ BK371)) hb) (blk_below (g := gb377) (o := .cells #[.slice Ao47 t372.length co47, .int .i64 t375] 25 (0, 0)) (by (with_reducible repeat (first | refine blk_drewN ?_ _ | refine blk_drew ?_ | refine blk_alloc ?_ _)); refine blk_put (cs := #[.slice Ao47 t372.length co47, .int .i64 0]) ?_ 1 _ rfl; (with_reducible repeat (first | refine blk_drewN ?_ _ | refine blk_drew ?_ | refine blk_alloc ?_ _)); refine blk_put (cs := #[.slice none 0 0, .int .i64 0]) ?_ 0 _ rfl; exact (bo_ BK377)) hb) (below_step bl_ hb); clear HO368 HO374 BK360 BK361 BK362 BK371 BK377 HB; obtain ⟨HO368, HO374, HO380, BK360, BK361, BK362, BK371, BK377, HB⟩ := n_; (try clear hb ho0)) | ((with_reducible refine gate_dst (N := 13) rfl ?_); (try (refine gate_guard (by rfl) ?_; dsimp only)); refine box_ev 13 #[.slice none 0 0, .int .i64 0] 25 ?_; intro gb383 hg w57 hbox hb; have n0_ := Aside0.mk (Kd.R_below (ro_ HO368) hb); have n1_ := Aside0.mk (Kd.R_below (ro_ HO374) hb); have n2_ := Aside0.mk (Kd.R_below (ro_ HO380) hb); have n3_ := Aside0.mk (blk_below (bo_ BK360) hb); have n4_ := Aside0.mk (blk_below (bo_ BK361) hb); have n5_ := Aside0.mk (blk_below (bo_ BK362) hb); have n6_ := Aside0.mk (blk_below (bo_ BK371) hb); have n7_ := Aside0.mk (blk_below (bo_ BK377) hb); have n8_ := Aside0.mk (below_step bl_ hb); have n9_ := Aside0.mk (hbox); have n10_ := Aside0.mk ((ge_ hg bl_ : w.heap.size ≤ gb383)); have n11_ := Aside0.mk ((ge_ hg bl_ : w.heap.size ≤ gb383)); have n12_ := Aside0.mk ((nb_ hg (bo_ BK360) : gb360 ≠ gb383)); have n13_ := Aside0.mk ((nc_ hg (bo_ BK360) : gb383 ≠ gb360)); have n14_ := Aside0.mk ((nb_ hg (bo_ BK361) : gb361 ≠ gb383)); have n15_ := Aside0.mk ((nc_ hg (bo_ BK361) : gb383 ≠ gb361)); have n16_ := Aside0.mk ((nb_ hg (bo_ BK362) : gb362 ≠ gb383)); have n17_ := Aside0.mk ((nc_ hg (bo_ BK362) : gb383 ≠ gb362)); have n18_ := Aside0.mk ((nb_ hg (bo_ BK371) : gb371 ≠ gb383)); have n19_ := Aside0.mk ((nc_ hg (bo_ BK371) : gb383 ≠ gb371)); have n20_ := Aside0.mk ((nb_ hg (bo_ BK377) : gb377 ≠ gb383)); have n21_ := Aside0.mk ((nc_ hg (bo_ BK377) : gb383 ≠ gb377)); clear HO368; clear HO374; clear HO380; clear BK360; clear BK361; clear BK362; clear BK371; clear BK377; clear HB; have HO368 := n0_; have HO374 := n1_; have HO380 := n2_; have BK360 := n3_; have BK361 := n4_; have BK362 := n5_; have BK371 := n6_; have BK377 := n7_; have HB := n8_; have BK383 := n9_; have GW383 := n10_; have GE383 := n11_; have NB360_383 := n12_; have NB383_360 := n13_; have NB361_383 := n14_; have NB383_361 := n15_; have NB362_383 := n16_; have NB383_362 := n17_; have NB371_383 := n18_; have NB383_371 := n19_; have NB377_383 := n20_; have NB383_377 := n21_; clear n0_ n1_ n2_ n3_ n4_ n5_ n6_ n7_ n8_ n9_ n10_ n11_ n12_ n13_ n14_ n15_ n16_ n17_ n18_ n19_ n20_ n21_; clear hb hbox hg; obtain ⟨Ao58, co58, eo58⟩ := Kd.R_slice HO380.out; subst eo58; have hnb59 := NB383_360.out; have hnc59 := NB360_383.out; have hnb60 := NB383_361.out; have hnc60 := NB361_383.out; have hnb61 := NB383_362.out; have hnc61 := NB362_383.out; have hnb62 := NB383_371.out; have hnc62 := NB371_383.out; have hnb63 := NB383_377.out; have hnc63 := NB377_383.out; have hcz64_0 : w57.cell? ⟨gb383, 0, none⟩ = some (.slice none 0 0) := (blk_cell BK383.out 0).trans rfl; have hcz64_1 : w57.cell? ⟨gb383, 1, none⟩ = some (.int .i64 0) := (blk_cell BK383.out 1).trans rfl; have hfz64_0 := blk_frozen BK383.out 0; have hfz64_1 := blk_frozen BK383.out 1; have hcz65_0 : w57.cell? ⟨gb360, 0, none⟩ = some (.slice A0_0 l0_0.length c0_0) := (blk_cell BK360.out 0).trans rfl; have hcz65_1 : w57.cell? ⟨gb360, 1, none⟩ = some (.int .i64 a0_1) := (blk_cell BK360.out 1).trans rfl; have hfz65_0 := blk_frozen BK360.out 0; have hfz65_1 := blk_frozen BK360.out 1) | ((with_reducible refine gate_callee (f := 22) rfl ?_); refine goL_ (some 52) Try.func22 #[.agg #[.slice A0_0 l0_0.length c0_0, .int .i64 a0_1]] ?_; (with_reducible refine (windroseref17_May.calls _ _ l0_0 a0_1 true _ ?side1 ?side2 A29.out).mono ?_); (case side1 => exact Kd.C_below HR0_0.out bl_); (case side2 => exact HC0_0.out); rintro e w66 ⟨rfl, hb⟩; refine ⟨_, rfl, ?_⟩; have n_ := pk10 (Kd.R_below (rt_ ((Kd.R_mono (Kd.R_far (p := ⟨gb383, 1, none⟩) (Kd.R_far (p := ⟨gb383, 0, none⟩) (Kd.R_types HO368.out BK383.out (by decide)) (fun _ hk => hk.2) (.slice Ao58 t378.length co58)) (fun _ hk => hk.2) (.int .i64 t381)) (fun _ h_ => h_.1)))) hb) (Kd.R_below (rt_ ((Kd.R_mono (Kd.R_far (p := ⟨gb383, 1, none⟩) (Kd.R_far (p := ⟨gb383, 0, none⟩) (Kd.R_types HO374.out BK383.out (by decide)) (fun _ hk => hk.2) (.slice Ao58 t378.length co58)) (fun _ hk => hk.2) (.int .i64 t381)) (fun _ h_ => h_.1)))) hb) (Kd.R_below (rt_ ((Kd.R_mono (Kd.R_far (p := ⟨gb383, 1, none⟩) (Kd.R_far (p := ⟨gb383, 0, none⟩) (Kd.R_types HO380.out BK383.out (by decide)) (fun _ hk => hk.2) (.slice Ao58 t378.length co58)) (fun _ hk => hk.2) (.int .i64 t381)) (fun _ h_ => h_.1)))) hb) (blk_below (g := gb360) (o := .cells #[.slice A0_0 l0_0.length c0_0, .int .i64 a0_1] 25 (0, 0)) (by (with_reducible repeat (first | refine blk_drewN ?_ _ | refine blk_drew ?_ | refine blk_alloc ?_ _)); refine blk_far ?_ NB360_383.out _; (with_reducible repeat (first | refine blk_drewN ?_ _ | refine blk_drew ?_ | refine blk_alloc ?_ _)); refine blk_far ?_ NB360_383.out _; exact (bo_ BK360)) hb) (blk_below (g := gb361) (o := .cells #[.slice A1_0 l1_0.length c1_0, .int .i64 a1_1] 25 (0, 0)) (by (with_reducible repeat (first | refine blk_drewN ?_ _ | refine blk_drew ?_ | refine blk_alloc ?_ _)); refine blk_far ?_ NB361_383.out _; (with_reducible repeat (first | refine blk_drewN ?_ _ | refine blk_drew ?_ | refine blk_alloc ?_ _)); refine blk_far ?_ NB361_383.out _; exact (bo_ BK361)) hb) (blk_below (g := gb362) (o := .cells #[.int .u64 a2_0, .int .u64 a2_1] 54 (0, 0)) (by (with_reducible repeat (first | refine blk_drewN ?_ _ | refine blk_drew ?_ | refine blk_alloc ?_ _)); refine blk_far ?_ NB362_383.out _; (with_reducible repeat (first | refine blk_drewN ?_ _ | refine blk_drew ?_ | refine blk_alloc ?_ _)); refine blk_far ?_ NB362_383.out _; exact (bo_ BK362)) hb) (blk_below (g := gb371) (o := .cells #[.slice Ao39 t366.length co39, .int .i64 t369] 25 (0, 0)) (by (with_reducible repeat (first | refine blk_drewN ?_ _ | refine blk_drew ?_ | refine blk_alloc ?_ _)); refine blk_far ?_ NB371_383.out _; (with_reducible repeat (first | refine blk_drewN ?_ _ | refine blk_drew ?_ | refine blk_alloc ?_ _)); refine blk_far ?_ NB371_383.out _; exact (bo_ BK371)) hb) (blk_below (g := gb377) (o := .cells #[.slice Ao47 t372.length co47, .int .i64 t375] 25 (0, 0)) (by (with_reducible repeat (first | refine blk_drewN ?_ _ | refine blk_drew ?_ | refine blk_alloc ?_ _)); refine blk_far ?_ NB377_383.out _; (with_reducible repeat (first | refine blk_drewN ?_ _ | refine blk_drew ?_ | refine blk_alloc ?_ _)); refine blk_far ?_ NB377_383.out _; exact (bo_ BK377)) hb) (blk_below (g := gb383) (o := .cells #[.slice Ao58 t378.length co58, .int .i64 t381] 25 (0, 0)) (by (with_reducible repeat (first | refine blk_drewN ?_ _ | refine blk_drew ?_ | refine blk_alloc ?_ _)); refine blk_put (cs := #[.slice Ao58 t378.length co58, .int .i64 0]) ?_ 1 _ rfl; (with_reducible repeat (first | refine blk_drewN ?_ _ | refine blk_drew ?_ | refine blk_alloc ?_ _)); refine blk_put (cs := #[.slice none 0 0, .int .i64 0]) ?_ 0 _ rfl; exact (bo_ BK383)) hb) (below_step bl_ hb); clear HO368 HO374 HO380 BK360 BK361 BK362 BK371 BK377 BK383 HB; obtain ⟨HO368, HO374, HO380, BK360, BK361, BK362, BK371, BK377, BK383, HB⟩ := n_; (try clear hb); have hcz67_0 : w66.cell? ⟨gb360, 0, none⟩ = some (.slice A0_0 l0_0.length c0_0) := (blk_cell BK360.out 0).trans rfl; have hcz67_1 : w66.cell? ⟨gb360, 1, none⟩ = some (.int .i64 a0_1) := (blk_cell BK360.out 1).trans rfl; have hfz67_0 := blk_frozen BK360.out 0; have hfz67_1 := blk_frozen BK360.out 1) | ((with_reducible refine gate_callee (f := 23) rfl ?_); refine goL_ (some 71) Try.func23 #[.agg #[.slice A0_0 l0_0.length c0_0, .int .i64 a0_1]] ?_; (with_reducible refine (windroseref17_List.calls kj3 _ _ l0_0 a0_1 t389 _ ?side1 ?side2 A31.out).mono ?_); (case side1 => exact cb_ HR0_0); (case side2 => exact HC0_0.out); rintro e w68 ⟨v390, rfl, ho0, hb⟩; refine ⟨_, rfl, ?_⟩; have n_ := pk11 (Kd.R_below (ro_ HO368) hb) (Kd.R_below (ro_ HO374) hb) (Kd.R_below (ro_ HO380) hb) (Kd.R_lower ho0 (below_size bl_)) (blk_below (bo_ BK360) hb) (blk_below (bo_ BK361) hb) (blk_below (bo_ BK362) hb) (blk_below (bo_ BK371) hb) (blk_below (bo_ BK377) hb) (blk_below (bo_ BK383) hb) (below_step bl_ hb); clear HO368 HO374 HO380 BK360 BK361 BK362 BK371 BK377 BK383 HB; obtain ⟨HO368, HO374, HO380, HO391, BK360, BK361, BK362, BK371, BK377, BK383, HB⟩ := n_; (try clear hb ho0)) | ((with_reducible refine gate_callee (f := 32) rfl ?_); refine goL_ (some 74) Try.func32 #[.int .i64 (wrap64 (a2_0))] ?_; (with_reducible refine (windroseref17_Coded.calls kj3 (wrap64 (a2_0)) t392 _ A32.out).mono ?_); rintro e w69 ⟨v393, rfl, ho0, hb⟩; refine ⟨_, rfl, ?_⟩; have n_ := pk12 (Kd.R_below (ro_ HO368) hb) (Kd.R_below (ro_ HO374) hb) (Kd.R_below (ro_ HO380) hb) (Kd.R_elder' (ro_ HO391) (Kd.R_base ho0) hb) (Kd.R_lower (Kd.R_new' ho0 (Kd.R_lt (ro_ HO391))) (below_size bl_)) (blk_below (bo_ BK360) hb) (blk_below (bo_ BK361) hb) (blk_below (bo_ BK362) hb) (blk_below (bo_ BK371) hb) (blk_below (bo_ BK377) hb) (blk_below (bo_ BK383) hb) (below_step bl_ hb); clear HO368 HO374 HO380 HO391 BK360 BK361 BK362 BK371 BK377 BK383 HB; obtain ⟨HO368, HO374, HO380, HO391, HO394, BK360, BK361, BK362, BK371, BK377, BK383, HB⟩ := n_; (try clear hb ho0)))
          (try simp only [ap_, sb_, s0_, s1_])
          go_cut [100] (fun v100 wc => ∃ (kq : Nat) (x100_32 : Bool), v100 = .bool x100_32 ∧ Aside0 (windroselaw17_BitsPuts.j1 kq a2_0 (wrap64 (a2_1)) t370 t382 t389 x100_32 l1_0 a1_1 t366 t369 t378 t381 = some r) ∧ Aside0 (kq ≤ kj3) ∧ Aside0 (Kd.R Kd.bool 4 wc w.heap.size (fun _ => True) v390 t389) ∧ Aside0 (Kd.R (Kd.int .u8) 5 wc w.heap.size (fun k_ => some k_ ≠ ((.slice Ao47 t372.length co47) : Value).ownBlock ∧ some k_ ≠ ((.slice Ao58 t378.length co58) : Value).ownBlock) (.slice Ao39 t366.length co39) t366) ∧ Aside0 (Kd.R (Kd.int .u8) 5 wc w.heap.size (fun k_ => some k_ ≠ ((.slice Ao39 t366.length co39) : Value).ownBlock ∧ some k_ ≠ ((.slice Ao58 t378.length co58) : Value).ownBlock) (.slice Ao47 t372.length co47) t372) ∧ Aside0 (Kd.R (Kd.int .u8) 5 wc w.heap.size (fun k_ => some k_ ≠ ((.slice Ao39 t366.length co39) : Value).ownBlock ∧ some k_ ≠ ((.slice Ao47 t372.length co47) : Value).ownBlock) (.slice Ao58 t378.length co58) t378) ∧ Aside0 (wc.heap[gb360]? = some (.cells #[(.slice A0_0 l0_0.length c0_0), .int .i64 a0_1] 25 (0, 0))) ∧ Aside0 (wc.heap[gb361]? = some (.cells #[(.slice A1_0 l1_0.length c1_0), .int .i64 a1_1] 25 (0, 0))) ∧ Aside0 (wc.heap[gb362]? = some (.cells #[.int .u64 a2_0, .int .u64 a2_1] 54 (0, 0))) ∧ Aside0 (wc.heap[gb371]? = some (.cells #[(.slice Ao39 t366.length co39), .int .i64 t369] 25 (0, 0))) ∧ Aside0 (wc.heap[gb377]? = some (.cells #[(.slice Ao47 t372.length co47), .int .i64 t375] 25 (0, 0))) ∧ Aside0 (wc.heap[gb383]? = some (.cells #[(.slice Ao58 t378.length co58), .int .i64 t381] 25 (0, 0))) ∧ Aside0 (Below w.heap.size w wc))
          case first =>
            have H := HC33.out
            clear HC33
            obtain ⟨y395, hy395⟩ : ∃ y_ : List Bool, y_ = (([] : List Bool)) := ⟨_, rfl⟩
            replace H : (if y395.length + t389.length < 140737488355328 then ((some (y395 ++ t389 : List Bool)).bind fun y398 => (if y398.length + t392.length < 140737488355328 then ((windroselaw17_told.f kj3 t372 t375 t376 (y398 ++ t392) 0).bind fun t404 => (if t404 = true then ((bits_Class.f kj3 (wrap64 (a2_0))).bind fun t405 => ((windroseref17_Class.f (wrap64 (a2_0))).bind fun t406 => (if t405 = t406 then ((bits_Size.f kj3 (wrap64 (a2_0))).bind fun t407 => (windroselaw17_BitsPuts.j1 kj3 a2_0 (wrap64 (a2_1)) t370 t382 t389 (t407 != (t392.length : Int)) l1_0 a1_1 t366 t369 t378 t381)) else (none)))) else (none))) else (none))) else (none)) = some r := by first | (rw [hy395]; with_reducible exact H) | (have H2_ := (Option.bind_some _ _).symm.trans H; rw [hy395]; with_reducible exact H2_) | (have H2_ := (Option.bind_some _ _).symm.trans H; with_reducible exact H2_) | with_reducible exact H | (rw [hy395]; exact H) | exact H
            have Ny395 := Aside0.mk hy395
            clear hy395
            by_cases c70 : y395.length + t389.length < 140737488355328
            rotate_left
            · rw [if_neg c70] at H
              exact absurd H (by simp)
            rw [if_pos c70] at H
            have LMc70 := Aside0.mk c70
            clear c70
            obtain ⟨y398, hy398⟩ : ∃ y_ : List Bool, y_ = (y395 ++ t389) := ⟨_, rfl⟩
            replace H : (if y398.length + t392.length < 140737488355328 then ((windroselaw17_told.f kj3 t372 t375 t376 (y398 ++ t392) 0).bind fun t404 => (if t404 = true then ((bits_Class.f kj3 (wrap64 (a2_0))).bind fun t405 => ((windroseref17_Class.f (wrap64 (a2_0))).bind fun t406 => (if t405 = t406 then ((bits_Size.f kj3 (wrap64 (a2_0))).bind fun t407 => (windroselaw17_BitsPuts.j1 kj3 a2_0 (wrap64 (a2_1)) t370 t382 t389 (t407 != (t392.length : Int)) l1_0 a1_1 t366 t369 t378 t381)) else (none)))) else (none))) else (none)) = some r := by first | (rw [hy398]; with_reducible exact H) | (have H2_ := (Option.bind_some _ _).symm.trans H; rw [hy398]; with_reducible exact H2_) | (have H2_ := (Option.bind_some _ _).symm.trans H; with_reducible exact H2_) | with_reducible exact H | (rw [hy398]; exact H) | exact H
            have Ny398 := Aside0.mk hy398
            clear hy398
            by_cases c71 : y398.length + t392.length < 140737488355328
            rotate_left
            · rw [if_neg c71] at H
              exact absurd H (by simp)
            rw [if_pos c71] at H
            have LMc71 := Aside0.mk c71
            clear c71
            obtain ⟨y401, hy401⟩ : ∃ y_ : List Bool, y_ = (y398 ++ t392) := ⟨_, rfl⟩
            replace H : ((windroselaw17_told.f kj3 t372 t375 t376 y401 0).bind fun t404 => (if t404 = true then ((bits_Class.f kj3 (wrap64 (a2_0))).bind fun t405 => ((windroseref17_Class.f (wrap64 (a2_0))).bind fun t406 => (if t405 = t406 then ((bits_Size.f kj3 (wrap64 (a2_0))).bind fun t407 => (windroselaw17_BitsPuts.j1 kj3 a2_0 (wrap64 (a2_1)) t370 t382 t389 (t407 != (t392.length : Int)) l1_0 a1_1 t366 t369 t378 t381)) else (none)))) else (none))) = some r := by first | (rw [hy401]; with_reducible exact H) | (have H2_ := (Option.bind_some _ _).symm.trans H; rw [hy401]; with_reducible exact H2_) | (have H2_ := (Option.bind_some _ _).symm.trans H; with_reducible exact H2_) | with_reducible exact H | (rw [hy401]; exact H) | exact H
            have Ny401 := Aside0.mk hy401
            clear hy401
            replace H := bindA H
            obtain ⟨t404, A72, H⟩ := H
            try dsimp only at H
            by_cases c73 : t404 = true
            rotate_left
            · replace c73 := Bool.eq_false_iff.mpr c73
              subst c73
              have H1 : (none) = some r := by rw [if_neg (show ¬ (false = true) by decide)] at H; exact H
              exact absurd H1 (by simp)
            subst c73
            have H1 : ((bits_Class.f kj3 (wrap64 (a2_0))).bind fun t405 => ((windroseref17_Class.f (wrap64 (a2_0))).bind fun t406 => (if t405 = t406 then ((bits_Size.f kj3 (wrap64 (a2_0))).bind fun t407 => (windroselaw17_BitsPuts.j1 kj3 a2_0 (wrap64 (a2_1)) t370 t382 t389 (t407 != (t392.length : Int)) l1_0 a1_1 t366 t369 t378 t381)) else (none)))) = some r := by rw [if_pos rfl] at H; exact H
            clear H
            have H := H1
            clear H1
            replace H := bindA H
            obtain ⟨t405, A74, H⟩ := H
            try dsimp only at H
            replace H := bindA H
            obtain ⟨t406, A75, H⟩ := H
            try dsimp only at H
            replace H := deq H
            rcases H with ⟨c76b0, c76b1, H⟩ | ⟨c76b0, c76b1, H⟩
            rotate_left
            · exact absurd H (by simp)
            (first | rw [c76b0] | (simp only [i64_w, i32_w]; rw [c76b0]) | skip)
            replace H := bindA H
            obtain ⟨t407, A77, H⟩ := H
            try dsimp only at H
            have H' := Aside0.mk H
            clear H
            try go_wp2
            (try (rw [drewN_self w69]; generalize hq_ : World.drewN w69 _ = w69; have n0_ : Aside0 (Kd.R (Kd.int .u8) 5 w69 w.heap.size (fun k_ => some k_ ≠ (.slice Ao47 t372.length co47 : Value).ownBlock ∧ some k_ ≠ (.slice Ao58 t378.length co58 : Value).ownBlock) (.slice Ao39 t366.length co39) t366) := ⟨by rw [← hq_]; exact (rt_ (Kd.R_mono HO368.out (fun _ hk => ⟨hk.1.2, hk.2⟩)))⟩; have n1_ : Aside0 (Kd.R (Kd.int .u8) 5 w69 w.heap.size (fun k_ => some k_ ≠ (.slice Ao39 t366.length co39 : Value).ownBlock ∧ some k_ ≠ (.slice Ao58 t378.length co58 : Value).ownBlock) (.slice Ao47 t372.length co47) t372) := ⟨by rw [← hq_]; exact (rt_ (Kd.R_mono HO374.out (fun _ hk => ⟨hk.1.2, hk.2⟩)))⟩; have n2_ : Aside0 (Kd.R (Kd.int .u8) 5 w69 w.heap.size (fun k_ => some k_ ≠ (.slice Ao39 t366.length co39 : Value).ownBlock ∧ some k_ ≠ (.slice Ao47 t372.length co47 : Value).ownBlock) (.slice Ao58 t378.length co58) t378) := ⟨by rw [← hq_]; exact (rt_ (Kd.R_mono HO380.out (fun _ hk => ⟨hk.1.2, hk.2⟩)))⟩; have n3_ : Aside0 (Kd.R Kd.bool 4 w69 w.heap.size (fun k_ => some k_ ≠ (v393 : Value).ownBlock) v390 t389) := ⟨by rw [← hq_]; exact (rt_ (Kd.R_mono HO391.out (fun _ hk => hk.2)))⟩; have n4_ : Aside0 (Kd.R Kd.bool 4 w69 w.heap.size (fun k_ => some k_ ≠ (v390 : Value).ownBlock) v393 t392) := ⟨by rw [← hq_]; exact (rt_ (Kd.R_mono HO394.out (fun _ hk => hk.2)))⟩; have n5_ : Aside0 (w69.heap[gb360]? = some (.cells #[.slice A0_0 l0_0.length c0_0, .int .i64 a0_1] 25 (0, 0))) := ⟨by rw [← hq_]; exact (bo_ BK360)⟩; have n6_ : Aside0 (w69.heap[gb361]? = some (.cells #[.slice A1_0 l1_0.length c1_0, .int .i64 a1_1] 25 (0, 0))) := ⟨by rw [← hq_]; exact (bo_ BK361)⟩; have n7_ : Aside0 (w69.heap[gb362]? = some (.cells #[.int .u64 a2_0, .int .u64 a2_1] 54 (0, 0))) := ⟨by rw [← hq_]; exact (bo_ BK362)⟩; have n8_ : Aside0 (w69.heap[gb371]? = some (.cells #[.slice Ao39 t366.length co39, .int .i64 t369] 25 (0, 0))) := ⟨by rw [← hq_]; exact (bo_ BK371)⟩; have n9_ : Aside0 (w69.heap[gb377]? = some (.cells #[.slice Ao47 t372.length co47, .int .i64 t375] 25 (0, 0))) := ⟨by rw [← hq_]; exact (bo_ BK377)⟩; have n10_ : Aside0 (w69.heap[gb383]? = some (.cells #[.slice Ao58 t378.length co58, .int .i64 t381] 25 (0, 0))) := ⟨by rw [← hq_]; exact (bo_ BK383)⟩; have n11_ : Aside0 (Below w.heap.size w w69) := ⟨by rw [← hq_]; exact bl_⟩; clear HO368 HO374 HO380 HO391 HO394 BK360 BK361 BK362 BK371 BK377 BK383 HB hq_; have HO368 := n0_; have HO374 := n1_; have HO380 := n2_; have HO391 := n3_; have HO394 := n4_; have BK360 := n5_; have BK361 := n6_; have BK362 := n7_; have BK371 := n8_; have BK377 := n9_; have BK383 := n10_; have HB := n11_; clear n0_ n1_ n2_ n3_ n4_ n5_ n6_ n7_ n8_ n9_ n10_ n11_))
            have n_ := pk12 (Kd.R_drew HO368.out) (Kd.R_drew HO374.out) (Kd.R_drew HO380.out) (Kd.R_drew HO391.out) (Kd.R_drew HO394.out) (blk_drew BK360.out) (blk_drew BK361.out) (blk_drew BK362.out) (blk_drew BK371.out) (blk_drew BK377.out) (blk_drew BK383.out) (below_drew1 HB.out)
            clear HO368 HO374 HO380 HO391 HO394 BK360 BK361 BK362 BK371 BK377 BK383 HB
            obtain ⟨HO368, HO374, HO380, HO391, HO394, BK360, BK361, BK362, BK371, BK377, BK383, HB⟩ := n_
            refine start_ (n := 26) (S := fun w' => w'.cell? ⟨gb377, 0, none⟩ = some (.slice Ao47 t372.length co47) ∧ w'.cell? ⟨gb377, 1, none⟩ = some (.int .i64 t375)) (ds := []) #[false, false, false, false, false, false, false, false, false, false, false, false, false, false, false, false, false, false, false, false, false, false, false, false, false, false] (by kernel_rfl) rfl rfl ⟨(blk_cell BK377.out 0).trans rfl, (blk_cell BK377.out 1).trans rfl⟩ (fun hHeld => ?_); refine with_tabW windroselaw17_BitsPuts.tab11 windroselaw17_BitsPuts.bits11 (fun HT_ HW_ => ?_)
            generalize w69.drew = w7000 at HO368 HO374 HO380 HO391 HO394 BK360 BK361 BK362 BK371 BK377 BK383 HB hHeld ⊢
            refine pure_ (i := 1) (N := some 76) (v := ?_) (a' := ?_) #[false, true, false, false, false, false, false, false, false, false, false, false, false, false, false, false, false, false, false, false, false, false, false, false, false, false] rfl rfl (any_of HT_.out (by kernel_rfl)) (fun _ _ _ h => h) (Or.inl ⟨by rfl, ?_⟩) ?_ ?_
            rotate_left
            · intro w'
              go_simp
              with_reducible rfl
            rotate_left
            · simp only [ap_, sb_, s0_, s1_, i64_w, i32_w]
              rfl
            refine pure_ (i := 3) (N := some 78) (v := ?_) (a' := ?_) #[false, true, false, true, false, false, false, false, false, false, false, false, false, false, false, false, false, false, false, false, false, false, false, false, false, false] rfl rfl (any_of HT_.out (by kernel_rfl)) (fun _ _ _ h => h) (Or.inl ⟨by rfl, ?_⟩) ?_ ?_
            rotate_left
            · intro w'
              go_simp
              with_reducible rfl
            rotate_left
            · simp only [ap_, sb_, s0_, s1_, i64_w, i32_w]
              rfl
            refine pure_ (i := 5) (N := some 80) (v := ?_) (a' := ?_) #[false, true, false, true, false, true, false, false, false, false, false, false, false, false, false, false, false, false, false, false, false, false, false, false, false, false] rfl rfl (any_of HT_.out (by kernel_rfl)) (fun _ _ _ h => h) (Or.inl ⟨by rfl, ?_⟩) ?_ ?_
            rotate_left
            · intro w'
              go_simp
              with_reducible rfl
            rotate_left
            · simp only [ap_, sb_, s0_, s1_, i64_w, i32_w]
              rfl
            refine take_ (i := 0) (N := some 75) (v := ?_) (a' := ?_) #[true, true, false, true, false, true, false, false, false, false, false, false, false, false, false, false, false, false, false, false, false, false, false, false, false, false] rfl rfl (take_ofW HT_.out HW_.out (by kernel_rfl)) (fun _ _ _ h => h) (Or.inl ⟨by rfl, ?_⟩) hHeld ?_ ?_
            rotate_left
            · rintro w' ⟨s0, s1⟩
              go_simp
              with_reducible rfl
            rotate_left
            · simp only [ap_, sb_, s0_, s1_, i64_w, i32_w]
              rfl
            refine one_ (i := 2) (N := some 77) #[true, true, true, true, false, true, false, false, false, false, false, false, false, false, false, false, false, false, false, false, false, false, false, false, false, false] rfl rfl (one_of HT_.out (by kernel_rfl)) (by decide) (fun K hK => ?_)
            refine Kd.R_lit_step Kd.bool _ 4 ?hg (N := 77) ?hd (xs := ([] : List Bool)) (inner := []) (ok := fun _ => True) (okp := fun _ => True) ?hr ?hp (fun _ hk => hk) trivial (Below.refl _ _) (Nat.le_refl _) (by simp) ?_; (case hd => rfl); (case hg => rfl); (case hr => first | (go_simp; done) | (go_simp; rfl)); (case hp => exact (Reps.none _ _))
            intro v7000 w7001 ho7000 hb hg_ hnew_
            clear hg_ hnew_
            (first | rw [← Ny395.out] at ho7000 | (simp only [Int.reduceToNat] at ho7000; rw [← Ny395.out] at ho7000))
            have n0_ := Aside0.mk (Kd.R_below (ro_ HO368) hb)
            have n1_ := Aside0.mk (Kd.R_below (ro_ HO374) hb)
            have n2_ := Aside0.mk (Kd.R_below (ro_ HO380) hb)
            have n3_ := Aside0.mk (Kd.R_elder' (ro_ HO391) (Kd.R_base ho7000) hb)
            have n4_ := Aside0.mk (Kd.R_elder' (ro_ HO394) (Kd.R_base ho7000) hb)
            have n5_ := Aside0.mk (Kd.R_lower (Kd.R_new' (Kd.R_new' ho7000 (Kd.R_lt (ro_ HO391))) (Kd.R_lt (ro_ HO394))) (below_size bl_))
            have n6_ := Aside0.mk (blk_below (bo_ BK360) hb)
            have n7_ := Aside0.mk (blk_below (bo_ BK361) hb)
            have n8_ := Aside0.mk (blk_below (bo_ BK362) hb)
            have n9_ := Aside0.mk (blk_below (bo_ BK371) hb)
            have n10_ := Aside0.mk (blk_below (bo_ BK377) hb)
            have n11_ := Aside0.mk (blk_below (bo_ BK383) hb)
            have n12_ := Aside0.mk (below_step bl_ hb)
            clear HO368
            clear HO374
            clear HO380
            clear HO391
            clear HO394
            clear BK360
            clear BK361
            clear BK362
            clear BK371
            clear BK377
            clear BK383
            clear HB
            have HO368 := n0_
            have HO374 := n1_
            have HO380 := n2_
            have HO391 := n3_
            have HO394 := n4_
            have HO7000 := n5_
            have BK360 := n6_
            have BK361 := n7_
            have BK362 := n8_
            have BK371 := n9_
            have BK377 := n10_
            have BK383 := n11_
            have HB := n12_
            clear n0_ n1_ n2_ n3_ n4_ n5_ n6_ n7_ n8_ n9_ n10_ n11_ n12_
            clear hb ho7000
            obtain ⟨Ao7000, co7000, eo7000⟩ := Kd.R_slice HO391.out
            (first | subst eo7000 | (injection eo7000 with f1_ f2_ f3_; have f7000_ := f1_.symm; have f7001_ := f3_.symm; clear f1_ f2_ f3_; subst f7000_; subst f7001_))
            refine hK.out _ _ ⟨(blk_cell BK377.out 0).trans rfl, (blk_cell BK377.out 1).trans rfl⟩ (fun hHeld => ?_)
            clear hK K
            refine norm_ (a' := ?_) ?_ ?_
            rotate_left
            · show Act.put _ (some 77) _ = _
              simp only [ap_, sb_, s0_, s1_, i64_w, i32_w]
              rfl
            refine one_ (i := 4) (N := some 79) #[true, true, true, true, true, true, false, false, false, false, false, false, false, false, false, false, false, false, false, false, false, false, false, false, false, false] rfl rfl (one_of HT_.out (by kernel_rfl)) (by decide) (fun K hK => ?_)
            refine Kd.R_append_rows_step Kd.bool (w0 := w) w.heap.size (by rfl) (.tmp 77) (.tmp 78) 39 4 (.bool false) 1 rfl Try.underlying39 info4 rfl (by decide) (by omega) v7000 y395 t389 _ _ _ (fun k_ => some k_ ≠ (.slice Ao7000 t389.length co7000 : Value).ownBlock ∧ some k_ ≠ (v393 : Value).ownBlock) (fun _ => False) rfl rfl ?aO ?aR (fun _ _ h => h) (fun _ h => h.elim) ?aF ?aB ?aS ?aL ?_
            (case aR => exact cr_ HO391)
            (case aB => exact bl_)
            (case aF => exact (fun k_ hk => ⟨Kd.fresh' (Kd.R_lt (ro_ HO391)) k_ hk, Kd.fresh' (Kd.R_lt (ro_ HO394)) k_ hk⟩))
            (case aO => exact (rt_ (Kd.R_mono HO7000.out (fun _ hk => ⟨hk.1.2, hk.2⟩))))
            (case aS => exact (below_size bl_))
            (case aL => have := LMc70.out; omega)
            intro v7001 w7002 ho hb hg hat
            rw [← Ny398.out] at ho
            have n0_ := Aside0.mk (blk_grown (bo_ BK360) hg (Kd.R_ne HO7000.out BK360.out (by decide)))
            have n1_ := Aside0.mk (blk_grown (bo_ BK361) hg (Kd.R_ne HO7000.out BK361.out (by decide)))
            have n2_ := Aside0.mk (blk_grown (bo_ BK362) hg (Kd.R_ne HO7000.out BK362.out (by decide)))
            have n3_ := Aside0.mk (Kd.R_over' (ro_ HO368) (Kd.R_typed (ro_ HO7000)) (by decide) hg)
            have n4_ := Aside0.mk (blk_grown (bo_ BK371) hg (Kd.R_ne HO7000.out BK371.out (by decide)))
            have n5_ := Aside0.mk (Kd.R_over' (ro_ HO374) (Kd.R_typed (ro_ HO7000)) (by decide) hg)
            have n6_ := Aside0.mk (blk_grown (bo_ BK377) hg (Kd.R_ne HO7000.out BK377.out (by decide)))
            have n7_ := Aside0.mk (Kd.R_over' (ro_ HO380) (Kd.R_typed (ro_ HO7000)) (by decide) hg)
            have n8_ := Aside0.mk (blk_grown (bo_ BK383) hg (Kd.R_ne HO7000.out BK383.out (by decide)))
            have n9_ := Aside0.mk (Kd.R_after (ok := (fun k_ => some k_ ≠ (v393 : Value).ownBlock)) (rt_ (Kd.R_mono HO391.out (fun _ hk => ⟨hk.1.2, hk.2⟩))) hg hat)
            have n10_ := Aside0.mk (Kd.R_after (ok := (fun k_ => some k_ ≠ (.slice Ao7000 t389.length co7000 : Value).ownBlock)) (rt_ (Kd.R_mono HO394.out (fun _ hk => ⟨hk.1.2, hk.2⟩))) hg hat)
            have n11_ := Aside0.mk (hb)
            have n12_ := Aside0.mk (ho)
            clear BK360
            clear BK361
            clear BK362
            clear HO368
            clear BK371
            clear HO374
            clear BK377
            clear HO380
            clear BK383
            clear HO391
            clear HO394
            clear HB
            clear HO7000
            have BK360 := n0_
            have BK361 := n1_
            have BK362 := n2_
            have HO368 := n3_
            have BK371 := n4_
            have HO374 := n5_
            have BK377 := n6_
            have HO380 := n7_
            have BK383 := n8_
            have HO391 := n9_
            have HO394 := n10_
            have HB := n11_
            have HO7001 := n12_
            clear n0_ n1_ n2_ n3_ n4_ n5_ n6_ n7_ n8_ n9_ n10_ n11_ n12_
            clear ho hb hg hat
            obtain ⟨Ao7001, co7001, eo7001⟩ := Kd.R_slice HO394.out
            (first | subst eo7001 | (injection eo7001 with f1_ f2_ f3_; have f7000_ := f1_.symm; have f7001_ := f3_.symm; clear f1_ f2_ f3_; subst f7000_; subst f7001_))
            refine hK.out _ _ ⟨(blk_cell BK377.out 0).trans rfl, (blk_cell BK377.out 1).trans rfl⟩ (fun hHeld => ?_)
            clear hK K
            refine norm_ (a' := ?_) ?_ ?_
            rotate_left
            · show Act.put _ (some 79) _ = _
              simp only [ap_, sb_, s0_, s1_, i64_w, i32_w]
              rfl
            refine one_ (i := 6) (N := some 81) #[true, true, true, true, true, true, true, false, false, false, false, false, false, false, false, false, false, false, false, false, false, false, false, false, false, false] rfl rfl (one_of HT_.out (by kernel_rfl)) (by decide) (fun K hK => ?_)
            refine Kd.R_append_rows_step Kd.bool (w0 := w) w.heap.size (by rfl) (.tmp 79) (.tmp 80) 39 4 (.bool false) 1 rfl Try.underlying39 info4 rfl (by decide) (by omega) v7001 y398 t392 _ _ _ (fun k_ => some k_ ≠ (.slice Ao7000 t389.length co7000 : Value).ownBlock ∧ some k_ ≠ (.slice Ao7001 t392.length co7001 : Value).ownBlock) (fun _ => False) rfl rfl ?aO ?aR (fun _ _ h => h) (fun _ h => h.elim) ?aF ?aB ?aS ?aL ?_
            (case aR => exact cr_ HO394)
            (case aB => exact bl_)
            (case aF => exact (fun k_ hk => ⟨Kd.fresh' (Kd.R_lt (ro_ HO391)) k_ hk, Kd.fresh' (Kd.R_lt (ro_ HO394)) k_ hk⟩))
            (case aO => exact (ro_ HO7001))
            (case aS => exact (below_size bl_))
            (case aL => have := LMc71.out; omega)
            intro v7002 w7003 ho hb hg hat
            rw [← Ny401.out] at ho
            have n0_ := Aside0.mk (blk_grown (bo_ BK360) hg (Kd.R_ne HO7001.out BK360.out (by decide)))
            have n1_ := Aside0.mk (blk_grown (bo_ BK361) hg (Kd.R_ne HO7001.out BK361.out (by decide)))
            have n2_ := Aside0.mk (blk_grown (bo_ BK362) hg (Kd.R_ne HO7001.out BK362.out (by decide)))
            have n3_ := Aside0.mk (Kd.R_over' (ro_ HO368) (Kd.R_typed (ro_ HO7001)) (by decide) hg)
            have n4_ := Aside0.mk (blk_grown (bo_ BK371) hg (Kd.R_ne HO7001.out BK371.out (by decide)))
            have n5_ := Aside0.mk (Kd.R_over' (ro_ HO374) (Kd.R_typed (ro_ HO7001)) (by decide) hg)
            have n6_ := Aside0.mk (blk_grown (bo_ BK377) hg (Kd.R_ne HO7001.out BK377.out (by decide)))
            have n7_ := Aside0.mk (Kd.R_over' (ro_ HO380) (Kd.R_typed (ro_ HO7001)) (by decide) hg)
            have n8_ := Aside0.mk (blk_grown (bo_ BK383) hg (Kd.R_ne HO7001.out BK383.out (by decide)))
            have n9_ := Aside0.mk (Kd.R_after (ok := (fun k_ => some k_ ≠ (.slice Ao7001 t392.length co7001 : Value).ownBlock)) (ro_ HO391) hg hat)
            have n10_ := Aside0.mk (Kd.R_after (ok := (fun k_ => some k_ ≠ (.slice Ao7000 t389.length co7000 : Value).ownBlock)) (ro_ HO394) hg hat)
            have n11_ := Aside0.mk (hb)
            have n12_ := Aside0.mk (ho)
            clear BK360
            clear BK361
            clear BK362
            clear HO368
            clear BK371
            clear HO374
            clear BK377
            clear HO380
            clear BK383
            clear HO391
            clear HO394
            clear HB
            clear HO7001
            have BK360 := n0_
            have BK361 := n1_
            have BK362 := n2_
            have HO368 := n3_
            have BK371 := n4_
            have HO374 := n5_
            have BK377 := n6_
            have HO380 := n7_
            have BK383 := n8_
            have HO391 := n9_
            have HO394 := n10_
            have HB := n11_
            have HO7002 := n12_
            clear n0_ n1_ n2_ n3_ n4_ n5_ n6_ n7_ n8_ n9_ n10_ n11_ n12_
            clear ho hb hg hat
            obtain ⟨Ao7002, co7002, eo7002⟩ := Kd.R_slice HO7002.out
            (first | subst eo7002 | (injection eo7002 with f1_ f2_ f3_; have f7000_ := f1_.symm; have f7001_ := f3_.symm; clear f1_ f2_ f3_; subst f7000_; subst f7001_))
            refine hK.out _ _ ⟨(blk_cell BK377.out 0).trans rfl, (blk_cell BK377.out 1).trans rfl⟩ (fun hHeld => ?_)
            clear hK K
            refine norm_ (a' := ?_) ?_ ?_
            rotate_left
            · show Act.put _ (some 81) _ = _
              simp only [ap_, sb_, s0_, s1_, i64_w, i32_w]
              rfl
            refine one_ (i := 7) (N := some 82) #[true, true, true, true, true, true, true, true, false, false, false, false, false, false, false, false, false, false, false, false, false, false, false, false, false, false] rfl rfl (one_of HT_.out (by kernel_rfl)) (by decide) (fun K hK => ?_)
            refine goes_ Try.func31 (by kernel_rfl) rfl #[.agg #[.slice Ao47 t372.length co47, .int .i64 t375], .int .i64 t376, .slice Ao7002 y401.length co7002, .int .i64 0] (by rfl) rfl rfl (by (try simp only [List.map_toArray, List.map_cons, List.map_nil]); first | done | rfl | (simp only [List.length_drop, List.length_take]; rfl)) ?_
            with_reducible refine (windroselaw17_told.calls kj3 _ _ t372 t375 t376 _ _ y401 0 true _ ?side1 ?side2 ?side3 ?side4 A72.out).mono ?_
            (case side1 => exact cr_ HO374)
            (case side2 => exact (Kd.R_reads' HO374.out).2.1)
            (case side3 => exact cr_ HO7002)
            (case side4 => exact (Kd.R_reads' HO7002.out).2.1)
            rintro e w7004 ⟨rfl, hb⟩
            refine ⟨_, rfl, ?_⟩
            have n0_ := Aside0.mk (Kd.R_below (ro_ HO368) hb)
            have n1_ := Aside0.mk (Kd.R_below (ro_ HO374) hb)
            have n2_ := Aside0.mk (Kd.R_below (ro_ HO380) hb)
            have n3_ := Aside0.mk (Kd.R_below (ro_ HO391) hb)
            have n4_ := Aside0.mk (Kd.R_below (ro_ HO394) hb)
            have n5_ := Aside0.mk (Kd.R_below (ro_ HO7002) hb)
            have n6_ := Aside0.mk (blk_below (bo_ BK360) hb)
            have n7_ := Aside0.mk (blk_below (bo_ BK361) hb)
            have n8_ := Aside0.mk (blk_below (bo_ BK362) hb)
            have n9_ := Aside0.mk (blk_below (bo_ BK371) hb)
            have n10_ := Aside0.mk (blk_below (bo_ BK377) hb)
            have n11_ := Aside0.mk (blk_below (bo_ BK383) hb)
            have n12_ := Aside0.mk (below_step bl_ hb)
            clear HO368
            clear HO374
            clear HO380
            clear HO391
            clear HO394
            clear HO7002
            clear BK360
            clear BK361
            clear BK362
            clear BK371
            clear BK377
            clear BK383
            clear HB
            have HO368 := n0_
            have HO374 := n1_
            have HO380 := n2_
            have HO391 := n3_
            have HO394 := n4_
            have HO7002 := n5_
            have BK360 := n6_
            have BK361 := n7_
            have BK362 := n8_
            have BK371 := n9_
            have BK377 := n10_
            have BK383 := n11_
            have HB := n12_
            clear n0_ n1_ n2_ n3_ n4_ n5_ n6_ n7_ n8_ n9_ n10_ n11_ n12_
            (try clear hb)
            (try clear hb2)
            (try clear hk)
            (try clear hi)
            refine hK.out _ _ ⟨(blk_cell BK377.out 0).trans rfl, (blk_cell BK377.out 1).trans rfl⟩ (fun hHeld => ?_)
            clear hK K
            refine norm_ (a' := ?_) ?_ ?_
            rotate_left
            · show Act.put _ (some 82) _ = _
              simp only [ap_, sb_, s0_, s1_, i64_w, i32_w]
              rfl
            refine pure_ (i := 8) (N := some 83) (v := ?_) (a' := ?_) #[true, true, true, true, true, true, true, true, true, false, false, false, false, false, false, false, false, false, false, false, false, false, false, false, false, false] rfl rfl (any_of HT_.out (by kernel_rfl)) (fun _ _ _ h => h) (Or.inl ⟨by rfl, ?_⟩) ?_ ?_
            rotate_left
            · intro w'
              go_simp
              with_reducible rfl
            rotate_left
            · simp only [ap_, sb_, s0_, s1_, i64_w, i32_w]
              rfl
            refine pure_ (i := 9) (N := some 84) (v := ?_) (a' := ?_) #[true, true, true, true, true, true, true, true, true, true, false, false, false, false, false, false, false, false, false, false, false, false, false, false, false, false] rfl rfl (any_of HT_.out (by kernel_rfl)) (fun _ _ _ h => h) (Or.inl ⟨by rfl, ?_⟩) ?_ ?_
            rotate_left
            · intro w'
              go_simp
              with_reducible rfl
            rotate_left
            · simp only [ap_, sb_, s0_, s1_, i64_w, i32_w]
              rfl
            refine pure_ (i := 10) (N := some 85) (v := ?_) (a' := ?_) #[true, true, true, true, true, true, true, true, true, true, true, false, false, false, false, false, false, false, false, false, false, false, false, false, false, false] rfl rfl (any_of HT_.out (by kernel_rfl)) (fun _ _ _ h => h) (Or.inl ⟨by rfl, ?_⟩) ?_ ?_
            rotate_left
            · intro w'
              go_simp
              with_reducible rfl
            rotate_left
            · simp only [ap_, sb_, s0_, s1_, i64_w, i32_w]
              rfl
            refine pure_ (i := 11) (N := some 86) (v := ?_) (a' := ?_) #[true, true, true, true, true, true, true, true, true, true, true, true, false, false, false, false, false, false, false, false, false, false, false, false, false, false] rfl rfl (any_of HT_.out (by kernel_rfl)) (fun _ _ _ h => h) (Or.inl ⟨by rfl, ?_⟩) ?_ ?_
            rotate_left
            · intro w'
              go_simp
              with_reducible rfl
            rotate_left
            · simp only [ap_, sb_, s0_, s1_, i64_w, i32_w]
              rfl
            refine pure_ (i := 13) (N := some 88) (v := ?_) (a' := ?_) #[true, true, true, true, true, true, true, true, true, true, true, true, false, true, false, false, false, false, false, false, false, false, false, false, false, false] rfl rfl (any_of HT_.out (by kernel_rfl)) (fun _ _ _ h => h) (Or.inl ⟨by rfl, ?_⟩) ?_ ?_
            rotate_left
            · intro w'
              go_simp
              with_reducible rfl
            rotate_left
            · simp only [ap_, sb_, s0_, s1_, i64_w, i32_w]
              rfl
            refine pure_ (i := 14) (N := some 89) (v := ?_) (a' := ?_) #[true, true, true, true, true, true, true, true, true, true, true, true, false, true, true, false, false, false, false, false, false, false, false, false, false, false] rfl rfl (any_of HT_.out (by kernel_rfl)) (fun _ _ _ h => h) (Or.inl ⟨by rfl, ?_⟩) ?_ ?_
            rotate_left
            · intro w'
              go_simp
              with_reducible rfl
            rotate_left
            · simp only [ap_, sb_, s0_, s1_, i64_w, i32_w]
              rfl
            refine one_ (i := 12) (N := some 87) #[true, true, true, true, true, true, true, true, true, true, true, true, true, true, true, false, false, false, false, false, false, false, false, false, false, false] rfl rfl (one_of HT_.out (by kernel_rfl)) (by decide) (fun K hK => ?_)
            refine goes_ Try.func33 (by kernel_rfl) rfl #[.int .i64 (wrap64 (a2_0))] (by rfl) rfl rfl (by (try simp only [List.map_toArray, List.map_cons, List.map_nil]); first | done | rfl | (simp only [List.length_drop, List.length_take]; rfl)) ?_
            with_reducible refine (bits_Class.calls kj3 (wrap64 (a2_0)) t405 _ A74.out).mono ?_
            rintro e w' ⟨rfl, ⟨nd, rfl⟩⟩
            refine ⟨_, rfl, ?_⟩
            refine hK.out _ _ ⟨(blk_cell BK377.out 0).trans rfl, (blk_cell BK377.out 1).trans rfl⟩ (fun hHeld => ?_)
            clear hK K
            refine norm_ (a' := ?_) ?_ ?_
            rotate_left
            · show Act.put _ (some 87) _ = _
              simp only [ap_, sb_, s0_, s1_, i64_w, i32_w]
              rfl
            refine one_ (i := 15) (N := some 90) #[true, true, true, true, true, true, true, true, true, true, true, true, true, true, true, true, false, false, false, false, false, false, false, false, false, false] rfl rfl (one_of HT_.out (by kernel_rfl)) (by decide) (fun K hK => ?_)
            refine goes_ Try.func34 (by kernel_rfl) rfl #[.int .i64 (wrap64 (a2_0))] (by rfl) rfl rfl (by (try simp only [List.map_toArray, List.map_cons, List.map_nil]); first | done | rfl | (simp only [List.length_drop, List.length_take]; rfl)) ?_
            with_reducible refine (windroseref17_Class.calls (wrap64 (a2_0)) t406 _ A75.out).mono ?_
            rintro e w' ⟨rfl, ⟨nd, rfl⟩⟩
            refine ⟨_, rfl, ?_⟩
            refine hK.out _ _ ⟨(blk_cell BK377.out 0).trans rfl, (blk_cell BK377.out 1).trans rfl⟩ (fun hHeld => ?_)
            clear hK K
            refine norm_ (a' := ?_) ?_ ?_
            rotate_left
            · show Act.put _ (some 90) _ = _
              simp only [ap_, sb_, s0_, s1_, i64_w, i32_w]
              rfl
            refine pure_ (i := 16) (N := some 91) (v := ?_) (a' := ?_) #[true, true, true, true, true, true, true, true, true, true, true, true, true, true, true, true, true, false, false, false, false, false, false, false, false, false] rfl rfl (any_of HT_.out (by kernel_rfl)) (fun _ _ _ h => h) (Or.inl ⟨by rfl, ?_⟩) ?_ ?_
            rotate_left
            · intro w'
              go_simp
              with_reducible rfl
            rotate_left
            · simp only [ap_, sb_, s0_, s1_, i64_w, i32_w]
              rfl
            refine pure_ (i := 17) (N := some 92) (v := ?_) (a' := ?_) #[true, true, true, true, true, true, true, true, true, true, true, true, true, true, true, true, true, true, false, false, false, false, false, false, false, false] rfl rfl (any_of HT_.out (by kernel_rfl)) (fun _ _ _ h => h) (Or.inl ⟨by rfl, ?_⟩) ?_ ?_
            rotate_left
            · intro w'
              go_simp
              with_reducible rfl
            rotate_left
            · simp only [ap_, sb_, s0_, s1_, i64_w, i32_w]
              rfl
            refine pure_ (i := 18) (N := some 93) (v := ?_) (a' := ?_) #[true, true, true, true, true, true, true, true, true, true, true, true, true, true, true, true, true, true, true, false, false, false, false, false, false, false] rfl rfl (any_of HT_.out (by kernel_rfl)) (fun _ _ _ h => h) (Or.inl ⟨by rfl, ?_⟩) ?_ ?_
            rotate_left
            · intro w'
              go_simp
              with_reducible rfl
            rotate_left
            · simp only [ap_, sb_, s0_, s1_, i64_w, i32_w]
              rfl
            refine pure_ (i := 19) (N := some 94) (v := ?_) (a' := ?_) #[true, true, true, true, true, true, true, true, true, true, true, true, true, true, true, true, true, true, true, true, false, false, false, false, false, false] rfl rfl (any_of HT_.out (by kernel_rfl)) (fun _ _ _ h => h) (Or.inl ⟨by rfl, ?_⟩) ?_ ?_
            rotate_left
            · intro w'
              go_simp
              with_reducible rfl
            rotate_left
            · simp only [ap_, sb_, s0_, s1_, i64_w, i32_w]
              rfl
            refine pure_ (i := 20) (N := some 95) (v := ?_) (a' := ?_) #[true, true, true, true, true, true, true, true, true, true, true, true, true, true, true, true, true, true, true, true, true, false, false, false, false, false] rfl rfl (any_of HT_.out (by kernel_rfl)) (fun _ _ _ h => h) (Or.inl ⟨by rfl, ?_⟩) ?_ ?_
            rotate_left
            · intro w'
              go_simp
              with_reducible rfl
            rotate_left
            · simp only [ap_, sb_, s0_, s1_, i64_w, i32_w]
              rfl
            refine pure_ (i := 22) (N := some 97) (v := ?_) (a' := ?_) #[true, true, true, true, true, true, true, true, true, true, true, true, true, true, true, true, true, true, true, true, true, false, true, false, false, false] rfl rfl (any_of HT_.out (by kernel_rfl)) (fun _ _ _ h => h) (Or.inl ⟨by rfl, ?_⟩) ?_ ?_
            rotate_left
            · intro w'
              go_simp
              with_reducible rfl
            rotate_left
            · simp only [ap_, sb_, s0_, s1_, i64_w, i32_w]
              rfl
            refine pure_ (i := 23) (N := some 98) (v := ?_) (a' := ?_) #[true, true, true, true, true, true, true, true, true, true, true, true, true, true, true, true, true, true, true, true, true, false, true, true, false, false] rfl rfl (any_of HT_.out (by kernel_rfl)) (fun _ _ _ h => h) (Or.inl ⟨by rfl, ?_⟩) ?_ ?_
            rotate_left
            · intro w'
              go_simp
              with_reducible rfl
            rotate_left
            · simp only [ap_, sb_, s0_, s1_, i64_w, i32_w]
              rfl
            refine one_ (i := 21) (N := some 96) #[true, true, true, true, true, true, true, true, true, true, true, true, true, true, true, true, true, true, true, true, true, true, true, true, false, false] rfl rfl (one_of HT_.out (by kernel_rfl)) (by decide) (fun K hK => ?_)
            refine goes_ Try.func16 (by kernel_rfl) rfl #[.int .i64 (wrap64 (a2_0))] (by rfl) rfl rfl (by (try simp only [List.map_toArray, List.map_cons, List.map_nil]); first | done | rfl | (simp only [List.length_drop, List.length_take]; rfl)) ?_
            with_reducible refine (bits_Size.calls kj3 (wrap64 (a2_0)) t407 _ A77.out).mono ?_
            rintro e w' ⟨rfl, ⟨nd, rfl⟩⟩
            refine ⟨_, rfl, ?_⟩
            refine hK.out _ _ ⟨(blk_cell BK377.out 0).trans rfl, (blk_cell BK377.out 1).trans rfl⟩ (fun hHeld => ?_)
            clear hK K
            refine norm_ (a' := ?_) ?_ ?_
            rotate_left
            · show Act.put _ (some 96) _ = _
              simp only [ap_, sb_, s0_, s1_, i64_w, i32_w]
              rfl
            refine pure_ (i := 24) (N := some 99) (v := ?_) (a' := ?_) #[true, true, true, true, true, true, true, true, true, true, true, true, true, true, true, true, true, true, true, true, true, true, true, true, true, false] rfl rfl (any_of HT_.out (by kernel_rfl)) (fun _ _ _ h => h) (Or.inl ⟨by rfl, ?_⟩) ?_ ?_
            rotate_left
            · intro w'
              go_simp
              with_reducible rfl
            rotate_left
            · simp only [ap_, sb_, s0_, s1_, i64_w, i32_w]
              rfl
            refine pure_ (i := 25) (N := some 100) (v := ?_) (a' := ?_) #[true, true, true, true, true, true, true, true, true, true, true, true, true, true, true, true, true, true, true, true, true, true, true, true, true, true] rfl rfl (any_of HT_.out (by kernel_rfl)) (fun _ _ _ h => h) (Or.inl ⟨by rfl, ?_⟩) ?_ ?_
            rotate_left
            · intro w'
              go_simp
              with_reducible rfl
            rotate_left
            · simp only [ap_, sb_, s0_, s1_, i64_w, i32_w]
              rfl
            refine done_ (done_of HT_.out (by kernel_rfl)) ?_
            try go_wp2
            go_meet
            case rel => exact ⟨_, ((t407 != (t392.length : Int))), sm_, H', ⟨by have := HJ3.out; first | omega | exact Nat.le_refl _⟩, ⟨(rt_ (Kd.R_mono HO391.out (fun _ hk => trivial)))⟩, ⟨(rt_ (Kd.R_mono HO368.out (fun _ hk => ⟨hk.1.2, hk.2⟩)))⟩, ⟨(rt_ (Kd.R_mono HO374.out (fun _ hk => ⟨hk.1.2, hk.2⟩)))⟩, ⟨(rt_ (Kd.R_mono HO380.out (fun _ hk => ⟨hk.1.2, hk.2⟩)))⟩, ⟨(bo_ BK360)⟩, ⟨(bo_ BK361)⟩, ⟨(bo_ BK362)⟩, ⟨(bo_ BK371)⟩, ⟨(bo_ BK377)⟩, ⟨(bo_ BK383)⟩, ⟨bl_⟩⟩
          case rest =>
            clear HC33
            obtain ⟨kq, x100_32, rfl, HA, HJ32, HO_15, HO_372000, HO_378000, HO_384000, BK360, BK361, BK362, BK371, BK377, BK383, HB⟩ := hcut
            cases kq with
            | zero => exact absurd HA.out (by simp [windroselaw17_BitsPuts.j1])
            | succ kj32 =>
              have H := HA.out
              clear HA
              simp only [windroselaw17_BitsPuts.j1] at H
              by_cases c105 : x100_32 = true
              · subst c105
                have H1 : (none) = some r := by rw [if_pos rfl] at H; exact H
                exact absurd H1 (by simp)
              · replace c105 := Bool.eq_false_iff.mpr c105
                subst c105
                have H1 : ((windroseref17_May.f l1_0 a1_1).bind fun t408 => (if t408 = true then ((some (([] : List Bool) : List Bool)).bind fun y409 => (if y409.length + t389.length < 140737488355328 then ((some (y409 ++ t389 : List Bool)).bind fun y412 => ((windroseref17_List.f kj32 l1_0 a1_1).bind fun t415 => (if y412.length + t415.length < 140737488355328 then ((windroselaw17_told.f kj32 t378 t381 t382 (y412 ++ t415) 0).bind fun t421 => (if t421 = true then (windroselaw17_BitsPuts.j2 kj32 a2_0 (wrap64 (a2_1)) t370 t389 t366 t369) else (none))) else (none)))) else (none))) else ((windroselaw17_told.f kj32 t378 t381 t382 ([] : List Bool) 1).bind fun t422 => (if t422 = true then (windroselaw17_BitsPuts.j2 kj32 a2_0 (wrap64 (a2_1)) t370 t389 t366 t369) else (none))))) = some r := by rw [if_neg (show ¬ (false = true) by decide)] at H; exact H
                clear H
                have H := H1
                clear H1
                replace H := bindA H
                obtain ⟨t408, A106, H⟩ := H
                try dsimp only at H
                have HC107 := Aside0.mk H
                clear H
                have hnb108 := NB361_360.out
                have hnc108 := NB360_361.out
                have hnb109 := NB361_362.out
                have hnc109 := NB362_361.out
                have hnb110 := NB361_371.out
                have hnc110 := NB371_361.out
                have hnb111 := NB361_377.out
                have hnc111 := NB377_361.out
                have hnb112 := NB361_383.out
                have hnc112 := NB383_361.out
                obtain ⟨hcz113_0, hcz113_1, hfz113_0, hfz113_1⟩ := blk_at2 BK361.out
                go_upto_if 103 with (first | ((with_reducible refine gate_callee (f := 22) rfl ?_); refine goL_ (some 102) Try.func22 #[.agg #[.slice A1_0 l1_0.length c1_0, .int .i64 a1_1]] ?_; (with_reducible refine (windroseref17_May.calls _ _ l1_0 a1_1 t408 _ ?side1 ?side2 A106.out).mono ?_); (case side1 => exact cb_ HR1_0); (case side2 => exact HC1_0.out); rintro e w114 ⟨rfl, hb⟩; refine ⟨_, rfl, ?_⟩; have n_ := pk11 (Kd.R_below (ro_ HO_15) hb) (Kd.R_below (ro_ HO_372000) hb) (Kd.R_below (ro_ HO_378000) hb) (Kd.R_below (ro_ HO_384000) hb) (blk_below (bo_ BK360) hb) (blk_below (bo_ BK361) hb) (blk_below (bo_ BK362) hb) (blk_below (bo_ BK371) hb) (blk_below (bo_ BK377) hb) (blk_below (bo_ BK383) hb) (below_step bl_ hb); clear HO_15 HO_372000 HO_378000 HO_384000 BK360 BK361 BK362 BK371 BK377 BK383 HB; obtain ⟨HO_15, HO_372000, HO_378000, HO_384000, BK360, BK361, BK362, BK371, BK377, BK383, HB⟩ := n_; (try clear hb)))
                (try simp only [ap_, sb_, s0_, s1_])
                go_cut [] (fun wc => ∃ (kq : Nat), Aside0 (windroselaw17_BitsPuts.j2 kq a2_0 (wrap64 (a2_1)) t370 t389 t366 t369 = some r) ∧ Aside0 (kq ≤ kj32) ∧ Aside0 (Kd.R Kd.bool 4 wc w.heap.size (fun _ => True) v390 t389) ∧ Aside0 (Kd.R (Kd.int .u8) 5 wc w.heap.size (fun k_ => some k_ ≠ ((.slice Ao47 t372.length co47) : Value).ownBlock ∧ some k_ ≠ ((.slice Ao58 t378.length co58) : Value).ownBlock) (.slice Ao39 t366.length co39) t366) ∧ Aside0 (Kd.R (Kd.int .u8) 5 wc w.heap.size (fun k_ => some k_ ≠ ((.slice Ao39 t366.length co39) : Value).ownBlock ∧ some k_ ≠ ((.slice Ao58 t378.length co58) : Value).ownBlock) (.slice Ao47 t372.length co47) t372) ∧ Aside0 (Kd.R (Kd.int .u8) 5 wc w.heap.size (fun k_ => some k_ ≠ ((.slice Ao39 t366.length co39) : Value).ownBlock ∧ some k_ ≠ ((.slice Ao47 t372.length co47) : Value).ownBlock) (.slice Ao58 t378.length co58) t378) ∧ Aside0 (wc.heap[gb360]? = some (.cells #[(.slice A0_0 l0_0.length c0_0), .int .i64 a0_1] 25 (0, 0))) ∧ Aside0 (wc.heap[gb361]? = some (.cells #[(.slice A1_0 l1_0.length c1_0), .int .i64 a1_1] 25 (0, 0))) ∧ Aside0 (wc.heap[gb362]? = some (.cells #[.int .u64 a2_0, .int .u64 a2_1] 54 (0, 0))) ∧ Aside0 (wc.heap[gb371]? = some (.cells #[(.slice Ao39 t366.length co39), .int .i64 t369] 25 (0, 0))) ∧ Aside0 (wc.heap[gb377]? = some (.cells #[(.slice Ao47 t372.length co47), .int .i64 t375] 25 (0, 0))) ∧ Aside0 (wc.heap[gb383]? = some (.cells #[(.slice Ao58 t378.length co58), .int .i64 t381] 25 (0, 0))) ∧ Aside0 (Below w.heap.size w wc))
                case first =>
                  have H := HC107.out
                  clear HC107
                  replace H := dbool H
                  rcases H with ⟨rfl, H⟩ | ⟨rfl, H⟩
                  focus
                    obtain ⟨y409, hy409⟩ : ∃ y_ : List Bool, y_ = (([] : List Bool)) := ⟨_, rfl⟩
                    replace H : (if y409.length + t389.length < 140737488355328 then ((some (y409 ++ t389 : List Bool)).bind fun y412 => ((windroseref17_List.f kj32 l1_0 a1_1).bind fun t415 => (if y412.length + t415.length < 140737488355328 then ((windroselaw17_told.f kj32 t378 t381 t382 (y412 ++ t415) 0).bind fun t421 => (if t421 = true then (windroselaw17_BitsPuts.j2 kj32 a2_0 (wrap64 (a2_1)) t370 t389 t366 t369) else (none))) else (none)))) else (none)) = some r := by first | (rw [hy409]; with_reducible exact H) | (have H2_ := (Option.bind_some _ _).symm.trans H; rw [hy409]; with_reducible exact H2_) | (have H2_ := (Option.bind_some _ _).symm.trans H; with_reducible exact H2_) | with_reducible exact H | (rw [hy409]; exact H) | exact H
                    have Ny409 := Aside0.mk hy409
                    clear hy409
                    by_cases c116 : y409.length + t389.length < 140737488355328
                    rotate_left
                    · rw [if_neg c116] at H
                      exact absurd H (by simp)
                    rw [if_pos c116] at H
                    have LMc116 := Aside0.mk c116
                    clear c116
                    obtain ⟨y412, hy412⟩ : ∃ y_ : List Bool, y_ = (y409 ++ t389) := ⟨_, rfl⟩
                    replace H : ((windroseref17_List.f kj32 l1_0 a1_1).bind fun t415 => (if y412.length + t415.length < 140737488355328 then ((windroselaw17_told.f kj32 t378 t381 t382 (y412 ++ t415) 0).bind fun t421 => (if t421 = true then (windroselaw17_BitsPuts.j2 kj32 a2_0 (wrap64 (a2_1)) t370 t389 t366 t369) else (none))) else (none))) = some r := by first | (rw [hy412]; with_reducible exact H) | (have H2_ := (Option.bind_some _ _).symm.trans H; rw [hy412]; with_reducible exact H2_) | (have H2_ := (Option.bind_some _ _).symm.trans H; with_reducible exact H2_) | with_reducible exact H | (rw [hy412]; exact H) | exact H
                    have Ny412 := Aside0.mk hy412
                    clear hy412
                    replace H := bindA H
                    obtain ⟨t415, A117, H⟩ := H
                    try dsimp only at H
                    by_cases c118 : y412.length + t415.length < 140737488355328
                    rotate_left
                    · rw [if_neg c118] at H
                      exact absurd H (by simp)
                    rw [if_pos c118] at H
                    have LMc118 := Aside0.mk c118
                    clear c118
                    obtain ⟨y418, hy418⟩ : ∃ y_ : List Bool, y_ = (y412 ++ t415) := ⟨_, rfl⟩
                    replace H : ((windroselaw17_told.f kj32 t378 t381 t382 y418 0).bind fun t421 => (if t421 = true then (windroselaw17_BitsPuts.j2 kj32 a2_0 (wrap64 (a2_1)) t370 t389 t366 t369) else (none))) = some r := by first | (rw [hy418]; with_reducible exact H) | (have H2_ := (Option.bind_some _ _).symm.trans H; rw [hy418]; with_reducible exact H2_) | (have H2_ := (Option.bind_some _ _).symm.trans H; with_reducible exact H2_) | with_reducible exact H | (rw [hy418]; exact H) | exact H
                    have Ny418 := Aside0.mk hy418
                    clear hy418
                    replace H := bindA H
                    obtain ⟨t421, A119, H⟩ := H
                    try dsimp only at H
                    by_cases c120 : t421 = true
                    rotate_left
                    · replace c120 := Bool.eq_false_iff.mpr c120
                      subst c120
                      have H1 : (none) = some r := by rw [if_neg (show ¬ (false = true) by decide)] at H; exact H
                      exact absurd H1 (by simp)
                    subst c120
                    have H1 : (windroselaw17_BitsPuts.j2 kj32 a2_0 (wrap64 (a2_1)) t370 t389 t366 t369) = some r := by rw [if_pos rfl] at H; exact H
                    clear H
                    have H := H1
                    clear H1
                    have H' := Aside0.mk H
                    clear H
                  rotate_left
                  focus
                    replace H := bindA H
                    obtain ⟨t422, A141, H⟩ := H
                    try dsimp only at H
                    by_cases c142 : t422 = true
                    rotate_left
                    · replace c142 := Bool.eq_false_iff.mpr c142
                      subst c142
                      have H1 : (none) = some r := by rw [if_neg (show ¬ (false = true) by decide)] at H; exact H
                      exact absurd H1 (by simp)
                    subst c142
                    have H1 : (windroselaw17_BitsPuts.j2 kj32 a2_0 (wrap64 (a2_1)) t370 t389 t366 t369) = some r := by rw [if_pos rfl] at H; exact H
                    clear H
                    have H := H1
                    clear H1
                    have H' := Aside0.mk H
                    clear H
                    have hnb143 := NB383_360.out
                    have hnc143 := NB360_383.out
                    have hnb144 := NB383_361.out
                    have hnc144 := NB361_383.out
                    have hnb145 := NB383_362.out
                    have hnc145 := NB362_383.out
                    have hnb146 := NB383_371.out
                    have hnc146 := NB371_383.out
                    have hnb147 := NB383_377.out
                    have hnc147 := NB377_383.out
                    obtain ⟨hcz148_0, hcz148_1, hfz148_0, hfz148_1⟩ := blk_at2 BK383.out
                  all_goals
                    first
                      | go_wp2_with (first | ((with_reducible refine gate_callee (f := 31) rfl ?_); refine goL_ (some 106) Try.func31 #[.agg #[.slice Ao58 t378.length co58, .int .i64 t381], .int .i64 t382, .slice none 0 0, .int .i64 1] ?_; (with_reducible refine (told_nil kj32 _ _ t378 t381 t382 1 true _ ?side1 ?side2 A141.out).mono ?_); (case side1 => exact cr_ HO_384000); (case side2 => exact (Kd.R_reads' HO_384000.out).2.1); rintro e w7000 ⟨rfl, hb⟩; refine ⟨_, rfl, ?_⟩; have n_ := pk11 (Kd.R_below (ro_ HO_15) hb) (Kd.R_below (ro_ HO_372000) hb) (Kd.R_below (ro_ HO_378000) hb) (Kd.R_below (ro_ HO_384000) hb) (blk_below (bo_ BK360) hb) (blk_below (bo_ BK361) hb) (blk_below (bo_ BK362) hb) (blk_below (bo_ BK371) hb) (blk_below (bo_ BK377) hb) (blk_below (bo_ BK383) hb) (below_step bl_ hb); clear HO_15 HO_372000 HO_378000 HO_384000 BK360 BK361 BK362 BK371 BK377 BK383 HB; obtain ⟨HO_15, HO_372000, HO_378000, HO_384000, BK360, BK361, BK362, BK371, BK377, BK383, HB⟩ := n_; (try clear hb)))
                        go_meet
                        case rel => exact ⟨_, H', ⟨by have := HJ3.out; have := HJ32.out; first | omega | exact Nat.le_refl _⟩, ⟨(ro_ HO_15)⟩, ⟨(ro_ HO_372000)⟩, ⟨(ro_ HO_378000)⟩, ⟨(ro_ HO_384000)⟩, ⟨(bo_ BK360)⟩, ⟨(bo_ BK361)⟩, ⟨(bo_ BK362)⟩, ⟨(bo_ BK371)⟩, ⟨(bo_ BK377)⟩, ⟨(bo_ BK383)⟩, ⟨bl_⟩⟩
                      | try go_wp2
                        (try (rw [drewN_self w114]; generalize hq_ : World.drewN w114 _ = w114; have n0_ : Aside0 (Kd.R Kd.bool 4 w114 w.heap.size (fun _ => True) v390 t389) := ⟨by rw [← hq_]; exact (ro_ HO_15)⟩; have n1_ : Aside0 (Kd.R (Kd.int .u8) 5 w114 w.heap.size (fun k_ => some k_ ≠ (.slice Ao47 t372.length co47 : Value).ownBlock ∧ some k_ ≠ (.slice Ao58 t378.length co58 : Value).ownBlock) (.slice Ao39 t366.length co39) t366) := ⟨by rw [← hq_]; exact (ro_ HO_372000)⟩; have n2_ : Aside0 (Kd.R (Kd.int .u8) 5 w114 w.heap.size (fun k_ => some k_ ≠ (.slice Ao39 t366.length co39 : Value).ownBlock ∧ some k_ ≠ (.slice Ao58 t378.length co58 : Value).ownBlock) (.slice Ao47 t372.length co47) t372) := ⟨by rw [← hq_]; exact (ro_ HO_378000)⟩; have n3_ : Aside0 (Kd.R (Kd.int .u8) 5 w114 w.heap.size (fun k_ => some k_ ≠ (.slice Ao39 t366.length co39 : Value).ownBlock ∧ some k_ ≠ (.slice Ao47 t372.length co47 : Value).ownBlock) (.slice Ao58 t378.length co58) t378) := ⟨by rw [← hq_]; exact (ro_ HO_384000)⟩; have n4_ : Aside0 (w114.heap[gb360]? = some (.cells #[.slice A0_0 l0_0.length c0_0, .int .i64 a0_1] 25 (0, 0))) := ⟨by rw [← hq_]; exact (bo_ BK360)⟩; have n5_ : Aside0 (w114.heap[gb361]? = some (.cells #[.slice A1_0 l1_0.length c1_0, .int .i64 a1_1] 25 (0, 0))) := ⟨by rw [← hq_]; exact (bo_ BK361)⟩; have n6_ : Aside0 (w114.heap[gb362]? = some (.cells #[.int .u64 a2_0, .int .u64 a2_1] 54 (0, 0))) := ⟨by rw [← hq_]; exact (bo_ BK362)⟩; have n7_ : Aside0 (w114.heap[gb371]? = some (.cells #[.slice Ao39 t366.length co39, .int .i64 t369] 25 (0, 0))) := ⟨by rw [← hq_]; exact (bo_ BK371)⟩; have n8_ : Aside0 (w114.heap[gb377]? = some (.cells #[.slice Ao47 t372.length co47, .int .i64 t375] 25 (0, 0))) := ⟨by rw [← hq_]; exact (bo_ BK377)⟩; have n9_ : Aside0 (w114.heap[gb383]? = some (.cells #[.slice Ao58 t378.length co58, .int .i64 t381] 25 (0, 0))) := ⟨by rw [← hq_]; exact (bo_ BK383)⟩; have n10_ : Aside0 (Below w.heap.size w w114) := ⟨by rw [← hq_]; exact bl_⟩; clear HO_15 HO_372000 HO_378000 HO_384000 BK360 BK361 BK362 BK371 BK377 BK383 HB hq_; have HO_15 := n0_; have HO_372000 := n1_; have HO_378000 := n2_; have HO_384000 := n3_; have BK360 := n4_; have BK361 := n5_; have BK362 := n6_; have BK371 := n7_; have BK377 := n8_; have BK383 := n9_; have HB := n10_; clear n0_ n1_ n2_ n3_ n4_ n5_ n6_ n7_ n8_ n9_ n10_))
                        have n_ := pk11 (Kd.R_drew HO_15.out) (Kd.R_drew HO_372000.out) (Kd.R_drew HO_378000.out) (Kd.R_drew HO_384000.out) (blk_drew BK360.out) (blk_drew BK361.out) (blk_drew BK362.out) (blk_drew BK371.out) (blk_drew BK377.out) (blk_drew BK383.out) (below_drew1 HB.out)
                        clear HO_15 HO_372000 HO_378000 HO_384000 BK360 BK361 BK362 BK371 BK377 BK383 HB
                        obtain ⟨HO_15, HO_372000, HO_378000, HO_384000, BK360, BK361, BK362, BK371, BK377, BK383, HB⟩ := n_
                        refine start_ (n := 10) (S := fun w' => w'.cell? ⟨gb383, 0, none⟩ = some (.slice Ao58 t378.length co58) ∧ w'.cell? ⟨gb383, 1, none⟩ = some (.int .i64 t381) ∧ w'.cell? ⟨gb361, 0, none⟩ = some (.slice A1_0 l1_0.length c1_0) ∧ w'.cell? ⟨gb361, 1, none⟩ = some (.int .i64 a1_1)) (ds := []) #[false, false, false, false, false, false, false, false, false, false] (by kernel_rfl) rfl rfl ⟨(blk_cell BK383.out 0).trans rfl, (blk_cell BK383.out 1).trans rfl, (blk_cell BK361.out 0).trans rfl, (blk_cell BK361.out 1).trans rfl⟩ (fun hHeld => ?_); refine with_tabW windroselaw17_BitsPuts.tab16 windroselaw17_BitsPuts.bits16 (fun HT_ HW_ => ?_)
                        generalize w114.drew = w7000 at HO_15 HO_372000 HO_378000 HO_384000 BK360 BK361 BK362 BK371 BK377 BK383 HB hHeld ⊢
                        refine pure_ (i := 1) (N := some 109) (v := ?_) (a' := ?_) #[false, true, false, false, false, false, false, false, false, false] rfl rfl (any_of HT_.out (by kernel_rfl)) (fun _ _ _ h => h) (Or.inl ⟨by rfl, ?_⟩) ?_ ?_
                        rotate_left
                        · intro w'
                          go_simp
                          with_reducible rfl
                        rotate_left
                        · simp only [ap_, sb_, s0_, s1_, i64_w, i32_w]
                          rfl
                        refine pure_ (i := 3) (N := some 111) (v := ?_) (a' := ?_) #[false, true, false, true, false, false, false, false, false, false] rfl rfl (any_of HT_.out (by kernel_rfl)) (fun _ _ _ h => h) (Or.inl ⟨by rfl, ?_⟩) ?_ ?_
                        rotate_left
                        · intro w'
                          go_simp
                          with_reducible rfl
                        rotate_left
                        · simp only [ap_, sb_, s0_, s1_, i64_w, i32_w]
                          rfl
                        refine take_ (i := 0) (N := some 108) (v := ?_) (a' := ?_) #[true, true, false, true, false, false, false, false, false, false] rfl rfl (take_ofW HT_.out HW_.out (by kernel_rfl)) (fun _ _ _ h => h) (Or.inl ⟨by rfl, ?_⟩) hHeld ?_ ?_
                        rotate_left
                        · rintro w' ⟨s0, s1, s7000, s7001⟩
                          go_simp
                          with_reducible rfl
                        rotate_left
                        · simp only [ap_, sb_, s0_, s1_, i64_w, i32_w]
                          rfl
                        refine take_ (i := 5) (N := some 113) (v := ?_) (a' := ?_) #[true, true, false, true, false, true, false, false, false, false] rfl rfl (take_ofW HT_.out HW_.out (by kernel_rfl)) (fun _ _ _ h => h) (Or.inl ⟨by rfl, ?_⟩) hHeld ?_ ?_
                        rotate_left
                        · rintro w' ⟨s0, s1, s7000, s7001⟩
                          go_simp
                          with_reducible rfl
                        rotate_left
                        · simp only [ap_, sb_, s0_, s1_, i64_w, i32_w]
                          rfl
                        refine one_ (i := 2) (N := some 110) #[true, true, true, true, false, true, false, false, false, false] rfl rfl (one_of HT_.out (by kernel_rfl)) (by decide) (fun K hK => ?_)
                        refine Kd.R_lit_step Kd.bool _ 4 ?hg (N := 110) ?hd (xs := ([] : List Bool)) (inner := []) (ok := fun _ => True) (okp := fun _ => True) ?hr ?hp (fun _ hk => hk) trivial (Below.refl _ _) (Nat.le_refl _) (by simp) ?_; (case hd => rfl); (case hg => rfl); (case hr => first | (go_simp; done) | (go_simp; rfl)); (case hp => exact (Reps.none _ _))
                        intro v7000 w7001 ho7000 hb hg_ hnew_
                        clear hg_ hnew_
                        (first | rw [← Ny409.out] at ho7000 | (simp only [Int.reduceToNat] at ho7000; rw [← Ny409.out] at ho7000))
                        have n_ := pk12 (Kd.R_elder' (ro_ HO_15) (Kd.R_base ho7000) hb) (Kd.R_below (ro_ HO_372000) hb) (Kd.R_below (ro_ HO_378000) hb) (Kd.R_below (ro_ HO_384000) hb) (Kd.R_lower (Kd.R_new' ho7000 (Kd.R_lt (ro_ HO_15))) (below_size bl_)) (blk_below (bo_ BK360) hb) (blk_below (bo_ BK361) hb) (blk_below (bo_ BK362) hb) (blk_below (bo_ BK371) hb) (blk_below (bo_ BK377) hb) (blk_below (bo_ BK383) hb) (below_step bl_ hb)
                        clear HO_15 HO_372000 HO_378000 HO_384000 BK360 BK361 BK362 BK371 BK377 BK383 HB
                        obtain ⟨HO_15, HO_372000, HO_378000, HO_384000, HO7000, BK360, BK361, BK362, BK371, BK377, BK383, HB⟩ := n_
                        clear hb ho7000
                        obtain ⟨Ao7000, co7000, eo7000⟩ := Kd.R_slice HO_15.out
                        (first | subst eo7000 | (injection eo7000 with f1_ f2_ f3_; have f7000_ := f1_.symm; have f7001_ := f3_.symm; clear f1_ f2_ f3_; subst f7000_; subst f7001_))
                        refine hK.out _ _ ⟨(blk_cell BK383.out 0).trans rfl, (blk_cell BK383.out 1).trans rfl, (blk_cell BK361.out 0).trans rfl, (blk_cell BK361.out 1).trans rfl⟩ (fun hHeld => ?_)
                        clear hK K
                        refine norm_ (a' := ?_) ?_ ?_
                        rotate_left
                        · show Act.put _ (some 110) _ = _
                          simp only [ap_, sb_, s0_, s1_, i64_w, i32_w]
                          rfl
                        refine one_ (i := 4) (N := some 112) #[true, true, true, true, true, true, false, false, false, false] rfl rfl (one_of HT_.out (by kernel_rfl)) (by decide) (fun K hK => ?_)
                        refine Kd.R_append_rows_step Kd.bool (w0 := w) w.heap.size (by rfl) (.tmp 110) (.tmp 111) 39 4 (.bool false) 1 rfl Try.underlying39 info4 rfl (by decide) (by omega) v7000 y409 t389 _ _ _ (fun k_ => some k_ ≠ (.slice Ao7000 t389.length co7000 : Value).ownBlock) (fun _ => False) rfl rfl ?aO ?aR (fun _ _ h => h) (fun _ h => h.elim) ?aF ?aB ?aS ?aL ?_
                        (case aR => exact cr_ HO_15)
                        (case aB => exact bl_)
                        (case aF => exact (fun k_ hk => Kd.fresh' (Kd.R_lt (ro_ HO_15)) k_ hk))
                        (case aO => exact (rt_ (Kd.R_mono HO7000.out (fun _ hk => hk.2))))
                        (case aS => exact (below_size bl_))
                        (case aL => have := LMc116.out; omega)
                        intro v7001 w7002 ho hb hg hat
                        rw [← Ny412.out] at ho
                        have n_ := pk12 (Kd.R_after (ok := (fun _ => True)) (ro_ HO_15) hg hat) (Kd.R_over' (ro_ HO_372000) (Kd.R_typed (ro_ HO7000)) (by decide) hg) (Kd.R_over' (ro_ HO_378000) (Kd.R_typed (ro_ HO7000)) (by decide) hg) (Kd.R_over' (ro_ HO_384000) (Kd.R_typed (ro_ HO7000)) (by decide) hg) (blk_grown (bo_ BK360) hg (Kd.R_ne HO7000.out BK360.out (by decide))) (blk_grown (bo_ BK361) hg (Kd.R_ne HO7000.out BK361.out (by decide))) (blk_grown (bo_ BK362) hg (Kd.R_ne HO7000.out BK362.out (by decide))) (blk_grown (bo_ BK371) hg (Kd.R_ne HO7000.out BK371.out (by decide))) (blk_grown (bo_ BK377) hg (Kd.R_ne HO7000.out BK377.out (by decide))) (blk_grown (bo_ BK383) hg (Kd.R_ne HO7000.out BK383.out (by decide))) (hb) (ho)
                        clear HO_15 HO_372000 HO_378000 HO_384000 BK360 BK361 BK362 BK371 BK377 BK383 HB HO7000
                        obtain ⟨HO_15, HO_372000, HO_378000, HO_384000, BK360, BK361, BK362, BK371, BK377, BK383, HB, HO7001⟩ := n_
                        clear ho hb hg hat
                        refine hK.out _ _ ⟨(blk_cell BK383.out 0).trans rfl, (blk_cell BK383.out 1).trans rfl, (blk_cell BK361.out 0).trans rfl, (blk_cell BK361.out 1).trans rfl⟩ (fun hHeld => ?_)
                        clear hK K
                        refine norm_ (a' := ?_) ?_ ?_
                        rotate_left
                        · show Act.put _ (some 112) _ = _
                          simp only [ap_, sb_, s0_, s1_, i64_w, i32_w]
                          rfl
                        refine one_ (i := 6) (N := some 114) #[true, true, true, true, true, true, true, false, false, false] rfl rfl (one_of HT_.out (by kernel_rfl)) (by decide) (fun K hK => ?_)
                        refine goes_ Try.func23 (by kernel_rfl) rfl #[.agg #[.slice A1_0 l1_0.length c1_0, .int .i64 a1_1]] (by rfl) rfl rfl (by (try simp only [List.map_toArray, List.map_cons, List.map_nil]); first | done | rfl | (simp only [List.length_drop, List.length_take]; rfl)) ?_
                        with_reducible refine (windroseref17_List.calls kj32 _ _ l1_0 a1_1 t415 _ ?side1 ?side2 A117.out).mono ?_
                        (case side1 => exact cb_ HR1_0)
                        (case side2 => exact HC1_0.out)
                        rintro e w7003 ⟨v7002, rfl, ho0, hb⟩
                        refine ⟨_, rfl, ?_⟩
                        have n0_ := Aside0.mk (Kd.R_elder' (ro_ HO_15) (Kd.R_base ho0) hb)
                        have n1_ := Aside0.mk (Kd.R_below (ro_ HO_372000) hb)
                        have n2_ := Aside0.mk (Kd.R_below (ro_ HO_378000) hb)
                        have n3_ := Aside0.mk (Kd.R_below (ro_ HO_384000) hb)
                        have n4_ := Aside0.mk (Kd.R_elder' (ro_ HO7001) (Kd.R_base ho0) hb)
                        have n5_ := Aside0.mk (Kd.R_lower (Kd.R_new' (Kd.R_new' ho0 (Kd.R_lt (ro_ HO_15))) (Kd.R_lt (ro_ HO7001))) (below_size bl_))
                        have n6_ := Aside0.mk (blk_below (bo_ BK360) hb)
                        have n7_ := Aside0.mk (blk_below (bo_ BK361) hb)
                        have n8_ := Aside0.mk (blk_below (bo_ BK362) hb)
                        have n9_ := Aside0.mk (blk_below (bo_ BK371) hb)
                        have n10_ := Aside0.mk (blk_below (bo_ BK377) hb)
                        have n11_ := Aside0.mk (blk_below (bo_ BK383) hb)
                        have n12_ := Aside0.mk (below_step bl_ hb)
                        clear HO_15
                        clear HO_372000
                        clear HO_378000
                        clear HO_384000
                        clear HO7001
                        clear BK360
                        clear BK361
                        clear BK362
                        clear BK371
                        clear BK377
                        clear BK383
                        clear HB
                        have HO_15 := n0_
                        have HO_372000 := n1_
                        have HO_378000 := n2_
                        have HO_384000 := n3_
                        have HO7001 := n4_
                        have HO7002 := n5_
                        have BK360 := n6_
                        have BK361 := n7_
                        have BK362 := n8_
                        have BK371 := n9_
                        have BK377 := n10_
                        have BK383 := n11_
                        have HB := n12_
                        clear n0_ n1_ n2_ n3_ n4_ n5_ n6_ n7_ n8_ n9_ n10_ n11_ n12_
                        (try clear hb)
                        (try clear hb2)
                        (try clear hk)
                        (try clear hi)
                        (try clear ho0)
                        obtain ⟨Ao7001, co7001, eo7001⟩ := Kd.R_slice HO7002.out
                        (first | subst eo7001 | (injection eo7001 with f1_ f2_ f3_; have f7000_ := f1_.symm; have f7001_ := f3_.symm; clear f1_ f2_ f3_; subst f7000_; subst f7001_))
                        refine hK.out _ _ ⟨(blk_cell BK383.out 0).trans rfl, (blk_cell BK383.out 1).trans rfl, (blk_cell BK361.out 0).trans rfl, (blk_cell BK361.out 1).trans rfl⟩ (fun hHeld => ?_)
                        clear hK K
                        refine norm_ (a' := ?_) ?_ ?_
                        rotate_left
                        · show Act.put _ (some 114) _ = _
                          simp only [ap_, sb_, s0_, s1_, i64_w, i32_w]
                          rfl
                        refine one_ (i := 7) (N := some 115) #[true, true, true, true, true, true, true, true, false, false] rfl rfl (one_of HT_.out (by kernel_rfl)) (by decide) (fun K hK => ?_)
                        refine Kd.R_append_rows_step Kd.bool (w0 := w) w.heap.size (by rfl) (.tmp 112) (.tmp 114) 39 4 (.bool false) 1 rfl Try.underlying39 info4 rfl (by decide) (by omega) v7001 y412 t415 _ _ _ (fun k_ => some k_ ≠ (.slice Ao7000 t389.length co7000 : Value).ownBlock ∧ some k_ ≠ (.slice Ao7001 t415.length co7001 : Value).ownBlock) (fun _ => False) rfl rfl ?aO ?aR (fun _ _ h => h) (fun _ h => h.elim) ?aF ?aB ?aS ?aL ?_
                        (case aR => exact cr_ HO7002)
                        (case aB => exact bl_)
                        (case aF => exact (fun k_ hk => ⟨Kd.fresh' (Kd.R_lt (ro_ HO_15)) k_ hk, Kd.fresh' (Kd.R_lt (ro_ HO7002)) k_ hk⟩))
                        (case aO => exact (ro_ HO7001))
                        (case aS => exact (below_size bl_))
                        (case aL => have := LMc118.out; omega)
                        intro v7003 w7004 ho hb hg hat
                        rw [← Ny418.out] at ho
                        have n0_ := Aside0.mk (Kd.R_after (ok := (fun k_ => some k_ ≠ (.slice Ao7001 t415.length co7001 : Value).ownBlock)) (rt_ (Kd.R_mono HO_15.out (fun _ hk => ⟨hk.2, hk.1.2⟩))) hg hat)
                        have n1_ := Aside0.mk (Kd.R_over' (ro_ HO_372000) (Kd.R_typed (ro_ HO7001)) (by decide) hg)
                        have n2_ := Aside0.mk (Kd.R_over' (ro_ HO_378000) (Kd.R_typed (ro_ HO7001)) (by decide) hg)
                        have n3_ := Aside0.mk (Kd.R_over' (ro_ HO_384000) (Kd.R_typed (ro_ HO7001)) (by decide) hg)
                        have n4_ := Aside0.mk (blk_grown (bo_ BK360) hg (Kd.R_ne HO7001.out BK360.out (by decide)))
                        have n5_ := Aside0.mk (blk_grown (bo_ BK361) hg (Kd.R_ne HO7001.out BK361.out (by decide)))
                        have n6_ := Aside0.mk (blk_grown (bo_ BK362) hg (Kd.R_ne HO7001.out BK362.out (by decide)))
                        have n7_ := Aside0.mk (blk_grown (bo_ BK371) hg (Kd.R_ne HO7001.out BK371.out (by decide)))
                        have n8_ := Aside0.mk (blk_grown (bo_ BK377) hg (Kd.R_ne HO7001.out BK377.out (by decide)))
                        have n9_ := Aside0.mk (blk_grown (bo_ BK383) hg (Kd.R_ne HO7001.out BK383.out (by decide)))
                        have n10_ := Aside0.mk (Kd.R_after (ok := (fun k_ => some k_ ≠ (.slice Ao7000 t389.length co7000 : Value).ownBlock)) (rt_ (Kd.R_mono HO7002.out (fun _ hk => ⟨hk.1.2, hk.2⟩))) hg hat)
                        have n11_ := Aside0.mk (hb)
                        have n12_ := Aside0.mk (ho)
                        clear HO_15
                        clear HO_372000
                        clear HO_378000
                        clear HO_384000
                        clear BK360
                        clear BK361
                        clear BK362
                        clear BK371
                        clear BK377
                        clear BK383
                        clear HO7002
                        clear HB
                        clear HO7001
                        have HO_15 := n0_
                        have HO_372000 := n1_
                        have HO_378000 := n2_
                        have HO_384000 := n3_
                        have BK360 := n4_
                        have BK361 := n5_
                        have BK362 := n6_
                        have BK371 := n7_
                        have BK377 := n8_
                        have BK383 := n9_
                        have HO7002 := n10_
                        have HB := n11_
                        have HO7003 := n12_
                        clear n0_ n1_ n2_ n3_ n4_ n5_ n6_ n7_ n8_ n9_ n10_ n11_ n12_
                        clear ho hb hg hat
                        obtain ⟨Ao7002, co7002, eo7002⟩ := Kd.R_slice HO7003.out
                        (first | subst eo7002 | (injection eo7002 with f1_ f2_ f3_; have f7000_ := f1_.symm; have f7001_ := f3_.symm; clear f1_ f2_ f3_; subst f7000_; subst f7001_))
                        refine hK.out _ _ ⟨(blk_cell BK383.out 0).trans rfl, (blk_cell BK383.out 1).trans rfl, (blk_cell BK361.out 0).trans rfl, (blk_cell BK361.out 1).trans rfl⟩ (fun hHeld => ?_)
                        clear hK K
                        refine norm_ (a' := ?_) ?_ ?_
                        rotate_left
                        · show Act.put _ (some 115) _ = _
                          simp only [ap_, sb_, s0_, s1_, i64_w, i32_w]
                          rfl
                        refine one_ (i := 8) (N := some 116) #[true, true, true, true, true, true, true, true, true, false] rfl rfl (one_of HT_.out (by kernel_rfl)) (by decide) (fun K hK => ?_)
                        refine goes_ Try.func31 (by kernel_rfl) rfl #[.agg #[.slice Ao58 t378.length co58, .int .i64 t381], .int .i64 t382, .slice Ao7002 y418.length co7002, .int .i64 0] (by rfl) rfl rfl (by (try simp only [List.map_toArray, List.map_cons, List.map_nil]); first | done | rfl | (simp only [List.length_drop, List.length_take]; rfl)) ?_
                        with_reducible refine (windroselaw17_told.calls kj32 _ _ t378 t381 t382 _ _ y418 0 true _ ?side1 ?side2 ?side3 ?side4 A119.out).mono ?_
                        (case side1 => exact cr_ HO_384000)
                        (case side2 => exact (Kd.R_reads' HO_384000.out).2.1)
                        (case side3 => exact cr_ HO7003)
                        (case side4 => exact (Kd.R_reads' HO7003.out).2.1)
                        rintro e w7005 ⟨rfl, hb⟩
                        refine ⟨_, rfl, ?_⟩
                        have n0_ := Aside0.mk (Kd.R_below (ro_ HO_15) hb)
                        have n1_ := Aside0.mk (Kd.R_below (ro_ HO_372000) hb)
                        have n2_ := Aside0.mk (Kd.R_below (ro_ HO_378000) hb)
                        have n3_ := Aside0.mk (Kd.R_below (ro_ HO_384000) hb)
                        have n4_ := Aside0.mk (Kd.R_below (ro_ HO7002) hb)
                        have n5_ := Aside0.mk (Kd.R_below (ro_ HO7003) hb)
                        have n6_ := Aside0.mk (blk_below (bo_ BK360) hb)
                        have n7_ := Aside0.mk (blk_below (bo_ BK361) hb)
                        have n8_ := Aside0.mk (blk_below (bo_ BK362) hb)
                        have n9_ := Aside0.mk (blk_below (bo_ BK371) hb)
                        have n10_ := Aside0.mk (blk_below (bo_ BK377) hb)
                        have n11_ := Aside0.mk (blk_below (bo_ BK383) hb)
                        have n12_ := Aside0.mk (below_step bl_ hb)
                        clear HO_15
                        clear HO_372000
                        clear HO_378000
                        clear HO_384000
                        clear HO7002
                        clear HO7003
                        clear BK360
                        clear BK361
                        clear BK362
                        clear BK371
                        clear BK377
                        clear BK383
                        clear HB
                        have HO_15 := n0_
                        have HO_372000 := n1_
                        have HO_378000 := n2_
                        have HO_384000 := n3_
                        have HO7002 := n4_
                        have HO7003 := n5_
                        have BK360 := n6_
                        have BK361 := n7_
                        have BK362 := n8_
                        have BK371 := n9_
                        have BK377 := n10_
                        have BK383 := n11_
                        have HB := n12_
                        clear n0_ n1_ n2_ n3_ n4_ n5_ n6_ n7_ n8_ n9_ n10_ n11_ n12_
                        (try clear hb)
                        (try clear hb2)
                        (try clear hk)
                        (try clear hi)
                        refine hK.out _ _ ⟨(blk_cell BK383.out 0).trans rfl, (blk_cell BK383.out 1).trans rfl, (blk_cell BK361.out 0).trans rfl, (blk_cell BK361.out 1).trans rfl⟩ (fun hHeld => ?_)
                        clear hK K
                        refine norm_ (a' := ?_) ?_ ?_
                        rotate_left
                        · show Act.put _ (some 116) _ = _
                          simp only [ap_, sb_, s0_, s1_, i64_w, i32_w]
                          rfl
                        refine pure_ (i := 9) (N := some 117) (v := ?_) (a' := ?_) #[true, true, true, true, true, true, true, true, true, true] rfl rfl (any_of HT_.out (by kernel_rfl)) (fun _ _ _ h => h) (Or.inl ⟨by rfl, ?_⟩) ?_ ?_
                        rotate_left
                        · intro w'
                          go_simp
                          with_reducible rfl
                        rotate_left
                        · simp only [ap_, sb_, s0_, s1_, i64_w, i32_w]
                          rfl
                        refine done_ (done_of HT_.out (by kernel_rfl)) ?_
                        try go_wp2
                        go_meet
                        case rel => exact ⟨_, H', ⟨by have := HJ3.out; have := HJ32.out; first | omega | exact Nat.le_refl _⟩, ⟨(rt_ (Kd.R_mono HO_15.out (fun _ hk => trivial)))⟩, ⟨(ro_ HO_372000)⟩, ⟨(ro_ HO_378000)⟩, ⟨(ro_ HO_384000)⟩, ⟨(bo_ BK360)⟩, ⟨(bo_ BK361)⟩, ⟨(bo_ BK362)⟩, ⟨(bo_ BK371)⟩, ⟨(bo_ BK377)⟩, ⟨(bo_ BK383)⟩, ⟨bl_⟩⟩
                case rest =>
                  clear HC107
                  try clear c23
                  obtain ⟨kq, HA, HJ106, HO_15, HO_372000, HO_378000, HO_384000, BK360, BK361, BK362, BK371, BK377, BK383, HB⟩ := hcut
                  cases kq with
                  | zero => exact absurd HA.out (by simp [windroselaw17_BitsPuts.j2])
                  | succ kj106 =>
                    have H := HA.out
                    clear HA
                    simp only [windroselaw17_BitsPuts.j2] at H
                    have HC157 := Aside0.mk H
                    clear H
                    go_upto_region 18 with (fail)
                    go_cut [134] (fun v134 wc => ∃ (kq : Nat) (x134_156 : Bool), v134 = .bool x134_156 ∧ Aside0 (windroselaw17_BitsPuts.j3 kq a2_0 (wrap64 (a2_1)) t370 t389 x134_156 t366 t369 = some r) ∧ Aside0 (kq ≤ kj106) ∧ Aside0 (Kd.R Kd.bool 4 wc w.heap.size (fun _ => True) v390 t389) ∧ Aside0 (Kd.R (Kd.int .u8) 5 wc w.heap.size (fun k_ => some k_ ≠ ((.slice Ao47 t372.length co47) : Value).ownBlock ∧ some k_ ≠ ((.slice Ao58 t378.length co58) : Value).ownBlock) (.slice Ao39 t366.length co39) t366) ∧ Aside0 (Kd.R (Kd.int .u8) 5 wc w.heap.size (fun k_ => some k_ ≠ ((.slice Ao39 t366.length co39) : Value).ownBlock ∧ some k_ ≠ ((.slice Ao58 t378.length co58) : Value).ownBlock) (.slice Ao47 t372.length co47) t372) ∧ Aside0 (Kd.R (Kd.int .u8) 5 wc w.heap.size (fun k_ => some k_ ≠ ((.slice Ao39 t366.length co39) : Value).ownBlock ∧ some k_ ≠ ((.slice Ao47 t372.length co47) : Value).ownBlock) (.slice Ao58 t378.length co58) t378) ∧ Aside0 (wc.heap[gb360]? = some (.cells #[(.slice A0_0 l0_0.length c0_0), .int .i64 a0_1] 25 (0, 0))) ∧ Aside0 (wc.heap[gb361]? = some (.cells #[(.slice A1_0 l1_0.length c1_0), .int .i64 a1_1] 25 (0, 0))) ∧ Aside0 (wc.heap[gb362]? = some (.cells #[.int .u64 a2_0, .int .u64 a2_1] 54 (0, 0))) ∧ Aside0 (wc.heap[gb371]? = some (.cells #[(.slice Ao39 t366.length co39), .int .i64 t369] 25 (0, 0))) ∧ Aside0 (wc.heap[gb377]? = some (.cells #[(.slice Ao47 t372.length co47), .int .i64 t375] 25 (0, 0))) ∧ Aside0 (wc.heap[gb383]? = some (.cells #[(.slice Ao58 t378.length co58), .int .i64 t381] 25 (0, 0))) ∧ Aside0 (Below w.heap.size w wc))
                    case first =>
                      have H := HC157.out
                      clear HC157
                      replace H := dle H
                      rcases H with ⟨c158b0, H⟩ | ⟨c158b0, H⟩
                      focus
                        (first | rw [c158b0] | (simp only [i64_w, i32_w]; rw [c158b0]) | skip)
                        have H' := Aside0.mk H
                        clear H
                      rotate_left
                      focus
                        (first | rw [c158b0] | (simp only [i64_w, i32_w]; rw [c158b0]) | skip)
                        replace H := dgt H
                        rcases H with ⟨c159b0, H⟩ | ⟨c159b0, H⟩
                        focus
                          have H' := Aside0.mk H
                          clear H
                        rotate_left
                        focus
                          replace H := dle H
                          rcases H with ⟨c160b0, H⟩ | ⟨c160b0, H⟩
                          focus
                            obtain ⟨ji161, hji161⟩ : ∃ j_ : Int, (IntKind.u64.wrap ((wrap64 (a2_1)))) = j_ := ⟨_, rfl⟩
                            replace H : (if 0 ≤ (ji161) then (windroselaw17_BitsPuts.j3 kj106 a2_0 (wrap64 (a2_1)) t370 t389 ((shr .u64 a2_0 (ji161)) != 0) t366 t369) else (none)) = some r := by first | (rw [hji161] at H; exact H) | (simp only [hji161] at H ⊢; exact H)
                            by_cases c162 : 0 ≤ (ji161)
                            rotate_left
                            · rw [if_neg c162] at H
                              exact absurd H (by simp)
                            rw [if_pos c162] at H
                            have c162b0 := eq_true c162
                            have c162b1 : decide (0 ≤ (ji161)) = true := decide_eq_true c162
                            clear c162
                            obtain ⟨ji163, hji163⟩ : ∃ j_ : Int, (shr .u64 a2_0 (ji161)) = j_ := ⟨_, rfl⟩
                            replace H : (windroselaw17_BitsPuts.j3 kj106 a2_0 (wrap64 (a2_1)) t370 t389 ((ji163) != 0) t366 t369) = some r := by first | (rw [hji163] at H; exact H) | (simp only [hji163] at H ⊢; exact H)
                            have hji163_ : (a2_0 / 2 ^ min (ji161).toNat 64) = ji163 := hji163
                            have hji163z : (ji161) ≤ 64 → (a2_0 / 2 ^ (ji161).toNat) = ji163 := shr_small hji163
                            have H' := Aside0.mk H
                            clear H
                          rotate_left
                          focus
                            have H' := Aside0.mk H
                            clear H
                      all_goals
                        go_wp2
                        go_meet
                        first
                          | case rel => exact ⟨_, (true), sm_, H', ⟨by have := HJ3.out; have := HJ32.out; have := HJ106.out; first | omega | exact Nat.le_refl _⟩, ⟨(ro_ HO_15)⟩, ⟨(ro_ HO_372000)⟩, ⟨(ro_ HO_378000)⟩, ⟨(ro_ HO_384000)⟩, ⟨(bo_ BK360)⟩, ⟨(bo_ BK361)⟩, ⟨(bo_ BK362)⟩, ⟨(bo_ BK371)⟩, ⟨(bo_ BK377)⟩, ⟨(bo_ BK383)⟩, ⟨bl_⟩⟩
                          | case rel => exact ⟨_, (((ji163) != 0)), (by first | rfl | (simp; done) | (simp only [← hji163] <;> (first | rfl | simp)) | (simp [*]; done)), H', ⟨by have := HJ3.out; have := HJ32.out; have := HJ106.out; first | omega | exact Nat.le_refl _⟩, ⟨(ro_ HO_15)⟩, ⟨(ro_ HO_372000)⟩, ⟨(ro_ HO_378000)⟩, ⟨(ro_ HO_384000)⟩, ⟨(bo_ BK360)⟩, ⟨(bo_ BK361)⟩, ⟨(bo_ BK362)⟩, ⟨(bo_ BK371)⟩, ⟨(bo_ BK377)⟩, ⟨(bo_ BK383)⟩, ⟨bl_⟩⟩
                          | case rel => exact ⟨_, (false), sm_, H', ⟨by have := HJ3.out; have := HJ32.out; have := HJ106.out; first | omega | exact Nat.le_refl _⟩, ⟨(ro_ HO_15)⟩, ⟨(ro_ HO_372000)⟩, ⟨(ro_ HO_378000)⟩, ⟨(ro_ HO_384000)⟩, ⟨(bo_ BK360)⟩, ⟨(bo_ BK361)⟩, ⟨(bo_ BK362)⟩, ⟨(bo_ BK371)⟩, ⟨(bo_ BK377)⟩, ⟨(bo_ BK383)⟩, ⟨bl_⟩⟩
                    case rest =>
                      clear HC157
                      try clear c23
                      obtain ⟨kq, x134_156, rfl, HA, HJ156, HO_15, HO_372000, HO_378000, HO_384000, BK360, BK361, BK362, BK371, BK377, BK383, HB⟩ := hcut
                      cases kq with
                      | zero => exact absurd HA.out (by simp [windroselaw17_BitsPuts.j3])
                      | succ kj156 =>
                        have H := HA.out
                        clear HA
                        simp only [windroselaw17_BitsPuts.j3] at H
                        replace H := dbool H
                        rcases H with ⟨rfl, H⟩ | ⟨rfl, H⟩
                        focus
                          replace H := bindA H
                          obtain ⟨t423, A165, H⟩ := H
                          try dsimp only at H
                          by_cases c166 : t423 = true
                          rotate_left
                          · replace c166 := Bool.eq_false_iff.mpr c166
                            subst c166
                            have H1 : (none) = some r := by rw [if_neg (show ¬ (false = true) by decide)] at H; exact H
                            exact absurd H1 (by simp)
                          subst c166
                          have H1 : ((windroselaw17_awake.f kj156).bind fun t424 => (some t424)) = some r := by rw [if_pos rfl] at H; exact H
                          clear H
                          have H := H1
                          clear H1
                          replace H := bindA H
                          obtain ⟨t424, A167, H⟩ := H
                          try dsimp only at H
                          obtain rfl := Option.some.inj H
                          have hnb168 := NB371_360.out
                          have hnc168 := NB360_371.out
                          have hnb169 := NB371_361.out
                          have hnc169 := NB361_371.out
                          have hnb170 := NB371_362.out
                          have hnc170 := NB362_371.out
                          have hnb171 := NB371_377.out
                          have hnc171 := NB377_371.out
                          have hnb172 := NB371_383.out
                          have hnc172 := NB383_371.out
                          obtain ⟨hcz173_0, hcz173_1, hfz173_0, hfz173_1⟩ := blk_at2 BK371.out
                          obtain ⟨Ao174, co174, eo174⟩ := Kd.R_slice HO_15.out
                          subst eo174
                        rotate_left
                        focus
                          obtain ⟨y425, hy425⟩ : ∃ y_ : List Bool, y_ = (([] : List Bool)) := ⟨_, rfl⟩
                          replace H : (if y425.length + t389.length < 140737488355328 then ((some (y425 ++ t389 : List Bool)).bind fun y428 => ((windroseref17_Low.f kj156 a2_0 (wrap64 (a2_1))).bind fun t431 => (if y428.length + t431.length < 140737488355328 then ((windroselaw17_told.f kj156 t366 t369 t370 (y428 ++ t431) 0).bind fun t437 => (if t437 = true then ((windroselaw17_awake.f kj156).bind fun t438 => (some t438)) else (none))) else (none)))) else (none)) = some r := by first | (rw [hy425]; with_reducible exact H) | (have H2_ := (Option.bind_some _ _).symm.trans H; rw [hy425]; with_reducible exact H2_) | (have H2_ := (Option.bind_some _ _).symm.trans H; with_reducible exact H2_) | with_reducible exact H | (rw [hy425]; exact H) | exact H
                          have Ny425 := Aside0.mk hy425
                          clear hy425
                          by_cases c185 : y425.length + t389.length < 140737488355328
                          rotate_left
                          · rw [if_neg c185] at H
                            exact absurd H (by simp)
                          rw [if_pos c185] at H
                          have LMc185 := Aside0.mk c185
                          clear c185
                          obtain ⟨y428, hy428⟩ : ∃ y_ : List Bool, y_ = (y425 ++ t389) := ⟨_, rfl⟩
                          replace H : ((windroseref17_Low.f kj156 a2_0 (wrap64 (a2_1))).bind fun t431 => (if y428.length + t431.length < 140737488355328 then ((windroselaw17_told.f kj156 t366 t369 t370 (y428 ++ t431) 0).bind fun t437 => (if t437 = true then ((windroselaw17_awake.f kj156).bind fun t438 => (some t438)) else (none))) else (none))) = some r := by first | (rw [hy428]; with_reducible exact H) | (have H2_ := (Option.bind_some _ _).symm.trans H; rw [hy428]; with_reducible exact H2_) | (have H2_ := (Option.bind_some _ _).symm.trans H; with_reducible exact H2_) | with_reducible exact H | (rw [hy428]; exact H) | exact H
                          have Ny428 := Aside0.mk hy428
                          clear hy428
                          replace H := bindA H
                          obtain ⟨t431, A186, H⟩ := H
                          try dsimp only at H
                          by_cases c187 : y428.length + t431.length < 140737488355328
                          rotate_left
                          · rw [if_neg c187] at H
                            exact absurd H (by simp)
                          rw [if_pos c187] at H
                          have LMc187 := Aside0.mk c187
                          clear c187
                          obtain ⟨y434, hy434⟩ : ∃ y_ : List Bool, y_ = (y428 ++ t431) := ⟨_, rfl⟩
                          replace H : ((windroselaw17_told.f kj156 t366 t369 t370 y434 0).bind fun t437 => (if t437 = true then ((windroselaw17_awake.f kj156).bind fun t438 => (some t438)) else (none))) = some r := by first | (rw [hy434]; with_reducible exact H) | (have H2_ := (Option.bind_some _ _).symm.trans H; rw [hy434]; with_reducible exact H2_) | (have H2_ := (Option.bind_some _ _).symm.trans H; with_reducible exact H2_) | with_reducible exact H | (rw [hy434]; exact H) | exact H
                          have Ny434 := Aside0.mk hy434
                          clear hy434
                          replace H := bindA H
                          obtain ⟨t437, A188, H⟩ := H
                          try dsimp only at H
                          by_cases c189 : t437 = true
                          rotate_left
                          · replace c189 := Bool.eq_false_iff.mpr c189
                            subst c189
                            have H1 : (none) = some r := by rw [if_neg (show ¬ (false = true) by decide)] at H; exact H
                            exact absurd H1 (by simp)
                          subst c189
                          have H1 : ((windroselaw17_awake.f kj156).bind fun t438 => (some t438)) = some r := by rw [if_pos rfl] at H; exact H
                          clear H
                          have H := H1
                          clear H1
                          replace H := bindA H
                          obtain ⟨t438, A190, H⟩ := H
                          try dsimp only at H
                          obtain rfl := Option.some.inj H
                        all_goals
                          first
                            | go_wp2_with (first | ((with_reducible refine gate_callee (f := 31) rfl ?_); refine goL_ (some 138) Try.func31 #[.agg #[.slice Ao39 t366.length co39, .int .i64 t369], .int .i64 t370, .slice Ao174 t389.length co174, .int .i64 1] ?_; (with_reducible refine (windroselaw17_told.calls kj156 _ _ t366 t369 t370 _ _ t389 1 true _ ?side1 ?side2 ?side3 ?side4 A165.out).mono ?_); (case side1 => exact cr_ HO_372000); (case side2 => exact (Kd.R_reads' HO_372000.out).2.1); (case side3 => exact cr_ HO_15); (case side4 => exact (Kd.R_reads' HO_15.out).2.1); rintro e w7000 ⟨rfl, hb⟩; refine ⟨_, rfl, ?_⟩; have n_ := pk11 (Kd.R_below (ro_ HO_15) hb) (Kd.R_below (ro_ HO_372000) hb) (Kd.R_below (ro_ HO_378000) hb) (Kd.R_below (ro_ HO_384000) hb) (blk_below (bo_ BK360) hb) (blk_below (bo_ BK361) hb) (blk_below (bo_ BK362) hb) (blk_below (bo_ BK371) hb) (blk_below (bo_ BK377) hb) (blk_below (bo_ BK383) hb) (below_step bl_ hb); clear HO_15 HO_372000 HO_378000 HO_384000 BK360 BK361 BK362 BK371 BK377 BK383 HB; obtain ⟨HO_15, HO_372000, HO_378000, HO_384000, BK360, BK361, BK362, BK371, BK377, BK383, HB⟩ := n_; (try clear hb)) | (go_at_call 20; (with_reducible refine (windroselaw17_awake.calls kj156  t424 _ A167.out).mono ?_); rintro e w7001 ⟨rfl, hb⟩; have n_ := pk11 (Kd.R_below (ro_ HO_15) hb) (Kd.R_below (ro_ HO_372000) hb) (Kd.R_below (ro_ HO_378000) hb) (Kd.R_below (ro_ HO_384000) hb) (blk_below (bo_ BK360) hb) (blk_below (bo_ BK361) hb) (blk_below (bo_ BK362) hb) (blk_below (bo_ BK371) hb) (blk_below (bo_ BK377) hb) (blk_below (bo_ BK383) hb) (below_step bl_ hb); clear HO_15 HO_372000 HO_378000 HO_384000 BK360 BK361 BK362 BK371 BK377 BK383 HB; obtain ⟨HO_15, HO_372000, HO_378000, HO_384000, BK360, BK361, BK362, BK371, BK377, BK383, HB⟩ := n_; (try clear hb)))
                              go_ret
                              exact ⟨rf_, bl_⟩
                            | try go_wp2
                              have n_ := pk11 (Kd.R_drew HO_15.out) (Kd.R_drew HO_372000.out) (Kd.R_drew HO_378000.out) (Kd.R_drew HO_384000.out) (blk_drew BK360.out) (blk_drew BK361.out) (blk_drew BK362.out) (blk_drew BK371.out) (blk_drew BK377.out) (blk_drew BK383.out) (below_drew1 HB.out)
                              clear HO_15 HO_372000 HO_378000 HO_384000 BK360 BK361 BK362 BK371 BK377 BK383 HB
                              obtain ⟨HO_15, HO_372000, HO_378000, HO_384000, BK360, BK361, BK362, BK371, BK377, BK383, HB⟩ := n_
                              refine start_ (n := 14) (S := fun w' => w'.cell? ⟨gb371, 0, none⟩ = some (.slice Ao39 t366.length co39) ∧ w'.cell? ⟨gb371, 1, none⟩ = some (.int .i64 t369)) (ds := []) #[false, false, false, false, false, false, false, false, false, false, false, false, false, false] (by kernel_rfl) rfl rfl ⟨(blk_cell BK371.out 0).trans rfl, (blk_cell BK371.out 1).trans rfl⟩ (fun hHeld => ?_); refine with_tabW windroselaw17_BitsPuts.tab20 windroselaw17_BitsPuts.bits20 (fun HT_ HW_ => ?_)
                              generalize wc.drew = w7000 at HO_15 HO_372000 HO_378000 HO_384000 BK360 BK361 BK362 BK371 BK377 BK383 HB hHeld ⊢
                              refine pure_ (i := 1) (N := some 143) (v := ?_) (a' := ?_) #[false, true, false, false, false, false, false, false, false, false, false, false, false, false] rfl rfl (any_of HT_.out (by kernel_rfl)) (fun _ _ _ h => h) (Or.inl ⟨by rfl, ?_⟩) ?_ ?_
                              rotate_left
                              · intro w'
                                go_simp
                                with_reducible rfl
                              rotate_left
                              · simp only [ap_, sb_, s0_, s1_, i64_w, i32_w]
                                rfl
                              refine pure_ (i := 3) (N := some 145) (v := ?_) (a' := ?_) #[false, true, false, true, false, false, false, false, false, false, false, false, false, false] rfl rfl (any_of HT_.out (by kernel_rfl)) (fun _ _ _ h => h) (Or.inl ⟨by rfl, ?_⟩) ?_ ?_
                              rotate_left
                              · intro w'
                                go_simp
                                with_reducible rfl
                              rotate_left
                              · simp only [ap_, sb_, s0_, s1_, i64_w, i32_w]
                                rfl
                              refine pure_ (i := 5) (N := some 147) (v := ?_) (a' := ?_) #[false, true, false, true, false, true, false, false, false, false, false, false, false, false] rfl rfl (any_of HT_.out (by kernel_rfl)) (fun _ _ _ h => h) (Or.inl ⟨by rfl, ?_⟩) ?_ ?_
                              rotate_left
                              · intro w'
                                go_simp
                                with_reducible rfl
                              rotate_left
                              · simp only [ap_, sb_, s0_, s1_, i64_w, i32_w]
                                rfl
                              refine pure_ (i := 6) (N := some 148) (v := ?_) (a' := ?_) #[false, true, false, true, false, true, true, false, false, false, false, false, false, false] rfl rfl (any_of HT_.out (by kernel_rfl)) (fun _ _ _ h => h) (Or.inl ⟨by rfl, ?_⟩) ?_ ?_
                              rotate_left
                              · intro w'
                                go_simp
                                with_reducible rfl
                              rotate_left
                              · simp only [ap_, sb_, s0_, s1_, i64_w, i32_w]
                                rfl
                              refine take_ (i := 0) (N := some 142) (v := ?_) (a' := ?_) #[true, true, false, true, false, true, true, false, false, false, false, false, false, false] rfl rfl (take_ofW HT_.out HW_.out (by kernel_rfl)) (fun _ _ _ h => h) (Or.inl ⟨by rfl, ?_⟩) hHeld ?_ ?_
                              rotate_left
                              · rintro w' ⟨s0, s1⟩
                                go_simp
                                with_reducible rfl
                              rotate_left
                              · simp only [ap_, sb_, s0_, s1_, i64_w, i32_w]
                                rfl
                              refine one_ (i := 2) (N := some 144) #[true, true, true, true, false, true, true, false, false, false, false, false, false, false] rfl rfl (one_of HT_.out (by kernel_rfl)) (by decide) (fun K hK => ?_)
                              refine Kd.R_lit_step Kd.bool _ 4 ?hg (N := 144) ?hd (xs := ([] : List Bool)) (inner := []) (ok := fun _ => True) (okp := fun _ => True) ?hr ?hp (fun _ hk => hk) trivial (Below.refl _ _) (Nat.le_refl _) (by simp) ?_; (case hd => rfl); (case hg => rfl); (case hr => first | (go_simp; done) | (go_simp; rfl)); (case hp => exact (Reps.none _ _))
                              intro v7000 w7001 ho7000 hb hg_ hnew_
                              clear hg_ hnew_
                              (first | rw [← Ny425.out] at ho7000 | (simp only [Int.reduceToNat] at ho7000; rw [← Ny425.out] at ho7000))
                              have n_ := pk12 (Kd.R_elder' (ro_ HO_15) (Kd.R_base ho7000) hb) (Kd.R_below (ro_ HO_372000) hb) (Kd.R_below (ro_ HO_378000) hb) (Kd.R_below (ro_ HO_384000) hb) (Kd.R_lower (Kd.R_new' ho7000 (Kd.R_lt (ro_ HO_15))) (below_size bl_)) (blk_below (bo_ BK360) hb) (blk_below (bo_ BK361) hb) (blk_below (bo_ BK362) hb) (blk_below (bo_ BK371) hb) (blk_below (bo_ BK377) hb) (blk_below (bo_ BK383) hb) (below_step bl_ hb)
                              clear HO_15 HO_372000 HO_378000 HO_384000 BK360 BK361 BK362 BK371 BK377 BK383 HB
                              obtain ⟨HO_15, HO_372000, HO_378000, HO_384000, HO7000, BK360, BK361, BK362, BK371, BK377, BK383, HB⟩ := n_
                              clear hb ho7000
                              obtain ⟨Ao7000, co7000, eo7000⟩ := Kd.R_slice HO_15.out
                              (first | subst eo7000 | (injection eo7000 with f1_ f2_ f3_; have f7000_ := f1_.symm; have f7001_ := f3_.symm; clear f1_ f2_ f3_; subst f7000_; subst f7001_))
                              refine hK.out _ _ ⟨(blk_cell BK371.out 0).trans rfl, (blk_cell BK371.out 1).trans rfl⟩ (fun hHeld => ?_)
                              clear hK K
                              refine norm_ (a' := ?_) ?_ ?_
                              rotate_left
                              · show Act.put _ (some 144) _ = _
                                simp only [ap_, sb_, s0_, s1_, i64_w, i32_w]
                                rfl
                              refine one_ (i := 4) (N := some 146) #[true, true, true, true, true, true, true, false, false, false, false, false, false, false] rfl rfl (one_of HT_.out (by kernel_rfl)) (by decide) (fun K hK => ?_)
                              refine Kd.R_append_rows_step Kd.bool (w0 := w) w.heap.size (by rfl) (.tmp 144) (.tmp 145) 39 4 (.bool false) 1 rfl Try.underlying39 info4 rfl (by decide) (by omega) v7000 y425 t389 _ _ _ (fun k_ => some k_ ≠ (.slice Ao7000 t389.length co7000 : Value).ownBlock) (fun _ => False) rfl rfl ?aO ?aR (fun _ _ h => h) (fun _ h => h.elim) ?aF ?aB ?aS ?aL ?_
                              (case aR => exact cr_ HO_15)
                              (case aB => exact bl_)
                              (case aF => exact (fun k_ hk => Kd.fresh' (Kd.R_lt (ro_ HO_15)) k_ hk))
                              (case aO => exact (rt_ (Kd.R_mono HO7000.out (fun _ hk => hk.2))))
                              (case aS => exact (below_size bl_))
                              (case aL => have := LMc185.out; omega)
                              intro v7001 w7002 ho hb hg hat
                              rw [← Ny428.out] at ho
                              have n_ := pk12 (Kd.R_after (ok := (fun _ => True)) (ro_ HO_15) hg hat) (Kd.R_over' (ro_ HO_372000) (Kd.R_typed (ro_ HO7000)) (by decide) hg) (Kd.R_over' (ro_ HO_378000) (Kd.R_typed (ro_ HO7000)) (by decide) hg) (Kd.R_over' (ro_ HO_384000) (Kd.R_typed (ro_ HO7000)) (by decide) hg) (blk_grown (bo_ BK360) hg (Kd.R_ne HO7000.out BK360.out (by decide))) (blk_grown (bo_ BK361) hg (Kd.R_ne HO7000.out BK361.out (by decide))) (blk_grown (bo_ BK362) hg (Kd.R_ne HO7000.out BK362.out (by decide))) (blk_grown (bo_ BK371) hg (Kd.R_ne HO7000.out BK371.out (by decide))) (blk_grown (bo_ BK377) hg (Kd.R_ne HO7000.out BK377.out (by decide))) (blk_grown (bo_ BK383) hg (Kd.R_ne HO7000.out BK383.out (by decide))) (hb) (ho)
                              clear HO_15 HO_372000 HO_378000 HO_384000 BK360 BK361 BK362 BK371 BK377 BK383 HB HO7000
                              obtain ⟨HO_15, HO_372000, HO_378000, HO_384000, BK360, BK361, BK362, BK371, BK377, BK383, HB, HO7001⟩ := n_
                              clear ho hb hg hat
                              refine hK.out _ _ ⟨(blk_cell BK371.out 0).trans rfl, (blk_cell BK371.out 1).trans rfl⟩ (fun hHeld => ?_)
                              clear hK K
                              refine norm_ (a' := ?_) ?_ ?_
                              rotate_left
                              · show Act.put _ (some 146) _ = _
                                simp only [ap_, sb_, s0_, s1_, i64_w, i32_w]
                                rfl
                              refine one_ (i := 7) (N := some 149) #[true, true, true, true, true, true, true, true, false, false, false, false, false, false] rfl rfl (one_of HT_.out (by kernel_rfl)) (by decide) (fun K hK => ?_)
                              refine goes_ Try.func35 (by kernel_rfl) rfl #[.int .u64 a2_0, .int .i64 (wrap64 (a2_1))] (by rfl) rfl rfl (by (try simp only [List.map_toArray, List.map_cons, List.map_nil]); first | done | rfl | (simp only [List.length_drop, List.length_take]; rfl)) ?_
                              with_reducible refine (windroseref17_Low.calls kj156 a2_0 (wrap64 (a2_1)) t431 _ A186.out).mono ?_
                              rintro e w7003 ⟨v7002, rfl, ho0, hb⟩
                              refine ⟨_, rfl, ?_⟩
                              have n0_ := Aside0.mk (Kd.R_elder' (ro_ HO_15) (Kd.R_base ho0) hb)
                              have n1_ := Aside0.mk (Kd.R_below (ro_ HO_372000) hb)
                              have n2_ := Aside0.mk (Kd.R_below (ro_ HO_378000) hb)
                              have n3_ := Aside0.mk (Kd.R_below (ro_ HO_384000) hb)
                              have n4_ := Aside0.mk (Kd.R_elder' (ro_ HO7001) (Kd.R_base ho0) hb)
                              have n5_ := Aside0.mk (Kd.R_lower (Kd.R_new' (Kd.R_new' ho0 (Kd.R_lt (ro_ HO_15))) (Kd.R_lt (ro_ HO7001))) (below_size bl_))
                              have n6_ := Aside0.mk (blk_below (bo_ BK360) hb)
                              have n7_ := Aside0.mk (blk_below (bo_ BK361) hb)
                              have n8_ := Aside0.mk (blk_below (bo_ BK362) hb)
                              have n9_ := Aside0.mk (blk_below (bo_ BK371) hb)
                              have n10_ := Aside0.mk (blk_below (bo_ BK377) hb)
                              have n11_ := Aside0.mk (blk_below (bo_ BK383) hb)
                              have n12_ := Aside0.mk (below_step bl_ hb)
                              clear HO_15
                              clear HO_372000
                              clear HO_378000
                              clear HO_384000
                              clear HO7001
                              clear BK360
                              clear BK361
                              clear BK362
                              clear BK371
                              clear BK377
                              clear BK383
                              clear HB
                              have HO_15 := n0_
                              have HO_372000 := n1_
                              have HO_378000 := n2_
                              have HO_384000 := n3_
                              have HO7001 := n4_
                              have HO7002 := n5_
                              have BK360 := n6_
                              have BK361 := n7_
                              have BK362 := n8_
                              have BK371 := n9_
                              have BK377 := n10_
                              have BK383 := n11_
                              have HB := n12_
                              clear n0_ n1_ n2_ n3_ n4_ n5_ n6_ n7_ n8_ n9_ n10_ n11_ n12_
                              (try clear hb)
                              (try clear hb2)
                              (try clear hk)
                              (try clear hi)
                              (try clear ho0)
                              obtain ⟨Ao7001, co7001, eo7001⟩ := Kd.R_slice HO7002.out
                              (first | subst eo7001 | (injection eo7001 with f1_ f2_ f3_; have f7000_ := f1_.symm; have f7001_ := f3_.symm; clear f1_ f2_ f3_; subst f7000_; subst f7001_))
                              refine hK.out _ _ ⟨(blk_cell BK371.out 0).trans rfl, (blk_cell BK371.out 1).trans rfl⟩ (fun hHeld => ?_)
                              clear hK K
                              refine norm_ (a' := ?_) ?_ ?_
                              rotate_left
                              · show Act.put _ (some 149) _ = _
                                simp only [ap_, sb_, s0_, s1_, i64_w, i32_w]
                                rfl
                              refine one_ (i := 8) (N := some 150) #[true, true, true, true, true, true, true, true, true, false, false, false, false, false] rfl rfl (one_of HT_.out (by kernel_rfl)) (by decide) (fun K hK => ?_)
                              refine Kd.R_append_rows_step Kd.bool (w0 := w) w.heap.size (by rfl) (.tmp 146) (.tmp 149) 39 4 (.bool false) 1 rfl Try.underlying39 info4 rfl (by decide) (by omega) v7001 y428 t431 _ _ _ (fun k_ => some k_ ≠ (.slice Ao7000 t389.length co7000 : Value).ownBlock ∧ some k_ ≠ (.slice Ao7001 t431.length co7001 : Value).ownBlock) (fun _ => False) rfl rfl ?aO ?aR (fun _ _ h => h) (fun _ h => h.elim) ?aF ?aB ?aS ?aL ?_
                              (case aR => exact cr_ HO7002)
                              (case aB => exact bl_)
                              (case aF => exact (fun k_ hk => ⟨Kd.fresh' (Kd.R_lt (ro_ HO_15)) k_ hk, Kd.fresh' (Kd.R_lt (ro_ HO7002)) k_ hk⟩))
                              (case aO => exact (ro_ HO7001))
                              (case aS => exact (below_size bl_))
                              (case aL => have := LMc187.out; omega)
                              intro v7003 w7004 ho hb hg hat
                              rw [← Ny434.out] at ho
                              have n0_ := Aside0.mk (Kd.R_after (ok := (fun k_ => some k_ ≠ (.slice Ao7001 t431.length co7001 : Value).ownBlock)) (rt_ (Kd.R_mono HO_15.out (fun _ hk => ⟨hk.2, hk.1.2⟩))) hg hat)
                              have n1_ := Aside0.mk (Kd.R_over' (ro_ HO_372000) (Kd.R_typed (ro_ HO7001)) (by decide) hg)
                              have n2_ := Aside0.mk (Kd.R_over' (ro_ HO_378000) (Kd.R_typed (ro_ HO7001)) (by decide) hg)
                              have n3_ := Aside0.mk (Kd.R_over' (ro_ HO_384000) (Kd.R_typed (ro_ HO7001)) (by decide) hg)
                              have n4_ := Aside0.mk (blk_grown (bo_ BK360) hg (Kd.R_ne HO7001.out BK360.out (by decide)))
                              have n5_ := Aside0.mk (blk_grown (bo_ BK361) hg (Kd.R_ne HO7001.out BK361.out (by decide)))
                              have n6_ := Aside0.mk (blk_grown (bo_ BK362) hg (Kd.R_ne HO7001.out BK362.out (by decide)))
                              have n7_ := Aside0.mk (blk_grown (bo_ BK371) hg (Kd.R_ne HO7001.out BK371.out (by decide)))
                              have n8_ := Aside0.mk (blk_grown (bo_ BK377) hg (Kd.R_ne HO7001.out BK377.out (by decide)))
                              have n9_ := Aside0.mk (blk_grown (bo_ BK383) hg (Kd.R_ne HO7001.out BK383.out (by decide)))
                              have n10_ := Aside0.mk (Kd.R_after (ok := (fun k_ => some k_ ≠ (.slice Ao7000 t389.length co7000 : Value).ownBlock)) (rt_ (Kd.R_mono HO7002.out (fun _ hk => ⟨hk.1.2, hk.2⟩))) hg hat)
                              have n11_ := Aside0.mk (hb)
                              have n12_ := Aside0.mk (ho)
                              clear HO_15
                              clear HO_372000
                              clear HO_378000
                              clear HO_384000
                              clear BK360
                              clear BK361
                              clear BK362
                              clear BK371
                              clear BK377
                              clear BK383
                              clear HO7002
                              clear HB
                              clear HO7001
                              have HO_15 := n0_
                              have HO_372000 := n1_
                              have HO_378000 := n2_
                              have HO_384000 := n3_
                              have BK360 := n4_
                              have BK361 := n5_
                              have BK362 := n6_
                              have BK371 := n7_
                              have BK377 := n8_
                              have BK383 := n9_
                              have HO7002 := n10_
                              have HB := n11_
                              have HO7003 := n12_
                              clear n0_ n1_ n2_ n3_ n4_ n5_ n6_ n7_ n8_ n9_ n10_ n11_ n12_
                              clear ho hb hg hat
                              obtain ⟨Ao7002, co7002, eo7002⟩ := Kd.R_slice HO7003.out
                              (first | subst eo7002 | (injection eo7002 with f1_ f2_ f3_; have f7000_ := f1_.symm; have f7001_ := f3_.symm; clear f1_ f2_ f3_; subst f7000_; subst f7001_))
                              refine hK.out _ _ ⟨(blk_cell BK371.out 0).trans rfl, (blk_cell BK371.out 1).trans rfl⟩ (fun hHeld => ?_)
                              clear hK K
                              refine norm_ (a' := ?_) ?_ ?_
                              rotate_left
                              · show Act.put _ (some 150) _ = _
                                simp only [ap_, sb_, s0_, s1_, i64_w, i32_w]
                                rfl
                              refine one_ (i := 9) (N := some 151) #[true, true, true, true, true, true, true, true, true, true, false, false, false, false] rfl rfl (one_of HT_.out (by kernel_rfl)) (by decide) (fun K hK => ?_)
                              refine goes_ Try.func31 (by kernel_rfl) rfl #[.agg #[.slice Ao39 t366.length co39, .int .i64 t369], .int .i64 t370, .slice Ao7002 y434.length co7002, .int .i64 0] (by rfl) rfl rfl (by (try simp only [List.map_toArray, List.map_cons, List.map_nil]); first | done | rfl | (simp only [List.length_drop, List.length_take]; rfl)) ?_
                              with_reducible refine (windroselaw17_told.calls kj156 _ _ t366 t369 t370 _ _ y434 0 true _ ?side1 ?side2 ?side3 ?side4 A188.out).mono ?_
                              (case side1 => exact cr_ HO_372000)
                              (case side2 => exact (Kd.R_reads' HO_372000.out).2.1)
                              (case side3 => exact cr_ HO7003)
                              (case side4 => exact (Kd.R_reads' HO7003.out).2.1)
                              rintro e w7005 ⟨rfl, hb⟩
                              refine ⟨_, rfl, ?_⟩
                              have n0_ := Aside0.mk (Kd.R_below (ro_ HO_15) hb)
                              have n1_ := Aside0.mk (Kd.R_below (ro_ HO_372000) hb)
                              have n2_ := Aside0.mk (Kd.R_below (ro_ HO_378000) hb)
                              have n3_ := Aside0.mk (Kd.R_below (ro_ HO_384000) hb)
                              have n4_ := Aside0.mk (Kd.R_below (ro_ HO7002) hb)
                              have n5_ := Aside0.mk (Kd.R_below (ro_ HO7003) hb)
                              have n6_ := Aside0.mk (blk_below (bo_ BK360) hb)
                              have n7_ := Aside0.mk (blk_below (bo_ BK361) hb)
                              have n8_ := Aside0.mk (blk_below (bo_ BK362) hb)
                              have n9_ := Aside0.mk (blk_below (bo_ BK371) hb)
                              have n10_ := Aside0.mk (blk_below (bo_ BK377) hb)
                              have n11_ := Aside0.mk (blk_below (bo_ BK383) hb)
                              have n12_ := Aside0.mk (below_step bl_ hb)
                              clear HO_15
                              clear HO_372000
                              clear HO_378000
                              clear HO_384000
                              clear HO7002
                              clear HO7003
                              clear BK360
                              clear BK361
                              clear BK362
                              clear BK371
                              clear BK377
                              clear BK383
                              clear HB
                              have HO_15 := n0_
                              have HO_372000 := n1_
                              have HO_378000 := n2_
                              have HO_384000 := n3_
                              have HO7002 := n4_
                              have HO7003 := n5_
                              have BK360 := n6_
                              have BK361 := n7_
                              have BK362 := n8_
                              have BK371 := n9_
                              have BK377 := n10_
                              have BK383 := n11_
                              have HB := n12_
                              clear n0_ n1_ n2_ n3_ n4_ n5_ n6_ n7_ n8_ n9_ n10_ n11_ n12_
                              (try clear hb)
                              (try clear hb2)
                              (try clear hk)
                              (try clear hi)
                              refine hK.out _ _ ⟨(blk_cell BK371.out 0).trans rfl, (blk_cell BK371.out 1).trans rfl⟩ (fun hHeld => ?_)
                              clear hK K
                              refine norm_ (a' := ?_) ?_ ?_
                              rotate_left
                              · show Act.put _ (some 151) _ = _
                                simp only [ap_, sb_, s0_, s1_, i64_w, i32_w]
                                rfl
                              refine pure_ (i := 10) (N := some 152) (v := ?_) (a' := ?_) #[true, true, true, true, true, true, true, true, true, true, true, false, false, false] rfl rfl (any_of HT_.out (by kernel_rfl)) (fun _ _ _ h => h) (Or.inl ⟨by rfl, ?_⟩) ?_ ?_
                              rotate_left
                              · intro w'
                                go_simp
                                with_reducible rfl
                              rotate_left
                              · simp only [ap_, sb_, s0_, s1_, i64_w, i32_w]
                                rfl
                              refine one_ (i := 11) (N := some 153) #[true, true, true, true, true, true, true, true, true, true, true, true, false, false] rfl rfl (one_of HT_.out (by kernel_rfl)) (by decide) (fun K hK => ?_)
                              refine goes_ Try.func20 (by kernel_rfl) rfl #[] (by rfl) rfl rfl (by (try simp only [List.map_toArray, List.map_cons, List.map_nil]); first | done | rfl | (simp only [List.length_drop, List.length_take]; rfl)) ?_
                              with_reducible refine (windroselaw17_awake.calls kj156  t438 _ A190.out).mono ?_
                              rintro e w7006 ⟨rfl, hb⟩
                              refine ⟨_, rfl, ?_⟩
                              have n0_ := Aside0.mk (Kd.R_below (ro_ HO_15) hb)
                              have n1_ := Aside0.mk (Kd.R_below (ro_ HO_372000) hb)
                              have n2_ := Aside0.mk (Kd.R_below (ro_ HO_378000) hb)
                              have n3_ := Aside0.mk (Kd.R_below (ro_ HO_384000) hb)
                              have n4_ := Aside0.mk (Kd.R_below (ro_ HO7002) hb)
                              have n5_ := Aside0.mk (Kd.R_below (ro_ HO7003) hb)
                              have n6_ := Aside0.mk (blk_below (bo_ BK360) hb)
                              have n7_ := Aside0.mk (blk_below (bo_ BK361) hb)
                              have n8_ := Aside0.mk (blk_below (bo_ BK362) hb)
                              have n9_ := Aside0.mk (blk_below (bo_ BK371) hb)
                              have n10_ := Aside0.mk (blk_below (bo_ BK377) hb)
                              have n11_ := Aside0.mk (blk_below (bo_ BK383) hb)
                              have n12_ := Aside0.mk (below_step bl_ hb)
                              clear HO_15
                              clear HO_372000
                              clear HO_378000
                              clear HO_384000
                              clear HO7002
                              clear HO7003
                              clear BK360
                              clear BK361
                              clear BK362
                              clear BK371
                              clear BK377
                              clear BK383
                              clear HB
                              have HO_15 := n0_
                              have HO_372000 := n1_
                              have HO_378000 := n2_
                              have HO_384000 := n3_
                              have HO7002 := n4_
                              have HO7003 := n5_
                              have BK360 := n6_
                              have BK361 := n7_
                              have BK362 := n8_
                              have BK371 := n9_
                              have BK377 := n10_
                              have BK383 := n11_
                              have HB := n12_
                              clear n0_ n1_ n2_ n3_ n4_ n5_ n6_ n7_ n8_ n9_ n10_ n11_ n12_
                              (try clear hb)
                              (try clear hb2)
                              (try clear hk)
                              (try clear hi)
                              refine hK.out _ _ ⟨(blk_cell BK371.out 0).trans rfl, (blk_cell BK371.out 1).trans rfl⟩ (fun hHeld => ?_)
                              clear hK K
                              refine norm_ (a' := ?_) ?_ ?_
                              rotate_left
                              · show Act.put _ (some 153) _ = _
                                simp only [ap_, sb_, s0_, s1_, i64_w, i32_w]
                                rfl
                              refine pure_ (i := 12) (N := some 154) (v := ?_) (a' := ?_) #[true, true, true, true, true, true, true, true, true, true, true, true, true, false] rfl rfl (any_of HT_.out (by kernel_rfl)) (fun _ _ _ h => h) (Or.inl ⟨by rfl, ?_⟩) ?_ ?_
                              rotate_left
                              · intro w'
                                go_simp
                                with_reducible rfl
                              rotate_left
                              · simp only [ap_, sb_, s0_, s1_, i64_w, i32_w]
                                rfl
                              refine pure_ (i := 13) (N := some 6) (v := ?_) (a' := ?_) #[true, true, true, true, true, true, true, true, true, true, true, true, true, true] rfl rfl (any_of HT_.out (by kernel_rfl)) (fun _ _ _ h => h) (Or.inl ⟨by rfl, ?_⟩) ?_ ?_
                              rotate_left
                              · intro w'
                                go_simp
                                with_reducible rfl
                              rotate_left
                              · simp only [ap_, sb_, s0_, s1_, i64_w, i32_w]
                                rfl
                              refine done_ (done_of HT_.out (by kernel_rfl)) ?_
                              try go_wp2
                              go_ret
                              exact ⟨rf_, bl_⟩
        replace H := bindA H
        obtain ⟨t385, A212, H⟩ := H
        try dsimp only at H
        by_cases c213 : t385 = true
        rotate_left
        · replace c213 := Bool.eq_false_iff.mpr c213
          subst c213
          have H1 : (none) = some r := by rw [if_neg (show ¬ (false = true) by decide)] at H; exact H
          exact absurd H1 (by simp)
        subst c213
        have H1 : ((windroselaw17_told.f kj3 t372 t375 t376 ([] : List Bool) 1).bind fun t386 => (if t386 = true then ((windroselaw17_told.f kj3 t378 t381 t382 ([] : List Bool) 1).bind fun t387 => (if t387 = true then ((windroselaw17_awake.f kj3).bind fun t388 => (some t388)) else (none))) else (none))) = some r := by rw [if_pos rfl] at H; exact H
        clear H
        have H := H1
        clear H1
        replace H := bindA H
        obtain ⟨t386, A214, H⟩ := H
        try dsimp only at H
        by_cases c215 : t386 = true
        rotate_left
        · replace c215 := Bool.eq_false_iff.mpr c215
          subst c215
          have H1 : (none) = some r := by rw [if_neg (show ¬ (false = true) by decide)] at H; exact H
          exact absurd H1 (by simp)
        subst c215
        have H1 : ((windroselaw17_told.f kj3 t378 t381 t382 ([] : List Bool) 1).bind fun t387 => (if t387 = true then ((windroselaw17_awake.f kj3).bind fun t388 => (some t388)) else (none))) = some r := by rw [if_pos rfl] at H; exact H
        clear H
        have H := H1
        clear H1
        replace H := bindA H
        obtain ⟨t387, A216, H⟩ := H
        try dsimp only at H
        by_cases c217 : t387 = true
        rotate_left
        · replace c217 := Bool.eq_false_iff.mpr c217
          subst c217
          have H1 : (none) = some r := by rw [if_neg (show ¬ (false = true) by decide)] at H; exact H
          exact absurd H1 (by simp)
        subst c217
        have H1 : ((windroselaw17_awake.f kj3).bind fun t388 => (some t388)) = some r := by rw [if_pos rfl] at H; exact H
        clear H
        have H := H1
        clear H1
        replace H := bindA H
        obtain ⟨t388, A218, H⟩ := H
        try dsimp only at H
        obtain rfl := Option.some.inj H
        have hnb219 := NB360_361.out
        have hnc219 := NB361_360.out
        have hnb220 := NB360_362.out
        have hnc220 := NB362_360.out
        obtain ⟨hcz221_0, hcz221_1, hfz221_0, hfz221_1⟩ := blk_at2 BK360.out
      all_goals
        go_wp2_with (first | ((with_reducible refine gate_callee (f := 29) rfl ?_); refine goL_ (some 35) Try.func29 #[.agg #[.slice A0_0 l0_0.length c0_0, .int .i64 a0_1], .int .u64 a2_0, .int .i64 (wrap64 (a2_1))] ?_; (with_reducible refine (bits_Put.calls kj3 _ _ l0_0 a0_1 a2_0 (wrap64 (a2_1)) t366 t369 t370 _ ?side1 ?side2 A26.out).mono ?_); (case side1 => exact cb_ HR0_0); (case side2 => exact HC0_0.out); rintro e w222 ⟨v367, rfl, ho0, hb⟩; refine ⟨_, rfl, ?_⟩; have n_ := pk5 (Kd.R_lower ho0 (below_size bl_)) (blk_below (bo_ BK360) hb) (blk_below (bo_ BK361) hb) (blk_below (bo_ BK362) hb) (below_step bl_ hb); clear BK360 BK361 BK362 HB; obtain ⟨HO368, BK360, BK361, BK362, HB⟩ := n_; (try clear hb ho0)) | ((with_reducible refine gate_dst (N := 9) rfl ?_); (try (refine gate_guard (by rfl) ?_; dsimp only)); refine box_ev 9 #[.slice none 0 0, .int .i64 0] 25 ?_; intro gb371 hg w223 hbox hb; have n0_ := Aside0.mk (Kd.R_below (ro_ HO368) hb); have n1_ := Aside0.mk (blk_below (bo_ BK360) hb); have n2_ := Aside0.mk (blk_below (bo_ BK361) hb); have n3_ := Aside0.mk (blk_below (bo_ BK362) hb); have n4_ := Aside0.mk (below_step bl_ hb); have n5_ := Aside0.mk (hbox); have n6_ := Aside0.mk ((ge_ hg bl_ : w.heap.size ≤ gb371)); have n7_ := Aside0.mk ((ge_ hg bl_ : w.heap.size ≤ gb371)); have n8_ := Aside0.mk ((nb_ hg (bo_ BK360) : gb360 ≠ gb371)); have n9_ := Aside0.mk ((nc_ hg (bo_ BK360) : gb371 ≠ gb360)); have n10_ := Aside0.mk ((nb_ hg (bo_ BK361) : gb361 ≠ gb371)); have n11_ := Aside0.mk ((nc_ hg (bo_ BK361) : gb371 ≠ gb361)); have n12_ := Aside0.mk ((nb_ hg (bo_ BK362) : gb362 ≠ gb371)); have n13_ := Aside0.mk ((nc_ hg (bo_ BK362) : gb371 ≠ gb362)); clear HO368; clear BK360; clear BK361; clear BK362; clear HB; have HO368 := n0_; have BK360 := n1_; have BK361 := n2_; have BK362 := n3_; have HB := n4_; have BK371 := n5_; have GW371 := n6_; have GE371 := n7_; have NB360_371 := n8_; have NB371_360 := n9_; have NB361_371 := n10_; have NB371_361 := n11_; have NB362_371 := n12_; have NB371_362 := n13_; clear n0_ n1_ n2_ n3_ n4_ n5_ n6_ n7_ n8_ n9_ n10_ n11_ n12_ n13_; clear hb hbox hg; obtain ⟨Ao224, co224, eo224⟩ := Kd.R_slice HO368.out; subst eo224; have hnb225 := NB371_360.out; have hnc225 := NB360_371.out; have hnb226 := NB371_361.out; have hnc226 := NB361_371.out; have hnb227 := NB371_362.out; have hnc227 := NB362_371.out; have hcz228_0 : w223.cell? ⟨gb371, 0, none⟩ = some (.slice none 0 0) := (blk_cell BK371.out 0).trans rfl; have hcz228_1 : w223.cell? ⟨gb371, 1, none⟩ = some (.int .i64 0) := (blk_cell BK371.out 1).trans rfl; have hfz228_0 := blk_frozen BK371.out 0; have hfz228_1 := blk_frozen BK371.out 1; have hcz229_0 : w223.cell? ⟨gb360, 0, none⟩ = some (.slice A0_0 l0_0.length c0_0) := (blk_cell BK360.out 0).trans rfl; have hcz229_1 : w223.cell? ⟨gb360, 1, none⟩ = some (.int .i64 a0_1) := (blk_cell BK360.out 1).trans rfl; have hfz229_0 := blk_frozen BK360.out 0; have hfz229_1 := blk_frozen BK360.out 1) | ((with_reducible refine gate_callee (f := 15) rfl ?_); refine goL_ (some 42) Try.func15 #[.agg #[.slice A0_0 l0_0.length c0_0, .int .i64 a0_1], .int .i64 (wrap64 (a2_0))] ?_; (with_reducible refine (bits_Number.calls kj3 _ _ l0_0 a0_1 (wrap64 (a2_0)) t372 t375 t376 _ ?side1 ?side2 A27.out).mono ?_); (case side1 => exact Kd.C_below HR0_0.out bl_); (case side2 => exact HC0_0.out); rintro e w230 ⟨v373, rfl, ho0, hb⟩; refine ⟨_, rfl, ?_⟩; have n_ := pk7 (Kd.R_elder' (rt_ ((Kd.R_mono (Kd.R_far (p := ⟨gb371, 1, none⟩) (Kd.R_far (p := ⟨gb371, 0, none⟩) (Kd.R_types HO368.out BK371.out (by decide)) (fun _ hk => hk.2) (.slice Ao224 t366.length co224)) (fun _ hk => hk.2) (.int .i64 t369)) (fun _ h_ => h_.1)))) (Kd.R_base ho0) hb) (Kd.R_lower (Kd.R_new' ho0 (Kd.R_lt (rt_ ((Kd.R_mono (Kd.R_far (p := ⟨gb371, 1, none⟩) (Kd.R_far (p := ⟨gb371, 0, none⟩) (Kd.R_types HO368.out BK371.out (by decide)) (fun _ hk => hk.2) (.slice Ao224 t366.length co224)) (fun _ hk => hk.2) (.int .i64 t369)) (fun _ h_ => h_.1)))))) (below_size bl_)) (blk_below (g := gb360) (o := .cells #[.slice A0_0 l0_0.length c0_0, .int .i64 a0_1] 25 (0, 0)) (by (with_reducible repeat (first | refine blk_drewN ?_ _ | refine blk_drew ?_ | refine blk_alloc ?_ _)); refine blk_far ?_ NB360_371.out _; (with_reducible repeat (first | refine blk_drewN ?_ _ | refine blk_drew ?_ | refine blk_alloc ?_ _)); refine blk_far ?_ NB360_371.out _; exact (bo_ BK360)) hb) (blk_below (g := gb361) (o := .cells #[.slice A1_0 l1_0.length c1_0, .int .i64 a1_1] 25 (0, 0)) (by (with_reducible repeat (first | refine blk_drewN ?_ _ | refine blk_drew ?_ | refine blk_alloc ?_ _)); refine blk_far ?_ NB361_371.out _; (with_reducible repeat (first | refine blk_drewN ?_ _ | refine blk_drew ?_ | refine blk_alloc ?_ _)); refine blk_far ?_ NB361_371.out _; exact (bo_ BK361)) hb) (blk_below (g := gb362) (o := .cells #[.int .u64 a2_0, .int .u64 a2_1] 54 (0, 0)) (by (with_reducible repeat (first | refine blk_drewN ?_ _ | refine blk_drew ?_ | refine blk_alloc ?_ _)); refine blk_far ?_ NB362_371.out _; (with_reducible repeat (first | refine blk_drewN ?_ _ | refine blk_drew ?_ | refine blk_alloc ?_ _)); refine blk_far ?_ NB362_371.out _; exact (bo_ BK362)) hb) (blk_below (g := gb371) (o := .cells #[.slice Ao224 t366.length co224, .int .i64 t369] 25 (0, 0)) (by (with_reducible repeat (first | refine blk_drewN ?_ _ | refine blk_drew ?_ | refine blk_alloc ?_ _)); refine blk_put (cs := #[.slice Ao224 t366.length co224, .int .i64 0]) ?_ 1 _ rfl; (with_reducible repeat (first | refine blk_drewN ?_ _ | refine blk_drew ?_ | refine blk_alloc ?_ _)); refine blk_put (cs := #[.slice none 0 0, .int .i64 0]) ?_ 0 _ rfl; exact (bo_ BK371)) hb) (below_step bl_ hb); clear HO368 BK360 BK361 BK362 BK371 HB; obtain ⟨HO368, HO374, BK360, BK361, BK362, BK371, HB⟩ := n_; (try clear hb ho0)) | ((with_reducible refine gate_dst (N := 11) rfl ?_); (try (refine gate_guard (by rfl) ?_; dsimp only)); refine box_ev 11 #[.slice none 0 0, .int .i64 0] 25 ?_; intro gb377 hg w231 hbox hb; have n0_ := Aside0.mk (Kd.R_below (ro_ HO368) hb); have n1_ := Aside0.mk (Kd.R_below (ro_ HO374) hb); have n2_ := Aside0.mk (blk_below (bo_ BK360) hb); have n3_ := Aside0.mk (blk_below (bo_ BK361) hb); have n4_ := Aside0.mk (blk_below (bo_ BK362) hb); have n5_ := Aside0.mk (blk_below (bo_ BK371) hb); have n6_ := Aside0.mk (below_step bl_ hb); have n7_ := Aside0.mk (hbox); have n8_ := Aside0.mk ((ge_ hg bl_ : w.heap.size ≤ gb377)); have n9_ := Aside0.mk ((ge_ hg bl_ : w.heap.size ≤ gb377)); have n10_ := Aside0.mk ((nb_ hg (bo_ BK360) : gb360 ≠ gb377)); have n11_ := Aside0.mk ((nc_ hg (bo_ BK360) : gb377 ≠ gb360)); have n12_ := Aside0.mk ((nb_ hg (bo_ BK361) : gb361 ≠ gb377)); have n13_ := Aside0.mk ((nc_ hg (bo_ BK361) : gb377 ≠ gb361)); have n14_ := Aside0.mk ((nb_ hg (bo_ BK362) : gb362 ≠ gb377)); have n15_ := Aside0.mk ((nc_ hg (bo_ BK362) : gb377 ≠ gb362)); have n16_ := Aside0.mk ((nb_ hg (bo_ BK371) : gb371 ≠ gb377)); have n17_ := Aside0.mk ((nc_ hg (bo_ BK371) : gb377 ≠ gb371)); clear HO368; clear HO374; clear BK360; clear BK361; clear BK362; clear BK371; clear HB; have HO368 := n0_; have HO374 := n1_; have BK360 := n2_; have BK361 := n3_; have BK362 := n4_; have BK371 := n5_; have HB := n6_; have BK377 := n7_; have GW377 := n8_; have GE377 := n9_; have NB360_377 := n10_; have NB377_360 := n11_; have NB361_377 := n12_; have NB377_361 := n13_; have NB362_377 := n14_; have NB377_362 := n15_; have NB371_377 := n16_; have NB377_371 := n17_; clear n0_ n1_ n2_ n3_ n4_ n5_ n6_ n7_ n8_ n9_ n10_ n11_ n12_ n13_ n14_ n15_ n16_ n17_; clear hb hbox hg; obtain ⟨Ao232, co232, eo232⟩ := Kd.R_slice HO374.out; subst eo232; have hnb233 := NB377_360.out; have hnc233 := NB360_377.out; have hnb234 := NB377_361.out; have hnc234 := NB361_377.out; have hnb235 := NB377_362.out; have hnc235 := NB362_377.out; have hnb236 := NB377_371.out; have hnc236 := NB371_377.out; have hcz237_0 : w231.cell? ⟨gb377, 0, none⟩ = some (.slice none 0 0) := (blk_cell BK377.out 0).trans rfl; have hcz237_1 : w231.cell? ⟨gb377, 1, none⟩ = some (.int .i64 0) := (blk_cell BK377.out 1).trans rfl; have hfz237_0 := blk_frozen BK377.out 0; have hfz237_1 := blk_frozen BK377.out 1; have hcz238_0 : w231.cell? ⟨gb360, 0, none⟩ = some (.slice A0_0 l0_0.length c0_0) := (blk_cell BK360.out 0).trans rfl; have hcz238_1 : w231.cell? ⟨gb360, 1, none⟩ = some (.int .i64 a0_1) := (blk_cell BK360.out 1).trans rfl; have hfz238_0 := blk_frozen BK360.out 0; have hfz238_1 := blk_frozen BK360.out 1; have hnb239 := NB361_362.out; have hnc239 := NB362_361.out; have hcz240_0 : w231.cell? ⟨gb361, 0, none⟩ = some (.slice A1_0 l1_0.length c1_0) := (blk_cell BK361.out 0).trans rfl; have hcz240_1 : w231.cell? ⟨gb361, 1, none⟩ = some (.int .i64 a1_1) := (blk_cell BK361.out 1).trans rfl; have hfz240_0 := blk_frozen BK361.out 0; have hfz240_1 := blk_frozen BK361.out 1) | ((with_reducible refine gate_callee (f := 30) rfl ?_); refine goL_ (some 48) Try.func30 #[.agg #[.slice A0_0 l0_0.length c0_0, .int .i64 a0_1], .agg #[.slice A1_0 l1_0.length c1_0, .int .i64 a1_1]] ?_; (with_reducible refine (bits_Join.calls kj3 _ _ l0_0 a0_1 _ _ l1_0 a1_1 t378 t381 t382 _ ?side1 ?side2 ?side3 ?side4 A28.out).mono ?_); (case side1 => exact Kd.C_below HR0_0.out bl_); (case side2 => exact HC0_0.out); (case side3 => exact Kd.C_below HR1_0.out bl_); (case side4 => exact HC1_0.out); rintro e w241 ⟨v379, rfl, ho0, hb⟩; refine ⟨_, rfl, ?_⟩; have n_ := pk9 (Kd.R_elder' (rt_ ((Kd.R_mono (Kd.R_far (p := ⟨gb377, 1, none⟩) (Kd.R_far (p := ⟨gb377, 0, none⟩) (Kd.R_types HO368.out BK377.out (by decide)) (fun _ hk => hk.2) (.slice Ao232 t372.length co232)) (fun _ hk => hk.2) (.int .i64 t375)) (fun _ h_ => h_.1)))) (Kd.R_base ho0) hb) (Kd.R_elder' (rt_ ((Kd.R_mono (Kd.R_far (p := ⟨gb377, 1, none⟩) (Kd.R_far (p := ⟨gb377, 0, none⟩) (Kd.R_types HO374.out BK377.out (by decide)) (fun _ hk => hk.2) (.slice Ao232 t372.length co232)) (fun _ hk => hk.2) (.int .i64 t375)) (fun _ h_ => h_.1)))) (Kd.R_base ho0) hb) (Kd.R_lower (Kd.R_new' (Kd.R_new' ho0 (Kd.R_lt (rt_ ((Kd.R_mono (Kd.R_far (p := ⟨gb377, 1, none⟩) (Kd.R_far (p := ⟨gb377, 0, none⟩) (Kd.R_types HO368.out BK377.out (by decide)) (fun _ hk => hk.2) (.slice Ao232 t372.length co232)) (fun _ hk => hk.2) (.int .i64 t375)) (fun _ h_ => h_.1)))))) (Kd.R_lt (rt_ ((Kd.R_mono (Kd.R_far (p := ⟨gb377, 1, none⟩) (Kd.R_far (p := ⟨gb377, 0, none⟩) (Kd.R_types HO374.out BK377.out (by decide)) (fun _ hk => hk.2) (.slice Ao232 t372.length co232)) (fun _ hk => hk.2) (.int .i64 t375)) (fun _ h_ => h_.1)))))) (below_size bl_)) (blk_below (g := gb360) (o := .cells #[.slice A0_0 l0_0.length c0_0, .int .i64 a0_1] 25 (0, 0)) (by (with_reducible repeat (first | refine blk_drewN ?_ _ | refine blk_drew ?_ | refine blk_alloc ?_ _)); refine blk_far ?_ NB360_377.out _; (with_reducible repeat (first | refine blk_drewN ?_ _ | refine blk_drew ?_ | refine blk_alloc ?_ _)); refine blk_far ?_ NB360_377.out _; exact (bo_ BK360)) hb) (blk_below (g := gb361) (o := .cells #[.slice A1_0 l1_0.length c1_0, .int .i64 a1_1] 25 (0, 0)) (by (with_reducible repeat (first | refine blk_drewN ?_ _ | refine blk_drew ?_ | refine blk_alloc ?_ _)); refine blk_far ?_ NB361_377.out _; (with_reducible repeat (first | refine blk_drewN ?_ _ | refine blk_drew ?_ | refine blk_alloc ?_ _)); refine blk_far ?_ NB361_377.out _; exact (bo_ BK361)) hb) (blk_below (g := gb362) (o := .cells #[.int .u64 a2_0, .int .u64 a2_1] 54 (0, 0)) (by (with_reducible repeat (first | refine blk_drewN ?_ _ | refine blk_drew ?_ | refine blk_alloc ?_ _)); refine blk_far ?_ NB362_377.out _; (with_reducible repeat (first | refine blk_drewN ?_ _ | refine blk_drew ?_ | refine blk_alloc ?_ _)); refine blk_far ?_ NB362_377.out _; exact (bo_ BK362)) hb) (blk_below (g := gb371) (o := .cells #[.slice Ao224 t366.length co224, .int .i64 t369] 25 (0, 0)) (by (with_reducible repeat (first | refine blk_drewN ?_ _ | refine blk_drew ?_ | refine blk_alloc ?_ _)); refine blk_far ?_ NB371_377.out _; (with_reducible repeat (first | refine blk_drewN ?_ _ | refine blk_drew ?_ | refine blk_alloc ?_ _)); refine blk_far ?_ NB371_377.out _; exact (bo_ BK371)) hb) (blk_below (g := gb377) (o := .cells #[.slice Ao232 t372.length co232, .int .i64 t375] 25 (0, 0)) (by (with_reducible repeat (first | refine blk_drewN ?_ _ | refine blk_drew ?_ | refine blk_alloc ?_ _)); refine blk_put (cs := #[.slice Ao232 t372.length co232, .int .i64 0]) ?_ 1 _ rfl; (with_reducible repeat (first | refine blk_drewN ?_ _ | refine blk_drew ?_ | refine blk_alloc ?_ _)); refine blk_put (cs := #[.slice none 0 0, .int .i64 0]) ?_ 0 _ rfl; exact (bo_ BK377)) hb) (below_step bl_ hb); clear HO368 HO374 BK360 BK361 BK362 BK371 BK377 HB; obtain ⟨HO368, HO374, HO380, BK360, BK361, BK362, BK371, BK377, HB⟩ := n_; (try clear hb ho0)) | ((with_reducible refine gate_dst (N := 13) rfl ?_); (try (refine gate_guard (by rfl) ?_; dsimp only)); refine box_ev 13 #[.slice none 0 0, .int .i64 0] 25 ?_; intro gb383 hg w242 hbox hb; have n0_ := Aside0.mk (Kd.R_below (ro_ HO368) hb); have n1_ := Aside0.mk (Kd.R_below (ro_ HO374) hb); have n2_ := Aside0.mk (Kd.R_below (ro_ HO380) hb); have n3_ := Aside0.mk (blk_below (bo_ BK360) hb); have n4_ := Aside0.mk (blk_below (bo_ BK361) hb); have n5_ := Aside0.mk (blk_below (bo_ BK362) hb); have n6_ := Aside0.mk (blk_below (bo_ BK371) hb); have n7_ := Aside0.mk (blk_below (bo_ BK377) hb); have n8_ := Aside0.mk (below_step bl_ hb); have n9_ := Aside0.mk (hbox); have n10_ := Aside0.mk ((ge_ hg bl_ : w.heap.size ≤ gb383)); have n11_ := Aside0.mk ((ge_ hg bl_ : w.heap.size ≤ gb383)); have n12_ := Aside0.mk ((nb_ hg (bo_ BK360) : gb360 ≠ gb383)); have n13_ := Aside0.mk ((nc_ hg (bo_ BK360) : gb383 ≠ gb360)); have n14_ := Aside0.mk ((nb_ hg (bo_ BK361) : gb361 ≠ gb383)); have n15_ := Aside0.mk ((nc_ hg (bo_ BK361) : gb383 ≠ gb361)); have n16_ := Aside0.mk ((nb_ hg (bo_ BK362) : gb362 ≠ gb383)); have n17_ := Aside0.mk ((nc_ hg (bo_ BK362) : gb383 ≠ gb362)); have n18_ := Aside0.mk ((nb_ hg (bo_ BK371) : gb371 ≠ gb383)); have n19_ := Aside0.mk ((nc_ hg (bo_ BK371) : gb383 ≠ gb371)); have n20_ := Aside0.mk ((nb_ hg (bo_ BK377) : gb377 ≠ gb383)); have n21_ := Aside0.mk ((nc_ hg (bo_ BK377) : gb383 ≠ gb377)); clear HO368; clear HO374; clear HO380; clear BK360; clear BK361; clear BK362; clear BK371; clear BK377; clear HB; have HO368 := n0_; have HO374 := n1_; have HO380 := n2_; have BK360 := n3_; have BK361 := n4_; have BK362 := n5_; have BK371 := n6_; have BK377 := n7_; have HB := n8_; have BK383 := n9_; have GW383 := n10_; have GE383 := n11_; have NB360_383 := n12_; have NB383_360 := n13_; have NB361_383 := n14_; have NB383_361 := n15_; have NB362_383 := n16_; have NB383_362 := n17_; have NB371_383 := n18_; have NB383_371 := n19_; have NB377_383 := n20_; have NB383_377 := n21_; clear n0_ n1_ n2_ n3_ n4_ n5_ n6_ n7_ n8_ n9_ n10_ n11_ n12_ n13_ n14_ n15_ n16_ n17_ n18_ n19_ n20_ n21_; clear hb hbox hg; obtain ⟨Ao243, co243, eo243⟩ := Kd.R_slice HO380.out; subst eo243; have hnb244 := NB383_360.out; have hnc244 := NB360_383.out; have hnb245 := NB383_361.out; have hnc245 := NB361_383.out; have hnb246 := NB383_362.out; have hnc246 := NB362_383.out; have hnb247 := NB383_371.out; have hnc247 := NB371_383.out; have hnb248 := NB383_377.out; have hnc248 := NB377_383.out; have hcz249_0 : w242.cell? ⟨gb383, 0, none⟩ = some (.slice none 0 0) := (blk_cell BK383.out 0).trans rfl; have hcz249_1 : w242.cell? ⟨gb383, 1, none⟩ = some (.int .i64 0) := (blk_cell BK383.out 1).trans rfl; have hfz249_0 := blk_frozen BK383.out 0; have hfz249_1 := blk_frozen BK383.out 1; have hcz250_0 : w242.cell? ⟨gb360, 0, none⟩ = some (.slice A0_0 l0_0.length c0_0) := (blk_cell BK360.out 0).trans rfl; have hcz250_1 : w242.cell? ⟨gb360, 1, none⟩ = some (.int .i64 a0_1) := (blk_cell BK360.out 1).trans rfl; have hfz250_0 := blk_frozen BK360.out 0; have hfz250_1 := blk_frozen BK360.out 1) | ((with_reducible refine gate_callee (f := 22) rfl ?_); refine goL_ (some 52) Try.func22 #[.agg #[.slice A0_0 l0_0.length c0_0, .int .i64 a0_1]] ?_; (with_reducible refine (windroseref17_May.calls _ _ l0_0 a0_1 false _ ?side1 ?side2 A29.out).mono ?_); (case side1 => exact Kd.C_below HR0_0.out bl_); (case side2 => exact HC0_0.out); rintro e w251 ⟨rfl, hb⟩; refine ⟨_, rfl, ?_⟩; have n_ := pk10 (Kd.R_below (rt_ ((Kd.R_mono (Kd.R_far (p := ⟨gb383, 1, none⟩) (Kd.R_far (p := ⟨gb383, 0, none⟩) (Kd.R_types HO368.out BK383.out (by decide)) (fun _ hk => hk.2) (.slice Ao243 t378.length co243)) (fun _ hk => hk.2) (.int .i64 t381)) (fun _ h_ => h_.1)))) hb) (Kd.R_below (rt_ ((Kd.R_mono (Kd.R_far (p := ⟨gb383, 1, none⟩) (Kd.R_far (p := ⟨gb383, 0, none⟩) (Kd.R_types HO374.out BK383.out (by decide)) (fun _ hk => hk.2) (.slice Ao243 t378.length co243)) (fun _ hk => hk.2) (.int .i64 t381)) (fun _ h_ => h_.1)))) hb) (Kd.R_below (rt_ ((Kd.R_mono (Kd.R_far (p := ⟨gb383, 1, none⟩) (Kd.R_far (p := ⟨gb383, 0, none⟩) (Kd.R_types HO380.out BK383.out (by decide)) (fun _ hk => hk.2) (.slice Ao243 t378.length co243)) (fun _ hk => hk.2) (.int .i64 t381)) (fun _ h_ => h_.1)))) hb) (blk_below (g := gb360) (o := .cells #[.slice A0_0 l0_0.length c0_0, .int .i64 a0_1] 25 (0, 0)) (by (with_reducible repeat (first | refine blk_drewN ?_ _ | refine blk_drew ?_ | refine blk_alloc ?_ _)); refine blk_far ?_ NB360_383.out _; (with_reducible repeat (first | refine blk_drewN ?_ _ | refine blk_drew ?_ | refine blk_alloc ?_ _)); refine blk_far ?_ NB360_383.out _; exact (bo_ BK360)) hb) (blk_below (g := gb361) (o := .cells #[.slice A1_0 l1_0.length c1_0, .int .i64 a1_1] 25 (0, 0)) (by (with_reducible repeat (first | refine blk_drewN ?_ _ | refine blk_drew ?_ | refine blk_alloc ?_ _)); refine blk_far ?_ NB361_383.out _; (with_reducible repeat (first | refine blk_drewN ?_ _ | refine blk_drew ?_ | refine blk_alloc ?_ _)); refine blk_far ?_ NB361_383.out _; exact (bo_ BK361)) hb) (blk_below (g := gb362) (o := .cells #[.int .u64 a2_0, .int .u64 a2_1] 54 (0, 0)) (by (with_reducible repeat (first | refine blk_drewN ?_ _ | refine blk_drew ?_ | refine blk_alloc ?_ _)); refine blk_far ?_ NB362_383.out _; (with_reducible repeat (first | refine blk_drewN ?_ _ | refine blk_drew ?_ | refine blk_alloc ?_ _)); refine blk_far ?_ NB362_383.out _; exact (bo_ BK362)) hb) (blk_below (g := gb371) (o := .cells #[.slice Ao224 t366.length co224, .int .i64 t369] 25 (0, 0)) (by (with_reducible repeat (first | refine blk_drewN ?_ _ | refine blk_drew ?_ | refine blk_alloc ?_ _)); refine blk_far ?_ NB371_383.out _; (with_reducible repeat (first | refine blk_drewN ?_ _ | refine blk_drew ?_ | refine blk_alloc ?_ _)); refine blk_far ?_ NB371_383.out _; exact (bo_ BK371)) hb) (blk_below (g := gb377) (o := .cells #[.slice Ao232 t372.length co232, .int .i64 t375] 25 (0, 0)) (by (with_reducible repeat (first | refine blk_drewN ?_ _ | refine blk_drew ?_ | refine blk_alloc ?_ _)); refine blk_far ?_ NB377_383.out _; (with_reducible repeat (first | refine blk_drewN ?_ _ | refine blk_drew ?_ | refine blk_alloc ?_ _)); refine blk_far ?_ NB377_383.out _; exact (bo_ BK377)) hb) (blk_below (g := gb383) (o := .cells #[.slice Ao243 t378.length co243, .int .i64 t381] 25 (0, 0)) (by (with_reducible repeat (first | refine blk_drewN ?_ _ | refine blk_drew ?_ | refine blk_alloc ?_ _)); refine blk_put (cs := #[.slice Ao243 t378.length co243, .int .i64 0]) ?_ 1 _ rfl; (with_reducible repeat (first | refine blk_drewN ?_ _ | refine blk_drew ?_ | refine blk_alloc ?_ _)); refine blk_put (cs := #[.slice none 0 0, .int .i64 0]) ?_ 0 _ rfl; exact (bo_ BK383)) hb) (below_step bl_ hb); clear HO368 HO374 HO380 BK360 BK361 BK362 BK371 BK377 BK383 HB; obtain ⟨HO368, HO374, HO380, BK360, BK361, BK362, BK371, BK377, BK383, HB⟩ := n_; (try clear hb); have hcz252_0 : w251.cell? ⟨gb371, 0, none⟩ = some (.slice Ao224 t366.length co224) := (blk_cell BK371.out 0).trans rfl; have hcz252_1 : w251.cell? ⟨gb371, 1, none⟩ = some (.int .i64 t369) := (blk_cell BK371.out 1).trans rfl; have hfz252_0 := blk_frozen BK371.out 0; have hfz252_1 := blk_frozen BK371.out 1) | ((with_reducible refine gate_callee (f := 31) rfl ?_); refine goL_ (some 56) Try.func31 #[.agg #[.slice Ao224 t366.length co224, .int .i64 t369], .int .i64 t370, .slice none 0 0, .int .i64 1] ?_; (with_reducible refine (told_nil kj3 _ _ t366 t369 t370 1 true _ ?side1 ?side2 A212.out).mono ?_); (case side1 => exact cr_ HO368); (case side2 => exact (Kd.R_reads' HO368.out).2.1); rintro e w253 ⟨rfl, hb⟩; refine ⟨_, rfl, ?_⟩; have n_ := pk10 (Kd.R_below (ro_ HO368) hb) (Kd.R_below (ro_ HO374) hb) (Kd.R_below (ro_ HO380) hb) (blk_below (bo_ BK360) hb) (blk_below (bo_ BK361) hb) (blk_below (bo_ BK362) hb) (blk_below (bo_ BK371) hb) (blk_below (bo_ BK377) hb) (blk_below (bo_ BK383) hb) (below_step bl_ hb); clear HO368 HO374 HO380 BK360 BK361 BK362 BK371 BK377 BK383 HB; obtain ⟨HO368, HO374, HO380, BK360, BK361, BK362, BK371, BK377, BK383, HB⟩ := n_; (try clear hb); have hcz254_0 : w253.cell? ⟨gb377, 0, none⟩ = some (.slice Ao232 t372.length co232) := (blk_cell BK377.out 0).trans rfl; have hcz254_1 : w253.cell? ⟨gb377, 1, none⟩ = some (.int .i64 t375) := (blk_cell BK377.out 1).trans rfl; have hfz254_0 := blk_frozen BK377.out 0; have hfz254_1 := blk_frozen BK377.out 1) | (go_at_call 31; (with_reducible refine (told_nil kj3 _ _ t372 t375 t376 1 true _ ?side1 ?side2 A214.out).mono ?_); (case side1 => exact cr_ HO374); (case side2 => exact (Kd.R_reads' HO374.out).2.1); rintro e w255 ⟨rfl, hb⟩; have n_ := pk10 (Kd.R_below (ro_ HO368) hb) (Kd.R_below (ro_ HO374) hb) (Kd.R_below (ro_ HO380) hb) (blk_below (bo_ BK360) hb) (blk_below (bo_ BK361) hb) (blk_below (bo_ BK362) hb) (blk_below (bo_ BK371) hb) (blk_below (bo_ BK377) hb) (blk_below (bo_ BK383) hb) (below_step bl_ hb); clear HO368 HO374 HO380 BK360 BK361 BK362 BK371 BK377 BK383 HB; obtain ⟨HO368, HO374, HO380, BK360, BK361, BK362, BK371, BK377, BK383, HB⟩ := n_; (try clear hb); have hcz256_0 : w255.cell? ⟨gb383, 0, none⟩ = some (.slice Ao243 t378.length co243) := (blk_cell BK383.out 0).trans rfl; have hcz256_1 : w255.cell? ⟨gb383, 1, none⟩ = some (.int .i64 t381) := (blk_cell BK383.out 1).trans rfl; have hfz256_0 := blk_frozen BK383.out 0; have hfz256_1 := blk_frozen BK383.out 1) | (go_at_call 31; (with_reducible refine (told_nil kj3 _ _ t378 t381 t382 1 true _ ?side1 ?side2 A216.out).mono ?_); (case side1 => exact cr_ HO380); (case side2 => exact (Kd.R_reads' HO380.out).2.1); rintro e w257 ⟨rfl, hb⟩; have n_ := pk10 (Kd.R_below (ro_ HO368) hb) (Kd.R_below (ro_ HO374) hb) (Kd.R_below (ro_ HO380) hb) (blk_below (bo_ BK360) hb) (blk_below (bo_ BK361) hb) (blk_below (bo_ BK362) hb) (blk_below (bo_ BK371) hb) (blk_below (bo_ BK377) hb) (blk_below (bo_ BK383) hb) (below_step bl_ hb); clear HO368 HO374 HO380 BK360 BK361 BK362 BK371 BK377 BK383 HB; obtain ⟨HO368, HO374, HO380, BK360, BK361, BK362, BK371, BK377, BK383, HB⟩ := n_; (try clear hb)) | (go_at_call 20; (with_reducible refine (windroselaw17_awake.calls kj3  t388 _ A218.out).mono ?_); rintro e w258 ⟨rfl, hb⟩; have n_ := pk10 (Kd.R_below (ro_ HO368) hb) (Kd.R_below (ro_ HO374) hb) (Kd.R_below (ro_ HO380) hb) (blk_below (bo_ BK360) hb) (blk_below (bo_ BK361) hb) (blk_below (bo_ BK362) hb) (blk_below (bo_ BK371) hb) (blk_below (bo_ BK377) hb) (blk_below (bo_ BK383) hb) (below_step bl_ hb); clear HO368 HO374 HO380 BK360 BK361 BK362 BK371 BK377 BK383 HB; obtain ⟨HO368, HO374, HO380, BK360, BK361, BK362, BK371, BK377, BK383, HB⟩ := n_; (try clear hb)) | ((with_reducible refine gate_callee (f := 20) rfl ?_); refine goL_ (some 30) Try.func20 #[] ?_; (with_reducible refine (windroselaw17_awake.calls kj3  t365 _ A24.out).mono ?_); rintro e w25 ⟨rfl, hb⟩; refine ⟨_, rfl, ?_⟩; have n_ := pk4 (blk_below (bo_ BK360) hb) (blk_below (bo_ BK361) hb) (blk_below (bo_ BK362) hb) (below_step bl_ hb); clear BK360 BK361 BK362 HB; obtain ⟨BK360, BK361, BK362, HB⟩ := n_; (try clear hb)))
        go_ret
        exact ⟨rf_, bl_⟩
end Go.Proofs.Ytmddmbagehjdeaa.G
end
