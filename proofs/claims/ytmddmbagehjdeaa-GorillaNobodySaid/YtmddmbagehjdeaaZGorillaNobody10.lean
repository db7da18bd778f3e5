/- Ytmddmbagehjdeaa: lines of the words and functions that the row GorillaNobody rests on, and the row. No condition. -/
import Derived.Test.YtmddmbagehjdeaaZGorillaNobody9
import Derived.WalkMore
import Derived.ScopeJumps
section
set_option linter.unusedVariables false
set_option linter.unusedSimpArgs false
namespace Go.Proofs.Ytmddmbagehjdeaa.G
open Go Go.RowKit Go.Proofs.YtmddmbagehjdeaaX Go.Proofs.YtmddmbagehjdeaaW.PrintWords Go.Proofs.YtmddmbagehjdeaaW.PrintLast Go.Proofs.YtmddmbagehjdeaaW.PrintMore
def IsCur (w0 w : World) (g : Nat) (l : List S67) : Prop := ∃ A c, w.heap[g]? = some (.cells #[.slice A l.length c] 82 (0, 0)) ∧ w0.heap.size ≤ g ∧ Kd.C k67 w0 A l.length l ∧ l.length ≤ c
theorem IsCur.keep {w0 w w1 : World} {g : Nat} {l : List S67} (h : IsCur w0 w g l) (hk : w1.heap[g]? = w.heap[g]?) : IsCur w0 w1 g l := by
  obtain ⟨A, c, h1, h2⟩ := h
  exact ⟨A, c, hk.trans h1, h2⟩
theorem KeepBut.far_ {w w1 : World} {g : Nat} {p : Addr} (h : KeepBut w w1 g none) (hp : w.heap.size ≤ p.block) (u : Value) : KeepBut w (w1.setCell p u) g none :=
  ⟨by have h1 := h.1; have h2 := ((Below.refl 0 w1).setCell (p := p) (Nat.zero_le _) u).size; exact Nat.le_trans h1 h2, fun i hi hne hr => (Below.heap_setCell w1 p u i (by omega)).trans (h.2 i hi hne hr)⟩
theorem IsCur.below {w0 w w1 : World} {g : Nat} {l : List S67} (h : IsCur w0 w g l) (hk : Below w.heap.size w w1) : IsCur w0 w1 g l := by
  obtain ⟨A, c, h1, h2⟩ := h
  exact ⟨A, c, (hk.block g (blk_lt h1)).trans h1, h2⟩
set_option maxHeartbeats 4000000 in
set_option maxRecDepth 100000 in
theorem next_nil (w : World) : Calls Try.prog 44 #[.pointer none] w fun e w' => e = .returned (.tuple #[.agg #[.int .i64 0, .int .i64 0], .bool false]) ∧ Below w.heap.size w w' := by
  have hu67 := Try.underlying67
  have HB := Aside0.mk (Below.refl w.heap.size w)
  go_enter Try.func44, Try.ntmps44
  go_wp2_with (first | ((with_reducible refine gate_dst (N := 2) rfl ?_); refine box_ev 2 #[.int .i64 0, .int .i64 0] 67 ?_; intro gb1 hg w1 hbox hb; have n_ := pk3 (below_step bl_ hb) (hbox) (ge_ hg bl_ : w.heap.size ≤ gb1); clear HB; obtain ⟨HB, BK1, GE1⟩ := n_; clear hb hbox hg; obtain ⟨hcz1_0, hcz1_1, hfz1_0, hfz1_1⟩ := blk_at2 BK1.out))
  refine bodyPost_ret (results_ct rfl _ _ gb1 67 #[.int .i64 0, .int .i64 0] (0, 0) _ rfl (by refine blk_put (cs := #[.int .i64 0, .int .i64 0]) ?_ 1 _ rfl; refine blk_put (cs := #[.int .i64 0, .int .i64 0]) ?_ 0 _ rfl; exact bo_ BK1) Try.underlying67 rfl (by kernel_rfl)) rfl ?_
  exact ⟨rf_, bl_⟩
set_option maxHeartbeats 4000000 in
set_option maxRecDepth 100000 in
theorem next_none (w0 w : World) (g : Nat) (hI : IsCur w0 w g []) (hB : Below w0.heap.size w0 w) : Calls Try.prog 44 #[.pointer (some ⟨g, 0, none⟩)] w fun e w' => e = .returned (.tuple #[.agg #[.int .i64 0, .int .i64 0], .bool false]) ∧ IsCur w0 w' g [] ∧ Below w0.heap.size w0 w' ∧ Below w.heap.size w w' := by
  have hu67 := Try.underlying67
  have hu82 := Try.underlying82
  have HI := Aside0.mk hI
  have HB0 := Aside0.mk hB
  obtain ⟨A, c, hblk, hg0, hC, hc⟩ := hI
  have BK := Aside0.mk hblk
  clear hblk hC hc hB hg0
  have HB := Aside0.mk (Below.refl w.heap.size w)
  go_enter Try.func44, Try.ntmps44
  go_wp2_with (first | ((with_reducible refine gate_dst (N := 2) rfl ?_); refine box_ev 2 #[.int .i64 0, .int .i64 0] 67 ?_; intro gb1 hg w1 hbox hb; have n_ := pk4 (below_step bl_ hb) (hbox) (ge_ hg bl_ : w.heap.size ≤ gb1) (blk_below BK.out hb); clear HB BK; obtain ⟨HB, BK1, GE1, BK⟩ := n_; clear hb hbox hg; obtain ⟨hcz1_0, hcz1_1, hfz1_0, hfz1_1⟩ := blk_at2 BK1.out; obtain ⟨hcz_0, hfz_0⟩ := blk_at1 BK.out))
  refine bodyPost_ret (results_ct rfl _ _ gb1 67 #[.int .i64 0, .int .i64 0] (0, 0) _ rfl (by refine blk_put (cs := #[.int .i64 0, .int .i64 0]) ?_ 1 _ rfl; refine blk_put (cs := #[.int .i64 0, .int .i64 0]) ?_ 0 _ rfl; exact bo_ BK1) Try.underlying67 rfl (by kernel_rfl)) rfl ?_
  have hb : Below w.heap.size w ((w1.setCell ⟨gb1, 0, none⟩ (.int .i64 0)).setCell ⟨gb1, 1, none⟩ (.int .i64 0)) := bl_
  exact ⟨rf_, HI.out.below hb, below_then HB0.out HB0.out.size hb, hb⟩
set_option maxHeartbeats 8000000 in
set_option maxRecDepth 100000 in
theorem next_some (w0 w : World) (g : Nat) (x : S67) (l : List S67) (hI : IsCur w0 w g (x :: l)) (hB : Below w0.heap.size w0 w) : Calls Try.prog 44 #[.pointer (some ⟨g, 0, none⟩)] w fun e w' => e = .returned (.tuple #[.agg #[.int .i64 x.f0, .int .i64 x.f1], .bool true]) ∧ IsCur w0 w' g l ∧ Below w0.heap.size w0 w' ∧ KeepBut w w' g none := by
  have hu67 := Try.underlying67
  have hu82 := Try.underlying82
  have HB0 := Aside0.mk hB
  obtain ⟨A, c, hblk, hg0, hC, hc⟩ := hI
  obtain ⟨ad, rfl, hx0, hx1⟩ := at_T67 hC 0 (by decide) (by simp)
  have hx0 : w0.cell? ad = some (.int .i64 x.f0) := by simpa [Addr.add, rd_T67] using hx0
  have hx1 : w0.cell? ⟨ad.block, ad.off + 1, none⟩ = some (.int .i64 x.f1) := by simpa [Addr.add, rd_T67] using hx1
  replace hx0 := (hB.cell (World.block_lt_of_cell? w0 _ hx0)).trans hx0
  replace hx1 := (hB.cell (World.block_lt_of_cell? w0 _ hx1)).trans hx1
  have hlt : (1 : Int) ≤ (((x :: l).length : Nat) : Int) := by rw [List.length_cons]; omega
  obtain ⟨i0, hi0, _, hsz, _⟩ := info_parts info67
  have hcut := cut_from (P := Try.prog) 65 67 .i64 Try.underlying65 hi0 2 hsz (some ad) (x :: l).length c 1 (by decide) hlt
  have hC2 := Kd.C_drop (m := 1) (c := c) hC (by simp) hc
  obtain ⟨A2, hA2⟩ : ∃ A2, A2 = (if c = (1 : Int).toNat then some ad else (some ad).map (·.add ((1 : Int).toNat * 2))) := ⟨_, rfl⟩
  have hn : (x :: l).length = l.length + 1 := rfl
  have hlen : (x :: l).length - (1 : Int).toNat = l.length := by simp
  rw [hlen, ← hA2] at hcut
  have hC3 : Kd.C k67 w0 A2 l.length l := by rw [hA2]; exact hC2
  have hc2 : l.length ≤ c - (1 : Int).toNat := by rw [hn] at hc; show l.length ≤ c - 1; omega
  obtain ⟨c2, hce⟩ : ∃ c2, c2 = c - (1 : Int).toNat := ⟨_, rfl⟩
  rw [← hce] at hcut hc2
  obtain ⟨n, hne⟩ : ∃ n, n = (x :: l).length := ⟨_, rfl⟩
  rw [← hne] at hcut hblk
  have hn0 : ((n : Int) == 0) = false := by rw [hne, hn]; simp; omega
  have hn1 : ((0 : Int) < (n : Int)) = True := eq_true (by rw [hne, hn]; omega)
  have hn2 : ((1 : Int) ≤ (n : Int)) = True := eq_true (by rw [hne, hn]; omega)
  have hn3 : (0 < n) = True := eq_true (by rw [hne, hn]; omega)
  have hx0w := Aside0.mk hx0
  have hx1w := Aside0.mk hx1
  have BK := Aside0.mk hblk
  have HC3 := Aside0.mk hC3
  have HC2 := Aside0.mk hc2
  have HG0 := Aside0.mk hg0
  have HK := Aside0.mk (KeepBut.refl w g none)
  clear hblk hC hc hB hg0 hC2 hC3 hc2 hA2 hce hx0 hx1 hne hn hlen hlt hi0 hsz
  have HB := Aside0.mk (Below.refl w.heap.size w)
  go_enter Try.func44, Try.ntmps44
  go_wp2_with (first | ((with_reducible refine gate_dst (N := 2) rfl ?_); refine box_ev 2 #[.int .i64 0, .int .i64 0] 67 ?_; intro gb1 hg w1 hbox hb; have n_ := pk4 (below_step bl_ hb) (hbox) (ge_ hg bl_ : w.heap.size ≤ gb1) (blk_below BK.out hb); have N1 := Aside0.mk (nb_ hg BK.out); clear HB BK; obtain ⟨HB, BK1, GE1, BK⟩ := n_; clear hb hbox hg; obtain ⟨hcz1_0, hcz1_1, hfz1_0, hfz1_1⟩ := blk_at2 BK1.out; obtain ⟨hcz_0, hfz_0⟩ := blk_at1 BK.out; have hx0 := (HB.out.cell (World.block_lt_of_cell? w _ hx0w.out)).trans hx0w.out; have hx1 := (HB.out.cell (World.block_lt_of_cell? w _ hx1w.out)).trans hx1w.out) | ((with_reducible refine gate_dst (N := 4) rfl ?_); refine box_ev 4 #[.int .i64 0, .int .i64 0] 67 ?_; intro gb2 hg w2 hbox hb; have n_ := pk5 (below_step bl_ hb) (hbox) (ge_ hg bl_ : w.heap.size ≤ gb2) (blk_below BK.out hb) (blk_below BK1.out hb); have N2 := Aside0.mk (nb_ hg BK.out); have N3 := Aside0.mk (nb_ hg BK1.out); clear HB BK BK1; obtain ⟨HB, BK2, GE2, BK, BK1⟩ := n_; clear hb hbox hg; obtain ⟨hcz4_0, hcz4_1, hfz4_0, hfz4_1⟩ := blk_at2 BK2.out; obtain ⟨hcz5_0, hfz5_0⟩ := blk_at1 BK.out; obtain ⟨hcz6_0, hcz6_1, hfz6_0, hfz6_1⟩ := blk_at2 BK1.out; have hn1a := N1.out; have hn2a := N2.out; have hn3a := N3.out; have hn1b := Ne.symm N1.out; have hn2b := Ne.symm N2.out; have hn3b := Ne.symm N3.out))
  have hn5 : gb1 ≠ gb2 := N3.out
  have hn6 : gb1 ≠ g := Ne.symm N1.out
  have hn7 : g ≠ gb2 := N2.out
  refine bodyPost_ret (results_ct rfl _ _ gb1 67 #[.int .i64 x.f0, .int .i64 x.f1] (0, 0) _ rfl (by refine blk_put (cs := #[.int .i64 x.f0, .int .i64 0]) ?_ 1 _ rfl; refine blk_put (cs := #[.int .i64 0, .int .i64 0]) ?_ 0 _ rfl; exact blk_far (blk_far (blk_far BK1.out hn5 _) hn5 _) hn6 _) Try.underlying67 rfl (by kernel_rfl)) rfl ?_
  have h1 : w0.heap.size ≤ gb1 := Nat.le_trans HB0.out.size GE1.out
  have h2 : w0.heap.size ≤ gb2 := Nat.le_trans HB0.out.size GE2.out
  have B2 : Below w0.heap.size w0 w2 := below_then HB0.out HB0.out.size HB.out
  refine ⟨rf_, ⟨A2, c2, ?_, HG0.out, HC3.out, HC2.out⟩, ((((B2.setCell (p := ⟨gb2, 0, none⟩) h2 _).setCell (p := ⟨gb2, 1, none⟩) h2 _).setCell (p := ⟨g, 0, none⟩) HG0.out _).setCell (p := ⟨gb1, 0, none⟩) h1 _).setCell (p := ⟨gb1, 1, none⟩) h1 _, ?_⟩
  · refine blk_far (blk_far ?_ N1.out _) N1.out _
    refine blk_put (cs := #[.slice (some ad) n c]) ?_ 0 _ rfl
    exact blk_far (blk_far BK.out hn7 _) hn7 _
  · exact KeepBut.far_ (p := ⟨gb1, 1, none⟩) (KeepBut.far_ (p := ⟨gb1, 0, none⟩) (KeepBut.set_ (KeepBut.far_ (p := ⟨gb2, 1, none⟩) (KeepBut.far_ (p := ⟨gb2, 0, none⟩) (KeepBut.of_below HB.out g none) GE2.out _) GE2.out _) 0 _) GE1.out _) GE1.out _
def skipL (t : Int) : List S67 → List S67
  | [] => []
  | x :: xs => if x.f0 < t then skipL t xs else x :: xs
def lenAt (g : Nat) (w : World) : Nat := match w.heap[g]? with | some (Obj.cells cs _ _) => (match cs[0]? with | some (Value.slice _ n _) => n | _ => 0) | _ => 0
theorem IsCur.len {w0 w : World} {g : Nat} {l : List S67} (h : IsCur w0 w g l) : lenAt g w = l.length := by
  obtain ⟨A, c, h1, _⟩ := h
  unfold lenAt
  rw [h1]
  rfl
theorem IsCur.lt {w0 w : World} {g : Nat} {l : List S67} (h : IsCur w0 w g l) : g < w.heap.size := by
  obtain ⟨A, c, h1, _⟩ := h
  exact blk_lt h1
theorem below_at {B : Nat} {w0 w w1 : World} (hB : Below B w0 w) (hs : B ≤ w.heap.size) (h : Below w.heap.size w w1) : Below B w0 w1 := below_then hB hs h
theorem IsCur.far {w0 w : World} {g : Nat} {l : List S67} (h : IsCur w0 w g l) {p : Addr} (hp : g ≠ p.block) (u : Value) : IsCur w0 (w.setCell p u) g l := h.keep (Below.heap_setCell w p u g hp)
theorem end2 {w0 w w4 : World} {g b : Nat} {l : List S67} (hI : IsCur w0 w4 g l) (hB : Below w0.heap.size w0 w4) (hK : KeepBut w w4 g none) (hb : w.heap.size ≤ b) (hw : w0.heap.size ≤ w.heap.size) (hg : g < w.heap.size) (x y : Value) :
    IsCur w0 ((w4.setCell ⟨b, 0, none⟩ x).setCell ⟨b, 1, none⟩ y) g l ∧ Below w0.heap.size w0 ((w4.setCell ⟨b, 0, none⟩ x).setCell ⟨b, 1, none⟩ y) ∧ KeepBut w ((w4.setCell ⟨b, 0, none⟩ x).setCell ⟨b, 1, none⟩ y) g none := by
  have hne : g ≠ b := by omega
  exact ⟨IsCur.far (p := ⟨b, 1, none⟩) (IsCur.far (p := ⟨b, 0, none⟩) hI hne _) hne _, (hB.setCell (p := ⟨b, 0, none⟩) (Nat.le_trans hw hb) _).setCell (p := ⟨b, 1, none⟩) (Nat.le_trans hw hb) _, KeepBut.far_ (p := ⟨b, 1, none⟩) (KeepBut.far_ (p := ⟨b, 0, none⟩) hK hb _) hb _⟩
set_option maxHeartbeats 16000000 in
set_option maxRecDepth 100000 in
theorem skip_calls (w0 w : World) (g : Nat) (t : Int) (l : List S67) (hI : IsCur w0 w g l) (hB : Below w0.heap.size w0 w) : Calls Try.prog 45 #[.pointer (some ⟨g, 0, none⟩), .int .i64 t] w fun e w' => Below w0.heap.size w0 w' ∧ KeepBut w w' g none ∧
    ((skipL t l = [] ∧ e = .returned (.tuple #[.agg #[.int .i64 0, .int .i64 0], .bool false]) ∧ IsCur w0 w' g []) ∨
      ∃ x xs, skipL t l = x :: xs ∧ e = .returned (.tuple #[.agg #[.int .i64 x.f0, .int .i64 x.f1], .bool true]) ∧ IsCur w0 w' g xs) := by
  have hu67 := Try.underlying67
  have hu82 := Try.underlying82
  have HI := Aside0.mk hI
  have HB0 := Aside0.mk hB
  have HGL := Aside0.mk hI.lt
  clear hI hB
  have HB := Aside0.mk (Below.refl w.heap.size w)
  go_enter Try.func45, Try.ntmps45
  go_wp2_with (first | ((with_reducible refine gate_dst (N := 4) rfl ?_); refine box_ev 4 #[.int .i64 0, .int .i64 0] 67 ?_; intro gb4 hg w1 hbox hb; have n_ := pk5 (below_step bl_ hb) (hbox) (ge_ hg bl_ : w.heap.size ≤ gb4) (HI.out.below hb) (below_at HB0.out HB0.out.size hb); clear HB; obtain ⟨HB, BK4, GE4, HI1, HB1⟩ := n_; clear hb hbox hg))
  have HK1 := Aside0.mk (KeepBut.of_below HB.out g none)
  refine wp_scope_jumps 0 (fun a' w' => ∃ (l' : List S67) (u2 u3 u6 u7 u8 u9 u10 u11 u12 u13 u14 u15 u16 u17 u18 u19 u20 u21 : Value), a' = { tmps := #[.pointer (some ⟨g, 0, none⟩), .int .i64 t, u2, u3, .pointer (some ⟨gb4, 0, none⟩), .bool false, u6, u7, u8, u9, u10, u11, u12, u13, u14, u15, u16, u17, u18, u19, u20, u21], defers := [] } ∧ Aside0 (IsCur w0 w' g l') ∧ Aside0 (Below w0.heap.size w0 w') ∧ Aside0 (KeepBut w w' g none) ∧ Aside0 (w'.heap[gb4]? = some (.cells #[.int .i64 0, .int .i64 0] 67 (0, 0))) ∧ Aside0 (skipL t l' = skipL t l)) (fun _ w' => lenAt g w') rfl ?_ ?_
  · go_wp2
    go_step3
    obtain ⟨w2, hw2⟩ : ∃ w2, w2 = w1 := ⟨_, rfl⟩
    rw [← hw2] at HI1 HB1 HK1 BK4 ⊢
    have NG4 := Aside0.mk (Nat.ne_of_lt (Nat.lt_of_lt_of_le HGL.out GE4.out))
    have HI2 := HI1
    have HB2 := HB1
    have HK2 := HK1
    have HB4 := BK4
    obtain ⟨l', hl'⟩ : ∃ l', l' = l := ⟨_, rfl⟩
    have HS : Aside0 (skipL t l' = skipL t l) := ⟨by rw [hl']⟩
    rw [← hl'] at HI2
    clear HI1 HB1 HK1 BK4 HI hl' hw2 HB
    rcases l' with _ | ⟨x, xs⟩
    · go_wp2_with (first | (go_at_call 44; (with_reducible refine (next_none w0 w2 g HI2.out HB2.out).mono ?_); rintro e w3 ⟨rfl, hi, hb, hb2⟩; have n_ := pk4 hi hb (KeepBut.trans HK2.out (KeepBut.of_below hb2 g none) (.inl rfl)) (blk_below HB4.out hb2); clear HI2 HB2 HK2 HB4; obtain ⟨HI2, HB2, HK2, HB4⟩ := n_; clear hi hb hb2) | ((with_reducible refine gate_dst (N := 6) rfl ?_); refine box_ev 6 #[.int .i64 0, .int .i64 0] 67 ?_; intro gb6 hg w4 hbox hb; have n_ := pk7 (hbox) (HI2.out.below hb) (below_at HB2.out HB2.out.size hb) (KeepBut.trans HK2.out (KeepBut.of_below hb g none) (.inl rfl)) (blk_below HB4.out hb) (nb_ hg HB4.out) (Nat.le_trans HK2.out.1 (ge_ hg (Below.refl _ _))); clear HI2 HB2 HK2 HB4; obtain ⟨BK6, HI2, HB2, HK2, HB4, N46, GE6⟩ := n_; clear hb hbox hg; obtain ⟨hcz6_0, hcz6_1, hfz6_0, hfz6_1⟩ := blk_at2 BK6.out; obtain ⟨hcz4_0, hcz4_1, hfz4_0, hfz4_1⟩ := blk_at2 HB4.out; have hn1 := N46.out; have hn2 := Ne.symm N46.out))
      simp only [Exit.jump]
      refine bodyPost_ret (results_ct rfl _ _ gb4 67 #[.int .i64 0, .int .i64 0] (0, 0) _ rfl (by refine blk_put (cs := #[.int .i64 0, .int .i64 0]) ?_ 1 _ rfl; refine blk_put (cs := #[.int .i64 0, .int .i64 0]) ?_ 0 _ rfl; exact blk_far (blk_far HB4.out hn1 _) hn1 _) Try.underlying67 rfl (by kernel_rfl)) rfl ?_
      obtain ⟨e1, e2, e3⟩ := end2 HI2.out HB2.out HK2.out GE6.out HB0.out.size HGL.out (.int .i64 0) (.int .i64 0)
      obtain ⟨f1, f2, f3⟩ := end2 e1 e2 e3 GE4.out HB0.out.size HGL.out (.int .i64 0) (.int .i64 0)
      exact ⟨f2, f3, .inl ⟨by rw [← HS.out]; rfl, rf_, f1⟩⟩
    · by_cases hx : x.f0 < t
      · have c1 : decide (x.f0 < t) = true := decide_eq_true hx
        go_wp2_with (first | (go_at_call 44; (with_reducible refine (next_some w0 w2 g x xs HI2.out HB2.out).mono ?_); rintro e w3 ⟨rfl, hi, hb, hk⟩; have n_ := pk4 hi hb (KeepBut.trans HK2.out hk (.inl rfl)) (KeepBut.blk hk HB4.out NG4.out.symm (by simp)); clear HI2 HB2 HK2 HB4; obtain ⟨HI2, HB2, HK2, HB4⟩ := n_; clear hi hb hk) | ((with_reducible refine gate_dst (N := 6) rfl ?_); refine box_ev 6 #[.int .i64 0, .int .i64 0] 67 ?_; intro gb6 hg w4 hbox hb; have n_ := pk7 (hbox) (HI2.out.below hb) (below_at HB2.out HB2.out.size hb) (KeepBut.trans HK2.out (KeepBut.of_below hb g none) (.inl rfl)) (blk_below HB4.out hb) (nb_ hg HB4.out) (Nat.le_trans HK2.out.1 (ge_ hg (Below.refl _ _))); clear HI2 HB2 HK2 HB4; obtain ⟨BK6, HI2, HB2, HK2, HB4, N46, GE6⟩ := n_; clear hb hbox hg; obtain ⟨hcz6_0, hcz6_1, hfz6_0, hfz6_1⟩ := blk_at2 BK6.out; obtain ⟨hcz4_0, hcz4_1, hfz4_0, hfz4_1⟩ := blk_at2 HB4.out; have hn1 := N46.out; have hn2 := Ne.symm N46.out))
        go_step3
        obtain ⟨e1, e2, e3⟩ := end2 HI2.out HB2.out HK2.out GE6.out HB0.out.size HGL.out (.int .i64 x.f0) (.int .i64 x.f1)
        refine ⟨rfl, ⟨xs, _, _, _, _, _, _, _, _, _, _, _, _, _, _, _, _, _, _, rfl, ⟨e1⟩, ⟨e2⟩, ⟨e3⟩, ⟨blk_far (blk_far HB4.out hn1 _) hn1 _⟩, ⟨by rw [← HS.out, skipL, if_pos (of_decide_eq_true c1)]⟩⟩⟩
      · have c1 : decide (x.f0 < t) = false := decide_eq_false hx
        go_wp2_with (first | (go_at_call 44; (with_reducible refine (next_some w0 w2 g x xs HI2.out HB2.out).mono ?_); rintro e w3 ⟨rfl, hi, hb, hk⟩; have n_ := pk4 hi hb (KeepBut.trans HK2.out hk (.inl rfl)) (KeepBut.blk hk HB4.out NG4.out.symm (by simp)); clear HI2 HB2 HK2 HB4; obtain ⟨HI2, HB2, HK2, HB4⟩ := n_; clear hi hb hk) | ((with_reducible refine gate_dst (N := 6) rfl ?_); refine box_ev 6 #[.int .i64 0, .int .i64 0] 67 ?_; intro gb6 hg w4 hbox hb; have n_ := pk7 (hbox) (HI2.out.below hb) (below_at HB2.out HB2.out.size hb) (KeepBut.trans HK2.out (KeepBut.of_below hb g none) (.inl rfl)) (blk_below HB4.out hb) (nb_ hg HB4.out) (Nat.le_trans HK2.out.1 (ge_ hg (Below.refl _ _))); clear HI2 HB2 HK2 HB4; obtain ⟨BK6, HI2, HB2, HK2, HB4, N46, GE6⟩ := n_; clear hb hbox hg; obtain ⟨hcz6_0, hcz6_1, hfz6_0, hfz6_1⟩ := blk_at2 BK6.out; obtain ⟨hcz4_0, hcz4_1, hfz4_0, hfz4_1⟩ := blk_at2 HB4.out; have hn1 := N46.out; have hn2 := Ne.symm N46.out))
        simp only [Exit.jump]
        refine bodyPost_ret (results_ct rfl _ _ gb4 67 #[.int .i64 x.f0, .int .i64 x.f1] (0, 0) _ rfl (by refine blk_put (cs := #[.int .i64 x.f0, .int .i64 0]) ?_ 1 _ rfl; refine blk_put (cs := #[.int .i64 0, .int .i64 0]) ?_ 0 _ rfl; exact blk_far (blk_far HB4.out hn1 _) hn1 _) Try.underlying67 rfl (by kernel_rfl)) rfl ?_
        obtain ⟨e1, e2, e3⟩ := end2 HI2.out HB2.out HK2.out GE6.out HB0.out.size HGL.out (.int .i64 x.f0) (.int .i64 x.f1)
        obtain ⟨f1, f2, f3⟩ := end2 e1 e2 e3 GE4.out HB0.out.size HGL.out (.int .i64 x.f0) (.int .i64 x.f1)
        exact ⟨f2, f3, .inr ⟨x, xs, by rw [← HS.out, skipL, if_neg (of_decide_eq_false c1)], rf_, f1⟩⟩
  · rintro a' w2 ⟨l', u2, u3, u6, u7, u8, u9, u10, u11, u12, u13, u14, u15, u16, u17, u18, u19, u20, u21, rfl, HI2, HB2, HK2, HB4, HS⟩
    have NG4 := Aside0.mk (Nat.ne_of_lt (Nat.lt_of_lt_of_le HGL.out GE4.out))
    have HLEN := Aside0.mk HI2.out.len
    clear HI1 HB1 HK1 BK4 HI HB
    rcases l' with _ | ⟨x, xs⟩
    · go_wp2_with (first | (go_at_call 44; (with_reducible refine (next_none w0 w2 g HI2.out HB2.out).mono ?_); rintro e w3 ⟨rfl, hi, hb, hb2⟩; have n_ := pk4 hi hb (KeepBut.trans HK2.out (KeepBut.of_below hb2 g none) (.inl rfl)) (blk_below HB4.out hb2); clear HI2 HB2 HK2 HB4; obtain ⟨HI2, HB2, HK2, HB4⟩ := n_; clear hi hb hb2) | ((with_reducible refine gate_dst (N := 6) rfl ?_); refine box_ev 6 #[.int .i64 0, .int .i64 0] 67 ?_; intro gb6 hg w4 hbox hb; have n_ := pk7 (hbox) (HI2.out.below hb) (below_at HB2.out HB2.out.size hb) (KeepBut.trans HK2.out (KeepBut.of_below hb g none) (.inl rfl)) (blk_below HB4.out hb) (nb_ hg HB4.out) (Nat.le_trans HK2.out.1 (ge_ hg (Below.refl _ _))); clear HI2 HB2 HK2 HB4; obtain ⟨BK6, HI2, HB2, HK2, HB4, N46, GE6⟩ := n_; clear hb hbox hg; obtain ⟨hcz6_0, hcz6_1, hfz6_0, hfz6_1⟩ := blk_at2 BK6.out; obtain ⟨hcz4_0, hcz4_1, hfz4_0, hfz4_1⟩ := blk_at2 HB4.out; have hn1 := N46.out; have hn2 := Ne.symm N46.out))
      simp only [Exit.jump]
      refine bodyPost_ret (results_ct rfl _ _ gb4 67 #[.int .i64 0, .int .i64 0] (0, 0) _ rfl (by refine blk_put (cs := #[.int .i64 0, .int .i64 0]) ?_ 1 _ rfl; refine blk_put (cs := #[.int .i64 0, .int .i64 0]) ?_ 0 _ rfl; exact blk_far (blk_far HB4.out hn1 _) hn1 _) Try.underlying67 rfl (by kernel_rfl)) rfl ?_
      obtain ⟨e1, e2, e3⟩ := end2 HI2.out HB2.out HK2.out GE6.out HB0.out.size HGL.out (.int .i64 0) (.int .i64 0)
      obtain ⟨f1, f2, f3⟩ := end2 e1 e2 e3 GE4.out HB0.out.size HGL.out (.int .i64 0) (.int .i64 0)
      exact ⟨f2, f3, .inl ⟨by rw [← HS.out]; rfl, rf_, f1⟩⟩
    · by_cases hx : x.f0 < t
      · have c1 : decide (x.f0 < t) = true := decide_eq_true hx
        go_wp2_with (first | (go_at_call 44; (with_reducible refine (next_some w0 w2 g x xs HI2.out HB2.out).mono ?_); rintro e w3 ⟨rfl, hi, hb, hk⟩; have n_ := pk4 hi hb (KeepBut.trans HK2.out hk (.inl rfl)) (KeepBut.blk hk HB4.out NG4.out.symm (by simp)); clear HI2 HB2 HK2 HB4; obtain ⟨HI2, HB2, HK2, HB4⟩ := n_; clear hi hb hk) | ((with_reducible refine gate_dst (N := 6) rfl ?_); refine box_ev 6 #[.int .i64 0, .int .i64 0] 67 ?_; intro gb6 hg w4 hbox hb; have n_ := pk7 (hbox) (HI2.out.below hb) (below_at HB2.out HB2.out.size hb) (KeepBut.trans HK2.out (KeepBut.of_below hb g none) (.inl rfl)) (blk_below HB4.out hb) (nb_ hg HB4.out) (Nat.le_trans HK2.out.1 (ge_ hg (Below.refl _ _))); clear HI2 HB2 HK2 HB4; obtain ⟨BK6, HI2, HB2, HK2, HB4, N46, GE6⟩ := n_; clear hb hbox hg; obtain ⟨hcz6_0, hcz6_1, hfz6_0, hfz6_1⟩ := blk_at2 BK6.out; obtain ⟨hcz4_0, hcz4_1, hfz4_0, hfz4_1⟩ := blk_at2 HB4.out; have hn1 := N46.out; have hn2 := Ne.symm N46.out))
        go_step3
        obtain ⟨e1, e2, e3⟩ := end2 HI2.out HB2.out HK2.out GE6.out HB0.out.size HGL.out (.int .i64 x.f0) (.int .i64 x.f1)
        refine ⟨rfl, ⟨⟨xs, _, _, _, _, _, _, _, _, _, _, _, _, _, _, _, _, _, _, rfl, ⟨e1⟩, ⟨e2⟩, ⟨e3⟩, ⟨blk_far (blk_far HB4.out hn1 _) hn1 _⟩, ⟨by rw [← HS.out, skipL, if_pos (of_decide_eq_true c1)]⟩⟩, by show lenAt g _ < lenAt g w2; rw [e1.len, HLEN.out]; exact Nat.lt_succ_self _⟩⟩
      · have c1 : decide (x.f0 < t) = false := decide_eq_false hx
        go_wp2_with (first | (go_at_call 44; (with_reducible refine (next_some w0 w2 g x xs HI2.out HB2.out).mono ?_); rintro e w3 ⟨rfl, hi, hb, hk⟩; have n_ := pk4 hi hb (KeepBut.trans HK2.out hk (.inl rfl)) (KeepBut.blk hk HB4.out NG4.out.symm (by simp)); clear HI2 HB2 HK2 HB4; obtain ⟨HI2, HB2, HK2, HB4⟩ := n_; clear hi hb hk) | ((with_reducible refine gate_dst (N := 6) rfl ?_); refine box_ev 6 #[.int .i64 0, .int .i64 0] 67 ?_; intro gb6 hg w4 hbox hb; have n_ := pk7 (hbox) (HI2.out.below hb) (below_at HB2.out HB2.out.size hb) (KeepBut.trans HK2.out (KeepBut.of_below hb g none) (.inl rfl)) (blk_below HB4.out hb) (nb_ hg HB4.out) (Nat.le_trans HK2.out.1 (ge_ hg (Below.refl _ _))); clear HI2 HB2 HK2 HB4; obtain ⟨BK6, HI2, HB2, HK2, HB4, N46, GE6⟩ := n_; clear hb hbox hg; obtain ⟨hcz6_0, hcz6_1, hfz6_0, hfz6_1⟩ := blk_at2 BK6.out; obtain ⟨hcz4_0, hcz4_1, hfz4_0, hfz4_1⟩ := blk_at2 HB4.out; have hn1 := N46.out; have hn2 := Ne.symm N46.out))
        simp only [Exit.jump]
        refine bodyPost_ret (results_ct rfl _ _ gb4 67 #[.int .i64 x.f0, .int .i64 x.f1] (0, 0) _ rfl (by refine blk_put (cs := #[.int .i64 x.f0, .int .i64 0]) ?_ 1 _ rfl; refine blk_put (cs := #[.int .i64 0, .int .i64 0]) ?_ 0 _ rfl; exact blk_far (blk_far HB4.out hn1 _) hn1 _) Try.underlying67 rfl (by kernel_rfl)) rfl ?_
        obtain ⟨e1, e2, e3⟩ := end2 HI2.out HB2.out HK2.out GE6.out HB0.out.size HGL.out (.int .i64 x.f0) (.int .i64 x.f1)
        obtain ⟨f1, f2, f3⟩ := end2 e1 e2 e3 GE4.out HB0.out.size HGL.out (.int .i64 x.f0) (.int .i64 x.f1)
        exact ⟨f2, f3, .inr ⟨x, xs, by rw [← HS.out, skipL, if_neg (of_decide_eq_false c1)], rf_, f1⟩⟩
set_option maxHeartbeats 4000000 in
set_option maxRecDepth 100000 in
theorem skip_nil (t : Int) (w : World) : Calls Try.prog 45 #[.pointer none, .int .i64 t] w fun e w' => e = .returned (.tuple #[.agg #[.int .i64 0, .int .i64 0], .bool false]) ∧ Below w.heap.size w w' := by
  have hu67 := Try.underlying67
  have HB := Aside0.mk (Below.refl w.heap.size w)
  go_enter Try.func45, Try.ntmps45
  go_wp2_with (first | ((with_reducible refine gate_dst (N := 4) rfl ?_); refine box_ev 4 #[.int .i64 0, .int .i64 0] 67 ?_; intro gb4 hg w1 hbox hb; have n_ := pk3 (below_step bl_ hb) (hbox) (ge_ hg bl_ : w.heap.size ≤ gb4); clear HB; obtain ⟨HB, HB4, GE4⟩ := n_; clear hb hbox hg))
  go_step3
  go_wp2
  go_step3
  go_wp2_with (first | (go_at_call 44; (with_reducible refine (next_nil w1).mono ?_); rintro e w3 ⟨rfl, hb2⟩; have n_ := pk2 (below_step HB.out hb2) (blk_below HB4.out hb2); clear HB HB4; obtain ⟨HB, HB4⟩ := n_; clear hb2) | ((with_reducible refine gate_dst (N := 6) rfl ?_); refine box_ev 6 #[.int .i64 0, .int .i64 0] 67 ?_; intro gb6 hg w4 hbox hb; have n_ := pk5 (hbox) (below_step HB.out hb) (blk_below HB4.out hb) (nb_ hg HB4.out) (ge_ hg HB.out : w.heap.size ≤ gb6); clear HB HB4; obtain ⟨BK6, HB, HB4, N46, GE6⟩ := n_; clear hb hbox hg; obtain ⟨hcz6_0, hcz6_1, hfz6_0, hfz6_1⟩ := blk_at2 BK6.out; obtain ⟨hcz4_0, hcz4_1, hfz4_0, hfz4_1⟩ := blk_at2 HB4.out; have hn1 := N46.out; have hn2 := Ne.symm N46.out))
  simp only [Exit.noGoto_ret]
  refine bodyPost_ret (results_ct rfl _ _ gb4 67 #[.int .i64 0, .int .i64 0] (0, 0) _ rfl (by refine blk_put (cs := #[.int .i64 0, .int .i64 0]) ?_ 1 _ rfl; refine blk_put (cs := #[.int .i64 0, .int .i64 0]) ?_ 0 _ rfl; exact blk_far (blk_far HB4.out hn1 _) hn1 _) Try.underlying67 rfl (by kernel_rfl)) rfl ?_
  exact ⟨rf_, bl_⟩
end Go.Proofs.Ytmddmbagehjdeaa.G
end
section
set_option linter.unusedVariables false
set_option linter.unusedSimpArgs false
namespace Go.Proofs.Ytmddmbagehjdeaa.G
open Go Go.RowKit Go.Proofs.YtmddmbagehjdeaaX Go.Proofs.YtmddmbagehjdeaaW.PrintWords Go.Proofs.YtmddmbagehjdeaaW.PrintLast Go.Proofs.YtmddmbagehjdeaaW.PrintMore
def windroselaw18_GorillaNobody.f (k : Nat) (a0 : Int) : Option Bool := windroselaw18_awake.f k
theorem zero_put {W : World} {g t : Nat} (h : W.heap[g]? = some (.cells #[.int .i64 0, .int .i64 0] t (0, 0))) : ((W.setCell ⟨g, 0, none⟩ (.int .i64 0)).setCell ⟨g, 1, none⟩ (.int .i64 0)).heap[g]? = some (.cells #[.int .i64 0, .int .i64 0] t (0, 0)) := by
  refine blk_put (cs := #[.int .i64 0, .int .i64 0]) ?_ 1 _ rfl
  exact blk_put (cs := #[.int .i64 0, .int .i64 0]) h 0 _ rfl
theorem zero_cur {w0 W : World} {g b : Nat} {l : List S67} (h : IsCur w0 W g l) (hn : g ≠ b) (x y : Value) : IsCur w0 ((W.setCell ⟨b, 0, none⟩ x).setCell ⟨b, 1, none⟩ y) g l := IsCur.far (p := ⟨b, 1, none⟩) (IsCur.far (p := ⟨b, 0, none⟩) h hn _) hn _
theorem zero_below {B : Nat} {w0 W : World} {b : Nat} (h : Below B w0 W) (hb : B ≤ b) (x y : Value) : Below B w0 ((W.setCell ⟨b, 0, none⟩ x).setCell ⟨b, 1, none⟩ y) := (h.setCell (p := ⟨b, 0, none⟩) hb _).setCell (p := ⟨b, 1, none⟩) hb _
set_option maxHeartbeats 8000000 in
set_option maxRecDepth 100000 in
theorem windroselaw18_GorillaNobody.calls (k : Nat) (a0 : Int) (r : Bool) (w : World) (h : windroselaw18_GorillaNobody.f k a0 = some r) :
    Calls Try.prog 10 #[.int .i64 a0] w fun e w' => e = .returned (.bool r) ∧ Below w.heap.size w w' := by
  have HA := Aside0.mk (show windroselaw18_awake.f k = some r from h)
  clear h
  have hu82 := Try.underlying82
  have hu67 := Try.underlying67
  have HB := Aside0.mk (Below.refl w.heap.size w)
  go_enter Try.func10, Try.ntmps10
  go_wp2
  refine wp_loop_rounds 3 ?_
  rw [rounds_succ]
  go_wp2_with (first
    | (go_at_call 44; refine (next_nil _).mono ?_; rintro e w1 ⟨rfl, hb⟩; have n_ := pk1 (below_step HB.out hb); clear HB; have HB := n_; clear n_ hb)
    | ((with_reducible refine gate_dst (N := 5) rfl ?_); refine box_ev 5 #[.int .i64 0, .int .i64 0] 67 ?_; intro gb5 hg w2 hbox hb; have n_ := pk3 (below_step HB.out hb) (hbox) (ge_ hg HB.out : w.heap.size ≤ gb5); clear HB; obtain ⟨HB, BK5, GE5⟩ := n_; clear hb hbox hg; obtain ⟨hcz5_0, hcz5_1, hfz5_0, hfz5_1⟩ := blk_at2 BK5.out)
    | (go_at_call 45; refine (skip_nil a0 _).mono ?_; rintro e w3 ⟨rfl, hb⟩; have n_ := pk2 (below_step (zero_below HB.out GE5.out _ _) hb) (blk_below (zero_put BK5.out) hb); clear HB BK5; obtain ⟨HB, BK5⟩ := n_; clear hb)
    | ((with_reducible refine gate_dst (N := 7) rfl ?_); refine box_ev 7 #[.int .i64 0, .int .i64 0] 67 ?_; intro gb7 hg w4 hbox hb; have n_ := pk5 (below_step HB.out hb) (hbox) (ge_ hg HB.out : w.heap.size ≤ gb7) (blk_below BK5.out hb) (nb_ hg BK5.out); clear HB BK5; obtain ⟨HB, BK7, GE7, BK5, N57⟩ := n_; clear hb hbox hg; obtain ⟨hcz7_0, hcz7_1, hfz7_0, hfz7_1⟩ := blk_at2 BK7.out; obtain ⟨hcz6_0, hcz6_1, hfz6_0, hfz6_1⟩ := blk_at2 BK5.out; have hn1 := N57.out; have hn2 := Ne.symm N57.out))
  rw [rounds_succ]
  have HB4 := Aside0.mk (zero_below HB.out GE7.out (.int .i64 0) (.int .i64 0))
  clear HB BK5 BK7 hn1 hn2 hcz7_0 hcz7_1 hfz7_0 hfz7_1 hcz6_0 hcz6_1 hfz6_0 hfz6_1 hcz5_0 hcz5_1 hfz5_0 hfz5_1
  have HB := HB4
  clear HB4
  go_wp2_with (first
    | ((with_reducible refine gate_dst (N := 16) rfl ?_); refine box_ev 16 #[.slice none 0 0] 82 ?_; intro gz hg w5 hbox hb; have n_ := pk2 (below_step HB.out hb) (show IsCur w w5 gz [] from ⟨none, 0, hbox, (ge_ hg HB.out : w.heap.size ≤ gz), Kd.C_nil _ _, Nat.le_refl _⟩); clear HB; obtain ⟨HB, HI⟩ := n_; clear hb hbox hg)
    | (go_at_call 44; refine (next_none w _ gz HI.out HB.out).mono ?_; rintro e w6 ⟨rfl, hi, hb, hb2⟩; have n_ := pk2 hi hb; clear HB HI; obtain ⟨HI, HB⟩ := n_; clear hi hb hb2)
    | ((with_reducible refine gate_dst (N := 5) rfl ?_); refine box_ev 5 #[.int .i64 0, .int .i64 0] 67 ?_; intro gc5 hg w7 hbox hb; have n_ := pk5 (below_step HB.out hb) (hbox) (ge_ hg HB.out : w.heap.size ≤ gc5) (HI.out.below hb) (show gz ≠ gc5 by have := HI.out.lt; omega); clear HB HI; obtain ⟨HB, BK5, HG5, HI, NZ5⟩ := n_; clear hb hbox hg; obtain ⟨hcz5_0, hcz5_1, hfz5_0, hfz5_1⟩ := blk_at2 BK5.out)
    | (go_at_call 45; refine (skip_calls w _ gz a0 [] (zero_cur HI.out NZ5.out _ _) (zero_below HB.out HG5.out _ _)).mono ?_; rintro e w8 ⟨hb, hk, hc⟩; (obtain ⟨_, rfl, hi⟩ : (_ ∧ e = _ ∧ IsCur w w8 gz []) := by rcases hc with hc | ⟨x, xs, hx, _⟩; exact hc; cases hx); have n_ := pk3 hb (KeepBut.blk hk (zero_put BK5.out) (Ne.symm NZ5.out) (by simp)) hi; clear HB BK5 HI; obtain ⟨HB, BK5, HI⟩ := n_; clear hb hk hc hi)
    | ((with_reducible refine gate_dst (N := 7) rfl ?_); refine box_ev 7 #[.int .i64 0, .int .i64 0] 67 ?_; intro gc7 hg w9 hbox hb; have n_ := pk5 (below_step HB.out hb) (hbox) (ge_ hg HB.out : w.heap.size ≤ gc7) (blk_below BK5.out hb) (nb_ hg BK5.out); clear HB BK5; obtain ⟨HB, BK7, HG7, BK5, N57⟩ := n_; clear hb hbox hg; obtain ⟨hcz7_0, hcz7_1, hfz7_0, hfz7_1⟩ := blk_at2 BK7.out; obtain ⟨hcz6_0, hcz6_1, hfz6_0, hfz6_1⟩ := blk_at2 BK5.out; have hn1 := N57.out; have hn2 := Ne.symm N57.out))
  rw [rounds_succ]
  have HB4 := Aside0.mk (zero_below HB.out HG7.out (.int .i64 0) (.int .i64 0))
  go_wp2_with (go_at_call 36; (with_reducible refine (windroselaw18_awake.calls k r _ HA.out).mono ?_); rintro e w10 ⟨rfl, hb6⟩; have HB6 := Aside0.mk (below_step HB4.out hb6); clear hb6)
  go_ret
  exact ⟨rfl, HB6.out⟩
end Go.Proofs.Ytmddmbagehjdeaa.G
end
