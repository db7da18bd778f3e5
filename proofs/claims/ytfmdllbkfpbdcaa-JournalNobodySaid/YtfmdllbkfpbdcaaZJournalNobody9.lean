/- More lines for the row. -/
import Derived.Test.YtfmdllbkfpbdcaaZJournalNobody8
import Derived.Lib.AppendZeros
set_option linter.unusedVariables false
set_option linter.unusedSimpArgs false
section
namespace Go.Proofs.Ytfmdllbkfpbdcaa.G
open Go Go.RowKit Go.Proofs.YtfmdllbkfpbdcaaX Go.Proofs.YtfmdllbkfpbdcaaW.PrintWords Go.Proofs.YtfmdllbkfpbdcaaW.PrintLast Go.Proofs.YtfmdllbkfpbdcaaW.PrintMore
theorem nums_len_ (k : IntKind) (l : List Int) : (nums k l).length = l.length := by simp [nums]
theorem full_row {W : World} {L : List Int} {cap : Nat} (hcap : L.length ≤ cap) (hm : cap ≤ maxLen) : Kd.R (Kd.int .u8) 5 (W.drew.alloc (.cells ((nums .u8 L).toArray ++ Builtin.zeroCells (Value.int .u8 0).cells (cap - L.length)) 5)) W.heap.size (fun _ => True) (.slice (some ⟨W.heap.size, 0, none⟩) L.length cap) L := by
  refine ⟨fun _ _ => trivial, nums .u8 L, ⟨?_, .inr ⟨W.heap.size, cap, _, rfl, Nat.le_refl _, heap_alloc_new W.drew _, hcap, hm, ?_, ?_⟩⟩, ?_⟩
  · show (nums .u8 L).length = L.length * 1
    rw [nums_len_, Nat.mul_one]
  · show ((nums .u8 L).toArray ++ Builtin.zeroCells (Value.int .u8 0).cells (cap - L.length)).size = cap * 1
    rw [Array.size_append, size_zeroCells]
    simp [nums, Value.cells]
    omega
  · show ((nums .u8 L).toArray ++ Builtin.zeroCells (Value.int .u8 0).cells (cap - L.length)).toList.take (L.length * 1) = nums .u8 L
    rw [Array.toList_append, Nat.mul_one]
    exact List.take_left' (nums_len_ .u8 L)
  · exact Kd.reps_scalar (enc := Value.int .u8) L
set_option maxRecDepth 100000 in
theorem append_full {W : World} {A A2 : Option Addr} {xs ys : List Int} {c : Nat} (hC : Kd.C (Kd.int .u8) W A xs.length xs) (hC2 : Kd.C (Kd.int .u8) W A2 ys.length ys) (hy : 0 < ys.length) (hl : xs.length + ys.length ≤ 1000000000) :
    ∃ v' W', (Builtin.append_ #[30, 30] 30 #[.slice A xs.length xs.length, .slice A2 ys.length c]).run Try.prog W = .ok v' W' ∧ Kd.R (Kd.int .u8) 5 W' W.heap.size (fun _ => True) v' (xs ++ ys) ∧ Below W.heap.size W W' := by
  obtain ⟨i0, hi, hz0, hsz, hby⟩ := info_parts info5
  obtain ⟨a2, e2, _⟩ := hC2.2.2 hy
  subst e2
  have hn := C_cells hC2
  have ho := C_cells hC
  have hnews : ∀ (j : Nat) (v : Value), (nums .u8 ys)[j]? = some v → W.cell? (a2.add j) = some v := fun j v h => by
    obtain ⟨ad, e, h2⟩ := hn j v h
    injection e with e
    rw [e]
    exact h2
  have hln : (nums .u8 ys).length = ys.length * i0.size := by rw [nums_len_, hsz, Nat.mul_one]
  have hlo : (nums .u8 xs).length = xs.length * i0.size := by rw [nums_len_, hsz, Nat.mul_one]
  have hla : (xs ++ ys).length = xs.length + ys.length := List.length_append
  have hna : (nums .u8 (xs ++ ys)).toArray = (nums .u8 xs).toArray ++ (nums .u8 ys).toArray := by simp [nums]
  have h63 : ((xs.length + ys.length : Nat) : Int) ≤ 9223372036854775807 := by omega
  rcases A with _ | a1
  · have hx : xs = [] := by
      rcases Nat.eq_zero_or_pos xs.length with h | h
      · exact List.eq_nil_of_length_eq_zero h
      · obtain ⟨ad, e, _⟩ := hC.2.2 h
        cases e
    subst hx
    have hr := run_append_nil (P := Try.prog) (w := W) 30 30 5 i0 (.int .u8 0) Try.underlying30 hi hz0 a2 ys.length c (nums .u8 ys) hln hnews hy (by omega) (by rw [hby]; omega)
    have hge := grownCap_ge W ys.length 0 5
    have hle := grownCap_le_maxLen W ys.length 0 5 (by unfold maxLen; omega)
    exact ⟨_, _, hr, full_row (L := ys) hge hle, below_alloc (Below.drew (Below.refl _ _)) _⟩
  · have holds : ∀ (j : Nat) (v : Value), (nums .u8 xs)[j]? = some v → W.cell? (a1.add j) = some v := fun j v h => by
      obtain ⟨ad, e, h2⟩ := ho j v h
      injection e with e
      rw [e]
      exact h2
    have hr := run_append_grow (P := Try.prog) (w := W) 30 30 5 i0 (.int .u8 0) Try.underlying30 hi hz0 a1 xs.length xs.length (nums .u8 xs) hlo holds a2 ys.length c (nums .u8 ys) hln hnews (by omega) h63 (growslice_fits (by omega) (by rw [hby]; omega))
    have hge := grownCap_ge W (xs.length + ys.length) xs.length 5
    have hle := grownCap_le_maxLen W (xs.length + ys.length) xs.length 5 (by unfold maxLen; omega)
    have hf := full_row (W := W) (L := xs ++ ys) (cap := grownCap W (xs.length + ys.length) xs.length 5) (by rw [hla]; exact hge) hle
    rw [hla, hna] at hf
    exact ⟨_, _, hr, hf, below_alloc (Below.drew (Below.refl _ _)) _⟩
theorem write_apart (S : Nat → Prop) (B : Nat) (W W2 : World) (g s k : Nat) (D : DrumS) (at_ : Int) (A : Option Addr) (c base N : Nat) (l : List Int) (h : IsDr S B W g s k D) (hW : Below W.heap.size W W2) (hbase : W.heap.size ≤ base) (hR : Kd.R (Kd.int .u8) 5 W2 base (fun _ => True) (.slice A l.length c) l) (hB : B ≤ W.heap.size) (hG : D.Fine N) (hn : l.length ≤ 100000000) (hN : N ≤ 900000000) :
    Calls Try.prog 12 #[.pointer (some ⟨g, 0, none⟩), .int .i64 at_, .slice A l.length c] W2 fun e w' => e = .returned (.int .i64 (writeD D at_ l).2) ∧ IsDr (fun b => S b ∧ ¬ (W.heap.size ≤ b ∧ b < W2.heap.size)) B w' g s k (writeD D at_ l).1 ∧ Below B W w' ∧ Kept W2 w' (fun b => S b ∧ ¬ (W.heap.size ≤ b ∧ b < W2.heap.size)) := by
  refine (write_calls _ B W2 g s k D at_ A c l (h.apart hW) (Nat.le_trans hB hW.size) hG.1 (F_fresh hbase hR) (Kd.R_reads' hR).2.1 (by omega) (by have := hG.2.2; omega) hG.2.1).mono ?_
  rintro e w' ⟨h1, h2, h3, h4⟩
  exact ⟨h1, h2, (hW.mono hB).trans h3, h4⟩
theorem IsJn.apart {S T : Nat → Prop} {B : Nat} {W W2 : World} {j g s k : Nat} {J : JnS} (h : IsJn S T B W j g s k J) (hb : Below W.heap.size W W2) : IsJn (fun b => S b ∧ ¬ (W.heap.size ≤ b ∧ b < W2.heap.size)) T B W2 j g s k J := by
  obtain ⟨v, h1, h2, h3, h4, h5, t1, t2, t3⟩ := h
  exact ⟨v, (hb.block j (blk_lt h1)).trans h1, h2.apart hb, Kd.N_mono (Kd.N_below h3 hb) (fun b hb' => ⟨fun hS => hb'.1 hS.1, hb'.2⟩), fun hS => h4 hS.1, h5, t1, t2, fun b hS => t3 b hS.1⟩
end Go.Proofs.Ytfmdllbkfpbdcaa.G
end
section
namespace Go.Proofs.Ytfmdllbkfpbdcaa.G
open Go Go.RowKit Go.Proofs.YtfmdllbkfpbdcaaX Go.Proofs.YtfmdllbkfpbdcaaW.PrintWords Go.Proofs.YtfmdllbkfpbdcaaW.PrintLast Go.Proofs.YtfmdllbkfpbdcaaW.PrintMore
attribute [local go_sem] max2_int min2_int max_two min_two
theorem append_nobody (w : World) (p : Value) (v0 v1 : Value) (h : ∀ W, Below w.heap.size w W → Calls Try.prog 51 #[p] W fun e w' => e = .returned (.bool false) ∧ w' = W) : Calls Try.prog 24 #[p, .agg #[v0, v1]] w fun e w' => e = .returned (.int .i64 1) ∧ Below w.heap.size w w' := by
  have hud := Try.underlying48
  have HI := Aside0.mk h
  have HB := Aside0.mk (Below.refl w.heap.size w)
  clear h
  go_enter Try.func24, Try.ntmps24
  go_wp2_with (first
    | ((with_reducible refine gate_dst (N := 3) rfl ?_); refine box_ev 3 #[v0, v1] 48 ?_; intro gs hg w1 hbox hb; have n_ := pk1 (below_step HB.out hb); clear HB hbox hg hb; have HB := n_)
    | (go_at_call 51; (with_reducible refine (HI.out _ HB.out).mono ?_); rintro e w6 ⟨rfl, he⟩; rw [he]; clear he w6))
  go_ret
  exact ⟨rfl, HB.out⟩
def japp.T3 : Bool × List (List Nat × List Nat) := (true, [([], []), ([], []), ([1], [1]), ([2], [2]), ([3], [3]), ([0, 4], [0, 4]), ([5], [5]), ([6], [6]), ([6], [6]), ([7, 5, 0, 1, 2, 3, 4, 5, 6, 7], [7]), ([8, 9, 0, 1, 2, 3, 4, 5, 6, 7, 8, 9], [8])])
def japp.B3 : List Nat := [0, 0, 2, 6, 14, 31, 63, 127, 127, 255, 1023]
theorem japp.tab3 : rtab .any (opsOf Try.f24 3) = japp.T3 := by kernel_rfl
theorem japp.bits3 : waitsOk japp.T3.2 japp.B3 = true := by kernel_rfl
def japp.T8 : Bool × List (List Nat × List Nat) := (true, [([], []), ([], []), ([1], [1]), ([2], [2]), ([3], [3]), ([0, 4], [0, 4]), ([], []), ([6], [6]), ([7], [7]), ([8], [8]), ([9], [9]), ([5, 10], [5, 10]), ([11, 5, 0, 1, 2, 3, 4, 5, 6, 7, 8, 9, 10, 11], [11])])
def japp.B8 : List Nat := [0, 0, 2, 6, 14, 31, 0, 64, 192, 448, 960, 2047, 4095]
theorem japp.tab8 : rtab .any (opsOf Try.f24 8) = japp.T8 := by kernel_rfl
theorem japp.bits8 : waitsOk japp.T8.2 japp.B8 = true := by kernel_rfl
def japp.T9 : Bool × List (List Nat × List Nat) := (true, [([], []), ([0], [0]), ([1], [1]), ([2], [2]), ([], []), ([], []), ([5], [5]), ([6], [6]), ([7], [7]), ([8], [8]), ([9], [9]), ([3, 4, 10], [3, 4, 10]), ([11], [11]), ([12], [12]), ([12], [12]), ([13, 11, 0, 1, 2, 3, 4, 5, 6, 7, 8, 9, 10, 11, 12, 13], [13]), ([14, 15, 0, 1, 2, 3, 4, 5, 6, 7, 8, 9, 10, 11, 12, 13, 14, 15], [14])])
def japp.B9 : List Nat := [0, 1, 3, 7, 0, 0, 32, 96, 224, 480, 992, 2047, 4095, 8191, 8191, 16383, 65535]
theorem japp.tab9 : rtab .any (opsOf Try.f24 9) = japp.T9 := by kernel_rfl
theorem japp.bits9 : waitsOk japp.T9.2 japp.B9 = true := by kernel_rfl
def japp.T10 : Bool × List (List Nat × List Nat) := (true, [([], []), ([0], [0]), ([1], [1]), ([2], [2]), ([], []), ([], []), ([], []), ([6], [6]), ([7], [7]), ([8], [8]), ([9], [9]), ([], []), ([11], [11]), ([12], [12]), ([13], [13]), ([14], [14]), ([5, 10, 15], [5, 10, 15]), ([], []), ([16, 17], [16, 17]), ([18, 18], [18]), ([3, 4, 19, 19], [3, 4, 19])])
def japp.B10 : List Nat := [0, 1, 3, 7, 0, 0, 0, 64, 192, 448, 960, 0, 2048, 6144, 14336, 30720, 65504, 0, 262112, 524256, 1048575]
theorem japp.tab10 : rtab .any (opsOf Try.f24 10) = japp.T10 := by kernel_rfl
theorem japp.bits10 : waitsOk japp.T10.2 japp.B10 = true := by kernel_rfl
def japp.T12 : Bool × List (List Nat × List Nat) := (true, [([], []), ([], []), ([1], [1]), ([2], [2]), ([3], [3]), ([], []), ([5], [5]), ([6], [6]), ([4, 7, 7], [4, 7]), ([0, 0, 1, 2, 3, 4, 5, 6, 7, 8], [0]), ([9, 0, 1, 2, 3, 4, 5, 6, 7, 8], [9]), ([10, 8, 8, 0, 1, 2, 3, 4, 5, 6, 7, 8], [8, 10])])
def japp.B12 : List Nat := [0, 0, 2, 6, 14, 0, 32, 96, 254, 511, 1023, 2047]
theorem japp.tab12 : rtab .any (opsOf Try.f24 12) = japp.T12 := by kernel_rfl
theorem japp.bits12 : waitsOk japp.T12.2 japp.B12 = true := by kernel_rfl
def appJ (J : JnS) (x : S48) (b : List Int) (er : Int) (p : List Int) : JnS × Int :=
  if er ≠ 0 then (J, er) else if (b.length : Int) > 64 * (J.secs - 1) - J.e then (J, 6)
  else ({ J with D := (writeD J.D (J.half * J.secs + 1 + J.e / 64) p).1, e := J.e + b.length, l := J.l ++ [x] }, 0)
theorem appJ_er {J : JnS} {x b er p} (h : er ≠ 0) : appJ J x b er p = (J, er) := by unfold appJ; rw [if_pos h]
theorem appJ_long {J : JnS} {x b er p} (h : er = 0) (h2 : (b.length : Int) > 64 * (J.secs - 1) - J.e) : appJ J x b er p = (J, 6) := by unfold appJ; rw [if_neg (by simp [h]), if_pos h2]
theorem appJ_ok {J : JnS} {x b er p} (h : er = 0) (h2 : ¬ (b.length : Int) > 64 * (J.secs - 1) - J.e) : appJ J x b er p = ({ J with D := (writeD J.D (J.half * J.secs + 1 + J.e / 64) p).1, e := J.e + b.length, l := J.l ++ [x] }, 0) := by unfold appJ; rw [if_neg (by simp [h]), if_neg h2]
set_option maxHeartbeats 64000000 in
set_option maxRecDepth 100000 in
theorem IsJn.append {S T : Nat → Prop} {B N : Nat} {w : World} {j g s k : Nat} {J : JnS} (kk : Nat) (A0 : Option Addr) (c0 : Nat) (A1 : Option Addr) (c1 : Nat) (x : S48) (b was p : List Int) (er ewas : Int) (h : IsJn S T B w j g s k J) (hB : B ≤ w.heap.size) (hG : J.D.Fine N) (hN : N ≤ 800000000) (hh : J.half = 0 ∨ J.half = 1) (he : 0 ≤ J.e ∧ J.e ≤ 1000000000)
    (g0 : Kd.F (Kd.int .i64) w (fun b => ¬ T b) A0 x.f0.length x.f0) (q0 : x.f0.length ≤ c0) (g1 : Kd.F Kd.string w (fun b => ¬ T b) A1 x.f1.length x.f1) (q1 : x.f1.length ≤ c1) (hx : x.f0.length < 1000000000 ∧ x.f1.length < 1000000000) (hjl : J.l.length < 1000000000)
    (hf : journal_framed.f kk x.f0 x.f1 J.age = some (b, er)) (hbl : er = 0 → 0 < b.length ∧ b.length ≤ 100000000) (hw : readD J.D (J.half * J.secs + 1 + J.e / 64) (mn 1 (J.e % 64)) = (was, ewas)) (hwl : (J.e % 64).toNat ≤ was.length ∧ was.length ≤ 100000000) (hp : er = 0 → journal_filled.f (was.take (J.e % 64).toNat ++ b) = some p ∧ p.length ≤ 100000000) :
    Calls Try.prog 24 #[.pointer (some ⟨j, 0, none⟩), .agg #[.slice A0 x.f0.length c0, .slice A1 x.f1.length c1]] w fun e w' => ∃ S', e = .returned (.int .i64 (appJ J x b er p).2) ∧ IsJn S' T B w' j g s k (appJ J x b er p).1 ∧ (∀ b, S' b → S b) ∧ Below B w w' ∧ Kept w w' T := by
  have hu := Try.underlying54
  have hud := Try.underlying48
  have HJ := Aside0.mk h
  obtain ⟨v, h1, h2, h3, h4, h5, t1, t2, t3⟩ := h
  have HTS := Aside0.mk t3
  have HVL := Aside0.mk (Kd.N_lt h3)
  obtain ⟨ag, hage⟩ : ∃ x, x = J.age := ⟨_, rfl⟩
  obtain ⟨hf_, hhf⟩ : ∃ x, x = J.half := ⟨_, rfl⟩
  obtain ⟨m, hm⟩ := Int.eq_ofNat_of_zero_le he.1
  have BK := Aside0.mk h1
  have HBB := Aside0.mk hB
  have HGG := Aside0.mk hG
  have HNN := Aside0.mk hN
  have HH := Aside0.mk hh
  have HE := Aside0.mk he
  have G0 := Aside0.mk g0
  have Q0 := Aside0.mk q0
  have G1 := Aside0.mk g1
  have Q1 := Aside0.mk q1
  have HX := Aside0.mk hx
  have HJL := Aside0.mk hjl
  have HF := Aside0.mk hf
  have HBL := Aside0.mk hbl
  have HW := Aside0.mk hw
  have HWL := Aside0.mk hwl
  have HP := Aside0.mk hp
  have HAE := Aside0.mk hage
  have HHE := Aside0.mk hhf
  have HM := Aside0.mk hm
  have HB := Aside0.mk (Below.refl w.heap.size w)
  rw [← hage, ← hhf, hm] at BK
  rw [← hage] at HF
  have ISC : Aside0 (∀ W, Below w.heap.size w W → Calls Try.prog 51 #[.pointer (some ⟨j, 0, none⟩)] W fun e w' => e = .returned (.bool true) ∧ w' = W) := ⟨fun W hW => is_blk W j (some ⟨g, 0, none⟩) _ _ _ _ ((hW.block j (blk_lt h1)).trans h1)⟩
  have LEFT : Aside0 (∀ W, Below w.heap.size w W → Calls Try.prog 26 #[.pointer (some ⟨j, 0, none⟩)] W fun e w' => e = .returned (.int .i64 (64 * (J.secs - 1) - (m : Int))) ∧ Below W.heap.size W w') := ⟨fun W hW => by rw [← hm]; exact (HJ.out.below hW).left hG.good he⟩
  have hs : 0 ≤ J.secs ∧ J.secs ≤ 100000 := by unfold JnS.secs; have := hG.good.1; have := hG.good.2.1; omega
  obtain ⟨fs, hfs⟩ : ∃ x, x = J.half * J.secs + 1 := ⟨_, rfl⟩
  have hfr : 1 ≤ fs ∧ fs ≤ 200000 := by rcases hh with e | e <;> rw [e] at hfs <;> omega
  have FST : Aside0 (∀ W, Below w.heap.size w W → Calls Try.prog 55 #[.pointer (some ⟨j, 0, none⟩), .int .i64 hf_] W fun e w' => e = .returned (.int .i64 fs) ∧ w' = W) := ⟨fun W hW => by rw [hfs, hhf]; exact (HJ.out.below hW).first hG.good J.half hh⟩
  have HFS := Aside0.mk hfs
  have HFR := Aside0.mk hfr
  clear hs hfs hfr
  obtain ⟨lf, hlf⟩ : ∃ x, x = 64 * (J.secs - 1) - (m : Int) := ⟨_, rfl⟩
  rw [← hlf] at LEFT
  have HLF := Aside0.mk hlf
  clear h1 h2 h3 h4 h5 t1 t2 t3 hage hhf hm hB hG hN hh he g0 q0 g1 q1 hx hjl hf hbl hw hwl hp hlf
  go_enter Try.func24, Try.ntmps24
  go_upto_region 3 with (first
    | ((with_reducible refine gate_dst (N := 3) rfl ?_); refine box_ev 3 #[.slice A0 x.f0.length c0, .slice A1 x.f1.length c1] 48 ?_; intro gs hg w1 hbox hb; have n_ := pk7 (Kd.F_below G0.out hb) (Kd.F_below G1.out hb) (below_step HB.out hb) hbox (blk_below BK.out hb) (ge_ hg HB.out : w.heap.size ≤ gs) (show j ≠ gs by have := blk_lt BK.out; omega); clear HB hbox hg hb; obtain ⟨G0b, G1b, HB, BKS, BKr, GSZ, NJ⟩ := n_; obtain ⟨hcs0, hcs1, hfs0, hfs1⟩ := blk_at2 BKS.out)
    | (go_at_call 51; (with_reducible refine (ISC.out _ HB.out).mono ?_); rintro e w6 ⟨rfl, he⟩; rw [he]; clear he w6))
  clear hcs0 hcs1 hfs0 hfs1
  have n_ := pk5 (Kd.F_below G0b.out (below_drew (Below.refl _ _))) (Kd.F_below G1b.out (below_drew (Below.refl _ _))) (below_drew1 HB.out) (blk_drew BKS.out) (blk_drew BKr.out)
  clear G0b G1b HB BKS BKr
  obtain ⟨G0b, G1b, HB, BKS, BKr⟩ := n_
  refine start_ (n := 11) (S := fun w' => w'.cell? ⟨gs, 0, none⟩ = some (.slice A0 x.f0.length c0) ∧ w'.cell? ⟨gs, 1, none⟩ = some (.slice A1 x.f1.length c1) ∧ w'.cell? ⟨j, 2, none⟩ = some (.int .i64 ag)) (ds := []) (up (List.range 11) 11 0) (by kernel_rfl) rfl (by kernel_rfl) ⟨(blk_cell BKS.out 0).trans rfl, (blk_cell BKS.out 1).trans rfl, (blk_cell BKr.out 2).trans rfl⟩ (fun hHeld => ?_)
  refine with_tabW japp.tab3 japp.bits3 (fun HT_ HW_ => ?_)
  generalize w1.drew = w2 at G0b G1b HB BKS BKr hHeld ⊢
  iterate 5 (first | (refine pq_ (v := ?_) (a' := ?_) rfl rfl HT_.out (by kernel_rfl) (fun _ _ _ h => h) (Or.inl ⟨by rfl, ?hy⟩) ?ha ?_; (case hy => intro w'; go_simp; with_reducible rfl); (case ha => show Act.put _ (some _) _ = _; simp only [ap_, sb_, s0_, s1_, i64_w, i32_w]; rfl)) | (refine tq_ (v := ?_) (a' := ?_) rfl rfl HT_.out HW_.out (by kernel_rfl) (fun _ _ _ h => h) (Or.inl ⟨by rfl, ?hy⟩) hHeld ?ha ?_; (case hy => rintro w' ⟨s0_, s1_, s2_⟩; go_simp; with_reducible rfl); (case ha => show Act.put _ (some _) _ = _; simp only [ap_, sb_, s0_, s1_, i64_w, i32_w]; rfl)))
  refine oq_ rfl rfl HT_.out (by kernel_rfl) (by decide) (fun K hK => ?_)
  refine goes_ Try.func54 (by kernel_rfl) rfl #[.agg #[.slice A0 x.f0.length c0, .slice A1 x.f1.length c1], .int .i64 ag] (by rfl) rfl rfl (by (try simp only [List.map_toArray, List.map_cons, List.map_nil]); first | done | rfl) ?_
  with_reducible refine (journal_framed.calls kk A0 c0 x.f0 A1 c1 x.f1 ag b er _ (Kd.F_now G0b.out) Q0.out (Kd.F_now G1b.out) Q1.out HF.out).mono ?_
  rintro e w3 ⟨v3, rfl, ho, hb⟩
  refine ⟨_, rfl, ?_⟩
  obtain ⟨A3, c3, hv⟩ := Kd.R_slice ho
  subst hv
  have n_ := pk4 (Kd.R_lower ho HB.out.size) (below_step HB.out hb) (blk_below BKS.out hb) (blk_below BKr.out hb)
  clear G0b G1b HB BKS BKr ho hb
  obtain ⟨HO3, HB, BKS, BKr⟩ := n_
  refine hK.out _ _ ⟨(blk_cell BKS.out 0).trans rfl, (blk_cell BKS.out 1).trans rfl, (blk_cell BKr.out 2).trans rfl⟩ (fun hHeld => ?_)
  clear hK K
  refine norm_ (a' := ?_) ?_ ?_
  rotate_left
  · show Act.put _ (some 19) _ = _
    simp only [ap_, sb_, s0_, s1_, i64_w, i32_w]
    rfl
  iterate 5 (refine pq_ (v := ?_) (a' := ?_) rfl rfl HT_.out (by kernel_rfl) (fun _ _ _ h => h) (Or.inl ⟨by rfl, ?hy⟩) ?ha ?_; (case hy => intro w'; go_simp; with_reducible rfl); (case ha => show Act.put _ (some _) _ = _; simp only [ap_, sb_, s0_, s1_, i64_w, i32_w]; rfl))
  refine done_ (done_of HT_.out (by kernel_rfl)) ?_
  clear hHeld
  by_cases z1 : er = 0
  rotate_left
  · have q2 : (er != 0) = true := by simpa using z1
    have Z1 := Aside0.mk z1
    clear z1
    go_wp2
    go_ret
    rw [appJ_er Z1.out]
    first | exact ⟨S, rfl, HJ.out.below HB.out, fun _ h => h, HB.out.mono HBB.out, Kept.of_below HB.out T⟩ | exact ⟨rfl, S, HJ.out.below HB.out, fun _ h => h, HB.out.mono HBB.out, Kept.of_below HB.out T⟩
  have q2 : (er != 0) = false := by simpa using z1
  have Z1 := Aside0.mk z1
  clear z1
  by_cases r1 : lf < (b.length : Int)
  · have q3 : decide (lf < (b.length : Int)) = true := decide_eq_true r1
    have R1 := Aside0.mk r1
    clear r1
    go_wp2_with (go_at_call 26; (with_reducible refine (LEFT.out _ HB.out).mono ?_); rintro e w6 ⟨rfl, hb⟩; have n_ := pk1 (below_step HB.out hb); clear HB hb; have HB := n_)
    go_ret
    rw [appJ_long Z1.out (by have := R1.out; have := HLF.out; have := HM.out; omega)]
    first | exact ⟨S, rfl, HJ.out.below HB.out, fun _ h => h, HB.out.mono HBB.out, Kept.of_below HB.out T⟩ | exact ⟨rfl, S, HJ.out.below HB.out, fun _ h => h, HB.out.mono HBB.out, Kept.of_below HB.out T⟩
  have q3 : decide (lf < (b.length : Int)) = false := decide_eq_false r1
  have R1 := Aside0.mk r1
  clear r1
  go_upto_region 8 with (go_at_call 26; (with_reducible refine (LEFT.out _ HB.out).mono ?_); rintro e w6 ⟨rfl, hb⟩; have n_ := pk4 (below_step HB.out hb) (Kd.R_below HO3.out hb) (blk_below BKS.out hb) (blk_below BKr.out hb); clear HB HO3 BKS BKr hb; obtain ⟨HB, HO3, BKS, BKr⟩ := n_)
  have n_ := pk4 (below_drew1 HB.out) (Kd.R_drew HO3.out) (blk_drew BKS.out) (blk_drew BKr.out)
  clear HB HO3 BKS BKr
  obtain ⟨HB, HO3, BKS, BKr⟩ := n_
  refine start_ (n := 13) (S := fun w' => w'.cell? ⟨j, 1, none⟩ = some (.int .i64 hf_) ∧ w'.cell? ⟨j, 4, none⟩ = some (.int .i64 (m : Int))) (ds := []) (up ([0, 1, 2, 3, 4, 6, 7, 8, 9, 10, 5, 11, 12]) 13 0) (by kernel_rfl) rfl (by kernel_rfl) ⟨(blk_cell BKr.out 1).trans rfl, (blk_cell BKr.out 4).trans rfl⟩ (fun hHeld => ?_)
  refine with_tabW japp.tab8 japp.bits8 (fun HT_ HW_ => ?_)
  generalize w6.drew = w7 at HB HO3 BKS BKr hHeld ⊢
  iterate 10 (first | (refine pq_ (v := ?_) (a' := ?_) rfl rfl HT_.out (by kernel_rfl) (fun _ _ _ h => h) (Or.inl ⟨by rfl, ?hy⟩) ?ha ?_; (case hy => intro w'; go_simp; with_reducible rfl); (case ha => show Act.put _ (some _) _ = _; simp only [ap_, sb_, s0_, s1_, i64_w, i32_w]; rfl)) | (refine tq_ (v := ?_) (a' := ?_) rfl rfl HT_.out HW_.out (by kernel_rfl) (fun _ _ _ h => h) (Or.inl ⟨by rfl, ?hy⟩) hHeld ?ha ?_; (case hy => rintro w' ⟨s0_, s1_⟩; go_simp; with_reducible rfl); (case ha => show Act.put _ (some _) _ = _; simp only [ap_, sb_, s0_, s1_, i64_w, i32_w]; rfl)))
  refine oq_ rfl rfl HT_.out (by kernel_rfl) (by decide) (fun K hK => ?_)
  refine goes_ Try.func55 (by kernel_rfl) rfl #[.pointer (some ⟨j, 0, none⟩), .int .i64 hf_] (by rfl) rfl rfl (by (try simp only [List.map_toArray, List.map_cons, List.map_nil]); first | done | rfl) ?_
  with_reducible refine (FST.out _ HB.out).mono ?_
  rintro e w8 ⟨rfl, he⟩
  rw [he]
  clear he w8
  refine ⟨_, rfl, ?_⟩
  refine hK.out _ _ hHeld (fun hHeld => ?_)
  clear hK K
  refine norm_ (a' := ?_) ?_ ?_
  rotate_left
  · show Act.put _ (some 37) _ = _
    simp only [ap_, sb_, s0_, s1_, i64_w, i32_w]
    rfl
  iterate 2 (refine pq_ (v := ?_) (a' := ?_) rfl rfl HT_.out (by kernel_rfl) (fun _ _ _ h => h) (Or.inl ⟨by rfl, ?hy⟩) ?ha ?_; (case hy => intro w'; go_simp; with_reducible rfl); (case ha => show Act.put _ (some _) _ = _; simp only [ap_, sb_, s0_, s1_, i64_w, i32_w]; rfl))
  refine done_ (done_of HT_.out (by kernel_rfl)) ?_
  clear hHeld
  go_upto_region 9 with (fail)
  have hat0 : wrap64 (fs + wrap64 ((m : Int) / 64)) = J.half * J.secs + 1 + J.e / 64 := by
    have h1 := HFS.out
    have h2 := HFR.out
    have h3 := HE.out
    rw [HM.out] at h3 ⊢
    unfold wrap64
    omega
  obtain ⟨at_, hat⟩ : ∃ x, x = wrap64 (fs + wrap64 ((m : Int) / 64)) := ⟨_, rfl⟩
  rw [← hat]
  have HAT := Aside0.mk (hat.trans hat0)
  have RDC : Aside0 (∀ W, Below w.heap.size w W → Calls Try.prog 17 #[.pointer (some ⟨g, 0, none⟩), .int .i64 at_, .int .i64 (mn 1 ((m : Int) % 64))] W fun e w' => ∃ v, e = .returned (.tuple #[v, .int .i64 ewas]) ∧ Kd.R (Kd.int .u8) 5 w' W.heap.size (fun _ => True) v was ∧ Below W.heap.size W w') := ⟨fun W hW => by
    have h_ := read_calls S B W g s k J.D at_ (mn 1 ((m : Int) % 64)) (HJ.out.below hW).dr HGG.out.good
    rw [HAT.out, ← HM.out, HW.out] at h_
    rw [HAT.out, ← HM.out]
    exact h_⟩
  clear hat hat0
  have n_ := pk4 (below_drew1 HB.out) (Kd.R_drew HO3.out) (blk_drew BKS.out) (blk_drew BKr.out)
  clear HB HO3 BKS BKr
  obtain ⟨HB, HO3, BKS, BKr⟩ := n_
  refine start_ (n := 17) (S := fun w' => w'.cell? ⟨j, 0, none⟩ = some (.pointer (some ⟨g, 0, none⟩)) ∧ w'.cell? ⟨j, 4, none⟩ = some (.int .i64 (m : Int))) (ds := []) (up (List.range 17) 17 0) (by kernel_rfl) rfl (by kernel_rfl) ⟨(blk_cell BKr.out 0).trans rfl, (blk_cell BKr.out 4).trans rfl⟩ (fun hHeld => ?_)
  refine with_tabW japp.tab9 japp.bits9 (fun HT_ HW_ => ?_)
  generalize w7.drew = w8 at HB HO3 BKS BKr hHeld ⊢
  iterate 11 (first | (refine pq_ (v := ?_) (a' := ?_) rfl rfl HT_.out (by kernel_rfl) (fun _ _ _ h => h) (Or.inl ⟨by rfl, ?hy⟩) ?ha ?_; (case hy => intro w'; go_simp; with_reducible rfl); (case ha => show Act.put _ (some _) _ = _; simp only [ap_, sb_, s0_, s1_, i64_w, i32_w]; rfl)) | (refine tq_ (v := ?_) (a' := ?_) rfl rfl HT_.out HW_.out (by kernel_rfl) (fun _ _ _ h => h) (Or.inl ⟨by rfl, ?hy⟩) hHeld ?ha ?_; (case hy => rintro w' ⟨s0_, s1_⟩; go_simp; with_reducible rfl); (case ha => show Act.put _ (some _) _ = _; simp only [ap_, sb_, s0_, s1_, i64_w, i32_w]; rfl)))
  refine oq_ rfl rfl HT_.out (by kernel_rfl) (by decide) (fun K hK => ?_)
  refine goes_ Try.func17 (by kernel_rfl) rfl #[.pointer (some ⟨g, 0, none⟩), .int .i64 at_, .int .i64 (mn 1 ((m : Int) % 64))] (by rfl) rfl rfl (by (try simp only [List.map_toArray, List.map_cons, List.map_nil]); first | done | rfl) ?_
  with_reducible refine (RDC.out _ HB.out).mono ?_
  rintro e w9 ⟨v9, rfl, ho, hb⟩
  refine ⟨_, rfl, ?_⟩
  obtain ⟨A9, c9, hv⟩ := Kd.R_slice ho
  subst hv
  have n_ := pk5 (Kd.R_lower ho HB.out.size) (below_step HB.out hb) (Kd.R_below HO3.out hb) (blk_below BKS.out hb) (blk_below BKr.out hb)
  clear HB HO3 BKS BKr ho hb
  obtain ⟨HO9, HB, HO3, BKS, BKr⟩ := n_
  refine hK.out _ _ ⟨(blk_cell BKr.out 0).trans rfl, (blk_cell BKr.out 4).trans rfl⟩ (fun hHeld => ?_)
  clear hK K
  refine norm_ (a' := ?_) ?_ ?_
  rotate_left
  · show Act.put _ (some 56) _ = _
    simp only [ap_, sb_, s0_, s1_, i64_w, i32_w]
    rfl
  iterate 5 (refine pq_ (v := ?_) (a' := ?_) rfl rfl HT_.out (by kernel_rfl) (fun _ _ _ h => h) (Or.inl ⟨by rfl, ?hy⟩) ?ha ?_; (case hy => intro w'; go_simp; with_reducible rfl); (case ha => show Act.put _ (some _) _ = _; simp only [ap_, sb_, s0_, s1_, i64_w, i32_w]; rfl))
  refine done_ (done_of HT_.out (by kernel_rfl)) ?_
  clear hHeld
  go_upto_region 10 with (fail)
  have hml : m % 64 ≤ was.length := by have := HWL.out.1; have := HM.out; omega
  have hR9 := Kd.R_take HO9.out hml
  obtain ⟨xs, hxs⟩ : ∃ x, x = was.take (m % 64) := ⟨_, rfl⟩
  have hxl : xs.length = m % 64 := by rw [hxs, List.length_take]; omega
  rw [← hxs, ← hxl] at hR9
  have hcut : ∀ W : World, (Instr.slice 30 (.slice A9 was.length c9) none (some (.int .i64 ((m : Int) % 64))) (some (.int .i64 ((m : Int) % 64)))).run Try.prog W = .ok (.slice A9 xs.length xs.length) W := fun W => by
    have hel : Try.prog.elem 30 = 5 := by simp [Program.elem, Try.underlying30]
    have hu_ : Try.prog.underlying 30 = some (.slice (Try.prog.elem 30)) := by rw [hel]; exact Try.underlying30
    obtain ⟨i0, hi, _, hsz, _⟩ := info_parts info5
    have ha : (A9.map fun x => x.add 0) = A9 := by cases A9 <;> simp [Addr.add]
    have hcc := (Kd.R_reads' HO9.out).2.1
    rw [run_slice_hm W 30 A9 was.length c9 hu_ .i64 .i64 ((m : Int) % 64) ((m : Int) % 64) (by omega) (Int.le_refl _) (by omega), hel]
    have e1 : ((m : Int) % 64).toNat = xs.length := by omega
    simp [sizeOf, typeInfo, hi, sliced, Result.andThen, ha, e1]
  obtain ⟨row, hrow⟩ : ∃ x, x = xs ++ b := ⟨_, rfl⟩
  have hpp := HP.out Z1.out
  rw [show (J.e % 64).toNat = m % 64 by have := HM.out; omega, ← hxs, ← hrow] at hpp
  have HPP := Aside0.mk hpp
  have HROW := Aside0.mk hrow
  have HXL := Aside0.mk hxl
  have n_ := pk5 (below_drew1 HB.out) (Kd.R_drew HO3.out) (blk_drew BKS.out) (blk_drew BKr.out) (Kd.R_drew hR9)
  clear HB HO3 BKS BKr HO9 hR9 hml hxs hxl hrow hpp
  have htm : (m : Int).tmod 64 = (m : Int) % 64 := Int.tmod_eq_emod_of_nonneg (by omega)
  obtain ⟨HB, HO3, BKS, BKr, HO9⟩ := n_
  refine start_ (n := 21) (S := fun w' => w'.cell? ⟨j, 0, none⟩ = some (.pointer (some ⟨g, 0, none⟩)) ∧ w'.cell? ⟨j, 4, none⟩ = some (.int .i64 (m : Int))) (ds := []) (up (List.range 21) 21 0) (by kernel_rfl) rfl (by kernel_rfl) ⟨(blk_cell BKr.out 0).trans rfl, (blk_cell BKr.out 4).trans rfl⟩ (fun hHeld => ?_)
  refine with_tabW japp.tab10 japp.bits10 (fun HT_ HW_ => ?_)
  generalize w9.drew = w10 at HB HO3 BKS BKr HO9 hHeld ⊢
  iterate 18 (first | (refine pq_ (v := ?_) (a' := ?_) rfl rfl HT_.out (by kernel_rfl) (fun _ _ _ h => h) (Or.inl ⟨by rfl, ?hy⟩) ?ha ?_; (case hy => intro w'; go_simp; with_reducible rfl); (case ha => show Act.put _ (some _) _ = _; simp only [ap_, sb_, s0_, s1_, i64_w, i32_w]; rfl)) | (refine tq_ (v := ?_) (a' := ?_) rfl rfl HT_.out HW_.out (by kernel_rfl) (fun _ _ _ h => h) (Or.inl ⟨by rfl, ?hy⟩) hHeld ?ha ?_; (case hy => rintro w' ⟨s0_, s1_⟩; go_simp; with_reducible rfl); (case ha => show Act.put _ (some _) _ = _; simp only [ap_, sb_, s0_, s1_, i64_w, i32_w]; rfl)))
  refine oq_ rfl rfl HT_.out (by kernel_rfl) (by decide) (fun K hK => ?_)
  obtain ⟨v77, w11, hr, ho, hb⟩ := append_full (Kd.R_reads' HO9.out).2.2 (Kd.R_reads' HO3.out).2.2 (c := c3) (HBL.out Z1.out).1 (by have := HXL.out; have := HBL.out Z1.out; omega)
  rw [← HROW.out] at ho
  rw [if_pos (by rfl)]
  refine Lib.wp_append_run _ (.tmp 75) (.tmp 76) 30 30 rfl _ _ rfl rfl v77 w11 hr ?_
  obtain ⟨A77, c77, hv⟩ := Kd.R_slice ho
  subst hv
  have n_ := pk4 (Kd.R_lower (Kd.R_mono (ok' := fun k => k ≠ gs) (Kd.R_bound ho) (fun k hk => by have := blk_lt BKS.out; have := hk.2.1; omega)) HB.out.size) (below_step HB.out hb) (blk_below BKS.out hb) (blk_below BKr.out hb)
  clear HB BKS BKr HO9 ho hb hr
  obtain ⟨HO9, HB, BKS, BKr⟩ := n_
  refine hK.out _ _ ⟨(blk_cell BKr.out 0).trans rfl, (blk_cell BKr.out 4).trans rfl⟩ (fun hHeld => ?_)
  clear hK K
  refine norm_ (a' := ?_) ?_ ?_
  rotate_left
  · show Act.put _ (some 77) _ = _
    simp only [ap_, sb_, s0_, s1_, i64_w, i32_w]
    rfl
  refine oq_ rfl rfl HT_.out (by kernel_rfl) (by decide) (fun K hK => ?_)
  refine goes_ Try.func56 (by kernel_rfl) rfl #[.slice A77 row.length c77] (by rfl) rfl rfl (by (try simp only [List.map_toArray, List.map_cons, List.map_nil]); first | done | rfl) ?_
  with_reducible refine (journal_filled.calls (fun k => k ≠ gs) _ row p w _ HB.out HO9.out HPP.out.1).mono ?_
  rintro e w14 ⟨v14, rfl, ho, hb, hk⟩
  refine ⟨_, rfl, ?_⟩
  obtain ⟨A14, c14, hv⟩ := Kd.R_slice ho
  subst hv
  have n_ := pk4 (Kd.R_mono ho (fun _ _ => trivial) : Kd.R _ _ _ _ (fun _ => True) _ _) hb ((hb.block j (blk_lt BK.out)).trans BK.out) ((hk.2 gs (blk_lt BKS.out) (fun h => h rfl)).trans BKS.out)
  clear HB BKr HO9 BKS ho hb hk
  obtain ⟨HO9, HB, BKr, BKS⟩ := n_
  refine hK.out _ _ ⟨(blk_cell BKr.out 0).trans rfl, (blk_cell BKr.out 4).trans rfl⟩ (fun hHeld => ?_)
  clear hK K
  refine norm_ (a' := ?_) ?_ ?_
  rotate_left
  · show Act.put _ (some 78) _ = _
    simp only [ap_, sb_, s0_, s1_, i64_w, i32_w]
    rfl
  refine oq_ rfl rfl HT_.out (by kernel_rfl) (by decide) (fun K hK => ?_)
  refine goes_ Try.func12 (by kernel_rfl) rfl #[.pointer (some ⟨g, 0, none⟩), .int .i64 at_, .slice A14 p.length c14] (by rfl) rfl rfl (by (try simp only [List.map_toArray, List.map_cons, List.map_nil]); first | done | rfl) ?_
  have hW2 := HB.out
  generalize hwp : w14 = wp at HB HO9 BKr BKS hW2 ⊢
  with_reducible refine (write_apart S B w wp g s k J.D at_ A14 c14 w.heap.size N p HJ.out.dr hW2 (Nat.le_refl _) HO9.out HBB.out HGG.out HPP.out.2 (Nat.le_trans HNN.out (by decide))).mono ?_
  rintro e w15 ⟨rfl, hd, hb, hk⟩
  refine ⟨_, rfl, ?_⟩
  obtain ⟨S1, hS1⟩ : ∃ X : Nat → Prop, X = (fun b => S b ∧ ¬ (w.heap.size ≤ b ∧ b < wp.heap.size)) := ⟨_, rfl⟩
  have hjA := HJ.out.apart hW2
  rw [← hS1] at hd hk hjA
  have n_ := pk5 (hjA.put_ hd hk) hb hk ((hk.2 gs (blk_lt BKS.out) (by rw [hS1]; exact fun h => h.2 ⟨GSZ.out, blk_lt BKS.out⟩)).trans BKS.out) (show ∀ b, S1 b → S b by rw [hS1]; exact fun b h => h.1)
  have HKW : Aside0 (∀ b, ¬ T b → b < w.heap.size → w15.heap[b]? = w.heap[b]?) := ⟨fun b hT hlt => (hk.2 b (Nat.lt_of_lt_of_le hlt hW2.size) (fun h => hT (HTS.out b ((show ∀ b, S1 b → S b by rw [hS1]; exact fun b h => h.1) b h)))).trans (hW2.block b hlt)⟩
  have HKT : Aside0 (Kept w w15 T) := ⟨⟨Nat.le_trans hW2.size hk.1, fun b hlt hT => HKW.out b hT hlt⟩⟩
  have hjw := (hk.2 j (blk_lt BKr.out) (by obtain ⟨_, _, _, _, q4, _⟩ := hjA; exact q4)).trans ((hW2.block j (blk_lt BK.out)).trans BK.out)
  clear HB BKr HO9 BKS hd hb hk hjA hS1 hwp hW2
  obtain ⟨HJ2, HB, HK2, BKS, HS1⟩ := n_
  obtain ⟨v15, hv15, hd15, hn15, hj15, hb15, hT1, hT2, hT3⟩ := HJ2.out
  rw [show J.half = hf_ from HHE.out.symm, show J.age = ag from HAE.out.symm, show J.e = (m : Int) from HM.out] at hv15
  have hvv : v15 = v := by have e_ := hv15.symm.trans hjw; injection e_ with e_; injection e_ with e_ _ _; exact Option.some.inj (show some v15 = some v from congrArg (fun a : Array Value => a[3]?) e_)
  subst hvv
  have BKr := Aside0.mk hv15
  have HD15 := Aside0.mk hd15
  have HN15 := Aside0.mk hn15
  have HNS := Aside0.mk hj15
  have HBJ := Aside0.mk hb15
  have HT1 := Aside0.mk hT1
  have HT2 := Aside0.mk hT2
  have HT3 := Aside0.mk hT3
  clear hjw hv15 hd15 hn15 hj15 hb15 hT1 hT2 hT3
  refine hK.out _ _ ⟨(blk_cell BKr.out 0).trans rfl, (blk_cell BKr.out 4).trans rfl⟩ (fun hHeld => ?_)
  clear hK K
  refine norm_ (a' := ?_) ?_ ?_
  rotate_left
  · show Act.put _ (some 79) _ = _
    simp only [ap_, sb_, s0_, s1_, i64_w, i32_w]
    rfl
  refine done_ (done_of HT_.out (by kernel_rfl)) ?_
  clear hHeld
  obtain ⟨AL, cL, hvL⟩ := Kd.N_slice HN15.out
  subst hvL
  have hgj : j ≠ gs := NJ.out
  obtain ⟨hcz0, hcz1, hcz2, hcz3, hcz4, hfz0, hfz1, hfz2, hfz3, hfz4⟩ := blk_at5 BKr.out
  clear hcz0 hcz1 hcz2 hcz3 hfz0 hfz1 hfz2 hfz3
  go_upto_region 12 with (fail)
  have he4 : wrap64 ((m : Int) + (b.length : Int)) = J.e + b.length := by
    have h1 := HE.out
    have h2 := HBL.out Z1.out
    rw [HM.out] at h1 ⊢
    unfold wrap64
    omega
  obtain ⟨en, hen⟩ : ∃ x, x = wrap64 ((m : Int) + (b.length : Int)) := ⟨_, rfl⟩
  rw [← hen]
  have HEN := Aside0.mk (hen.trans he4)
  clear hen he4 hcz4 hfz4
  have n_ := pk7 (HD15.out.far (p := ⟨j, 4, none⟩) HNS.out (.int .i64 en)) (Kd.N_far (p := ⟨j, 4, none⟩) HN15.out (fun k hk => hk.2) (.int .i64 en)) (show (w15.setCell ⟨j, 4, none⟩ (.int .i64 en)).heap[j]? = some (.cells #[.pointer (some ⟨g, 0, none⟩), .int .i64 hf_, .int .i64 ag, .slice AL J.l.length cL, .int .i64 en] 54 (0, 0)) from blk_put (cs := #[.pointer (some ⟨g, 0, none⟩), .int .i64 hf_, .int .i64 ag, .slice AL J.l.length cL, .int .i64 (m : Int)]) BKr.out 4 (.int .i64 en) rfl) (blk_far (p := ⟨j, 4, none⟩) BKS.out (fun e => hgj e.symm) (.int .i64 en)) (Kd.F_far (p := ⟨j, 4, none⟩) (Kd.F_step G0.out (fun k hT hlt => HKW.out k hT hlt)) (fun k hT e => hT (e ▸ HT1.out)) (.int .i64 en)) (Kd.F_far (p := ⟨j, 4, none⟩) (Kd.F_step G1.out (fun k hT hlt => HKW.out k hT hlt)) (fun k hT e => hT (e ▸ HT1.out)) (.int .i64 en)) (HB.out.setCell (p := ⟨j, 4, none⟩) HBJ.out (.int .i64 en))
  have HKT2 := Aside0.mk (HKT.out.setCell (p := ⟨j, 4, none⟩) (.inl HT1.out) (.int .i64 en))
  clear HD15 HN15 BKr BKS HB HKT HKW HJ2 HK2
  obtain ⟨HD, HN, BKr, BKS, F0, F1, HB⟩ := n_
  generalize (w15.setCell ⟨j, 4, none⟩ (.int .i64 en)) = w16 at HD HN BKr BKS F0 F1 HB HKT2 ⊢
  have n_ := pk8 (HD.out.below (below_drew (Below.refl _ _))) (Kd.N_drew HN.out) (blk_drew BKr.out) (blk_drew BKS.out) (Kd.F_below F0.out (below_drew (Below.refl _ _))) (Kd.F_below F1.out (below_drew (Below.refl _ _))) (Below.drew HB.out) (show Kept w w16.drew T from HKT2.out)
  clear HD HN BKr BKS F0 F1 HB HKT2
  obtain ⟨HD, HN, BKr, BKS, F0, F1, HB, HKT⟩ := n_
  refine start_ (n := 12) (S := fun w' => w'.cell? ⟨j, 3, none⟩ = some (.slice AL J.l.length cL) ∧ w'.cell? ⟨gs, 0, none⟩ = some (.slice A0 x.f0.length c0) ∧ w'.cell? ⟨gs, 1, none⟩ = some (.slice A1 x.f1.length c1)) (ds := [11]) (up (List.range 12) 12 0) (by kernel_rfl) rfl (by kernel_rfl) ⟨(blk_cell BKr.out 3).trans rfl, (blk_cell BKS.out 0).trans rfl, (blk_cell BKS.out 1).trans rfl⟩ (fun hHeld => ?_)
  refine with_tabW japp.tab12 japp.bits12 (fun HT_ HW_ => ?_)
  generalize w16.drew = wA at HD HN BKr BKS F0 F1 HB HKT hHeld ⊢
  iterate 6 (first | (refine pq_ (v := ?_) (a' := ?_) rfl rfl HT_.out (by kernel_rfl) (fun _ _ _ h => h) (Or.inl ⟨by rfl, ?hy⟩) ?ha ?_; (case hy => intro w'; go_simp; with_reducible rfl); (case ha => show Act.put _ (some _) _ = _; simp only [ap_, sb_, s0_, s1_, i64_w, i32_w]; rfl)) | (refine tq_ (v := ?_) (a' := ?_) rfl rfl HT_.out HW_.out (by kernel_rfl) (fun _ _ _ h => h) (Or.inl ⟨by rfl, ?hy⟩) hHeld ?ha ?_; (case hy => rintro w' ⟨s0_, s1_, s2_⟩; go_simp; with_reducible rfl); (case ha => show Act.put _ (some _) _ = _; simp only [ap_, sb_, s0_, s1_, i64_w, i32_w]; rfl)))
  refine oq_ rfl rfl HT_.out (by kernel_rfl) (by decide) (fun K hK => ?_)
  refine Kd.N_lit_step k48 (w0 := wA) wA.heap.size 48 (by rfl) (N' := 95) rfl (xs := [x]) (inner := [.slice A0 x.f0.length c0, .slice A1 x.f1.length c1]) (ok := fun b => ¬ T b ∨ wA.heap.size ≤ b) (okp := fun b => ¬ T b) ?hr (Reps.c2 (show Kd.FK k48 wA (fun b => ¬ T b) x [.slice A0 x.f0.length c0, .slice A1 x.f1.length c1] from k48_mkF _ _ x Q0.out F0.out Q1.out F1.out) (Reps.none _ _)) (fun _ h => .inl h) (.inr (Nat.le_refl _)) (Below.refl _ _) (Nat.le_refl _) (by simp) ?_
  (case hr => first | (go_simp; done) | (go_simp; rfl))
  intro v17 w17 ho hb hg_ hat_
  clear hg_ hat_
  obtain ⟨A17, c17, hv⟩ := Kd.N_slice ho
  subst hv
  have n_ := pk4 ho hb (blk_below BKr.out hb) (blk_below BKS.out hb)
  clear ho hb
  obtain ⟨HO17, HB17, BKr2, BKS2⟩ := n_
  refine hK.out _ _ ⟨(blk_cell BKr2.out 3).trans rfl, (blk_cell BKS2.out 0).trans rfl, (blk_cell BKS2.out 1).trans rfl⟩ (fun hHeld => ?_)
  clear hK K
  refine norm_ (a' := ?_) ?_ ?_
  rotate_left
  · show Act.put _ (some 95) _ = _
    simp only [ap_, sb_, s0_, s1_, i64_w, i32_w]
    rfl
  refine oq_ rfl rfl HT_.out (by kernel_rfl) (by decide) (fun K hK => ?_)
  refine goes_ Try.func53 (by kernel_rfl) rfl #[.slice A17 ([x] : List S48).length c17] (by rfl) rfl rfl (by (try simp only [List.map_toArray, List.map_cons, List.map_nil]); first | done | rfl) ?_
  with_reducible refine (copied_calls A17 c17 [x] _ _ (Kd.N_F HO17.out) (Kd.N_reads' HO17.out).2.1 (by simp) (by intro y hy; rw [List.mem_singleton.1 hy]; exact HX.out)).mono ?_
  rintro e w18 ⟨v18, rfl, ho, hb⟩
  refine ⟨_, rfl, ?_⟩
  obtain ⟨A18, c18, hv⟩ := Kd.N_slice ho
  subst hv
  have n_ := pk4 (Kd.N_mono (ok' := fun b => ¬ T b ∨ wA.heap.size ≤ b) ho (fun k hk => hk.elim id (fun h => .inr (Nat.le_trans HB17.out.size h)))) (below_step HB17.out hb) (blk_below BKr2.out hb) (blk_below BKS2.out hb)
  clear HO17 HB17 BKr2 BKS2 ho hb
  obtain ⟨HO18, HB18, BKr2, BKS2⟩ := n_
  refine hK.out _ _ ⟨(blk_cell BKr2.out 3).trans rfl, (blk_cell BKS2.out 0).trans rfl, (blk_cell BKS2.out 1).trans rfl⟩ (fun hHeld => ?_)
  clear hK K
  refine norm_ (a' := ?_) ?_ ?_
  rotate_left
  · show Act.put _ (some 96) _ = _
    simp only [ap_, sb_, s0_, s1_, i64_w, i32_w]
    rfl
  refine oq_ rfl rfl HT_.out (by kernel_rfl) (by decide) (fun K hK => ?_)
  refine Kd.N_append_rows_step k48 (w0 := wA) B (by rfl) (.tmp 93) (.tmp 96) 49 48 (.agg #[.slice none 0 0, .slice none 0 0]) 48 rfl Try.underlying49 info48 rfl (by decide) (by omega) (.slice AL J.l.length cL) J.l [x] _ _ _ (fun b => (¬ S1 b ∧ b ≠ j) ∨ wA.heap.size ≤ b) (fun b => ¬ T b ∨ wA.heap.size ≤ b) rfl rfl ?aO ?aR ?aP ?aF ?aB ?aS ?aL ?_
  (case aO => exact Kd.N_mono (Kd.N_below HN.out HB18.out) (fun k hk => .inl hk))
  (case aR => exact Kd.N_F HO18.out)
  (case aP => exact fun k hk => hk.elim (fun h => ⟨.inl ⟨fun hS => h (HT3.out k hS), fun e => h (e ▸ HT1.out)⟩, fun e => h (HT2.out k e.symm)⟩) (fun h => ⟨.inr h, fun e => by have := Kd.N_lt HN.out k e.symm; omega⟩))
  (case aF => exact fun k hk => .inr (Nat.le_trans HB18.out.size hk))
  (case aB => exact HB18.out.mono (Nat.le_trans HBB.out (Nat.le_trans HB.out.size (Nat.le_refl _))))
  (case aS => exact Nat.le_trans HBB.out (Nat.le_trans HB.out.size HB18.out.size))
  (case aL => have := HJL.out; simp; omega)
  intro v97 w19 ho hb hg hat
  obtain ⟨A19, c19, hv⟩ := Kd.N_slice ho
  rw [show (J.l ++ [x]).length = J.l.length + 1 from by simp] at hv
  subst hv
  have hjn : some j ≠ (Value.slice AL J.l.length cL).ownBlock := Kd.N_ne HN.out BKr.out (by decide)
  have hgn : some gs ≠ (Value.slice AL J.l.length cL).ownBlock := fun e => by have := HVL.out gs e.symm; have := GSZ.out; omega
  have n_ := pk5 ho hb ((hg.block j (blk_lt BKr2.out) hjn).trans BKr2.out) ((hg.block gs (blk_lt BKS2.out) hgn).trans BKS2.out) (show ∀ q, q < wA.heap.size → some q ≠ (Value.slice AL J.l.length cL).ownBlock → w19.heap[q]? = wA.heap[q]? from fun q hq hn_ => (hg.block q (Nat.lt_of_lt_of_le hq HB18.out.size) hn_).trans (HB18.out.block q hq))
  have HSZ19 := Aside0.mk (Nat.le_trans HB18.out.size hg.size)
  have HB18S := Aside0.mk HB18.out.size
  have HAT2 := Aside0.mk hat
  clear HO18 HB18 BKr2 BKS2 ho hb hg hat
  obtain ⟨HN19, HB19, BKr2, BKS2, HQ⟩ := n_
  refine hK.out _ _ ⟨(blk_cell BKr2.out 3).trans rfl, (blk_cell BKS2.out 0).trans rfl, (blk_cell BKS2.out 1).trans rfl⟩ (fun hHeld => ?_)
  clear hK K
  refine norm_ (a' := ?_) ?_ ?_
  rotate_left
  · show Act.put _ (some 97) _ = _
    simp only [ap_, sb_, s0_, s1_, i64_w, i32_w]
    rfl
  iterate 2 (refine pq_ (v := ?_) (a' := ?_) rfl rfl HT_.out (by kernel_rfl) (fun _ _ _ h => h) (Or.inl ⟨by rfl, ?hy⟩) ?ha ?_; (case hy => intro w'; go_simp; with_reducible rfl); (case ha => show Act.put _ (some _) _ = _; simp only [ap_, sb_, s0_, s1_, i64_w, i32_w]; rfl))
  refine lq_ rfl rfl HT_.out (by kernel_rfl) (by decide) (fun K hK => ?_)
  have hs_ : w19.cell? ⟨j, 3, none⟩ = some (.slice AL J.l.length cL) := (blk_cell BKr2.out 3).trans rfl
  have hfs_ := blk_frozen BKr2.out 3
  refine skip_ (w1 := ?_) (by rfl) rfl ?_ ?_
  rotate_left
  · go_simp
    rfl
  have n_ := pk4 (Kd.N_far (p := ⟨j, 3, none⟩) (Kd.N_mono (ok' := fun k => ((¬ S1 k ∧ k ≠ j) ∨ wA.heap.size ≤ k) ∧ k < w19.heap.size) (Kd.N_bound HN19.out) (fun k hk => hk)) (fun k hk e => by rcases hk.1 with h | h; exact h.2 e; have := blk_lt BKr.out; have e2 : k = j := e; omega) (.slice A19 (J.l.length + 1) c19)) (show (w19.setCell ⟨j, 3, none⟩ (.slice A19 (J.l.length + 1) c19)).heap[j]? = some (.cells #[.pointer (some ⟨g, 0, none⟩), .int .i64 hf_, .int .i64 ag, .slice A19 (J.l.length + 1) c19, .int .i64 en] 54 (0, 0)) from blk_put (cs := #[.pointer (some ⟨g, 0, none⟩), .int .i64 hf_, .int .i64 ag, .slice AL J.l.length cL, .int .i64 en]) BKr2.out 3 (.slice A19 (J.l.length + 1) c19) rfl) (show ∀ q, q < wA.heap.size → some q ≠ (Value.slice AL J.l.length cL).ownBlock → q ≠ j → (w19.setCell ⟨j, 3, none⟩ (.slice A19 (J.l.length + 1) c19)).heap[q]? = wA.heap[q]? from fun q hq hn_ hj_ => (Below.heap_setCell _ ⟨j, 3, none⟩ _ q hj_).trans (HQ.out q hq hn_)) (HB19.out.setCell (p := ⟨j, 3, none⟩) HBJ.out (.slice A19 (J.l.length + 1) c19))
  have HSZ20 : Aside0 (w19.heap.size = (w19.setCell ⟨j, 3, none⟩ (.slice A19 (J.l.length + 1) c19)).heap.size) := ⟨by simp⟩
  clear HN19 BKr2 BKS2 HQ HB19 hs_ hfs_
  obtain ⟨HN20, BKj, HQ, HB20⟩ := n_
  generalize (w19.setCell ⟨j, 3, none⟩ (.slice A19 (J.l.length + 1) c19)) = w20 at HN20 BKj HQ HB20 HSZ20 ⊢
  refine hK.out _ _ ?_
  clear hK K
  refine done_ (done_of HT_.out (by kernel_rfl)) ?_
  generalize mn 1 ((m : Int) % 64) = mq
  go_wp2
  all_goals
    go_ret
    have hsz : wA.heap.size ≤ w20.heap.size := by have := HSZ20.out; have := HSZ19.out; omega
    have hfr : ∀ b, wA.heap.size ≤ b → S1 b := by obtain ⟨_, _, _, _, _, _, _, _, h8⟩ := HD.out; exact h8
    have hown : ∀ b, S1 b → some b ≠ (Value.slice AL J.l.length cL).ownBlock := fun b hS e => (HN.out.1 b e.symm).1 hS
    have hdr := HD.out.apart_ (W := w20) (fun b hS hlt => HQ.out b hlt (hown b hS) (fun e => HNS.out (e ▸ hS))) hsz
    have hjn : IsJn (fun b => S1 b ∧ ¬ (wA.heap.size ≤ b ∧ b < w20.heap.size)) T B w20 j g s k { D := (writeD J.D at_ p).1, half := hf_, age := ag, l := J.l ++ [x], e := en } := by
      refine ⟨_, BKj.out, hdr, Kd.N_mono HN20.out (fun b hb' => ?_), fun hS => HNS.out hS.1, HBJ.out, HT1.out, fun b hv => ?_, fun b hS => HT3.out b hS.1⟩
      · rcases hb'.1 with h | h
        · exact ⟨fun hS => h.1 hS.1, h.2⟩
        · have h1 := hb'.2
          have h2 := HSZ20.out
          have h3 := blk_lt BKr.out
          exact ⟨fun hS => hS.2 ⟨h, by omega⟩, by omega⟩
      · rcases HAT2.out with h | ⟨q, h, hq⟩
        · exact HT2.out b (h.symm.trans hv)
        · have e_ : q = b := Option.some.inj (h.symm.trans hv)
          subst e_
          exact HT3.out q (hfr q (Nat.le_trans HB18S.out hq))
    rw [HAT.out, HEN.out, HHE.out, HAE.out] at hjn
    rw [appJ_ok Z1.out (by have := R1.out; have := HLF.out; have := HM.out; omega)]
    have hkt : Kept w w20 T := HKT.out.then_ (show Kept wA w20 T from ⟨hsz, fun b hlt hT => HQ.out b hlt (fun e => hT (HT2.out b e.symm)) (fun e => hT (e ▸ HT1.out))⟩) (fun _ h => .inl h)
    first | exact ⟨_, rfl, hjn, fun b h => HS1.out b h.1, HB.out.trans HB20.out, hkt⟩ | exact ⟨rfl, _, hjn, fun b h => HS1.out b h.1, HB.out.trans HB20.out, hkt⟩
end Go.Proofs.Ytfmdllbkfpbdcaa.G
end
section
namespace Go.Proofs.Ytfmdllbkfpbdcaa.G
open Go Go.RowKit Go.Proofs.YtfmdllbkfpbdcaaX Go.Proofs.YtfmdllbkfpbdcaaW.PrintWords Go.Proofs.YtfmdllbkfpbdcaaW.PrintLast Go.Proofs.YtfmdllbkfpbdcaaW.PrintMore
def jhead.T1 : Bool × List (List Nat × List Nat) := (true, [([], []), ([0], [0]), ([1], [1]), ([2], [2]), ([], []), ([], []), ([4, 5], [4, 5]), ([6], [6]), ([3, 7, 6], [3, 7]), ([8], [8]), ([9], [9]), ([9], [9]), ([10, 8, 0, 1, 2, 3, 4, 5, 6, 7, 8, 9, 10], [10]), ([11, 12, 0, 1, 2, 3, 4, 5, 6, 7, 8, 9, 10, 11, 12], [11])])
def jhead.B1 : List Nat := [0, 1, 3, 7, 0, 0, 48, 112, 255, 511, 1023, 1023, 2047, 8191]
theorem jhead.tab1 : rtab .any (opsOf Try.f79 1) = jhead.T1 := by kernel_rfl
theorem jhead.bits1 : waitsOk jhead.T1.2 jhead.B1 = true := by kernel_rfl
def jhead.T3 : Bool × List (List Nat × List Nat) := (true, [([], []), ([0], [0]), ([1], [1]), ([2], [2]), ([3, 2], [2, 3]), ([4, 2], [2, 4]), ([5, 2], [2, 5]), ([2, 6], [2, 6]), ([7, 2], [7]), ([8], [8]), ([9, 8], [8, 9]), ([10, 8], [8, 10]), ([11, 8], [8, 11]), ([8, 12], [8, 12]), ([13, 8], [13]), ([14], [14]), ([15, 14], [14, 15]), ([16, 14], [14, 16]), ([17, 14], [14, 17]), ([18, 14], [14, 18]), ([14, 19], [14, 19]), ([20, 14], [20]), ([21], [21]), ([22, 21], [21, 22]), ([23, 21], [21, 23]), ([24, 21], [21, 24]), ([25, 21], [21, 25]), ([21, 26], [21, 26]), ([27, 21], [27]), ([28], [28]), ([29, 28], [28, 29]), ([30, 28], [28, 30]), ([31, 28], [28, 31]), ([32, 28], [28, 32]), ([28, 33], [28, 33]), ([34, 28], [34]), ([35], [35]), ([36, 35], [35, 36]), ([37, 35], [35, 37]), ([38, 35], [35, 38]), ([39, 35], [35, 39]), ([35, 40], [35, 40]), ([41, 35], [41]), ([42], [42]), ([43, 42], [42, 43]), ([44, 42], [42, 44]), ([45, 42], [42, 45]), ([42], [42]), ([47, 42, 42], [42, 47]), ([46, 48, 42], [42, 46, 48]), ([42, 49], [42, 49])])
def jhead.B3 : List Nat := [0, 1, 3, 7, 15, 31, 63, 127, 255, 511, 1023, 2047, 4095, 8191, 16383, 32767, 65535, 131071, 262143, 524287, 1048575, 2097151, 4194303, 8388607, 16777215, 33554431, 67108863, 134217727, 268435455, 536870911, 1073741823, 2147483647, 4294967295, 8589934591, 17179869183, 34359738367, 68719476735, 137438953471, 274877906943, 549755813887, 1099511627775, 2199023255551, 4398046511103, 8796093022207, 17592186044415, 35184372088831, 70368744177663, 8796093022207, 149533581377535, 562949953421311, 1125899906842623]
theorem jhead.tab3 : rtab .any (opsOf Try.f79 3) = jhead.T3 := by kernel_rfl
theorem jhead.bits3 : waitsOk jhead.T3.2 jhead.B3 = true := by kernel_rfl
def jhead.T7 : Bool × List (List Nat × List Nat) := (true, [([], []), ([0], [0]), ([1], [1]), ([2], [2]), ([], []), ([4], [4]), ([5], [5]), ([6], [6]), ([3, 0, 1, 2, 3], [3]), ([7, 8, 0, 1, 2, 3, 4, 5, 6, 7, 8], [7])])
def jhead.B7 : List Nat := [0, 1, 3, 7, 0, 16, 48, 112, 15, 511]
theorem jhead.tab7 : rtab .any (opsOf Try.f79 7) = jhead.T7 := by kernel_rfl
theorem jhead.bits7 : waitsOk jhead.T7.2 jhead.B7 = true := by kernel_rfl
def headOk (room : Int) (b : List Int) (nums : List Int) (texts : List ByteArray) (n er : Int) : Bool :=
  decide (er = 0) && decide (nums.length = 3) && decide (texts.length = 0) && decide (rd nums 0 = 7) && decide (1 ≤ rd nums 1) && decide (rd nums 1 ≤ 2147483647) && decide (0 ≤ rd nums 2) && decide (rd nums 2 ≤ room) && !nz (b.drop n.toNat)
def headV (room : Int) (b : List Int) (nums : List Int) (texts : List ByteArray) (n er : Int) : Int × Int := if headOk room b nums texts n er = true then (rd nums 1, rd nums 2) else (0, 0)
theorem headV_no {room : Int} {b nums : List Int} {texts : List ByteArray} {n er : Int} (h : ¬ (er = 0 ∧ nums.length = 3 ∧ texts.length = 0 ∧ rd nums 0 = 7 ∧ 1 ≤ rd nums 1 ∧ rd nums 1 ≤ 2147483647 ∧ 0 ≤ rd nums 2 ∧ rd nums 2 ≤ room ∧ nz (b.drop n.toNat) = false)) : headV room b nums texts n er = (0, 0) := by
  unfold headV headOk
  rw [if_neg]
  intro e
  simp only [Bool.and_eq_true, decide_eq_true_eq, Bool.not_eq_true'] at e
  exact h ⟨e.1.1.1.1.1.1.1.1, e.1.1.1.1.1.1.1.2, e.1.1.1.1.1.1.2, e.1.1.1.1.1.2, e.1.1.1.1.2, e.1.1.1.2, e.1.1.2, e.1.2, e.2⟩
theorem headV_yes {room : Int} {b nums : List Int} {texts : List ByteArray} {n er : Int} (h : er = 0 ∧ nums.length = 3 ∧ texts.length = 0 ∧ rd nums 0 = 7 ∧ 1 ≤ rd nums 1 ∧ rd nums 1 ≤ 2147483647 ∧ 0 ≤ rd nums 2 ∧ rd nums 2 ≤ room ∧ nz (b.drop n.toNat) = false) : headV room b nums texts n er = (rd nums 1, rd nums 2) := by
  unfold headV headOk
  rw [if_pos]
  simp only [Bool.and_eq_true, decide_eq_true_eq, Bool.not_eq_true']
  exact ⟨⟨⟨⟨⟨⟨⟨⟨h.1, h.2.1⟩, h.2.2.1⟩, h.2.2.2.1⟩, h.2.2.2.2.1⟩, h.2.2.2.2.2.1⟩, h.2.2.2.2.2.2.1⟩, h.2.2.2.2.2.2.2.1⟩, h.2.2.2.2.2.2.2.2⟩
set_option maxHeartbeats 64000000 in
set_option maxRecDepth 100000 in
theorem IsJn.head {S T : Nat → Prop} {B : Nat} {w : World} {j g s k : Nat} {J : JnS} (kk : Nat) (half : Int) (b nums : List Int) (texts : List ByteArray) (n er : Int) (h : IsJn S T B w j g s k J) (hG : J.D.Good) (hh : half = 0 ∨ half = 1) (hb : (readD J.D (half * J.secs) 1).1 = b) (hf : frame_First.f kk b = some (nums, texts, n, er)) (hbl : b.length < 1000000000) (hn : er = 0 → 0 ≤ n ∧ n ≤ b.length) :
    Calls Try.prog 79 #[.pointer (some ⟨j, 0, none⟩), .int .i64 half] w fun e w' => e = .returned (.tuple #[.int .i64 (headV (64 * (J.secs - 1)) b nums texts n er).1, .int .i64 (headV (64 * (J.secs - 1)) b nums texts n er).2]) ∧ Below w.heap.size w w' := by
  have hu := Try.underlying54
  have hud := Try.underlying48
  have hs : 0 ≤ J.secs ∧ J.secs ≤ 100000 := by unfold JnS.secs; have := hG.1; have := hG.2.1; omega
  have HJ := Aside0.mk h
  have HG := Aside0.mk hG
  have HF := Aside0.mk hf
  have HBL := Aside0.mk hbl
  have HN := Aside0.mk hn
  have HS := Aside0.mk hs
  obtain ⟨fs, hfs⟩ : ∃ x, x = half * J.secs + 1 := ⟨_, rfl⟩
  have hfr : 1 ≤ fs ∧ fs ≤ 200000 := by rcases hh with e | e <;> rw [e] at hfs <;> omega
  have hat : wrap64 (fs - 1) = half * J.secs := by unfold wrap64; omega
  have HRD : Aside0 (∀ W, Below w.heap.size w W → Calls Try.prog 17 #[.pointer (some ⟨g, 0, none⟩), .int .i64 (wrap64 (fs - 1)), .int .i64 1] W fun e w' => ∃ v er0, e = .returned (.tuple #[v, .int .i64 er0]) ∧ Kd.R (Kd.int .u8) 5 w' W.heap.size (fun _ => True) v b ∧ Below W.heap.size W w') := ⟨fun W hW => by
    rw [hat]
    refine (read_calls S B W g s k J.D (half * J.secs) 1 (h.below hW).dr hG).mono ?_
    rintro e w' ⟨v, he, ho, hb'⟩
    rw [hb] at ho
    exact ⟨v, _, he, ho, hb'⟩⟩
  have FST : Aside0 (∀ W, Below w.heap.size w W → Calls Try.prog 55 #[.pointer (some ⟨j, 0, none⟩), .int .i64 half] W fun e w' => e = .returned (.int .i64 fs) ∧ w' = W) := ⟨fun W hW => by rw [hfs]; exact (h.below hW).first hG half hh⟩
  obtain ⟨rm, hrm⟩ : ∃ x, x = 64 * (J.secs - 1) := ⟨_, rfl⟩
  have ROOM : Aside0 (∀ W, Below w.heap.size w W → Calls Try.prog 57 #[.pointer (some ⟨j, 0, none⟩)] W fun e w' => e = .returned (.int .i64 rm) ∧ w' = W) := ⟨fun W hW => by rw [hrm]; exact (h.below hW).room hG⟩
  rw [← hrm]
  obtain ⟨v, h1⟩ := h.blk
  have BK := Aside0.mk h1
  have HB := Aside0.mk (Below.refl w.heap.size w)
  clear hs hfs hfr hat hrm h1 h hG hh hb hf hbl hn
  have n_ := pk2 (blk_drew BK.out) (below_drew1 HB.out)
  clear HB
  obtain ⟨BK1, HB⟩ := n_
  go_enter Try.func79, Try.ntmps79
  go_upto_region 1 with (fail)
  refine start_ (n := 14) (S := fun w' => w'.cell? ⟨j, 0, none⟩ = some (.pointer (some ⟨g, 0, none⟩))) (ds := []) (up (List.range 14) 14 0) (by kernel_rfl) rfl (by kernel_rfl) ((blk_cell BK1.out 0).trans rfl) (fun hHeld => ?_)
  refine with_tabW jhead.tab1 jhead.bits1 (fun HT_ HW_ => ?_)
  generalize w.drew = w2 at BK1 HB hHeld ⊢
  iterate 6 (first | (refine pq_ (v := ?_) (a' := ?_) rfl rfl HT_.out (by kernel_rfl) (fun _ _ _ h => h) (Or.inl ⟨by rfl, ?hy⟩) ?ha ?_; (case hy => intro w'; go_simp; with_reducible rfl); (case ha => show Act.put _ (some _) _ = _; simp only [ap_, sb_, s0_, s1_, i64_w, i32_w]; rfl)) | (refine tq_ (v := ?_) (a' := ?_) rfl rfl HT_.out HW_.out (by kernel_rfl) (fun _ _ _ h => h) (Or.inl ⟨by rfl, ?hy⟩) hHeld ?ha ?_; (case hy => intro w' s0_; go_simp; with_reducible rfl); (case ha => show Act.put _ (some _) _ = _; simp only [ap_, sb_, s0_, s1_, i64_w, i32_w]; rfl)))
  refine oq_ rfl rfl HT_.out (by kernel_rfl) (by decide) (fun K hK => ?_)
  refine goes_ Try.func55 (by kernel_rfl) rfl #[.pointer (some ⟨j, 0, none⟩), .int .i64 half] (by rfl) rfl rfl (by (try simp only [List.map_toArray, List.map_cons, List.map_nil]); first | done | rfl) ?_
  with_reducible refine (FST.out _ HB.out).mono ?_
  rintro e w6 ⟨rfl, he⟩
  rw [he]
  clear he w6
  refine ⟨_, rfl, ?_⟩
  refine hK.out _ _ hHeld (fun hHeld => ?_)
  clear hK K
  refine norm_ (a' := ?_) ?_ ?_
  rotate_left
  · show Act.put _ (some 18) _ = _
    simp only [ap_, sb_, s0_, s1_, i64_w, i32_w]
    rfl
  iterate 1 (refine pq_ (v := ?_) (a' := ?_) rfl rfl HT_.out (by kernel_rfl) (fun _ _ _ h => h) (Or.inl ⟨by rfl, ?hy⟩) ?ha ?_; (case hy => intro w'; go_simp; with_reducible rfl); (case ha => show Act.put _ (some _) _ = _; simp only [ap_, sb_, s0_, s1_, i64_w, i32_w]; rfl))
  refine oq_ rfl rfl HT_.out (by kernel_rfl) (by decide) (fun K hK => ?_)
  refine goes_ Try.func17 (by kernel_rfl) rfl #[.pointer (some ⟨g, 0, none⟩), .int .i64 (wrap64 (fs - 1)), .int .i64 1] (by rfl) rfl rfl (by (try simp only [List.map_toArray, List.map_cons, List.map_nil]); first | done | rfl) ?_
  with_reducible refine (HRD.out _ HB.out).mono ?_
  rintro e w3 ⟨v3, er0, rfl, ho, hb⟩
  refine ⟨_, rfl, ?_⟩
  obtain ⟨A3, c3, hv⟩ := Kd.R_slice ho
  subst hv
  have n_ := pk3 ho (blk_below BK1.out hb) (below_step HB.out hb)
  clear BK1 HB ho hb
  obtain ⟨HO3, BK1, HB⟩ := n_
  refine hK.out _ _ ((blk_cell BK1.out 0).trans rfl) (fun hHeld => ?_)
  clear hK K
  refine norm_ (a' := ?_) ?_ ?_
  rotate_left
  · show Act.put _ (some 20) _ = _
    simp only [ap_, sb_, s0_, s1_, i64_w, i32_w]
    rfl
  iterate 5 (refine pq_ (v := ?_) (a' := ?_) rfl rfl HT_.out (by kernel_rfl) (fun _ _ _ h => h) (Or.inl ⟨by rfl, ?hy⟩) ?ha ?_; (case hy => intro w'; go_simp; with_reducible rfl); (case ha => show Act.put _ (some _) _ = _; simp only [ap_, sb_, s0_, s1_, i64_w, i32_w]; rfl))
  refine done_ (done_of HT_.out (by kernel_rfl)) ?_
  clear hHeld
  go_upto_region 3 with (first
    | (go_at_call 80; (with_reducible refine (frame_First.calls kk A3 c3 b nums texts n er _ (Kd.R_reads' HO3.out).2.2 (Kd.R_reads' HO3.out).2.1 HF.out).mono ?_); rintro e w4 ⟨v4, v5, rfl, ho, ho2, hb⟩; obtain ⟨A4, c4, hv⟩ := Kd.R_slice ho; subst hv; obtain ⟨A5, c5, hv⟩ := Kd.R_slice ho2; subst hv; have n_ := pk6 (Kd.F_mono (ok' := fun k => k < w4.heap.size) (Kd.R_F (Kd.R_bound (Kd.R_below HO3.out hb))) (fun k hk => hk.2.2.1)) (Kd.F_mono (ok' := fun k => k < w4.heap.size) (Kd.R_F (Kd.R_bound ho)) (fun k hk => hk.2.2.1)) (blk_below BK1.out hb) (below_step HB.out hb) (Kd.R_reads' HO3.out).2.1 (Kd.R_reads' ho).2.1; clear HO3 BK1 HB ho ho2 hb; obtain ⟨F3, F4, BK1, HB, L3, L4⟩ := n_; obtain ⟨wz, hwz⟩ : ∃ z, z = w4.heap.size := ⟨_, rfl⟩; rw [← hwz] at F3 F4; have HZ := Aside0.mk (Nat.le_of_eq hwz); clear hwz)
    | ((with_reducible refine gate_dst (N := 8) rfl ?_); refine box_ev 8 #[.slice none 0 0, .slice none 0 0] 48 ?_; intro gs hg w7 hbox hb; have n_ := pk7 (Kd.F_below F3.out hb) (Kd.F_below F4.out hb) (blk_below BK1.out hb) (below_step HB.out hb) hbox (show wz ≤ gs ∧ w.heap.size ≤ gs from ⟨by have := HZ.out; omega, ge_ hg HB.out⟩) (show j ≠ gs from by have := blk_lt BK1.out; omega); clear F3 F4 BK1 HB HZ hbox hg hb; obtain ⟨F3, F4, BK1, HB, BKS, GSZ, NJ⟩ := n_; obtain ⟨hcs0, hcs1, hfs0, hfs1⟩ := blk_at2 BKS.out))
  have HNG : Aside0 (∀ k, k < wz → k ≠ gs) := ⟨fun k hk e => by have := GSZ.out; omega⟩
  have n_ := pk4 (F_put2 F3.out HNG.out (.slice A4 nums.length c4) (.slice A5 texts.length c5)) (F_put2 F4.out HNG.out (.slice A4 nums.length c4) (.slice A5 texts.length c5)) (below_put2 HB.out GSZ.out.2 (.slice A4 nums.length c4) (.slice A5 texts.length c5)) (put2_ BKS.out (.slice A4 nums.length c4) (.slice A5 texts.length c5))
  clear F3 F4 HB BKS BK1 hcs0 hcs1 hfs0 hfs1
  obtain ⟨F3, F4, HB, BKS⟩ := n_
  generalize ((w7.setCell ⟨gs, 0, none⟩ (.slice A4 nums.length c4)).setCell ⟨gs, 1, none⟩ (.slice A5 texts.length c5)) = w8 at F3 F4 HB BKS ⊢
  have n_ := pk4 (Kd.F_below F3.out (below_drew (Below.refl _ _))) (Kd.F_below F4.out (below_drew (Below.refl _ _))) (below_drew1 HB.out) (blk_drew BKS.out)
  clear F3 F4 HB BKS
  obtain ⟨F3, F4, HB, BKS⟩ := n_
  by_cases t0 : er = 0
  rotate_left
  · have T0 := Aside0.mk t0
    have q0 : (er != 0) = true := by simpa using t0
    clear t0
    refine start_ (n := 51) (S := fun w' => w'.cell? ⟨gs, 0, none⟩ = some (.slice A4 nums.length c4) ∧ w'.cell? ⟨gs, 1, none⟩ = some (.slice A5 texts.length c5)) (ds := []) (up (List.range 51) 51 0) (by kernel_rfl) rfl (by kernel_rfl) ⟨(blk_cell BKS.out 0).trans rfl, (blk_cell BKS.out 1).trans rfl⟩ (fun hHeld => ?_)
    refine with_tabW jhead.tab3 jhead.bits3 (fun HT_ HW_ => ?_)
    generalize w8.drew = w10 at F3 F4 HB BKS hHeld ⊢
    iterate 51 (first | (refine pq_ (v := ?_) (a' := ?_) rfl rfl HT_.out (by kernel_rfl) (fun _ _ _ h => h) (Or.inl ⟨by rfl, ?hy⟩) ?ha ?_; (case hy => intro w'; go_simp; with_reducible rfl); (case ha => show Act.put _ (some _) _ = _; simp only [ap_, sb_, s0_, s1_, i64_w, i32_w]; rfl)) | (refine pq_ (v := undef) (a' := ?_) rfl rfl HT_.out (by kernel_rfl) (fun _ _ _ h => h) (Or.inr ⟨by rfl, rfl⟩) ?ha ?_; (case ha => show Act.put _ (some _) _ = _; simp only [ap_, sb_, s0_, s1_, i64_w, i32_w]; rfl)))
    refine done_ (done_of HT_.out (by kernel_rfl)) ?_
    go_wp2
    go_ret2
    rw [headV_no (fun h => T0.out h.1)]
    exact ⟨rfl, HB.out⟩
  have T0 := Aside0.mk t0
  have q0 : (er != 0) = false := by simpa using t0
  clear t0
  by_cases t1 : nums.length = 3
  rotate_left
  · have T1 := Aside0.mk t1
    have q1 : ((nums.length : Int) != 3) = true := by simp; omega
    clear t1
    refine start_ (n := 51) (S := fun w' => w'.cell? ⟨gs, 0, none⟩ = some (.slice A4 nums.length c4) ∧ w'.cell? ⟨gs, 1, none⟩ = some (.slice A5 texts.length c5)) (ds := []) (up (List.range 51) 51 0) (by kernel_rfl) rfl (by kernel_rfl) ⟨(blk_cell BKS.out 0).trans rfl, (blk_cell BKS.out 1).trans rfl⟩ (fun hHeld => ?_)
    refine with_tabW jhead.tab3 jhead.bits3 (fun HT_ HW_ => ?_)
    generalize w8.drew = w10 at F3 F4 HB BKS hHeld ⊢
    iterate 51 (first | (refine pq_ (v := ?_) (a' := ?_) rfl rfl HT_.out (by kernel_rfl) (fun _ _ _ h => h) (Or.inl ⟨by rfl, ?hy⟩) ?ha ?_; (case hy => intro w'; go_simp; with_reducible rfl); (case ha => show Act.put _ (some _) _ = _; simp only [ap_, sb_, s0_, s1_, i64_w, i32_w]; rfl)) | (refine pq_ (v := undef) (a' := ?_) rfl rfl HT_.out (by kernel_rfl) (fun _ _ _ h => h) (Or.inr ⟨by rfl, rfl⟩) ?ha ?_; (case ha => show Act.put _ (some _) _ = _; simp only [ap_, sb_, s0_, s1_, i64_w, i32_w]; rfl)) | (refine tq_ (v := ?_) (a' := ?_) rfl rfl HT_.out HW_.out (by kernel_rfl) (fun _ _ _ h => h) (Or.inl ⟨by rfl, ?hy⟩) hHeld ?ha ?_; (case hy => rintro w' ⟨s0_, s1_⟩; go_simp; with_reducible rfl); (case ha => show Act.put _ (some _) _ = _; simp only [ap_, sb_, s0_, s1_, i64_w, i32_w]; rfl)))
    refine done_ (done_of HT_.out (by kernel_rfl)) ?_
    go_wp2
    go_ret2
    rw [headV_no (fun h => T1.out h.2.1)]
    exact ⟨rfl, HB.out⟩
  have q1 : ((nums.length : Int) != 3) = false := by simp; omega
  by_cases t2 : texts.length = 0
  rotate_left
  · have T2 := Aside0.mk t2
    have q2 : decide (0 < (texts.length : Int)) = true := decide_eq_true (by omega)
    have q2' : decide (0 < texts.length) = true := decide_eq_true (by omega)
    clear t2 t1
    refine start_ (n := 51) (S := fun w' => w'.cell? ⟨gs, 0, none⟩ = some (.slice A4 nums.length c4) ∧ w'.cell? ⟨gs, 1, none⟩ = some (.slice A5 texts.length c5)) (ds := []) (up (List.range 51) 51 0) (by kernel_rfl) rfl (by kernel_rfl) ⟨(blk_cell BKS.out 0).trans rfl, (blk_cell BKS.out 1).trans rfl⟩ (fun hHeld => ?_)
    refine with_tabW jhead.tab3 jhead.bits3 (fun HT_ HW_ => ?_)
    generalize w8.drew = w10 at F3 F4 HB BKS hHeld ⊢
    iterate 51 (first | (refine pq_ (v := ?_) (a' := ?_) rfl rfl HT_.out (by kernel_rfl) (fun _ _ _ h => h) (Or.inl ⟨by rfl, ?hy⟩) ?ha ?_; (case hy => intro w'; go_simp; with_reducible rfl); (case ha => show Act.put _ (some _) _ = _; simp only [ap_, sb_, s0_, s1_, i64_w, i32_w]; rfl)) | (refine pq_ (v := undef) (a' := ?_) rfl rfl HT_.out (by kernel_rfl) (fun _ _ _ h => h) (Or.inr ⟨by rfl, rfl⟩) ?ha ?_; (case ha => show Act.put _ (some _) _ = _; simp only [ap_, sb_, s0_, s1_, i64_w, i32_w]; rfl)) | (refine tq_ (v := ?_) (a' := ?_) rfl rfl HT_.out HW_.out (by kernel_rfl) (fun _ _ _ h => h) (Or.inl ⟨by rfl, ?hy⟩) hHeld ?ha ?_; (case hy => rintro w' ⟨s0_, s1_⟩; go_simp; with_reducible rfl); (case ha => show Act.put _ (some _) _ = _; simp only [ap_, sb_, s0_, s1_, i64_w, i32_w]; rfl)))
    refine done_ (done_of HT_.out (by kernel_rfl)) ?_
    go_wp2
    go_ret2
    rw [headV_no (fun h => T2.out h.2.2.1)]
    exact ⟨rfl, HB.out⟩
  have T2 := Aside0.mk t2
  have q2 : decide (0 < (texts.length : Int)) = false := decide_eq_false (by omega)
  have q2' : decide (0 < texts.length) = false := decide_eq_false (by omega)
  obtain ⟨ad, eA, y0⟩ := Kd.at_int (Kd.F_now F4.out) 0 (by decide) (by omega)
  have y1 := Kd.at_int (Kd.F_now F4.out) 1 (by decide) (by omega)
  have y2 := Kd.at_int (Kd.F_now F4.out) 2 (by decide) (by omega)
  obtain ⟨ad1, eA1, y1⟩ := y1
  obtain ⟨ad2, eA2, y2⟩ := y2
  rw [eA] at eA1 eA2
  injection eA1 with eA1
  injection eA2 with eA2
  subst eA1 eA2
  rw [show ad.add (0 : Int).toNat = ad from Addr.add_zero' ad] at y0
  have sp := cell_spot y0
  obtain ⟨ab, hab⟩ : ∃ x, x = ad.block := ⟨_, rfl⟩
  obtain ⟨ao, hao⟩ : ∃ x, x = ad.off := ⟨_, rfl⟩
  rw [← hab, ← hao] at sp
  subst sp
  clear hab hao
  rw [show (⟨ab, ao, none⟩ : Addr).add (1 : Int).toNat = ⟨ab, ao + 1, none⟩ from by simp [Addr.add]] at y1
  rw [show (⟨ab, ao, none⟩ : Addr).add (2 : Int).toNat = ⟨ab, ao + 2, none⟩ from by simp [Addr.add]] at y2
  subst eA
  have T1 := Aside0.mk t1
  have l0_ : (0 < nums.length) = True := eq_true (by omega)
  have l1_ : (1 < nums.length) = True := eq_true (by omega)
  have l2_ : (2 < nums.length) = True := eq_true (by omega)
  have m0_ : ((0 : Int) < (nums.length : Int)) = True := eq_true (by omega)
  have m1_ : ((1 : Int) < (nums.length : Int)) = True := eq_true (by omega)
  have m2_ : ((2 : Int) < (nums.length : Int)) = True := eq_true (by omega)
  clear t1 t2
  obtain ⟨x0, hx0⟩ : ∃ x, x = rd nums 0 := ⟨_, rfl⟩
  obtain ⟨x1, hx1⟩ : ∃ x, x = rd nums 1 := ⟨_, rfl⟩
  obtain ⟨x2, hx2⟩ : ∃ x, x = rd nums 2 := ⟨_, rfl⟩
  rw [← hx0] at y0
  rw [← hx1] at y1
  rw [← hx2] at y2
  have X0 := Aside0.mk hx0
  have X1 := Aside0.mk hx1
  have X2 := Aside0.mk hx2
  clear hx0 hx1 hx2
  by_cases t3 : x0 = 7
  rotate_left
  · have T3 := Aside0.mk t3
    have q3 : (x0 != 7) = true := by simpa using t3
    clear t3
    refine start_ (n := 51) (S := fun w' => w'.cell? ⟨gs, 0, none⟩ = some (.slice (some ⟨ab, ao, none⟩) nums.length c4) ∧ w'.cell? ⟨gs, 1, none⟩ = some (.slice A5 texts.length c5) ∧ w'.cell? ⟨ab, ao, none⟩ = some (.int .i64 x0) ∧ w'.cell? ⟨ab, ao + 1, none⟩ = some (.int .i64 x1) ∧ w'.cell? ⟨ab, ao + 2, none⟩ = some (.int .i64 x2)) (ds := []) (up (List.range 51) 51 0) (by kernel_rfl) rfl (by kernel_rfl) ⟨(blk_cell BKS.out 0).trans rfl, (blk_cell BKS.out 1).trans rfl, y0, y1, y2⟩ (fun hHeld => ?_)
    refine with_tabW jhead.tab3 jhead.bits3 (fun HT_ HW_ => ?_)
    generalize w8.drew = w10 at F3 F4 HB BKS hHeld ⊢
    iterate 51 (first | (refine pq_ (v := ?_) (a' := ?_) rfl rfl HT_.out (by kernel_rfl) (fun _ _ _ h => h) (Or.inl ⟨by rfl, ?hy⟩) ?ha ?_; (case hy => intro w'; go_simp; with_reducible rfl); (case ha => show Act.put _ (some _) _ = _; simp only [ap_, sb_, s0_, s1_, i64_w, i32_w]; rfl)) | (refine pq_ (v := undef) (a' := ?_) rfl rfl HT_.out (by kernel_rfl) (fun _ _ _ h => h) (Or.inr ⟨by rfl, rfl⟩) ?ha ?_; (case ha => show Act.put _ (some _) _ = _; simp only [ap_, sb_, s0_, s1_, i64_w, i32_w]; rfl)) | (refine tq_ (v := ?_) (a' := ?_) rfl rfl HT_.out HW_.out (by kernel_rfl) (fun _ _ _ h => h) (Or.inl ⟨by rfl, ?hy⟩) hHeld ?ha ?_; (case hy => rintro w' ⟨s0_, s1_, s2_, s3_, s4_⟩; go_simp; with_reducible rfl); (case ha => show Act.put _ (some _) _ = _; simp only [ap_, sb_, s0_, s1_, i64_w, i32_w]; rfl)))
    refine done_ (done_of HT_.out (by kernel_rfl)) ?_
    go_wp2
    go_ret2
    rw [headV_no (fun h => T3.out (X0.out.trans h.2.2.2.1))]
    exact ⟨rfl, HB.out⟩
  have T3 := Aside0.mk t3
  have q3 : (x0 != 7) = false := by simpa using t3
  clear t3
  by_cases t4 : x1 < 1
  · have T4 := Aside0.mk t4
    have q4 : decide (x1 < 1) = true := decide_eq_true t4
    clear t4
    refine start_ (n := 51) (S := fun w' => w'.cell? ⟨gs, 0, none⟩ = some (.slice (some ⟨ab, ao, none⟩) nums.length c4) ∧ w'.cell? ⟨gs, 1, none⟩ = some (.slice A5 texts.length c5) ∧ w'.cell? ⟨ab, ao, none⟩ = some (.int .i64 x0) ∧ w'.cell? ⟨ab, ao + 1, none⟩ = some (.int .i64 x1) ∧ w'.cell? ⟨ab, ao + 2, none⟩ = some (.int .i64 x2)) (ds := []) (up (List.range 51) 51 0) (by kernel_rfl) rfl (by kernel_rfl) ⟨(blk_cell BKS.out 0).trans rfl, (blk_cell BKS.out 1).trans rfl, y0, y1, y2⟩ (fun hHeld => ?_)
    refine with_tabW jhead.tab3 jhead.bits3 (fun HT_ HW_ => ?_)
    generalize w8.drew = w10 at F3 F4 HB BKS hHeld ⊢
    iterate 51 (first | (refine pq_ (v := ?_) (a' := ?_) rfl rfl HT_.out (by kernel_rfl) (fun _ _ _ h => h) (Or.inl ⟨by rfl, ?hy⟩) ?ha ?_; (case hy => intro w'; go_simp; with_reducible rfl); (case ha => show Act.put _ (some _) _ = _; simp only [ap_, sb_, s0_, s1_, i64_w, i32_w]; rfl)) | (refine pq_ (v := undef) (a' := ?_) rfl rfl HT_.out (by kernel_rfl) (fun _ _ _ h => h) (Or.inr ⟨by rfl, rfl⟩) ?ha ?_; (case ha => show Act.put _ (some _) _ = _; simp only [ap_, sb_, s0_, s1_, i64_w, i32_w]; rfl)) | (refine tq_ (v := ?_) (a' := ?_) rfl rfl HT_.out HW_.out (by kernel_rfl) (fun _ _ _ h => h) (Or.inl ⟨by rfl, ?hy⟩) hHeld ?ha ?_; (case hy => rintro w' ⟨s0_, s1_, s2_, s3_, s4_⟩; go_simp; with_reducible rfl); (case ha => show Act.put _ (some _) _ = _; simp only [ap_, sb_, s0_, s1_, i64_w, i32_w]; rfl)))
    refine done_ (done_of HT_.out (by kernel_rfl)) ?_
    go_wp2
    go_ret2
    rw [headV_no (fun h => by have := T4.out; have := h.2.2.2.2.1; have := X1.out; omega)]
    exact ⟨rfl, HB.out⟩
  have T4 := Aside0.mk t4
  have q4 : decide (x1 < 1) = false := decide_eq_false t4
  clear t4
  by_cases t5 : 2147483647 < x1
  · have T5 := Aside0.mk t5
    have q5 : decide (2147483647 < x1) = true := decide_eq_true t5
    clear t5
    refine start_ (n := 51) (S := fun w' => w'.cell? ⟨gs, 0, none⟩ = some (.slice (some ⟨ab, ao, none⟩) nums.length c4) ∧ w'.cell? ⟨gs, 1, none⟩ = some (.slice A5 texts.length c5) ∧ w'.cell? ⟨ab, ao, none⟩ = some (.int .i64 x0) ∧ w'.cell? ⟨ab, ao + 1, none⟩ = some (.int .i64 x1) ∧ w'.cell? ⟨ab, ao + 2, none⟩ = some (.int .i64 x2)) (ds := []) (up (List.range 51) 51 0) (by kernel_rfl) rfl (by kernel_rfl) ⟨(blk_cell BKS.out 0).trans rfl, (blk_cell BKS.out 1).trans rfl, y0, y1, y2⟩ (fun hHeld => ?_)
    refine with_tabW jhead.tab3 jhead.bits3 (fun HT_ HW_ => ?_)
    generalize w8.drew = w10 at F3 F4 HB BKS hHeld ⊢
    iterate 51 (first | (refine pq_ (v := ?_) (a' := ?_) rfl rfl HT_.out (by kernel_rfl) (fun _ _ _ h => h) (Or.inl ⟨by rfl, ?hy⟩) ?ha ?_; (case hy => intro w'; go_simp; with_reducible rfl); (case ha => show Act.put _ (some _) _ = _; simp only [ap_, sb_, s0_, s1_, i64_w, i32_w]; rfl)) | (refine pq_ (v := undef) (a' := ?_) rfl rfl HT_.out (by kernel_rfl) (fun _ _ _ h => h) (Or.inr ⟨by rfl, rfl⟩) ?ha ?_; (case ha => show Act.put _ (some _) _ = _; simp only [ap_, sb_, s0_, s1_, i64_w, i32_w]; rfl)) | (refine tq_ (v := ?_) (a' := ?_) rfl rfl HT_.out HW_.out (by kernel_rfl) (fun _ _ _ h => h) (Or.inl ⟨by rfl, ?hy⟩) hHeld ?ha ?_; (case hy => rintro w' ⟨s0_, s1_, s2_, s3_, s4_⟩; go_simp; with_reducible rfl); (case ha => show Act.put _ (some _) _ = _; simp only [ap_, sb_, s0_, s1_, i64_w, i32_w]; rfl)))
    refine done_ (done_of HT_.out (by kernel_rfl)) ?_
    go_wp2
    go_ret2
    rw [headV_no (fun h => by have := T5.out; have := h.2.2.2.2.2.1; have := X1.out; omega)]
    exact ⟨rfl, HB.out⟩
  have T5 := Aside0.mk t5
  have q5 : decide (2147483647 < x1) = false := decide_eq_false t5
  clear t5
  by_cases t6 : x2 < 0
  · have T6 := Aside0.mk t6
    have q6 : decide (x2 < 0) = true := decide_eq_true t6
    clear t6
    refine start_ (n := 51) (S := fun w' => w'.cell? ⟨gs, 0, none⟩ = some (.slice (some ⟨ab, ao, none⟩) nums.length c4) ∧ w'.cell? ⟨gs, 1, none⟩ = some (.slice A5 texts.length c5) ∧ w'.cell? ⟨ab, ao, none⟩ = some (.int .i64 x0) ∧ w'.cell? ⟨ab, ao + 1, none⟩ = some (.int .i64 x1) ∧ w'.cell? ⟨ab, ao + 2, none⟩ = some (.int .i64 x2)) (ds := []) (up (List.range 51) 51 0) (by kernel_rfl) rfl (by kernel_rfl) ⟨(blk_cell BKS.out 0).trans rfl, (blk_cell BKS.out 1).trans rfl, y0, y1, y2⟩ (fun hHeld => ?_)
    refine with_tabW jhead.tab3 jhead.bits3 (fun HT_ HW_ => ?_)
    generalize w8.drew = w10 at F3 F4 HB BKS hHeld ⊢
    iterate 51 (first | (refine pq_ (v := ?_) (a' := ?_) rfl rfl HT_.out (by kernel_rfl) (fun _ _ _ h => h) (Or.inl ⟨by rfl, ?hy⟩) ?ha ?_; (case hy => intro w'; go_simp; with_reducible rfl); (case ha => show Act.put _ (some _) _ = _; simp only [ap_, sb_, s0_, s1_, i64_w, i32_w]; rfl)) | (refine pq_ (v := undef) (a' := ?_) rfl rfl HT_.out (by kernel_rfl) (fun _ _ _ h => h) (Or.inr ⟨by rfl, rfl⟩) ?ha ?_; (case ha => show Act.put _ (some _) _ = _; simp only [ap_, sb_, s0_, s1_, i64_w, i32_w]; rfl)) | (refine tq_ (v := ?_) (a' := ?_) rfl rfl HT_.out HW_.out (by kernel_rfl) (fun _ _ _ h => h) (Or.inl ⟨by rfl, ?hy⟩) hHeld ?ha ?_; (case hy => rintro w' ⟨s0_, s1_, s2_, s3_, s4_⟩; go_simp; with_reducible rfl); (case ha => show Act.put _ (some _) _ = _; simp only [ap_, sb_, s0_, s1_, i64_w, i32_w]; rfl)))
    refine done_ (done_of HT_.out (by kernel_rfl)) ?_
    go_wp2
    go_ret2
    rw [headV_no (fun h => by have := T6.out; have := h.2.2.2.2.2.2.1; have := X2.out; omega)]
    exact ⟨rfl, HB.out⟩
  have T6 := Aside0.mk t6
  have q6 : decide (x2 < 0) = false := decide_eq_false t6
  clear t6
  by_cases t7 : rm < x2
  · have T7 := Aside0.mk t7
    have q7 : decide (rm < x2) = true := decide_eq_true t7
    clear t7
    refine start_ (n := 51) (S := fun w' => w'.cell? ⟨gs, 0, none⟩ = some (.slice (some ⟨ab, ao, none⟩) nums.length c4) ∧ w'.cell? ⟨gs, 1, none⟩ = some (.slice A5 texts.length c5) ∧ w'.cell? ⟨ab, ao, none⟩ = some (.int .i64 x0) ∧ w'.cell? ⟨ab, ao + 1, none⟩ = some (.int .i64 x1) ∧ w'.cell? ⟨ab, ao + 2, none⟩ = some (.int .i64 x2)) (ds := []) (up (List.range 51) 51 0) (by kernel_rfl) rfl (by kernel_rfl) ⟨(blk_cell BKS.out 0).trans rfl, (blk_cell BKS.out 1).trans rfl, y0, y1, y2⟩ (fun hHeld => ?_)
    refine with_tabW jhead.tab3 jhead.bits3 (fun HT_ HW_ => ?_)
    generalize w8.drew = w10 at F3 F4 HB BKS hHeld ⊢
    iterate 48 (first | (refine pq_ (v := ?_) (a' := ?_) rfl rfl HT_.out (by kernel_rfl) (fun _ _ _ h => h) (Or.inl ⟨by rfl, ?hy⟩) ?ha ?_; (case hy => intro w'; go_simp; with_reducible rfl); (case ha => show Act.put _ (some _) _ = _; simp only [ap_, sb_, s0_, s1_, i64_w, i32_w]; rfl)) | (refine tq_ (v := ?_) (a' := ?_) rfl rfl HT_.out HW_.out (by kernel_rfl) (fun _ _ _ h => h) (Or.inl ⟨by rfl, ?hy⟩) hHeld ?ha ?_; (case hy => rintro w' ⟨s0_, s1_, s2_, s3_, s4_⟩; go_simp; with_reducible rfl); (case ha => show Act.put _ (some _) _ = _; simp only [ap_, sb_, s0_, s1_, i64_w, i32_w]; rfl)))
    refine oq_ rfl rfl HT_.out (by kernel_rfl) (by decide) (fun K hK => ?_)
    refine goes_ Try.func57 (by kernel_rfl) rfl #[.pointer (some ⟨j, 0, none⟩)] (by rfl) rfl rfl (by (try simp only [List.map_toArray, List.map_cons, List.map_nil]); first | done | rfl) ?_
    with_reducible refine (ROOM.out _ HB.out).mono ?_
    rintro e w9 ⟨rfl, he⟩
    rw [he]
    clear he w9
    refine ⟨_, rfl, ?_⟩
    refine hK.out _ _ hHeld (fun hHeld => ?_)
    clear hK K
    refine norm_ (a' := ?_) ?_ ?_
    rotate_left
    · show Act.put _ (some 77) _ = _
      simp only [ap_, sb_, s0_, s1_, i64_w, i32_w]
      rfl
    iterate 2 (refine pq_ (v := ?_) (a' := ?_) rfl rfl HT_.out (by kernel_rfl) (fun _ _ _ h => h) (Or.inl ⟨by rfl, ?hy⟩) ?ha ?_; (case hy => intro w'; go_simp; with_reducible rfl); (case ha => show Act.put _ (some _) _ = _; simp only [ap_, sb_, s0_, s1_, i64_w, i32_w]; rfl))
    refine done_ (done_of HT_.out (by kernel_rfl)) ?_
    go_wp2
    go_ret2
    rw [headV_no (fun h => by have := T7.out; have := h.2.2.2.2.2.2.2.1; have := X2.out; omega)]
    exact ⟨rfl, HB.out⟩
  have T7 := Aside0.mk t7
  have q7 : decide (rm < x2) = false := decide_eq_false t7
  clear t7
  refine start_ (n := 51) (S := fun w' => w'.cell? ⟨gs, 0, none⟩ = some (.slice (some ⟨ab, ao, none⟩) nums.length c4) ∧ w'.cell? ⟨gs, 1, none⟩ = some (.slice A5 texts.length c5) ∧ w'.cell? ⟨ab, ao, none⟩ = some (.int .i64 x0) ∧ w'.cell? ⟨ab, ao + 1, none⟩ = some (.int .i64 x1) ∧ w'.cell? ⟨ab, ao + 2, none⟩ = some (.int .i64 x2)) (ds := []) (up (List.range 51) 51 0) (by kernel_rfl) rfl (by kernel_rfl) ⟨(blk_cell BKS.out 0).trans rfl, (blk_cell BKS.out 1).trans rfl, y0, y1, y2⟩ (fun hHeld => ?_)
  refine with_tabW jhead.tab3 jhead.bits3 (fun HT_ HW_ => ?_)
  generalize w8.drew = w10 at F3 F4 HB BKS hHeld ⊢
  iterate 48 (first | (refine pq_ (v := ?_) (a' := ?_) rfl rfl HT_.out (by kernel_rfl) (fun _ _ _ h => h) (Or.inl ⟨by rfl, ?hy⟩) ?ha ?_; (case hy => intro w'; go_simp; with_reducible rfl); (case ha => show Act.put _ (some _) _ = _; simp only [ap_, sb_, s0_, s1_, i64_w, i32_w]; rfl)) | (refine tq_ (v := ?_) (a' := ?_) rfl rfl HT_.out HW_.out (by kernel_rfl) (fun _ _ _ h => h) (Or.inl ⟨by rfl, ?hy⟩) hHeld ?ha ?_; (case hy => rintro w' ⟨s0_, s1_, s2_, s3_, s4_⟩; go_simp; with_reducible rfl); (case ha => show Act.put _ (some _) _ = _; simp only [ap_, sb_, s0_, s1_, i64_w, i32_w]; rfl)))
  refine oq_ rfl rfl HT_.out (by kernel_rfl) (by decide) (fun K hK => ?_)
  refine goes_ Try.func57 (by kernel_rfl) rfl #[.pointer (some ⟨j, 0, none⟩)] (by rfl) rfl rfl (by (try simp only [List.map_toArray, List.map_cons, List.map_nil]); first | done | rfl) ?_
  with_reducible refine (ROOM.out _ HB.out).mono ?_
  rintro e w9 ⟨rfl, he⟩
  rw [he]
  clear he w9
  refine ⟨_, rfl, ?_⟩
  refine hK.out _ _ hHeld (fun hHeld => ?_)
  clear hK K
  refine norm_ (a' := ?_) ?_ ?_
  rotate_left
  · show Act.put _ (some 77) _ = _
    simp only [ap_, sb_, s0_, s1_, i64_w, i32_w]
    rfl
  iterate 2 (refine pq_ (v := ?_) (a' := ?_) rfl rfl HT_.out (by kernel_rfl) (fun _ _ _ h => h) (Or.inl ⟨by rfl, ?hy⟩) ?ha ?_; (case hy => intro w'; go_simp; with_reducible rfl); (case ha => show Act.put _ (some _) _ = _; simp only [ap_, sb_, s0_, s1_, i64_w, i32_w]; rfl))
  refine done_ (done_of HT_.out (by kernel_rfl)) ?_
  clear y0 y1 y2
  have hn := HN.out T0.out
  obtain ⟨i0, hi0, _, hsz, _⟩ := info_parts info5
  have hcut := cut_from (P := Try.prog) 30 5 .i64 Try.underlying30 hi0 1 hsz A3 b.length c3 n hn.1 hn.2
  have hFc := Kd.F_cut (m := n.toNat) (c := c3) F3.out (by omega) L3.out
  obtain ⟨L, hL⟩ : ∃ L, L = b.drop n.toNat := ⟨_, rfl⟩
  have hll : b.length - n.toNat = L.length := by rw [hL, List.length_drop]
  rw [hll] at hcut
  rw [← hL] at hFc
  have HLL := Aside0.mk hL
  obtain ⟨A6, hA6⟩ : ∃ A, A = (if c3 = n.toNat then A3 else A3.map (·.add (n.toNat * 1))) := ⟨_, rfl⟩
  rw [← hA6] at hcut
  have F6 : Aside0 (Kd.F (Kd.int .u8) w10 (fun k => k < wz) A6 L.length L) := ⟨by rw [hA6]; exact hFc⟩
  have HDL : Aside0 (L.length < 1000000000) := ⟨by have := HBL.out; omega⟩
  clear hFc hA6 hsz hi0 hn hL hll
  by_cases t8 : nz L = true
  · have T8 := Aside0.mk t8
    go_wp2_with (go_at_call 92; (with_reducible refine (contains_calls A6 _ L _ (Kd.F_now F6.out) HDL.out).mono ?_); rintro e w11 ⟨rfl, he⟩; rw [he, T8.out]; clear he w11)
    go_ret2
    rw [headV_no (fun h => by have := h.2.2.2.2.2.2.2.2; rw [← HLL.out, T8.out] at this; cases this)]
    exact ⟨rfl, HB.out⟩
  · have T8 := Aside0.mk (show nz L = false by simpa using t8)
    clear t8
    go_upto_region 7 with (go_at_call 92; (with_reducible refine (contains_calls A6 _ L _ (Kd.F_now F6.out) HDL.out).mono ?_); rintro e w11 ⟨rfl, he⟩; rw [he, T8.out]; clear he w11)
    have n_ := pk1 (below_drew1 HB.out)
    clear HB
    have HB := n_
    refine start_ (n := 10) (S := fun w' => w'.cell? ⟨gs, 0, none⟩ = some (.slice (some ⟨ab, ao, none⟩) nums.length c4) ∧ w'.cell? ⟨ab, ao + 1, none⟩ = some (.int .i64 x1) ∧ w'.cell? ⟨ab, ao + 2, none⟩ = some (.int .i64 x2)) (ds := []) (up (List.range 10) 10 0) (by kernel_rfl) rfl (by kernel_rfl) ⟨hHeld.1, hHeld.2.2.2.1, hHeld.2.2.2.2⟩ (fun hHeld => ?_)
    refine with_tabW jhead.tab7 jhead.bits7 (fun HT_ HW_ => ?_)
    generalize w10.drew = w12 at HB hHeld ⊢
    iterate 10 (first | (refine pq_ (v := ?_) (a' := ?_) rfl rfl HT_.out (by kernel_rfl) (fun _ _ _ h => h) (Or.inl ⟨by rfl, ?hy⟩) ?ha ?_; (case hy => intro w'; go_simp; with_reducible rfl); (case ha => show Act.put _ (some _) _ = _; simp only [ap_, sb_, s0_, s1_, i64_w, i32_w]; rfl)) | (refine tq_ (v := ?_) (a' := ?_) rfl rfl HT_.out HW_.out (by kernel_rfl) (fun _ _ _ h => h) (Or.inl ⟨by rfl, ?hy⟩) hHeld ?ha ?_; (case hy => rintro w' ⟨s0_, s1_, s2_⟩; go_simp; with_reducible rfl); (case ha => show Act.put _ (some _) _ = _; simp only [ap_, sb_, s0_, s1_, i64_w, i32_w]; rfl)))
    refine done_ (done_of HT_.out (by kernel_rfl)) ?_
    go_wp2
    go_ret2
    rw [headV_yes ⟨T0.out, T1.out, T2.out, X0.out.symm.trans T3.out, by have := T4.out; have := X1.out; omega, by have := T5.out; have := X1.out; omega, by have := T6.out; have := X2.out; omega, by have := T7.out; have := X2.out; omega, by rw [← HLL.out]; exact T8.out⟩, ← X1.out, ← X2.out]
    exact ⟨rfl, HB.out⟩
end Go.Proofs.Ytfmdllbkfpbdcaa.G
end
section
namespace Go.Proofs.Ytfmdllbkfpbdcaa.G
open Go Go.RowKit Go.Proofs.YtfmdllbkfpbdcaaX Go.Proofs.YtfmdllbkfpbdcaaW.PrintWords Go.Proofs.YtfmdllbkfpbdcaaW.PrintLast Go.Proofs.YtfmdllbkfpbdcaaW.PrintMore
def jread.T6 : Bool × List (List Nat × List Nat) := (true, [([], []), ([0], [0]), ([1], [1]), ([2], [2]), ([], []), ([], []), ([5], [5]), ([6], [6]), ([7], [7]), ([4, 8], [4, 8]), ([], []), ([10, 9], [10]), ([11], [11]), ([3, 9, 12, 11], [3, 9, 12]), ([13], [13]), ([14], [14]), ([14], [14]), ([15, 13, 0, 1, 2, 3, 4, 5, 6, 7, 8, 9, 10, 11, 12, 13, 14, 15], [15]), ([16, 17, 0, 1, 2, 3, 4, 5, 6, 7, 8, 9, 10, 11, 12, 13, 14, 15, 16, 17], [16])])
def jread.B6 : List Nat := [0, 1, 3, 7, 0, 0, 32, 96, 224, 496, 0, 2032, 4080, 8191, 16383, 32767, 32767, 65535, 262143]
theorem jread.tab6 : rtab .any (opsOf Try.f58 6) = jread.T6 := by kernel_rfl
theorem jread.bits6 : waitsOk jread.T6.2 jread.B6 = true := by kernel_rfl
def jread.T9 : Bool × List (List Nat × List Nat) := (true, [([], []), ([0], [0]), ([1], [1]), ([2], [2]), ([3, 2], [2, 3]), ([4, 2], [2, 4]), ([5, 2], [2, 5]), ([2, 6], [2, 6]), ([7, 2], [7]), ([8], [8]), ([9, 8], [8, 9]), ([10, 8], [8, 10]), ([11, 8], [8, 11]), ([8], [8]), ([13, 8], [8, 13]), ([14, 8], [8, 14]), ([15, 8], [8, 15]), ([16, 8, 8], [8, 16]), ([12, 17, 8], [8, 12, 17]), ([8, 18], [8, 18])])
def jread.B9 : List Nat := [0, 1, 3, 7, 15, 31, 63, 127, 255, 511, 1023, 2047, 4095, 511, 8703, 25087, 57855, 123391, 262143, 524287]
theorem jread.tab9 : rtab .any (opsOf Try.f58 9) = jread.T9 := by kernel_rfl
theorem jread.bits9 : waitsOk jread.T9.2 jread.B9 = true := by kernel_rfl
def jread.T10 : Bool × List (List Nat × List Nat) := (true, [([], []), ([], []), ([1], [1]), ([2], [2]), ([3], [3]), ([], []), ([5], [5]), ([], []), ([7], [7]), ([8], [8]), ([6, 9], [6, 9]), ([10], [10]), ([4, 11], [4, 11]), ([0, 0, 1, 2, 3, 4, 5, 6, 7, 8, 9, 10, 11, 12], [0]), ([13, 0, 1, 2, 3, 4, 5, 6, 7, 8, 9, 10, 11, 12], [13]), ([14, 12, 12, 0, 1, 2, 3, 4, 5, 6, 7, 8, 9, 10, 11, 12], [12, 14])])
def jread.B10 : List Nat := [0, 0, 2, 6, 14, 0, 32, 0, 128, 384, 992, 2016, 4094, 8191, 16383, 32767]
theorem jread.tab10 : rtab .any (opsOf Try.f58 10) = jread.T10 := by kernel_rfl
theorem jread.bits10 : waitsOk jread.T10.2 jread.B10 = true := by kernel_rfl
def readRow (kk : Nat) (fr : ByteArray) (row : List Int) : Nat → Int → List S48 → Option (List S48 × Int)
  | 0, _, _ => none
  | f + 1, e, l => (frame_First.f kk (row.drop e.toNat)).bind fun z => if z.2.2.2 = 0 ∧ 0 < z.2.1.length ∧ (rdOf ByteArray.empty z.2.1 0).toList = fr.toList then readRow kk fr row f (e + z.2.2.1) (l ++ [⟨z.1, z.2.1.drop 1⟩]) else some (l, e)
theorem open_nil (w : World) : Calls Try.prog 28 #[.pointer none] w fun e w' => e = .returned (.tuple #[.pointer none, .int .i64 1]) ∧ w' = w := by
  go_enter Try.func28, Try.ntmps28
  go_wp2_with (go_at_call 18; (with_reducible refine (sectors_nil _).mono ?_); rintro e w1 ⟨rfl, rfl⟩)
  go_ret2
  exact ⟨rfl, rfl⟩
def pickH (a ea b eb : Int) : Int × Int × Int := if a < b ∨ a = 0 then (1, b, eb) else (0, a, ea)
theorem IsJn.same_ {S T : Nat → Prop} {B : Nat} {w W : World} {j g s k : Nat} {J : JnS} {half age e : Int} {v : Value} (h : IsJn S T B w j g s k J) (hv : w.heap[j]? = some (.cells #[.pointer (some ⟨g, 0, none⟩), .int .i64 J.half, .int .i64 J.age, v, .int .i64 J.e] 54 (0, 0))) (hj : W.heap[j]? = some (.cells #[.pointer (some ⟨g, 0, none⟩), .int .i64 half, .int .i64 age, v, .int .i64 e] 54 (0, 0))) (hk : ∀ q, q ≠ j → W.heap[q]? = w.heap[q]?) (hs : W.heap.size = w.heap.size) :
    IsJn S T B W j g s k { D := J.D, half := half, age := age, l := J.l, e := e } := by
  obtain ⟨v0, h1, h2, h3, h4, h5, t1, t2, t3⟩ := h
  have hvv : v0 = v := by
    have e_ := h1.symm.trans hv
    injection e_ with e_
    injection e_ with e_ _ _
    exact Option.some.inj (show some v0 = some v from congrArg (fun a : Array Value => a[3]?) e_)
  subst hvv
  refine ⟨v0, hj, ?_, Kd.N_step h3 (fun q hq _ => hk q hq.2), h4, h5, t1, t2, t3⟩
  obtain ⟨v, d1, d2, d3, d4, d5, d6, d7, d8⟩ := h2
  have ng : g ≠ j := fun e => h4 (e ▸ d5.1)
  have ns : s ≠ j := fun e => h4 (e ▸ d5.2.1)
  have nk : k ≠ j := fun e => h4 (e ▸ d5.2.2)
  exact ⟨v, (hk g ng).trans d1, d2.kept (hk s ns), d3.kept (hk k nk), Kd.R_step d4 (fun q hq _ => hk q (fun e => h4 (e ▸ hq.1))), d5, d6, d7, fun q hq => d8 q (by omega)⟩
set_option maxHeartbeats 64000000 in
set_option maxRecDepth 100000 in
theorem IsJn.read {S T : Nat → Prop} {B : Nat} {w : World} {j g s k : Nat} {D : DrumS} (kk f : Nat) (a ea b eb hf ag ex : Int) (row : List Int) (lr : List S48) (er : Int) (fr : ByteArray) (h : IsJn S T B w j g s k { D := D, half := 0, age := 0, l := [], e := 0 }) (hB : B ≤ w.heap.size) (hG : D.Good)
    (h0 : ∀ W, Below w.heap.size w W → Calls Try.prog 79 #[.pointer (some ⟨j, 0, none⟩), .int .i64 0] W fun e w' => e = .returned (.tuple #[.int .i64 a, .int .i64 ea]) ∧ Below W.heap.size W w')
    (h1 : ∀ W, Below w.heap.size w W → Calls Try.prog 79 #[.pointer (some ⟨j, 0, none⟩), .int .i64 1] W fun e w' => e = .returned (.tuple #[.int .i64 b, .int .i64 eb]) ∧ Below W.heap.size W w')
    (hq : pickH a ea b eb = (hf, ag, ex)) (hz : ag = 0 → lr = [] ∧ er = 0)
    (hr : ag ≠ 0 → ∃ row0, (readD D (hf * JnS.secs { D := D, half := hf, age := ag, l := [], e := 0 } + 1) (JnS.secs { D := D, half := hf, age := ag, l := [], e := 0 } - 1)).1 = row0 ∧ 0 ≤ ex ∧ ex ≤ row0.length ∧ row0.take ex.toNat = row ∧ journal_four.f ag = some fr ∧ readRow kk fr row f 0 [] = some (lr, er))
    (hf0 : f ≤ 1000000) (hln : row.length ≤ 100000000) (hft : ∀ e : Nat, ∀ z, frame_First.f kk (row.drop e) = some z → z.2.2.2 = 0 → 0 ≤ z.2.2.1 ∧ z.2.2.1 ≤ (row.drop e).length) :
    Calls Try.prog 58 #[.pointer (some ⟨j, 0, none⟩)] w fun e w' => ∃ S', (∃ v, e = .returned v) ∧ IsJn S' T B w' j g s k { D := D, half := hf, age := ag, l := lr, e := er } ∧ (∀ b, S' b → S b) ∧ Below B w w' ∧ Kept w w' T := by
  have hu := Try.underlying54
  have HJ := Aside0.mk h
  obtain ⟨v, hv⟩ := h.blk
  have BK := Aside0.mk hv
  have H0 := Aside0.mk h0
  have H1 := Aside0.mk h1
  have HB := Aside0.mk (Below.refl w.heap.size w)
  have HQ := Aside0.mk hq
  have HZR := Aside0.mk hz
  have HRR0 := Aside0.mk hr
  have HF0 := Aside0.mk hf0
  have HRL := Aside0.mk hln
  have HFT := Aside0.mk hft
  have HGG := Aside0.mk hG
  clear h0 h1 hv h hq hz hr hf0 hln hft
  have HBJ : Aside0 (B ≤ j) := ⟨by obtain ⟨_, _, _, _, _, h5, _⟩ := HJ.out; exact h5⟩
  have HTJ : Aside0 (T j) := ⟨by obtain ⟨_, _, _, _, _, _, t1, _⟩ := HJ.out; exact t1⟩
  have HBB := Aside0.mk hB
  go_enter Try.func58, Try.ntmps58
  by_cases q1 : a < b
  focus
    have c1 : decide (a < b) = true := decide_eq_true q1
    have Q1 := Aside0.mk q1
    clear q1
    go_upto_region 5 with (first
      | (go_at_call 79; (with_reducible refine (H0.out _ HB.out).mono ?_); rintro e w1 ⟨rfl, hb⟩; have n_ := pk2 (below_step HB.out hb) (blk_below BK.out hb); clear HB hb; obtain ⟨HB, BK1⟩ := n_)
      | (go_at_call 79; (with_reducible refine (H1.out _ HB.out).mono ?_); rintro e w2 ⟨rfl, hb⟩; have n_ := pk2 (below_step HB.out hb) (blk_below BK1.out hb); clear HB hb BK1; obtain ⟨HB, BK1⟩ := n_; obtain ⟨hcz0, hcz1, hcz2, hcz3, hcz4, hfz0, hfz1, hfz2, hfz3, hfz4⟩ := blk_at5 BK1.out))
    have HJ2 := Aside0.mk (HJ.out.below HB.out)
    clear hcz0 hcz1 hcz2 hcz3 hcz4 hfz0 hfz1 hfz2 hfz3 hfz4
    have n_ := pk3 (HJ2.out.same_ (W := (((w2.setCell ⟨j, 2, none⟩ (.int .i64 a)).setCell ⟨j, 1, none⟩ (.int .i64 1)).setCell ⟨j, 2, none⟩ (.int .i64 b))) (half := 1) (age := b) (e := 0) BK1.out (blk_put (cs := #[.pointer (some ⟨g, 0, none⟩), .int .i64 1, .int .i64 a, v, .int .i64 0]) (blk_put (cs := #[.pointer (some ⟨g, 0, none⟩), .int .i64 0, .int .i64 a, v, .int .i64 0]) (blk_put (cs := #[.pointer (some ⟨g, 0, none⟩), .int .i64 0, .int .i64 0, v, .int .i64 0]) BK1.out 2 (.int .i64 a) rfl) 1 (.int .i64 1) rfl) 2 (.int .i64 b) rfl) (fun q hq => by rw [Below.heap_setCell _ ⟨j, 2, none⟩ _ q hq, Below.heap_setCell _ ⟨j, 1, none⟩ _ q hq, Below.heap_setCell _ ⟨j, 2, none⟩ _ q hq]) (by simp)) ((((HB.out.mono HBB.out).setCell (p := ⟨j, 2, none⟩) HBJ.out (.int .i64 a)).setCell (p := ⟨j, 1, none⟩) HBJ.out (.int .i64 1)).setCell (p := ⟨j, 2, none⟩) HBJ.out (.int .i64 b)) ((((Kept.of_below HB.out T).setCell (p := ⟨j, 2, none⟩) (.inl HTJ.out) (.int .i64 a)).setCell (p := ⟨j, 1, none⟩) (.inl HTJ.out) (.int .i64 1)).setCell (p := ⟨j, 2, none⟩) (.inl HTJ.out) (.int .i64 b))
    clear HB BK1 HJ2 H0 H1
    obtain ⟨HJ3, HB, HK⟩ := n_
    generalize (((w2.setCell ⟨j, 2, none⟩ (.int .i64 a)).setCell ⟨j, 1, none⟩ (.int .i64 1)).setCell ⟨j, 2, none⟩ (.int .i64 b)) = w5 at HJ3 HB HK ⊢
    have hpk : pickH a ea b eb = (1, b, eb) := by unfold pickH; rw [if_pos (by first | exact .inl Q1.out | exact .inr Q2.out)]
    have HPK := Aside0.mk hpk
    clear hpk
    have hq2 := HQ.out.symm.trans HPK.out
    injection hq2 with h1_ hq2
    (injection hq2 with h2_ h3_)
    replace HJ3 : Aside0 (IsJn S T B w5 j g s k { D := D, half := hf, age := ag, l := [], e := 0 }) := ⟨by rw [h1_, h2_]; exact HJ3.out⟩
    rw [← h3_]
    clear h1_ h2_ h3_ HPK
  rotate_left
  focus
    have c1 : decide (a < b) = false := decide_eq_false q1
    have Q1 := Aside0.mk q1
    clear q1
    by_cases q2 : a = 0
    focus
      have c2 : (a == 0) = true := by simpa using q2
      have Q2 := Aside0.mk q2
      clear q2
      go_upto_region 5 with (first
        | (go_at_call 79; (with_reducible refine (H0.out _ HB.out).mono ?_); rintro e w1 ⟨rfl, hb⟩; have n_ := pk2 (below_step HB.out hb) (blk_below BK.out hb); clear HB hb; obtain ⟨HB, BK1⟩ := n_)
        | (go_at_call 79; (with_reducible refine (H1.out _ HB.out).mono ?_); rintro e w2 ⟨rfl, hb⟩; have n_ := pk2 (below_step HB.out hb) (blk_below BK1.out hb); clear HB hb BK1; obtain ⟨HB, BK1⟩ := n_; obtain ⟨hcz0, hcz1, hcz2, hcz3, hcz4, hfz0, hfz1, hfz2, hfz3, hfz4⟩ := blk_at5 BK1.out))
      have HJ2 := Aside0.mk (HJ.out.below HB.out)
      clear hcz0 hcz1 hcz2 hcz3 hcz4 hfz0 hfz1 hfz2 hfz3 hfz4
      have n_ := pk3 (HJ2.out.same_ (W := (((w2.setCell ⟨j, 2, none⟩ (.int .i64 a)).setCell ⟨j, 1, none⟩ (.int .i64 1)).setCell ⟨j, 2, none⟩ (.int .i64 b))) (half := 1) (age := b) (e := 0) BK1.out (blk_put (cs := #[.pointer (some ⟨g, 0, none⟩), .int .i64 1, .int .i64 a, v, .int .i64 0]) (blk_put (cs := #[.pointer (some ⟨g, 0, none⟩), .int .i64 0, .int .i64 a, v, .int .i64 0]) (blk_put (cs := #[.pointer (some ⟨g, 0, none⟩), .int .i64 0, .int .i64 0, v, .int .i64 0]) BK1.out 2 (.int .i64 a) rfl) 1 (.int .i64 1) rfl) 2 (.int .i64 b) rfl) (fun q hq => by rw [Below.heap_setCell _ ⟨j, 2, none⟩ _ q hq, Below.heap_setCell _ ⟨j, 1, none⟩ _ q hq, Below.heap_setCell _ ⟨j, 2, none⟩ _ q hq]) (by simp)) ((((HB.out.mono HBB.out).setCell (p := ⟨j, 2, none⟩) HBJ.out (.int .i64 a)).setCell (p := ⟨j, 1, none⟩) HBJ.out (.int .i64 1)).setCell (p := ⟨j, 2, none⟩) HBJ.out (.int .i64 b)) ((((Kept.of_below HB.out T).setCell (p := ⟨j, 2, none⟩) (.inl HTJ.out) (.int .i64 a)).setCell (p := ⟨j, 1, none⟩) (.inl HTJ.out) (.int .i64 1)).setCell (p := ⟨j, 2, none⟩) (.inl HTJ.out) (.int .i64 b))
      clear HB BK1 HJ2 H0 H1
      obtain ⟨HJ3, HB, HK⟩ := n_
      generalize (((w2.setCell ⟨j, 2, none⟩ (.int .i64 a)).setCell ⟨j, 1, none⟩ (.int .i64 1)).setCell ⟨j, 2, none⟩ (.int .i64 b)) = w5 at HJ3 HB HK ⊢
      have hpk : pickH a ea b eb = (1, b, eb) := by unfold pickH; rw [if_pos (by first | exact .inl Q1.out | exact .inr Q2.out)]
      have HPK := Aside0.mk hpk
      clear hpk
      have hq2 := HQ.out.symm.trans HPK.out
      injection hq2 with h1_ hq2
      (injection hq2 with h2_ h3_)
      replace HJ3 : Aside0 (IsJn S T B w5 j g s k { D := D, half := hf, age := ag, l := [], e := 0 }) := ⟨by rw [h1_, h2_]; exact HJ3.out⟩
      rw [← h3_]
      clear h1_ h2_ h3_ HPK
    rotate_left
    focus
      have c2 : (a == 0) = false := by simpa using q2
      have Q2 := Aside0.mk q2
      clear q2
      go_upto_region 5 with (first
        | (go_at_call 79; (with_reducible refine (H0.out _ HB.out).mono ?_); rintro e w1 ⟨rfl, hb⟩; have n_ := pk2 (below_step HB.out hb) (blk_below BK.out hb); clear HB hb; obtain ⟨HB, BK1⟩ := n_)
        | (go_at_call 79; (with_reducible refine (H1.out _ HB.out).mono ?_); rintro e w2 ⟨rfl, hb⟩; have n_ := pk2 (below_step HB.out hb) (blk_below BK1.out hb); clear HB hb BK1; obtain ⟨HB, BK1⟩ := n_; obtain ⟨hcz0, hcz1, hcz2, hcz3, hcz4, hfz0, hfz1, hfz2, hfz3, hfz4⟩ := blk_at5 BK1.out))
      have HJ2 := Aside0.mk (HJ.out.below HB.out)
      clear hcz0 hcz1 hcz2 hcz3 hcz4 hfz0 hfz1 hfz2 hfz3 hfz4
      have n_ := pk3 (HJ2.out.same_ (W := (w2.setCell ⟨j, 2, none⟩ (.int .i64 a))) (half := 0) (age := a) (e := 0) BK1.out (blk_put (cs := #[.pointer (some ⟨g, 0, none⟩), .int .i64 0, .int .i64 0, v, .int .i64 0]) BK1.out 2 (.int .i64 a) rfl) (fun q hq => by rw [Below.heap_setCell _ ⟨j, 2, none⟩ _ q hq]) (by simp)) ((HB.out.mono HBB.out).setCell (p := ⟨j, 2, none⟩) HBJ.out (.int .i64 a)) ((Kept.of_below HB.out T).setCell (p := ⟨j, 2, none⟩) (.inl HTJ.out) (.int .i64 a))
      clear HB BK1 HJ2 H0 H1
      obtain ⟨HJ3, HB, HK⟩ := n_
      generalize (w2.setCell ⟨j, 2, none⟩ (.int .i64 a)) = w5 at HJ3 HB HK ⊢
      have hpk : pickH a ea b eb = (0, a, ea) := by unfold pickH; rw [if_neg (fun h => h.elim (fun h => absurd h (by have := Q1.out; omega)) Q2.out)]
      have HPK := Aside0.mk hpk
      clear hpk
      have hq2 := HQ.out.symm.trans HPK.out
      injection hq2 with h1_ hq2
      (injection hq2 with h2_ h3_)
      replace HJ3 : Aside0 (IsJn S T B w5 j g s k { D := D, half := hf, age := ag, l := [], e := 0 }) := ⟨by rw [h1_, h2_]; exact HJ3.out⟩
      rw [← h3_]
      clear h1_ h2_ h3_ HPK
  all_goals
    obtain ⟨v5, hv5⟩ := HJ3.out.blk
    have BK5 := Aside0.mk hv5
    clear hv5
    obtain ⟨hcz0, hcz1, hcz2, hcz3, hcz4, hfz0, hfz1, hfz2, hfz3, hfz4⟩ := blk_at5 BK5.out
    clear hcz0 hcz1 hcz3 hcz4 hfz0 hfz1 hfz2 hfz3 hfz4
    by_cases z : ag = 0
    · have z1 : (ag == 0) = true := by simpa using z
      have ZZ := Aside0.mk z
      clear z
      go_wp2
      refine bodyPost_ret (results_none rfl _ _ _) rfl ?_
      have hzz := HZR.out ZZ.out
      rw [hzz.1, hzz.2]
      have hj3 := HJ3.out
      first | exact ⟨S, ⟨_, rfl⟩, hj3, fun _ h => h, HB.out, HK.out⟩ | exact ⟨⟨_, rfl⟩, S, hj3, fun _ h => h, HB.out, HK.out⟩
    · have z1 : (ag == 0) = false := by simpa using z
      have ZZ := Aside0.mk z
      clear z
      have hoo : hf = 0 ∨ hf = 1 := by
        have h_ := HQ.out
        unfold pickH at h_
        split at h_ <;> injection h_ with h_ _ <;> omega
      obtain ⟨sc, hsc⟩ : ∃ x, x = JnS.secs { D := D, half := hf, age := ag, l := [], e := 0 } := ⟨_, rfl⟩
      have FST : Aside0 (∀ W, Below w5.heap.size w5 W → Calls Try.prog 55 #[.pointer (some ⟨j, 0, none⟩), .int .i64 hf] W fun e w' => e = .returned (.int .i64 (hf * sc + 1)) ∧ w' = W) := ⟨fun W hW => by rw [hsc]; exact (HJ3.out.below hW).first hG hf hoo⟩
      have SEC : Aside0 (∀ W, Below w5.heap.size w5 W → Calls Try.prog 78 #[.pointer (some ⟨j, 0, none⟩)] W fun e w' => e = .returned (.int .i64 sc) ∧ w' = W) := ⟨fun W hW => by rw [hsc]; exact (HJ3.out.below hW).sectors hG⟩
      obtain ⟨row0, hrow0, hex0, hex1, htk, hfr, hrr⟩ := HRR0.out ZZ.out
      rw [← hsc] at hrow0
      have hscb : 0 ≤ sc ∧ sc ≤ 100000 := by rw [hsc]; unfold JnS.secs; dsimp only; have := HGG.out.1; have := HGG.out.2.1; omega
      rw [show sc - 1 = wrap64 (sc - 1) from by unfold wrap64; omega] at hrow0
      have HEX := Aside0.mk (show 0 ≤ ex ∧ ex ≤ (row0.length : Int) from ⟨hex0, hex1⟩)
      have HTK := Aside0.mk htk
      have HFR := Aside0.mk hfr
      have HRR := Aside0.mk hrr
      have HSC := Aside0.mk hsc
      have HOO := Aside0.mk hoo
      clear hoo hsc hex0 hex1 htk hfr hrr hscb
      have RD : Aside0 (∀ W, Below w5.heap.size w5 W → Calls Try.prog 17 #[.pointer (some ⟨g, 0, none⟩), .int .i64 (hf * sc + 1), .int .i64 (wrap64 (sc - 1))] W fun e w' => ∃ v er0, e = .returned (.tuple #[v, .int .i64 er0]) ∧ Kd.R (Kd.int .u8) 5 w' W.heap.size (fun _ => True) v row0 ∧ Below W.heap.size W w') := ⟨fun W hW => by
        refine (read_calls S B W g s k D (hf * sc + 1) (wrap64 (sc - 1)) (HJ3.out.below hW).dr hG).mono ?_
        rintro e w' ⟨v, he, ho, hb'⟩
        rw [show (readD D (hf * sc + 1) (wrap64 (sc - 1))).1 = row0 from hrow0] at ho
        exact ⟨v, _, he, ho, hb'⟩⟩
      clear hrow0
      go_upto_region 6 with (fail)
      have HB5 := Aside0.mk (below_drew1 (Below.refl w5.heap.size w5))
      have BKr := Aside0.mk (blk_drew BK5.out)
      refine start_ (n := 19) (S := fun w' => w'.cell? ⟨j, 0, none⟩ = some (.pointer (some ⟨g, 0, none⟩)) ∧ w'.cell? ⟨j, 1, none⟩ = some (.int .i64 hf)) (ds := []) (up ([0, 1, 2, 3, 4, 5, 6, 7, 8, 10, 9, 11, 12, 13, 14, 15, 16, 17, 18]) 19 0) (by kernel_rfl) rfl (by kernel_rfl) ⟨(blk_cell BKr.out 0).trans rfl, (blk_cell BKr.out 1).trans rfl⟩ (fun hHeld => ?_)
      refine with_tabW jread.tab6 jread.bits6 (fun HT_ HW_ => ?_)
      generalize w5.drew = w6 at HB5 BKr hHeld ⊢
      iterate 10 (first | (refine pq_ (v := ?_) (a' := ?_) rfl rfl HT_.out (by kernel_rfl) (fun _ _ _ h => h) (Or.inl ⟨by rfl, ?hy⟩) ?ha ?_; (case hy => intro w'; go_simp; with_reducible rfl); (case ha => show Act.put _ (some _) _ = _; simp only [ap_, sb_, s0_, s1_, i64_w, i32_w]; rfl)) | (refine tq_ (v := ?_) (a' := ?_) rfl rfl HT_.out HW_.out (by kernel_rfl) (fun _ _ _ h => h) (Or.inl ⟨by rfl, ?hy⟩) hHeld ?ha ?_; (case hy => rintro w' ⟨s0_, s1_⟩; go_simp; with_reducible rfl); (case ha => show Act.put _ (some _) _ = _; simp only [ap_, sb_, s0_, s1_, i64_w, i32_w]; rfl)))
      refine oq_ rfl rfl HT_.out (by kernel_rfl) (by decide) (fun K hK => ?_)
      refine goes_ Try.func55 (by kernel_rfl) rfl #[.pointer (some ⟨j, 0, none⟩), .int .i64 hf] (by rfl) rfl rfl (by (try simp only [List.map_toArray, List.map_cons, List.map_nil]); first | done | rfl) ?_
      with_reducible refine (FST.out _ HB5.out).mono ?_
      rintro e w8 ⟨rfl, he⟩
      rw [he]
      clear he w8
      refine ⟨_, rfl, ?_⟩
      refine hK.out _ _ hHeld (fun hHeld => ?_)
      clear hK K
      refine norm_ (a' := ?_) ?_ ?_
      rotate_left
      · show Act.put _ (some 55) _ = _
        simp only [ap_, sb_, s0_, s1_, i64_w, i32_w]
        rfl
      refine oq_ rfl rfl HT_.out (by kernel_rfl) (by decide) (fun K hK => ?_)
      refine goes_ Try.func78 (by kernel_rfl) rfl #[.pointer (some ⟨j, 0, none⟩)] (by rfl) rfl rfl (by (try simp only [List.map_toArray, List.map_cons, List.map_nil]); first | done | rfl) ?_
      with_reducible refine (SEC.out _ HB5.out).mono ?_
      rintro e w8 ⟨rfl, he⟩
      rw [he]
      clear he w8
      refine ⟨_, rfl, ?_⟩
      refine hK.out _ _ hHeld (fun hHeld => ?_)
      clear hK K
      refine norm_ (a' := ?_) ?_ ?_
      rotate_left
      · show Act.put _ (some 57) _ = _
        simp only [ap_, sb_, s0_, s1_, i64_w, i32_w]
        rfl
      iterate 1 (refine pq_ (v := ?_) (a' := ?_) rfl rfl HT_.out (by kernel_rfl) (fun _ _ _ h => h) (Or.inl ⟨by rfl, ?hy⟩) ?ha ?_; (case hy => intro w'; go_simp; with_reducible rfl); (case ha => show Act.put _ (some _) _ = _; simp only [ap_, sb_, s0_, s1_, i64_w, i32_w]; rfl))
      refine oq_ rfl rfl HT_.out (by kernel_rfl) (by decide) (fun K hK => ?_)
      refine goes_ Try.func17 (by kernel_rfl) rfl #[.pointer (some ⟨g, 0, none⟩), .int .i64 (hf * sc + 1), .int .i64 (wrap64 (sc - 1))] (by rfl) rfl rfl (by (try simp only [List.map_toArray, List.map_cons, List.map_nil]); first | done | rfl) ?_
      with_reducible refine (RD.out _ HB5.out).mono ?_
      rintro e w8 ⟨v8, er0, rfl, ho, hb⟩
      refine ⟨_, rfl, ?_⟩
      obtain ⟨A8, c8, hv⟩ := Kd.R_slice ho
      subst hv
      have n_ := pk3 (Kd.R_lower ho HB5.out.size) (blk_below BKr.out hb) (below_step HB5.out hb)
      clear BKr HB5 ho hb
      obtain ⟨HO8, BKr, HB5⟩ := n_
      refine hK.out _ _ ⟨(blk_cell BKr.out 0).trans rfl, (blk_cell BKr.out 1).trans rfl⟩ (fun hHeld => ?_)
      clear hK K
      refine norm_ (a' := ?_) ?_ ?_
      rotate_left
      · show Act.put _ (some 59) _ = _
        simp only [ap_, sb_, s0_, s1_, i64_w, i32_w]
        rfl
      iterate 5 (refine pq_ (v := ?_) (a' := ?_) rfl rfl HT_.out (by kernel_rfl) (fun _ _ _ h => h) (Or.inl ⟨by rfl, ?hy⟩) ?ha ?_; (case hy => intro w'; go_simp; with_reducible rfl); (case ha => show Act.put _ (some _) _ = _; simp only [ap_, sb_, s0_, s1_, i64_w, i32_w]; rfl))
      refine done_ (done_of HT_.out (by kernel_rfl)) ?_
      clear hHeld
      obtain ⟨i0, hi0, _, hsz, _⟩ := info_parts info5
      have hcut := cut_to (P := Try.prog) 30 5 .i64 Try.underlying30 hi0 A8 row0.length c8 ex HEX.out.1 HEX.out.2 (Kd.R_reads' HO8.out).2.1
      have hrl : ex.toNat = row.length := by rw [← HTK.out, List.length_take]; have := HEX.out; omega
      rw [hrl] at hcut
      have hR8 := Kd.R_take (m := ex.toNat) HO8.out (by have := HEX.out; omega)
      rw [HTK.out, hrl] at hR8
      obtain ⟨wz, hwz⟩ : ∃ z, z = w8.heap.size := ⟨_, rfl⟩
      obtain ⟨wy, hwy⟩ : ∃ z, z = w5.heap.size := ⟨_, rfl⟩
      have F8 : Aside0 (Kd.F (Kd.int .u8) w8 (fun k => wy ≤ k ∧ k < wz) A8 row.length row) := ⟨Kd.F_mono (Kd.R_F (Kd.R_bound hR8)) (fun k hk => ⟨by rw [hwy]; exact hk.2.1, by rw [hwz]; exact hk.2.2.1⟩)⟩
      have LC8 : Aside0 (row.length ≤ c8) := ⟨(Kd.R_reads' hR8).2.1⟩
      have hfr5 : ∀ b, wy ≤ b → S b := by rw [hwy]; obtain ⟨_, _, _, _, _, _, _, _, h8⟩ := HJ3.out.dr; exact h8
      have HFR5 := Aside0.mk hfr5
      have HJ8 := Aside0.mk (HJ3.out.below HB5.out)
      have HB8 := Aside0.mk (HB.out.trans (HB5.out.mono (Nat.le_trans HBB.out HB.out.size)))
      have HK8 := Aside0.mk (HK.out.then_ (Kept.of_below HB5.out T) (fun _ h => .inl h))
      have HZ8 := Aside0.mk (Nat.le_of_eq hwz)
      have HWY := Aside0.mk (show wy ≤ wz by rw [hwy, hwz]; exact HB5.out.size)
      have HIS := Aside0.mk (show B ≤ w8.heap.size from Nat.le_trans HBB.out HB8.out.size)
      clear hwz hwy hfr5 hR8 HO8 hrl HB5 BKr HB HK HJ3 BK5 hcz2
      go_wp2
      clear hcut
      go_loopg [] f (fun kq w' => ∃ (S1 : Nat → Prop) (l : List S48) (e : Int), Aside0 (readRow kk fr row kq e l = some (lr, er)) ∧ Aside0 (0 ≤ e ∧ e ≤ (row.length : Int)) ∧ Aside0 (l.length + kq ≤ f) ∧ Aside0 (IsJn S1 T B w' j g s k { D := D, half := hf, age := ag, l := l, e := e }) ∧ Aside0 ((∀ b, S1 b → S b) ∧ ∀ b, wy ≤ b → b < wz → S1 b) ∧ Aside0 (Kd.F (Kd.int .u8) w' (fun k => wy ≤ k ∧ k < wz) A8 row.length row) ∧ Aside0 (Below B w w') ∧ Aside0 (Kept w w' T) ∧ Aside0 (wz ≤ w'.heap.size))
      case atStart => exact ⟨S, [], 0, HRR, ⟨by omega, by omega⟩, ⟨by simp⟩, HJ8, ⟨fun _ h => h, fun b h1 _ => HFR5.out b h1⟩, F8, HB8, HK8, HZ8⟩
      case round =>
        clear F8 HJ8 HB8 HK8 HZ8 HRR
        obtain ⟨S1, l, e, HRR, HE, HLN, HJR, HSS, F8, HBW, HKW, HZW⟩ := hrel
        have HZB := Aside0.mk (show B ≤ wr.heap.size from Nat.le_trans HBB.out HBW.out.size)
        cases gk with
        | zero => exact absurd HRR.out (by simp [readRow])
        | succ k1 =>
        have hrr := HRR.out
        rw [readRow] at hrr
        obtain ⟨⟨nums, texts, n, e9⟩, hfi, hrest⟩ := Option.bind_eq_some_iff.1 hrr
        have HFI := Aside0.mk hfi
        have HREST := Aside0.mk hrest
        clear hrr hfi hrest HRR
        obtain ⟨vl, b1, b2, b3, b4, b5, t1, t2, t3⟩ := HJR.out
        obtain ⟨AL, cL, hvL⟩ := Kd.N_slice b3
        subst hvL
        have BKL := Aside0.mk b1
        have BKL0 := Aside0.mk b1
        have HNL := Aside0.mk b3
        have HNS := Aside0.mk b4
        have HT2 := Aside0.mk t2
        have HT3 := Aside0.mk t3
        have F8R := Aside0.mk F8.out
        clear b1 b2 b3 b4 b5 t1 t2 t3
        obtain ⟨hcz0, hcz1, hcz2, hcz3, hcz4, hfz0, hfz1, hfz2, hfz3, hfz4⟩ := blk_at5 BKL.out
        clear hcz0 hcz1 hcz2 hcz3 hfz0 hfz1 hfz2 hfz3 hfz4
        have hcut := cut_from (P := Try.prog) 30 5 .i64 Try.underlying30 hi0 1 hsz A8 row.length c8 e HE.out.1 HE.out.2
        have hFc := Kd.F_cut (m := e.toNat) (c := c8) F8.out (by have := HE.out; omega) LC8.out
        obtain ⟨L, hL⟩ : ∃ L, L = row.drop e.toNat := ⟨_, rfl⟩
        have hll : row.length - e.toNat = L.length := by rw [hL, List.length_drop]
        rw [hll] at hcut
        rw [← hL] at hFc
        have HLL := Aside0.mk hL
        obtain ⟨A6, hA6⟩ : ∃ A, A = (if c8 = e.toNat then A8 else A8.map (·.add (e.toNat * 1))) := ⟨_, rfl⟩
        obtain ⟨c6, hc6⟩ : ∃ c, c = c8 - e.toNat := ⟨_, rfl⟩
        rw [← hA6, ← hc6] at hcut
        have F6 : Aside0 (Kd.F (Kd.int .u8) wr (fun k => wy ≤ k ∧ k < wz) A6 L.length L) := ⟨by rw [hA6]; exact hFc⟩
        have LC6 : Aside0 (L.length ≤ c6) := ⟨by rw [hc6]; have := LC8.out; omega⟩
        have HFI2 : Aside0 (frame_First.f kk L = some (nums, texts, n, e9)) := ⟨by rw [hL]; exact HFI.out⟩
        clear hFc hA6 hc6 hL hll HFI
        have HBr := Aside0.mk (Below.refl wr.heap.size wr)
        go_upto_region 9 with (first
          | (go_at_call 80; (with_reducible refine (frame_First.calls kk A6 c6 L nums texts n e9 _ (Kd.F_now F6.out) LC6.out HFI2.out).mono ?_); rintro e_ w4 ⟨v4, v5, rfl, ho, ho2, hb⟩; obtain ⟨A4, c4, hv⟩ := Kd.R_slice ho; subst hv; obtain ⟨A5, c5, hv⟩ := Kd.R_slice ho2; subst hv; have n_ := pk7 (Kd.F_mono (ok' := fun k => wr.heap.size ≤ k ∧ k < w4.heap.size) (Kd.R_F (Kd.R_bound ho)) (fun k hk => ⟨hk.2.1, hk.2.2.1⟩)) (Kd.F_mono (ok' := fun k => wr.heap.size ≤ k ∧ k < w4.heap.size) (Kd.R_F (Kd.R_bound ho2)) (fun k hk => ⟨hk.2.1, hk.2.2.1⟩)) (blk_below BKL.out hb) (below_step HBr.out hb) (Kd.R_reads' ho).2.1 (Kd.R_reads' ho2).2.1 (Kd.F_below F8.out hb); clear F8 F6 BKL HBr ho ho2 hb; obtain ⟨F4, F5, BKL, HBr, L4, L5, F8⟩ := n_; obtain ⟨wx, hwx⟩ : ∃ z, z = w4.heap.size := ⟨_, rfl⟩; rw [← hwx] at F4 F5; have HZ := Aside0.mk (show wx = w4.heap.size ∧ wr.heap.size ≤ wx from ⟨hwx, by rw [hwx]; exact HBr.out.size⟩); clear hwx)
          | ((with_reducible refine gate_dst (N := 8) rfl ?_); refine box_ev 8 #[.slice none 0 0, .slice none 0 0] 48 ?_; intro gs hg w7 hbox hb; have n_ := pk8 (Kd.F_below F4.out hb) (Kd.F_below F5.out hb) (Kd.F_below F8.out hb) (blk_below BKL.out hb) (below_step HBr.out hb) hbox (show wx ≤ gs ∧ wr.heap.size ≤ gs ∧ wz ≤ gs from ⟨by have := HZ.out; omega, by have := HZ.out; omega, by have := HZ.out; have := HZW.out; omega⟩) (show j ≠ gs from by have := blk_lt BKL.out; omega); clear F4 F5 F8 BKL HBr hbox hg hb; obtain ⟨F4, F5, F8, BKL, HBr, BKS, GSZ, NJ⟩ := n_; obtain ⟨hcs0, hcs1, hfs0, hfs1⟩ := blk_at2 BKS.out))
        have HNG : Aside0 (∀ k, wr.heap.size ≤ k ∧ k < wx → k ≠ gs) := ⟨fun k hk e => by have := GSZ.out; omega⟩
        have HNG2 : Aside0 (∀ k, wy ≤ k ∧ k < wz → k ≠ gs) := ⟨fun k hk e => by have := GSZ.out; omega⟩
        have n_ := pk6 (F_put2 F8.out HNG2.out (.slice A4 nums.length c4) (.slice A5 texts.length c5)) (F_put2 F4.out HNG.out (.slice A4 nums.length c4) (.slice A5 texts.length c5)) (F_put2 F5.out HNG.out (.slice A4 nums.length c4) (.slice A5 texts.length c5)) (below_put2 HBr.out GSZ.out.2.1 (.slice A4 nums.length c4) (.slice A5 texts.length c5)) (put2_ BKS.out (.slice A4 nums.length c4) (.slice A5 texts.length c5)) (blk_far (p := ⟨gs, 1, none⟩) (blk_far (p := ⟨gs, 0, none⟩) BKL.out NJ.out (.slice A4 nums.length c4)) NJ.out (.slice A5 texts.length c5))
        clear F8 F4 F5 HBr BKS BKL hcs0 hcs1 hfs0 hfs1 hcz4 hcut
        obtain ⟨F8, F4, F5, HBr, BKS, BKL⟩ := n_
        generalize ((w7.setCell ⟨gs, 0, none⟩ (.slice A4 nums.length c4)).setCell ⟨gs, 1, none⟩ (.slice A5 texts.length c5)) = w8_ at F8 F4 F5 HBr BKS BKL ⊢
        have n_ := pk6 (Kd.F_below F8.out (below_drew (Below.refl _ _))) (Kd.F_below F4.out (below_drew (Below.refl _ _))) (Kd.F_below F5.out (below_drew (Below.refl _ _))) (below_drew1 HBr.out) (blk_drew BKS.out) (blk_drew BKL.out)
        clear F8 F4 F5 HBr BKS BKL
        obtain ⟨F8, F4, F5, HBr, BKS, BKL⟩ := n_
        by_cases t0 : e9 = 0
        rotate_left
        · have T0 := Aside0.mk t0
          have q0 : (e9 != 0) = true := by simpa using t0
          clear t0
          refine start_ (n := 20) (S := fun w' => w'.cell? ⟨gs, 0, none⟩ = some (.slice A4 nums.length c4) ∧ w'.cell? ⟨gs, 1, none⟩ = some (.slice A5 texts.length c5) ∧ w'.cell? ⟨j, 2, none⟩ = some (.int .i64 ag)) (ds := []) (up (List.range 20) 20 0) (by kernel_rfl) rfl (by kernel_rfl) ⟨(blk_cell BKS.out 0).trans rfl, (blk_cell BKS.out 1).trans rfl, (blk_cell BKL.out 2).trans rfl⟩ (fun hHeld => ?_)
          refine with_tabW jread.tab9 jread.bits9 (fun HT_ HW_ => ?_)
          generalize w8_.drew = w9 at F8 F4 F5 HBr BKS BKL hHeld ⊢
          iterate 20 (first | (refine pq_ (v := ?_) (a' := ?_) rfl rfl HT_.out (by kernel_rfl) (fun _ _ _ h => h) (Or.inl ⟨by rfl, ?hy⟩) ?ha ?_; (case hy => intro w'; go_simp; with_reducible rfl); (case ha => show Act.put _ (some _) _ = _; simp only [ap_, sb_, s0_, s1_, i64_w, i32_w]; rfl)) | (refine pq_ (v := undef) (a' := ?_) rfl rfl HT_.out (by kernel_rfl) (fun _ _ _ h => h) (Or.inr ⟨by rfl, rfl⟩) ?ha ?_; (case ha => show Act.put _ (some _) _ = _; simp only [ap_, sb_, s0_, s1_, i64_w, i32_w]; rfl)))
          refine done_ (done_of HT_.out (by kernel_rfl)) ?_
          clear hHeld
          go_wp2
          refine bodyPost_ret (results_none rfl _ _ _) rfl ?_
          have hrf := HREST.out
          rw [if_neg (fun h => T0.out h.1)] at hrf
          injection hrf with hrf
          injection hrf with hr1 hr2
          rw [← hr1, ← hr2]
          have hjj := HJR.out.below HBr.out
          first | exact ⟨S1, ⟨_, rfl⟩, hjj, HSS.out.1, HBW.out.trans (HBr.out.mono HZB.out), HKW.out.then_ (Kept.of_below HBr.out T) (fun _ h => .inl h)⟩ | exact ⟨⟨_, rfl⟩, S1, hjj, HSS.out.1, HBW.out.trans (HBr.out.mono HZB.out), HKW.out.then_ (Kept.of_below HBr.out T) (fun _ h => .inl h)⟩
        have T0 := Aside0.mk t0
        have q0 : (e9 != 0) = false := by simpa using t0
        clear t0
        by_cases t1 : texts.length = 0
        · have T1 := Aside0.mk t1
          have q1 : ((texts.length : Int) == 0) = true := beq_iff_eq.2 (by omega)
          clear t1
          refine start_ (n := 20) (S := fun w' => w'.cell? ⟨gs, 0, none⟩ = some (.slice A4 nums.length c4) ∧ w'.cell? ⟨gs, 1, none⟩ = some (.slice A5 texts.length c5) ∧ w'.cell? ⟨j, 2, none⟩ = some (.int .i64 ag)) (ds := []) (up (List.range 20) 20 0) (by kernel_rfl) rfl (by kernel_rfl) ⟨(blk_cell BKS.out 0).trans rfl, (blk_cell BKS.out 1).trans rfl, (blk_cell BKL.out 2).trans rfl⟩ (fun hHeld => ?_)
          refine with_tabW jread.tab9 jread.bits9 (fun HT_ HW_ => ?_)
          generalize w8_.drew = w9 at F8 F4 F5 HBr BKS BKL hHeld ⊢
          iterate 20 (first | (refine pq_ (v := ?_) (a' := ?_) rfl rfl HT_.out (by kernel_rfl) (fun _ _ _ h => h) (Or.inl ⟨by rfl, ?hy⟩) ?ha ?_; (case hy => intro w'; go_simp; with_reducible rfl); (case ha => show Act.put _ (some _) _ = _; simp only [ap_, sb_, s0_, s1_, i64_w, i32_w]; rfl)) | (refine pq_ (v := undef) (a' := ?_) rfl rfl HT_.out (by kernel_rfl) (fun _ _ _ h => h) (Or.inr ⟨by rfl, rfl⟩) ?ha ?_; (case ha => show Act.put _ (some _) _ = _; simp only [ap_, sb_, s0_, s1_, i64_w, i32_w]; rfl)) | (refine tq_ (v := ?_) (a' := ?_) rfl rfl HT_.out HW_.out (by kernel_rfl) (fun _ _ _ h => h) (Or.inl ⟨by rfl, ?hy⟩) hHeld ?ha ?_; (case hy => rintro w' ⟨s0_, s1_, s2_⟩; go_simp; with_reducible rfl); (case ha => show Act.put _ (some _) _ = _; simp only [ap_, sb_, s0_, s1_, i64_w, i32_w]; rfl)))
          refine done_ (done_of HT_.out (by kernel_rfl)) ?_
          clear hHeld
          go_wp2
          refine bodyPost_ret (results_none rfl _ _ _) rfl ?_
          have hrf := HREST.out
          rw [if_neg (fun h => by have h2 : 0 < texts.length := h.2.1; have := T1.out; omega)] at hrf
          injection hrf with hrf
          injection hrf with hr1 hr2
          rw [← hr1, ← hr2]
          have hjj := HJR.out.below HBr.out
          first | exact ⟨S1, ⟨_, rfl⟩, hjj, HSS.out.1, HBW.out.trans (HBr.out.mono HZB.out), HKW.out.then_ (Kept.of_below HBr.out T) (fun _ h => .inl h)⟩ | exact ⟨⟨_, rfl⟩, S1, hjj, HSS.out.1, HBW.out.trans (HBr.out.mono HZB.out), HKW.out.then_ (Kept.of_below HBr.out T) (fun _ h => .inl h)⟩
        have q1 : ((texts.length : Int) == 0) = false := beq_false_of_ne (by omega)
        obtain ⟨ad, eA, y0⟩ := Kd.at_string (Kd.F_now F5.out) 0 (by decide) (by omega)
        rw [show ad.add (0 : Int).toNat = ad from Addr.add_zero' ad] at y0
        have sp := cell_spot y0
        obtain ⟨ab, hab⟩ : ∃ x, x = ad.block := ⟨_, rfl⟩
        obtain ⟨ao, hao⟩ : ∃ x, x = ad.off := ⟨_, rfl⟩
        rw [← hab, ← hao] at sp
        subst sp
        clear hab hao
        subst eA
        obtain ⟨t0, ht0⟩ : ∃ x, x = rdOf ByteArray.empty texts 0 := ⟨_, rfl⟩
        rw [← ht0] at y0
        have TT := Aside0.mk ht0
        have T1 := Aside0.mk t1
        have l0_ : (0 < texts.length) = True := eq_true (by omega)
        have m0_ : ((0 : Int) < (texts.length : Int)) = True := eq_true (by omega)
        clear t1 ht0
        by_cases t2 : t0.toList = fr.toList
        rotate_left
        · have T2 := Aside0.mk t2
          have q2 : (t0.toList == fr.toList) = false := by simpa using t2
          clear t2
          refine start_ (n := 20) (S := fun w' => w'.cell? ⟨gs, 0, none⟩ = some (.slice A4 nums.length c4) ∧ w'.cell? ⟨gs, 1, none⟩ = some (.slice (some ⟨ab, ao, none⟩) texts.length c5) ∧ w'.cell? ⟨j, 2, none⟩ = some (.int .i64 ag) ∧ w'.cell? ⟨ab, ao, none⟩ = some (.string t0)) (ds := []) (up (List.range 20) 20 0) (by kernel_rfl) rfl (by kernel_rfl) ⟨(blk_cell BKS.out 0).trans rfl, (blk_cell BKS.out 1).trans rfl, (blk_cell BKL.out 2).trans rfl, y0⟩ (fun hHeld => ?_)
          refine with_tabW jread.tab9 jread.bits9 (fun HT_ HW_ => ?_)
          generalize w8_.drew = w9 at F8 F4 F5 HBr BKS BKL y0 hHeld ⊢
          iterate 17 (first | (refine pq_ (v := ?_) (a' := ?_) rfl rfl HT_.out (by kernel_rfl) (fun _ _ _ h => h) (Or.inl ⟨by rfl, ?hy⟩) ?ha ?_; (case hy => intro w'; go_simp; with_reducible rfl); (case ha => show Act.put _ (some _) _ = _; simp only [ap_, sb_, s0_, s1_, i64_w, i32_w]; rfl)) | (refine tq_ (v := ?_) (a' := ?_) rfl rfl HT_.out HW_.out (by kernel_rfl) (fun _ _ _ h => h) (Or.inl ⟨by rfl, ?hy⟩) hHeld ?ha ?_; (case hy => rintro w' ⟨s0_, s1_, s2_, s3_⟩; go_simp; with_reducible rfl); (case ha => show Act.put _ (some _) _ = _; simp only [ap_, sb_, s0_, s1_, i64_w, i32_w]; rfl)))
          refine oq_ rfl rfl HT_.out (by kernel_rfl) (by decide) (fun K hK => ?_)
          refine goes_ Try.func77 (by kernel_rfl) rfl #[.int .i64 ag] (by rfl) rfl rfl (by (try simp only [List.map_toArray, List.map_cons, List.map_nil]); first | done | rfl) ?_
          with_reducible refine (journal_four.calls ag fr _ HFR.out).mono ?_
          rintro e_ w10 ⟨rfl, hb⟩
          refine ⟨_, rfl, ?_⟩
          have n_ := pk7 (Kd.F_below F8.out hb) (Kd.F_below F4.out hb) (Kd.F_below F5.out hb) (below_step HBr.out hb) (blk_below BKS.out hb) (blk_below BKL.out hb) ((hb.cell (World.block_lt_of_cell? _ _ y0)).trans y0)
          clear F8 F4 F5 HBr BKS BKL hb y0
          obtain ⟨F8, F4, F5, HBr, BKS, BKL, y0_⟩ := n_
          have y0 := y0_.out
          clear y0_
          refine hK.out _ _ ⟨(blk_cell BKS.out 0).trans rfl, (blk_cell BKS.out 1).trans rfl, (blk_cell BKL.out 2).trans rfl, y0⟩ (fun hHeld => ?_)
          clear hK K
          refine norm_ (a' := ?_) ?_ ?_
          rotate_left
          · show Act.put _ (some 93) _ = _
            simp only [ap_, sb_, s0_, s1_, i64_w, i32_w]
            rfl
          iterate 2 (refine pq_ (v := ?_) (a' := ?_) rfl rfl HT_.out (by kernel_rfl) (fun _ _ _ h => h) (Or.inl ⟨by rfl, ?hy⟩) ?ha ?_; (case hy => intro w'; go_simp; with_reducible rfl); (case ha => show Act.put _ (some _) _ = _; simp only [ap_, sb_, s0_, s1_, i64_w, i32_w]; rfl))
          refine done_ (done_of HT_.out (by kernel_rfl)) ?_
          clear hHeld
          go_wp2
          refine bodyPost_ret (results_none rfl _ _ _) rfl ?_
          have hrf := HREST.out
          rw [if_neg (fun h => T2.out (by rw [TT.out]; exact h.2.2))] at hrf
          injection hrf with hrf
          injection hrf with hr1 hr2
          rw [← hr1, ← hr2]
          have hjj := HJR.out.below HBr.out
          first | exact ⟨S1, ⟨_, rfl⟩, hjj, HSS.out.1, HBW.out.trans (HBr.out.mono HZB.out), HKW.out.then_ (Kept.of_below HBr.out T) (fun _ h => .inl h)⟩ | exact ⟨⟨_, rfl⟩, S1, hjj, HSS.out.1, HBW.out.trans (HBr.out.mono HZB.out), HKW.out.then_ (Kept.of_below HBr.out T) (fun _ h => .inl h)⟩
        have T2 := Aside0.mk t2
        have q2 : (t0.toList == fr.toList) = true := by simpa using t2
        clear t2
        refine start_ (n := 20) (S := fun w' => w'.cell? ⟨gs, 0, none⟩ = some (.slice A4 nums.length c4) ∧ w'.cell? ⟨gs, 1, none⟩ = some (.slice (some ⟨ab, ao, none⟩) texts.length c5) ∧ w'.cell? ⟨j, 2, none⟩ = some (.int .i64 ag) ∧ w'.cell? ⟨ab, ao, none⟩ = some (.string t0)) (ds := []) (up (List.range 20) 20 0) (by kernel_rfl) rfl (by kernel_rfl) ⟨(blk_cell BKS.out 0).trans rfl, (blk_cell BKS.out 1).trans rfl, (blk_cell BKL.out 2).trans rfl, y0⟩ (fun hHeld => ?_)
        refine with_tabW jread.tab9 jread.bits9 (fun HT_ HW_ => ?_)
        generalize w8_.drew = w9 at F8 F4 F5 HBr BKS BKL y0 hHeld ⊢
        iterate 17 (first | (refine pq_ (v := ?_) (a' := ?_) rfl rfl HT_.out (by kernel_rfl) (fun _ _ _ h => h) (Or.inl ⟨by rfl, ?hy⟩) ?ha ?_; (case hy => intro w'; go_simp; with_reducible rfl); (case ha => show Act.put _ (some _) _ = _; simp only [ap_, sb_, s0_, s1_, i64_w, i32_w]; rfl)) | (refine tq_ (v := ?_) (a' := ?_) rfl rfl HT_.out HW_.out (by kernel_rfl) (fun _ _ _ h => h) (Or.inl ⟨by rfl, ?hy⟩) hHeld ?ha ?_; (case hy => rintro w' ⟨s0_, s1_, s2_, s3_⟩; go_simp; with_reducible rfl); (case ha => show Act.put _ (some _) _ = _; simp only [ap_, sb_, s0_, s1_, i64_w, i32_w]; rfl)))
        refine oq_ rfl rfl HT_.out (by kernel_rfl) (by decide) (fun K hK => ?_)
        refine goes_ Try.func77 (by kernel_rfl) rfl #[.int .i64 ag] (by rfl) rfl rfl (by (try simp only [List.map_toArray, List.map_cons, List.map_nil]); first | done | rfl) ?_
        with_reducible refine (journal_four.calls ag fr _ HFR.out).mono ?_
        rintro e_ w10 ⟨rfl, hb⟩
        refine ⟨_, rfl, ?_⟩
        have n_ := pk7 (Kd.F_below F8.out hb) (Kd.F_below F4.out hb) (Kd.F_below F5.out hb) (below_step HBr.out hb) (blk_below BKS.out hb) (blk_below BKL.out hb) ((hb.cell (World.block_lt_of_cell? _ _ y0)).trans y0)
        clear F8 F4 F5 HBr BKS BKL hb y0
        obtain ⟨F8, F4, F5, HBr, BKS, BKL, y0_⟩ := n_
        have y0 := y0_.out
        clear y0_
        refine hK.out _ _ ⟨(blk_cell BKS.out 0).trans rfl, (blk_cell BKS.out 1).trans rfl, (blk_cell BKL.out 2).trans rfl, y0⟩ (fun hHeld => ?_)
        clear hK K
        refine norm_ (a' := ?_) ?_ ?_
        rotate_left
        · show Act.put _ (some 93) _ = _
          simp only [ap_, sb_, s0_, s1_, i64_w, i32_w]
          rfl
        iterate 2 (refine pq_ (v := ?_) (a' := ?_) rfl rfl HT_.out (by kernel_rfl) (fun _ _ _ h => h) (Or.inl ⟨by rfl, ?hy⟩) ?ha ?_; (case hy => intro w'; go_simp; with_reducible rfl); (case ha => show Act.put _ (some _) _ = _; simp only [ap_, sb_, s0_, s1_, i64_w, i32_w]; rfl))
        refine done_ (done_of HT_.out (by kernel_rfl)) ?_
        clear hHeld
        obtain ⟨i9, hi9, _, hsz9, _⟩ := info_parts info9
        have hcut := cut_from (P := Try.prog) 46 9 .i64 Try.underlying46 hi9 1 hsz9 (some ⟨ab, ao, none⟩) texts.length c5 1 (by decide) (by have := T1.out; omega)
        have hFc := Kd.F_cut (m := (1 : Int).toNat) (c := c5) F5.out (by have := T1.out; simp; omega) L5.out
        obtain ⟨tx, htx⟩ : ∃ L, L = texts.drop (1 : Int).toNat := ⟨_, rfl⟩
        have hll : texts.length - (1 : Int).toNat = tx.length := by rw [htx, List.length_drop]
        rw [hll] at hcut
        rw [← htx] at hFc
        have HTX := Aside0.mk htx
        obtain ⟨A7, hA7⟩ : ∃ A, A = (if c5 = (1 : Int).toNat then some ⟨ab, ao, none⟩ else (some (⟨ab, ao, none⟩ : Addr)).map (·.add ((1 : Int).toNat * 1))) := ⟨_, rfl⟩
        obtain ⟨c7, hc7⟩ : ∃ c, c = c5 - (1 : Int).toNat := ⟨_, rfl⟩
        rw [← hA7, ← hc7] at hcut
        have F7 : Aside0 (Kd.F Kd.string w10 (fun k => wr.heap.size ≤ k ∧ k < wx) A7 tx.length tx) := ⟨by rw [hA7]; exact hFc⟩
        have L7 : Aside0 (tx.length ≤ c7) := ⟨by rw [hc7]; have := L5.out; omega⟩
        clear hFc hA7 hc7 hll htx y0 F5
        obtain ⟨hcz0, hcz1, hcz2, hcz3, hcz4, hfz0, hfz1, hfz2, hfz3, hfz4⟩ := blk_at5 BKL.out
        clear hcz0 hcz1 hcz2 hcz3 hcz4 hfz0 hfz1 hfz2 hfz3 hfz4
        go_upto_region 10 with (fail)
        have n_ := pk6 (Kd.F_below F8.out (below_drew (Below.refl _ _))) (Kd.F_below F4.out (below_drew (Below.refl _ _))) (Kd.F_below F7.out (below_drew (Below.refl _ _))) (below_drew1 HBr.out) (blk_drew BKS.out) (blk_drew BKL.out)
        clear F8 F4 F7 HBr BKS BKL
        obtain ⟨F8, F4, F7, HBr, BKS, BKL⟩ := n_
        refine start_ (n := 16) (S := fun w' => w'.cell? ⟨j, 3, none⟩ = some (.slice AL l.length cL) ∧ w'.cell? ⟨gs, 0, none⟩ = some (.slice A4 nums.length c4) ∧ w'.cell? ⟨gs, 1, none⟩ = some (.slice (some ⟨ab, ao, none⟩) texts.length c5)) (ds := [15]) (up (List.range 16) 16 0) (by kernel_rfl) rfl (by kernel_rfl) ⟨(blk_cell BKL.out 3).trans rfl, (blk_cell BKS.out 0).trans rfl, (blk_cell BKS.out 1).trans rfl⟩ (fun hHeld => ?_)
        refine with_tabW jread.tab10 jread.bits10 (fun HT_ HW_ => ?_)
        generalize w10.drew = wA at F8 F4 F7 HBr BKS BKL hHeld ⊢
        iterate 11 (first | (refine pq_ (v := ?_) (a' := ?_) rfl rfl HT_.out (by kernel_rfl) (fun _ _ _ h => h) (Or.inl ⟨by rfl, ?hy⟩) ?ha ?_; (case hy => intro w'; go_simp; with_reducible rfl); (case ha => show Act.put _ (some _) _ = _; simp only [ap_, sb_, s0_, s1_, i64_w, i32_w]; rfl)) | (refine tq_ (v := ?_) (a' := ?_) rfl rfl HT_.out HW_.out (by kernel_rfl) (fun _ _ _ h => h) (Or.inl ⟨by rfl, ?hy⟩) hHeld ?ha ?_; (case hy => rintro w' ⟨s0_, s1_, s2_⟩; go_simp; with_reducible rfl); (case ha => show Act.put _ (some _) _ = _; simp only [ap_, sb_, s0_, s1_, i64_w, i32_w]; rfl)))
        refine oq_ rfl rfl HT_.out (by kernel_rfl) (by decide) (fun K hK => ?_)
        refine Kd.N_lit_step k48 (w0 := wA) wA.heap.size 48 (by rfl) (N' := 107) rfl (xs := [(⟨nums, tx⟩ : S48)]) (inner := [.slice A4 nums.length c4, .slice A7 tx.length c7]) (ok := fun b => wr.heap.size ≤ b) (okp := fun b => wr.heap.size ≤ b ∧ b < wx) ?hr (Reps.c2 (show Kd.FK k48 wA (fun b => wr.heap.size ≤ b ∧ b < wx) ⟨nums, tx⟩ [.slice A4 nums.length c4, .slice A7 tx.length c7] from k48_mkF _ _ ⟨nums, tx⟩ L4.out F4.out L7.out F7.out) (Reps.none _ _)) (fun _ h => h.1) HBr.out.size (Below.refl _ _) (Nat.le_refl _) (by simp) ?_
        (case hr => first | (go_simp; done) | (go_simp; rfl))
        intro v17 w17 ho hb hg_ hat_
        clear hg_ hat_
        obtain ⟨A17, c17, hv⟩ := Kd.N_slice ho
        subst hv
        have n_ := pk6 ho (Kd.F_below F8.out hb) (below_step HBr.out hb) (blk_below BKS.out hb) (blk_below BKL.out hb) hb.size
        clear F8 F4 F7 HBr BKS BKL ho hb
        obtain ⟨HO17, F8, HBr, BKS, BKL, HSZ⟩ := n_
        refine hK.out _ _ ⟨(blk_cell BKL.out 3).trans rfl, (blk_cell BKS.out 0).trans rfl, (blk_cell BKS.out 1).trans rfl⟩ (fun hHeld => ?_)
        clear hK K
        refine norm_ (a' := ?_) ?_ ?_
        rotate_left
        · show Act.put _ (some 107) _ = _
          simp only [ap_, sb_, s0_, s1_, i64_w, i32_w]
          rfl
        refine oq_ rfl rfl HT_.out (by kernel_rfl) (by decide) (fun K hK => ?_)
        refine Kd.N_append_rows_step k48 (w0 := w) B (by rfl) (.tmp 100) (.tmp 107) 49 48 (.agg #[.slice none 0 0, .slice none 0 0]) 48 rfl Try.underlying49 info48 rfl (by decide) (by omega) (.slice AL l.length cL) l [(⟨nums, tx⟩ : S48)] _ _ _ (fun b => (¬ S1 b ∧ b ≠ j) ∨ wr.heap.size ≤ b) (fun b => wr.heap.size ≤ b) rfl rfl ?aO ?aR ?aP ?aF ?aB ?aS ?aL ?_
        (case aO => exact Kd.N_mono (Kd.N_below HNL.out HBr.out) (fun k hk => .inl hk))
        (case aR => exact Kd.N_F HO17.out)
        (case aP => exact fun k hk => ⟨.inr hk, fun e => by have := Kd.N_lt HNL.out k e.symm; omega⟩)
        (case aF => exact fun k hk => .inr (Nat.le_trans HBr.out.size hk))
        (case aB => exact HBW.out.trans (HBr.out.mono HZB.out))
        (case aS => exact Nat.le_trans HZB.out HBr.out.size)
        (case aL => have := HLN.out; have := HF0.out; simp; omega)
        intro v97 w19 ho hb hg hat
        obtain ⟨A19, c19, hv⟩ := Kd.N_slice ho
        rw [show (l ++ [(⟨nums, tx⟩ : S48)]).length = l.length + 1 from by simp] at hv
        subst hv
        have hjn : some j ≠ (Value.slice AL l.length cL).ownBlock := Kd.N_ne HNL.out BKL0.out (by decide)
        have hgn : some gs ≠ (Value.slice AL l.length cL).ownBlock := fun e => by have := Kd.N_lt HNL.out gs e.symm; have := GSZ.out; omega
        have n_ := pk5 ho hb ((hg.block j (blk_lt BKL.out) hjn).trans BKL.out) ((hg.block gs (blk_lt BKS.out) hgn).trans BKS.out) (show ∀ q, q < wr.heap.size → some q ≠ (Value.slice AL l.length cL).ownBlock → w19.heap[q]? = wr.heap[q]? from fun q hq hn_ => (hg.block q (Nat.lt_of_lt_of_le hq HBr.out.size) hn_).trans (HBr.out.block q hq))
        have HSZ19 := Aside0.mk (Nat.le_trans HBr.out.size hg.size)
        have HAT2 := Aside0.mk hat
        have HSZr := Aside0.mk HBr.out.size
        clear HO17 F8 HBr BKL BKS ho hb hg hat
        obtain ⟨HN19, HB19, BKL, BKS, HQ9⟩ := n_
        refine hK.out _ _ ⟨(blk_cell BKL.out 3).trans rfl, (blk_cell BKS.out 0).trans rfl, (blk_cell BKS.out 1).trans rfl⟩ (fun hHeld => ?_)
        clear hK K
        refine norm_ (a' := ?_) ?_ ?_
        rotate_left
        · show Act.put _ (some 108) _ = _
          simp only [ap_, sb_, s0_, s1_, i64_w, i32_w]
          rfl
        iterate 2 (refine pq_ (v := ?_) (a' := ?_) rfl rfl HT_.out (by kernel_rfl) (fun _ _ _ h => h) (Or.inl ⟨by rfl, ?hy⟩) ?ha ?_; (case hy => intro w'; go_simp; with_reducible rfl); (case ha => show Act.put _ (some _) _ = _; simp only [ap_, sb_, s0_, s1_, i64_w, i32_w]; rfl))
        refine lq_ rfl rfl HT_.out (by kernel_rfl) (by decide) (fun K hK => ?_)
        have hs_ : w19.cell? ⟨j, 3, none⟩ = some (.slice AL l.length cL) := (blk_cell BKL.out 3).trans rfl
        have hfs_ := blk_frozen BKL.out 3
        refine skip_ (w1 := ?_) (by rfl) rfl ?_ ?_
        rotate_left
        · go_simp
          rfl
        have n_ := pk4 (Kd.N_far (p := ⟨j, 3, none⟩) (Kd.N_mono (ok' := fun k => ((¬ S1 k ∧ k ≠ j) ∨ wr.heap.size ≤ k) ∧ k < w19.heap.size) (Kd.N_bound HN19.out) (fun k hk => hk)) (fun k hk e => by rcases hk.1 with h | h; exact h.2 e; have := blk_lt BKL0.out; have e2 : k = j := e; omega) (.slice A19 (l.length + 1) c19)) (show (w19.setCell ⟨j, 3, none⟩ (.slice A19 (l.length + 1) c19)).heap[j]? = some (.cells #[.pointer (some ⟨g, 0, none⟩), .int .i64 hf, .int .i64 ag, .slice A19 (l.length + 1) c19, .int .i64 e] 54 (0, 0)) from blk_put (cs := #[.pointer (some ⟨g, 0, none⟩), .int .i64 hf, .int .i64 ag, .slice AL l.length cL, .int .i64 e]) BKL.out 3 (.slice A19 (l.length + 1) c19) rfl) (show ∀ q, q < wr.heap.size → some q ≠ (Value.slice AL l.length cL).ownBlock → q ≠ j → (w19.setCell ⟨j, 3, none⟩ (.slice A19 (l.length + 1) c19)).heap[q]? = wr.heap[q]? from fun q hq hn_ hj_ => (Below.heap_setCell _ ⟨j, 3, none⟩ _ q hj_).trans (HQ9.out q hq hn_)) (HB19.out.setCell (p := ⟨j, 3, none⟩) HBJ.out (.slice A19 (l.length + 1) c19))
        have HSZ20 : Aside0 (w19.heap.size = (w19.setCell ⟨j, 3, none⟩ (.slice A19 (l.length + 1) c19)).heap.size) := ⟨by simp⟩
        clear HN19 BKL BKS HQ9 HB19 hs_ hfs_
        obtain ⟨HN20, BKj, HQ, HB20⟩ := n_
        generalize (w19.setCell ⟨j, 3, none⟩ (.slice A19 (l.length + 1) c19)) = w20 at HN20 BKj HQ HB20 HSZ20 ⊢
        refine hK.out _ _ ?_
        clear hK K
        refine done_ (done_of HT_.out (by kernel_rfl)) ?_
        obtain ⟨hcz0, hcz1, hcz2, hcz3, hcz4, hfz0, hfz1, hfz2, hfz3, hfz4⟩ := blk_at5 BKj.out
        clear hcz0 hcz1 hcz2 hcz3 hfz0 hfz1 hfz2 hfz3 hcut
        have hn9 := HFT.out e.toNat (nums, texts, n, e9) (by rw [← HLL.out]; exact HFI2.out) T0.out
        have hne : 0 ≤ n ∧ e + n ≤ (row.length : Int) := by
          have h1 := hn9.1
          have h2 : n ≤ ((row.drop e.toNat).length : Int) := hn9.2
          rw [List.length_drop] at h2
          have h3 := HE.out
          exact ⟨h1, by omega⟩
        have HNE := Aside0.mk hne
        have hwe : wrap64 (e + n) = e + n := by have h1 := HE.out; have h2 := HRL.out; unfold wrap64; omega
        have HWE := Aside0.mk hwe
        clear hn9 hne hwe
        go_wp2
        go_roundg k1
        case measure => omega
        case rel =>
          rw [HWE.out]
          have hsz : wr.heap.size ≤ w20.heap.size := by have := HSZ20.out; have := HSZ19.out; omega
          have hown : ∀ b, S1 b → some b ≠ (Value.slice AL l.length cL).ownBlock := fun b hS e => (HNL.out.1 b e.symm).1 hS
          have hbj := blk_put (cs := #[.pointer (some ⟨g, 0, none⟩), .int .i64 hf, .int .i64 ag, .slice A19 (l.length + 1) c19, .int .i64 e]) (cs' := #[.pointer (some ⟨g, 0, none⟩), .int .i64 hf, .int .i64 ag, .slice A19 (l.length + 1) c19, .int .i64 (e + n)]) BKj.out 4 (.int .i64 (e + n)) rfl
          have hq2 : ∀ q, q < wr.heap.size → some q ≠ (Value.slice AL l.length cL).ownBlock → q ≠ j → (w20.setCell ⟨j, 4, none⟩ (.int .i64 (e + n))).heap[q]? = wr.heap[q]? := fun q hq hn_ hj_ => (Below.heap_setCell _ ⟨j, 4, none⟩ _ q hj_).trans (HQ.out q hq hn_ hj_)
          have hn2 := Kd.N_far (p := ⟨j, 4, none⟩) HN20.out (fun k hk e => by rcases hk.1 with h | h; exact h.2 e; have := blk_lt BKL0.out; have e2 : k = j := e; omega) (.int .i64 (e + n))
          have hb2 := HB20.out.setCell (p := ⟨j, 4, none⟩) HBJ.out (.int .i64 (e + n))
          have hs2 : w20.heap.size = (w20.setCell ⟨j, 4, none⟩ (.int .i64 (e + n))).heap.size := by simp
          generalize (w20.setCell ⟨j, 4, none⟩ (.int .i64 (e + n))) = wF at hbj hq2 hn2 hb2 hs2 ⊢
          have hfr : ∀ b, wr.heap.size ≤ b → S1 b := by obtain ⟨_, _, _, _, _, _, _, _, h8⟩ := HJR.out.dr; exact h8
          have hdr := HJR.out.dr.apart_ (W := wF) (fun b hS hlt => hq2 b hlt (hown b hS) (fun e => HNS.out (e ▸ hS))) (by omega)
          refine ⟨fun b => S1 b ∧ ¬ (wr.heap.size ≤ b ∧ b < wF.heap.size), l ++ [⟨nums, tx⟩], e + n, ⟨?_⟩, ⟨by have := HE.out; have := HNE.out; omega⟩, ⟨by have := HLN.out; simp; omega⟩, ⟨?_⟩, ⟨fun b h => HSS.out.1 b h.1, fun b h1 h2 => ⟨HSS.out.2 b h1 h2, fun h => by have := HZW.out; omega⟩⟩, ⟨?_⟩, ⟨hb2⟩, ⟨?_⟩, ⟨by have := HZW.out; omega⟩⟩
          · have hrf := HREST.out
            rw [if_pos (show e9 = 0 ∧ 0 < texts.length ∧ (rdOf ByteArray.empty texts 0).toList = fr.toList from ⟨T0.out, Nat.pos_of_ne_zero T1.out, by rw [← TT.out]; exact T2.out⟩)] at hrf
            rw [HTX.out]
            exact hrf
          · refine ⟨_, hbj, hdr, ?_, fun hS => HNS.out hS.1, HBJ.out, HTJ.out, fun b hv => ?_, fun b hS => HT3.out b hS.1⟩
            · refine Kd.N_mono hn2 (fun b hb' => ?_)
              rcases hb'.1 with h | h
              · exact ⟨fun hS => h.1 hS.1, h.2⟩
              · have h1 := hb'.2
                have h2 := HSZ20.out
                have h3 := blk_lt BKL0.out
                exact ⟨fun hS => hS.2 ⟨h, by omega⟩, by omega⟩
            · rcases HAT2.out with h | ⟨q, h, hq⟩
              · exact HT2.out b (h.symm.trans hv)
              · have e_ : q = b := Option.some.inj (h.symm.trans hv)
                subst e_
                exact HT3.out q (hfr q (Nat.le_trans HSZr.out hq))
          · exact Kd.F_step F8R.out (fun k hk hlt => hq2 k hlt (hown k (HSS.out.2 k hk.1 hk.2)) (fun e => HNS.out (e ▸ HSS.out.2 k hk.1 hk.2)))
          · exact HKW.out.then_ (show Kept wr wF T from ⟨by omega, fun b hlt hT => hq2 b hlt (fun e => hT (HT2.out b e.symm)) (fun e => hT (e ▸ HTJ.out))⟩) (fun _ h => .inl h)
end Go.Proofs.Ytfmdllbkfpbdcaa.G
end
section
namespace Go.Proofs.Ytfmdllbkfpbdcaa.G
open Go Go.RowKit Go.Proofs.YtfmdllbkfpbdcaaX Go.Proofs.YtfmdllbkfpbdcaaW.PrintWords Go.Proofs.YtfmdllbkfpbdcaaW.PrintLast Go.Proofs.YtfmdllbkfpbdcaaW.PrintMore
def secsD (D : DrumS) : Int := ((D.seen.length / 64 / 2 : Nat) : Int)
def headOf (kk : Nat) (D : DrumS) (half : Int) : Option (Int × Int) :=
  (frame_First.f kk (readD D (half * secsD D) 1).1).map fun z => headV (64 * (secsD D - 1)) (readD D (half * secsD D) 1).1 z.1 z.2.1 z.2.2.1 z.2.2.2
def loadOf (kk f : Nat) (D : DrumS) : Option JnS :=
  (headOf kk D 0).bind fun a => (headOf kk D 1).bind fun b =>
    if (pickH a.1 a.2 b.1 b.2).2.1 = 0 then some { D := D, half := (pickH a.1 a.2 b.1 b.2).1, age := 0, l := [], e := 0 }
    else (journal_four.f (pickH a.1 a.2 b.1 b.2).2.1).bind fun fr =>
      (readRow kk fr ((readD D ((pickH a.1 a.2 b.1 b.2).1 * secsD D + 1) (secsD D - 1)).1.take (pickH a.1 a.2 b.1 b.2).2.2.toNat) f 0 []).map fun r =>
        { D := D, half := (pickH a.1 a.2 b.1 b.2).1, age := (pickH a.1 a.2 b.1 b.2).2.1, l := r.1, e := r.2 }
def Firsts (kk : Nat) (D : DrumS) : Prop := ∀ l z, (∀ x ∈ l, x ∈ D.seen) → l.length ≤ D.seen.length → frame_First.f kk l = some z → z.2.2.2 = 0 → 0 ≤ z.2.2.1 ∧ z.2.2.1 ≤ l.length
theorem readD_mem (D : DrumS) (at_ n : Int) : (∀ x ∈ (readD D at_ n).1, x ∈ D.seen) ∧ (readD D at_ n).1.length ≤ D.seen.length := by
  unfold readD
  split
  · exact ⟨fun x hx => by simp at hx, by simp⟩
  · split
    · exact ⟨fun x hx => by simp at hx, by simp⟩
    · split
      · exact ⟨fun x hx => by simp at hx, by simp⟩
      · exact ⟨fun x hx => List.mem_of_mem_take (List.mem_of_mem_drop hx), by simp only [List.length_drop, List.length_take]; omega⟩
theorem headV_in {room : Int} {b nums : List Int} {texts : List ByteArray} {n er : Int} (hr : 0 ≤ room) : 0 ≤ (headV room b nums texts n er).1 ∧ (headV room b nums texts n er).1 ≤ 2147483647 ∧ 0 ≤ (headV room b nums texts n er).2 ∧ (headV room b nums texts n er).2 ≤ room := by
  unfold headV
  split
  · rename_i h
    unfold headOk at h
    simp only [Bool.and_eq_true, decide_eq_true_eq] at h
    exact ⟨by have := h.1.1.1.1.2; omega, h.1.1.1.2, h.1.1.2, h.1.2⟩
  · exact ⟨by decide, by decide, by decide, hr⟩
theorem headOf_in {kk : Nat} {D : DrumS} {half : Int} {a : Int × Int} (h : headOf kk D half = some a) (hr : 1 ≤ secsD D) : 0 ≤ a.1 ∧ a.1 ≤ 2147483647 ∧ 0 ≤ a.2 ∧ a.2 ≤ 64 * (secsD D - 1) := by
  unfold headOf at h
  obtain ⟨z, _, h⟩ := Option.map_eq_some_iff.1 h
  rw [← h]
  exact headV_in (by omega)
theorem pickH_in (a b : Int × Int) : ((pickH a.1 a.2 b.1 b.2).1 = 0 ∨ (pickH a.1 a.2 b.1 b.2).1 = 1) ∧ ((pickH a.1 a.2 b.1 b.2).2 = a ∨ (pickH a.1 a.2 b.1 b.2).2 = b) := by
  unfold pickH
  split
  · exact ⟨.inr rfl, .inr rfl⟩
  · exact ⟨.inl rfl, .inl rfl⟩
theorem loadOf_in {kk f : Nat} {D : DrumS} {J : JnS} (h : loadOf kk f D = some J) (hr : 1 ≤ secsD D) : J.D = D ∧ (J.half = 0 ∨ J.half = 1) ∧ 0 ≤ J.age ∧ J.age ≤ 2147483647 := by
  unfold loadOf at h
  obtain ⟨a, ha, h⟩ := Option.bind_eq_some_iff.1 h
  obtain ⟨b, hb, h⟩ := Option.bind_eq_some_iff.1 h
  have h1 := headOf_in ha hr
  have h2 := headOf_in hb hr
  obtain ⟨p1, p2⟩ := pickH_in a b
  have hp : 0 ≤ (pickH a.1 a.2 b.1 b.2).2.1 ∧ (pickH a.1 a.2 b.1 b.2).2.1 ≤ 2147483647 := by rcases p2 with e | e <;> rw [e] <;> omega
  split at h
  · injection h with h
    rw [← h]
    exact ⟨rfl, p1, (by show (0 : Int) ≤ 0; decide), (by show (0 : Int) ≤ 2147483647; decide)⟩
  · obtain ⟨fr, _, h⟩ := Option.bind_eq_some_iff.1 h
    obtain ⟨r, _, h⟩ := Option.map_eq_some_iff.1 h
    rw [← h]
    exact ⟨rfl, p1, hp.1, hp.2⟩
theorem readD_ok {D : DrumS} (hG : D.Good) {at_ n : Int} (h0 : 0 ≤ at_) (h1 : 0 ≤ n) (h2 : at_ + n ≤ (D.seen.length / 64 : Nat)) : ((readD D at_ n).1.length : Int) = 64 * n ∧ (readD D at_ n).2 = 0 := by
  unfold readD
  rw [if_neg (by omega)]
  have hb : hasB ((D.seen.length / 64 : Nat) : Int) at_ n = true := by unfold hasB; simp; omega
  rw [if_neg (by rw [hb]; decide)]
  split
  · rename_i e
    subst e
    exact ⟨by simp, rfl⟩
  · refine ⟨?_, rfl⟩
    simp only [List.length_drop, List.length_take]
    omega
set_option maxHeartbeats 4000000 in
theorem IsJn.load {S T : Nat → Prop} {B : Nat} {w : World} {j g s k : Nat} {D : DrumS} {J : JnS} (kk f : Nat) (h : IsJn S T B w j g s k { D := D, half := 0, age := 0, l := [], e := 0 }) (hB : B ≤ w.heap.size) (hG : D.Good) (hs : 1 ≤ secsD D) (hf0 : f ≤ 1000000) (hft : Firsts kk D) (hl : loadOf kk f D = some J) :
    Calls Try.prog 58 #[.pointer (some ⟨j, 0, none⟩)] w fun e w' => ∃ S', (∃ v, e = .returned v) ∧ IsJn S' T B w' j g s k J ∧ (∀ b, S' b → S b) ∧ Below B w w' ∧ Kept w w' T := by
  have hin := loadOf_in hl hs
  unfold loadOf at hl
  obtain ⟨a, ha, hl⟩ := Option.bind_eq_some_iff.1 hl
  obtain ⟨b, hb, hl⟩ := Option.bind_eq_some_iff.1 hl
  have h1 := headOf_in ha hs
  have h2 := headOf_in hb hs
  have hlen : ∀ half : Int, half = 0 ∨ half = 1 → ((readD D (half * secsD D) 1).1.length : Int) = 64 ∧ ((readD D (half * secsD D + 1) (secsD D - 1)).1.length : Int) = 64 * (secsD D - 1) := by
    intro half hh
    have hsd : 2 * secsD D ≤ (D.seen.length / 64 : Nat) := by unfold secsD; omega
    rcases hh with e | e
    · subst e
      exact ⟨by simpa using (readD_ok hG (at_ := 0 * secsD D) (n := 1) (by omega) (by omega) (by omega)).1, (readD_ok hG (at_ := 0 * secsD D + 1) (n := secsD D - 1) (by omega) (by omega) (by omega)).1⟩
    · subst e
      exact ⟨by simpa using (readD_ok hG (at_ := 1 * secsD D) (n := 1) (by omega) (by omega) (by omega)).1, (readD_ok hG (at_ := 1 * secsD D + 1) (n := secsD D - 1) (by omega) (by omega) (by omega)).1⟩
  have hhead : ∀ half : Int, half = 0 ∨ half = 1 → ∀ x, headOf kk D half = some x → ∀ W, Below w.heap.size w W → Calls Try.prog 79 #[.pointer (some ⟨j, 0, none⟩), .int .i64 half] W fun e w' => e = .returned (.tuple #[.int .i64 x.1, .int .i64 x.2]) ∧ Below W.heap.size W w' := by
    intro half hh x hx W hW
    unfold headOf at hx
    obtain ⟨z, hz, hx⟩ := Option.map_eq_some_iff.1 hx
    obtain ⟨z1, z2, z3, z4⟩ := z
    have := (h.below hW).head kk half _ z1 z2 z3 z4 hG hh rfl hz (by have := (hlen half hh).1; show ((readD D (half * secsD D) 1).1.length) < _; omega) (fun e => hft _ _ (readD_mem D _ _).1 (readD_mem D _ _).2 hz e)
    rw [← hx]
    exact this
  obtain ⟨p1, p2⟩ := pickH_in a b
  generalize hp : pickH a.1 a.2 b.1 b.2 = p at hl p1 p2
  obtain ⟨hf, ag, ex⟩ := p
  by_cases z : ag = 0
  · subst z
    rw [if_pos rfl] at hl
    injection hl with hl
    rw [← hl]
    exact IsJn.read kk 0 a.1 a.2 b.1 b.2 hf 0 ex [] [] 0 ByteArray.empty h hB hG (hhead 0 (.inl rfl) a ha) (hhead 1 (.inr rfl) b hb) hp (fun _ => ⟨rfl, rfl⟩) (fun h => absurd rfl h) (by decide) (by decide) (fun e z h1 h2 => hft _ z (fun x hx => by simp at hx) (by simp) h1 h2)
  · rw [if_neg z] at hl
    obtain ⟨fr, hfr, hl⟩ := Option.bind_eq_some_iff.1 hl
    obtain ⟨r, hr, hl⟩ := Option.map_eq_some_iff.1 hl
    rw [← hl]
    have hx := (hlen hf p1).2
    have hex : 0 ≤ ex ∧ ex ≤ 64 * (secsD D - 1) := by
      rcases p2 with e | e
      · have : ex = a.2 := congrArg Prod.snd e
        omega
      · have : ex = b.2 := congrArg Prod.snd e
        omega
    have hrl : ((readD D (hf * secsD D + 1) (secsD D - 1)).1.take ex.toNat).length ≤ 100000000 := Nat.le_trans (List.length_take_le' _ _) (by have h3 := hG.1; have h4 := hG.2.1; have h5 : 2 * secsD D ≤ (D.seen.length / 64 : Nat) := (by unfold secsD; omega); omega)
    have hfts : ∀ e : Nat, ∀ z, frame_First.f kk (((readD D (hf * secsD D + 1) (secsD D - 1)).1.take ex.toNat).drop e) = some z → z.2.2.2 = 0 → 0 ≤ z.2.2.1 ∧ z.2.2.1 ≤ (((readD D (hf * secsD D + 1) (secsD D - 1)).1.take ex.toNat).drop e).length := fun e z h1 h2 => by
      have hm := readD_mem D (hf * secsD D + 1) (secsD D - 1)
      refine hft _ z (fun x hx => hm.1 x (List.mem_of_mem_take (List.mem_of_mem_drop hx))) ?_ h1 h2
      rw [List.length_drop]
      have h3 := List.length_take_le' ex.toNat (readD D (hf * secsD D + 1) (secsD D - 1)).1
      omega
    exact IsJn.read kk f a.1 a.2 b.1 b.2 hf ag ex _ r.1 r.2 fr h hB hG (hhead 0 (.inl rfl) a ha) (hhead 1 (.inr rfl) b hb) hp (fun e => absurd e z) (fun _ => ⟨_, rfl, hex.1, by show ex ≤ ((readD D (hf * secsD D + 1) (secsD D - 1)).1.length : Int); omega, rfl, hfr, hr⟩) hf0 hrl hfts
structure AnewH (kk : Nat) (J : JnS) (l : List S48) (row : List Int) (er : Int) (p b2 p2 : List Int) (e2 : Int) : Prop where
  hln : l.length < 1000000
  hsz : ∀ x ∈ l, x.f0.length < 1000000000 ∧ x.f1.length < 1000000000
  hr : anewRow kk (J.age + 1) l [] = some (row, er)
  hfl : ∀ x ∈ l, ∀ b e, journal_framed.f kk x.f0 x.f1 (J.age + 1) = some (b, e) → b.length ≤ 1000000
  hp : er = 0 → journal_filled.f row = some p ∧ p.length ≤ 100000000
  hb2 : er = 0 → frame_Frame.f kk [7, J.age + 1, (row.length : Int)] [] = some (b2, e2) ∧ journal_filled.f b2 = some p2 ∧ p2.length ≤ 100000000
def ptrIf (rc : Int) (j : Nat) : Option Addr := if rc = 0 then some ⟨j, 0, none⟩ else none
theorem ptrIf_ok {rc : Int} {j : Nat} (h : rc = 0) : ptrIf rc j = some ⟨j, 0, none⟩ := if_pos h
theorem ptrIf_no {rc : Int} {j : Nat} (h : ¬ rc = 0) : ptrIf rc j = none := if_neg h
set_option maxRecDepth 100000 in
set_option maxHeartbeats 8000000 in
theorem open_blk {S : Nat → Prop} {B N : Nat} {w : World} {g s k : Nat} {D : DrumS} {J : JnS} (kk f : Nat) (row : List Int) (er : Int) (p b2 p2 : List Int) (e2 : Int) (h : IsDr S B w g s k D) (hB : B ≤ w.heap.size) (hG : D.Fine N) (hN : N ≤ 800000000) (hs : 1 ≤ secsD D) (hf0 : f ≤ 1000000) (hft : Firsts kk D) (hl : loadOf kk f D = some J) (H : AnewH kk J J.l row er p b2 p2 e2) :
    Calls Try.prog 28 #[.pointer (some ⟨g, 0, none⟩)] w fun e w' => ∃ S' j, e = .returned (.tuple #[.pointer (ptrIf (anewJ J J.l row er p p2).2 j), .int .i64 (anewJ J J.l row er p p2).2]) ∧ IsJn S' S B w' j g s k (anewJ J J.l row er p p2).1 ∧ (∀ b, S' b → S b) ∧ w.heap.size ≤ j ∧ Below B w w' ∧ Kept w w' S := by
  have hu := Try.underlying54
  have HD := Aside0.mk h
  have HBB := Aside0.mk hB
  have HG := Aside0.mk hG
  have HN := Aside0.mk hN
  have HS := Aside0.mk hs
  have HF0 := Aside0.mk hf0
  have HFT := Aside0.mk hft
  have HL := Aside0.mk hl
  have HH := Aside0.mk H
  have hin := loadOf_in hl hs
  have HIN := Aside0.mk hin
  obtain ⟨A, c, _, b1, _⟩ := h.opens
  have hsec := sectors_blk w g _ _ _ _ _ _ _ b1 (by have := hG.good.1; have := hG.good.2.1; omega)
  obtain ⟨ns, hns⟩ : ∃ n, n = D.seen.length / 64 := ⟨_, rfl⟩
  rw [← hns] at hsec
  have HSC := Aside0.mk hsec
  have q0 : ((ns : Int) == 0) = false := beq_false_of_ne (by unfold secsD at hs; omega)
  clear h hB hG hN hs hf0 hft hl H hin b1 hsec hns
  obtain ⟨rc, hrc⟩ : ∃ x, x = (anewJ J J.l row er p p2).2 := ⟨_, rfl⟩
  obtain ⟨J2, hJ2⟩ : ∃ x, x = (anewJ J J.l row er p p2).1 := ⟨_, rfl⟩
  rw [← hrc, ← hJ2]
  have HRC := Aside0.mk hrc
  have HJ2 := Aside0.mk hJ2
  clear hrc hJ2
  obtain ⟨hf, hhf⟩ : ∃ x, x = J.half := ⟨_, rfl⟩
  obtain ⟨ag, hag⟩ : ∃ x, x = J.age := ⟨_, rfl⟩
  obtain ⟨en, hen⟩ : ∃ x, x = J.e := ⟨_, rfl⟩
  have HEQ := Aside0.mk (show J.half = hf ∧ J.age = ag ∧ J.e = en from ⟨hhf.symm, hag.symm, hen.symm⟩)
  clear hhf hag hen
  by_cases z : rc = 0
  rotate_left
  focus
    have z1 : (rc != 0) = true := by simpa using z
    have Z := Aside0.mk z
    clear z
  rotate_left
  focus
    have z1 : (rc != 0) = false := by simpa using z
    have Z := Aside0.mk z
    clear z
  all_goals
    go_enter Try.func28, Try.ntmps28
    go_wp2_with (first
      | (go_at_call 18; (with_reducible refine HSC.out.mono ?_); rintro e w1 ⟨rfl, he⟩; rw [he]; clear he w1)
      | ((with_reducible refine gate_dst (N := 11) rfl ?_); refine box_ev 11 #[.pointer (some ⟨g, 0, none⟩), .int .i64 0, .int .i64 0, .slice none 0 0, .int .i64 0] 54 ?_; intro gs hg w1 hbox hb; have n_ := pk3 hbox hb (ge_ hg (Below.refl _ _) : w.heap.size ≤ gs); clear hbox hb hg; obtain ⟨BK, HB1, GSZ⟩ := n_;
         have hfr : ∀ b, w.heap.size ≤ b → S b := (by obtain ⟨_, _, _, _, _, _, _, _, h8⟩ := HD.out; exact h8);
         have hj0 : IsJn (fun b => S b ∧ ¬ (w.heap.size ≤ b ∧ b < w1.heap.size)) S B w1 gs g s k { D := D, half := 0, age := 0, l := [], e := 0 } := ⟨.slice none 0 0, BK.out, HD.out.apart HB1.out, Kd.N_nil _ _ _ _ _, fun hS => hS.2 ⟨GSZ.out, blk_lt BK.out⟩, Nat.le_trans HBB.out GSZ.out, hfr gs GSZ.out, (fun b hv => by cases hv), fun b hS => hS.1⟩;
         have HJ0 := Aside0.mk hj0; clear hj0 hfr BK)
      | (go_at_call 58; (with_reducible refine (IsJn.load kk f HJ0.out (Nat.le_trans HBB.out HB1.out.size) HG.out.good HS.out HF0.out HFT.out HL.out).mono ?_); rintro e w2 ⟨S2, ⟨v2, rfl⟩, hj, hss, hb, hk⟩; have n_ := pk4 hj (show ∀ b, S2 b → S b from fun b h => (hss b h).1) ((HB1.out.mono HBB.out).trans hb) ((Kept.of_below HB1.out S).then_ hk (fun _ h => .inl h)); clear hj hss hb hk HB1 HJ0; obtain ⟨HJL, HSS, HB2, HK2⟩ := n_;
         obtain ⟨vl, b1, b2, b3, b4, b5, t1, t2, t3⟩ := HJL.out; obtain ⟨AL, cL, hvL⟩ := Kd.N_slice b3; subst hvL; rw [HEQ.out.1, HEQ.out.2.1, HEQ.out.2.2] at b1; have BK := Aside0.mk b1; have HNL := Aside0.mk b3; clear b1 b2 b3 b4 b5 t1 t2 t3; obtain ⟨hcz0, hcz1, hcz2, hcz3, hcz4, hfz0, hfz1, hfz2, hfz3, hfz4⟩ := blk_at5 BK.out; clear hcz0 hcz1 hcz2 hcz4 hfz0 hfz1 hfz2 hfz3 hfz4)
      | (go_at_call 25; (with_reducible refine (IsJn.anew kk AL cL J.l row er p b2 p2 e2 HJL.out (Nat.le_trans HBB.out HB2.out.size) (by rw [HIN.out.1]; exact HG.out) HN.out HIN.out.2.1 HIN.out.2.2 (Kd.N_F HNL.out) (Kd.N_reads' HNL.out).2.1 HH.out.hln HH.out.hsz HH.out.hr HH.out.hfl HH.out.hp HH.out.hb2).mono ?_); rintro e w3 ⟨S3, he, hj, hss, hb, hk⟩; rw [← HRC.out] at he; rw [← HJ2.out] at hj; subst he; have n_ := pk4 hj (show ∀ b, S3 b → S b from fun b h => HSS.out b (hss b h)) (HB2.out.trans hb) (HK2.out.then_ hk (fun _ h => .inl h)); clear hj hss hb hk HB2 HK2 HJL HSS; obtain ⟨HJ3, HSS, HB2, HK2⟩ := n_)
      | fail)
    go_ret2
    have hz := Z.out
    first
      | (rw [ptrIf_ok hz, hz]; exact ⟨S3, gs, rfl, HJ3.out, HSS.out, GSZ.out, HB2.out, HK2.out⟩)
      | exact ⟨S3, gs, (by rw [ptrIf_ok hz, hz]; rfl), HJ3.out, HSS.out, GSZ.out, HB2.out, HK2.out⟩
      | exact ⟨S3, gs, (by rw [ptrIf_no hz]; rfl), HJ3.out, HSS.out, GSZ.out, HB2.out, HK2.out⟩
end Go.Proofs.Ytfmdllbkfpbdcaa.G
end
section
namespace Go.Proofs.Ytfmdllbkfpbdcaa.Q
open Go Go.RowKit Go.Proofs.Ytfmdllbkfpbdcaa.G Go.Proofs.YtfmdllbkfpbdcaaW.PrintWords Go.Proofs.YtfmdllbkfpbdcaaW.PrintLast Go.Proofs.YtfmdllbkfpbdcaaW.PrintMore
def fourT (age : Int) : ByteArray := strOfNums (fourS age)
theorem four_ev (age : Int) : journal_four.f age = some (fourT age) := rfl
theorem fourT_bytes (age : Int) : bytesOf (fourT age) = fourS age := bytes_strOf _ (by_fourS age)
theorem size_bytes (s : ByteArray) : s.size = (bytesOf s).length := by simp [bytesOf]
theorem fourT_size (age : Int) : (fourT age).size = 4 := by rw [size_bytes, fourT_bytes]; rfl
def Small (x : Dat) : Prop := Held x.f0 x.f1 ∧ x.f0.length < 1000000000 ∧ x.f1.length < 1000000000
theorem Small.held {x : Dat} (h : Small x) (age : Int) : Held x.f0 (fourT age :: x.f1) :=
  ⟨h.1.1, h.1.2.1, by have := h.2.2; simp only [List.length_cons]; omega, fun s hs => by
    rcases List.mem_cons.1 hs with e | e
    · rw [e, fourT_size]; decide
    · exact h.1.2.2.2 s e⟩
def encA (x : Dat) (age : Int) : List Int := enc x.f0 (fourT age :: x.f1)
def frA (x : Dat) (age : Int) : List Int := frm x.f0 (fourT age :: x.f1)
theorem encA_len (x : Dat) (age : Int) : (encA x age).length = (encA x 0).length := by
  unfold encA enc
  simp only [List.length_append, encT_cons, fourT_size, fourT_bytes, List.length_cons]
  rfl
theorem frA_len (x : Dat) (age : Int) : (frA x age).length = (frA x 0).length := by
  unfold frA
  rw [frm_length, frm_length]
  have := encA_len x age
  unfold encA at this
  rw [this]
def mayS (x : Dat) : Bool := decide ((encA x 0).length ≤ 4096)
theorem mayS_iff (x : Dat) (age : Int) : mayS x = true ↔ (enc x.f0 (fourT age :: x.f1)).length ≤ 4096 := by
  have := encA_len x age
  unfold encA at this
  unfold mayS encA
  rw [decide_eq_true_iff, ← this]
theorem frA_le {x : Dat} (h : mayS x = true) (age : Int) : 5 ≤ (frA x age).length ∧ (frA x age).length ≤ 4110 := by
  have h1 := (mayS_iff x age).1 h
  refine ⟨frm_pos _ _, ?_⟩
  unfold frA
  rw [frm_length]
  have h2 := countS_len10 (u := (enc x.f0 (fourT age :: x.f1)).length) (by omega)
  omega
theorem framed_ev (x : Dat) (h : Small x) (age : Int) : (∃ K, ∀ k, K ≤ k → journal_framed.f k x.f0 x.f1 age = some ((if mayS x = true then (frA x age, 0) else ([], 4)))) := by
  obtain ⟨K, hK⟩ := Frame_ev x.f0 (fourT age :: x.f1) (h.held age)
  refine ⟨K, fun k hk => ?_⟩
  unfold journal_framed.f
  rw [four_ev, Option.bind_some, Option.bind_some]
  rw [if_pos (by have := h.2.2; simp only [List.length_cons, List.length_nil]; omega), List.singleton_append, hK k hk, Option.bind_some]
  by_cases c : mayS x = true
  · rw [if_pos c, if_pos ((mayS_iff x age).1 c)]; rfl
  · rw [if_neg c, if_neg (fun e => c ((mayS_iff x age).2 e))]
def fillS (b : List Int) : List Int := b ++ List.replicate ((64 - b.length % 64) % 64) 0
theorem filled_ev (b : List Int) (h : b.length ≤ 100000000000000) : journal_filled.f b = some (fillS b) := by
  unfold journal_filled.f fillS
  have e : (((64 - ((b.length : Int) % 64)) % 64 : Int)).toNat = (64 - b.length % 64) % 64 := by omega
  rw [if_pos (by omega), e, if_pos (by omega)]
theorem fillS_len (b : List Int) : (fillS b).length % 64 = 0 ∧ b.length ≤ (fillS b).length ∧ (fillS b).length < b.length + 64 := by
  unfold fillS
  rw [List.length_append, List.length_replicate]
  omega
def headB (age e : Int) : List Int := fillS (frm [7, age, e] [])
def rowS (age : Int) (l : List Dat) : List Int := l.flatMap fun x => frA x age
theorem rowS_cons (age : Int) (x : Dat) (l : List Dat) : rowS age (x :: l) = frA x age ++ rowS age l := by simp [rowS]
theorem rowS_snoc (age : Int) (x : Dat) (l : List Dat) : rowS age (l ++ [x]) = rowS age l ++ frA x age := by simp [rowS]
theorem rowS_len (age : Int) (l : List Dat) : (rowS age l).length = (rowS 0 l).length := by
  induction l with
  | nil => rfl
  | cons x l ih => rw [rowS_cons, rowS_cons, List.length_append, List.length_append, ih, frA_len]
theorem rowS_le (age : Int) : ∀ (l : List Dat), (∀ x ∈ l, mayS x = true) → 5 * l.length ≤ (rowS age l).length ∧ (rowS age l).length ≤ 4110 * l.length
  | [], _ => ⟨Nat.le_refl _, Nat.le_refl _⟩
  | x :: l, h => by
    have h1 := rowS_le age l (fun y hy => h y (List.mem_cons_of_mem _ hy))
    have h2 := frA_le (h x List.mem_cons_self) age
    rw [rowS_cons, List.length_append, List.length_cons]
    omega
theorem row_ok (age : Int) : ∀ (l : List Dat) (acc : List Int), (∀ x ∈ l, Small x) → (∀ x ∈ l, mayS x = true) → (∃ K, ∀ k, K ≤ k → anewRow k age l acc = some ((acc ++ rowS age l, 0)))
  | [], acc, _, _ => ⟨0, fun k _ => by simp [anewRow, rowS]⟩
  | x :: l, acc, hs, hm => by
    obtain ⟨K1, h1⟩ := framed_ev x (hs x List.mem_cons_self) age
    obtain ⟨K2, h2⟩ := row_ok age l (acc ++ frA x age) (fun y hy => hs y (List.mem_cons_of_mem _ hy)) (fun y hy => hm y (List.mem_cons_of_mem _ hy))
    refine ⟨K1 + K2, fun k hk => ?_⟩
    rw [anewRow, h1 k (by omega), Option.bind_some, if_pos (hm x List.mem_cons_self)]
    dsimp only
    rw [if_pos rfl, h2 k (by omega), rowS_cons, List.append_assoc]
theorem countS_pow {u n : Nat} : u < 128 ^ n → 0 < n → (countS u).length ≤ n := by
  induction n generalizing u with
  | zero => intro _ h; omega
  | succ n ih =>
    intro h _
    rw [countS]
    split
    · simp
    · rename_i hu
      rw [List.length_cons]
      have h2 : u / 128 < 128 ^ n := by rw [Nat.pow_succ] at h; omega
      have h3 : 0 < n := by
        rcases Nat.eq_zero_or_pos n with e | e
        · subst e; simp at h; omega
        · exact e
      have := ih h2 h3
      omega
theorem head_held (age e : Int) (ha : 0 ≤ age ∧ age ≤ 9000000000) (he : 0 ≤ e ∧ e ≤ 9000000000) : Held [7, age, e] [] :=
  ⟨by simp, fun n hn => by simp at hn; rcases hn with r | r | r <;> rw [r] <;> constructor <;> omega, by simp, fun s hs => by cases hs⟩
theorem head_enc (age e : Int) (ha : 0 ≤ age ∧ age ≤ 9000000000) (he : 0 ≤ e ∧ e ≤ 9000000000) : (enc [7, age, e] []).length ≤ 13 := by
  unfold enc encN encT
  simp only [List.flatMap_cons, List.flatMap_nil, List.length_append, List.length_nil, List.length_cons]
  have h1 : (countS (zig age)).length ≤ 5 := countS_pow (by unfold zig; rw [if_pos ha.1]; omega) (by decide)
  have h2 : (countS (zig e)).length ≤ 5 := countS_pow (by unfold zig; rw [if_pos he.1]; omega) (by decide)
  have h3 : (countS (zig 7)).length ≤ 1 := countS_pow (by decide) (by decide)
  have h4 : (countS 3).length ≤ 1 := countS_pow (by decide) (by decide)
  have h5 : (countS 0).length ≤ 1 := countS_pow (by decide) (by decide)
  simp only [Nat.zero_add, Nat.reduceAdd]
  omega
theorem head_frm (age e : Int) (ha : 0 ≤ age ∧ age ≤ 9000000000) (he : 0 ≤ e ∧ e ≤ 9000000000) : (frm [7, age, e] []).length ≤ 18 ∧ 5 ≤ (frm [7, age, e] []).length := by
  refine ⟨?_, frm_pos _ _⟩
  rw [frm_length]
  have h1 := head_enc age e ha he
  have h2 : (countS (enc [7, age, e] []).length).length ≤ 1 := countS_pow (by omega) (by decide)
  omega
theorem headB_len (age e : Int) (ha : 0 ≤ age ∧ age ≤ 9000000000) (he : 0 ≤ e ∧ e ≤ 9000000000) : (headB age e).length = 64 := by
  have h1 := head_frm age e ha he
  have h2 := fillS_len (frm [7, age, e] [])
  unfold headB
  omega
end Go.Proofs.Ytfmdllbkfpbdcaa.Q
end
section
namespace Go.Proofs.Ytfmdllbkfpbdcaa.G
open Go Go.RowKit Go.Proofs.YtfmdllbkfpbdcaaX Go.Proofs.YtfmdllbkfpbdcaaW.PrintWords Go.Proofs.YtfmdllbkfpbdcaaW.PrintLast Go.Proofs.YtfmdllbkfpbdcaaW.PrintMore
def pg (v : Int) : List Int := List.replicate 64 v
theorem sector_splice (L c : List Int) (a j : Nat) (hc : c.length = 64) (ha : 64 * a + 64 ≤ L.length) : sector (splice L (64 * a) c) j = if j = a then c else sector L j := by
  unfold sector splice
  have hl : (L.take (64 * a)).length = 64 * a := by rw [List.length_take]; omega
  rcases Nat.lt_trichotomy j a with h | h | h
  · rw [if_neg (by omega), List.drop_append_of_le_length (by omega), List.take_append_of_le_length (by rw [List.length_drop]; omega), List.drop_take, List.take_take, Nat.min_eq_left (by omega)]
  · subst h
    rw [if_pos rfl, List.drop_append, List.drop_eq_nil_of_le (by omega), List.nil_append, hl, Nat.sub_self, List.drop_zero, List.take_append_of_le_length (by omega), List.take_of_length_le (by omega)]
  · rw [if_neg (by omega), List.drop_append, List.drop_eq_nil_of_le (by omega), List.nil_append, hl, List.drop_append, List.drop_eq_nil_of_le (by omega), List.nil_append, List.drop_drop, hc]
    congr 2
    omega
def KP (P : Int → Prop) (D : DrumS) : Prop := ∀ j, j < 3 → ∃ v, P v ∧ sector D.kept j = pg v
theorem KP.keep {P : Int → Prop} {D : DrumS} (h : KP P D) {a : Nat} {v : Int} (hv : P v) (hl : 192 ≤ D.kept.length) (ha : a < 3) : KP P (keepD a (pg v) D) := fun j hj => by
  show ∃ u, P u ∧ sector (splice D.kept (64 * a) (pg v)) j = pg u
  rw [sector_splice _ _ _ _ (by simp [pg]) (by omega)]
  by_cases e : j = a
  · exact ⟨v, hv, by rw [if_pos e]⟩
  · obtain ⟨u, h1, h2⟩ := h j hj
    exact ⟨u, h1, by rw [if_neg e]; exact h2⟩
theorem KP.keepX {P : Int → Prop} {D : DrumS} (h : KP P D) {x : S100} (hx : ∃ v, P v ∧ 0 ≤ x.f0 ∧ x.f0 < 3 ∧ x.f1 = pg v) (hl : 192 ≤ D.kept.length) : KP P (keepD x.f0.toNat x.f1 D) := by
  obtain ⟨v, h1, h2, h3, h4⟩ := hx
  rw [h4]
  exact h.keep h1 hl (by omega)
theorem KP.all {P : Int → Prop} : ∀ (l : List S100) (D : DrumS), KP P D → (∀ x ∈ l, ∃ v, P v ∧ 0 ≤ x.f0 ∧ x.f0 < 3 ∧ x.f1 = pg v) → 192 ≤ D.kept.length → KP P (keepAll l D)
  | [], D, h, _, _ => h
  | x :: xs, D, h, hw, hl => by
    have hx := hw x (by simp)
    have h1 := h.keepX hx hl
    obtain ⟨v, q1, q2, q3, q4⟩ := hx
    have hlen : (keepD x.f0.toNat x.f1 D).kept.length = D.kept.length := length_splice _ _ _ (by rw [q4]; simp [pg]; omega)
    exact KP.all xs (keepD x.f0.toNat x.f1 D) h1 (fun y hy => hw y (List.mem_cons_of_mem _ hy)) (by rw [hlen]; exact hl)
def w3 (v : Int) : List S100 := [⟨0, pg v⟩, ⟨1, pg v⟩, ⟨2, pg v⟩]
theorem syncD_seen (D : DrumS) : (syncD D).seen = D.seen := by
  unfold syncD
  split
  · rfl
  · exact (keepAll_ws D.ws D).2.1
end Go.Proofs.Ytfmdllbkfpbdcaa.G
end
section
namespace Go.Proofs.Ytfmdllbkfpbdcaa.Q
open Go Go.RowKit Go.Proofs.Ytfmdllbkfpbdcaa.G Go.Proofs.YtfmdllbkfpbdcaaW.PrintWords Go.Proofs.YtfmdllbkfpbdcaaW.PrintLast Go.Proofs.YtfmdllbkfpbdcaaW.PrintMore
structure JOk (N : Nat) (J : JnS) : Prop where
  fine : J.D.Fine N
  half : J.half = 0 ∨ J.half = 1
  age : 0 ≤ J.age ∧ J.age ≤ 2147483647
  secs : 1 ≤ J.secs
  small : ∀ x ∈ J.l, Small x
  may : ∀ x ∈ J.l, mayS x = true
  row : J.e = ((rowS 0 J.l).length : Int)
  room : J.e ≤ 64 * (J.secs - 1)
theorem secs_le {D : DrumS} (h : D.Good) : secsD D ≤ 4096 := by unfold secsD; have := h.1; have := h.2.1; omega
theorem JnS.secs_eq (J : JnS) : J.secs = secsD J.D := rfl
theorem JOk.e_in {N : Nat} {J : JnS} (h : JOk N J) : 0 ≤ J.e ∧ J.e ≤ 262144 := by
  have := h.row
  have := h.room
  have := secs_le h.fine.good
  rw [← JnS.secs_eq] at this
  omega
theorem JOk.len {N : Nat} {J : JnS} (h : JOk N J) : J.l.length ≤ 60000 := by
  have h1 := h.e_in
  have h2 := h.row
  have h3 := (rowS_le 0 J.l h.may).1
  omega
theorem JOk.le {N M : Nat} {J : JnS} (h : JOk N J) (hM : N ≤ M) : JOk M J := ⟨h.fine.le hM, h.half, h.age, h.secs, h.small, h.may, h.row, h.room⟩
theorem seen_len_write {N : Nat} {D : DrumS} (h : D.Fine N) (at_ : Int) (l : List Int) : (writeD D at_ l).1.seen.length = D.seen.length := (seen_write at_ l h.2.1).1
theorem seen_len_sync (D : DrumS) : (syncD D).seen.length = D.seen.length := by rw [syncD_seen]
def syncS (J : JnS) : JnS := { J with D := headD { J with D := syncD J.D } (headB J.age J.e) }
def newS (J : JnS) (l : List Dat) : JnS :=
  { D := headD { D := syncD (writeD J.D ((1 - J.half) * J.secs + 1) (fillS (rowS (J.age + 1) l))).1, half := 1 - J.half, age := J.age + 1, l := l, e := ((rowS (J.age + 1) l).length : Int) } (headB (J.age + 1) ((rowS (J.age + 1) l).length : Int)), half := 1 - J.half, age := J.age + 1, l := l, e := ((rowS (J.age + 1) l).length : Int) }
open Classical in
noncomputable def anewS (J : JnS) (l : List Dat) : JnS × Int :=
  if J.age = 2147483647 then (J, 6) else if ¬ (∀ x ∈ l, mayS x = true) then (J, 4) else if ((rowS 0 l).length : Int) > 64 * (J.secs - 1) then (J, 6) else (newS J l, 0)
def wasS (J : JnS) : List Int := (readD J.D (J.half * J.secs + 1 + J.e / 64) (mn 1 (J.e % 64))).1.take (J.e % 64).toNat
def addS (J : JnS) (x : Dat) : JnS := { J with D := (writeD J.D (J.half * J.secs + 1 + J.e / 64) (fillS (wasS J ++ frA x J.age))).1, e := J.e + (frA x J.age).length, l := J.l ++ [x] }
def appS (J : JnS) (x : Dat) : JnS × Int := if mayS x = false then (J, 4) else if ((frA x 0).length : Int) > 64 * (J.secs - 1) - J.e then (J, 6) else (addS J x, 0)
theorem fine_head {N : Nat} {J : JnS} (h : J.D.Fine N) (p : List Int) : (headD J p).Fine (N + p.length / 64) := fine_sync (fine_write h _ _)
theorem len_head {N : Nat} {J : JnS} (h : J.D.Fine N) (p : List Int) : (headD J p).seen.length = J.D.seen.length := by
  unfold headD
  rw [seen_len_sync, seen_len_write h]
theorem age_in {N : Nat} {J : JnS} (h : JOk N J) : 0 ≤ J.age ∧ J.age ≤ 9000000000 := by have := h.age; omega
theorem e_in9 {N : Nat} {J : JnS} (h : JOk N J) : 0 ≤ J.e ∧ J.e ≤ 9000000000 := by have := h.e_in; omega
theorem JOk.sync {N : Nat} {J : JnS} (h : JOk N J) : JOk (N + 10000) (syncS J) := by
  have h1 := fine_head (J := { J with D := syncD J.D }) (fine_sync h.fine) (headB J.age J.e)
  have h2 := len_head (J := { J with D := syncD J.D }) (fine_sync h.fine) (headB J.age J.e)
  rw [headB_len _ _ (age_in h) (e_in9 h)] at h1
  have hs : (syncS J).secs = J.secs := by unfold JnS.secs syncS; dsimp only; rw [h2]; dsimp only; rw [seen_len_sync]
  exact ⟨h1.le (by omega), h.half, h.age, by rw [hs]; exact h.secs, h.small, h.may, h.row, by rw [hs]; exact h.room⟩
theorem row_in {N : Nat} {J : JnS} (h : JOk N J) {l : List Dat} (hr : ((rowS 0 l).length : Int) ≤ 64 * (J.secs - 1)) : (rowS 0 l).length ≤ 262144 := by
  have := secs_le h.fine.good
  rw [← JnS.secs_eq] at this
  omega
theorem JOk.newS {N : Nat} {J : JnS} (h : JOk N J) {l : List Dat} (hs : ∀ x ∈ l, Small x) (hm : ∀ x ∈ l, mayS x = true) (hr : ((rowS 0 l).length : Int) ≤ 64 * (J.secs - 1)) (ha : J.age ≠ 2147483647) : JOk (N + 10000) (newS J l) := by
  have hri := row_in h hr
  have hrl := rowS_len (J.age + 1) l
  have hag := h.age
  have f1 := fine_sync (fine_write h.fine ((1 - J.half) * J.secs + 1) (fillS (rowS (J.age + 1) l)))
  have h1 := fine_head (J := { D := syncD (writeD J.D ((1 - J.half) * J.secs + 1) (fillS (rowS (J.age + 1) l))).1, half := 1 - J.half, age := J.age + 1, l := l, e := ((rowS (J.age + 1) l).length : Int) }) f1 (headB (J.age + 1) ((rowS (J.age + 1) l).length : Int))
  have h2 := len_head (J := { D := syncD (writeD J.D ((1 - J.half) * J.secs + 1) (fillS (rowS (J.age + 1) l))).1, half := 1 - J.half, age := J.age + 1, l := l, e := ((rowS (J.age + 1) l).length : Int) }) f1 (headB (J.age + 1) ((rowS (J.age + 1) l).length : Int))
  rw [headB_len _ _ (by omega) (by omega)] at h1
  have hf := fillS_len (rowS (J.age + 1) l)
  have hsc : (Q.newS J l).secs = J.secs := by unfold JnS.secs Q.newS; dsimp only; rw [h2]; dsimp only; rw [seen_len_sync, seen_len_write h.fine]
  refine ⟨h1.le (by omega), ?_, ?_, by rw [hsc]; exact h.secs, hs, hm, ?_, ?_⟩
  · show 1 - J.half = 0 ∨ 1 - J.half = 1
    have := h.half
    omega
  · show 0 ≤ J.age + 1 ∧ J.age + 1 ≤ 2147483647
    omega
  · show ((rowS (J.age + 1) l).length : Int) = ((rowS 0 l).length : Int)
    rw [hrl]
  · rw [hsc]
    show ((rowS (J.age + 1) l).length : Int) ≤ _
    rw [hrl]
    exact hr
theorem JOk.anewS {N : Nat} {J : JnS} (h : JOk N J) {l : List Dat} (hs : ∀ x ∈ l, Small x) : JOk (N + 10000) (anewS J l).1 := by
  unfold Q.anewS
  split
  · exact h.le (by omega)
  · rename_i ha
    split
    · exact h.le (by omega)
    · rename_i hm
      split
      · exact h.le (by omega)
      · rename_i hr
        exact h.newS hs (Classical.not_not.1 hm) (by omega) ha
theorem wasS_len {N : Nat} {J : JnS} (h : JOk N J) : (readD J.D (J.half * J.secs + 1 + J.e / 64) (mn 1 (J.e % 64))).1.length ≤ 64 ∧ (J.e % 64).toNat ≤ (readD J.D (J.half * J.secs + 1 + J.e / 64) (mn 1 (J.e % 64))).1.length ∧ (wasS J).length = (J.e % 64).toNat := by
  have he := h.e_in
  have hr := h.room
  have key : (readD J.D (J.half * J.secs + 1 + J.e / 64) (mn 1 (J.e % 64))).1.length ≤ 64 ∧ (J.e % 64).toNat ≤ (readD J.D (J.half * J.secs + 1 + J.e / 64) (mn 1 (J.e % 64))).1.length := by
    by_cases hz : J.e % 64 = 0
    · have e1 : mn 1 0 = 0 := by decide
      rw [hz, e1]
      refine ⟨?_, Nat.zero_le _⟩
      unfold readD
      rw [if_neg (by decide), if_pos rfl]
      split <;> simp
    · have e1 : mn 1 (J.e % 64) = 1 := by unfold mn; split <;> omega
      rw [e1]
      have hsd : 2 * J.secs ≤ (J.D.seen.length / 64 : Nat) := by unfold JnS.secs; omega
      have hs1 := h.secs
      have h1 : 0 ≤ J.half * J.secs ∧ J.half * J.secs ≤ J.secs := by rcases h.half with e | e <;> rw [e] <;> omega
      have := (readD_ok h.fine.good (at_ := J.half * J.secs + 1 + J.e / 64) (n := 1) (by omega) (by omega) (by omega)).1
      omega
  refine ⟨key.1, key.2, ?_⟩
  unfold wasS
  rw [List.length_take]
  omega
theorem JOk.addS {N : Nat} {J : JnS} (h : JOk N J) {x : Dat} (hs : Small x) (hm : mayS x = true) (hr : ((frA x 0).length : Int) ≤ 64 * (J.secs - 1) - J.e) : JOk (N + 10000) (addS J x) := by
  have hf := frA_le hm J.age
  have hl := frA_len x J.age
  have hw := wasS_len h
  have hfl := fillS_len (wasS J ++ frA x J.age)
  rw [List.length_append] at hfl
  have f1 := fine_write h.fine (J.half * J.secs + 1 + J.e / 64) (fillS (wasS J ++ frA x J.age))
  have hsc : (Q.addS J x).secs = J.secs := by unfold JnS.secs Q.addS; dsimp only; rw [seen_len_write h.fine]
  refine ⟨f1.le (by omega), h.half, h.age, by rw [hsc]; exact h.secs, ?_, ?_, ?_, ?_⟩
  · intro y hy
    rcases List.mem_append.1 hy with e | e
    · exact h.small y e
    · rw [List.mem_singleton.1 e]; exact hs
  · intro y hy
    rcases List.mem_append.1 hy with e | e
    · exact h.may y e
    · rw [List.mem_singleton.1 e]; exact hm
  · show J.e + ((frA x J.age).length : Int) = ((rowS 0 (J.l ++ [x])).length : Int)
    rw [rowS_snoc, List.length_append, h.row]
    omega
  · rw [hsc]
    show J.e + ((frA x J.age).length : Int) ≤ _
    omega
theorem JOk.appS {N : Nat} {J : JnS} (h : JOk N J) {x : Dat} (hs : Small x) : JOk (N + 10000) (appS J x).1 := by
  unfold Q.appS
  split
  · exact h.le (by omega)
  · rename_i hm
    split
    · exact h.le (by omega)
    · exact h.addS hs (by simpa using hm) (by omega)
theorem sync_c {S T : Nat → Prop} {B N : Nat} {w : World} {j g s k : Nat} {J : JnS} (h : IsJn S T B w j g s k J) (hB : B ≤ w.heap.size) (hO : JOk N J) (hN : N ≤ 900000000) :
    Calls Try.prog 22 #[.pointer (some ⟨j, 0, none⟩)] w fun e w' => (∃ v, e = .returned v) ∧ IsJn S T B w' j g s k (syncS J) ∧ Below B w w' ∧ Kept w w' S := by
  obtain ⟨K, hK⟩ := Frame_ev [7, J.age, J.e] [] (head_held _ _ (age_in hO) (e_in9 hO))
  have hl := headB_len _ _ (age_in hO) (e_in9 hO)
  have hf := head_frm _ _ (age_in hO) (e_in9 hO)
  have h1 := hK K (Nat.le_refl _)
  rw [if_pos (by have := head_enc _ _ (age_in hO) (e_in9 hO); omega)] at h1
  exact h.sync K _ _ _ hB hO.fine hN hO.half h1 (filled_ev _ (by omega)) (by show (headB J.age J.e).length ≤ _; omega)
theorem ev_one {α : Type} {g : Nat → Option α} {a b : α} (hm : ∀ k, LeO (g k) (g (k + 1))) {k : Nat} (h : g k = some a) (hE : ∃ K, ∀ k, K ≤ k → g k = some b) : a = b := by
  obtain ⟨K, hK⟩ := hE
  have h1 := at_rounds hm (Nat.le_max_left k K) h
  rw [hK _ (Nat.le_max_right k K)] at h1
  exact (Option.some.inj h1).symm
theorem framed_le (x : Dat) (h : Small x) (age : Int) (k : Nat) (b : List Int) (e : Int) (hf : journal_framed.f k x.f0 x.f1 age = some (b, e)) : b.length ≤ 1000000 := by
  have h1 := ev_one (fun k => journal_framed.mono x.f0 x.f1 age k) hf (framed_ev x h age)
  split at h1
  · rename_i hm
    have e1 : b = frA x age := congrArg Prod.fst h1
    rw [e1]
    have := (frA_le hm age).2
    omega
  · have e1 : b = [] := congrArg Prod.fst h1
    rw [e1]
    exact Nat.zero_le _
set_option maxHeartbeats 4000000 in
theorem append_c {S T : Nat → Prop} {B N : Nat} {w : World} {j g s k : Nat} {J : JnS} (A0 : Option Addr) (c0 : Nat) (A1 : Option Addr) (c1 : Nat) (x : Dat) (h : IsJn S T B w j g s k J) (hB : B ≤ w.heap.size) (hO : JOk N J) (hN : N ≤ 800000000)
    (g0 : Kd.F (Kd.int .i64) w (fun b => ¬ T b) A0 x.f0.length x.f0) (q0 : x.f0.length ≤ c0) (g1 : Kd.F Kd.string w (fun b => ¬ T b) A1 x.f1.length x.f1) (q1 : x.f1.length ≤ c1) (hs : Small x) :
    Calls Try.prog 24 #[.pointer (some ⟨j, 0, none⟩), .agg #[.slice A0 x.f0.length c0, .slice A1 x.f1.length c1]] w fun e w' => ∃ S', e = .returned (.int .i64 (appS J x).2) ∧ IsJn S' T B w' j g s k (appS J x).1 ∧ (∀ b, S' b → S b) ∧ Below B w w' ∧ Kept w w' T := by
  have he := hO.e_in
  have hlen := hO.len
  obtain ⟨w1, w2, w3⟩ := wasS_len hO
  obtain ⟨K, hK⟩ := framed_ev x hs J.age
  have h1 := hK K (Nat.le_refl _)
  have hl := frA_len x J.age
  by_cases hm : mayS x = true
  · rw [if_pos hm] at h1
    have hf := frA_le hm J.age
    have hfl := fillS_len (wasS J ++ frA x J.age)
    rw [List.length_append] at hfl
    have hc := h.append K A0 c0 A1 c1 x (frA x J.age) (readD J.D (J.half * J.secs + 1 + J.e / 64) (mn 1 (J.e % 64))).1 (fillS (wasS J ++ frA x J.age)) 0 (readD J.D (J.half * J.secs + 1 + J.e / 64) (mn 1 (J.e % 64))).2 hB hO.fine hN hO.half ⟨he.1, by omega⟩ g0 q0 g1 q1 hs.2 (by omega) h1 (fun _ => ⟨by omega, by omega⟩) rfl ⟨w2, by omega⟩
      (fun _ => ⟨filled_ev _ (by show (wasS J ++ frA x J.age).length ≤ _; rw [List.length_append]; omega), by omega⟩)
    have e_ : appJ J x (frA x J.age) 0 (fillS (wasS J ++ frA x J.age)) = appS J x := by
      unfold appS
      rw [if_neg (by rw [hm]; decide)]
      by_cases hr : ((frA x 0).length : Int) > 64 * (J.secs - 1) - J.e
      · rw [if_pos hr, appJ_long rfl (by rw [hl]; exact hr)]
      · rw [if_neg hr, appJ_ok rfl (by rw [hl]; exact hr)]
        rfl
    rw [e_] at hc
    exact hc
  · rw [if_neg hm] at h1
    have hc := h.append K A0 c0 A1 c1 x [] (readD J.D (J.half * J.secs + 1 + J.e / 64) (mn 1 (J.e % 64))).1 [] 4 (readD J.D (J.half * J.secs + 1 + J.e / 64) (mn 1 (J.e % 64))).2 hB hO.fine hN hO.half ⟨he.1, by omega⟩ g0 q0 g1 q1 hs.2 (by omega) h1 (fun e => absurd e (by decide)) rfl ⟨w2, by omega⟩ (fun e => absurd e (by decide))
    have e_ : appJ J x [] 4 [] = appS J x := by
      unfold appS
      rw [if_pos (by simpa using hm), appJ_er (by decide)]
    rw [e_] at hc
    exact hc
end Go.Proofs.Ytfmdllbkfpbdcaa.Q
end
section
namespace Go.Proofs.Ytfmdllbkfpbdcaa.Q
open Go Go.RowKit Go.Proofs.Ytfmdllbkfpbdcaa.G Go.Proofs.YtfmdllbkfpbdcaaW.PrintWords Go.Proofs.YtfmdllbkfpbdcaaW.PrintLast Go.Proofs.YtfmdllbkfpbdcaaW.PrintMore
def HeadIs (room : Int) (b : List Int) (a : Int × Int) : Prop :=
  (1 ≤ a.1 ∧ a.1 ≤ 2147483647 ∧ 0 ≤ a.2 ∧ a.2 ≤ room ∧ b = headB a.1 a.2) ∨ (a = (0, 0) ∧ ∀ g e, 1 ≤ g → g ≤ 2147483647 → 0 ≤ e → e ≤ room → b ≠ headB g e)
def RowIs (age : Int) (b : List Int) (l : List Dat) : Prop :=
  ∃ tail, b = rowS age l ++ tail ∧ (∀ x ∈ l, Small x ∧ mayS x = true) ∧ ∀ x tail', Held x.f0 (fourT age :: x.f1) → mayS x = true → tail ≠ frA x age ++ tail'
theorem nz_zero : ∀ (l : List Int), nz l = false ↔ l = List.replicate l.length 0
  | [] => by simp [nz]
  | x :: l => by
    have ih := nz_zero l
    unfold nz at ih ⊢
    rw [List.any_cons, List.length_cons, List.replicate_succ, Bool.or_eq_false_iff]
    constructor
    · rintro ⟨h1, h2⟩
      have h3 : x = 0 := by simpa using h1
      rw [h3, ← ih.1 h2]
    · intro h
      injection h with h1 h2
      exact ⟨by simp [h1], ih.2 h2⟩
theorem headB_form (g e : Int) (hg : 1 ≤ g ∧ g ≤ 2147483647) (he : 0 ≤ e ∧ e ≤ 9000000000) : headB g e = frm [7, g, e] [] ++ List.replicate (64 - (frm [7, g, e] []).length) 0 ∧ (frm [7, g, e] []).length ≤ 18 := by
  have h1 := head_frm g e (by omega) he
  refine ⟨?_, h1.1⟩
  unfold headB fillS
  rw [show (64 - (frm [7, g, e] []).length % 64) % 64 = 64 - (frm [7, g, e] []).length by omega]
theorem headB_inj {g e g' e' : Int} (hg : 1 ≤ g ∧ g ≤ 2147483647) (he : 0 ≤ e ∧ e ≤ 9000000000) (hg' : 1 ≤ g' ∧ g' ≤ 2147483647) (he' : 0 ≤ e' ∧ e' ≤ 9000000000) (h : headB g e = headB g' e') : g = g' ∧ e = e' := by
  rw [(headB_form g e hg he).1, (headB_form g' e' hg' he').1] at h
  obtain ⟨h1, _, _⟩ := frm_inj (head_held g e (by omega) he) (by have := head_enc g e (by omega) he; omega) (head_held g' e' (by omega) he') (by have := head_enc g' e' (by omega) he'; omega) h
  simp only [List.cons.injEq, and_true, true_and] at h1
  exact h1
theorem HeadIs.func {room : Int} {b : List Int} {a a' : Int × Int} (hr : room ≤ 9000000000) (h : HeadIs room b a) (h' : HeadIs room b a') : a = a' := by
  rcases h with ⟨h1, h2, h3, h4, h5⟩ | ⟨h1, h2⟩
  · rcases h' with ⟨k1, k2, k3, k4, k5⟩ | ⟨k1, k2⟩
    · obtain ⟨e1, e2⟩ := headB_inj ⟨h1, h2⟩ ⟨h3, by omega⟩ ⟨k1, k2⟩ ⟨k3, by omega⟩ (h5.symm.trans k5)
      exact Prod.ext e1 e2
    · exact absurd h5 (k2 a.1 a.2 h1 h2 h3 h4)
  · rcases h' with ⟨k1, k2, k3, k4, k5⟩ | ⟨k1, k2⟩
    · exact absurd k5 (h2 a'.1 a'.2 k1 k2 k3 k4)
    · rw [h1, k1]
theorem head_is (room : Int) (hr : 0 ≤ room ∧ room ≤ 9000000000) (b : List Int) (hb : By b) (hl : b.length = 64) : ∃ a, HeadIs room b a ∧ ∃ R : FRes, (∃ K, ∀ k, K ≤ k → frame_First.f k b = some (R)) ∧ headV room b R.1 R.2.1 R.2.2.1 R.2.2.2 = a := by
  obtain ⟨R, h1, h2, h3⟩ := both_first b hb (by omega)
  refine ⟨headV room b R.1 R.2.1 R.2.2.1 R.2.2.2, ?_, R, h1, rfl⟩
  rcases h3 with ⟨ns, ts, tail, hh, hle, e, rfl⟩ | ⟨er, he, rfl, hno⟩
  · dsimp only
    by_cases hk : (0 : Int) = 0 ∧ ns.length = 3 ∧ ts.length = 0 ∧ rd ns 0 = 7 ∧ 1 ≤ rd ns 1 ∧ rd ns 1 ≤ 2147483647 ∧ 0 ≤ rd ns 2 ∧ rd ns 2 ≤ room ∧ nz (b.drop ((frm ns ts).length : Int).toNat) = false
    · rw [headV_yes hk]
      obtain ⟨_, k1, k2, k3, k4, k5, k6, k7, k8⟩ := hk
      refine .inl ⟨k4, k5, k6, k7, ?_⟩
      obtain ⟨x0, x1, x2, rfl⟩ : ∃ x0 x1 x2, ns = [x0, x1, x2] := by
        match ns, k1 with
        | [a, b, c], _ => exact ⟨a, b, c, rfl⟩
      obtain rfl : ts = [] := List.eq_nil_of_length_eq_zero k2
      have e0 : x0 = 7 := k3
      subst e0
      have e1 : rd [7, x1, x2] 1 = x1 := rfl
      have e2 : rd [7, x1, x2] 2 = x2 := rfl
      rw [e1] at k4 k5 ⊢
      rw [e2] at k6 k7 ⊢
      have hf := headB_form x1 x2 ⟨k4, k5⟩ ⟨k6, by omega⟩
      dsimp only
      rw [hf.1]
      rw [e, Int.toNat_natCast, List.drop_left] at k8
      have k9 := (nz_zero tail).1 k8
      have hlen : (frm [7, x1, x2] []).length + tail.length = 64 := by rw [← hl, e, List.length_append]
      rw [e, k9, show 64 - (frm [7, x1, x2] []).length = tail.length by omega]
    · rw [headV_no hk]
      refine .inr ⟨rfl, fun g e' g1 g2 g3 g4 h => hk ?_⟩
      have hf := headB_form g e' ⟨g1, g2⟩ ⟨g3, by omega⟩
      rw [hf.1, e] at h
      obtain ⟨rfl, rfl, q3⟩ := frm_inj hh hle (head_held g e' (by omega) (by omega)) (by have := head_enc g e' (by omega) (by omega); omega) h
      refine ⟨rfl, rfl, rfl, rfl, g1, g2, g3, g4, ?_⟩
      rw [e, Int.toNat_natCast, List.drop_left, q3, nz_zero]
      simp
  · dsimp only
    rw [headV_no (fun h => he h.1)]
    refine .inr ⟨rfl, fun g e' g1 g2 g3 g4 h => ?_⟩
    exact hno [7, g, e'] [] _ (head_held g e' (by omega) (by omega)) (by have := head_enc g e' (by omega) (by omega); omega) (h.trans (headB_form g e' ⟨g1, g2⟩ ⟨g3, by omega⟩).1)
theorem str_ext {a b : ByteArray} (h : a.toList = b.toList) : a = b := by
  have := (str_eq (by_bytesOf a) (by_bytesOf b)).1 (by rw [strOf_bytes, strOf_bytes]; exact h)
  rw [← strOf_bytes a, ← strOf_bytes b, this]
theorem small_of {ns : List Int} {t : ByteArray} {ts : List ByteArray} (hh : Held ns (t :: ts)) (hl : (enc ns (t :: ts)).length ≤ 4096) : Small ⟨ns, ts⟩ := by
  have h1 := encN_len ns
  have h2 := encT_len (t :: ts)
  unfold enc at hl
  simp only [List.length_append] at hl
  refine ⟨⟨hh.1, hh.2.1, by have := hh.2.2.1; simp only [List.length_cons] at this; dsimp only; omega, fun s hs => hh.2.2.2 s (List.mem_cons_of_mem _ hs)⟩, by dsimp only; omega, ?_⟩
  have h3 := h2.1
  rw [List.length_cons] at h3
  dsimp only
  omega
theorem row_is (age : Int) (b : List Int) (hb : By b) (hl : b.length ≤ 100000) : ∀ (d p : Nat), p ≤ b.length → b.length - p ≤ d → ∃ l, RowIs age (b.drop p) l ∧ ∃ K, ∀ k, K ≤ k → ∀ (acc : List Dat) (f : Nat), b.length - p < f → readRow k (fourT age) b f p acc = some (acc ++ l, ((p + (rowS age l).length : Nat) : Int)) := by
  intro d
  induction d with
  | zero =>
    intro p hp hd
    obtain ⟨R, ⟨K, h1⟩, h2, h3⟩ := both_first (b.drop p) (hb.drop p) (by rw [List.length_drop]; omega)
    have hnil : b.drop p = [] := List.drop_of_length_le (by omega)
    rcases h3 with ⟨ns, ts, tail, hh, hle, e, rfl⟩ | ⟨er, he, rfl, hno⟩
    · have := frm_pos ns ts
      rw [hnil] at e
      have := congrArg List.length e
      simp only [List.length_nil, List.length_append] at this
      omega
    · refine ⟨[], ⟨b.drop p, rfl, (fun x hx => by cases hx), fun x t' h h' e => hno _ _ t' h ((mayS_iff x age).1 h') e⟩, K, fun k hk acc f hf => ?_⟩
      obtain ⟨f, rfl⟩ : ∃ m, f = m + 1 := ⟨f - 1, by omega⟩
      rw [readRow, Int.toNat_natCast, h1 k hk, Option.bind_some, if_neg (fun h => he h.1)]
      simp [rowS]
  | succ d ih =>
    intro p hp hd
    obtain ⟨R, ⟨K, h1⟩, h2, h3⟩ := both_first (b.drop p) (hb.drop p) (by rw [List.length_drop]; omega)
    rcases h3 with ⟨ns, ts, tail, hh, hle, e, rfl⟩ | ⟨er, he, rfl, hno⟩
    · by_cases hc : 0 < ts.length ∧ (rdOf ByteArray.empty ts 0).toList = (fourT age).toList
      · obtain ⟨t, ts', rfl⟩ : ∃ t ts', ts = t :: ts' := by
          cases ts with
          | nil => exact absurd hc.1 (by decide)
          | cons t ts' => exact ⟨t, ts', rfl⟩
        have et : t = fourT age := str_ext hc.2
        subst et
        have hsm := small_of hh hle
        have hmy : mayS ⟨ns, ts'⟩ = true := (mayS_iff ⟨ns, ts'⟩ age).2 hle
        have hpos := frm_pos ns (fourT age :: ts')
        have hlen : b.length - p = (frm ns (fourT age :: ts')).length + tail.length := by rw [← List.length_drop, e, List.length_append]
        have hdr : b.drop (p + (frm ns (fourT age :: ts')).length) = tail := by rw [← List.drop_drop, e, List.drop_left]
        obtain ⟨l, ⟨tl, t1, t2, t3⟩, K2, h4⟩ := ih (p + (frm ns (fourT age :: ts')).length) (by omega) (by omega)
        refine ⟨⟨ns, ts'⟩ :: l, ⟨tl, ?_, ?_, t3⟩, K + K2, fun k hk acc f hf => ?_⟩
        · rw [rowS_cons, List.append_assoc, ← t1, hdr]
          exact e
        · intro x hx
          rcases List.mem_cons.1 hx with e' | e'
          · rw [e']; exact ⟨hsm, hmy⟩
          · exact t2 x e'
        · obtain ⟨f, rfl⟩ : ∃ m, f = m + 1 := ⟨f - 1, by omega⟩
          rw [readRow, Int.toNat_natCast, h1 k (by omega), Option.bind_some, if_pos ⟨rfl, hc.1, hc.2⟩]
          dsimp only
          have h5 := h4 k (by omega) (acc ++ [⟨ns, ts'⟩]) f (by omega)
          rw [Int.natCast_add] at h5
          rw [List.drop_one, List.tail_cons, h5, rowS_cons, List.append_assoc, List.length_append]
          show some _ = some _
          congr 2
          unfold frA
          dsimp only
          omega
      · refine ⟨[], ⟨b.drop p, rfl, (fun x hx => by cases hx), fun x t' h h' e' => hc ?_⟩, K, fun k hk acc f hf => ?_⟩
        · unfold frA at e'
          rw [e] at e'
          obtain ⟨_, q2, _⟩ := frm_inj hh hle h ((mayS_iff x age).1 h') e'
          rw [q2]
          exact ⟨by simp, rfl⟩
        · obtain ⟨f, rfl⟩ : ∃ m, f = m + 1 := ⟨f - 1, by omega⟩
          rw [readRow, Int.toNat_natCast, h1 k hk, Option.bind_some, if_neg (fun h => hc h.2)]
          simp [rowS]
    · refine ⟨[], ⟨b.drop p, rfl, (fun x hx => by cases hx), fun x t' h h' e => hno _ _ t' h ((mayS_iff x age).1 h') e⟩, K, fun k hk acc f hf => ?_⟩
      obtain ⟨f, rfl⟩ : ∃ m, f = m + 1 := ⟨f - 1, by omega⟩
      rw [readRow, Int.toNat_natCast, h1 k hk, Option.bind_some, if_neg (fun h => he h.1)]
      simp [rowS]
theorem RowIs.func {age : Int} : ∀ {l l' : List Dat} {b : List Int}, RowIs age b l → RowIs age b l' → l = l'
  | [], [], _, _, _ => rfl
  | [], y :: l', b, ⟨t, e, h1, h2⟩, ⟨t', e', h1', h2'⟩ => by
    refine absurd ?_ (h2 y (rowS age l' ++ t') ((h1' y List.mem_cons_self).1.held age) (h1' y List.mem_cons_self).2)
    rw [← List.append_assoc, ← rowS_cons, ← e', e]
    rfl
  | x :: l, [], b, ⟨t, e, h1, h2⟩, ⟨t', e', h1', h2'⟩ => by
    refine absurd ?_ (h2' x (rowS age l ++ t) ((h1 x List.mem_cons_self).1.held age) (h1 x List.mem_cons_self).2)
    rw [← List.append_assoc, ← rowS_cons, ← e, e']
    rfl
  | x :: l, y :: l', b, ⟨t, e, h1, h2⟩, ⟨t', e', h1', h2'⟩ => by
    have hx := h1 x List.mem_cons_self
    have hy := h1' y List.mem_cons_self
    have ee : frA x age ++ (rowS age l ++ t) = frA y age ++ (rowS age l' ++ t') := by rw [← List.append_assoc, ← rowS_cons, ← List.append_assoc, ← rowS_cons, ← e, ← e']
    obtain ⟨q1, q2, q3⟩ := frm_inj (hx.1.held age) ((mayS_iff x age).1 hx.2) (hy.1.held age) ((mayS_iff y age).1 hy.2) ee
    injection q2 with _ q2
    have exy : x = y := by
      obtain ⟨x0, x1⟩ := x
      obtain ⟨y0, y1⟩ := y
      simp only at q1 q2
      rw [q1, q2]
    rw [exy, RowIs.func (b := rowS age l ++ t) ⟨t, rfl, fun z hz => h1 z (List.mem_cons_of_mem _ hz), h2⟩ ⟨t', q3, fun z hz => h1' z (List.mem_cons_of_mem _ hz), h2'⟩]
def Loads (D : DrumS) (J : JnS) : Prop := ∃ a b : Int × Int, HeadIs (64 * (secsD D - 1)) (readD D 0 1).1 a ∧ HeadIs (64 * (secsD D - 1)) (readD D (secsD D) 1).1 b ∧
  J.D = D ∧ J.half = (pickH a.1 a.2 b.1 b.2).1 ∧ J.age = (pickH a.1 a.2 b.1 b.2).2.1 ∧ J.e = ((rowS 0 J.l).length : Int) ∧ (J.age = 0 → J.l = []) ∧
  (J.age ≠ 0 → RowIs J.age ((readD D (J.half * secsD D + 1) (secsD D - 1)).1.take (pickH a.1 a.2 b.1 b.2).2.2.toNat) J.l)
theorem Loads.func {D : DrumS} {J J' : JnS} (hG : D.Good) (h : Loads D J) (h' : Loads D J') : J = J' := by
  obtain ⟨a, b, h1, h2, h3, h4, h5, h6, h7, h8⟩ := h
  obtain ⟨a', b', k1, k2, k3, k4, k5, k6, k7, k8⟩ := h'
  have hs := secs_le hG
  obtain rfl := h1.func (by omega) k1
  obtain rfl := h2.func (by omega) k2
  have el : J.l = J'.l := by
    by_cases z : J.age = 0
    · rw [h7 z, k7 (by rw [k5, ← h5]; exact z)]
    · have r1 := h8 z
      have r2 := k8 (by rw [k5, ← h5]; exact z)
      rw [k5, ← h5, k4, ← h4] at r2
      exact r1.func r2
  obtain ⟨D1, h1_, a1, l1, e1⟩ := J
  obtain ⟨D2, h2_, a2, l2, e2⟩ := J'
  simp only at *
  subst h3 h4 h5 k3 k4 k5 el
  rw [h6, k6]
theorem load_ev {D : DrumS} (hG : D.Good) (hs : 1 ≤ secsD D) (hby : By D.seen) (hlen : D.seen.length ≤ 100000) : ∃ J, Loads D J ∧ (∃ K, ∀ k, K ≤ k → loadOf k 100001 D = some (J)) := by
  have hsd : 2 * secsD D ≤ (D.seen.length / 64 : Nat) := by unfold secsD; omega
  have hbr : ∀ at_ n, By (readD D at_ n).1 := fun at_ n x hx => hby x ((readD_mem D at_ n).1 x hx)
  have hr : 0 ≤ 64 * (secsD D - 1) ∧ 64 * (secsD D - 1) ≤ 9000000000 := by have := secs_le hG; omega
  have l0 : (readD D 0 1).1.length = 64 := by have := (readD_ok hG (at_ := 0) (n := 1) (by omega) (by omega) (by omega)).1; omega
  have l1 : (readD D (secsD D) 1).1.length = 64 := by have := (readD_ok hG (at_ := secsD D) (n := 1) (by omega) (by omega) (by omega)).1; omega
  obtain ⟨a, ha, R, ⟨K1, hR⟩, eR⟩ := head_is _ hr _ (hbr 0 1) l0
  obtain ⟨b, hb, R', ⟨K2, hR'⟩, eR'⟩ := head_is _ hr _ (hbr (secsD D) 1) l1
  have e0 : ∀ k, K1 ≤ k → headOf k D 0 = some a := fun k hk => by
    unfold headOf
    rw [Int.zero_mul, hR k hk, Option.map_some, eR]
  have e1 : ∀ k, K2 ≤ k → headOf k D 1 = some b := fun k hk => by
    unfold headOf
    rw [Int.one_mul, hR' k hk, Option.map_some, eR']
  by_cases z : (pickH a.1 a.2 b.1 b.2).2.1 = 0
  · refine ⟨{ D := D, half := (pickH a.1 a.2 b.1 b.2).1, age := 0, l := [], e := 0 }, ⟨a, b, ha, hb, rfl, rfl, z.symm, rfl, fun _ => rfl, fun h => absurd rfl h⟩, K1 + K2, fun k hk => ?_⟩
    unfold loadOf
    rw [e0 k (by omega), Option.bind_some, e1 k (by omega), Option.bind_some, if_pos z]
  · have hm := readD_mem D ((pickH a.1 a.2 b.1 b.2).1 * secsD D + 1) (secsD D - 1)
    have hll := List.length_take_le' (pickH a.1 a.2 b.1 b.2).2.2.toNat (readD D ((pickH a.1 a.2 b.1 b.2).1 * secsD D + 1) (secsD D - 1)).1
    obtain ⟨l, hl, K3, h3⟩ := row_is (pickH a.1 a.2 b.1 b.2).2.1 ((readD D ((pickH a.1 a.2 b.1 b.2).1 * secsD D + 1) (secsD D - 1)).1.take (pickH a.1 a.2 b.1 b.2).2.2.toNat) ((hbr _ _).take _) (by omega) _ 0 (Nat.zero_le _) (Nat.le_refl _)
    rw [List.drop_zero] at hl
    refine ⟨{ D := D, half := (pickH a.1 a.2 b.1 b.2).1, age := (pickH a.1 a.2 b.1 b.2).2.1, l := l, e := ((rowS 0 l).length : Int) }, ⟨a, b, ha, hb, rfl, rfl, rfl, rfl, fun h => absurd h z, fun _ => hl⟩, K1 + K2 + K3, fun k hk => ?_⟩
    unfold loadOf
    rw [e0 k (by omega), Option.bind_some, e1 k (by omega), Option.bind_some, if_neg z, four_ev, Option.bind_some]
    have h4 := h3 k (by omega) [] 100001 (by omega)
    rw [show ((0 : Nat) : Int) = 0 from rfl] at h4
    rw [h4, Option.map_some, List.nil_append, Nat.zero_add, rowS_len]
theorem pick_in {a b : Int × Int} {room : Int} {x y : List Int} (hr : 0 ≤ room) (ha : HeadIs room x a) (hb : HeadIs room y b) : ((pickH a.1 a.2 b.1 b.2).1 = 0 ∨ (pickH a.1 a.2 b.1 b.2).1 = 1) ∧ (0 ≤ (pickH a.1 a.2 b.1 b.2).2.1 ∧ (pickH a.1 a.2 b.1 b.2).2.1 ≤ 2147483647) ∧ 0 ≤ (pickH a.1 a.2 b.1 b.2).2.2 ∧ (pickH a.1 a.2 b.1 b.2).2.2 ≤ room := by
  have key : ∀ {z : Int × Int} {w : List Int}, HeadIs room w z → (0 ≤ z.1 ∧ z.1 ≤ 2147483647) ∧ 0 ≤ z.2 ∧ z.2 ≤ room := by
    intro z w h
    rcases h with ⟨h1, h2, h3, h4, _⟩ | ⟨h1, _⟩
    · omega
    · rw [h1]; exact ⟨by decide, by decide, hr⟩
  obtain ⟨p1, p2⟩ := pickH_in a b
  refine ⟨p1, ?_⟩
  rcases p2 with e | e <;> rw [e]
  · exact key ha
  · exact key hb
theorem Loads.ok {N : Nat} {D : DrumS} {J : JnS} (h : Loads D J) (hF : D.Fine N) (hs : 1 ≤ secsD D) : JOk N J := by
  obtain ⟨a, b, h1, h2, h3, h4, h5, h6, h7, h8⟩ := h
  obtain ⟨p1, p2, p3⟩ := pick_in (by omega) h1 h2
  have hsec : J.secs = secsD D := by rw [JnS.secs_eq, h3]
  have hall : (∀ x ∈ J.l, Small x ∧ mayS x = true) ∧ ((rowS 0 J.l).length : Int) ≤ 64 * (secsD D - 1) := by
    by_cases z : J.age = 0
    · rw [h7 z]
      exact ⟨(fun x hx => by cases hx), (by simp [rowS]; omega)⟩
    · obtain ⟨t, t1, t2, _⟩ := h8 z
      refine ⟨t2, ?_⟩
      have := congrArg List.length t1
      rw [List.length_take, List.length_append, rowS_len] at this
      omega
  exact ⟨by rw [h3]; exact hF, by rw [h4]; exact p1, by rw [h5]; exact p2, by rw [hsec]; exact hs, fun x hx => (hall.1 x hx).1, fun x hx => (hall.1 x hx).2, h6, by rw [h6, hsec]; exact hall.2⟩
end Go.Proofs.Ytfmdllbkfpbdcaa.Q
end
section
namespace Go.Proofs.Ytfmdllbkfpbdcaa.Q
open Go Go.RowKit Go.Proofs.Ytfmdllbkfpbdcaa.G Go.Proofs.YtfmdllbkfpbdcaaW.PrintWords Go.Proofs.YtfmdllbkfpbdcaaW.PrintLast Go.Proofs.YtfmdllbkfpbdcaaW.PrintMore
theorem firsts_of (kk : Nat) {D : DrumS} (hby : By D.seen) (hlen : D.seen.length ≤ 100000) : Firsts kk D := fun l z hm hl hz he => by
  obtain ⟨R, h1, _, h3⟩ := both_first l (fun x hx => hby x (hm x hx)) (by omega)
  have e := ev_one (fun k => frame_First.mono l k) hz h1
  rcases h3 with ⟨ns, ts, tail, hh, hle, eb, rfl⟩ | ⟨er, he', rfl, _⟩
  · rw [e, eb]
    simp only [List.length_append]
    omega
  · rw [e] at he
    exact absurd he he'
set_option maxHeartbeats 4000000 in
theorem open_c {S : Nat → Prop} {B N : Nat} {w : World} {g s k : Nat} {D : DrumS} {J : JnS} (h : IsDr S B w g s k D) (hB : B ≤ w.heap.size) (hF : D.Fine N) (hN : N ≤ 800000000) (hs : 1 ≤ secsD D) (hby : By D.seen) (hlen : D.seen.length ≤ 100000) (hl : Loads D J) :
    Calls Try.prog 28 #[.pointer (some ⟨g, 0, none⟩)] w fun e w' => ∃ S' j, e = .returned (.tuple #[.pointer (ptrIf (anewS J J.l).2 j), .int .i64 (anewS J J.l).2]) ∧ IsJn S' S B w' j g s k (anewS J J.l).1 ∧ (∀ b, S' b → S b) ∧ w.heap.size ≤ j ∧ Below B w w' ∧ Kept w w' S := by
  have hO := hl.ok hF hs
  have hag := hO.age
  have hei := hO.e_in
  have hro := hO.row
  have hln := hO.len
  obtain ⟨J', hl', K3, h5⟩ := load_ev hF.good hs hby hlen
  have eJ := hl'.func hF.good hl
  subst eJ
  have hr2 := rowS_len (J'.age + 1) J'.l
  obtain ⟨K1, h1⟩ := row_ok (J'.age + 1) J'.l [] hO.small hO.may
  rw [List.nil_append] at h1
  obtain ⟨K2, h2⟩ := Frame_ev [7, J'.age + 1, ((rowS (J'.age + 1) J'.l).length : Int)] [] (head_held _ _ (by omega) (by omega))
  have he := head_enc (J'.age + 1) ((rowS (J'.age + 1) J'.l).length : Int) (by omega) (by omega)
  have hf := head_frm (J'.age + 1) ((rowS (J'.age + 1) J'.l).length : Int) (by omega) (by omega)
  have hb := headB_len (J'.age + 1) ((rowS (J'.age + 1) J'.l).length : Int) (by omega) (by omega)
  have hfl := fillS_len (rowS (J'.age + 1) J'.l)
  have h3 := h2 (K1 + K2 + K3) (by omega)
  rw [if_pos (by omega)] at h3
  have hc := open_blk (K1 + K2 + K3) 100001 (rowS (J'.age + 1) J'.l) 0 (fillS (rowS (J'.age + 1) J'.l)) _ (headB (J'.age + 1) ((rowS (J'.age + 1) J'.l).length : Int)) 0 h hB hF hN hs (by decide) (firsts_of _ hby hlen) (h5 _ (by omega))
    ⟨by omega, fun x hx => (hO.small x hx).2, h1 _ (by omega), fun x hx b e hb => framed_le x (hO.small x hx) _ _ b e hb, fun _ => ⟨filled_ev _ (by omega), by omega⟩, fun _ => ⟨h3, filled_ev _ (by omega), by omega⟩⟩
  have e_ : anewJ J' J'.l (rowS (J'.age + 1) J'.l) 0 (fillS (rowS (J'.age + 1) J'.l)) (headB (J'.age + 1) ((rowS (J'.age + 1) J'.l).length : Int)) = anewS J' J'.l := by
    unfold anewS
    by_cases ha : J'.age = 2147483647
    · rw [anewJ_full ha, if_pos ha]
    · rw [if_neg ha, if_neg (fun h => h hO.may)]
      by_cases hr : ((rowS 0 J'.l).length : Int) > 64 * (J'.secs - 1)
      · rw [if_pos hr, anewJ_long ha rfl (by rw [hr2]; exact hr)]
      · rw [if_neg hr, anewJ_ok ha rfl (by rw [hr2]; exact hr)]
        rfl
  rw [e_] at hc
  exact hc
theorem opened_ok {N : Nat} {J : JnS} (hO : JOk N J) (ha : J.age ≠ 2147483647) : anewS J J.l = (newS J J.l, 0) := by
  unfold anewS
  rw [if_neg ha, if_neg (fun h => h hO.may), if_neg (by have := hO.row; have := hO.room; omega)]
end Go.Proofs.Ytfmdllbkfpbdcaa.Q
end
section
namespace Go.Proofs.Ytfmdllbkfpbdcaa.Q
open Go Go.RowKit Go.Proofs.Ytfmdllbkfpbdcaa.G Go.Proofs.YtfmdllbkfpbdcaaX Go.Proofs.YtfmdllbkfpbdcaaW.PrintWords Go.Proofs.YtfmdllbkfpbdcaaW.PrintLast Go.Proofs.YtfmdllbkfpbdcaaW.PrintMore
theorem jn_fresh {S T : Nat → Prop} {B : Nat} {W W2 : World} {j g s k : Nat} {J : JnS} (h : IsJn S T B W j g s k J) (hb : Below W.heap.size W W2) :
    IsJn (fun b => S b ∧ ¬ (W.heap.size ≤ b ∧ b < W2.heap.size)) (fun b => T b ∧ ¬ (W.heap.size ≤ b ∧ b < W2.heap.size)) B W2 j g s k J := by
  obtain ⟨v, h1, h2, h3, h4, h5, t1, t2, t3⟩ := h.apart hb
  have hj : j < W.heap.size := by obtain ⟨v', h1', _⟩ := h; exact blk_lt h1'
  have hv : ∀ b, v.ownBlock = some b → b < W.heap.size := by
    obtain ⟨v', h1', _, h3', _⟩ := h
    have e : v' = v := by
      have e_ := ((hb.block j (blk_lt h1')).trans h1').symm.trans h1
      injection e_ with e_
      injection e_ with e_ _ _
      exact Option.some.inj (show some v' = some v from congrArg (fun a : Array Value => a[3]?) e_)
    subst e
    exact fun b hb' => Kd.N_lt h3' b hb'
  exact ⟨v, h1, h2, h3, h4, h5, ⟨t1, fun h => by omega⟩, fun b hb' => ⟨t2 b hb', fun h => by have := hv b hb'; omega⟩, fun b hS => ⟨t3 b hS, hS.2⟩⟩
theorem jn_some {S T : Nat → Prop} {B : Nat} {W : World} {j g s k : Nat} {J : JnS} (h : IsJn S T B W j g s k J) : ∃ T', IsJn S T' B W j g s k J := ⟨T, h⟩
theorem head_zero (room : Int) (hr : room ≤ 9000000000) : HeadIs room (List.replicate 64 0) (0, 0) := by
  refine .inr ⟨rfl, fun g e h1 h2 h3 h4 h => ?_⟩
  have hf := headB_form g e ⟨h1, h2⟩ ⟨h3, by omega⟩
  have he := head_enc g e (by omega) (by omega)
  have hp : 1 ≤ (enc [7, g, e] []).length := by
    unfold enc
    simp only [List.length_append]
    have := countS_pos ([7, g, e] : List Int).length
    omega
  rw [hf.1] at h
  unfold frm at h
  rw [countS, dif_pos (by omega)] at h
  injection h with h _
  omega
theorem nil_end (age : Int) (x : Dat) (t : List Int) : ([] : List Int) ≠ frA x age ++ t := fun h => by
  have := frm_pos x.f0 (fourT age :: x.f1)
  have h2 := congrArg List.length h
  unfold frA at h2
  rw [List.length_append, List.length_nil] at h2
  omega
def x5 : Dat := ⟨[5], []⟩
def x6 : Dat := ⟨[6], []⟩
theorem small_one (n : Int) (h : I64 n) : Small ⟨[n], []⟩ := ⟨⟨by simp, fun m hm => by rw [List.mem_singleton.1 hm]; exact h, by simp, fun s hs => by cases hs⟩, by simp, by simp⟩
def aJ0 : JnS := { D := newD 8, half := 1, age := 0, l := [], e := 0 }
def aJ1 : JnS := newS aJ0 []
def aJ2 : JnS := (appS aJ1 x5).1
def aJ3 : JnS := syncS aJ2
def aJ4 : JnS := (appS aJ3 x6).1
def aD5 : DrumS := crashD [] aJ4.D
def aJ5 : JnS := { D := aD5, half := 0, age := 1, l := [x5], e := ((rowS 0 [x5]).length : Int) }
set_option maxRecDepth 100000
theorem aw0 : Loads (newD 8) aJ0 := by
  refine ⟨(0, 0), (0, 0), ?_, ?_, rfl, rfl, rfl, rfl, fun _ => rfl, fun h => absurd rfl h⟩
  · rw [show (readD (newD 8) 0 1).1 = List.replicate 64 0 from by decide +kernel]
    exact head_zero _ (by decide +kernel)
  · rw [show (readD (newD 8) (secsD (newD 8)) 1).1 = List.replicate 64 0 from by decide +kernel]
    exact head_zero _ (by decide +kernel)
theorem aw_app : (appS aJ1 x5).2 = 0 := by decide +kernel
theorem aw_by : By aD5.seen := by
  have h : ∀ x ∈ aD5.seen, 0 ≤ x ∧ x ≤ 255 := by decide +kernel
  exact h
theorem aw_len : aD5.seen.length = 512 := by decide +kernel
theorem aw5 : Loads aD5 aJ5 := by
  refine ⟨(1, 13), (0, 0), .inl ⟨by decide, by decide, by decide, by decide +kernel, by decide +kernel⟩, ?_, rfl, rfl, rfl, rfl, fun h => absurd h (by decide), fun _ => ⟨[], by decide +kernel, fun x hx => ?_, fun x t _ _ => nil_end 1 x t⟩⟩
  · rw [show (readD aD5 (secsD aD5) 1).1 = List.replicate 64 0 from by decide +kernel]
    exact head_zero _ (by decide +kernel)
  · rw [List.mem_singleton.1 hx]
    exact ⟨small_one 5 (by constructor <;> decide), by decide +kernel⟩
theorem aw_all : ∃ (D0 : DrumS) (J0 J1 J2 J3 J4 : JnS) (D5 : DrumS) (J5 J6 : JnS), newD 8 = D0 ∧ D0.Fine 0 ∧ (1 ≤ secsD D0 ∧ By D0.seen ∧ D0.seen.length ≤ 100000) ∧ Loads D0 J0 ∧ anewS J0 J0.l = (J1, 0) ∧ JOk 10000 J1 ∧ appS J1 x5 = (J2, 0) ∧ JOk 20000 J2 ∧ syncS J2 = J3 ∧ JOk 30000 J3 ∧
    (appS J3 x6).1 = J4 ∧ JOk 40000 J4 ∧ crashD [] J4.D = D5 ∧ D5.Fine 0 ∧ (1 ≤ secsD D5 ∧ By D5.seen ∧ D5.seen.length ≤ 100000) ∧ Loads D5 J5 ∧ anewS J5 J5.l = (J6, 0) ∧ JOk 10000 J6 ∧ J6.l = [x5] := by
  have s5 := small_one 5 (by constructor <;> decide)
  have s6 := small_one 6 (by constructor <;> decide)
  have f0 := fine_new 8 (by decide) (by decide)
  have o0 : JOk 0 aJ0 := aw0.ok f0 (by decide +kernel)
  have e1 := opened_ok o0 (by decide)
  have o1 : JOk 10000 aJ1 := by have := o0.anewS (l := []) (fun x hx => by cases hx); rw [show anewS aJ0 [] = (newS aJ0 [], 0) from e1] at this; exact this
  have o2 : JOk 20000 aJ2 := (o1.appS s5).le (by decide)
  have o3 : JOk 30000 aJ3 := o2.sync.le (by decide)
  have o4 : JOk 40000 aJ4 := (o3.appS s6).le (by decide)
  have f5 : aD5.Fine 0 := fine_crash o4.fine []
  have o5 : JOk 0 aJ5 := aw5.ok f5 (by decide +kernel)
  have e6 := opened_ok o5 (by decide)
  have o6 : JOk 10000 (newS aJ5 aJ5.l) := by have := o5.anewS o5.small; rw [e6] at this; exact this.le (by decide)
  exact ⟨newD 8, aJ0, aJ1, aJ2, aJ3, aJ4, aD5, aJ5, newS aJ5 aJ5.l, rfl, f0, ⟨by decide +kernel, by (show ∀ x ∈ (newD 8).seen, 0 ≤ x ∧ x ≤ 255); decide +kernel, by decide +kernel⟩, aw0, e1, o1, Prod.ext rfl aw_app, o2, rfl, o3, rfl, o4, rfl, f5, ⟨by decide +kernel, aw_by, by rw [aw_len]; decide⟩, aw5, e6, o6, rfl⟩
theorem rec_one {W : World} {ok : Nat → Prop} {A : Option Addr} (h : Kd.F k48 W ok A ([x5] : List Dat).length [x5]) : ∃ ab ao bb bo d0, A = some ⟨ab, ao, none⟩ ∧ W.cell? ⟨ab, ao, none⟩ = some (.slice (some ⟨bb, bo, none⟩) 1 d0) ∧ W.cell? ⟨bb, bo, none⟩ = some (.int .i64 5) := by
  obtain ⟨ad, B0, d0, B1, d1, eA, y0, y1, q0, g0, q1, g1⟩ := at_FD h 0 (by decide) (by decide)
  obtain ⟨ad2, eA2, y2⟩ := Kd.at_int (Kd.F_now g0) 0 (by decide) (by decide)
  subst eA2
  rw [show (0 : Int).toNat * 2 = 0 from rfl, Addr.add_zero'] at y0
  rw [show (0 : Int).toNat = 0 from rfl, Addr.add_zero'] at y2
  have s0 := cell_spot y0
  have s2 := cell_spot y2
  obtain ⟨ab, ao, sa⟩ := ad
  obtain ⟨bb, bo, sb⟩ := ad2
  simp only at s0 s2
  injection s0 with _ _ s0
  injection s2 with _ _ s2
  subst s0 s2
  exact ⟨ab, ao, bb, bo, d0, eA, y0, y2⟩
set_option maxHeartbeats 16000000 in
theorem awake10_calls (w : World) : Calls Try.prog 29 #[] w fun e w' => e = .returned (.bool true) ∧ Below w.heap.size w w' := by
  obtain ⟨D0, J0, J1, J2, J3, J4, D5, J5, J6, hD0, f0, ⟨s0, b0, n0⟩, l0, e1, o1, e2, o2, e3, o3, e4, o4, hD5, f5, ⟨s5, b5, n5⟩, l5, e6, o6, hl⟩ := aw_all
  have HD0 := Aside0.mk hD0
  have F0 := Aside0.mk f0
  have S0 := Aside0.mk s0
  have B0 := Aside0.mk b0
  have N0 := Aside0.mk n0
  have L0 := Aside0.mk l0
  have E1 := Aside0.mk e1
  have O1 := Aside0.mk o1
  have E2 := Aside0.mk e2
  have O2 := Aside0.mk o2
  have E3 := Aside0.mk e3
  have O3 := Aside0.mk o3
  have E4 := Aside0.mk e4
  have O4 := Aside0.mk o4
  have HD5 := Aside0.mk hD5
  have F5 := Aside0.mk f5
  have S5 := Aside0.mk s5
  have B5 := Aside0.mk b5
  have N5 := Aside0.mk n5
  have L5 := Aside0.mk l5
  have E6 := Aside0.mk e6
  have O6 := Aside0.mk o6
  have HL := Aside0.mk hl
  have S5x := Aside0.mk (small_one 5 (by constructor <;> decide))
  have S6x := Aside0.mk (small_one 6 (by constructor <;> decide))
  have HZ : Aside0 J6.Sized := ⟨⟨by rw [hl]; decide, fun x hx => by rw [hl] at hx; rw [List.mem_singleton.1 hx]; decide⟩⟩
  clear hD0 f0 s0 b0 n0 l0 e1 o1 e2 o2 e3 o3 e4 o4 hD5 f5 s5 b5 n5 l5 e6 o6 hl
  have hu48 := Try.underlying48
  go_enter Try.func29, Try.ntmps29
  go_wp2_with (first
    | (go_at_call 10; (with_reducible refine (new_ok 8 _ (by decide) (by decide) (by decide)).mono ?_); rintro e w1 ⟨g, s, k, rfl, hd, hb⟩; rw [HD0.out] at hd; have n_ := pk2 hd hb; clear hd hb; obtain ⟨HDa, HB⟩ := n_)
    | (go_at_call 28; (with_reducible refine (open_c HDa.out HB.out.size F0.out (by decide) S0.out B0.out N0.out L0.out).mono ?_); rintro e w2 ⟨S2, j, he, hj, hss, hjs, hb, hk⟩; rw [E1.out] at he hj; rw [ptrIf_ok rfl] at he; subst he; have n_ := pk2 hj (HB.out.trans hb); clear hj hss hjs hb hk HB HDa; obtain ⟨HJ1, HB⟩ := n_)
    | ((with_reducible refine gate_dst (N := 25) rfl ?_); refine Kd.R_lit (Kd.int .i64) _ 3 ?hg (N := 25) ?hd (xs := ([5] : List Int)) (inner := [.int .i64 5]) (ok := fun _ => True) (okp := fun _ => True) ?hr ?hp (fun _ hk => hk) trivial (Below.refl _ _) (Nat.le_refl _) (by simp) ?_; (case hd => rfl); (case hg => rfl); (case hr => first | (go_simp; done) | (go_simp; rfl)); (case hp => exact (Reps.one (show Kd.M (Kd.int .i64) _ _ _ 5 [.int .i64 5] from rfl) (Reps.none _ _))); intro v25 w25 ho hb hg_ hnew_; obtain ⟨A25, c25, hv⟩ := Kd.R_slice ho; subst hv; clear hg_ hnew_; have n_ := pk5 (jn_fresh HJ1.out hb) (show Kd.F (Kd.int .i64) w25 (fun b => ¬ ((fun b => w.heap.size ≤ b) b ∧ ¬ ((w2).heap.size ≤ b ∧ b < w25.heap.size))) A25 ([5] : List Int).length [5] from Kd.F_mono (Kd.R_F (Kd.R_bound ho)) (fun k hk h => h.2 ⟨hk.2.1, hk.2.2.1⟩)) (Kd.R_reads' ho).2.1 (HB.out.trans (hb.mono HB.out.size)) hb; clear ho hb HB HJ1; obtain ⟨HJ1b, FL5, LL5, HB, HBx⟩ := n_)
    | (go_at_call 24; refine (append_c A25 c25 none 0 x5 HJ1b.out HB.out.size O1.out (by decide) FL5.out LL5.out (Kd.F_nil _ _ _) (Nat.le_refl _) S5x.out).mono ?_; rintro e w3 ⟨S3, he, hj, hss, hb, hk⟩; rw [E2.out] at he hj; subst he; obtain ⟨T3, hj⟩ := jn_some hj; have n_ := pk2 hj (HB.out.trans hb); clear hj hss hb hk HB HJ1b FL5 LL5 HBx; obtain ⟨HJ2, HB⟩ := n_)
    | (go_at_call 22; (with_reducible refine (sync_c HJ2.out HB.out.size O2.out (by decide)).mono ?_); rintro e w4 ⟨⟨v4, rfl⟩, hj, hb, hk⟩; rw [E3.out] at hj; have n_ := pk2 hj (HB.out.trans hb); clear hj hb hk HB HJ2; obtain ⟨HJ3, HB⟩ := n_)
    | ((with_reducible refine gate_dst (N := 31) rfl ?_); refine Kd.R_lit (Kd.int .i64) _ 3 ?hg (N := 31) ?hd (xs := ([6] : List Int)) (inner := [.int .i64 6]) (ok := fun _ => True) (okp := fun _ => True) ?hr ?hp (fun _ hk => hk) trivial (Below.refl _ _) (Nat.le_refl _) (by simp) ?_; (case hd => rfl); (case hg => rfl); (case hr => first | (go_simp; done) | (go_simp; rfl)); (case hp => exact (Reps.one (show Kd.M (Kd.int .i64) _ _ _ 6 [.int .i64 6] from rfl) (Reps.none _ _))); intro v31 w31 ho hb hg_ hnew_; obtain ⟨A31, c31, hv⟩ := Kd.R_slice ho; subst hv; clear hg_ hnew_; have n_ := pk5 (jn_fresh HJ3.out hb) (show Kd.F (Kd.int .i64) w31 (fun b => ¬ (T3 b ∧ ¬ ((w4).heap.size ≤ b ∧ b < w31.heap.size))) A31 ([6] : List Int).length [6] from Kd.F_mono (Kd.R_F (Kd.R_bound ho)) (fun k hk h => h.2 ⟨hk.2.1, hk.2.2.1⟩)) (Kd.R_reads' ho).2.1 (HB.out.trans (hb.mono HB.out.size)) hb; clear ho hb HB HJ3; obtain ⟨HJ3b, FL6, LL6, HB, HBx⟩ := n_)
    | (go_at_call 24; refine (append_c A31 c31 none 0 x6 HJ3b.out HB.out.size O3.out (by decide) FL6.out LL6.out (Kd.F_nil _ _ _) (Nat.le_refl _) S6x.out).mono ?_; rintro e w5 ⟨Sa, he, hj, hss, hb, hk⟩; rw [E4.out] at hj; subst he; have n_ := pk2 hj.dr (HB.out.trans hb); clear hj hss hb hk HB HJ3b FL6 LL6 HBx; obtain ⟨HD4, HB⟩ := n_; generalize (appS J3 x6).2 = rc)
    | (go_at_call 16; refine (crash_calls _ _ _ g s k J4.D none 0 [] HD4.out HB.out.size O4.out.fine.good (Kd.F_nil _ _ _)).mono ?_; rintro e w6 ⟨⟨v6, rfl⟩, hd, hb, hk⟩; rw [HD5.out] at hd; have n_ := pk2 hd (HB.out.trans hb); clear hd hb hk HB HD4; obtain ⟨HDb, HB⟩ := n_)
    | (go_at_call 28; (with_reducible refine (open_c HDb.out HB.out.size F5.out (by decide) S5.out B5.out N5.out L5.out).mono ?_); rintro e w7 ⟨S7, j7, he, hj, hss, hjs, hb, hk⟩; rw [E6.out] at he hj; rw [ptrIf_ok rfl] at he; subst he; have n_ := pk2 hj (HB.out.trans hb); clear hj hss hjs hb hk HB HDb; obtain ⟨HJ6, HB⟩ := n_)
    | (go_at_call 23; refine (IsJn.records HJ6.out HZ.out).mono ?_; rintro e w8 ⟨v8, rfl, ho, hb⟩; rw [HL.out] at ho; obtain ⟨A8, c8, hv⟩ := Kd.N_slice ho; subst hv; have n_ := pk1 (HB.out.trans (hb.mono HB.out.size)); clear hb HB; have HB := n_; obtain ⟨ab, ao, bb, bo, d0, eA, y0, y2⟩ := rec_one (Kd.N_F ho); subst eA; clear ho)
    | fail)
  go_ret
  exact ⟨rfl, HB.out⟩
end Go.Proofs.Ytfmdllbkfpbdcaa.Q
end
section
namespace Go.Proofs.Ytfmdllbkfpbdcaa.G
open Go Go.RowKit Go.Proofs.YtfmdllbkfpbdcaaX Go.Proofs.YtfmdllbkfpbdcaaW.PrintWords Go.Proofs.YtfmdllbkfpbdcaaW.PrintLast Go.Proofs.YtfmdllbkfpbdcaaW.PrintMore Go.Proofs.Ytfmdllbkfpbdcaa.Q
theorem is_zero (W : World) (g : Nat) (h : W.heap[g]? = some (.cells #[.pointer none, .int .i64 0, .int .i64 0, .slice none 0 0, .int .i64 0] 54 (0, 0))) : Calls Try.prog 51 #[.pointer (some ⟨g, 0, none⟩)] W fun e w' => e = .returned (.bool false) ∧ w' = W := is_blk W g none _ _ _ _ h
def windroselaw10_JournalNobody.f (k : Nat) (a0_0 : Int) (l0_1 : List Int) (l0_2 : List ByteArray) (l0_3 : List S48) (a0_4 a0_5 a0_6 : Int) (l0_7 : List Int) (l0_8 : List Bool) : Option Bool := some true
theorem blk_at9 {W : World} {g T : Nat} {v0 v1 v2 v3 v4 v5 v6 v7 v8 : Value} (h : W.heap[g]? = some (.cells #[v0, v1, v2, v3, v4, v5, v6, v7, v8] T (0, 0))) : W.cell? ⟨g, 1, none⟩ = some v1 ∧ W.cell? ⟨g, 2, none⟩ = some v2 ∧ W.cell? ⟨g, 3, none⟩ = some v3 := ⟨(blk_cell h 1).trans rfl, (blk_cell h 2).trans rfl, (blk_cell h 3).trans rfl⟩
set_option maxHeartbeats 16000000 in
set_option maxRecDepth 100000 in
theorem JournalNobody_calls (a0 : Int) (s1 s2 : Value) (A3 : Option Addr) (n3 c3 : Nat) (a4 a5 a6 : Int) (s7 s8 : Value) (h1 : ∃ A n c, s1 = .slice A n c) (h2 : ∃ A n c, s2 = .slice A n c) (h7 : ∃ A n c, s7 = .slice A n c) (h8 : ∃ A n c, s8 = .slice A n c) (w : World) :
    Calls Try.prog 6 #[.agg #[.int .i64 a0, s1, s2, .slice A3 n3 c3, .int .i64 a4, .int .i64 a5, .int .i64 a6, s7, s8]] w fun e w' => e = .returned (.bool true) ∧ Below w.heap.size w w' := by
  obtain ⟨A1, n1, c1, rfl⟩ := h1
  obtain ⟨A2, n2, c2, rfl⟩ := h2
  obtain ⟨A7, n7, c7, rfl⟩ := h7
  obtain ⟨A8, n8, c8, rfl⟩ := h8
  have hu54 := Try.underlying54
  have hu51 := Try.underlying51
  have hu48 := Try.underlying48
  have HB := Aside0.mk (Below.refl w.heap.size w)
  go_enter Try.func6, Try.ntmps6
  go_wp2_with (first | ((with_reducible refine gate_dst (N := 1) rfl ?_); refine box_ev 1 #[.int .i64 a0, .slice A1 n1 c1, .slice A2 n2 c2, .slice A3 n3 c3, .int .i64 a4, .int .i64 a5, .int .i64 a6, .slice A7 n7 c7, .slice A8 n8 c8] 51 ?_; intro gb1 hg w1 hbox hb; have n_ := pk3 (below_step bl_ hb) hbox (ge_ hg bl_ : w.heap.size ≤ gb1); clear HB; obtain ⟨HB, BK, GB⟩ := n_; clear hb hbox hg; obtain ⟨x1, x2, x3⟩ := blk_at9 BK.out))
  refine wp_loop_rounds 3 ?_
  rw [rounds_succ]
  go_wp2_with (first
    | (go_at_call 22; (with_reducible refine (sync_nobody _ _ (is_nil _)).mono ?_); rintro e w2 ⟨⟨v2, rfl⟩, rfl⟩)
    | (go_at_call 23; (with_reducible refine (records_nobody _ _ (is_nil _)).mono ?_); rintro e w3 ⟨rfl, rfl⟩)
    | (go_at_call 24; (with_reducible refine (append_nobody _ _ _ _ (fun W _ => is_nil W)).mono ?_); rintro e w4 ⟨rfl, hb⟩; have n_ := pk2 (below_step HB.out hb) (blk_below BK.out hb); clear HB BK hb x1 x2 x3; obtain ⟨HB, BK⟩ := n_; obtain ⟨x1, x2, x3⟩ := blk_at9 BK.out)
    | (go_at_call 25; (with_reducible refine (anew_nobody _ _ _ (is_nil _)).mono ?_); rintro e w5 ⟨rfl, rfl⟩)
    | (go_at_call 26; (with_reducible refine (left_nobody _ _ (is_nil _)).mono ?_); rintro e w6 ⟨rfl, rfl⟩)
    | (go_at_call 27; (with_reducible refine (gone_nobody _ _ (is_nil _)).mono ?_); rintro e w7 ⟨rfl, rfl⟩))
  rw [rounds_succ]
  obtain ⟨x1, x2, x3⟩ := blk_at9 BK.out
  go_wp2_with (first
    | ((with_reducible refine gate_dst (N := 14) rfl ?_); refine box_ev 14 #[.pointer none, .int .i64 0, .int .i64 0, .slice none 0 0, .int .i64 0] 54 ?_; intro gz hg w12 hbox hb; have n_ := pk3 hbox (below_step HB.out hb) (blk_below BK.out hb); clear hb hbox hg; clear HB BK x1 x2 x3; obtain ⟨HZ, HB, BK⟩ := n_; obtain ⟨x1, x2, x3⟩ := blk_at9 BK.out)
    | (go_at_call 22; (with_reducible refine (sync_nobody _ _ (is_zero _ gz HZ.out)).mono ?_); rintro e w2 ⟨⟨v2, rfl⟩, rfl⟩)
    | (go_at_call 23; (with_reducible refine (records_nobody _ _ (is_zero _ gz HZ.out)).mono ?_); rintro e w3 ⟨rfl, rfl⟩)
    | (go_at_call 24; (with_reducible refine (append_nobody _ _ _ _ (fun W hW => is_zero W gz (blk_below HZ.out hW))).mono ?_); rintro e w4 ⟨rfl, hb⟩; have n_ := pk3 (below_step HB.out hb) (blk_below BK.out hb) (blk_below HZ.out hb); clear HB BK HZ hb x1 x2 x3; obtain ⟨HB, BK, HZ⟩ := n_; obtain ⟨x1, x2, x3⟩ := blk_at9 BK.out)
    | (go_at_call 25; (with_reducible refine (anew_nobody _ _ _ (is_zero _ gz HZ.out)).mono ?_); rintro e w5 ⟨rfl, rfl⟩)
    | (go_at_call 26; (with_reducible refine (left_nobody _ _ (is_zero _ gz HZ.out)).mono ?_); rintro e w6 ⟨rfl, rfl⟩)
    | (go_at_call 27; (with_reducible refine (gone_nobody _ _ (is_zero _ gz HZ.out)).mono ?_); rintro e w7 ⟨rfl, rfl⟩))
  rw [rounds_succ]
  go_wp2_with (first
    | (go_at_call 28; (with_reducible refine (open_nil _).mono ?_); rintro e w8 ⟨rfl, rfl⟩)
    | (go_at_call 29; (with_reducible refine (awake10_calls _).mono ?_); rintro e w13 ⟨rfl, hb⟩; have HB6 := Aside0.mk (below_step HB.out hb); clear hb))
  go_ret
  exact ⟨rfl, HB6.out⟩
theorem windroselaw10_JournalNobody.calls (k : Nat) (a0_0 : Int) (A0_1 : Option Addr) (c0_1 : Nat) (l0_1 : List Int) (A0_2 : Option Addr) (c0_2 : Nat) (l0_2 : List ByteArray) (A0_3 : Option Addr) (c0_3 : Nat) (l0_3 : List S48) (a0_4 a0_5 a0_6 : Int) (A0_7 : Option Addr) (c0_7 : Nat) (l0_7 : List Int) (A0_8 : Option Addr) (c0_8 : Nat) (l0_8 : List Bool) (r : Bool) (w : World)
    (hr0_1 : Kd.C (Kd.int .i64) w A0_1 l0_1.length l0_1) (hc0_1 : l0_1.length ≤ c0_1) (hr0_2 : Kd.C Kd.string w A0_2 l0_2.length l0_2) (hc0_2 : l0_2.length ≤ c0_2) (hr0_3 : Kd.C k48 w A0_3 l0_3.length l0_3) (hc0_3 : l0_3.length ≤ c0_3) (hr0_7 : Kd.C (Kd.int .u8) w A0_7 l0_7.length l0_7) (hc0_7 : l0_7.length ≤ c0_7) (hr0_8 : Kd.C Kd.bool w A0_8 l0_8.length l0_8) (hc0_8 : l0_8.length ≤ c0_8) (h : windroselaw10_JournalNobody.f k a0_0 l0_1 l0_2 l0_3 a0_4 a0_5 a0_6 l0_7 l0_8 = some r) :
    Calls Try.prog 6 #[.agg #[.int .i64 a0_0, .slice A0_1 l0_1.length c0_1, .slice A0_2 l0_2.length c0_2, .slice A0_3 l0_3.length c0_3, .int .i64 a0_4, .int .i64 a0_5, .int .i64 a0_6, .slice A0_7 l0_7.length c0_7, .slice A0_8 l0_8.length c0_8]] w fun e w' => e = .returned (.bool r) ∧ Below w.heap.size w w' := by
  injection h with h
  subst h
  exact JournalNobody_calls a0_0 _ _ A0_3 l0_3.length c0_3 a0_4 a0_5 a0_6 _ _ ⟨_, _, _, rfl⟩ ⟨_, _, _, rfl⟩ ⟨_, _, _, rfl⟩ ⟨_, _, _, rfl⟩ w
end Go.Proofs.Ytfmdllbkfpbdcaa.G
end
