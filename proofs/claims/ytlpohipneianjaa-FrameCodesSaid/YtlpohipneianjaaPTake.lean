/- The count that bytes begin with: what frame.take answers. No condition. -/
import Derived.Test.YtlpohipneianjaaG10
import Derived.Test.YtlpohipneianjaaPEnc
set_option linter.unusedVariables false
namespace Go.Proofs.Ytlpohipneianjaa.Q
open Go Go.RowKit Go.Proofs.Ytlpohipneianjaa.G Go.Proofs.YtlpohipneianjaaW.PrintWords Go.Proofs.YtlpohipneianjaaW.PrintLast Go.Proofs.YtlpohipneianjaaW.PrintMore

/-- Bytes. -/
def By (b : List Int) : Prop := ∀ x ∈ b, 0 ≤ x ∧ x ≤ 255
/-- Bytes that say that more follow. -/
def Co (b : List Int) : Prop := ∀ x ∈ b, 128 ≤ x ∧ x ≤ 255
def valL : List Int → Nat
  | [] => 0
  | c :: cs => c.toNat % 128 + 128 * valL cs

theorem valL_append (a b : List Int) : valL (a ++ b) = valL a + 128 ^ a.length * valL b := by
  induction a with
  | nil => simp [valL]
  | cons c a ih =>
    simp only [List.cons_append, valL, ih, List.length_cons, Nat.pow_succ]
    rw [Nat.mul_add, Nat.mul_comm (128 ^ a.length) 128, Nat.mul_assoc]
    omega
theorem valL_lt (a : List Int) : valL a < 128 ^ a.length := by
  induction a with
  | nil => simp [valL]
  | cons c a ih =>
    simp only [valL, List.length_cons, Nat.pow_succ]
    omega

theorem countS_val (pre : List Int) (c : Int) (hp : Co pre) (hc : 0 ≤ c ∧ c < 128) (h : 0 < c ∨ pre = []) : countS (valL (pre ++ [c])) = pre ++ [c] := by
  induction pre with
  | nil =>
    simp only [List.nil_append, valL, Nat.mul_zero, Nat.add_zero]
    rw [countS_lt (by omega)]
    congr 1
    omega
  | cons p ps ih =>
    have hpp := hp p (by simp)
    have hc0 : 0 < c := by rcases h with h | h; exact h; cases h
    have := ih (fun x hx => hp x (by simp [hx])) (.inl hc0)
    have hv : 1 ≤ valL (ps ++ [c]) := by
      rw [valL_append]
      have : 0 < 128 ^ ps.length := Nat.pow_pos (by omega)
      have h1 : 1 ≤ valL [c] := by simp only [valL]; omega
      have := Nat.mul_le_mul this h1
      omega
    simp only [List.cons_append, valL]
    rw [countS_ge (by omega), show (p.toNat % 128 + 128 * valL (ps ++ [c])) / 128 = valL (ps ++ [c]) by omega, this]
    congr 1
    omega

/-- How a count's bytes end. -/
theorem countS_form (n : Nat) : ∀ u : Nat, u < 128 ^ (n + 1) → ∃ pre c, countS u = pre ++ [c] ∧ Co pre ∧ 0 ≤ c ∧ c < 128 ∧ (0 < c ∨ pre = []) ∧ valL (pre ++ [c]) = u ∧ pre.length ≤ n := by
  induction n with
  | zero =>
    intro u h
    have h1 : u < 128 := by simpa using h
    exact ⟨[], (u : Int), countS_lt h1, fun x hx => by simp at hx, by omega, by omega, .inr rfl, by simp [valL]; omega, by simp⟩
  | succ n ih =>
    intro u h
    by_cases h1 : u < 128
    · exact ⟨[], (u : Int), countS_lt h1, fun x hx => by simp at hx, by omega, by omega, .inr rfl, by simp [valL]; omega, by simp⟩
    · obtain ⟨pre, c, e, hp, c0, c1, h0, hv, hl⟩ := ih (u / 128) (by rw [Nat.pow_succ] at h; omega)
      refine ⟨((u % 128 + 128 : Nat) : Int) :: pre, c, by rw [countS_ge h1, e]; rfl, fun x hx => ?_, c0, c1, .inl ?_, ?_, by simp; omega⟩
      · rcases List.mem_cons.1 hx with rfl | hx
        · omega
        · exact hp x hx
      · rcases h0 with h0 | h0
        · exact h0
        · subst h0
          simp [valL] at hv
          omega
      · simp only [List.cons_append, valL, hv]
        omega

theorem by_countS {u : Nat} (h : u < 18446744073709551616) : By (countS u) := by
  obtain ⟨pre, c, e, hp, c0, c1, _, _, _⟩ := countS_form 9 u (by omega)
  rw [e]
  intro x hx
  rcases List.mem_append.1 hx with hx | hx
  · have := hp x hx; omega
  · simp at hx; omega

/-- The first byte below 128 is the first one: two ways to cut bytes there are one. -/
theorem cut_unique (pre pre' : List Int) (c c' : Int) (r r' : List Int) (hp : Co pre) (hp' : Co pre') (hc : c < 128) (hc' : c' < 128) (h : pre ++ c :: r = pre' ++ c' :: r') : pre = pre' ∧ c = c' ∧ r = r' := by
  induction pre generalizing pre' with
  | nil =>
    cases pre' with
    | nil => simp at h; exact ⟨rfl, h.1, h.2⟩
    | cons p ps => simp at h; have := hp' p (by simp); omega
  | cons p ps ih =>
    cases pre' with
    | nil => simp at h; have := hp p (by simp); omega
    | cons q qs =>
      simp at h
      obtain ⟨a, b, d⟩ := ih qs (fun x hx => hp x (by simp [hx])) (fun x hx => hp' x (by simp [hx])) h.2
      exact ⟨by rw [h.1, a], b, d⟩

theorem cut_or (b : List Int) (hb : By b) : (∃ pre c r, b = pre ++ c :: r ∧ Co pre ∧ 0 ≤ c ∧ c < 128) ∨ Co b := by
  induction b with
  | nil => exact .inr fun x hx => by simp at hx
  | cons x b ih =>
    have hx := hb x (by simp)
    by_cases h : x < 128
    · exact .inl ⟨[], x, b, rfl, fun y hy => by simp at hy, hx.1, h⟩
    · rcases ih (fun y hy => hb y (by simp [hy])) with ⟨pre, c, r, e, hp, c0, c1⟩ | hc
      · refine .inl ⟨x :: pre, c, r, by rw [e]; rfl, fun y hy => ?_, c0, c1⟩
        rcases List.mem_cons.1 hy with rfl | hy
        · omega
        · exact hp y hy
      · refine .inr fun y hy => ?_
        rcases List.mem_cons.1 hy with rfl | hy
        · omega
        · exact hc y hy

/-! ### the walk over the bytes -/
theorem wraps_u64 (n : Int) (h0 : 0 ≤ n) (h1 : n < 2 ^ 64) : IntKind.u64.wrap n = n := by rw [IntKind.wrap_u64]; omega
theorem and127 {x : Int} (h0 : 0 ≤ x) (h1 : x < 256) : Go.bits .and .u64 x 127 = x % 128 := by
  have := bits_mask .u64 64 (by decide) wraps_u64 7 (by decide) x h0 (by omega)
  simpa using this

theorem or_step (a : Nat) (c : Int) (i : Nat) (ha : a < 128 ^ i) (hc : 0 ≤ c ∧ c ≤ 255) (hi : i ≤ 8 ∨ i = 9 ∧ c ≤ 1) :
    Go.bits .or .u64 (a : Int) (shl .u64 (Go.bits .and .u64 (IntKind.u64.wrap c) 127) (wrap64 (7 * (i : Int)))) = ((a + 128 ^ i * (c.toNat % 128) : Nat) : Int) := by
  rw [wraps_u64 c hc.1 (by omega), and127 hc.1 (by omega), w64 (by omega) (by omega)]
  have e7 : (7 * (i : Int)).toNat = 7 * i := by omega
  have hp : (2 : Nat) ^ (7 * i) = 128 ^ i := by rw [Nat.pow_mul]
  have hm : min (7 * (i : Int)).toNat IntKind.u64.bits = 7 * i := by
    rw [e7]; exact Nat.min_eq_left (by simp only [IntKind.bits]; omega)
  unfold shl
  rw [hm]
  have hc' : c % 128 = ((c.toNat % 128 : Nat) : Int) := by omega
  have e1 : c % 128 * 2 ^ (7 * i) = ((128 ^ i * (c.toNat % 128) : Nat) : Int) := by
    rw [hc', ← hp, Int.natCast_mul, Int.natCast_pow, Int.mul_comm]; rfl
  have hlt : a + 128 ^ i * (c.toNat % 128) < 18446744073709551616 := by
    rcases hi with hi | ⟨rfl, hc1⟩
    · have h8 : 128 ^ i ≤ 128 ^ 8 := Nat.pow_le_pow_right (by omega) hi
      have := Nat.mul_le_mul h8 (show c.toNat % 128 ≤ 127 by omega)
      omega
    · have : c.toNat % 128 ≤ 1 := by omega
      have := Nat.mul_le_mul (Nat.le_refl (128 ^ 9)) this
      omega
  rw [e1, wraps_u64 _ (by omega) (by omega)]
  have hb := (bits_nat .u64 64 (by decide) wraps_u64 a (128 ^ i * (c.toNat % 128)) (by omega) (by omega)).2
  rw [hb, Nat.or_comm, ← hp, ← Nat.two_pow_add_eq_or_of_lt (by rw [hp]; exact ha)]
  congr 1
  omega

theorem rd_app (pre : List Int) (c : Int) (r : List Int) : rd (pre ++ c :: r) (pre.length : Nat) = c := by
  simp [rd, List.getD_eq_getElem?_getD]

/-- Up to the byte that ends the count. -/
theorem take_loop (b : List Int) (hb : By b) (hl : b.length ≤ 100000) (n : Nat) (hn : n ≤ b.length ∧ n ≤ 9) (hco : ∀ j, j < n → 128 ≤ rd b (j : Nat)) (m : Int) (hm : (n : Int) ≤ m ∧ m ≤ 10 ∧ m ≤ b.length) (R : Int × List Int × Bool)
    (h : (∃ K, ∀ k, K ≤ k → frame_take.l0 k b ((valL (b.take n) : Nat) : Int) m n = some (R))) (d : Nat) : ∀ i : Nat, i + d = n → (∃ K, ∀ k, K ≤ k → frame_take.l0 k b ((valL (b.take i) : Nat) : Int) m i = some (R)) := by
  induction d with
  | zero => intro i hi; obtain rfl : i = n := by omega
            exact h
  | succ d ih =>
    intro i hi
    obtain ⟨K, hK⟩ := ih (i + 1) (by omega)
    have hx := hb _ (rd_mem b i (by omega))
    have hc := hco i (by omega)
    have hlen : (b.take i).length = i := by rw [List.length_take]; omega
    have hv := valL_lt (b.take i)
    rw [hlen] at hv
    have ho := or_step (valL (b.take i)) (rd b i) i hv hx (.inl (by omega))
    have e2 : valL (b.take (i + 1)) = valL (b.take i) + 128 ^ i * ((rd b i).toNat % 128) := by
      have : b.take (i + 1) = b.take i ++ [rd b i] := by
        rw [List.take_succ_eq_append_getElem (by omega)]
        simp [rd, List.getD_eq_getElem?_getD, List.getElem?_eq_getElem (show i < b.length by omega)]
      rw [this, valL_append, hlen]
      simp [valL]
    refine Ev.succ K fun k hk => ?_
    simp only [frame_take.l0]
    rw [if_pos (by omega), if_pos (by omega), if_pos (by omega), if_pos (by rw [w64] <;> omega), if_neg (by rw [wraps_u64 _ hx.1 (by omega)]; omega), ho, ← e2, show wrap64 ((i : Int) + 1) = ((i + 1 : Nat) : Int) by rw [w64] <;> omega]
    exact hK k hk

/-- What frame.take answers. -/
theorem take_ev (b : List Int) (hb : By b) (hl : b.length ≤ 100000) : ∃ u r ok, (∃ K, ∀ k, K ≤ k → frame_take.f k b = some (((u : Int), r, ok))) ∧
    (ok = true → ∃ v : Nat, u = v ∧ v < 18446744073709551616 ∧ b = countS v ++ r) ∧ (ok = false → ∀ (v : Nat) (r' : List Int), v < 18446744073709551616 → b ≠ countS v ++ r') ∧ (∃ p, b = p ++ r ∨ r = []) := by
  have hmn : ∀ x y : Int, mn x y = if y < x then y else x := fun x y => rfl
  -- a count that fits begins with fewer than ten bytes that go on
  have form : ∀ (v : Nat) (r' : List Int), v < 18446744073709551616 → b = countS v ++ r' → ∃ pre c, b = pre ++ c :: r' ∧ Co pre ∧ 0 ≤ c ∧ c < 128 ∧ (0 < c ∨ pre = []) ∧ valL (pre ++ [c]) = v ∧ pre.length ≤ 9 := by
    intro v r' hv e
    obtain ⟨pre, c, e1, hp, c0, c1, h0, hvv, hlen⟩ := countS_form 9 v (by omega)
    exact ⟨pre, c, by rw [e, e1]; simp, hp, c0, c1, h0, hvv, hlen⟩
  have noTerm : (∀ j : Nat, j < b.length → j < 10 → 128 ≤ rd b (j : Nat)) → ∃ u r ok, (∃ K, ∀ k, K ≤ k → frame_take.f k b = some (((u : Int), r, ok))) ∧
      (ok = true → ∃ v : Nat, u = v ∧ v < 18446744073709551616 ∧ b = countS v ++ r) ∧ (ok = false → ∀ (v : Nat) (r' : List Int), v < 18446744073709551616 → b ≠ countS v ++ r') ∧ (∃ p, b = p ++ r ∨ r = []) := by
    intro hno
    refine ⟨0, [], false, ?_, (fun h => by cases h), fun _ v r' hv e => ?_, [], .inr rfl⟩
    · -- ten bytes, or all of them, go on
      by_cases h10 : 10 ≤ b.length
      · -- nine steps, then the tenth byte
        have hx := hb _ (rd_mem b 9 (by omega))
        have hc := hno 9 (by omega) (by omega)
        have h9 : (∃ K, ∀ k, K ≤ k → frame_take.l0 k b ((valL (b.take 9) : Nat) : Int) 10 (9 : Nat) = some ((0, ([] : List Int), false))) := by
          refine ⟨2, fun k hk => ?_⟩
          obtain ⟨k, rfl⟩ : ∃ m, k = m + 2 := ⟨k - 2, by omega⟩
          rw [frame_take.l0, if_pos (by omega), if_pos (by omega), if_pos (by omega), if_pos (by rw [w64] <;> omega), if_neg (by rw [wraps_u64 _ hx.1 (by omega)]; omega), show wrap64 (((9 : Nat) : Int) + 1) = 10 by rw [w64] <;> omega]
          rw [frame_take.l0, if_neg (by omega)]
        obtain ⟨K, hK⟩ := take_loop b hb hl 9 (by omega) (fun j hj => hno j (by omega) (by omega)) 10 (by omega) _ h9 9 0 (by omega)
        refine ⟨K, fun k hk => ?_⟩
        unfold frame_take.f
        rw [hmn, if_neg (by omega)]
        exact hK k hk
      · have hend : (∃ K, ∀ k, K ≤ k → frame_take.l0 k b ((valL (b.take b.length) : Nat) : Int) (b.length : Int) (b.length : Nat) = some ((0, ([] : List Int), false))) := by
          refine Ev.succ 0 fun k _ => ?_
          simp only [frame_take.l0]
          rw [if_neg (by omega)]
        obtain ⟨K, hK⟩ := take_loop b hb hl b.length (by omega) (fun j hj => hno j (by omega) (by omega)) (b.length : Int) (by omega) _ hend b.length 0 (by omega)
        refine ⟨K, fun k hk => ?_⟩
        unfold frame_take.f
        rw [hmn, if_pos (by omega)]
        exact hK k hk
    · obtain ⟨pre, c, e1, hp, c0, c1, _, _, hlen⟩ := form v r' hv e
      have := hno pre.length (by rw [e1]; simp) (by omega)
      rw [e1, rd_app] at this
      omega
  rcases cut_or b hb with ⟨pre, c, r, e, hp, c0, c1⟩ | hco
  · by_cases h9 : pre.length ≤ 9
    · have hlb : b.length = pre.length + 1 + r.length := by rw [e]; simp; omega
      have hco : ∀ j, j < pre.length → 128 ≤ rd b (j : Nat) := by
        intro j hj
        have : rd b (j : Nat) ∈ pre := by
          rw [e]; simp only [rd, Int.toNat_natCast]
          rw [List.getD_eq_getElem?_getD, List.getElem?_append_left hj, List.getElem?_eq_getElem hj]
          exact List.getElem_mem hj
        exact (hp _ this).1
      have hrd : rd b (pre.length : Nat) = c := by rw [e]; exact rd_app pre c r
      have htk : b.take pre.length = pre := by rw [e, List.take_left]
      have hdr : b.drop (((pre.length + 1 : Nat) : Int)).toNat = r := by
        rw [Int.toNat_natCast, e, List.drop_append, List.drop_of_length_le (by omega)]
        simp
      have m1 : mn 10 (b.length : Int) = (if (b.length : Int) < 10 then (b.length : Int) else 10) := rfl
      generalize hm : mn 10 (b.length : Int) = m at m1
      have hmb : (pre.length : Int) < m ∧ m ≤ 10 ∧ m ≤ b.length := by split at m1 <;> omega
      have e1 : wrap64 ((pre.length : Int) + 1) = ((pre.length + 1 : Nat) : Int) := by rw [w64] <;> omega
      have hw : IntKind.u64.wrap c = c := wraps_u64 c c0 (by omega)
      have hv9 := valL_lt pre
      have hval : valL (pre ++ [c]) = valL pre + 128 ^ pre.length * (c.toNat % 128) := by rw [valL_append]; simp [valL]
      -- the byte that ends it
      have last : ∃ u ok, (∃ K, ∀ k, K ≤ k → frame_take.l0 k b ((valL (b.take pre.length) : Nat) : Int) m (pre.length : Nat) = some (((u : Int), r, ok))) ∧ (ok = true → u = (valL (pre ++ [c]) : Nat) ∧ (pre.length ≤ 8 ∨ pre.length = 9 ∧ c ≤ 1) ∧ (0 < c ∨ pre = [])) ∧
          (ok = false → ¬ ((pre.length ≤ 8 ∨ pre.length = 9 ∧ c ≤ 1) ∧ (0 < c ∨ pre = []))) := by
        have hpre : (pre.length : Int) = 0 ↔ pre = [] := by rw [← List.length_eq_zero_iff]; omega
        by_cases hn9 : pre.length = 9
        · by_cases hc1 : c > 1
          · refine ⟨Go.bits .or .u64 ((valL (b.take pre.length) : Nat) : Int) (shl .u64 (Go.bits .and .u64 c 127) (wrap64 (7 * (pre.length : Int)))), false, Ev.succ 0 fun k _ => ?_, (fun h => by cases h), fun _ h => by omega⟩
            simp only [frame_take.l0]
            rw [if_pos (by omega), if_pos (by omega), if_pos (by omega), if_pos (by rw [w64] <;> omega), hrd, hw, if_pos (by omega), if_pos (by omega), e1, if_pos (by omega), if_pos (by omega), Option.bind_some, if_pos hc1, hdr]
          · have ho := or_step (valL pre) c pre.length hv9 (by omega) (.inr (by omega))
            rw [hw] at ho
            by_cases hc0 : c > 0
            · refine ⟨((valL (pre ++ [c]) : Nat) : Int), true, Ev.succ 0 fun k _ => ?_, fun _ => ⟨rfl, .inr ⟨hn9, by omega⟩, .inl hc0⟩, fun h => by cases h⟩
              simp only [frame_take.l0]
              rw [if_pos (by omega), if_pos (by omega), if_pos (by omega), if_pos (by rw [w64] <;> omega), hrd, hw, if_pos (by omega), if_pos (by omega), e1, if_pos (by omega), if_pos (by omega), Option.bind_some, if_neg hc1, if_pos hc0, htk, ho, hdr, hval]
            · refine ⟨((valL pre + 128 ^ pre.length * (c.toNat % 128) : Nat) : Int), false, Ev.succ 0 fun k _ => ?_, (fun h => by cases h), fun _ h => ?_⟩
              · simp only [frame_take.l0]
                rw [if_pos (by omega), if_pos (by omega), if_pos (by omega), if_pos (by rw [w64] <;> omega), hrd, hw, if_pos (by omega), if_pos (by omega), e1, if_pos (by omega), if_pos (by omega), Option.bind_some, if_neg hc1, if_neg hc0, htk, ho, hdr,
                  show ((pre.length : Int) == 0) = false by simp; intro h; simp [h] at hn9]
              · rcases h.2 with h | h
                · exact hc0 h
                · rw [h] at hn9; simp at hn9
        · have ho := or_step (valL pre) c pre.length hv9 (by omega) (.inl (by omega))
          rw [hw] at ho
          by_cases hc0 : c > 0
          · refine ⟨((valL (pre ++ [c]) : Nat) : Int), true, Ev.succ 0 fun k _ => ?_, fun _ => ⟨rfl, .inl (by omega), .inl hc0⟩, fun h => by cases h⟩
            simp only [frame_take.l0]
            rw [if_pos (by omega), if_pos (by omega), if_pos (by omega), if_pos (by rw [w64] <;> omega), hrd, hw, if_pos (by omega), if_neg (by omega), e1, if_pos (by omega), if_pos (by omega), Option.bind_some, if_pos hc0, htk, ho, hdr, hval]
          · refine ⟨((valL (pre ++ [c]) : Nat) : Int), ((pre.length : Int) == 0), Ev.succ 0 fun k _ => ?_, fun h => ⟨rfl, .inl (by omega), .inr (hpre.1 (by simpa using h))⟩, fun h h2 => ?_⟩
            · simp only [frame_take.l0]
              rw [if_pos (by omega), if_pos (by omega), if_pos (by omega), if_pos (by rw [w64] <;> omega), hrd, hw, if_pos (by omega), if_neg (by omega), e1, if_pos (by omega), if_pos (by omega), Option.bind_some, if_neg hc0, htk, ho, hdr, hval]
            · rcases h2.2 with h2 | h2
              · exact hc0 h2
              · rw [hpre.2 h2] at h; simp at h
      obtain ⟨u, ok, hlast, ht, hf⟩ := last
      obtain ⟨K, hK⟩ := take_loop b hb hl pre.length (by omega) hco m (by omega) _ hlast pre.length 0 (by omega)
      refine ⟨u, r, ok, ⟨K, fun k hk => ?_⟩, fun h => ?_, fun h v r' hv eb => ?_, pre ++ [c], .inl (by rw [e]; simp)⟩
      · unfold frame_take.f
        rw [hm]
        exact hK k hk
      · obtain ⟨hu, hs, h0⟩ := ht h
        refine ⟨valL (pre ++ [c]), hu, ?_, ?_⟩
        · rw [hval]
          rcases hs with hs | ⟨hs, hc⟩
          · have h8 : 128 ^ pre.length ≤ 128 ^ 8 := Nat.pow_le_pow_right (by omega) hs
            have := Nat.mul_le_mul h8 (show c.toNat % 128 ≤ 127 by omega)
            omega
          · have := Nat.mul_le_mul (Nat.le_refl (128 ^ pre.length)) (show c.toNat % 128 ≤ 1 by omega)
            rw [hs] at this hv9 ⊢
            omega
        · rw [countS_val pre c hp ⟨c0, c1⟩ h0, e]; simp
      · obtain ⟨pre', c', e', hp', _, c1', h0', hv', hl'⟩ := form v r' hv eb
        rw [e] at e'
        obtain ⟨rfl, rfl, rfl⟩ := cut_unique pre pre' c c' r r' hp hp' c1 c1' e'
        refine hf h ⟨?_, h0'⟩
        by_cases h8 : pre.length ≤ 8
        · exact .inl h8
        · refine .inr ⟨by omega, ?_⟩
          have h9' : pre.length = 9 := by omega
          rw [hval, h9'] at hv'
          have : c.toNat % 128 = c.toNat := by omega
          rw [this] at hv'
          by_cases hc : c ≤ 1
          · exact hc
          · have := Nat.mul_le_mul (Nat.le_refl (128 ^ 9)) (show 2 ≤ c.toNat by omega)
            omega
    · refine noTerm (fun j hj h10 => ?_)
      have : rd b (j : Nat) ∈ pre := by
        rw [e]; simp only [rd, Int.toNat_natCast]
        rw [List.getD_eq_getElem?_getD, List.getElem?_append_left (by omega), List.getElem?_eq_getElem (by omega)]
        exact List.getElem_mem (by omega)
      exact (hp _ this).1
  · exact noTerm (fun j hj _ => (hco _ (rd_mem b j hj)).1)
end Go.Proofs.Ytlpohipneianjaa.Q
