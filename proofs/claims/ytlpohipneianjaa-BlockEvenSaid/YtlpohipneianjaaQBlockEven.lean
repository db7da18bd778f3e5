/- BlockEven: even samples have two bytes each from the third one on, for every start, step and number. No condition. -/
import Derived.Test.YtlpohipneianjaaG3
import Derived.Test.YtlpohipneianjaaG6
import Derived.Test.YtlpohipneianjaaG7
import Derived.Test.YtlpohipneianjaaGR
import Derived.Test.YtlpohipneianjaaPPack
set_option linter.unusedVariables false
namespace Go.Proofs.Ytlpohipneianjaa.Q
open Go Go.RowKit Go.Proofs.Ytlpohipneianjaa.G Go.Proofs.YtlpohipneianjaaW.PrintWords Go.Proofs.YtlpohipneianjaaW.PrintLast

def evn (a b : Int) : Int → Int → Nat → List Smp
  | _, _, 0 => []
  | t, v, n + 1 => ⟨t, v⟩ :: evn a b (t + a) (v + b) n
theorem evn_len (a b : Int) (n : Nat) : ∀ t v, (evn a b t v n).length = n := by
  induction n with
  | zero => intros; rfl
  | succ n ih => intro t v; simp [evn, ih]
theorem evn_snoc (a b : Int) (n : Nat) : ∀ t v, evn a b t v (n + 1) = evn a b t v n ++ [⟨t + (n : Int) * a, v + (n : Int) * b⟩] := by
  induction n with
  | zero => intro t v; simp [evn]
  | succ n ih =>
    intro t v
    rw [evn, ih (t + a) (v + b)]
    have e1 : t + a + (n : Int) * a = t + ((n + 1 : Nat) : Int) * a := by rw [Int.natCast_add, Int.add_mul]; omega
    have e2 : v + b + (n : Int) * b = v + ((n + 1 : Nat) : Int) * b := by rw [Int.natCast_add, Int.add_mul]; omega
    rw [e1, e2]
    rfl
theorem evn_at (a b : Int) (n : Nat) : ∀ t v i, i < n → at_ (evn a b t v n) i = ⟨t + (i : Int) * a, v + (i : Int) * b⟩ := by
  induction n with
  | zero => intro t v i h; omega
  | succ n ih =>
    intro t v i h
    cases i with
    | zero => simp [at_, rd_T42, evn]
    | succ i =>
      have := ih (t + a) (v + b) i (by omega)
      have e1 : t + a + (i : Int) * a = t + ((i + 1 : Nat) : Int) * a := by rw [Int.natCast_add, Int.add_mul]; omega
      have e2 : v + b + (i : Int) * b = v + ((i + 1 : Nat) : Int) * b := by rw [Int.natCast_add, Int.add_mul]; omega
      rw [e1, e2] at this
      rw [← this]
      simp only [at_, rd_T42, evn]
      have h1 : ((i + 1 : Nat) : Int).toNat = i + 1 := by omega
      have h2 : ((i : Nat) : Int).toNat = i := by omega
      rw [h1, h2]
      rfl

theorem evn_may (a b t v : Int) (n : Nat) (hn : n ≤ 63) (ht : 0 ≤ t ∧ t ≤ 4294967295) (ha : 1 ≤ a ∧ a ≤ 4294967296) (hv : -2147483648 ≤ v ∧ v ≤ 2147483647) (hb : -2147483648 ≤ b ∧ b ≤ 2147483647) : May (evn a b t v n) := by
  refine ⟨by rw [evn_len]; omega, fun i hi => ?_⟩
  rw [evn_len] at hi
  have bd : ∀ j : Nat, j < n → 0 ≤ (j : Int) * a ∧ (j : Int) * a ≤ 62 * 4294967296 ∧ -(62 * 2147483648) ≤ (j : Int) * b ∧ (j : Int) * b ≤ 62 * 2147483648 := by
    intro j hj
    have hj' : (0 : Int) ≤ (j : Int) ∧ (j : Int) ≤ 62 := by omega
    have h1 := Int.mul_nonneg hj'.1 (show 0 ≤ a by omega)
    have h2 := Int.mul_le_mul hj'.2 ha.2 (by omega) (by omega)
    have h3 := Int.mul_le_mul_of_nonneg_left (show b ≤ 2147483648 by omega) hj'.1
    have h4 := Int.mul_le_mul_of_nonneg_left (show -2147483648 ≤ b by omega) hj'.1
    omega
  have hi' := bd i hi
  unfold Fits
  rw [evn_at a b n t v i hi]
  refine ⟨by show 0 ≤ t + (i : Int) * a; omega, by show t + (i : Int) * a ≤ _; omega, by show _ ≤ v + (i : Int) * b; omega, by show v + (i : Int) * b ≤ _; omega, fun h0 => ?_⟩
  rw [evn_at a b n t v (i - 1) (by omega)]
  show t + ((i - 1 : Nat) : Int) * a < t + (i : Int) * a
  have e : (i : Int) * a = ((i - 1 : Nat) : Int) * a + a := by
    have : (i : Int) = ((i - 1 : Nat) : Int) + 1 := by omega
    rw [this, Int.add_mul]
    omega
  omega

theorem pk_even (a b : Int) (n : Nat) : ∀ t v, pk false t v a b (evn a b (t + a) (v + b) n) = List.replicate (2 * n) 0 := by
  induction n with
  | zero => intros; rfl
  | succ n ih =>
    intro t v
    have e := ih (t + a) (v + b)
    rw [evn, pk]
    simp only [Bool.false_eq_true, if_false]
    rw [show t + a - t = a by omega, show v + b - v = b by omega, e, show 2 * (n + 1) = 2 * n + 1 + 1 by omega, List.replicate_succ, List.replicate_succ, Int.sub_self, Int.sub_self]

theorem packS_even (a b t v : Int) (n : Nat) : packS (evn a b t v (n + 2)) = ((n + 2 : Nat) : Int) :: t :: v :: a :: b :: List.replicate (2 * n) 0 := by
  unfold packS
  rw [evn_len]
  simp only [evn, pk]
  have e := pk_even a b n (t + a) (v + b)
  simp only [Bool.false_eq_true, if_false, if_true]
  rw [show t + a - t = a by omega, show v + b - v = b by omega, e]
  simp

theorem encN_zeros (n : Nat) : (encN (List.replicate n 0)).length = n := by
  induction n with
  | zero => simp [encN]
  | succ n ih =>
    rw [List.replicate_succ, encN_cons, List.length_append, ih]
    have : zig 0 = 0 := by decide
    rw [this, countS_lt (by omega)]
    simp
    omega

theorem len_even (a b t v : Int) (n : Nat) (hn : n ≤ 61) : (enc (packS (evn a b t v (n + 2))) []).length = (enc (packS (evn a b t v 2)) []).length + 2 * n := by
  have h2 := packS_even a b t v 0
  rw [packS_even, show (2 : Nat) = 0 + 2 by rfl, h2]
  have z : ∀ m : Nat, m ≤ 63 → (countS (zig ((m : Nat) : Int))).length = 1 := by
    intro m hm
    have : zig ((m : Nat) : Int) = 2 * m := by unfold zig; rw [if_pos (by omega)]; omega
    rw [this, countS_lt (by omega)]
    rfl
  simp only [enc, encN_cons, List.length_append, List.length_cons, List.length_replicate, encN_zeros, z (n + 2) (by omega), z (0 + 2) (by omega)]
  rw [countS_lt (show 2 * n + 1 + 1 + 1 + 1 + 1 < 128 by omega), countS_lt (show 2 * 0 + 1 + 1 + 1 + 1 + 1 < 128 by omega)]
  simp only [List.length_cons, List.length_nil]
  omega

theorem eqS_loop (a : List Smp) (hl : a.length ≤ 1000) (d : Nat) : ∀ i : Nat, i + d = a.length → (∃ K, ∀ k, K ≤ k → api_Sample.l0 k a a (a.length : Int) i = some (true)) := by
  induction d with
  | zero =>
    intro i hi
    refine Ev.succ 0 fun k _ => ?_
    simp only [api_Sample.l0]
    rw [if_neg (by omega)]
  | succ d ih =>
    intro i hi
    obtain ⟨K, hK⟩ := ih (i + 1) (by omega)
    refine Ev.succ K fun k hk => ?_
    simp only [api_Sample.l0]
    have e1 : wrap64 ((i : Int) + 1) = ((i + 1 : Nat) : Int) := by rw [w64] <;> omega
    have c1 : (i : Int) < (a.length : Int) := by omega
    have c2 : (0 : Int) ≤ (i : Int) := Int.natCast_nonneg i
    rw [if_pos c1, if_pos c2, if_pos c1, if_pos c1, if_neg (by simp), e1]
    exact hK k hk

theorem awake11_ev : (∃ K, ∀ k, K ≤ k → windroselaw11_awake.f k = some (true)) := by
  have h : windroselaw11_awake.f 12 = some true := by decide +kernel
  exact Ev.of windroselaw11_awake.mono h

theorem even_loop (a b t v x2 : Int) (hx : 0 ≤ x2 ∧ x2 ≤ 255) (ht : 0 ≤ t ∧ t ≤ 4294967295) (ha : 1 ≤ a ∧ a ≤ 4294967296) (hv : -2147483648 ≤ v ∧ v ≤ 2147483647) (hb : -2147483648 ≤ b ∧ b ≤ 2147483647) (d : Nat) : ∀ i : Nat, i + d = (2 + x2 % 62).toNat →
    (∃ K, ∀ k, K ≤ k → windroselaw11_BlockEven.l0 k x2 t (a - 1) v b (evn a b t v i) i = some (true)) := by
  have en : wrap64 (2 + wrap64 (Int.tmod x2 62)) = 2 + x2 % 62 := by rw [tmod_nn hx.1, w64, w64] <;> first | omega | (rw [w64] <;> omega)
  induction d with
  | zero =>
    intro i hi
    obtain ⟨n, hn⟩ : ∃ n, i = n + 2 := ⟨i - 2, by omega⟩
    subst hn
    have hlen := evn_len a b (n + 2) t v
    have htk : (evn a b t v (n + 2)).take 2 = evn a b t v 2 := by simp [evn]
    obtain ⟨K1, h1⟩ := BlockBytes_ev (evn a b t v (n + 2))
    obtain ⟨K2, h2⟩ := BlockBytes_ev (evn a b t v 2)
    rw [if_pos (evn_may a b t v (n + 2) (by omega) ht ha hv hb)] at h1
    rw [if_pos (evn_may a b t v 2 (by omega) ht ha hv hb)] at h2
    obtain ⟨K3, h3⟩ := eqS_loop (evn a b t v (n + 2)) (by omega) (evn a b t v (n + 2)).length 0 (by omega)
    obtain ⟨K4, h4⟩ := awake11_ev
    have hl := len_even a b t v n (by omega)
    have hsm := packS_small _ (evn_may a b t v 2 (by omega) ht ha hv hb)
    refine ⟨K1 + K2 + K3 + K4 + 1, fun k hk => ?_⟩
    obtain ⟨k, rfl⟩ : ∃ m, k = m + 1 := ⟨k - 1, by omega⟩
    rw [windroselaw11_BlockEven.l0, en, if_neg (by omega), h1 k (by omega), Option.bind_some, if_pos (by omega), htk, h2 k (by omega), Option.bind_some]
    rw [if_pos (by
      have e1 : wrap64 (((evn a b t v (n + 2)).length : Int) - 2) = (n : Int) := by rw [w64] <;> omega
      have e2 : wrap64 (2 * (n : Int)) = 2 * (n : Int) := by rw [w64] <;> omega
      rw [e1, e2, w64] <;> omega)]
    have hs : block_Same.f k (evn a b t v (n + 2)) (evn a b t v (n + 2)) = some true := by
      unfold block_Same.f api_Sample.f
      have := h3 k (by omega)
      rw [if_pos rfl]
      exact congrArg (fun o => Option.bind o fun t => some t) this
    rw [hs, Option.bind_some, if_pos rfl, h4 k (by omega)]
    rfl
  | succ d ih =>
    intro i hi
    obtain ⟨K, hK⟩ := ih (i + 1) (by omega)
    have hlen := evn_len a b i t v
    refine Ev.succ K fun k hk => ?_
    have hj' : (0 : Int) ≤ (i : Int) ∧ (i : Int) ≤ 63 := by omega
    have m1 := Int.mul_nonneg hj'.1 (show 0 ≤ a by omega)
    have m2 := Int.mul_le_mul hj'.2 ha.2 (by omega) (by omega)
    have m3 := Int.mul_le_mul_of_nonneg_left (show b ≤ 2147483648 by omega) hj'.1
    have m4 := Int.mul_le_mul_of_nonneg_left (show -2147483648 ≤ b by omega) hj'.1
    have w1 : wrap64 (a - 1) = a - 1 := by rw [w64] <;> omega
    have w2 : wrap64 (1 + (a - 1)) = a := by rw [w64] <;> omega
    have w3 : wrap64 ((i : Int) * a) = (i : Int) * a := by rw [w64] <;> omega
    have w4 : wrap64 ((i : Int) * b) = (i : Int) * b := by rw [w64] <;> omega
    have w5 : wrap64 t = t := by rw [w64] <;> omega
    have w6 : wrap64 v = v := by rw [w64] <;> omega
    have w7 : wrap64 b = b := by rw [w64] <;> omega
    have w8 : wrap64 (t + (i : Int) * a) = t + (i : Int) * a := by rw [w64] <;> omega
    have w9 : wrap64 (v + (i : Int) * b) = v + (i : Int) * b := by rw [w64] <;> omega
    rw [windroselaw11_BlockEven.l0, en, if_pos (by omega), if_pos (by omega), w1, w2, w5, w6, w7, w3, w4, w8, w9, ← evn_snoc, show wrap64 ((i : Int) + 1) = ((i + 1 : Nat) : Int) by rw [w64] <;> omega]
    exact hK k hk

theorem wf_u32 {x : Int} (h : (Lit.int .u32 x).wf = true) : 0 ≤ x ∧ x ≤ 4294967295 := by
  simp [Lit.wf] at h
  have e1 : IntKind.min .u32 = 0 := by decide
  have e2 : IntKind.max .u32 = 4294967295 := by decide
  first | (rw [e1, e2] at h; exact h) | (rw [e1] at h; exact h) | exact h
theorem wf_i32 {x : Int} (h : (Lit.int .i32 x).wf = true) : -2147483648 ≤ x ∧ x ≤ 2147483647 := by
  simp [Lit.wf] at h
  have e1 : IntKind.min .i32 = -2147483648 := by decide
  have e2 : IntKind.max .i32 = 2147483647 := by decide
  first | (rw [e1, e2] at h; exact h) | (rw [e1] at h; exact h) | exact h
theorem wf_u8' {x : Int} (h : (Lit.int .u8 x).wf = true) : 0 ≤ x ∧ x ≤ 255 := by
  simp [Lit.wf] at h
  have e1 : IntKind.min .u8 = 0 := by decide
  have e2 : IntKind.max .u8 = 255 := by decide
  first | (rw [e1, e2] at h; exact h) | (rw [e1] at h; exact h) | exact h

theorem BlockEven : ∀ (a0_0 : Int) (a0_1 : Int) (a1_0 : Int) (a1_1 : Int) (a2 : Int), (Lit.int .u32 a0_0).wf = true ∧ (Lit.int .u32 a0_1).wf = true → (Lit.int .i32 a1_0).wf = true ∧ (Lit.int .i32 a1_1).wf = true → (Lit.int .u8 a2).wf = true → ∃ k, windroselaw11_BlockEven.f k a0_0 a0_1 a1_0 a1_1 a2 = some true := by
  intro t s v b n h1 h2 h3
  have g1 := wf_u32 h1.1
  have g2 := wf_u32 h1.2
  have g3 := wf_i32 h2.1
  have g4 := wf_i32 h2.2
  have g5 := wf_u8' h3
  obtain ⟨K, hK⟩ := even_loop (s + 1) b t v n g5 g1 (by omega) g3 g4 (2 + n % 62).toNat 0 (by omega)
  refine ⟨K, ?_⟩
  have := hK K (Nat.le_refl _)
  rw [show s + 1 - 1 = s by omega] at this
  exact this
end Go.Proofs.Ytlpohipneianjaa.Q
