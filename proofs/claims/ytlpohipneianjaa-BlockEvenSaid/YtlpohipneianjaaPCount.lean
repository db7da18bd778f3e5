/- Counts and numbers as bytes: the code's way and the reference's are the same. No condition. -/
import Derived.Test.YtlpohipneianjaaG2
import Derived.Test.YtlpohipneianjaaG3
import Derived.Test.YtlpohipneianjaaPEv
import Derived.Laws.Bits64
import Derived.Laws.BitsLemmas
set_option linter.unusedVariables false
namespace Go.Proofs.Ytlpohipneianjaa.Q
open Go Go.RowKit Go.Proofs.Ytlpohipneianjaa.G Go.Proofs.YtlpohipneianjaaW.PrintWords Go.Proofs.YtlpohipneianjaaW.PrintLast

/-- A count's bytes. -/
def countS (u : Nat) : List Int := if h : u < 128 then [(u : Int)] else ((u % 128 + 128 : Nat) : Int) :: countS (u / 128)
termination_by u
decreasing_by omega

theorem countS_lt {u : Nat} (h : u < 128) : countS u = [(u : Int)] := by rw [countS, dif_pos h]
theorem countS_ge {u : Nat} (h : ¬ u < 128) : countS u = ((u % 128 + 128 : Nat) : Int) :: countS (u / 128) := by rw [countS, dif_neg h]

theorem countS_len (n : Nat) : ∀ u : Nat, u < 128 ^ (n + 1) → (countS u).length ≤ n + 1 := by
  induction n with
  | zero => intro u h; rw [countS_lt (by simpa using h)]; simp
  | succ n ih =>
    intro u h
    by_cases h1 : u < 128
    · rw [countS_lt h1]; simp
    · rw [countS_ge h1]
      have := ih (u / 128) (by rw [Nat.pow_succ] at h; omega)
      simp only [List.length_cons]
      omega
theorem countS_len10 {u : Nat} (h : u < 18446744073709551616) : (countS u).length ≤ 10 := countS_len 9 u (by omega)
theorem countS_pos (u : Nat) : 0 < (countS u).length := by
  by_cases h : u < 128
  · rw [countS_lt h]; simp
  · rw [countS_ge h]; simp

theorem or128 (x : Nat) : Go.bits .or .u8 ((x : Int) % 256) 128 = ((x % 128 + 128 : Nat) : Int) := by
  have h := (bits_nat .u8 8 (by decide) wraps_u8 (x % 256) 128 (by omega) (by decide)).2
  have e : ((x : Int) % 256) = ((x % 256 : Nat) : Int) := by omega
  rw [e, show (128 : Int) = ((128 : Nat) : Int) from rfl, h]
  have k : ∀ y : Fin 256, y.val ||| 128 = y.val % 128 + 128 := by decide +kernel
  have := k ⟨x % 256, by omega⟩
  simp only at this
  rw [this]
  omega

theorem count_loop (n : Nat) : ∀ (u : Nat) (acc : List Int), u < 128 ^ (n + 1) → acc.length + n ≤ 1000 → (∃ K, ∀ k, K ≤ k → frame_count.l0 k (u : Int) acc = some ((acc ++ countS u))) := by
  induction n with
  | zero =>
    intro u acc h ha
    have h1 : u < 128 := by simpa using h
    refine Ev.succ 0 fun k _ => ?_
    simp only [frame_count.l0]
    rw [if_neg (by omega), if_pos (by omega), countS_lt h1]
    congr 3
    omega
  | succ n ih =>
    intro u acc h ha
    by_cases h1 : u < 128
    · refine Ev.succ 0 fun k _ => ?_
      simp only [frame_count.l0]
      rw [if_neg (by omega), if_pos (by omega), countS_lt h1]
      congr 3
      omega
    · obtain ⟨K, hK⟩ := ih (u / 128) (acc ++ [((u % 128 + 128 : Nat) : Int)]) (by rw [Nat.pow_succ] at h; omega) (by simp; omega)
      refine Ev.succ K fun k hk => ?_
      simp only [frame_count.l0]
      rw [if_pos (by omega), if_pos (by omega), or128, show (u : Int) / 128 = ((u / 128 : Nat) : Int) by omega, hK k hk, countS_ge h1]
      simp
theorem count_ev {u : Nat} (h : u < 18446744073709551616) : (∃ K, ∀ k, K ≤ k → frame_count.f k (u : Int) = some ((countS u))) := by
  obtain ⟨K, hK⟩ := count_loop 9 u [] (by omega) (by simp)
  exact ⟨K, fun k hk => by unfold frame_count.f; simpa using hK k hk⟩

theorem refcount_ev (n : Nat) : ∀ u : Nat, u < 128 ^ (n + 1) → u < 18446744073709551616 → n ≤ 100 → (∃ K, ∀ k, K ≤ k → windroseref02_count.f k (u : Int) = some ((countS u))) := by
  induction n with
  | zero =>
    intro u h _ _
    have h1 : u < 128 := by simpa using h
    refine Ev.succ 0 fun k _ => ?_
    simp only [windroseref02_count.f]
    rw [if_pos (by omega), countS_lt h1]
    congr 2
    omega
  | succ n ih =>
    intro u h h64 hn
    by_cases h1 : u < 128
    · refine Ev.succ 0 fun k _ => ?_
      simp only [windroseref02_count.f]
      rw [if_pos (by omega), countS_lt h1]
      congr 2
      omega
    · have hl : u / 128 < 128 ^ (n + 1) := by rw [Nat.pow_succ] at h; omega
      obtain ⟨K, hK⟩ := ih (u / 128) hl (by omega) (by omega)
      have hlen := countS_len n (u / 128) hl
      refine Ev.succ K fun k hk => ?_
      simp only [windroseref02_count.f]
      have e1 : IntKind.u64.wrap (Int.tdiv (u : Int) 128) = ((u / 128 : Nat) : Int) := by
        rw [IntKind.wrap_u64, tdiv_nn (by omega)]; omega
      have e2 : IntKind.u64.wrap (Int.tmod (u : Int) 128 + 128) % 256 = ((u % 128 + 128 : Nat) : Int) := by
        rw [IntKind.wrap_u64, tmod_nn (by omega)]; omega
      rw [if_neg (by omega), Option.bind_some, e1, hK k hk, Option.bind_some, if_pos (by simp; omega), e2, countS_ge h1]
      rfl
theorem refcount {u : Nat} (h : u < 18446744073709551616) : (∃ K, ∀ k, K ≤ k → windroseref02_count.f k (u : Int) = some ((countS u))) := refcount_ev 9 u (by omega) h (by omega)

theorem Count_ev (n : Nat) (h : n ≤ 9223372036854775807) : (∃ K, ∀ k, K ≤ k → frame_Count.f k (n : Int) = some ((countS n))) := by
  obtain ⟨K, hK⟩ := count_ev (u := n) (by omega)
  refine ⟨K, fun k hk => ?_⟩
  unfold frame_Count.f
  rw [if_neg (by omega), IntKind.wrap_u64, show (n : Int) % 18446744073709551616 = (n : Int) by omega, hK k hk]
  rfl
theorem refCount_ev (n : Nat) (h : n ≤ 9223372036854775807) : (∃ K, ∀ k, K ≤ k → windroseref02_Count.f k (n : Int) = some ((countS n))) := by
  obtain ⟨K, hK⟩ := refcount (u := n) (by omega)
  refine ⟨K, fun k hk => ?_⟩
  unfold windroseref02_Count.f
  rw [IntKind.wrap_u64, show (n : Int) % 18446744073709551616 = (n : Int) by omega, hK k hk]
  rfl

/-- A number without a sign. -/
def zig (n : Int) : Nat := if 0 ≤ n then (2 * n).toNat else (2 * (-1 - n) + 1).toNat
theorem zig_lt {n : Int} (h : -9223372036854775808 ≤ n ∧ n ≤ 9223372036854775807) : zig n < 18446744073709551616 := by unfold zig; split <;> omega

theorem xor_ones {x : Nat} (h : x < 18446744073709551616) : x ^^^ 18446744073709551615 = 18446744073709551615 - x := by
  have e : (BitVec.ofNat 64 x ^^^ BitVec.allOnes 64).toNat = (~~~ BitVec.ofNat 64 x).toNat := by rw [BitVec.xor_allOnes]
  rw [BitVec.toNat_xor, BitVec.toNat_not, BitVec.toNat_allOnes, BitVec.toNat_ofNat, Nat.mod_eq_of_lt (by omega : x < 2 ^ 64)] at e
  exact e

theorem fold_eq {n : Int} (h : -9223372036854775808 ≤ n ∧ n ≤ 9223372036854775807) :
    Go.bits .xor .u64 (IntKind.u64.wrap ((IntKind.u64.wrap n) * 2)) (IntKind.u64.wrap (n / 9223372036854775808)) = ((zig n : Nat) : Int) := by
  rw [IntKind.wrap_u64, IntKind.wrap_u64, IntKind.wrap_u64]
  by_cases h0 : 0 ≤ n
  · have e1 : n % 18446744073709551616 * 2 % 18446744073709551616 = ((zig n : Nat) : Int) := by unfold zig; rw [if_pos h0]; omega
    have e2 : n / 9223372036854775808 % 18446744073709551616 = ((0 : Nat) : Int) := by omega
    rw [e1, e2, bits_xor_u64_nat _ _ (zig_lt h) (by omega), Nat.xor_zero]
  · have e1 : n % 18446744073709551616 * 2 % 18446744073709551616 = ((18446744073709551615 - zig n : Nat) : Int) := by unfold zig; rw [if_neg h0]; omega
    have e2 : n / 9223372036854775808 % 18446744073709551616 = ((18446744073709551615 : Nat) : Int) := by omega
    have := zig_lt h
    rw [e1, e2, bits_xor_u64_nat _ _ (by omega) (by omega), xor_ones (by omega)]
    omega

theorem Number_ev {n : Int} (h : -9223372036854775808 ≤ n ∧ n ≤ 9223372036854775807) : (∃ K, ∀ k, K ≤ k → frame_Number.f k n = some ((countS (zig n)))) := by
  obtain ⟨K, hK⟩ := count_ev (zig_lt h)
  refine ⟨K, fun k hk => ?_⟩
  unfold frame_Number.f
  rw [fold_eq h, hK k hk]
  rfl
theorem refNumber_ev {n : Int} (h : -9223372036854775808 ≤ n ∧ n ≤ 9223372036854775807) : (∃ K, ∀ k, K ≤ k → windroseref02_Number.f k n = some ((countS (zig n)))) := by
  obtain ⟨K, hK⟩ := refcount (zig_lt h)
  refine ⟨K, fun k hk => ?_⟩
  unfold windroseref02_Number.f
  by_cases h0 : 0 ≤ n
  · have e : IntKind.u64.wrap ((IntKind.u64.wrap n) * 2) = ((zig n : Nat) : Int) := by rw [IntKind.wrap_u64, IntKind.wrap_u64]; unfold zig; rw [if_pos h0]; omega
    rw [if_pos (by omega), e, hK k hk]
    rfl
  · have e : IntKind.u64.wrap ((IntKind.u64.wrap ((IntKind.u64.wrap (wrap64 ((-1) - n))) * 2)) + 1) = ((zig n : Nat) : Int) := by
      rw [w64 (by omega) (by omega), IntKind.wrap_u64, IntKind.wrap_u64, IntKind.wrap_u64]; unfold zig; rw [if_neg h0]; omega
    rw [if_neg (by omega), e, hK k hk]
    rfl
end Go.Proofs.Ytlpohipneianjaa.Q
