/- Samples that may be: block.Check and the reference's May say the same. No condition. -/
import Derived.Test.YtlpohipneianjaaG3
import Derived.Test.YtlpohipneianjaaG4
import Derived.Test.YtlpohipneianjaaGR
import Derived.Test.YtlpohipneianjaaPEv
set_option linter.unusedVariables false
namespace Go.Proofs.Ytlpohipneianjaa.Q
open Go Go.RowKit Go.Proofs.Ytlpohipneianjaa.G Go.Proofs.YtlpohipneianjaaW.PrintWords Go.Proofs.YtlpohipneianjaaW.PrintLast

abbrev Smp := S42
def at_ (l : List Smp) (i : Nat) : Smp := rd_T42 l i

/-- Sample i may stand where it stands. -/
def Fits (l : List Smp) (i : Nat) : Prop := 0 ≤ (at_ l i).f0 ∧ (at_ l i).f0 ≤ 1099511627776 ∧ -1099511627776 ≤ (at_ l i).f1 ∧ (at_ l i).f1 ≤ 1099511627776 ∧ (0 < i → (at_ l (i - 1)).f0 < (at_ l i).f0)
def May (l : List Smp) : Prop := l.length ≤ 64 ∧ ∀ i, i < l.length → Fits l i
noncomputable instance (l : List Smp) : Decidable (May l) := Classical.propDecidable _

theorem may_loop (l : List Smp) (hl : l.length ≤ maxLen) (d : Nat) : ∀ i : Nat, i + d = l.length → (∀ j, j < i → Fits l j) → (∃ K, ∀ k, K ≤ k → windroseref11_May.l0 k l i = some ((decide (May l)))) := by
  unfold maxLen at hl
  induction d with
  | zero =>
    intro i hi hf
    refine Ev.succ 0 fun k _ => ?_
    simp only [windroseref11_May.l0]
    rw [if_neg (by omega)]
    congr 1
    rw [decide_eq_decide]
    exact ⟨fun h => ⟨by omega, fun j hj => hf j (by omega)⟩, fun h => by have := h.1; omega⟩
  | succ d ih =>
    intro i hi hf
    have bad : ¬ Fits l i → decide (May l) = false := fun h => decide_eq_false (fun hm => h (hm.2 i (by omega)))
    by_cases g : Fits l i
    · obtain ⟨K, hK⟩ := ih (i + 1) (by omega) (fun j hj => by
        rcases Nat.lt_or_ge j i with h | h
        · exact hf j h
        · obtain rfl : j = i := by omega
          exact g)
      refine Ev.succ K fun k hk => ?_
      simp only [windroseref11_May.l0]
      obtain ⟨g1, g2, g3, g4, g5⟩ := g
      have hK' := hK k hk
      have e1 : wrap64 ((i : Int) + 1) = ((i + 1 : Nat) : Int) := by rw [w64] <;> omega
      simp only [at_] at g1 g2 g3 g4 g5
      rw [if_pos (by omega), if_pos (by omega), if_neg (by omega), if_neg (by omega), if_neg (by omega), if_neg (by omega), e1]
      by_cases h0 : 0 < i
      · have e2 : wrap64 ((i : Int) - 1) = ((i - 1 : Nat) : Int) := by rw [w64] <;> omega
        have g6 := g5 h0
        rw [if_pos (by omega), e2, if_pos (by omega), if_pos (by omega), if_neg (by omega)]
        exact hK'
      · rw [if_neg (by omega)]
        exact hK'
    · rw [bad g]
      refine Ev.succ 0 fun k _ => ?_
      simp only [windroseref11_May.l0]
      rw [if_pos (by omega), if_pos (by omega)]
      unfold Fits at g
      simp only [at_] at g
      by_cases g1 : (rd_T42 l i).f0 < 0
      · rw [if_pos g1]
      by_cases g2 : (rd_T42 l i).f0 > 1099511627776
      · rw [if_neg g1, if_pos g2]
      by_cases g3 : (rd_T42 l i).f1 < -1099511627776
      · rw [if_neg g1, if_neg g2, if_pos g3]
      by_cases g4 : (rd_T42 l i).f1 > 1099511627776
      · rw [if_neg g1, if_neg g2, if_neg g3, if_pos g4]
      have h0 : 0 < i := by
        rcases Nat.eq_zero_or_pos i with h | h
        · exact absurd ⟨by omega, by omega, by omega, by omega, fun hh => by omega⟩ g
        · exact h
      have e2 : wrap64 ((i : Int) - 1) = ((i - 1 : Nat) : Int) := by rw [w64] <;> omega
      have g5 : (rd_T42 l ((i - 1 : Nat) : Int)).f0 ≥ (rd_T42 l i).f0 := by
        by_cases h : (rd_T42 l ((i - 1 : Nat) : Int)).f0 < (rd_T42 l i).f0
        · exact absurd ⟨by omega, by omega, by omega, by omega, fun _ => h⟩ g
        · omega
      rw [if_neg g1, if_neg g2, if_neg g3, if_neg g4, if_pos (by omega), e2, if_pos (by omega), if_pos (by omega), if_pos g5]

theorem may_ev (l : List Smp) (hl : l.length ≤ maxLen) : (∃ K, ∀ k, K ≤ k → windroseref11_May.f k l = some ((decide (May l)))) :=
  may_loop l hl l.length 0 (by omega) (fun j hj => by omega)

theorem check_loop (l : List Smp) (hl : l.length ≤ 64) (d : Nat) : ∀ i : Nat, i + d = l.length → (∀ j, j < i → Fits l j) → (∃ K, ∀ k, K ≤ k → block_Check.l0 k l l (l.length : Int) i = some ((if May l then 0 else 1))) := by
  induction d with
  | zero =>
    intro i hi hf
    refine Ev.succ 0 fun k _ => ?_
    simp only [block_Check.l0]
    rw [if_neg (by omega), if_pos ⟨hl, fun j hj => hf j (by omega)⟩]
  | succ d ih =>
    intro i hi hf
    have bad : ¬ Fits l i → ¬ May l := fun h hm => h (hm.2 i (by omega))
    by_cases g : Fits l i
    · obtain ⟨K, hK⟩ := ih (i + 1) (by omega) (fun j hj => by
        rcases Nat.lt_or_ge j i with h | h
        · exact hf j h
        · obtain rfl : j = i := by omega
          exact g)
      refine Ev.succ K fun k hk => ?_
      simp only [block_Check.l0]
      obtain ⟨g1, g2, g3, g4, g5⟩ := g
      have hK' := hK k hk
      have e1 : wrap64 ((i : Int) + 1) = ((i + 1 : Nat) : Int) := by rw [w64] <;> omega
      simp only [at_] at g1 g2 g3 g4 g5
      rw [if_pos (by omega), if_pos (by omega), if_pos (by omega), if_neg (by omega), if_neg (by omega), if_neg (by omega), if_neg (by omega), e1]
      by_cases h0 : 0 < i
      · have e2 : wrap64 ((i : Int) - 1) = ((i - 1 : Nat) : Int) := by rw [w64] <;> omega
        have g6 := g5 h0
        rw [if_pos (by omega), e2, if_pos (by omega), if_pos (by omega), if_neg (by omega)]
        exact hK'
      · rw [if_neg (by omega)]
        exact hK'
    · rw [if_neg (bad g)]
      refine Ev.succ 0 fun k _ => ?_
      simp only [block_Check.l0]
      rw [if_pos (by omega), if_pos (by omega), if_pos (by omega)]
      unfold Fits at g
      simp only [at_] at g
      by_cases g1 : (rd_T42 l i).f0 < 0
      · rw [if_pos g1]
      by_cases g2 : (rd_T42 l i).f0 > 1099511627776
      · rw [if_neg g1, if_pos g2]
      by_cases g3 : (rd_T42 l i).f1 < -1099511627776
      · rw [if_neg g1, if_neg g2, if_pos g3]
      by_cases g4 : (rd_T42 l i).f1 > 1099511627776
      · rw [if_neg g1, if_neg g2, if_neg g3, if_pos g4]
      have h0 : 0 < i := by
        rcases Nat.eq_zero_or_pos i with h | h
        · exact absurd ⟨by omega, by omega, by omega, by omega, fun hh => by omega⟩ g
        · exact h
      have e2 : wrap64 ((i : Int) - 1) = ((i - 1 : Nat) : Int) := by rw [w64] <;> omega
      have g5 : (rd_T42 l ((i - 1 : Nat) : Int)).f0 ≥ (rd_T42 l i).f0 := by
        by_cases h : (rd_T42 l ((i - 1 : Nat) : Int)).f0 < (rd_T42 l i).f0
        · exact absurd ⟨by omega, by omega, by omega, by omega, fun _ => h⟩ g
        · omega
      rw [if_neg g1, if_neg g2, if_neg g3, if_neg g4, if_pos (by omega), e2, if_pos (by omega), if_pos (by omega), if_pos (by omega)]

theorem check_ev (l : List Smp) : (∃ K, ∀ k, K ≤ k → block_Check.f k l = some ((if May l then 0 else 1))) := by
  unfold block_Check.f
  by_cases h : (l.length : Int) > 64
  · simp only [if_pos h]
    rw [if_neg (fun hm => by have := hm.1; omega)]
    exact ⟨0, fun _ _ => rfl⟩
  · simp only [if_neg h]
    exact check_loop l (by omega) l.length 0 (by omega) (fun j hj => by omega)

/-- What samples that may be are, in words of the list. -/
theorem may_tail {s : Smp} {l : List Smp} (h : May (s :: l)) : May l := by
  refine ⟨by have := h.1; simp at this; omega, fun i hi => ?_⟩
  have := h.2 (i + 1) (by simp; omega)
  obtain ⟨g1, g2, g3, g4, g5⟩ := this
  have e : ∀ j : Nat, at_ (s :: l) (j + 1) = at_ l j := fun j => by
    simp only [at_, rd_T42]
    have h1 : ((j + 1 : Nat) : Int).toNat = j + 1 := by omega
    have h2 : ((j : Nat) : Int).toNat = j := by omega
    rw [h1, h2]; rfl
  rw [e] at g1 g2 g3 g4
  refine ⟨g1, g2, g3, g4, fun h0 => ?_⟩
  have := g5 (by omega)
  rw [e, show i + 1 - 1 = (i - 1) + 1 by omega, e] at this
  exact this
def Bd (s : Smp) : Prop := 0 ≤ s.f0 ∧ s.f0 ≤ 1099511627776 ∧ -1099511627776 ≤ s.f1 ∧ s.f1 ≤ 1099511627776
theorem may_one (s : Smp) : May [s] ↔ Bd s := by
  constructor
  · intro h
    have := h.2 0 (by simp)
    exact ⟨this.1, this.2.1, this.2.2.1, this.2.2.2.1⟩
  · intro h
    refine ⟨by simp, fun i hi => ?_⟩
    obtain rfl : i = 0 := by simp at hi; omega
    exact ⟨h.1, h.2.1, h.2.2.1, h.2.2.2, fun h0 => by omega⟩
theorem fits_iff (l : List Smp) (i : Nat) : Fits l i ↔ Bd (at_ l i) ∧ (0 < i → (at_ l (i - 1)).f0 < (at_ l i).f0) := by
  constructor
  · rintro ⟨a, b, c, d, e⟩; exact ⟨⟨a, b, c, d⟩, e⟩
  · rintro ⟨⟨a, b, c, d⟩, e⟩; exact ⟨a, b, c, d, e⟩

/-! ### rising lists -/
abbrev Rise (l : List Smp) : Prop := l.Pairwise (fun a b => a.f0 < b.f0)

theorem fits_tail {s : Smp} {l : List Smp} (h : ∀ i, i < (s :: l).length → Fits (s :: l) i) : ∀ i, i < l.length → Fits l i := by
  intro i hi
  have := h (i + 1) (by simp; omega)
  obtain ⟨g1, g2, g3, g4, g5⟩ := this
  have e : ∀ j : Nat, at_ (s :: l) (j + 1) = at_ l j := fun j => by
    simp only [at_, rd_T42]
    have h1 : ((j + 1 : Nat) : Int).toNat = j + 1 := by omega
    have h2 : ((j : Nat) : Int).toNat = j := by omega
    rw [h1, h2]; rfl
  rw [e] at g1 g2 g3 g4
  refine ⟨g1, g2, g3, g4, fun h0 => ?_⟩
  have := g5 (by omega)
  rw [e, show i + 1 - 1 = (i - 1) + 1 by omega, e] at this
  exact this

theorem fits_ok (l : List Smp) : (∀ i, i < l.length → Fits l i) → (∀ s ∈ l, Bd s) ∧ Rise l := by
  induction l with
  | nil => intro _; exact ⟨fun s h => by simp at h, List.Pairwise.nil⟩
  | cons s l ih =>
    intro h
    obtain ⟨h1, h2⟩ := ih (fits_tail h)
    have f0 := h 0 (by simp)
    have b0 : Bd s := ⟨f0.1, f0.2.1, f0.2.2.1, f0.2.2.2.1⟩
    refine ⟨fun x hx => ?_, ?_⟩
    · rcases List.mem_cons.1 hx with rfl | hx
      · exact b0
      · exact h1 x hx
    · refine List.pairwise_cons.2 ⟨fun b hb => ?_, h2⟩
      cases l with
      | nil => simp at hb
      | cons c l =>
        have f1' : s.f0 < c.f0 := (h 1 (by simp)).2.2.2.2 (by omega)
        rcases List.mem_cons.1 hb with rfl | hb
        · exact f1'
        · exact Int.lt_trans f1' ((List.pairwise_cons.1 h2).1 b hb)

end Go.Proofs.Ytlpohipneianjaa.Q
