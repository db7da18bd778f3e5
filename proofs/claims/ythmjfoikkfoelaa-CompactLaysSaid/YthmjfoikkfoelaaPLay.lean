/- Samples put together: the code's merge and the reference's one-by-one put are the same for samples that may be. No condition. -/
import Derived.Test.YthmjfoikkfoelaaG10
import Derived.Test.YthmjfoikkfoelaaG11
import Derived.Test.YthmjfoikkfoelaaG12
import Derived.Test.YthmjfoikkfoelaaG9
import Derived.Test.YthmjfoikkfoelaaPSamp
set_option linter.unusedVariables false
namespace Go.Proofs.Ythmjfoikkfoelaa.Q
open Go Go.RowKit Go.Proofs.Ythmjfoikkfoelaa.G Go.Proofs.YthmjfoikkfoelaaW.PrintWords Go.Proofs.YthmjfoikkfoelaaW.PrintLast

/-- Samples that may be, but for how many. -/
def MayW (l : List Smp) : Prop := l.length ≤ 4096 ∧ ∀ i, i < l.length → Fits l i
noncomputable instance (l : List Smp) : Decidable (MayW l) := Classical.propDecidable _

def Bd (s : Smp) : Prop := 0 ≤ s.f0 ∧ s.f0 ≤ 1099511627776 ∧ -1099511627776 ≤ s.f1 ∧ s.f1 ≤ 1099511627776
theorem may_one (s : Smp) : May [s] ↔ Bd s := by
  constructor
  · intro h
    have := h.2 0 (by simp)
    exact ⟨this.1, this.2.1, this.2.2.1, this.2.2.2.1⟩
  · intro h
    refine ⟨by simp, fun i hi => ?_⟩
    obtain rfl : i = 0 := by simp at hi; omega
    exact ⟨h.1, h.2.1, h.2.2.1, h.2.2.2, fun h0 => by omega⟩
theorem fits_iff (l : List Smp) (i : Nat) : Fits l i ↔ Bd (at_ l i) ∧ (0 < i → (at_ l (i - 1)).f0 < (at_ l i).f0) := by
  constructor
  · rintro ⟨a, b, c, d, e⟩; exact ⟨⟨a, b, c, d⟩, e⟩
  · rintro ⟨⟨a, b, c, d⟩, e⟩; exact ⟨a, b, c, d, e⟩

theorem sound_loop (l : List Smp) (hl : l.length ≤ 4096) (d : Nat) : ∀ i : Nat, i + d = l.length → (∀ j, j < i → Fits l j) → (∃ K, ∀ k, K ≤ k → compact_sound.l0 k l l (l.length : Int) i = some ((decide (MayW l)))) := by
  induction d with
  | zero =>
    intro i hi hf
    refine Ev.succ 0 fun k _ => ?_
    simp only [compact_sound.l0]
    rw [if_neg (by omega), decide_eq_true ⟨hl, fun j hj => hf j (by omega)⟩]
  | succ d ih =>
    intro i hi hf
    have bad : ¬ Fits l i → decide (MayW l) = false := fun h => decide_eq_false (fun hm => h (hm.2 i (by omega)))
    obtain ⟨K0, hK0⟩ := check_ev [rd_T41 l i]
    have hb : May [rd_T41 l i] ↔ Bd (rd_T41 l i) := may_one _
    have e1 : wrap64 ((i : Int) + 1) = ((i + 1 : Nat) : Int) := by rw [w64] <;> omega
    have unf : ∀ k, K0 ≤ k → compact_sound.l0 (k + 1) l l (l.length : Int) i = (if (if May [rd_T41 l i] then (0 : Int) else 1) = 0 then (if (i : Int) > 0 then (if 0 ≤ (wrap64 ((i : Int) - 1)) then (if (wrap64 ((i : Int) - 1)) < (l.length : Int) then (if ((rd_T41 l i).f0) ≤ ((rd_T41 l (wrap64 ((i : Int) - 1))).f0) then (some false) else (compact_sound.l0 k l l (l.length : Int) (((i + 1 : Nat) : Int)))) else (none)) else (none)) else (compact_sound.l0 k l l (l.length : Int) (((i + 1 : Nat) : Int)))) else (some false)) := by
      intro k hk
      simp only [compact_sound.l0]
      rw [if_pos (by omega), if_pos (by omega), if_pos (by omega), hK0 k hk, e1]
      rfl
    by_cases g : Fits l i
    · obtain ⟨K, hK⟩ := ih (i + 1) (by omega) (fun j hj => by
        rcases Nat.lt_or_ge j i with h | h
        · exact hf j h
        · obtain rfl : j = i := by omega
          exact g)
      have g' := (fits_iff l i).1 g
      refine Ev.succ (K + K0) fun k hk => ?_
      rw [unf k (by omega), if_pos (hb.2 g'.1), if_pos rfl]
      by_cases h0 : 0 < i
      · have e2 : wrap64 ((i : Int) - 1) = ((i - 1 : Nat) : Int) := by rw [w64] <;> omega
        have g6 := g'.2 h0
        simp only [at_] at g6
        rw [if_pos (by omega), e2, if_pos (by omega), if_pos (by omega), if_neg (by omega)]
        exact hK k (by omega)
      · rw [if_neg (by omega)]
        exact hK k (by omega)
    · rw [bad g]
      refine Ev.succ K0 fun k hk => ?_
      rw [unf k (by omega)]
      by_cases hb' : Bd (rd_T41 l i)
      · rw [if_pos (hb.2 hb'), if_pos rfl]
        have h0 : 0 < i := by
          rcases Nat.eq_zero_or_pos i with h | h
          · exact absurd ((fits_iff l i).2 ⟨hb', fun hh => by omega⟩) g
          · exact h
        have e2 : wrap64 ((i : Int) - 1) = ((i - 1 : Nat) : Int) := by rw [w64] <;> omega
        have g5 : (rd_T41 l ((i - 1 : Nat) : Int)).f0 ≥ (rd_T41 l i).f0 := by
          by_cases h : (rd_T41 l ((i - 1 : Nat) : Int)).f0 < (rd_T41 l i).f0
          · exact absurd ((fits_iff l i).2 ⟨hb', fun _ => h⟩) g
          · omega
        rw [if_pos (by omega), e2, if_pos (by omega), if_pos (by omega), if_pos (by omega)]
      · rw [if_neg (fun h => hb' (hb.1 h)), if_neg (by omega)]

theorem sound_ev (l : List Smp) : (∃ K, ∀ k, K ≤ k → compact_sound.f k l = some ((decide (MayW l)))) := by
  unfold compact_sound.f
  by_cases h : (l.length : Int) > 4096
  · refine ⟨0, fun k _ => ?_⟩
    rw [if_pos h, decide_eq_false (fun hm => by have := hm.1; omega)]
  · obtain ⟨K, hK⟩ := sound_loop l (by omega) l.length 0 (by omega) (fun j hj => by omega)
    refine ⟨K, fun k hk => ?_⟩
    rw [if_neg h]
    exact hK k hk

theorem mayW_loop (l : List Smp) (hl : l.length ≤ maxLen) (d : Nat) : ∀ i : Nat, i + d = l.length → (∀ j, j < i → Fits l j) → (∃ K, ∀ k, K ≤ k → windroseref22_May.l0 k l i = some ((decide (MayW l)))) := by
  unfold maxLen at hl
  induction d with
  | zero =>
    intro i hi hf
    refine Ev.succ 0 fun k _ => ?_
    simp only [windroseref22_May.l0]
    rw [if_neg (by omega)]
    congr 1
    rw [decide_eq_decide]
    exact ⟨fun h => ⟨by omega, fun j hj => hf j (by omega)⟩, fun h => by have := h.1; omega⟩
  | succ d ih =>
    intro i hi hf
    have bad : ¬ Fits l i → decide (MayW l) = false := fun h => decide_eq_false (fun hm => h (hm.2 i (by omega)))
    have hs : ((l.take ((i + 1 : Nat) : Int).toNat).drop (i : Int).toNat) = [rd_T41 l i] := by
      simp only [rd_T41, Int.toNat_natCast]
      rw [List.drop_take, drop_getD l i z41 (by omega), show i + 1 - i = 1 by omega]
      rfl
    obtain ⟨K0, hK0⟩ := may_ev [rd_T41 l i] (by simp [maxLen])
    have hb : May [rd_T41 l i] ↔ Bd (rd_T41 l i) := may_one _
    have e1 : wrap64 ((i : Int) + 1) = ((i + 1 : Nat) : Int) := by rw [w64] <;> omega
    have unf : ∀ k, K0 ≤ k → windroseref22_May.l0 (k + 1) l i = (if decide (May [rd_T41 l i]) = true then (if (i : Int) > 0 then (if 0 ≤ (wrap64 ((i : Int) - 1)) then (if (wrap64 ((i : Int) - 1)) < (l.length : Int) then (if ((rd_T41 l (wrap64 ((i : Int) - 1))).f0) ≥ ((rd_T41 l i).f0) then (some false) else (windroseref22_May.l0 k l (((i + 1 : Nat) : Int)))) else (none)) else (none)) else (windroseref22_May.l0 k l (((i + 1 : Nat) : Int)))) else (some false)) := by
      intro k hk
      simp only [windroseref22_May.l0]
      rw [if_pos (by omega), if_pos (by omega), e1, if_pos (by omega), if_pos (by omega), hs, hK0 k hk]
      rfl
    by_cases g : Fits l i
    · obtain ⟨K, hK⟩ := ih (i + 1) (by omega) (fun j hj => by
        rcases Nat.lt_or_ge j i with h | h
        · exact hf j h
        · obtain rfl : j = i := by omega
          exact g)
      have g' := (fits_iff l i).1 g
      refine Ev.succ (K + K0) fun k hk => ?_
      rw [unf k (by omega), decide_eq_true (hb.2 g'.1), if_pos rfl]
      by_cases h0 : 0 < i
      · have e2 : wrap64 ((i : Int) - 1) = ((i - 1 : Nat) : Int) := by rw [w64] <;> omega
        have g6 := g'.2 h0
        simp only [at_] at g6
        rw [if_pos (by omega), e2, if_pos (by omega), if_pos (by omega), if_neg (by omega)]
        exact hK k (by omega)
      · rw [if_neg (by omega)]
        exact hK k (by omega)
    · rw [bad g]
      refine Ev.succ K0 fun k hk => ?_
      rw [unf k (by omega)]
      by_cases hb' : Bd (rd_T41 l i)
      · rw [decide_eq_true (hb.2 hb'), if_pos rfl]
        have h0 : 0 < i := by
          rcases Nat.eq_zero_or_pos i with h | h
          · exact absurd ((fits_iff l i).2 ⟨hb', fun hh => by omega⟩) g
          · exact h
        have e2 : wrap64 ((i : Int) - 1) = ((i - 1 : Nat) : Int) := by rw [w64] <;> omega
        have g5 : (rd_T41 l ((i - 1 : Nat) : Int)).f0 ≥ (rd_T41 l i).f0 := by
          by_cases h : (rd_T41 l ((i - 1 : Nat) : Int)).f0 < (rd_T41 l i).f0
          · exact absurd ((fits_iff l i).2 ⟨hb', fun _ => h⟩) g
          · omega
        rw [if_pos (by omega), e2, if_pos (by omega), if_pos (by omega), if_pos (by omega)]
      · rw [decide_eq_false (fun h => hb' (hb.1 h)), if_neg (by simp)]

theorem mayW_ev (l : List Smp) (hl : l.length ≤ maxLen) : (∃ K, ∀ k, K ≤ k → windroseref22_May.f k l = some ((decide (MayW l)))) :=
  mayW_loop l hl l.length 0 (by omega) (fun j hj => by omega)

/-! ### rising lists -/
abbrev Rise (l : List Smp) : Prop := l.Pairwise (fun a b => a.f0 < b.f0)

theorem fits_tail {s : Smp} {l : List Smp} (h : ∀ i, i < (s :: l).length → Fits (s :: l) i) : ∀ i, i < l.length → Fits l i := by
  intro i hi
  have := h (i + 1) (by simp; omega)
  obtain ⟨g1, g2, g3, g4, g5⟩ := this
  have e : ∀ j : Nat, at_ (s :: l) (j + 1) = at_ l j := fun j => by
    simp only [at_, rd_T41]
    have h1 : ((j + 1 : Nat) : Int).toNat = j + 1 := by omega
    have h2 : ((j : Nat) : Int).toNat = j := by omega
    rw [h1, h2]; rfl
  rw [e] at g1 g2 g3 g4
  refine ⟨g1, g2, g3, g4, fun h0 => ?_⟩
  have := g5 (by omega)
  rw [e, show i + 1 - 1 = (i - 1) + 1 by omega, e] at this
  exact this

theorem fits_ok (l : List Smp) : (∀ i, i < l.length → Fits l i) → (∀ s ∈ l, Bd s) ∧ Rise l := by
  induction l with
  | nil => intro _; exact ⟨fun s h => by simp at h, List.Pairwise.nil⟩
  | cons s l ih =>
    intro h
    obtain ⟨h1, h2⟩ := ih (fits_tail h)
    have f0 := h 0 (by simp)
    have b0 : Bd s := ⟨f0.1, f0.2.1, f0.2.2.1, f0.2.2.2.1⟩
    refine ⟨fun x hx => ?_, ?_⟩
    · rcases List.mem_cons.1 hx with rfl | hx
      · exact b0
      · exact h1 x hx
    · refine List.pairwise_cons.2 ⟨fun b hb => ?_, h2⟩
      cases l with
      | nil => simp at hb
      | cons c l =>
        have f1' : s.f0 < c.f0 := (h 1 (by simp)).2.2.2.2 (by omega)
        rcases List.mem_cons.1 hb with rfl | hb
        · exact f1'
        · exact Int.lt_trans f1' ((List.pairwise_cons.1 h2).1 b hb)

/-! ### put and lay -/
def putS (s : Smp) : List Smp → List Smp
  | [] => [s]
  | x :: a => if x.f0 < s.f0 then x :: putS s a else if x.f0 = s.f0 then s :: a else s :: x :: a
def layS : List Smp → List Smp → List Smp
  | [], b => b
  | x :: a, [] => x :: a
  | x :: a, y :: b => if x.f0 < y.f0 then x :: layS a (y :: b) else if y.f0 < x.f0 then y :: layS (x :: a) b else y :: layS a b
termination_by a b => a.length + b.length

theorem layS_nil (b : List Smp) : layS [] b = b := by unfold layS; rfl
theorem layS_nil2 (a : List Smp) : layS a [] = a := by cases a <;> (unfold layS; rfl)
theorem layS_cons (x y : Smp) (a b : List Smp) : layS (x :: a) (y :: b) = if x.f0 < y.f0 then x :: layS a (y :: b) else if y.f0 < x.f0 then y :: layS (x :: a) b else y :: layS a b := by
  rw [layS]

theorem putS_mem (s : Smp) (a : List Smp) : ∀ x ∈ putS s a, x = s ∨ x ∈ a := by
  induction a with
  | nil => intro x hx; simp [putS] at hx; exact .inl hx
  | cons y a ih =>
    intro x hx
    simp only [putS] at hx
    split at hx
    · rcases List.mem_cons.1 hx with rfl | hx
      · simp
      · rcases ih x hx with h | h
        · exact .inl h
        · exact .inr (by simp [h])
    · split at hx <;> simp at hx ⊢ <;> (rcases hx with h | h <;> simp [h])

theorem putS_rise (s : Smp) (a : List Smp) (h : Rise a) : Rise (putS s a) := by
  induction a with
  | nil => simp [putS, Rise]
  | cons y a ih =>
    obtain ⟨h1, h2⟩ := List.pairwise_cons.1 h
    simp only [putS]
    split
    · refine List.pairwise_cons.2 ⟨fun x hx => ?_, ih h2⟩
      rcases putS_mem s a x hx with rfl | hx
      · assumption
      · exact h1 x hx
    · split
      · refine List.pairwise_cons.2 ⟨fun x hx => ?_, h2⟩
        have := h1 x hx
        omega
      · refine List.pairwise_cons.2 ⟨fun x hx => ?_, h⟩
        rcases List.mem_cons.1 hx with rfl | hx
        · omega
        · have := h1 x hx
          omega

theorem lay_put (s : Smp) (b : List Smp) (hb : ∀ y ∈ b, s.f0 < y.f0) (a : List Smp) (ha : Rise a) : layS (putS s a) b = layS a (s :: b) := by
  have hs : ∀ a, layS (s :: a) b = s :: layS a b := by
    intro a
    cases b with
    | nil => rw [layS_nil2, layS_nil2]
    | cons y b => rw [layS_cons, if_pos (hb y (by simp))]
  induction a with
  | nil => rw [putS, layS_nil, hs, layS_nil]
  | cons x a ih =>
    obtain ⟨h1, h2⟩ := List.pairwise_cons.1 ha
    simp only [putS]
    by_cases c1 : x.f0 < s.f0
    · rw [if_pos c1, layS_cons, if_pos c1, ← ih h2]
      cases b with
      | nil => rw [layS_nil2, layS_nil2]
      | cons y b => rw [layS_cons, if_pos (Int.lt_trans c1 (hb y (by simp)))]
    · by_cases c2 : x.f0 = s.f0
      · rw [if_neg c1, if_pos c2, layS_cons, if_neg c1, if_neg (by omega), hs]
      · rw [if_neg c1, if_neg c2, layS_cons, if_neg c1, if_pos (by omega), hs]

theorem lay_fold (b : List Smp) : ∀ a, Rise a → Rise b → b.foldl (fun a s => putS s a) a = layS a b := by
  induction b with
  | nil => intro a _ _; rw [layS_nil2]; rfl
  | cons s b ih =>
    intro a ha hb
    obtain ⟨h1, h2⟩ := List.pairwise_cons.1 hb
    rw [List.foldl_cons, ih _ (putS_rise s a ha) h2, lay_put s b h1 a ha]

theorem layS_length (a b : List Smp) : (layS a b).length ≤ a.length + b.length := by
  fun_induction layS a b with
  | case1 b => simp
  | case2 x a => simp
  | case3 x a y b h ih => simp at ih ⊢; omega
  | case4 x a y b h h2 ih => simp at ih ⊢; omega
  | case5 x a y b h h2 ih => simp at ih ⊢; omega

theorem lay_loop (n : Nat) : ∀ (a b acc : List Smp), a.length + b.length ≤ n → acc.length + n < 8796093022208 → (∃ K, ∀ k, K ≤ k → compact_lay.l0 k a b acc = some ((acc ++ layS a b))) := by
  induction n with
  | zero =>
    intro a b acc h _
    obtain rfl : a = [] := List.eq_nil_of_length_eq_zero (by omega)
    obtain rfl : b = [] := List.eq_nil_of_length_eq_zero (by omega)
    refine ⟨2, fun k hk => ?_⟩
    obtain ⟨k, rfl⟩ : ∃ m, k = m + 2 := ⟨k - 2, by omega⟩
    simp [compact_lay.l0, compact_lay.j1, layS_nil]
  | succ n ih =>
    intro a b acc h hacc
    cases a with
    | nil =>
      cases b with
      | nil =>
        refine ⟨2, fun k hk => ?_⟩
        obtain ⟨k, rfl⟩ : ∃ m, k = m + 2 := ⟨k - 2, by omega⟩
        simp [compact_lay.l0, compact_lay.j1, layS_nil]
      | cons y b =>
        obtain ⟨K, hK⟩ := ih [] b (acc ++ [y]) (by simp at h ⊢; omega) (by simp; omega)
        refine ⟨K + 3, fun k hk => ?_⟩
        obtain ⟨k, rfl⟩ : ∃ m, k = m + 3 := ⟨k - 3, by omega⟩
        have hk' := hK k (by omega)
        have e : rd_T41 (y :: b) 0 = y := rfl
        have l1 : ((y :: b).length : Int) > 0 := by simp only [List.length_cons]; omega
        have l2 : ¬ ((y :: b).length : Int) = 0 := by omega
        simp only [compact_lay.l0, compact_lay.j1, compact_lay.j2]
        rw [if_neg (by simp), decide_eq_true l1, if_pos rfl, if_neg l2, if_neg (by simp), if_neg (by simp), if_pos (by simp), if_pos (by omega), if_pos (by omega), if_pos (by omega), e]
        rw [layS_nil] at hk' ⊢
        simpa using hk'
    | cons x a =>
      have ex : rd_T41 (x :: a) 0 = x := rfl
      have l1 : ((x :: a).length : Int) > 0 := by simp only [List.length_cons]; omega
      cases b with
      | nil =>
        obtain ⟨K, hK⟩ := ih a [] (acc ++ [x]) (by simp at h ⊢; omega) (by simp; omega)
        refine ⟨K + 3, fun k hk => ?_⟩
        obtain ⟨k, rfl⟩ : ∃ m, k = m + 3 := ⟨k - 3, by omega⟩
        have hk' := hK k (by omega)
        simp only [compact_lay.l0, compact_lay.j1, compact_lay.j2]
        rw [if_pos l1, if_pos trivial, if_pos (by simp), if_pos trivial, if_pos (by omega), if_pos (by omega), if_pos (by omega), ex]
        rw [layS_nil2] at hk' ⊢
        simpa using hk'
      | cons y b =>
        have ey : rd_T41 (y :: b) 0 = y := rfl
        have l2 : ((y :: b).length : Int) > 0 := by simp only [List.length_cons]; omega
        rw [layS_cons]
        have pre : ∀ k, compact_lay.l0 (k + 2) (x :: a) (y :: b) acc = compact_lay.j2 k (x :: a) (y :: b) acc (decide (x.f0 < y.f0)) := by
          intro k
          simp only [compact_lay.l0, compact_lay.j1]
          rw [if_pos l1, if_pos trivial, if_neg (by omega), if_pos l1, if_pos (by omega), if_pos (by omega), ex, ey]
        by_cases c1 : x.f0 < y.f0
        · obtain ⟨K, hK⟩ := ih a (y :: b) (acc ++ [x]) (by simp at h ⊢; omega) (by simp; omega)
          refine ⟨K + 3, fun k hk => ?_⟩
          obtain ⟨k, rfl⟩ : ∃ m, k = m + 3 := ⟨k - 3, by omega⟩
          have hk' := hK k (by omega)
          rw [if_pos c1, show k + 3 = k + 1 + 2 by omega, pre, decide_eq_true c1]
          simp only [compact_lay.j2]
          rw [if_pos trivial, if_pos (by omega), if_pos (by omega), if_pos (by omega), ex]
          simpa using hk'
        · by_cases c2 : y.f0 < x.f0
          · obtain ⟨K, hK⟩ := ih (x :: a) b (acc ++ [y]) (by simp at h ⊢; omega) (by simp; omega)
            refine ⟨K + 3, fun k hk => ?_⟩
            obtain ⟨k, rfl⟩ : ∃ m, k = m + 3 := ⟨k - 3, by omega⟩
            have hk' := hK k (by omega)
            rw [if_neg c1, if_pos c2, show k + 3 = k + 1 + 2 by omega, pre, decide_eq_false c1]
            simp only [compact_lay.j2]
            rw [if_neg (by simp), if_neg (by omega), if_pos (by omega), if_pos (by omega), ex, ey, if_pos c2, if_pos (by omega), if_pos (by omega)]
            simpa using hk'
          · obtain ⟨K, hK⟩ := ih a b (acc ++ [y]) (by simp at h ⊢; omega) (by simp; omega)
            refine ⟨K + 3, fun k hk => ?_⟩
            obtain ⟨k, rfl⟩ : ∃ m, k = m + 3 := ⟨k - 3, by omega⟩
            have hk' := hK k (by omega)
            rw [if_neg c1, if_neg c2, show k + 3 = k + 1 + 2 by omega, pre, decide_eq_false c1]
            simp only [compact_lay.j2]
            rw [if_neg (by simp), if_neg (by omega), if_pos (by omega), if_pos (by omega), ex, ey, if_neg c2, if_pos (by omega), if_pos (by omega), if_pos (by omega)]
            simpa using hk'

theorem lay_ev (a b : List Smp) (h : a.length + b.length ≤ 1000000) : (∃ K, ∀ k, K ≤ k → compact_lay.f k a b = some ((layS a b))) := by
  obtain ⟨K, hK⟩ := lay_loop (a.length + b.length) a b [] (Nat.le_refl _) (by simp; omega)
  exact ⟨K, fun k hk => by unfold compact_lay.f; simpa using hK k hk⟩

/-- What compact.Lay answers. -/
theorem Lay_ev (a b : List Smp) : (∃ K, ∀ k, K ≤ k → compact_Lay.f k a b = some ((if MayW a ∧ MayW b then layS a b else []))) := by
  obtain ⟨K1, h1⟩ := sound_ev a
  obtain ⟨K2, h2⟩ := sound_ev b
  by_cases ha : MayW a
  · by_cases hb : MayW b
    · obtain ⟨K3, h3⟩ := lay_ev a b (by have := ha.1; have := hb.1; omega)
      refine ⟨K1 + K2 + K3, fun k hk => ?_⟩
      unfold compact_Lay.f
      rw [h1 k (by omega), Option.bind_some, decide_eq_true ha, if_pos rfl, h2 k (by omega), Option.bind_some, decide_eq_true hb, if_pos rfl, h3 k (by omega), if_pos ⟨ha, hb⟩]
      rfl
    · refine ⟨K1 + K2, fun k hk => ?_⟩
      unfold compact_Lay.f
      rw [h1 k (by omega), Option.bind_some, decide_eq_true ha, if_pos rfl, h2 k (by omega), Option.bind_some, decide_eq_false hb, if_neg (by simp), if_neg (fun h => hb h.2)]
  · refine ⟨K1, fun k hk => ?_⟩
    unfold compact_Lay.f
    rw [h1 k (by omega), Option.bind_some, decide_eq_false ha, if_neg (by simp), if_neg (fun h => ha h.1)]

/-! ### the reference's -/
theorem put_done (s : Smp) (a : List Smp) (hl : a.length ≤ 1000000) (d : Nat) : ∀ (i : Nat) (acc : List Smp), i + d = a.length → acc.length ≤ i + 1 → (∀ x ∈ a.drop i, x.f0 ≠ s.f0) →
    (∃ K, ∀ k, K ≤ k → windroseref22_put.l0 k a acc true i s.f0 s.f1 = some ((acc ++ a.drop i))) := by
  induction d with
  | zero =>
    intro i acc hi ha _
    refine Ev.succ 0 fun k _ => ?_
    simp only [windroseref22_put.l0]
    rw [if_neg (by omega), if_pos trivial, List.drop_of_length_le (by omega), List.append_nil]
  | succ d ih =>
    intro i acc hi ha hne
    have hd := drop_getD a i z41 (by omega)
    obtain ⟨K, hK⟩ := ih (i + 1) (acc ++ [rd_T41 a i]) (by omega) (by simp; omega) (fun x hx => hne x (by rw [hd]; simp [hx]))
    refine ⟨K + 2, fun k hk => ?_⟩
    obtain ⟨k, rfl⟩ : ∃ m, k = m + 2 := ⟨k - 2, by omega⟩
    have e1 : wrap64 ((i : Int) + 1) = ((i + 1 : Nat) : Int) := by rw [w64] <;> omega
    have hx : (rd_T41 a i).f0 ≠ s.f0 := hne _ (by rw [hd]; simp [rd_T41])
    simp only [windroseref22_put.l0, windroseref22_put.j1]
    rw [if_pos (by omega), if_pos trivial, if_neg (by simp), if_pos (by omega), if_pos (by omega), if_neg hx, if_pos (by omega), e1]
    rw [hd]
    have := hK k (by omega)
    rw [List.append_assoc] at this
    exact this

theorem put_loop (s : Smp) (a : List Smp) (hl : a.length ≤ 1000000) (hr : Rise a) (d : Nat) : ∀ (i : Nat) (acc : List Smp), i + d = a.length → acc.length ≤ i →
    (∃ K, ∀ k, K ≤ k → windroseref22_put.l0 k a acc false i s.f0 s.f1 = some ((acc ++ putS s (a.drop i)))) := by
  induction d with
  | zero =>
    intro i acc hi ha
    refine Ev.succ 0 fun k _ => ?_
    simp only [windroseref22_put.l0]
    rw [if_neg (by omega), if_neg (by simp), if_pos (by omega), List.drop_of_length_le (by omega)]
    rfl
  | succ d ih =>
    intro i acc hi ha
    have hd := drop_getD a i z41 (by omega)
    have hd' : a.drop i = rd_T41 a i :: a.drop (i + 1) := by rw [hd]; rfl
    have e1 : wrap64 ((i : Int) + 1) = ((i + 1 : Nat) : Int) := by rw [w64] <;> omega
    have hrise : Rise (a.drop i) := List.Pairwise.sublist (List.drop_sublist i a) hr
    rw [hd'] at hrise ⊢
    have h1 := (List.pairwise_cons.1 hrise).1
    simp only [putS]
    by_cases c1 : (rd_T41 a i).f0 < s.f0
    · obtain ⟨K, hK⟩ := ih (i + 1) (acc ++ [rd_T41 a i]) (by omega) (by simp; omega)
      refine ⟨K + 2, fun k hk => ?_⟩
      obtain ⟨k, rfl⟩ : ∃ m, k = m + 2 := ⟨k - 2, by omega⟩
      simp only [windroseref22_put.l0, windroseref22_put.j1]
      rw [if_pos (by omega), if_neg (by simp), if_pos (by omega), decide_eq_false (by omega), if_neg (by simp), if_pos (by omega), if_pos (by omega), if_neg (by omega), if_pos (by omega), e1, if_pos c1]
      have := hK k (by omega)
      simpa using this
    · by_cases c2 : (rd_T41 a i).f0 = s.f0
      · obtain ⟨K, hK⟩ := put_done s a hl d (i + 1) (acc ++ [s]) (by omega) (by simp; omega) (fun x hx => by have := h1 x hx; omega)
        refine ⟨K + 2, fun k hk => ?_⟩
        obtain ⟨k, rfl⟩ : ∃ m, k = m + 2 := ⟨k - 2, by omega⟩
        simp only [windroseref22_put.l0, windroseref22_put.j1]
        rw [if_pos (by omega), if_neg (by simp), if_pos (by omega), decide_eq_true (by omega), if_pos rfl, if_pos (by omega), Option.bind_some, if_pos (by omega), if_pos (by omega), if_pos c2, e1, if_neg c1, if_pos c2]
        have := hK k (by omega)
        simpa using this
      · obtain ⟨K, hK⟩ := put_done s a hl d (i + 1) (acc ++ [s] ++ [rd_T41 a i]) (by omega) (by simp; omega) (fun x hx => by have := h1 x hx; omega)
        refine ⟨K + 2, fun k hk => ?_⟩
        obtain ⟨k, rfl⟩ : ∃ m, k = m + 2 := ⟨k - 2, by omega⟩
        simp only [windroseref22_put.l0, windroseref22_put.j1]
        rw [if_pos (by omega), if_neg (by simp), if_pos (by omega), decide_eq_true (by omega), if_pos rfl, if_pos (by omega), Option.bind_some, if_pos (by omega), if_pos (by omega), if_neg c2, if_pos (by simp; omega), e1, if_neg c1, if_neg c2]
        have := hK k (by omega)
        simpa using this

theorem put_ev (s : Smp) (a : List Smp) (hl : a.length ≤ 1000000) (hr : Rise a) : (∃ K, ∀ k, K ≤ k → windroseref22_put.f k a s.f0 s.f1 = some ((putS s a))) := by
  obtain ⟨K, hK⟩ := put_loop s a hl hr a.length 0 [] (by omega) (by simp)
  exact ⟨K, fun k hk => by unfold windroseref22_put.f; simpa using hK k hk⟩

theorem putS_length (s : Smp) (a : List Smp) : (putS s a).length ≤ a.length + 1 := by
  induction a with
  | nil => simp [putS]
  | cons x a ih =>
    simp only [putS]
    split
    · simp; omega
    · split <;> simp

theorem refLay_loop (b : List Smp) (hb : b.length ≤ 100000) (d : Nat) : ∀ (i : Nat) (a : List Smp), i + d = b.length → a.length + d ≤ 1000000 → Rise a → (∃ K, ∀ k, K ≤ k → windroseref22_Lay.l0 k a b i = some (((b.drop i).foldl (fun a s => putS s a) a))) := by
  induction d with
  | zero =>
    intro i a hi _ _
    refine Ev.succ 0 fun k _ => ?_
    simp only [windroseref22_Lay.l0]
    rw [if_neg (by omega), List.drop_of_length_le (by omega)]
    rfl
  | succ d ih =>
    intro i a hi hl hr
    have hd : b.drop i = rd_T41 b i :: b.drop (i + 1) := by rw [drop_getD b i z41 (by omega)]; rfl
    obtain ⟨K0, hK0⟩ := put_ev (rd_T41 b i) a (by omega) hr
    have hpl := putS_length (rd_T41 b i) a
    obtain ⟨K, hK⟩ := ih (i + 1) (putS (rd_T41 b i) a) (by omega) (by omega) (putS_rise _ _ hr)
    have e1 : wrap64 ((i : Int) + 1) = ((i + 1 : Nat) : Int) := by rw [w64] <;> omega
    refine Ev.succ (K + K0) fun k hk => ?_
    simp only [windroseref22_Lay.l0]
    rw [if_pos (by omega), if_pos (by omega), hK0 k (by omega), Option.bind_some, e1, hd, List.foldl_cons]
    exact hK k (by omega)

theorem refLay_ev (a b : List Smp) (h : a.length + b.length ≤ 100000) (ha : Rise a) (hb : Rise b) : (∃ K, ∀ k, K ≤ k → windroseref22_Lay.f k a b = some ((layS a b))) := by
  obtain ⟨K, hK⟩ := refLay_loop b (by omega) b.length 0 a (by omega) (by omega) ha
  refine ⟨K, fun k hk => ?_⟩
  have := hK k hk
  rw [List.drop_zero, lay_fold b a ha hb] at this
  exact this

theorem same_samples (a : List Smp) (hl : a.length ≤ maxLen) (d : Nat) : ∀ i : Nat, i + d = a.length → (∃ K, ∀ k, K ≤ k → windroseref11_Same.l0 k a a i = some (true)) := by
  unfold maxLen at hl
  induction d with
  | zero =>
    intro i hi
    refine Ev.succ 0 fun k _ => ?_
    simp only [windroseref11_Same.l0]
    rw [if_neg (by omega)]
  | succ d ih =>
    intro i hi
    obtain ⟨K, hK⟩ := ih (i + 1) (by omega)
    refine Ev.succ K fun k hk => ?_
    simp only [windroseref11_Same.l0]
    have e1 : wrap64 ((i : Int) + 1) = ((i + 1 : Nat) : Int) := by rw [w64] <;> omega
    rw [if_pos (by omega), if_pos (by omega), if_pos (by omega), if_neg (by simp), e1]
    exact hK k hk
theorem same_samples_ev (a : List Smp) (hl : a.length ≤ maxLen) : (∃ K, ∀ k, K ≤ k → windroseref11_Same.f k a a = some (true)) := by
  obtain ⟨K, hK⟩ := same_samples a hl a.length 0 (by omega)
  refine Ev.mk K fun k hk => ?_
  unfold windroseref11_Same.f
  rw [if_pos rfl]
  exact hK k hk
end Go.Proofs.Ythmjfoikkfoelaa.Q
