/- What block.Pack and block.Bytes answer. No condition. -/
import Derived.Test.YtlpohipneianjaaG3
import Derived.Test.YtlpohipneianjaaG6
import Derived.Test.YtlpohipneianjaaPSamp
import Derived.Test.YtlpohipneianjaaPEnc
set_option linter.unusedVariables false
namespace Go.Proofs.Ytlpohipneianjaa.Q
open Go Go.RowKit Go.Proofs.Ytlpohipneianjaa.G Go.Proofs.YtlpohipneianjaaW.PrintWords Go.Proofs.YtlpohipneianjaaW.PrintLast

/-- By how much is more, of the one and of the one ahead. -/
def pk : Bool → Int → Int → Int → Int → List Smp → List Int
  | _, _, _, _, _, [] => []
  | f, lt, lv, st, sv, s :: q => (s.f0 - lt - st) :: (s.f1 - lv - sv) :: pk false s.f0 s.f1 (if f then st else s.f0 - lt) (if f then sv else s.f1 - lv) q

def B2 (x : Int) : Prop := -4398046511104 ≤ x ∧ x ≤ 4398046511104

theorem pack_loop (l : List Smp) (hm : May l) (d : Nat) : ∀ (i : Nat) (f : Bool) (acc : List Int) (lt lv st sv : Int), (f = true ↔ i = 0) → i + d = l.length → acc.length ≤ 1000 + 2 * i → (-1099511627776 ≤ lt ∧ lt ≤ 1099511627776) → (-1099511627776 ≤ lv ∧ lv ≤ 1099511627776) → (-2199023255552 ≤ st ∧ st ≤ 2199023255552) → (-2199023255552 ≤ sv ∧ sv ≤ 2199023255552) →
    (∃ K, ∀ k, K ≤ k → block_Pack.l0 k l (l.length : Int) i acc lt lv st sv = some ((acc ++ pk f lt lv st sv (l.drop i), [], 0))) := by
  have h64 := hm.1
  induction d with
  | zero =>
    intro i f acc lt lv st sv hf0 hi ha h1 h2 h3 h4
    refine Ev.succ 0 fun k _ => ?_
    simp only [block_Pack.l0]
    rw [if_neg (by omega), List.drop_of_length_le (by omega), pk, List.append_nil]
  | succ d ih =>
    intro i f acc lt lv st sv hf0 hi ha h1 h2 h3 h4
    have hf := hm.2 i (by omega)
    obtain ⟨f1, f2, f3, f4, _⟩ := hf
    simp only [at_] at f1 f2 f3 f4
    have hd : l.drop i = rd_T42 l i :: l.drop (i + 1) := by rw [drop_getD l i z42 (by omega)]; rfl
    generalize hs : rd_T42 l i = s at hd f1 f2 f3 f4
    have c1 : (i : Int) < (l.length : Int) := by clear f1 f2 f3 f4; omega
    have c2 : (0 : Int) ≤ (i : Int) := Int.natCast_nonneg i
    have hc : ∀ x y : Int, acc.length + [x, y].length < 17592186044416 := fun x y => by
      have : [x, y].length = 2 := rfl
      rw [this]; clear f1 f2 f3 f4; omega
    have hb2 : acc.length + 2 ≤ 1000 + 2 * (i + 1) := by clear f1 f2 f3 f4; omega
    have hb3 : ∀ x y : Int, (acc ++ [x, y]).length ≤ 1000 + 2 * (i + 1) := fun x y => by rw [List.length_append]; exact hb2
    have e1 : wrap64 ((i : Int) + 1) = ((i + 1 : Nat) : Int) := by rw [w64] <;> omega
    have a1 : wrap64 (s.f0 - lt) = s.f0 - lt := by rw [w64] <;> omega
    have a2 : wrap64 (s.f1 - lv) = s.f1 - lv := by rw [w64] <;> omega
    have a3 : wrap64 (s.f0 - lt - st) = s.f0 - lt - st := by rw [w64] <;> omega
    have a4 : wrap64 (s.f1 - lv - sv) = s.f1 - lv - sv := by rw [w64] <;> omega
    rw [hd, pk]
    cases f with
    | true =>
      have h0 : i = 0 := hf0.1 rfl
      obtain ⟨K, hK⟩ := ih (i + 1) false (acc ++ [s.f0 - lt - st, s.f1 - lv - sv]) s.f0 s.f1 st sv (by simp) (by omega) (hb3 _ _) (by omega) (by omega) h3 h4
      refine Ev.succ K fun k hk => ?_
      have hKk := hK k hk
      rw [List.append_assoc] at hKk
      simp only [block_Pack.l0]
      rw [if_pos c1, if_pos c2, if_pos c1, hs, a1, a2, a3, a4, Option.bind_some, if_pos (hc _ _), Option.bind_some, if_neg (show ¬ (i : Int) > 0 by rw [h0]; decide), e1]
      simp only [if_true]
      exact hKk
    | false =>
      have h0 : ¬ i = 0 := fun h => by simp [h] at hf0
      have c0 : (i : Int) > 0 := by clear f1 f2 f3 f4; omega
      obtain ⟨K, hK⟩ := ih (i + 1) false (acc ++ [s.f0 - lt - st, s.f1 - lv - sv]) s.f0 s.f1 (s.f0 - lt) (s.f1 - lv) (by simp) (by omega) (hb3 _ _) (by omega) (by omega) (by omega) (by omega)
      refine Ev.succ K fun k hk => ?_
      have hKk := hK k hk
      rw [List.append_assoc] at hKk
      simp only [block_Pack.l0]
      rw [if_pos c1, if_pos c2, if_pos c1, hs, a1, a2, a3, a4, Option.bind_some, if_pos (hc _ _), Option.bind_some, if_pos c0, e1]
      simp only [Bool.false_eq_true, if_false]
      exact hKk

def packS (l : List Smp) : List Int := (l.length : Int) :: pk true 0 0 0 0 l
theorem Pack_ev (l : List Smp) : (∃ K, ∀ k, K ≤ k → block_Pack.f k l = some ((if May l then (packS l, [], 0) else ([], [], 1)))) := by
  obtain ⟨K1, h1⟩ := check_ev l
  by_cases hm : May l
  · obtain ⟨K2, h2⟩ := pack_loop l hm l.length 0 true [(l.length : Int)] 0 0 0 0 (by simp) (by omega) (by simp) (by omega) (by omega) (by omega) (by omega)
    refine ⟨K1 + K2, fun k hk => ?_⟩
    unfold block_Pack.f
    rw [h1 k (by omega), if_pos hm, if_pos hm, Option.bind_some, if_pos rfl]
    exact h2 k (by omega)
  · refine ⟨K1, fun k hk => ?_⟩
    unfold block_Pack.f
    rw [h1 k (by omega), if_neg hm, if_neg hm, Option.bind_some, if_neg (by decide)]

theorem pk_len (l : List Smp) : ∀ f lt lv st sv, (pk f lt lv st sv l).length = 2 * l.length := by
  induction l with
  | nil => intros; rfl
  | cons s l ih => intro f lt lv st sv; simp only [pk, List.length_cons, ih]; omega

theorem pk_b (l : List Smp) : (∀ s ∈ l, Bd s) → ∀ f lt lv st sv, (-1099511627776 ≤ lt ∧ lt ≤ 1099511627776) → (-1099511627776 ≤ lv ∧ lv ≤ 1099511627776) → (-2199023255552 ≤ st ∧ st ≤ 2199023255552) → (-2199023255552 ≤ sv ∧ sv ≤ 2199023255552) →
    ∀ x ∈ pk f lt lv st sv l, B2 x := by
  induction l with
  | nil => intro _ f lt lv st sv _ _ _ _ x hx; simp [pk] at hx
  | cons s l ih =>
    intro hb f lt lv st sv h1 h2 h3 h4 x hx
    obtain ⟨b1, b2, b3, b4⟩ := hb s (by simp)
    simp only [pk] at hx
    rcases List.mem_cons.1 hx with rfl | hx
    · unfold B2; omega
    rcases List.mem_cons.1 hx with rfl | hx
    · unfold B2; omega
    refine ih (fun s' h' => hb s' (by simp [h'])) _ _ _ _ _ (by omega) (by omega) ?_ ?_ x hx <;> split <;> omega

theorem packS_held (l : List Smp) (hm : May l) : Held (packS l) [] := by
  have h64 := hm.1
  have hb := (fits_ok l hm.2).1
  refine ⟨by simp [packS, pk_len]; omega, fun x hx => ?_, by simp, fun s hs => by simp at hs⟩
  rcases List.mem_cons.1 hx with rfl | hx
  · unfold I64; omega
  · have := pk_b l hb true 0 0 0 0 (by omega) (by omega) (by omega) (by omega) x hx
    unfold B2 at this
    unfold I64
    omega

theorem encN_le (l : List Int) (h : ∀ x ∈ l, I64 x) : (encN l).length ≤ 10 * l.length := by
  induction l with
  | nil => simp [encN]
  | cons n l ih =>
    rw [encN_cons]
    have := countS_len10 (zig_lt (h n (by simp)))
    have := ih (fun x hx => h x (by simp [hx]))
    simp only [List.length_append, List.length_cons]
    omega

theorem packS_small (l : List Smp) (hm : May l) : (enc (packS l) []).length ≤ 4096 := by
  have hh := packS_held l hm
  have h64 := hm.1
  have h1 := encN_le (packS l) hh.2.1
  have hl : (packS l).length = 1 + 2 * l.length := by simp [packS, pk_len]; omega
  have h2 := countS_len10 (u := (packS l).length) (by omega)
  have h3 := countS_len10 (u := ([] : List ByteArray).length) (by simp)
  simp only [enc, List.length_append, encT, List.flatMap_nil, List.length_nil] at *
  omega

/-- What block.Bytes answers. -/
theorem BlockBytes_ev (l : List Smp) : (∃ K, ∀ k, K ≤ k → block_Bytes.f k l = some ((if May l then (((enc (packS l) []).length : Nat) : Int) else 0))) := by
  obtain ⟨K1, h1⟩ := Pack_ev l
  by_cases hm : May l
  · obtain ⟨K2, h2⟩ := Encode_ev (packS l) [] (packS_held l hm)
    refine ⟨K1 + K2, fun k hk => ?_⟩
    unfold block_Bytes.f
    rw [h1 k (by omega), if_pos hm, if_pos hm, Option.bind_some, if_pos rfl, h2 k (by omega)]
    simp only [encR, if_pos (packS_small l hm), Option.bind_some]
  · refine ⟨K1, fun k hk => ?_⟩
    unfold block_Bytes.f
    rw [h1 k (by omega), if_neg hm, if_neg hm, Option.bind_some, if_neg (by decide)]
end Go.Proofs.Ytlpohipneianjaa.Q
