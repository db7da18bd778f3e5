/- The references' comparisons of numbers, texts and data: true of what is the same, false of what is not. No condition. -/
import Derived.Test.YtlpohipneianjaaG12
import Derived.Test.YtlpohipneianjaaG3
import Derived.Test.YtlpohipneianjaaPEnc
set_option linter.unusedVariables false
namespace Go.Proofs.Ytlpohipneianjaa.Q
open Go Go.RowKit Go.Proofs.Ytlpohipneianjaa.G Go.Proofs.YtlpohipneianjaaW.PrintWords Go.Proofs.YtlpohipneianjaaW.PrintLast

theorem ints_loop (a b : List Int) (hab : a.length = b.length) (hl : a.length ≤ 9223372036854775807) (d : Nat) : ∀ i : Nat, i + d = a.length → (∃ K, ∀ k, K ≤ k → windroseref02_Ints.l0 k a b i = some ((decide (a.drop i = b.drop i)))) := by
  induction d with
  | zero =>
    intro i hi
    refine Ev.succ 0 fun k _ => ?_
    simp only [windroseref02_Ints.l0]
    rw [if_neg (by omega), decide_eq_true (by rw [List.drop_of_length_le (by omega), List.drop_of_length_le (by omega)])]
  | succ d ih =>
    intro i hi
    obtain ⟨K, hK⟩ := ih (i + 1) (by omega)
    refine Ev.succ K fun k hk => ?_
    simp only [windroseref02_Ints.l0]
    have e1 : wrap64 ((i : Int) + 1) = ((i + 1 : Nat) : Int) := by rw [w64] <;> omega
    rw [if_pos (by omega), if_pos (by omega), if_pos (by omega), rd_at a i (by omega), rd_at b i (by omega)]
    by_cases h : rd a i = rd b i
    · rw [if_pos h, e1, hK k hk]
      congr 1
      rw [decide_eq_decide, h]
      simp
    · rw [if_neg h, decide_eq_false (fun e => h (List.cons.inj e).1)]
theorem Ints_ev (a b : List Int) (hl : a.length ≤ 9223372036854775807) : (∃ K, ∀ k, K ≤ k → windroseref02_Ints.f k a b = some ((decide (a = b)))) := by
  by_cases h : a.length = b.length
  · obtain ⟨K, hK⟩ := ints_loop a b h hl a.length 0 (by omega)
    refine ⟨K, fun k hk => ?_⟩
    unfold windroseref02_Ints.f
    rw [if_pos (by omega)]
    exact hK k hk
  · refine ⟨0, fun k _ => ?_⟩
    unfold windroseref02_Ints.f
    rw [if_neg (by omega), decide_eq_false (fun e => h (by rw [e]))]

theorem toList_loop (bs : ByteArray) (d : Nat) : ∀ (i : Nat) (r : List UInt8), i + d = bs.size → ByteArray.toList.loop bs i r = r.reverse ++ bs.data.toList.drop i := by
  have hsz : bs.data.toList.length = bs.size := by rw [Array.length_toList]; rfl
  induction d with
  | zero =>
    intro i r hi
    rw [ByteArray.toList.loop, if_neg (by omega), List.drop_of_length_le (by omega), List.append_nil]
  | succ d ih =>
    intro i r hi
    rw [ByteArray.toList.loop, if_pos (by omega), ih (i + 1) _ (by omega), List.drop_eq_getElem_cons (by omega : i < bs.data.toList.length), List.reverse_cons, List.append_assoc]
    congr 1
    have e : bs.get! i = bs.data.toList[i]'(by omega) := by
      show bs.data[i]! = _
      rw [getElem!_pos bs.data i (by have : bs.data.size = bs.size := rfl; omega)]
      simp
    rw [e]
    rfl
theorem toList_data (bs : ByteArray) : bs.toList = bs.data.toList := by
  rw [ByteArray.toList, toList_loop bs bs.size 0 [] (by omega)]
  simp
theorem toList_inj (a b : ByteArray) : a.toList = b.toList ↔ a = b := by
  constructor
  · intro h
    rw [toList_data, toList_data] at h
    exact ByteArray.ext (Array.ext' h)
  · rintro rfl; rfl

theorem strings_loop (a b : List ByteArray) (hab : a.length = b.length) (hl : a.length ≤ 9223372036854775807) (d : Nat) : ∀ i : Nat, i + d = a.length → (∃ K, ∀ k, K ≤ k → windroseref02_Strings.l0 k a b i = some ((decide (a.drop i = b.drop i)))) := by
  induction d with
  | zero =>
    intro i hi
    refine Ev.succ 0 fun k _ => ?_
    simp only [windroseref02_Strings.l0]
    rw [if_neg (by omega), decide_eq_true (by rw [List.drop_of_length_le (by omega), List.drop_of_length_le (by omega)])]
  | succ d ih =>
    intro i hi
    obtain ⟨K, hK⟩ := ih (i + 1) (by omega)
    refine Ev.succ K fun k hk => ?_
    simp only [windroseref02_Strings.l0]
    have e1 : wrap64 ((i : Int) + 1) = ((i + 1 : Nat) : Int) := by rw [w64] <;> omega
    rw [if_pos (by omega), if_pos (by omega), if_pos (by omega), rdOf_at a i (by omega), rdOf_at b i (by omega)]
    by_cases h : rdOf ByteArray.empty a i = rdOf ByteArray.empty b i
    · rw [if_pos (by rw [h]), e1, hK k hk]
      congr 1
      rw [decide_eq_decide, h]
      simp
    · rw [if_neg (fun e => h ((toList_inj _ _).1 e)), decide_eq_false (fun e => h (List.cons.inj e).1)]
theorem Strings_ev (a b : List ByteArray) (hl : a.length ≤ 9223372036854775807) : (∃ K, ∀ k, K ≤ k → windroseref02_Strings.f k a b = some ((decide (a = b)))) := by
  by_cases h : a.length = b.length
  · obtain ⟨K, hK⟩ := strings_loop a b h hl a.length 0 (by omega)
    refine ⟨K, fun k hk => ?_⟩
    unfold windroseref02_Strings.f
    rw [if_pos (by omega)]
    exact hK k hk
  · refine ⟨0, fun k _ => ?_⟩
    unfold windroseref02_Strings.f
    rw [if_neg (by omega), decide_eq_false (fun e => h (by rw [e]))]
theorem Same02_ev (a : List Int) (s : List ByteArray) (b : List Int) (t : List ByteArray) (h1 : a.length ≤ 9223372036854775807) (h2 : s.length ≤ 9223372036854775807) :
    (∃ K, ∀ k, K ≤ k → windroseref02_Same.f k a s b t = some ((decide (a = b ∧ s = t)))) := by
  obtain ⟨K1, hK1⟩ := Ints_ev a b h1
  obtain ⟨K2, hK2⟩ := Strings_ev s t h2
  refine ⟨K1 + K2, fun k hk => ?_⟩
  unfold windroseref02_Same.f
  rw [hK1 k (by omega), Option.bind_some]
  by_cases h : a = b
  · rw [decide_eq_true h, if_pos rfl, hK2 k (by omega), Option.bind_some]
    congr 1
    rw [decide_eq_decide]
    exact ⟨fun e => ⟨h, e⟩, fun e => e.2⟩
  · rw [decide_eq_false h, if_neg (by simp), decide_eq_false (fun e => h e.1)]
end Go.Proofs.Ytlpohipneianjaa.Q
