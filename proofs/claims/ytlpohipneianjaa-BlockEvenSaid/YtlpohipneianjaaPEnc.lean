/- Data's bytes: the code's Encode and the reference's Bytes say the same. No condition. -/
import Derived.Test.YtlpohipneianjaaG2
import Derived.Test.YtlpohipneianjaaG9
import Derived.Test.YtlpohipneianjaaPCount
set_option linter.unusedVariables false
namespace Go.Proofs.Ytlpohipneianjaa.Q
open Go Go.RowKit Go.Proofs.Ytlpohipneianjaa.G Go.Proofs.YtlpohipneianjaaW.PrintWords Go.Proofs.YtlpohipneianjaaW.PrintLast

def I64 (n : Int) : Prop := -9223372036854775808 ≤ n ∧ n ≤ 9223372036854775807
def encN (l : List Int) : List Int := l.flatMap fun n => countS (zig n)
def encT (l : List ByteArray) : List Int := l.flatMap fun s => countS s.size ++ bytesOf s
def enc (nums : List Int) (texts : List ByteArray) : List Int := countS nums.length ++ encN nums ++ countS texts.length ++ encT texts
/-- Data that a machine can hold. -/
def Held (nums : List Int) (texts : List ByteArray) : Prop := nums.length ≤ 9223372036854775807 ∧ (∀ n ∈ nums, I64 n) ∧ texts.length ≤ 9223372036854775807 ∧ ∀ s ∈ texts, s.size ≤ 9223372036854775807

theorem encN_cons (n : Int) (l : List Int) : encN (n :: l) = countS (zig n) ++ encN l := by simp [encN]
theorem encT_cons (s : ByteArray) (l : List ByteArray) : encT (s :: l) = countS s.size ++ bytesOf s ++ encT l := by simp [encT]

theorem rd_at (l : List Int) (i : Nat) (h : i < l.length) : l.drop i = rd l i :: l.drop (i + 1) := by rw [drop_getD l i 0 h]; rfl
theorem rdOf_at (l : List ByteArray) (i : Nat) (h : i < l.length) : l.drop i = rdOf ByteArray.empty l i :: l.drop (i + 1) := by rw [drop_getD l i ByteArray.empty h]; rfl
theorem rd_mem (l : List Int) (i : Nat) (h : i < l.length) : rd l i ∈ l := by simp only [rd, Int.toNat_natCast]; exact getD_mem l i 0 h
theorem rdOf_mem (l : List ByteArray) (i : Nat) (h : i < l.length) : rdOf ByteArray.empty l i ∈ l := by simp only [rdOf, Int.toNat_natCast]; exact getD_mem l i _ h

def encR (b : List Int) : List Int × Int := if b.length ≤ 4096 then (b, 0) else ([], 4)

theorem enc_texts (texts : List ByteArray) (hh : texts.length ≤ 9223372036854775807) (ht : ∀ s ∈ texts, s.size ≤ 9223372036854775807) (d : Nat) : ∀ (i : Nat) (acc : List Int), i + d = texts.length → acc.length ≤ 5000 →
    (∃ K, ∀ k, K ≤ k → frame_Encode.l1 k acc texts (texts.length : Int) i = some ((encR (acc ++ encT (texts.drop i))))) := by
  induction d with
  | zero =>
    intro i acc hi ha
    refine Ev.succ 0 fun k _ => ?_
    simp only [frame_Encode.l1]
    rw [if_neg (by omega), List.drop_of_length_le (by omega)]
    unfold encR
    by_cases h : acc.length ≤ 4096
    · rw [if_neg (by omega), if_pos (by simpa [encT] using h)]; simp [encT]
    · rw [if_pos (by omega), if_neg (by simpa [encT] using h)]
  | succ d ih =>
    intro i acc hi ha
    have hd := rdOf_at texts i (by omega)
    have hm := ht _ (rdOf_mem texts i (by omega))
    generalize hs : rdOf ByteArray.empty texts i = s at hd hm
    obtain ⟨K0, h0⟩ := Count_ev s.size hm
    have hcl := countS_len10 (u := s.size) (by omega)
    have e1 : wrap64 ((i : Int) + 1) = ((i + 1 : Nat) : Int) := by rw [w64] <;> omega
    rw [hd, encT_cons]
    have hbl := bytesOf_length s
    have hal : (acc ++ countS s.size).length = acc.length + (countS s.size).length := List.length_append
    by_cases c1 : (acc ++ countS s.size).length > 4096
    · refine Ev.succ K0 fun k hk => ?_
      simp only [frame_Encode.l1]
      rw [if_pos (by omega), if_pos (by omega), if_pos (by omega), hs, h0 k hk, Option.bind_some, if_pos (by omega), Option.bind_some, if_pos (by omega)]
      unfold encR
      rw [if_neg (by simp only [List.length_append] at *; omega)]
    · have e2 : wrap64 (4096 - ((acc ++ countS s.size).length : Int)) = 4096 - ((acc ++ countS s.size).length : Int) := by rw [w64] <;> omega
      by_cases c2 : (s.size : Int) > 4096 - ((acc ++ countS s.size).length : Int)
      · refine Ev.succ K0 fun k hk => ?_
        simp only [frame_Encode.l1]
        rw [if_pos (by omega), if_pos (by omega), if_pos (by omega), hs, h0 k hk, Option.bind_some, if_pos (by omega), Option.bind_some, if_neg (by omega), e2, if_pos c2]
        unfold encR
        rw [if_neg (by simp only [List.length_append] at *; omega)]
      · obtain ⟨K, hK⟩ := ih (i + 1) (acc ++ countS s.size ++ bytesOf s) (by omega) (by simp only [List.length_append] at *; omega)
        refine Ev.succ (K + K0) fun k hk => ?_
        simp only [frame_Encode.l1]
        rw [if_pos (by omega), if_pos (by omega), if_pos (by omega), hs, h0 k (by omega), Option.bind_some, if_pos (by omega), Option.bind_some, if_neg (by omega), e2, if_neg c2, if_pos (by omega), e1, hK k (by omega)]
        simp only [List.append_assoc]

theorem enc_nums (nums : List Int) (texts : List ByteArray) (hh : Held nums texts) (d : Nat) : ∀ (i : Nat) (acc : List Int), i + d = nums.length → acc.length ≤ 4900 →
    (∃ K, ∀ k, K ≤ k → frame_Encode.l0 k acc nums (nums.length : Int) i nums texts = some ((encR (acc ++ encN (nums.drop i) ++ countS texts.length ++ encT texts)))) := by
  obtain ⟨hn1, hn2, ht1, ht2⟩ := hh
  have htl := countS_len10 (u := texts.length) (by omega)
  induction d with
  | zero =>
    intro i acc hi ha
    obtain ⟨K0, h0⟩ := Count_ev texts.length ht1
    obtain ⟨K, hK⟩ := enc_texts texts ht1 ht2 texts.length 0 (acc ++ countS texts.length) (by omega) (by simp only [List.length_append]; omega)
    refine Ev.succ (K + K0) fun k hk => ?_
    simp only [frame_Encode.l0]
    rw [if_neg (by omega), h0 k (by omega), Option.bind_some, if_pos (by omega)]
    have := hK k (by omega)
    rw [List.drop_of_length_le (by omega)]
    simp only [encN, List.flatMap_nil, List.append_nil]
    exact this
  | succ d ih =>
    intro i acc hi ha
    have hd := rd_at nums i (by omega)
    have hm := hn2 _ (rd_mem nums i (by omega))
    generalize hs : rd nums i = n at hd hm
    obtain ⟨K0, h0⟩ := Number_ev hm
    have hcl := countS_len10 (zig_lt hm)
    have e1 : wrap64 ((i : Int) + 1) = ((i + 1 : Nat) : Int) := by rw [w64] <;> omega
    rw [hd, encN_cons]
    have hal : (acc ++ countS (zig n)).length = acc.length + (countS (zig n)).length := List.length_append
    by_cases c1 : (acc ++ countS (zig n)).length > 4096
    · refine Ev.succ K0 fun k hk => ?_
      simp only [frame_Encode.l0]
      rw [if_pos (by omega), if_pos (by omega), if_pos (by omega), hs, h0 k hk, Option.bind_some, if_pos (by omega), Option.bind_some, if_pos (by omega)]
      unfold encR
      rw [if_neg (by simp only [List.length_append] at *; omega)]
    · obtain ⟨K, hK⟩ := ih (i + 1) (acc ++ countS (zig n)) (by omega) (by omega)
      refine Ev.succ (K + K0) fun k hk => ?_
      simp only [frame_Encode.l0]
      rw [if_pos (by omega), if_pos (by omega), if_pos (by omega), hs, h0 k (by omega), Option.bind_some, if_pos (by omega), Option.bind_some, if_neg (by omega), e1, hK k (by omega)]
      simp only [List.append_assoc]

/-- What frame.Encode answers. -/
theorem Encode_ev (nums : List Int) (texts : List ByteArray) (hh : Held nums texts) : (∃ K, ∀ k, K ≤ k → frame_Encode.f k nums texts = some ((encR (enc nums texts)))) := by
  obtain ⟨K0, h0⟩ := Count_ev nums.length hh.1
  obtain ⟨K, hK⟩ := enc_nums nums texts hh nums.length 0 (countS nums.length) (by omega) (by have h1 := hh.1; have := countS_len10 (u := nums.length) (by omega); omega)
  refine ⟨K + K0, fun k hk => ?_⟩
  unfold frame_Encode.f
  rw [h0 k (by omega), Option.bind_some]
  have := hK k (by omega)
  rw [List.drop_zero] at this
  exact this

/-! ### the reference's -/
/-- What the cut bytes say of the whole ones. -/
def CutOf (R B : List Int) : Prop := (B.length ≤ 4096 → R = B) ∧ (4096 < B.length → 4096 < R.length)

theorem bytes_texts (nums : List Int) (texts : List ByteArray) (hh : texts.length ≤ 9223372036854775807) (ht : ∀ s ∈ texts, s.size ≤ 9223372036854775807) (d : Nat) : ∀ (i : Nat) (acc : List Int), i + d = texts.length → acc.length ≤ 20000 →
    ∃ R, (∃ K, ∀ k, K ≤ k → windroseref02_Bytes.l1 k acc i nums texts = some (R)) ∧ CutOf R (acc ++ encT (texts.drop i)) := by
  induction d with
  | zero =>
    intro i acc hi ha
    refine ⟨acc, ⟨2, fun k hk => ?_⟩, by rw [List.drop_of_length_le (by omega)]; simp [CutOf, encT]⟩
    obtain ⟨k, rfl⟩ : ∃ m, k = m + 2 := ⟨k - 2, by omega⟩
    rw [windroseref02_Bytes.l1, if_neg (by omega), windroseref02_Bytes.j3, if_neg (by simp)]
  | succ d ih =>
    intro i acc hi ha
    have hd := rdOf_at texts i (by omega)
    have hm := ht _ (rdOf_mem texts i (by omega))
    generalize hs : rdOf ByteArray.empty texts i = s at hd hm
    obtain ⟨K0, h0⟩ := refCount_ev s.size hm
    have hcl := countS_len10 (u := s.size) (by omega)
    have e1 : wrap64 ((i : Int) + 1) = ((i + 1 : Nat) : Int) := by rw [w64] <;> omega
    rw [hd, encT_cons]
    have hbl := bytesOf_length s
    have hal : (acc ++ countS s.size).length = acc.length + (countS s.size).length := List.length_append
    by_cases c0 : acc.length < 5000
    · by_cases c1 : s.size > 5000
      · have hxs : (s.extract 0 5000).size = 5000 := by simp; omega
        have hxb := bytesOf_length (s.extract 0 5000)
        obtain ⟨R, ⟨K, hK⟩, hR⟩ := ih (i + 1) (acc ++ countS s.size ++ bytesOf (s.extract 0 5000)) (by omega) (by simp only [List.length_append] at *; omega)
        refine ⟨R, ⟨K + K0 + 2, fun k hk => ?_⟩, fun h => absurd h (by simp only [List.length_append] at *; omega), fun _ => hR.2 (by simp only [List.length_append] at *; omega)⟩
        obtain ⟨k, rfl⟩ : ∃ m, k = m + 2 := ⟨k - 2, by omega⟩
        rw [windroseref02_Bytes.l1, if_pos (by omega), decide_eq_true (by omega), windroseref02_Bytes.j3, if_pos rfl, if_pos (by omega), if_pos (by omega), hs, h0 k (by omega), Option.bind_some, if_pos (by omega), Option.bind_some, if_pos (by omega), if_pos (by omega), if_pos (by omega), if_pos (by omega), e1]
        exact hK k (by omega)
      · obtain ⟨R, ⟨K, hK⟩, hR⟩ := ih (i + 1) (acc ++ countS s.size ++ bytesOf s) (by omega) (by simp only [List.length_append] at *; omega)
        refine ⟨R, ⟨K + K0 + 2, fun k hk => ?_⟩, by simpa only [List.append_assoc] using hR⟩
        obtain ⟨k, rfl⟩ : ∃ m, k = m + 2 := ⟨k - 2, by omega⟩
        rw [windroseref02_Bytes.l1, if_pos (by omega), decide_eq_true (by omega), windroseref02_Bytes.j3, if_pos rfl, if_pos (by omega), if_pos (by omega), hs, h0 k (by omega), Option.bind_some, if_pos (by omega), Option.bind_some, if_neg (by omega), if_pos (by omega), e1]
        exact hK k (by omega)
    · refine ⟨acc, ⟨2, fun k hk => ?_⟩, fun h => absurd h (by simp only [List.length_append] at *; omega), fun _ => by omega⟩
      obtain ⟨k, rfl⟩ : ∃ m, k = m + 2 := ⟨k - 2, by omega⟩
      rw [windroseref02_Bytes.l1, if_pos (by omega), decide_eq_false (by omega), windroseref02_Bytes.j3, if_neg (by simp)]

theorem bytes_j1 (nums : List Int) (texts : List ByteArray) (hh : Held nums texts) (acc : List Int) (ha : acc.length ≤ 19000) :
    ∃ R, (∃ K, ∀ k, K ≤ k → windroseref02_Bytes.j1 k acc nums texts = some (R)) ∧ CutOf R (acc ++ countS texts.length ++ encT texts) := by
  have h2 := hh.2.2.1
  have htl := countS_len10 (u := texts.length) (by omega)
  obtain ⟨K0, h0⟩ := refCount_ev texts.length h2
  obtain ⟨R, ⟨K, hK⟩, hR⟩ := bytes_texts nums texts hh.2.2.1 hh.2.2.2 texts.length 0 (acc ++ countS texts.length) (by omega) (by simp only [List.length_append]; omega)
  refine ⟨R, Ev.succ (K + K0) fun k hk => ?_, by simpa using hR⟩
  simp only [windroseref02_Bytes.j1]
  rw [h0 k (by omega), Option.bind_some, if_pos (by omega)]
  exact hK k (by omega)

theorem bytes_nums (nums : List Int) (texts : List ByteArray) (hh : Held nums texts) (d : Nat) : ∀ (i : Nat) (acc : List Int), i + d = nums.length → acc.length ≤ 18000 →
    ∃ R, (∃ K, ∀ k, K ≤ k → windroseref02_Bytes.l0 k acc i nums texts = some (R)) ∧ CutOf R (acc ++ encN (nums.drop i) ++ countS texts.length ++ encT texts) := by
  induction d with
  | zero =>
    intro i acc hi ha
    obtain ⟨R, ⟨K, hK⟩, hR⟩ := bytes_j1 nums texts hh acc (by omega)
    refine ⟨R, Ev.succ K fun k hk => ?_, by rw [List.drop_of_length_le (by omega)]; simpa [encN] using hR⟩
    simp only [windroseref02_Bytes.l0]
    rw [if_neg (by omega)]
    exact hK k hk
  | succ d ih =>
    intro i acc hi ha
    have hn1 := hh.1
    have hd := rd_at nums i (by omega)
    have hm := hh.2.1 _ (rd_mem nums i (by omega))
    generalize hs : rd nums i = n at hd hm
    obtain ⟨K0, h0⟩ := refNumber_ev hm
    have hcl := countS_len10 (zig_lt hm)
    have e1 : wrap64 ((i : Int) + 1) = ((i + 1 : Nat) : Int) := by rw [w64] <;> omega
    rw [hd, encN_cons]
    by_cases c0 : acc.length < 5000
    · obtain ⟨R, ⟨K, hK⟩, hR⟩ := ih (i + 1) (acc ++ countS (zig n)) (by omega) (by simp only [List.length_append]; omega)
      refine ⟨R, Ev.succ (K + K0) fun k hk => ?_, by simpa only [List.append_assoc] using hR⟩
      simp only [windroseref02_Bytes.l0]
      rw [if_pos (by omega), if_pos (by omega), if_pos (by omega), hs, h0 k (by omega), Option.bind_some, if_pos (by omega), e1]
      exact hK k (by omega)
    · obtain ⟨R, ⟨K, hK⟩, hR⟩ := bytes_j1 nums texts hh acc (by omega)
      refine ⟨R, Ev.succ K fun k hk => ?_, fun h => absurd h (by simp only [List.length_append] at *; omega), fun _ => hR.2 (by simp only [List.length_append] at *; omega)⟩
      simp only [windroseref02_Bytes.l0]
      rw [if_pos (by omega), if_neg (by omega)]
      exact hK k hk

theorem Bytes_ev (nums : List Int) (texts : List ByteArray) (hh : Held nums texts) : ∃ R, (∃ K, ∀ k, K ≤ k → windroseref02_Bytes.f k nums texts = some (R)) ∧ CutOf R (enc nums texts) := by
  have h1 := hh.1
  obtain ⟨K0, h0⟩ := refCount_ev nums.length h1
  obtain ⟨R, ⟨K, hK⟩, hR⟩ := bytes_nums nums texts hh nums.length 0 (countS nums.length) (by omega) (by have := countS_len10 (u := nums.length) (by omega); omega)
  refine ⟨R, ⟨K + K0, fun k hk => ?_⟩, by simpa [enc] using hR⟩
  unfold windroseref02_Bytes.f
  rw [h0 k (by omega), Option.bind_some]
  exact hK k (by omega)

theorem May02_ev (nums : List Int) (texts : List ByteArray) (hh : Held nums texts) : (∃ K, ∀ k, K ≤ k → windroseref02_May.f k nums texts = some ((decide ((enc nums texts).length ≤ 4096)))) := by
  obtain ⟨R, ⟨K, hK⟩, hR⟩ := Bytes_ev nums texts hh
  refine ⟨K, fun k hk => ?_⟩
  unfold windroseref02_May.f
  rw [hK k hk, Option.bind_some]
  congr 1
  rw [decide_eq_decide]
  by_cases h : (enc nums texts).length ≤ 4096
  · have := hR.1 h
    rw [this]
    omega
  · have := hR.2 (by omega)
    omega
theorem Bytes_small (nums : List Int) (texts : List ByteArray) (hh : Held nums texts) (h : (enc nums texts).length ≤ 4096) : (∃ K, ∀ k, K ≤ k → windroseref02_Bytes.f k nums texts = some ((enc nums texts))) := by
  obtain ⟨R, hK, hR⟩ := Bytes_ev nums texts hh
  rw [hR.1 h] at hK
  exact hK
end Go.Proofs.Ytlpohipneianjaa.Q
