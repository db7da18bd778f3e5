/- More lines for the row. -/
import Derived.Test.YtfmdllbkfpbdcaaZJournalNobody3
import Derived.Laws.Bits64
set_option linter.unusedVariables false
set_option linter.unusedSimpArgs false
section
namespace Go.Proofs.Ytfmdllbkfpbdcaa.Q
open Go Go.RowKit Go.Proofs.Ytfmdllbkfpbdcaa.G Go.Proofs.YtfmdllbkfpbdcaaW.PrintWords Go.Proofs.YtfmdllbkfpbdcaaW.PrintLast
def countS (u : Nat) : List Int := if h : u < 128 then [(u : Int)] else ((u % 128 + 128 : Nat) : Int) :: countS (u / 128)
termination_by u
decreasing_by omega
theorem countS_lt {u : Nat} (h : u < 128) : countS u = [(u : Int)] := by rw [countS, dif_pos h]
theorem countS_ge {u : Nat} (h : ¬ u < 128) : countS u = ((u % 128 + 128 : Nat) : Int) :: countS (u / 128) := by rw [countS, dif_neg h]
theorem countS_len (n : Nat) : ∀ u : Nat, u < 128 ^ (n + 1) → (countS u).length ≤ n + 1 := by
  induction n with
  | zero => intro u h; rw [countS_lt (by simpa using h)]; simp
  | succ n ih =>
    intro u h
    by_cases h1 : u < 128
    · rw [countS_lt h1]; simp
    · rw [countS_ge h1]
      have := ih (u / 128) (by rw [Nat.pow_succ] at h; omega)
      simp only [List.length_cons]
      omega
theorem countS_len10 {u : Nat} (h : u < 18446744073709551616) : (countS u).length ≤ 10 := countS_len 9 u (by omega)
theorem countS_pos (u : Nat) : 0 < (countS u).length := by
  by_cases h : u < 128
  · rw [countS_lt h]; simp
  · rw [countS_ge h]; simp
theorem or128 (x : Nat) : Go.bits .or .u8 ((x : Int) % 256) 128 = ((x % 128 + 128 : Nat) : Int) := by
  have h := (bits_nat .u8 8 (by decide) wraps_u8 (x % 256) 128 (by omega) (by decide)).2
  have e : ((x : Int) % 256) = ((x % 256 : Nat) : Int) := by omega
  rw [e, show (128 : Int) = ((128 : Nat) : Int) from rfl, h]
  have k : ∀ y : Fin 256, y.val ||| 128 = y.val % 128 + 128 := by decide +kernel
  have := k ⟨x % 256, by omega⟩
  simp only at this
  rw [this]
  omega
theorem count_loop (n : Nat) : ∀ (u : Nat) (acc : List Int), u < 128 ^ (n + 1) → acc.length + n ≤ 1000 → (∃ K, ∀ k, K ≤ k → frame_count.l0 k (u : Int) acc = some ((acc ++ countS u))) := by
  induction n with
  | zero =>
    intro u acc h ha
    have h1 : u < 128 := by simpa using h
    refine Ev.succ 0 fun k _ => ?_
    simp only [frame_count.l0]
    rw [if_neg (by omega), if_pos (by omega), countS_lt h1]
    congr 3
    omega
  | succ n ih =>
    intro u acc h ha
    by_cases h1 : u < 128
    · refine Ev.succ 0 fun k _ => ?_
      simp only [frame_count.l0]
      rw [if_neg (by omega), if_pos (by omega), countS_lt h1]
      congr 3
      omega
    · obtain ⟨K, hK⟩ := ih (u / 128) (acc ++ [((u % 128 + 128 : Nat) : Int)]) (by rw [Nat.pow_succ] at h; omega) (by simp; omega)
      refine Ev.succ K fun k hk => ?_
      simp only [frame_count.l0]
      rw [if_pos (by omega), if_pos (by omega), or128, show (u : Int) / 128 = ((u / 128 : Nat) : Int) by omega, hK k hk, countS_ge h1]
      simp
theorem count_ev {u : Nat} (h : u < 18446744073709551616) : (∃ K, ∀ k, K ≤ k → frame_count.f k (u : Int) = some ((countS u))) := by
  obtain ⟨K, hK⟩ := count_loop 9 u [] (by omega) (by simp)
  exact ⟨K, fun k hk => by unfold frame_count.f; simpa using hK k hk⟩
theorem refcount_ev (n : Nat) : ∀ u : Nat, u < 128 ^ (n + 1) → u < 18446744073709551616 → n ≤ 100 → (∃ K, ∀ k, K ≤ k → windroseref02_count.f k (u : Int) = some ((countS u))) := by
  induction n with
  | zero =>
    intro u h _ _
    have h1 : u < 128 := by simpa using h
    refine Ev.succ 0 fun k _ => ?_
    simp only [windroseref02_count.f]
    rw [if_pos (by omega), countS_lt h1]
    congr 2
    omega
  | succ n ih =>
    intro u h h64 hn
    by_cases h1 : u < 128
    · refine Ev.succ 0 fun k _ => ?_
      simp only [windroseref02_count.f]
      rw [if_pos (by omega), countS_lt h1]
      congr 2
      omega
    · have hl : u / 128 < 128 ^ (n + 1) := by rw [Nat.pow_succ] at h; omega
      obtain ⟨K, hK⟩ := ih (u / 128) hl (by omega) (by omega)
      have hlen := countS_len n (u / 128) hl
      refine Ev.succ K fun k hk => ?_
      simp only [windroseref02_count.f]
      have e1 : IntKind.u64.wrap (Int.tdiv (u : Int) 128) = ((u / 128 : Nat) : Int) := by
        rw [IntKind.wrap_u64, tdiv_nn (by omega)]; omega
      have e2 : IntKind.u64.wrap (Int.tmod (u : Int) 128 + 128) % 256 = ((u % 128 + 128 : Nat) : Int) := by
        rw [IntKind.wrap_u64, tmod_nn (by omega)]; omega
      rw [if_neg (by omega), Option.bind_some, e1, hK k hk, Option.bind_some, if_pos (by simp; omega), e2, countS_ge h1]
      rfl
theorem refcount {u : Nat} (h : u < 18446744073709551616) : (∃ K, ∀ k, K ≤ k → windroseref02_count.f k (u : Int) = some ((countS u))) := refcount_ev 9 u (by omega) h (by omega)
theorem Count_ev (n : Nat) (h : n ≤ 9223372036854775807) : (∃ K, ∀ k, K ≤ k → frame_Count.f k (n : Int) = some ((countS n))) := by
  obtain ⟨K, hK⟩ := count_ev (u := n) (by omega)
  refine ⟨K, fun k hk => ?_⟩
  unfold frame_Count.f
  rw [if_neg (by omega), IntKind.wrap_u64, show (n : Int) % 18446744073709551616 = (n : Int) by omega, hK k hk]
  rfl
theorem refCount_ev (n : Nat) (h : n ≤ 9223372036854775807) : (∃ K, ∀ k, K ≤ k → windroseref02_Count.f k (n : Int) = some ((countS n))) := by
  obtain ⟨K, hK⟩ := refcount (u := n) (by omega)
  refine ⟨K, fun k hk => ?_⟩
  unfold windroseref02_Count.f
  rw [IntKind.wrap_u64, show (n : Int) % 18446744073709551616 = (n : Int) by omega, hK k hk]
  rfl
def zig (n : Int) : Nat := if 0 ≤ n then (2 * n).toNat else (2 * (-1 - n) + 1).toNat
theorem zig_lt {n : Int} (h : -9223372036854775808 ≤ n ∧ n ≤ 9223372036854775807) : zig n < 18446744073709551616 := by unfold zig; split <;> omega
theorem xor_ones {x : Nat} (h : x < 18446744073709551616) : x ^^^ 18446744073709551615 = 18446744073709551615 - x := by
  have e : (BitVec.ofNat 64 x ^^^ BitVec.allOnes 64).toNat = (~~~ BitVec.ofNat 64 x).toNat := by rw [BitVec.xor_allOnes]
  rw [BitVec.toNat_xor, BitVec.toNat_not, BitVec.toNat_allOnes, BitVec.toNat_ofNat, Nat.mod_eq_of_lt (by omega : x < 2 ^ 64)] at e
  exact e
theorem fold_eq {n : Int} (h : -9223372036854775808 ≤ n ∧ n ≤ 9223372036854775807) :
    Go.bits .xor .u64 (IntKind.u64.wrap ((IntKind.u64.wrap n) * 2)) (IntKind.u64.wrap (n / 9223372036854775808)) = ((zig n : Nat) : Int) := by
  rw [IntKind.wrap_u64, IntKind.wrap_u64, IntKind.wrap_u64]
  by_cases h0 : 0 ≤ n
  · have e1 : n % 18446744073709551616 * 2 % 18446744073709551616 = ((zig n : Nat) : Int) := by unfold zig; rw [if_pos h0]; omega
    have e2 : n / 9223372036854775808 % 18446744073709551616 = ((0 : Nat) : Int) := by omega
    rw [e1, e2, bits_xor_u64_nat _ _ (zig_lt h) (by omega), Nat.xor_zero]
  · have e1 : n % 18446744073709551616 * 2 % 18446744073709551616 = ((18446744073709551615 - zig n : Nat) : Int) := by unfold zig; rw [if_neg h0]; omega
    have e2 : n / 9223372036854775808 % 18446744073709551616 = ((18446744073709551615 : Nat) : Int) := by omega
    have := zig_lt h
    rw [e1, e2, bits_xor_u64_nat _ _ (by omega) (by omega), xor_ones (by omega)]
    omega
theorem Number_ev {n : Int} (h : -9223372036854775808 ≤ n ∧ n ≤ 9223372036854775807) : (∃ K, ∀ k, K ≤ k → frame_Number.f k n = some ((countS (zig n)))) := by
  obtain ⟨K, hK⟩ := count_ev (zig_lt h)
  refine ⟨K, fun k hk => ?_⟩
  unfold frame_Number.f
  rw [fold_eq h, hK k hk]
  rfl
theorem refNumber_ev {n : Int} (h : -9223372036854775808 ≤ n ∧ n ≤ 9223372036854775807) : (∃ K, ∀ k, K ≤ k → windroseref02_Number.f k n = some ((countS (zig n)))) := by
  obtain ⟨K, hK⟩ := refcount (zig_lt h)
  refine ⟨K, fun k hk => ?_⟩
  unfold windroseref02_Number.f
  by_cases h0 : 0 ≤ n
  · have e : IntKind.u64.wrap ((IntKind.u64.wrap n) * 2) = ((zig n : Nat) : Int) := by rw [IntKind.wrap_u64, IntKind.wrap_u64]; unfold zig; rw [if_pos h0]; omega
    rw [if_pos (by omega), e, hK k hk]
    rfl
  · have e : IntKind.u64.wrap ((IntKind.u64.wrap ((IntKind.u64.wrap (wrap64 ((-1) - n))) * 2)) + 1) = ((zig n : Nat) : Int) := by
      rw [w64 (by omega) (by omega), IntKind.wrap_u64, IntKind.wrap_u64, IntKind.wrap_u64]; unfold zig; rw [if_neg h0]; omega
    rw [if_neg (by omega), e, hK k hk]
    rfl
end Go.Proofs.Ytfmdllbkfpbdcaa.Q
end
section
namespace Go.Proofs.Ytfmdllbkfpbdcaa.Q
open Go Go.RowKit Go.Proofs.Ytfmdllbkfpbdcaa.G Go.Proofs.YtfmdllbkfpbdcaaW.PrintWords Go.Proofs.YtfmdllbkfpbdcaaW.PrintLast
def I64 (n : Int) : Prop := -9223372036854775808 ≤ n ∧ n ≤ 9223372036854775807
def encN (l : List Int) : List Int := l.flatMap fun n => countS (zig n)
def encT (l : List ByteArray) : List Int := l.flatMap fun s => countS s.size ++ bytesOf s
def enc (nums : List Int) (texts : List ByteArray) : List Int := countS nums.length ++ encN nums ++ countS texts.length ++ encT texts
def Held (nums : List Int) (texts : List ByteArray) : Prop := nums.length ≤ 9223372036854775807 ∧ (∀ n ∈ nums, I64 n) ∧ texts.length ≤ 9223372036854775807 ∧ ∀ s ∈ texts, s.size ≤ 9223372036854775807
theorem encN_cons (n : Int) (l : List Int) : encN (n :: l) = countS (zig n) ++ encN l := by simp [encN]
theorem encT_cons (s : ByteArray) (l : List ByteArray) : encT (s :: l) = countS s.size ++ bytesOf s ++ encT l := by simp [encT]
theorem rd_at (l : List Int) (i : Nat) (h : i < l.length) : l.drop i = rd l i :: l.drop (i + 1) := by rw [drop_getD l i 0 h]; rfl
theorem rdOf_at (l : List ByteArray) (i : Nat) (h : i < l.length) : l.drop i = rdOf ByteArray.empty l i :: l.drop (i + 1) := by rw [drop_getD l i ByteArray.empty h]; rfl
theorem rd_mem (l : List Int) (i : Nat) (h : i < l.length) : rd l i ∈ l := by simp only [rd, Int.toNat_natCast]; exact getD_mem l i 0 h
theorem rdOf_mem (l : List ByteArray) (i : Nat) (h : i < l.length) : rdOf ByteArray.empty l i ∈ l := by simp only [rdOf, Int.toNat_natCast]; exact getD_mem l i _ h
def encR (b : List Int) : List Int × Int := if b.length ≤ 4096 then (b, 0) else ([], 4)
theorem enc_texts (texts : List ByteArray) (hh : texts.length ≤ 9223372036854775807) (ht : ∀ s ∈ texts, s.size ≤ 9223372036854775807) (d : Nat) : ∀ (i : Nat) (acc : List Int), i + d = texts.length → acc.length ≤ 5000 →
    (∃ K, ∀ k, K ≤ k → frame_Encode.l1 k acc texts (texts.length : Int) i = some ((encR (acc ++ encT (texts.drop i))))) := by
  induction d with
  | zero =>
    intro i acc hi ha
    refine Ev.succ 0 fun k _ => ?_
    simp only [frame_Encode.l1]
    rw [if_neg (by omega), List.drop_of_length_le (by omega)]
    unfold encR
    by_cases h : acc.length ≤ 4096
    · rw [if_neg (by omega), if_pos (by simpa [encT] using h)]; simp [encT]
    · rw [if_pos (by omega), if_neg (by simpa [encT] using h)]
  | succ d ih =>
    intro i acc hi ha
    have hd := rdOf_at texts i (by omega)
    have hm := ht _ (rdOf_mem texts i (by omega))
    generalize hs : rdOf ByteArray.empty texts i = s at hd hm
    obtain ⟨K0, h0⟩ := Count_ev s.size hm
    have hcl := countS_len10 (u := s.size) (by omega)
    have e1 : wrap64 ((i : Int) + 1) = ((i + 1 : Nat) : Int) := by rw [w64] <;> omega
    rw [hd, encT_cons]
    have hbl := bytesOf_length s
    have hal : (acc ++ countS s.size).length = acc.length + (countS s.size).length := List.length_append
    by_cases c1 : (acc ++ countS s.size).length > 4096
    · refine Ev.succ K0 fun k hk => ?_
      simp only [frame_Encode.l1]
      rw [if_pos (by omega), if_pos (by omega), if_pos (by omega), hs, h0 k hk, Option.bind_some, if_pos (by omega), Option.bind_some, if_pos (by omega)]
      unfold encR
      rw [if_neg (by simp only [List.length_append] at *; omega)]
    · have e2 : wrap64 (4096 - ((acc ++ countS s.size).length : Int)) = 4096 - ((acc ++ countS s.size).length : Int) := by rw [w64] <;> omega
      by_cases c2 : (s.size : Int) > 4096 - ((acc ++ countS s.size).length : Int)
      · refine Ev.succ K0 fun k hk => ?_
        simp only [frame_Encode.l1]
        rw [if_pos (by omega), if_pos (by omega), if_pos (by omega), hs, h0 k hk, Option.bind_some, if_pos (by omega), Option.bind_some, if_neg (by omega), e2, if_pos c2]
        unfold encR
        rw [if_neg (by simp only [List.length_append] at *; omega)]
      · obtain ⟨K, hK⟩ := ih (i + 1) (acc ++ countS s.size ++ bytesOf s) (by omega) (by simp only [List.length_append] at *; omega)
        refine Ev.succ (K + K0) fun k hk => ?_
        simp only [frame_Encode.l1]
        rw [if_pos (by omega), if_pos (by omega), if_pos (by omega), hs, h0 k (by omega), Option.bind_some, if_pos (by omega), Option.bind_some, if_neg (by omega), e2, if_neg c2, if_pos (by omega), e1, hK k (by omega)]
        simp only [List.append_assoc]
theorem enc_nums (nums : List Int) (texts : List ByteArray) (hh : Held nums texts) (d : Nat) : ∀ (i : Nat) (acc : List Int), i + d = nums.length → acc.length ≤ 4900 →
    (∃ K, ∀ k, K ≤ k → frame_Encode.l0 k acc nums (nums.length : Int) i nums texts = some ((encR (acc ++ encN (nums.drop i) ++ countS texts.length ++ encT texts)))) := by
  obtain ⟨hn1, hn2, ht1, ht2⟩ := hh
  have htl := countS_len10 (u := texts.length) (by omega)
  induction d with
  | zero =>
    intro i acc hi ha
    obtain ⟨K0, h0⟩ := Count_ev texts.length ht1
    obtain ⟨K, hK⟩ := enc_texts texts ht1 ht2 texts.length 0 (acc ++ countS texts.length) (by omega) (by simp only [List.length_append]; omega)
    refine Ev.succ (K + K0) fun k hk => ?_
    simp only [frame_Encode.l0]
    rw [if_neg (by omega), h0 k (by omega), Option.bind_some, if_pos (by omega)]
    have := hK k (by omega)
    rw [List.drop_of_length_le (by omega)]
    simp only [encN, List.flatMap_nil, List.append_nil]
    exact this
  | succ d ih =>
    intro i acc hi ha
    have hd := rd_at nums i (by omega)
    have hm := hn2 _ (rd_mem nums i (by omega))
    generalize hs : rd nums i = n at hd hm
    obtain ⟨K0, h0⟩ := Number_ev hm
    have hcl := countS_len10 (zig_lt hm)
    have e1 : wrap64 ((i : Int) + 1) = ((i + 1 : Nat) : Int) := by rw [w64] <;> omega
    rw [hd, encN_cons]
    have hal : (acc ++ countS (zig n)).length = acc.length + (countS (zig n)).length := List.length_append
    by_cases c1 : (acc ++ countS (zig n)).length > 4096
    · refine Ev.succ K0 fun k hk => ?_
      simp only [frame_Encode.l0]
      rw [if_pos (by omega), if_pos (by omega), if_pos (by omega), hs, h0 k hk, Option.bind_some, if_pos (by omega), Option.bind_some, if_pos (by omega)]
      unfold encR
      rw [if_neg (by simp only [List.length_append] at *; omega)]
    · obtain ⟨K, hK⟩ := ih (i + 1) (acc ++ countS (zig n)) (by omega) (by omega)
      refine Ev.succ (K + K0) fun k hk => ?_
      simp only [frame_Encode.l0]
      rw [if_pos (by omega), if_pos (by omega), if_pos (by omega), hs, h0 k (by omega), Option.bind_some, if_pos (by omega), Option.bind_some, if_neg (by omega), e1, hK k (by omega)]
      simp only [List.append_assoc]
theorem Encode_ev (nums : List Int) (texts : List ByteArray) (hh : Held nums texts) : (∃ K, ∀ k, K ≤ k → frame_Encode.f k nums texts = some ((encR (enc nums texts)))) := by
  obtain ⟨K0, h0⟩ := Count_ev nums.length hh.1
  obtain ⟨K, hK⟩ := enc_nums nums texts hh nums.length 0 (countS nums.length) (by omega) (by have h1 := hh.1; have := countS_len10 (u := nums.length) (by omega); omega)
  refine ⟨K + K0, fun k hk => ?_⟩
  unfold frame_Encode.f
  rw [h0 k (by omega), Option.bind_some]
  have := hK k (by omega)
  rw [List.drop_zero] at this
  exact this
def CutOf (R B : List Int) : Prop := (B.length ≤ 4096 → R = B) ∧ (4096 < B.length → 4096 < R.length)
theorem bytes_texts (nums : List Int) (texts : List ByteArray) (hh : texts.length ≤ 9223372036854775807) (ht : ∀ s ∈ texts, s.size ≤ 9223372036854775807) (d : Nat) : ∀ (i : Nat) (acc : List Int), i + d = texts.length → acc.length ≤ 20000 →
    ∃ R, (∃ K, ∀ k, K ≤ k → windroseref02_Bytes.l1 k acc i nums texts = some (R)) ∧ CutOf R (acc ++ encT (texts.drop i)) := by
  induction d with
  | zero =>
    intro i acc hi ha
    refine ⟨acc, ⟨2, fun k hk => ?_⟩, by rw [List.drop_of_length_le (by omega)]; simp [CutOf, encT]⟩
    obtain ⟨k, rfl⟩ : ∃ m, k = m + 2 := ⟨k - 2, by omega⟩
    rw [windroseref02_Bytes.l1, if_neg (by omega), windroseref02_Bytes.j3, if_neg (by simp)]
  | succ d ih =>
    intro i acc hi ha
    have hd := rdOf_at texts i (by omega)
    have hm := ht _ (rdOf_mem texts i (by omega))
    generalize hs : rdOf ByteArray.empty texts i = s at hd hm
    obtain ⟨K0, h0⟩ := refCount_ev s.size hm
    have hcl := countS_len10 (u := s.size) (by omega)
    have e1 : wrap64 ((i : Int) + 1) = ((i + 1 : Nat) : Int) := by rw [w64] <;> omega
    rw [hd, encT_cons]
    have hbl := bytesOf_length s
    have hal : (acc ++ countS s.size).length = acc.length + (countS s.size).length := List.length_append
    by_cases c0 : acc.length < 5000
    · by_cases c1 : s.size > 5000
      · have hxs : (s.extract 0 5000).size = 5000 := by simp; omega
        have hxb := bytesOf_length (s.extract 0 5000)
        obtain ⟨R, ⟨K, hK⟩, hR⟩ := ih (i + 1) (acc ++ countS s.size ++ bytesOf (s.extract 0 5000)) (by omega) (by simp only [List.length_append] at *; omega)
        refine ⟨R, ⟨K + K0 + 2, fun k hk => ?_⟩, fun h => absurd h (by simp only [List.length_append] at *; omega), fun _ => hR.2 (by simp only [List.length_append] at *; omega)⟩
        obtain ⟨k, rfl⟩ : ∃ m, k = m + 2 := ⟨k - 2, by omega⟩
        rw [windroseref02_Bytes.l1, if_pos (by omega), decide_eq_true (by omega), windroseref02_Bytes.j3, if_pos rfl, if_pos (by omega), if_pos (by omega), hs, h0 k (by omega), Option.bind_some, if_pos (by omega), Option.bind_some, if_pos (by omega), if_pos (by omega), if_pos (by omega), e1]
        exact hK k (by omega)
      · obtain ⟨R, ⟨K, hK⟩, hR⟩ := ih (i + 1) (acc ++ countS s.size ++ bytesOf s) (by omega) (by simp only [List.length_append] at *; omega)
        refine ⟨R, ⟨K + K0 + 2, fun k hk => ?_⟩, by simpa only [List.append_assoc] using hR⟩
        obtain ⟨k, rfl⟩ : ∃ m, k = m + 2 := ⟨k - 2, by omega⟩
        rw [windroseref02_Bytes.l1, if_pos (by omega), decide_eq_true (by omega), windroseref02_Bytes.j3, if_pos rfl, if_pos (by omega), if_pos (by omega), hs, h0 k (by omega), Option.bind_some, if_pos (by omega), Option.bind_some, if_neg (by omega), if_pos (by omega), e1]
        exact hK k (by omega)
    · refine ⟨acc, ⟨2, fun k hk => ?_⟩, fun h => absurd h (by simp only [List.length_append] at *; omega), fun _ => by omega⟩
      obtain ⟨k, rfl⟩ : ∃ m, k = m + 2 := ⟨k - 2, by omega⟩
      rw [windroseref02_Bytes.l1, if_pos (by omega), decide_eq_false (by omega), windroseref02_Bytes.j3, if_neg (by simp)]
theorem bytes_j1 (nums : List Int) (texts : List ByteArray) (hh : Held nums texts) (acc : List Int) (ha : acc.length ≤ 19000) :
    ∃ R, (∃ K, ∀ k, K ≤ k → windroseref02_Bytes.j1 k acc nums texts = some (R)) ∧ CutOf R (acc ++ countS texts.length ++ encT texts) := by
  have h2 := hh.2.2.1
  have htl := countS_len10 (u := texts.length) (by omega)
  obtain ⟨K0, h0⟩ := refCount_ev texts.length h2
  obtain ⟨R, ⟨K, hK⟩, hR⟩ := bytes_texts nums texts hh.2.2.1 hh.2.2.2 texts.length 0 (acc ++ countS texts.length) (by omega) (by simp only [List.length_append]; omega)
  refine ⟨R, Ev.succ (K + K0) fun k hk => ?_, by simpa using hR⟩
  simp only [windroseref02_Bytes.j1]
  rw [h0 k (by omega), Option.bind_some, if_pos (by omega)]
  exact hK k (by omega)
theorem bytes_nums (nums : List Int) (texts : List ByteArray) (hh : Held nums texts) (d : Nat) : ∀ (i : Nat) (acc : List Int), i + d = nums.length → acc.length ≤ 18000 →
    ∃ R, (∃ K, ∀ k, K ≤ k → windroseref02_Bytes.l0 k acc i nums texts = some (R)) ∧ CutOf R (acc ++ encN (nums.drop i) ++ countS texts.length ++ encT texts) := by
  induction d with
  | zero =>
    intro i acc hi ha
    obtain ⟨R, ⟨K, hK⟩, hR⟩ := bytes_j1 nums texts hh acc (by omega)
    refine ⟨R, Ev.succ K fun k hk => ?_, by rw [List.drop_of_length_le (by omega)]; simpa [encN] using hR⟩
    simp only [windroseref02_Bytes.l0]
    rw [if_neg (by omega)]
    exact hK k hk
  | succ d ih =>
    intro i acc hi ha
    have hn1 := hh.1
    have hd := rd_at nums i (by omega)
    have hm := hh.2.1 _ (rd_mem nums i (by omega))
    generalize hs : rd nums i = n at hd hm
    obtain ⟨K0, h0⟩ := refNumber_ev hm
    have hcl := countS_len10 (zig_lt hm)
    have e1 : wrap64 ((i : Int) + 1) = ((i + 1 : Nat) : Int) := by rw [w64] <;> omega
    rw [hd, encN_cons]
    by_cases c0 : acc.length < 5000
    · obtain ⟨R, ⟨K, hK⟩, hR⟩ := ih (i + 1) (acc ++ countS (zig n)) (by omega) (by simp only [List.length_append]; omega)
      refine ⟨R, Ev.succ (K + K0) fun k hk => ?_, by simpa only [List.append_assoc] using hR⟩
      simp only [windroseref02_Bytes.l0]
      rw [if_pos (by omega), if_pos (by omega), if_pos (by omega), hs, h0 k (by omega), Option.bind_some, if_pos (by omega), e1]
      exact hK k (by omega)
    · obtain ⟨R, ⟨K, hK⟩, hR⟩ := bytes_j1 nums texts hh acc (by omega)
      refine ⟨R, Ev.succ K fun k hk => ?_, fun h => absurd h (by simp only [List.length_append] at *; omega), fun _ => hR.2 (by simp only [List.length_append] at *; omega)⟩
      simp only [windroseref02_Bytes.l0]
      rw [if_pos (by omega), if_neg (by omega)]
      exact hK k hk
theorem Bytes_ev (nums : List Int) (texts : List ByteArray) (hh : Held nums texts) : ∃ R, (∃ K, ∀ k, K ≤ k → windroseref02_Bytes.f k nums texts = some (R)) ∧ CutOf R (enc nums texts) := by
  have h1 := hh.1
  obtain ⟨K0, h0⟩ := refCount_ev nums.length h1
  obtain ⟨R, ⟨K, hK⟩, hR⟩ := bytes_nums nums texts hh nums.length 0 (countS nums.length) (by omega) (by have := countS_len10 (u := nums.length) (by omega); omega)
  refine ⟨R, ⟨K + K0, fun k hk => ?_⟩, by simpa [enc] using hR⟩
  unfold windroseref02_Bytes.f
  rw [h0 k (by omega), Option.bind_some]
  exact hK k (by omega)
end Go.Proofs.Ytfmdllbkfpbdcaa.Q
end
section
namespace Go.Proofs.Ytfmdllbkfpbdcaa.Q
open Go Go.RowKit Go.Proofs.Ytfmdllbkfpbdcaa.G Go.Proofs.YtfmdllbkfpbdcaaW.PrintWords Go.Proofs.YtfmdllbkfpbdcaaW.PrintLast Go.Proofs.YtfmdllbkfpbdcaaW.PrintMore
def By (b : List Int) : Prop := ∀ x ∈ b, 0 ≤ x ∧ x ≤ 255
def Co (b : List Int) : Prop := ∀ x ∈ b, 128 ≤ x ∧ x ≤ 255
def valL : List Int → Nat
  | [] => 0
  | c :: cs => c.toNat % 128 + 128 * valL cs
theorem valL_append (a b : List Int) : valL (a ++ b) = valL a + 128 ^ a.length * valL b := by
  induction a with
  | nil => simp [valL]
  | cons c a ih =>
    simp only [List.cons_append, valL, ih, List.length_cons, Nat.pow_succ]
    rw [Nat.mul_add, Nat.mul_comm (128 ^ a.length) 128, Nat.mul_assoc]
    omega
theorem valL_lt (a : List Int) : valL a < 128 ^ a.length := by
  induction a with
  | nil => simp [valL]
  | cons c a ih =>
    simp only [valL, List.length_cons, Nat.pow_succ]
    omega
theorem countS_val (pre : List Int) (c : Int) (hp : Co pre) (hc : 0 ≤ c ∧ c < 128) (h : 0 < c ∨ pre = []) : countS (valL (pre ++ [c])) = pre ++ [c] := by
  induction pre with
  | nil =>
    simp only [List.nil_append, valL, Nat.mul_zero, Nat.add_zero]
    rw [countS_lt (by omega)]
    congr 1
    omega
  | cons p ps ih =>
    have hpp := hp p (by simp)
    have hc0 : 0 < c := by rcases h with h | h; exact h; cases h
    have := ih (fun x hx => hp x (by simp [hx])) (.inl hc0)
    have hv : 1 ≤ valL (ps ++ [c]) := by
      rw [valL_append]
      have : 0 < 128 ^ ps.length := Nat.pow_pos (by omega)
      have h1 : 1 ≤ valL [c] := by simp only [valL]; omega
      have := Nat.mul_le_mul this h1
      omega
    simp only [List.cons_append, valL]
    rw [countS_ge (by omega), show (p.toNat % 128 + 128 * valL (ps ++ [c])) / 128 = valL (ps ++ [c]) by omega, this]
    congr 1
    omega
theorem countS_form (n : Nat) : ∀ u : Nat, u < 128 ^ (n + 1) → ∃ pre c, countS u = pre ++ [c] ∧ Co pre ∧ 0 ≤ c ∧ c < 128 ∧ (0 < c ∨ pre = []) ∧ valL (pre ++ [c]) = u ∧ pre.length ≤ n := by
  induction n with
  | zero =>
    intro u h
    have h1 : u < 128 := by simpa using h
    exact ⟨[], (u : Int), countS_lt h1, fun x hx => by simp at hx, by omega, by omega, .inr rfl, by simp [valL]; omega, by simp⟩
  | succ n ih =>
    intro u h
    by_cases h1 : u < 128
    · exact ⟨[], (u : Int), countS_lt h1, fun x hx => by simp at hx, by omega, by omega, .inr rfl, by simp [valL]; omega, by simp⟩
    · obtain ⟨pre, c, e, hp, c0, c1, h0, hv, hl⟩ := ih (u / 128) (by rw [Nat.pow_succ] at h; omega)
      refine ⟨((u % 128 + 128 : Nat) : Int) :: pre, c, by rw [countS_ge h1, e]; rfl, fun x hx => ?_, c0, c1, .inl ?_, ?_, by simp; omega⟩
      · rcases List.mem_cons.1 hx with rfl | hx
        · omega
        · exact hp x hx
      · rcases h0 with h0 | h0
        · exact h0
        · subst h0
          simp [valL] at hv
          omega
      · simp only [List.cons_append, valL, hv]
        omega
theorem by_countS {u : Nat} (h : u < 18446744073709551616) : By (countS u) := by
  obtain ⟨pre, c, e, hp, c0, c1, _, _, _⟩ := countS_form 9 u (by omega)
  rw [e]
  intro x hx
  rcases List.mem_append.1 hx with hx | hx
  · have := hp x hx; omega
  · simp at hx; omega
theorem cut_unique (pre pre' : List Int) (c c' : Int) (r r' : List Int) (hp : Co pre) (hp' : Co pre') (hc : c < 128) (hc' : c' < 128) (h : pre ++ c :: r = pre' ++ c' :: r') : pre = pre' ∧ c = c' ∧ r = r' := by
  induction pre generalizing pre' with
  | nil =>
    cases pre' with
    | nil => simp at h; exact ⟨rfl, h.1, h.2⟩
    | cons p ps => simp at h; have := hp' p (by simp); omega
  | cons p ps ih =>
    cases pre' with
    | nil => simp at h; have := hp p (by simp); omega
    | cons q qs =>
      simp at h
      obtain ⟨a, b, d⟩ := ih qs (fun x hx => hp x (by simp [hx])) (fun x hx => hp' x (by simp [hx])) h.2
      exact ⟨by rw [h.1, a], b, d⟩
theorem cut_or (b : List Int) (hb : By b) : (∃ pre c r, b = pre ++ c :: r ∧ Co pre ∧ 0 ≤ c ∧ c < 128) ∨ Co b := by
  induction b with
  | nil => exact .inr fun x hx => by simp at hx
  | cons x b ih =>
    have hx := hb x (by simp)
    by_cases h : x < 128
    · exact .inl ⟨[], x, b, rfl, fun y hy => by simp at hy, hx.1, h⟩
    · rcases ih (fun y hy => hb y (by simp [hy])) with ⟨pre, c, r, e, hp, c0, c1⟩ | hc
      · refine .inl ⟨x :: pre, c, r, by rw [e]; rfl, fun y hy => ?_, c0, c1⟩
        rcases List.mem_cons.1 hy with rfl | hy
        · omega
        · exact hp y hy
      · refine .inr fun y hy => ?_
        rcases List.mem_cons.1 hy with rfl | hy
        · omega
        · exact hc y hy
theorem wraps_u64 (n : Int) (h0 : 0 ≤ n) (h1 : n < 2 ^ 64) : IntKind.u64.wrap n = n := by rw [IntKind.wrap_u64]; omega
theorem and127 {x : Int} (h0 : 0 ≤ x) (h1 : x < 256) : Go.bits .and .u64 x 127 = x % 128 := by
  have := bits_mask .u64 64 (by decide) wraps_u64 7 (by decide) x h0 (by omega)
  simpa using this
theorem or_step (a : Nat) (c : Int) (i : Nat) (ha : a < 128 ^ i) (hc : 0 ≤ c ∧ c ≤ 255) (hi : i ≤ 8 ∨ i = 9 ∧ c ≤ 1) :
    Go.bits .or .u64 (a : Int) (shl .u64 (Go.bits .and .u64 (IntKind.u64.wrap c) 127) (wrap64 (7 * (i : Int)))) = ((a + 128 ^ i * (c.toNat % 128) : Nat) : Int) := by
  rw [wraps_u64 c hc.1 (by omega), and127 hc.1 (by omega), w64 (by omega) (by omega)]
  have e7 : (7 * (i : Int)).toNat = 7 * i := by omega
  have hp : (2 : Nat) ^ (7 * i) = 128 ^ i := by rw [Nat.pow_mul]
  have hm : min (7 * (i : Int)).toNat IntKind.u64.bits = 7 * i := by
    rw [e7]; exact Nat.min_eq_left (by simp only [IntKind.bits]; omega)
  unfold shl
  rw [hm]
  have hc' : c % 128 = ((c.toNat % 128 : Nat) : Int) := by omega
  have e1 : c % 128 * 2 ^ (7 * i) = ((128 ^ i * (c.toNat % 128) : Nat) : Int) := by
    rw [hc', ← hp, Int.natCast_mul, Int.natCast_pow, Int.mul_comm]; rfl
  have hlt : a + 128 ^ i * (c.toNat % 128) < 18446744073709551616 := by
    rcases hi with hi | ⟨rfl, hc1⟩
    · have h8 : 128 ^ i ≤ 128 ^ 8 := Nat.pow_le_pow_right (by omega) hi
      have := Nat.mul_le_mul h8 (show c.toNat % 128 ≤ 127 by omega)
      omega
    · have : c.toNat % 128 ≤ 1 := by omega
      have := Nat.mul_le_mul (Nat.le_refl (128 ^ 9)) this
      omega
  rw [e1, wraps_u64 _ (by omega) (by omega)]
  have hb := (bits_nat .u64 64 (by decide) wraps_u64 a (128 ^ i * (c.toNat % 128)) (by omega) (by omega)).2
  rw [hb, Nat.or_comm, ← hp, ← Nat.two_pow_add_eq_or_of_lt (by rw [hp]; exact ha)]
  congr 1
  omega
theorem rd_app (pre : List Int) (c : Int) (r : List Int) : rd (pre ++ c :: r) (pre.length : Nat) = c := by
  simp [rd, List.getD_eq_getElem?_getD]
theorem take_loop (b : List Int) (hb : By b) (hl : b.length ≤ 100000) (n : Nat) (hn : n ≤ b.length ∧ n ≤ 9) (hco : ∀ j, j < n → 128 ≤ rd b (j : Nat)) (m : Int) (hm : (n : Int) ≤ m ∧ m ≤ 10 ∧ m ≤ b.length) (R : Int × List Int × Bool)
    (h : (∃ K, ∀ k, K ≤ k → frame_take.l0 k b ((valL (b.take n) : Nat) : Int) m n = some (R))) (d : Nat) : ∀ i : Nat, i + d = n → (∃ K, ∀ k, K ≤ k → frame_take.l0 k b ((valL (b.take i) : Nat) : Int) m i = some (R)) := by
  induction d with
  | zero => intro i hi; obtain rfl : i = n := by omega
            exact h
  | succ d ih =>
    intro i hi
    obtain ⟨K, hK⟩ := ih (i + 1) (by omega)
    have hx := hb _ (rd_mem b i (by omega))
    have hc := hco i (by omega)
    have hlen : (b.take i).length = i := by rw [List.length_take]; omega
    have hv := valL_lt (b.take i)
    rw [hlen] at hv
    have ho := or_step (valL (b.take i)) (rd b i) i hv hx (.inl (by omega))
    have e2 : valL (b.take (i + 1)) = valL (b.take i) + 128 ^ i * ((rd b i).toNat % 128) := by
      have : b.take (i + 1) = b.take i ++ [rd b i] := by
        rw [List.take_succ_eq_append_getElem (by omega)]
        simp [rd, List.getD_eq_getElem?_getD, List.getElem?_eq_getElem (show i < b.length by omega)]
      rw [this, valL_append, hlen]
      simp [valL]
    refine Ev.succ K fun k hk => ?_
    simp only [frame_take.l0]
    rw [if_pos (by omega), if_pos (by omega), if_pos (by omega), if_pos (by rw [w64] <;> omega), if_neg (by rw [wraps_u64 _ hx.1 (by omega)]; omega), ho, ← e2, show wrap64 ((i : Int) + 1) = ((i + 1 : Nat) : Int) by rw [w64] <;> omega]
    exact hK k hk
theorem take_ev (b : List Int) (hb : By b) (hl : b.length ≤ 100000) : ∃ u r ok, (∃ K, ∀ k, K ≤ k → frame_take.f k b = some (((u : Int), r, ok))) ∧
    (ok = true → ∃ v : Nat, u = v ∧ v < 18446744073709551616 ∧ b = countS v ++ r) ∧ (ok = false → ∀ (v : Nat) (r' : List Int), v < 18446744073709551616 → b ≠ countS v ++ r') ∧ (∃ p, b = p ++ r ∨ r = []) := by
  have hmn : ∀ x y : Int, mn x y = if y < x then y else x := fun x y => rfl
  have form : ∀ (v : Nat) (r' : List Int), v < 18446744073709551616 → b = countS v ++ r' → ∃ pre c, b = pre ++ c :: r' ∧ Co pre ∧ 0 ≤ c ∧ c < 128 ∧ (0 < c ∨ pre = []) ∧ valL (pre ++ [c]) = v ∧ pre.length ≤ 9 := by
    intro v r' hv e
    obtain ⟨pre, c, e1, hp, c0, c1, h0, hvv, hlen⟩ := countS_form 9 v (by omega)
    exact ⟨pre, c, by rw [e, e1]; simp, hp, c0, c1, h0, hvv, hlen⟩
  have noTerm : (∀ j : Nat, j < b.length → j < 10 → 128 ≤ rd b (j : Nat)) → ∃ u r ok, (∃ K, ∀ k, K ≤ k → frame_take.f k b = some (((u : Int), r, ok))) ∧
      (ok = true → ∃ v : Nat, u = v ∧ v < 18446744073709551616 ∧ b = countS v ++ r) ∧ (ok = false → ∀ (v : Nat) (r' : List Int), v < 18446744073709551616 → b ≠ countS v ++ r') ∧ (∃ p, b = p ++ r ∨ r = []) := by
    intro hno
    refine ⟨0, [], false, ?_, (fun h => by cases h), fun _ v r' hv e => ?_, [], .inr rfl⟩
    ·
      by_cases h10 : 10 ≤ b.length
      ·
        have hx := hb _ (rd_mem b 9 (by omega))
        have hc := hno 9 (by omega) (by omega)
        have h9 : (∃ K, ∀ k, K ≤ k → frame_take.l0 k b ((valL (b.take 9) : Nat) : Int) 10 (9 : Nat) = some ((0, ([] : List Int), false))) := by
          refine ⟨2, fun k hk => ?_⟩
          obtain ⟨k, rfl⟩ : ∃ m, k = m + 2 := ⟨k - 2, by omega⟩
          rw [frame_take.l0, if_pos (by omega), if_pos (by omega), if_pos (by omega), if_pos (by rw [w64] <;> omega), if_neg (by rw [wraps_u64 _ hx.1 (by omega)]; omega), show wrap64 (((9 : Nat) : Int) + 1) = 10 by rw [w64] <;> omega]
          rw [frame_take.l0, if_neg (by omega)]
        obtain ⟨K, hK⟩ := take_loop b hb hl 9 (by omega) (fun j hj => hno j (by omega) (by omega)) 10 (by omega) _ h9 9 0 (by omega)
        refine ⟨K, fun k hk => ?_⟩
        unfold frame_take.f
        rw [hmn, if_neg (by omega)]
        exact hK k hk
      · have hend : (∃ K, ∀ k, K ≤ k → frame_take.l0 k b ((valL (b.take b.length) : Nat) : Int) (b.length : Int) (b.length : Nat) = some ((0, ([] : List Int), false))) := by
          refine Ev.succ 0 fun k _ => ?_
          simp only [frame_take.l0]
          rw [if_neg (by omega)]
        obtain ⟨K, hK⟩ := take_loop b hb hl b.length (by omega) (fun j hj => hno j (by omega) (by omega)) (b.length : Int) (by omega) _ hend b.length 0 (by omega)
        refine ⟨K, fun k hk => ?_⟩
        unfold frame_take.f
        rw [hmn, if_pos (by omega)]
        exact hK k hk
    · obtain ⟨pre, c, e1, hp, c0, c1, _, _, hlen⟩ := form v r' hv e
      have := hno pre.length (by rw [e1]; simp) (by omega)
      rw [e1, rd_app] at this
      omega
  rcases cut_or b hb with ⟨pre, c, r, e, hp, c0, c1⟩ | hco
  · by_cases h9 : pre.length ≤ 9
    · have hlb : b.length = pre.length + 1 + r.length := by rw [e]; simp; omega
      have hco : ∀ j, j < pre.length → 128 ≤ rd b (j : Nat) := by
        intro j hj
        have : rd b (j : Nat) ∈ pre := by
          rw [e]; simp only [rd, Int.toNat_natCast]
          rw [List.getD_eq_getElem?_getD, List.getElem?_append_left hj, List.getElem?_eq_getElem hj]
          exact List.getElem_mem hj
        exact (hp _ this).1
      have hrd : rd b (pre.length : Nat) = c := by rw [e]; exact rd_app pre c r
      have htk : b.take pre.length = pre := by rw [e, List.take_left]
      have hdr : b.drop (((pre.length + 1 : Nat) : Int)).toNat = r := by
        rw [Int.toNat_natCast, e, List.drop_append, List.drop_of_length_le (by omega)]
        simp
      have m1 : mn 10 (b.length : Int) = (if (b.length : Int) < 10 then (b.length : Int) else 10) := rfl
      generalize hm : mn 10 (b.length : Int) = m at m1
      have hmb : (pre.length : Int) < m ∧ m ≤ 10 ∧ m ≤ b.length := by split at m1 <;> omega
      have e1 : wrap64 ((pre.length : Int) + 1) = ((pre.length + 1 : Nat) : Int) := by rw [w64] <;> omega
      have hw : IntKind.u64.wrap c = c := wraps_u64 c c0 (by omega)
      have hv9 := valL_lt pre
      have hval : valL (pre ++ [c]) = valL pre + 128 ^ pre.length * (c.toNat % 128) := by rw [valL_append]; simp [valL]
      have last : ∃ u ok, (∃ K, ∀ k, K ≤ k → frame_take.l0 k b ((valL (b.take pre.length) : Nat) : Int) m (pre.length : Nat) = some (((u : Int), r, ok))) ∧ (ok = true → u = (valL (pre ++ [c]) : Nat) ∧ (pre.length ≤ 8 ∨ pre.length = 9 ∧ c ≤ 1) ∧ (0 < c ∨ pre = [])) ∧
          (ok = false → ¬ ((pre.length ≤ 8 ∨ pre.length = 9 ∧ c ≤ 1) ∧ (0 < c ∨ pre = []))) := by
        have hpre : (pre.length : Int) = 0 ↔ pre = [] := by rw [← List.length_eq_zero_iff]; omega
        by_cases hn9 : pre.length = 9
        · by_cases hc1 : c > 1
          · refine ⟨Go.bits .or .u64 ((valL (b.take pre.length) : Nat) : Int) (shl .u64 (Go.bits .and .u64 c 127) (wrap64 (7 * (pre.length : Int)))), false, Ev.succ 0 fun k _ => ?_, (fun h => by cases h), fun _ h => by omega⟩
            simp only [frame_take.l0]
            rw [if_pos (by omega), if_pos (by omega), if_pos (by omega), if_pos (by rw [w64] <;> omega), hrd, hw, if_pos (by omega), if_pos (by omega), e1, if_pos (by omega), if_pos (by omega), Option.bind_some, if_pos hc1, hdr]
          · have ho := or_step (valL pre) c pre.length hv9 (by omega) (.inr (by omega))
            rw [hw] at ho
            by_cases hc0 : c > 0
            · refine ⟨((valL (pre ++ [c]) : Nat) : Int), true, Ev.succ 0 fun k _ => ?_, fun _ => ⟨rfl, .inr ⟨hn9, by omega⟩, .inl hc0⟩, fun h => by cases h⟩
              simp only [frame_take.l0]
              rw [if_pos (by omega), if_pos (by omega), if_pos (by omega), if_pos (by rw [w64] <;> omega), hrd, hw, if_pos (by omega), if_pos (by omega), e1, if_pos (by omega), if_pos (by omega), Option.bind_some, if_neg hc1, if_pos hc0, htk, ho, hdr, hval]
            · refine ⟨((valL pre + 128 ^ pre.length * (c.toNat % 128) : Nat) : Int), false, Ev.succ 0 fun k _ => ?_, (fun h => by cases h), fun _ h => ?_⟩
              · simp only [frame_take.l0]
                rw [if_pos (by omega), if_pos (by omega), if_pos (by omega), if_pos (by rw [w64] <;> omega), hrd, hw, if_pos (by omega), if_pos (by omega), e1, if_pos (by omega), if_pos (by omega), Option.bind_some, if_neg hc1, if_neg hc0, htk, ho, hdr,
                  show ((pre.length : Int) == 0) = false by simp; intro h; simp [h] at hn9]
              · rcases h.2 with h | h
                · exact hc0 h
                · rw [h] at hn9; simp at hn9
        · have ho := or_step (valL pre) c pre.length hv9 (by omega) (.inl (by omega))
          rw [hw] at ho
          by_cases hc0 : c > 0
          · refine ⟨((valL (pre ++ [c]) : Nat) : Int), true, Ev.succ 0 fun k _ => ?_, fun _ => ⟨rfl, .inl (by omega), .inl hc0⟩, fun h => by cases h⟩
            simp only [frame_take.l0]
            rw [if_pos (by omega), if_pos (by omega), if_pos (by omega), if_pos (by rw [w64] <;> omega), hrd, hw, if_pos (by omega), if_neg (by omega), e1, if_pos (by omega), if_pos (by omega), Option.bind_some, if_pos hc0, htk, ho, hdr, hval]
          · refine ⟨((valL (pre ++ [c]) : Nat) : Int), ((pre.length : Int) == 0), Ev.succ 0 fun k _ => ?_, fun h => ⟨rfl, .inl (by omega), .inr (hpre.1 (by simpa using h))⟩, fun h h2 => ?_⟩
            · simp only [frame_take.l0]
              rw [if_pos (by omega), if_pos (by omega), if_pos (by omega), if_pos (by rw [w64] <;> omega), hrd, hw, if_pos (by omega), if_neg (by omega), e1, if_pos (by omega), if_pos (by omega), Option.bind_some, if_neg hc0, htk, ho, hdr, hval]
            · rcases h2.2 with h2 | h2
              · exact hc0 h2
              · rw [hpre.2 h2] at h; simp at h
      obtain ⟨u, ok, hlast, ht, hf⟩ := last
      obtain ⟨K, hK⟩ := take_loop b hb hl pre.length (by omega) hco m (by omega) _ hlast pre.length 0 (by omega)
      refine ⟨u, r, ok, ⟨K, fun k hk => ?_⟩, fun h => ?_, fun h v r' hv eb => ?_, pre ++ [c], .inl (by rw [e]; simp)⟩
      · unfold frame_take.f
        rw [hm]
        exact hK k hk
      · obtain ⟨hu, hs, h0⟩ := ht h
        refine ⟨valL (pre ++ [c]), hu, ?_, ?_⟩
        · rw [hval]
          rcases hs with hs | ⟨hs, hc⟩
          · have h8 : 128 ^ pre.length ≤ 128 ^ 8 := Nat.pow_le_pow_right (by omega) hs
            have := Nat.mul_le_mul h8 (show c.toNat % 128 ≤ 127 by omega)
            omega
          · have := Nat.mul_le_mul (Nat.le_refl (128 ^ pre.length)) (show c.toNat % 128 ≤ 1 by omega)
            rw [hs] at this hv9 ⊢
            omega
        · rw [countS_val pre c hp ⟨c0, c1⟩ h0, e]; simp
      · obtain ⟨pre', c', e', hp', _, c1', h0', hv', hl'⟩ := form v r' hv eb
        rw [e] at e'
        obtain ⟨rfl, rfl, rfl⟩ := cut_unique pre pre' c c' r r' hp hp' c1 c1' e'
        refine hf h ⟨?_, h0'⟩
        by_cases h8 : pre.length ≤ 8
        · exact .inl h8
        · refine .inr ⟨by omega, ?_⟩
          have h9' : pre.length = 9 := by omega
          rw [hval, h9'] at hv'
          have : c.toNat % 128 = c.toNat := by omega
          rw [this] at hv'
          by_cases hc : c ≤ 1
          · exact hc
          · have := Nat.mul_le_mul (Nat.le_refl (128 ^ 9)) (show 2 ≤ c.toNat by omega)
            omega
    · refine noTerm (fun j hj h10 => ?_)
      have : rd b (j : Nat) ∈ pre := by
        rw [e]; simp only [rd, Int.toNat_natCast]
        rw [List.getD_eq_getElem?_getD, List.getElem?_append_left (by omega), List.getElem?_eq_getElem (by omega)]
        exact List.getElem_mem (by omega)
      exact (hp _ this).1
  · exact noTerm (fun j hj _ => (hco _ (rd_mem b j hj)).1)
end Go.Proofs.Ytfmdllbkfpbdcaa.Q
end
section
namespace Go.Proofs.Ytfmdllbkfpbdcaa.Q
open Go Go.RowKit Go.Proofs.Ytfmdllbkfpbdcaa.G Go.Proofs.YtfmdllbkfpbdcaaW.PrintWords Go.Proofs.YtfmdllbkfpbdcaaW.PrintLast Go.Proofs.YtfmdllbkfpbdcaaW.PrintMore
theorem countS_prefix {v v' : Nat} {r r' : List Int} (hv : v < 18446744073709551616) (hv' : v' < 18446744073709551616) (h : countS v ++ r = countS v' ++ r') : v = v' ∧ r = r' := by
  obtain ⟨pre, c, e, hp, c0, c1, _, hval, _⟩ := countS_form 9 v (by omega)
  obtain ⟨pre', c', e', hp', c0', c1', _, hval', _⟩ := countS_form 9 v' (by omega)
  rw [e, e'] at h
  obtain ⟨rfl, rfl, h3⟩ := cut_unique pre pre' c c' r r' hp hp' c1 c1' (by simpa using h)
  exact ⟨by rw [← hval, hval'], h3⟩
def unz (v : Nat) : Int := if v % 2 = 0 then ((v / 2 : Nat) : Int) else -1 - ((v / 2 : Nat) : Int)
theorem zig_unz (v : Nat) : zig (unz v) = v := by unfold zig unz; split <;> split <;> omega
theorem unz_zig (n : Int) : unz (zig n) = n := by unfold zig unz; split <;> split <;> omega
theorem unz_i64 {v : Nat} (h : v < 18446744073709551616) : I64 (unz v) := by unfold I64 unz; split <;> omega
theorem and1 {x : Nat} (h : x < 18446744073709551616) : Go.bits .and .u64 (x : Int) 1 = ((x % 2 : Nat) : Int) := by
  have := bits_mask .u64 64 (by decide) wraps_u64 1 (by decide) (x : Int) (by omega) (by omega)
  simp at this
  rw [this]
  omega
theorem unz_eq {v : Nat} (h : v < 18446744073709551616) : wrap64 (Go.bits .xor .u64 ((v : Int) / 2) (IntKind.u64.wrap (-(Go.bits .and .u64 (v : Int) 1)))) = unz v := by
  rw [and1 h, IntKind.wrap_u64, show (v : Int) / 2 = ((v / 2 : Nat) : Int) by omega]
  unfold unz
  by_cases h2 : v % 2 = 0
  · rw [if_pos h2, h2, show (-((0 : Nat) : Int)) % 18446744073709551616 = ((0 : Nat) : Int) by omega, bits_xor_u64_nat _ _ (by omega) (by omega), Nat.xor_zero, w64] <;> omega
  · have h1 : v % 2 = 1 := by omega
    rw [if_neg h2, h1, show (-((1 : Nat) : Int)) % 18446744073709551616 = ((18446744073709551615 : Nat) : Int) by omega, bits_xor_u64_nat _ _ (by omega) (by omega), xor_ones (by omega)]
    unfold wrap64
    omega
theorem strOf_bytes (s : ByteArray) : strOfNums (bytesOf s) = s := by
  unfold strOfNums bytesOf
  rw [List.map_map]
  have : (fun n : Int => UInt8.ofNat n.toNat) ∘ (fun b : UInt8 => (b.toNat : Int)) = id := by
    funext b
    simp
  rw [this, List.map_id]
theorem bytes_strOf (l : List Int) (h : By l) : bytesOf (strOfNums l) = l := by
  unfold strOfNums bytesOf
  simp only [List.map_map]
  rw [List.map_congr_left (g := id), List.map_id]
  intro x hx
  have := h x hx
  simp only [Function.comp, id, UInt8.toNat_ofNat', Nat.reducePow]
  omega
theorem by_bytesOf (s : ByteArray) : By (bytesOf s) := by
  intro x hx
  simp only [bytesOf, List.mem_map] at hx
  obtain ⟨b, _, rfl⟩ := hx
  have := b.toNat_lt
  omega
theorem By.append {a b : List Int} (ha : By a) (hb : By b) : By (a ++ b) := fun x hx => by
  rcases List.mem_append.1 hx with h | h
  · exact ha x h
  · exact hb x h
theorem By.left {a b : List Int} (h : By (a ++ b)) : By a := fun x hx => h x (by simp [hx])
theorem By.right {a b : List Int} (h : By (a ++ b)) : By b := fun x hx => h x (by simp [hx])
theorem By.take {a : List Int} (h : By a) (n : Nat) : By (a.take n) := fun x hx => h x (List.mem_of_mem_take hx)
theorem By.drop {a : List Int} (h : By a) (n : Nat) : By (a.drop n) := fun x hx => h x (List.mem_of_mem_drop hx)
abbrev DRes := List Int × List ByteArray × Int
def bad : DRes := ([], [], 2)
theorem dec_off1 (k : Nat) (x0 : List Int) (x5 : Int) (a : List Int) (t : List ByteArray) : frame_Decode.l1 (k + 2) x0 x5 false a t = some bad := by
  rw [frame_Decode.l1, if_neg (by simp), frame_Decode.j4, if_neg (by simp), if_neg (by simp)]
  rfl
theorem dec_off0 (k : Nat) (x0 : List Int) (x5 : Int) (a : List Int) : frame_Decode.l0 (k + 5) x0 x5 false a = some bad := by
  rw [frame_Decode.l0, if_neg (by simp), frame_Decode.j1, if_neg (by simp), if_neg (by simp), frame_Decode.j2, dec_off1]
theorem dec_texts (n : Nat) : ∀ (rest : List Int) (m : Nat) (nums : List Int) (acc : List ByteArray), rest.length ≤ n → By rest → rest.length ≤ 100000 → acc.length + rest.length ≤ 100000 → m < 18446744073709551616 →
    ∃ R : DRes, (∃ K, ∀ k, K ≤ k → frame_Decode.l1 k rest (m : Int) true nums acc = some (R)) ∧ ((∃ ts : List ByteArray, ts.length = m ∧ rest = encT ts ∧ R = (nums, acc ++ ts, 0)) ∨ (R = bad ∧ ∀ ts : List ByteArray, ts.length = m → (∀ s ∈ ts, s.size ≤ 9223372036854775807) → rest ≠ encT ts)) := by
  induction n with
  | zero =>
    intro rest m nums acc hl hb h1 h2 hm
    obtain rfl : rest = [] := List.eq_nil_of_length_eq_zero (by omega)
    cases m with
    | zero =>
      refine ⟨(nums, acc, 0), ⟨2, fun k hk => ?_⟩, .inl ⟨[], rfl, rfl, by simp⟩⟩
      obtain ⟨k, rfl⟩ : ∃ m, k = m + 2 := ⟨k - 2, by omega⟩
      rw [frame_Decode.l1, if_pos rfl, decide_eq_false (by omega), frame_Decode.j4, if_neg (by simp), if_pos rfl, if_neg (by simp)]
    | succ m =>
      obtain ⟨u, r, ok, ⟨K, hK⟩, ht, hf, hr⟩ := take_ev [] hb h1
      cases ok with
      | true =>
        obtain ⟨v, _, _, e⟩ := ht rfl
        have := countS_pos v
        have := congrArg List.length e
        simp at this
        omega
      | false =>
        refine ⟨bad, ⟨K + 5, fun k hk => ?_⟩, .inr ⟨rfl, fun ts hts hsz e => ?_⟩⟩
        · obtain ⟨k, rfl⟩ : ∃ m, k = m + 4 := ⟨k - 4, by omega⟩
          rw [frame_Decode.l1, if_pos rfl, decide_eq_true (by omega), frame_Decode.j4, if_pos rfl, hK _ (by omega), Option.bind_some, if_neg (by simp)]
          exact dec_off1 _ _ _ _ _
        · cases ts with
          | nil => simp at hts
          | cons s ts =>
            rw [encT_cons, List.append_assoc] at e
            exact hf rfl s.size _ (by have := hsz s (by simp); omega) e
  | succ n ih =>
    intro rest m nums acc hl hb h1 h2 hm
    cases m with
    | zero =>
      by_cases h0 : rest = []
      · subst h0
        refine ⟨(nums, acc, 0), ⟨2, fun k hk => ?_⟩, .inl ⟨[], rfl, rfl, by simp⟩⟩
        obtain ⟨k, rfl⟩ : ∃ m, k = m + 2 := ⟨k - 2, by omega⟩
        rw [frame_Decode.l1, if_pos rfl, decide_eq_false (by omega), frame_Decode.j4, if_neg (by simp), if_pos rfl, if_neg (by simp)]
      · have hpos : 0 < rest.length := List.length_pos_iff.2 h0
        refine ⟨bad, ⟨2, fun k hk => ?_⟩, .inr ⟨rfl, fun ts hts _ e => ?_⟩⟩
        · obtain ⟨k, rfl⟩ : ∃ m, k = m + 2 := ⟨k - 2, by omega⟩
          rw [frame_Decode.l1, if_pos rfl, decide_eq_false (by omega), frame_Decode.j4, if_neg (by simp), if_pos rfl, if_pos (by omega)]
          rfl
        · obtain rfl : ts = [] := List.eq_nil_of_length_eq_zero hts
          exact h0 e
    | succ m =>
      obtain ⟨u, r, ok, ⟨K, hK⟩, ht, hf, hr⟩ := take_ev rest hb h1
      have e1 : IntKind.u64.wrap (((m + 1 : Nat) : Int) - 1) = (m : Int) := by rw [IntKind.wrap_u64]; omega
      cases ok with
      | false =>
        refine ⟨bad, ⟨K + 5, fun k hk => ?_⟩, .inr ⟨rfl, fun ts hts hsz e => ?_⟩⟩
        · obtain ⟨k, rfl⟩ : ∃ m, k = m + 4 := ⟨k - 4, by omega⟩
          rw [frame_Decode.l1, if_pos rfl, decide_eq_true (by omega), frame_Decode.j4, if_pos rfl, hK _ (by omega), Option.bind_some, if_neg (by simp)]
          exact dec_off1 _ _ _ _ _
        · cases ts with
          | nil => simp at hts
          | cons s ts =>
            rw [encT_cons, List.append_assoc] at e
            exact hf rfl s.size _ (by have := hsz s (by simp); omega) e
      | true =>
        obtain ⟨v, rfl, hv, e⟩ := ht rfl
        have hbr : By r := by rw [e] at hb; exact hb.right
        have hcp := countS_pos v
        have hlen : rest.length = (countS v).length + r.length := by rw [e]; simp
        have ew : IntKind.u64.wrap (r.length : Int) = (r.length : Int) := by rw [IntKind.wrap_u64]; omega
        by_cases hvl : v ≤ r.length
        · have hdl : (r.drop v).length = r.length - v := List.length_drop
          obtain ⟨R, ⟨K2, hK2⟩, hR⟩ := ih (r.drop v) m nums (acc ++ [strOfNums (r.take v)]) (by omega) (hbr.drop v) (by omega) (by simp only [List.length_append, List.length_cons, List.length_nil]; omega) (by omega)
          have hs : (strOfNums (r.take v)).size = v := by rw [strOfNums_size, List.length_take]; omega
          have hbs : bytesOf (strOfNums (r.take v)) = r.take v := bytes_strOf _ (hbr.take v)
          refine ⟨R, ⟨K + K2 + 2, fun k hk => ?_⟩, ?_⟩
          · obtain ⟨k, rfl⟩ : ∃ m, k = m + 2 := ⟨k - 2, by omega⟩
            rw [frame_Decode.l1, if_pos rfl, decide_eq_true (by omega), frame_Decode.j4, if_pos rfl, hK _ (by omega), Option.bind_some]
            simp only [if_true]
            rw [ew, if_pos (by omega), if_pos (by omega), if_pos (by omega), if_pos (by omega), e1, Int.toNat_natCast]
            exact hK2 k (by omega)
          · rcases hR with ⟨ts, h3, h4, h5⟩ | ⟨h3, h4⟩
            · refine .inl ⟨strOfNums (r.take v) :: ts, by simp [h3], ?_, by rw [h5]; simp⟩
              rw [encT_cons, hs, hbs, ← h4, e, List.append_assoc, List.take_append_drop]
            · refine .inr ⟨h3, fun ts hts hsz e' => ?_⟩
              cases ts with
              | nil => simp at hts
              | cons s ts =>
                rw [encT_cons, List.append_assoc, e] at e'
                obtain ⟨h6, h7⟩ := countS_prefix hv (by have := hsz s (by simp); omega) e'
                refine h4 ts (by simpa using hts) (fun s' hs' => hsz s' (by simp [hs'])) ?_
                rw [h7, h6, List.drop_append, bytesOf_length, List.drop_of_length_le (by rw [bytesOf_length]; omega)]
                simp
        · refine ⟨bad, ⟨K + 5, fun k hk => ?_⟩, .inr ⟨rfl, fun ts hts hsz e' => ?_⟩⟩
          · obtain ⟨k, rfl⟩ : ∃ m, k = m + 4 := ⟨k - 4, by omega⟩
            rw [frame_Decode.l1, if_pos rfl, decide_eq_true (by omega), frame_Decode.j4, if_pos rfl, hK _ (by omega), Option.bind_some]
            simp only [if_true]
            rw [ew, if_neg (by omega)]
            exact dec_off1 _ _ _ _ _
          · cases ts with
            | nil => simp at hts
            | cons s ts =>
              rw [encT_cons, List.append_assoc, e] at e'
              obtain ⟨h6, h7⟩ := countS_prefix hv (by have := hsz s (by simp); omega) e'
              rw [h7, List.length_append, bytesOf_length] at hvl
              omega
theorem dec_nums (n : Nat) : ∀ (rest : List Int) (m : Nat) (acc : List Int), rest.length ≤ n → By rest → rest.length ≤ 100000 → acc.length + rest.length ≤ 100000 → m < 18446744073709551616 →
    ∃ R : DRes, (∃ K, ∀ k, K ≤ k → frame_Decode.l0 k rest (m : Int) true acc = some (R)) ∧ ((∃ (ns : List Int) (ts : List ByteArray), ns.length = m ∧ (∀ x ∈ ns, I64 x) ∧ rest = encN ns ++ countS ts.length ++ encT ts ∧ R = (acc ++ ns, ts, 0)) ∨
      (R = bad ∧ ∀ (ns : List Int) (ts : List ByteArray), ns.length = m → Held ns ts → rest ≠ encN ns ++ countS ts.length ++ encT ts)) := by
  induction n using Nat.strongRecOn with
  | _ n ih =>
  intro rest m acc hl hb h1 h2 hm
  obtain ⟨u, r, ok, ⟨K, hK⟩, ht, hf, hr⟩ := take_ev rest hb h1
  cases m with
  | zero =>
    cases ok with
    | false =>
      refine ⟨bad, ⟨K + 6, fun k hk => ?_⟩, .inr ⟨rfl, fun ns ts hns hh e => ?_⟩⟩
      · obtain ⟨k, rfl⟩ : ∃ m, k = m + 5 := ⟨k - 5, by omega⟩
        rw [frame_Decode.l0, if_pos rfl, decide_eq_false (by omega), frame_Decode.j1, if_neg (by simp), if_pos rfl, hK _ (by omega), Option.bind_some, frame_Decode.j2]
        exact dec_off1 _ _ _ _ _
      · obtain rfl : ns = [] := List.eq_nil_of_length_eq_zero hns
        have := hh.2.2.1
        exact hf rfl ts.length _ (by omega) (by simpa [encN] using e)
    | true =>
      obtain ⟨v, rfl, hv, e⟩ := ht rfl
      have hbr : By r := by rw [e] at hb; exact hb.right
      have hlen : rest.length = (countS v).length + r.length := by rw [e]; simp
      obtain ⟨R, ⟨K2, hK2⟩, hR⟩ := dec_texts r.length r v acc [] (Nat.le_refl _) hbr (by omega) (by simp; omega) hv
      refine ⟨R, ⟨K + K2 + 3, fun k hk => ?_⟩, ?_⟩
      · obtain ⟨k, rfl⟩ : ∃ m, k = m + 3 := ⟨k - 3, by omega⟩
        rw [frame_Decode.l0, if_pos rfl, decide_eq_false (by omega), frame_Decode.j1, if_neg (by simp), if_pos rfl, hK _ (by omega), Option.bind_some, frame_Decode.j2]
        exact hK2 k (by omega)
      · rcases hR with ⟨ts, h3, h4, h5⟩ | ⟨h3, h4⟩
        · exact .inl ⟨[], ts, rfl, fun x hx => by simp at hx, by rw [h3, ← h4]; simpa [encN] using e, by rw [h5]; simp⟩
        · refine .inr ⟨h3, fun ns ts hns hh e' => ?_⟩
          obtain rfl : ns = [] := List.eq_nil_of_length_eq_zero hns
          have := hh.2.2.1
          rw [e] at e'
          obtain ⟨h6, h7⟩ := countS_prefix hv (by omega : ts.length < 18446744073709551616) (by simpa [encN] using e')
          exact h4 ts h6.symm hh.2.2.2 h7
  | succ m =>
    have e1 : IntKind.u64.wrap (((m + 1 : Nat) : Int) - 1) = (m : Int) := by rw [IntKind.wrap_u64]; omega
    cases ok with
    | false =>
      refine ⟨bad, ⟨K + 8, fun k hk => ?_⟩, .inr ⟨rfl, fun ns ts hns hh e => ?_⟩⟩
      · obtain ⟨k, rfl⟩ : ∃ m, k = m + 7 := ⟨k - 7, by omega⟩
        rw [frame_Decode.l0, if_pos rfl, decide_eq_true (by omega), frame_Decode.j1, if_pos rfl, hK _ (by omega), Option.bind_some, if_neg (by simp)]
        exact dec_off0 _ _ _ _
      · cases ns with
        | nil => simp at hns
        | cons x ns =>
          rw [encN_cons] at e
          exact hf rfl (zig x) _ (zig_lt (hh.2.1 x (by simp))) (by simpa using e)
    | true =>
      obtain ⟨v, rfl, hv, e⟩ := ht rfl
      have hbr : By r := by rw [e] at hb; exact hb.right
      have hcp := countS_pos v
      have hlen : rest.length = (countS v).length + r.length := by rw [e]; simp
      obtain ⟨R, ⟨K2, hK2⟩, hR⟩ := ih r.length (by omega) r m (acc ++ [unz v]) (Nat.le_refl _) hbr (by omega) (by simp only [List.length_append, List.length_cons, List.length_nil]; omega) (by omega)
      refine ⟨R, ⟨K + K2 + 2, fun k hk => ?_⟩, ?_⟩
      · obtain ⟨k, rfl⟩ : ∃ m, k = m + 2 := ⟨k - 2, by omega⟩
        rw [frame_Decode.l0, if_pos rfl, decide_eq_true (by omega), frame_Decode.j1, if_pos rfl, hK _ (by omega), Option.bind_some]
        simp only [if_true]
        rw [if_pos (by omega), unz_eq hv, e1]
        exact hK2 k (by omega)
      · rcases hR with ⟨ns, ts, h3, h3', h4, h5⟩ | ⟨h3, h4⟩
        · refine .inl ⟨unz v :: ns, ts, by simp [h3], fun x hx => ?_, ?_, by rw [h5]; simp⟩
          · rcases List.mem_cons.1 hx with rfl | hx
            · exact unz_i64 hv
            · exact h3' x hx
          · rw [encN_cons, zig_unz, e, h4]; simp
        · refine .inr ⟨h3, fun ns ts hns hh e' => ?_⟩
          cases ns with
          | nil => simp at hns
          | cons x ns =>
            rw [encN_cons, e] at e'
            obtain ⟨h6, h7⟩ := countS_prefix hv (zig_lt (hh.2.1 x (by simp))) (by simpa using e')
            refine h4 ns ts (by simpa using hns) ⟨by have := hh.1; simp at this; omega, fun y hy => hh.2.1 y (by simp [hy]), hh.2.2⟩ (by simpa using h7)
theorem encN_len (l : List Int) : l.length ≤ (encN l).length := by
  induction l with
  | nil => simp
  | cons n l ih => rw [encN_cons]; have := countS_pos (zig n); simp only [List.length_append, List.length_cons]; omega
theorem encT_len (l : List ByteArray) : l.length ≤ (encT l).length ∧ ∀ s ∈ l, s.size ≤ (encT l).length := by
  induction l with
  | nil => simp
  | cons s l ih =>
    rw [encT_cons]
    have := countS_pos s.size
    have hb := bytesOf_length s
    simp only [List.length_append, List.length_cons]
    refine ⟨by omega, fun x hx => ?_⟩
    rcases List.mem_cons.1 hx with rfl | hx
    · omega
    · have := ih.2 x hx; omega
theorem Decode_ev (b : List Int) (hb : By b) (hl : b.length ≤ 4096) : ∃ R : DRes, (∃ K, ∀ k, K ≤ k → frame_Decode.f k b = some (R)) ∧ ((∃ ns ts, Held ns ts ∧ b = enc ns ts ∧ R = (ns, ts, 0)) ∨ (R = bad ∧ ∀ ns ts, Held ns ts → b ≠ enc ns ts)) := by
  obtain ⟨u, r, ok, ⟨K, hK⟩, ht, hf, hr⟩ := take_ev b hb (by omega)
  cases ok with
  | false =>
    refine ⟨bad, ⟨K + 6, fun k hk => ?_⟩, .inr ⟨rfl, fun ns ts hh e => ?_⟩⟩
    · obtain ⟨k, rfl⟩ : ∃ m, k = m + 5 := ⟨k - 5, by omega⟩
      unfold frame_Decode.f
      rw [if_neg (by omega), hK _ (by omega), Option.bind_some]
      exact dec_off0 _ _ _ _
    · have := hh.1
      exact hf rfl ns.length (encN ns ++ (countS ts.length ++ encT ts)) (by omega) (by rw [e]; simp [enc])
  | true =>
    obtain ⟨v, rfl, hv, e⟩ := ht rfl
    have hbr : By r := by rw [e] at hb; exact hb.right
    have hlen : b.length = (countS v).length + r.length := by rw [e]; simp
    obtain ⟨R, ⟨K2, hK2⟩, hR⟩ := dec_nums r.length r v [] (Nat.le_refl _) hbr (by omega) (by simp; omega) hv
    refine ⟨R, ⟨K + K2, fun k hk => ?_⟩, ?_⟩
    · unfold frame_Decode.f
      rw [if_neg (by omega), hK _ (by omega), Option.bind_some]
      exact hK2 k (by omega)
    · rcases hR with ⟨ns, ts, h3, h3', h4, h5⟩ | ⟨h3, h4⟩
      · refine .inl ⟨ns, ts, ?_, ?_, by rw [h5]; simp⟩
        · have a := encN_len ns
          have t := encT_len ts
          have hle : r.length = (encN ns).length + (countS ts.length).length + (encT ts).length := by rw [h4]; simp; omega
          exact ⟨by omega, h3', by omega, fun s hs => by have := t.2 s hs; omega⟩
        · rw [e, h4, ← h3]; simp [enc]
      · refine .inr ⟨h3, fun ns ts hh e' => ?_⟩
        have := hh.1
        rw [e] at e'
        obtain ⟨h6, h7⟩ := countS_prefix hv (by omega : ns.length < 18446744073709551616) (r' := encN ns ++ countS ts.length ++ encT ts) (by rw [e']; simp [enc])
        exact h4 ns ts h6.symm hh h7
theorem encN_inj : ∀ (a b : List Int) (x y : List Int), a.length = b.length → (∀ n ∈ a, I64 n) → (∀ n ∈ b, I64 n) → encN a ++ x = encN b ++ y → a = b ∧ x = y
  | [], [], x, y, _, _, _, h => ⟨rfl, by simpa [encN] using h⟩
  | [], _ :: _, _, _, h, _, _, _ => by simp at h
  | _ :: _, [], _, _, h, _, _, _ => by simp at h
  | n :: a, m :: b, x, y, hl, ha, hb, h => by
    rw [encN_cons, encN_cons, List.append_assoc, List.append_assoc] at h
    obtain ⟨h1, h2⟩ := countS_prefix (zig_lt (ha n (by simp))) (zig_lt (hb m (by simp))) h
    obtain ⟨h3, h4⟩ := encN_inj a b x y (by simpa using hl) (fun z hz => ha z (by simp [hz])) (fun z hz => hb z (by simp [hz])) h2
    exact ⟨by rw [h3, ← unz_zig n, h1, unz_zig], h4⟩
theorem encT_inj : ∀ (a b : List ByteArray), a.length = b.length → (∀ s ∈ a, s.size ≤ 9223372036854775807) → (∀ s ∈ b, s.size ≤ 9223372036854775807) → encT a = encT b → a = b
  | [], [], _, _, _, _ => rfl
  | [], _ :: _, h, _, _, _ => by simp at h
  | _ :: _, [], h, _, _, _ => by simp at h
  | s :: a, t :: b, hl, ha, hb, h => by
    rw [encT_cons, encT_cons, List.append_assoc, List.append_assoc] at h
    obtain ⟨h1, h2⟩ := countS_prefix (by have := ha s (by simp); omega) (by have := hb t (by simp); omega) h
    obtain ⟨h3, h4⟩ := List.append_inj h2 (by rw [bytesOf_length, bytesOf_length, h1])
    have := encT_inj a b (by simpa using hl) (fun z hz => ha z (by simp [hz])) (fun z hz => hb z (by simp [hz])) h4
    rw [this, ← strOf_bytes s, h3, strOf_bytes]
theorem enc_inj {a a' : List Int} {t t' : List ByteArray} (h : Held a t) (h' : Held a' t') (e : enc a t = enc a' t') : a = a' ∧ t = t' := by
  unfold enc at e
  simp only [List.append_assoc] at e
  have := h.1; have := h'.1; have := h.2.2.1; have := h'.2.2.1
  obtain ⟨h1, h2⟩ := countS_prefix (by omega) (by omega) e
  obtain ⟨h3, h4⟩ := encN_inj a a' _ _ h1 h.2.1 h'.2.1 h2
  obtain ⟨h5, h6⟩ := countS_prefix (by omega) (by omega) h4
  exact ⟨h3, encT_inj t t' h5 h.2.2.2 h'.2.2.2 h6⟩
end Go.Proofs.Ytfmdllbkfpbdcaa.Q
end
section
namespace Go.Proofs.Ytfmdllbkfpbdcaa.Q
open Go Go.RowKit Go.Proofs.Ytfmdllbkfpbdcaa.G Go.Proofs.YtfmdllbkfpbdcaaW.PrintWords Go.Proofs.YtfmdllbkfpbdcaaW.PrintLast Go.Proofs.YtfmdllbkfpbdcaaW.PrintMore
def lz (i : Nat) (c : Int) : Nat := 128 ^ i * (c.toNat % 128) % 18446744073709551616
theorem lz_eq {i : Nat} {c : Int} (h : 128 ^ i * (c.toNat % 128) < 18446744073709551616) : lz i c = 128 ^ i * (c.toNat % 128) := Nat.mod_eq_of_lt h
theorem lead_shl (c : Int) (hc : 0 ≤ c ∧ c ≤ 255) (i : Nat) (hi : i ≤ 9) : shl .u64 (IntKind.u64.wrap (Int.tmod c 128)) (IntKind.u64.wrap (wrap64 (7 * (i : Int)))) = (lz i c : Int) := by
  rw [w64 (by omega) (by omega), tmod_nn hc.1, wraps_u64 (c % 128) (by omega) (by omega), wraps_u64 (7 * (i : Int)) (by omega) (by omega)]
  have hm : min (7 * (i : Int)).toNat IntKind.u64.bits = 7 * i := by
    rw [show (7 * (i : Int)).toNat = 7 * i by omega]; exact Nat.min_eq_left (by simp only [IntKind.bits]; omega)
  have hp : (2 : Nat) ^ (7 * i) = 128 ^ i := by rw [Nat.pow_mul]
  have hc' : c % 128 = ((c.toNat % 128 : Nat) : Int) := by omega
  have e1 : c % 128 * 2 ^ (7 * i) = ((128 ^ i * (c.toNat % 128) : Nat) : Int) := by
    rw [hc', ← hp, Int.natCast_mul, Int.natCast_pow, Int.mul_comm]; rfl
  unfold shl lz
  rw [hm, e1, IntKind.wrap_u64]
  generalize 128 ^ i * (c.toNat % 128) = z
  omega
theorem lead_step (b : List Int) (i : Nat) (x y : Int) (k : Nat) (h : i < b.length) (hi : i ≤ 9) (hc : 0 ≤ rd b i ∧ rd b i ≤ 255) (hy : IntKind.u64.wrap (x + (lz i (rd b i) : Int)) = y) :
    windroseref02_Lead.l0 (k + 2) b x i = if rd b i < 128 then some (y, ((i + 1 : Nat) : Int)) else windroseref02_Lead.l0 k b y ((i + 1 : Nat) : Int) := by
  have ew : wrap64 ((i : Int) + 1) = ((i + 1 : Nat) : Int) := by rw [w64] <;> omega
  have e7 : 0 ≤ IntKind.u64.wrap (wrap64 (7 * (i : Int))) := by rw [w64 (by omega) (by omega), wraps_u64 _ (by omega) (by omega)]; omega
  rw [windroseref02_Lead.l0, if_pos (by omega), decide_eq_true (by omega), windroseref02_Lead.j1, if_pos rfl, if_pos (by omega), if_pos (by omega), if_pos e7, lead_shl _ hc i hi, hy, ew]
theorem lead_stop (b : List Int) (i : Nat) (x : Int) (h : ¬ (i < b.length ∧ i < 10)) : (∃ K, ∀ k, K ≤ k → windroseref02_Lead.l0 k b x i = some (((((0 : Nat) : Int)), (((0 : Nat)) : Int)))) := by
  refine ⟨2, fun k hk => ?_⟩
  obtain ⟨k, rfl⟩ : ∃ m, k = m + 2 := ⟨k - 2, by omega⟩
  rw [windroseref02_Lead.l0]
  by_cases h1 : i < b.length
  · rw [if_pos (by omega), decide_eq_false (by omega), windroseref02_Lead.j1, if_neg (by simp)]; rfl
  · rw [if_neg (by omega), windroseref02_Lead.j1, if_neg (by simp)]; rfl
theorem lead_any (b : List Int) (hb : By b) (hl : b.length ≤ 100000) (d : Nat) : ∀ (i : Nat) (x : Int), i + d = 10 → 0 ≤ x → x < 18446744073709551616 → ∃ (u : Nat) (n : Nat), (∃ K, ∀ k, K ≤ k → windroseref02_Lead.l0 k b x i = some (((u : Int), (n : Int)))) ∧ u < 18446744073709551616 ∧ n ≤ b.length ∧ n ≤ 10 := by
  induction d with
  | zero => intro i x hi _ _; exact ⟨0, 0, lead_stop b i x (by omega), by omega, by omega, by omega⟩
  | succ d ih =>
    intro i x hi hx0 hx1
    by_cases h : i < b.length
    · have hc := hb _ (rd_mem b i h)
      obtain ⟨y, hy, hy2⟩ : ∃ y : Nat, IntKind.u64.wrap (x + (lz i (rd b i) : Int)) = (y : Int) ∧ y < 18446744073709551616 := by
        rw [IntKind.wrap_u64]
        generalize lz i (rd b i) = z
        exact ⟨((x + (z : Int)) % 18446744073709551616).toNat, by omega, by omega⟩
      by_cases h1 : rd b i < 128
      · refine ⟨y, i + 1, ⟨2, fun k hk => ?_⟩, hy2, by omega, by omega⟩
        obtain ⟨k, rfl⟩ : ∃ m, k = m + 2 := ⟨k - 2, by omega⟩
        rw [lead_step b i x y k h (by omega) hc hy, if_pos h1]
      · obtain ⟨u, n, ⟨K, hK⟩, hu, hn⟩ := ih (i + 1) (y : Int) (by omega) (by omega) (by omega)
        refine ⟨u, n, ⟨K + 2, fun k hk => ?_⟩, hu, hn⟩
        obtain ⟨k, rfl⟩ : ∃ m, k = m + 2 := ⟨k - 2, by omega⟩
        rw [lead_step b i x y k h (by omega) hc hy, if_neg h1]
        exact hK k (by omega)
    · exact ⟨0, 0, lead_stop b i x (by omega), by omega, by omega, by omega⟩
theorem Lead_ev (b : List Int) (hb : By b) (hl : b.length ≤ 100000) : ∃ (u : Nat) (n : Nat), (∃ K, ∀ k, K ≤ k → windroseref02_Lead.f k b = some (((u : Int), (n : Int)))) ∧ u < 18446744073709551616 ∧ n ≤ b.length ∧ n ≤ 10 := by
  obtain ⟨u, n, ⟨K, hK⟩, h⟩ := lead_any b hb hl 10 0 0 (by omega) (by omega) (by omega)
  refine ⟨u, n, ⟨K, fun k hk => ?_⟩, h⟩
  unfold windroseref02_Lead.f
  exact hK k hk
theorem lead_pre (pre r : List Int) (c : Int) (v : Nat) (hp : Co pre) (hc : 0 ≤ c ∧ c < 128) (hval : valL (pre ++ [c]) = v) (hv : v < 18446744073709551616) (hlen : pre.length ≤ 9) (d : Nat) : ∀ i : Nat, i + d = pre.length →
    (∃ K, ∀ k, K ≤ k → windroseref02_Lead.l0 k (pre ++ c :: r) ((valL (pre.take i) : Nat) : Int) i = some (((v : Int), ((pre.length + 1 : Nat) : Int)))) := by
  induction d with
  | zero =>
    intro i hi
    obtain rfl : i = pre.length := by omega
    have hlb : pre.length < (pre ++ c :: r).length := by simp
    have hrd := rd_app pre c r
    have hv2 : valL (pre ++ [c]) = valL pre + 128 ^ pre.length * (c.toNat % 128) := by rw [valL_append]; simp [valL]
    have hz : lz pre.length c = 128 ^ pre.length * (c.toNat % 128) := lz_eq (by rw [hval] at hv2; exact Nat.lt_of_le_of_lt (Nat.le_add_left _ _) (hv2 ▸ hv))
    refine ⟨2, fun k hk => ?_⟩
    obtain ⟨k, rfl⟩ : ∃ m, k = m + 2 := ⟨k - 2, by omega⟩
    rw [lead_step _ pre.length _ (v : Int) k hlb hlen (by rw [hrd]; omega) (by
      rw [hrd, List.take_of_length_le (Nat.le_refl _), hz, ← Int.natCast_add, ← hv2, hval]
      exact wraps_u64 _ (by omega) (by omega)), hrd, if_pos hc.2]
  | succ d ih =>
    intro i hi
    obtain ⟨K, hK⟩ := ih (i + 1) (by omega)
    have hi' : i < pre.length := by omega
    have hlb : i < (pre ++ c :: r).length := by simp; omega
    have hrd : rd (pre ++ c :: r) (i : Nat) = pre[i] := by simp [rd, List.getD_eq_getElem?_getD, List.getElem?_append_left hi', List.getElem?_eq_getElem hi']
    have hx := hp _ (List.getElem_mem hi')
    have e2 : valL (pre.take (i + 1)) = valL (pre.take i) + 128 ^ i * (pre[i].toNat % 128) := by
      rw [List.take_succ_eq_append_getElem hi', valL_append, List.length_take, Nat.min_eq_left (by omega)]
      simp [valL]
    have vle : valL (pre.take (i + 1)) ≤ v := by
      rw [← hval]
      conv => rhs; rw [← List.take_append_drop (i + 1) pre, List.append_assoc, valL_append]
      exact Nat.le_add_right _ _
    generalize pre[i] = q at hrd hx e2
    have hz : lz i q = 128 ^ i * (q.toNat % 128) := lz_eq (by rw [e2] at vle; exact Nat.lt_of_le_of_lt (Nat.le_trans (Nat.le_add_left _ _) vle) hv)
    have hstep : IntKind.u64.wrap (((valL (pre.take i) : Nat) : Int) + (lz i (rd (pre ++ c :: r) (i : Nat)) : Int)) = ((valL (pre.take (i + 1)) : Nat) : Int) := by
      rw [hrd, hz, ← Int.natCast_add, ← e2]
      generalize valL (pre.take (i + 1)) = z at vle
      exact wraps_u64 _ (by omega) (by omega)
    refine ⟨K + 2, fun k hk => ?_⟩
    obtain ⟨k, rfl⟩ : ∃ m, k = m + 2 := ⟨k - 2, by omega⟩
    rw [lead_step _ i _ _ k hlb (by omega) (by rw [hrd]; omega) hstep, hrd, if_neg (by omega)]
    exact hK k (by omega)
theorem Lead_count (v : Nat) (hv : v < 18446744073709551616) (r : List Int) (hl : (countS v ++ r).length ≤ 100000) : (∃ K, ∀ k, K ≤ k → windroseref02_Lead.f k (countS v ++ r) = some (((v : Int), ((countS v).length : Int)))) := by
  obtain ⟨pre, c, e, hp, c0, c1, h0, hval, hlen⟩ := countS_form 9 v (by omega)
  have hb : countS v ++ r = pre ++ c :: r := by rw [e]; simp
  have hcl : (countS v).length = pre.length + 1 := by rw [e]; simp
  obtain ⟨K, hK⟩ := lead_pre pre r c v hp ⟨c0, c1⟩ hval hv hlen pre.length 0 (by omega)
  refine ⟨K, fun k hk => ?_⟩
  unfold windroseref02_Lead.f
  rw [hb, hcl]
  simpa [valL] using hK k hk
end Go.Proofs.Ytfmdllbkfpbdcaa.Q
end
section
namespace Go.Proofs.Ytfmdllbkfpbdcaa.Q
open Go Go.RowKit Go.Proofs.Ytfmdllbkfpbdcaa.G Go.Proofs.YtfmdllbkfpbdcaaW.PrintWords Go.Proofs.YtfmdllbkfpbdcaaW.PrintLast
theorem toList_loop (bs : ByteArray) (d : Nat) : ∀ (i : Nat) (r : List UInt8), i + d = bs.size → ByteArray.toList.loop bs i r = r.reverse ++ bs.data.toList.drop i := by
  have hsz : bs.data.toList.length = bs.size := by rw [Array.length_toList]; rfl
  induction d with
  | zero =>
    intro i r hi
    rw [ByteArray.toList.loop, if_neg (by omega), List.drop_of_length_le (by omega), List.append_nil]
  | succ d ih =>
    intro i r hi
    rw [ByteArray.toList.loop, if_pos (by omega), ih (i + 1) _ (by omega), List.drop_eq_getElem_cons (by omega : i < bs.data.toList.length), List.reverse_cons, List.append_assoc]
    congr 1
    have e : bs.get! i = bs.data.toList[i]'(by omega) := by
      show (bs.data[i]!) = _
      rw [getElem!_pos bs.data i (by have : bs.data.size = bs.size := rfl; omega)]
      simp
    rw [e]
    rfl
theorem toList_data (bs : ByteArray) : bs.toList = bs.data.toList := by
  rw [ByteArray.toList, toList_loop bs bs.size 0 [] (by omega)]
  simp
theorem toList_inj (a b : ByteArray) : a.toList = b.toList ↔ a = b := by
  constructor
  · intro h
    rw [toList_data, toList_data] at h
    exact ByteArray.ext (Array.ext' h)
  · rintro rfl; rfl
end Go.Proofs.Ytfmdllbkfpbdcaa.Q
end
section
namespace Go.Proofs.Ytfmdllbkfpbdcaa.Q
open Go Go.RowKit Go.Proofs.Ytfmdllbkfpbdcaa.G Go.Proofs.YtfmdllbkfpbdcaaW.PrintWords Go.Proofs.YtfmdllbkfpbdcaaW.PrintLast Go.Proofs.YtfmdllbkfpbdcaaW.PrintMore
theorem refunz_odd {u : Nat} (h : u < 18446744073709551616) (h1 : Int.tmod (u : Int) 2 = 1) : wrap64 ((-1) - (wrap64 (IntKind.u64.wrap (Int.tdiv (u : Int) 2)))) = unz u := by
  rw [tmod_nn (by omega)] at h1
  rw [tdiv_nn (by omega), IntKind.wrap_u64, w64 (x := (u : Int) / 2 % 18446744073709551616) (by omega) (by omega), w64 (by omega) (by omega)]
  unfold unz
  rw [if_neg (by omega)]
  omega
theorem refunz_even {u : Nat} (h : u < 18446744073709551616) (h1 : ¬ Int.tmod (u : Int) 2 = 1) : wrap64 (IntKind.u64.wrap (Int.tdiv (u : Int) 2)) = unz u := by
  rw [tmod_nn (by omega)] at h1
  rw [tdiv_nn (by omega), IntKind.wrap_u64, w64 (by omega) (by omega)]
  unfold unz
  rw [if_pos (by omega)]
  omega
theorem rdec_end (b : List Int) (hb : By b) (hl : b.length ≤ 4096) (n : Int) (kk : Int) (at' i : Nat) (nums : List Int) (texts : List ByteArray) (hh : Held nums texts) (hend : ¬ (0 < kk ∧ (i : Int) < n)) :
    ∃ R : DRes, (∃ K, ∀ k, K ≤ k → windroseref02_Decode.l1 k b n kk at' i nums texts = some (R)) ∧ (R = bad ∨ (b = enc nums texts ∧ R = (nums, texts, 0))) ∧ (¬ kk = 0 → b = enc nums texts → R = (nums, texts, 0)) := by
  have start : ∀ k, windroseref02_Decode.l1 (k + 1) b n kk at' i nums texts = windroseref02_Decode.j4 k b n kk at' i false nums texts := by
    intro k
    rw [windroseref02_Decode.l1]
    by_cases h : kk > 0
    · rw [if_pos h, decide_eq_false (by omega)]
    · rw [if_neg h]
  by_cases hk0 : kk = 0
  · refine ⟨bad, ⟨2, fun k hk => ?_⟩, .inl rfl, fun h => absurd hk0 h⟩
    obtain ⟨k, rfl⟩ : ∃ m, k = m + 2 := ⟨k - 2, by omega⟩
    rw [start, windroseref02_Decode.j4, if_neg (by simp), if_pos hk0]
    rfl
  · obtain ⟨R0, ⟨K, hK⟩, hc⟩ := Bytes_ev nums texts hh
    by_cases he : (strOfNums R0).toList = (strOfNums b).toList
    · have hs : strOfNums R0 = strOfNums b := (toList_inj _ _).1 he
      have hlen : R0.length = b.length := by rw [← strOfNums_size, ← strOfNums_size b, hs]
      have h4 : (enc nums texts).length ≤ 4096 := by
        rcases Nat.lt_or_ge 4096 (enc nums texts).length with h | h
        · have := hc.2 h; omega
        · exact h
      obtain rfl := hc.1 h4
      have hby : By (enc nums texts) := by
        have h1 := hh.1; have h2 := hh.2.2.1
        refine ((((by_countS (by omega)).append ?_).append (by_countS (by omega))).append ?_)
        · intro x hx
          obtain ⟨n, hn, hx⟩ := List.mem_flatMap.1 hx
          exact by_countS (zig_lt (hh.2.1 n hn)) x hx
        · intro x hx
          obtain ⟨s, hs, hx⟩ := List.mem_flatMap.1 hx
          have h3 := hh.2.2.2 s hs
          exact ((by_countS (by omega)).append (by_bytesOf s)) x hx
      have hbe : b = enc nums texts := by rw [← bytes_strOf b hb, ← bytes_strOf _ hby, hs]
      refine ⟨(nums, texts, 0), ⟨K + 2, fun k hk => ?_⟩, .inr ⟨hbe, rfl⟩, fun _ _ => rfl⟩
      obtain ⟨k, rfl⟩ : ∃ m, k = m + 2 := ⟨k - 2, by omega⟩
      rw [start, windroseref02_Decode.j4, if_neg (by simp), if_neg hk0, hK _ (by omega), Option.bind_some, if_pos he]
    · refine ⟨bad, ⟨K + 2, fun k hk => ?_⟩, .inl rfl, fun _ e => ?_⟩
      · obtain ⟨k, rfl⟩ : ∃ m, k = m + 2 := ⟨k - 2, by omega⟩
        rw [start, windroseref02_Decode.j4, if_neg (by simp), if_neg hk0, hK _ (by omega), Option.bind_some, if_neg he]
        rfl
      · have := hc.1 (by rw [← e]; exact hl)
        exact absurd (by rw [this, ← e]) he
theorem held_snoc {nums : List Int} {texts : List ByteArray} {s : ByteArray} (h : Held nums texts) (hs : s.size ≤ 100000) (ht : texts.length ≤ 100000) : Held nums (texts ++ [s]) :=
  ⟨h.1, h.2.1, by simp only [List.length_append, List.length_cons, List.length_nil]; omega, fun x hx => by
    rcases List.mem_append.1 hx with hx | hx
    · exact h.2.2.2 x hx
    · simp only [List.mem_singleton] at hx; subst hx; omega⟩
theorem held_num {nums : List Int} {texts : List ByteArray} {x : Int} (h : Held nums texts) (hx : I64 x) (ht : nums.length ≤ 100000) : Held (nums ++ [x]) texts :=
  ⟨by simp only [List.length_append, List.length_cons, List.length_nil]; omega, fun y hy => by
    rcases List.mem_append.1 hy with hy | hy
    · exact h.2.1 y hy
    · simp only [List.mem_singleton] at hy; subst hy; exact hx, h.2.2⟩
theorem rdec_text (b : List Int) (hb : By b) (hl : b.length ≤ 4096) (n : Int) (hn : n < 18446744073709551616) (kk : Int) (hk0 : 0 < kk) (p i : Nat) (hp : p ≤ b.length) (hi : (i : Int) < n) (hi2 : i ≤ 100000) (nums : List Int) (texts : List ByteArray) (ht : texts.length ≤ 100000)
    (u m : Nat) (hL : (∃ K, ∀ k, K ≤ k → windroseref02_Lead.f k (b.drop p) = some (((u : Int), (m : Int))))) (hm : m ≤ b.length - p) (hu : u < 18446744073709551616) (R : DRes) :
    (0 < m → p + m + u ≤ b.length → (∃ K, ∀ k, K ≤ k → windroseref02_Decode.l1 k b n m ((p + m + u : Nat) : Int) ((i + 1 : Nat) : Int) nums (texts ++ [strOfNums ((b.take (p + m + u)).drop (p + m))]) = some (R)) → (∃ K, ∀ k, K ≤ k → windroseref02_Decode.l1 k b n kk p i nums texts = some (R))) ∧
    (¬ (0 < m ∧ p + m + u ≤ b.length) → (∃ K, ∀ k, K ≤ k → windroseref02_Decode.l1 k b n 0 p ((i + 1 : Nat) : Int) nums texts = some (R)) → (∃ K, ∀ k, K ≤ k → windroseref02_Decode.l1 k b n kk p i nums texts = some (R))) := by
  obtain ⟨K, hK⟩ := hL
  have ei : Aside0 (IntKind.u64.wrap ((i : Int) + 1) = ((i + 1 : Nat) : Int)) := ⟨by rw [IntKind.wrap_u64]; omega⟩
  have ew : Aside0 (IntKind.u64.wrap (wrap64 ((wrap64 ((b.length : Int) - (p : Int))) - (m : Int))) = ((b.length - p - m : Nat) : Int)) := ⟨by
    rw [w64 (x := (b.length : Int) - (p : Int)) (by omega) (by omega), w64 (by omega) (by omega), IntKind.wrap_u64]; omega⟩
  constructor
  · intro hm0 hfit hR
    obtain ⟨K2, hK2⟩ := hR
    have e1 : Aside0 (wrap64 ((p : Int) + (m : Int)) = ((p + m : Nat) : Int)) := ⟨by rw [w64] <;> omega⟩
    have e2 : Aside0 (wrap64 (((p + m : Nat) : Int) + (wrap64 (u : Int))) = ((p + m + u : Nat) : Int)) := ⟨by rw [w64 (x := (u : Int)) (by omega) (by omega), w64] <;> omega⟩
    refine ⟨K + K2 + 3, fun k hk => ?_⟩
    obtain ⟨k, rfl⟩ : ∃ m, k = m + 3 := ⟨k - 3, by omega⟩
    rw [windroseref02_Decode.l1, if_pos hk0, decide_eq_true hi, windroseref02_Decode.j4, if_pos rfl, if_pos (by omega), if_pos (by omega), Int.toNat_natCast, hK _ (by omega), Option.bind_some]
    simp only []
    rw [if_pos (show (m : Int) > 0 by omega), ew.out, decide_eq_false (show ¬ ((u : Int) > ((b.length - p - m : Nat) : Int)) by omega), windroseref02_Decode.j5, if_neg (by simp), if_pos (show (m : Int) > 0 by omega), e1.out, e2.out, if_pos (by omega), if_pos (by omega), if_pos (by omega), if_pos (by omega), Int.toNat_natCast, Int.toNat_natCast, ei.out]
    exact hK2 k (by omega)
  · intro hno hR
    obtain ⟨K2, hK2⟩ := hR
    refine ⟨K + K2 + 3, fun k hk => ?_⟩
    obtain ⟨k, rfl⟩ : ∃ m, k = m + 3 := ⟨k - 3, by omega⟩
    rw [windroseref02_Decode.l1, if_pos hk0, decide_eq_true hi, windroseref02_Decode.j4, if_pos rfl, if_pos (by omega), if_pos (by omega), Int.toNat_natCast, hK _ (by omega), Option.bind_some]
    simp only []
    by_cases hm0 : 0 < m
    · rw [if_pos (show (m : Int) > 0 by omega), ew.out, decide_eq_true (show ((u : Int) > ((b.length - p - m : Nat) : Int)) by omega), windroseref02_Decode.j5, if_pos rfl, ei.out]
      exact hK2 k (by omega)
    · obtain rfl : m = 0 := by omega
      rw [if_neg (show ¬ ((0 : Nat) : Int) > 0 by omega), windroseref02_Decode.j5, if_neg (by simp), if_neg (show ¬ ((0 : Nat) : Int) > 0 by omega), ei.out]
      exact hK2 k (by omega)
theorem rdec_texts (b : List Int) (hb : By b) (hl : b.length ≤ 4096) (n : Int) (hn : n < 18446744073709551616) (nums : List Int) (d : Nat) : ∀ (p i : Nat) (kk : Int) (texts : List ByteArray), b.length - p ≤ d → p ≤ b.length → i ≤ p → texts.length ≤ p → Held nums texts →
    ∃ R : DRes, (∃ K, ∀ k, K ≤ k → windroseref02_Decode.l1 k b n kk p i nums texts = some (R)) ∧ (R = bad ∨ ∃ ts, Held nums ts ∧ b = enc nums ts ∧ R = (nums, ts, 0)) := by
  have stop : ∀ (p i : Nat) (kk : Int) (texts : List ByteArray), Held nums texts → ¬ (0 < kk ∧ (i : Int) < n) → ∃ R : DRes, (∃ K, ∀ k, K ≤ k → windroseref02_Decode.l1 k b n kk p i nums texts = some (R)) ∧ (R = bad ∨ ∃ ts, Held nums ts ∧ b = enc nums ts ∧ R = (nums, ts, 0)) := by
    intro p i kk texts hh h
    obtain ⟨R, hR, h1, _⟩ := rdec_end b hb hl n kk p i nums texts hh h
    refine ⟨R, hR, ?_⟩
    rcases h1 with h1 | ⟨h1, h2⟩
    · exact .inl h1
    · exact .inr ⟨texts, hh, h1, h2⟩
  induction d with
  | zero =>
    intro p i kk texts hd hp hi ht hh
    by_cases hc : 0 < kk ∧ (i : Int) < n
    · obtain ⟨u, m, hL, hu, hm, _⟩ := Lead_ev (b.drop p) (hb.drop p) (by rw [List.length_drop]; omega)
      rw [List.length_drop] at hm
      obtain ⟨R, hR, h⟩ := stop p (i + 1) 0 texts hh (by omega)
      exact ⟨R, (rdec_text b hb hl n hn kk hc.1 p i hp hc.2 (by omega) nums texts (by omega) u m hL hm hu R).2 (by omega) hR, h⟩
    · exact stop p i kk texts hh hc
  | succ d ih =>
    intro p i kk texts hd hp hi ht hh
    by_cases hc : 0 < kk ∧ (i : Int) < n
    · obtain ⟨u, m, hL, hu, hm, _⟩ := Lead_ev (b.drop p) (hb.drop p) (by rw [List.length_drop]; omega)
      rw [List.length_drop] at hm
      by_cases hf : 0 < m ∧ p + m + u ≤ b.length
      · have hsz : (strOfNums ((b.take (p + m + u)).drop (p + m))).size ≤ 100000 := by rw [strOfNums_size, List.length_drop, List.length_take]; omega
        obtain ⟨R, hR, h⟩ := ih (p + m + u) (i + 1) m (texts ++ [strOfNums ((b.take (p + m + u)).drop (p + m))]) (by omega) hf.2 (by omega) (by simp only [List.length_append, List.length_cons, List.length_nil]; omega) (held_snoc hh hsz (by omega))
        exact ⟨R, (rdec_text b hb hl n hn kk hc.1 p i hp hc.2 (by omega) nums texts (by omega) u m hL hm hu R).1 hf.1 hf.2 hR, h⟩
      · obtain ⟨R, hR, h⟩ := stop p (i + 1) 0 texts hh (by omega)
        exact ⟨R, (rdec_text b hb hl n hn kk hc.1 p i hp hc.2 (by omega) nums texts (by omega) u m hL hm hu R).2 hf hR, h⟩
    · exact stop p i kk texts hh hc
theorem rdec_num (b : List Int) (hl : b.length ≤ 4096) (n : Int) (hn : n < 18446744073709551616) (kk : Int) (hk0 : 0 < kk) (p i : Nat) (hp : p ≤ b.length) (hi : (i : Int) < n) (hi2 : i ≤ 100000) (nums : List Int) (ht : nums.length ≤ 100000)
    (u m : Nat) (hL : (∃ K, ∀ k, K ≤ k → windroseref02_Lead.f k (b.drop p) = some (((u : Int), (m : Int))))) (hm : m ≤ b.length - p) (hu : u < 18446744073709551616) (R : DRes)
    (hR : (∃ K, ∀ k, K ≤ k → windroseref02_Decode.l0 k b n m ((p + m : Nat) : Int) ((i + 1 : Nat) : Int) (nums ++ [unz u]) = some (R))) : (∃ K, ∀ k, K ≤ k → windroseref02_Decode.l0 k b n kk p i nums = some (R)) := by
  obtain ⟨K, hK⟩ := hL
  obtain ⟨K2, hK2⟩ := hR
  have ei : Aside0 (IntKind.u64.wrap ((i : Int) + 1) = ((i + 1 : Nat) : Int)) := ⟨by rw [IntKind.wrap_u64]; omega⟩
  have e1 : Aside0 (wrap64 ((p : Int) + (m : Int)) = ((p + m : Nat) : Int)) := ⟨by rw [w64] <;> omega⟩
  refine ⟨K + K2 + 2, fun k hk => ?_⟩
  obtain ⟨k, rfl⟩ : ∃ m, k = m + 2 := ⟨k - 2, by omega⟩
  rw [windroseref02_Decode.l0, if_pos hk0, decide_eq_true hi, windroseref02_Decode.j1, if_pos rfl, if_pos (by omega), if_pos (by omega), Int.toNat_natCast, hK _ (by omega), Option.bind_some]
  simp only []
  by_cases h1 : Int.tmod (u : Int) 2 = 1
  · rw [if_pos h1, if_pos (by omega), refunz_odd hu h1, e1.out, ei.out]
    exact hK2 k (by omega)
  · rw [if_neg h1, if_pos (by omega), refunz_even hu h1, e1.out, ei.out]
    exact hK2 k (by omega)
theorem rdec_mid (b : List Int) (n : Int) (kk : Int) (hk0 : 0 < kk) (p i : Nat) (hp : p ≤ b.length) (hl : b.length ≤ 4096) (hi : ¬ (i : Int) < n) (nums : List Int) (u m : Nat) (hL : (∃ K, ∀ k, K ≤ k → windroseref02_Lead.f k (b.drop p) = some (((u : Int), (m : Int))))) (hm : m ≤ b.length - p) (R : DRes)
    (hR : (∃ K, ∀ k, K ≤ k → windroseref02_Decode.l1 k b u m ((p + m : Nat) : Int) ((0 : Nat) : Int) nums [] = some (R))) : (∃ K, ∀ k, K ≤ k → windroseref02_Decode.l0 k b n kk p i nums = some (R)) := by
  obtain ⟨K, hK⟩ := hL
  obtain ⟨K2, hK2⟩ := hR
  have e1 : Aside0 (wrap64 ((p : Int) + (m : Int)) = ((p + m : Nat) : Int)) := ⟨by rw [w64] <;> omega⟩
  refine ⟨K + K2 + 3, fun k hk => ?_⟩
  obtain ⟨k, rfl⟩ : ∃ m, k = m + 3 := ⟨k - 3, by omega⟩
  rw [windroseref02_Decode.l0, if_pos hk0, decide_eq_false hi, windroseref02_Decode.j1, if_neg (by simp), if_pos hk0, if_pos (by omega), if_pos (by omega), Int.toNat_natCast, hK _ (by omega), Option.bind_some, windroseref02_Decode.j2]
  simp only [e1.out]
  exact hK2 k (by omega)
theorem rdec_none (b : List Int) (n : Int) (p i : Int) (nums : List Int) : (∃ K, ∀ k, K ≤ k → windroseref02_Decode.l0 k b n 0 p i nums = some (bad)) := by
  refine ⟨5, fun k hk => ?_⟩
  obtain ⟨k, rfl⟩ : ∃ m, k = m + 5 := ⟨k - 5, by omega⟩
  rw [windroseref02_Decode.l0, if_neg (by omega), windroseref02_Decode.j1, if_neg (by simp), if_neg (by omega), windroseref02_Decode.j2, windroseref02_Decode.l1, if_neg (by omega), windroseref02_Decode.j4, if_neg (by simp), if_pos rfl]
  rfl
theorem rdec_nums (b : List Int) (hb : By b) (hl : b.length ≤ 4096) (n : Int) (hn : n < 18446744073709551616) (d : Nat) : ∀ (p i : Nat) (kk : Int) (nums : List Int), 0 ≤ kk → b.length - p ≤ d → p ≤ b.length → i ≤ p → nums.length ≤ p → Held nums [] →
    ∃ R : DRes, (∃ K, ∀ k, K ≤ k → windroseref02_Decode.l0 k b n kk p i nums = some (R)) ∧ (R = bad ∨ ∃ ns ts, Held ns ts ∧ b = enc ns ts ∧ R = (ns, ts, 0)) := by
  have mid : ∀ (p i : Nat) (kk : Int) (nums : List Int), 0 ≤ kk → p ≤ b.length → ¬ (i : Int) < n → Held nums [] → ∃ R : DRes, (∃ K, ∀ k, K ≤ k → windroseref02_Decode.l0 k b n kk p i nums = some (R)) ∧ (R = bad ∨ ∃ ns ts, Held ns ts ∧ b = enc ns ts ∧ R = (ns, ts, 0)) := by
    intro p i kk nums hk hp hi hh
    by_cases h0 : 0 < kk
    · obtain ⟨u, m, hL, hu, hm, _⟩ := Lead_ev (b.drop p) (hb.drop p) (by rw [List.length_drop]; omega)
      rw [List.length_drop] at hm
      obtain ⟨R, hR, h⟩ := rdec_texts b hb hl u (by omega) nums b.length (p + m) 0 m [] (by omega) (by omega) (by omega) (by simp) hh
      refine ⟨R, rdec_mid b n kk h0 p i hp hl hi nums u m hL hm R hR, ?_⟩
      rcases h with h | ⟨ts, h1, h2, h3⟩
      · exact .inl h
      · exact .inr ⟨nums, ts, h1, h2, h3⟩
    · obtain rfl : kk = 0 := by omega
      exact ⟨bad, rdec_none b n p i nums, .inl rfl⟩
  induction d with
  | zero =>
    intro p i kk nums hk hd hp hi ht hh
    by_cases h0 : 0 < kk
    · by_cases hc : (i : Int) < n
      · obtain ⟨u, m, hL, hu, hm, _⟩ := Lead_ev (b.drop p) (hb.drop p) (by rw [List.length_drop]; omega)
        rw [List.length_drop] at hm
        obtain rfl : m = 0 := by omega
        exact ⟨bad, rdec_num b hl n hn kk h0 p i hp hc (by omega) nums (by omega) u 0 hL (by omega) hu bad (rdec_none b n _ _ _), .inl rfl⟩
      · exact mid p i kk nums hk hp hc hh
    · obtain rfl : kk = 0 := by omega
      exact ⟨bad, rdec_none b n p i nums, .inl rfl⟩
  | succ d ih =>
    intro p i kk nums hk hd hp hi ht hh
    by_cases h0 : 0 < kk
    · by_cases hc : (i : Int) < n
      · obtain ⟨u, m, hL, hu, hm, _⟩ := Lead_ev (b.drop p) (hb.drop p) (by rw [List.length_drop]; omega)
        rw [List.length_drop] at hm
        by_cases hm0 : 0 < m
        · obtain ⟨R, hR, h⟩ := ih (p + m) (i + 1) m (nums ++ [unz u]) (by omega) (by omega) (by omega) (by omega) (by simp only [List.length_append, List.length_cons, List.length_nil]; omega) (held_num hh (unz_i64 hu) (by omega))
          exact ⟨R, rdec_num b hl n hn kk h0 p i hp hc (by omega) nums (by omega) u m hL hm hu R hR, h⟩
        · obtain rfl : m = 0 := by omega
          exact ⟨bad, rdec_num b hl n hn kk h0 p i hp hc (by omega) nums (by omega) u 0 hL (by omega) hu bad (rdec_none b n _ _ _), .inl rfl⟩
      · exact mid p i kk nums hk hp hc hh
    · obtain rfl : kk = 0 := by omega
      exact ⟨bad, rdec_none b n p i nums, .inl rfl⟩
theorem rdec_encT (b : List Int) (hb : By b) (hl : b.length ≤ 4096) (nums : List Int) (ts : List ByteArray) (hh : Held nums ts) (he : b = enc nums ts) (r : List ByteArray) : ∀ (p : Nat) (kk : Int) (a : List ByteArray), 0 < kk → ts = a ++ r → p ≤ b.length → b.drop p = encT r →
    (∃ K, ∀ k, K ≤ k → windroseref02_Decode.l1 k b (ts.length : Int) kk p (a.length : Nat) nums a = some ((nums, ts, 0))) := by
  have htl : ts.length ≤ 4096 := by
    have := (encT_len ts).1
    have h2 := congrArg List.length he
    simp only [enc, List.length_append] at h2
    omega
  induction r with
  | nil =>
    intro p kk a hk ht hp hd
    simp only [List.append_nil] at ht
    subst ht
    obtain ⟨R, hR, _, h⟩ := rdec_end b hb hl (ts.length : Int) kk p ts.length nums ts hh (by omega)
    rw [h (by omega) he] at hR
    exact hR
  | cons s r ih =>
    intro p kk a hk ht hp hd
    have hlen := congrArg List.length ht
    simp only [List.length_append, List.length_cons] at hlen
    have hsz : s.size ≤ 9223372036854775807 := hh.2.2.2 s (by rw [ht]; simp)
    rw [encT_cons, List.append_assoc] at hd
    have hdl := congrArg List.length hd
    rw [List.length_drop] at hdl
    simp only [List.length_append, bytesOf_length] at hdl
    have hL := Lead_count s.size (by omega) (bytesOf s ++ encT r) (by simp only [List.length_append, bytesOf_length]; omega)
    rw [← hd] at hL
    have hcut : (b.take (p + (countS s.size).length + s.size)).drop (p + (countS s.size).length) = bytesOf s := by
      rw [← List.drop_drop, List.drop_take, List.drop_take, hd]
      rw [List.drop_append, List.drop_of_length_le (Nat.le_refl _), Nat.sub_self]
      simp only [List.nil_append, List.drop_zero]
      rw [show p + (countS s.size).length + s.size - p - (countS s.size).length = s.size by omega, List.take_append_of_le_length (by rw [bytesOf_length]; exact Nat.le_refl _), List.take_of_length_le (by rw [bytesOf_length]; exact Nat.le_refl _)]
    have hih := ih (p + (countS s.size).length + s.size) ((countS s.size).length : Int) (a ++ [s]) (by have := countS_pos s.size; omega) (by rw [ht]; simp) (by omega) (by
      rw [show p + (countS s.size).length + s.size = p + ((countS s.size).length + s.size) by omega, ← List.drop_drop, hd, ← List.append_assoc, List.drop_append, List.drop_of_length_le (by simp only [List.length_append, bytesOf_length]; omega)]
      simp only [List.length_append, bytesOf_length, Nat.sub_self, List.nil_append, List.drop_zero])
    refine (rdec_text b hb hl (ts.length : Int) (by omega) kk hk p a.length hp (by omega) (by omega) nums a (by omega) s.size (countS s.size).length hL (by omega) (by omega) _).1 (countS_pos _) (by omega) ?_
    rw [hcut, strOf_bytes]
    simpa using hih
theorem rdec_encN (b : List Int) (hb : By b) (hl : b.length ≤ 4096) (ns : List Int) (ts : List ByteArray) (hh : Held ns ts) (he : b = enc ns ts) (r : List Int) : ∀ (p : Nat) (kk : Int) (a : List Int), 0 < kk → ns = a ++ r → p ≤ b.length → b.drop p = encN r ++ (countS ts.length ++ encT ts) →
    (∃ K, ∀ k, K ≤ k → windroseref02_Decode.l0 k b (ns.length : Int) kk p (a.length : Nat) a = some ((ns, ts, 0))) := by
  have hbl : (countS ns.length).length + (encN ns).length + (countS ts.length).length + (encT ts).length = b.length := by
    have h2 := congrArg List.length he
    simp only [enc, List.length_append] at h2
    omega
  have hnl : ns.length ≤ 4096 := by have := encN_len ns; omega
  induction r with
  | nil =>
    intro p kk a hk ht hp hd
    simp only [List.append_nil] at ht
    subst ht
    simp only [encN, List.flatMap_nil, List.nil_append] at hd
    have h3 := hh.2.2.1
    have hdl := congrArg List.length hd
    rw [List.length_drop] at hdl
    simp only [List.length_append] at hdl
    have hL := Lead_count ts.length (by omega) (encT ts) (by simp only [List.length_append]; omega)
    rw [← hd] at hL
    have hT := rdec_encT b hb hl ns ts hh he ts (p + (countS ts.length).length) ((countS ts.length).length : Int) [] (by have := countS_pos ts.length; omega) rfl (by omega) (by
      rw [← List.drop_drop, hd, List.drop_append, List.drop_of_length_le (Nat.le_refl _)]; simp)
    exact rdec_mid b (ns.length : Int) kk hk p ns.length hp hl (by omega) ns ts.length _ hL (by omega) _ hT
  | cons x r ih =>
    intro p kk a hk ht hp hd
    have hlen := congrArg List.length ht
    simp only [List.length_append, List.length_cons] at hlen
    have hx : I64 x := hh.2.1 x (by rw [ht]; simp)
    rw [encN_cons, List.append_assoc] at hd
    have hdl := congrArg List.length hd
    rw [List.length_drop] at hdl
    simp only [List.length_append] at hdl
    have hL := Lead_count (zig x) (zig_lt hx) (encN r ++ (countS ts.length ++ encT ts)) (by simp only [List.length_append]; omega)
    rw [← hd] at hL
    have hih := ih (p + (countS (zig x)).length) ((countS (zig x)).length : Int) (a ++ [x]) (by have := countS_pos (zig x); omega) (by rw [ht]; simp) (by omega) (by
      rw [← List.drop_drop, hd, List.drop_append, List.drop_of_length_le (Nat.le_refl _)]; simp)
    refine rdec_num b hl (ns.length : Int) (by omega) kk hk p a.length hp (by omega) (by omega) a (by omega) (zig x) _ hL (by omega) (zig_lt hx) _ ?_
    rw [unz_zig]
    simpa using hih
theorem refDecode_ev (b : List Int) (hb : By b) (hl : b.length ≤ 4096) : ∃ R : DRes, (∃ K, ∀ k, K ≤ k → windroseref02_Decode.f k b = some (R)) ∧ ((∃ ns ts, Held ns ts ∧ b = enc ns ts ∧ R = (ns, ts, 0)) ∨ (R = bad ∧ ∀ ns ts, Held ns ts → b ≠ enc ns ts)) := by
  obtain ⟨u, m, ⟨K, hK⟩, hu, hm, _⟩ := Lead_ev b hb (by omega)
  obtain ⟨R, ⟨K2, hK2⟩, h⟩ := rdec_nums b hb hl u (by omega) b.length m 0 m [] (by omega) (by omega) hm (by omega) (by simp) ⟨by simp, fun x hx => by simp at hx, by simp, fun x hx => by simp at hx⟩
  have hf : (∃ K, ∀ k, K ≤ k → windroseref02_Decode.f k b = some (R)) := ⟨K + K2, fun k hk => by
    unfold windroseref02_Decode.f
    rw [if_neg (by omega), hK _ (by omega), Option.bind_some]
    exact hK2 k (by omega)⟩
  by_cases he : ∃ ns ts, Held ns ts ∧ b = enc ns ts
  · obtain ⟨ns, ts, hh, e⟩ := he
    have h1 := hh.1
    have hbl := congrArg List.length e
    simp only [enc, List.length_append] at hbl
    have e' : b = countS ns.length ++ (encN ns ++ (countS ts.length ++ encT ts)) := by rw [e]; simp [enc]
    obtain ⟨K3, hK3⟩ := Lead_count ns.length (by omega) (encN ns ++ (countS ts.length ++ encT ts)) (by simp only [List.length_append]; omega)
    rw [← e'] at hK3
    obtain ⟨K4, hK4⟩ := rdec_encN b hb hl ns ts hh e ns (countS ns.length).length ((countS ns.length).length : Int) [] (by have := countS_pos ns.length; omega) rfl (by omega) (by
      conv => lhs; rw [e']
      rw [List.drop_append, List.drop_of_length_le (Nat.le_refl _)]; simp)
    refine ⟨(ns, ts, 0), ⟨K3 + K4, fun k hk => ?_⟩, .inl ⟨ns, ts, hh, e, rfl⟩⟩
    unfold windroseref02_Decode.f
    rw [if_neg (by omega), hK3 _ (by omega), Option.bind_some]
    exact hK4 k (by omega)
  · refine ⟨R, hf, .inr ⟨?_, fun ns ts hh e => he ⟨ns, ts, hh, e⟩⟩⟩
    rcases h with h | ⟨ns, ts, hh, e, _⟩
    · exact h
    · exact absurd ⟨ns, ts, hh, e⟩ he
theorem both_dec (b : List Int) (hb : By b) (hl : b.length ≤ 4096) : ∃ R : DRes, (∃ K, ∀ k, K ≤ k → frame_Decode.f k b = some (R)) ∧ (∃ K, ∀ k, K ≤ k → windroseref02_Decode.f k b = some (R)) ∧ ((∃ ns ts, Held ns ts ∧ b = enc ns ts ∧ R = (ns, ts, 0)) ∨ (R = bad ∧ ∀ ns ts, Held ns ts → b ≠ enc ns ts)) := by
  obtain ⟨R, h1, h2⟩ := Decode_ev b hb hl
  obtain ⟨R', h3, h4⟩ := refDecode_ev b hb hl
  rcases h2 with ⟨ns, ts, hh, e, rfl⟩ | ⟨rfl, hno⟩
  · rcases h4 with ⟨ns', ts', hh', e', rfl⟩ | ⟨rfl, hno'⟩
    · obtain ⟨rfl, rfl⟩ := enc_inj hh hh' (by rw [← e, ← e'])
      exact ⟨_, h1, h3, .inl ⟨ns, ts, hh, e, rfl⟩⟩
    · exact absurd e (hno' ns ts hh)
  · rcases h4 with ⟨ns', ts', hh', e', rfl⟩ | ⟨rfl, hno'⟩
    · exact absurd e' (hno ns' ts' hh')
    · exact ⟨_, h1, h3, .inr ⟨rfl, hno⟩⟩
end Go.Proofs.Ytfmdllbkfpbdcaa.Q
end
section
namespace Go.Proofs.Ytfmdllbkfpbdcaa.Q
open Go Go.RowKit Go.Proofs.Ytfmdllbkfpbdcaa.G Go.Proofs.YtfmdllbkfpbdcaaW.PrintWords Go.Proofs.YtfmdllbkfpbdcaaW.PrintLast Go.Proofs.YtfmdllbkfpbdcaaW.PrintMore
abbrev B32 := BitVec 32
def poly : B32 := 0x741B8CD7
theorem poly_nat : poly.toNat = 1947962583 := by decide
theorem polyI : (1947962583 : Int) = (poly.toNat : Int) := by rw [poly_nat]; rfl
def T (s : B32) : B32 := if s.msb then (s <<< 1) ^^^ poly else s <<< 1
def iter : Nat → B32 → B32
  | 0, s => s
  | n + 1, s => iter n (T s)
def high (x : Nat) : B32 := BitVec.ofNat 32 (x * 16777216)
def byteStep (r : B32) (c : Int) : B32 := iter 8 (r ^^^ high c.toNat)
def crc (r : B32) (b : List Int) : B32 := b.foldl byteStep r
theorem T_xor (a b : B32) : T (a ^^^ b) = T a ^^^ T b := by
  unfold T
  rw [BitVec.msb_xor, BitVec.shiftLeft_xor_distrib]
  cases a.msb <;> cases b.msb <;> simp
  · ac_rfl
  · ac_rfl
  · rw [show (a <<< 1 ^^^ poly ^^^ (b <<< 1 ^^^ poly)) = (a <<< 1 ^^^ b <<< 1) ^^^ (poly ^^^ poly) by ac_rfl, BitVec.xor_self, BitVec.xor_zero]
def bit1 : B32 := BitVec.ofNat 32 2147483648
theorem high_split : ∀ x : Fin 256, high x.val = (if 128 ≤ x.val then bit1 else 0#32) ^^^ high (x.val % 128) := by decide +kernel
theorem high_T : ∀ y : Fin 128, T (high y.val) = high (2 * y.val % 256) := by decide +kernel
theorem T_byte (r : B32) (x : Nat) (h : x < 256) : T (r ^^^ high x) = T (r ^^^ (if 128 ≤ x then bit1 else 0#32)) ^^^ high (2 * x % 256) := by
  have h1 := high_split ⟨x, h⟩
  have h2 := high_T ⟨x % 128, by omega⟩
  simp only at h1 h2
  rw [h1, ← BitVec.xor_assoc, T_xor, h2]
  congr 2
  omega
theorem xor32 (a b : B32) : Go.bits .xor .u32 (a.toNat : Int) (b.toNat : Int) = ((a ^^^ b).toNat : Int) := by
  have h : (a ^^^ b).toNat < 4294967296 := (a ^^^ b).isLt
  have e : ∀ x y : Int, Go.bits .xor .u32 x y = IntKind.u32.wrap ((BitVec.ofInt 32 x ^^^ BitVec.ofInt 32 y).toNat : Int) := fun _ _ => rfl
  rw [e, BitVec.ofInt_natCast, BitVec.ofInt_natCast, BitVec.ofNat_toNat, BitVec.ofNat_toNat, BitVec.setWidth_eq, BitVec.setWidth_eq, IntKind.wrap_u32]
  omega
theorem msb_iff (s : B32) : s.msb = true ↔ (s.toNat : Int) / 2147483648 = 1 := by
  rw [BitVec.msb_eq_decide, decide_eq_true_eq]
  have := s.isLt
  simp only [Nat.reduceSub, Nat.reducePow] at *
  omega
theorem shl_toNat (s : B32) : ((s <<< 1).toNat : Int) = (s.toNat : Int) * 2 % 4294967296 := by
  rw [BitVec.toNat_shiftLeft, Nat.shiftLeft_eq]
  omega
theorem sum_inner (b : List Int) (i : Nat) (hi : i < b.length) (hb : b.length ≤ 100000) (r : Int) (n : Nat) : ∀ (j : Nat) (s : B32), j + n = 8 → (∃ K, ∀ k, K ≤ k → frame_Sum.l0 k ((iter n s).toNat : Int) b (b.length : Int) ((i + 1 : Nat) : Int) = some (r)) →
    (∃ K, ∀ k, K ≤ k → frame_Sum.l1 k (s.toNat : Int) b (b.length : Int) i j = some (r)) := by
  induction n with
  | zero =>
    intro j s hj h
    obtain ⟨K, hK⟩ := h
    refine Ev.succ K fun k hk => ?_
    simp only [frame_Sum.l1]
    rw [if_neg (by omega), show wrap64 ((i : Int) + 1) = ((i + 1 : Nat) : Int) by rw [w64] <;> omega]
    exact hK k hk
  | succ n ih =>
    intro j s hj h
    obtain ⟨K, hK⟩ := ih (j + 1) (T s) (by omega) h
    refine Ev.succ K fun k hk => ?_
    simp only [frame_Sum.l1]
    rw [if_pos (by omega), show wrap64 ((j : Int) + 1) = ((j + 1 : Nat) : Int) by rw [w64] <;> omega]
    by_cases hm : s.msb = true
    · have e : Go.bits .xor .u32 ((s.toNat : Int) * 2 % 4294967296) 1947962583 = ((T s).toNat : Int) := by
        rw [← shl_toNat, polyI, xor32]
        unfold T
        rw [if_pos hm]
      rw [if_pos ((msb_iff s).1 hm), e]
      exact hK k hk
    · have e : (s.toNat : Int) * 2 % 4294967296 = ((T s).toNat : Int) := by
        rw [← shl_toNat]
        unfold T
        rw [if_neg hm]
      rw [if_neg (fun h => hm ((msb_iff s).2 h)), e]
      exact hK k hk
theorem sum_outer (b : List Int) (hb : b.length ≤ 100000) (hr : ∀ x ∈ b, 0 ≤ x ∧ x ≤ 255) (d : Nat) : ∀ (i : Nat) (s : B32), i + d = b.length → (∃ K, ∀ k, K ≤ k → frame_Sum.l0 k (s.toNat : Int) b (b.length : Int) i = some (((crc s (b.drop i)).toNat : Int))) := by
  induction d with
  | zero =>
    intro i s hi
    refine Ev.succ 0 fun k _ => ?_
    simp only [frame_Sum.l0]
    rw [if_neg (by omega), List.drop_of_length_le (by omega)]
    rfl
  | succ d ih =>
    intro i s hi
    have hd : b.drop i = rd b i :: b.drop (i + 1) := by rw [drop_getD b i 0 (by omega)]; rfl
    have hx := hr (rd b i) (by simp only [rd, Int.toNat_natCast]; exact getD_mem b i 0 (by omega))
    obtain ⟨K, hK⟩ := sum_inner b i (by omega) hb _ 8 0 (s ^^^ high (rd b i).toNat) (by omega) (ih (i + 1) (byteStep s (rd b i)) (by omega))
    refine Ev.succ K fun k hk => ?_
    simp only [frame_Sum.l0]
    have e : Go.bits .xor .u32 (s.toNat : Int) (((rd b i % 4294967296) * 16777216) % 4294967296) = ((s ^^^ high (rd b i).toNat).toNat : Int) := by
      rw [← xor32]
      congr 1
      unfold high
      rw [BitVec.toNat_ofNat]
      omega
    rw [if_pos (by omega), if_pos (by omega), if_pos (by omega), e, hd]
    exact hK k hk
def sumS (b : List Int) : Int := ((crc 0xFFFFFFFF#32 b).toNat : Int)
theorem sum_ev (b : List Int) (hb : b.length ≤ 100000) (hr : ∀ x ∈ b, 0 ≤ x ∧ x ≤ 255) : (∃ K, ∀ k, K ≤ k → frame_Sum.f k b = some ((sumS b))) := by
  obtain ⟨K, hK⟩ := sum_outer b hb hr b.length 0 0xFFFFFFFF#32 (by omega)
  exact ⟨K, fun k hk => hK k hk⟩
theorem xor64_32 (a b : B32) : Go.bits .xor .u64 (a.toNat : Int) (b.toNat : Int) = ((a ^^^ b).toNat : Int) := by
  have h1 := a.isLt
  have h2 := b.isLt
  rw [bits_xor_u64_nat _ _ (by omega) (by omega), BitVec.toNat_xor]
theorem bit_of : ∀ (x : Fin 256) (j : Fin 8), x.val / 2 ^ (7 - j.val) % 2 = (if 128 ≤ x.val * 2 ^ j.val % 256 then 1 else 0) := by decide +kernel
theorem bit1_msb (r : B32) (p : Prop) [Decidable p] : (r ^^^ (if p then bit1 else 0#32)).msb = (r.msb ^^ decide p) := by
  rw [BitVec.msb_xor]
  by_cases h : p
  · rw [if_pos h, decide_eq_true h]; rfl
  · rw [if_neg h, decide_eq_false h]; rfl
theorem bit1_shl (r : B32) (p : Prop) [Decidable p] : (r ^^^ (if p then bit1 else 0#32)) <<< 1 = r <<< 1 := by
  rw [BitVec.shiftLeft_xor_distrib]
  have e1 : bit1 <<< 1 = 0#32 := by decide
  have e2 : 0#32 <<< 1 = 0#32 := by decide
  by_cases h : p
  · rw [if_pos h, e1, BitVec.xor_zero]
  · rw [if_neg h, e2, BitVec.xor_zero]
theorem T_in (r : B32) (c : Prop) [Decidable c] : T (r ^^^ (if c then bit1 else 0#32)) = if (r.msb = true ↔ c) then r <<< 1 else (r <<< 1) ^^^ poly := by
  unfold T
  rw [bit1_msb, bit1_shl]
  by_cases h : r.msb = true
  · by_cases hc : c
    · rw [h, decide_eq_true hc]; simp [hc]
    · rw [h, decide_eq_false hc]; simp [hc]
  · have hf : r.msb = false := by simpa using h
    by_cases hc : c
    · rw [hf, decide_eq_true hc]; simp [hc]
    · rw [hf, decide_eq_false hc]; simp [hc]
theorem ref_unf (k : Nat) (x0 : List Int) (x3 x4 L q s out bit r2 r3 x5 y : Int) (h1 : wrap64 (8 * (x0.length : Int)) = L) (c1 : x4 < L) (h2 : wrap64 (Int.tdiv x4 8) = q) (c2 : 0 ≤ q) (c3 : q < (x0.length : Int))
    (h3 : IntKind.u64.wrap (wrap64 (7 - Int.tmod x4 8)) = s) (c4 : 0 ≤ s) (h4 : IntKind.u64.wrap (Int.tdiv x3 2147483648) = out) (hy : IntKind.u64.wrap (rd x0 q) = y) (h5 : Int.tmod (shr .u64 y s) 2 = bit)
    (h6 : Int.tmod (IntKind.u64.wrap (x3 * 2)) 4294967296 = r2) (h7 : Go.bits .xor .u64 r2 1947962583 = r3) (h8 : wrap64 (x4 + 1) = x5) :
    windroseref02_Sum.l0 (k + 1) x0 x3 x4 = if out = bit then windroseref02_Sum.l0 k x0 r2 x5 else windroseref02_Sum.l0 k x0 r3 x5 := by
  rw [windroseref02_Sum.l0, h1, if_pos c1, h2, if_pos c2, if_pos c3, h3, if_pos c4, h4, hy, h5, h6, h7, h8]
theorem ref_bit (x : Int) (hx : 0 ≤ x ∧ x ≤ 255) (j : Nat) (hj : j < 8) : Int.tmod (shr .u64 x ((7 - j : Nat) : Int)) 2 = (if 128 ≤ x.toNat * 2 ^ j % 256 then 1 else 0) := by
  have hb := bit_of ⟨x.toNat, by omega⟩ ⟨j, hj⟩
  simp only at hb
  unfold shr
  have hmin : min ((7 - j : Nat) : Int).toNat IntKind.u64.bits = 7 - j := by
    rw [Int.toNat_natCast]; exact Nat.min_eq_left (by simp only [IntKind.bits]; omega)
  rw [hmin]
  have e : x = ((x.toNat : Nat) : Int) := by omega
  have e' : ((x.toNat : Nat) : Int) / 2 ^ (7 - j) = ((x.toNat / 2 ^ (7 - j) : Nat) : Int) := by
    rw [Int.natCast_ediv, Int.natCast_pow]; rfl
  rw [show x / 2 ^ (7 - j) = ((x.toNat / 2 ^ (7 - j) : Nat) : Int) by rw [← e', ← e], tmod_nn (Int.natCast_nonneg _), show (2 : Int) = ((2 : Nat) : Int) from rfl, ← Int.natCast_emod, hb]
  split <;> rfl
theorem ref_out (r : B32) : IntKind.u64.wrap (Int.tdiv (r.toNat : Int) 2147483648) = (if r.msb then 1 else 0) := by
  have hrt := r.isLt
  rw [tdiv_nn (by omega), IntKind.wrap_u64]
  have := msb_iff r
  by_cases h : r.msb = true
  · rw [if_pos h]; have := this.1 h; omega
  · rw [if_neg h]
    have h2 : ¬ (r.toNat : Int) / 2147483648 = 1 := fun h3 => h (this.2 h3)
    omega
theorem ref_shl (r : B32) : Int.tmod (IntKind.u64.wrap ((r.toNat : Int) * 2)) 4294967296 = ((r <<< 1).toNat : Int) := by
  have hrt := r.isLt
  rw [shl_toNat, IntKind.wrap_u64, tmod_nn (by omega)]; omega
theorem ref_step (b : List Int) (hb : b.length ≤ 100000) (hr : ∀ x ∈ b, 0 ≤ x ∧ x ≤ 255) (p j : Nat) (hp : p < b.length) (hj : j < 8) (r : B32) (k : Nat) :
    windroseref02_Sum.l0 (k + 1) b (r.toNat : Int) ((8 * p + j : Nat) : Int) = windroseref02_Sum.l0 k b ((T (r ^^^ (if 128 ≤ (rd b p).toNat * 2 ^ j % 256 then bit1 else 0#32))).toNat : Int) ((8 * p + j + 1 : Nat) : Int) := by
  have hx := hr (rd b p) (by simp only [rd, Int.toNat_natCast]; exact getD_mem b p 0 hp)
  rw [ref_unf k b (r.toNat : Int) ((8 * p + j : Nat) : Int) (8 * (b.length : Int)) (p : Int) ((7 - j : Nat) : Int) _ _ _ ((r <<< 1 ^^^ poly).toNat : Int) ((8 * p + j + 1 : Nat) : Int) (rd b p)
    (by rw [w64] <;> omega) (by omega) (by rw [tdiv_nn (by omega), w64] <;> omega) (by omega) (by omega) (by rw [tmod_nn (by omega), w64 (by omega) (by omega), IntKind.wrap_u64]; omega) (by omega)
    (ref_out r) (by rw [IntKind.wrap_u64]; omega) (ref_bit _ hx j hj) (ref_shl r) (by rw [polyI]; exact xor64_32 _ _) (by rw [w64] <;> omega)]
  rw [T_in]
  by_cases h : r.msb = true
  · by_cases hcc : 128 ≤ (rd b p).toNat * 2 ^ j % 256
    · rw [if_pos h, if_pos hcc, if_pos rfl, if_pos ⟨fun _ => hcc, fun _ => h⟩]
    · rw [if_pos h, if_neg hcc, if_neg (by decide), if_neg (fun h2 => hcc (h2.1 h))]
  · by_cases hcc : 128 ≤ (rd b p).toNat * 2 ^ j % 256
    · rw [if_neg h, if_pos hcc, if_neg (by decide), if_neg (fun h2 => h (h2.2 hcc))]
    · rw [if_neg h, if_neg hcc, if_pos rfl, if_pos ⟨fun h2 => absurd h2 h, fun h2 => absurd h2 hcc⟩]
theorem ref_byte (b : List Int) (hb : b.length ≤ 100000) (hr : ∀ x ∈ b, 0 ≤ x ∧ x ≤ 255) (p : Nat) (hp : p < b.length) (res : Int) (s0 : B32) (n : Nat) : ∀ (j : Nat) (r : B32), j + n = 8 →
    iter n (r ^^^ high ((rd b p).toNat * 2 ^ j % 256)) = s0 → (∃ K, ∀ k, K ≤ k → windroseref02_Sum.l0 k b (s0.toNat : Int) ((8 * (p + 1) : Nat) : Int) = some (res)) → (∃ K, ∀ k, K ≤ k → windroseref02_Sum.l0 k b (r.toNat : Int) ((8 * p + j : Nat) : Int) = some (res)) := by
  induction n with
  | zero =>
    intro j r hj hi h
    obtain rfl : j = 8 := by omega
    have e : (rd b p).toNat * 2 ^ 8 % 256 = 0 := by omega
    rw [e] at hi
    have hz : high 0 = 0#32 := by decide
    simp only [iter, hz, BitVec.xor_zero] at hi
    subst hi
    exact h
  | succ n ih =>
    intro j r hj hi h
    have hx : (rd b p).toNat * 2 ^ j % 256 < 256 := Nat.mod_lt _ (by omega)
    have hn : 2 * ((rd b p).toNat * 2 ^ j % 256) % 256 = (rd b p).toNat * 2 ^ (j + 1) % 256 := by
      rw [Nat.pow_succ, ← Nat.mul_assoc, Nat.mul_mod 2, Nat.mod_mod, ← Nat.mul_mod, Nat.mul_comm 2]
    simp only [iter] at hi
    rw [T_byte r _ hx, hn] at hi
    obtain ⟨K, hK⟩ := ih (j + 1) _ (by omega) hi h
    refine Ev.succ K fun k hk => ?_
    rw [ref_step b hb hr p j hp (by omega) r k]
    exact hK k hk
theorem ref_sum (b : List Int) (hb : b.length ≤ 100000) (hr : ∀ x ∈ b, 0 ≤ x ∧ x ≤ 255) (d : Nat) : ∀ (p : Nat) (s : B32), p + d = b.length → (∃ K, ∀ k, K ≤ k → windroseref02_Sum.l0 k b (s.toNat : Int) ((8 * p : Nat) : Int) = some (((crc s (b.drop p)).toNat : Int))) := by
  induction d with
  | zero =>
    intro p s hp
    have := s.isLt
    refine Ev.succ 0 fun k _ => ?_
    simp only [windroseref02_Sum.l0]
    rw [show wrap64 (8 * (b.length : Int)) = 8 * (b.length : Int) by rw [w64] <;> omega, if_neg (by omega), List.drop_of_length_le (by omega)]
    congr 1
    show (s.toNat : Int) % 4294967296 = (s.toNat : Int)
    omega
  | succ d ih =>
    intro p s hp
    have hd : b.drop p = rd b p :: b.drop (p + 1) := by rw [drop_getD b p 0 (by omega)]; rfl
    have hx := hr (rd b p) (by simp only [rd, Int.toNat_natCast]; exact getD_mem b p 0 (by omega))
    rw [hd]
    have h := ref_byte b hb hr p (by omega) _ (byteStep s (rd b p)) 8 0 s (by omega) (by
      unfold byteStep
      rw [show (rd b p).toNat * 2 ^ 0 % 256 = (rd b p).toNat by omega]) (ih (p + 1) (byteStep s (rd b p)) (by omega))
    exact h
theorem refsum_ev (b : List Int) (hb : b.length ≤ 100000) (hr : ∀ x ∈ b, 0 ≤ x ∧ x ≤ 255) : (∃ K, ∀ k, K ≤ k → windroseref02_Sum.f k b = some ((sumS b))) := by
  obtain ⟨K, hK⟩ := ref_sum b hb hr b.length 0 0xFFFFFFFF#32 (by omega)
  exact ⟨K, fun k hk => hK k hk⟩
end Go.Proofs.Ytfmdllbkfpbdcaa.Q
end
section
namespace Go.Proofs.Ytfmdllbkfpbdcaa.Q
open Go Go.RowKit Go.Proofs.Ytfmdllbkfpbdcaa.G Go.Proofs.YtfmdllbkfpbdcaaW.PrintWords Go.Proofs.YtfmdllbkfpbdcaaW.PrintLast Go.Proofs.YtfmdllbkfpbdcaaW.PrintMore
def fourS (s : Int) : List Int := [s / 16777216 % 256, s / 65536 % 256, s / 256 % 256, s % 256]
def frm (ns : List Int) (ts : List ByteArray) : List Int := countS (enc ns ts).length ++ enc ns ts ++ fourS (sumS (enc ns ts))
abbrev FRes := List Int × List ByteArray × Int × Int
theorem sumS_range (b : List Int) : 0 ≤ sumS b ∧ sumS b < 4294967296 := by
  unfold sumS
  have := (crc 0xFFFFFFFF#32 b).isLt
  omega
theorem by_fourS (s : Int) : By (fourS s) := by
  intro x hx
  simp only [fourS, List.mem_cons, List.mem_nil_iff, or_false] at hx
  rcases hx with rfl | rfl | rfl | rfl <;> omega
theorem by_enc {ns : List Int} {ts : List ByteArray} (hh : Held ns ts) : By (enc ns ts) := by
  have h1 := hh.1; have h2 := hh.2.2.1
  refine ((((by_countS (by omega)).append ?_).append (by_countS (by omega))).append ?_)
  · intro x hx
    obtain ⟨n, hn, hx⟩ := List.mem_flatMap.1 hx
    exact by_countS (zig_lt (hh.2.1 n hn)) x hx
  · intro x hx
    obtain ⟨s, hs, hx⟩ := List.mem_flatMap.1 hx
    have h3 := hh.2.2.2 s hs
    exact ((by_countS (by omega)).append (by_bytesOf s)) x hx
theorem str_eq {a b : List Int} (ha : By a) (hb : By b) : (strOfNums a).toList = (strOfNums b).toList ↔ a = b :=
  ⟨fun h => by rw [← bytes_strOf a ha, ← bytes_strOf b hb, (toList_inj _ _).1 h], fun h => by rw [h]⟩
theorem frm_assoc (ns : List Int) (ts : List ByteArray) (t : List Int) : frm ns ts ++ t = countS (enc ns ts).length ++ (enc ns ts ++ (fourS (sumS (enc ns ts)) ++ t)) := by simp [frm]
theorem frm_length (ns : List Int) (ts : List ByteArray) : (frm ns ts).length = (countS (enc ns ts).length).length + (enc ns ts).length + 4 := by simp [frm, fourS]; omega
theorem rd_drop (l : List Int) (v i : Nat) : rd l ((v + i : Nat) : Int) = (l.drop v).getD i 0 := by
  simp only [rd, Int.toNat_natCast, List.getD_eq_getElem?_getD, List.getElem?_drop]
theorem first_step (b r x : List Int) (v : Nat) (s : Int) (hv : v ≤ 4096) (hr : v + 4 ≤ r.length) (hs : 0 ≤ s ∧ s < 4294967296) (i : Nat) (hi : i < 4) (k : Nat) :
    frame_First.l0 (k + 1) b (v : Int) r x s (i : Int) = if (r.drop v).getD i 0 = s / 2 ^ (24 - 8 * i) % 256 then frame_First.l0 k b (v : Int) r x s ((i + 1 : Nat) : Int) else some (([] : List Int), ([] : List ByteArray), 0, 3) := by
  by_cases hlen : r.length ≤ 9223372036854775807
  · have e1 : Aside0 (wrap64 (wrap64 (v : Int) + (i : Int)) = ((v + i : Nat) : Int)) := ⟨by rw [w64 (x := (v : Int)) (by omega) (by omega), w64] <;> omega⟩
    have e2 : Aside0 (wrap64 (24 - wrap64 (8 * (i : Int))) = ((24 - 8 * i : Nat) : Int)) := ⟨by rw [w64 (x := 8 * (i : Int)) (by omega) (by omega), w64] <;> omega⟩
    have e3 : shr .u32 s ((24 - 8 * i : Nat) : Int) = s / 2 ^ (24 - 8 * i) := by
      unfold shr
      rw [Int.toNat_natCast, Nat.min_eq_left (by simp only [IntKind.bits]; omega)]
    have e4 : Aside0 (wrap64 ((i : Int) + 1) = ((i + 1 : Nat) : Int)) := ⟨by rw [w64] <;> omega⟩
    rw [frame_First.l0, if_pos (by omega), e1.out, if_pos (by omega), if_pos (by omega), e2.out, if_pos (by omega), e3, e4.out, rd_drop]
  · have e1 : Aside0 (wrap64 (wrap64 (v : Int) + (i : Int)) = ((v + i : Nat) : Int)) := ⟨by rw [w64 (x := (v : Int)) (by omega) (by omega), w64] <;> omega⟩
    have e2 : Aside0 (wrap64 (24 - wrap64 (8 * (i : Int))) = ((24 - 8 * i : Nat) : Int)) := ⟨by rw [w64 (x := 8 * (i : Int)) (by omega) (by omega), w64] <;> omega⟩
    have e3 : shr .u32 s ((24 - 8 * i : Nat) : Int) = s / 2 ^ (24 - 8 * i) := by
      unfold shr
      rw [Int.toNat_natCast, Nat.min_eq_left (by simp only [IntKind.bits]; omega)]
    have e4 : Aside0 (wrap64 ((i : Int) + 1) = ((i + 1 : Nat) : Int)) := ⟨by rw [w64] <;> omega⟩
    rw [frame_First.l0, if_pos (by omega), e1.out, if_pos (by omega), if_pos (by omega), e2.out, if_pos (by omega), e3, e4.out, rd_drop]
theorem first_sum (b r x : List Int) (v : Nat) (s : Int) (hv : v ≤ 4096) (hr : v + 4 ≤ r.length) (hs : 0 ≤ s ∧ s < 4294967296) (k : Nat) :
    frame_First.l0 (k + 4) b (v : Int) r x s 0 = if (r.drop v).take 4 = fourS s then frame_First.l0 k b (v : Int) r x s 4 else some (([] : List Int), ([] : List ByteArray), 0, 3) := by
  have h0 := first_step b r x v s hv hr hs 0 (by omega) (k + 3)
  have h1 := first_step b r x v s hv hr hs 1 (by omega) (k + 2)
  have h2 := first_step b r x v s hv hr hs 2 (by omega) (k + 1)
  have h3 := first_step b r x v s hv hr hs 3 (by omega) k
  have hl : 4 ≤ (r.drop v).length := by rw [List.length_drop]; omega
  generalize r.drop v = t at *
  match t, hl with
  | a :: b' :: c :: d :: tl, _ =>
  have ht : List.take 4 (a :: b' :: c :: d :: tl) = fourS s ↔ a = s / 16777216 % 256 ∧ b' = s / 65536 % 256 ∧ c = s / 256 % 256 ∧ d = s % 256 := by simp [fourS]
  have p24 : (2 : Int) ^ (24 - 8 * 0) = 16777216 := by decide
  have p16 : (2 : Int) ^ (24 - 8 * 1) = 65536 := by decide
  have p8 : (2 : Int) ^ (24 - 8 * 2) = 256 := by decide
  have p0 : (2 : Int) ^ (24 - 8 * 3) = 1 := by decide
  rw [p24] at h0
  rw [p16] at h1
  rw [p8] at h2
  rw [p0, Int.ediv_one] at h3
  have h0' : frame_First.l0 (k + 4) b (v : Int) r x s 0 = if a = s / 16777216 % 256 then frame_First.l0 (k + 3) b (v : Int) r x s 1 else some (([] : List Int), ([] : List ByteArray), 0, 3) := h0
  have h1' : frame_First.l0 (k + 3) b (v : Int) r x s 1 = if b' = s / 65536 % 256 then frame_First.l0 (k + 2) b (v : Int) r x s 2 else some (([] : List Int), ([] : List ByteArray), 0, 3) := h1
  have h2' : frame_First.l0 (k + 2) b (v : Int) r x s 2 = if c = s / 256 % 256 then frame_First.l0 (k + 1) b (v : Int) r x s 3 else some (([] : List Int), ([] : List ByteArray), 0, 3) := h2
  have h3' : frame_First.l0 (k + 1) b (v : Int) r x s 3 = if d = s % 256 then frame_First.l0 k b (v : Int) r x s 4 else some (([] : List Int), ([] : List ByteArray), 0, 3) := h3
  rw [h0', h1', h2', h3']
  by_cases c0 : a = s / 16777216 % 256
  · by_cases c1 : b' = s / 65536 % 256
    · by_cases c2 : c = s / 256 % 256
      · by_cases c3 : d = s % 256
        · rw [if_pos c0, if_pos c1, if_pos c2, if_pos c3, if_pos (ht.2 ⟨c0, c1, c2, c3⟩)]
        · rw [if_pos c0, if_pos c1, if_pos c2, if_neg c3, if_neg (fun e => c3 (ht.1 e).2.2.2)]
      · rw [if_pos c0, if_pos c1, if_neg c2, if_neg (fun e => c2 (ht.1 e).2.2.1)]
    · rw [if_pos c0, if_neg c1, if_neg (fun e => c1 (ht.1 e).2.1)]
  · rw [if_neg c0, if_neg (fun e => c0 (ht.1 e).1)]
def fEnd (b r : List Int) (v : Nat) (R : DRes) : FRes := if R.2.2 = 0 then (R.1, R.2.1, ((b.length - r.length + v + 4 : Nat) : Int), 0) else ([], [], 0, R.2.2)
theorem first_tail (b r : List Int) (v : Nat) (hb : By b) (hl : b.length ≤ 100000) (e : b = countS v ++ r) (hv : v ≤ 4096) (hr : v + 4 ≤ r.length) (R : DRes) (hR : (∃ K, ∀ k, K ≤ k → frame_Decode.f k (r.take v) = some (R))) :
    (∃ K, ∀ k, K ≤ k → frame_First.j0 k b (v : Int) r false = some ((if (r.drop v).take 4 = fourS (sumS (r.take v)) then fEnd b r v R else (([] : List Int), ([] : List ByteArray), 0, 3)))) := by
  have hbr : By r := by rw [e] at hb; exact hb.right
  have hlen : b.length = (countS v).length + r.length := by rw [e]; simp
  have hcl := countS_len10 (u := v) (by omega)
  obtain ⟨K1, h1⟩ := sum_ev (r.take v) (by rw [List.length_take]; omega) (fun x hx => hbr.take v x hx)
  obtain ⟨K2, h2⟩ := hR
  refine ⟨K1 + K2 + 7, fun k hk => ?_⟩
  obtain ⟨k, rfl⟩ : ∃ m, k = m + 6 := ⟨k - 6, by omega⟩
  rw [frame_First.j0, if_neg (by simp), if_pos (by omega), if_pos (by omega), Int.toNat_natCast, h1 _ (by omega), Option.bind_some]
  show frame_First.l0 ((k + 1) + 4) b (v : Int) r (r.take v) (sumS (r.take v)) 0 = _
  rw [first_sum b r _ v _ hv hr (sumS_range _)]
  by_cases h4 : (r.drop v).take 4 = fourS (sumS (r.take v))
  · rw [if_pos h4, if_pos h4, frame_First.l0, if_neg (by omega), h2 _ (by omega), Option.bind_some]
    unfold fEnd
    by_cases h0 : R.2.2 = 0
    · rw [if_pos h0, if_pos h0]
      congr 4
      rw [w64 (x := (b.length : Int) - (r.length : Int)) (by omega) (by omega), w64 (x := (v : Int)) (by omega) (by omega), w64 (x := (b.length : Int) - (r.length : Int) + (v : Int)) (by omega) (by omega), w64 (by omega) (by omega)]
      omega
    · rw [if_neg h0, if_neg h0]
  · rw [if_neg h4, if_neg h4]
theorem ref_tail (b r : List Int) (v : Nat) (hb : By b) (hl : b.length ≤ 100000) (e : b = countS v ++ r) (hv : v ≤ 4096) (hr : v + 4 ≤ r.length) (R : DRes) (hR : (∃ K, ∀ k, K ≤ k → windroseref02_Decode.f k (r.take v) = some (R))) :
    (∃ K, ∀ k, K ≤ k → windroseref02_First.j0 k b (v : Int) ((countS v).length : Int) false = some ((if (r.drop v).take 4 = fourS (sumS (r.take v)) then fEnd b r v R else (([] : List Int), ([] : List ByteArray), 0, 3)))) := by
  have hbr : By r := by rw [e] at hb; exact hb.right
  have hlen : b.length = (countS v).length + r.length := by rw [e]; simp
  have hcl := countS_len10 (u := v) (by omega)
  have hsr := sumS_range (r.take v)
  obtain ⟨K1, h1⟩ := refsum_ev (r.take v) (by rw [List.length_take]; omega) (fun x hx => hbr.take v x hx)
  obtain ⟨K2, h2⟩ := hR
  have w1 : wrap64 (v : Int) = (v : Int) := w64 (by omega) (by omega)
  have w2 : Aside0 (wrap64 (((countS v).length : Int) + (v : Int)) = (((countS v).length + v : Nat) : Int)) := ⟨by rw [w64] <;> omega⟩
  have w3 : Aside0 (wrap64 ((((countS v).length + v : Nat) : Int) + 4) = (((countS v).length + v + 4 : Nat) : Int)) := ⟨by rw [w64] <;> omega⟩
  have c1 : (b.take ((countS v).length + v)).drop (countS v).length = r.take v := by rw [e, List.take_append, List.drop_append]; simp
  have c2 : (b.take ((countS v).length + v + 4)).drop ((countS v).length + v) = (r.drop v).take 4 := by
    rw [List.drop_take, e, List.drop_append, List.drop_of_length_le (by omega)]
    simp only [List.nil_append]
    congr 2 <;> omega
  have hf : windroseref02_four.f (sumS (r.take v)) = some (fourS (sumS (r.take v))) := by
    unfold windroseref02_four.f fourS
    rw [tdiv_nn hsr.1, tdiv_nn hsr.1, tdiv_nn hsr.1]
    congr 2 <;> first | omega | (congr 1 <;> first | omega | (congr 1 <;> omega))
  refine ⟨K1 + K2 + 1, fun k hk => ?_⟩
  obtain ⟨k, rfl⟩ : ∃ m, k = m + 1 := ⟨k - 1, by omega⟩
  rw [windroseref02_First.j0, if_neg (by simp), if_pos (by omega), w1, w2.out, if_pos (by omega), if_pos (by omega), Int.toNat_natCast, Int.toNat_natCast, c1, h1 _ (by omega), Option.bind_some, hf, Option.bind_some, if_pos (by omega), w3.out, if_pos (by omega), if_pos (by omega), Int.toNat_natCast, c2]
  by_cases h4 : (r.drop v).take 4 = fourS (sumS (r.take v))
  · rw [if_pos ((str_eq (by_fourS _) ((hbr.drop v).take 4)).2 h4.symm), if_pos h4, h2 _ (by omega), Option.bind_some]
    unfold fEnd
    by_cases h0 : R.2.2 = 0
    · rw [if_pos h0, if_pos h0]
      congr 4
      omega
    · rw [if_neg h0, if_neg h0]
  · rw [if_neg (fun h => h4 ((str_eq (by_fourS _) ((hbr.drop v).take 4)).1 h).symm), if_neg h4]
theorem both_first (b : List Int) (hb : By b) (hl : b.length ≤ 100000) : ∃ R : FRes, (∃ K, ∀ k, K ≤ k → frame_First.f k b = some (R)) ∧ (∃ K, ∀ k, K ≤ k → windroseref02_First.f k b = some (R)) ∧
    ((∃ ns ts tail, Held ns ts ∧ (enc ns ts).length ≤ 4096 ∧ b = frm ns ts ++ tail ∧ R = (ns, ts, ((frm ns ts).length : Int), 0)) ∨
     (∃ e : Int, e ≠ 0 ∧ R = ([], [], 0, e) ∧ ∀ ns ts tail, Held ns ts → (enc ns ts).length ≤ 4096 → b ≠ frm ns ts ++ tail)) := by
  obtain ⟨u, r, ok, ⟨K, hK⟩, ht, hf, hr⟩ := take_ev b hb hl
  obtain ⟨u', m, ⟨K', hK'⟩, hu', hm, hm10⟩ := Lead_ev b hb hl
  have fJ : ∀ k (u : Int) r, frame_First.j0 (k + 1) b u r true = some (([] : List Int), ([] : List ByteArray), 0, 2) := fun k u r => by rw [frame_First.j0, if_pos rfl]
  have rJ : ∀ k (u m : Int), windroseref02_First.j0 (k + 1) b u m true = some (([] : List Int), ([] : List ByteArray), 0, 2) := fun k u m => by rw [windroseref02_First.j0, if_pos rfl]
  cases ok with
  | false =>
    refine ⟨([], [], 0, 2), ⟨K + 1, fun k hk => ?_⟩, ?_, .inr ⟨2, by decide, rfl, fun ns ts tail hh hle e => hf rfl (enc ns ts).length _ (by omega) (by rw [e, frm_assoc])⟩⟩
    · obtain ⟨k, rfl⟩ : ∃ m, k = m + 1 := ⟨k - 1, by omega⟩
      unfold frame_First.f
      rw [hK _ (by omega), Option.bind_some, if_neg (by simp), fJ]
    · obtain ⟨K2, h2⟩ := refcount (u := u') hu'
      refine ⟨K' + K2 + 1, fun k hk => ?_⟩
      obtain ⟨k, rfl⟩ : ∃ m, k = m + 1 := ⟨k - 1, by omega⟩
      unfold windroseref02_First.f
      rw [hK' _ (by omega), Option.bind_some]
      simp only []
      by_cases c0 : (m : Int) = 0
      · rw [if_pos c0, rJ]
      · rw [if_neg c0]
        by_cases c1 : (u' : Int) > 4096
        · rw [if_pos c1, rJ]
        · have hne : ¬ (strOfNums (countS u')).toList = (strOfNums (b.take m)).toList := by
            intro h
            have h3 := (str_eq (by_countS hu') (hb.take m)).1 h
            exact hf rfl u' (b.drop m) hu' (by rw [h3, List.take_append_drop])
          rw [if_neg c1, h2 _ (by omega), Option.bind_some, if_pos (by omega), if_pos (by omega), Int.toNat_natCast, if_neg hne, rJ]
  | true =>
    obtain ⟨v, rfl, hv, e⟩ := ht rfl
    obtain ⟨K2, h2⟩ := Lead_count v hv r (by rw [← e]; exact hl)
    rw [← e] at h2
    obtain ⟨K3, h3⟩ := refcount (u := v) hv
    have hcl := countS_len10 hv
    have hcp := countS_pos v
    have hbr : By r := by rw [e] at hb; exact hb.right
    have hlen : b.length = (countS v).length + r.length := by rw [e]; simp
    have hst : (strOfNums (countS v)).toList = (strOfNums (b.take (countS v).length)).toList := by
      rw [e, List.take_left]
    have fst : ∀ ns ts tail, Held ns ts → (enc ns ts).length ≤ 4096 → b = frm ns ts ++ tail → v = (enc ns ts).length ∧ r = enc ns ts ++ (fourS (sumS (enc ns ts)) ++ tail) := by
      intro ns ts tail hh hle e'
      rw [e, frm_assoc] at e'
      exact countS_prefix hv (by omega) e'
    by_cases c1 : v ≤ 4096
    · by_cases c2 : v + 4 ≤ r.length
      · have hx : By (r.take v) := hbr.take v
        have hxl : (r.take v).length ≤ 4096 := by rw [List.length_take]; omega
        obtain ⟨R, h4, h5, hR⟩ := both_dec (r.take v) hx hxl
        obtain ⟨K4, h4⟩ := first_tail b r v hb hl e c1 c2 R h4
        obtain ⟨K5, h5⟩ := ref_tail b r v hb hl e c1 c2 R h5
        refine ⟨(if (r.drop v).take 4 = fourS (sumS (r.take v)) then fEnd b r v R else (([] : List Int), ([] : List ByteArray), 0, 3)), ⟨K + K4, fun k hk => ?_⟩, ⟨K2 + K3 + K5, fun k hk => ?_⟩, ?_⟩
        · unfold frame_First.f
          rw [hK _ (by omega), Option.bind_some, if_pos rfl, if_neg (by simp only; omega)]
          simp only []
          rw [w64 (x := (v : Int)) (by omega) (by omega), w64 (x := (v : Int) + 4) (by omega) (by omega), decide_eq_false (by omega)]
          exact h4 k (by omega)
        · unfold windroseref02_First.f
          rw [h2 _ (by omega), Option.bind_some]
          simp only []
          rw [if_neg (by omega), if_neg (by omega), h3 _ (by omega), Option.bind_some, if_pos (by omega), if_pos (by omega), Int.toNat_natCast, if_pos hst,
            w64 (x := (b.length : Int) - ((countS v).length : Int)) (by omega) (by omega), w64 (x := (b.length : Int) - ((countS v).length : Int) - 4) (by omega) (by omega), w64 (x := (v : Int)) (by omega) (by omega), decide_eq_false (by omega)]
          exact h5 k (by omega)
        · by_cases h6 : (r.drop v).take 4 = fourS (sumS (r.take v))
          · rw [if_pos h6]
            rcases hR with ⟨ns, ts, hh, e', rfl⟩ | ⟨rfl, hno⟩
            · have hvl : (enc ns ts).length = v := by rw [← e', List.length_take]; omega
              refine .inl ⟨ns, ts, r.drop (v + 4), hh, by omega, ?_, ?_⟩
              · rw [frm_assoc, ← e', ← h6, ← List.drop_drop, List.take_append_drop, List.take_append_drop, List.length_take, Nat.min_eq_left (by omega)]
                exact e
              · unfold fEnd
                rw [if_pos rfl, frm_length, hvl]
                congr 4
                omega
            · refine .inr ⟨2, by decide, rfl, fun ns ts tail hh hle e' => ?_⟩
              obtain ⟨g1, g2⟩ := fst ns ts tail hh hle e'
              exact hno ns ts hh (by rw [g2, g1, List.take_left])
          · rw [if_neg h6]
            refine .inr ⟨3, by decide, rfl, fun ns ts tail hh hle e' => ?_⟩
            obtain ⟨g1, g2⟩ := fst ns ts tail hh hle e'
            refine h6 ?_
            rw [g2, g1, List.take_left, List.drop_left]
            rfl
      · refine ⟨([], [], 0, 2), ⟨K + 1, fun k hk => ?_⟩, ⟨K2 + K3 + 1, fun k hk => ?_⟩, .inr ⟨2, by decide, rfl, fun ns ts tail hh hle e' => ?_⟩⟩
        · obtain ⟨k, rfl⟩ : ∃ m, k = m + 1 := ⟨k - 1, by omega⟩
          unfold frame_First.f
          rw [hK _ (by omega), Option.bind_some, if_pos rfl, if_neg (by simp only; omega)]
          simp only []
          rw [w64 (x := (v : Int)) (by omega) (by omega), w64 (x := (v : Int) + 4) (by omega) (by omega), decide_eq_true (by omega), fJ]
        · obtain ⟨k, rfl⟩ : ∃ m, k = m + 1 := ⟨k - 1, by omega⟩
          unfold windroseref02_First.f
          rw [h2 _ (by omega), Option.bind_some]
          simp only []
          rw [if_neg (by omega), if_neg (by omega), h3 _ (by omega), Option.bind_some, if_pos (by omega), if_pos (by omega), Int.toNat_natCast, if_pos hst,
            w64 (x := (b.length : Int) - ((countS v).length : Int)) (by omega) (by omega), w64 (x := (b.length : Int) - ((countS v).length : Int) - 4) (by omega) (by omega), w64 (x := (v : Int)) (by omega) (by omega), decide_eq_true (by omega), rJ]
        · obtain ⟨g1, g2⟩ := fst ns ts tail hh hle e'
          have := congrArg List.length g2
          simp only [List.length_append, fourS, List.length_cons, List.length_nil] at this
          omega
    · refine ⟨([], [], 0, 2), ⟨K + 1, fun k hk => ?_⟩, ⟨K2 + 1, fun k hk => ?_⟩, .inr ⟨2, by decide, rfl, fun ns ts tail hh hle e' => ?_⟩⟩
      · obtain ⟨k, rfl⟩ : ∃ m, k = m + 1 := ⟨k - 1, by omega⟩
        unfold frame_First.f
        rw [hK _ (by omega), Option.bind_some, if_pos rfl, if_pos (by simp only; omega), fJ]
      · obtain ⟨k, rfl⟩ : ∃ m, k = m + 1 := ⟨k - 1, by omega⟩
        unfold windroseref02_First.f
        rw [h2 _ (by omega), Option.bind_some]
        simp only []
        rw [if_neg (by omega), if_pos (by omega), rJ]
      · obtain ⟨g1, g2⟩ := fst ns ts tail hh hle e'
        omega
end Go.Proofs.Ytfmdllbkfpbdcaa.Q
end
section
namespace Go.Proofs.Ytfmdllbkfpbdcaa.Q
open Go Go.RowKit Go.Proofs.Ytfmdllbkfpbdcaa.G Go.Proofs.YtfmdllbkfpbdcaaW.PrintWords Go.Proofs.YtfmdllbkfpbdcaaW.PrintLast Go.Proofs.YtfmdllbkfpbdcaaW.PrintMore
theorem Frame_ev (ns : List Int) (ts : List ByteArray) (hh : Held ns ts) : (∃ K, ∀ k, K ≤ k → frame_Frame.f k ns ts = some ((if (enc ns ts).length ≤ 4096 then (frm ns ts, 0) else ([], 4)))) := by
  obtain ⟨K1, h1⟩ := Encode_ev ns ts hh
  by_cases hl : (enc ns ts).length ≤ 4096
  · obtain ⟨K2, h2⟩ := sum_ev (enc ns ts) (by omega) (by_enc hh)
    obtain ⟨K3, h3⟩ := Count_ev (enc ns ts).length (by omega)
    have hc := countS_len10 (u := (enc ns ts).length) (by omega)
    refine ⟨K1 + K2 + K3, fun k hk => ?_⟩
    unfold frame_Frame.f
    rw [h1 _ (by omega), Option.bind_some]
    simp only [encR, if_pos hl]
    rw [if_pos trivial, h2 _ (by omega), Option.bind_some, h3 _ (by omega), Option.bind_some, if_pos (by omega), Option.bind_some, Option.bind_some, if_pos (by simp only [List.length_append, List.length_cons, List.length_nil]; omega)]
    rfl
  · refine ⟨K1, fun k hk => ?_⟩
    unfold frame_Frame.f
    rw [h1 _ (by omega), Option.bind_some]
    simp only [encR, if_neg hl]
    rw [if_neg (by decide)]
end Go.Proofs.Ytfmdllbkfpbdcaa.Q
end
section
namespace Go.Proofs.Ytfmdllbkfpbdcaa.Q
open Go Go.RowKit Go.Proofs.Ytfmdllbkfpbdcaa.G Go.Proofs.YtfmdllbkfpbdcaaW.PrintWords Go.Proofs.YtfmdllbkfpbdcaaW.PrintLast Go.Proofs.YtfmdllbkfpbdcaaW.PrintMore
abbrev Dat := S48
def Fits (d : Dat) : Prop := Held d.f0 d.f1 ∧ (enc d.f0 d.f1).length ≤ 4096
def NoFrame (b : List Int) : Prop := ∀ ns ts tail, Held ns ts → (enc ns ts).length ≤ 4096 → b ≠ frm ns ts ++ tail
inductive Rows : List Int → List Dat → Nat → Prop
  | stop (b : List Int) : NoFrame b → Rows b [] 0
  | more (d : Dat) (tail : List Int) (l : List Dat) (n : Nat) : Fits d → Rows tail l n → Rows (frm d.f0 d.f1 ++ tail) (d :: l) ((frm d.f0 d.f1).length + n)
theorem frm_pos (ns : List Int) (ts : List ByteArray) : 5 ≤ (frm ns ts).length := by rw [frm_length]; have := countS_pos (enc ns ts).length; omega
theorem frm_inj {a a' : List Int} {t t' : List ByteArray} {x y : List Int} (h : Held a t) (hl : (enc a t).length ≤ 4096) (h' : Held a' t') (hl' : (enc a' t').length ≤ 4096) (e : frm a t ++ x = frm a' t' ++ y) : a = a' ∧ t = t' ∧ x = y := by
  rw [frm_assoc, frm_assoc] at e
  obtain ⟨h1, h2⟩ := countS_prefix (by omega) (by omega) e
  obtain ⟨h3, h4⟩ := List.append_inj h2 h1
  obtain ⟨h5, h6⟩ := enc_inj h h' h3
  obtain ⟨_, h7⟩ := List.append_inj h4 (by simp [fourS])
  exact ⟨h5, h6, h7⟩
theorem Rows.func {b : List Int} {l : List Dat} {n : Nat} (h : Rows b l n) : ∀ {l' : List Dat} {n' : Nat}, Rows b l' n' → l = l' ∧ n = n' := by
  induction h with
  | stop b hb =>
    intro l' n' h'
    cases h' with
    | stop _ _ => exact ⟨rfl, rfl⟩
    | more d tail l n hd hr => exact absurd rfl (hb d.f0 d.f1 tail hd.1 hd.2)
  | more d tail l n hd hr ih =>
    intro l' n' h'
    generalize hb : frm d.f0 d.f1 ++ tail = b at h'
    cases h' with
    | stop _ hb' => exact absurd hb.symm (hb' d.f0 d.f1 tail hd.1 hd.2)
    | more d' tail' l' n' hd' hr' =>
      obtain ⟨h1, h2, h3⟩ := frm_inj hd.1 hd.2 hd'.1 hd'.2 hb
      subst h3
      obtain ⟨rfl, rfl⟩ := ih hr'
      obtain ⟨d0, d1⟩ := d
      obtain ⟨e0, e1⟩ := d'
      simp only at h1 h2
      subst h1 h2
      exact ⟨rfl, rfl⟩
end Go.Proofs.Ytfmdllbkfpbdcaa.Q
end
section
namespace Go.Proofs.YtfmdllbkfpbdcaaX
open Go Go.RowKit Go.Proofs.YtfmdllbkfpbdcaaW.PrintWords Go.Proofs.YtfmdllbkfpbdcaaW.PrintLast Go.Proofs.YtfmdllbkfpbdcaaW.PrintMore
theorem ap_ : type_of% @Act.put.eq_1 := @Act.put.eq_1
theorem sb_ : type_of% @List.setIfInBounds_toArray := @List.setIfInBounds_toArray
theorem s0_ : type_of% @List.set_cons_zero := @List.set_cons_zero
theorem s1_ : type_of% @List.set_cons_succ := @List.set_cons_succ
end Go.Proofs.YtfmdllbkfpbdcaaX
end
section
namespace Go.Proofs.YtfmdllbkfpbdcaaX
open Go Go.Proofs.YtfmdllbkfpbdcaaW.PrintLast Go.Proofs.YtfmdllbkfpbdcaaW.PrintWords
def up (o : List Nat) (n k : Nat) : Array Bool := ((o.take k).foldl (fun l i => l.set i true) (List.replicate n false)).toArray
section
variable {P : Program} {md : Region.Mode} {ops : Array Oper} {Q : Exit → Act → World → Prop} {S : World → Prop} {ds : List Nat} {T : Bool × List (List Nat × List Nat)} {B : List Nat}
theorem pq_ {o : List Nat} {n k : Nat} {N : Option Tmp} {oi : Oper} {v : Value} {fuel : Nat} {a : Act} {w : World} (hi : ops[o.getD k 0]? = some oi) (hN : oi.dst = N) (hT : rtab md ops = T) (hc : anyT T (up o n k).toList (up o n (k + 1)).toList (o.getD k 0) = true)
    (hQ : ∀ c a w, Q (.panic c) (a.put oi.dst v) w → Q (.panic c) a w) (hy : Yields P ops oi v a) {a' : Act} (ha : a.put N v = a')
    (h : wpAnyLast P md ops Q S ds fuel (up o n (k + 1)) a' w) : wpAnyLast P md ops Q S ds (fuel + 1) (up o n k) a w := pure_ _ hi hN (any_of hT hc) hQ hy ha h
theorem tq_ {o : List Nat} {n k : Nat} {N : Option Tmp} {oi : Oper} {v : Value} {fuel : Nat} {a : Act} {w : World} (hi : ops[o.getD k 0]? = some oi) (hN : oi.dst = N) (hT : rtab md ops = T) (hB : waitsOk T.2 B = true) (hc : takeW T B ds (up o n k).toList (up o n (k + 1)).toList (o.getD k 0) = true)
    (hQ : ∀ c a w, Q (.panic c) (a.put oi.dst v) w → Q (.panic c) a w) (hy : YieldsIf P ops S oi v a) (hS : S w) {a' : Act} (ha : a.put N v = a')
    (h : wpAnyLast P md ops Q S ds fuel (up o n (k + 1)) a' w) : wpAnyLast P md ops Q S ds (fuel + 1) (up o n k) a w := take_ _ hi hN (take_ofW hT hB hc) hQ hy hS ha h
theorem oq_ {o : List Nat} {n k : Nat} {N : Option Tmp} {oi : Oper} {fuel : Nat} {a : Act} {w : World} (hi : ops[o.getD k 0]? = some oi) (hN : oi.dst = N) (hT : rtab md ops = T) (hc : (readyT T.2 (up o n k).toList == [o.getD k 0] && (up o n k).toList.set (o.getD k 0) true == (up o n (k + 1)).toList) = true) (hd : o.getD k 0 ∉ ds)
    (h : ∀ K : Act → World → Prop, Shut (∀ a' w', S w' → (S w' → wpAnyLast P md ops Q S ds fuel (up o n (k + 1)) a' w') → K a' w') → if Region.wanted oi (yielded ops a.tmps) = true then Oper.wp P oi a w K Q else K (a.put N undef) w) :
    wpAnyLast P md ops Q S ds (fuel + 1) (up o n k) a w := one_ _ hi hN (one_of hT hc) hd h
theorem lq_ {o : List Nat} {n k : Nat} {N : Option Tmp} {oi : Oper} {fuel : Nat} {a : Act} {w : World} (hi : ops[o.getD k 0]? = some oi) (hN : oi.dst = N) (hT : rtab md ops = T) (hc : (readyT T.2 (up o n k).toList == [o.getD k 0] && (up o n k).toList.set (o.getD k 0) true == (up o n (k + 1)).toList) = true) (hd : o.getD k 0 ∈ ds)
    (h : ∀ K : Act → World → Prop, Shut (∀ a' w', wpAnyLast P md ops Q S ds fuel (up o n (k + 1)) a' w' → K a' w') → if Region.wanted oi (yielded ops a.tmps) = true then Oper.wp P oi a w K Q else K (a.put N undef) w) :
    wpAnyLast P md ops Q S ds (fuel + 1) (up o n k) a w := last_ _ hi hN (one_of hT hc) hd h
end
end Go.Proofs.YtfmdllbkfpbdcaaX
end
