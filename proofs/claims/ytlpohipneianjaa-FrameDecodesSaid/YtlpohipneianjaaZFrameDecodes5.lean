/- Ytlpohipneianjaa: lines of the words and functions that the row FrameDecodes rests on, and the row. No condition. -/
import Derived.Test.YtlpohipneianjaaZFrameDecodes4
section
set_option linter.unusedVariables false
namespace Go.Proofs.Ytlpohipneianjaa.Q
open Go Go.RowKit Go.Proofs.Ytlpohipneianjaa.G Go.Proofs.YtlpohipneianjaaW.PrintWords Go.Proofs.YtlpohipneianjaaW.PrintLast Go.Proofs.YtlpohipneianjaaW.PrintMore
theorem dec_texts (n : Nat) : ∀ (rest : List Int) (m : Nat) (nums : List Int) (acc : List ByteArray), rest.length ≤ n → By rest → rest.length ≤ 100000 → acc.length + rest.length ≤ 100000 → m < 18446744073709551616 →
    ∃ R : DRes, (∃ K, ∀ k, K ≤ k → frame_Decode.l1 k rest (m : Int) true nums acc = some (R)) ∧ ((∃ ts : List ByteArray, ts.length = m ∧ rest = encT ts ∧ R = (nums, acc ++ ts, 0)) ∨ (R = bad ∧ ∀ ts : List ByteArray, ts.length = m → (∀ s ∈ ts, s.size ≤ 9223372036854775807) → rest ≠ encT ts)) := by
  induction n with
  | zero =>
    intro rest m nums acc hl hb h1 h2 hm
    obtain rfl : rest = [] := List.eq_nil_of_length_eq_zero (by omega)
    cases m with
    | zero =>
      refine ⟨(nums, acc, 0), ⟨2, fun k hk => ?_⟩, .inl ⟨[], rfl, rfl, by simp⟩⟩
      obtain ⟨k, rfl⟩ : ∃ m, k = m + 2 := ⟨k - 2, by omega⟩
      rw [frame_Decode.l1, if_pos rfl, decide_eq_false (by omega), frame_Decode.j4, if_neg (by simp), if_pos rfl, if_neg (by simp)]
    | succ m =>
      obtain ⟨u, r, ok, ⟨K, hK⟩, ht, hf, hr⟩ := take_ev [] hb h1
      cases ok with
      | true =>
        obtain ⟨v, _, _, e⟩ := ht rfl
        have := countS_pos v
        have := congrArg List.length e
        simp at this
        omega
      | false =>
        refine ⟨bad, ⟨K + 5, fun k hk => ?_⟩, .inr ⟨rfl, fun ts hts hsz e => ?_⟩⟩
        · obtain ⟨k, rfl⟩ : ∃ m, k = m + 4 := ⟨k - 4, by omega⟩
          rw [frame_Decode.l1, if_pos rfl, decide_eq_true (by omega), frame_Decode.j4, if_pos rfl, hK _ (by omega), Option.bind_some, if_neg (by simp)]
          exact dec_off1 _ _ _ _ _
        · cases ts with
          | nil => simp at hts
          | cons s ts =>
            rw [encT_cons, List.append_assoc] at e
            exact hf rfl s.size _ (by have := hsz s (by simp); omega) e
  | succ n ih =>
    intro rest m nums acc hl hb h1 h2 hm
    cases m with
    | zero =>
      by_cases h0 : rest = []
      · subst h0
        refine ⟨(nums, acc, 0), ⟨2, fun k hk => ?_⟩, .inl ⟨[], rfl, rfl, by simp⟩⟩
        obtain ⟨k, rfl⟩ : ∃ m, k = m + 2 := ⟨k - 2, by omega⟩
        rw [frame_Decode.l1, if_pos rfl, decide_eq_false (by omega), frame_Decode.j4, if_neg (by simp), if_pos rfl, if_neg (by simp)]
      · have hpos : 0 < rest.length := List.length_pos_iff.2 h0
        refine ⟨bad, ⟨2, fun k hk => ?_⟩, .inr ⟨rfl, fun ts hts _ e => ?_⟩⟩
        · obtain ⟨k, rfl⟩ : ∃ m, k = m + 2 := ⟨k - 2, by omega⟩
          rw [frame_Decode.l1, if_pos rfl, decide_eq_false (by omega), frame_Decode.j4, if_neg (by simp), if_pos rfl, if_pos (by omega)]
          rfl
        · obtain rfl : ts = [] := List.eq_nil_of_length_eq_zero hts
          exact h0 e
    | succ m =>
      obtain ⟨u, r, ok, ⟨K, hK⟩, ht, hf, hr⟩ := take_ev rest hb h1
      have e1 : IntKind.u64.wrap (((m + 1 : Nat) : Int) - 1) = (m : Int) := by rw [IntKind.wrap_u64]; omega
      cases ok with
      | false =>
        refine ⟨bad, ⟨K + 5, fun k hk => ?_⟩, .inr ⟨rfl, fun ts hts hsz e => ?_⟩⟩
        · obtain ⟨k, rfl⟩ : ∃ m, k = m + 4 := ⟨k - 4, by omega⟩
          rw [frame_Decode.l1, if_pos rfl, decide_eq_true (by omega), frame_Decode.j4, if_pos rfl, hK _ (by omega), Option.bind_some, if_neg (by simp)]
          exact dec_off1 _ _ _ _ _
        · cases ts with
          | nil => simp at hts
          | cons s ts =>
            rw [encT_cons, List.append_assoc] at e
            exact hf rfl s.size _ (by have := hsz s (by simp); omega) e
      | true =>
        obtain ⟨v, rfl, hv, e⟩ := ht rfl
        have hbr : By r := by rw [e] at hb; exact hb.right
        have hcp := countS_pos v
        have hlen : rest.length = (countS v).length + r.length := by rw [e]; simp
        have ew : IntKind.u64.wrap (r.length : Int) = (r.length : Int) := by rw [IntKind.wrap_u64]; omega
        by_cases hvl : v ≤ r.length
        · have hdl : (r.drop v).length = r.length - v := List.length_drop
          obtain ⟨R, ⟨K2, hK2⟩, hR⟩ := ih (r.drop v) m nums (acc ++ [strOfNums (r.take v)]) (by omega) (hbr.drop v) (by omega) (by simp only [List.length_append, List.length_cons, List.length_nil]; omega) (by omega)
          have hs : (strOfNums (r.take v)).size = v := by rw [strOfNums_size, List.length_take]; omega
          have hbs : bytesOf (strOfNums (r.take v)) = r.take v := bytes_strOf _ (hbr.take v)
          refine ⟨R, ⟨K + K2 + 2, fun k hk => ?_⟩, ?_⟩
          · obtain ⟨k, rfl⟩ : ∃ m, k = m + 2 := ⟨k - 2, by omega⟩
            rw [frame_Decode.l1, if_pos rfl, decide_eq_true (by omega), frame_Decode.j4, if_pos rfl, hK _ (by omega), Option.bind_some]
            simp only [if_true]
            rw [ew, if_pos (by omega), if_pos (by omega), if_pos (by omega), if_pos (by omega), e1, Int.toNat_natCast]
            exact hK2 k (by omega)
          · rcases hR with ⟨ts, h3, h4, h5⟩ | ⟨h3, h4⟩
            · refine .inl ⟨strOfNums (r.take v) :: ts, by simp [h3], ?_, by rw [h5]; simp⟩
              rw [encT_cons, hs, hbs, ← h4, e, List.append_assoc, List.take_append_drop]
            · refine .inr ⟨h3, fun ts hts hsz e' => ?_⟩
              cases ts with
              | nil => simp at hts
              | cons s ts =>
                rw [encT_cons, List.append_assoc, e] at e'
                obtain ⟨h6, h7⟩ := countS_prefix hv (by have := hsz s (by simp); omega) e'
                refine h4 ts (by simpa using hts) (fun s' hs' => hsz s' (by simp [hs'])) ?_
                rw [h7, h6, List.drop_append, bytesOf_length, List.drop_of_length_le (by rw [bytesOf_length]; omega)]
                simp
        · refine ⟨bad, ⟨K + 5, fun k hk => ?_⟩, .inr ⟨rfl, fun ts hts hsz e' => ?_⟩⟩
          · obtain ⟨k, rfl⟩ : ∃ m, k = m + 4 := ⟨k - 4, by omega⟩
            rw [frame_Decode.l1, if_pos rfl, decide_eq_true (by omega), frame_Decode.j4, if_pos rfl, hK _ (by omega), Option.bind_some]
            simp only [if_true]
            rw [ew, if_neg (by omega)]
            exact dec_off1 _ _ _ _ _
          · cases ts with
            | nil => simp at hts
            | cons s ts =>
              rw [encT_cons, List.append_assoc, e] at e'
              obtain ⟨h6, h7⟩ := countS_prefix hv (by have := hsz s (by simp); omega) e'
              rw [h7, List.length_append, bytesOf_length] at hvl
              omega
theorem dec_nums (n : Nat) : ∀ (rest : List Int) (m : Nat) (acc : List Int), rest.length ≤ n → By rest → rest.length ≤ 100000 → acc.length + rest.length ≤ 100000 → m < 18446744073709551616 →
    ∃ R : DRes, (∃ K, ∀ k, K ≤ k → frame_Decode.l0 k rest (m : Int) true acc = some (R)) ∧ ((∃ (ns : List Int) (ts : List ByteArray), ns.length = m ∧ (∀ x ∈ ns, I64 x) ∧ rest = encN ns ++ countS ts.length ++ encT ts ∧ R = (acc ++ ns, ts, 0)) ∨
      (R = bad ∧ ∀ (ns : List Int) (ts : List ByteArray), ns.length = m → Held ns ts → rest ≠ encN ns ++ countS ts.length ++ encT ts)) := by
  induction n using Nat.strongRecOn with
  | _ n ih =>
  intro rest m acc hl hb h1 h2 hm
  obtain ⟨u, r, ok, ⟨K, hK⟩, ht, hf, hr⟩ := take_ev rest hb h1
  cases m with
  | zero =>
    cases ok with
    | false =>
      refine ⟨bad, ⟨K + 6, fun k hk => ?_⟩, .inr ⟨rfl, fun ns ts hns hh e => ?_⟩⟩
      · obtain ⟨k, rfl⟩ : ∃ m, k = m + 5 := ⟨k - 5, by omega⟩
        rw [frame_Decode.l0, if_pos rfl, decide_eq_false (by omega), frame_Decode.j1, if_neg (by simp), if_pos rfl, hK _ (by omega), Option.bind_some, frame_Decode.j2]
        exact dec_off1 _ _ _ _ _
      · obtain rfl : ns = [] := List.eq_nil_of_length_eq_zero hns
        have := hh.2.2.1
        exact hf rfl ts.length _ (by omega) (by simpa [encN] using e)
    | true =>
      obtain ⟨v, rfl, hv, e⟩ := ht rfl
      have hbr : By r := by rw [e] at hb; exact hb.right
      have hlen : rest.length = (countS v).length + r.length := by rw [e]; simp
      obtain ⟨R, ⟨K2, hK2⟩, hR⟩ := dec_texts r.length r v acc [] (Nat.le_refl _) hbr (by omega) (by simp; omega) hv
      refine ⟨R, ⟨K + K2 + 3, fun k hk => ?_⟩, ?_⟩
      · obtain ⟨k, rfl⟩ : ∃ m, k = m + 3 := ⟨k - 3, by omega⟩
        rw [frame_Decode.l0, if_pos rfl, decide_eq_false (by omega), frame_Decode.j1, if_neg (by simp), if_pos rfl, hK _ (by omega), Option.bind_some, frame_Decode.j2]
        exact hK2 k (by omega)
      · rcases hR with ⟨ts, h3, h4, h5⟩ | ⟨h3, h4⟩
        · exact .inl ⟨[], ts, rfl, fun x hx => by simp at hx, by rw [h3, ← h4]; simpa [encN] using e, by rw [h5]; simp⟩
        · refine .inr ⟨h3, fun ns ts hns hh e' => ?_⟩
          obtain rfl : ns = [] := List.eq_nil_of_length_eq_zero hns
          have := hh.2.2.1
          rw [e] at e'
          obtain ⟨h6, h7⟩ := countS_prefix hv (by omega : ts.length < 18446744073709551616) (by simpa [encN] using e')
          exact h4 ts h6.symm hh.2.2.2 h7
  | succ m =>
    have e1 : IntKind.u64.wrap (((m + 1 : Nat) : Int) - 1) = (m : Int) := by rw [IntKind.wrap_u64]; omega
    cases ok with
    | false =>
      refine ⟨bad, ⟨K + 8, fun k hk => ?_⟩, .inr ⟨rfl, fun ns ts hns hh e => ?_⟩⟩
      · obtain ⟨k, rfl⟩ : ∃ m, k = m + 7 := ⟨k - 7, by omega⟩
        rw [frame_Decode.l0, if_pos rfl, decide_eq_true (by omega), frame_Decode.j1, if_pos rfl, hK _ (by omega), Option.bind_some, if_neg (by simp)]
        exact dec_off0 _ _ _ _
      · cases ns with
        | nil => simp at hns
        | cons x ns =>
          rw [encN_cons] at e
          exact hf rfl (zig x) _ (zig_lt (hh.2.1 x (by simp))) (by simpa using e)
    | true =>
      obtain ⟨v, rfl, hv, e⟩ := ht rfl
      have hbr : By r := by rw [e] at hb; exact hb.right
      have hcp := countS_pos v
      have hlen : rest.length = (countS v).length + r.length := by rw [e]; simp
      obtain ⟨R, ⟨K2, hK2⟩, hR⟩ := ih r.length (by omega) r m (acc ++ [unz v]) (Nat.le_refl _) hbr (by omega) (by simp only [List.length_append, List.length_cons, List.length_nil]; omega) (by omega)
      refine ⟨R, ⟨K + K2 + 2, fun k hk => ?_⟩, ?_⟩
      · obtain ⟨k, rfl⟩ : ∃ m, k = m + 2 := ⟨k - 2, by omega⟩
        rw [frame_Decode.l0, if_pos rfl, decide_eq_true (by omega), frame_Decode.j1, if_pos rfl, hK _ (by omega), Option.bind_some]
        simp only [if_true]
        rw [if_pos (by omega), unz_eq hv, e1]
        exact hK2 k (by omega)
      · rcases hR with ⟨ns, ts, h3, h3', h4, h5⟩ | ⟨h3, h4⟩
        · refine .inl ⟨unz v :: ns, ts, by simp [h3], fun x hx => ?_, ?_, by rw [h5]; simp⟩
          · rcases List.mem_cons.1 hx with rfl | hx
            · exact unz_i64 hv
            · exact h3' x hx
          · rw [encN_cons, zig_unz, e, h4]; simp
        · refine .inr ⟨h3, fun ns ts hns hh e' => ?_⟩
          cases ns with
          | nil => simp at hns
          | cons x ns =>
            rw [encN_cons, e] at e'
            obtain ⟨h6, h7⟩ := countS_prefix hv (zig_lt (hh.2.1 x (by simp))) (by simpa using e')
            refine h4 ns ts (by simpa using hns) ⟨by have := hh.1; simp at this; omega, fun y hy => hh.2.1 y (by simp [hy]), hh.2.2⟩ (by simpa using h7)
theorem encN_len (l : List Int) : l.length ≤ (encN l).length := by
  induction l with
  | nil => simp
  | cons n l ih => rw [encN_cons]; have := countS_pos (zig n); simp only [List.length_append, List.length_cons]; omega
theorem encT_len (l : List ByteArray) : l.length ≤ (encT l).length ∧ ∀ s ∈ l, s.size ≤ (encT l).length := by
  induction l with
  | nil => simp
  | cons s l ih =>
    rw [encT_cons]
    have := countS_pos s.size
    have hb := bytesOf_length s
    simp only [List.length_append, List.length_cons]
    refine ⟨by omega, fun x hx => ?_⟩
    rcases List.mem_cons.1 hx with rfl | hx
    · omega
    · have := ih.2 x hx; omega
theorem Decode_ev (b : List Int) (hb : By b) (hl : b.length ≤ 4096) : ∃ R : DRes, (∃ K, ∀ k, K ≤ k → frame_Decode.f k b = some (R)) ∧ ((∃ ns ts, Held ns ts ∧ b = enc ns ts ∧ R = (ns, ts, 0)) ∨ (R = bad ∧ ∀ ns ts, Held ns ts → b ≠ enc ns ts)) := by
  obtain ⟨u, r, ok, ⟨K, hK⟩, ht, hf, hr⟩ := take_ev b hb (by omega)
  cases ok with
  | false =>
    refine ⟨bad, ⟨K + 6, fun k hk => ?_⟩, .inr ⟨rfl, fun ns ts hh e => ?_⟩⟩
    · obtain ⟨k, rfl⟩ : ∃ m, k = m + 5 := ⟨k - 5, by omega⟩
      unfold frame_Decode.f
      rw [if_neg (by omega), hK _ (by omega), Option.bind_some]
      exact dec_off0 _ _ _ _
    · have := hh.1
      exact hf rfl ns.length (encN ns ++ (countS ts.length ++ encT ts)) (by omega) (by rw [e]; simp [enc])
  | true =>
    obtain ⟨v, rfl, hv, e⟩ := ht rfl
    have hbr : By r := by rw [e] at hb; exact hb.right
    have hlen : b.length = (countS v).length + r.length := by rw [e]; simp
    obtain ⟨R, ⟨K2, hK2⟩, hR⟩ := dec_nums r.length r v [] (Nat.le_refl _) hbr (by omega) (by simp; omega) hv
    refine ⟨R, ⟨K + K2, fun k hk => ?_⟩, ?_⟩
    · unfold frame_Decode.f
      rw [if_neg (by omega), hK _ (by omega), Option.bind_some]
      exact hK2 k (by omega)
    · rcases hR with ⟨ns, ts, h3, h3', h4, h5⟩ | ⟨h3, h4⟩
      · refine .inl ⟨ns, ts, ?_, ?_, by rw [h5]; simp⟩
        · have a := encN_len ns
          have t := encT_len ts
          have hle : r.length = (encN ns).length + (countS ts.length).length + (encT ts).length := by rw [h4]; simp; omega
          exact ⟨by omega, h3', by omega, fun s hs => by have := t.2 s hs; omega⟩
        · rw [e, h4, ← h3]; simp [enc]
      · refine .inr ⟨h3, fun ns ts hh e' => ?_⟩
        have := hh.1
        rw [e] at e'
        obtain ⟨h6, h7⟩ := countS_prefix hv (by omega : ns.length < 18446744073709551616) (r' := encN ns ++ countS ts.length ++ encT ts) (by rw [e']; simp [enc])
        exact h4 ns ts h6.symm hh h7
theorem encN_inj : ∀ (a b : List Int) (x y : List Int), a.length = b.length → (∀ n ∈ a, I64 n) → (∀ n ∈ b, I64 n) → encN a ++ x = encN b ++ y → a = b ∧ x = y
  | [], [], x, y, _, _, _, h => ⟨rfl, by simpa [encN] using h⟩
  | [], _ :: _, _, _, h, _, _, _ => by simp at h
  | _ :: _, [], _, _, h, _, _, _ => by simp at h
  | n :: a, m :: b, x, y, hl, ha, hb, h => by
    rw [encN_cons, encN_cons, List.append_assoc, List.append_assoc] at h
    obtain ⟨h1, h2⟩ := countS_prefix (zig_lt (ha n (by simp))) (zig_lt (hb m (by simp))) h
    obtain ⟨h3, h4⟩ := encN_inj a b x y (by simpa using hl) (fun z hz => ha z (by simp [hz])) (fun z hz => hb z (by simp [hz])) h2
    exact ⟨by rw [h3, ← unz_zig n, h1, unz_zig], h4⟩
theorem encT_inj : ∀ (a b : List ByteArray), a.length = b.length → (∀ s ∈ a, s.size ≤ 9223372036854775807) → (∀ s ∈ b, s.size ≤ 9223372036854775807) → encT a = encT b → a = b
  | [], [], _, _, _, _ => rfl
  | [], _ :: _, h, _, _, _ => by simp at h
  | _ :: _, [], h, _, _, _ => by simp at h
  | s :: a, t :: b, hl, ha, hb, h => by
    rw [encT_cons, encT_cons, List.append_assoc, List.append_assoc] at h
    obtain ⟨h1, h2⟩ := countS_prefix (by have := ha s (by simp); omega) (by have := hb t (by simp); omega) h
    obtain ⟨h3, h4⟩ := List.append_inj h2 (by rw [bytesOf_length, bytesOf_length, h1])
    have := encT_inj a b (by simpa using hl) (fun z hz => ha z (by simp [hz])) (fun z hz => hb z (by simp [hz])) h4
    rw [this, ← strOf_bytes s, h3, strOf_bytes]
theorem enc_inj {a a' : List Int} {t t' : List ByteArray} (h : Held a t) (h' : Held a' t') (e : enc a t = enc a' t') : a = a' ∧ t = t' := by
  unfold enc at e
  simp only [List.append_assoc] at e
  have := h.1; have := h'.1; have := h.2.2.1; have := h'.2.2.1
  obtain ⟨h1, h2⟩ := countS_prefix (by omega) (by omega) e
  obtain ⟨h3, h4⟩ := encN_inj a a' _ _ h1 h.2.1 h'.2.1 h2
  obtain ⟨h5, h6⟩ := countS_prefix (by omega) (by omega) h4
  exact ⟨h3, encT_inj t t' h5 h.2.2.2 h'.2.2.2 h6⟩
end Go.Proofs.Ytlpohipneianjaa.Q
end
section
set_option linter.unusedVariables false
namespace Go.Proofs.Ytlpohipneianjaa.Q
open Go Go.RowKit Go.Proofs.Ytlpohipneianjaa.G Go.Proofs.YtlpohipneianjaaW.PrintWords Go.Proofs.YtlpohipneianjaaW.PrintLast Go.Proofs.YtlpohipneianjaaW.PrintMore
def lz (i : Nat) (c : Int) : Nat := 128 ^ i * (c.toNat % 128) % 18446744073709551616
theorem lz_eq {i : Nat} {c : Int} (h : 128 ^ i * (c.toNat % 128) < 18446744073709551616) : lz i c = 128 ^ i * (c.toNat % 128) := Nat.mod_eq_of_lt h
theorem lead_shl (c : Int) (hc : 0 ≤ c ∧ c ≤ 255) (i : Nat) (hi : i ≤ 9) : shl .u64 (IntKind.u64.wrap (Int.tmod c 128)) (IntKind.u64.wrap (wrap64 (7 * (i : Int)))) = (lz i c : Int) := by
  rw [w64 (by omega) (by omega), tmod_nn hc.1, wraps_u64 (c % 128) (by omega) (by omega), wraps_u64 (7 * (i : Int)) (by omega) (by omega)]
  have hm : min (7 * (i : Int)).toNat IntKind.u64.bits = 7 * i := by
    rw [show (7 * (i : Int)).toNat = 7 * i by omega]; exact Nat.min_eq_left (by simp only [IntKind.bits]; omega)
  have hp : (2 : Nat) ^ (7 * i) = 128 ^ i := by rw [Nat.pow_mul]
  have hc' : c % 128 = ((c.toNat % 128 : Nat) : Int) := by omega
  have e1 : c % 128 * 2 ^ (7 * i) = ((128 ^ i * (c.toNat % 128) : Nat) : Int) := by
    rw [hc', ← hp, Int.natCast_mul, Int.natCast_pow, Int.mul_comm]; rfl
  unfold shl lz
  rw [hm, e1, IntKind.wrap_u64]
  generalize 128 ^ i * (c.toNat % 128) = z
  omega
theorem lead_step (b : List Int) (i : Nat) (x y : Int) (k : Nat) (h : i < b.length) (hi : i ≤ 9) (hc : 0 ≤ rd b i ∧ rd b i ≤ 255) (hy : IntKind.u64.wrap (x + (lz i (rd b i) : Int)) = y) :
    windroseref02_Lead.l0 (k + 2) b x i = if rd b i < 128 then some (y, ((i + 1 : Nat) : Int)) else windroseref02_Lead.l0 k b y ((i + 1 : Nat) : Int) := by
  have ew : wrap64 ((i : Int) + 1) = ((i + 1 : Nat) : Int) := by rw [w64] <;> omega
  have e7 : 0 ≤ IntKind.u64.wrap (wrap64 (7 * (i : Int))) := by rw [w64 (by omega) (by omega), wraps_u64 _ (by omega) (by omega)]; omega
  rw [windroseref02_Lead.l0, if_pos (by omega), decide_eq_true (by omega), windroseref02_Lead.j1, if_pos rfl, if_pos (by omega), if_pos (by omega), if_pos e7, lead_shl _ hc i hi, hy, ew]
theorem lead_stop (b : List Int) (i : Nat) (x : Int) (h : ¬ (i < b.length ∧ i < 10)) : (∃ K, ∀ k, K ≤ k → windroseref02_Lead.l0 k b x i = some (((((0 : Nat) : Int)), (((0 : Nat)) : Int)))) := by
  refine ⟨2, fun k hk => ?_⟩
  obtain ⟨k, rfl⟩ : ∃ m, k = m + 2 := ⟨k - 2, by omega⟩
  rw [windroseref02_Lead.l0]
  by_cases h1 : i < b.length
  · rw [if_pos (by omega), decide_eq_false (by omega), windroseref02_Lead.j1, if_neg (by simp)]; rfl
  · rw [if_neg (by omega), windroseref02_Lead.j1, if_neg (by simp)]; rfl
theorem lead_any (b : List Int) (hb : By b) (hl : b.length ≤ 100000) (d : Nat) : ∀ (i : Nat) (x : Int), i + d = 10 → 0 ≤ x → x < 18446744073709551616 → ∃ (u : Nat) (n : Nat), (∃ K, ∀ k, K ≤ k → windroseref02_Lead.l0 k b x i = some (((u : Int), (n : Int)))) ∧ u < 18446744073709551616 ∧ n ≤ b.length ∧ n ≤ 10 := by
  induction d with
  | zero => intro i x hi _ _; exact ⟨0, 0, lead_stop b i x (by omega), by omega, by omega, by omega⟩
  | succ d ih =>
    intro i x hi hx0 hx1
    by_cases h : i < b.length
    · have hc := hb _ (rd_mem b i h)
      obtain ⟨y, hy, hy2⟩ : ∃ y : Nat, IntKind.u64.wrap (x + (lz i (rd b i) : Int)) = (y : Int) ∧ y < 18446744073709551616 := by
        rw [IntKind.wrap_u64]
        generalize lz i (rd b i) = z
        exact ⟨((x + (z : Int)) % 18446744073709551616).toNat, by omega, by omega⟩
      by_cases h1 : rd b i < 128
      · refine ⟨y, i + 1, ⟨2, fun k hk => ?_⟩, hy2, by omega, by omega⟩
        obtain ⟨k, rfl⟩ : ∃ m, k = m + 2 := ⟨k - 2, by omega⟩
        rw [lead_step b i x y k h (by omega) hc hy, if_pos h1]
      · obtain ⟨u, n, ⟨K, hK⟩, hu, hn⟩ := ih (i + 1) (y : Int) (by omega) (by omega) (by omega)
        refine ⟨u, n, ⟨K + 2, fun k hk => ?_⟩, hu, hn⟩
        obtain ⟨k, rfl⟩ : ∃ m, k = m + 2 := ⟨k - 2, by omega⟩
        rw [lead_step b i x y k h (by omega) hc hy, if_neg h1]
        exact hK k (by omega)
    · exact ⟨0, 0, lead_stop b i x (by omega), by omega, by omega, by omega⟩
theorem Lead_ev (b : List Int) (hb : By b) (hl : b.length ≤ 100000) : ∃ (u : Nat) (n : Nat), (∃ K, ∀ k, K ≤ k → windroseref02_Lead.f k b = some (((u : Int), (n : Int)))) ∧ u < 18446744073709551616 ∧ n ≤ b.length ∧ n ≤ 10 := by
  obtain ⟨u, n, ⟨K, hK⟩, h⟩ := lead_any b hb hl 10 0 0 (by omega) (by omega) (by omega)
  refine ⟨u, n, ⟨K, fun k hk => ?_⟩, h⟩
  unfold windroseref02_Lead.f
  exact hK k hk
theorem lead_pre (pre r : List Int) (c : Int) (v : Nat) (hp : Co pre) (hc : 0 ≤ c ∧ c < 128) (hval : valL (pre ++ [c]) = v) (hv : v < 18446744073709551616) (hlen : pre.length ≤ 9) (d : Nat) : ∀ i : Nat, i + d = pre.length →
    (∃ K, ∀ k, K ≤ k → windroseref02_Lead.l0 k (pre ++ c :: r) ((valL (pre.take i) : Nat) : Int) i = some (((v : Int), ((pre.length + 1 : Nat) : Int)))) := by
  induction d with
  | zero =>
    intro i hi
    obtain rfl : i = pre.length := by omega
    have hlb : pre.length < (pre ++ c :: r).length := by simp
    have hrd := rd_app pre c r
    have hv2 : valL (pre ++ [c]) = valL pre + 128 ^ pre.length * (c.toNat % 128) := by rw [valL_append]; simp [valL]
    have hz : lz pre.length c = 128 ^ pre.length * (c.toNat % 128) := lz_eq (by rw [hval] at hv2; exact Nat.lt_of_le_of_lt (Nat.le_add_left _ _) (hv2 ▸ hv))
    refine ⟨2, fun k hk => ?_⟩
    obtain ⟨k, rfl⟩ : ∃ m, k = m + 2 := ⟨k - 2, by omega⟩
    rw [lead_step _ pre.length _ (v : Int) k hlb hlen (by rw [hrd]; omega) (by
      rw [hrd, List.take_of_length_le (Nat.le_refl _), hz, ← Int.natCast_add, ← hv2, hval]
      exact wraps_u64 _ (by omega) (by omega)), hrd, if_pos hc.2]
  | succ d ih =>
    intro i hi
    obtain ⟨K, hK⟩ := ih (i + 1) (by omega)
    have hi' : i < pre.length := by omega
    have hlb : i < (pre ++ c :: r).length := by simp; omega
    have hrd : rd (pre ++ c :: r) (i : Nat) = pre[i] := by simp [rd, List.getD_eq_getElem?_getD, List.getElem?_append_left hi', List.getElem?_eq_getElem hi']
    have hx := hp _ (List.getElem_mem hi')
    have e2 : valL (pre.take (i + 1)) = valL (pre.take i) + 128 ^ i * (pre[i].toNat % 128) := by
      rw [List.take_succ_eq_append_getElem hi', valL_append, List.length_take, Nat.min_eq_left (by omega)]
      simp [valL]
    have vle : valL (pre.take (i + 1)) ≤ v := by
      rw [← hval]
      conv => rhs; rw [← List.take_append_drop (i + 1) pre, List.append_assoc, valL_append]
      exact Nat.le_add_right _ _
    generalize pre[i] = q at hrd hx e2
    have hz : lz i q = 128 ^ i * (q.toNat % 128) := lz_eq (by rw [e2] at vle; exact Nat.lt_of_le_of_lt (Nat.le_trans (Nat.le_add_left _ _) vle) hv)
    have hstep : IntKind.u64.wrap (((valL (pre.take i) : Nat) : Int) + (lz i (rd (pre ++ c :: r) (i : Nat)) : Int)) = ((valL (pre.take (i + 1)) : Nat) : Int) := by
      rw [hrd, hz, ← Int.natCast_add, ← e2]
      generalize valL (pre.take (i + 1)) = z at vle
      exact wraps_u64 _ (by omega) (by omega)
    refine ⟨K + 2, fun k hk => ?_⟩
    obtain ⟨k, rfl⟩ : ∃ m, k = m + 2 := ⟨k - 2, by omega⟩
    rw [lead_step _ i _ _ k hlb (by omega) (by rw [hrd]; omega) hstep, hrd, if_neg (by omega)]
    exact hK k (by omega)
theorem Lead_count (v : Nat) (hv : v < 18446744073709551616) (r : List Int) (hl : (countS v ++ r).length ≤ 100000) : (∃ K, ∀ k, K ≤ k → windroseref02_Lead.f k (countS v ++ r) = some (((v : Int), ((countS v).length : Int)))) := by
  obtain ⟨pre, c, e, hp, c0, c1, h0, hval, hlen⟩ := countS_form 9 v (by omega)
  have hb : countS v ++ r = pre ++ c :: r := by rw [e]; simp
  have hcl : (countS v).length = pre.length + 1 := by rw [e]; simp
  obtain ⟨K, hK⟩ := lead_pre pre r c v hp ⟨c0, c1⟩ hval hv hlen pre.length 0 (by omega)
  refine ⟨K, fun k hk => ?_⟩
  unfold windroseref02_Lead.f
  rw [hb, hcl]
  simpa [valL] using hK k hk
end Go.Proofs.Ytlpohipneianjaa.Q
end
section
set_option linter.unusedVariables false
namespace Go.Proofs.Ytlpohipneianjaa.Q
open Go Go.RowKit Go.Proofs.Ytlpohipneianjaa.G Go.Proofs.YtlpohipneianjaaW.PrintWords Go.Proofs.YtlpohipneianjaaW.PrintLast
theorem ints_loop (a b : List Int) (hab : a.length = b.length) (hl : a.length ≤ 9223372036854775807) (d : Nat) : ∀ i : Nat, i + d = a.length → (∃ K, ∀ k, K ≤ k → windroseref02_Ints.l0 k a b i = some ((decide (a.drop i = b.drop i)))) := by
  induction d with
  | zero =>
    intro i hi
    refine Ev.succ 0 fun k _ => ?_
    simp only [windroseref02_Ints.l0]
    rw [if_neg (by omega), decide_eq_true (by rw [List.drop_of_length_le (by omega), List.drop_of_length_le (by omega)])]
  | succ d ih =>
    intro i hi
    obtain ⟨K, hK⟩ := ih (i + 1) (by omega)
    refine Ev.succ K fun k hk => ?_
    simp only [windroseref02_Ints.l0]
    have e1 : wrap64 ((i : Int) + 1) = ((i + 1 : Nat) : Int) := by rw [w64] <;> omega
    rw [if_pos (by omega), if_pos (by omega), if_pos (by omega), rd_at a i (by omega), rd_at b i (by omega)]
    by_cases h : rd a i = rd b i
    · rw [if_pos h, e1, hK k hk]
      congr 1
      rw [decide_eq_decide, h]
      simp
    · rw [if_neg h, decide_eq_false (fun e => h (List.cons.inj e).1)]
theorem Ints_ev (a b : List Int) (hl : a.length ≤ 9223372036854775807) : (∃ K, ∀ k, K ≤ k → windroseref02_Ints.f k a b = some ((decide (a = b)))) := by
  by_cases h : a.length = b.length
  · obtain ⟨K, hK⟩ := ints_loop a b h hl a.length 0 (by omega)
    refine ⟨K, fun k hk => ?_⟩
    unfold windroseref02_Ints.f
    rw [if_pos (by omega)]
    exact hK k hk
  · refine ⟨0, fun k _ => ?_⟩
    unfold windroseref02_Ints.f
    rw [if_neg (by omega), decide_eq_false (fun e => h (by rw [e]))]
theorem toList_loop (bs : ByteArray) (d : Nat) : ∀ (i : Nat) (r : List UInt8), i + d = bs.size → ByteArray.toList.loop bs i r = r.reverse ++ bs.data.toList.drop i := by
  have hsz : bs.data.toList.length = bs.size := by rw [Array.length_toList]; rfl
  induction d with
  | zero =>
    intro i r hi
    rw [ByteArray.toList.loop, if_neg (by omega), List.drop_of_length_le (by omega), List.append_nil]
  | succ d ih =>
    intro i r hi
    rw [ByteArray.toList.loop, if_pos (by omega), ih (i + 1) _ (by omega), List.drop_eq_getElem_cons (by omega : i < bs.data.toList.length), List.reverse_cons, List.append_assoc]
    congr 1
    have e : bs.get! i = bs.data.toList[i]'(by omega) := by
      show bs.data[i]! = _
      rw [getElem!_pos bs.data i (by have : bs.data.size = bs.size := rfl; omega)]
      simp
    rw [e]
    rfl
theorem toList_data (bs : ByteArray) : bs.toList = bs.data.toList := by
  rw [ByteArray.toList, toList_loop bs bs.size 0 [] (by omega)]
  simp
theorem toList_inj (a b : ByteArray) : a.toList = b.toList ↔ a = b := by
  constructor
  · intro h
    rw [toList_data, toList_data] at h
    exact ByteArray.ext (Array.ext' h)
  · rintro rfl; rfl
theorem strings_loop (a b : List ByteArray) (hab : a.length = b.length) (hl : a.length ≤ 9223372036854775807) (d : Nat) : ∀ i : Nat, i + d = a.length → (∃ K, ∀ k, K ≤ k → windroseref02_Strings.l0 k a b i = some ((decide (a.drop i = b.drop i)))) := by
  induction d with
  | zero =>
    intro i hi
    refine Ev.succ 0 fun k _ => ?_
    simp only [windroseref02_Strings.l0]
    rw [if_neg (by omega), decide_eq_true (by rw [List.drop_of_length_le (by omega), List.drop_of_length_le (by omega)])]
  | succ d ih =>
    intro i hi
    obtain ⟨K, hK⟩ := ih (i + 1) (by omega)
    refine Ev.succ K fun k hk => ?_
    simp only [windroseref02_Strings.l0]
    have e1 : wrap64 ((i : Int) + 1) = ((i + 1 : Nat) : Int) := by rw [w64] <;> omega
    rw [if_pos (by omega), if_pos (by omega), if_pos (by omega), rdOf_at a i (by omega), rdOf_at b i (by omega)]
    by_cases h : rdOf ByteArray.empty a i = rdOf ByteArray.empty b i
    · rw [if_pos (by rw [h]), e1, hK k hk]
      congr 1
      rw [decide_eq_decide, h]
      simp
    · rw [if_neg (fun e => h ((toList_inj _ _).1 e)), decide_eq_false (fun e => h (List.cons.inj e).1)]
theorem Strings_ev (a b : List ByteArray) (hl : a.length ≤ 9223372036854775807) : (∃ K, ∀ k, K ≤ k → windroseref02_Strings.f k a b = some ((decide (a = b)))) := by
  by_cases h : a.length = b.length
  · obtain ⟨K, hK⟩ := strings_loop a b h hl a.length 0 (by omega)
    refine ⟨K, fun k hk => ?_⟩
    unfold windroseref02_Strings.f
    rw [if_pos (by omega)]
    exact hK k hk
  · refine ⟨0, fun k _ => ?_⟩
    unfold windroseref02_Strings.f
    rw [if_neg (by omega), decide_eq_false (fun e => h (by rw [e]))]
theorem Same02_ev (a : List Int) (s : List ByteArray) (b : List Int) (t : List ByteArray) (h1 : a.length ≤ 9223372036854775807) (h2 : s.length ≤ 9223372036854775807) :
    (∃ K, ∀ k, K ≤ k → windroseref02_Same.f k a s b t = some ((decide (a = b ∧ s = t)))) := by
  obtain ⟨K1, hK1⟩ := Ints_ev a b h1
  obtain ⟨K2, hK2⟩ := Strings_ev s t h2
  refine ⟨K1 + K2, fun k hk => ?_⟩
  unfold windroseref02_Same.f
  rw [hK1 k (by omega), Option.bind_some]
  by_cases h : a = b
  · rw [decide_eq_true h, if_pos rfl, hK2 k (by omega), Option.bind_some]
    congr 1
    rw [decide_eq_decide]
    exact ⟨fun e => ⟨h, e⟩, fun e => e.2⟩
  · rw [decide_eq_false h, if_neg (by simp), decide_eq_false (fun e => h e.1)]
end Go.Proofs.Ytlpohipneianjaa.Q
end
section
set_option linter.unusedVariables false
namespace Go.Proofs.Ytlpohipneianjaa.Q
open Go Go.RowKit Go.Proofs.Ytlpohipneianjaa.G Go.Proofs.YtlpohipneianjaaW.PrintWords Go.Proofs.YtlpohipneianjaaW.PrintLast Go.Proofs.YtlpohipneianjaaW.PrintMore
theorem refunz_odd {u : Nat} (h : u < 18446744073709551616) (h1 : Int.tmod (u : Int) 2 = 1) : wrap64 ((-1) - (wrap64 (IntKind.u64.wrap (Int.tdiv (u : Int) 2)))) = unz u := by
  rw [tmod_nn (by omega)] at h1
  rw [tdiv_nn (by omega), IntKind.wrap_u64, w64 (x := (u : Int) / 2 % 18446744073709551616) (by omega) (by omega), w64 (by omega) (by omega)]
  unfold unz
  rw [if_neg (by omega)]
  omega
theorem refunz_even {u : Nat} (h : u < 18446744073709551616) (h1 : ¬ Int.tmod (u : Int) 2 = 1) : wrap64 (IntKind.u64.wrap (Int.tdiv (u : Int) 2)) = unz u := by
  rw [tmod_nn (by omega)] at h1
  rw [tdiv_nn (by omega), IntKind.wrap_u64, w64 (by omega) (by omega)]
  unfold unz
  rw [if_pos (by omega)]
  omega
theorem rdec_end (b : List Int) (hb : By b) (hl : b.length ≤ 4096) (n : Int) (kk : Int) (at' i : Nat) (nums : List Int) (texts : List ByteArray) (hh : Held nums texts) (hend : ¬ (0 < kk ∧ (i : Int) < n)) :
    ∃ R : DRes, (∃ K, ∀ k, K ≤ k → windroseref02_Decode.l1 k b n kk at' i nums texts = some (R)) ∧ (R = bad ∨ (b = enc nums texts ∧ R = (nums, texts, 0))) ∧ (¬ kk = 0 → b = enc nums texts → R = (nums, texts, 0)) := by
  have start : ∀ k, windroseref02_Decode.l1 (k + 1) b n kk at' i nums texts = windroseref02_Decode.j4 k b n kk at' i false nums texts := by
    intro k
    rw [windroseref02_Decode.l1]
    by_cases h : kk > 0
    · rw [if_pos h, decide_eq_false (by omega)]
    · rw [if_neg h]
  by_cases hk0 : kk = 0
  · refine ⟨bad, ⟨2, fun k hk => ?_⟩, .inl rfl, fun h => absurd hk0 h⟩
    obtain ⟨k, rfl⟩ : ∃ m, k = m + 2 := ⟨k - 2, by omega⟩
    rw [start, windroseref02_Decode.j4, if_neg (by simp), if_pos hk0]
    rfl
  · obtain ⟨R0, ⟨K, hK⟩, hc⟩ := Bytes_ev nums texts hh
    by_cases he : (strOfNums R0).toList = (strOfNums b).toList
    · have hs : strOfNums R0 = strOfNums b := (toList_inj _ _).1 he
      have hlen : R0.length = b.length := by rw [← strOfNums_size, ← strOfNums_size b, hs]
      have h4 : (enc nums texts).length ≤ 4096 := by
        rcases Nat.lt_or_ge 4096 (enc nums texts).length with h | h
        · have := hc.2 h; omega
        · exact h
      obtain rfl := hc.1 h4
      have hby : By (enc nums texts) := by
        have h1 := hh.1; have h2 := hh.2.2.1
        refine ((((by_countS (by omega)).append ?_).append (by_countS (by omega))).append ?_)
        · intro x hx
          obtain ⟨n, hn, hx⟩ := List.mem_flatMap.1 hx
          exact by_countS (zig_lt (hh.2.1 n hn)) x hx
        · intro x hx
          obtain ⟨s, hs, hx⟩ := List.mem_flatMap.1 hx
          have h3 := hh.2.2.2 s hs
          exact ((by_countS (by omega)).append (by_bytesOf s)) x hx
      have hbe : b = enc nums texts := by rw [← bytes_strOf b hb, ← bytes_strOf _ hby, hs]
      refine ⟨(nums, texts, 0), ⟨K + 2, fun k hk => ?_⟩, .inr ⟨hbe, rfl⟩, fun _ _ => rfl⟩
      obtain ⟨k, rfl⟩ : ∃ m, k = m + 2 := ⟨k - 2, by omega⟩
      rw [start, windroseref02_Decode.j4, if_neg (by simp), if_neg hk0, hK _ (by omega), Option.bind_some, if_pos he]
    · refine ⟨bad, ⟨K + 2, fun k hk => ?_⟩, .inl rfl, fun _ e => ?_⟩
      · obtain ⟨k, rfl⟩ : ∃ m, k = m + 2 := ⟨k - 2, by omega⟩
        rw [start, windroseref02_Decode.j4, if_neg (by simp), if_neg hk0, hK _ (by omega), Option.bind_some, if_neg he]
        rfl
      · have := hc.1 (by rw [← e]; exact hl)
        exact absurd (by rw [this, ← e]) he
theorem held_snoc {nums : List Int} {texts : List ByteArray} {s : ByteArray} (h : Held nums texts) (hs : s.size ≤ 100000) (ht : texts.length ≤ 100000) : Held nums (texts ++ [s]) :=
  ⟨h.1, h.2.1, by simp only [List.length_append, List.length_cons, List.length_nil]; omega, fun x hx => by
    rcases List.mem_append.1 hx with hx | hx
    · exact h.2.2.2 x hx
    · simp only [List.mem_singleton] at hx; subst hx; omega⟩
theorem held_num {nums : List Int} {texts : List ByteArray} {x : Int} (h : Held nums texts) (hx : I64 x) (ht : nums.length ≤ 100000) : Held (nums ++ [x]) texts :=
  ⟨by simp only [List.length_append, List.length_cons, List.length_nil]; omega, fun y hy => by
    rcases List.mem_append.1 hy with hy | hy
    · exact h.2.1 y hy
    · simp only [List.mem_singleton] at hy; subst hy; exact hx, h.2.2⟩
theorem rdec_text (b : List Int) (hb : By b) (hl : b.length ≤ 4096) (n : Int) (hn : n < 18446744073709551616) (kk : Int) (hk0 : 0 < kk) (p i : Nat) (hp : p ≤ b.length) (hi : (i : Int) < n) (hi2 : i ≤ 100000) (nums : List Int) (texts : List ByteArray) (ht : texts.length ≤ 100000)
    (u m : Nat) (hL : (∃ K, ∀ k, K ≤ k → windroseref02_Lead.f k (b.drop p) = some (((u : Int), (m : Int))))) (hm : m ≤ b.length - p) (hu : u < 18446744073709551616) (R : DRes) :
    (0 < m → p + m + u ≤ b.length → (∃ K, ∀ k, K ≤ k → windroseref02_Decode.l1 k b n m ((p + m + u : Nat) : Int) ((i + 1 : Nat) : Int) nums (texts ++ [strOfNums ((b.take (p + m + u)).drop (p + m))]) = some (R)) → (∃ K, ∀ k, K ≤ k → windroseref02_Decode.l1 k b n kk p i nums texts = some (R))) ∧
    (¬ (0 < m ∧ p + m + u ≤ b.length) → (∃ K, ∀ k, K ≤ k → windroseref02_Decode.l1 k b n 0 p ((i + 1 : Nat) : Int) nums texts = some (R)) → (∃ K, ∀ k, K ≤ k → windroseref02_Decode.l1 k b n kk p i nums texts = some (R))) := by
  obtain ⟨K, hK⟩ := hL
  have ei : Aside0 (IntKind.u64.wrap ((i : Int) + 1) = ((i + 1 : Nat) : Int)) := ⟨by rw [IntKind.wrap_u64]; omega⟩
  have ew : Aside0 (IntKind.u64.wrap (wrap64 ((wrap64 ((b.length : Int) - (p : Int))) - (m : Int))) = ((b.length - p - m : Nat) : Int)) := ⟨by
    rw [w64 (x := (b.length : Int) - (p : Int)) (by omega) (by omega), w64 (by omega) (by omega), IntKind.wrap_u64]; omega⟩
  constructor
  · intro hm0 hfit hR
    obtain ⟨K2, hK2⟩ := hR
    have e1 : Aside0 (wrap64 ((p : Int) + (m : Int)) = ((p + m : Nat) : Int)) := ⟨by rw [w64] <;> omega⟩
    have e2 : Aside0 (wrap64 (((p + m : Nat) : Int) + (wrap64 (u : Int))) = ((p + m + u : Nat) : Int)) := ⟨by rw [w64 (x := (u : Int)) (by omega) (by omega), w64] <;> omega⟩
    refine ⟨K + K2 + 3, fun k hk => ?_⟩
    obtain ⟨k, rfl⟩ : ∃ m, k = m + 3 := ⟨k - 3, by omega⟩
    rw [windroseref02_Decode.l1, if_pos hk0, decide_eq_true hi, windroseref02_Decode.j4, if_pos rfl, if_pos (by omega), if_pos (by omega), Int.toNat_natCast, hK _ (by omega), Option.bind_some]
    simp only []
    rw [if_pos (show (m : Int) > 0 by omega), ew.out, decide_eq_false (show ¬ ((u : Int) > ((b.length - p - m : Nat) : Int)) by omega), windroseref02_Decode.j5, if_neg (by simp), if_pos (show (m : Int) > 0 by omega), e1.out, e2.out, if_pos (by omega), if_pos (by omega), if_pos (by omega), if_pos (by omega), Int.toNat_natCast, Int.toNat_natCast, ei.out]
    exact hK2 k (by omega)
  · intro hno hR
    obtain ⟨K2, hK2⟩ := hR
    refine ⟨K + K2 + 3, fun k hk => ?_⟩
    obtain ⟨k, rfl⟩ : ∃ m, k = m + 3 := ⟨k - 3, by omega⟩
    rw [windroseref02_Decode.l1, if_pos hk0, decide_eq_true hi, windroseref02_Decode.j4, if_pos rfl, if_pos (by omega), if_pos (by omega), Int.toNat_natCast, hK _ (by omega), Option.bind_some]
    simp only []
    by_cases hm0 : 0 < m
    · rw [if_pos (show (m : Int) > 0 by omega), ew.out, decide_eq_true (show ((u : Int) > ((b.length - p - m : Nat) : Int)) by omega), windroseref02_Decode.j5, if_pos rfl, ei.out]
      exact hK2 k (by omega)
    · obtain rfl : m = 0 := by omega
      rw [if_neg (show ¬ ((0 : Nat) : Int) > 0 by omega), windroseref02_Decode.j5, if_neg (by simp), if_neg (show ¬ ((0 : Nat) : Int) > 0 by omega), ei.out]
      exact hK2 k (by omega)
theorem rdec_texts (b : List Int) (hb : By b) (hl : b.length ≤ 4096) (n : Int) (hn : n < 18446744073709551616) (nums : List Int) (d : Nat) : ∀ (p i : Nat) (kk : Int) (texts : List ByteArray), b.length - p ≤ d → p ≤ b.length → i ≤ p → texts.length ≤ p → Held nums texts →
    ∃ R : DRes, (∃ K, ∀ k, K ≤ k → windroseref02_Decode.l1 k b n kk p i nums texts = some (R)) ∧ (R = bad ∨ ∃ ts, Held nums ts ∧ b = enc nums ts ∧ R = (nums, ts, 0)) := by
  have stop : ∀ (p i : Nat) (kk : Int) (texts : List ByteArray), Held nums texts → ¬ (0 < kk ∧ (i : Int) < n) → ∃ R : DRes, (∃ K, ∀ k, K ≤ k → windroseref02_Decode.l1 k b n kk p i nums texts = some (R)) ∧ (R = bad ∨ ∃ ts, Held nums ts ∧ b = enc nums ts ∧ R = (nums, ts, 0)) := by
    intro p i kk texts hh h
    obtain ⟨R, hR, h1, _⟩ := rdec_end b hb hl n kk p i nums texts hh h
    refine ⟨R, hR, ?_⟩
    rcases h1 with h1 | ⟨h1, h2⟩
    · exact .inl h1
    · exact .inr ⟨texts, hh, h1, h2⟩
  induction d with
  | zero =>
    intro p i kk texts hd hp hi ht hh
    by_cases hc : 0 < kk ∧ (i : Int) < n
    · obtain ⟨u, m, hL, hu, hm, _⟩ := Lead_ev (b.drop p) (hb.drop p) (by rw [List.length_drop]; omega)
      rw [List.length_drop] at hm
      obtain ⟨R, hR, h⟩ := stop p (i + 1) 0 texts hh (by omega)
      exact ⟨R, (rdec_text b hb hl n hn kk hc.1 p i hp hc.2 (by omega) nums texts (by omega) u m hL hm hu R).2 (by omega) hR, h⟩
    · exact stop p i kk texts hh hc
  | succ d ih =>
    intro p i kk texts hd hp hi ht hh
    by_cases hc : 0 < kk ∧ (i : Int) < n
    · obtain ⟨u, m, hL, hu, hm, _⟩ := Lead_ev (b.drop p) (hb.drop p) (by rw [List.length_drop]; omega)
      rw [List.length_drop] at hm
      by_cases hf : 0 < m ∧ p + m + u ≤ b.length
      · have hsz : (strOfNums ((b.take (p + m + u)).drop (p + m))).size ≤ 100000 := by rw [strOfNums_size, List.length_drop, List.length_take]; omega
        obtain ⟨R, hR, h⟩ := ih (p + m + u) (i + 1) m (texts ++ [strOfNums ((b.take (p + m + u)).drop (p + m))]) (by omega) hf.2 (by omega) (by simp only [List.length_append, List.length_cons, List.length_nil]; omega) (held_snoc hh hsz (by omega))
        exact ⟨R, (rdec_text b hb hl n hn kk hc.1 p i hp hc.2 (by omega) nums texts (by omega) u m hL hm hu R).1 hf.1 hf.2 hR, h⟩
      · obtain ⟨R, hR, h⟩ := stop p (i + 1) 0 texts hh (by omega)
        exact ⟨R, (rdec_text b hb hl n hn kk hc.1 p i hp hc.2 (by omega) nums texts (by omega) u m hL hm hu R).2 hf hR, h⟩
    · exact stop p i kk texts hh hc
theorem rdec_num (b : List Int) (hl : b.length ≤ 4096) (n : Int) (hn : n < 18446744073709551616) (kk : Int) (hk0 : 0 < kk) (p i : Nat) (hp : p ≤ b.length) (hi : (i : Int) < n) (hi2 : i ≤ 100000) (nums : List Int) (ht : nums.length ≤ 100000)
    (u m : Nat) (hL : (∃ K, ∀ k, K ≤ k → windroseref02_Lead.f k (b.drop p) = some (((u : Int), (m : Int))))) (hm : m ≤ b.length - p) (hu : u < 18446744073709551616) (R : DRes)
    (hR : (∃ K, ∀ k, K ≤ k → windroseref02_Decode.l0 k b n m ((p + m : Nat) : Int) ((i + 1 : Nat) : Int) (nums ++ [unz u]) = some (R))) : (∃ K, ∀ k, K ≤ k → windroseref02_Decode.l0 k b n kk p i nums = some (R)) := by
  obtain ⟨K, hK⟩ := hL
  obtain ⟨K2, hK2⟩ := hR
  have ei : Aside0 (IntKind.u64.wrap ((i : Int) + 1) = ((i + 1 : Nat) : Int)) := ⟨by rw [IntKind.wrap_u64]; omega⟩
  have e1 : Aside0 (wrap64 ((p : Int) + (m : Int)) = ((p + m : Nat) : Int)) := ⟨by rw [w64] <;> omega⟩
  refine ⟨K + K2 + 2, fun k hk => ?_⟩
  obtain ⟨k, rfl⟩ : ∃ m, k = m + 2 := ⟨k - 2, by omega⟩
  rw [windroseref02_Decode.l0, if_pos hk0, decide_eq_true hi, windroseref02_Decode.j1, if_pos rfl, if_pos (by omega), if_pos (by omega), Int.toNat_natCast, hK _ (by omega), Option.bind_some]
  simp only []
  by_cases h1 : Int.tmod (u : Int) 2 = 1
  · rw [if_pos h1, if_pos (by omega), refunz_odd hu h1, e1.out, ei.out]
    exact hK2 k (by omega)
  · rw [if_neg h1, if_pos (by omega), refunz_even hu h1, e1.out, ei.out]
    exact hK2 k (by omega)
theorem rdec_mid (b : List Int) (n : Int) (kk : Int) (hk0 : 0 < kk) (p i : Nat) (hp : p ≤ b.length) (hl : b.length ≤ 4096) (hi : ¬ (i : Int) < n) (nums : List Int) (u m : Nat) (hL : (∃ K, ∀ k, K ≤ k → windroseref02_Lead.f k (b.drop p) = some (((u : Int), (m : Int))))) (hm : m ≤ b.length - p) (R : DRes)
    (hR : (∃ K, ∀ k, K ≤ k → windroseref02_Decode.l1 k b u m ((p + m : Nat) : Int) ((0 : Nat) : Int) nums [] = some (R))) : (∃ K, ∀ k, K ≤ k → windroseref02_Decode.l0 k b n kk p i nums = some (R)) := by
  obtain ⟨K, hK⟩ := hL
  obtain ⟨K2, hK2⟩ := hR
  have e1 : Aside0 (wrap64 ((p : Int) + (m : Int)) = ((p + m : Nat) : Int)) := ⟨by rw [w64] <;> omega⟩
  refine ⟨K + K2 + 3, fun k hk => ?_⟩
  obtain ⟨k, rfl⟩ : ∃ m, k = m + 3 := ⟨k - 3, by omega⟩
  rw [windroseref02_Decode.l0, if_pos hk0, decide_eq_false hi, windroseref02_Decode.j1, if_neg (by simp), if_pos hk0, if_pos (by omega), if_pos (by omega), Int.toNat_natCast, hK _ (by omega), Option.bind_some, windroseref02_Decode.j2]
  simp only [e1.out]
  exact hK2 k (by omega)
theorem rdec_none (b : List Int) (n : Int) (p i : Int) (nums : List Int) : (∃ K, ∀ k, K ≤ k → windroseref02_Decode.l0 k b n 0 p i nums = some (bad)) := by
  refine ⟨5, fun k hk => ?_⟩
  obtain ⟨k, rfl⟩ : ∃ m, k = m + 5 := ⟨k - 5, by omega⟩
  rw [windroseref02_Decode.l0, if_neg (by omega), windroseref02_Decode.j1, if_neg (by simp), if_neg (by omega), windroseref02_Decode.j2, windroseref02_Decode.l1, if_neg (by omega), windroseref02_Decode.j4, if_neg (by simp), if_pos rfl]
  rfl
theorem rdec_nums (b : List Int) (hb : By b) (hl : b.length ≤ 4096) (n : Int) (hn : n < 18446744073709551616) (d : Nat) : ∀ (p i : Nat) (kk : Int) (nums : List Int), 0 ≤ kk → b.length - p ≤ d → p ≤ b.length → i ≤ p → nums.length ≤ p → Held nums [] →
    ∃ R : DRes, (∃ K, ∀ k, K ≤ k → windroseref02_Decode.l0 k b n kk p i nums = some (R)) ∧ (R = bad ∨ ∃ ns ts, Held ns ts ∧ b = enc ns ts ∧ R = (ns, ts, 0)) := by
  have mid : ∀ (p i : Nat) (kk : Int) (nums : List Int), 0 ≤ kk → p ≤ b.length → ¬ (i : Int) < n → Held nums [] → ∃ R : DRes, (∃ K, ∀ k, K ≤ k → windroseref02_Decode.l0 k b n kk p i nums = some (R)) ∧ (R = bad ∨ ∃ ns ts, Held ns ts ∧ b = enc ns ts ∧ R = (ns, ts, 0)) := by
    intro p i kk nums hk hp hi hh
    by_cases h0 : 0 < kk
    · obtain ⟨u, m, hL, hu, hm, _⟩ := Lead_ev (b.drop p) (hb.drop p) (by rw [List.length_drop]; omega)
      rw [List.length_drop] at hm
      obtain ⟨R, hR, h⟩ := rdec_texts b hb hl u (by omega) nums b.length (p + m) 0 m [] (by omega) (by omega) (by omega) (by simp) hh
      refine ⟨R, rdec_mid b n kk h0 p i hp hl hi nums u m hL hm R hR, ?_⟩
      rcases h with h | ⟨ts, h1, h2, h3⟩
      · exact .inl h
      · exact .inr ⟨nums, ts, h1, h2, h3⟩
    · obtain rfl : kk = 0 := by omega
      exact ⟨bad, rdec_none b n p i nums, .inl rfl⟩
  induction d with
  | zero =>
    intro p i kk nums hk hd hp hi ht hh
    by_cases h0 : 0 < kk
    · by_cases hc : (i : Int) < n
      · obtain ⟨u, m, hL, hu, hm, _⟩ := Lead_ev (b.drop p) (hb.drop p) (by rw [List.length_drop]; omega)
        rw [List.length_drop] at hm
        obtain rfl : m = 0 := by omega
        exact ⟨bad, rdec_num b hl n hn kk h0 p i hp hc (by omega) nums (by omega) u 0 hL (by omega) hu bad (rdec_none b n _ _ _), .inl rfl⟩
      · exact mid p i kk nums hk hp hc hh
    · obtain rfl : kk = 0 := by omega
      exact ⟨bad, rdec_none b n p i nums, .inl rfl⟩
  | succ d ih =>
    intro p i kk nums hk hd hp hi ht hh
    by_cases h0 : 0 < kk
    · by_cases hc : (i : Int) < n
      · obtain ⟨u, m, hL, hu, hm, _⟩ := Lead_ev (b.drop p) (hb.drop p) (by rw [List.length_drop]; omega)
        rw [List.length_drop] at hm
        by_cases hm0 : 0 < m
        · obtain ⟨R, hR, h⟩ := ih (p + m) (i + 1) m (nums ++ [unz u]) (by omega) (by omega) (by omega) (by omega) (by simp only [List.length_append, List.length_cons, List.length_nil]; omega) (held_num hh (unz_i64 hu) (by omega))
          exact ⟨R, rdec_num b hl n hn kk h0 p i hp hc (by omega) nums (by omega) u m hL hm hu R hR, h⟩
        · obtain rfl : m = 0 := by omega
          exact ⟨bad, rdec_num b hl n hn kk h0 p i hp hc (by omega) nums (by omega) u 0 hL (by omega) hu bad (rdec_none b n _ _ _), .inl rfl⟩
      · exact mid p i kk nums hk hp hc hh
    · obtain rfl : kk = 0 := by omega
      exact ⟨bad, rdec_none b n p i nums, .inl rfl⟩
theorem rdec_encT (b : List Int) (hb : By b) (hl : b.length ≤ 4096) (nums : List Int) (ts : List ByteArray) (hh : Held nums ts) (he : b = enc nums ts) (r : List ByteArray) : ∀ (p : Nat) (kk : Int) (a : List ByteArray), 0 < kk → ts = a ++ r → p ≤ b.length → b.drop p = encT r →
    (∃ K, ∀ k, K ≤ k → windroseref02_Decode.l1 k b (ts.length : Int) kk p (a.length : Nat) nums a = some ((nums, ts, 0))) := by
  have htl : ts.length ≤ 4096 := by
    have := (encT_len ts).1
    have h2 := congrArg List.length he
    simp only [enc, List.length_append] at h2
    omega
  induction r with
  | nil =>
    intro p kk a hk ht hp hd
    simp only [List.append_nil] at ht
    subst ht
    obtain ⟨R, hR, _, h⟩ := rdec_end b hb hl (ts.length : Int) kk p ts.length nums ts hh (by omega)
    rw [h (by omega) he] at hR
    exact hR
  | cons s r ih =>
    intro p kk a hk ht hp hd
    have hlen := congrArg List.length ht
    simp only [List.length_append, List.length_cons] at hlen
    have hsz : s.size ≤ 9223372036854775807 := hh.2.2.2 s (by rw [ht]; simp)
    rw [encT_cons, List.append_assoc] at hd
    have hdl := congrArg List.length hd
    rw [List.length_drop] at hdl
    simp only [List.length_append, bytesOf_length] at hdl
    have hL := Lead_count s.size (by omega) (bytesOf s ++ encT r) (by simp only [List.length_append, bytesOf_length]; omega)
    rw [← hd] at hL
    have hcut : (b.take (p + (countS s.size).length + s.size)).drop (p + (countS s.size).length) = bytesOf s := by
      rw [← List.drop_drop, List.drop_take, List.drop_take, hd]
      rw [List.drop_append, List.drop_of_length_le (Nat.le_refl _), Nat.sub_self]
      simp only [List.nil_append, List.drop_zero]
      rw [show p + (countS s.size).length + s.size - p - (countS s.size).length = s.size by omega, List.take_append_of_le_length (by rw [bytesOf_length]; exact Nat.le_refl _), List.take_of_length_le (by rw [bytesOf_length]; exact Nat.le_refl _)]
    have hih := ih (p + (countS s.size).length + s.size) ((countS s.size).length : Int) (a ++ [s]) (by have := countS_pos s.size; omega) (by rw [ht]; simp) (by omega) (by
      rw [show p + (countS s.size).length + s.size = p + ((countS s.size).length + s.size) by omega, ← List.drop_drop, hd, ← List.append_assoc, List.drop_append, List.drop_of_length_le (by simp only [List.length_append, bytesOf_length]; omega)]
      simp only [List.length_append, bytesOf_length, Nat.sub_self, List.nil_append, List.drop_zero])
    refine (rdec_text b hb hl (ts.length : Int) (by omega) kk hk p a.length hp (by omega) (by omega) nums a (by omega) s.size (countS s.size).length hL (by omega) (by omega) _).1 (countS_pos _) (by omega) ?_
    rw [hcut, strOf_bytes]
    simpa using hih
theorem rdec_encN (b : List Int) (hb : By b) (hl : b.length ≤ 4096) (ns : List Int) (ts : List ByteArray) (hh : Held ns ts) (he : b = enc ns ts) (r : List Int) : ∀ (p : Nat) (kk : Int) (a : List Int), 0 < kk → ns = a ++ r → p ≤ b.length → b.drop p = encN r ++ (countS ts.length ++ encT ts) →
    (∃ K, ∀ k, K ≤ k → windroseref02_Decode.l0 k b (ns.length : Int) kk p (a.length : Nat) a = some ((ns, ts, 0))) := by
  have hbl : (countS ns.length).length + (encN ns).length + (countS ts.length).length + (encT ts).length = b.length := by
    have h2 := congrArg List.length he
    simp only [enc, List.length_append] at h2
    omega
  have hnl : ns.length ≤ 4096 := by have := encN_len ns; omega
  induction r with
  | nil =>
    intro p kk a hk ht hp hd
    simp only [List.append_nil] at ht
    subst ht
    simp only [encN, List.flatMap_nil, List.nil_append] at hd
    have h3 := hh.2.2.1
    have hdl := congrArg List.length hd
    rw [List.length_drop] at hdl
    simp only [List.length_append] at hdl
    have hL := Lead_count ts.length (by omega) (encT ts) (by simp only [List.length_append]; omega)
    rw [← hd] at hL
    have hT := rdec_encT b hb hl ns ts hh he ts (p + (countS ts.length).length) ((countS ts.length).length : Int) [] (by have := countS_pos ts.length; omega) rfl (by omega) (by
      rw [← List.drop_drop, hd, List.drop_append, List.drop_of_length_le (Nat.le_refl _)]; simp)
    exact rdec_mid b (ns.length : Int) kk hk p ns.length hp hl (by omega) ns ts.length _ hL (by omega) _ hT
  | cons x r ih =>
    intro p kk a hk ht hp hd
    have hlen := congrArg List.length ht
    simp only [List.length_append, List.length_cons] at hlen
    have hx : I64 x := hh.2.1 x (by rw [ht]; simp)
    rw [encN_cons, List.append_assoc] at hd
    have hdl := congrArg List.length hd
    rw [List.length_drop] at hdl
    simp only [List.length_append] at hdl
    have hL := Lead_count (zig x) (zig_lt hx) (encN r ++ (countS ts.length ++ encT ts)) (by simp only [List.length_append]; omega)
    rw [← hd] at hL
    have hih := ih (p + (countS (zig x)).length) ((countS (zig x)).length : Int) (a ++ [x]) (by have := countS_pos (zig x); omega) (by rw [ht]; simp) (by omega) (by
      rw [← List.drop_drop, hd, List.drop_append, List.drop_of_length_le (Nat.le_refl _)]; simp)
    refine rdec_num b hl (ns.length : Int) (by omega) kk hk p a.length hp (by omega) (by omega) a (by omega) (zig x) _ hL (by omega) (zig_lt hx) _ ?_
    rw [unz_zig]
    simpa using hih
theorem refDecode_ev (b : List Int) (hb : By b) (hl : b.length ≤ 4096) : ∃ R : DRes, (∃ K, ∀ k, K ≤ k → windroseref02_Decode.f k b = some (R)) ∧ ((∃ ns ts, Held ns ts ∧ b = enc ns ts ∧ R = (ns, ts, 0)) ∨ (R = bad ∧ ∀ ns ts, Held ns ts → b ≠ enc ns ts)) := by
  obtain ⟨u, m, ⟨K, hK⟩, hu, hm, _⟩ := Lead_ev b hb (by omega)
  obtain ⟨R, ⟨K2, hK2⟩, h⟩ := rdec_nums b hb hl u (by omega) b.length m 0 m [] (by omega) (by omega) hm (by omega) (by simp) ⟨by simp, fun x hx => by simp at hx, by simp, fun x hx => by simp at hx⟩
  have hf : (∃ K, ∀ k, K ≤ k → windroseref02_Decode.f k b = some (R)) := ⟨K + K2, fun k hk => by
    unfold windroseref02_Decode.f
    rw [if_neg (by omega), hK _ (by omega), Option.bind_some]
    exact hK2 k (by omega)⟩
  by_cases he : ∃ ns ts, Held ns ts ∧ b = enc ns ts
  · obtain ⟨ns, ts, hh, e⟩ := he
    have h1 := hh.1
    have hbl := congrArg List.length e
    simp only [enc, List.length_append] at hbl
    have e' : b = countS ns.length ++ (encN ns ++ (countS ts.length ++ encT ts)) := by rw [e]; simp [enc]
    obtain ⟨K3, hK3⟩ := Lead_count ns.length (by omega) (encN ns ++ (countS ts.length ++ encT ts)) (by simp only [List.length_append]; omega)
    rw [← e'] at hK3
    obtain ⟨K4, hK4⟩ := rdec_encN b hb hl ns ts hh e ns (countS ns.length).length ((countS ns.length).length : Int) [] (by have := countS_pos ns.length; omega) rfl (by omega) (by
      conv => lhs; rw [e']
      rw [List.drop_append, List.drop_of_length_le (Nat.le_refl _)]; simp)
    refine ⟨(ns, ts, 0), ⟨K3 + K4, fun k hk => ?_⟩, .inl ⟨ns, ts, hh, e, rfl⟩⟩
    unfold windroseref02_Decode.f
    rw [if_neg (by omega), hK3 _ (by omega), Option.bind_some]
    exact hK4 k (by omega)
  · refine ⟨R, hf, .inr ⟨?_, fun ns ts hh e => he ⟨ns, ts, hh, e⟩⟩⟩
    rcases h with h | ⟨ns, ts, hh, e, _⟩
    · exact h
    · exact absurd ⟨ns, ts, hh, e⟩ he
theorem both_dec (b : List Int) (hb : By b) (hl : b.length ≤ 4096) : ∃ R : DRes, (∃ K, ∀ k, K ≤ k → frame_Decode.f k b = some (R)) ∧ (∃ K, ∀ k, K ≤ k → windroseref02_Decode.f k b = some (R)) ∧ ((∃ ns ts, Held ns ts ∧ b = enc ns ts ∧ R = (ns, ts, 0)) ∨ (R = bad ∧ ∀ ns ts, Held ns ts → b ≠ enc ns ts)) := by
  obtain ⟨R, h1, h2⟩ := Decode_ev b hb hl
  obtain ⟨R', h3, h4⟩ := refDecode_ev b hb hl
  rcases h2 with ⟨ns, ts, hh, e, rfl⟩ | ⟨rfl, hno⟩
  · rcases h4 with ⟨ns', ts', hh', e', rfl⟩ | ⟨rfl, hno'⟩
    · obtain ⟨rfl, rfl⟩ := enc_inj hh hh' (by rw [← e, ← e'])
      exact ⟨_, h1, h3, .inl ⟨ns, ts, hh, e, rfl⟩⟩
    · exact absurd e (hno' ns ts hh)
  · rcases h4 with ⟨ns', ts', hh', e', rfl⟩ | ⟨rfl, hno'⟩
    · exact absurd e' (hno ns' ts' hh')
    · exact ⟨_, h1, h3, .inr ⟨rfl, hno⟩⟩
end Go.Proofs.Ytlpohipneianjaa.Q
end
section
set_option linter.unusedVariables false
namespace Go.Proofs.Ytlpohipneianjaa.Q
open Go Go.RowKit Go.Proofs.Ytlpohipneianjaa.G Go.Proofs.YtlpohipneianjaaW.PrintWords Go.Proofs.YtlpohipneianjaaW.PrintLast
theorem eqI_loop (a b : List Int) (hab : a.length = b.length) (hl : a.length ≤ 9223372036854775807) (d : Nat) : ∀ i : Nat, i + d = a.length → (∃ K, ∀ k, K ≤ k → slices_Equal_int_int.l0 k a b (a.length : Int) i = some ((decide (a.drop i = b.drop i)))) := by
  induction d with
  | zero =>
    intro i hi
    refine Ev.succ 0 fun k _ => ?_
    simp only [slices_Equal_int_int.l0]
    rw [if_neg (by omega), List.drop_of_length_le (by omega), List.drop_of_length_le (by omega)]
    rfl
  | succ d ih =>
    intro i hi
    obtain ⟨K, hK⟩ := ih (i + 1) (by omega)
    refine Ev.succ K fun k hk => ?_
    simp only [slices_Equal_int_int.l0]
    rw [if_pos (by omega), if_pos (by omega), if_pos (by omega), if_pos (by omega), rd_at a i (by omega), rd_at b i (by omega), show wrap64 ((i : Int) + 1) = ((i + 1 : Nat) : Int) by rw [w64] <;> omega, hK k hk]
    by_cases h : rd a i = rd b i
    · rw [if_pos h, h]; simp
    · rw [if_neg h]; simp [h]
theorem eqI_ev (a b : List Int) (hl : a.length ≤ 9223372036854775807) : (∃ K, ∀ k, K ≤ k → slices_Equal_int_int.f k a b = some ((decide (a = b)))) := by
  by_cases h : a.length = b.length
  · obtain ⟨K, hK⟩ := eqI_loop a b h hl a.length 0 (by omega)
    refine ⟨K, fun k hk => ?_⟩
    unfold slices_Equal_int_int.f
    rw [if_pos (by omega)]
    simpa using hK k hk
  · refine ⟨0, fun k _ => ?_⟩
    unfold slices_Equal_int_int.f
    rw [if_neg (by omega), decide_eq_false (fun e => h (by rw [e]))]
theorem eqS_loop (a b : List ByteArray) (hab : a.length = b.length) (hl : a.length ≤ 9223372036854775807) (d : Nat) : ∀ i : Nat, i + d = a.length → (∃ K, ∀ k, K ≤ k → slices_Equal_string_string.l0 k a b (a.length : Int) i = some ((decide (a.drop i = b.drop i)))) := by
  induction d with
  | zero =>
    intro i hi
    refine Ev.succ 0 fun k _ => ?_
    simp only [slices_Equal_string_string.l0]
    rw [if_neg (by omega), List.drop_of_length_le (by omega), List.drop_of_length_le (by omega)]
    rfl
  | succ d ih =>
    intro i hi
    obtain ⟨K, hK⟩ := ih (i + 1) (by omega)
    refine Ev.succ K fun k hk => ?_
    simp only [slices_Equal_string_string.l0]
    rw [if_pos (by omega), if_pos (by omega), if_pos (by omega), if_pos (by omega), rdOf_at a i (by omega), rdOf_at b i (by omega), show wrap64 ((i : Int) + 1) = ((i + 1 : Nat) : Int) by rw [w64] <;> omega, hK k hk]
    by_cases h : rdOf ByteArray.empty a i = rdOf ByteArray.empty b i
    · rw [if_pos (by rw [h]), h]; simp
    · rw [if_neg (fun e => h ((toList_inj _ _).1 e))]; simp [h]
theorem eqS_ev (a b : List ByteArray) (hl : a.length ≤ 9223372036854775807) : (∃ K, ∀ k, K ≤ k → slices_Equal_string_string.f k a b = some ((decide (a = b)))) := by
  by_cases h : a.length = b.length
  · obtain ⟨K, hK⟩ := eqS_loop a b h hl a.length 0 (by omega)
    refine ⟨K, fun k hk => ?_⟩
    unfold slices_Equal_string_string.f
    rw [if_pos (by omega)]
    simpa using hK k hk
  · refine ⟨0, fun k _ => ?_⟩
    unfold slices_Equal_string_string.f
    rw [if_neg (by omega), decide_eq_false (fun e => h (by rw [e]))]
theorem SameP_ev (a : List Int) (s : List ByteArray) (b : List Int) (t : List ByteArray) (h1 : a.length ≤ 9223372036854775807) (h2 : s.length ≤ 9223372036854775807) :
    (∃ K, ∀ k, K ≤ k → frame_Same.f k a s b t = some ((decide (a = b ∧ s = t)))) := by
  obtain ⟨K1, hK1⟩ := eqI_ev a b h1
  obtain ⟨K2, hK2⟩ := eqS_ev s t h2
  refine ⟨K1 + K2, fun k hk => ?_⟩
  unfold frame_Same.f
  rw [hK1 k (by omega), Option.bind_some]
  by_cases h : a = b
  · rw [decide_eq_true h, if_pos rfl, hK2 k (by omega)]
    simp [h]
  · rw [decide_eq_false h, if_neg (by simp)]
    simp [h]
end Go.Proofs.Ytlpohipneianjaa.Q
end
section
set_option linter.unusedVariables false
namespace Go.Proofs.Ytlpohipneianjaa.Q
open Go Go.RowKit Go.Proofs.Ytlpohipneianjaa.G Go.Proofs.YtlpohipneianjaaW.PrintWords Go.Proofs.YtlpohipneianjaaW.PrintLast
theorem wf_by {l : List Int} (h : ∀ y ∈ l, (Lit.int .u8 y).wf = true) : By l := by
  intro x hx
  have h := h x hx
  simp [Lit.wf] at h
  have e1 : IntKind.min .u8 = 0 := by decide
  have e2 : IntKind.max .u8 = 255 := by decide
  first | (rw [e1, e2] at h; exact h) | (rw [e1] at h; exact h) | exact h
theorem all_dec (b : List Int) (hb : By b) : ∃ R : DRes, (∃ K, ∀ k, K ≤ k → frame_Decode.f k b = some (R)) ∧ (∃ K, ∀ k, K ≤ k → windroseref02_Decode.f k b = some (R)) ∧ R.1.length ≤ 100000 ∧ R.2.1.length ≤ 100000 := by
  by_cases hl : b.length ≤ 4096
  · obtain ⟨R, h1, h2, h3⟩ := both_dec b hb hl
    refine ⟨R, h1, h2, ?_⟩
    rcases h3 with ⟨ns, ts, hh, e, rfl⟩ | ⟨rfl, _⟩
    · have h4 := congrArg List.length e
      simp only [enc, List.length_append] at h4
      have := encN_len ns
      have := (encT_len ts).1
      exact ⟨by show ns.length ≤ _; omega, by show ts.length ≤ _; omega⟩
    · exact ⟨by simp [bad], by simp [bad]⟩
  · refine ⟨([], [], 4), ⟨0, fun k _ => ?_⟩, ⟨0, fun k _ => ?_⟩, by simp, by simp⟩
    · unfold frame_Decode.f; rw [if_pos (by omega)]
    · unfold windroseref02_Decode.f; rw [if_pos (by omega)]
theorem FrameDecodes : ∀ (l0 : List Int), (l0.length ≤ maxLen ∧ ∀ y2 ∈ l0, (Lit.int .u8 y2).wf = true) → ∃ k, windroselaw02_FrameDecodes.f k l0 = some true := by
  intro b ⟨hm, hw⟩
  have hb := wf_by hw
  obtain ⟨K1, h1⟩ := awake02_ev
  by_cases hl : (b.length : Int) > 6000
  · refine ⟨K1, ?_⟩
    unfold windroselaw02_FrameDecodes.f
    rw [if_pos hl, h1 _ (by omega)]
    rfl
  · obtain ⟨⟨ns, ts, e⟩, ⟨K2, h2⟩, ⟨K3, h3⟩, hn, ht⟩ := all_dec b hb
    simp only at hn ht
    obtain ⟨K4, h4⟩ := Same02_ev ns ts ns ts (by omega) (by omega)
    obtain ⟨K5, h5⟩ := SameP_ev ns ts ns ts (by omega) (by omega)
    obtain ⟨K6, h6⟩ := Same02_ev ns ts [] [] (by omega) (by omega)
    obtain ⟨K7, h7⟩ := SameP_ev ns ts [] [] (by omega) (by omega)
    refine ⟨K1 + K2 + K3 + K4 + K5 + K6 + K7, ?_⟩
    unfold windroselaw02_FrameDecodes.f
    rw [if_neg hl, Option.bind_some]
    simp only [List.length_nil, Nat.zero_add, List.nil_append]
    rw [if_pos (by omega), h2 _ (by omega), Option.bind_some, h3 _ (by omega), Option.bind_some]
    simp only []
    rw [if_pos trivial, h4 _ (by omega), Option.bind_some, decide_eq_true ⟨rfl, rfl⟩, if_pos rfl, h5 _ (by omega), Option.bind_some, decide_eq_true ⟨rfl, rfl⟩, if_pos rfl, h7 _ (by omega), Option.bind_some, h6 _ (by omega), Option.bind_some, if_pos (by simp), h1 _ (by omega)]
    rfl
end Go.Proofs.Ytlpohipneianjaa.Q
end
section
namespace Go.Proofs.Ytlpohipneianjaa.frameDecodes
open Go.ChangeShapes Go.WideShapes Go.ChangeAt Go.RowKit Go.Proofs.YtlpohipneianjaaX Go.Proofs.Ytlpohipneianjaa.G
open Go.ChangeMaps (open_string shut_string)
set_option linter.unusedVariables false
set_option linter.unusedSimpArgs false
theorem own : ownKnob Try.prog.godebug = none := by kernel_rfl
theorem laidOut : laidOutB Try.prog = true := by kernel_rfl
set_option maxRecDepth 100000 in
theorem lifted (os : Os) (started : os.Started) (H : Type) (enc : TypeId × Value → H) :
    ReturnsInHanded {} Try.checked os 7 .any (Rows.frameDecodesSpec.pre6 enc Try.prog Try.f7 Rows.frameDecodesRow.domain false) (Rows.frameDecodesSpec.post enc Try.prog Try.f7 false true false false) := by
  refine returnsInHanded_of_change_sized (C := Try.checked) own started (by kernel_rfl) Try.func7
    (ChangeSpec.witness6 (enc := enc) (C := Try.checked) false ⟨#[], #[.slice none 0 0], []⟩ 8 (by kernel_rfl) (by kernel_rfl) (by kernel_rfl) (by kernel_rfl)) ?_
  intro W base args ds gs before hval0 hW hcnd hsz0 _
  have hval : ∀ (j : Nat) t v, Try.f7.params[j]? = some t → args[j]? = some v → Value.okWide Try.prog W .any base t v := hval0
  have hW' := hW
  obtain ⟨p, q, hA0, hV, rfl, hfz, hnd⟩ := hW
  have hA : DataW.TrodAll enc Try.prog W 0 (fun _ => true) true Try.f7.params.toList args.toList ds p := hA0
  rw [Try.params7] at hA hval
  obtain ⟨v0, vs0, d0, ds0, p0, q0, hargs, rfl, rfl, h0, r0⟩ := trodAll_cons hA
  obtain ⟨rfl, rfl, rfl⟩ := trodAll_nil r0
  obtain rfl : args = #[v0] := by cases args; simp_all
  obtain ⟨rfl, rfl⟩ := trodVars_none hV
  have k0 := h0
  have lt0 : ∀ x ∈ p0, x.block < W.heap.size := by obtain ⟨m, hm⟩ := k0; exact DataW.trod_lt m _ _ _ hm
  obtain ⟨u0, len0, cap0, rfl⟩ := okWide_slice Try.underlying22 (hval 0 22 v0 rfl rfl)
  obtain ⟨fuel0, hf0⟩ := h0
  obtain ⟨l0, ⟨A0, c0, e0, hc0, hr0⟩, w0⟩ := (Rd.slice Try.underlying22 (by kernel_rfl) (Rd.int Try.underlying5)) enc W _ _ _ fuel0 _ _ hf0
  simp [Value.cells] at e0
  obtain ⟨rfl, rfl, rfl⟩ := e0
  clear hA0 hval0 hsz0
  obtain ⟨k, h⟩ := Q.FrameDecodes l0 w0
  refine (windroselaw02_FrameDecodes.calls k u0 cap0 l0 true W hr0 hc0 h).mono fun e W' ⟨he, bel⟩ => ?_
  subst he
  exact ⟨_, rfl, _, _, _, [], _, [], hW', trodAll_mk1 (shut_bool Try.underlying4 _), (trodAll_cons_mk (Below.trod laidOut (by kernel_rfl) (of_decide_eq_true (by kernel_rfl)) k0 bel lt0) trodAll_mk0), rfl, bel.frame _, fun h => by cases h⟩
theorem over : Rows.frameDecodesRow.holds Try.pinned (OpenSpec.ofChange Rows.frameDecodesSpec) :=
  OpenClaim.holds_of_wide 7 Try.f7 rfl rfl rfl rfl rfl rfl rfl ⟨rfl, rfl, rfl, rfl, rfl⟩ rfl rfl rfl rfl rfl (by kernel_rfl) Try.func7 (by kernel_rfl)
    (of_decide_eq_true (by kernel_rfl)) (by unfold Func.isWrapper; first | (rw [if_pos (by decide +kernel)]; kernel_rfl) | (rw [if_neg (by decide +kernel)]; exact ⟨rfl, rfl⟩))
    (fun os started H enc _ => lifted os started H enc)
theorem proved : Rows.FrameDecodesSaid := over
#print axioms proved
end Go.Proofs.Ytlpohipneianjaa.frameDecodes
namespace Go.Proofs.Ytlpohipneianjaa
theorem frameDecodes_holds : Rows.FrameDecodesSaid := frameDecodes.proved
end Go.Proofs.Ytlpohipneianjaa
end
