/- Which data any bytes are: what frame.Decode answers. No condition. -/
import Derived.Test.YtlpohipneianjaaG11
import Derived.Test.YtlpohipneianjaaPTake
set_option linter.unusedVariables false
namespace Go.Proofs.Ytlpohipneianjaa.Q
open Go Go.RowKit Go.Proofs.Ytlpohipneianjaa.G Go.Proofs.YtlpohipneianjaaW.PrintWords Go.Proofs.YtlpohipneianjaaW.PrintLast Go.Proofs.YtlpohipneianjaaW.PrintMore

theorem countS_prefix {v v' : Nat} {r r' : List Int} (hv : v < 18446744073709551616) (hv' : v' < 18446744073709551616) (h : countS v ++ r = countS v' ++ r') : v = v' ∧ r = r' := by
  obtain ⟨pre, c, e, hp, c0, c1, _, hval, _⟩ := countS_form 9 v (by omega)
  obtain ⟨pre', c', e', hp', c0', c1', _, hval', _⟩ := countS_form 9 v' (by omega)
  rw [e, e'] at h
  obtain ⟨rfl, rfl, h3⟩ := cut_unique pre pre' c c' r r' hp hp' c1 c1' (by simpa using h)
  exact ⟨by rw [← hval, hval'], h3⟩

def unz (v : Nat) : Int := if v % 2 = 0 then ((v / 2 : Nat) : Int) else -1 - ((v / 2 : Nat) : Int)
theorem zig_unz (v : Nat) : zig (unz v) = v := by unfold zig unz; split <;> split <;> omega
theorem unz_zig (n : Int) : unz (zig n) = n := by unfold zig unz; split <;> split <;> omega
theorem unz_i64 {v : Nat} (h : v < 18446744073709551616) : I64 (unz v) := by unfold I64 unz; split <;> omega

theorem and1 {x : Nat} (h : x < 18446744073709551616) : Go.bits .and .u64 (x : Int) 1 = ((x % 2 : Nat) : Int) := by
  have := bits_mask .u64 64 (by decide) wraps_u64 1 (by decide) (x : Int) (by omega) (by omega)
  simp at this
  rw [this]
  omega
theorem unz_eq {v : Nat} (h : v < 18446744073709551616) : wrap64 (Go.bits .xor .u64 ((v : Int) / 2) (IntKind.u64.wrap (-(Go.bits .and .u64 (v : Int) 1)))) = unz v := by
  rw [and1 h, IntKind.wrap_u64, show (v : Int) / 2 = ((v / 2 : Nat) : Int) by omega]
  unfold unz
  by_cases h2 : v % 2 = 0
  · rw [if_pos h2, h2, show (-((0 : Nat) : Int)) % 18446744073709551616 = ((0 : Nat) : Int) by omega, bits_xor_u64_nat _ _ (by omega) (by omega), Nat.xor_zero, w64] <;> omega
  · have h1 : v % 2 = 1 := by omega
    rw [if_neg h2, h1, show (-((1 : Nat) : Int)) % 18446744073709551616 = ((18446744073709551615 : Nat) : Int) by omega, bits_xor_u64_nat _ _ (by omega) (by omega), xor_ones (by omega)]
    unfold wrap64
    omega

theorem strOf_bytes (s : ByteArray) : strOfNums (bytesOf s) = s := by
  unfold strOfNums bytesOf
  rw [List.map_map]
  have : (fun n : Int => UInt8.ofNat n.toNat) ∘ (fun b : UInt8 => (b.toNat : Int)) = id := by
    funext b
    simp
  rw [this, List.map_id]
theorem bytes_strOf (l : List Int) (h : By l) : bytesOf (strOfNums l) = l := by
  unfold strOfNums bytesOf
  simp only [List.map_map]
  rw [List.map_congr_left (g := id), List.map_id]
  intro x hx
  have := h x hx
  simp only [Function.comp, id, UInt8.toNat_ofNat', Nat.reducePow]
  omega
theorem by_bytesOf (s : ByteArray) : By (bytesOf s) := by
  intro x hx
  simp only [bytesOf, List.mem_map] at hx
  obtain ⟨b, _, rfl⟩ := hx
  have := b.toNat_lt
  omega

theorem By.append {a b : List Int} (ha : By a) (hb : By b) : By (a ++ b) := fun x hx => by
  rcases List.mem_append.1 hx with h | h
  · exact ha x h
  · exact hb x h
theorem By.left {a b : List Int} (h : By (a ++ b)) : By a := fun x hx => h x (by simp [hx])
theorem By.right {a b : List Int} (h : By (a ++ b)) : By b := fun x hx => h x (by simp [hx])
theorem By.take {a : List Int} (h : By a) (n : Nat) : By (a.take n) := fun x hx => h x (List.mem_of_mem_take hx)
theorem By.drop {a : List Int} (h : By a) (n : Nat) : By (a.drop n) := fun x hx => h x (List.mem_of_mem_drop hx)

theorem take_rest {b r : List Int} (hb : By b) (h : ∃ p, b = p ++ r ∨ r = []) : By r ∧ r.length ≤ b.length := by
  obtain ⟨p, h | h⟩ := h
  · subst h; exact ⟨hb.right, by simp⟩
  · subst h; exact ⟨fun x hx => by simp at hx, by simp⟩

abbrev DRes := List Int × List ByteArray × Int
def bad : DRes := ([], [], 2)

theorem dec_off1 (k : Nat) (x0 : List Int) (x5 : Int) (a : List Int) (t : List ByteArray) : frame_Decode.l1 (k + 2) x0 x5 false a t = some bad := by
  rw [frame_Decode.l1, if_neg (by simp), frame_Decode.j4, if_neg (by simp), if_neg (by simp)]
  rfl
theorem dec_off0 (k : Nat) (x0 : List Int) (x5 : Int) (a : List Int) : frame_Decode.l0 (k + 5) x0 x5 false a = some bad := by
  rw [frame_Decode.l0, if_neg (by simp), frame_Decode.j1, if_neg (by simp), if_neg (by simp), frame_Decode.j2, dec_off1]

/-- The texts. -/
theorem dec_texts (n : Nat) : ∀ (rest : List Int) (m : Nat) (nums : List Int) (acc : List ByteArray), rest.length ≤ n → By rest → rest.length ≤ 100000 → acc.length + rest.length ≤ 100000 → m < 18446744073709551616 →
    ∃ R : DRes, (∃ K, ∀ k, K ≤ k → frame_Decode.l1 k rest (m : Int) true nums acc = some (R)) ∧ ((∃ ts : List ByteArray, ts.length = m ∧ rest = encT ts ∧ R = (nums, acc ++ ts, 0)) ∨ (R = bad ∧ ∀ ts : List ByteArray, ts.length = m → (∀ s ∈ ts, s.size ≤ 9223372036854775807) → rest ≠ encT ts)) := by
  induction n with
  | zero =>
    intro rest m nums acc hl hb h1 h2 hm
    obtain rfl : rest = [] := List.eq_nil_of_length_eq_zero (by omega)
    cases m with
    | zero =>
      refine ⟨(nums, acc, 0), ⟨2, fun k hk => ?_⟩, .inl ⟨[], rfl, rfl, by simp⟩⟩
      obtain ⟨k, rfl⟩ : ∃ m, k = m + 2 := ⟨k - 2, by omega⟩
      rw [frame_Decode.l1, if_pos rfl, decide_eq_false (by omega), frame_Decode.j4, if_neg (by simp), if_pos rfl, if_neg (by simp)]
    | succ m =>
      obtain ⟨u, r, ok, ⟨K, hK⟩, ht, hf, hr⟩ := take_ev [] hb h1
      cases ok with
      | true =>
        obtain ⟨v, _, _, e⟩ := ht rfl
        have := countS_pos v
        have := congrArg List.length e
        simp at this
        omega
      | false =>
        refine ⟨bad, ⟨K + 5, fun k hk => ?_⟩, .inr ⟨rfl, fun ts hts hsz e => ?_⟩⟩
        · obtain ⟨k, rfl⟩ : ∃ m, k = m + 4 := ⟨k - 4, by omega⟩
          rw [frame_Decode.l1, if_pos rfl, decide_eq_true (by omega), frame_Decode.j4, if_pos rfl, hK _ (by omega), Option.bind_some, if_neg (by simp)]
          exact dec_off1 _ _ _ _ _
        · cases ts with
          | nil => simp at hts
          | cons s ts =>
            rw [encT_cons, List.append_assoc] at e
            exact hf rfl s.size _ (by have := hsz s (by simp); omega) e
  | succ n ih =>
    intro rest m nums acc hl hb h1 h2 hm
    cases m with
    | zero =>
      by_cases h0 : rest = []
      · subst h0
        refine ⟨(nums, acc, 0), ⟨2, fun k hk => ?_⟩, .inl ⟨[], rfl, rfl, by simp⟩⟩
        obtain ⟨k, rfl⟩ : ∃ m, k = m + 2 := ⟨k - 2, by omega⟩
        rw [frame_Decode.l1, if_pos rfl, decide_eq_false (by omega), frame_Decode.j4, if_neg (by simp), if_pos rfl, if_neg (by simp)]
      · have hpos : 0 < rest.length := List.length_pos_iff.2 h0
        refine ⟨bad, ⟨2, fun k hk => ?_⟩, .inr ⟨rfl, fun ts hts _ e => ?_⟩⟩
        · obtain ⟨k, rfl⟩ : ∃ m, k = m + 2 := ⟨k - 2, by omega⟩
          rw [frame_Decode.l1, if_pos rfl, decide_eq_false (by omega), frame_Decode.j4, if_neg (by simp), if_pos rfl, if_pos (by omega)]
          rfl
        · obtain rfl : ts = [] := List.eq_nil_of_length_eq_zero hts
          exact h0 e
    | succ m =>
      obtain ⟨u, r, ok, ⟨K, hK⟩, ht, hf, hr⟩ := take_ev rest hb h1
      have e1 : IntKind.u64.wrap (((m + 1 : Nat) : Int) - 1) = (m : Int) := by rw [IntKind.wrap_u64]; omega
      cases ok with
      | false =>
        refine ⟨bad, ⟨K + 5, fun k hk => ?_⟩, .inr ⟨rfl, fun ts hts hsz e => ?_⟩⟩
        · obtain ⟨k, rfl⟩ : ∃ m, k = m + 4 := ⟨k - 4, by omega⟩
          rw [frame_Decode.l1, if_pos rfl, decide_eq_true (by omega), frame_Decode.j4, if_pos rfl, hK _ (by omega), Option.bind_some, if_neg (by simp)]
          exact dec_off1 _ _ _ _ _
        · cases ts with
          | nil => simp at hts
          | cons s ts =>
            rw [encT_cons, List.append_assoc] at e
            exact hf rfl s.size _ (by have := hsz s (by simp); omega) e
      | true =>
        obtain ⟨v, rfl, hv, e⟩ := ht rfl
        have hbr : By r := by rw [e] at hb; exact hb.right
        have hcp := countS_pos v
        have hlen : rest.length = (countS v).length + r.length := by rw [e]; simp
        have ew : IntKind.u64.wrap (r.length : Int) = (r.length : Int) := by rw [IntKind.wrap_u64]; omega
        by_cases hvl : v ≤ r.length
        · have hdl : (r.drop v).length = r.length - v := List.length_drop
          obtain ⟨R, ⟨K2, hK2⟩, hR⟩ := ih (r.drop v) m nums (acc ++ [strOfNums (r.take v)]) (by omega) (hbr.drop v) (by omega) (by simp only [List.length_append, List.length_cons, List.length_nil]; omega) (by omega)
          have hs : (strOfNums (r.take v)).size = v := by rw [strOfNums_size, List.length_take]; omega
          have hbs : bytesOf (strOfNums (r.take v)) = r.take v := bytes_strOf _ (hbr.take v)
          refine ⟨R, ⟨K + K2 + 2, fun k hk => ?_⟩, ?_⟩
          · obtain ⟨k, rfl⟩ : ∃ m, k = m + 2 := ⟨k - 2, by omega⟩
            rw [frame_Decode.l1, if_pos rfl, decide_eq_true (by omega), frame_Decode.j4, if_pos rfl, hK _ (by omega), Option.bind_some]
            simp only [if_true]
            rw [ew, if_pos (by omega), if_pos (by omega), if_pos (by omega), if_pos (by omega), e1, Int.toNat_natCast]
            exact hK2 k (by omega)
          · rcases hR with ⟨ts, h3, h4, h5⟩ | ⟨h3, h4⟩
            · refine .inl ⟨strOfNums (r.take v) :: ts, by simp [h3], ?_, by rw [h5]; simp⟩
              rw [encT_cons, hs, hbs, ← h4, e, List.append_assoc, List.take_append_drop]
            · refine .inr ⟨h3, fun ts hts hsz e' => ?_⟩
              cases ts with
              | nil => simp at hts
              | cons s ts =>
                rw [encT_cons, List.append_assoc, e] at e'
                obtain ⟨h6, h7⟩ := countS_prefix hv (by have := hsz s (by simp); omega) e'
                refine h4 ts (by simpa using hts) (fun s' hs' => hsz s' (by simp [hs'])) ?_
                rw [h7, h6, List.drop_append, bytesOf_length, List.drop_of_length_le (by rw [bytesOf_length]; omega)]
                simp
        · refine ⟨bad, ⟨K + 5, fun k hk => ?_⟩, .inr ⟨rfl, fun ts hts hsz e' => ?_⟩⟩
          · obtain ⟨k, rfl⟩ : ∃ m, k = m + 4 := ⟨k - 4, by omega⟩
            rw [frame_Decode.l1, if_pos rfl, decide_eq_true (by omega), frame_Decode.j4, if_pos rfl, hK _ (by omega), Option.bind_some]
            simp only [if_true]
            rw [ew, if_neg (by omega)]
            exact dec_off1 _ _ _ _ _
          · cases ts with
            | nil => simp at hts
            | cons s ts =>
              rw [encT_cons, List.append_assoc, e] at e'
              obtain ⟨h6, h7⟩ := countS_prefix hv (by have := hsz s (by simp); omega) e'
              rw [h7, List.length_append, bytesOf_length] at hvl
              omega

/-- The numbers, and what follows. -/
theorem dec_nums (n : Nat) : ∀ (rest : List Int) (m : Nat) (acc : List Int), rest.length ≤ n → By rest → rest.length ≤ 100000 → acc.length + rest.length ≤ 100000 → m < 18446744073709551616 →
    ∃ R : DRes, (∃ K, ∀ k, K ≤ k → frame_Decode.l0 k rest (m : Int) true acc = some (R)) ∧ ((∃ (ns : List Int) (ts : List ByteArray), ns.length = m ∧ (∀ x ∈ ns, I64 x) ∧ rest = encN ns ++ countS ts.length ++ encT ts ∧ R = (acc ++ ns, ts, 0)) ∨
      (R = bad ∧ ∀ (ns : List Int) (ts : List ByteArray), ns.length = m → Held ns ts → rest ≠ encN ns ++ countS ts.length ++ encT ts)) := by
  induction n using Nat.strongRecOn with
  | _ n ih =>
  intro rest m acc hl hb h1 h2 hm
  obtain ⟨u, r, ok, ⟨K, hK⟩, ht, hf, hr⟩ := take_ev rest hb h1
  cases m with
  | zero =>
    cases ok with
    | false =>
      refine ⟨bad, ⟨K + 6, fun k hk => ?_⟩, .inr ⟨rfl, fun ns ts hns hh e => ?_⟩⟩
      · obtain ⟨k, rfl⟩ : ∃ m, k = m + 5 := ⟨k - 5, by omega⟩
        rw [frame_Decode.l0, if_pos rfl, decide_eq_false (by omega), frame_Decode.j1, if_neg (by simp), if_pos rfl, hK _ (by omega), Option.bind_some, frame_Decode.j2]
        exact dec_off1 _ _ _ _ _
      · obtain rfl : ns = [] := List.eq_nil_of_length_eq_zero hns
        have := hh.2.2.1
        exact hf rfl ts.length _ (by omega) (by simpa [encN] using e)
    | true =>
      obtain ⟨v, rfl, hv, e⟩ := ht rfl
      have hbr : By r := by rw [e] at hb; exact hb.right
      have hlen : rest.length = (countS v).length + r.length := by rw [e]; simp
      obtain ⟨R, ⟨K2, hK2⟩, hR⟩ := dec_texts r.length r v acc [] (Nat.le_refl _) hbr (by omega) (by simp; omega) hv
      refine ⟨R, ⟨K + K2 + 3, fun k hk => ?_⟩, ?_⟩
      · obtain ⟨k, rfl⟩ : ∃ m, k = m + 3 := ⟨k - 3, by omega⟩
        rw [frame_Decode.l0, if_pos rfl, decide_eq_false (by omega), frame_Decode.j1, if_neg (by simp), if_pos rfl, hK _ (by omega), Option.bind_some, frame_Decode.j2]
        exact hK2 k (by omega)
      · rcases hR with ⟨ts, h3, h4, h5⟩ | ⟨h3, h4⟩
        · exact .inl ⟨[], ts, rfl, fun x hx => by simp at hx, by rw [h3, ← h4]; simpa [encN] using e, by rw [h5]; simp⟩
        · refine .inr ⟨h3, fun ns ts hns hh e' => ?_⟩
          obtain rfl : ns = [] := List.eq_nil_of_length_eq_zero hns
          have := hh.2.2.1
          rw [e] at e'
          obtain ⟨h6, h7⟩ := countS_prefix hv (by omega : ts.length < 18446744073709551616) (by simpa [encN] using e')
          exact h4 ts h6.symm hh.2.2.2 h7
  | succ m =>
    have e1 : IntKind.u64.wrap (((m + 1 : Nat) : Int) - 1) = (m : Int) := by rw [IntKind.wrap_u64]; omega
    cases ok with
    | false =>
      refine ⟨bad, ⟨K + 8, fun k hk => ?_⟩, .inr ⟨rfl, fun ns ts hns hh e => ?_⟩⟩
      · obtain ⟨k, rfl⟩ : ∃ m, k = m + 7 := ⟨k - 7, by omega⟩
        rw [frame_Decode.l0, if_pos rfl, decide_eq_true (by omega), frame_Decode.j1, if_pos rfl, hK _ (by omega), Option.bind_some, if_neg (by simp)]
        exact dec_off0 _ _ _ _
      · cases ns with
        | nil => simp at hns
        | cons x ns =>
          rw [encN_cons] at e
          exact hf rfl (zig x) _ (zig_lt (hh.2.1 x (by simp))) (by simpa using e)
    | true =>
      obtain ⟨v, rfl, hv, e⟩ := ht rfl
      have hbr : By r := by rw [e] at hb; exact hb.right
      have hcp := countS_pos v
      have hlen : rest.length = (countS v).length + r.length := by rw [e]; simp
      obtain ⟨R, ⟨K2, hK2⟩, hR⟩ := ih r.length (by omega) r m (acc ++ [unz v]) (Nat.le_refl _) hbr (by omega) (by simp only [List.length_append, List.length_cons, List.length_nil]; omega) (by omega)
      refine ⟨R, ⟨K + K2 + 2, fun k hk => ?_⟩, ?_⟩
      · obtain ⟨k, rfl⟩ : ∃ m, k = m + 2 := ⟨k - 2, by omega⟩
        rw [frame_Decode.l0, if_pos rfl, decide_eq_true (by omega), frame_Decode.j1, if_pos rfl, hK _ (by omega), Option.bind_some]
        simp only [if_true]
        rw [if_pos (by omega), unz_eq hv, e1]
        exact hK2 k (by omega)
      · rcases hR with ⟨ns, ts, h3, h3', h4, h5⟩ | ⟨h3, h4⟩
        · refine .inl ⟨unz v :: ns, ts, by simp [h3], fun x hx => ?_, ?_, by rw [h5]; simp⟩
          · rcases List.mem_cons.1 hx with rfl | hx
            · exact unz_i64 hv
            · exact h3' x hx
          · rw [encN_cons, zig_unz, e, h4]; simp
        · refine .inr ⟨h3, fun ns ts hns hh e' => ?_⟩
          cases ns with
          | nil => simp at hns
          | cons x ns =>
            rw [encN_cons, e] at e'
            obtain ⟨h6, h7⟩ := countS_prefix hv (zig_lt (hh.2.1 x (by simp))) (by simpa using e')
            refine h4 ns ts (by simpa using hns) ⟨by have := hh.1; simp at this; omega, fun y hy => hh.2.1 y (by simp [hy]), hh.2.2⟩ (by simpa using h7)

theorem encN_len (l : List Int) : l.length ≤ (encN l).length := by
  induction l with
  | nil => simp
  | cons n l ih => rw [encN_cons]; have := countS_pos (zig n); simp only [List.length_append, List.length_cons]; omega
theorem encT_len (l : List ByteArray) : l.length ≤ (encT l).length ∧ ∀ s ∈ l, s.size ≤ (encT l).length := by
  induction l with
  | nil => simp
  | cons s l ih =>
    rw [encT_cons]
    have := countS_pos s.size
    have hb := bytesOf_length s
    simp only [List.length_append, List.length_cons]
    refine ⟨by omega, fun x hx => ?_⟩
    rcases List.mem_cons.1 hx with rfl | hx
    · omega
    · have := ih.2 x hx; omega

/-- What frame.Decode answers. -/
theorem Decode_ev (b : List Int) (hb : By b) (hl : b.length ≤ 4096) : ∃ R : DRes, (∃ K, ∀ k, K ≤ k → frame_Decode.f k b = some (R)) ∧ ((∃ ns ts, Held ns ts ∧ b = enc ns ts ∧ R = (ns, ts, 0)) ∨ (R = bad ∧ ∀ ns ts, Held ns ts → b ≠ enc ns ts)) := by
  obtain ⟨u, r, ok, ⟨K, hK⟩, ht, hf, hr⟩ := take_ev b hb (by omega)
  cases ok with
  | false =>
    refine ⟨bad, ⟨K + 6, fun k hk => ?_⟩, .inr ⟨rfl, fun ns ts hh e => ?_⟩⟩
    · obtain ⟨k, rfl⟩ : ∃ m, k = m + 5 := ⟨k - 5, by omega⟩
      unfold frame_Decode.f
      rw [if_neg (by omega), hK _ (by omega), Option.bind_some]
      exact dec_off0 _ _ _ _
    · have := hh.1
      exact hf rfl ns.length (encN ns ++ (countS ts.length ++ encT ts)) (by omega) (by rw [e]; simp [enc])
  | true =>
    obtain ⟨v, rfl, hv, e⟩ := ht rfl
    have hbr : By r := by rw [e] at hb; exact hb.right
    have hlen : b.length = (countS v).length + r.length := by rw [e]; simp
    obtain ⟨R, ⟨K2, hK2⟩, hR⟩ := dec_nums r.length r v [] (Nat.le_refl _) hbr (by omega) (by simp; omega) hv
    refine ⟨R, ⟨K + K2, fun k hk => ?_⟩, ?_⟩
    · unfold frame_Decode.f
      rw [if_neg (by omega), hK _ (by omega), Option.bind_some]
      exact hK2 k (by omega)
    · rcases hR with ⟨ns, ts, h3, h3', h4, h5⟩ | ⟨h3, h4⟩
      · refine .inl ⟨ns, ts, ?_, ?_, by rw [h5]; simp⟩
        · have a := encN_len ns
          have t := encT_len ts
          have hle : r.length = (encN ns).length + (countS ts.length).length + (encT ts).length := by rw [h4]; simp; omega
          exact ⟨by omega, h3', by omega, fun s hs => by have := t.2 s hs; omega⟩
        · rw [e, h4, ← h3]; simp [enc]
      · refine .inr ⟨h3, fun ns ts hh e' => ?_⟩
        have := hh.1
        rw [e] at e'
        obtain ⟨h6, h7⟩ := countS_prefix hv (by omega : ns.length < 18446744073709551616) (r' := encN ns ++ countS ts.length ++ encT ts) (by rw [e']; simp [enc])
        exact h4 ns ts h6.symm hh h7

theorem encN_inj : ∀ (a b : List Int) (x y : List Int), a.length = b.length → (∀ n ∈ a, I64 n) → (∀ n ∈ b, I64 n) → encN a ++ x = encN b ++ y → a = b ∧ x = y
  | [], [], x, y, _, _, _, h => ⟨rfl, by simpa [encN] using h⟩
  | [], _ :: _, _, _, h, _, _, _ => by simp at h
  | _ :: _, [], _, _, h, _, _, _ => by simp at h
  | n :: a, m :: b, x, y, hl, ha, hb, h => by
    rw [encN_cons, encN_cons, List.append_assoc, List.append_assoc] at h
    obtain ⟨h1, h2⟩ := countS_prefix (zig_lt (ha n (by simp))) (zig_lt (hb m (by simp))) h
    obtain ⟨h3, h4⟩ := encN_inj a b x y (by simpa using hl) (fun z hz => ha z (by simp [hz])) (fun z hz => hb z (by simp [hz])) h2
    exact ⟨by rw [h3, ← unz_zig n, h1, unz_zig], h4⟩
theorem encT_inj : ∀ (a b : List ByteArray), a.length = b.length → (∀ s ∈ a, s.size ≤ 9223372036854775807) → (∀ s ∈ b, s.size ≤ 9223372036854775807) → encT a = encT b → a = b
  | [], [], _, _, _, _ => rfl
  | [], _ :: _, h, _, _, _ => by simp at h
  | _ :: _, [], h, _, _, _ => by simp at h
  | s :: a, t :: b, hl, ha, hb, h => by
    rw [encT_cons, encT_cons, List.append_assoc, List.append_assoc] at h
    obtain ⟨h1, h2⟩ := countS_prefix (by have := ha s (by simp); omega) (by have := hb t (by simp); omega) h
    obtain ⟨h3, h4⟩ := List.append_inj h2 (by rw [bytesOf_length, bytesOf_length, h1])
    have := encT_inj a b (by simpa using hl) (fun z hz => ha z (by simp [hz])) (fun z hz => hb z (by simp [hz])) h4
    rw [this, ← strOf_bytes s, h3, strOf_bytes]
/-- One data's bytes are no other's. -/
theorem enc_inj {a a' : List Int} {t t' : List ByteArray} (h : Held a t) (h' : Held a' t') (e : enc a t = enc a' t') : a = a' ∧ t = t' := by
  unfold enc at e
  simp only [List.append_assoc] at e
  have := h.1; have := h'.1; have := h.2.2.1; have := h'.2.2.1
  obtain ⟨h1, h2⟩ := countS_prefix (by omega) (by omega) e
  obtain ⟨h3, h4⟩ := encN_inj a a' _ _ h1 h.2.1 h'.2.1 h2
  obtain ⟨h5, h6⟩ := countS_prefix (by omega) (by omega) h4
  exact ⟨h3, encT_inj t t' h5 h.2.2.2 h'.2.2.2 h6⟩

theorem Decode_enc (ns : List Int) (ts : List ByteArray) (hh : Held ns ts) (hl : (enc ns ts).length ≤ 4096) : (∃ K, ∀ k, K ≤ k → frame_Decode.f k (enc ns ts) = some ((ns, ts, 0))) := by
  have hby : By (enc ns ts) := by
    have h1 := hh.1; have h2 := hh.2.2.1
    refine ((((by_countS (by omega)).append ?_).append (by_countS (by omega))).append ?_)
    · intro x hx
      obtain ⟨n, hn, hx⟩ := List.mem_flatMap.1 hx
      exact by_countS (zig_lt (hh.2.1 n hn)) x hx
    · intro x hx
      obtain ⟨s, hs, hx⟩ := List.mem_flatMap.1 hx
      have h3 := hh.2.2.2 s hs
      exact ((by_countS (by omega)).append (by_bytesOf s)) x hx
  obtain ⟨R, hK, hR⟩ := Decode_ev _ hby hl
  rcases hR with ⟨a, t, hh', e, h5⟩ | ⟨_, h4⟩
  · obtain ⟨rfl, rfl⟩ := enc_inj hh hh' e
    rw [h5] at hK
    exact hK
  · exact absurd rfl (h4 ns ts hh)
end Go.Proofs.Ytlpohipneianjaa.Q
