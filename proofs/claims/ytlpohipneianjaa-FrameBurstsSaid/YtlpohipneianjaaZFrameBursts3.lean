/- Ytlpohipneianjaa: lines of the words and functions that the row FrameBursts rests on, and the row. No condition. -/
import Derived.Test.YtlpohipneianjaaZFrameBursts2
section
set_option linter.unusedVariables false
namespace Go.Proofs.Ytlpohipneianjaa.Q
open Go Go.RowKit Go.Proofs.Ytlpohipneianjaa.G Go.Proofs.YtlpohipneianjaaW.PrintWords Go.Proofs.YtlpohipneianjaaW.PrintLast Go.Proofs.YtlpohipneianjaaW.PrintMore
theorem by_enc {ns : List Int} {ts : List ByteArray} (hh : Held ns ts) : By (enc ns ts) := by
  have h1 := hh.1; have h2 := hh.2.2.1
  refine ((((by_countS (by omega)).append ?_).append (by_countS (by omega))).append ?_)
  · intro x hx
    obtain ⟨n, hn, hx⟩ := List.mem_flatMap.1 hx
    exact by_countS (zig_lt (hh.2.1 n hn)) x hx
  · intro x hx
    obtain ⟨s, hs, hx⟩ := List.mem_flatMap.1 hx
    have h3 := hh.2.2.2 s hs
    exact ((by_countS (by omega)).append (by_bytesOf s)) x hx
theorem str_eq {a b : List Int} (ha : By a) (hb : By b) : (strOfNums a).toList = (strOfNums b).toList ↔ a = b :=
  ⟨fun h => by rw [← bytes_strOf a ha, ← bytes_strOf b hb, (toList_inj _ _).1 h], fun h => by rw [h]⟩
theorem frm_assoc (ns : List Int) (ts : List ByteArray) (t : List Int) : frm ns ts ++ t = countS (enc ns ts).length ++ (enc ns ts ++ (fourS (sumS (enc ns ts)) ++ t)) := by simp [frm]
theorem frm_length (ns : List Int) (ts : List ByteArray) : (frm ns ts).length = (countS (enc ns ts).length).length + (enc ns ts).length + 4 := by simp [frm, fourS]; omega
theorem rd_drop (l : List Int) (v i : Nat) : rd l ((v + i : Nat) : Int) = (l.drop v).getD i 0 := by
  simp only [rd, Int.toNat_natCast, List.getD_eq_getElem?_getD, List.getElem?_drop]
theorem first_step (b r x : List Int) (v : Nat) (s : Int) (hv : v ≤ 4096) (hr : v + 4 ≤ r.length) (hs : 0 ≤ s ∧ s < 4294967296) (i : Nat) (hi : i < 4) (k : Nat) :
    frame_First.l0 (k + 1) b (v : Int) r x s (i : Int) = if (r.drop v).getD i 0 = s / 2 ^ (24 - 8 * i) % 256 then frame_First.l0 k b (v : Int) r x s ((i + 1 : Nat) : Int) else some (([] : List Int), ([] : List ByteArray), 0, 3) := by
  by_cases hlen : r.length ≤ 9223372036854775807
  · have e1 : Aside0 (wrap64 (wrap64 (v : Int) + (i : Int)) = ((v + i : Nat) : Int)) := ⟨by rw [w64 (x := (v : Int)) (by omega) (by omega), w64] <;> omega⟩
    have e2 : Aside0 (wrap64 (24 - wrap64 (8 * (i : Int))) = ((24 - 8 * i : Nat) : Int)) := ⟨by rw [w64 (x := 8 * (i : Int)) (by omega) (by omega), w64] <;> omega⟩
    have e3 : shr .u32 s ((24 - 8 * i : Nat) : Int) = s / 2 ^ (24 - 8 * i) := by
      unfold shr
      rw [Int.toNat_natCast, Nat.min_eq_left (by simp only [IntKind.bits]; omega)]
    have e4 : Aside0 (wrap64 ((i : Int) + 1) = ((i + 1 : Nat) : Int)) := ⟨by rw [w64] <;> omega⟩
    rw [frame_First.l0, if_pos (by omega), e1.out, if_pos (by omega), if_pos (by omega), e2.out, if_pos (by omega), e3, e4.out, rd_drop]
  · have e1 : Aside0 (wrap64 (wrap64 (v : Int) + (i : Int)) = ((v + i : Nat) : Int)) := ⟨by rw [w64 (x := (v : Int)) (by omega) (by omega), w64] <;> omega⟩
    have e2 : Aside0 (wrap64 (24 - wrap64 (8 * (i : Int))) = ((24 - 8 * i : Nat) : Int)) := ⟨by rw [w64 (x := 8 * (i : Int)) (by omega) (by omega), w64] <;> omega⟩
    have e3 : shr .u32 s ((24 - 8 * i : Nat) : Int) = s / 2 ^ (24 - 8 * i) := by
      unfold shr
      rw [Int.toNat_natCast, Nat.min_eq_left (by simp only [IntKind.bits]; omega)]
    have e4 : Aside0 (wrap64 ((i : Int) + 1) = ((i + 1 : Nat) : Int)) := ⟨by rw [w64] <;> omega⟩
    rw [frame_First.l0, if_pos (by omega), e1.out, if_pos (by omega), if_pos (by omega), e2.out, if_pos (by omega), e3, e4.out, rd_drop]
theorem first_sum (b r x : List Int) (v : Nat) (s : Int) (hv : v ≤ 4096) (hr : v + 4 ≤ r.length) (hs : 0 ≤ s ∧ s < 4294967296) (k : Nat) :
    frame_First.l0 (k + 4) b (v : Int) r x s 0 = if (r.drop v).take 4 = fourS s then frame_First.l0 k b (v : Int) r x s 4 else some (([] : List Int), ([] : List ByteArray), 0, 3) := by
  have h0 := first_step b r x v s hv hr hs 0 (by omega) (k + 3)
  have h1 := first_step b r x v s hv hr hs 1 (by omega) (k + 2)
  have h2 := first_step b r x v s hv hr hs 2 (by omega) (k + 1)
  have h3 := first_step b r x v s hv hr hs 3 (by omega) k
  have hl : 4 ≤ (r.drop v).length := by rw [List.length_drop]; omega
  generalize r.drop v = t at *
  match t, hl with
  | a :: b' :: c :: d :: tl, _ =>
  have ht : List.take 4 (a :: b' :: c :: d :: tl) = fourS s ↔ a = s / 16777216 % 256 ∧ b' = s / 65536 % 256 ∧ c = s / 256 % 256 ∧ d = s % 256 := by simp [fourS]
  have p24 : (2 : Int) ^ (24 - 8 * 0) = 16777216 := by decide
  have p16 : (2 : Int) ^ (24 - 8 * 1) = 65536 := by decide
  have p8 : (2 : Int) ^ (24 - 8 * 2) = 256 := by decide
  have p0 : (2 : Int) ^ (24 - 8 * 3) = 1 := by decide
  rw [p24] at h0
  rw [p16] at h1
  rw [p8] at h2
  rw [p0, Int.ediv_one] at h3
  have h0' : frame_First.l0 (k + 4) b (v : Int) r x s 0 = if a = s / 16777216 % 256 then frame_First.l0 (k + 3) b (v : Int) r x s 1 else some (([] : List Int), ([] : List ByteArray), 0, 3) := h0
  have h1' : frame_First.l0 (k + 3) b (v : Int) r x s 1 = if b' = s / 65536 % 256 then frame_First.l0 (k + 2) b (v : Int) r x s 2 else some (([] : List Int), ([] : List ByteArray), 0, 3) := h1
  have h2' : frame_First.l0 (k + 2) b (v : Int) r x s 2 = if c = s / 256 % 256 then frame_First.l0 (k + 1) b (v : Int) r x s 3 else some (([] : List Int), ([] : List ByteArray), 0, 3) := h2
  have h3' : frame_First.l0 (k + 1) b (v : Int) r x s 3 = if d = s % 256 then frame_First.l0 k b (v : Int) r x s 4 else some (([] : List Int), ([] : List ByteArray), 0, 3) := h3
  rw [h0', h1', h2', h3']
  by_cases c0 : a = s / 16777216 % 256
  · by_cases c1 : b' = s / 65536 % 256
    · by_cases c2 : c = s / 256 % 256
      · by_cases c3 : d = s % 256
        · rw [if_pos c0, if_pos c1, if_pos c2, if_pos c3, if_pos (ht.2 ⟨c0, c1, c2, c3⟩)]
        · rw [if_pos c0, if_pos c1, if_pos c2, if_neg c3, if_neg (fun e => c3 (ht.1 e).2.2.2)]
      · rw [if_pos c0, if_pos c1, if_neg c2, if_neg (fun e => c2 (ht.1 e).2.2.1)]
    · rw [if_pos c0, if_neg c1, if_neg (fun e => c1 (ht.1 e).2.1)]
  · rw [if_neg c0, if_neg (fun e => c0 (ht.1 e).1)]
def fEnd (b r : List Int) (v : Nat) (R : DRes) : FRes := if R.2.2 = 0 then (R.1, R.2.1, ((b.length - r.length + v + 4 : Nat) : Int), 0) else ([], [], 0, R.2.2)
theorem first_tail (b r : List Int) (v : Nat) (hb : By b) (hl : b.length ≤ 100000) (e : b = countS v ++ r) (hv : v ≤ 4096) (hr : v + 4 ≤ r.length) (R : DRes) (hR : (∃ K, ∀ k, K ≤ k → frame_Decode.f k (r.take v) = some (R))) :
    (∃ K, ∀ k, K ≤ k → frame_First.j0 k b (v : Int) r false = some ((if (r.drop v).take 4 = fourS (sumS (r.take v)) then fEnd b r v R else (([] : List Int), ([] : List ByteArray), 0, 3)))) := by
  have hbr : By r := by rw [e] at hb; exact hb.right
  have hlen : b.length = (countS v).length + r.length := by rw [e]; simp
  have hcl := countS_len10 (u := v) (by omega)
  obtain ⟨K1, h1⟩ := sum_ev (r.take v) (by rw [List.length_take]; omega) (fun x hx => hbr.take v x hx)
  obtain ⟨K2, h2⟩ := hR
  refine ⟨K1 + K2 + 7, fun k hk => ?_⟩
  obtain ⟨k, rfl⟩ : ∃ m, k = m + 6 := ⟨k - 6, by omega⟩
  rw [frame_First.j0, if_neg (by simp), if_pos (by omega), if_pos (by omega), Int.toNat_natCast, h1 _ (by omega), Option.bind_some]
  show frame_First.l0 ((k + 1) + 4) b (v : Int) r (r.take v) (sumS (r.take v)) 0 = _
  rw [first_sum b r _ v _ hv hr (sumS_range _)]
  by_cases h4 : (r.drop v).take 4 = fourS (sumS (r.take v))
  · rw [if_pos h4, if_pos h4, frame_First.l0, if_neg (by omega), h2 _ (by omega), Option.bind_some]
    unfold fEnd
    by_cases h0 : R.2.2 = 0
    · rw [if_pos h0, if_pos h0]
      congr 4
      rw [w64 (x := (b.length : Int) - (r.length : Int)) (by omega) (by omega), w64 (x := (v : Int)) (by omega) (by omega), w64 (x := (b.length : Int) - (r.length : Int) + (v : Int)) (by omega) (by omega), w64 (by omega) (by omega)]
      omega
    · rw [if_neg h0, if_neg h0]
  · rw [if_neg h4, if_neg h4]
theorem ref_tail (b r : List Int) (v : Nat) (hb : By b) (hl : b.length ≤ 100000) (e : b = countS v ++ r) (hv : v ≤ 4096) (hr : v + 4 ≤ r.length) (R : DRes) (hR : (∃ K, ∀ k, K ≤ k → windroseref02_Decode.f k (r.take v) = some (R))) :
    (∃ K, ∀ k, K ≤ k → windroseref02_First.j0 k b (v : Int) ((countS v).length : Int) false = some ((if (r.drop v).take 4 = fourS (sumS (r.take v)) then fEnd b r v R else (([] : List Int), ([] : List ByteArray), 0, 3)))) := by
  have hbr : By r := by rw [e] at hb; exact hb.right
  have hlen : b.length = (countS v).length + r.length := by rw [e]; simp
  have hcl := countS_len10 (u := v) (by omega)
  have hsr := sumS_range (r.take v)
  obtain ⟨K1, h1⟩ := refsum_ev (r.take v) (by rw [List.length_take]; omega) (fun x hx => hbr.take v x hx)
  obtain ⟨K2, h2⟩ := hR
  have w1 : wrap64 (v : Int) = (v : Int) := w64 (by omega) (by omega)
  have w2 : Aside0 (wrap64 (((countS v).length : Int) + (v : Int)) = (((countS v).length + v : Nat) : Int)) := ⟨by rw [w64] <;> omega⟩
  have w3 : Aside0 (wrap64 ((((countS v).length + v : Nat) : Int) + 4) = (((countS v).length + v + 4 : Nat) : Int)) := ⟨by rw [w64] <;> omega⟩
  have c1 : (b.take ((countS v).length + v)).drop (countS v).length = r.take v := by rw [e, List.take_append, List.drop_append]; simp
  have c2 : (b.take ((countS v).length + v + 4)).drop ((countS v).length + v) = (r.drop v).take 4 := by
    rw [List.drop_take, e, List.drop_append, List.drop_of_length_le (by omega)]
    simp only [List.nil_append]
    congr 2 <;> omega
  have hf : windroseref02_four.f (sumS (r.take v)) = some (fourS (sumS (r.take v))) := by
    unfold windroseref02_four.f fourS
    rw [tdiv_nn hsr.1, tdiv_nn hsr.1, tdiv_nn hsr.1]
    congr 2 <;> first | omega | (congr 1 <;> first | omega | (congr 1 <;> omega))
  refine ⟨K1 + K2 + 1, fun k hk => ?_⟩
  obtain ⟨k, rfl⟩ : ∃ m, k = m + 1 := ⟨k - 1, by omega⟩
  rw [windroseref02_First.j0, if_neg (by simp), if_pos (by omega), w1, w2.out, if_pos (by omega), if_pos (by omega), Int.toNat_natCast, Int.toNat_natCast, c1, h1 _ (by omega), Option.bind_some, hf, Option.bind_some, if_pos (by omega), w3.out, if_pos (by omega), if_pos (by omega), Int.toNat_natCast, c2]
  by_cases h4 : (r.drop v).take 4 = fourS (sumS (r.take v))
  · rw [if_pos ((str_eq (by_fourS _) ((hbr.drop v).take 4)).2 h4.symm), if_pos h4, h2 _ (by omega), Option.bind_some]
    unfold fEnd
    by_cases h0 : R.2.2 = 0
    · rw [if_pos h0, if_pos h0]
      congr 4
      omega
    · rw [if_neg h0, if_neg h0]
  · rw [if_neg (fun h => h4 ((str_eq (by_fourS _) ((hbr.drop v).take 4)).1 h).symm), if_neg h4]
theorem both_first (b : List Int) (hb : By b) (hl : b.length ≤ 100000) : ∃ R : FRes, (∃ K, ∀ k, K ≤ k → frame_First.f k b = some (R)) ∧ (∃ K, ∀ k, K ≤ k → windroseref02_First.f k b = some (R)) ∧
    ((∃ ns ts tail, Held ns ts ∧ (enc ns ts).length ≤ 4096 ∧ b = frm ns ts ++ tail ∧ R = (ns, ts, ((frm ns ts).length : Int), 0)) ∨
     (∃ e : Int, e ≠ 0 ∧ R = ([], [], 0, e) ∧ ∀ ns ts tail, Held ns ts → (enc ns ts).length ≤ 4096 → b ≠ frm ns ts ++ tail)) := by
  obtain ⟨u, r, ok, ⟨K, hK⟩, ht, hf, hr⟩ := take_ev b hb hl
  obtain ⟨u', m, ⟨K', hK'⟩, hu', hm, hm10⟩ := Lead_ev b hb hl
  have fJ : ∀ k (u : Int) r, frame_First.j0 (k + 1) b u r true = some (([] : List Int), ([] : List ByteArray), 0, 2) := fun k u r => by rw [frame_First.j0, if_pos rfl]
  have rJ : ∀ k (u m : Int), windroseref02_First.j0 (k + 1) b u m true = some (([] : List Int), ([] : List ByteArray), 0, 2) := fun k u m => by rw [windroseref02_First.j0, if_pos rfl]
  cases ok with
  | false =>
    refine ⟨([], [], 0, 2), ⟨K + 1, fun k hk => ?_⟩, ?_, .inr ⟨2, by decide, rfl, fun ns ts tail hh hle e => hf rfl (enc ns ts).length _ (by omega) (by rw [e, frm_assoc])⟩⟩
    · obtain ⟨k, rfl⟩ : ∃ m, k = m + 1 := ⟨k - 1, by omega⟩
      unfold frame_First.f
      rw [hK _ (by omega), Option.bind_some, if_neg (by simp), fJ]
    · obtain ⟨K2, h2⟩ := refcount (u := u') hu'
      refine ⟨K' + K2 + 1, fun k hk => ?_⟩
      obtain ⟨k, rfl⟩ : ∃ m, k = m + 1 := ⟨k - 1, by omega⟩
      unfold windroseref02_First.f
      rw [hK' _ (by omega), Option.bind_some]
      simp only []
      by_cases c0 : (m : Int) = 0
      · rw [if_pos c0, rJ]
      · rw [if_neg c0]
        by_cases c1 : (u' : Int) > 4096
        · rw [if_pos c1, rJ]
        · have hne : ¬ (strOfNums (countS u')).toList = (strOfNums (b.take m)).toList := by
            intro h
            have h3 := (str_eq (by_countS hu') (hb.take m)).1 h
            exact hf rfl u' (b.drop m) hu' (by rw [h3, List.take_append_drop])
          rw [if_neg c1, h2 _ (by omega), Option.bind_some, if_pos (by omega), if_pos (by omega), Int.toNat_natCast, if_neg hne, rJ]
  | true =>
    obtain ⟨v, rfl, hv, e⟩ := ht rfl
    obtain ⟨K2, h2⟩ := Lead_count v hv r (by rw [← e]; exact hl)
    rw [← e] at h2
    obtain ⟨K3, h3⟩ := refcount (u := v) hv
    have hcl := countS_len10 hv
    have hcp := countS_pos v
    have hbr : By r := by rw [e] at hb; exact hb.right
    have hlen : b.length = (countS v).length + r.length := by rw [e]; simp
    have hst : (strOfNums (countS v)).toList = (strOfNums (b.take (countS v).length)).toList := by
      rw [e, List.take_left]
    have fst : ∀ ns ts tail, Held ns ts → (enc ns ts).length ≤ 4096 → b = frm ns ts ++ tail → v = (enc ns ts).length ∧ r = enc ns ts ++ (fourS (sumS (enc ns ts)) ++ tail) := by
      intro ns ts tail hh hle e'
      rw [e, frm_assoc] at e'
      exact countS_prefix hv (by omega) e'
    by_cases c1 : v ≤ 4096
    · by_cases c2 : v + 4 ≤ r.length
      · have hx : By (r.take v) := hbr.take v
        have hxl : (r.take v).length ≤ 4096 := by rw [List.length_take]; omega
        obtain ⟨R, h4, h5, hR⟩ := both_dec (r.take v) hx hxl
        obtain ⟨K4, h4⟩ := first_tail b r v hb hl e c1 c2 R h4
        obtain ⟨K5, h5⟩ := ref_tail b r v hb hl e c1 c2 R h5
        refine ⟨(if (r.drop v).take 4 = fourS (sumS (r.take v)) then fEnd b r v R else (([] : List Int), ([] : List ByteArray), 0, 3)), ⟨K + K4, fun k hk => ?_⟩, ⟨K2 + K3 + K5, fun k hk => ?_⟩, ?_⟩
        · unfold frame_First.f
          rw [hK _ (by omega), Option.bind_some, if_pos rfl, if_neg (by simp only; omega)]
          simp only []
          rw [w64 (x := (v : Int)) (by omega) (by omega), w64 (x := (v : Int) + 4) (by omega) (by omega), decide_eq_false (by omega)]
          exact h4 k (by omega)
        · unfold windroseref02_First.f
          rw [h2 _ (by omega), Option.bind_some]
          simp only []
          rw [if_neg (by omega), if_neg (by omega), h3 _ (by omega), Option.bind_some, if_pos (by omega), if_pos (by omega), Int.toNat_natCast, if_pos hst,
            w64 (x := (b.length : Int) - ((countS v).length : Int)) (by omega) (by omega), w64 (x := (b.length : Int) - ((countS v).length : Int) - 4) (by omega) (by omega), w64 (x := (v : Int)) (by omega) (by omega), decide_eq_false (by omega)]
          exact h5 k (by omega)
        · by_cases h6 : (r.drop v).take 4 = fourS (sumS (r.take v))
          · rw [if_pos h6]
            rcases hR with ⟨ns, ts, hh, e', rfl⟩ | ⟨rfl, hno⟩
            · have hvl : (enc ns ts).length = v := by rw [← e', List.length_take]; omega
              refine .inl ⟨ns, ts, r.drop (v + 4), hh, by omega, ?_, ?_⟩
              · rw [frm_assoc, ← e', ← h6, ← List.drop_drop, List.take_append_drop, List.take_append_drop, List.length_take, Nat.min_eq_left (by omega)]
                exact e
              · unfold fEnd
                rw [if_pos rfl, frm_length, hvl]
                congr 4
                omega
            · refine .inr ⟨2, by decide, rfl, fun ns ts tail hh hle e' => ?_⟩
              obtain ⟨g1, g2⟩ := fst ns ts tail hh hle e'
              exact hno ns ts hh (by rw [g2, g1, List.take_left])
          · rw [if_neg h6]
            refine .inr ⟨3, by decide, rfl, fun ns ts tail hh hle e' => ?_⟩
            obtain ⟨g1, g2⟩ := fst ns ts tail hh hle e'
            refine h6 ?_
            rw [g2, g1, List.take_left, List.drop_left]
            rfl
      · refine ⟨([], [], 0, 2), ⟨K + 1, fun k hk => ?_⟩, ⟨K2 + K3 + 1, fun k hk => ?_⟩, .inr ⟨2, by decide, rfl, fun ns ts tail hh hle e' => ?_⟩⟩
        · obtain ⟨k, rfl⟩ : ∃ m, k = m + 1 := ⟨k - 1, by omega⟩
          unfold frame_First.f
          rw [hK _ (by omega), Option.bind_some, if_pos rfl, if_neg (by simp only; omega)]
          simp only []
          rw [w64 (x := (v : Int)) (by omega) (by omega), w64 (x := (v : Int) + 4) (by omega) (by omega), decide_eq_true (by omega), fJ]
        · obtain ⟨k, rfl⟩ : ∃ m, k = m + 1 := ⟨k - 1, by omega⟩
          unfold windroseref02_First.f
          rw [h2 _ (by omega), Option.bind_some]
          simp only []
          rw [if_neg (by omega), if_neg (by omega), h3 _ (by omega), Option.bind_some, if_pos (by omega), if_pos (by omega), Int.toNat_natCast, if_pos hst,
            w64 (x := (b.length : Int) - ((countS v).length : Int)) (by omega) (by omega), w64 (x := (b.length : Int) - ((countS v).length : Int) - 4) (by omega) (by omega), w64 (x := (v : Int)) (by omega) (by omega), decide_eq_true (by omega), rJ]
        · obtain ⟨g1, g2⟩ := fst ns ts tail hh hle e'
          have := congrArg List.length g2
          simp only [List.length_append, fourS, List.length_cons, List.length_nil] at this
          omega
    · refine ⟨([], [], 0, 2), ⟨K + 1, fun k hk => ?_⟩, ⟨K2 + 1, fun k hk => ?_⟩, .inr ⟨2, by decide, rfl, fun ns ts tail hh hle e' => ?_⟩⟩
      · obtain ⟨k, rfl⟩ : ∃ m, k = m + 1 := ⟨k - 1, by omega⟩
        unfold frame_First.f
        rw [hK _ (by omega), Option.bind_some, if_pos rfl, if_pos (by simp only; omega), fJ]
      · obtain ⟨k, rfl⟩ : ∃ m, k = m + 1 := ⟨k - 1, by omega⟩
        unfold windroseref02_First.f
        rw [h2 _ (by omega), Option.bind_some]
        simp only []
        rw [if_neg (by omega), if_pos (by omega), rJ]
      · obtain ⟨g1, g2⟩ := fst ns ts tail hh hle e'
        omega
end Go.Proofs.Ytlpohipneianjaa.Q
end
section
set_option linter.unusedVariables false
namespace Go.Proofs.Ytlpohipneianjaa.Q
open Go Go.RowKit Go.Proofs.Ytlpohipneianjaa.G Go.Proofs.YtlpohipneianjaaW.PrintWords Go.Proofs.YtlpohipneianjaaW.PrintLast Go.Proofs.YtlpohipneianjaaW.PrintMore
theorem Frame_ev (ns : List Int) (ts : List ByteArray) (hh : Held ns ts) : (∃ K, ∀ k, K ≤ k → frame_Frame.f k ns ts = some ((if (enc ns ts).length ≤ 4096 then (frm ns ts, 0) else ([], 4)))) := by
  obtain ⟨K1, h1⟩ := Encode_ev ns ts hh
  by_cases hl : (enc ns ts).length ≤ 4096
  · obtain ⟨K2, h2⟩ := sum_ev (enc ns ts) (by omega) (by_enc hh)
    obtain ⟨K3, h3⟩ := Count_ev (enc ns ts).length (by omega)
    have hc := countS_len10 (u := (enc ns ts).length) (by omega)
    refine ⟨K1 + K2 + K3, fun k hk => ?_⟩
    unfold frame_Frame.f
    rw [h1 _ (by omega), Option.bind_some]
    simp only [encR, if_pos hl]
    rw [if_pos trivial, h2 _ (by omega), Option.bind_some, h3 _ (by omega), Option.bind_some, if_pos (by omega), Option.bind_some, Option.bind_some, if_pos (by simp only [List.length_append, List.length_cons, List.length_nil]; omega)]
    rfl
  · refine ⟨K1, fun k hk => ?_⟩
    unfold frame_Frame.f
    rw [h1 _ (by omega), Option.bind_some]
    simp only [encR, if_neg hl]
    rw [if_neg (by decide)]
theorem refFrame_ev (ns : List Int) (ts : List ByteArray) (hh : Held ns ts) (hl : (enc ns ts).length ≤ 4096) : (∃ K, ∀ k, K ≤ k → windroseref02_Frame.f k ns ts = some ((frm ns ts))) := by
  obtain ⟨K1, h1⟩ := Bytes_small ns ts hh hl
  obtain ⟨K2, h2⟩ := refsum_ev (enc ns ts) (by omega) (by_enc hh)
  obtain ⟨K3, h3⟩ := refCount_ev (enc ns ts).length (by omega)
  have hc := countS_len10 (u := (enc ns ts).length) (by omega)
  have hsr := sumS_range (enc ns ts)
  have hf : windroseref02_four.f (sumS (enc ns ts)) = some (fourS (sumS (enc ns ts))) := by
    unfold windroseref02_four.f fourS
    rw [tdiv_nn hsr.1, tdiv_nn hsr.1, tdiv_nn hsr.1]
    congr 2 <;> first | omega | (congr 1 <;> first | omega | (congr 1 <;> omega))
  refine ⟨K1 + K2 + K3, fun k hk => ?_⟩
  unfold windroseref02_Frame.f
  rw [h1 _ (by omega), Option.bind_some, h3 _ (by omega), Option.bind_some, if_pos (by omega), Option.bind_some, h2 _ (by omega), Option.bind_some, hf, Option.bind_some, if_pos (by simp only [List.length_append, fourS, List.length_cons, List.length_nil]; omega)]
  rfl
end Go.Proofs.Ytlpohipneianjaa.Q
end
section
set_option linter.unusedVariables false
namespace Go.Proofs.Ytlpohipneianjaa.Q
open Go Go.RowKit Go.Proofs.Ytlpohipneianjaa.G Go.Proofs.YtlpohipneianjaaW.PrintWords Go.Proofs.YtlpohipneianjaaW.PrintLast
theorem light_loop (nums : List Int) (texts : List ByteArray) (ht : ∀ s ∈ texts, s.size ≤ 9223372036854775807) (d : Nat) : ∀ (i n : Nat), i + d = 400 → n ≤ 10000 → ∃ r, (∃ K, ∀ k, K ≤ k → windroselaw02_Light.l0 k n i nums texts = some (r)) := by
  induction d with
  | zero =>
    intro i n hi hn
    refine ⟨if (nums.length : Int) ≤ 4000 then decide ((texts.length : Int) ≤ 400) else false, 2, fun k hk => ?_⟩
    obtain ⟨k, rfl⟩ : ∃ m, k = m + 2 := ⟨k - 2, by omega⟩
    have e : windroselaw02_Light.l0 (k + 2) (n : Int) (i : Int) nums texts = windroselaw02_Light.j1 (k + 1) (n : Int) (i : Int) false nums texts := by
      rw [windroselaw02_Light.l0]
      split
      · rw [decide_eq_false (by omega)]
      · rfl
    rw [e, windroselaw02_Light.j1, if_neg (by simp)]
    exact (apply_ite some _ _ _).symm
  | succ d ih =>
    intro i n hi hn
    by_cases hl : i < texts.length
    · have hm := ht _ (rdOf_mem texts i hl)
      by_cases hs : (rdOf ByteArray.empty texts i).size + n ≤ 10000
      · obtain ⟨r, K, hK⟩ := ih (i + 1) (n + (rdOf ByteArray.empty texts i).size) (by omega) (by omega)
        refine ⟨r, K + 2, fun k hk => ?_⟩
        obtain ⟨k, rfl⟩ : ∃ m, k = m + 2 := ⟨k - 2, by omega⟩
        rw [windroselaw02_Light.l0, if_pos (by omega), decide_eq_true (by omega), windroselaw02_Light.j1, if_pos rfl, if_pos (by omega), if_pos (by omega), if_neg (by rw [w64] <;> omega),
          show wrap64 ((n : Int) + ((rdOf ByteArray.empty texts i).size : Int)) = ((n + (rdOf ByteArray.empty texts i).size : Nat) : Int) by rw [w64] <;> omega, show wrap64 ((i : Int) + 1) = ((i + 1 : Nat) : Int) by rw [w64] <;> omega]
        exact hK k (by omega)
      · refine ⟨false, 2, fun k hk => ?_⟩
        obtain ⟨k, rfl⟩ : ∃ m, k = m + 2 := ⟨k - 2, by omega⟩
        rw [windroselaw02_Light.l0, if_pos (by omega), decide_eq_true (by omega), windroselaw02_Light.j1, if_pos rfl, if_pos (by omega), if_pos (by omega), if_pos (by rw [w64] <;> omega)]
    · refine ⟨if (nums.length : Int) ≤ 4000 then decide ((texts.length : Int) ≤ 400) else false, 2, fun k hk => ?_⟩
      obtain ⟨k, rfl⟩ : ∃ m, k = m + 2 := ⟨k - 2, by omega⟩
      rw [windroselaw02_Light.l0, if_neg (by omega), windroselaw02_Light.j1, if_neg (by simp)]
      exact (apply_ite some _ _ _).symm
theorem Light_ev (nums : List Int) (texts : List ByteArray) (ht : ∀ s ∈ texts, s.size ≤ 9223372036854775807) : ∃ r, (∃ K, ∀ k, K ≤ k → windroselaw02_Light.f k nums texts = some (r)) := light_loop nums texts ht 400 0 0 (by omega) (by omega)
end Go.Proofs.Ytlpohipneianjaa.Q
end
section
set_option linter.unusedVariables false
namespace Go.Proofs.Ytlpohipneianjaa.Q
open Go Go.RowKit Go.Proofs.Ytlpohipneianjaa.G Go.Proofs.YtlpohipneianjaaW.PrintWords Go.Proofs.YtlpohipneianjaaW.PrintLast Go.Proofs.YtlpohipneianjaaW.PrintMore
def bitIn (b : Bool) : B32 := if b then bit1 else 0#32
def crcb (r : B32) (l : List Bool) : B32 := l.foldl (fun r b => T (r ^^^ bitIn b)) r
def topb : Nat → Nat → List Bool
  | 0, _ => []
  | n + 1, x => decide (128 ≤ x) :: topb n (2 * x % 256)
def bitsB (l : List Int) : List Bool := l.flatMap fun c => topb 8 c.toNat
theorem topb_length (n : Nat) : ∀ x, (topb n x).length = n := by
  induction n with
  | zero => intro x; rfl
  | succ n ih => intro x; simp [topb, ih]
theorem bitsB_length (l : List Int) : (bitsB l).length = 8 * l.length := by
  induction l with
  | nil => rfl
  | cons c l ih => simp only [bitsB, List.flatMap_cons, List.length_append, topb_length, List.length_cons] at *; omega
theorem bitsB_cons (c : Int) (l : List Int) : bitsB (c :: l) = topb 8 c.toNat ++ bitsB l := by simp [bitsB]
theorem crcb_append (r : B32) (a b : List Bool) : crcb r (a ++ b) = crcb (crcb r a) b := by simp [crcb]
theorem crcb_cons (r : B32) (a : Bool) (b : List Bool) : crcb r (a :: b) = crcb (T (r ^^^ bitIn a)) b := rfl
theorem iter_bits (n : Nat) : ∀ (x : Nat) (r : B32), x < 256 → x * 2 ^ n % 256 = 0 → iter n (r ^^^ high x) = crcb r (topb n x) := by
  induction n with
  | zero =>
    intro x r h h0
    obtain rfl : x = 0 := by simp at h0; omega
    simp [iter, topb, crcb, high]
  | succ n ih =>
    intro x r h h0
    show iter n (T (r ^^^ high x)) = _
    rw [T_byte r x h, topb, crcb_cons, ih (2 * x % 256) _ (by omega) (by rw [Nat.mod_mul_mod, Nat.mul_comm 2 x, Nat.mul_assoc, Nat.mul_comm 2 (2 ^ n), ← Nat.pow_succ]; exact h0)]
    unfold bitIn
    simp only [decide_eq_true_eq]
theorem byteStep_bits (r : B32) (c : Int) (h : 0 ≤ c ∧ c ≤ 255) : byteStep r c = crcb r (topb 8 c.toNat) := iter_bits 8 c.toNat r (by omega) (by omega)
theorem crc_bits (l : List Int) (h : ∀ x ∈ l, 0 ≤ x ∧ x ≤ 255) : ∀ r, crc r l = crcb r (bitsB l) := by
  induction l with
  | nil => intro r; rfl
  | cons c l ih =>
    intro r
    rw [bitsB_cons, crcb_append, ← byteStep_bits r c (h c (by simp)), ← ih (fun x hx => h x (by simp [hx]))]
    rfl
theorem T_zero {s : B32} (h : T s = 0#32) : s = 0#32 := by
  unfold T at h
  have hs := s.isLt
  by_cases hm : s.msb = true
  · rw [if_pos hm] at h
    have h1 : s <<< 1 = poly := by
      have := congrArg (· ^^^ poly) h
      simp only [BitVec.xor_assoc, BitVec.xor_self, BitVec.xor_zero, BitVec.zero_xor] at this
      exact this
    have h2 := congrArg BitVec.toNat h1
    rw [poly_nat, BitVec.toNat_shiftLeft, Nat.shiftLeft_eq] at h2
    omega
  · rw [if_neg hm] at h
    have h2 := congrArg BitVec.toNat h
    rw [BitVec.toNat_shiftLeft, Nat.shiftLeft_eq] at h2
    have h3 : ¬ (s.toNat : Int) / 2147483648 = 1 := fun e => hm ((msb_iff s).2 e)
    apply BitVec.eq_of_toNat_eq
    simp only [BitVec.toNat_ofNat] at *
    omega
theorem xor_zero_eq {a b : B32} (h : a ^^^ b = 0#32) : a = b := by
  have := congrArg (· ^^^ b) h
  simpa only [BitVec.xor_assoc, BitVec.xor_self, BitVec.xor_zero, BitVec.zero_xor] using this
theorem T_inj {a b : B32} (h : T a = T b) : a = b := xor_zero_eq (T_zero (by rw [T_xor, h, BitVec.xor_self]))
theorem iter_inj (n : Nat) : ∀ {a b : B32}, iter n a = iter n b → a = b := by
  induction n with
  | zero => intro a b h; exact h
  | succ n ih => intro a b h; exact T_inj (ih h)
theorem xor_right {a b c : B32} (h : a ^^^ c = b ^^^ c) : a = b := by
  have := congrArg (· ^^^ c) h
  simpa only [BitVec.xor_assoc, BitVec.xor_self, BitVec.xor_zero] using this
theorem xor_left {a b c : B32} (h : c ^^^ a = c ^^^ b) : a = b := by rw [BitVec.xor_comm c a, BitVec.xor_comm c b] at h; exact xor_right h
theorem crcb_inj (l : List Bool) : ∀ {a b : B32}, crcb a l = crcb b l → a = b := by
  induction l with
  | nil => intro a b h; exact h
  | cons x l ih => intro a b h; exact xor_right (T_inj (ih h))
def wordB : List Bool → Nat
  | [] => 0
  | b :: l => (if b then 2147483648 else 0) + wordB l / 2
theorem wordB_lt (l : List Bool) : wordB l < 4294967296 := by
  induction l with
  | nil => simp [wordB]
  | cons b l ih => unfold wordB; split <;> omega
theorem wordB_low (l : List Bool) : ∀ n, n + l.length ≤ 32 → wordB l % 2 ^ n = 0 := by
  induction l with
  | nil => intro n _; simp [wordB]
  | cons b l ih =>
    intro n h
    simp only [List.length_cons] at h
    have h1 := ih (n + 1) (by omega)
    have h2 : wordB l / 2 % 2 ^ n = 0 := by
      rw [Nat.pow_succ, Nat.mul_comm, Nat.mod_mul] at h1
      omega
    unfold wordB
    have h3 : 2147483648 % 2 ^ n = 0 := by
      obtain ⟨m, hm⟩ : ∃ m, 31 = n + m := ⟨31 - n, by omega⟩
      rw [show 2147483648 = 2 ^ 31 by decide, hm, Nat.pow_add]
      exact Nat.mul_mod_right _ _
    split
    · rw [Nat.add_mod, h3, h2]; simp
    · simpa using h2
theorem T_half (x : Nat) (h : x < 4294967296) (h0 : x % 2 = 0) : T (BitVec.ofNat 32 (x / 2)) = BitVec.ofNat 32 x := by
  have hm : ¬ (BitVec.ofNat 32 (x / 2)).msb = true := by
    rw [msb_iff, BitVec.toNat_ofNat]
    omega
  unfold T
  rw [if_neg hm]
  apply BitVec.eq_of_toNat_eq
  rw [BitVec.toNat_shiftLeft, Nat.shiftLeft_eq]
  simp only [BitVec.toNat_ofNat]
  omega
theorem word_cons (b : Bool) (l : List Bool) : BitVec.ofNat 32 (wordB (b :: l)) = bitIn b ^^^ BitVec.ofNat 32 (wordB l / 2) := by
  have hl := wordB_lt l
  show BitVec.ofNat 32 ((if b then 2147483648 else 0) + wordB l / 2) = _
  unfold bitIn
  cases b
  · simp
  · simp only [if_true]
    have e : ∀ y : Nat, y < 2147483648 → BitVec.ofNat 32 (2147483648 + y) = bit1 ^^^ BitVec.ofNat 32 y := by
      intro y hy
      apply BitVec.eq_of_toNat_eq
      rw [BitVec.toNat_xor]
      unfold bit1
      simp only [BitVec.toNat_ofNat]
      rw [Nat.mod_eq_of_lt (by omega : 2147483648 + y < 2 ^ 32), Nat.mod_eq_of_lt (by omega : 2147483648 < 2 ^ 32), Nat.mod_eq_of_lt (by omega : y < 2 ^ 32)]
      rw [show 2147483648 = 2 ^ 31 * 1 by decide]
      apply Nat.eq_of_testBit_eq
      intro i
      rw [Nat.testBit_xor, Nat.testBit_two_pow_mul_add _ (by omega : y < 2 ^ 31)]
      rw [Nat.mul_one, Nat.testBit_two_pow]
      by_cases hi : i < 31
      · have : ¬ 31 = i := by omega
        simp [hi, this]
      · have : y.testBit i = false := Nat.testBit_lt_two_pow (Nat.lt_of_lt_of_le (by omega : y < 2 ^ 31) (Nat.pow_le_pow_right (by omega) (by omega)))
        simp [hi, this]
        by_cases h31 : i = 31
        · subst h31; rfl
        · have e1 : (1 : Nat).testBit (i - 31) = false := by
            obtain ⟨m, hm⟩ : ∃ m, i - 31 = m + 1 := ⟨i - 32, by omega⟩
            rw [hm, Nat.testBit_succ]
            simp
          rw [e1]
          simp
          omega
    exact e _ (by omega)
theorem crcb_word (l : List Bool) : ∀ r, l.length ≤ 32 → crcb r l = iter l.length (r ^^^ BitVec.ofNat 32 (wordB l)) := by
  induction l with
  | nil => intro r _; simp [crcb, iter, wordB]
  | cons b l ih =>
    intro r h
    simp only [List.length_cons] at h
    have h0 := wordB_low l 1 (by omega)
    rw [crcb_cons, ih _ (by omega), word_cons]
    show _ = iter l.length (T _)
    rw [← BitVec.xor_assoc, T_xor (r ^^^ bitIn b), T_half _ (wordB_lt l) (by simpa using h0)]
theorem wordB_inj (a : List Bool) : ∀ b : List Bool, a.length = b.length → a.length ≤ 32 → wordB a = wordB b → a = b := by
  induction a with
  | nil => intro b h _ _; exact (List.eq_nil_of_length_eq_zero h.symm).symm
  | cons x a ih =>
    intro b h h32 hw
    cases b with
    | nil => simp at h
    | cons y b =>
      simp only [List.length_cons] at h h32
      have ha := wordB_lt a
      have hb := wordB_lt b
      have a0 := wordB_low a 1 (by omega)
      have b0 := wordB_low b 1 (by omega)
      simp only [wordB] at hw
      have hxy : x = y := by cases x <;> cases y <;> simp at hw ⊢ <;> omega
      subst hxy
      rw [ih b (by omega) (by omega) (by cases x <;> simp at hw <;> omega)]
theorem burst (r : B32) (p x y s : List Bool) (hl : x.length = y.length) (h32 : x.length ≤ 32) (h : crcb r (p ++ x ++ s) = crcb r (p ++ y ++ s)) : x = y := by
  rw [crcb_append, crcb_append, crcb_append _ _ s, crcb_append _ p y] at h
  have h1 := crcb_inj s h
  rw [crcb_word x _ h32, crcb_word y _ (by omega), hl] at h1
  have h2 := xor_left (iter_inj _ h1)
  refine wordB_inj x y hl h32 ?_
  have h3 := congrArg BitVec.toNat h2
  simp only [BitVec.toNat_ofNat] at h3
  have := wordB_lt x
  have := wordB_lt y
  omega
end Go.Proofs.Ytlpohipneianjaa.Q
end
section
set_option linter.unusedVariables false
namespace Go.Proofs.Ytlpohipneianjaa.Q
open Go Go.RowKit Go.Proofs.Ytlpohipneianjaa.G Go.Proofs.YtlpohipneianjaaW.PrintWords Go.Proofs.YtlpohipneianjaaW.PrintLast
theorem or_nat (q u : Nat) (hu : u < 2 ^ 24) : 2 ^ 24 * q + u = (2 ^ 24 * q) ^^^ u := by
  apply Nat.eq_of_testBit_eq
  intro i
  rw [Nat.testBit_xor, Nat.testBit_two_pow_mul_add _ hu, Nat.testBit_two_pow_mul]
  by_cases hi : i < 24
  · have : ¬ 24 ≤ i := by omega
    simp [hi, this]
  · have h1 : u.testBit i = false := Nat.testBit_lt_two_pow (Nat.lt_of_lt_of_le hu (Nat.pow_le_pow_right (by omega) (by omega)))
    have h2 : 24 ≤ i := by omega
    simp [hi, h1, h2]
theorem or_apart (q u : Nat) (hq : q * 16777216 < 4294967296) (hu : u < 16777216) : BitVec.ofNat 32 (q * 16777216 + u) = BitVec.ofNat 32 (q * 16777216) ^^^ BitVec.ofNat 32 u := by
  have e0 : q * 16777216 < 2 ^ 32 := hq
  have h1 : q + 1 ≤ 256 := Nat.lt_of_mul_lt_mul_right (a := 16777216) (show q * 16777216 < 256 * 16777216 from hq)
  have h2 : (q + 1) * 16777216 ≤ 2 ^ 32 := Nat.mul_le_mul_right 16777216 h1
  have h3 : q * 16777216 + u < (q + 1) * 16777216 := by rw [Nat.add_mul, Nat.one_mul]; exact Nat.add_lt_add_left hu _
  have e1 : q * 16777216 + u < 2 ^ 32 := Nat.lt_of_lt_of_le h3 h2
  have e2 : u < 2 ^ 32 := Nat.lt_of_lt_of_le hu (by decide)
  have h := or_nat q u hu
  have e : (2 : Nat) ^ 24 * q = q * 16777216 := Nat.mul_comm _ _
  rw [e] at h
  rw [h]
  apply BitVec.eq_of_toNat_eq
  rw [BitVec.toNat_xor]
  simp only [BitVec.toNat_ofNat]
  rw [h] at e1
  rw [Nat.mod_eq_of_lt e1, Nat.mod_eq_of_lt e0, Nat.mod_eq_of_lt e2]
theorem iter_low (n : Nat) : ∀ u : Nat, u * 2 ^ n < 4294967296 → iter n (BitVec.ofNat 32 u) = BitVec.ofNat 32 (u * 2 ^ n) := by
  induction n with
  | zero => intro u _; simp [iter]
  | succ n ih =>
    intro u h
    have h2 : u * 2 ^ (n + 1) = (2 * u) * 2 ^ n := by rw [Nat.pow_succ, Nat.mul_comm (2 ^ n) 2, ← Nat.mul_assoc, Nat.mul_comm u 2]
    have h1 : 2 * u < 4294967296 := by
      have : 2 * u * 1 ≤ (2 * u) * 2 ^ n := Nat.mul_le_mul (Nat.le_refl _) (Nat.pow_pos (by omega))
      omega
    have ht := T_half (2 * u) h1 (by omega)
    rw [show 2 * u / 2 = u by omega] at ht
    show iter n (T _) = _
    rw [ht, ih (2 * u) (by omega), h2]
theorem byte_top (s : Nat) (h : s < 4294967296) : byteStep (BitVec.ofNat 32 s) ((s / 16777216 : Nat) : Int) = BitVec.ofNat 32 (s % 16777216 * 256) := by
  unfold byteStep high
  rw [Int.toNat_natCast]
  have e := or_apart (s / 16777216) (s % 16777216) (by omega) (by omega)
  rw [show s / 16777216 * 16777216 + s % 16777216 = s by omega] at e
  rw [e, BitVec.xor_comm (BitVec.ofNat 32 (s / 16777216 * 16777216)), BitVec.xor_assoc, BitVec.xor_self, BitVec.xor_zero]
  exact iter_low 8 _ (by omega)
theorem crc_four (s : Nat) (h : s < 4294967296) : crc (BitVec.ofNat 32 s) (fourS s) = 0#32 := by
  have e1 : (s : Int) / 16777216 % 256 = ((s / 16777216 : Nat) : Int) := by omega
  have e2 : (s : Int) / 65536 % 256 = ((s % 16777216 * 256 / 16777216 : Nat) : Int) := by omega
  have e3 : (s : Int) / 256 % 256 = ((s % 16777216 * 256 % 16777216 * 256 / 16777216 : Nat) : Int) := by omega
  have e4 : (s : Int) % 256 = ((s % 16777216 * 256 % 16777216 * 256 % 16777216 * 256 / 16777216 : Nat) : Int) := by omega
  unfold crc fourS
  rw [e1, e2, e3, e4]
  simp only [List.foldl_cons, List.foldl_nil]
  rw [byte_top s h, byte_top _ (by omega), byte_top _ (by omega), byte_top _ (by omega)]
  rw [show s % 16777216 * 256 % 16777216 * 256 % 16777216 * 256 % 16777216 * 256 = 0 by omega]
theorem sum_zero (e : List Int) (he : By e) : crcb 0xFFFFFFFF#32 (bitsB (e ++ fourS (sumS e))) = 0#32 := by
  have hb : By (e ++ fourS (sumS e)) := he.append (by_fourS _)
  rw [← crc_bits _ hb]
  have : crc 0xFFFFFFFF#32 (e ++ fourS (sumS e)) = crc (crc 0xFFFFFFFF#32 e) (fourS (sumS e)) := by simp [crc]
  rw [this]
  have h := crc_four (crc 0xFFFFFFFF#32 e).toNat (crc 0xFFFFFFFF#32 e).isLt
  rw [BitVec.ofNat_toNat, BitVec.setWidth_eq] at h
  exact h
theorem flip_byte : ∀ (x : Fin 256) (r : Fin 8), topb 8 (x.val ^^^ 2 ^ (7 - r.val)) = (topb 8 x.val).set r.val (!(topb 8 x.val).getD r.val false) := by decide +kernel
theorem flip_range : ∀ (x : Fin 256) (r : Fin 8), x.val ^^^ 2 ^ (7 - r.val) < 256 := by decide +kernel
theorem flip_go : ∀ (x : Fin 256) (r : Fin 8), Go.bits .xor .u8 (x.val : Int) ((2 ^ (7 - r.val) : Nat) : Int) = ((x.val ^^^ 2 ^ (7 - r.val) : Nat) : Int) := by decide +kernel
theorem flip_shl : ∀ r : Fin 8, shl .u8 1 ((7 - r.val : Nat) : Int) = ((2 ^ (7 - r.val) : Nat) : Int) := by decide +kernel
theorem flip_bits (r : Nat) (hr : r < 8) : ∀ (l : List Int) (q : Nat), By l → q < l.length → bitsB (l.set q (((rd l (q : Nat)).toNat ^^^ 2 ^ (7 - r) : Nat) : Int)) = (bitsB l).set (8 * q + r) (!(bitsB l).getD (8 * q + r) false)
  | [], q, _, h => by simp at h
  | c :: l, 0, hb, _ => by
    have hc := hb c (by simp)
    have h := flip_byte ⟨c.toNat, by omega⟩ ⟨r, hr⟩
    have hl := topb_length 8 c.toNat
    simp only at h
    have e : rd (c :: l) ((0 : Nat) : Int) = c := rfl
    rw [e, List.set_cons_zero, bitsB_cons, bitsB_cons, Int.toNat_natCast, h, Nat.mul_zero, Nat.zero_add, List.set_append_left _ _ (by omega), List.getD_eq_getElem?_getD, List.getD_eq_getElem?_getD, List.getElem?_append_left (by omega)]
  | c :: l, q + 1, hb, hq => by
    have hl := topb_length 8 c.toNat
    have ih := flip_bits r hr l q (fun x hx => hb x (by simp [hx])) (by simpa using hq)
    have e : rd (c :: l) ((q + 1 : Nat) : Int) = rd l (q : Nat) := by simp [rd]
    rw [e, List.set_cons_succ, bitsB_cons, bitsB_cons, ih, List.set_append_right _ _ (by omega), List.getD_eq_getElem?_getD, List.getD_eq_getElem?_getD, List.getElem?_append_right (by omega), hl]
    rw [show 8 * (q + 1) + r - 8 = 8 * q + r by omega]
structure St (m mi : List Int) (k i : Nat) (y : List Bool) (t : Bool) : Prop where
  by_ : By mi
  len : mi.length = m.length
  ylen : y.length = i
  eq : bitsB mi = (bitsB m).take k ++ y ++ (bitsB m).drop (k + i)
  no : t = false → mi = m ∧ y = ((bitsB m).drop k).take i
  yes : t = true → y ≠ ((bitsB m).drop k).take i
theorem take_snoc (M : List Bool) (k i : Nat) (h : k + i < M.length) : (M.drop k).take (i + 1) = (M.drop k).take i ++ [M.getD (k + i) false] := by
  have hl : i < (M.drop k).length := by rw [List.length_drop]; omega
  rw [List.take_succ_eq_append_getElem hl, List.getElem_drop, List.getD_eq_getElem?_getD, List.getElem?_eq_getElem h]
  rfl
theorem drop_cons (M : List Bool) (j : Nat) (h : j < M.length) : M.drop j = M.getD j false :: M.drop (j + 1) := drop_getD M j false h
theorem st_keep {m mi : List Int} {k i : Nat} {y : List Bool} {t : Bool} (h : St m mi k i y t) (hk : k + i < 8 * m.length) : St m mi k (i + 1) (y ++ [(bitsB m).getD (k + i) false]) t := by
  have hM := bitsB_length m
  refine ⟨h.by_, h.len, by simp [h.ylen], ?_, fun ht => ⟨(h.no ht).1, ?_⟩, fun ht e => h.yes ht ?_⟩
  · rw [h.eq, drop_cons _ (k + i) (by omega)]; simp [Nat.add_assoc]
  · rw [take_snoc _ _ _ (by omega), ← (h.no ht).2]
  · rw [take_snoc _ _ _ (by omega)] at e
    exact (List.append_inj e (by rw [h.ylen, List.length_take, List.length_drop]; omega)).1
theorem st_flip {m mi : List Int} {k i : Nat} {y : List Bool} {t : Bool} (h : St m mi k i y t) (hm : By m) (hk : k + i < 8 * m.length) :
    St m (mi.set ((k + i) / 8) (((rd mi (((k + i) / 8 : Nat) : Int)).toNat ^^^ 2 ^ (7 - (k + i) % 8) : Nat) : Int)) k (i + 1) (y ++ [!(bitsB m).getD (k + i) false]) true := by
  have hM := bitsB_length m
  have hlen := h.len
  have hx := h.by_ _ (rd_mem mi ((k + i) / 8) (by omega))
  have hf := flip_bits ((k + i) % 8) (by omega) mi ((k + i) / 8) h.by_ (by omega)
  have e8 : 8 * ((k + i) / 8) + (k + i) % 8 = k + i := by omega
  rw [e8] at hf
  have hyl := h.ylen
  have hAy : ((bitsB m).take k ++ y).length = k + i := by rw [List.length_append, List.length_take]; omega
  have hg : (bitsB mi).getD (k + i) false = (bitsB m).getD (k + i) false := by
    rw [h.eq, List.getD_eq_getElem?_getD, List.getElem?_append_right (by omega), hAy, Nat.sub_self, drop_cons _ (k + i) (by omega)]
    rfl
  have hnew : bitsB (mi.set ((k + i) / 8) (((rd mi (((k + i) / 8 : Nat) : Int)).toNat ^^^ 2 ^ (7 - (k + i) % 8) : Nat) : Int)) = (bitsB m).take k ++ (y ++ [!(bitsB m).getD (k + i) false]) ++ (bitsB m).drop (k + (i + 1)) := by
    rw [hf, hg, h.eq, List.set_append_right _ _ (by omega), hAy, Nat.sub_self, drop_cons _ (k + i) (by omega), List.set_cons_zero]
    simp [Nat.add_assoc]
  refine ⟨fun z hz => ?_, by simp [hlen], by simp [hyl], hnew, (fun ht => by cases ht), fun _ e => ?_⟩
  · rcases List.mem_or_eq_of_mem_set hz with hz | rfl
    · exact h.by_ z hz
    · have := flip_range ⟨(rd mi (((k + i) / 8 : Nat) : Int)).toNat, by omega⟩ ⟨(k + i) % 8, by omega⟩
      simp only at this
      omega
  · rw [take_snoc _ _ _ (by omega)] at e
    have := (List.append_inj e (by rw [hyl, List.length_take, List.length_drop]; omega)).2
    simp at this
theorem burst_end (ns : List Int) (ts : List ByteArray) (hh : Held ns ts) (hl : (enc ns ts).length ≤ 4096) (mi : List Int) (k i : Nat) (y : List Bool) (t : Bool) (hi : i ≤ 32) (h : St (enc ns ts ++ fourS (sumS (enc ns ts))) mi k i y t) :
    ∃ R : FRes, (∃ K, ∀ k, K ≤ k → frame_First.f k (countS (enc ns ts).length ++ mi) = some (R)) ∧ ((R.2.2.2 == 0) != t) = true := by
  have hml : (enc ns ts ++ fourS (sumS (enc ns ts))).length = (enc ns ts).length + 4 := by simp [fourS]
  have hcl := countS_len10 (u := (enc ns ts).length) (by omega)
  have hlen := h.len
  obtain ⟨R, hR, _, hc⟩ := both_first (countS (enc ns ts).length ++ mi) ((by_countS (by omega)).append h.by_) (by rw [List.length_append]; omega)
  refine ⟨R, hR, ?_⟩
  cases t with
  | false =>
    obtain ⟨rfl, _⟩ := h.no rfl
    rcases hc with ⟨a, b, tail, _, _, _, rfl⟩ | ⟨e, _, _, hno⟩
    · rfl
    · exact absurd (by rw [frm_assoc]; simp) (hno ns ts [] hh hl)
  | true =>
    rcases hc with ⟨a, b, tail, ha, hal, e, rfl⟩ | ⟨e, he, rfl, _⟩
    · exfalso
      rw [frm_assoc] at e
      obtain ⟨h1, h2⟩ := countS_prefix (by omega) (by omega) e
      have h3 := congrArg List.length h2
      rw [hlen, hml] at h3
      simp only [List.length_append, fourS, List.length_cons, List.length_nil] at h3
      obtain rfl : tail = [] := List.eq_nil_of_length_eq_zero (by omega)
      rw [List.append_nil] at h2
      have z1 := sum_zero (enc ns ts) (by_enc hh)
      have z2 := sum_zero (enc a b) (by_enc ha)
      rw [← h2, h.eq] at z2
      have e3 : bitsB (enc ns ts ++ fourS (sumS (enc ns ts))) = (bitsB (enc ns ts ++ fourS (sumS (enc ns ts)))).take k ++ ((bitsB (enc ns ts ++ fourS (sumS (enc ns ts)))).drop k).take i ++ (bitsB (enc ns ts ++ fourS (sumS (enc ns ts)))).drop (k + i) := by
        rw [List.append_assoc, ← List.drop_drop, List.take_append_drop, List.take_append_drop]
      rw [e3] at z1
      have hlens := congrArg List.length h.eq
      rw [bitsB_length] at hlens
      refine h.yes rfl (burst 0xFFFFFFFF#32 _ _ _ _ ?_ (by rw [h.ylen]; exact hi) (z2.trans z1.symm))
      rw [h.ylen, List.length_take, List.length_drop]
      simp only [List.length_append, List.length_take, List.length_drop, h.ylen, bitsB_length, hlen, fourS, List.length_cons, List.length_nil] at hlens ⊢
      omega
    · simp [he]
theorem burst_loop (ns : List Int) (ts : List ByteArray) (hh : Held ns ts) (hl : (enc ns ts).length ≤ 4096) (pat : Int) (p : Nat) (hk : p < 8 * ((enc ns ts).length + 4)) (d : Nat) : ∀ (i : Nat) (mi : List Int) (y : List Bool) (t : Bool), i + d = 32 → p + i ≤ 8 * ((enc ns ts).length + 4) →
    St (enc ns ts ++ fourS (sumS (enc ns ts))) mi p i y t →
    (∃ K, ∀ k, K ≤ k → windroselaw02_FrameBursts.l0 k pat (countS (enc ns ts).length ++ mi) ((countS (enc ns ts).length).length : Int) ((8 * ((enc ns ts).length + 4) : Nat) : Int) (p : Int) t i = some (true)) := by
  obtain ⟨K1, ha⟩ := awake02_ev
  have hml : (enc ns ts ++ fourS (sumS (enc ns ts))).length = (enc ns ts).length + 4 := by simp [fourS]
  have hmb : By (enc ns ts ++ fourS (sumS (enc ns ts))) := (by_enc hh).append (by_fourS _)
  have hcl := countS_len10 (u := (enc ns ts).length) (by omega)
  have stop : ∀ (i : Nat) (mi : List Int) (y : List Bool) (t : Bool), i ≤ 32 → ¬ (i < 32 ∧ p + i < 8 * ((enc ns ts).length + 4)) → St (enc ns ts ++ fourS (sumS (enc ns ts))) mi p i y t →
      (∃ K, ∀ k, K ≤ k → windroselaw02_FrameBursts.l0 k pat (countS (enc ns ts).length ++ mi) ((countS (enc ns ts).length).length : Int) ((8 * ((enc ns ts).length + 4) : Nat) : Int) (p : Int) t i = some (true)) := by
    intro i mi y t hi hs h
    obtain ⟨R, ⟨K2, h2⟩, h3⟩ := burst_end ns ts hh hl mi p i y t hi h
    have ew : Aside0 (wrap64 ((p : Int) + (i : Int)) = ((p + i : Nat) : Int)) := ⟨by rw [w64] <;> omega⟩
    refine ⟨K1 + K2 + 2, fun q hq => ?_⟩
    obtain ⟨q, rfl⟩ : ∃ m, q = m + 2 := ⟨q - 2, by omega⟩
    have e : windroselaw02_FrameBursts.l0 (q + 2) pat (countS (enc ns ts).length ++ mi) ((countS (enc ns ts).length).length : Int) ((8 * ((enc ns ts).length + 4) : Nat) : Int) (p : Int) t i = windroselaw02_FrameBursts.j3 (q + 1) pat (countS (enc ns ts).length ++ mi) ((countS (enc ns ts).length).length : Int) ((8 * ((enc ns ts).length + 4) : Nat) : Int) (p : Int) t i false := by
      rw [windroselaw02_FrameBursts.l0]
      by_cases h1 : i < 32
      · rw [if_pos (by omega), ew.out, decide_eq_false (by omega)]
      · rw [if_neg (by omega)]
    rw [e, windroselaw02_FrameBursts.j3, if_neg (by simp), h2 _ (by omega), Option.bind_some, if_pos h3, ha _ (by omega)]
    rfl
  induction d with
  | zero => intro i mi y t hi hki h; exact stop i mi y t (by omega) (by omega) h
  | succ d ih =>
    intro i mi y t hi hki h
    by_cases hs : p + i < 8 * ((enc ns ts).length + 4)
    · have hlen := h.len
      have ew : Aside0 (wrap64 ((p : Int) + (i : Int)) = ((p + i : Nat) : Int)) := ⟨by rw [w64] <;> omega⟩
      have ei : Aside0 (wrap64 ((i : Int) + 1) = ((i + 1 : Nat) : Int)) := ⟨by rw [w64] <;> omega⟩
      have eu : Aside0 (IntKind.u64.wrap (i : Int) = (i : Int)) := ⟨wraps_u64 _ (by omega) (by omega)⟩
      have eq_ : Aside0 (wrap64 (((countS (enc ns ts).length).length : Int) + wrap64 (Int.tdiv ((p + i : Nat) : Int) 8)) = (((countS (enc ns ts).length).length + (p + i) / 8 : Nat) : Int)) := ⟨by
        rw [tdiv_nn (by omega), w64 (x := ((p + i : Nat) : Int) / 8) (by omega) (by omega), w64 (by omega) (by omega)]; omega⟩
      have es : Aside0 (IntKind.u64.wrap (wrap64 (7 - Int.tmod ((p + i : Nat) : Int) 8)) = ((7 - (p + i) % 8 : Nat) : Int)) := ⟨by
        rw [tmod_nn (by omega), w64 (by omega) (by omega), wraps_u64 _ (by omega) (by omega)]; omega⟩
      by_cases hb : Int.tmod (shr .u32 pat (i : Int)) 2 = 1
      · have hst := st_flip h hmb (by omega)
        obtain ⟨K, hK⟩ := ih (i + 1) _ _ true (by omega) (by omega) hst
        have hrd : rd (countS (enc ns ts).length ++ mi) (((countS (enc ns ts).length).length + (p + i) / 8 : Nat) : Int) = rd mi (((p + i) / 8 : Nat) : Int) := by
          simp only [rd, Int.toNat_natCast]
          rw [List.getD_eq_getElem?_getD, List.getElem?_append_right (by omega), Nat.add_sub_cancel_left, ← List.getD_eq_getElem?_getD]
        have hx := h.by_ _ (rd_mem mi ((p + i) / 8) (by omega))
        have hfl := flip_go ⟨(rd mi (((p + i) / 8 : Nat) : Int)).toNat, by omega⟩ ⟨(p + i) % 8, by omega⟩
        have hsh := flip_shl ⟨(p + i) % 8, by omega⟩
        simp only at hfl hsh
        rw [Int.toNat_of_nonneg hx.1] at hfl
        have hset : (countS (enc ns ts).length ++ mi).set ((countS (enc ns ts).length).length + (p + i) / 8) (((rd mi (((p + i) / 8 : Nat) : Int)).toNat ^^^ 2 ^ (7 - (p + i) % 8) : Nat) : Int) = countS (enc ns ts).length ++ mi.set ((p + i) / 8) (((rd mi (((p + i) / 8 : Nat) : Int)).toNat ^^^ 2 ^ (7 - (p + i) % 8) : Nat) : Int) := by
          rw [List.set_append_right _ _ (by omega), Nat.add_sub_cancel_left]
        have hA := Aside0.mk hfl
        have hS := Aside0.mk hsh
        have hT := Aside0.mk hset
        clear hfl hsh hset
        refine ⟨K + 2, fun q hq => ?_⟩
        obtain ⟨q, rfl⟩ : ∃ m, q = m + 2 := ⟨q - 2, by omega⟩
        rw [windroselaw02_FrameBursts.l0, if_pos (by omega), ew.out, decide_eq_true (by omega), windroselaw02_FrameBursts.j3, if_pos rfl, eu.out, if_pos (by omega), if_pos hb, ew.out, eq_.out, if_pos (by omega), if_pos (by simp only [List.length_append]; omega), es.out, if_pos (by omega), hrd, hS.out, hA.out, Int.toNat_natCast, hT.out, ei.out]
        exact hK q (by omega)
      · have hst := st_keep h (by omega)
        obtain ⟨K, hK⟩ := ih (i + 1) _ _ t (by omega) (by omega) hst
        refine ⟨K + 2, fun q hq => ?_⟩
        obtain ⟨q, rfl⟩ : ∃ m, q = m + 2 := ⟨q - 2, by omega⟩
        rw [windroselaw02_FrameBursts.l0, if_pos (by omega), ew.out, decide_eq_true (by omega), windroselaw02_FrameBursts.j3, if_pos rfl, eu.out, if_pos (by omega), if_neg hb, ei.out]
        exact hK q (by omega)
    · exact stop i mi y t (by omega) (by omega) h
theorem FrameBursts : ∀ (l0_0 : List Int) (l0_1 : List ByteArray) (a1 : Int) (a2 : Int), (l0_0.length ≤ maxLen ∧ ∀ y4 ∈ l0_0, (Lit.int .i64 y4).wf = true) ∧ (l0_1.length ≤ maxLen ∧ ∀ y4 ∈ l0_1, y4.size ≤ maxLen) → (Lit.int .u16 a1).wf = true → (Lit.int .u32 a2).wf = true → ∃ k, windroselaw02_FrameBursts.f k l0_0 l0_1 a1 a2 = some true := by
  intro ns ts a1 a2 h hw _
  have hh : Held ns ts := ⟨by have := h.1.1; unfold maxLen at this; omega, fun n hn => wf_i64 (h.1.2 n hn), by have := h.2.1; unfold maxLen at this; omega, fun s hs => by have := h.2.2 s hs; unfold maxLen at this; omega⟩
  have ha1 : 0 ≤ a1 ∧ a1 ≤ 65535 := by
    simp [Lit.wf] at hw
    have e1 : IntKind.min .u16 = 0 := by decide
    have e2 : IntKind.max .u16 = 65535 := by decide
    first | (rw [e1, e2] at hw; exact hw) | (rw [e1] at hw; exact hw) | exact hw
  obtain ⟨lb, K0, h0⟩ := Light_ev ns ts hh.2.2.2
  obtain ⟨K1, h1⟩ := awake02_ev
  have jt : ∀ k, K1 ≤ k → windroselaw02_FrameBursts.j0 (k + 1) a1 a2 true ns ts = some true := by
    intro k hk
    rw [windroselaw02_FrameBursts.j0, if_pos rfl, h1 k hk]
    rfl
  cases lb with
  | false =>
    refine ⟨K0 + K1 + 1, ?_⟩
    unfold windroselaw02_FrameBursts.f
    rw [h0 _ (by omega), Option.bind_some, if_neg (by simp)]
    exact jt _ (by omega)
  | true =>
    obtain ⟨K2, h2⟩ := May02_ev ns ts hh
    by_cases hl : (enc ns ts).length ≤ 4096
    · obtain ⟨K3, h3⟩ := Frame_ev ns ts hh
      obtain ⟨K4, h4⟩ := refFrame_ev ns ts hh hl
      obtain ⟨K5, h5⟩ := Bytes_small ns ts hh hl
      have hfl := frm_length ns ts
      have hcl := countS_len10 (u := (enc ns ts).length) (by omega)
      have hml : (enc ns ts ++ fourS (sumS (enc ns ts))).length = (enc ns ts).length + 4 := by simp [fourS]
      have hM := bitsB_length (enc ns ts ++ fourS (sumS (enc ns ts)))
      have hlt : a1.toNat % (8 * ((enc ns ts).length + 4)) < 8 * ((enc ns ts).length + 4) := Nat.mod_lt _ (by omega)
      have hst : St (enc ns ts ++ fourS (sumS (enc ns ts))) (enc ns ts ++ fourS (sumS (enc ns ts))) (a1.toNat % (8 * ((enc ns ts).length + 4))) 0 [] false :=
        ⟨(by_enc hh).append (by_fourS _), rfl, rfl, by rw [List.append_nil]; exact (List.take_append_drop _ _).symm, fun _ => ⟨rfl, by simp⟩, fun ht => by cases ht⟩
      obtain ⟨K6, h6⟩ := burst_loop ns ts hh hl a2 (a1.toNat % (8 * ((enc ns ts).length + 4))) hlt 32 0 _ _ false (by omega) (by omega) hst
      have hd : Aside0 (wrap64 ((wrap64 (((frm ns ts).length : Int) - 4)) - ((enc ns ts).length : Int)) = ((countS (enc ns ts).length).length : Int)) := ⟨by
        rw [w64 (x := ((frm ns ts).length : Int) - 4) (by omega) (by omega), w64 (by omega) (by omega)]; omega⟩
      have hbit : Aside0 (wrap64 (8 * (wrap64 (((frm ns ts).length : Int) - ((countS (enc ns ts).length).length : Int)))) = ((8 * ((enc ns ts).length + 4) : Nat) : Int)) := ⟨by
        rw [w64 (x := ((frm ns ts).length : Int) - ((countS (enc ns ts).length).length : Int)) (by omega) (by omega), w64 (by omega) (by omega)]; omega⟩
      have hat : Aside0 (Int.tmod (wrap64 a1) ((8 * ((enc ns ts).length + 4) : Nat) : Int) = ((a1.toNat % (8 * ((enc ns ts).length + 4)) : Nat) : Int)) := ⟨by
        rw [w64 (x := a1) (by omega) (by omega), tmod_nn ha1.1]
        have : a1 = (a1.toNat : Int) := by omega
        rw [this]
        norm_cast⟩
      have hfa : frm ns ts = countS (enc ns ts).length ++ (enc ns ts ++ fourS (sumS (enc ns ts))) := by simp [frm]
      refine ⟨K0 + K1 + K2 + K3 + K4 + K5 + K6 + 2, ?_⟩
      unfold windroselaw02_FrameBursts.f
      rw [h0 _ (by omega), Option.bind_some, if_pos rfl, h2 _ (by omega), Option.bind_some, decide_eq_true hl]
      show windroselaw02_FrameBursts.j0 _ a1 a2 false ns ts = _
      rw [windroselaw02_FrameBursts.j0, if_neg (by simp), h3 _ (by omega), Option.bind_some, h4 _ (by omega), Option.bind_some, if_pos hl]
      simp only []
      rw [if_pos trivial, bne_self_eq_false, windroselaw02_FrameBursts.j1, if_neg (by simp), h5 _ (by omega), Option.bind_some, hd.out, hbit.out, if_neg (by omega), hat.out, hfa]
      exact h6 _ (by omega)
    · refine ⟨K0 + K1 + K2 + 1, ?_⟩
      unfold windroselaw02_FrameBursts.f
      rw [h0 _ (by omega), Option.bind_some, if_pos rfl, h2 _ (by omega), Option.bind_some, decide_eq_false hl]
      exact jt _ (by omega)
end Go.Proofs.Ytlpohipneianjaa.Q
end
section
namespace Go.Proofs.Ytlpohipneianjaa.frameBursts
open Go.ChangeShapes Go.WideShapes Go.ChangeAt Go.RowKit Go.Proofs.YtlpohipneianjaaX Go.Proofs.Ytlpohipneianjaa.G
open Go.ChangeMaps (open_string shut_string)
set_option linter.unusedVariables false
set_option linter.unusedSimpArgs false
theorem own : ownKnob Try.prog.godebug = none := by kernel_rfl
theorem laidOut : laidOutB Try.prog = true := by kernel_rfl
set_option maxRecDepth 100000 in
theorem lifted (os : Os) (started : os.Started) (H : Type) (enc : TypeId × Value → H) :
    ReturnsInHanded {} Try.checked os 9 .any (Rows.frameBurstsSpec.pre6 enc Try.prog Try.f9 Rows.frameBurstsRow.domain false) (Rows.frameBurstsSpec.post enc Try.prog Try.f9 false true false false) := by
  refine returnsInHanded_of_change_sized (C := Try.checked) own started (by kernel_rfl) Try.func9
    (ChangeSpec.witness6 (enc := enc) (C := Try.checked) false ⟨#[], #[.agg #[.slice none 0 0, .slice none 0 0], .int .u16 0, .int .u32 0], []⟩ 8 (by kernel_rfl) (by kernel_rfl) (by kernel_rfl) (by kernel_rfl)) ?_
  intro W base args ds gs before hval0 hW hcnd hsz0 _
  have hval : ∀ (j : Nat) t v, Try.f9.params[j]? = some t → args[j]? = some v → Value.okWide Try.prog W .any base t v := hval0
  have hW' := hW
  obtain ⟨p, q, hA0, hV, rfl, hfz, hnd⟩ := hW
  have hA : DataW.TrodAll enc Try.prog W 0 (fun _ => true) true Try.f9.params.toList args.toList ds p := hA0
  rw [Try.params9] at hA hval
  obtain ⟨v0, vs0, d0, ds0, p0, q0, hargs, rfl, rfl, h0, r0⟩ := trodAll_cons hA
  obtain ⟨v1, vs1, d1, ds1, p1, q1, rfl, rfl, rfl, h1, r1⟩ := trodAll_cons r0
  obtain ⟨v2, vs2, d2, ds2, p2, q2, rfl, rfl, rfl, h2, r2⟩ := trodAll_cons r1
  obtain ⟨rfl, rfl, rfl⟩ := trodAll_nil r2
  obtain rfl : args = #[v0, v1, v2] := by cases args; simp_all
  obtain ⟨rfl, rfl⟩ := trodVars_none hV
  have k0 := h0
  have lt0 : ∀ x ∈ p0, x.block < W.heap.size := by obtain ⟨m, hm⟩ := k0; exact DataW.trod_lt m _ _ _ hm
  obtain ⟨cs0, rfl, _⟩ := okWide_struct Try.underlying29 (hval 0 29 v0 rfl rfl)
  obtain ⟨fuel0, hf0⟩ := h0
  obtain ⟨⟨l0_0, l0_1⟩, hK0, w0⟩ := (Rd.struct (fun x => x) (fun x => x) (fun _ => rfl) Try.underlying29 (RdFs.cons (Rd.slice Try.underlying26 (by kernel_rfl) (Rd.int Try.underlying3)) (RdFs.one (Rd.slice Try.underlying27 (by kernel_rfl) (Rd.string Try.underlying9))))) enc W _ _ _ fuel0 _ _ hf0
  dsimp only at hK0 w0
  obtain ⟨_, _, e0, ⟨A0_0, c0_0, rfl, hc0_0, hr0_0⟩, ⟨A0_1, c0_1, rfl, hc0_1, hr0_1⟩⟩ := hK0
  obtain rfl : cs0 = #[.slice A0_0 l0_0.length c0_0, .slice A0_1 l0_1.length c0_1] := Array.ext' (by simpa [Value.cells] using e0)
  obtain ⟨a1, rfl, rfl, rfl, w1⟩ := open_int Try.underlying58 (hval 1 58 v1 rfl rfl) h1
  obtain ⟨a2, rfl, rfl, rfl, w2⟩ := open_int Try.underlying38 (hval 2 38 v2 rfl rfl) h2
  clear hA0 hval0 hsz0
  obtain ⟨k, h⟩ := Q.FrameBursts l0_0 l0_1 a1 a2 w0 w1 w2
  refine (windroselaw02_FrameBursts.calls k A0_0 c0_0 l0_0 A0_1 c0_1 l0_1 a1 a2 true W hr0_0 hc0_0 hr0_1 hc0_1 h).mono fun e W' ⟨he, bel⟩ => ?_
  subst he
  exact ⟨_, rfl, _, _, _, [], _, [], hW', trodAll_mk1 (shut_bool Try.underlying4 _), (trodAll_cons_mk (Below.trod laidOut (by kernel_rfl) (of_decide_eq_true (by kernel_rfl)) k0 bel lt0) (trodAll_cons_mk (shut_int Try.underlying58 w1) (trodAll_cons_mk (shut_int Try.underlying38 w2) trodAll_mk0))), rfl, bel.frame _, fun h => by cases h⟩
theorem over : Rows.frameBurstsRow.holds Try.pinned (OpenSpec.ofChange Rows.frameBurstsSpec) :=
  OpenClaim.holds_of_wide 9 Try.f9 rfl rfl rfl rfl rfl rfl rfl ⟨rfl, rfl, rfl, rfl, rfl⟩ rfl rfl rfl rfl rfl (by kernel_rfl) Try.func9 (by kernel_rfl)
    (of_decide_eq_true (by kernel_rfl)) (by unfold Func.isWrapper; first | (rw [if_pos (by decide +kernel)]; kernel_rfl) | (rw [if_neg (by decide +kernel)]; exact ⟨rfl, rfl⟩))
    (fun os started H enc _ => lifted os started H enc)
theorem proved : Rows.FrameBurstsSaid := over
#print axioms proved
end Go.Proofs.Ytlpohipneianjaa.frameBursts
namespace Go.Proofs.Ytlpohipneianjaa
theorem frameBursts_holds : Rows.FrameBurstsSaid := frameBursts.proved
end Go.Proofs.Ytlpohipneianjaa
end
