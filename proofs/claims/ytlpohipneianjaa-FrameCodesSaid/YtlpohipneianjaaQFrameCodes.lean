/- FrameCodes: which data may be, their bytes, that they are read back, and any bytes' sum, as the document says, for every data and bytes. No condition. -/
import Derived.Test.YtlpohipneianjaaG13
import Derived.Test.YtlpohipneianjaaG8
import Derived.Test.YtlpohipneianjaaGR
import Derived.Test.YtlpohipneianjaaPAwake02
import Derived.Test.YtlpohipneianjaaPSame02
import Derived.Test.YtlpohipneianjaaPDec
import Derived.Test.YtlpohipneianjaaPSum
set_option linter.unusedVariables false
namespace Go.Proofs.Ytlpohipneianjaa.Q
open Go Go.RowKit Go.Proofs.Ytlpohipneianjaa.G Go.Proofs.YtlpohipneianjaaW.PrintWords Go.Proofs.YtlpohipneianjaaW.PrintLast

theorem light_loop (nums : List Int) (texts : List ByteArray) (ht : ∀ s ∈ texts, s.size ≤ 9223372036854775807) (d : Nat) : ∀ (i n : Nat), i + d = 400 → n ≤ 10000 → ∃ r, (∃ K, ∀ k, K ≤ k → windroselaw02_Light.l0 k n i nums texts = some (r)) := by
  induction d with
  | zero =>
    intro i n hi hn
    refine ⟨if (nums.length : Int) ≤ 4000 then decide ((texts.length : Int) ≤ 400) else false, 2, fun k hk => ?_⟩
    obtain ⟨k, rfl⟩ : ∃ m, k = m + 2 := ⟨k - 2, by omega⟩
    have e : windroselaw02_Light.l0 (k + 2) (n : Int) (i : Int) nums texts = windroselaw02_Light.j1 (k + 1) (n : Int) (i : Int) false nums texts := by
      rw [windroselaw02_Light.l0]
      split
      · rw [decide_eq_false (by omega)]
      · rfl
    rw [e, windroselaw02_Light.j1, if_neg (by simp)]
    exact (apply_ite some _ _ _).symm
  | succ d ih =>
    intro i n hi hn
    by_cases hl : i < texts.length
    · have hm := ht _ (rdOf_mem texts i hl)
      by_cases hs : (rdOf ByteArray.empty texts i).size + n ≤ 10000
      · obtain ⟨r, K, hK⟩ := ih (i + 1) (n + (rdOf ByteArray.empty texts i).size) (by omega) (by omega)
        refine ⟨r, K + 2, fun k hk => ?_⟩
        obtain ⟨k, rfl⟩ : ∃ m, k = m + 2 := ⟨k - 2, by omega⟩
        rw [windroselaw02_Light.l0, if_pos (by omega), decide_eq_true (by omega), windroselaw02_Light.j1, if_pos rfl, if_pos (by omega), if_pos (by omega), if_neg (by rw [w64] <;> omega),
          show wrap64 ((n : Int) + ((rdOf ByteArray.empty texts i).size : Int)) = ((n + (rdOf ByteArray.empty texts i).size : Nat) : Int) by rw [w64] <;> omega, show wrap64 ((i : Int) + 1) = ((i + 1 : Nat) : Int) by rw [w64] <;> omega]
        exact hK k (by omega)
      · refine ⟨false, 2, fun k hk => ?_⟩
        obtain ⟨k, rfl⟩ : ∃ m, k = m + 2 := ⟨k - 2, by omega⟩
        rw [windroselaw02_Light.l0, if_pos (by omega), decide_eq_true (by omega), windroselaw02_Light.j1, if_pos rfl, if_pos (by omega), if_pos (by omega), if_pos (by rw [w64] <;> omega)]
    · refine ⟨if (nums.length : Int) ≤ 4000 then decide ((texts.length : Int) ≤ 400) else false, 2, fun k hk => ?_⟩
      obtain ⟨k, rfl⟩ : ∃ m, k = m + 2 := ⟨k - 2, by omega⟩
      rw [windroselaw02_Light.l0, if_neg (by omega), windroselaw02_Light.j1, if_neg (by simp)]
      exact (apply_ite some _ _ _).symm
theorem Light_ev (nums : List Int) (texts : List ByteArray) (ht : ∀ s ∈ texts, s.size ≤ 9223372036854775807) : ∃ r, (∃ K, ∀ k, K ≤ k → windroselaw02_Light.f k nums texts = some (r)) := light_loop nums texts ht 400 0 0 (by omega) (by omega)

theorem wf_u8 {x : Int} (h : (Lit.int .u8 x).wf = true) : 0 ≤ x ∧ x ≤ 255 := by
  simp [Lit.wf] at h
  have e1 : IntKind.min .u8 = 0 := by decide
  have e2 : IntKind.max .u8 = 255 := by decide
  first | (rw [e1, e2] at h; exact h) | (rw [e1] at h; exact h) | exact h

theorem FrameCodes : ∀ (l0_0 : List Int) (l0_1 : List ByteArray) (l1 : List Int), (l0_0.length ≤ maxLen ∧ ∀ y4 ∈ l0_0, (Lit.int .i64 y4).wf = true) ∧ (l0_1.length ≤ maxLen ∧ ∀ y4 ∈ l0_1, y4.size ≤ maxLen) → (l1.length ≤ maxLen ∧ ∀ y2 ∈ l1, (Lit.int .u8 y2).wf = true) → ∃ k, windroselaw02_FrameCodes.f k l0_0 l0_1 l1 = some true := by
  intro ns ts b h hb
  have hh : Held ns ts := ⟨by have := h.1.1; unfold maxLen at this; omega, fun n hn => wf_i64 (h.1.2 n hn), by have := h.2.1; unfold maxLen at this; omega, fun s hs => by have := h.2.2 s hs; unfold maxLen at this; omega⟩
  obtain ⟨lb, K0, h0⟩ := Light_ev ns ts hh.2.2.2
  obtain ⟨K1, h1⟩ := awake02_ev
  have jt : ∀ k, K1 ≤ k → windroselaw02_FrameCodes.j0 (k + 1) b true ns ts = some true := by
    intro k hk
    rw [windroselaw02_FrameCodes.j0, if_pos rfl, h1 k hk]
    rfl
  cases lb with
  | false =>
    refine ⟨K0 + K1 + 1, ?_⟩
    unfold windroselaw02_FrameCodes.f
    rw [h0 _ (by omega), Option.bind_some, if_neg (by simp)]
    exact jt _ (by omega)
  | true =>
    by_cases hl : (b.length : Int) > 3000
    · refine ⟨K0 + K1 + 1, ?_⟩
      unfold windroselaw02_FrameCodes.f
      rw [h0 _ (by omega), Option.bind_some, if_pos rfl, decide_eq_true hl]
      exact jt _ (by omega)
    · have hby : By b := fun x hx => wf_u8 (hb.2 x hx)
      obtain ⟨K2, h2⟩ := Encode_ev ns ts hh
      obtain ⟨K3, h3⟩ := sum_ev b (by omega) hby
      obtain ⟨K4, h4⟩ := refsum_ev b (by omega) hby
      obtain ⟨K5, h5⟩ := May02_ev ns ts hh
      by_cases hm : (enc ns ts).length ≤ 4096
      · obtain ⟨K6, h6⟩ := Decode_enc ns ts hh hm
        obtain ⟨K7, h7⟩ := Bytes_small ns ts hh hm
        obtain ⟨K8, h8⟩ := Same02_ev ns ts ns ts hh.1 hh.2.2.1
        refine ⟨K0 + K1 + K2 + K3 + K4 + K5 + K6 + K7 + K8 + 1, ?_⟩
        unfold windroselaw02_FrameCodes.f
        rw [h0 _ (by omega), Option.bind_some, if_pos rfl, decide_eq_false hl, windroselaw02_FrameCodes.j0, if_neg (by simp), h2 _ (by omega), Option.bind_some, h3 _ (by omega), Option.bind_some, h4 _ (by omega), Option.bind_some, if_pos rfl,
          h5 _ (by omega), Option.bind_some, decide_eq_true hm, if_pos rfl]
        simp only [encR, if_pos hm]
        rw [h6 _ (by omega), Option.bind_some, if_pos rfl, h7 _ (by omega), Option.bind_some, if_pos rfl, if_pos trivial]
        simp only []
        rw [h8 _ (by omega), Option.bind_some, decide_eq_true ⟨rfl, rfl⟩, if_pos rfl, h1 _ (by omega)]
        rfl
      · refine ⟨K0 + K1 + K2 + K3 + K4 + K5 + 1, ?_⟩
        unfold windroselaw02_FrameCodes.f
        rw [h0 _ (by omega), Option.bind_some, if_pos rfl, decide_eq_false hl, windroselaw02_FrameCodes.j0, if_neg (by simp), h2 _ (by omega), Option.bind_some, h3 _ (by omega), Option.bind_some, h4 _ (by omega), Option.bind_some, if_pos rfl,
          h5 _ (by omega), Option.bind_some, decide_eq_false hm, if_neg (by simp)]
        simp only [encR, if_neg hm]
        rw [if_pos trivial, if_pos (by simp), h1 _ (by omega)]
        rfl
end Go.Proofs.Ytlpohipneianjaa.Q
