/- Ytlpohipneianjaa: lines of the words and functions that the row FrameRows rests on, and the row. No condition. -/
import Derived.Test.YtlpohipneianjaaZFrameRows4
section
set_option linter.unusedVariables false
namespace Go.Proofs.Ytlpohipneianjaa.Q
open Go Go.RowKit Go.Proofs.Ytlpohipneianjaa.G Go.Proofs.YtlpohipneianjaaW.PrintWords Go.Proofs.YtlpohipneianjaaW.PrintLast Go.Proofs.YtlpohipneianjaaW.PrintMore
abbrev B32 := BitVec 32
def poly : B32 := 0x741B8CD7
theorem poly_nat : poly.toNat = 1947962583 := by decide
theorem polyI : (1947962583 : Int) = (poly.toNat : Int) := by rw [poly_nat]; rfl
def T (s : B32) : B32 := if s.msb then (s <<< 1) ^^^ poly else s <<< 1
def iter : Nat → B32 → B32
  | 0, s => s
  | n + 1, s => iter n (T s)
def high (x : Nat) : B32 := BitVec.ofNat 32 (x * 16777216)
def byteStep (r : B32) (c : Int) : B32 := iter 8 (r ^^^ high c.toNat)
def crc (r : B32) (b : List Int) : B32 := b.foldl byteStep r
theorem T_xor (a b : B32) : T (a ^^^ b) = T a ^^^ T b := by
  unfold T
  rw [BitVec.msb_xor, BitVec.shiftLeft_xor_distrib]
  cases a.msb <;> cases b.msb <;> simp
  · ac_rfl
  · ac_rfl
  · rw [show (a <<< 1 ^^^ poly ^^^ (b <<< 1 ^^^ poly)) = (a <<< 1 ^^^ b <<< 1) ^^^ (poly ^^^ poly) by ac_rfl, BitVec.xor_self, BitVec.xor_zero]
def bit1 : B32 := BitVec.ofNat 32 2147483648
theorem high_split : ∀ x : Fin 256, high x.val = (if 128 ≤ x.val then bit1 else 0#32) ^^^ high (x.val % 128) := by decide +kernel
theorem high_T : ∀ y : Fin 128, T (high y.val) = high (2 * y.val % 256) := by decide +kernel
theorem T_byte (r : B32) (x : Nat) (h : x < 256) : T (r ^^^ high x) = T (r ^^^ (if 128 ≤ x then bit1 else 0#32)) ^^^ high (2 * x % 256) := by
  have h1 := high_split ⟨x, h⟩
  have h2 := high_T ⟨x % 128, by omega⟩
  simp only at h1 h2
  rw [h1, ← BitVec.xor_assoc, T_xor, h2]
  congr 2
  omega
theorem xor32 (a b : B32) : Go.bits .xor .u32 (a.toNat : Int) (b.toNat : Int) = ((a ^^^ b).toNat : Int) := by
  have h : (a ^^^ b).toNat < 4294967296 := (a ^^^ b).isLt
  have e : ∀ x y : Int, Go.bits .xor .u32 x y = IntKind.u32.wrap ((BitVec.ofInt 32 x ^^^ BitVec.ofInt 32 y).toNat : Int) := fun _ _ => rfl
  rw [e, BitVec.ofInt_natCast, BitVec.ofInt_natCast, BitVec.ofNat_toNat, BitVec.ofNat_toNat, BitVec.setWidth_eq, BitVec.setWidth_eq, IntKind.wrap_u32]
  omega
theorem msb_iff (s : B32) : s.msb = true ↔ (s.toNat : Int) / 2147483648 = 1 := by
  rw [BitVec.msb_eq_decide, decide_eq_true_eq]
  have := s.isLt
  simp only [Nat.reduceSub, Nat.reducePow] at *
  omega
theorem shl_toNat (s : B32) : ((s <<< 1).toNat : Int) = (s.toNat : Int) * 2 % 4294967296 := by
  rw [BitVec.toNat_shiftLeft, Nat.shiftLeft_eq]
  omega
theorem sum_inner (b : List Int) (i : Nat) (hi : i < b.length) (hb : b.length ≤ 100000) (r : Int) (n : Nat) : ∀ (j : Nat) (s : B32), j + n = 8 → (∃ K, ∀ k, K ≤ k → frame_Sum.l0 k ((iter n s).toNat : Int) b (b.length : Int) ((i + 1 : Nat) : Int) = some (r)) →
    (∃ K, ∀ k, K ≤ k → frame_Sum.l1 k (s.toNat : Int) b (b.length : Int) i j = some (r)) := by
  induction n with
  | zero =>
    intro j s hj h
    obtain ⟨K, hK⟩ := h
    refine Ev.succ K fun k hk => ?_
    simp only [frame_Sum.l1]
    rw [if_neg (by omega), show wrap64 ((i : Int) + 1) = ((i + 1 : Nat) : Int) by rw [w64] <;> omega]
    exact hK k hk
  | succ n ih =>
    intro j s hj h
    obtain ⟨K, hK⟩ := ih (j + 1) (T s) (by omega) h
    refine Ev.succ K fun k hk => ?_
    simp only [frame_Sum.l1]
    rw [if_pos (by omega), show wrap64 ((j : Int) + 1) = ((j + 1 : Nat) : Int) by rw [w64] <;> omega]
    by_cases hm : s.msb = true
    · have e : Go.bits .xor .u32 ((s.toNat : Int) * 2 % 4294967296) 1947962583 = ((T s).toNat : Int) := by
        rw [← shl_toNat, polyI, xor32]
        unfold T
        rw [if_pos hm]
      rw [if_pos ((msb_iff s).1 hm), e]
      exact hK k hk
    · have e : (s.toNat : Int) * 2 % 4294967296 = ((T s).toNat : Int) := by
        rw [← shl_toNat]
        unfold T
        rw [if_neg hm]
      rw [if_neg (fun h => hm ((msb_iff s).2 h)), e]
      exact hK k hk
theorem sum_outer (b : List Int) (hb : b.length ≤ 100000) (hr : ∀ x ∈ b, 0 ≤ x ∧ x ≤ 255) (d : Nat) : ∀ (i : Nat) (s : B32), i + d = b.length → (∃ K, ∀ k, K ≤ k → frame_Sum.l0 k (s.toNat : Int) b (b.length : Int) i = some (((crc s (b.drop i)).toNat : Int))) := by
  induction d with
  | zero =>
    intro i s hi
    refine Ev.succ 0 fun k _ => ?_
    simp only [frame_Sum.l0]
    rw [if_neg (by omega), List.drop_of_length_le (by omega)]
    rfl
  | succ d ih =>
    intro i s hi
    have hd : b.drop i = rd b i :: b.drop (i + 1) := by rw [drop_getD b i 0 (by omega)]; rfl
    have hx := hr (rd b i) (by simp only [rd, Int.toNat_natCast]; exact getD_mem b i 0 (by omega))
    obtain ⟨K, hK⟩ := sum_inner b i (by omega) hb _ 8 0 (s ^^^ high (rd b i).toNat) (by omega) (ih (i + 1) (byteStep s (rd b i)) (by omega))
    refine Ev.succ K fun k hk => ?_
    simp only [frame_Sum.l0]
    have e : Go.bits .xor .u32 (s.toNat : Int) (((rd b i % 4294967296) * 16777216) % 4294967296) = ((s ^^^ high (rd b i).toNat).toNat : Int) := by
      rw [← xor32]
      congr 1
      unfold high
      rw [BitVec.toNat_ofNat]
      omega
    rw [if_pos (by omega), if_pos (by omega), if_pos (by omega), e, hd]
    exact hK k hk
def sumS (b : List Int) : Int := ((crc 0xFFFFFFFF#32 b).toNat : Int)
theorem sum_ev (b : List Int) (hb : b.length ≤ 100000) (hr : ∀ x ∈ b, 0 ≤ x ∧ x ≤ 255) : (∃ K, ∀ k, K ≤ k → frame_Sum.f k b = some ((sumS b))) := by
  obtain ⟨K, hK⟩ := sum_outer b hb hr b.length 0 0xFFFFFFFF#32 (by omega)
  exact ⟨K, fun k hk => hK k hk⟩
theorem xor64_32 (a b : B32) : Go.bits .xor .u64 (a.toNat : Int) (b.toNat : Int) = ((a ^^^ b).toNat : Int) := by
  have h1 := a.isLt
  have h2 := b.isLt
  rw [bits_xor_u64_nat _ _ (by omega) (by omega), BitVec.toNat_xor]
theorem bit_of : ∀ (x : Fin 256) (j : Fin 8), x.val / 2 ^ (7 - j.val) % 2 = (if 128 ≤ x.val * 2 ^ j.val % 256 then 1 else 0) := by decide +kernel
theorem bit1_msb (r : B32) (p : Prop) [Decidable p] : (r ^^^ (if p then bit1 else 0#32)).msb = (r.msb ^^ decide p) := by
  rw [BitVec.msb_xor]
  by_cases h : p
  · rw [if_pos h, decide_eq_true h]; rfl
  · rw [if_neg h, decide_eq_false h]; rfl
theorem bit1_shl (r : B32) (p : Prop) [Decidable p] : (r ^^^ (if p then bit1 else 0#32)) <<< 1 = r <<< 1 := by
  rw [BitVec.shiftLeft_xor_distrib]
  have e1 : bit1 <<< 1 = 0#32 := by decide
  have e2 : 0#32 <<< 1 = 0#32 := by decide
  by_cases h : p
  · rw [if_pos h, e1, BitVec.xor_zero]
  · rw [if_neg h, e2, BitVec.xor_zero]
theorem T_in (r : B32) (c : Prop) [Decidable c] : T (r ^^^ (if c then bit1 else 0#32)) = if (r.msb = true ↔ c) then r <<< 1 else (r <<< 1) ^^^ poly := by
  unfold T
  rw [bit1_msb, bit1_shl]
  by_cases h : r.msb = true
  · by_cases hc : c
    · rw [h, decide_eq_true hc]; simp [hc]
    · rw [h, decide_eq_false hc]; simp [hc]
  · have hf : r.msb = false := by simpa using h
    by_cases hc : c
    · rw [hf, decide_eq_true hc]; simp [hc]
    · rw [hf, decide_eq_false hc]; simp [hc]
theorem ref_unf (k : Nat) (x0 : List Int) (x3 x4 L q s out bit r2 r3 x5 y : Int) (h1 : wrap64 (8 * (x0.length : Int)) = L) (c1 : x4 < L) (h2 : wrap64 (Int.tdiv x4 8) = q) (c2 : 0 ≤ q) (c3 : q < (x0.length : Int))
    (h3 : IntKind.u64.wrap (wrap64 (7 - Int.tmod x4 8)) = s) (c4 : 0 ≤ s) (h4 : IntKind.u64.wrap (Int.tdiv x3 2147483648) = out) (hy : IntKind.u64.wrap (rd x0 q) = y) (h5 : Int.tmod (shr .u64 y s) 2 = bit)
    (h6 : Int.tmod (IntKind.u64.wrap (x3 * 2)) 4294967296 = r2) (h7 : Go.bits .xor .u64 r2 1947962583 = r3) (h8 : wrap64 (x4 + 1) = x5) :
    windroseref02_Sum.l0 (k + 1) x0 x3 x4 = if out = bit then windroseref02_Sum.l0 k x0 r2 x5 else windroseref02_Sum.l0 k x0 r3 x5 := by
  rw [windroseref02_Sum.l0, h1, if_pos c1, h2, if_pos c2, if_pos c3, h3, if_pos c4, h4, hy, h5, h6, h7, h8]
theorem ref_bit (x : Int) (hx : 0 ≤ x ∧ x ≤ 255) (j : Nat) (hj : j < 8) : Int.tmod (shr .u64 x ((7 - j : Nat) : Int)) 2 = (if 128 ≤ x.toNat * 2 ^ j % 256 then 1 else 0) := by
  have hb := bit_of ⟨x.toNat, by omega⟩ ⟨j, hj⟩
  simp only at hb
  unfold shr
  have hmin : min ((7 - j : Nat) : Int).toNat IntKind.u64.bits = 7 - j := by
    rw [Int.toNat_natCast]; exact Nat.min_eq_left (by simp only [IntKind.bits]; omega)
  rw [hmin]
  have e : x = ((x.toNat : Nat) : Int) := by omega
  have e' : ((x.toNat : Nat) : Int) / 2 ^ (7 - j) = ((x.toNat / 2 ^ (7 - j) : Nat) : Int) := by
    rw [Int.natCast_ediv, Int.natCast_pow]; rfl
  rw [show x / 2 ^ (7 - j) = ((x.toNat / 2 ^ (7 - j) : Nat) : Int) by rw [← e', ← e], tmod_nn (Int.natCast_nonneg _), show (2 : Int) = ((2 : Nat) : Int) from rfl, ← Int.natCast_emod, hb]
  split <;> rfl
theorem ref_out (r : B32) : IntKind.u64.wrap (Int.tdiv (r.toNat : Int) 2147483648) = (if r.msb then 1 else 0) := by
  have hrt := r.isLt
  rw [tdiv_nn (by omega), IntKind.wrap_u64]
  have := msb_iff r
  by_cases h : r.msb = true
  · rw [if_pos h]; have := this.1 h; omega
  · rw [if_neg h]
    have h2 : ¬ (r.toNat : Int) / 2147483648 = 1 := fun h3 => h (this.2 h3)
    omega
theorem ref_shl (r : B32) : Int.tmod (IntKind.u64.wrap ((r.toNat : Int) * 2)) 4294967296 = ((r <<< 1).toNat : Int) := by
  have hrt := r.isLt
  rw [shl_toNat, IntKind.wrap_u64, tmod_nn (by omega)]; omega
theorem ref_step (b : List Int) (hb : b.length ≤ 100000) (hr : ∀ x ∈ b, 0 ≤ x ∧ x ≤ 255) (p j : Nat) (hp : p < b.length) (hj : j < 8) (r : B32) (k : Nat) :
    windroseref02_Sum.l0 (k + 1) b (r.toNat : Int) ((8 * p + j : Nat) : Int) = windroseref02_Sum.l0 k b ((T (r ^^^ (if 128 ≤ (rd b p).toNat * 2 ^ j % 256 then bit1 else 0#32))).toNat : Int) ((8 * p + j + 1 : Nat) : Int) := by
  have hx := hr (rd b p) (by simp only [rd, Int.toNat_natCast]; exact getD_mem b p 0 hp)
  rw [ref_unf k b (r.toNat : Int) ((8 * p + j : Nat) : Int) (8 * (b.length : Int)) (p : Int) ((7 - j : Nat) : Int) _ _ _ ((r <<< 1 ^^^ poly).toNat : Int) ((8 * p + j + 1 : Nat) : Int) (rd b p)
    (by rw [w64] <;> omega) (by omega) (by rw [tdiv_nn (by omega), w64] <;> omega) (by omega) (by omega) (by rw [tmod_nn (by omega), w64 (by omega) (by omega), IntKind.wrap_u64]; omega) (by omega)
    (ref_out r) (by rw [IntKind.wrap_u64]; omega) (ref_bit _ hx j hj) (ref_shl r) (by rw [polyI]; exact xor64_32 _ _) (by rw [w64] <;> omega)]
  rw [T_in]
  by_cases h : r.msb = true
  · by_cases hcc : 128 ≤ (rd b p).toNat * 2 ^ j % 256
    · rw [if_pos h, if_pos hcc, if_pos rfl, if_pos ⟨fun _ => hcc, fun _ => h⟩]
    · rw [if_pos h, if_neg hcc, if_neg (by decide), if_neg (fun h2 => hcc (h2.1 h))]
  · by_cases hcc : 128 ≤ (rd b p).toNat * 2 ^ j % 256
    · rw [if_neg h, if_pos hcc, if_neg (by decide), if_neg (fun h2 => h (h2.2 hcc))]
    · rw [if_neg h, if_neg hcc, if_pos rfl, if_pos ⟨fun h2 => absurd h2 h, fun h2 => absurd h2 hcc⟩]
theorem ref_byte (b : List Int) (hb : b.length ≤ 100000) (hr : ∀ x ∈ b, 0 ≤ x ∧ x ≤ 255) (p : Nat) (hp : p < b.length) (res : Int) (s0 : B32) (n : Nat) : ∀ (j : Nat) (r : B32), j + n = 8 →
    iter n (r ^^^ high ((rd b p).toNat * 2 ^ j % 256)) = s0 → (∃ K, ∀ k, K ≤ k → windroseref02_Sum.l0 k b (s0.toNat : Int) ((8 * (p + 1) : Nat) : Int) = some (res)) → (∃ K, ∀ k, K ≤ k → windroseref02_Sum.l0 k b (r.toNat : Int) ((8 * p + j : Nat) : Int) = some (res)) := by
  induction n with
  | zero =>
    intro j r hj hi h
    obtain rfl : j = 8 := by omega
    have e : (rd b p).toNat * 2 ^ 8 % 256 = 0 := by omega
    rw [e] at hi
    have hz : high 0 = 0#32 := by decide
    simp only [iter, hz, BitVec.xor_zero] at hi
    subst hi
    exact h
  | succ n ih =>
    intro j r hj hi h
    have hx : (rd b p).toNat * 2 ^ j % 256 < 256 := Nat.mod_lt _ (by omega)
    have hn : 2 * ((rd b p).toNat * 2 ^ j % 256) % 256 = (rd b p).toNat * 2 ^ (j + 1) % 256 := by
      rw [Nat.pow_succ, ← Nat.mul_assoc, Nat.mul_mod 2, Nat.mod_mod, ← Nat.mul_mod, Nat.mul_comm 2]
    simp only [iter] at hi
    rw [T_byte r _ hx, hn] at hi
    obtain ⟨K, hK⟩ := ih (j + 1) _ (by omega) hi h
    refine Ev.succ K fun k hk => ?_
    rw [ref_step b hb hr p j hp (by omega) r k]
    exact hK k hk
theorem ref_sum (b : List Int) (hb : b.length ≤ 100000) (hr : ∀ x ∈ b, 0 ≤ x ∧ x ≤ 255) (d : Nat) : ∀ (p : Nat) (s : B32), p + d = b.length → (∃ K, ∀ k, K ≤ k → windroseref02_Sum.l0 k b (s.toNat : Int) ((8 * p : Nat) : Int) = some (((crc s (b.drop p)).toNat : Int))) := by
  induction d with
  | zero =>
    intro p s hp
    have := s.isLt
    refine Ev.succ 0 fun k _ => ?_
    simp only [windroseref02_Sum.l0]
    rw [show wrap64 (8 * (b.length : Int)) = 8 * (b.length : Int) by rw [w64] <;> omega, if_neg (by omega), List.drop_of_length_le (by omega)]
    congr 1
    show (s.toNat : Int) % 4294967296 = (s.toNat : Int)
    omega
  | succ d ih =>
    intro p s hp
    have hd : b.drop p = rd b p :: b.drop (p + 1) := by rw [drop_getD b p 0 (by omega)]; rfl
    have hx := hr (rd b p) (by simp only [rd, Int.toNat_natCast]; exact getD_mem b p 0 (by omega))
    rw [hd]
    have h := ref_byte b hb hr p (by omega) _ (byteStep s (rd b p)) 8 0 s (by omega) (by
      unfold byteStep
      rw [show (rd b p).toNat * 2 ^ 0 % 256 = (rd b p).toNat by omega]) (ih (p + 1) (byteStep s (rd b p)) (by omega))
    exact h
theorem refsum_ev (b : List Int) (hb : b.length ≤ 100000) (hr : ∀ x ∈ b, 0 ≤ x ∧ x ≤ 255) : (∃ K, ∀ k, K ≤ k → windroseref02_Sum.f k b = some ((sumS b))) := by
  obtain ⟨K, hK⟩ := ref_sum b hb hr b.length 0 0xFFFFFFFF#32 (by omega)
  exact ⟨K, fun k hk => hK k hk⟩
end Go.Proofs.Ytlpohipneianjaa.Q
end
section
set_option linter.unusedVariables false
namespace Go.Proofs.Ytlpohipneianjaa.Q
open Go Go.RowKit Go.Proofs.Ytlpohipneianjaa.G Go.Proofs.YtlpohipneianjaaW.PrintWords Go.Proofs.YtlpohipneianjaaW.PrintLast Go.Proofs.YtlpohipneianjaaW.PrintMore
def fourS (s : Int) : List Int := [s / 16777216 % 256, s / 65536 % 256, s / 256 % 256, s % 256]
def frm (ns : List Int) (ts : List ByteArray) : List Int := countS (enc ns ts).length ++ enc ns ts ++ fourS (sumS (enc ns ts))
abbrev FRes := List Int × List ByteArray × Int × Int
theorem sumS_range (b : List Int) : 0 ≤ sumS b ∧ sumS b < 4294967296 := by
  unfold sumS
  have := (crc 0xFFFFFFFF#32 b).isLt
  omega
theorem by_fourS (s : Int) : By (fourS s) := by
  intro x hx
  simp only [fourS, List.mem_cons, List.mem_nil_iff, or_false] at hx
  rcases hx with rfl | rfl | rfl | rfl <;> omega
theorem str_eq {a b : List Int} (ha : By a) (hb : By b) : (strOfNums a).toList = (strOfNums b).toList ↔ a = b :=
  ⟨fun h => by rw [← bytes_strOf a ha, ← bytes_strOf b hb, (toList_inj _ _).1 h], fun h => by rw [h]⟩
theorem frm_assoc (ns : List Int) (ts : List ByteArray) (t : List Int) : frm ns ts ++ t = countS (enc ns ts).length ++ (enc ns ts ++ (fourS (sumS (enc ns ts)) ++ t)) := by simp [frm]
theorem frm_length (ns : List Int) (ts : List ByteArray) : (frm ns ts).length = (countS (enc ns ts).length).length + (enc ns ts).length + 4 := by simp [frm, fourS]; omega
theorem rd_drop (l : List Int) (v i : Nat) : rd l ((v + i : Nat) : Int) = (l.drop v).getD i 0 := by
  simp only [rd, Int.toNat_natCast, List.getD_eq_getElem?_getD, List.getElem?_drop]
theorem first_step (b r x : List Int) (v : Nat) (s : Int) (hv : v ≤ 4096) (hr : v + 4 ≤ r.length) (hs : 0 ≤ s ∧ s < 4294967296) (i : Nat) (hi : i < 4) (k : Nat) :
    frame_First.l0 (k + 1) b (v : Int) r x s (i : Int) = if (r.drop v).getD i 0 = s / 2 ^ (24 - 8 * i) % 256 then frame_First.l0 k b (v : Int) r x s ((i + 1 : Nat) : Int) else some (([] : List Int), ([] : List ByteArray), 0, 3) := by
  by_cases hlen : r.length ≤ 9223372036854775807
  · have e1 : Aside0 (wrap64 (wrap64 (v : Int) + (i : Int)) = ((v + i : Nat) : Int)) := ⟨by rw [w64 (x := (v : Int)) (by omega) (by omega), w64] <;> omega⟩
    have e2 : Aside0 (wrap64 (24 - wrap64 (8 * (i : Int))) = ((24 - 8 * i : Nat) : Int)) := ⟨by rw [w64 (x := 8 * (i : Int)) (by omega) (by omega), w64] <;> omega⟩
    have e3 : shr .u32 s ((24 - 8 * i : Nat) : Int) = s / 2 ^ (24 - 8 * i) := by
      unfold shr
      rw [Int.toNat_natCast, Nat.min_eq_left (by simp only [IntKind.bits]; omega)]
    have e4 : Aside0 (wrap64 ((i : Int) + 1) = ((i + 1 : Nat) : Int)) := ⟨by rw [w64] <;> omega⟩
    rw [frame_First.l0, if_pos (by omega), e1.out, if_pos (by omega), if_pos (by omega), e2.out, if_pos (by omega), e3, e4.out, rd_drop]
  · have e1 : Aside0 (wrap64 (wrap64 (v : Int) + (i : Int)) = ((v + i : Nat) : Int)) := ⟨by rw [w64 (x := (v : Int)) (by omega) (by omega), w64] <;> omega⟩
    have e2 : Aside0 (wrap64 (24 - wrap64 (8 * (i : Int))) = ((24 - 8 * i : Nat) : Int)) := ⟨by rw [w64 (x := 8 * (i : Int)) (by omega) (by omega), w64] <;> omega⟩
    have e3 : shr .u32 s ((24 - 8 * i : Nat) : Int) = s / 2 ^ (24 - 8 * i) := by
      unfold shr
      rw [Int.toNat_natCast, Nat.min_eq_left (by simp only [IntKind.bits]; omega)]
    have e4 : Aside0 (wrap64 ((i : Int) + 1) = ((i + 1 : Nat) : Int)) := ⟨by rw [w64] <;> omega⟩
    rw [frame_First.l0, if_pos (by omega), e1.out, if_pos (by omega), if_pos (by omega), e2.out, if_pos (by omega), e3, e4.out, rd_drop]
theorem first_sum (b r x : List Int) (v : Nat) (s : Int) (hv : v ≤ 4096) (hr : v + 4 ≤ r.length) (hs : 0 ≤ s ∧ s < 4294967296) (k : Nat) :
    frame_First.l0 (k + 4) b (v : Int) r x s 0 = if (r.drop v).take 4 = fourS s then frame_First.l0 k b (v : Int) r x s 4 else some (([] : List Int), ([] : List ByteArray), 0, 3) := by
  have h0 := first_step b r x v s hv hr hs 0 (by omega) (k + 3)
  have h1 := first_step b r x v s hv hr hs 1 (by omega) (k + 2)
  have h2 := first_step b r x v s hv hr hs 2 (by omega) (k + 1)
  have h3 := first_step b r x v s hv hr hs 3 (by omega) k
  have hl : 4 ≤ (r.drop v).length := by rw [List.length_drop]; omega
  generalize r.drop v = t at *
  match t, hl with
  | a :: b' :: c :: d :: tl, _ =>
  have ht : List.take 4 (a :: b' :: c :: d :: tl) = fourS s ↔ a = s / 16777216 % 256 ∧ b' = s / 65536 % 256 ∧ c = s / 256 % 256 ∧ d = s % 256 := by simp [fourS]
  have p24 : (2 : Int) ^ (24 - 8 * 0) = 16777216 := by decide
  have p16 : (2 : Int) ^ (24 - 8 * 1) = 65536 := by decide
  have p8 : (2 : Int) ^ (24 - 8 * 2) = 256 := by decide
  have p0 : (2 : Int) ^ (24 - 8 * 3) = 1 := by decide
  rw [p24] at h0
  rw [p16] at h1
  rw [p8] at h2
  rw [p0, Int.ediv_one] at h3
  have h0' : frame_First.l0 (k + 4) b (v : Int) r x s 0 = if a = s / 16777216 % 256 then frame_First.l0 (k + 3) b (v : Int) r x s 1 else some (([] : List Int), ([] : List ByteArray), 0, 3) := h0
  have h1' : frame_First.l0 (k + 3) b (v : Int) r x s 1 = if b' = s / 65536 % 256 then frame_First.l0 (k + 2) b (v : Int) r x s 2 else some (([] : List Int), ([] : List ByteArray), 0, 3) := h1
  have h2' : frame_First.l0 (k + 2) b (v : Int) r x s 2 = if c = s / 256 % 256 then frame_First.l0 (k + 1) b (v : Int) r x s 3 else some (([] : List Int), ([] : List ByteArray), 0, 3) := h2
  have h3' : frame_First.l0 (k + 1) b (v : Int) r x s 3 = if d = s % 256 then frame_First.l0 k b (v : Int) r x s 4 else some (([] : List Int), ([] : List ByteArray), 0, 3) := h3
  rw [h0', h1', h2', h3']
  by_cases c0 : a = s / 16777216 % 256
  · by_cases c1 : b' = s / 65536 % 256
    · by_cases c2 : c = s / 256 % 256
      · by_cases c3 : d = s % 256
        · rw [if_pos c0, if_pos c1, if_pos c2, if_pos c3, if_pos (ht.2 ⟨c0, c1, c2, c3⟩)]
        · rw [if_pos c0, if_pos c1, if_pos c2, if_neg c3, if_neg (fun e => c3 (ht.1 e).2.2.2)]
      · rw [if_pos c0, if_pos c1, if_neg c2, if_neg (fun e => c2 (ht.1 e).2.2.1)]
    · rw [if_pos c0, if_neg c1, if_neg (fun e => c1 (ht.1 e).2.1)]
  · rw [if_neg c0, if_neg (fun e => c0 (ht.1 e).1)]
def fEnd (b r : List Int) (v : Nat) (R : DRes) : FRes := if R.2.2 = 0 then (R.1, R.2.1, ((b.length - r.length + v + 4 : Nat) : Int), 0) else ([], [], 0, R.2.2)
theorem first_tail (b r : List Int) (v : Nat) (hb : By b) (hl : b.length ≤ 100000) (e : b = countS v ++ r) (hv : v ≤ 4096) (hr : v + 4 ≤ r.length) (R : DRes) (hR : (∃ K, ∀ k, K ≤ k → frame_Decode.f k (r.take v) = some (R))) :
    (∃ K, ∀ k, K ≤ k → frame_First.j0 k b (v : Int) r false = some ((if (r.drop v).take 4 = fourS (sumS (r.take v)) then fEnd b r v R else (([] : List Int), ([] : List ByteArray), 0, 3)))) := by
  have hbr : By r := by rw [e] at hb; exact hb.right
  have hlen : b.length = (countS v).length + r.length := by rw [e]; simp
  have hcl := countS_len10 (u := v) (by omega)
  obtain ⟨K1, h1⟩ := sum_ev (r.take v) (by rw [List.length_take]; omega) (fun x hx => hbr.take v x hx)
  obtain ⟨K2, h2⟩ := hR
  refine ⟨K1 + K2 + 7, fun k hk => ?_⟩
  obtain ⟨k, rfl⟩ : ∃ m, k = m + 6 := ⟨k - 6, by omega⟩
  rw [frame_First.j0, if_neg (by simp), if_pos (by omega), if_pos (by omega), Int.toNat_natCast, h1 _ (by omega), Option.bind_some]
  show frame_First.l0 ((k + 1) + 4) b (v : Int) r (r.take v) (sumS (r.take v)) 0 = _
  rw [first_sum b r _ v _ hv hr (sumS_range _)]
  by_cases h4 : (r.drop v).take 4 = fourS (sumS (r.take v))
  · rw [if_pos h4, if_pos h4, frame_First.l0, if_neg (by omega), h2 _ (by omega), Option.bind_some]
    unfold fEnd
    by_cases h0 : R.2.2 = 0
    · rw [if_pos h0, if_pos h0]
      congr 4
      rw [w64 (x := (b.length : Int) - (r.length : Int)) (by omega) (by omega), w64 (x := (v : Int)) (by omega) (by omega), w64 (x := (b.length : Int) - (r.length : Int) + (v : Int)) (by omega) (by omega), w64 (by omega) (by omega)]
      omega
    · rw [if_neg h0, if_neg h0]
  · rw [if_neg h4, if_neg h4]
theorem ref_tail (b r : List Int) (v : Nat) (hb : By b) (hl : b.length ≤ 100000) (e : b = countS v ++ r) (hv : v ≤ 4096) (hr : v + 4 ≤ r.length) (R : DRes) (hR : (∃ K, ∀ k, K ≤ k → windroseref02_Decode.f k (r.take v) = some (R))) :
    (∃ K, ∀ k, K ≤ k → windroseref02_First.j0 k b (v : Int) ((countS v).length : Int) false = some ((if (r.drop v).take 4 = fourS (sumS (r.take v)) then fEnd b r v R else (([] : List Int), ([] : List ByteArray), 0, 3)))) := by
  have hbr : By r := by rw [e] at hb; exact hb.right
  have hlen : b.length = (countS v).length + r.length := by rw [e]; simp
  have hcl := countS_len10 (u := v) (by omega)
  have hsr := sumS_range (r.take v)
  obtain ⟨K1, h1⟩ := refsum_ev (r.take v) (by rw [List.length_take]; omega) (fun x hx => hbr.take v x hx)
  obtain ⟨K2, h2⟩ := hR
  have w1 : wrap64 (v : Int) = (v : Int) := w64 (by omega) (by omega)
  have w2 : Aside0 (wrap64 (((countS v).length : Int) + (v : Int)) = (((countS v).length + v : Nat) : Int)) := ⟨by rw [w64] <;> omega⟩
  have w3 : Aside0 (wrap64 ((((countS v).length + v : Nat) : Int) + 4) = (((countS v).length + v + 4 : Nat) : Int)) := ⟨by rw [w64] <;> omega⟩
  have c1 : (b.take ((countS v).length + v)).drop (countS v).length = r.take v := by rw [e, List.take_append, List.drop_append]; simp
  have c2 : (b.take ((countS v).length + v + 4)).drop ((countS v).length + v) = (r.drop v).take 4 := by
    rw [List.drop_take, e, List.drop_append, List.drop_of_length_le (by omega)]
    simp only [List.nil_append]
    congr 2 <;> omega
  have hf : windroseref02_four.f (sumS (r.take v)) = some (fourS (sumS (r.take v))) := by
    unfold windroseref02_four.f fourS
    rw [tdiv_nn hsr.1, tdiv_nn hsr.1, tdiv_nn hsr.1]
    congr 2 <;> first | omega | (congr 1 <;> first | omega | (congr 1 <;> omega))
  refine ⟨K1 + K2 + 1, fun k hk => ?_⟩
  obtain ⟨k, rfl⟩ : ∃ m, k = m + 1 := ⟨k - 1, by omega⟩
  rw [windroseref02_First.j0, if_neg (by simp), if_pos (by omega), w1, w2.out, if_pos (by omega), if_pos (by omega), Int.toNat_natCast, Int.toNat_natCast, c1, h1 _ (by omega), Option.bind_some, hf, Option.bind_some, if_pos (by omega), w3.out, if_pos (by omega), if_pos (by omega), Int.toNat_natCast, c2]
  by_cases h4 : (r.drop v).take 4 = fourS (sumS (r.take v))
  · rw [if_pos ((str_eq (by_fourS _) ((hbr.drop v).take 4)).2 h4.symm), if_pos h4, h2 _ (by omega), Option.bind_some]
    unfold fEnd
    by_cases h0 : R.2.2 = 0
    · rw [if_pos h0, if_pos h0]
      congr 4
      omega
    · rw [if_neg h0, if_neg h0]
  · rw [if_neg (fun h => h4 ((str_eq (by_fourS _) ((hbr.drop v).take 4)).1 h).symm), if_neg h4]
theorem both_first (b : List Int) (hb : By b) (hl : b.length ≤ 100000) : ∃ R : FRes, (∃ K, ∀ k, K ≤ k → frame_First.f k b = some (R)) ∧ (∃ K, ∀ k, K ≤ k → windroseref02_First.f k b = some (R)) ∧
    ((∃ ns ts tail, Held ns ts ∧ (enc ns ts).length ≤ 4096 ∧ b = frm ns ts ++ tail ∧ R = (ns, ts, ((frm ns ts).length : Int), 0)) ∨
     (∃ e : Int, e ≠ 0 ∧ R = ([], [], 0, e) ∧ ∀ ns ts tail, Held ns ts → (enc ns ts).length ≤ 4096 → b ≠ frm ns ts ++ tail)) := by
  obtain ⟨u, r, ok, ⟨K, hK⟩, ht, hf, hr⟩ := take_ev b hb hl
  obtain ⟨u', m, ⟨K', hK'⟩, hu', hm, hm10⟩ := Lead_ev b hb hl
  have fJ : ∀ k (u : Int) r, frame_First.j0 (k + 1) b u r true = some (([] : List Int), ([] : List ByteArray), 0, 2) := fun k u r => by rw [frame_First.j0, if_pos rfl]
  have rJ : ∀ k (u m : Int), windroseref02_First.j0 (k + 1) b u m true = some (([] : List Int), ([] : List ByteArray), 0, 2) := fun k u m => by rw [windroseref02_First.j0, if_pos rfl]
  cases ok with
  | false =>
    refine ⟨([], [], 0, 2), ⟨K + 1, fun k hk => ?_⟩, ?_, .inr ⟨2, by decide, rfl, fun ns ts tail hh hle e => hf rfl (enc ns ts).length _ (by omega) (by rw [e, frm_assoc])⟩⟩
    · obtain ⟨k, rfl⟩ : ∃ m, k = m + 1 := ⟨k - 1, by omega⟩
      unfold frame_First.f
      rw [hK _ (by omega), Option.bind_some, if_neg (by simp), fJ]
    · obtain ⟨K2, h2⟩ := refcount (u := u') hu'
      refine ⟨K' + K2 + 1, fun k hk => ?_⟩
      obtain ⟨k, rfl⟩ : ∃ m, k = m + 1 := ⟨k - 1, by omega⟩
      unfold windroseref02_First.f
      rw [hK' _ (by omega), Option.bind_some]
      simp only []
      by_cases c0 : (m : Int) = 0
      · rw [if_pos c0, rJ]
      · rw [if_neg c0]
        by_cases c1 : (u' : Int) > 4096
        · rw [if_pos c1, rJ]
        · have hne : ¬ (strOfNums (countS u')).toList = (strOfNums (b.take m)).toList := by
            intro h
            have h3 := (str_eq (by_countS hu') (hb.take m)).1 h
            exact hf rfl u' (b.drop m) hu' (by rw [h3, List.take_append_drop])
          rw [if_neg c1, h2 _ (by omega), Option.bind_some, if_pos (by omega), if_pos (by omega), Int.toNat_natCast, if_neg hne, rJ]
  | true =>
    obtain ⟨v, rfl, hv, e⟩ := ht rfl
    obtain ⟨K2, h2⟩ := Lead_count v hv r (by rw [← e]; exact hl)
    rw [← e] at h2
    obtain ⟨K3, h3⟩ := refcount (u := v) hv
    have hcl := countS_len10 hv
    have hcp := countS_pos v
    have hbr : By r := by rw [e] at hb; exact hb.right
    have hlen : b.length = (countS v).length + r.length := by rw [e]; simp
    have hst : (strOfNums (countS v)).toList = (strOfNums (b.take (countS v).length)).toList := by
      rw [e, List.take_left]
    have fst : ∀ ns ts tail, Held ns ts → (enc ns ts).length ≤ 4096 → b = frm ns ts ++ tail → v = (enc ns ts).length ∧ r = enc ns ts ++ (fourS (sumS (enc ns ts)) ++ tail) := by
      intro ns ts tail hh hle e'
      rw [e, frm_assoc] at e'
      exact countS_prefix hv (by omega) e'
    by_cases c1 : v ≤ 4096
    · by_cases c2 : v + 4 ≤ r.length
      · have hx : By (r.take v) := hbr.take v
        have hxl : (r.take v).length ≤ 4096 := by rw [List.length_take]; omega
        obtain ⟨R, h4, h5, hR⟩ := both_dec (r.take v) hx hxl
        obtain ⟨K4, h4⟩ := first_tail b r v hb hl e c1 c2 R h4
        obtain ⟨K5, h5⟩ := ref_tail b r v hb hl e c1 c2 R h5
        refine ⟨(if (r.drop v).take 4 = fourS (sumS (r.take v)) then fEnd b r v R else (([] : List Int), ([] : List ByteArray), 0, 3)), ⟨K + K4, fun k hk => ?_⟩, ⟨K2 + K3 + K5, fun k hk => ?_⟩, ?_⟩
        · unfold frame_First.f
          rw [hK _ (by omega), Option.bind_some, if_pos rfl, if_neg (by simp only; omega)]
          simp only []
          rw [w64 (x := (v : Int)) (by omega) (by omega), w64 (x := (v : Int) + 4) (by omega) (by omega), decide_eq_false (by omega)]
          exact h4 k (by omega)
        · unfold windroseref02_First.f
          rw [h2 _ (by omega), Option.bind_some]
          simp only []
          rw [if_neg (by omega), if_neg (by omega), h3 _ (by omega), Option.bind_some, if_pos (by omega), if_pos (by omega), Int.toNat_natCast, if_pos hst,
            w64 (x := (b.length : Int) - ((countS v).length : Int)) (by omega) (by omega), w64 (x := (b.length : Int) - ((countS v).length : Int) - 4) (by omega) (by omega), w64 (x := (v : Int)) (by omega) (by omega), decide_eq_false (by omega)]
          exact h5 k (by omega)
        · by_cases h6 : (r.drop v).take 4 = fourS (sumS (r.take v))
          · rw [if_pos h6]
            rcases hR with ⟨ns, ts, hh, e', rfl⟩ | ⟨rfl, hno⟩
            · have hvl : (enc ns ts).length = v := by rw [← e', List.length_take]; omega
              refine .inl ⟨ns, ts, r.drop (v + 4), hh, by omega, ?_, ?_⟩
              · rw [frm_assoc, ← e', ← h6, ← List.drop_drop, List.take_append_drop, List.take_append_drop, List.length_take, Nat.min_eq_left (by omega)]
                exact e
              · unfold fEnd
                rw [if_pos rfl, frm_length, hvl]
                congr 4
                omega
            · refine .inr ⟨2, by decide, rfl, fun ns ts tail hh hle e' => ?_⟩
              obtain ⟨g1, g2⟩ := fst ns ts tail hh hle e'
              exact hno ns ts hh (by rw [g2, g1, List.take_left])
          · rw [if_neg h6]
            refine .inr ⟨3, by decide, rfl, fun ns ts tail hh hle e' => ?_⟩
            obtain ⟨g1, g2⟩ := fst ns ts tail hh hle e'
            refine h6 ?_
            rw [g2, g1, List.take_left, List.drop_left]
            rfl
      · refine ⟨([], [], 0, 2), ⟨K + 1, fun k hk => ?_⟩, ⟨K2 + K3 + 1, fun k hk => ?_⟩, .inr ⟨2, by decide, rfl, fun ns ts tail hh hle e' => ?_⟩⟩
        · obtain ⟨k, rfl⟩ : ∃ m, k = m + 1 := ⟨k - 1, by omega⟩
          unfold frame_First.f
          rw [hK _ (by omega), Option.bind_some, if_pos rfl, if_neg (by simp only; omega)]
          simp only []
          rw [w64 (x := (v : Int)) (by omega) (by omega), w64 (x := (v : Int) + 4) (by omega) (by omega), decide_eq_true (by omega), fJ]
        · obtain ⟨k, rfl⟩ : ∃ m, k = m + 1 := ⟨k - 1, by omega⟩
          unfold windroseref02_First.f
          rw [h2 _ (by omega), Option.bind_some]
          simp only []
          rw [if_neg (by omega), if_neg (by omega), h3 _ (by omega), Option.bind_some, if_pos (by omega), if_pos (by omega), Int.toNat_natCast, if_pos hst,
            w64 (x := (b.length : Int) - ((countS v).length : Int)) (by omega) (by omega), w64 (x := (b.length : Int) - ((countS v).length : Int) - 4) (by omega) (by omega), w64 (x := (v : Int)) (by omega) (by omega), decide_eq_true (by omega), rJ]
        · obtain ⟨g1, g2⟩ := fst ns ts tail hh hle e'
          have := congrArg List.length g2
          simp only [List.length_append, fourS, List.length_cons, List.length_nil] at this
          omega
    · refine ⟨([], [], 0, 2), ⟨K + 1, fun k hk => ?_⟩, ⟨K2 + 1, fun k hk => ?_⟩, .inr ⟨2, by decide, rfl, fun ns ts tail hh hle e' => ?_⟩⟩
      · obtain ⟨k, rfl⟩ : ∃ m, k = m + 1 := ⟨k - 1, by omega⟩
        unfold frame_First.f
        rw [hK _ (by omega), Option.bind_some, if_pos rfl, if_pos (by simp only; omega), fJ]
      · obtain ⟨k, rfl⟩ : ∃ m, k = m + 1 := ⟨k - 1, by omega⟩
        unfold windroseref02_First.f
        rw [h2 _ (by omega), Option.bind_some]
        simp only []
        rw [if_neg (by omega), if_pos (by omega), rJ]
      · obtain ⟨g1, g2⟩ := fst ns ts tail hh hle e'
        omega
end Go.Proofs.Ytlpohipneianjaa.Q
end
section
set_option linter.unusedVariables false
namespace Go.Proofs.Ytlpohipneianjaa.Q
open Go Go.RowKit Go.Proofs.Ytlpohipneianjaa.G Go.Proofs.YtlpohipneianjaaW.PrintWords Go.Proofs.YtlpohipneianjaaW.PrintLast Go.Proofs.YtlpohipneianjaaW.PrintMore
abbrev Dat := S29
def Fits (d : Dat) : Prop := Held d.f0 d.f1 ∧ (enc d.f0 d.f1).length ≤ 4096
def NoFrame (b : List Int) : Prop := ∀ ns ts tail, Held ns ts → (enc ns ts).length ≤ 4096 → b ≠ frm ns ts ++ tail
inductive Rows : List Int → List Dat → Nat → Prop
  | stop (b : List Int) : NoFrame b → Rows b [] 0
  | more (d : Dat) (tail : List Int) (l : List Dat) (n : Nat) : Fits d → Rows tail l n → Rows (frm d.f0 d.f1 ++ tail) (d :: l) ((frm d.f0 d.f1).length + n)
theorem frm_pos (ns : List Int) (ts : List ByteArray) : 5 ≤ (frm ns ts).length := by rw [frm_length]; have := countS_pos (enc ns ts).length; omega
theorem frm_inj {a a' : List Int} {t t' : List ByteArray} {x y : List Int} (h : Held a t) (hl : (enc a t).length ≤ 4096) (h' : Held a' t') (hl' : (enc a' t').length ≤ 4096) (e : frm a t ++ x = frm a' t' ++ y) : a = a' ∧ t = t' ∧ x = y := by
  rw [frm_assoc, frm_assoc] at e
  obtain ⟨h1, h2⟩ := countS_prefix (by omega) (by omega) e
  obtain ⟨h3, h4⟩ := List.append_inj h2 h1
  obtain ⟨h5, h6⟩ := enc_inj h h' h3
  obtain ⟨_, h7⟩ := List.append_inj h4 (by simp [fourS])
  exact ⟨h5, h6, h7⟩
theorem Rows.func {b : List Int} {l : List Dat} {n : Nat} (h : Rows b l n) : ∀ {l' : List Dat} {n' : Nat}, Rows b l' n' → l = l' ∧ n = n' := by
  induction h with
  | stop b hb =>
    intro l' n' h'
    cases h' with
    | stop _ _ => exact ⟨rfl, rfl⟩
    | more d tail l n hd hr => exact absurd rfl (hb d.f0 d.f1 tail hd.1 hd.2)
  | more d tail l n hd hr ih =>
    intro l' n' h'
    generalize hb : frm d.f0 d.f1 ++ tail = b at h'
    cases h' with
    | stop _ hb' => exact absurd hb.symm (hb' d.f0 d.f1 tail hd.1 hd.2)
    | more d' tail' l' n' hd' hr' =>
      obtain ⟨h1, h2, h3⟩ := frm_inj hd.1 hd.2 hd'.1 hd'.2 hb
      subst h3
      obtain ⟨rfl, rfl⟩ := ih hr'
      obtain ⟨d0, d1⟩ := d
      obtain ⟨e0, e1⟩ := d'
      simp only at h1 h2
      subst h1 h2
      exact ⟨rfl, rfl⟩
theorem row_ev (b : List Int) (hb : By b) (hl : b.length ≤ 100000) (d : Nat) : ∀ (p i : Nat) (acc : List Dat), b.length - p ≤ d → p ≤ b.length → i ≤ p → acc.length ≤ p → ∃ (l : List Dat) (n : Nat), Rows (b.drop p) l n ∧ p + n ≤ b.length ∧ l.length ≤ n ∧ (∀ x ∈ l, Fits x) ∧
    (∃ K, ∀ k, K ≤ k → frame_Row.l0 k b acc p = some ((acc ++ l, ((p + n : Nat) : Int)))) ∧ (∃ K, ∀ k, K ≤ k → windroseref02_Row.l0 k b acc p i = some ((acc ++ l, ((p + n : Nat) : Int)))) := by
  induction d with
  | zero =>
    intro p i acc hd hp hi ha
    have hz : b.drop p = [] := List.drop_of_length_le (by omega)
    obtain ⟨R, ⟨K1, h1⟩, ⟨K2, h2⟩, hR⟩ := both_first (b.drop p) (hb.drop p) (by rw [List.length_drop]; omega)
    rcases hR with ⟨ns, ts, tail, hh, hle, e, rfl⟩ | ⟨e, he, rfl, hno⟩
    · rw [hz] at e
      have := congrArg List.length e
      have := frm_pos ns ts
      simp only [List.length_append, List.length_nil] at *
      omega
    · refine ⟨[], 0, .stop _ hno, by omega, by simp, fun x hx => by simp at hx, ⟨K1 + 1, fun k hk => ?_⟩, ⟨K2 + 1, fun k hk => ?_⟩⟩
      · obtain ⟨k, rfl⟩ : ∃ m, k = m + 1 := ⟨k - 1, by omega⟩
        rw [frame_Row.l0, if_pos (by omega), if_pos (by omega), Int.toNat_natCast, h1 _ (by omega), Option.bind_some]
        simp only []
        rw [if_neg he, List.append_nil]
        rfl
      · obtain ⟨k, rfl⟩ : ∃ m, k = m + 1 := ⟨k - 1, by omega⟩
        rw [windroseref02_Row.l0, if_pos (by omega), if_pos (by omega), if_pos (by omega), Int.toNat_natCast, h2 _ (by omega), Option.bind_some]
        simp only []
        rw [if_neg he, List.append_nil]
        rfl
  | succ d ih =>
    intro p i acc hd hp hi ha
    obtain ⟨R, ⟨K1, h1⟩, ⟨K2, h2⟩, hR⟩ := both_first (b.drop p) (hb.drop p) (by rw [List.length_drop]; omega)
    rcases hR with ⟨ns, ts, tail, hh, hle, e, rfl⟩ | ⟨e, he, rfl, hno⟩
    · have hfp := frm_pos ns ts
      have hel := congrArg List.length e
      rw [List.length_drop] at hel
      simp only [List.length_append] at hel
      obtain ⟨l, n, hr, hn, hln, hf, ⟨K3, h3⟩, ⟨K4, h4⟩⟩ := ih (p + (frm ns ts).length) (i + 1) (acc ++ [(⟨ns, ts⟩ : Dat)]) (by omega) (by omega) (by omega) (by simp only [List.length_append, List.length_cons, List.length_nil]; omega)
      have htl : b.drop (p + (frm ns ts).length) = tail := by rw [← List.drop_drop, e, List.drop_left]
      rw [htl] at hr
      have ew : Aside0 (wrap64 ((p : Int) + ((frm ns ts).length : Int)) = ((p + (frm ns ts).length : Nat) : Int)) := ⟨by rw [w64] <;> omega⟩
      have ei : Aside0 (wrap64 ((i : Int) + 1) = ((i + 1 : Nat) : Int)) := ⟨by rw [w64] <;> omega⟩
      refine ⟨(⟨ns, ts⟩ : Dat) :: l, (frm ns ts).length + n, ?_, by omega, by simp only [List.length_cons]; omega, ?_, ⟨K1 + K3 + 1, fun k hk => ?_⟩, ⟨K2 + K4 + 1, fun k hk => ?_⟩⟩
      · rw [e]; exact .more (⟨ns, ts⟩ : Dat) tail l n ⟨hh, hle⟩ hr
      · intro x hx
        rcases List.mem_cons.1 hx with rfl | hx
        · exact ⟨hh, hle⟩
        · exact hf x hx
      · obtain ⟨k, rfl⟩ : ∃ m, k = m + 1 := ⟨k - 1, by omega⟩
        rw [frame_Row.l0, if_pos (by omega), if_pos (by omega), Int.toNat_natCast, h1 _ (by omega), Option.bind_some]
        simp only []
        rw [if_pos trivial, if_pos (by omega), ew.out, h3 k (by omega)]
        simp [Nat.add_assoc]
      · obtain ⟨k, rfl⟩ : ∃ m, k = m + 1 := ⟨k - 1, by omega⟩
        rw [windroseref02_Row.l0, if_pos (by omega), if_pos (by omega), if_pos (by omega), Int.toNat_natCast, h2 _ (by omega), Option.bind_some]
        simp only []
        rw [if_pos trivial, if_pos (by omega), ew.out, ei.out, h4 k (by omega)]
        simp [Nat.add_assoc]
    · refine ⟨[], 0, .stop _ hno, by omega, by simp, fun x hx => by simp at hx, ⟨K1 + 1, fun k hk => ?_⟩, ⟨K2 + 1, fun k hk => ?_⟩⟩
      · obtain ⟨k, rfl⟩ : ∃ m, k = m + 1 := ⟨k - 1, by omega⟩
        rw [frame_Row.l0, if_pos (by omega), if_pos (by omega), Int.toNat_natCast, h1 _ (by omega), Option.bind_some]
        simp only []
        rw [if_neg he, List.append_nil]
        rfl
      · obtain ⟨k, rfl⟩ : ∃ m, k = m + 1 := ⟨k - 1, by omega⟩
        rw [windroseref02_Row.l0, if_pos (by omega), if_pos (by omega), if_pos (by omega), Int.toNat_natCast, h2 _ (by omega), Option.bind_some]
        simp only []
        rw [if_neg he, List.append_nil]
        rfl
theorem Row_ev (b : List Int) (hb : By b) (hl : b.length ≤ 100000) : ∃ (l : List Dat) (n : Nat), Rows b l n ∧ n ≤ b.length ∧ l.length ≤ n ∧ (∀ x ∈ l, Fits x) ∧ (∃ K, ∀ k, K ≤ k → frame_Row.f k b = some ((l, (n : Int)))) ∧ (∃ K, ∀ k, K ≤ k → windroseref02_Row.f k b = some ((l, (n : Int)))) := by
  obtain ⟨l, n, h1, h2, h3, h4, ⟨K1, h5⟩, ⟨K2, h6⟩⟩ := row_ev b hb hl b.length 0 0 [] (by omega) (by omega) (by omega) (by simp)
  refine ⟨l, n, by simpa using h1, by omega, h3, h4, ⟨K1, fun k hk => ?_⟩, ⟨K2, fun k hk => ?_⟩⟩
  · unfold frame_Row.f; simpa using h5 k hk
  · unfold windroseref02_Row.f; simpa using h6 k hk
theorem list_loop (l : List Dat) (hl : l.length ≤ 9223372036854775807) (hf : ∀ x ∈ l, x.f0.length ≤ 9223372036854775807 ∧ x.f1.length ≤ 9223372036854775807) (d : Nat) : ∀ i : Nat, i + d = l.length → (∃ K, ∀ k, K ≤ k → windroseref02_List.l0 k l l i = some (true)) := by
  induction d with
  | zero =>
    intro i hi
    refine Ev.succ 0 fun k _ => ?_
    simp only [windroseref02_List.l0]
    rw [if_neg (by omega)]
  | succ d ih =>
    intro i hi
    obtain ⟨K, hK⟩ := ih (i + 1) (by omega)
    have hx := hf (rd_T29 l i) (by simp only [rd_T29, Int.toNat_natCast]; exact getD_mem l i _ (by omega))
    obtain ⟨K2, h2⟩ := Same02_ev (rd_T29 l i).f0 (rd_T29 l i).f1 (rd_T29 l i).f0 (rd_T29 l i).f1 hx.1 hx.2
    refine Ev.succ (K + K2) fun k hk => ?_
    simp only [windroseref02_List.l0]
    rw [if_pos (by omega), if_pos (by omega), if_pos (by omega), h2 k (by omega), Option.bind_some, decide_eq_true ⟨rfl, rfl⟩, if_pos rfl, show wrap64 ((i : Int) + 1) = ((i + 1 : Nat) : Int) by rw [w64] <;> omega]
    exact hK k (by omega)
theorem List_refl (l : List Dat) (hl : l.length ≤ 9223372036854775807) (hf : ∀ x ∈ l, x.f0.length ≤ 9223372036854775807 ∧ x.f1.length ≤ 9223372036854775807) : (∃ K, ∀ k, K ≤ k → windroseref02_List.f k l l = some (true)) := by
  obtain ⟨K, hK⟩ := list_loop l hl hf l.length 0 (by omega)
  refine ⟨K, fun k hk => ?_⟩
  unfold windroseref02_List.f
  rw [if_pos rfl]
  exact hK k hk
end Go.Proofs.Ytlpohipneianjaa.Q
end
section
set_option linter.unusedVariables false
namespace Go.Proofs.Ytlpohipneianjaa.Q
open Go Go.RowKit Go.Proofs.Ytlpohipneianjaa.G Go.Proofs.YtlpohipneianjaaW.PrintWords Go.Proofs.YtlpohipneianjaaW.PrintLast
theorem wf_by {l : List Int} (h : ∀ y ∈ l, (Lit.int .u8 y).wf = true) : By l := by
  intro x hx
  have h := h x hx
  simp [Lit.wf] at h
  have e1 : IntKind.min .u8 = 0 := by decide
  have e2 : IntKind.max .u8 = 255 := by decide
  first | (rw [e1, e2] at h; exact h) | (rw [e1] at h; exact h) | exact h
theorem FrameRows : ∀ (l0 : List Int), (l0.length ≤ maxLen ∧ ∀ y2 ∈ l0, (Lit.int .u8 y2).wf = true) → ∃ k, windroselaw02_FrameRows.f k l0 = some true := by
  intro b ⟨hm, hw⟩
  have hb := wf_by hw
  obtain ⟨K1, h1⟩ := awake02_ev
  by_cases hl : (b.length : Int) > 6000
  · refine ⟨K1, ?_⟩
    unfold windroselaw02_FrameRows.f
    rw [if_pos hl, h1 _ (by omega)]
    rfl
  · obtain ⟨⟨ns, ts, n, e⟩, ⟨K2, h2⟩, ⟨K3, h3⟩, hR⟩ := both_first b hb (by omega)
    obtain ⟨l, p, _, hp, hlp, hf, ⟨K4, h4⟩, ⟨K5, h5⟩⟩ := Row_ev b hb (by omega)
    have hn : ns.length ≤ 9223372036854775807 ∧ ts.length ≤ 9223372036854775807 := by
      rcases hR with ⟨ns', ts', tail, hh, hle, _, e'⟩ | ⟨e', _, e'', _⟩
      · cases e'
        exact ⟨hh.1, hh.2.2.1⟩
      · cases e''
        exact ⟨by simp, by simp⟩
    obtain ⟨K6, h6⟩ := Same02_ev ns ts ns ts hn.1 hn.2
    obtain ⟨K7, h7⟩ := List_refl l (by omega) (fun x hx => ⟨(hf x hx).1.1, (hf x hx).1.2.2.1⟩)
    refine ⟨K1 + K2 + K3 + K4 + K5 + K6 + K7, ?_⟩
    unfold windroselaw02_FrameRows.f
    rw [if_neg hl, Option.bind_some]
    simp only [List.length_nil, Nat.zero_add, List.nil_append]
    rw [if_pos (by omega), h2 _ (by omega), Option.bind_some, h3 _ (by omega), Option.bind_some, h4 _ (by omega), Option.bind_some, h5 _ (by omega), Option.bind_some]
    simp only []
    rw [if_pos trivial, if_pos trivial, h6 _ (by omega), Option.bind_some, decide_eq_true ⟨rfl, rfl⟩, if_pos rfl, if_pos trivial, h7 _ (by omega), Option.bind_some, if_pos rfl, h1 _ (by omega)]
    rfl
end Go.Proofs.Ytlpohipneianjaa.Q
end
section
namespace Go.Proofs.Ytlpohipneianjaa.frameRows
open Go.ChangeShapes Go.WideShapes Go.ChangeAt Go.RowKit Go.Proofs.YtlpohipneianjaaX Go.Proofs.Ytlpohipneianjaa.G
open Go.ChangeMaps (open_string shut_string)
set_option linter.unusedVariables false
set_option linter.unusedSimpArgs false
theorem own : ownKnob Try.prog.godebug = none := by kernel_rfl
theorem laidOut : laidOutB Try.prog = true := by kernel_rfl
set_option maxRecDepth 100000 in
theorem lifted (os : Os) (started : os.Started) (H : Type) (enc : TypeId × Value → H) :
    ReturnsInHanded {} Try.checked os 10 .any (Rows.frameRowsSpec.pre6 enc Try.prog Try.f10 Rows.frameRowsRow.domain false) (Rows.frameRowsSpec.post enc Try.prog Try.f10 false true false false) := by
  refine returnsInHanded_of_change_sized (C := Try.checked) own started (by kernel_rfl) Try.func10
    (ChangeSpec.witness6 (enc := enc) (C := Try.checked) false ⟨#[], #[.slice none 0 0], []⟩ 8 (by kernel_rfl) (by kernel_rfl) (by kernel_rfl) (by kernel_rfl)) ?_
  intro W base args ds gs before hval0 hW hcnd hsz0 _
  have hval : ∀ (j : Nat) t v, Try.f10.params[j]? = some t → args[j]? = some v → Value.okWide Try.prog W .any base t v := hval0
  have hW' := hW
  obtain ⟨p, q, hA0, hV, rfl, hfz, hnd⟩ := hW
  have hA : DataW.TrodAll enc Try.prog W 0 (fun _ => true) true Try.f10.params.toList args.toList ds p := hA0
  rw [Try.params10] at hA hval
  obtain ⟨v0, vs0, d0, ds0, p0, q0, hargs, rfl, rfl, h0, r0⟩ := trodAll_cons hA
  obtain ⟨rfl, rfl, rfl⟩ := trodAll_nil r0
  obtain rfl : args = #[v0] := by cases args; simp_all
  obtain ⟨rfl, rfl⟩ := trodVars_none hV
  have k0 := h0
  have lt0 : ∀ x ∈ p0, x.block < W.heap.size := by obtain ⟨m, hm⟩ := k0; exact DataW.trod_lt m _ _ _ hm
  obtain ⟨u0, len0, cap0, rfl⟩ := okWide_slice Try.underlying22 (hval 0 22 v0 rfl rfl)
  obtain ⟨fuel0, hf0⟩ := h0
  obtain ⟨l0, ⟨A0, c0, e0, hc0, hr0⟩, w0⟩ := (Rd.slice Try.underlying22 (by kernel_rfl) (Rd.int Try.underlying5)) enc W _ _ _ fuel0 _ _ hf0
  simp [Value.cells] at e0
  obtain ⟨rfl, rfl, rfl⟩ := e0
  clear hA0 hval0 hsz0
  obtain ⟨k, h⟩ := Q.FrameRows l0 w0
  refine (windroselaw02_FrameRows.calls k u0 cap0 l0 true W hr0 hc0 h).mono fun e W' ⟨he, bel⟩ => ?_
  subst he
  exact ⟨_, rfl, _, _, _, [], _, [], hW', trodAll_mk1 (shut_bool Try.underlying4 _), (trodAll_cons_mk (Below.trod laidOut (by kernel_rfl) (of_decide_eq_true (by kernel_rfl)) k0 bel lt0) trodAll_mk0), rfl, bel.frame _, fun h => by cases h⟩
theorem over : Rows.frameRowsRow.holds Try.pinned (OpenSpec.ofChange Rows.frameRowsSpec) :=
  OpenClaim.holds_of_wide 10 Try.f10 rfl rfl rfl rfl rfl rfl rfl ⟨rfl, rfl, rfl, rfl, rfl⟩ rfl rfl rfl rfl rfl (by kernel_rfl) Try.func10 (by kernel_rfl)
    (of_decide_eq_true (by kernel_rfl)) (by unfold Func.isWrapper; first | (rw [if_pos (by decide +kernel)]; kernel_rfl) | (rw [if_neg (by decide +kernel)]; exact ⟨rfl, rfl⟩))
    (fun os started H enc _ => lifted os started H enc)
theorem proved : Rows.FrameRowsSaid := over
#print axioms proved
end Go.Proofs.Ytlpohipneianjaa.frameRows
namespace Go.Proofs.Ytlpohipneianjaa
theorem frameRows_holds : Rows.FrameRowsSaid := frameRows.proved
end Go.Proofs.Ytlpohipneianjaa
end
