/- The sum of bytes: byte by byte (the code) and bit by bit (the reference): the same. No condition. -/
import Derived.Test.YtlpohipneianjaaG2
import Derived.Test.YtlpohipneianjaaG8
import Derived.Test.YtlpohipneianjaaPEv
import Derived.Laws.Bits64
import Derived.Laws.BitsLemmas
set_option linter.unusedVariables false
namespace Go.Proofs.Ytlpohipneianjaa.Q
open Go Go.RowKit Go.Proofs.Ytlpohipneianjaa.G Go.Proofs.YtlpohipneianjaaW.PrintWords Go.Proofs.YtlpohipneianjaaW.PrintLast Go.Proofs.YtlpohipneianjaaW.PrintMore

abbrev B32 := BitVec 32
def poly : B32 := 0x741B8CD7
theorem poly_nat : poly.toNat = 1947962583 := by decide
theorem polyI : (1947962583 : Int) = (poly.toNat : Int) := by rw [poly_nat]; rfl
/-- The register, one bit further, nought coming in. -/
def T (s : B32) : B32 := if s.msb then (s <<< 1) ^^^ poly else s <<< 1
def iter : Nat → B32 → B32
  | 0, s => s
  | n + 1, s => iter n (T s)
/-- A byte's place in the register. -/
def high (x : Nat) : B32 := BitVec.ofNat 32 (x * 16777216)
def byteStep (r : B32) (c : Int) : B32 := iter 8 (r ^^^ high c.toNat)
def crc (r : B32) (b : List Int) : B32 := b.foldl byteStep r

theorem T_xor (a b : B32) : T (a ^^^ b) = T a ^^^ T b := by
  unfold T
  rw [BitVec.msb_xor, BitVec.shiftLeft_xor_distrib]
  cases a.msb <;> cases b.msb <;> simp
  · ac_rfl
  · ac_rfl
  · rw [show (a <<< 1 ^^^ poly ^^^ (b <<< 1 ^^^ poly)) = (a <<< 1 ^^^ b <<< 1) ^^^ (poly ^^^ poly) by ac_rfl, BitVec.xor_self, BitVec.xor_zero]

def bit1 : B32 := BitVec.ofNat 32 2147483648
theorem high_split : ∀ x : Fin 256, high x.val = (if 128 ≤ x.val then bit1 else 0#32) ^^^ high (x.val % 128) := by decide +kernel
theorem high_T : ∀ y : Fin 128, T (high y.val) = high (2 * y.val % 256) := by decide +kernel
theorem T_byte (r : B32) (x : Nat) (h : x < 256) : T (r ^^^ high x) = T (r ^^^ (if 128 ≤ x then bit1 else 0#32)) ^^^ high (2 * x % 256) := by
  have h1 := high_split ⟨x, h⟩
  have h2 := high_T ⟨x % 128, by omega⟩
  simp only at h1 h2
  rw [h1, ← BitVec.xor_assoc, T_xor, h2]
  congr 2
  omega

/-! ### the code's -/
theorem xor32 (a b : B32) : Go.bits .xor .u32 (a.toNat : Int) (b.toNat : Int) = ((a ^^^ b).toNat : Int) := by
  have h : (a ^^^ b).toNat < 4294967296 := (a ^^^ b).isLt
  have e : ∀ x y : Int, Go.bits .xor .u32 x y = IntKind.u32.wrap ((BitVec.ofInt 32 x ^^^ BitVec.ofInt 32 y).toNat : Int) := fun _ _ => rfl
  rw [e, BitVec.ofInt_natCast, BitVec.ofInt_natCast, BitVec.ofNat_toNat, BitVec.ofNat_toNat, BitVec.setWidth_eq, BitVec.setWidth_eq, IntKind.wrap_u32]
  omega

theorem msb_iff (s : B32) : s.msb = true ↔ (s.toNat : Int) / 2147483648 = 1 := by
  rw [BitVec.msb_eq_decide, decide_eq_true_eq]
  have := s.isLt
  simp only [Nat.reduceSub, Nat.reducePow] at *
  omega
theorem shl_toNat (s : B32) : ((s <<< 1).toNat : Int) = (s.toNat : Int) * 2 % 4294967296 := by
  rw [BitVec.toNat_shiftLeft, Nat.shiftLeft_eq]
  omega

theorem sum_inner (b : List Int) (i : Nat) (hi : i < b.length) (hb : b.length ≤ 100000) (r : Int) (n : Nat) : ∀ (j : Nat) (s : B32), j + n = 8 → (∃ K, ∀ k, K ≤ k → frame_Sum.l0 k ((iter n s).toNat : Int) b (b.length : Int) ((i + 1 : Nat) : Int) = some (r)) →
    (∃ K, ∀ k, K ≤ k → frame_Sum.l1 k (s.toNat : Int) b (b.length : Int) i j = some (r)) := by
  induction n with
  | zero =>
    intro j s hj h
    obtain ⟨K, hK⟩ := h
    refine Ev.succ K fun k hk => ?_
    simp only [frame_Sum.l1]
    rw [if_neg (by omega), show wrap64 ((i : Int) + 1) = ((i + 1 : Nat) : Int) by rw [w64] <;> omega]
    exact hK k hk
  | succ n ih =>
    intro j s hj h
    obtain ⟨K, hK⟩ := ih (j + 1) (T s) (by omega) h
    refine Ev.succ K fun k hk => ?_
    simp only [frame_Sum.l1]
    rw [if_pos (by omega), show wrap64 ((j : Int) + 1) = ((j + 1 : Nat) : Int) by rw [w64] <;> omega]
    by_cases hm : s.msb = true
    · have e : Go.bits .xor .u32 ((s.toNat : Int) * 2 % 4294967296) 1947962583 = ((T s).toNat : Int) := by
        rw [← shl_toNat, polyI, xor32]
        unfold T
        rw [if_pos hm]
      rw [if_pos ((msb_iff s).1 hm), e]
      exact hK k hk
    · have e : (s.toNat : Int) * 2 % 4294967296 = ((T s).toNat : Int) := by
        rw [← shl_toNat]
        unfold T
        rw [if_neg hm]
      rw [if_neg (fun h => hm ((msb_iff s).2 h)), e]
      exact hK k hk

theorem sum_outer (b : List Int) (hb : b.length ≤ 100000) (hr : ∀ x ∈ b, 0 ≤ x ∧ x ≤ 255) (d : Nat) : ∀ (i : Nat) (s : B32), i + d = b.length → (∃ K, ∀ k, K ≤ k → frame_Sum.l0 k (s.toNat : Int) b (b.length : Int) i = some (((crc s (b.drop i)).toNat : Int))) := by
  induction d with
  | zero =>
    intro i s hi
    refine Ev.succ 0 fun k _ => ?_
    simp only [frame_Sum.l0]
    rw [if_neg (by omega), List.drop_of_length_le (by omega)]
    rfl
  | succ d ih =>
    intro i s hi
    have hd : b.drop i = rd b i :: b.drop (i + 1) := by rw [drop_getD b i 0 (by omega)]; rfl
    have hx := hr (rd b i) (by simp only [rd, Int.toNat_natCast]; exact getD_mem b i 0 (by omega))
    obtain ⟨K, hK⟩ := sum_inner b i (by omega) hb _ 8 0 (s ^^^ high (rd b i).toNat) (by omega) (ih (i + 1) (byteStep s (rd b i)) (by omega))
    refine Ev.succ K fun k hk => ?_
    simp only [frame_Sum.l0]
    have e : Go.bits .xor .u32 (s.toNat : Int) (((rd b i % 4294967296) * 16777216) % 4294967296) = ((s ^^^ high (rd b i).toNat).toNat : Int) := by
      rw [← xor32]
      congr 1
      unfold high
      rw [BitVec.toNat_ofNat]
      omega
    rw [if_pos (by omega), if_pos (by omega), if_pos (by omega), e, hd]
    exact hK k hk

def sumS (b : List Int) : Int := ((crc 0xFFFFFFFF#32 b).toNat : Int)
theorem sum_ev (b : List Int) (hb : b.length ≤ 100000) (hr : ∀ x ∈ b, 0 ≤ x ∧ x ≤ 255) : (∃ K, ∀ k, K ≤ k → frame_Sum.f k b = some ((sumS b))) := by
  obtain ⟨K, hK⟩ := sum_outer b hb hr b.length 0 0xFFFFFFFF#32 (by omega)
  exact ⟨K, fun k hk => hK k hk⟩

/-! ### the reference's -/
theorem xor64_32 (a b : B32) : Go.bits .xor .u64 (a.toNat : Int) (b.toNat : Int) = ((a ^^^ b).toNat : Int) := by
  have h1 := a.isLt
  have h2 := b.isLt
  rw [bits_xor_u64_nat _ _ (by omega) (by omega), BitVec.toNat_xor]

theorem bit_of : ∀ (x : Fin 256) (j : Fin 8), x.val / 2 ^ (7 - j.val) % 2 = (if 128 ≤ x.val * 2 ^ j.val % 256 then 1 else 0) := by decide +kernel

theorem bit1_msb (r : B32) (p : Prop) [Decidable p] : (r ^^^ (if p then bit1 else 0#32)).msb = (r.msb ^^ decide p) := by
  rw [BitVec.msb_xor]
  by_cases h : p
  · rw [if_pos h, decide_eq_true h]; rfl
  · rw [if_neg h, decide_eq_false h]; rfl
theorem bit1_shl (r : B32) (p : Prop) [Decidable p] : (r ^^^ (if p then bit1 else 0#32)) <<< 1 = r <<< 1 := by
  rw [BitVec.shiftLeft_xor_distrib]
  have e1 : bit1 <<< 1 = 0#32 := by decide
  have e2 : 0#32 <<< 1 = 0#32 := by decide
  by_cases h : p
  · rw [if_pos h, e1, BitVec.xor_zero]
  · rw [if_neg h, e2, BitVec.xor_zero]

theorem T_in (r : B32) (c : Prop) [Decidable c] : T (r ^^^ (if c then bit1 else 0#32)) = if (r.msb = true ↔ c) then r <<< 1 else (r <<< 1) ^^^ poly := by
  unfold T
  rw [bit1_msb, bit1_shl]
  by_cases h : r.msb = true
  · by_cases hc : c
    · rw [h, decide_eq_true hc]; simp [hc]
    · rw [h, decide_eq_false hc]; simp [hc]
  · have hf : r.msb = false := by simpa using h
    by_cases hc : c
    · rw [hf, decide_eq_true hc]; simp [hc]
    · rw [hf, decide_eq_false hc]; simp [hc]

theorem ref_unf (k : Nat) (x0 : List Int) (x3 x4 L q s out bit r2 r3 x5 y : Int) (h1 : wrap64 (8 * (x0.length : Int)) = L) (c1 : x4 < L) (h2 : wrap64 (Int.tdiv x4 8) = q) (c2 : 0 ≤ q) (c3 : q < (x0.length : Int))
    (h3 : IntKind.u64.wrap (wrap64 (7 - Int.tmod x4 8)) = s) (c4 : 0 ≤ s) (h4 : IntKind.u64.wrap (Int.tdiv x3 2147483648) = out) (hy : IntKind.u64.wrap (rd x0 q) = y) (h5 : Int.tmod (shr .u64 y s) 2 = bit)
    (h6 : Int.tmod (IntKind.u64.wrap (x3 * 2)) 4294967296 = r2) (h7 : Go.bits .xor .u64 r2 1947962583 = r3) (h8 : wrap64 (x4 + 1) = x5) :
    windroseref02_Sum.l0 (k + 1) x0 x3 x4 = if out = bit then windroseref02_Sum.l0 k x0 r2 x5 else windroseref02_Sum.l0 k x0 r3 x5 := by
  rw [windroseref02_Sum.l0, h1, if_pos c1, h2, if_pos c2, if_pos c3, h3, if_pos c4, h4, hy, h5, h6, h7, h8]

theorem ref_bit (x : Int) (hx : 0 ≤ x ∧ x ≤ 255) (j : Nat) (hj : j < 8) : Int.tmod (shr .u64 x ((7 - j : Nat) : Int)) 2 = (if 128 ≤ x.toNat * 2 ^ j % 256 then 1 else 0) := by
  have hb := bit_of ⟨x.toNat, by omega⟩ ⟨j, hj⟩
  simp only at hb
  unfold shr
  have hmin : min ((7 - j : Nat) : Int).toNat IntKind.u64.bits = 7 - j := by
    rw [Int.toNat_natCast]; exact Nat.min_eq_left (by simp only [IntKind.bits]; omega)
  rw [hmin]
  have e : x = ((x.toNat : Nat) : Int) := by omega
  have e' : ((x.toNat : Nat) : Int) / 2 ^ (7 - j) = ((x.toNat / 2 ^ (7 - j) : Nat) : Int) := by
    rw [Int.natCast_ediv, Int.natCast_pow]; rfl
  rw [show x / 2 ^ (7 - j) = ((x.toNat / 2 ^ (7 - j) : Nat) : Int) by rw [← e', ← e], tmod_nn (Int.natCast_nonneg _), show (2 : Int) = ((2 : Nat) : Int) from rfl, ← Int.natCast_emod, hb]
  split <;> rfl

theorem ref_out (r : B32) : IntKind.u64.wrap (Int.tdiv (r.toNat : Int) 2147483648) = (if r.msb then 1 else 0) := by
  have hrt := r.isLt
  rw [tdiv_nn (by omega), IntKind.wrap_u64]
  have := msb_iff r
  by_cases h : r.msb = true
  · rw [if_pos h]; have := this.1 h; omega
  · rw [if_neg h]
    have h2 : ¬ (r.toNat : Int) / 2147483648 = 1 := fun h3 => h (this.2 h3)
    omega
theorem ref_shl (r : B32) : Int.tmod (IntKind.u64.wrap ((r.toNat : Int) * 2)) 4294967296 = ((r <<< 1).toNat : Int) := by
  have hrt := r.isLt
  rw [shl_toNat, IntKind.wrap_u64, tmod_nn (by omega)]; omega

/-- One round of the reference: bit j of byte p comes in. -/
theorem ref_step (b : List Int) (hb : b.length ≤ 100000) (hr : ∀ x ∈ b, 0 ≤ x ∧ x ≤ 255) (p j : Nat) (hp : p < b.length) (hj : j < 8) (r : B32) (k : Nat) :
    windroseref02_Sum.l0 (k + 1) b (r.toNat : Int) ((8 * p + j : Nat) : Int) = windroseref02_Sum.l0 k b ((T (r ^^^ (if 128 ≤ (rd b p).toNat * 2 ^ j % 256 then bit1 else 0#32))).toNat : Int) ((8 * p + j + 1 : Nat) : Int) := by
  have hx := hr (rd b p) (by simp only [rd, Int.toNat_natCast]; exact getD_mem b p 0 hp)
  rw [ref_unf k b (r.toNat : Int) ((8 * p + j : Nat) : Int) (8 * (b.length : Int)) (p : Int) ((7 - j : Nat) : Int) _ _ _ ((r <<< 1 ^^^ poly).toNat : Int) ((8 * p + j + 1 : Nat) : Int) (rd b p)
    (by rw [w64] <;> omega) (by omega) (by rw [tdiv_nn (by omega), w64] <;> omega) (by omega) (by omega) (by rw [tmod_nn (by omega), w64 (by omega) (by omega), IntKind.wrap_u64]; omega) (by omega)
    (ref_out r) (by rw [IntKind.wrap_u64]; omega) (ref_bit _ hx j hj) (ref_shl r) (by rw [polyI]; exact xor64_32 _ _) (by rw [w64] <;> omega)]
  rw [T_in]
  by_cases h : r.msb = true
  · by_cases hcc : 128 ≤ (rd b p).toNat * 2 ^ j % 256
    · rw [if_pos h, if_pos hcc, if_pos rfl, if_pos ⟨fun _ => hcc, fun _ => h⟩]
    · rw [if_pos h, if_neg hcc, if_neg (by decide), if_neg (fun h2 => hcc (h2.1 h))]
  · by_cases hcc : 128 ≤ (rd b p).toNat * 2 ^ j % 256
    · rw [if_neg h, if_pos hcc, if_neg (by decide), if_neg (fun h2 => h (h2.2 hcc))]
    · rw [if_neg h, if_neg hcc, if_pos rfl, if_pos ⟨fun h2 => absurd h2 h, fun h2 => absurd h2 hcc⟩]

theorem ref_byte (b : List Int) (hb : b.length ≤ 100000) (hr : ∀ x ∈ b, 0 ≤ x ∧ x ≤ 255) (p : Nat) (hp : p < b.length) (res : Int) (s0 : B32) (n : Nat) : ∀ (j : Nat) (r : B32), j + n = 8 →
    iter n (r ^^^ high ((rd b p).toNat * 2 ^ j % 256)) = s0 → (∃ K, ∀ k, K ≤ k → windroseref02_Sum.l0 k b (s0.toNat : Int) ((8 * (p + 1) : Nat) : Int) = some (res)) → (∃ K, ∀ k, K ≤ k → windroseref02_Sum.l0 k b (r.toNat : Int) ((8 * p + j : Nat) : Int) = some (res)) := by
  induction n with
  | zero =>
    intro j r hj hi h
    obtain rfl : j = 8 := by omega
    have e : (rd b p).toNat * 2 ^ 8 % 256 = 0 := by omega
    rw [e] at hi
    have hz : high 0 = 0#32 := by decide
    simp only [iter, hz, BitVec.xor_zero] at hi
    subst hi
    exact h
  | succ n ih =>
    intro j r hj hi h
    have hx : (rd b p).toNat * 2 ^ j % 256 < 256 := Nat.mod_lt _ (by omega)
    have hn : 2 * ((rd b p).toNat * 2 ^ j % 256) % 256 = (rd b p).toNat * 2 ^ (j + 1) % 256 := by
      rw [Nat.pow_succ, ← Nat.mul_assoc, Nat.mul_mod 2, Nat.mod_mod, ← Nat.mul_mod, Nat.mul_comm 2]
    simp only [iter] at hi
    rw [T_byte r _ hx, hn] at hi
    obtain ⟨K, hK⟩ := ih (j + 1) _ (by omega) hi h
    refine Ev.succ K fun k hk => ?_
    rw [ref_step b hb hr p j hp (by omega) r k]
    exact hK k hk

theorem ref_sum (b : List Int) (hb : b.length ≤ 100000) (hr : ∀ x ∈ b, 0 ≤ x ∧ x ≤ 255) (d : Nat) : ∀ (p : Nat) (s : B32), p + d = b.length → (∃ K, ∀ k, K ≤ k → windroseref02_Sum.l0 k b (s.toNat : Int) ((8 * p : Nat) : Int) = some (((crc s (b.drop p)).toNat : Int))) := by
  induction d with
  | zero =>
    intro p s hp
    have := s.isLt
    refine Ev.succ 0 fun k _ => ?_
    simp only [windroseref02_Sum.l0]
    rw [show wrap64 (8 * (b.length : Int)) = 8 * (b.length : Int) by rw [w64] <;> omega, if_neg (by omega), List.drop_of_length_le (by omega)]
    congr 1
    show (s.toNat : Int) % 4294967296 = (s.toNat : Int)
    omega
  | succ d ih =>
    intro p s hp
    have hd : b.drop p = rd b p :: b.drop (p + 1) := by rw [drop_getD b p 0 (by omega)]; rfl
    have hx := hr (rd b p) (by simp only [rd, Int.toNat_natCast]; exact getD_mem b p 0 (by omega))
    rw [hd]
    have h := ref_byte b hb hr p (by omega) _ (byteStep s (rd b p)) 8 0 s (by omega) (by
      unfold byteStep
      rw [show (rd b p).toNat * 2 ^ 0 % 256 = (rd b p).toNat by omega]) (ih (p + 1) (byteStep s (rd b p)) (by omega))
    exact h

theorem refsum_ev (b : List Int) (hb : b.length ≤ 100000) (hr : ∀ x ∈ b, 0 ≤ x ∧ x ≤ 255) : (∃ K, ∀ k, K ≤ k → windroseref02_Sum.f k b = some ((sumS b))) := by
  obtain ⟨K, hK⟩ := ref_sum b hb hr b.length 0 0xFFFFFFFF#32 (by omega)
  exact ⟨K, fun k hk => hK k hk⟩
end Go.Proofs.Ytlpohipneianjaa.Q
