/- Ytmddmbagehjdeaa: lines of the words and functions that the row BitsReads rests on, and the row. No condition. -/
import Derived.Test.YtmddmbagehjdeaaZBitsReads7
import Derived.Deep.Slices
import Derived.OpenShut
import Derived.ProofKit
section
set_option linter.unusedVariables false
set_option linter.unusedSimpArgs false
namespace Go.Proofs.YtmddmbagehjdeaaX
open Go Go.RowKit Go.Proofs.YtmddmbagehjdeaaW.PrintWords Go.ChangeShapes Go.WideShapes
def Rd (P : Program) (t : TypeId) {α : Type} (d : Kd α) (ok : α → Prop) : Prop :=
  ∀ {H : Type} (enc : TypeId × Value → H) (W : World) (base : Nat) (spare : Nat → Bool) (held : Bool) (fuel : Nat) (cs : List Value) (x : DataW H × List MemPlace),
    DataW.trod enc P W base spare held fuel t cs = some x → ∃ a, d.K W a cs ∧ ok a
def RdFs (P : Program) (L : List (TypeId × Nat)) (o e : Nat) {α : Type} (d : Kd α) (ok : α → Prop) : Prop :=
  ∀ {H : Type} (enc : TypeId × Value → H) (W : World) (base : Nat) (spare : Nat → Bool) (held : Bool) (fuel : Nat) (cs : List Value), cs.length = e →
    (∀ (i : Nat) (p : TypeId × Nat), L[i]? = some p → ∃ y, DataW.trod enc P W base spare held fuel p.1 ((cs.drop p.2).take (P.cellsOf p.1)) = some y) → ∃ a, d.K W a (cs.drop o) ∧ ok a
section
variable {P : Program} {t e : TypeId}
theorem Rd.int {k : IntKind} (ht : P.underlying t = some (.int k)) : Rd P t (Kd.int k) (fun n => (Lit.int k n).wf = true) := by
  intro H enc W base spare held fuel cs x h
  obtain ⟨n, rfl, _, hn⟩ := DataW.trod_int ht h
  exact ⟨n, rfl, hn⟩
theorem Rd.bool (ht : P.underlying t = some .bool) : Rd P t Kd.bool (fun _ => True) := by
  intro H enc W base spare held fuel cs x h
  obtain ⟨b, rfl, _⟩ := DataW.trod_bool ht h
  exact ⟨b, rfl, trivial⟩
theorem cells_get {w : World} {base : Nat} {a : Addr} {n : Nat} {cs : List Value} (h : w.cells? base a n = some cs) : ∀ i u, cs[i]? = some u → w.cell? (a.add i) = some u := by
  intro i u hi
  obtain ⟨_, hl, hc⟩ := World.cells?_some h
  have hlt : i < cs.length := (List.getElem?_eq_some_iff.1 hi).1
  have := hc i (by omega)
  rw [hi] at this
  exact this
theorem Rd.slice {α : Type} {d : Kd α} {ok : α → Prop} (ht : P.underlying t = some (.slice e)) (he : P.cellsOf e = d.sz) (hd : Rd P e d ok) :
    Rd P t (Kd.slice e d) (fun l => l.length ≤ maxLen ∧ ∀ x ∈ l, ok x) := by
  intro H enc W base spare held fuel cs x h
  rcases Deep.open_slice ht h with ⟨rfl, _⟩ | ⟨a, len, cap, m, n, D, Pl, rfl, hb, hl, hm, hmm, rfl, hx⟩
  · exact ⟨[], ⟨none, 0, rfl, Nat.le_refl _, rfl, by simp, fun h0 => absurd h0 (Nat.lt_irrefl _)⟩, by simp [maxLen], fun x hx => by cases hx⟩
  · have hlm : len ≤ m := by rw [hmm]; split <;> omega
    have hall : ∀ i, i < len → ∃ y : α, (∃ c, W.cells? base (a.add (i * P.cellsOf e)) (P.cellsOf e) = some c ∧ d.K W y c) ∧ ok y := by
      intro i hi
      obtain ⟨c, h1, h2⟩ := hx i (by omega)
      obtain ⟨y, h3, h4⟩ := hd enc W base spare held n c _ h2
      exact ⟨y, ⟨c, h1, h3⟩, h4⟩
    have hlist : ∃ l : List α, l.length = len ∧ ∀ i y, l[i]? = some y → (∃ c, W.cells? base (a.add (i * P.cellsOf e)) (P.cellsOf e) = some c ∧ d.K W y c) ∧ ok y := by
      have key : ∀ k, k ≤ len → ∃ l : List α, l.length = k ∧ ∀ i y, l[i]? = some y → (∃ c, W.cells? base (a.add (i * P.cellsOf e)) (P.cellsOf e) = some c ∧ d.K W y c) ∧ ok y := by
        intro k
        induction k with
        | zero => exact fun _ => ⟨[], rfl, fun i y hy => by simp at hy⟩
        | succ k ih =>
          intro hk
          obtain ⟨l, hl1, hl2⟩ := ih (by omega)
          obtain ⟨y, hy⟩ := hall k (by omega)
          refine ⟨l ++ [y], by simp [hl1], fun i z hz => ?_⟩
          rcases Nat.lt_or_ge i l.length with hi | hi
          · rw [List.getElem?_append_left hi] at hz
            exact hl2 i z hz
          · rw [List.getElem?_append_right hi] at hz
            have h0 : i - l.length = 0 := by
              have := (List.getElem?_eq_some_iff.1 hz).1
              simp at this
              omega
            rw [h0] at hz
            simp at hz
            subst hz
            have : i = k := by omega
            subst this
            exact hy
      exact key len (Nat.le_refl _)
    obtain ⟨l, hl1, hl2⟩ := hlist
    refine ⟨l, ⟨some a, cap, by rw [hl1], by omega, rfl, by rw [hl1]; simp only [maxLen] at hm; omega, fun _ => ⟨a, rfl, fun j p hp => ?_⟩⟩, by omega, fun y hy => ?_⟩
    · obtain ⟨⟨c, h1, h2⟩, _⟩ := hl2 j p hp
      refine ⟨c, d.K_len h2, h2, fun i u hu => ?_⟩
      have := cells_get h1 i u hu
      rw [Deep.add_add, he] at this
      exact this
    · obtain ⟨i, hi, rfl⟩ := List.getElem_of_mem hy
      exact (hl2 i _ (List.getElem?_eq_getElem hi)).2
theorem RdFs.one {t o : Nat} {α : Type} {d : Kd α} {ok : α → Prop} (h : Rd P t d ok) : RdFs P [(t, o)] o (o + P.cellsOf t) d ok := by
  intro H enc W base spare held fuel cs hl hi
  obtain ⟨y, hy⟩ := hi 0 _ rfl
  obtain ⟨a, ha, hk⟩ := h enc W base spare held fuel _ _ hy
  rw [List.take_of_length_le (by simp [hl])] at ha
  exact ⟨a, ha, hk⟩
theorem RdFs.cons {t o e' : Nat} {L : List (TypeId × Nat)} {α β : Type} {d : Kd α} {d' : Kd β} {ok : α → Prop} {ok' : β → Prop} (h : Rd P t d ok) (hs : RdFs P L (o + P.cellsOf t) e' d' ok') :
    RdFs P ((t, o) :: L) o e' (Kd.pair d d') (fun x => ok x.1 ∧ ok' x.2) := by
  intro H enc W base spare held fuel cs hl hi
  obtain ⟨y, hy⟩ := hi 0 _ rfl
  obtain ⟨a, ha, hk⟩ := h enc W base spare held fuel _ _ hy
  obtain ⟨b, hb, hk'⟩ := hs enc W base spare held fuel cs hl (fun i p hp => hi (i + 1) p (by simpa using hp))
  refine ⟨(a, b), ⟨_, _, ?_, ha, hb⟩, hk, hk'⟩
  rw [← List.drop_drop]
  exact (List.take_append_drop _ _).symm
theorem Rd.struct {α β : Type} {d : Kd α} {ok : α → Prop} {fs : Array Field} (f : β → α) (g : α → β) (hg : ∀ a, f (g a) = a) (ht : P.underlying t = some (.struct fs))
    (h : RdFs P (fs.toList.map fun f => (f.type, f.offset)) 0 (P.cellsOf t) d ok) : Rd P t (Kd.iso d f) (fun x => ok (f x)) := by
  intro H enc W base spare held fuel cs x hx
  obtain ⟨xs, n, rfl, _, hl, hn, hi⟩ := DataW.trod_struct ht hx
  obtain ⟨a, ha, hk⟩ := h enc W base spare held n cs hl (fun i p hp => by
    rw [List.getElem?_map] at hp
    obtain ⟨f', hf', rfl⟩ := Option.map_eq_some_iff.1 hp
    have h1 := hi i f' (by simpa using hf')
    have hlt : i < xs.length := by
      have := (List.getElem?_eq_some_iff.1 hf').1
      simp at this
      omega
    rw [List.getElem?_eq_getElem hlt] at h1
    exact ⟨_, h1⟩)
  refine ⟨g a, ?_, by show ok (f (g a)); rw [hg]; exact hk⟩
  show d.K W (f (g a)) cs
  rw [hg]
  simpa using ha
theorem Rd.array {α β : Type} {d : Kd α} {ok : α → Prop} {n : Nat} (f : β → α) (g : α → β) (hg : ∀ a, f (g a) = a) (ht : P.underlying t = some (.array n e))
    (h : RdFs P ((List.range n).map fun i => (e, i * P.cellsOf e)) 0 (P.cellsOf t) d ok) : Rd P t (Kd.iso d f) (fun x => ok (f x)) := by
  intro H enc W base spare held fuel cs x hx
  obtain ⟨xs, m, rfl, _, hl, hn, hi⟩ := DataW.trod_array ht hx
  obtain ⟨a, ha, hk⟩ := h enc W base spare held m cs hl (fun i p hp => by
    rw [List.getElem?_map] at hp
    obtain ⟨j, hj, rfl⟩ := Option.map_eq_some_iff.1 hp
    obtain ⟨hlt, hj⟩ := List.getElem?_eq_some_iff.1 hj
    simp at hj hlt
    subst hj
    have h1 := hi i hlt
    rw [List.getElem?_eq_getElem (by omega)] at h1
    exact ⟨_, h1⟩)
  refine ⟨g a, ?_, by show ok (f (g a)); rw [hg]; exact hk⟩
  show d.K W (f (g a)) cs
  rw [hg]
  simpa using ha
end
end Go.Proofs.YtmddmbagehjdeaaX
end
section
namespace Go.Proofs.Ytmddmbagehjdeaa.G
open Go Go.RowKit Go.Proofs.YtmddmbagehjdeaaW.PrintWords Go.Proofs.YtmddmbagehjdeaaX
set_option linter.unusedVariables false
set_option maxRecDepth 100000
def ok42 (x : S42) : Prop := (Lit.int .i64 x.f0).wf = true ∧ (Lit.int .i64 x.f1).wf = true
theorem rd42 : Rd Try.prog 42 k42 ok42 := Rd.struct _ (fun b => ⟨b.1, b.2⟩) (fun _ => rfl) Try.underlying42 (RdFs.cons (Rd.int Try.underlying3) (RdFs.one (Rd.int Try.underlying3)))
end Go.Proofs.Ytmddmbagehjdeaa.G
end
section
set_option linter.unusedVariables false
namespace Go.Proofs.Ytmddmbagehjdeaa.Q
open Go Go.RowKit Go.Proofs.YtmddmbagehjdeaaW.PrintWords
theorem w64 {x : Int} (h : -9223372036854775808 ≤ x) (h' : x ≤ 9223372036854775807) : wrap64 x = x := by unfold wrap64; omega
theorem Ev.succ {α : Type} {g : Nat → Option α} {r : α} (K : Nat) (h : ∀ k, K ≤ k → g (k + 1) = some r) : Ev g r := by
  refine ⟨K + 1, fun k hk => ?_⟩
  obtain ⟨m, rfl⟩ : ∃ m, k = m + 1 := ⟨k - 1, by omega⟩
  exact h m (by omega)
theorem Ev.mk {α : Type} {g : Nat → Option α} {r : α} (K : Nat) (h : ∀ k, K ≤ k → g k = some r) : Ev g r := ⟨K, h⟩
theorem wf_i64 {x : Int} (h : (Lit.int .i64 x).wf = true) : -9223372036854775808 ≤ x ∧ x ≤ 9223372036854775807 := by
  simp [Lit.wf] at h
  have e1 : IntKind.min .i64 = -9223372036854775808 := by decide
  rw [e1] at h
  exact h
theorem getD_mem {α : Type} (l : List α) (i : Nat) (d : α) (h : i < l.length) : l.getD i d ∈ l := by
  rw [List.getD_eq_getElem?_getD, List.getElem?_eq_getElem h]
  exact List.getElem_mem h
theorem tmod_nn {a b : Int} (h : 0 ≤ a) : Int.tmod a b = a % b := Int.tmod_eq_emod_of_nonneg h
theorem tdiv_nn {a b : Int} (h : 0 ≤ a) : Int.tdiv a b = a / b := Int.tdiv_eq_ediv_of_nonneg h
end Go.Proofs.Ytmddmbagehjdeaa.Q
end
section
set_option linter.unusedVariables false
namespace Go.Proofs.Ytmddmbagehjdeaa.Q
open Go Go.RowKit Go.Proofs.YtmddmbagehjdeaaW.PrintWords Go.Proofs.YtmddmbagehjdeaaW.PrintMore
def bv : List Bool → Nat
  | [] => 0
  | b :: l => b.toNat * 2 ^ l.length + bv l
theorem bv_append : ∀ a b : List Bool, bv (a ++ b) = bv a * 2 ^ b.length + bv b
  | [], b => by simp [bv]
  | x :: a, b => by
    rw [List.cons_append, bv, bv, bv_append a b, List.length_append, Nat.pow_add, Nat.add_mul, Nat.mul_assoc, Nat.add_assoc]
theorem bv_lt : ∀ a : List Bool, bv a < 2 ^ a.length
  | [] => by simp [bv]
  | x :: a => by
    have h := bv_lt a
    have hx : x.toNat ≤ 1 := by cases x <;> decide
    have : x.toNat * 2 ^ a.length ≤ 1 * 2 ^ a.length := Nat.mul_le_mul_right _ hx
    rw [bv, List.length_cons, Nat.pow_succ]
    omega
def low (u : Nat) : Nat → List Bool
  | 0 => []
  | n + 1 => (u / 2 ^ n % 2 == 1) :: low u n
theorem low_length (u : Nat) : ∀ n, (low u n).length = n
  | 0 => rfl
  | n + 1 => by rw [low, List.length_cons, low_length u n]
theorem bv_low (u : Nat) : ∀ n, bv (low u n) = u % 2 ^ n
  | 0 => by simp [low, bv, Nat.mod_one]
  | n + 1 => by
    rw [low, bv, low_length, bv_low u n, Nat.pow_succ]
    have e : (u / 2 ^ n % 2 == 1).toNat = u / 2 ^ n % 2 := by
      rcases Nat.mod_two_eq_zero_or_one (u / 2 ^ n) with h | h <;> rw [h] <;> rfl
    rw [e, Nat.mod_mul]
    rw [Nat.mul_comm, Nat.add_comm]
def byteOf (m : List Bool) : Nat := bv m * 2 ^ (8 - m.length)
def Of (l : List Bool) : List Int := (List.range ((l.length + 7) / 8)).map fun j => (byteOf ((l.drop (8 * j)).take 8) : Int)
theorem Of_length (l : List Bool) : (Of l).length = (l.length + 7) / 8 := by simp [Of]
theorem Of_getD (l : List Bool) (j : Nat) : (Of l).getD j 0 = (byteOf ((l.drop (8 * j)).take 8) : Int) := by
  rw [List.getD_eq_getElem?_getD]
  by_cases h : j < (l.length + 7) / 8
  · rw [Of, List.getElem?_map, List.getElem?_range h]
    rfl
  · rw [List.getElem?_eq_none (by rw [Of_length]; omega), List.drop_of_length_le (by omega)]
    rfl
theorem rd_Of (l : List Bool) (j : Nat) : rd (Of l) (j : Int) = (byteOf ((l.drop (8 * j)).take 8) : Int) := by
  unfold rd
  rw [Int.toNat_natCast, Of_getD]
theorem eight {x : Nat} (h : x ≤ 8) : x = 0 ∨ x = 1 ∨ x = 2 ∨ x = 3 ∨ x = 4 ∨ x = 5 ∨ x = 6 ∨ x = 7 ∨ x = 8 := by omega
theorem byte_piece (p q r : List Bool) (h : p.length + q.length + r.length ≤ 8) (hq : 1 ≤ q.length) :
    (byteOf (p ++ q ++ r) * 2 ^ p.length % 256) / 2 ^ (8 - q.length) = bv q := by
  have hb := bv_lt q
  have hc : bv r * 2 ^ (8 - (p.length + q.length + r.length)) < 2 ^ (8 - p.length - q.length) := by
    have e : 2 ^ (8 - p.length - q.length) = 2 ^ r.length * 2 ^ (8 - (p.length + q.length + r.length)) := by rw [← Nat.pow_add]; congr 1; omega
    rw [e]
    exact (Nat.mul_lt_mul_right (Nat.two_pow_pos _)).2 (bv_lt r)
  have hbyte : byteOf (p ++ q ++ r) = bv p * 2 ^ (8 - p.length) + bv q * 2 ^ (8 - p.length - q.length) + bv r * 2 ^ (8 - (p.length + q.length + r.length)) := by
    unfold byteOf
    rw [bv_append, bv_append, List.length_append, List.length_append, Nat.add_mul, Nat.add_mul, Nat.add_mul]
    congr 2
    · rw [Nat.mul_assoc, Nat.mul_assoc, ← Nat.pow_add, ← Nat.pow_add]; congr 2; omega
    · rw [Nat.mul_assoc, ← Nat.pow_add]; congr 2; omega
  rw [hbyte]
  generalize bv p = a at *
  generalize bv q = b at *
  generalize bv r * 2 ^ (8 - (p.length + q.length + r.length)) = c at *
  generalize p.length = i at *
  generalize q.length = k at *
  have hik : i + k ≤ 8 := by omega
  clear hbyte h
  rcases eight (show i ≤ 8 by omega) with rfl | rfl | rfl | rfl | rfl | rfl | rfl | rfl | rfl <;>
  rcases eight (show k ≤ 8 by omega) with rfl | rfl | rfl | rfl | rfl | rfl | rfl | rfl | rfl <;>
  first
    | (exfalso; omega)
    | (simp only [Nat.reducePow, Nat.reduceSub] at *; omega)
theorem get_piece (l : List Bool) (at_ k : Nat) (hk : 1 ≤ k) (hin : at_ % 8 + k ≤ 8) (h : at_ + k ≤ l.length) :
    (byteOf ((l.drop (8 * (at_ / 8))).take 8) * 2 ^ (at_ % 8) % 256) / 2 ^ (8 - k) = bv ((l.drop at_).take k) := by
  have e : (l.drop (8 * (at_ / 8))).take 8 = ((l.drop (8 * (at_ / 8))).take (at_ % 8)) ++ ((l.drop at_).take k) ++ ((l.drop (at_ + k)).take (8 - at_ % 8 - k)) := by
    have e1 : l.drop at_ = (l.drop (8 * (at_ / 8))).drop (at_ % 8) := by rw [List.drop_drop]; congr 1; omega
    have e2 : l.drop (at_ + k) = (l.drop (8 * (at_ / 8))).drop (at_ % 8 + k) := by rw [List.drop_drop]; congr 1; omega
    rw [e1, e2]
    generalize l.drop (8 * (at_ / 8)) = m
    rw [List.append_assoc, ← List.drop_drop, ← List.take_add, ← List.take_add]
    congr 1
    omega
  have l1 : ((l.drop (8 * (at_ / 8))).take (at_ % 8)).length = at_ % 8 := by rw [List.length_take, List.length_drop]; omega
  have l2 : ((l.drop at_).take k).length = k := by rw [List.length_take, List.length_drop]; omega
  have l3 : ((l.drop (at_ + k)).take (8 - at_ % 8 - k)).length ≤ 8 - at_ % 8 - k := by rw [List.length_take]; omega
  have := byte_piece ((l.drop (8 * (at_ / 8))).take (at_ % 8)) ((l.drop at_).take k) ((l.drop (at_ + k)).take (8 - at_ % 8 - k)) (by omega) (by omega)
  rw [← e, l1, l2] at this
  exact this
theorem byteOf_last (l : List Bool) (h0 : l.length % 8 ≠ 0) : byteOf ((l.drop (8 * (l.length / 8))).take 8) % 2 ^ (8 - l.length % 8) = 0 := by
  have hl : (l.drop (8 * (l.length / 8))).length = l.length % 8 := by rw [List.length_drop]; omega
  rw [List.take_of_length_le (by omega)]
  unfold byteOf
  rw [hl]
  exact Nat.mul_mod_left _ _
end Go.Proofs.Ytmddmbagehjdeaa.Q
end
section
set_option linter.unusedVariables false
namespace Go.Proofs.Ytmddmbagehjdeaa.Q
open Go Go.RowKit Go.Proofs.Ytmddmbagehjdeaa.G Go.Proofs.YtmddmbagehjdeaaW.PrintWords Go.Proofs.YtmddmbagehjdeaaW.PrintLast Go.Proofs.YtmddmbagehjdeaaW.PrintMore
theorem u8bits : IntKind.bits .u8 = 8 := rfl
theorem u64bits : IntKind.bits .u64 = 64 := rfl
theorem wraps_u64 (n : Int) (h0 : 0 ≤ n) (h1 : n < 2 ^ 64) : IntKind.u64.wrap n = n := by
  simp [IntKind.wrap, IntKind.bits, IntKind.signed]
  omega
theorem mn_nat (a b : Nat) : mn (a : Int) (b : Int) = ((min a b : Nat) : Int) := by
  unfold mn
  rcases Nat.lt_or_ge b a with h | h
  · rw [if_pos (by omega), Nat.min_eq_right (by omega)]
  · rw [if_neg (by omega), Nat.min_eq_left h]
theorem shr_nat (kd : IntKind) (x y : Nat) (hy : y ≤ kd.bits) : shr kd (x : Int) (y : Int) = ((x / 2 ^ y : Nat) : Int) := by
  unfold shr
  rw [Int.toNat_natCast, Nat.min_eq_left hy]
  simp
theorem shl8_nat (x y : Nat) (hy : y ≤ 8) : shl .u8 (x : Int) (y : Int) = ((x * 2 ^ y % 256 : Nat) : Int) := by
  unfold shl
  rw [Int.toNat_natCast, Nat.min_eq_left (by rw [u8bits]; exact hy), IntKind.wrap_u8]
  simp
theorem shl64_nat (x y : Nat) (hy : y ≤ 64) (h : x * 2 ^ y < 2 ^ 64) : shl .u64 (x : Int) (y : Int) = ((x * 2 ^ y : Nat) : Int) := by
  unfold shl
  rw [Int.toNat_natCast, Nat.min_eq_left (by rw [u64bits]; exact hy), show ((x : Int) * 2 ^ y) = ((x * 2 ^ y : Nat) : Int) by simp, wraps_u64 _ (Int.natCast_nonneg _) (by exact_mod_cast h)]
theorem get_loop (l : List Bool) (hl : l.length ≤ 1000000) (N : Int) (d : Nat) : ∀ (n at_ acc : Nat), n ≤ d → n ≤ 64 → at_ + n ≤ l.length → acc < 2 ^ (64 - n) →
    (∃ K, ∀ k, K ≤ k → bits_get.l0 k (at_ : Int) (n : Int) (acc : Int) (Of l) N = some (((acc * 2 ^ n + bv ((l.drop at_).take n) : Nat) : Int))) := by
  induction d with
  | zero =>
    intro n at_ acc hn _ _ _
    obtain rfl : n = 0 := by omega
    refine Ev.succ 0 fun k _ => ?_
    rw [bits_get.l0, if_neg (by omega)]
    simp [bv]
  | succ d ih =>
    intro n at_ acc hn h64 hat hacc
    rcases Nat.eq_zero_or_pos n with rfl | hpos
    · refine Ev.succ 0 fun k _ => ?_
      rw [bits_get.l0, if_neg (by omega)]
      simp [bv]
    obtain ⟨i, hi⟩ : ∃ i, i = at_ % 8 := ⟨_, rfl⟩
    obtain ⟨k, hk⟩ : ∃ k, k = min n (8 - i) := ⟨_, rfl⟩
    have hi8 : i < 8 := by omega
    have hk1 : 1 ≤ k := by omega
    have hkn : k ≤ n := by omega
    have hik : i + k ≤ 8 := by omega
    have hpc := get_piece l at_ k hk1 (by omega) (by omega)
    have hq := bv_lt ((l.drop at_).take k)
    have hql : ((l.drop at_).take k).length = k := by rw [List.length_take, List.length_drop]; omega
    rw [hql] at hq
    have hacck : acc * 2 ^ k < 2 ^ (64 - (n - k)) := by
      have e : 2 ^ (64 - (n - k)) = 2 ^ (64 - n) * 2 ^ k := by rw [← Nat.pow_add]; congr 1; omega
      rw [e]
      exact (Nat.mul_lt_mul_right (Nat.two_pow_pos _)).2 hacc
    have hsum : acc * 2 ^ k + bv ((l.drop at_).take k) < 2 ^ (64 - (n - k)) := by
      have e : 2 ^ (64 - (n - k)) = 2 ^ (64 - n) * 2 ^ k := by rw [← Nat.pow_add]; congr 1; omega
      have h1 : (acc + 1) * 2 ^ k ≤ 2 ^ (64 - n) * 2 ^ k := Nat.mul_le_mul_right _ hacc
      rw [Nat.add_mul, Nat.one_mul] at h1
      omega
    have hp64 : 2 ^ (64 - (n - k)) ≤ 2 ^ 64 := Nat.pow_le_pow_right (by decide) (by omega)
    obtain ⟨K, hK⟩ := ih (n - k) (at_ + k) (acc * 2 ^ k + bv ((l.drop at_).take k)) (by omega) (by omega) (by omega) hsum
    have efin : (acc * 2 ^ k + bv ((l.drop at_).take k)) * 2 ^ (n - k) + bv ((l.drop (at_ + k)).take (n - k)) = acc * 2 ^ n + bv ((l.drop at_).take n) := by
      have e : (l.drop at_).take n = (l.drop at_).take k ++ (l.drop (at_ + k)).take (n - k) := by
        rw [← List.drop_drop, ← List.take_add]
        congr 1
        omega
      have hl2 : ((l.drop (at_ + k)).take (n - k)).length = n - k := by rw [List.length_take, List.length_drop]; omega
      rw [e, bv_append, hl2, Nat.add_mul, Nat.mul_assoc, ← Nat.pow_add, show k + (n - k) = n by omega, Nat.add_assoc]
    rw [efin] at hK
    have h264 : acc * 2 ^ k < 2 ^ 64 := Nat.lt_of_lt_of_le hacck hp64
    have hb64 : bv ((l.drop at_).take k) < 2 ^ 64 := Nat.lt_of_lt_of_le (Nat.lt_of_le_of_lt (Nat.le_add_left _ _) hsum) hp64
    have e7 : bits .or .u64 ((acc * 2 ^ k : Nat) : Int) ((bv ((l.drop at_).take k) : Nat) : Int) = ((acc * 2 ^ k + bv ((l.drop at_).take k) : Nat) : Int) := by
      have h := bits_join .u64 64 (by decide) wraps_u64 k ((acc * 2 ^ k : Nat) : Int) ((bv ((l.drop at_).take k) : Nat) : Int) (Int.natCast_nonneg _) (by exact_mod_cast Nat.mul_mod_left _ _) (by exact_mod_cast h264) (Int.natCast_nonneg _) (by exact_mod_cast hq) (by exact_mod_cast hb64)
      rw [h]
      push_cast
      rfl
    have e8 := shl64_nat acc k (Nat.le_trans hkn h64) h264
    have e9 := wraps_u64 ((bv ((l.drop at_).take k) : Nat) : Int) (Int.natCast_nonneg _) (by exact_mod_cast hb64)
    have e6 : shr .u8 (shl .u8 (rd (Of l) ((at_ / 8 : Nat) : Int)) (i : Int)) ((8 - k : Nat) : Int) = ((bv ((l.drop at_).take k) : Nat) : Int) := by
      rw [rd_Of, shl8_nat _ _ (Nat.le_of_lt hi8), shr_nat .u8 _ _ (show 8 - k ≤ 8 from Nat.sub_le _ _), hi, hpc]
    clear h264 hb64 hacck hsum hp64 hq hacc efin
    refine Ev.succ K fun k0 hk0 => ?_
    have e0 : Aside0 (Int.tmod (at_ : Int) 8 = (i : Int)) := ⟨by rw [tmod_nn (Int.natCast_nonneg _), hi]; simp⟩
    have e00 : Aside0 (wrap64 (Int.tdiv (at_ : Int) 8) = ((at_ / 8 : Nat) : Int)) := ⟨by rw [tdiv_nn (Int.natCast_nonneg _), w64] <;> omega⟩
    have e1 : Aside0 (wrap64 (8 - (i : Int)) = ((8 - i : Nat) : Int)) := ⟨by rw [w64] <;> omega⟩
    have e2 : Aside0 (mn (n : Int) ((8 - i : Nat) : Int) = (k : Int)) := ⟨by rw [mn_nat, hk]⟩
    have e3 : Aside0 (wrap64 ((n : Int) - (k : Int)) = ((n - k : Nat) : Int)) := ⟨by rw [w64] <;> omega⟩
    have e4 : Aside0 (wrap64 (8 - (k : Int)) = ((8 - k : Nat) : Int)) := ⟨by rw [w64] <;> omega⟩
    have e5 : Aside0 (wrap64 ((at_ : Int) + (k : Int)) = ((at_ + k : Nat) : Int)) := ⟨by rw [w64] <;> omega⟩
    have hOl := Of_length l
    have c1 : (n : Int) > 0 := by omega
    have c2 : (0 : Int) ≤ ((at_ / 8 : Nat) : Int) := by omega
    have c3 : ((at_ / 8 : Nat) : Int) < ((Of l).length : Int) := by rw [hOl]; omega
    have c4 : (0 : Int) ≤ (i : Int) := by omega
    have c5 : (0 : Int) ≤ ((8 - k : Nat) : Int) := by omega
    have c6 : (0 : Int) ≤ (k : Int) := by omega
    rw [bits_get.l0, e0.out, e00.out, e1.out, e2.out, e3.out, e4.out, e5.out, if_pos c1, if_pos c2, if_pos c3, if_pos c4, if_pos c5, if_pos c6, e6, e8, e9, e7]
    exact hK k0 hk0
theorem get_ev (l : List Bool) (hl : l.length ≤ 1000000) (N : Int) (n at_ : Nat) (hn : n ≤ 64) (h : at_ + n ≤ l.length) :
    (∃ K, ∀ k, K ≤ k → bits_get.f k (Of l) N (at_ : Int) (n : Int) = some (((bv ((l.drop at_).take n) : Nat) : Int))) := by
  obtain ⟨K, hK⟩ := get_loop l hl N n n at_ 0 (Nat.le_refl _) hn h (Nat.two_pow_pos _)
  rw [Nat.zero_mul, Nat.zero_add] at hK
  exact ⟨K, hK⟩
end Go.Proofs.Ytmddmbagehjdeaa.Q
end
section
set_option linter.unusedVariables false
namespace Go.Proofs.Ytmddmbagehjdeaa.Q
open Go Go.RowKit Go.Proofs.Ytmddmbagehjdeaa.G Go.Proofs.YtmddmbagehjdeaaW.PrintWords Go.Proofs.YtmddmbagehjdeaaW.PrintLast Go.Proofs.YtmddmbagehjdeaaW.PrintMore
theorem wrap_u64 (n : Int) : IntKind.u64.wrap n = n % 18446744073709551616 := by simp [IntKind.wrap, IntKind.bits, IntKind.signed]
theorem bits_xor (k : IntKind) (j : Nat) (hj : j ≤ k.bits) (hk : ∀ n : Int, 0 ≤ n → n < 2 ^ j → k.wrap n = n) (a b : Nat) (ha : a < 2 ^ j) (hb : b < 2 ^ j) : bits .xor k a b = ((a ^^^ b : Nat) : Int) := by
  have hp : 2 ^ j ≤ 2 ^ k.bits := Nat.pow_le_pow_right (by decide) hj
  have ha' : a % 2 ^ k.bits = a := Nat.mod_eq_of_lt (Nat.lt_of_lt_of_le ha hp)
  have hb' : b % 2 ^ k.bits = b := Nat.mod_eq_of_lt (Nat.lt_of_lt_of_le hb hp)
  simp only [bits, BitVec.ofInt_natCast, BitVec.toNat_xor, BitVec.toNat_ofNat, ha', hb']
  exact hk _ (Int.natCast_nonneg _) (by exact_mod_cast Nat.xor_lt_two_pow ha hb)
theorem two64 : (2 : Nat) ^ 64 = 18446744073709551616 := by decide
theorem nat_xor_ones (x : Nat) (h : x < 18446744073709551616) : x ^^^ 18446744073709551615 = 18446744073709551615 - x := by
  have h1 : (BitVec.ofNat 64 x ^^^ BitVec.allOnes 64).toNat = x ^^^ 18446744073709551615 := by
    rw [BitVec.toNat_xor, BitVec.toNat_ofNat, Nat.mod_eq_of_lt (by rw [two64]; exact h), BitVec.toNat_allOnes]
  rw [← h1, BitVec.xor_allOnes, BitVec.toNat_not, BitVec.toNat_ofNat, Nat.mod_eq_of_lt (by rw [two64]; exact h)]
theorem xor_zero (x : Nat) (h : x < 18446744073709551616) : bits .xor .u64 (x : Int) 0 = (x : Int) := by
  have := bits_xor .u64 64 (by decide) wraps_u64 x 0 (by rw [two64]; exact h) (by decide)
  rw [Nat.xor_zero] at this
  exact this
theorem xor_ones (x : Nat) (h : x < 18446744073709551616) : bits .xor .u64 (x : Int) 18446744073709551615 = ((18446744073709551615 - x : Nat) : Int) := by
  have := bits_xor .u64 64 (by decide) wraps_u64 x 18446744073709551615 (by rw [two64]; exact h) (by decide)
  rw [nat_xor_ones x h] at this
  exact this
theorem and_one (x : Nat) (h : x < 18446744073709551616) : bits .and .u64 (x : Int) 1 = ((x % 2 : Nat) : Int) := by
  have := (bits_nat .u64 64 (by decide) wraps_u64 x 1 (by rw [two64]; exact h) (by decide)).1
  rw [Nat.and_one_is_mod] at this
  exact this
def foldN (n : Int) : Nat := if 0 ≤ n then (2 * n).toNat else (-2 * n - 1).toNat
def unfoldN (u : Nat) : Int := if u % 2 = 0 then ((u / 2 : Nat) : Int) else -1 - ((u / 2 : Nat) : Int)
def I64 (n : Int) : Prop := -9223372036854775808 ≤ n ∧ n ≤ 9223372036854775807
theorem foldN_lt {n : Int} (h : I64 n) : foldN n < 18446744073709551616 := by
  unfold I64 at h
  unfold foldN
  split <;> omega
theorem fold_unfold (u : Nat) : foldN (unfoldN u) = u := by
  unfold foldN unfoldN
  split <;> split <;> omega
theorem unfoldN_i64 (u : Nat) (h : u < 18446744073709551616) : I64 (unfoldN u) := by
  unfold I64 unfoldN
  split <;> omega
theorem fold_ev (n : Int) (h : I64 n) : bits_fold.f n = some (foldN n : Int) := by
  unfold bits_fold.f I64 at *
  congr 1
  rw [wrap_u64, wrap_u64, wrap_u64]
  by_cases h0 : 0 ≤ n
  · have e1 : n / 9223372036854775808 % 18446744073709551616 = 0 := by omega
    have e2 : n % 18446744073709551616 * 2 % 18446744073709551616 = ((foldN n : Nat) : Int) := by unfold foldN; rw [if_pos h0]; omega
    rw [e1, e2, xor_zero _ (foldN_lt h)]
  · have e1 : n / 9223372036854775808 % 18446744073709551616 = 18446744073709551615 := by omega
    have e2 : n % 18446744073709551616 * 2 % 18446744073709551616 = (((2 * n + 18446744073709551616).toNat : Nat) : Int) := by omega
    rw [e1, e2, xor_ones _ (by omega)]
    unfold foldN
    rw [if_neg h0]
    omega
theorem unfold_ev (u : Nat) (h : u < 18446744073709551616) : wrap64 (bits .xor .u64 ((u : Int) / 2) (IntKind.u64.wrap (-(bits .and .u64 (u : Int) 1)))) = unfoldN u := by
  rw [and_one u h, wrap_u64, show ((u : Int) / 2) = ((u / 2 : Nat) : Int) by simp]
  unfold unfoldN
  by_cases h0 : u % 2 = 0
  · rw [if_pos h0, h0, show (-((0 : Nat) : Int)) % 18446744073709551616 = 0 by decide, xor_zero _ (by omega), w64] <;> omega
  · rw [if_neg h0, show u % 2 = 1 by omega, show (-((1 : Nat) : Int)) % 18446744073709551616 = 18446744073709551615 by decide, xor_ones _ (by omega)]
    unfold wrap64
    omega
def cls (u : Nat) : Nat := if u = 0 then 0 else if u < 128 then 1 else if u < 4096 then 2 else if u < 1048576 then 3 else 4
def wd (c : Nat) : Nat := if c = 0 then 0 else if c = 1 then 7 else if c = 2 then 12 else if c = 3 then 20 else 64
theorem four {c : Nat} (h : c ≤ 4) : c = 0 ∨ c = 1 ∨ c = 2 ∨ c = 3 ∨ c = 4 := by omega
theorem width_ev (c : Nat) (h : c ≤ 4) : bits_width.f (c : Int) = some (wd c : Int) := by
  rcases four h with rfl | rfl | rfl | rfl | rfl <;> rfl
theorem bitLen_gt (u w : Nat) (hu : u < 18446744073709551616) : w < Lib.bitLen u ↔ 2 ^ w ≤ u := by
  by_cases hw : w ≤ 64
  · constructor
    · intro h
      rcases Nat.lt_or_ge u (2 ^ w) with h1 | h1
      · have := Lib.bitLen_le u w hw h1
        omega
      · exact h1
    · intro h
      have h1 := Lib.bitLen_shift w u h (by simpa using hu)
      have h2 : u / 2 ^ w ≠ 0 := by
        have := Nat.div_pos h (Nat.two_pow_pos w)
        omega
      have h3 := Lib.bitLen_half (u / 2 ^ w) h2 (Nat.lt_of_le_of_lt (Nat.div_le_self _ _) (by simpa using hu))
      omega
  · constructor
    · intro h
      have := Lib.bitLen_le u 64 (Nat.le_refl _) (by simpa using hu)
      omega
    · intro h
      have h1 : 2 ^ 64 ≤ 2 ^ w := Nat.pow_le_pow_right (by decide) (by omega)
      have h2 : (2 : Nat) ^ 64 = 18446744073709551616 := by decide
      omega
theorem len64_ev (u : Nat) (hu : u < 18446744073709551616) : bits_Len64.f (u : Int) = some (Lib.bitLen u : Int) := by
  unfold bits_Len64.f
  rw [if_pos (by omega), Int.toNat_natCast]
theorem class_step (n : Int) (h : I64 n) (c : Nat) (hc : c < 4) (K : Nat) (r : Option Int) (hr : ∀ k, K ≤ k → (if 2 ^ wd c ≤ foldN n then bits_Class.l0 k n ((c + 1 : Nat) : Int) else some (c : Int)) = r) : ∀ k, K + 1 ≤ k → bits_Class.l0 k n (c : Int) = r := by
  intro k hk
  obtain ⟨k, rfl⟩ : ∃ m, k = m + 1 := ⟨k - 1, by omega⟩
  rw [bits_Class.l0, if_pos (by omega), fold_ev n h, Option.bind_some, len64_ev _ (foldN_lt h), Option.bind_some, width_ev c (by omega), Option.bind_some]
  have e1 : Aside0 (wrap64 ((c : Int) + 1) = ((c + 1 : Nat) : Int)) := ⟨by rw [w64] <;> omega⟩
  have hb := bitLen_gt (foldN n) (wd c) (foldN_lt h)
  rw [← hr k (by omega), e1.out]
  by_cases h1 : 2 ^ wd c ≤ foldN n
  · rw [if_pos h1, if_pos (by have := hb.2 h1; omega)]
  · rw [if_neg h1, if_neg (by intro h2; exact h1 (hb.1 (by omega)))]
theorem Class_ev (n : Int) (h : I64 n) : (∃ K, ∀ k, K ≤ k → bits_Class.f k n = some (((cls (foldN n) : Nat) : Int))) := by
  refine ⟨5, fun k hk => ?_⟩
  unfold bits_Class.f
  have e0 : (0 : Int) = ((0 : Nat) : Int) := rfl
  rw [e0]
  refine class_step n h 0 (by decide) 4 _ (fun k hk => ?_) k hk
  have w0 : 2 ^ wd 0 = 1 := rfl
  have w1 : 2 ^ wd 1 = 128 := rfl
  have w2 : 2 ^ wd 2 = 4096 := rfl
  have w3 : 2 ^ wd 3 = 1048576 := rfl
  rw [w0]
  by_cases h0 : 1 ≤ foldN n
  · rw [if_pos h0]
    refine class_step n h 1 (by decide) 3 _ (fun k hk => ?_) k hk
    rw [w1]
    by_cases h1 : 128 ≤ foldN n
    · rw [if_pos h1]
      refine class_step n h 2 (by decide) 2 _ (fun k hk => ?_) k hk
      rw [w2]
      by_cases h2 : 4096 ≤ foldN n
      · rw [if_pos h2]
        refine class_step n h 3 (by decide) 1 _ (fun k hk => ?_) k hk
        rw [w3]
        by_cases h3 : 1048576 ≤ foldN n
        · rw [if_pos h3]
          obtain ⟨k, rfl⟩ : ∃ m, k = m + 1 := ⟨k - 1, by omega⟩
          rw [bits_Class.l0, if_neg (by omega)]
          unfold cls
          rw [if_neg (by omega), if_neg (by omega), if_neg (by omega), if_neg (by omega)]
        · rw [if_neg h3]
          unfold cls
          rw [if_neg (by omega), if_neg (by omega), if_neg (by omega), if_pos (by omega)]
      · rw [if_neg h2]
        unfold cls
        rw [if_neg (by omega), if_neg (by omega), if_pos (by omega)]
    · rw [if_neg h1]
      unfold cls
      rw [if_neg (by omega), if_pos (by omega)]
  · rw [if_neg h0]
    unfold cls
    rw [if_pos (by omega)]
theorem wd_le (c : Nat) : wd c ≤ 64 := by unfold wd; (repeat' split) <;> omega
theorem Check_ev (l : List Bool) (hl : l.length ≤ 131072) : (∃ K, ∀ k, K ≤ k → bits_Check.f k (Of l) (l.length : Int) = some (0)) := by
  refine ⟨1, fun k hk => ?_⟩
  obtain ⟨k, rfl⟩ : ∃ m, k = m + 1 := ⟨k - 1, by omega⟩
  have hO := Of_length l
  have e1 : Aside0 (wrap64 ((l.length : Int) + 7) = ((l.length + 7 : Nat) : Int)) := ⟨by rw [w64] <;> omega⟩
  have e2 : Aside0 (wrap64 (((l.length + 7 : Nat) : Int) / 8) = (((l.length + 7) / 8 : Nat) : Int)) := ⟨by rw [w64] <;> omega⟩
  have e3 : Int.tmod (l.length : Int) 8 = ((l.length % 8 : Nat) : Int) := by rw [tmod_nn (Int.natCast_nonneg _)]; simp
  unfold bits_Check.f bits_bytes.f
  rw [if_neg (by omega), if_neg (by omega), Option.bind_some, e1.out, tdiv_nn (Int.natCast_nonneg _), e2.out, hO, show (((((l.length + 7) / 8 : Nat) : Int)) != ((((l.length + 7) / 8 : Nat) : Int))) = false by simp, bits_Check.j0, if_neg (by decide), e3]
  by_cases h0 : l.length % 8 = 0
  · rw [if_neg (by omega)]
  · have e4 : Aside0 (wrap64 (((Of l).length : Int) - 1) = ((l.length / 8 : Nat) : Int)) := ⟨by rw [hO, w64] <;> omega⟩
    have hz : shl .u8 (rd (Of l) ((l.length / 8 : Nat) : Int)) ((l.length % 8 : Nat) : Int) = 0 := by
      have hbl := byteOf_last l h0
      rw [rd_Of, shl8_nat _ _ (by omega)]
      have hr : l.length % 8 ≤ 8 := by omega
      generalize byteOf ((l.drop (8 * (l.length / 8))).take 8) = b at *
      generalize l.length % 8 = r at *
      clear e3
      rcases eight hr with rfl | rfl | rfl | rfl | rfl | rfl | rfl | rfl | rfl <;> (simp only [Nat.reducePow, Nat.reduceSub] at *; omega)
    rw [if_pos (by omega), e4.out, if_pos (by omega), if_pos (by omega), if_pos (by omega), if_pos hz]
end Go.Proofs.Ytmddmbagehjdeaa.Q
end
section
set_option linter.unusedVariables false
namespace Go.Proofs.Ytmddmbagehjdeaa.Q
open Go Go.RowKit Go.Proofs.Ytmddmbagehjdeaa.G Go.Proofs.YtmddmbagehjdeaaW.PrintWords Go.Proofs.YtmddmbagehjdeaaW.PrintLast Go.Proofs.YtmddmbagehjdeaaW.PrintMore
theorem own_ev (b : List Int) (N : Int) (h : b.length ≤ 1000000) : bits_own.f b N = some (b, N) := by
  unfold bits_own.f slices_Clone_byte_byte.f
  rw [if_pos (by omega)]
  rfl
theorem Read_ev (l : List Bool) (hl : l.length ≤ 131072) : (∃ K, ∀ k, K ≤ k → bits_Read.f k (Of l) (l.length : Int) = some ((Of l, (l.length : Int), 0))) := by
  obtain ⟨K1, e1⟩ := Check_ev l hl
  refine ⟨K1, fun k hk => ?_⟩
  have hO := Of_length l
  unfold bits_Read.f
  rw [e1 k hk, Option.bind_some, if_pos rfl, own_ev _ _ (by rw [hO]; omega), Option.bind_some]
def takeR (l : List Bool) (at_ : Nat) (n : Int) : Int × Int × Int × Int :=
  if n < 0 ∨ 64 < n then (0, 1, l.length, at_) else if ((l.length - at_ : Nat) : Int) < n then (0, 2, l.length, at_) else ((bv ((l.drop at_).take n.toNat) : Nat), 0, l.length, ((at_ + n.toNat : Nat) : Int))
theorem Take_ev (l : List Bool) (hl : l.length ≤ 1000000) (at_ : Nat) (ha : at_ ≤ l.length) (n : Int) : (∃ K, ∀ k, K ≤ k → bits_Reader_Take.f k (Of l) (l.length : Int) (at_ : Int) n = some (takeR l at_ n)) := by
  unfold takeR
  by_cases h1 : n < 0
  · refine ⟨0, fun k _ => ?_⟩
    unfold bits_Reader_Take.f
    rw [if_pos h1, if_pos (.inl h1)]
  by_cases h2 : 64 < n
  · refine ⟨0, fun k _ => ?_⟩
    unfold bits_Reader_Take.f
    rw [if_neg h1, if_pos h2, if_pos (.inr h2)]
  have w1 : Aside0 (wrap64 ((l.length : Int) - (at_ : Int)) = ((l.length - at_ : Nat) : Int)) := ⟨by rw [w64] <;> omega⟩
  rw [if_neg (by rintro (h | h) <;> omega)]
  by_cases h3 : ((l.length - at_ : Nat) : Int) < n
  · refine ⟨0, fun k _ => ?_⟩
    unfold bits_Reader_Take.f bits_Reader_Left.f
    rw [if_neg h1, if_neg h2, Option.bind_some]
    simp only
    rw [w1.out, if_pos h3, if_pos h3]
  rw [if_neg h3]
  obtain ⟨m, rfl⟩ := Int.eq_ofNat_of_zero_le (show 0 ≤ n by omega)
  rw [Int.toNat_natCast]
  have w2 : Aside0 (wrap64 ((at_ : Int) + (m : Int)) = ((at_ + m : Nat) : Int)) := ⟨by rw [w64] <;> omega⟩
  obtain ⟨K, hK⟩ := get_ev l hl (l.length : Int) m at_ (by omega) (by omega)
  refine ⟨K, fun k hk => ?_⟩
  unfold bits_Reader_Take.f bits_Reader_Left.f
  rw [if_neg h1, if_neg h2, Option.bind_some]
  simp only
  rw [w1.out, if_neg h3]
  by_cases h4 : (m : Int) = 0
  · obtain rfl : m = 0 := by omega
    rw [if_pos h4]
    simp [bv]
  · rw [if_neg h4, hK k hk, Option.bind_some, w2.out]
def rdc : Nat → Nat → List Bool → Option (Nat × List Bool)
  | 0, c, r => some (c, r)
  | f + 1, c, [] => none
  | f + 1, c, false :: r => some (c, r)
  | f + 1, c, true :: r => rdc f (c + 1) r
def numb (r : List Bool) : Option (Int × Nat) :=
  match rdc 4 0 r with
  | none => none
  | some (c, q) => if wd c ≤ q.length then (if cls (bv (q.take (wd c))) = c then some (unfoldN (bv (q.take (wd c))), r.length - q.length + wd c) else none) else none
theorem drop_cons {l : List Bool} {at_ : Nat} {b : Bool} {r : List Bool} (h : l.drop at_ = b :: r) : at_ < l.length ∧ l.drop (at_ + 1) = r ∧ (l.drop at_).take 1 = [b] := by
  refine ⟨?_, ?_, ?_⟩
  · rcases Nat.lt_or_ge at_ l.length with h' | h'
    · exact h'
    · rw [List.drop_of_length_le h'] at h; cases h
  · rw [← List.drop_drop, h]; rfl
  · rw [h]; rfl
theorem take1 (l : List Bool) (at_ : Nat) (b : Bool) (r : List Bool) (h : l.drop at_ = b :: r) : takeR l at_ 1 = ((b.toNat : Int), 0, (l.length : Int), ((at_ + 1 : Nat) : Int)) := by
  obtain ⟨h1, _, h3⟩ := drop_cons h
  unfold takeR
  rw [if_neg (by omega), if_neg (by omega), show (1 : Int).toNat = 1 from rfl, h3]
  simp [bv]
theorem take1_none (l : List Bool) (at_ : Nat) (h : l.drop at_ = []) (ha : at_ ≤ l.length) : takeR l at_ 1 = (0, 2, (l.length : Int), (at_ : Int)) := by
  have h1 : l.length ≤ at_ := by simpa using h
  unfold takeR
  rw [if_neg (by omega), if_pos (by omega)]
theorem class_ev (l : List Bool) (hl : l.length ≤ 1000000) : ∀ (f c at_ : Nat), f + c = 4 → at_ ≤ l.length →
    (∀ c' q, rdc f c (l.drop at_) = some (c', q) → ∃ at', at_ ≤ at' ∧ at' ≤ l.length ∧ l.drop at' = q ∧ c' ≤ 4 ∧ (∃ K, ∀ k, K ≤ k → bits_Reader_class.l0 k (c : Int) (Of l) (l.length : Int) (at_ : Int) = some (((c' : Int), 0, (l.length : Int), (at' : Int))))) ∧
    (rdc f c (l.drop at_) = none → ∃ c' at', (∃ K, ∀ k, K ≤ k → bits_Reader_class.l0 k (c : Int) (Of l) (l.length : Int) (at_ : Int) = some ((c', 2, (l.length : Int), at'))))
  | 0, c, at_, hf, ha => by
    refine ⟨fun c' q h => ?_, fun h => by cases h⟩
    simp only [rdc, Option.some.injEq, Prod.mk.injEq] at h
    obtain ⟨rfl, rfl⟩ := h
    refine ⟨at_, Nat.le_refl _, ha, rfl, by omega, 1, fun k hk => ?_⟩
    obtain ⟨k, rfl⟩ : ∃ m, k = m + 1 := ⟨k - 1, by omega⟩
    rw [bits_Reader_class.l0, if_neg (by omega), show (4 : Int) = (c : Int) by omega]
  | f + 1, c, at_, hf, ha => by
    obtain ⟨KT, hT⟩ := Take_ev l hl at_ ha 1
    rcases hd : l.drop at_ with _ | ⟨b, r⟩
    · rw [take1_none l at_ hd ha] at hT
      refine ⟨fun c' q h => (by simp [rdc] at h), fun _ => ⟨(c : Int), (at_ : Int), KT + 1, fun k hk => ?_⟩⟩
      obtain ⟨k, rfl⟩ : ∃ m, k = m + 1 := ⟨k - 1, by omega⟩
      rw [bits_Reader_class.l0, if_pos (by omega), hT k (by omega), Option.bind_some]
      simp only
      rw [if_neg (by decide)]
    · obtain ⟨h1, h2, h3⟩ := drop_cons hd
      rw [take1 l at_ b r hd] at hT
      cases b with
      | false =>
        refine ⟨fun c' q h => ?_, fun h => (by simp [rdc] at h)⟩
        simp only [rdc, Option.some.injEq, Prod.mk.injEq] at h
        obtain ⟨rfl, rfl⟩ := h
        refine ⟨at_ + 1, by omega, by omega, h2, by omega, KT + 1, fun k hk => ?_⟩
        obtain ⟨k, rfl⟩ : ∃ m, k = m + 1 := ⟨k - 1, by omega⟩
        rw [bits_Reader_class.l0, if_pos (by omega), hT k (by omega), Option.bind_some]
        simp only
        rw [if_pos (by decide), if_pos (by decide)]
      | true =>
        obtain ⟨i1, i2⟩ := class_ev l hl f (c + 1) (at_ + 1) (by omega) (by omega)
        rw [h2] at i1 i2
        have w1 : Aside0 (wrap64 ((c : Int) + 1) = ((c + 1 : Nat) : Int)) := ⟨by rw [w64] <;> omega⟩
        have step : ∀ r, (∃ K, ∀ k, K ≤ k → bits_Reader_class.l0 k ((c + 1 : Nat) : Int) (Of l) (l.length : Int) ((at_ + 1 : Nat) : Int) = some (r)) → (∃ K, ∀ k, K ≤ k → bits_Reader_class.l0 k (c : Int) (Of l) (l.length : Int) (at_ : Int) = some (r)) := by
          rintro r ⟨K, hK⟩
          refine ⟨K + KT + 1, fun k hk => ?_⟩
          obtain ⟨k, rfl⟩ : ∃ m, k = m + 1 := ⟨k - 1, by omega⟩
          rw [bits_Reader_class.l0, if_pos (by omega), hT k (by omega), Option.bind_some]
          simp only
          rw [if_pos (by decide), if_neg (by decide), w1.out]
          exact hK k (by omega)
        refine ⟨fun c' q h => ?_, fun h => ?_⟩
        · obtain ⟨at', g1, g2, g3, g4, g5⟩ := i1 c' q h
          exact ⟨at', by omega, g2, g3, g4, step _ g5⟩
        · obtain ⟨c', at', g⟩ := i2 h
          exact ⟨c', at', step _ g⟩
theorem two_le {w : Nat} (h : w ≤ 64) : 2 ^ w ≤ 18446744073709551616 := by rw [← two64]; exact Nat.pow_le_pow_right (by decide) h
def numR (l : List Bool) (at_ : Nat) : Int × Int × Int × Int :=
  match numb (l.drop at_) with
  | some (n, j) => (n, 0, l.length, ((at_ + j : Nat) : Int))
  | none => (0, 2, l.length, at_)
theorem ReadNum_ev (l : List Bool) (hl : l.length ≤ 1000000) (at_ : Nat) (ha : at_ ≤ l.length) : (∃ K, ∀ k, K ≤ k → bits_Reader_Number.f k (Of l) (l.length : Int) (at_ : Int) = some (numR l at_)) := by
  obtain ⟨i1, i2⟩ := class_ev l hl 4 0 at_ rfl ha
  unfold numR numb
  rcases hr : rdc 4 0 (l.drop at_) with _ | ⟨c, q⟩
  · obtain ⟨c', at', K, hK⟩ := i2 hr
    refine ⟨K, fun k hk => ?_⟩
    unfold bits_Reader_Number.f bits_Reader_At.f bits_Reader_class.f
    rw [Option.bind_some]
    have := hK k hk
    simp only at this ⊢
    rw [show ((0 : Nat) : Int) = 0 from rfl] at this
    rw [this, Option.bind_some]
    simp only
    rw [if_neg (by decide)]
  · obtain ⟨at', g1, g2, rfl, g4, K, hK⟩ := i1 c q hr
    have hK' : ∀ k, K ≤ k → bits_Reader_class.f k (Of l) (l.length : Int) (at_ : Int) = some ((c : Int), 0, (l.length : Int), (at' : Int)) := fun k hk => hK k hk
    obtain ⟨KT, hT⟩ := Take_ev l hl at' g2 (wd c : Int)
    have hw := wd_le c
    have hql : (l.drop at').length = l.length - at' := List.length_drop
    simp only
    by_cases h1 : wd c ≤ (l.drop at').length
    · rw [if_pos h1]
      have ht : takeR l at' (wd c : Int) = (((bv ((l.drop at').take (wd c)) : Nat) : Int), 0, (l.length : Int), ((at' + wd c : Nat) : Int)) := by
        unfold takeR
        rw [if_neg (by omega), if_neg (by rw [hql] at h1; omega), Int.toNat_natCast]
      rw [ht] at hT
      obtain ⟨u, hu⟩ : ∃ u, u = bv ((l.drop at').take (wd c)) := ⟨_, rfl⟩
      have hlt : u < 18446744073709551616 := by
        have h2 := bv_lt ((l.drop at').take (wd c))
        rw [← hu, List.length_take] at h2
        exact Nat.lt_of_lt_of_le h2 (two_le (Nat.le_trans (Nat.min_le_left _ _) hw))
      rw [← hu] at hT ⊢
      obtain ⟨KC, hC⟩ := Class_ev (unfoldN u) (unfoldN_i64 u hlt)
      rw [fold_unfold] at hC
      have hun := Aside0.mk (unfold_ev u hlt)
      refine ⟨K + KT + KC + 1, fun k hk => ?_⟩
      obtain ⟨k, rfl⟩ : ∃ m, k = m + 1 := ⟨k - 1, by omega⟩
      unfold bits_Reader_Number.f bits_Reader_At.f
      rw [Option.bind_some]
      simp only
      rw [hK' _ (by omega), Option.bind_some]
      simp only
      rw [if_pos trivial, width_ev c g4, Option.bind_some, hT _ (by omega), Option.bind_some]
      simp only
      rw [if_pos trivial, hun.out, hC _ (by omega), Option.bind_some, bits_Reader_Number.j0]
      have e1 : at_ + ((l.drop at_).length - (l.drop at').length + wd c) = at' + wd c := by rw [List.length_drop, List.length_drop]; omega
      by_cases h2 : cls u = c
      · rw [if_pos h2, if_pos (by rw [h2]; simp)]
        simp only
        rw [e1]
      · rw [if_neg h2, if_neg (by intro h; exact h2 (by have := eq_of_beq h; omega))]
    · rw [if_neg h1]
      have ht : takeR l at' (wd c : Int) = (0, 2, (l.length : Int), (at' : Int)) := by
        unfold takeR
        rw [if_neg (by omega), if_pos (by rw [hql] at h1; omega)]
      rw [ht] at hT
      refine ⟨K + KT + 1, fun k hk => ?_⟩
      obtain ⟨k, rfl⟩ : ∃ m, k = m + 1 := ⟨k - 1, by omega⟩
      unfold bits_Reader_Number.f bits_Reader_At.f
      rw [Option.bind_some]
      simp only
      rw [hK' _ (by omega), Option.bind_some]
      simp only
      rw [if_pos trivial, width_ev c g4, Option.bind_some, hT _ (by omega), Option.bind_some]
      simp only
      rw [if_neg (by decide), bits_Reader_Number.j0, if_neg (by decide)]
end Go.Proofs.Ytmddmbagehjdeaa.Q
end
section
set_option linter.unusedVariables false
namespace Go.Proofs.Ytmddmbagehjdeaa.Q
open Go Go.RowKit Go.Proofs.Ytmddmbagehjdeaa.G Go.Proofs.YtmddmbagehjdeaaW.PrintWords Go.Proofs.YtmddmbagehjdeaaW.PrintLast Go.Proofs.YtmddmbagehjdeaaW.PrintMore
theorem awake17_ev : (∃ K, ∀ k, K ≤ k → windroselaw17_awake.f k = some (true)) := by
  have h : windroselaw17_awake.f 12 = some true := by decide +kernel
  exact Ev.of windroselaw17_awake.mono h
end Go.Proofs.Ytmddmbagehjdeaa.Q
end
section
set_option linter.unusedVariables false
namespace Go.Proofs.Ytmddmbagehjdeaa.Q
open Go Go.RowKit Go.Proofs.Ytmddmbagehjdeaa.G Go.Proofs.YtmddmbagehjdeaaW.PrintWords Go.Proofs.YtmddmbagehjdeaaW.PrintLast Go.Proofs.YtmddmbagehjdeaaW.PrintMore
theorem value_loop (m : List Bool) (hm : m.length ≤ 64) (d : Nat) : ∀ (i acc : Nat), i + d = m.length → acc < 2 ^ i →
    (∃ K, ∀ k, K ≤ k → windroseref17_Value.l0 k m (acc : Int) (i : Int) = some (((acc * 2 ^ d + bv (m.drop i) : Nat) : Int))) := by
  induction d with
  | zero =>
    intro i acc hi _
    refine Ev.succ 0 fun k _ => ?_
    rw [windroseref17_Value.l0, if_neg (by omega), List.drop_of_length_le (by omega)]
    simp [bv]
  | succ d ih =>
    intro i acc hi hacc
    have hil : i < m.length := by omega
    have hd : m.drop i = rdOf false m (i : Int) :: m.drop (i + 1) := by
      rw [List.drop_eq_getElem_cons hil]
      congr 1
      simp [rdOf, List.getElem?_eq_getElem hil]
    have h1 : acc * 2 + 1 < 18446744073709551616 := by
      have := two_le (show i + 1 ≤ 64 by omega)
      rw [Nat.pow_succ] at this
      omega
    have h2 : acc * 2 + (rdOf false m (i : Int)).toNat < 2 ^ (i + 1) := by
      have : (rdOf false m (i : Int)).toNat ≤ 1 := by cases rdOf false m (i : Int) <;> decide
      rw [Nat.pow_succ]
      omega
    obtain ⟨K, hK⟩ := ih (i + 1) (acc * 2 + (rdOf false m (i : Int)).toNat) (by omega) h2
    have e : (acc * 2 + (rdOf false m (i : Int)).toNat) * 2 ^ d + bv (m.drop (i + 1)) = acc * 2 ^ (d + 1) + bv (m.drop i) := by
      rw [hd, bv, List.length_drop, Nat.add_mul, Nat.pow_succ, show m.length - (i + 1) = d by omega, Nat.mul_assoc, Nat.mul_comm 2 (2 ^ d), Nat.add_assoc]
    rw [e] at hK
    have w1 : Aside0 (wrap64 ((i : Int) + 1) = ((i + 1 : Nat) : Int)) := ⟨by rw [w64] <;> omega⟩
    have u1 : Aside0 (IntKind.u64.wrap ((acc : Int) * 2) = ((acc * 2 : Nat) : Int)) := ⟨by rw [wrap_u64]; omega⟩
    have u2 : Aside0 (IntKind.u64.wrap (((acc * 2 : Nat) : Int) + 1) = ((acc * 2 + 1 : Nat) : Int)) := ⟨by rw [wrap_u64]; omega⟩
    refine Ev.succ K fun k hk => ?_
    rw [windroseref17_Value.l0, if_pos (by omega), if_pos (by omega), u1.out, u2.out, w1.out]
    have := hK k hk
    cases hb : rdOf false m (i : Int) with
    | true => rw [if_pos rfl]; rw [hb] at this; exact this
    | false => rw [if_neg (by decide)]; rw [hb] at this; exact this
theorem Value_ev (m : List Bool) (hm : m.length ≤ 64) : (∃ K, ∀ k, K ≤ k → windroseref17_Value.f k m = some (((bv m : Nat) : Int))) := by
  obtain ⟨K, hK⟩ := value_loop m hm m.length 0 0 (by omega) (Nat.two_pow_pos _)
  rw [Nat.zero_mul, Nat.zero_add, List.drop_zero] at hK
  exact ⟨K, hK⟩
theorem reffold_ev (n : Int) (h : I64 n) : windroseref17_fold.f n = some (foldN n : Int) := by
  unfold windroseref17_fold.f I64 foldN at *
  by_cases h0 : 0 ≤ n
  · rw [if_pos h0, if_pos h0, wrap_u64, wrap_u64]
    congr 1
    omega
  · have w1 : wrap64 (-1 - n) = -1 - n := by rw [w64] <;> omega
    rw [if_neg h0, if_neg h0, w1, wrap_u64, wrap_u64, wrap_u64]
    congr 1
    omega
theorem refclass_ev (n : Int) (h : I64 n) : windroseref17_Class.f n = some ((cls (foldN n) : Nat) : Int) := by
  unfold windroseref17_Class.f
  rw [reffold_ev n h, Option.bind_some]
  unfold cls
  by_cases h0 : foldN n = 0
  · rw [if_pos (by omega), if_pos h0]; rfl
  by_cases h1 : foldN n < 128
  · rw [if_neg (by omega), if_pos (by omega), if_neg h0, if_pos h1]; rfl
  by_cases h2 : foldN n < 4096
  · rw [if_neg (by omega), if_neg (by omega), if_pos (by omega), if_neg h0, if_neg h1, if_pos h2]; rfl
  by_cases h3 : foldN n < 1048576
  · rw [if_neg (by omega), if_neg (by omega), if_neg (by omega), if_pos (by omega), if_neg h0, if_neg h1, if_neg h2, if_pos h3]; rfl
  · rw [if_neg (by omega), if_neg (by omega), if_neg (by omega), if_neg (by omega), if_neg h0, if_neg h1, if_neg h2, if_neg h3]; rfl
def numP (r : List Bool) : Int × Int := match numb r with | some (n, j) => (n, (j : Int)) | none => (0, 0)
def kk (c : Nat) : Nat := if c = 4 then 4 else c + 1
theorem kk_le (c : Nat) (h : c ≤ 4) : kk c ≤ 5 := by unfold kk; split <;> omega
def numK (r : List Bool) (c : Nat) : Int × Int :=
  if kk c + wd c ≤ r.length then (if cls (bv ((r.drop (kk c)).take (wd c))) = c then (unfoldN (bv ((r.drop (kk c)).take (wd c))), ((kk c + wd c : Nat) : Int)) else (0, 0)) else (0, 0)
theorem rd_widths (c : Nat) (h : c ≤ 4) : rd ([0, 7, 12, 20, 64] : List Int) (c : Int) = (wd c : Int) := by rcases four h with rfl | rfl | rfl | rfl | rfl <;> rfl
theorem numK_ev (r : List Bool) (hr : r.length ≤ 1000000) (c : Nat) (h : c ≤ 4) : (∃ K, ∀ k, K ≤ k → windroseref17_Number.j1 k r ([0, 7, 12, 20, 64] : List Int) (c : Int) = some (numK r c)) := by
  have hw := wd_le c
  have hk := kk_le c h
  have w0 : Aside0 (wrap64 ((c : Int) + 1) = ((c + 1 : Nat) : Int)) := ⟨by rw [w64] <;> omega⟩
  have goal2 : (∃ K, ∀ k, K ≤ k → windroseref17_Number.j2 k r ([0, 7, 12, 20, 64] : List Int) (c : Int) (kk c : Int) = some (numK r c)) := by
    unfold numK
    have w1 : Aside0 (wrap64 ((kk c : Int) + (wd c : Int)) = ((kk c + wd c : Nat) : Int)) := ⟨by rw [w64] <;> omega⟩
    by_cases h1 : kk c + wd c ≤ r.length
    · rw [if_pos h1]
      have hs : (r.take (((kk c + wd c : Nat) : Int).toNat)).drop ((kk c : Int).toNat) = (r.drop (kk c)).take (wd c) := by
        rw [Int.toNat_natCast, Int.toNat_natCast, List.drop_take]
        congr 1
        omega
      have hl : ((r.drop (kk c)).take (wd c)).length ≤ 64 := by rw [List.length_take]; omega
      obtain ⟨KV, hV⟩ := Value_ev _ hl
      obtain ⟨u, hu⟩ : ∃ u, u = bv ((r.drop (kk c)).take (wd c)) := ⟨_, rfl⟩
      have hlt : u < 18446744073709551616 := by rw [hu]; exact Nat.lt_of_lt_of_le (bv_lt _) (two_le hl)
      rw [← hu] at hV ⊢
      have hun := unfoldN_i64 u hlt
      have hc2 := refclass_ev (unfoldN u) hun
      rw [fold_unfold] at hc2
      have t1 : Int.tmod (u : Int) 2 = ((u % 2 : Nat) : Int) := by rw [tmod_nn (Int.natCast_nonneg _)]; simp
      have t2 : Aside0 (wrap64 (IntKind.u64.wrap (Int.tdiv (u : Int) 2)) = ((u / 2 : Nat) : Int)) := ⟨by rw [tdiv_nn (Int.natCast_nonneg _), wrap_u64, w64] <;> omega⟩
      have t3 : Aside0 (wrap64 (-1 - ((u / 2 : Nat) : Int)) = -1 - ((u / 2 : Nat) : Int)) := ⟨by rw [w64] <;> omega⟩
      refine ⟨KV + 1, fun k hk => ?_⟩
      obtain ⟨k, rfl⟩ : ∃ m, k = m + 1 := ⟨k - 1, by omega⟩
      have c5 : (c : Int) < (([0, 7, 12, 20, 64] : List Int).length : Int) := by
        have : ([0, 7, 12, 20, 64] : List Int).length = 5 := rfl
        omega
      have c6 : ¬ ((kk c + wd c : Nat) : Int) > (r.length : Int) := by omega
      have c7 : (kk c : Int) ≤ ((kk c + wd c : Nat) : Int) := by omega
      have c8 : ((kk c + wd c : Nat) : Int) ≤ (r.length : Int) := by omega
      rw [windroseref17_Number.j2, if_pos (Int.natCast_nonneg _), if_pos c5, rd_widths c h, w1.out, if_neg c6, if_pos (Int.natCast_nonneg _), if_pos c7, if_pos c8, hs, hV k (by omega), Option.bind_some, t1, t2.out, t3.out]
      by_cases h2 : u % 2 = 1
      · rw [if_pos (by omega)]
        have e : -1 - ((u / 2 : Nat) : Int) = unfoldN u := by unfold unfoldN; rw [if_neg (by omega)]
        rw [e, hc2, Option.bind_some]
        by_cases h3 : cls u = c
        · rw [if_pos (by rw [h3]), if_pos h3]
        · rw [if_neg (by omega), if_neg h3]
      · rw [if_neg (by omega)]
        have e : ((u / 2 : Nat) : Int) = unfoldN u := by unfold unfoldN; rw [if_pos (by omega)]
        rw [e, hc2, Option.bind_some]
        by_cases h3 : cls u = c
        · rw [if_pos (by rw [h3]), if_pos h3]
        · rw [if_neg (by omega), if_neg h3]
    · rw [if_neg h1]
      refine ⟨1, fun k hk => ?_⟩
      obtain ⟨k, rfl⟩ : ∃ m, k = m + 1 := ⟨k - 1, by omega⟩
      have c5 : (c : Int) < (([0, 7, 12, 20, 64] : List Int).length : Int) := by
        have : ([0, 7, 12, 20, 64] : List Int).length = 5 := rfl
        omega
      rw [windroseref17_Number.j2, if_pos (Int.natCast_nonneg _), if_pos c5, rd_widths c h, w1.out, if_pos (by omega)]
  obtain ⟨K, hK⟩ := goal2
  refine ⟨K + 1, fun k hk => ?_⟩
  obtain ⟨k, rfl⟩ : ∃ m, k = m + 1 := ⟨k - 1, by omega⟩
  have := hK k (by omega)
  rw [windroseref17_Number.j1]
  by_cases h4 : c = 4
  · rw [if_pos (by omega)]
    have e : (kk c : Int) = 4 := by unfold kk; rw [if_pos h4]; rfl
    rw [e] at this
    exact this
  · rw [if_neg (by omega), w0.out]
    have e : (kk c : Int) = ((c + 1 : Nat) : Int) := by unfold kk; rw [if_neg h4]
    rw [e] at this
    exact this
theorem refnum_loop (r : List Bool) (hr : r.length ≤ 1000000) : ∀ (f c : Nat), f + c = 4 →
    (∀ c' q, rdc f c (r.drop c) = some (c', q) → q = r.drop (kk c') ∧ c' ≤ 4 ∧ kk c' ≤ r.length + (if c' = 4 then 4 else 0) ∧ (∃ K, ∀ k, K ≤ k → windroseref17_Number.l0 k r ([0, 7, 12, 20, 64] : List Int) (c : Int) = some (numK r c'))) ∧
    (rdc f c (r.drop c) = none → (∃ K, ∀ k, K ≤ k → windroseref17_Number.l0 k r ([0, 7, 12, 20, 64] : List Int) (c : Int) = some ((0, 0))))
  | 0, c, hf => by
    obtain rfl : c = 4 := by omega
    refine ⟨fun c' q h => ?_, fun h => by cases h⟩
    simp only [rdc, Option.some.injEq, Prod.mk.injEq] at h
    obtain ⟨rfl, rfl⟩ := h
    obtain ⟨K, hK⟩ := numK_ev r hr 4 (Nat.le_refl _)
    refine ⟨rfl, Nat.le_refl _, by simp [kk], K + 1, fun k hk => ?_⟩
    obtain ⟨k, rfl⟩ : ∃ m, k = m + 1 := ⟨k - 1, by omega⟩
    rw [windroseref17_Number.l0, if_neg (by omega)]
    exact hK k (by omega)
  | f + 1, c, hf => by
    obtain ⟨KN, hN⟩ := numK_ev r hr c (by omega)
    rcases hd : r.drop c with _ | ⟨b, q0⟩
    · have hle : r.length ≤ c := by simpa using hd
      refine ⟨fun c' q h => (by simp [rdc] at h), fun _ => ⟨KN + 1, fun k hk => ?_⟩⟩
      obtain ⟨k, rfl⟩ : ∃ m, k = m + 1 := ⟨k - 1, by omega⟩
      rw [windroseref17_Number.l0, if_pos (by omega), if_neg (by omega)]
      rw [hN k (by omega)]
      unfold numK kk
      rw [if_neg (by rw [if_neg (show ¬ c = 4 by omega)]; omega)]
    · obtain ⟨h1, h2, h3⟩ := drop_cons hd
      have hb : rdOf false r (c : Int) = b := by
        have : r[c]'h1 = b := by
          have := List.drop_eq_getElem_cons h1
          rw [hd] at this
          exact (List.cons.inj this).1.symm
        simp [rdOf, List.getElem?_eq_getElem h1, this]
      cases b with
      | false =>
        refine ⟨fun c' q h => ?_, fun h => (by simp [rdc] at h)⟩
        simp only [rdc, Option.some.injEq, Prod.mk.injEq] at h
        obtain ⟨rfl, rfl⟩ := h
        have hkk : kk c = c + 1 := by unfold kk; rw [if_neg (by omega)]
        refine ⟨by rw [hkk, h2], by omega, by omega, KN + 1, fun k hk => ?_⟩
        obtain ⟨k, rfl⟩ : ∃ m, k = m + 1 := ⟨k - 1, by omega⟩
        rw [windroseref17_Number.l0, if_pos (by omega), if_pos (by omega), if_pos (by omega), hb, if_neg (by decide)]
        exact hN k (by omega)
      | true =>
        obtain ⟨i1, i2⟩ := refnum_loop r hr f (c + 1) (by omega)
        rw [h2] at i1 i2
        have w1 : Aside0 (wrap64 ((c : Int) + 1) = ((c + 1 : Nat) : Int)) := ⟨by rw [w64] <;> omega⟩
        have step : ∀ z, (∃ K, ∀ k, K ≤ k → windroseref17_Number.l0 k r ([0, 7, 12, 20, 64] : List Int) ((c + 1 : Nat) : Int) = some (z)) → (∃ K, ∀ k, K ≤ k → windroseref17_Number.l0 k r ([0, 7, 12, 20, 64] : List Int) (c : Int) = some (z)) := by
          rintro z ⟨K, hK⟩
          refine ⟨K + 1, fun k hk => ?_⟩
          obtain ⟨k, rfl⟩ : ∃ m, k = m + 1 := ⟨k - 1, by omega⟩
          rw [windroseref17_Number.l0, if_pos (by omega), if_pos (by omega), if_pos (by omega), hb, if_pos rfl, w1.out]
          exact hK k (by omega)
        exact ⟨fun c' q h => ⟨(i1 c' q h).1, (i1 c' q h).2.1, (i1 c' q h).2.2.1, step _ (i1 c' q h).2.2.2⟩, fun h => step _ (i2 h)⟩
theorem rdc_len : ∀ (f c : Nat) (r : List Bool) (c' : Nat) (q : List Bool), rdc f c r = some (c', q) → r.length = q.length + (if c' = c + f then f else c' - c + 1) ∧ c ≤ c' ∧ c' ≤ c + f
  | 0, c, r, c', q, h => by
    simp only [rdc, Option.some.injEq, Prod.mk.injEq] at h
    obtain ⟨rfl, rfl⟩ := h
    simp
  | f + 1, c, [], c', q, h => by simp [rdc] at h
  | f + 1, c, false :: r, c', q, h => by
    simp only [rdc, Option.some.injEq, Prod.mk.injEq] at h
    obtain ⟨rfl, rfl⟩ := h
    rw [if_neg (by omega), List.length_cons]
    omega
  | f + 1, c, true :: r, c', q, h => by
    have := rdc_len f (c + 1) r c' q h
    rw [List.length_cons]
    split at this <;> split <;> omega
theorem RefNum_ev (r : List Bool) (hr : r.length ≤ 1000000) : (∃ K, ∀ k, K ≤ k → windroseref17_Number.f k r = some (numP r)) := by
  obtain ⟨i1, i2⟩ := refnum_loop r hr 4 0 rfl
  rw [List.drop_zero] at i1 i2
  unfold numP numb
  rcases h : rdc 4 0 r with _ | ⟨c, q⟩
  · obtain ⟨K, hK⟩ := i2 h
    exact ⟨K, hK⟩
  · obtain ⟨hq, h4, hkl, K, hK⟩ := i1 c q h
    have hlen := (rdc_len 4 0 r c q h).1
    have hk2 : r.length = q.length + kk c := by
      rw [hlen]
      unfold kk
      congr 1
    refine ⟨K, fun k hk => ?_⟩
    have := hK k hk
    have e0 : ((0 : Nat) : Int) = 0 := rfl
    rw [e0] at this
    unfold windroseref17_Number.f
    rw [this]
    congr 1
    unfold numK
    rw [← hq]
    simp only
    by_cases h1 : wd c ≤ q.length
    · rw [if_pos (by omega), if_pos h1]
      by_cases h2 : cls (bv (q.take (wd c))) = c
      · rw [if_pos h2, if_pos h2]
        simp only
        rw [show r.length - q.length = kk c by omega]
      · rw [if_neg h2, if_neg h2]
    · rw [if_neg (by omega), if_neg h1]
theorem numb_pos (r : List Bool) (n : Int) (j : Nat) (h : numb r = some (n, j)) : 0 < j ∧ j ≤ r.length := by
  unfold numb at h
  rcases hr : rdc 4 0 r with _ | ⟨c, q⟩
  · rw [hr] at h; cases h
  · rw [hr] at h
    simp only at h
    have := rdc_len 4 0 r c q hr
    split at h
    · split at h
      · simp only [Option.some.injEq, Prod.mk.injEq] at h
        obtain ⟨_, rfl⟩ := h
        have h1 := this.1
        split at h1 <;> omega
      · cases h
    · cases h
end Go.Proofs.Ytmddmbagehjdeaa.Q
end
section
set_option linter.unusedVariables false
namespace Go.Proofs.Ytmddmbagehjdeaa.Q
open Go Go.RowKit Go.Proofs.Ytmddmbagehjdeaa.G Go.Proofs.YtmddmbagehjdeaaW.PrintWords Go.Proofs.YtmddmbagehjdeaaW.PrintLast Go.Proofs.YtmddmbagehjdeaaW.PrintMore
def Byt (b : List Int) : Prop := ∀ x ∈ b, 0 ≤ x ∧ x ≤ 255
theorem wf_u8 {x : Int} (h : (Lit.int .u8 x).wf = true) : 0 ≤ x ∧ x ≤ 255 := by
  simp [Lit.wf] at h
  have e1 : IntKind.min .u8 = 0 := by decide
  have e2 : IntKind.max .u8 = 255 := by decide
  rw [e1, e2] at h
  exact h
theorem Byt.rd {b : List Int} (h : Byt b) (i : Int) : 0 ≤ rd b i ∧ rd b i ≤ 255 := by
  unfold Go.Proofs.YtmddmbagehjdeaaW.PrintWords.rd
  by_cases hi : i.toNat < b.length
  · exact h _ (getD_mem b _ 0 hi)
  · rw [List.getD_eq_getElem?_getD, List.getElem?_eq_none (by omega)]
    exact ⟨by decide, by decide⟩
def Good (b : List Int) (N : Int) : Prop := 0 ≤ N ∧ N ≤ 131072 ∧ (b.length : Int) = (N + 7) / 8 ∧ (N % 8 = 0 ∨ rd b (N / 8) % 2 ^ (8 - (N % 8).toNat) = 0)
noncomputable instance (b : List Int) (N : Int) : Decidable (Good b N) := Classical.propDecidable _
theorem last_zero (c : Nat) (r : Nat) (hr : r ≤ 8) (h1 : 1 ≤ r) (hc : c ≤ 255) : c * 2 ^ r % 256 = 0 ↔ c % 2 ^ (8 - r) = 0 := by
  rcases eight hr with rfl | rfl | rfl | rfl | rfl | rfl | rfl | rfl | rfl <;> (simp only [Nat.reducePow, Nat.reduceSub] at *; omega)
theorem check_gen (b : List Int) (hb : Byt b) (N : Int) (hN : I64 N) (hl : b.length ≤ maxLen) : (∃ K, ∀ k, K ≤ k → bits_Check.f k b N = some ((if Good b N then 0 else 1))) := by
  unfold maxLen at hl
  unfold I64 at hN
  refine ⟨1, fun k hk => ?_⟩
  obtain ⟨k, rfl⟩ : ∃ m, k = m + 1 := ⟨k - 1, by omega⟩
  unfold bits_Check.f bits_bytes.f
  have bad : ¬ Good b N → ∀ x, (if Good b N then (0 : Int) else 1) = x → x = 1 := fun h x e => by rw [if_neg h] at e; exact e.symm
  by_cases h0 : N < 0
  · rw [if_pos h0, bits_Check.j0, if_pos rfl, if_neg (fun h => by have := h.1; omega)]
  by_cases h1 : N > 131072
  · rw [if_neg h0, if_pos h1, bits_Check.j0, if_pos rfl, if_neg (fun h => by have := h.2.1; omega)]
  have w1 : wrap64 (N + 7) = N + 7 := by rw [w64] <;> omega
  have w2 : wrap64 ((N + 7) / 8) = (N + 7) / 8 := by rw [w64] <;> omega
  rw [if_neg h0, if_neg h1, Option.bind_some, w1, tdiv_nn (by omega), w2]
  clear w1 w2
  by_cases h2 : (b.length : Int) = (N + 7) / 8
  · rw [show ((b.length : Int) != (N + 7) / 8) = false by simp [h2], bits_Check.j0, if_neg (by decide), tmod_nn (by omega)]
    by_cases h3 : N % 8 = 0
    · rw [if_neg (by omega), if_pos ⟨by omega, by omega, h2, .inl h3⟩]
    · have w3 : Aside0 (wrap64 ((b.length : Int) - 1) = N / 8) := ⟨by rw [w64] <;> omega⟩
      obtain ⟨r, hr⟩ := Int.eq_ofNat_of_zero_le (show 0 ≤ N % 8 by omega)
      have hrd := hb.rd (N / 8)
      obtain ⟨c, hc⟩ := Int.eq_ofNat_of_zero_le hrd.1
      have hz := last_zero c r (by omega) (by omega) (by omega)
      have hg : Good b N ↔ c % 2 ^ (8 - r) = 0 := by
        unfold Good
        rw [hc, hr, Int.toNat_natCast]
        constructor
        · rintro ⟨_, _, _, h | h⟩
          · omega
          · exact_mod_cast h
        · intro h
          exact ⟨by omega, by omega, h2, .inr (by exact_mod_cast h)⟩
      rw [if_pos (by omega), w3.out, if_pos (by omega), if_pos (by omega), hr, if_pos (by omega), hc, shl8_nat _ _ (by omega)]
      by_cases h4 : c % 2 ^ (8 - r) = 0
      · rw [if_pos (by have := hz.2 h4; omega), if_pos (hg.2 h4)]
      · rw [if_neg (by intro h; exact h4 (hz.1 (by omega))), if_neg (fun h => h4 (hg.1 h))]
  · rw [show ((b.length : Int) != (N + 7) / 8) = true by simp [h2], bits_Check.j0, if_pos rfl, if_neg (fun h => h2 h.2.2.1)]
theorem may_gen (b : List Int) (hb : Byt b) (N : Int) (hN : I64 N) (hl : b.length ≤ maxLen) : windroseref17_May.f b N = some (decide (Good b N)) := by
  unfold maxLen at hl
  unfold I64 at hN
  unfold windroseref17_May.f
  by_cases h0 : N < 0
  · rw [if_pos h0, decide_eq_false (fun h => by have := h.1; omega)]
  by_cases h1 : N > 131072
  · rw [if_neg h0, if_pos h1, decide_eq_false (fun h => by have := h.2.1; omega)]
  have w1 : wrap64 (N + 7) = N + 7 := by rw [w64] <;> omega
  have w2 : wrap64 ((N + 7) / 8) = (N + 7) / 8 := by rw [w64] <;> omega
  rw [if_neg h0, if_neg h1, w1, tdiv_nn (by omega), w2, tmod_nn (by omega)]
  clear w1 w2
  by_cases h2 : (b.length : Int) = (N + 7) / 8
  · rw [if_pos h2]
    by_cases h3 : N % 8 = 0
    · rw [if_pos h3, decide_eq_true ⟨by omega, by omega, h2, .inl h3⟩]
    · have w3 : Aside0 (wrap64 ((b.length : Int) - 1) = N / 8) := ⟨by rw [w64] <;> omega⟩
      obtain ⟨r, hr⟩ := Int.eq_ofNat_of_zero_le (show 0 ≤ N % 8 by omega)
      have hrd := hb.rd (N / 8)
      obtain ⟨c, hc⟩ := Int.eq_ofNat_of_zero_le hrd.1
      have hr7 : r ≤ 7 ∧ 1 ≤ r := by omega
      have w4 : Aside0 (IntKind.u64.wrap (wrap64 (8 - (r : Int))) = ((8 - r : Nat) : Int)) := ⟨by rw [w64, wrap_u64] <;> omega⟩
      have w5 : Aside0 (wrap64 (c : Int) = (c : Int)) := ⟨by rw [w64] <;> omega⟩
      have w6 : shl .i64 1 ((8 - r : Nat) : Int) = ((2 ^ (8 - r) : Nat) : Int) := by
        rcases eight (show r ≤ 8 by omega) with rfl | rfl | rfl | rfl | rfl | rfl | rfl | rfl | rfl <;> decide +kernel
      have hp := Nat.two_pow_pos (8 - r)
      rw [if_neg h3, w3.out, if_pos (by omega), if_pos (by omega), hr, w4.out, if_pos (Int.natCast_nonneg _), w6, if_neg (by omega), hc, w5.out, tmod_nn (Int.natCast_nonneg _)]
      congr 1
      rw [Bool.eq_iff_iff]
      simp only [beq_iff_eq, decide_eq_true_eq]
      unfold Good
      rw [hc, hr, Int.toNat_natCast]
      constructor
      · intro h
        exact ⟨by omega, by omega, h2, .inr (by exact_mod_cast h)⟩
      · rintro ⟨_, _, _, h | h⟩
        · omega
        · exact_mod_cast h
  · rw [if_neg h2, decide_eq_false (fun h => h2 h.2.2.1)]
def bit (b : List Int) (i : Nat) : Bool := (rd b ((i / 8 : Nat) : Int)).toNat / 2 ^ (7 - i % 8) % 2 == 1
def bitsOf (b : List Int) (n : Nat) : List Bool := (List.range n).map (bit b)
theorem bitsOf_length (b : List Int) (n : Nat) : (bitsOf b n).length = n := by simp [bitsOf]
theorem bitsOf_succ (b : List Int) (n : Nat) : bitsOf b (n + 1) = bitsOf b n ++ [bit b n] := by simp [bitsOf, List.range_succ]
theorem list_loop (b : List Int) (hb : Byt b) (n : Nat) (hn : n ≤ 131072) (hl : n ≤ 8 * b.length) (d : Nat) : ∀ i, i + d = n → (∃ K, ∀ k, K ≤ k → windroseref17_List.l0 k (bitsOf b i) (i : Int) b (n : Int) = some (bitsOf b n)) := by
  induction d with
  | zero =>
    intro i hi
    obtain rfl : i = n := by omega
    refine Ev.succ 0 fun k _ => ?_
    rw [windroseref17_List.l0, if_neg (by omega)]
  | succ d ih =>
    intro i hi
    obtain ⟨K, hK⟩ := ih (i + 1) (by omega)
    have w1 : Aside0 (wrap64 ((i : Int) + 1) = ((i + 1 : Nat) : Int)) := ⟨by rw [w64] <;> omega⟩
    have w2 : Aside0 (wrap64 (Int.tdiv (i : Int) 8) = ((i / 8 : Nat) : Int)) := ⟨by rw [tdiv_nn (Int.natCast_nonneg _), w64] <;> omega⟩
    have w3 : Aside0 (IntKind.u64.wrap (wrap64 (7 - Int.tmod (i : Int) 8)) = ((7 - i % 8 : Nat) : Int)) := ⟨by rw [tmod_nn (Int.natCast_nonneg _), w64, wrap_u64] <;> omega⟩
    have e : (Int.tmod (shr .u8 (rd b ((i / 8 : Nat) : Int)) ((7 - i % 8 : Nat) : Int)) 2 == 1) = bit b i := by
      obtain ⟨c, hc⟩ := Int.eq_ofNat_of_zero_le (hb.rd ((i / 8 : Nat) : Int)).1
      unfold bit
      rw [hc, shr_nat .u8 _ _ (show 7 - i % 8 ≤ 8 from Nat.le_trans (Nat.sub_le _ _) (by decide)), tmod_nn (Int.natCast_nonneg _), Int.toNat_natCast, Bool.eq_iff_iff]
      simp only [beq_iff_eq]
      omega
    have hbl := bitsOf_length b i
    refine Ev.succ K fun k hk => ?_
    rw [windroseref17_List.l0, if_pos (by omega), w2.out, if_pos (by omega), if_pos (by omega), w3.out, if_pos (by omega), if_pos (by rw [hbl]; omega), e, ← bitsOf_succ, w1.out]
    exact hK k hk
theorem List_ev (b : List Int) (hb : Byt b) (n : Nat) (hn : n ≤ 131072) (hl : n ≤ 8 * b.length) : (∃ K, ∀ k, K ≤ k → windroseref17_List.f k b (n : Int) = some (bitsOf b n)) := list_loop b hb n hn hl n 0 (by omega)
theorem top_bits (c m : Nat) (hm : m ≤ 8) : (List.range m).map (fun t => (c / 2 ^ (7 - t) % 2 == 1)) = low (c / 2 ^ (8 - m)) m := by
  rcases eight hm with rfl | rfl | rfl | rfl | rfl | rfl | rfl | rfl | rfl <;> simp [List.range, List.range.loop, low, Nat.div_div_eq_div_mul]
theorem byteOf_top (c m : Nat) (hm : m ≤ 8) (hc : c ≤ 255) (hz : c % 2 ^ (8 - m) = 0) : byteOf (low (c / 2 ^ (8 - m)) m) = c := by
  unfold byteOf
  rw [bv_low, low_length]
  rcases eight hm with rfl | rfl | rfl | rfl | rfl | rfl | rfl | rfl | rfl <;> (simp only [Nat.reducePow, Nat.reduceSub] at *; omega)
theorem range_cut (f : Nat → Bool) (n a m : Nat) (h : a + m ≤ n) (hm : m = min 8 (n - a)) : (((List.range n).map f).drop a).take 8 = (List.range m).map (fun t => f (a + t)) := by
  apply List.ext_getElem?
  intro i
  rw [List.getElem?_take, List.getElem?_drop, List.getElem?_map, List.getElem?_map]
  by_cases h1 : i < m
  · rw [if_pos (by omega), List.getElem?_range (by omega), List.getElem?_range h1]
    rfl
  · rw [List.getElem?_eq_none (l := List.range m) (by simp; omega)]
    split
    · rw [List.getElem?_eq_none (by simp; omega)]; rfl
    · rfl
theorem of_bits (b : List Int) (hb : Byt b) (n : Nat) (hg : Good b (n : Int)) : Of (bitsOf b n) = b := by
  obtain ⟨_, _, h2, h3⟩ := hg
  apply List.ext_getElem?
  intro j
  by_cases hj : j < b.length
  · have hj2 : j < (n + 7) / 8 := by omega
    rw [Of, List.getElem?_map, bitsOf_length, List.getElem?_range hj2, Option.map_some, List.getElem?_eq_getElem hj]
    congr 1
    obtain ⟨m, hm⟩ : ∃ m, m = min 8 (n - 8 * j) := ⟨_, rfl⟩
    have hrd : rd b (j : Int) = b[j] := by simp [rd, List.getElem?_eq_getElem hj]
    obtain ⟨c, hc⟩ := Int.eq_ofNat_of_zero_le (hb.rd (j : Int)).1
    have hc2 := (hb.rd (j : Int)).2
    have e : ((bitsOf b n).drop (8 * j)).take 8 = low (c / 2 ^ (8 - m)) m := by
      unfold bitsOf
      rw [range_cut (bit b) n (8 * j) m (by omega) hm, ← top_bits c m (by omega)]
      apply List.map_congr_left
      intro t ht
      have ht' : t < m := by simpa using ht
      unfold bit
      rw [show (8 * j + t) / 8 = j by omega, show (8 * j + t) % 8 = t by omega, hc, Int.toNat_natCast]
    rw [e, byteOf_top c m (by omega) (by omega), ← hrd, hc]
    by_cases h8 : m = 8
    · rw [h8]; simp [Nat.mod_one]
    · have hm2 : m = n % 8 := by omega
      rcases h3 with h3 | h3
      · omega
      · have hj3 : (n : Int) / 8 = (j : Int) := by omega
        rw [hj3, hc] at h3
        have ht : ((n : Int) % 8).toNat = m := by omega
        rw [ht] at h3
        exact_mod_cast h3
  · rw [List.getElem?_eq_none (by rw [Of_length, bitsOf_length]; omega), List.getElem?_eq_none (by omega)]
end Go.Proofs.Ytmddmbagehjdeaa.Q
end
section
set_option linter.unusedVariables false
namespace Go.Proofs.Ytmddmbagehjdeaa.Q
open Go Go.RowKit Go.Proofs.Ytmddmbagehjdeaa.G Go.Proofs.YtmddmbagehjdeaaW.PrintWords Go.Proofs.YtmddmbagehjdeaaW.PrintLast Go.Proofs.YtmddmbagehjdeaaW.PrintMore
theorem seek_ev (b : List Int) (N at_ n : Int) : bits_Reader_Seek.f b N at_ n = some (if n < 0 ∨ N < n then (1, N, at_) else (0, N, n)) := by
  unfold bits_Reader_Seek.f
  by_cases h0 : n < 0
  · rw [if_pos h0, if_pos (.inl h0)]
  by_cases h1 : n > N
  · rw [if_neg h0, if_pos h1, if_pos (.inr h1)]
  · rw [if_neg h0, if_neg h1, if_neg (by rintro (h | h) <;> omega)]
def Fine (l : List Bool) (x1 : List S42) (i at_ : Nat) : Prop := (∃ K, ∀ k, K ≤ k → windroselaw17_BitsReads.l0 k x1 l (at_ : Int) (i : Int) (Of l) (l.length : Int) (at_ : Int) = some (true))
theorem j5_ev (l : List Bool) (hl : l.length ≤ 131072) (x1 : List S42) (i at_ : Nat) (hi : i ≤ 100) (ha : at_ ≤ l.length) (h : Fine l x1 (i + 1) at_) :
    (∃ K, ∀ k, K ≤ k → windroselaw17_BitsReads.j5 k x1 l (at_ : Int) (i : Int) (Of l) (l.length : Int) (at_ : Int) = some (true)) := by
  obtain ⟨K, hK⟩ := h
  have w1 : Aside0 (wrap64 ((i : Int) + 1) = ((i + 1 : Nat) : Int)) := ⟨by rw [w64] <;> omega⟩
  refine ⟨K + 1, fun k hk => ?_⟩
  obtain ⟨k, rfl⟩ : ∃ m, k = m + 1 := ⟨k - 1, by omega⟩
  rw [windroselaw17_BitsReads.j5]
  unfold bits_Reader_At.f bits_Reader_Left.f
  rw [Option.bind_some]
  simp only
  rw [if_pos trivial, Option.bind_some]
  simp only
  rw [if_pos trivial, w1.out]
  exact hK k (by omega)
theorem step_ev (l : List Bool) (hl : l.length ≤ 131072) (x1 : List S42) (hx : x1.length ≤ maxLen) (hw : ∀ i, I64 (rd_T42 x1 i).f1) (i at_ : Nat) (hi : i < 60) (hil : i < x1.length) (ha : at_ ≤ l.length) (h : ∀ at', at' ≤ l.length → Fine l x1 (i + 1) at') :
    Fine l x1 i at_ := by
  unfold maxLen at hx
  have hn := hw (i : Int)
  obtain ⟨n, hnn⟩ : ∃ n, n = (rd_T42 x1 (i : Int)).f1 := ⟨_, rfl⟩
  rw [← hnn] at hn
  have key : (∃ K, ∀ k, K ≤ k → windroselaw17_BitsReads.j2 k x1 l (at_ : Int) (i : Int) true (Of l) (l.length : Int) (at_ : Int) = some (true)) := by
    by_cases h0 : (rd_T42 x1 (i : Int)).f0 = 0
    · obtain ⟨KT, hT⟩ := Take_ev l (by omega) at_ ha n
      by_cases b1 : n < 0 ∨ 64 < n
      · obtain ⟨K5, h5⟩ := j5_ev l hl x1 i at_ (by omega) ha (h at_ ha)
        have ht : takeR l at_ n = (0, 1, (l.length : Int), (at_ : Int)) := by unfold takeR; rw [if_pos b1]
        rw [ht] at hT
        refine ⟨KT + K5 + 2, fun k hk => ?_⟩
        obtain ⟨k, rfl⟩ : ∃ m, k = m + 2 := ⟨k - 2, by omega⟩
        rw [windroselaw17_BitsReads.j2, if_pos rfl, if_pos (Int.natCast_nonneg _), if_pos (by omega), if_pos h0, ← hnn, hT _ (by omega), Option.bind_some]
        simp only
        have hj : ∀ m, windroselaw17_BitsReads.j3 (k + 1) x1 l (at_ : Int) (i : Int) m 0 1 true (Of l) (l.length : Int) (at_ : Int) = some true := fun m => by
          rw [windroselaw17_BitsReads.j3, if_pos rfl, if_pos rfl, if_pos rfl]
          exact h5 k (by omega)
        by_cases b2 : n < 0
        · rw [if_pos b2]; exact hj n
        · rw [if_neg b2, decide_eq_true (by omega)]; exact hj n
      · have e64 : 0 ≤ n ∧ n ≤ 64 := by omega
        obtain ⟨m, rfl⟩ := Int.eq_ofNat_of_zero_le e64.1
        have w1 : Aside0 (wrap64 ((l.length : Int) - (at_ : Int)) = ((l.length - at_ : Nat) : Int)) := ⟨by rw [w64] <;> omega⟩
        have w2 : Aside0 (wrap64 ((at_ : Int) + (m : Int)) = ((at_ + m : Nat) : Int)) := ⟨by rw [w64] <;> omega⟩
        by_cases b2 : ((l.length - at_ : Nat) : Int) < (m : Int)
        · obtain ⟨K5, h5⟩ := j5_ev l hl x1 i at_ (by omega) ha (h at_ ha)
          have ht : takeR l at_ (m : Int) = (0, 2, (l.length : Int), (at_ : Int)) := by unfold takeR; rw [if_neg b1, if_pos b2]
          rw [ht] at hT
          refine ⟨KT + K5 + 2, fun k hk => ?_⟩
          obtain ⟨k, rfl⟩ : ∃ m, k = m + 2 := ⟨k - 2, by omega⟩
          rw [windroselaw17_BitsReads.j2, if_pos rfl, if_pos (Int.natCast_nonneg _), if_pos (by omega), if_pos h0, ← hnn, hT _ (by omega), Option.bind_some]
          simp only
          rw [if_neg (by omega), decide_eq_false (by omega), windroselaw17_BitsReads.j3, if_neg (by decide), w1.out, if_pos b2, if_pos rfl, if_pos rfl]
          exact h5 k (by omega)
        · obtain ⟨K5, h5⟩ := j5_ev l hl x1 i (at_ + m) (by omega) (by omega) (h (at_ + m) (by omega))
          have ht : takeR l at_ (m : Int) = (((bv ((l.drop at_).take m) : Nat) : Int), 0, (l.length : Int), ((at_ + m : Nat) : Int)) := by unfold takeR; rw [if_neg b1, if_neg b2, Int.toNat_natCast]
          rw [ht] at hT
          have hs : (l.take (((at_ + m : Nat) : Int).toNat)).drop ((at_ : Int).toNat) = (l.drop at_).take m := by
            rw [Int.toNat_natCast, Int.toNat_natCast, List.drop_take]
            congr 1
            omega
          obtain ⟨KV, hV⟩ := Value_ev ((l.drop at_).take m) (by rw [List.length_take]; omega)
          refine ⟨KT + K5 + KV + 2, fun k hk => ?_⟩
          obtain ⟨k, rfl⟩ : ∃ m, k = m + 2 := ⟨k - 2, by omega⟩
          rw [windroselaw17_BitsReads.j2, if_pos rfl, if_pos (Int.natCast_nonneg _), if_pos (by omega), if_pos h0, ← hnn, hT _ (by omega), Option.bind_some]
          simp only
          rw [if_neg (by omega), decide_eq_false (by omega), windroselaw17_BitsReads.j3, if_neg (by decide), w1.out, if_neg b2, if_pos rfl, w2.out, if_pos (Int.natCast_nonneg _), if_pos (by omega), if_pos (by omega), hs, hV k (by omega), Option.bind_some, if_pos rfl]
          exact h5 k (by omega)
    · by_cases h1 : (rd_T42 x1 (i : Int)).f0 = 1
      · obtain ⟨KN, hN⟩ := ReadNum_ev l (by omega) at_ ha
        obtain ⟨KR, hR⟩ := RefNum_ev (l.drop at_) (by rw [List.length_drop]; omega)
        have hdl : (l.drop at_).length = l.length - at_ := List.length_drop
        unfold numR at hN
        unfold numP at hR
        rcases hnb : numb (l.drop at_) with _ | ⟨v, j⟩
        · rw [hnb] at hN hR
          simp only at hN hR
          obtain ⟨K5, h5⟩ := j5_ev l hl x1 i at_ (by omega) ha (h at_ ha)
          have w1 : Aside0 (wrap64 ((at_ : Int) + 0) = (at_ : Int)) := ⟨by rw [w64] <;> omega⟩
          refine ⟨KN + KR + K5 + 1, fun k hk => ?_⟩
          obtain ⟨k, rfl⟩ : ∃ m, k = m + 1 := ⟨k - 1, by omega⟩
          rw [windroselaw17_BitsReads.j2, if_pos rfl, if_pos (Int.natCast_nonneg _), if_pos (by omega), if_neg h0, if_pos h1, hN _ (by omega), Option.bind_some, if_pos (Int.natCast_nonneg _), if_pos (by omega), Int.toNat_natCast, hR _ (by omega), Option.bind_some]
          simp only
          rw [if_pos trivial, if_neg (by decide), if_pos trivial, if_pos trivial, w1.out]
          exact h5 k (by omega)
        · rw [hnb] at hN hR
          simp only at hN hR
          have hj := numb_pos _ v j hnb
          obtain ⟨K5, h5⟩ := j5_ev l hl x1 i (at_ + j) (by omega) (by omega) (h (at_ + j) (by omega))
          have w1 : Aside0 (wrap64 ((at_ : Int) + (j : Int)) = ((at_ + j : Nat) : Int)) := ⟨by rw [w64] <;> omega⟩
          refine ⟨KN + KR + K5 + 1, fun k hk => ?_⟩
          obtain ⟨k, rfl⟩ : ∃ m, k = m + 1 := ⟨k - 1, by omega⟩
          rw [windroselaw17_BitsReads.j2, if_pos rfl, if_pos (Int.natCast_nonneg _), if_pos (by omega), if_neg h0, if_pos h1, hN _ (by omega), Option.bind_some, if_pos (Int.natCast_nonneg _), if_pos (by omega), Int.toNat_natCast, hR _ (by omega), Option.bind_some]
          simp only
          rw [if_pos trivial, decide_eq_true (by omega), if_neg (by decide), if_neg (by omega), w1.out]
          exact h5 k (by omega)
      · have hsk := seek_ev (Of l) (l.length : Int) (at_ : Int) n
        by_cases b1 : n < 0 ∨ (l.length : Int) < n
        · rw [if_pos b1] at hsk
          obtain ⟨K5, h5⟩ := j5_ev l hl x1 i at_ (by omega) ha (h at_ ha)
          refine ⟨K5 + 2, fun k hk => ?_⟩
          obtain ⟨k, rfl⟩ : ∃ m, k = m + 2 := ⟨k - 2, by omega⟩
          rw [windroselaw17_BitsReads.j2, if_pos rfl, if_pos (Int.natCast_nonneg _), if_pos (by omega), if_neg h0, if_neg h1, ← hnn, hsk, Option.bind_some]
          simp only
          have hj : ∀ m, windroselaw17_BitsReads.j4 (k + 1) x1 l (at_ : Int) (i : Int) m 1 true (Of l) (l.length : Int) (at_ : Int) = some true := fun m => by
            rw [windroselaw17_BitsReads.j4, if_pos rfl, if_pos rfl]
            exact h5 k (by omega)
          by_cases b2 : n < 0
          · rw [if_pos b2]; exact hj n
          · rw [if_neg b2, decide_eq_true (by omega)]; exact hj n
        · rw [if_neg b1] at hsk
          obtain ⟨m, rfl⟩ := Int.eq_ofNat_of_zero_le (show 0 ≤ n by omega)
          obtain ⟨K5, h5⟩ := j5_ev l hl x1 i m (by omega) (by omega) (h m (by omega))
          refine ⟨K5 + 2, fun k hk => ?_⟩
          obtain ⟨k, rfl⟩ : ∃ m, k = m + 2 := ⟨k - 2, by omega⟩
          rw [windroselaw17_BitsReads.j2, if_pos rfl, if_pos (Int.natCast_nonneg _), if_pos (by omega), if_neg h0, if_neg h1, ← hnn, hsk, Option.bind_some]
          simp only
          rw [if_neg (by omega), decide_eq_false (by omega), windroselaw17_BitsReads.j4, if_neg (by decide), if_pos rfl]
          exact h5 k (by omega)
  obtain ⟨K, hK⟩ := key
  refine ⟨K + 1, fun k hk => ?_⟩
  obtain ⟨k, rfl⟩ : ∃ m, k = m + 1 := ⟨k - 1, by omega⟩
  rw [windroselaw17_BitsReads.l0, if_pos (by omega), decide_eq_true (by omega)]
  exact hK k (by omega)
theorem steps_ev (l : List Bool) (hl : l.length ≤ 131072) (x1 : List S42) (hx : x1.length ≤ maxLen) (hw : ∀ i, I64 (rd_T42 x1 i).f1) (d : Nat) : ∀ i at_, i + d = min x1.length 60 → at_ ≤ l.length → Fine l x1 i at_ := by
  induction d with
  | zero =>
    intro i at_ hi ha
    obtain ⟨KA, hA⟩ := awake17_ev
    refine ⟨KA + 2, fun k hk => ?_⟩
    obtain ⟨k, rfl⟩ : ∃ m, k = m + 2 := ⟨k - 2, by omega⟩
    have hj : windroselaw17_BitsReads.j2 (k + 1) x1 l (at_ : Int) (i : Int) false (Of l) (l.length : Int) (at_ : Int) = some true := by
      rw [windroselaw17_BitsReads.j2, if_neg (by decide), hA _ (by omega), Option.bind_some]
    rw [windroselaw17_BitsReads.l0]
    by_cases h1 : (i : Int) < (x1.length : Int)
    · rw [if_pos h1, decide_eq_false (by omega)]; exact hj
    · rw [if_neg h1]; exact hj
  | succ d ih =>
    intro i at_ hi ha
    exact step_ev l hl x1 hx hw i at_ (by omega) (by omega) ha (fun at' ha' => ih (i + 1) at' (by omega) ha')
theorem BitsReads : ∀ (l0_0 : List Int) (a0_1 : Int) (l1 : List (S42)), (l0_0.length ≤ maxLen ∧ ∀ y4 ∈ l0_0, (Lit.int .u8 y4).wf = true) ∧ (Lit.int .i64 a0_1).wf = true → (l1.length ≤ maxLen ∧ ∀ y2 ∈ l1, ok42 y2) → ∃ k, windroselaw17_BitsReads.f k l0_0 a0_1 l1 = some true := by
  rintro b N x1 ⟨⟨hbl, hb⟩, hN⟩ ⟨hx, hok⟩
  have hB : Byt b := fun x hx => wf_u8 (hb x hx)
  have hN' : I64 N := wf_i64 hN
  have hw : ∀ i, I64 (rd_T42 x1 i).f1 := fun i => by
    unfold rd_T42
    by_cases hi : i.toNat < x1.length
    · exact wf_i64 (hok _ (getD_mem x1 _ _ hi)).2
    · rw [List.getD_eq_getElem?_getD, List.getElem?_eq_none (by omega)]
      exact ⟨by decide, by decide⟩
  obtain ⟨KA, hA⟩ := awake17_ev
  by_cases hlight : (b.length : Int) ≤ 300 ∧ N ≤ 2400 ∧ N ≥ -10
  · have hlt : windroselaw17_light.f b N = some true := by
      unfold windroselaw17_light.f
      rw [if_pos hlight.1, if_pos hlight.2.1, decide_eq_true hlight.2.2]
    have hmay := may_gen b hB N hN' hbl
    by_cases hg : Good b N
    · obtain ⟨n, rfl⟩ := Int.eq_ofNat_of_zero_le hg.1
      have h8 : n ≤ 8 * b.length := by have := hg.2.2.1; omega
      have hn : n ≤ 131072 := by have := hg.2.1; omega
      have hof := of_bits b hB n hg
      have hlen := bitsOf_length b n
      obtain ⟨KL, hL⟩ := List_ev b hB n hn h8
      obtain ⟨KR, hR⟩ := Read_ev (bitsOf b n) (by omega)
      rw [hof, hlen] at hR
      obtain ⟨KS, hS⟩ := steps_ev (bitsOf b n) (by omega) x1 hx hw (min x1.length 60) 0 0 (by omega) (Nat.zero_le _)
      rw [hof, hlen] at hS
      rw [decide_eq_true hg] at hmay
      refine ⟨KL + KR + KS + 1, ?_⟩
      unfold windroselaw17_BitsReads.f
      rw [hlt, Option.bind_some, if_pos rfl, hR _ (by omega), Option.bind_some, hmay, Option.bind_some, if_pos rfl, hL _ (by omega), Option.bind_some]
      rw [windroselaw17_BitsReads.j0]
      exact hS _ (by omega)
    · obtain ⟨KC, hC⟩ := check_gen b hB N hN' hbl
      rw [if_neg hg] at hC
      rw [decide_eq_false hg] at hmay
      obtain ⟨KS, hS⟩ := steps_ev [] (by simp) x1 hx hw (min x1.length 60) 0 0 (by omega) (Nat.zero_le _)
      have hO : Of [] = [] := rfl
      rw [hO] at hS
      have hR : ∀ k, KC ≤ k → bits_Read.f k b N = some ([], 0, 0) := fun k hk => by
        unfold bits_Read.f
        rw [hC k hk, Option.bind_some, if_neg (by decide)]
      refine ⟨KC + KS + 1, ?_⟩
      unfold windroselaw17_BitsReads.f
      rw [hlt, Option.bind_some, if_pos rfl, hR _ (by omega), Option.bind_some, hmay, Option.bind_some, if_neg (by decide)]
      rw [windroselaw17_BitsReads.j0]
      exact hS _ (by omega)
  · have hlt : windroselaw17_light.f b N = some false := by
      unfold windroselaw17_light.f
      by_cases g1 : (b.length : Int) ≤ 300
      · by_cases g2 : N ≤ 2400
        · rw [if_pos g1, if_pos g2, decide_eq_false (fun g3 => hlight ⟨g1, g2, g3⟩)]
        · rw [if_pos g1, if_neg g2]
      · rw [if_neg g1]
    refine ⟨KA, ?_⟩
    unfold windroselaw17_BitsReads.f
    rw [hlt, Option.bind_some, if_neg (by decide), hA _ (by omega), Option.bind_some]
end Go.Proofs.Ytmddmbagehjdeaa.Q
end
