/- Ytmddmbagehjdeaa: lines of the words and functions that the row BitsRows rests on, and the row. No condition. -/
import Derived.Test.YtmddmbagehjdeaaZBitsRows6
import Derived.Deep.Slices
import Derived.OpenShut
import Derived.ProofKit
section
set_option linter.unusedVariables false
set_option linter.unusedSimpArgs false
namespace Go.Proofs.YtmddmbagehjdeaaX
open Go Go.RowKit Go.Proofs.YtmddmbagehjdeaaW.PrintWords Go.ChangeShapes Go.WideShapes
def Rd (P : Program) (t : TypeId) {α : Type} (d : Kd α) (ok : α → Prop) : Prop :=
  ∀ {H : Type} (enc : TypeId × Value → H) (W : World) (base : Nat) (spare : Nat → Bool) (held : Bool) (fuel : Nat) (cs : List Value) (x : DataW H × List MemPlace),
    DataW.trod enc P W base spare held fuel t cs = some x → ∃ a, d.K W a cs ∧ ok a
def RdFs (P : Program) (L : List (TypeId × Nat)) (o e : Nat) {α : Type} (d : Kd α) (ok : α → Prop) : Prop :=
  ∀ {H : Type} (enc : TypeId × Value → H) (W : World) (base : Nat) (spare : Nat → Bool) (held : Bool) (fuel : Nat) (cs : List Value), cs.length = e →
    (∀ (i : Nat) (p : TypeId × Nat), L[i]? = some p → ∃ y, DataW.trod enc P W base spare held fuel p.1 ((cs.drop p.2).take (P.cellsOf p.1)) = some y) → ∃ a, d.K W a (cs.drop o) ∧ ok a
section
variable {P : Program} {t e : TypeId}
theorem Rd.int {k : IntKind} (ht : P.underlying t = some (.int k)) : Rd P t (Kd.int k) (fun n => (Lit.int k n).wf = true) := by
  intro H enc W base spare held fuel cs x h
  obtain ⟨n, rfl, _, hn⟩ := DataW.trod_int ht h
  exact ⟨n, rfl, hn⟩
theorem Rd.bool (ht : P.underlying t = some .bool) : Rd P t Kd.bool (fun _ => True) := by
  intro H enc W base spare held fuel cs x h
  obtain ⟨b, rfl, _⟩ := DataW.trod_bool ht h
  exact ⟨b, rfl, trivial⟩
theorem cells_get {w : World} {base : Nat} {a : Addr} {n : Nat} {cs : List Value} (h : w.cells? base a n = some cs) : ∀ i u, cs[i]? = some u → w.cell? (a.add i) = some u := by
  intro i u hi
  obtain ⟨_, hl, hc⟩ := World.cells?_some h
  have hlt : i < cs.length := (List.getElem?_eq_some_iff.1 hi).1
  have := hc i (by omega)
  rw [hi] at this
  exact this
theorem Rd.slice {α : Type} {d : Kd α} {ok : α → Prop} (ht : P.underlying t = some (.slice e)) (he : P.cellsOf e = d.sz) (hd : Rd P e d ok) :
    Rd P t (Kd.slice e d) (fun l => l.length ≤ maxLen ∧ ∀ x ∈ l, ok x) := by
  intro H enc W base spare held fuel cs x h
  rcases Deep.open_slice ht h with ⟨rfl, _⟩ | ⟨a, len, cap, m, n, D, Pl, rfl, hb, hl, hm, hmm, rfl, hx⟩
  · exact ⟨[], ⟨none, 0, rfl, Nat.le_refl _, rfl, by simp, fun h0 => absurd h0 (Nat.lt_irrefl _)⟩, by simp [maxLen], fun x hx => by cases hx⟩
  · have hlm : len ≤ m := by rw [hmm]; split <;> omega
    have hall : ∀ i, i < len → ∃ y : α, (∃ c, W.cells? base (a.add (i * P.cellsOf e)) (P.cellsOf e) = some c ∧ d.K W y c) ∧ ok y := by
      intro i hi
      obtain ⟨c, h1, h2⟩ := hx i (by omega)
      obtain ⟨y, h3, h4⟩ := hd enc W base spare held n c _ h2
      exact ⟨y, ⟨c, h1, h3⟩, h4⟩
    have hlist : ∃ l : List α, l.length = len ∧ ∀ i y, l[i]? = some y → (∃ c, W.cells? base (a.add (i * P.cellsOf e)) (P.cellsOf e) = some c ∧ d.K W y c) ∧ ok y := by
      have key : ∀ k, k ≤ len → ∃ l : List α, l.length = k ∧ ∀ i y, l[i]? = some y → (∃ c, W.cells? base (a.add (i * P.cellsOf e)) (P.cellsOf e) = some c ∧ d.K W y c) ∧ ok y := by
        intro k
        induction k with
        | zero => exact fun _ => ⟨[], rfl, fun i y hy => by simp at hy⟩
        | succ k ih =>
          intro hk
          obtain ⟨l, hl1, hl2⟩ := ih (by omega)
          obtain ⟨y, hy⟩ := hall k (by omega)
          refine ⟨l ++ [y], by simp [hl1], fun i z hz => ?_⟩
          rcases Nat.lt_or_ge i l.length with hi | hi
          · rw [List.getElem?_append_left hi] at hz
            exact hl2 i z hz
          · rw [List.getElem?_append_right hi] at hz
            have h0 : i - l.length = 0 := by
              have := (List.getElem?_eq_some_iff.1 hz).1
              simp at this
              omega
            rw [h0] at hz
            simp at hz
            subst hz
            have : i = k := by omega
            subst this
            exact hy
      exact key len (Nat.le_refl _)
    obtain ⟨l, hl1, hl2⟩ := hlist
    refine ⟨l, ⟨some a, cap, by rw [hl1], by omega, rfl, by rw [hl1]; simp only [maxLen] at hm; omega, fun _ => ⟨a, rfl, fun j p hp => ?_⟩⟩, by omega, fun y hy => ?_⟩
    · obtain ⟨⟨c, h1, h2⟩, _⟩ := hl2 j p hp
      refine ⟨c, d.K_len h2, h2, fun i u hu => ?_⟩
      have := cells_get h1 i u hu
      rw [Deep.add_add, he] at this
      exact this
    · obtain ⟨i, hi, rfl⟩ := List.getElem_of_mem hy
      exact (hl2 i _ (List.getElem?_eq_getElem hi)).2
theorem RdFs.cons {t o e' : Nat} {L : List (TypeId × Nat)} {α β : Type} {d : Kd α} {d' : Kd β} {ok : α → Prop} {ok' : β → Prop} (h : Rd P t d ok) (hs : RdFs P L (o + P.cellsOf t) e' d' ok') :
    RdFs P ((t, o) :: L) o e' (Kd.pair d d') (fun x => ok x.1 ∧ ok' x.2) := by
  intro H enc W base spare held fuel cs hl hi
  obtain ⟨y, hy⟩ := hi 0 _ rfl
  obtain ⟨a, ha, hk⟩ := h enc W base spare held fuel _ _ hy
  obtain ⟨b, hb, hk'⟩ := hs enc W base spare held fuel cs hl (fun i p hp => hi (i + 1) p (by simpa using hp))
  refine ⟨(a, b), ⟨_, _, ?_, ha, hb⟩, hk, hk'⟩
  rw [← List.drop_drop]
  exact (List.take_append_drop _ _).symm
theorem Rd.struct {α β : Type} {d : Kd α} {ok : α → Prop} {fs : Array Field} (f : β → α) (g : α → β) (hg : ∀ a, f (g a) = a) (ht : P.underlying t = some (.struct fs))
    (h : RdFs P (fs.toList.map fun f => (f.type, f.offset)) 0 (P.cellsOf t) d ok) : Rd P t (Kd.iso d f) (fun x => ok (f x)) := by
  intro H enc W base spare held fuel cs x hx
  obtain ⟨xs, n, rfl, _, hl, hn, hi⟩ := DataW.trod_struct ht hx
  obtain ⟨a, ha, hk⟩ := h enc W base spare held n cs hl (fun i p hp => by
    rw [List.getElem?_map] at hp
    obtain ⟨f', hf', rfl⟩ := Option.map_eq_some_iff.1 hp
    have h1 := hi i f' (by simpa using hf')
    have hlt : i < xs.length := by
      have := (List.getElem?_eq_some_iff.1 hf').1
      simp at this
      omega
    rw [List.getElem?_eq_getElem hlt] at h1
    exact ⟨_, h1⟩)
  refine ⟨g a, ?_, by show ok (f (g a)); rw [hg]; exact hk⟩
  show d.K W (f (g a)) cs
  rw [hg]
  simpa using ha
theorem Rd.array {α β : Type} {d : Kd α} {ok : α → Prop} {n : Nat} (f : β → α) (g : α → β) (hg : ∀ a, f (g a) = a) (ht : P.underlying t = some (.array n e))
    (h : RdFs P ((List.range n).map fun i => (e, i * P.cellsOf e)) 0 (P.cellsOf t) d ok) : Rd P t (Kd.iso d f) (fun x => ok (f x)) := by
  intro H enc W base spare held fuel cs x hx
  obtain ⟨xs, m, rfl, _, hl, hn, hi⟩ := DataW.trod_array ht hx
  obtain ⟨a, ha, hk⟩ := h enc W base spare held m cs hl (fun i p hp => by
    rw [List.getElem?_map] at hp
    obtain ⟨j, hj, rfl⟩ := Option.map_eq_some_iff.1 hp
    obtain ⟨hlt, hj⟩ := List.getElem?_eq_some_iff.1 hj
    simp at hj hlt
    subst hj
    have h1 := hi i hlt
    rw [List.getElem?_eq_getElem (by omega)] at h1
    exact ⟨_, h1⟩)
  refine ⟨g a, ?_, by show ok (f (g a)); rw [hg]; exact hk⟩
  show d.K W (f (g a)) cs
  rw [hg]
  simpa using ha
end
end Go.Proofs.YtmddmbagehjdeaaX
end
section
set_option linter.unusedVariables false
namespace Go.Proofs.Ytmddmbagehjdeaa.Q
open Go Go.RowKit Go.Proofs.YtmddmbagehjdeaaW.PrintWords
theorem w64 {x : Int} (h : -9223372036854775808 ≤ x) (h' : x ≤ 9223372036854775807) : wrap64 x = x := by unfold wrap64; omega
theorem Ev.succ {α : Type} {g : Nat → Option α} {r : α} (K : Nat) (h : ∀ k, K ≤ k → g (k + 1) = some r) : Ev g r := by
  refine ⟨K + 1, fun k hk => ?_⟩
  obtain ⟨m, rfl⟩ : ∃ m, k = m + 1 := ⟨k - 1, by omega⟩
  exact h m (by omega)
theorem Ev.mk {α : Type} {g : Nat → Option α} {r : α} (K : Nat) (h : ∀ k, K ≤ k → g k = some r) : Ev g r := ⟨K, h⟩
theorem wf_i64 {x : Int} (h : (Lit.int .i64 x).wf = true) : -9223372036854775808 ≤ x ∧ x ≤ 9223372036854775807 := by
  simp [Lit.wf] at h
  have e1 : IntKind.min .i64 = -9223372036854775808 := by decide
  rw [e1] at h
  exact h
theorem getD_mem {α : Type} (l : List α) (i : Nat) (d : α) (h : i < l.length) : l.getD i d ∈ l := by
  rw [List.getD_eq_getElem?_getD, List.getElem?_eq_getElem h]
  exact List.getElem_mem h
theorem tmod_nn {a b : Int} (h : 0 ≤ a) : Int.tmod a b = a % b := Int.tmod_eq_emod_of_nonneg h
theorem tdiv_nn {a b : Int} (h : 0 ≤ a) : Int.tdiv a b = a / b := Int.tdiv_eq_ediv_of_nonneg h
end Go.Proofs.Ytmddmbagehjdeaa.Q
end
section
set_option linter.unusedVariables false
namespace Go.Proofs.Ytmddmbagehjdeaa.Q
open Go Go.RowKit Go.Proofs.YtmddmbagehjdeaaW.PrintWords Go.Proofs.YtmddmbagehjdeaaW.PrintMore
def bv : List Bool → Nat
  | [] => 0
  | b :: l => b.toNat * 2 ^ l.length + bv l
theorem bv_append : ∀ a b : List Bool, bv (a ++ b) = bv a * 2 ^ b.length + bv b
  | [], b => by simp [bv]
  | x :: a, b => by
    rw [List.cons_append, bv, bv, bv_append a b, List.length_append, Nat.pow_add, Nat.add_mul, Nat.mul_assoc, Nat.add_assoc]
theorem bv_lt : ∀ a : List Bool, bv a < 2 ^ a.length
  | [] => by simp [bv]
  | x :: a => by
    have h := bv_lt a
    have hx : x.toNat ≤ 1 := by cases x <;> decide
    have : x.toNat * 2 ^ a.length ≤ 1 * 2 ^ a.length := Nat.mul_le_mul_right _ hx
    rw [bv, List.length_cons, Nat.pow_succ]
    omega
def low (u : Nat) : Nat → List Bool
  | 0 => []
  | n + 1 => (u / 2 ^ n % 2 == 1) :: low u n
theorem low_length (u : Nat) : ∀ n, (low u n).length = n
  | 0 => rfl
  | n + 1 => by rw [low, List.length_cons, low_length u n]
theorem bv_low (u : Nat) : ∀ n, bv (low u n) = u % 2 ^ n
  | 0 => by simp [low, bv, Nat.mod_one]
  | n + 1 => by
    rw [low, bv, low_length, bv_low u n, Nat.pow_succ]
    have e : (u / 2 ^ n % 2 == 1).toNat = u / 2 ^ n % 2 := by
      rcases Nat.mod_two_eq_zero_or_one (u / 2 ^ n) with h | h <;> rw [h] <;> rfl
    rw [e, Nat.mod_mul]
    rw [Nat.mul_comm, Nat.add_comm]
theorem low_bit (a b n : Nat) (h : b < 2 ^ n) : ∀ m, m ≤ n → low (a * 2 ^ n + b) m = low b m
  | 0, _ => rfl
  | m + 1, hm => by
    rw [low, low, low_bit a b n h m (by omega)]
    have e : 2 ^ n = 2 ^ m * (2 * 2 ^ (n - m - 1)) := by rw [← Nat.pow_succ', ← Nat.pow_add]; congr 1; omega
    have h1 : (a * 2 ^ n + b) / 2 ^ m % 2 = b / 2 ^ m % 2 := by
      rw [e, show a * (2 ^ m * (2 * 2 ^ (n - m - 1))) = 2 ^ m * (a * 2 ^ (n - m - 1) * 2) by
        rw [Nat.mul_comm 2 (2 ^ (n - m - 1)), ← Nat.mul_assoc, ← Nat.mul_assoc, Nat.mul_comm a (2 ^ m), Nat.mul_assoc (2 ^ m) a, Nat.mul_assoc (2 ^ m)]]
      rw [Nat.mul_add_div (Nat.two_pow_pos m)]
      omega
    rw [h1]
theorem low_bv : ∀ l : List Bool, low (bv l) l.length = l
  | [] => rfl
  | x :: l => by
    have hb := bv_lt l
    rw [List.length_cons, low, bv, low_bit _ _ _ hb _ (Nat.le_refl _), low_bv l]
    congr 1
    rw [Nat.mul_comm, Nat.mul_add_div (Nat.two_pow_pos _), Nat.div_eq_of_lt hb]
    cases x <;> rfl
theorem low_split (u m : Nat) : ∀ n, low u (n + m) = low (u / 2 ^ m) n ++ low u m
  | 0 => by simp [low]
  | n + 1 => by
    rw [show n + 1 + m = (n + m) + 1 by omega, low, low, low_split u m n, List.cons_append]
    congr 2
    rw [Nat.div_div_eq_div_mul, ← Nat.pow_add, Nat.add_comm m n]
def byteOf (m : List Bool) : Nat := bv m * 2 ^ (8 - m.length)
def Of (l : List Bool) : List Int := (List.range ((l.length + 7) / 8)).map fun j => (byteOf ((l.drop (8 * j)).take 8) : Int)
theorem Of_length (l : List Bool) : (Of l).length = (l.length + 7) / 8 := by simp [Of]
theorem Of_getD (l : List Bool) (j : Nat) : (Of l).getD j 0 = (byteOf ((l.drop (8 * j)).take 8) : Int) := by
  rw [List.getD_eq_getElem?_getD]
  by_cases h : j < (l.length + 7) / 8
  · rw [Of, List.getElem?_map, List.getElem?_range h]
    rfl
  · rw [List.getElem?_eq_none (by rw [Of_length]; omega), List.drop_of_length_le (by omega)]
    rfl
theorem rd_Of (l : List Bool) (j : Nat) : rd (Of l) (j : Int) = (byteOf ((l.drop (8 * j)).take 8) : Int) := by
  unfold rd
  rw [Int.toNat_natCast, Of_getD]
theorem byteOf_lt (m : List Bool) (h : m.length ≤ 8) : byteOf m < 256 := by
  have hb := bv_lt m
  unfold byteOf
  have e : 256 = 2 ^ m.length * 2 ^ (8 - m.length) := by rw [← Nat.pow_add, show m.length + (8 - m.length) = 8 by omega]
  rw [e]
  exact (Nat.mul_lt_mul_right (Nat.two_pow_pos _)).2 hb
theorem eight {x : Nat} (h : x ≤ 8) : x = 0 ∨ x = 1 ∨ x = 2 ∨ x = 3 ∨ x = 4 ∨ x = 5 ∨ x = 6 ∨ x = 7 ∨ x = 8 := by omega
theorem byte_piece (p q r : List Bool) (h : p.length + q.length + r.length ≤ 8) (hq : 1 ≤ q.length) :
    (byteOf (p ++ q ++ r) * 2 ^ p.length % 256) / 2 ^ (8 - q.length) = bv q := by
  have hb := bv_lt q
  have hc : bv r * 2 ^ (8 - (p.length + q.length + r.length)) < 2 ^ (8 - p.length - q.length) := by
    have e : 2 ^ (8 - p.length - q.length) = 2 ^ r.length * 2 ^ (8 - (p.length + q.length + r.length)) := by rw [← Nat.pow_add]; congr 1; omega
    rw [e]
    exact (Nat.mul_lt_mul_right (Nat.two_pow_pos _)).2 (bv_lt r)
  have hbyte : byteOf (p ++ q ++ r) = bv p * 2 ^ (8 - p.length) + bv q * 2 ^ (8 - p.length - q.length) + bv r * 2 ^ (8 - (p.length + q.length + r.length)) := by
    unfold byteOf
    rw [bv_append, bv_append, List.length_append, List.length_append, Nat.add_mul, Nat.add_mul, Nat.add_mul]
    congr 2
    · rw [Nat.mul_assoc, Nat.mul_assoc, ← Nat.pow_add, ← Nat.pow_add]; congr 2; omega
    · rw [Nat.mul_assoc, ← Nat.pow_add]; congr 2; omega
  rw [hbyte]
  generalize bv p = a at *
  generalize bv q = b at *
  generalize bv r * 2 ^ (8 - (p.length + q.length + r.length)) = c at *
  generalize p.length = i at *
  generalize q.length = k at *
  have hik : i + k ≤ 8 := by omega
  clear hbyte h
  rcases eight (show i ≤ 8 by omega) with rfl | rfl | rfl | rfl | rfl | rfl | rfl | rfl | rfl <;>
  rcases eight (show k ≤ 8 by omega) with rfl | rfl | rfl | rfl | rfl | rfl | rfl | rfl | rfl <;>
  first
    | (exfalso; omega)
    | (simp only [Nat.reducePow, Nat.reduceSub] at *; omega)
theorem get_piece (l : List Bool) (at_ k : Nat) (hk : 1 ≤ k) (hin : at_ % 8 + k ≤ 8) (h : at_ + k ≤ l.length) :
    (byteOf ((l.drop (8 * (at_ / 8))).take 8) * 2 ^ (at_ % 8) % 256) / 2 ^ (8 - k) = bv ((l.drop at_).take k) := by
  have e : (l.drop (8 * (at_ / 8))).take 8 = ((l.drop (8 * (at_ / 8))).take (at_ % 8)) ++ ((l.drop at_).take k) ++ ((l.drop (at_ + k)).take (8 - at_ % 8 - k)) := by
    have e1 : l.drop at_ = (l.drop (8 * (at_ / 8))).drop (at_ % 8) := by rw [List.drop_drop]; congr 1; omega
    have e2 : l.drop (at_ + k) = (l.drop (8 * (at_ / 8))).drop (at_ % 8 + k) := by rw [List.drop_drop]; congr 1; omega
    rw [e1, e2]
    generalize l.drop (8 * (at_ / 8)) = m
    rw [List.append_assoc, ← List.drop_drop, ← List.take_add, ← List.take_add]
    congr 1
    omega
  have l1 : ((l.drop (8 * (at_ / 8))).take (at_ % 8)).length = at_ % 8 := by rw [List.length_take, List.length_drop]; omega
  have l2 : ((l.drop at_).take k).length = k := by rw [List.length_take, List.length_drop]; omega
  have l3 : ((l.drop (at_ + k)).take (8 - at_ % 8 - k)).length ≤ 8 - at_ % 8 - k := by rw [List.length_take]; omega
  have := byte_piece ((l.drop (8 * (at_ / 8))).take (at_ % 8)) ((l.drop at_).take k) ((l.drop (at_ + k)).take (8 - at_ % 8 - k)) (by omega) (by omega)
  rw [← e, l1, l2] at this
  exact this
theorem Of_more (l p : List Bool) (h0 : l.length % 8 ≠ 0) (h : l.length % 8 + p.length ≤ 8) :
    Of (l ++ p) = (Of l).set ((Of l).length - 1) ((byteOf ((l.drop (8 * (l.length / 8))).take 8) : Int) + bv p * 2 ^ (8 - l.length % 8 - p.length)) := by
  apply List.ext_getElem?
  intro j
  rw [List.getElem?_set, Of_length]
  by_cases hj : j < (l.length + 7) / 8
  · rw [Of, List.getElem?_map, List.getElem?_range (by rw [List.length_append]; omega), Option.map_some]
    split
    · rename_i e
      rw [if_pos (by omega)]
      have ej : j = l.length / 8 := by omega
      subst ej
      have hl : (l.drop (8 * (l.length / 8))).length = l.length % 8 := by rw [List.length_drop]; omega
      have t1 : (l.drop (8 * (l.length / 8))).take 8 = l.drop (8 * (l.length / 8)) := List.take_of_length_le (by omega)
      rw [List.drop_append_of_le_length (by omega), List.take_of_length_le (by rw [List.length_append]; omega), t1]
      unfold byteOf
      rw [bv_append, List.length_append, hl, Nat.add_mul, Nat.mul_assoc, ← Nat.pow_add, show p.length + (8 - (l.length % 8 + p.length)) = 8 - l.length % 8 by omega, show 8 - (l.length % 8 + p.length) = 8 - l.length % 8 - p.length by omega]
      simp
    · rename_i e
      rw [Of, List.getElem?_map, List.getElem?_range hj, Option.map_some]
      rw [List.drop_append_of_le_length (by omega), List.take_append_of_le_length (by rw [List.length_drop]; omega)]
  · rw [List.getElem?_eq_none (by rw [Of_length, List.length_append]; omega), if_neg (by omega), List.getElem?_eq_none (by rw [Of_length]; omega)]
theorem Of_new (l p : List Bool) (h0 : l.length % 8 = 0) (h : p.length ≤ 8) (hp : 1 ≤ p.length) : Of (l ++ p) = Of l ++ [(byteOf p : Int)] := by
  apply List.ext_getElem?
  intro j
  by_cases hj : j < (l.length + 7) / 8
  · rw [List.getElem?_append_left (by rw [Of_length]; exact hj), Of, Of, List.getElem?_map, List.getElem?_range (by rw [List.length_append]; omega), List.getElem?_map, List.getElem?_range hj, Option.map_some, Option.map_some]
    rw [List.drop_append_of_le_length (by omega), List.take_append_of_le_length (by rw [List.length_drop]; omega)]
  · rw [List.getElem?_append_right (by rw [Of_length]; omega), Of_length]
    by_cases hj2 : j = l.length / 8
    · subst hj2
      rw [Of, List.getElem?_map, List.getElem?_range (by rw [List.length_append]; omega), Option.map_some, show l.length / 8 - (l.length + 7) / 8 = 0 by omega]
      rw [show 8 * (l.length / 8) = l.length by omega, List.drop_left, List.take_of_length_le h]
      rfl
    · rw [List.getElem?_eq_none (by rw [Of_length, List.length_append]; omega), List.getElem?_eq_none (by rw [List.length_singleton]; omega)]
theorem byteOf_last (l : List Bool) (h0 : l.length % 8 ≠ 0) : byteOf ((l.drop (8 * (l.length / 8))).take 8) % 2 ^ (8 - l.length % 8) = 0 := by
  have hl : (l.drop (8 * (l.length / 8))).length = l.length % 8 := by rw [List.length_drop]; omega
  rw [List.take_of_length_le (by omega)]
  unfold byteOf
  rw [hl]
  exact Nat.mul_mod_left _ _
end Go.Proofs.Ytmddmbagehjdeaa.Q
end
section
set_option linter.unusedVariables false
namespace Go.Proofs.Ytmddmbagehjdeaa.Q
open Go Go.RowKit Go.Proofs.Ytmddmbagehjdeaa.G Go.Proofs.YtmddmbagehjdeaaW.PrintWords Go.Proofs.YtmddmbagehjdeaaW.PrintLast Go.Proofs.YtmddmbagehjdeaaW.PrintMore
theorem u8bits : IntKind.bits .u8 = 8 := rfl
theorem u64bits : IntKind.bits .u64 = 64 := rfl
theorem wraps_u64 (n : Int) (h0 : 0 ≤ n) (h1 : n < 2 ^ 64) : IntKind.u64.wrap n = n := by
  simp [IntKind.wrap, IntKind.bits, IntKind.signed]
  omega
theorem mn_nat (a b : Nat) : mn (a : Int) (b : Int) = ((min a b : Nat) : Int) := by
  unfold mn
  rcases Nat.lt_or_ge b a with h | h
  · rw [if_pos (by omega), Nat.min_eq_right (by omega)]
  · rw [if_neg (by omega), Nat.min_eq_left h]
theorem shr_nat (kd : IntKind) (x y : Nat) (hy : y ≤ kd.bits) : shr kd (x : Int) (y : Int) = ((x / 2 ^ y : Nat) : Int) := by
  unfold shr
  rw [Int.toNat_natCast, Nat.min_eq_left hy]
  simp
theorem shl8_nat (x y : Nat) (hy : y ≤ 8) : shl .u8 (x : Int) (y : Int) = ((x * 2 ^ y % 256 : Nat) : Int) := by
  unfold shl
  rw [Int.toNat_natCast, Nat.min_eq_left (by rw [u8bits]; exact hy), IntKind.wrap_u8]
  simp
theorem shl64_nat (x y : Nat) (hy : y ≤ 64) (h : x * 2 ^ y < 2 ^ 64) : shl .u64 (x : Int) (y : Int) = ((x * 2 ^ y : Nat) : Int) := by
  unfold shl
  rw [Int.toNat_natCast, Nat.min_eq_left (by rw [u64bits]; exact hy), show ((x : Int) * 2 ^ y) = ((x * 2 ^ y : Nat) : Int) by simp, wraps_u64 _ (Int.natCast_nonneg _) (by exact_mod_cast h)]
theorem put_piece (u n k i : Nat) (hk : 1 ≤ k) (hkn : k ≤ n) (hn : n ≤ 64) (hik : i + k ≤ 8) :
    shr .u8 (shl .u8 ((shr .u64 (u : Int) ((n - k : Nat) : Int)) % 256) ((8 - k : Nat) : Int)) (i : Int) = ((bv (low (u / 2 ^ (n - k)) k) * 2 ^ (8 - i - k) : Nat) : Int) := by
  rw [shr_nat .u64 u (n - k) (by rw [u64bits]; omega), show (((u / 2 ^ (n - k) : Nat) : Int) % 256) = ((u / 2 ^ (n - k) % 256 : Nat) : Int) by simp, shl8_nat _ _ (by omega), shr_nat .u8 _ _ (by rw [u8bits]; omega), bv_low]
  congr 1
  generalize u / 2 ^ (n - k) = q
  clear hkn hn
  rcases eight (show i ≤ 8 by omega) with rfl | rfl | rfl | rfl | rfl | rfl | rfl | rfl | rfl <;>
  rcases eight (show k ≤ 8 by omega) with rfl | rfl | rfl | rfl | rfl | rfl | rfl | rfl | rfl <;>
  first
    | (exfalso; omega)
    | (simp only [Nat.reducePow, Nat.reduceSub] at *; omega)
theorem or_low (x y : Nat) (i : Nat) (hx : x % 2 ^ i = 0) (hx1 : x < 256) (hy : y < 2 ^ i) (hy1 : y < 256) : bits .or .u8 (x : Int) (y : Int) = ((x + y : Nat) : Int) := by
  have h := bits_join .u8 8 (by decide) (fun n h0 h1 => wraps_u8 n h0 h1) i (x : Int) (y : Int) (Int.natCast_nonneg _) (by exact_mod_cast hx) (by exact_mod_cast hx1) (Int.natCast_nonneg _) (by exact_mod_cast hy) (by exact_mod_cast hy1)
  rw [h]
  simp
theorem bv_piece_lt (q k i : Nat) (hik : i + k ≤ 8) : bv (low q k) * 2 ^ (8 - i - k) < 2 ^ (8 - i) := by
  have h := bv_lt (low q k)
  rw [low_length] at h
  have e : 2 ^ (8 - i) = 2 ^ k * 2 ^ (8 - i - k) := by rw [← Nat.pow_add]; congr 1; omega
  rw [e]
  exact (Nat.mul_lt_mul_right (Nat.two_pow_pos _)).2 h
theorem put_loop (u : Nat) (hu : u < 2 ^ 64) (d : Nat) : ∀ (n : Nat) (l : List Bool), n ≤ d → n ≤ 64 → l.length + n ≤ 1000000 →
    (∃ K, ∀ k, K ≤ k → bits_put.l0 k (u : Int) (n : Int) (Of l) (l.length : Int) = some ((Of (l ++ low u n), ((l.length + n : Nat) : Int)))) := by
  induction d with
  | zero =>
    intro n l hn _ _
    obtain rfl : n = 0 := by omega
    refine Ev.succ 0 fun k _ => ?_
    rw [bits_put.l0, if_neg (by omega)]
    simp [low]
  | succ d ih =>
    intro n l hn h64 hl
    rcases Nat.eq_zero_or_pos n with rfl | hpos
    · refine Ev.succ 0 fun k _ => ?_
      rw [bits_put.l0, if_neg (by omega)]
      simp [low]
    obtain ⟨i, hi⟩ : ∃ i, i = l.length % 8 := ⟨_, rfl⟩
    obtain ⟨k, hk⟩ : ∃ k, k = min n (8 - i) := ⟨_, rfl⟩
    have hi8 : i < 8 := by omega
    have hk1 : 1 ≤ k := by omega
    have hkn : k ≤ n := by omega
    have hik : i + k ≤ 8 := by omega
    have hlow : low u n = low (u / 2 ^ (n - k)) k ++ low u (n - k) := by
      have := low_split u (n - k) k
      rwa [show k + (n - k) = n by omega] at this
    obtain ⟨p, hp⟩ : ∃ p, p = low (u / 2 ^ (n - k)) k := ⟨_, rfl⟩
    have hpl : p.length = k := by rw [hp, low_length]
    obtain ⟨K, hK⟩ := ih (n - k) (l ++ p) (by omega) (by omega) (by rw [List.length_append, hpl]; omega)
    rw [List.append_assoc, hp, ← hlow, ← hp, List.length_append, hpl, show l.length + k + (n - k) = l.length + n by omega] at hK
    refine Ev.succ K fun k0 hk0 => ?_
    have hpc := put_piece u n k i hk1 hkn h64 hik
    rw [← hp] at hpc
    have hlt : bv p * 2 ^ (8 - i - k) < 2 ^ (8 - i) := by rw [hp]; exact bv_piece_lt _ _ _ hik
    have h256 : bv p * 2 ^ (8 - i - k) < 256 := Nat.lt_of_lt_of_le hlt (Nat.le_trans (Nat.pow_le_pow_right (show 0 < 2 by decide) (Nat.sub_le 8 i)) (by decide : (2 : Nat) ^ 8 ≤ 256))
    have eOr0 := or_low 0 (bv p * 2 ^ (8 - i - k)) 8 (by decide) (by decide) h256 h256
    have hbb := byteOf_lt ((l.drop (8 * (l.length / 8))).take 8) (by rw [List.length_take]; exact Nat.min_le_left _ _)
    have eOr1 : l.length % 8 ≠ 0 → bits .or .u8 ((byteOf ((l.drop (8 * (l.length / 8))).take 8) : Nat) : Int) ((bv p * 2 ^ (8 - i - k) : Nat) : Int) = ((byteOf ((l.drop (8 * (l.length / 8))).take 8) + bv p * 2 ^ (8 - i - k) : Nat) : Int) := fun hz => by
      have hbl := byteOf_last l hz
      rw [← hi] at hbl
      exact or_low _ _ _ hbl hbb hlt h256
    clear hlt h256 hbb
    have e0 : Aside0 (Int.tmod (l.length : Int) 8 = (i : Int)) := ⟨by rw [tmod_nn (Int.natCast_nonneg _), hi]; simp⟩
    have e1 : Aside0 (wrap64 (8 - (i : Int)) = ((8 - i : Nat) : Int)) := ⟨by rw [w64] <;> omega⟩
    have e2 : Aside0 (mn (n : Int) ((8 - i : Nat) : Int) = (k : Int)) := ⟨by rw [mn_nat, hk]⟩
    have e3 : Aside0 (wrap64 ((n : Int) - (k : Int)) = ((n - k : Nat) : Int)) := ⟨by rw [w64] <;> omega⟩
    have e4 : Aside0 (wrap64 (8 - (k : Int)) = ((8 - k : Nat) : Int)) := ⟨by rw [w64] <;> omega⟩
    have e5 : Aside0 (wrap64 ((l.length : Int) + (k : Int)) = ((l.length + k : Nat) : Int)) := ⟨by rw [w64] <;> omega⟩
    have hOl := Of_length l
    have c1 : (n : Int) > 0 := by omega
    have c2 : (0 : Int) ≤ ((n - k : Nat) : Int) := Int.natCast_nonneg _
    have c3 : (0 : Int) ≤ ((8 - k : Nat) : Int) := Int.natCast_nonneg _
    have c4 : (0 : Int) ≤ (i : Int) := Int.natCast_nonneg _
    rw [bits_put.l0, e0.out, e1.out, e2.out, e3.out, e4.out, e5.out, if_pos c1]
    by_cases h0 : i = 0
    · have hz : l.length % 8 = 0 := by omega
      have hyl : ((Of l ++ [0] : List Int).length : Int) = ((l.length / 8 + 1 : Nat) : Int) := by rw [List.length_append, hOl, List.length_singleton]; congr 2; omega
      have e6 : Aside0 (wrap64 (((Of l ++ [0] : List Int).length : Int) - 1) = ((Of l).length : Int)) := ⟨by rw [hyl, hOl, w64] <;> omega⟩
      have c5 : (i : Int) = 0 := by omega
      have c6 : (Of l).length < 140737488355328 := by rw [hOl]; omega
      have c7 : (0 : Int) ≤ ((Of l).length : Int) := Int.natCast_nonneg _
      have c8 : ((Of l).length : Int) < ((Of l ++ [0] : List Int).length : Int) := by rw [hyl, hOl]; omega
      have e7 : rd (Of l ++ [0] : List Int) ((Of l).length : Int) = ((0 : Nat) : Int) := by simp [rd]
      have e8 : (Of l ++ [0] : List Int).set ((Of l).length : Int).toNat (bits .or .u8 (rd (Of l ++ [0] : List Int) ((Of l).length : Int)) (shr .u8 (shl .u8 ((shr .u64 (u : Int) ((n - k : Nat) : Int)) % 256) ((8 - k : Nat) : Int)) (i : Int))) = Of (l ++ p) := by
        rw [e7, hpc, eOr0, Of_new l p hz (by omega) (by omega), Int.toNat_natCast, List.set_append_right _ _ (Nat.le_refl _)]
        unfold byteOf
        rw [hpl, h0]
        simp
      rw [if_pos c5, if_pos c6, Option.bind_some, e6.out, if_pos c2, if_pos c7, if_pos c8, if_pos c3, if_pos c4, e8]
      exact hK k0 hk0
    · have hz : l.length % 8 ≠ 0 := by omega
      have e6 : Aside0 (wrap64 (((Of l).length : Int) - 1) = ((l.length / 8 : Nat) : Int)) := ⟨by rw [hOl, w64] <;> omega⟩
      have c5 : ¬ (i : Int) = 0 := by omega
      have c7 : (0 : Int) ≤ ((l.length / 8 : Nat) : Int) := Int.natCast_nonneg _
      have c8 : ((l.length / 8 : Nat) : Int) < ((Of l).length : Int) := by rw [hOl]; omega
      have e8 : (Of l).set ((l.length / 8 : Nat) : Int).toNat (bits .or .u8 (rd (Of l) ((l.length / 8 : Nat) : Int)) (shr .u8 (shl .u8 ((shr .u64 (u : Int) ((n - k : Nat) : Int)) % 256) ((8 - k : Nat) : Int)) (i : Int))) = Of (l ++ p) := by
        rw [rd_Of, hpc, eOr1 hz, Of_more l p hz (by omega), Int.toNat_natCast, hOl, hpl, ← hi]
        congr 1
        omega
      rw [if_neg c5, e6.out, if_pos c2, if_pos c7, if_pos c8, if_pos c3, if_pos c4, e8]
      exact hK k0 hk0
theorem put_ev (u : Nat) (hu : u < 2 ^ 64) (n : Nat) (l : List Bool) (hn : n ≤ 64) (hl : l.length + n ≤ 1000000) :
    (∃ K, ∀ k, K ≤ k → bits_put.f k (Of l) (l.length : Int) (u : Int) (n : Int) = some ((Of (l ++ low u n), ((l.length + n : Nat) : Int)))) := put_loop u hu n n l (Nat.le_refl _) hn hl
theorem get_loop (l : List Bool) (hl : l.length ≤ 1000000) (N : Int) (d : Nat) : ∀ (n at_ acc : Nat), n ≤ d → n ≤ 64 → at_ + n ≤ l.length → acc < 2 ^ (64 - n) →
    (∃ K, ∀ k, K ≤ k → bits_get.l0 k (at_ : Int) (n : Int) (acc : Int) (Of l) N = some (((acc * 2 ^ n + bv ((l.drop at_).take n) : Nat) : Int))) := by
  induction d with
  | zero =>
    intro n at_ acc hn _ _ _
    obtain rfl : n = 0 := by omega
    refine Ev.succ 0 fun k _ => ?_
    rw [bits_get.l0, if_neg (by omega)]
    simp [bv]
  | succ d ih =>
    intro n at_ acc hn h64 hat hacc
    rcases Nat.eq_zero_or_pos n with rfl | hpos
    · refine Ev.succ 0 fun k _ => ?_
      rw [bits_get.l0, if_neg (by omega)]
      simp [bv]
    obtain ⟨i, hi⟩ : ∃ i, i = at_ % 8 := ⟨_, rfl⟩
    obtain ⟨k, hk⟩ : ∃ k, k = min n (8 - i) := ⟨_, rfl⟩
    have hi8 : i < 8 := by omega
    have hk1 : 1 ≤ k := by omega
    have hkn : k ≤ n := by omega
    have hik : i + k ≤ 8 := by omega
    have hpc := get_piece l at_ k hk1 (by omega) (by omega)
    have hq := bv_lt ((l.drop at_).take k)
    have hql : ((l.drop at_).take k).length = k := by rw [List.length_take, List.length_drop]; omega
    rw [hql] at hq
    have hacck : acc * 2 ^ k < 2 ^ (64 - (n - k)) := by
      have e : 2 ^ (64 - (n - k)) = 2 ^ (64 - n) * 2 ^ k := by rw [← Nat.pow_add]; congr 1; omega
      rw [e]
      exact (Nat.mul_lt_mul_right (Nat.two_pow_pos _)).2 hacc
    have hsum : acc * 2 ^ k + bv ((l.drop at_).take k) < 2 ^ (64 - (n - k)) := by
      have e : 2 ^ (64 - (n - k)) = 2 ^ (64 - n) * 2 ^ k := by rw [← Nat.pow_add]; congr 1; omega
      have h1 : (acc + 1) * 2 ^ k ≤ 2 ^ (64 - n) * 2 ^ k := Nat.mul_le_mul_right _ hacc
      rw [Nat.add_mul, Nat.one_mul] at h1
      omega
    have hp64 : 2 ^ (64 - (n - k)) ≤ 2 ^ 64 := Nat.pow_le_pow_right (by decide) (by omega)
    obtain ⟨K, hK⟩ := ih (n - k) (at_ + k) (acc * 2 ^ k + bv ((l.drop at_).take k)) (by omega) (by omega) (by omega) hsum
    have efin : (acc * 2 ^ k + bv ((l.drop at_).take k)) * 2 ^ (n - k) + bv ((l.drop (at_ + k)).take (n - k)) = acc * 2 ^ n + bv ((l.drop at_).take n) := by
      have e : (l.drop at_).take n = (l.drop at_).take k ++ (l.drop (at_ + k)).take (n - k) := by
        rw [← List.drop_drop, ← List.take_add]
        congr 1
        omega
      have hl2 : ((l.drop (at_ + k)).take (n - k)).length = n - k := by rw [List.length_take, List.length_drop]; omega
      rw [e, bv_append, hl2, Nat.add_mul, Nat.mul_assoc, ← Nat.pow_add, show k + (n - k) = n by omega, Nat.add_assoc]
    rw [efin] at hK
    have h264 : acc * 2 ^ k < 2 ^ 64 := Nat.lt_of_lt_of_le hacck hp64
    have hb64 : bv ((l.drop at_).take k) < 2 ^ 64 := Nat.lt_of_lt_of_le (Nat.lt_of_le_of_lt (Nat.le_add_left _ _) hsum) hp64
    have e7 : bits .or .u64 ((acc * 2 ^ k : Nat) : Int) ((bv ((l.drop at_).take k) : Nat) : Int) = ((acc * 2 ^ k + bv ((l.drop at_).take k) : Nat) : Int) := by
      have h := bits_join .u64 64 (by decide) wraps_u64 k ((acc * 2 ^ k : Nat) : Int) ((bv ((l.drop at_).take k) : Nat) : Int) (Int.natCast_nonneg _) (by exact_mod_cast Nat.mul_mod_left _ _) (by exact_mod_cast h264) (Int.natCast_nonneg _) (by exact_mod_cast hq) (by exact_mod_cast hb64)
      rw [h]
      push_cast
      rfl
    have e8 := shl64_nat acc k (Nat.le_trans hkn h64) h264
    have e9 := wraps_u64 ((bv ((l.drop at_).take k) : Nat) : Int) (Int.natCast_nonneg _) (by exact_mod_cast hb64)
    have e6 : shr .u8 (shl .u8 (rd (Of l) ((at_ / 8 : Nat) : Int)) (i : Int)) ((8 - k : Nat) : Int) = ((bv ((l.drop at_).take k) : Nat) : Int) := by
      rw [rd_Of, shl8_nat _ _ (Nat.le_of_lt hi8), shr_nat .u8 _ _ (show 8 - k ≤ 8 from Nat.sub_le _ _), hi, hpc]
    clear h264 hb64 hacck hsum hp64 hq hacc efin
    refine Ev.succ K fun k0 hk0 => ?_
    have e0 : Aside0 (Int.tmod (at_ : Int) 8 = (i : Int)) := ⟨by rw [tmod_nn (Int.natCast_nonneg _), hi]; simp⟩
    have e00 : Aside0 (wrap64 (Int.tdiv (at_ : Int) 8) = ((at_ / 8 : Nat) : Int)) := ⟨by rw [tdiv_nn (Int.natCast_nonneg _), w64] <;> omega⟩
    have e1 : Aside0 (wrap64 (8 - (i : Int)) = ((8 - i : Nat) : Int)) := ⟨by rw [w64] <;> omega⟩
    have e2 : Aside0 (mn (n : Int) ((8 - i : Nat) : Int) = (k : Int)) := ⟨by rw [mn_nat, hk]⟩
    have e3 : Aside0 (wrap64 ((n : Int) - (k : Int)) = ((n - k : Nat) : Int)) := ⟨by rw [w64] <;> omega⟩
    have e4 : Aside0 (wrap64 (8 - (k : Int)) = ((8 - k : Nat) : Int)) := ⟨by rw [w64] <;> omega⟩
    have e5 : Aside0 (wrap64 ((at_ : Int) + (k : Int)) = ((at_ + k : Nat) : Int)) := ⟨by rw [w64] <;> omega⟩
    have hOl := Of_length l
    have c1 : (n : Int) > 0 := by omega
    have c2 : (0 : Int) ≤ ((at_ / 8 : Nat) : Int) := by omega
    have c3 : ((at_ / 8 : Nat) : Int) < ((Of l).length : Int) := by rw [hOl]; omega
    have c4 : (0 : Int) ≤ (i : Int) := by omega
    have c5 : (0 : Int) ≤ ((8 - k : Nat) : Int) := by omega
    have c6 : (0 : Int) ≤ (k : Int) := by omega
    rw [bits_get.l0, e0.out, e00.out, e1.out, e2.out, e3.out, e4.out, e5.out, if_pos c1, if_pos c2, if_pos c3, if_pos c4, if_pos c5, if_pos c6, e6, e8, e9, e7]
    exact hK k0 hk0
theorem get_ev (l : List Bool) (hl : l.length ≤ 1000000) (N : Int) (n at_ : Nat) (hn : n ≤ 64) (h : at_ + n ≤ l.length) :
    (∃ K, ∀ k, K ≤ k → bits_get.f k (Of l) N (at_ : Int) (n : Int) = some (((bv ((l.drop at_).take n) : Nat) : Int))) := by
  obtain ⟨K, hK⟩ := get_loop l hl N n n at_ 0 (Nat.le_refl _) hn h (Nat.two_pow_pos _)
  rw [Nat.zero_mul, Nat.zero_add] at hK
  exact ⟨K, hK⟩
end Go.Proofs.Ytmddmbagehjdeaa.Q
end
section
set_option linter.unusedVariables false
namespace Go.Proofs.Ytmddmbagehjdeaa.Q
open Go Go.RowKit Go.Proofs.Ytmddmbagehjdeaa.G Go.Proofs.YtmddmbagehjdeaaW.PrintWords Go.Proofs.YtmddmbagehjdeaaW.PrintLast Go.Proofs.YtmddmbagehjdeaaW.PrintMore
theorem wrap_u64 (n : Int) : IntKind.u64.wrap n = n % 18446744073709551616 := by simp [IntKind.wrap, IntKind.bits, IntKind.signed]
theorem bits_xor (k : IntKind) (j : Nat) (hj : j ≤ k.bits) (hk : ∀ n : Int, 0 ≤ n → n < 2 ^ j → k.wrap n = n) (a b : Nat) (ha : a < 2 ^ j) (hb : b < 2 ^ j) : bits .xor k a b = ((a ^^^ b : Nat) : Int) := by
  have hp : 2 ^ j ≤ 2 ^ k.bits := Nat.pow_le_pow_right (by decide) hj
  have ha' : a % 2 ^ k.bits = a := Nat.mod_eq_of_lt (Nat.lt_of_lt_of_le ha hp)
  have hb' : b % 2 ^ k.bits = b := Nat.mod_eq_of_lt (Nat.lt_of_lt_of_le hb hp)
  simp only [bits, BitVec.ofInt_natCast, BitVec.toNat_xor, BitVec.toNat_ofNat, ha', hb']
  exact hk _ (Int.natCast_nonneg _) (by exact_mod_cast Nat.xor_lt_two_pow ha hb)
theorem two64 : (2 : Nat) ^ 64 = 18446744073709551616 := by decide
theorem nat_xor_ones (x : Nat) (h : x < 18446744073709551616) : x ^^^ 18446744073709551615 = 18446744073709551615 - x := by
  have h1 : (BitVec.ofNat 64 x ^^^ BitVec.allOnes 64).toNat = x ^^^ 18446744073709551615 := by
    rw [BitVec.toNat_xor, BitVec.toNat_ofNat, Nat.mod_eq_of_lt (by rw [two64]; exact h), BitVec.toNat_allOnes]
  rw [← h1, BitVec.xor_allOnes, BitVec.toNat_not, BitVec.toNat_ofNat, Nat.mod_eq_of_lt (by rw [two64]; exact h)]
theorem xor_zero (x : Nat) (h : x < 18446744073709551616) : bits .xor .u64 (x : Int) 0 = (x : Int) := by
  have := bits_xor .u64 64 (by decide) wraps_u64 x 0 (by rw [two64]; exact h) (by decide)
  rw [Nat.xor_zero] at this
  exact this
theorem xor_ones (x : Nat) (h : x < 18446744073709551616) : bits .xor .u64 (x : Int) 18446744073709551615 = ((18446744073709551615 - x : Nat) : Int) := by
  have := bits_xor .u64 64 (by decide) wraps_u64 x 18446744073709551615 (by rw [two64]; exact h) (by decide)
  rw [nat_xor_ones x h] at this
  exact this
theorem and_one (x : Nat) (h : x < 18446744073709551616) : bits .and .u64 (x : Int) 1 = ((x % 2 : Nat) : Int) := by
  have := (bits_nat .u64 64 (by decide) wraps_u64 x 1 (by rw [two64]; exact h) (by decide)).1
  rw [Nat.and_one_is_mod] at this
  exact this
def foldN (n : Int) : Nat := if 0 ≤ n then (2 * n).toNat else (-2 * n - 1).toNat
def unfoldN (u : Nat) : Int := if u % 2 = 0 then ((u / 2 : Nat) : Int) else -1 - ((u / 2 : Nat) : Int)
def I64 (n : Int) : Prop := -9223372036854775808 ≤ n ∧ n ≤ 9223372036854775807
theorem foldN_lt {n : Int} (h : I64 n) : foldN n < 18446744073709551616 := by
  unfold I64 at h
  unfold foldN
  split <;> omega
theorem unfold_fold (n : Int) : unfoldN (foldN n) = n := by
  unfold foldN unfoldN
  split <;> split <;> omega
theorem fold_unfold (u : Nat) : foldN (unfoldN u) = u := by
  unfold foldN unfoldN
  split <;> split <;> omega
theorem unfoldN_i64 (u : Nat) (h : u < 18446744073709551616) : I64 (unfoldN u) := by
  unfold I64 unfoldN
  split <;> omega
theorem fold_ev (n : Int) (h : I64 n) : bits_fold.f n = some (foldN n : Int) := by
  unfold bits_fold.f I64 at *
  congr 1
  rw [wrap_u64, wrap_u64, wrap_u64]
  by_cases h0 : 0 ≤ n
  · have e1 : n / 9223372036854775808 % 18446744073709551616 = 0 := by omega
    have e2 : n % 18446744073709551616 * 2 % 18446744073709551616 = ((foldN n : Nat) : Int) := by unfold foldN; rw [if_pos h0]; omega
    rw [e1, e2, xor_zero _ (foldN_lt h)]
  · have e1 : n / 9223372036854775808 % 18446744073709551616 = 18446744073709551615 := by omega
    have e2 : n % 18446744073709551616 * 2 % 18446744073709551616 = (((2 * n + 18446744073709551616).toNat : Nat) : Int) := by omega
    rw [e1, e2, xor_ones _ (by omega)]
    unfold foldN
    rw [if_neg h0]
    omega
theorem unfold_ev (u : Nat) (h : u < 18446744073709551616) : wrap64 (bits .xor .u64 ((u : Int) / 2) (IntKind.u64.wrap (-(bits .and .u64 (u : Int) 1)))) = unfoldN u := by
  rw [and_one u h, wrap_u64, show ((u : Int) / 2) = ((u / 2 : Nat) : Int) by simp]
  unfold unfoldN
  by_cases h0 : u % 2 = 0
  · rw [if_pos h0, h0, show (-((0 : Nat) : Int)) % 18446744073709551616 = 0 by decide, xor_zero _ (by omega), w64] <;> omega
  · rw [if_neg h0, show u % 2 = 1 by omega, show (-((1 : Nat) : Int)) % 18446744073709551616 = 18446744073709551615 by decide, xor_ones _ (by omega)]
    unfold wrap64
    omega
def cls (u : Nat) : Nat := if u = 0 then 0 else if u < 128 then 1 else if u < 4096 then 2 else if u < 1048576 then 3 else 4
def wd (c : Nat) : Nat := if c = 0 then 0 else if c = 1 then 7 else if c = 2 then 12 else if c = 3 then 20 else 64
theorem cls_le (u : Nat) : cls u ≤ 4 := by unfold cls; (repeat' split) <;> omega
theorem four {c : Nat} (h : c ≤ 4) : c = 0 ∨ c = 1 ∨ c = 2 ∨ c = 3 ∨ c = 4 := by omega
theorem width_ev (c : Nat) (h : c ≤ 4) : bits_width.f (c : Int) = some (wd c : Int) := by
  rcases four h with rfl | rfl | rfl | rfl | rfl <;> rfl
theorem bitLen_gt (u w : Nat) (hu : u < 18446744073709551616) : w < Lib.bitLen u ↔ 2 ^ w ≤ u := by
  by_cases hw : w ≤ 64
  · constructor
    · intro h
      rcases Nat.lt_or_ge u (2 ^ w) with h1 | h1
      · have := Lib.bitLen_le u w hw h1
        omega
      · exact h1
    · intro h
      have h1 := Lib.bitLen_shift w u h (by simpa using hu)
      have h2 : u / 2 ^ w ≠ 0 := by
        have := Nat.div_pos h (Nat.two_pow_pos w)
        omega
      have h3 := Lib.bitLen_half (u / 2 ^ w) h2 (Nat.lt_of_le_of_lt (Nat.div_le_self _ _) (by simpa using hu))
      omega
  · constructor
    · intro h
      have := Lib.bitLen_le u 64 (Nat.le_refl _) (by simpa using hu)
      omega
    · intro h
      have h1 : 2 ^ 64 ≤ 2 ^ w := Nat.pow_le_pow_right (by decide) (by omega)
      have h2 : (2 : Nat) ^ 64 = 18446744073709551616 := by decide
      omega
theorem len64_ev (u : Nat) (hu : u < 18446744073709551616) : bits_Len64.f (u : Int) = some (Lib.bitLen u : Int) := by
  unfold bits_Len64.f
  rw [if_pos (by omega), Int.toNat_natCast]
theorem class_step (n : Int) (h : I64 n) (c : Nat) (hc : c < 4) (K : Nat) (r : Option Int) (hr : ∀ k, K ≤ k → (if 2 ^ wd c ≤ foldN n then bits_Class.l0 k n ((c + 1 : Nat) : Int) else some (c : Int)) = r) : ∀ k, K + 1 ≤ k → bits_Class.l0 k n (c : Int) = r := by
  intro k hk
  obtain ⟨k, rfl⟩ : ∃ m, k = m + 1 := ⟨k - 1, by omega⟩
  rw [bits_Class.l0, if_pos (by omega), fold_ev n h, Option.bind_some, len64_ev _ (foldN_lt h), Option.bind_some, width_ev c (by omega), Option.bind_some]
  have e1 : Aside0 (wrap64 ((c : Int) + 1) = ((c + 1 : Nat) : Int)) := ⟨by rw [w64] <;> omega⟩
  have hb := bitLen_gt (foldN n) (wd c) (foldN_lt h)
  rw [← hr k (by omega), e1.out]
  by_cases h1 : 2 ^ wd c ≤ foldN n
  · rw [if_pos h1, if_pos (by have := hb.2 h1; omega)]
  · rw [if_neg h1, if_neg (by intro h2; exact h1 (hb.1 (by omega)))]
theorem Class_ev (n : Int) (h : I64 n) : (∃ K, ∀ k, K ≤ k → bits_Class.f k n = some (((cls (foldN n) : Nat) : Int))) := by
  refine ⟨5, fun k hk => ?_⟩
  unfold bits_Class.f
  have e0 : (0 : Int) = ((0 : Nat) : Int) := rfl
  rw [e0]
  refine class_step n h 0 (by decide) 4 _ (fun k hk => ?_) k hk
  have w0 : 2 ^ wd 0 = 1 := rfl
  have w1 : 2 ^ wd 1 = 128 := rfl
  have w2 : 2 ^ wd 2 = 4096 := rfl
  have w3 : 2 ^ wd 3 = 1048576 := rfl
  rw [w0]
  by_cases h0 : 1 ≤ foldN n
  · rw [if_pos h0]
    refine class_step n h 1 (by decide) 3 _ (fun k hk => ?_) k hk
    rw [w1]
    by_cases h1 : 128 ≤ foldN n
    · rw [if_pos h1]
      refine class_step n h 2 (by decide) 2 _ (fun k hk => ?_) k hk
      rw [w2]
      by_cases h2 : 4096 ≤ foldN n
      · rw [if_pos h2]
        refine class_step n h 3 (by decide) 1 _ (fun k hk => ?_) k hk
        rw [w3]
        by_cases h3 : 1048576 ≤ foldN n
        · rw [if_pos h3]
          obtain ⟨k, rfl⟩ : ∃ m, k = m + 1 := ⟨k - 1, by omega⟩
          rw [bits_Class.l0, if_neg (by omega)]
          unfold cls
          rw [if_neg (by omega), if_neg (by omega), if_neg (by omega), if_neg (by omega)]
        · rw [if_neg h3]
          unfold cls
          rw [if_neg (by omega), if_neg (by omega), if_neg (by omega), if_pos (by omega)]
      · rw [if_neg h2]
        unfold cls
        rw [if_neg (by omega), if_neg (by omega), if_pos (by omega)]
    · rw [if_neg h1]
      unfold cls
      rw [if_neg (by omega), if_pos (by omega)]
  · rw [if_neg h0]
    unfold cls
    rw [if_pos (by omega)]
def ld (c : Nat) : List Bool := if c = 4 then [true, true, true, true] else List.replicate c true ++ [false]
theorem lead_ev (c : Nat) (h : c ≤ 4) : bits_lead.f (c : Int) = some (((bv (ld c) : Nat) : Int), ((ld c).length : Int)) := by
  rcases four h with rfl | rfl | rfl | rfl | rfl <;> decide +kernel
theorem ld_len (c : Nat) (h : c ≤ 4) : (ld c).length ≤ 4 ∧ 1 ≤ (ld c).length := by rcases four h with rfl | rfl | rfl | rfl | rfl <;> decide
theorem wd_le (c : Nat) : wd c ≤ 64 := by unfold wd; (repeat' split) <;> omega
def coded (n : Int) : List Bool := ld (cls (foldN n)) ++ low (foldN n) (wd (cls (foldN n)))
theorem coded_len (n : Int) : (coded n).length = (ld (cls (foldN n))).length + wd (cls (foldN n)) := by rw [coded, List.length_append, low_length]
theorem coded_le (n : Int) : (coded n).length ≤ 68 := by
  have h1 := (ld_len (cls (foldN n)) (cls_le _)).1
  have h2 := wd_le (cls (foldN n))
  rw [coded_len]
  omega
theorem Size_ev (n : Int) (h : I64 n) : (∃ K, ∀ k, K ≤ k → bits_Size.f k n = some (((coded n).length : Int))) := by
  obtain ⟨K, hK⟩ := Class_ev n h
  have h1 := (ld_len (cls (foldN n)) (cls_le _)).1
  have h2 := wd_le (cls (foldN n))
  refine ⟨K, fun k hk => ?_⟩
  unfold bits_Size.f
  rw [hK k hk, Option.bind_some, lead_ev _ (cls_le _), Option.bind_some]
  simp only
  have e1 : wrap64 (((ld (cls (foldN n))).length : Int) + (wd (cls (foldN n)) : Int)) = ((coded n).length : Int) := by rw [coded_len, w64] <;> omega
  rw [width_ev _ (cls_le _), Option.bind_some, e1]
theorem Check_ev (l : List Bool) (hl : l.length ≤ 131072) : (∃ K, ∀ k, K ≤ k → bits_Check.f k (Of l) (l.length : Int) = some (0)) := by
  refine ⟨1, fun k hk => ?_⟩
  obtain ⟨k, rfl⟩ : ∃ m, k = m + 1 := ⟨k - 1, by omega⟩
  have hO := Of_length l
  have e1 : Aside0 (wrap64 ((l.length : Int) + 7) = ((l.length + 7 : Nat) : Int)) := ⟨by rw [w64] <;> omega⟩
  have e2 : Aside0 (wrap64 (((l.length + 7 : Nat) : Int) / 8) = (((l.length + 7) / 8 : Nat) : Int)) := ⟨by rw [w64] <;> omega⟩
  have e3 : Int.tmod (l.length : Int) 8 = ((l.length % 8 : Nat) : Int) := by rw [tmod_nn (Int.natCast_nonneg _)]; simp
  unfold bits_Check.f bits_bytes.f
  rw [if_neg (by omega), if_neg (by omega), Option.bind_some, e1.out, tdiv_nn (Int.natCast_nonneg _), e2.out, hO, show (((((l.length + 7) / 8 : Nat) : Int)) != ((((l.length + 7) / 8 : Nat) : Int))) = false by simp, bits_Check.j0, if_neg (by decide), e3]
  by_cases h0 : l.length % 8 = 0
  · rw [if_neg (by omega)]
  · have e4 : Aside0 (wrap64 (((Of l).length : Int) - 1) = ((l.length / 8 : Nat) : Int)) := ⟨by rw [hO, w64] <;> omega⟩
    have hz : shl .u8 (rd (Of l) ((l.length / 8 : Nat) : Int)) ((l.length % 8 : Nat) : Int) = 0 := by
      have hbl := byteOf_last l h0
      rw [rd_Of, shl8_nat _ _ (by omega)]
      have hr : l.length % 8 ≤ 8 := by omega
      generalize byteOf ((l.drop (8 * (l.length / 8))).take 8) = b at *
      generalize l.length % 8 = r at *
      clear e3
      rcases eight hr with rfl | rfl | rfl | rfl | rfl | rfl | rfl | rfl | rfl <;> (simp only [Nat.reducePow, Nat.reduceSub] at *; omega)
    rw [if_pos (by omega), e4.out, if_pos (by omega), if_pos (by omega), if_pos (by omega), if_pos hz]
end Go.Proofs.Ytmddmbagehjdeaa.Q
end
section
set_option linter.unusedVariables false
namespace Go.Proofs.Ytmddmbagehjdeaa.Q
open Go Go.RowKit Go.Proofs.Ytmddmbagehjdeaa.G Go.Proofs.YtmddmbagehjdeaaW.PrintWords Go.Proofs.YtmddmbagehjdeaaW.PrintLast Go.Proofs.YtmddmbagehjdeaaW.PrintMore
theorem own_ev (b : List Int) (N : Int) (h : b.length ≤ 1000000) : bits_own.f b N = some (b, N) := by
  unfold bits_own.f slices_Clone_byte_byte.f
  rw [if_pos (by omega)]
  rfl
theorem low_ld (c : Nat) (h : c ≤ 4) : low (bv (ld c)) (ld c).length = ld c := low_bv _
theorem bv_ld_lt (c : Nat) (h : c ≤ 4) : bv (ld c) < 18446744073709551616 := by rcases four h with rfl | rfl | rfl | rfl | rfl <;> decide
theorem PutNum_ev (l : List Bool) (n : Int) (h : I64 n) (hl : l.length ≤ 131072) (hfit : l.length + (coded n).length ≤ 131072) :
    (∃ K, ∀ k, K ≤ k → bits_Number.f k (Of l) (l.length : Int) n = some ((Of (l ++ coded n), ((l ++ coded n).length : Int), 0))) := by
  obtain ⟨c, hc⟩ : ∃ c, c = cls (foldN n) := ⟨_, rfl⟩
  have hc4 : c ≤ 4 := by rw [hc]; exact cls_le _
  have h1 := ld_len c hc4
  have h2 := wd_le c
  have hcl := coded_len n
  rw [← hc] at hcl
  obtain ⟨K1, e1⟩ := Check_ev l hl
  obtain ⟨K2, e2⟩ := Size_ev n h
  obtain ⟨K3, e3⟩ := Class_ev n h
  obtain ⟨K4, e4⟩ := put_ev (bv (ld c)) (by rw [two64]; exact bv_ld_lt c hc4) (ld c).length l (by omega) (by omega)
  obtain ⟨K5, e5⟩ := put_ev (foldN n) (by rw [two64]; exact foldN_lt h) (wd c) (l ++ ld c) h2 (by rw [List.length_append]; omega)
  rw [low_ld c hc4] at e4
  rw [List.append_assoc, List.length_append] at e5
  have hco : ld c ++ low (foldN n) (wd c) = coded n := by rw [hc]; rfl
  rw [hco] at e5
  refine ⟨K1 + K2 + K3 + K4 + K5, fun k hk => ?_⟩
  have hO := Of_length l
  unfold bits_Number.f
  have w1 : Aside0 (wrap64 (131072 - (l.length : Int)) = ((131072 - l.length : Nat) : Int)) := ⟨by rw [w64] <;> omega⟩
  have c1 : ¬ ((coded n).length : Int) > ((131072 - l.length : Nat) : Int) := by omega
  rw [e1 k (by omega), Option.bind_some, if_pos rfl, own_ev _ _ (by rw [hO]; omega), Option.bind_some, e2 k (by omega), Option.bind_some]
  simp only
  rw [w1.out, if_neg c1, e3 k (by omega), Option.bind_some, ← hc, lead_ev c hc4, Option.bind_some]
  simp only
  rw [e4 k (by omega), Option.bind_some, fold_ev n h, Option.bind_some, width_ev c hc4, Option.bind_some]
  simp only
  rw [e5 k (by omega), Option.bind_some]
  simp only [List.length_append, hcl, Nat.add_assoc]
theorem Read_ev (l : List Bool) (hl : l.length ≤ 131072) : (∃ K, ∀ k, K ≤ k → bits_Read.f k (Of l) (l.length : Int) = some ((Of l, (l.length : Int), 0))) := by
  obtain ⟨K1, e1⟩ := Check_ev l hl
  refine ⟨K1, fun k hk => ?_⟩
  have hO := Of_length l
  unfold bits_Read.f
  rw [e1 k hk, Option.bind_some, if_pos rfl, own_ev _ _ (by rw [hO]; omega), Option.bind_some]
def takeR (l : List Bool) (at_ : Nat) (n : Int) : Int × Int × Int × Int :=
  if n < 0 ∨ 64 < n then (0, 1, l.length, at_) else if ((l.length - at_ : Nat) : Int) < n then (0, 2, l.length, at_) else ((bv ((l.drop at_).take n.toNat) : Nat), 0, l.length, ((at_ + n.toNat : Nat) : Int))
theorem Take_ev (l : List Bool) (hl : l.length ≤ 1000000) (at_ : Nat) (ha : at_ ≤ l.length) (n : Int) : (∃ K, ∀ k, K ≤ k → bits_Reader_Take.f k (Of l) (l.length : Int) (at_ : Int) n = some (takeR l at_ n)) := by
  unfold takeR
  by_cases h1 : n < 0
  · refine ⟨0, fun k _ => ?_⟩
    unfold bits_Reader_Take.f
    rw [if_pos h1, if_pos (.inl h1)]
  by_cases h2 : 64 < n
  · refine ⟨0, fun k _ => ?_⟩
    unfold bits_Reader_Take.f
    rw [if_neg h1, if_pos h2, if_pos (.inr h2)]
  have w1 : Aside0 (wrap64 ((l.length : Int) - (at_ : Int)) = ((l.length - at_ : Nat) : Int)) := ⟨by rw [w64] <;> omega⟩
  rw [if_neg (by rintro (h | h) <;> omega)]
  by_cases h3 : ((l.length - at_ : Nat) : Int) < n
  · refine ⟨0, fun k _ => ?_⟩
    unfold bits_Reader_Take.f bits_Reader_Left.f
    rw [if_neg h1, if_neg h2, Option.bind_some]
    simp only
    rw [w1.out, if_pos h3, if_pos h3]
  rw [if_neg h3]
  obtain ⟨m, rfl⟩ := Int.eq_ofNat_of_zero_le (show 0 ≤ n by omega)
  rw [Int.toNat_natCast]
  have w2 : Aside0 (wrap64 ((at_ : Int) + (m : Int)) = ((at_ + m : Nat) : Int)) := ⟨by rw [w64] <;> omega⟩
  obtain ⟨K, hK⟩ := get_ev l hl (l.length : Int) m at_ (by omega) (by omega)
  refine ⟨K, fun k hk => ?_⟩
  unfold bits_Reader_Take.f bits_Reader_Left.f
  rw [if_neg h1, if_neg h2, Option.bind_some]
  simp only
  rw [w1.out, if_neg h3]
  by_cases h4 : (m : Int) = 0
  · obtain rfl : m = 0 := by omega
    rw [if_pos h4]
    simp [bv]
  · rw [if_neg h4, hK k hk, Option.bind_some, w2.out]
def rdc : Nat → Nat → List Bool → Option (Nat × List Bool)
  | 0, c, r => some (c, r)
  | f + 1, c, [] => none
  | f + 1, c, false :: r => some (c, r)
  | f + 1, c, true :: r => rdc f (c + 1) r
def numb (r : List Bool) : Option (Int × Nat) :=
  match rdc 4 0 r with
  | none => none
  | some (c, q) => if wd c ≤ q.length then (if cls (bv (q.take (wd c))) = c then some (unfoldN (bv (q.take (wd c))), r.length - q.length + wd c) else none) else none
theorem drop_cons {l : List Bool} {at_ : Nat} {b : Bool} {r : List Bool} (h : l.drop at_ = b :: r) : at_ < l.length ∧ l.drop (at_ + 1) = r ∧ (l.drop at_).take 1 = [b] := by
  refine ⟨?_, ?_, ?_⟩
  · rcases Nat.lt_or_ge at_ l.length with h' | h'
    · exact h'
    · rw [List.drop_of_length_le h'] at h; cases h
  · rw [← List.drop_drop, h]; rfl
  · rw [h]; rfl
theorem take1 (l : List Bool) (at_ : Nat) (b : Bool) (r : List Bool) (h : l.drop at_ = b :: r) : takeR l at_ 1 = ((b.toNat : Int), 0, (l.length : Int), ((at_ + 1 : Nat) : Int)) := by
  obtain ⟨h1, _, h3⟩ := drop_cons h
  unfold takeR
  rw [if_neg (by omega), if_neg (by omega), show (1 : Int).toNat = 1 from rfl, h3]
  simp [bv]
theorem take1_none (l : List Bool) (at_ : Nat) (h : l.drop at_ = []) (ha : at_ ≤ l.length) : takeR l at_ 1 = (0, 2, (l.length : Int), (at_ : Int)) := by
  have h1 : l.length ≤ at_ := by simpa using h
  unfold takeR
  rw [if_neg (by omega), if_pos (by omega)]
theorem class_ev (l : List Bool) (hl : l.length ≤ 1000000) : ∀ (f c at_ : Nat), f + c = 4 → at_ ≤ l.length →
    (∀ c' q, rdc f c (l.drop at_) = some (c', q) → ∃ at', at_ ≤ at' ∧ at' ≤ l.length ∧ l.drop at' = q ∧ c' ≤ 4 ∧ (∃ K, ∀ k, K ≤ k → bits_Reader_class.l0 k (c : Int) (Of l) (l.length : Int) (at_ : Int) = some (((c' : Int), 0, (l.length : Int), (at' : Int))))) ∧
    (rdc f c (l.drop at_) = none → ∃ c' at', (∃ K, ∀ k, K ≤ k → bits_Reader_class.l0 k (c : Int) (Of l) (l.length : Int) (at_ : Int) = some ((c', 2, (l.length : Int), at'))))
  | 0, c, at_, hf, ha => by
    refine ⟨fun c' q h => ?_, fun h => by cases h⟩
    simp only [rdc, Option.some.injEq, Prod.mk.injEq] at h
    obtain ⟨rfl, rfl⟩ := h
    refine ⟨at_, Nat.le_refl _, ha, rfl, by omega, 1, fun k hk => ?_⟩
    obtain ⟨k, rfl⟩ : ∃ m, k = m + 1 := ⟨k - 1, by omega⟩
    rw [bits_Reader_class.l0, if_neg (by omega), show (4 : Int) = (c : Int) by omega]
  | f + 1, c, at_, hf, ha => by
    obtain ⟨KT, hT⟩ := Take_ev l hl at_ ha 1
    rcases hd : l.drop at_ with _ | ⟨b, r⟩
    · rw [take1_none l at_ hd ha] at hT
      refine ⟨fun c' q h => (by simp [rdc] at h), fun _ => ⟨(c : Int), (at_ : Int), KT + 1, fun k hk => ?_⟩⟩
      obtain ⟨k, rfl⟩ : ∃ m, k = m + 1 := ⟨k - 1, by omega⟩
      rw [bits_Reader_class.l0, if_pos (by omega), hT k (by omega), Option.bind_some]
      simp only
      rw [if_neg (by decide)]
    · obtain ⟨h1, h2, h3⟩ := drop_cons hd
      rw [take1 l at_ b r hd] at hT
      cases b with
      | false =>
        refine ⟨fun c' q h => ?_, fun h => (by simp [rdc] at h)⟩
        simp only [rdc, Option.some.injEq, Prod.mk.injEq] at h
        obtain ⟨rfl, rfl⟩ := h
        refine ⟨at_ + 1, by omega, by omega, h2, by omega, KT + 1, fun k hk => ?_⟩
        obtain ⟨k, rfl⟩ : ∃ m, k = m + 1 := ⟨k - 1, by omega⟩
        rw [bits_Reader_class.l0, if_pos (by omega), hT k (by omega), Option.bind_some]
        simp only
        rw [if_pos (by decide), if_pos (by decide)]
      | true =>
        obtain ⟨i1, i2⟩ := class_ev l hl f (c + 1) (at_ + 1) (by omega) (by omega)
        rw [h2] at i1 i2
        have w1 : Aside0 (wrap64 ((c : Int) + 1) = ((c + 1 : Nat) : Int)) := ⟨by rw [w64] <;> omega⟩
        have step : ∀ r, (∃ K, ∀ k, K ≤ k → bits_Reader_class.l0 k ((c + 1 : Nat) : Int) (Of l) (l.length : Int) ((at_ + 1 : Nat) : Int) = some (r)) → (∃ K, ∀ k, K ≤ k → bits_Reader_class.l0 k (c : Int) (Of l) (l.length : Int) (at_ : Int) = some (r)) := by
          rintro r ⟨K, hK⟩
          refine ⟨K + KT + 1, fun k hk => ?_⟩
          obtain ⟨k, rfl⟩ : ∃ m, k = m + 1 := ⟨k - 1, by omega⟩
          rw [bits_Reader_class.l0, if_pos (by omega), hT k (by omega), Option.bind_some]
          simp only
          rw [if_pos (by decide), if_neg (by decide), w1.out]
          exact hK k (by omega)
        refine ⟨fun c' q h => ?_, fun h => ?_⟩
        · obtain ⟨at', g1, g2, g3, g4, g5⟩ := i1 c' q h
          exact ⟨at', by omega, g2, g3, g4, step _ g5⟩
        · obtain ⟨c', at', g⟩ := i2 h
          exact ⟨c', at', step _ g⟩
theorem two_le {w : Nat} (h : w ≤ 64) : 2 ^ w ≤ 18446744073709551616 := by rw [← two64]; exact Nat.pow_le_pow_right (by decide) h
def numR (l : List Bool) (at_ : Nat) : Int × Int × Int × Int :=
  match numb (l.drop at_) with
  | some (n, j) => (n, 0, l.length, ((at_ + j : Nat) : Int))
  | none => (0, 2, l.length, at_)
theorem ReadNum_ev (l : List Bool) (hl : l.length ≤ 1000000) (at_ : Nat) (ha : at_ ≤ l.length) : (∃ K, ∀ k, K ≤ k → bits_Reader_Number.f k (Of l) (l.length : Int) (at_ : Int) = some (numR l at_)) := by
  obtain ⟨i1, i2⟩ := class_ev l hl 4 0 at_ rfl ha
  unfold numR numb
  rcases hr : rdc 4 0 (l.drop at_) with _ | ⟨c, q⟩
  · obtain ⟨c', at', K, hK⟩ := i2 hr
    refine ⟨K, fun k hk => ?_⟩
    unfold bits_Reader_Number.f bits_Reader_At.f bits_Reader_class.f
    rw [Option.bind_some]
    have := hK k hk
    simp only at this ⊢
    rw [show ((0 : Nat) : Int) = 0 from rfl] at this
    rw [this, Option.bind_some]
    simp only
    rw [if_neg (by decide)]
  · obtain ⟨at', g1, g2, rfl, g4, K, hK⟩ := i1 c q hr
    have hK' : ∀ k, K ≤ k → bits_Reader_class.f k (Of l) (l.length : Int) (at_ : Int) = some ((c : Int), 0, (l.length : Int), (at' : Int)) := fun k hk => hK k hk
    obtain ⟨KT, hT⟩ := Take_ev l hl at' g2 (wd c : Int)
    have hw := wd_le c
    have hql : (l.drop at').length = l.length - at' := List.length_drop
    simp only
    by_cases h1 : wd c ≤ (l.drop at').length
    · rw [if_pos h1]
      have ht : takeR l at' (wd c : Int) = (((bv ((l.drop at').take (wd c)) : Nat) : Int), 0, (l.length : Int), ((at' + wd c : Nat) : Int)) := by
        unfold takeR
        rw [if_neg (by omega), if_neg (by rw [hql] at h1; omega), Int.toNat_natCast]
      rw [ht] at hT
      obtain ⟨u, hu⟩ : ∃ u, u = bv ((l.drop at').take (wd c)) := ⟨_, rfl⟩
      have hlt : u < 18446744073709551616 := by
        have h2 := bv_lt ((l.drop at').take (wd c))
        rw [← hu, List.length_take] at h2
        exact Nat.lt_of_lt_of_le h2 (two_le (Nat.le_trans (Nat.min_le_left _ _) hw))
      rw [← hu] at hT ⊢
      obtain ⟨KC, hC⟩ := Class_ev (unfoldN u) (unfoldN_i64 u hlt)
      rw [fold_unfold] at hC
      have hun := Aside0.mk (unfold_ev u hlt)
      refine ⟨K + KT + KC + 1, fun k hk => ?_⟩
      obtain ⟨k, rfl⟩ : ∃ m, k = m + 1 := ⟨k - 1, by omega⟩
      unfold bits_Reader_Number.f bits_Reader_At.f
      rw [Option.bind_some]
      simp only
      rw [hK' _ (by omega), Option.bind_some]
      simp only
      rw [if_pos trivial, width_ev c g4, Option.bind_some, hT _ (by omega), Option.bind_some]
      simp only
      rw [if_pos trivial, hun.out, hC _ (by omega), Option.bind_some, bits_Reader_Number.j0]
      have e1 : at_ + ((l.drop at_).length - (l.drop at').length + wd c) = at' + wd c := by rw [List.length_drop, List.length_drop]; omega
      by_cases h2 : cls u = c
      · rw [if_pos h2, if_pos (by rw [h2]; simp)]
        simp only
        rw [e1]
      · rw [if_neg h2, if_neg (by intro h; exact h2 (by have := eq_of_beq h; omega))]
    · rw [if_neg h1]
      have ht : takeR l at' (wd c : Int) = (0, 2, (l.length : Int), (at' : Int)) := by
        unfold takeR
        rw [if_neg (by omega), if_pos (by rw [hql] at h1; omega)]
      rw [ht] at hT
      refine ⟨K + KT + 1, fun k hk => ?_⟩
      obtain ⟨k, rfl⟩ : ∃ m, k = m + 1 := ⟨k - 1, by omega⟩
      unfold bits_Reader_Number.f bits_Reader_At.f
      rw [Option.bind_some]
      simp only
      rw [hK' _ (by omega), Option.bind_some]
      simp only
      rw [if_pos trivial, width_ev c g4, Option.bind_some, hT _ (by omega), Option.bind_some]
      simp only
      rw [if_neg (by decide), bits_Reader_Number.j0, if_neg (by decide)]
theorem rdc_ld (c : Nat) (h : c ≤ 4) (r : List Bool) : rdc 4 0 (ld c ++ r) = some (c, r) := by
  rcases four h with rfl | rfl | rfl | rfl | rfl <;> rfl
theorem numb_coded (n : Int) (h : I64 n) (r : List Bool) : numb (coded n ++ r) = some (n, (coded n).length) := by
  obtain ⟨c, hc⟩ : ∃ c, c = cls (foldN n) := ⟨_, rfl⟩
  have hc4 : c ≤ 4 := by rw [hc]; exact cls_le _
  unfold numb
  have hco : coded n = ld c ++ low (foldN n) (wd c) := by rw [hc]; rfl
  have hll := low_length (foldN n) (wd c)
  rw [hco, List.append_assoc, rdc_ld c hc4]
  simp only
  have hb : bv ((low (foldN n) (wd c) ++ r).take (wd c)) = foldN n := by
    rw [List.take_append_of_le_length (by omega), List.take_of_length_le (by omega), bv_low]
    apply Nat.mod_eq_of_lt
    rw [hc]
    have hf := foldN_lt h
    unfold cls wd
    generalize foldN n = u at *
    by_cases h0 : u = 0
    · rw [if_pos h0]; simp [h0]
    by_cases h1 : u < 128
    · rw [if_neg h0, if_pos h1]; simpa using h1
    by_cases h2 : u < 4096
    · rw [if_neg h0, if_neg h1, if_pos h2]; simpa using h2
    by_cases h3 : u < 1048576
    · rw [if_neg h0, if_neg h1, if_neg h2, if_pos h3]; simpa using h3
    · rw [if_neg h0, if_neg h1, if_neg h2, if_neg h3]; simpa using hf
  rw [if_pos (by rw [List.length_append]; omega), hb, if_pos hc.symm, unfold_fold]
  congr 2
  rw [List.length_append, List.length_append, List.length_append]
  omega
end Go.Proofs.Ytmddmbagehjdeaa.Q
end
section
set_option linter.unusedVariables false
namespace Go.Proofs.Ytmddmbagehjdeaa.Q
open Go Go.RowKit Go.Proofs.Ytmddmbagehjdeaa.G Go.Proofs.YtmddmbagehjdeaaW.PrintWords Go.Proofs.YtmddmbagehjdeaaW.PrintLast Go.Proofs.YtmddmbagehjdeaaW.PrintMore
theorem awake17_ev : (∃ K, ∀ k, K ≤ k → windroselaw17_awake.f k = some (true)) := by
  have h : windroselaw17_awake.f 12 = some true := by decide +kernel
  exact Ev.of windroselaw17_awake.mono h
end Go.Proofs.Ytmddmbagehjdeaa.Q
end
section
set_option linter.unusedVariables false
namespace Go.Proofs.Ytmddmbagehjdeaa.Q
open Go Go.RowKit Go.Proofs.Ytmddmbagehjdeaa.G Go.Proofs.YtmddmbagehjdeaaW.PrintWords Go.Proofs.YtmddmbagehjdeaaW.PrintLast Go.Proofs.YtmddmbagehjdeaaW.PrintMore
def allc (l : List Int) : List Bool := (l.map coded).flatten
theorem allc_cons (n : Int) (l : List Int) : allc (n :: l) = coded n ++ allc l := rfl
theorem allc_append (a b : List Int) : allc (a ++ b) = allc a ++ allc b := by simp [allc]
theorem allc_len (l : List Int) : (allc l).length ≤ 68 * l.length := by
  induction l with
  | nil => simp [allc]
  | cons n l ih =>
    have := coded_le n
    rw [allc_cons, List.length_append, List.length_cons]
    omega
theorem take_snoc' (l : List Int) (i : Nat) (h : i < l.length) : l.take (i + 1) = l.take i ++ [rd l (i : Int)] := by
  rw [List.take_succ_eq_append_getElem h]
  congr 2
  simp [rd, List.getElem?_eq_getElem h]
theorem drop_cons' (l : List Int) (i : Nat) (h : i < l.length) : l.drop i = rd l (i : Int) :: l.drop (i + 1) := by
  rw [List.drop_eq_getElem_cons h]
  congr 1
  simp [rd, List.getElem?_eq_getElem h]
theorem rd_take (l : List Int) (m i : Nat) (h : i < m) : rd (l.take m) (i : Int) = rd l (i : Int) := by
  simp [rd, h]
theorem rows_read (l : List Int) (h : ∀ n ∈ l, I64 n) (m : Nat) (hm : m = min l.length 60) (acc : List Bool) (hacc : acc = allc (l.take m)) (d : Nat) : ∀ (i at_ : Nat), i + d = m → at_ ≤ acc.length → acc.drop at_ = allc ((l.take m).drop i) →
    (∃ K, ∀ k, K ≤ k → windroselaw17_BitsRows.l1 k l (i : Int) (Of acc) (acc.length : Int) (at_ : Int) = some (true)) := by
  have hl := allc_len (l.take m)
  rw [← hacc, List.length_take] at hl
  have hl' : acc.length ≤ 5000 := by omega
  have htl : (l.take m).length = m := by rw [List.length_take]; omega
  obtain ⟨KA, hA⟩ := awake17_ev
  induction d with
  | zero =>
    intro i at_ hi hat hd
    obtain rfl : i = m := by omega
    obtain ⟨K, hK⟩ := ReadNum_ev acc (by omega) at_ hat
    have hd' : acc.drop at_ = [] := by rw [hd, List.drop_of_length_le (by rw [htl]; exact Nat.le_refl _)]; rfl
    have hn : numR acc at_ = (0, 2, (acc.length : Int), (at_ : Int)) := by unfold numR; rw [hd']; rfl
    have hlen : acc.length = at_ := by
      have : acc.length ≤ at_ := by simpa using hd'
      omega
    rw [hn] at hK
    have hj : ∀ k, K + KA ≤ k → windroselaw17_BitsRows.j3 (k + 1) l (i : Int) false (Of acc) (acc.length : Int) (at_ : Int) = some true := fun k hk => by
      rw [windroselaw17_BitsRows.j3, if_neg (by decide), hK k (by omega), Option.bind_some]
      simp only
      rw [if_pos trivial]
      unfold bits_Reader_Left.f
      have w1 : Aside0 (wrap64 ((acc.length : Int) - (at_ : Int)) = 0) := ⟨by rw [w64] <;> omega⟩
      rw [Option.bind_some]
      simp only
      rw [w1.out, if_pos rfl, hA k (by omega), Option.bind_some]
    refine ⟨K + KA + 2, fun k hk => ?_⟩
    obtain ⟨k, rfl⟩ : ∃ m, k = m + 2 := ⟨k - 2, by omega⟩
    rw [windroselaw17_BitsRows.l1]
    by_cases h1 : (i : Int) < (l.length : Int)
    · rw [if_pos h1, decide_eq_false (by omega)]
      exact hj k (by omega)
    · rw [if_neg h1]
      exact hj k (by omega)
  | succ d ih =>
    intro i at_ hi hat hd
    have hil : i < l.length := by omega
    have hmem : I64 (rd l (i : Int)) := h _ (by simp only [rd, Int.toNat_natCast]; exact getD_mem l i 0 hil)
    rw [drop_cons' (l.take m) i (by omega), rd_take l m i (by omega), allc_cons] at hd
    have hnum : numR acc at_ = (rd l (i : Int), 0, (acc.length : Int), ((at_ + (coded (rd l (i : Int))).length : Nat) : Int)) := by
      unfold numR
      rw [hd, numb_coded _ hmem]
    have hdl := congrArg List.length hd
    rw [List.length_drop, List.length_append] at hdl
    have hd2 : acc.drop (at_ + (coded (rd l (i : Int))).length) = allc ((l.take m).drop (i + 1)) := by
      rw [← List.drop_drop, hd, List.drop_left]
    obtain ⟨K2, hK2⟩ := ih (i + 1) (at_ + (coded (rd l (i : Int))).length) (by omega) (by omega) hd2
    obtain ⟨K, hK⟩ := ReadNum_ev acc (by omega) at_ hat
    rw [hnum] at hK
    have w1 : Aside0 (wrap64 ((i : Int) + 1) = ((i + 1 : Nat) : Int)) := ⟨by rw [w64] <;> omega⟩
    refine ⟨K + K2 + 2, fun k hk => ?_⟩
    obtain ⟨k, rfl⟩ : ∃ m, k = m + 2 := ⟨k - 2, by omega⟩
    rw [windroselaw17_BitsRows.l1, if_pos (by omega), decide_eq_true (by omega), windroselaw17_BitsRows.j3, if_pos rfl, hK k (by omega), Option.bind_some]
    simp only
    rw [if_pos trivial, if_pos (by omega), if_pos (by omega), if_pos trivial, w1.out]
    exact hK2 k (by omega)
theorem rows_put (l : List Int) (hl : l.length ≤ maxLen) (h : ∀ n ∈ l, I64 n) (m : Nat) (hm : m = min l.length 60) (d : Nat) : ∀ (i : Nat), i + d = m →
    (∃ K, ∀ k, K ≤ k → windroselaw17_BitsRows.l0 k l ((allc (l.take i)).length : Int) (i : Int) (Of (allc (l.take i))) ((allc (l.take i)).length : Int) = some (true)) := by
  have hml : m ≤ 60 ∧ m ≤ l.length := by omega
  induction d with
  | zero =>
    intro i hi
    obtain rfl : i = m := by omega
    obtain ⟨acc, hacc⟩ : ∃ acc, acc = allc (l.take i) := ⟨_, rfl⟩
    have hal := allc_len (l.take i)
    rw [← hacc, List.length_take] at hal
    rw [← hacc]
    obtain ⟨K1, hK1⟩ := Read_ev acc (by omega)
    obtain ⟨K2, hK2⟩ := rows_read l h i hm acc hacc i 0 0 (by omega) (Nat.zero_le _) (by rw [hacc]; rfl)
    have hj : ∀ k, K1 + K2 ≤ k → windroselaw17_BitsRows.j1 (k + 1) l (acc.length : Int) (i : Int) false (Of acc) (acc.length : Int) = some true := fun k hk => by
      rw [windroselaw17_BitsRows.j1, if_neg (by decide), hK1 k (by omega), Option.bind_some, if_pos rfl]
      exact hK2 k (by omega)
    refine ⟨K1 + K2 + 2, fun k hk => ?_⟩
    obtain ⟨k, rfl⟩ : ∃ m, k = m + 2 := ⟨k - 2, by omega⟩
    rw [windroselaw17_BitsRows.l0]
    by_cases h1 : (i : Int) < (l.length : Int)
    · rw [if_pos h1, decide_eq_false (by omega)]
      exact hj k (by omega)
    · rw [if_neg h1]
      exact hj k (by omega)
  | succ d ih =>
    intro i hi
    have hil : i < l.length := by omega
    have hmem : I64 (rd l (i : Int)) := h _ (by simp only [rd, Int.toNat_natCast]; exact getD_mem l i 0 hil)
    have e1 : allc (l.take (i + 1)) = allc (l.take i) ++ coded (rd l (i : Int)) := by
      rw [take_snoc' l i hil, allc_append]
      simp [allc]
    have hal := allc_len (l.take i)
    have hcl := coded_le (rd l (i : Int))
    rw [List.length_take] at hal
    obtain ⟨K1, hK1⟩ := PutNum_ev (allc (l.take i)) (rd l (i : Int)) hmem (by omega) (by omega)
    obtain ⟨K2, hK2⟩ := Size_ev (rd l (i : Int)) hmem
    obtain ⟨K3, hK3⟩ := ih (i + 1) (by omega)
    rw [← e1] at hK1
    have w1 : Aside0 (wrap64 ((i : Int) + 1) = ((i + 1 : Nat) : Int)) := ⟨by rw [w64] <;> omega⟩
    have w2 : Aside0 (wrap64 (((allc (l.take i)).length : Int) + ((coded (rd l (i : Int))).length : Int)) = ((allc (l.take (i + 1))).length : Int)) := ⟨by rw [e1, List.length_append, w64] <;> omega⟩
    refine ⟨K1 + K2 + K3 + 2, fun k hk => ?_⟩
    obtain ⟨k, rfl⟩ : ∃ m, k = m + 2 := ⟨k - 2, by omega⟩
    rw [windroselaw17_BitsRows.l0, if_pos (by omega), decide_eq_true (by omega), windroselaw17_BitsRows.j1, if_pos rfl, if_pos (by omega), if_pos (by omega), hK1 k (by omega), Option.bind_some]
    simp only
    rw [if_pos trivial, hK2 k (by omega), Option.bind_some, w2.out, w1.out]
    exact hK3 k (by omega)
theorem BitsRows : ∀ (l0 : List Int), (l0.length ≤ maxLen ∧ ∀ y2 ∈ l0, (Lit.int .i64 y2).wf = true) → ∃ k, windroselaw17_BitsRows.f k l0 = some true := by
  intro l ⟨hl, hw⟩
  obtain ⟨K, hK⟩ := rows_put l hl (fun n hn => wf_i64 (hw n hn)) (min l.length 60) rfl (min l.length 60) 0 (by omega)
  refine ⟨K, ?_⟩
  have := hK K (Nat.le_refl _)
  rw [show l.take 0 = [] by simp, show allc [] = [] from rfl, show Of [] = [] from rfl] at this
  unfold windroselaw17_BitsRows.f
  exact this
end Go.Proofs.Ytmddmbagehjdeaa.Q
end
