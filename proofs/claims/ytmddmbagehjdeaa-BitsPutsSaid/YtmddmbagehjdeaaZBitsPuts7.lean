/- More lines for the row. -/
import Derived.Test.YtmddmbagehjdeaaZBitsPuts6
import Derived.Deep.Slices
import Derived.OpenShut
import Derived.ProofKit
set_option linter.unusedVariables false
set_option linter.unusedSimpArgs false
section
namespace Go.Proofs.YtmddmbagehjdeaaX
open Go Go.RowKit Go.Proofs.YtmddmbagehjdeaaW.PrintWords Go.ChangeShapes Go.WideShapes
def Rd (P : Program) (t : TypeId) {α : Type} (d : Kd α) (ok : α → Prop) : Prop :=
  ∀ {H : Type} (enc : TypeId × Value → H) (W : World) (base : Nat) (spare : Nat → Bool) (held : Bool) (fuel : Nat) (cs : List Value) (x : DataW H × List MemPlace),
    DataW.trod enc P W base spare held fuel t cs = some x → ∃ a, d.K W a cs ∧ ok a
def RdFs (P : Program) (L : List (TypeId × Nat)) (o e : Nat) {α : Type} (d : Kd α) (ok : α → Prop) : Prop :=
  ∀ {H : Type} (enc : TypeId × Value → H) (W : World) (base : Nat) (spare : Nat → Bool) (held : Bool) (fuel : Nat) (cs : List Value), cs.length = e →
    (∀ (i : Nat) (p : TypeId × Nat), L[i]? = some p → ∃ y, DataW.trod enc P W base spare held fuel p.1 ((cs.drop p.2).take (P.cellsOf p.1)) = some y) → ∃ a, d.K W a (cs.drop o) ∧ ok a
section
variable {P : Program} {t e : TypeId}
theorem Rd.int {k : IntKind} (ht : P.underlying t = some (.int k)) : Rd P t (Kd.int k) (fun n => (Lit.int k n).wf = true) := by
  intro H enc W base spare held fuel cs x h
  obtain ⟨n, rfl, _, hn⟩ := DataW.trod_int ht h
  exact ⟨n, rfl, hn⟩
theorem Rd.bool (ht : P.underlying t = some .bool) : Rd P t Kd.bool (fun _ => True) := by
  intro H enc W base spare held fuel cs x h
  obtain ⟨b, rfl, _⟩ := DataW.trod_bool ht h
  exact ⟨b, rfl, trivial⟩
theorem Rd.string (ht : P.underlying t = some .string) : Rd P t Kd.string (fun s => s.size ≤ maxLen) := by
  intro H enc W base spare held fuel cs x h
  obtain ⟨s, rfl, _, hs⟩ := DataW.trod_string ht h
  exact ⟨s, rfl, hs⟩
theorem cells_get {w : World} {base : Nat} {a : Addr} {n : Nat} {cs : List Value} (h : w.cells? base a n = some cs) : ∀ i u, cs[i]? = some u → w.cell? (a.add i) = some u := by
  intro i u hi
  obtain ⟨_, hl, hc⟩ := World.cells?_some h
  have hlt : i < cs.length := (List.getElem?_eq_some_iff.1 hi).1
  have := hc i (by omega)
  rw [hi] at this
  exact this
theorem Rd.slice {α : Type} {d : Kd α} {ok : α → Prop} (ht : P.underlying t = some (.slice e)) (he : P.cellsOf e = d.sz) (hd : Rd P e d ok) :
    Rd P t (Kd.slice e d) (fun l => l.length ≤ maxLen ∧ ∀ x ∈ l, ok x) := by
  intro H enc W base spare held fuel cs x h
  rcases Deep.open_slice ht h with ⟨rfl, _⟩ | ⟨a, len, cap, m, n, D, Pl, rfl, hb, hl, hm, hmm, rfl, hx⟩
  · exact ⟨[], ⟨none, 0, rfl, Nat.le_refl _, rfl, by simp, fun h0 => absurd h0 (Nat.lt_irrefl _)⟩, by simp [maxLen], fun x hx => by cases hx⟩
  · have hlm : len ≤ m := by rw [hmm]; split <;> omega
    have hall : ∀ i, i < len → ∃ y : α, (∃ c, W.cells? base (a.add (i * P.cellsOf e)) (P.cellsOf e) = some c ∧ d.K W y c) ∧ ok y := by
      intro i hi
      obtain ⟨c, h1, h2⟩ := hx i (by omega)
      obtain ⟨y, h3, h4⟩ := hd enc W base spare held n c _ h2
      exact ⟨y, ⟨c, h1, h3⟩, h4⟩
    have hlist : ∃ l : List α, l.length = len ∧ ∀ i y, l[i]? = some y → (∃ c, W.cells? base (a.add (i * P.cellsOf e)) (P.cellsOf e) = some c ∧ d.K W y c) ∧ ok y := by
      have key : ∀ k, k ≤ len → ∃ l : List α, l.length = k ∧ ∀ i y, l[i]? = some y → (∃ c, W.cells? base (a.add (i * P.cellsOf e)) (P.cellsOf e) = some c ∧ d.K W y c) ∧ ok y := by
        intro k
        induction k with
        | zero => exact fun _ => ⟨[], rfl, fun i y hy => by simp at hy⟩
        | succ k ih =>
          intro hk
          obtain ⟨l, hl1, hl2⟩ := ih (by omega)
          obtain ⟨y, hy⟩ := hall k (by omega)
          refine ⟨l ++ [y], by simp [hl1], fun i z hz => ?_⟩
          rcases Nat.lt_or_ge i l.length with hi | hi
          · rw [List.getElem?_append_left hi] at hz
            exact hl2 i z hz
          · rw [List.getElem?_append_right hi] at hz
            have h0 : i - l.length = 0 := by
              have := (List.getElem?_eq_some_iff.1 hz).1
              simp at this
              omega
            rw [h0] at hz
            simp at hz
            subst hz
            have : i = k := by omega
            subst this
            exact hy
      exact key len (Nat.le_refl _)
    obtain ⟨l, hl1, hl2⟩ := hlist
    refine ⟨l, ⟨some a, cap, by rw [hl1], by omega, rfl, by rw [hl1]; simp only [maxLen] at hm; omega, fun _ => ⟨a, rfl, fun j p hp => ?_⟩⟩, by omega, fun y hy => ?_⟩
    · obtain ⟨⟨c, h1, h2⟩, _⟩ := hl2 j p hp
      refine ⟨c, d.K_len h2, h2, fun i u hu => ?_⟩
      have := cells_get h1 i u hu
      rw [Deep.add_add, he] at this
      exact this
    · obtain ⟨i, hi, rfl⟩ := List.getElem_of_mem hy
      exact (hl2 i _ (List.getElem?_eq_getElem hi)).2
theorem RdFs.one {t o : Nat} {α : Type} {d : Kd α} {ok : α → Prop} (h : Rd P t d ok) : RdFs P [(t, o)] o (o + P.cellsOf t) d ok := by
  intro H enc W base spare held fuel cs hl hi
  obtain ⟨y, hy⟩ := hi 0 _ rfl
  obtain ⟨a, ha, hk⟩ := h enc W base spare held fuel _ _ hy
  rw [List.take_of_length_le (by simp [hl])] at ha
  exact ⟨a, ha, hk⟩
theorem RdFs.cons {t o e' : Nat} {L : List (TypeId × Nat)} {α β : Type} {d : Kd α} {d' : Kd β} {ok : α → Prop} {ok' : β → Prop} (h : Rd P t d ok) (hs : RdFs P L (o + P.cellsOf t) e' d' ok') :
    RdFs P ((t, o) :: L) o e' (Kd.pair d d') (fun x => ok x.1 ∧ ok' x.2) := by
  intro H enc W base spare held fuel cs hl hi
  obtain ⟨y, hy⟩ := hi 0 _ rfl
  obtain ⟨a, ha, hk⟩ := h enc W base spare held fuel _ _ hy
  obtain ⟨b, hb, hk'⟩ := hs enc W base spare held fuel cs hl (fun i p hp => hi (i + 1) p (by simpa using hp))
  refine ⟨(a, b), ⟨_, _, ?_, ha, hb⟩, hk, hk'⟩
  rw [← List.drop_drop]
  exact (List.take_append_drop _ _).symm
theorem Rd.struct {α β : Type} {d : Kd α} {ok : α → Prop} {fs : Array Field} (f : β → α) (g : α → β) (hg : ∀ a, f (g a) = a) (ht : P.underlying t = some (.struct fs))
    (h : RdFs P (fs.toList.map fun f => (f.type, f.offset)) 0 (P.cellsOf t) d ok) : Rd P t (Kd.iso d f) (fun x => ok (f x)) := by
  intro H enc W base spare held fuel cs x hx
  obtain ⟨xs, n, rfl, _, hl, hn, hi⟩ := DataW.trod_struct ht hx
  obtain ⟨a, ha, hk⟩ := h enc W base spare held n cs hl (fun i p hp => by
    rw [List.getElem?_map] at hp
    obtain ⟨f', hf', rfl⟩ := Option.map_eq_some_iff.1 hp
    have h1 := hi i f' (by simpa using hf')
    have hlt : i < xs.length := by
      have := (List.getElem?_eq_some_iff.1 hf').1
      simp at this
      omega
    rw [List.getElem?_eq_getElem hlt] at h1
    exact ⟨_, h1⟩)
  refine ⟨g a, ?_, by show ok (f (g a)); rw [hg]; exact hk⟩
  show d.K W (f (g a)) cs
  rw [hg]
  simpa using ha
theorem Rd.array {α β : Type} {d : Kd α} {ok : α → Prop} {n : Nat} (f : β → α) (g : α → β) (hg : ∀ a, f (g a) = a) (ht : P.underlying t = some (.array n e))
    (h : RdFs P ((List.range n).map fun i => (e, i * P.cellsOf e)) 0 (P.cellsOf t) d ok) : Rd P t (Kd.iso d f) (fun x => ok (f x)) := by
  intro H enc W base spare held fuel cs x hx
  obtain ⟨xs, m, rfl, _, hl, hn, hi⟩ := DataW.trod_array ht hx
  obtain ⟨a, ha, hk⟩ := h enc W base spare held m cs hl (fun i p hp => by
    rw [List.getElem?_map] at hp
    obtain ⟨j, hj, rfl⟩ := Option.map_eq_some_iff.1 hp
    obtain ⟨hlt, hj⟩ := List.getElem?_eq_some_iff.1 hj
    simp at hj hlt
    subst hj
    have h1 := hi i hlt
    rw [List.getElem?_eq_getElem (by omega)] at h1
    exact ⟨_, h1⟩)
  refine ⟨g a, ?_, by show ok (f (g a)); rw [hg]; exact hk⟩
  show d.K W (f (g a)) cs
  rw [hg]
  simpa using ha
theorem okWide_array {P : Program} {w : World} {r : Reach} {base : Nat} {t : TypeId} {v : Value} {n : Nat} {e : TypeId} (ht : P.underlying t = some (.array n e)) (h : Value.okWide P w r base t v) : ∃ cs, v = .agg cs ∧ cs.size = P.cellsOf t := by
  simp only [Value.okWide, ht] at h
  obtain ⟨cs, h1, h2, _⟩ := h
  exact ⟨cs, h1, h2⟩
end
end Go.Proofs.YtmddmbagehjdeaaX
end
section
namespace Go.Proofs.Ytmddmbagehjdeaa.Q
open Go Go.RowKit Go.Proofs.YtmddmbagehjdeaaW.PrintWords
theorem w64 {x : Int} (h : -9223372036854775808 ≤ x) (h' : x ≤ 9223372036854775807) : wrap64 x = x := by unfold wrap64; omega
theorem Ev.succ {α : Type} {g : Nat → Option α} {r : α} (K : Nat) (h : ∀ k, K ≤ k → g (k + 1) = some r) : Ev g r := by
  refine ⟨K + 1, fun k hk => ?_⟩
  obtain ⟨m, rfl⟩ : ∃ m, k = m + 1 := ⟨k - 1, by omega⟩
  exact h m (by omega)
theorem Ev.mk {α : Type} {g : Nat → Option α} {r : α} (K : Nat) (h : ∀ k, K ≤ k → g k = some r) : Ev g r := ⟨K, h⟩
theorem wf_i64 {x : Int} (h : (Lit.int .i64 x).wf = true) : -9223372036854775808 ≤ x ∧ x ≤ 9223372036854775807 := by
  simp [Lit.wf] at h
  have e1 : IntKind.min .i64 = -9223372036854775808 := by decide
  rw [e1] at h
  exact h
theorem getD_mem {α : Type} (l : List α) (i : Nat) (d : α) (h : i < l.length) : l.getD i d ∈ l := by
  rw [List.getD_eq_getElem?_getD, List.getElem?_eq_getElem h]
  exact List.getElem_mem h
theorem tmod_nn {a b : Int} (h : 0 ≤ a) : Int.tmod a b = a % b := Int.tmod_eq_emod_of_nonneg h
theorem tdiv_nn {a b : Int} (h : 0 ≤ a) : Int.tdiv a b = a / b := Int.tdiv_eq_ediv_of_nonneg h
end Go.Proofs.Ytmddmbagehjdeaa.Q
end
section
namespace Go.Proofs.Ytmddmbagehjdeaa.Q
open Go Go.RowKit Go.Proofs.YtmddmbagehjdeaaW.PrintWords Go.Proofs.YtmddmbagehjdeaaW.PrintMore
def bv : List Bool → Nat
  | [] => 0
  | b :: l => b.toNat * 2 ^ l.length + bv l
theorem bv_append : ∀ a b : List Bool, bv (a ++ b) = bv a * 2 ^ b.length + bv b
  | [], b => by simp [bv]
  | x :: a, b => by
    rw [List.cons_append, bv, bv, bv_append a b, List.length_append, Nat.pow_add, Nat.add_mul, Nat.mul_assoc, Nat.add_assoc]
theorem bv_lt : ∀ a : List Bool, bv a < 2 ^ a.length
  | [] => by simp [bv]
  | x :: a => by
    have h := bv_lt a
    have hx : x.toNat ≤ 1 := by cases x <;> decide
    have : x.toNat * 2 ^ a.length ≤ 1 * 2 ^ a.length := Nat.mul_le_mul_right _ hx
    rw [bv, List.length_cons, Nat.pow_succ]
    omega
def low (u : Nat) : Nat → List Bool
  | 0 => []
  | n + 1 => (u / 2 ^ n % 2 == 1) :: low u n
theorem low_length (u : Nat) : ∀ n, (low u n).length = n
  | 0 => rfl
  | n + 1 => by rw [low, List.length_cons, low_length u n]
theorem bv_low (u : Nat) : ∀ n, bv (low u n) = u % 2 ^ n
  | 0 => by simp [low, bv, Nat.mod_one]
  | n + 1 => by
    rw [low, bv, low_length, bv_low u n, Nat.pow_succ]
    have e : (u / 2 ^ n % 2 == 1).toNat = u / 2 ^ n % 2 := by
      rcases Nat.mod_two_eq_zero_or_one (u / 2 ^ n) with h | h <;> rw [h] <;> rfl
    rw [e, Nat.mod_mul]
    rw [Nat.mul_comm, Nat.add_comm]
theorem low_bit (a b n : Nat) (h : b < 2 ^ n) : ∀ m, m ≤ n → low (a * 2 ^ n + b) m = low b m
  | 0, _ => rfl
  | m + 1, hm => by
    rw [low, low, low_bit a b n h m (by omega)]
    have e : 2 ^ n = 2 ^ m * (2 * 2 ^ (n - m - 1)) := by rw [← Nat.pow_succ', ← Nat.pow_add]; congr 1; omega
    have h1 : (a * 2 ^ n + b) / 2 ^ m % 2 = b / 2 ^ m % 2 := by
      rw [e, show a * (2 ^ m * (2 * 2 ^ (n - m - 1))) = 2 ^ m * (a * 2 ^ (n - m - 1) * 2) by
        rw [Nat.mul_comm 2 (2 ^ (n - m - 1)), ← Nat.mul_assoc, ← Nat.mul_assoc, Nat.mul_comm a (2 ^ m), Nat.mul_assoc (2 ^ m) a, Nat.mul_assoc (2 ^ m)]]
      rw [Nat.mul_add_div (Nat.two_pow_pos m)]
      omega
    rw [h1]
theorem low_bv : ∀ l : List Bool, low (bv l) l.length = l
  | [] => rfl
  | x :: l => by
    have hb := bv_lt l
    rw [List.length_cons, low, bv, low_bit _ _ _ hb _ (Nat.le_refl _), low_bv l]
    congr 1
    rw [Nat.mul_comm, Nat.mul_add_div (Nat.two_pow_pos _), Nat.div_eq_of_lt hb]
    cases x <;> rfl
theorem low_split (u m : Nat) : ∀ n, low u (n + m) = low (u / 2 ^ m) n ++ low u m
  | 0 => by simp [low]
  | n + 1 => by
    rw [show n + 1 + m = (n + m) + 1 by omega, low, low, low_split u m n, List.cons_append]
    congr 2
    rw [Nat.div_div_eq_div_mul, ← Nat.pow_add, Nat.add_comm m n]
def byteOf (m : List Bool) : Nat := bv m * 2 ^ (8 - m.length)
def Of (l : List Bool) : List Int := (List.range ((l.length + 7) / 8)).map fun j => (byteOf ((l.drop (8 * j)).take 8) : Int)
theorem Of_length (l : List Bool) : (Of l).length = (l.length + 7) / 8 := by simp [Of]
theorem Of_getD (l : List Bool) (j : Nat) : (Of l).getD j 0 = (byteOf ((l.drop (8 * j)).take 8) : Int) := by
  rw [List.getD_eq_getElem?_getD]
  by_cases h : j < (l.length + 7) / 8
  · rw [Of, List.getElem?_map, List.getElem?_range h]
    rfl
  · rw [List.getElem?_eq_none (by rw [Of_length]; omega), List.drop_of_length_le (by omega)]
    rfl
theorem rd_Of (l : List Bool) (j : Nat) : rd (Of l) (j : Int) = (byteOf ((l.drop (8 * j)).take 8) : Int) := by
  unfold rd
  rw [Int.toNat_natCast, Of_getD]
theorem byteOf_lt (m : List Bool) (h : m.length ≤ 8) : byteOf m < 256 := by
  have hb := bv_lt m
  unfold byteOf
  have e : 256 = 2 ^ m.length * 2 ^ (8 - m.length) := by rw [← Nat.pow_add, show m.length + (8 - m.length) = 8 by omega]
  rw [e]
  exact (Nat.mul_lt_mul_right (Nat.two_pow_pos _)).2 hb
theorem eight {x : Nat} (h : x ≤ 8) : x = 0 ∨ x = 1 ∨ x = 2 ∨ x = 3 ∨ x = 4 ∨ x = 5 ∨ x = 6 ∨ x = 7 ∨ x = 8 := by omega
theorem byte_piece (p q r : List Bool) (h : p.length + q.length + r.length ≤ 8) (hq : 1 ≤ q.length) :
    (byteOf (p ++ q ++ r) * 2 ^ p.length % 256) / 2 ^ (8 - q.length) = bv q := by
  have hb := bv_lt q
  have hc : bv r * 2 ^ (8 - (p.length + q.length + r.length)) < 2 ^ (8 - p.length - q.length) := by
    have e : 2 ^ (8 - p.length - q.length) = 2 ^ r.length * 2 ^ (8 - (p.length + q.length + r.length)) := by rw [← Nat.pow_add]; congr 1; omega
    rw [e]
    exact (Nat.mul_lt_mul_right (Nat.two_pow_pos _)).2 (bv_lt r)
  have hbyte : byteOf (p ++ q ++ r) = bv p * 2 ^ (8 - p.length) + bv q * 2 ^ (8 - p.length - q.length) + bv r * 2 ^ (8 - (p.length + q.length + r.length)) := by
    unfold byteOf
    rw [bv_append, bv_append, List.length_append, List.length_append, Nat.add_mul, Nat.add_mul, Nat.add_mul]
    congr 2
    · rw [Nat.mul_assoc, Nat.mul_assoc, ← Nat.pow_add, ← Nat.pow_add]; congr 2; omega
    · rw [Nat.mul_assoc, ← Nat.pow_add]; congr 2; omega
  rw [hbyte]
  generalize bv p = a at *
  generalize bv q = b at *
  generalize bv r * 2 ^ (8 - (p.length + q.length + r.length)) = c at *
  generalize p.length = i at *
  generalize q.length = k at *
  have hik : i + k ≤ 8 := by omega
  clear hbyte h
  rcases eight (show i ≤ 8 by omega) with rfl | rfl | rfl | rfl | rfl | rfl | rfl | rfl | rfl <;>
  rcases eight (show k ≤ 8 by omega) with rfl | rfl | rfl | rfl | rfl | rfl | rfl | rfl | rfl <;>
  first
    | (exfalso; omega)
    | (simp only [Nat.reducePow, Nat.reduceSub] at *; omega)
theorem get_piece (l : List Bool) (at_ k : Nat) (hk : 1 ≤ k) (hin : at_ % 8 + k ≤ 8) (h : at_ + k ≤ l.length) :
    (byteOf ((l.drop (8 * (at_ / 8))).take 8) * 2 ^ (at_ % 8) % 256) / 2 ^ (8 - k) = bv ((l.drop at_).take k) := by
  have e : (l.drop (8 * (at_ / 8))).take 8 = ((l.drop (8 * (at_ / 8))).take (at_ % 8)) ++ ((l.drop at_).take k) ++ ((l.drop (at_ + k)).take (8 - at_ % 8 - k)) := by
    have e1 : l.drop at_ = (l.drop (8 * (at_ / 8))).drop (at_ % 8) := by rw [List.drop_drop]; congr 1; omega
    have e2 : l.drop (at_ + k) = (l.drop (8 * (at_ / 8))).drop (at_ % 8 + k) := by rw [List.drop_drop]; congr 1; omega
    rw [e1, e2]
    generalize l.drop (8 * (at_ / 8)) = m
    rw [List.append_assoc, ← List.drop_drop, ← List.take_add, ← List.take_add]
    congr 1
    omega
  have l1 : ((l.drop (8 * (at_ / 8))).take (at_ % 8)).length = at_ % 8 := by rw [List.length_take, List.length_drop]; omega
  have l2 : ((l.drop at_).take k).length = k := by rw [List.length_take, List.length_drop]; omega
  have l3 : ((l.drop (at_ + k)).take (8 - at_ % 8 - k)).length ≤ 8 - at_ % 8 - k := by rw [List.length_take]; omega
  have := byte_piece ((l.drop (8 * (at_ / 8))).take (at_ % 8)) ((l.drop at_).take k) ((l.drop (at_ + k)).take (8 - at_ % 8 - k)) (by omega) (by omega)
  rw [← e, l1, l2] at this
  exact this
theorem Of_more (l p : List Bool) (h0 : l.length % 8 ≠ 0) (h : l.length % 8 + p.length ≤ 8) :
    Of (l ++ p) = (Of l).set ((Of l).length - 1) ((byteOf ((l.drop (8 * (l.length / 8))).take 8) : Int) + bv p * 2 ^ (8 - l.length % 8 - p.length)) := by
  apply List.ext_getElem?
  intro j
  rw [List.getElem?_set, Of_length]
  by_cases hj : j < (l.length + 7) / 8
  · rw [Of, List.getElem?_map, List.getElem?_range (by rw [List.length_append]; omega), Option.map_some]
    split
    · rename_i e
      rw [if_pos (by omega)]
      have ej : j = l.length / 8 := by omega
      subst ej
      have hl : (l.drop (8 * (l.length / 8))).length = l.length % 8 := by rw [List.length_drop]; omega
      have t1 : (l.drop (8 * (l.length / 8))).take 8 = l.drop (8 * (l.length / 8)) := List.take_of_length_le (by omega)
      rw [List.drop_append_of_le_length (by omega), List.take_of_length_le (by rw [List.length_append]; omega), t1]
      unfold byteOf
      rw [bv_append, List.length_append, hl, Nat.add_mul, Nat.mul_assoc, ← Nat.pow_add, show p.length + (8 - (l.length % 8 + p.length)) = 8 - l.length % 8 by omega, show 8 - (l.length % 8 + p.length) = 8 - l.length % 8 - p.length by omega]
      simp
    · rename_i e
      rw [Of, List.getElem?_map, List.getElem?_range hj, Option.map_some]
      rw [List.drop_append_of_le_length (by omega), List.take_append_of_le_length (by rw [List.length_drop]; omega)]
  · rw [List.getElem?_eq_none (by rw [Of_length, List.length_append]; omega), if_neg (by omega), List.getElem?_eq_none (by rw [Of_length]; omega)]
theorem Of_new (l p : List Bool) (h0 : l.length % 8 = 0) (h : p.length ≤ 8) (hp : 1 ≤ p.length) : Of (l ++ p) = Of l ++ [(byteOf p : Int)] := by
  apply List.ext_getElem?
  intro j
  by_cases hj : j < (l.length + 7) / 8
  · rw [List.getElem?_append_left (by rw [Of_length]; exact hj), Of, Of, List.getElem?_map, List.getElem?_range (by rw [List.length_append]; omega), List.getElem?_map, List.getElem?_range hj, Option.map_some, Option.map_some]
    rw [List.drop_append_of_le_length (by omega), List.take_append_of_le_length (by rw [List.length_drop]; omega)]
  · rw [List.getElem?_append_right (by rw [Of_length]; omega), Of_length]
    by_cases hj2 : j = l.length / 8
    · subst hj2
      rw [Of, List.getElem?_map, List.getElem?_range (by rw [List.length_append]; omega), Option.map_some, show l.length / 8 - (l.length + 7) / 8 = 0 by omega]
      rw [show 8 * (l.length / 8) = l.length by omega, List.drop_left, List.take_of_length_le h]
      rfl
    · rw [List.getElem?_eq_none (by rw [Of_length, List.length_append]; omega), List.getElem?_eq_none (by rw [List.length_singleton]; omega)]
theorem byteOf_last (l : List Bool) (h0 : l.length % 8 ≠ 0) : byteOf ((l.drop (8 * (l.length / 8))).take 8) % 2 ^ (8 - l.length % 8) = 0 := by
  have hl : (l.drop (8 * (l.length / 8))).length = l.length % 8 := by rw [List.length_drop]; omega
  rw [List.take_of_length_le (by omega)]
  unfold byteOf
  rw [hl]
  exact Nat.mul_mod_left _ _
end Go.Proofs.Ytmddmbagehjdeaa.Q
end
section
namespace Go.Proofs.Ytmddmbagehjdeaa.Q
open Go Go.RowKit Go.Proofs.Ytmddmbagehjdeaa.G Go.Proofs.YtmddmbagehjdeaaW.PrintWords Go.Proofs.YtmddmbagehjdeaaW.PrintLast Go.Proofs.YtmddmbagehjdeaaW.PrintMore
theorem u8bits : IntKind.bits .u8 = 8 := rfl
theorem u64bits : IntKind.bits .u64 = 64 := rfl
theorem wraps_u64 (n : Int) (h0 : 0 ≤ n) (h1 : n < 2 ^ 64) : IntKind.u64.wrap n = n := by
  simp [IntKind.wrap, IntKind.bits, IntKind.signed]
  omega
theorem mn_nat (a b : Nat) : mn (a : Int) (b : Int) = ((min a b : Nat) : Int) := by
  unfold mn
  rcases Nat.lt_or_ge b a with h | h
  · rw [if_pos (by omega), Nat.min_eq_right (by omega)]
  · rw [if_neg (by omega), Nat.min_eq_left h]
theorem shr_nat (kd : IntKind) (x y : Nat) (hy : y ≤ kd.bits) : shr kd (x : Int) (y : Int) = ((x / 2 ^ y : Nat) : Int) := by
  unfold shr
  rw [Int.toNat_natCast, Nat.min_eq_left hy]
  simp
theorem shl8_nat (x y : Nat) (hy : y ≤ 8) : shl .u8 (x : Int) (y : Int) = ((x * 2 ^ y % 256 : Nat) : Int) := by
  unfold shl
  rw [Int.toNat_natCast, Nat.min_eq_left (by rw [u8bits]; exact hy), IntKind.wrap_u8]
  simp
theorem shl64_nat (x y : Nat) (hy : y ≤ 64) (h : x * 2 ^ y < 2 ^ 64) : shl .u64 (x : Int) (y : Int) = ((x * 2 ^ y : Nat) : Int) := by
  unfold shl
  rw [Int.toNat_natCast, Nat.min_eq_left (by rw [u64bits]; exact hy), show ((x : Int) * 2 ^ y) = ((x * 2 ^ y : Nat) : Int) by simp, wraps_u64 _ (Int.natCast_nonneg _) (by exact_mod_cast h)]
theorem put_piece (u n k i : Nat) (hk : 1 ≤ k) (hkn : k ≤ n) (hn : n ≤ 64) (hik : i + k ≤ 8) :
    shr .u8 (shl .u8 ((shr .u64 (u : Int) ((n - k : Nat) : Int)) % 256) ((8 - k : Nat) : Int)) (i : Int) = ((bv (low (u / 2 ^ (n - k)) k) * 2 ^ (8 - i - k) : Nat) : Int) := by
  rw [shr_nat .u64 u (n - k) (by rw [u64bits]; omega), show (((u / 2 ^ (n - k) : Nat) : Int) % 256) = ((u / 2 ^ (n - k) % 256 : Nat) : Int) by simp, shl8_nat _ _ (by omega), shr_nat .u8 _ _ (by rw [u8bits]; omega), bv_low]
  congr 1
  generalize u / 2 ^ (n - k) = q
  clear hkn hn
  rcases eight (show i ≤ 8 by omega) with rfl | rfl | rfl | rfl | rfl | rfl | rfl | rfl | rfl <;>
  rcases eight (show k ≤ 8 by omega) with rfl | rfl | rfl | rfl | rfl | rfl | rfl | rfl | rfl <;>
  first
    | (exfalso; omega)
    | (simp only [Nat.reducePow, Nat.reduceSub] at *; omega)
theorem or_low (x y : Nat) (i : Nat) (hx : x % 2 ^ i = 0) (hx1 : x < 256) (hy : y < 2 ^ i) (hy1 : y < 256) : bits .or .u8 (x : Int) (y : Int) = ((x + y : Nat) : Int) := by
  have h := bits_join .u8 8 (by decide) (fun n h0 h1 => wraps_u8 n h0 h1) i (x : Int) (y : Int) (Int.natCast_nonneg _) (by exact_mod_cast hx) (by exact_mod_cast hx1) (Int.natCast_nonneg _) (by exact_mod_cast hy) (by exact_mod_cast hy1)
  rw [h]
  simp
theorem bv_piece_lt (q k i : Nat) (hik : i + k ≤ 8) : bv (low q k) * 2 ^ (8 - i - k) < 2 ^ (8 - i) := by
  have h := bv_lt (low q k)
  rw [low_length] at h
  have e : 2 ^ (8 - i) = 2 ^ k * 2 ^ (8 - i - k) := by rw [← Nat.pow_add]; congr 1; omega
  rw [e]
  exact (Nat.mul_lt_mul_right (Nat.two_pow_pos _)).2 h
theorem put_loop (u : Nat) (hu : u < 2 ^ 64) (d : Nat) : ∀ (n : Nat) (l : List Bool), n ≤ d → n ≤ 64 → l.length + n ≤ 1000000 →
    (∃ K, ∀ k, K ≤ k → bits_put.l0 k (u : Int) (n : Int) (Of l) (l.length : Int) = some ((Of (l ++ low u n), ((l.length + n : Nat) : Int)))) := by
  induction d with
  | zero =>
    intro n l hn _ _
    obtain rfl : n = 0 := by omega
    refine Ev.succ 0 fun k _ => ?_
    rw [bits_put.l0, if_neg (by omega)]
    simp [low]
  | succ d ih =>
    intro n l hn h64 hl
    rcases Nat.eq_zero_or_pos n with rfl | hpos
    · refine Ev.succ 0 fun k _ => ?_
      rw [bits_put.l0, if_neg (by omega)]
      simp [low]
    obtain ⟨i, hi⟩ : ∃ i, i = l.length % 8 := ⟨_, rfl⟩
    obtain ⟨k, hk⟩ : ∃ k, k = min n (8 - i) := ⟨_, rfl⟩
    have hi8 : i < 8 := by omega
    have hk1 : 1 ≤ k := by omega
    have hkn : k ≤ n := by omega
    have hik : i + k ≤ 8 := by omega
    have hlow : low u n = low (u / 2 ^ (n - k)) k ++ low u (n - k) := by
      have := low_split u (n - k) k
      rwa [show k + (n - k) = n by omega] at this
    obtain ⟨p, hp⟩ : ∃ p, p = low (u / 2 ^ (n - k)) k := ⟨_, rfl⟩
    have hpl : p.length = k := by rw [hp, low_length]
    obtain ⟨K, hK⟩ := ih (n - k) (l ++ p) (by omega) (by omega) (by rw [List.length_append, hpl]; omega)
    rw [List.append_assoc, hp, ← hlow, ← hp, List.length_append, hpl, show l.length + k + (n - k) = l.length + n by omega] at hK
    refine Ev.succ K fun k0 hk0 => ?_
    have hpc := put_piece u n k i hk1 hkn h64 hik
    rw [← hp] at hpc
    have hlt : bv p * 2 ^ (8 - i - k) < 2 ^ (8 - i) := by rw [hp]; exact bv_piece_lt _ _ _ hik
    have h256 : bv p * 2 ^ (8 - i - k) < 256 := Nat.lt_of_lt_of_le hlt (Nat.le_trans (Nat.pow_le_pow_right (show 0 < 2 by decide) (Nat.sub_le 8 i)) (by decide : (2 : Nat) ^ 8 ≤ 256))
    have eOr0 := or_low 0 (bv p * 2 ^ (8 - i - k)) 8 (by decide) (by decide) h256 h256
    have hbb := byteOf_lt ((l.drop (8 * (l.length / 8))).take 8) (by rw [List.length_take]; exact Nat.min_le_left _ _)
    have eOr1 : l.length % 8 ≠ 0 → bits .or .u8 ((byteOf ((l.drop (8 * (l.length / 8))).take 8) : Nat) : Int) ((bv p * 2 ^ (8 - i - k) : Nat) : Int) = ((byteOf ((l.drop (8 * (l.length / 8))).take 8) + bv p * 2 ^ (8 - i - k) : Nat) : Int) := fun hz => by
      have hbl := byteOf_last l hz
      rw [← hi] at hbl
      exact or_low _ _ _ hbl hbb hlt h256
    clear hlt h256 hbb
    have e0 : Aside0 (Int.tmod (l.length : Int) 8 = (i : Int)) := ⟨by rw [tmod_nn (Int.natCast_nonneg _), hi]; simp⟩
    have e1 : Aside0 (wrap64 (8 - (i : Int)) = ((8 - i : Nat) : Int)) := ⟨by rw [w64] <;> omega⟩
    have e2 : Aside0 (mn (n : Int) ((8 - i : Nat) : Int) = (k : Int)) := ⟨by rw [mn_nat, hk]⟩
    have e3 : Aside0 (wrap64 ((n : Int) - (k : Int)) = ((n - k : Nat) : Int)) := ⟨by rw [w64] <;> omega⟩
    have e4 : Aside0 (wrap64 (8 - (k : Int)) = ((8 - k : Nat) : Int)) := ⟨by rw [w64] <;> omega⟩
    have e5 : Aside0 (wrap64 ((l.length : Int) + (k : Int)) = ((l.length + k : Nat) : Int)) := ⟨by rw [w64] <;> omega⟩
    have hOl := Of_length l
    have c1 : (n : Int) > 0 := by omega
    have c2 : (0 : Int) ≤ ((n - k : Nat) : Int) := Int.natCast_nonneg _
    have c3 : (0 : Int) ≤ ((8 - k : Nat) : Int) := Int.natCast_nonneg _
    have c4 : (0 : Int) ≤ (i : Int) := Int.natCast_nonneg _
    rw [bits_put.l0, e0.out, e1.out, e2.out, e3.out, e4.out, e5.out, if_pos c1]
    by_cases h0 : i = 0
    · have hz : l.length % 8 = 0 := by omega
      have hyl : ((Of l ++ [0] : List Int).length : Int) = ((l.length / 8 + 1 : Nat) : Int) := by rw [List.length_append, hOl, List.length_singleton]; congr 2; omega
      have e6 : Aside0 (wrap64 (((Of l ++ [0] : List Int).length : Int) - 1) = ((Of l).length : Int)) := ⟨by rw [hyl, hOl, w64] <;> omega⟩
      have c5 : (i : Int) = 0 := by omega
      have c6 : (Of l).length < 140737488355328 := by rw [hOl]; omega
      have c7 : (0 : Int) ≤ ((Of l).length : Int) := Int.natCast_nonneg _
      have c8 : ((Of l).length : Int) < ((Of l ++ [0] : List Int).length : Int) := by rw [hyl, hOl]; omega
      have e7 : rd (Of l ++ [0] : List Int) ((Of l).length : Int) = ((0 : Nat) : Int) := by simp [rd]
      have e8 : (Of l ++ [0] : List Int).set ((Of l).length : Int).toNat (bits .or .u8 (rd (Of l ++ [0] : List Int) ((Of l).length : Int)) (shr .u8 (shl .u8 ((shr .u64 (u : Int) ((n - k : Nat) : Int)) % 256) ((8 - k : Nat) : Int)) (i : Int))) = Of (l ++ p) := by
        rw [e7, hpc, eOr0, Of_new l p hz (by omega) (by omega), Int.toNat_natCast, List.set_append_right _ _ (Nat.le_refl _)]
        unfold byteOf
        rw [hpl, h0]
        simp
      rw [if_pos c5, if_pos c6, Option.bind_some, e6.out, if_pos c2, if_pos c7, if_pos c8, if_pos c3, if_pos c4, e8]
      exact hK k0 hk0
    · have hz : l.length % 8 ≠ 0 := by omega
      have e6 : Aside0 (wrap64 (((Of l).length : Int) - 1) = ((l.length / 8 : Nat) : Int)) := ⟨by rw [hOl, w64] <;> omega⟩
      have c5 : ¬ (i : Int) = 0 := by omega
      have c7 : (0 : Int) ≤ ((l.length / 8 : Nat) : Int) := Int.natCast_nonneg _
      have c8 : ((l.length / 8 : Nat) : Int) < ((Of l).length : Int) := by rw [hOl]; omega
      have e8 : (Of l).set ((l.length / 8 : Nat) : Int).toNat (bits .or .u8 (rd (Of l) ((l.length / 8 : Nat) : Int)) (shr .u8 (shl .u8 ((shr .u64 (u : Int) ((n - k : Nat) : Int)) % 256) ((8 - k : Nat) : Int)) (i : Int))) = Of (l ++ p) := by
        rw [rd_Of, hpc, eOr1 hz, Of_more l p hz (by omega), Int.toNat_natCast, hOl, hpl, ← hi]
        congr 1
        omega
      rw [if_neg c5, e6.out, if_pos c2, if_pos c7, if_pos c8, if_pos c3, if_pos c4, e8]
      exact hK k0 hk0
theorem put_ev (u : Nat) (hu : u < 2 ^ 64) (n : Nat) (l : List Bool) (hn : n ≤ 64) (hl : l.length + n ≤ 1000000) :
    (∃ K, ∀ k, K ≤ k → bits_put.f k (Of l) (l.length : Int) (u : Int) (n : Int) = some ((Of (l ++ low u n), ((l.length + n : Nat) : Int)))) := put_loop u hu n n l (Nat.le_refl _) hn hl
theorem get_loop (l : List Bool) (hl : l.length ≤ 1000000) (N : Int) (d : Nat) : ∀ (n at_ acc : Nat), n ≤ d → n ≤ 64 → at_ + n ≤ l.length → acc < 2 ^ (64 - n) →
    (∃ K, ∀ k, K ≤ k → bits_get.l0 k (at_ : Int) (n : Int) (acc : Int) (Of l) N = some (((acc * 2 ^ n + bv ((l.drop at_).take n) : Nat) : Int))) := by
  induction d with
  | zero =>
    intro n at_ acc hn _ _ _
    obtain rfl : n = 0 := by omega
    refine Ev.succ 0 fun k _ => ?_
    rw [bits_get.l0, if_neg (by omega)]
    simp [bv]
  | succ d ih =>
    intro n at_ acc hn h64 hat hacc
    rcases Nat.eq_zero_or_pos n with rfl | hpos
    · refine Ev.succ 0 fun k _ => ?_
      rw [bits_get.l0, if_neg (by omega)]
      simp [bv]
    obtain ⟨i, hi⟩ : ∃ i, i = at_ % 8 := ⟨_, rfl⟩
    obtain ⟨k, hk⟩ : ∃ k, k = min n (8 - i) := ⟨_, rfl⟩
    have hi8 : i < 8 := by omega
    have hk1 : 1 ≤ k := by omega
    have hkn : k ≤ n := by omega
    have hik : i + k ≤ 8 := by omega
    have hpc := get_piece l at_ k hk1 (by omega) (by omega)
    have hq := bv_lt ((l.drop at_).take k)
    have hql : ((l.drop at_).take k).length = k := by rw [List.length_take, List.length_drop]; omega
    rw [hql] at hq
    have hacck : acc * 2 ^ k < 2 ^ (64 - (n - k)) := by
      have e : 2 ^ (64 - (n - k)) = 2 ^ (64 - n) * 2 ^ k := by rw [← Nat.pow_add]; congr 1; omega
      rw [e]
      exact (Nat.mul_lt_mul_right (Nat.two_pow_pos _)).2 hacc
    have hsum : acc * 2 ^ k + bv ((l.drop at_).take k) < 2 ^ (64 - (n - k)) := by
      have e : 2 ^ (64 - (n - k)) = 2 ^ (64 - n) * 2 ^ k := by rw [← Nat.pow_add]; congr 1; omega
      have h1 : (acc + 1) * 2 ^ k ≤ 2 ^ (64 - n) * 2 ^ k := Nat.mul_le_mul_right _ hacc
      rw [Nat.add_mul, Nat.one_mul] at h1
      omega
    have hp64 : 2 ^ (64 - (n - k)) ≤ 2 ^ 64 := Nat.pow_le_pow_right (by decide) (by omega)
    obtain ⟨K, hK⟩ := ih (n - k) (at_ + k) (acc * 2 ^ k + bv ((l.drop at_).take k)) (by omega) (by omega) (by omega) hsum
    have efin : (acc * 2 ^ k + bv ((l.drop at_).take k)) * 2 ^ (n - k) + bv ((l.drop (at_ + k)).take (n - k)) = acc * 2 ^ n + bv ((l.drop at_).take n) := by
      have e : (l.drop at_).take n = (l.drop at_).take k ++ (l.drop (at_ + k)).take (n - k) := by
        rw [← List.drop_drop, ← List.take_add]
        congr 1
        omega
      have hl2 : ((l.drop (at_ + k)).take (n - k)).length = n - k := by rw [List.length_take, List.length_drop]; omega
      rw [e, bv_append, hl2, Nat.add_mul, Nat.mul_assoc, ← Nat.pow_add, show k + (n - k) = n by omega, Nat.add_assoc]
    rw [efin] at hK
    have h264 : acc * 2 ^ k < 2 ^ 64 := Nat.lt_of_lt_of_le hacck hp64
    have hb64 : bv ((l.drop at_).take k) < 2 ^ 64 := Nat.lt_of_lt_of_le (Nat.lt_of_le_of_lt (Nat.le_add_left _ _) hsum) hp64
    have e7 : bits .or .u64 ((acc * 2 ^ k : Nat) : Int) ((bv ((l.drop at_).take k) : Nat) : Int) = ((acc * 2 ^ k + bv ((l.drop at_).take k) : Nat) : Int) := by
      have h := bits_join .u64 64 (by decide) wraps_u64 k ((acc * 2 ^ k : Nat) : Int) ((bv ((l.drop at_).take k) : Nat) : Int) (Int.natCast_nonneg _) (by exact_mod_cast Nat.mul_mod_left _ _) (by exact_mod_cast h264) (Int.natCast_nonneg _) (by exact_mod_cast hq) (by exact_mod_cast hb64)
      rw [h]
      push_cast
      rfl
    have e8 := shl64_nat acc k (Nat.le_trans hkn h64) h264
    have e9 := wraps_u64 ((bv ((l.drop at_).take k) : Nat) : Int) (Int.natCast_nonneg _) (by exact_mod_cast hb64)
    have e6 : shr .u8 (shl .u8 (rd (Of l) ((at_ / 8 : Nat) : Int)) (i : Int)) ((8 - k : Nat) : Int) = ((bv ((l.drop at_).take k) : Nat) : Int) := by
      rw [rd_Of, shl8_nat _ _ (Nat.le_of_lt hi8), shr_nat .u8 _ _ (show 8 - k ≤ 8 from Nat.sub_le _ _), hi, hpc]
    clear h264 hb64 hacck hsum hp64 hq hacc efin
    refine Ev.succ K fun k0 hk0 => ?_
    have e0 : Aside0 (Int.tmod (at_ : Int) 8 = (i : Int)) := ⟨by rw [tmod_nn (Int.natCast_nonneg _), hi]; simp⟩
    have e00 : Aside0 (wrap64 (Int.tdiv (at_ : Int) 8) = ((at_ / 8 : Nat) : Int)) := ⟨by rw [tdiv_nn (Int.natCast_nonneg _), w64] <;> omega⟩
    have e1 : Aside0 (wrap64 (8 - (i : Int)) = ((8 - i : Nat) : Int)) := ⟨by rw [w64] <;> omega⟩
    have e2 : Aside0 (mn (n : Int) ((8 - i : Nat) : Int) = (k : Int)) := ⟨by rw [mn_nat, hk]⟩
    have e3 : Aside0 (wrap64 ((n : Int) - (k : Int)) = ((n - k : Nat) : Int)) := ⟨by rw [w64] <;> omega⟩
    have e4 : Aside0 (wrap64 (8 - (k : Int)) = ((8 - k : Nat) : Int)) := ⟨by rw [w64] <;> omega⟩
    have e5 : Aside0 (wrap64 ((at_ : Int) + (k : Int)) = ((at_ + k : Nat) : Int)) := ⟨by rw [w64] <;> omega⟩
    have hOl := Of_length l
    have c1 : (n : Int) > 0 := by omega
    have c2 : (0 : Int) ≤ ((at_ / 8 : Nat) : Int) := by omega
    have c3 : ((at_ / 8 : Nat) : Int) < ((Of l).length : Int) := by rw [hOl]; omega
    have c4 : (0 : Int) ≤ (i : Int) := by omega
    have c5 : (0 : Int) ≤ ((8 - k : Nat) : Int) := by omega
    have c6 : (0 : Int) ≤ (k : Int) := by omega
    rw [bits_get.l0, e0.out, e00.out, e1.out, e2.out, e3.out, e4.out, e5.out, if_pos c1, if_pos c2, if_pos c3, if_pos c4, if_pos c5, if_pos c6, e6, e8, e9, e7]
    exact hK k0 hk0
theorem get_ev (l : List Bool) (hl : l.length ≤ 1000000) (N : Int) (n at_ : Nat) (hn : n ≤ 64) (h : at_ + n ≤ l.length) :
    (∃ K, ∀ k, K ≤ k → bits_get.f k (Of l) N (at_ : Int) (n : Int) = some (((bv ((l.drop at_).take n) : Nat) : Int))) := by
  obtain ⟨K, hK⟩ := get_loop l hl N n n at_ 0 (Nat.le_refl _) hn h (Nat.two_pow_pos _)
  rw [Nat.zero_mul, Nat.zero_add] at hK
  exact ⟨K, hK⟩
end Go.Proofs.Ytmddmbagehjdeaa.Q
end
section
namespace Go.Proofs.Ytmddmbagehjdeaa.Q
open Go Go.RowKit Go.Proofs.Ytmddmbagehjdeaa.G Go.Proofs.YtmddmbagehjdeaaW.PrintWords Go.Proofs.YtmddmbagehjdeaaW.PrintLast Go.Proofs.YtmddmbagehjdeaaW.PrintMore
theorem wrap_u64 (n : Int) : IntKind.u64.wrap n = n % 18446744073709551616 := by simp [IntKind.wrap, IntKind.bits, IntKind.signed]
theorem bits_xor (k : IntKind) (j : Nat) (hj : j ≤ k.bits) (hk : ∀ n : Int, 0 ≤ n → n < 2 ^ j → k.wrap n = n) (a b : Nat) (ha : a < 2 ^ j) (hb : b < 2 ^ j) : bits .xor k a b = ((a ^^^ b : Nat) : Int) := by
  have hp : 2 ^ j ≤ 2 ^ k.bits := Nat.pow_le_pow_right (by decide) hj
  have ha' : a % 2 ^ k.bits = a := Nat.mod_eq_of_lt (Nat.lt_of_lt_of_le ha hp)
  have hb' : b % 2 ^ k.bits = b := Nat.mod_eq_of_lt (Nat.lt_of_lt_of_le hb hp)
  simp only [bits, BitVec.ofInt_natCast, BitVec.toNat_xor, BitVec.toNat_ofNat, ha', hb']
  exact hk _ (Int.natCast_nonneg _) (by exact_mod_cast Nat.xor_lt_two_pow ha hb)
theorem two64 : (2 : Nat) ^ 64 = 18446744073709551616 := by decide
theorem nat_xor_ones (x : Nat) (h : x < 18446744073709551616) : x ^^^ 18446744073709551615 = 18446744073709551615 - x := by
  have h1 : (BitVec.ofNat 64 x ^^^ BitVec.allOnes 64).toNat = x ^^^ 18446744073709551615 := by
    rw [BitVec.toNat_xor, BitVec.toNat_ofNat, Nat.mod_eq_of_lt (by rw [two64]; exact h), BitVec.toNat_allOnes]
  rw [← h1, BitVec.xor_allOnes, BitVec.toNat_not, BitVec.toNat_ofNat, Nat.mod_eq_of_lt (by rw [two64]; exact h)]
theorem xor_zero (x : Nat) (h : x < 18446744073709551616) : bits .xor .u64 (x : Int) 0 = (x : Int) := by
  have := bits_xor .u64 64 (by decide) wraps_u64 x 0 (by rw [two64]; exact h) (by decide)
  rw [Nat.xor_zero] at this
  exact this
theorem xor_ones (x : Nat) (h : x < 18446744073709551616) : bits .xor .u64 (x : Int) 18446744073709551615 = ((18446744073709551615 - x : Nat) : Int) := by
  have := bits_xor .u64 64 (by decide) wraps_u64 x 18446744073709551615 (by rw [two64]; exact h) (by decide)
  rw [nat_xor_ones x h] at this
  exact this
def foldN (n : Int) : Nat := if 0 ≤ n then (2 * n).toNat else (-2 * n - 1).toNat
def I64 (n : Int) : Prop := -9223372036854775808 ≤ n ∧ n ≤ 9223372036854775807
theorem foldN_lt {n : Int} (h : I64 n) : foldN n < 18446744073709551616 := by
  unfold I64 at h
  unfold foldN
  split <;> omega
theorem fold_ev (n : Int) (h : I64 n) : bits_fold.f n = some (foldN n : Int) := by
  unfold bits_fold.f I64 at *
  congr 1
  rw [wrap_u64, wrap_u64, wrap_u64]
  by_cases h0 : 0 ≤ n
  · have e1 : n / 9223372036854775808 % 18446744073709551616 = 0 := by omega
    have e2 : n % 18446744073709551616 * 2 % 18446744073709551616 = ((foldN n : Nat) : Int) := by unfold foldN; rw [if_pos h0]; omega
    rw [e1, e2, xor_zero _ (foldN_lt h)]
  · have e1 : n / 9223372036854775808 % 18446744073709551616 = 18446744073709551615 := by omega
    have e2 : n % 18446744073709551616 * 2 % 18446744073709551616 = (((2 * n + 18446744073709551616).toNat : Nat) : Int) := by omega
    rw [e1, e2, xor_ones _ (by omega)]
    unfold foldN
    rw [if_neg h0]
    omega
def cls (u : Nat) : Nat := if u = 0 then 0 else if u < 128 then 1 else if u < 4096 then 2 else if u < 1048576 then 3 else 4
def wd (c : Nat) : Nat := if c = 0 then 0 else if c = 1 then 7 else if c = 2 then 12 else if c = 3 then 20 else 64
theorem cls_le (u : Nat) : cls u ≤ 4 := by unfold cls; (repeat' split) <;> omega
theorem four {c : Nat} (h : c ≤ 4) : c = 0 ∨ c = 1 ∨ c = 2 ∨ c = 3 ∨ c = 4 := by omega
theorem width_ev (c : Nat) (h : c ≤ 4) : bits_width.f (c : Int) = some (wd c : Int) := by
  rcases four h with rfl | rfl | rfl | rfl | rfl <;> rfl
theorem bitLen_gt (u w : Nat) (hu : u < 18446744073709551616) : w < Lib.bitLen u ↔ 2 ^ w ≤ u := by
  by_cases hw : w ≤ 64
  · constructor
    · intro h
      rcases Nat.lt_or_ge u (2 ^ w) with h1 | h1
      · have := Lib.bitLen_le u w hw h1
        omega
      · exact h1
    · intro h
      have h1 := Lib.bitLen_shift w u h (by simpa using hu)
      have h2 : u / 2 ^ w ≠ 0 := by
        have := Nat.div_pos h (Nat.two_pow_pos w)
        omega
      have h3 := Lib.bitLen_half (u / 2 ^ w) h2 (Nat.lt_of_le_of_lt (Nat.div_le_self _ _) (by simpa using hu))
      omega
  · constructor
    · intro h
      have := Lib.bitLen_le u 64 (Nat.le_refl _) (by simpa using hu)
      omega
    · intro h
      have h1 : 2 ^ 64 ≤ 2 ^ w := Nat.pow_le_pow_right (by decide) (by omega)
      have h2 : (2 : Nat) ^ 64 = 18446744073709551616 := by decide
      omega
theorem len64_ev (u : Nat) (hu : u < 18446744073709551616) : bits_Len64.f (u : Int) = some (Lib.bitLen u : Int) := by
  unfold bits_Len64.f
  rw [if_pos (by omega), Int.toNat_natCast]
theorem class_step (n : Int) (h : I64 n) (c : Nat) (hc : c < 4) (K : Nat) (r : Option Int) (hr : ∀ k, K ≤ k → (if 2 ^ wd c ≤ foldN n then bits_Class.l0 k n ((c + 1 : Nat) : Int) else some (c : Int)) = r) : ∀ k, K + 1 ≤ k → bits_Class.l0 k n (c : Int) = r := by
  intro k hk
  obtain ⟨k, rfl⟩ : ∃ m, k = m + 1 := ⟨k - 1, by omega⟩
  rw [bits_Class.l0, if_pos (by omega), fold_ev n h, Option.bind_some, len64_ev _ (foldN_lt h), Option.bind_some, width_ev c (by omega), Option.bind_some]
  have e1 : Aside0 (wrap64 ((c : Int) + 1) = ((c + 1 : Nat) : Int)) := ⟨by rw [w64] <;> omega⟩
  have hb := bitLen_gt (foldN n) (wd c) (foldN_lt h)
  rw [← hr k (by omega), e1.out]
  by_cases h1 : 2 ^ wd c ≤ foldN n
  · rw [if_pos h1, if_pos (by have := hb.2 h1; omega)]
  · rw [if_neg h1, if_neg (by intro h2; exact h1 (hb.1 (by omega)))]
theorem Class_ev (n : Int) (h : I64 n) : (∃ K, ∀ k, K ≤ k → bits_Class.f k n = some (((cls (foldN n) : Nat) : Int))) := by
  refine ⟨5, fun k hk => ?_⟩
  unfold bits_Class.f
  have e0 : (0 : Int) = ((0 : Nat) : Int) := rfl
  rw [e0]
  refine class_step n h 0 (by decide) 4 _ (fun k hk => ?_) k hk
  have w0 : 2 ^ wd 0 = 1 := rfl
  have w1 : 2 ^ wd 1 = 128 := rfl
  have w2 : 2 ^ wd 2 = 4096 := rfl
  have w3 : 2 ^ wd 3 = 1048576 := rfl
  rw [w0]
  by_cases h0 : 1 ≤ foldN n
  · rw [if_pos h0]
    refine class_step n h 1 (by decide) 3 _ (fun k hk => ?_) k hk
    rw [w1]
    by_cases h1 : 128 ≤ foldN n
    · rw [if_pos h1]
      refine class_step n h 2 (by decide) 2 _ (fun k hk => ?_) k hk
      rw [w2]
      by_cases h2 : 4096 ≤ foldN n
      · rw [if_pos h2]
        refine class_step n h 3 (by decide) 1 _ (fun k hk => ?_) k hk
        rw [w3]
        by_cases h3 : 1048576 ≤ foldN n
        · rw [if_pos h3]
          obtain ⟨k, rfl⟩ : ∃ m, k = m + 1 := ⟨k - 1, by omega⟩
          rw [bits_Class.l0, if_neg (by omega)]
          unfold cls
          rw [if_neg (by omega), if_neg (by omega), if_neg (by omega), if_neg (by omega)]
        · rw [if_neg h3]
          unfold cls
          rw [if_neg (by omega), if_neg (by omega), if_neg (by omega), if_pos (by omega)]
      · rw [if_neg h2]
        unfold cls
        rw [if_neg (by omega), if_neg (by omega), if_pos (by omega)]
    · rw [if_neg h1]
      unfold cls
      rw [if_neg (by omega), if_pos (by omega)]
  · rw [if_neg h0]
    unfold cls
    rw [if_pos (by omega)]
def ld (c : Nat) : List Bool := if c = 4 then [true, true, true, true] else List.replicate c true ++ [false]
theorem lead_ev (c : Nat) (h : c ≤ 4) : bits_lead.f (c : Int) = some (((bv (ld c) : Nat) : Int), ((ld c).length : Int)) := by
  rcases four h with rfl | rfl | rfl | rfl | rfl <;> decide +kernel
theorem ld_len (c : Nat) (h : c ≤ 4) : (ld c).length ≤ 4 ∧ 1 ≤ (ld c).length := by rcases four h with rfl | rfl | rfl | rfl | rfl <;> decide
theorem wd_le (c : Nat) : wd c ≤ 64 := by unfold wd; (repeat' split) <;> omega
def coded (n : Int) : List Bool := ld (cls (foldN n)) ++ low (foldN n) (wd (cls (foldN n)))
theorem coded_len (n : Int) : (coded n).length = (ld (cls (foldN n))).length + wd (cls (foldN n)) := by rw [coded, List.length_append, low_length]
theorem coded_le (n : Int) : (coded n).length ≤ 68 := by
  have h1 := (ld_len (cls (foldN n)) (cls_le _)).1
  have h2 := wd_le (cls (foldN n))
  rw [coded_len]
  omega
theorem Size_ev (n : Int) (h : I64 n) : (∃ K, ∀ k, K ≤ k → bits_Size.f k n = some (((coded n).length : Int))) := by
  obtain ⟨K, hK⟩ := Class_ev n h
  have h1 := (ld_len (cls (foldN n)) (cls_le _)).1
  have h2 := wd_le (cls (foldN n))
  refine ⟨K, fun k hk => ?_⟩
  unfold bits_Size.f
  rw [hK k hk, Option.bind_some, lead_ev _ (cls_le _), Option.bind_some]
  simp only
  have e1 : wrap64 (((ld (cls (foldN n))).length : Int) + (wd (cls (foldN n)) : Int)) = ((coded n).length : Int) := by rw [coded_len, w64] <;> omega
  rw [width_ev _ (cls_le _), Option.bind_some, e1]
theorem Check_ev (l : List Bool) (hl : l.length ≤ 131072) : (∃ K, ∀ k, K ≤ k → bits_Check.f k (Of l) (l.length : Int) = some (0)) := by
  refine ⟨1, fun k hk => ?_⟩
  obtain ⟨k, rfl⟩ : ∃ m, k = m + 1 := ⟨k - 1, by omega⟩
  have hO := Of_length l
  have e1 : Aside0 (wrap64 ((l.length : Int) + 7) = ((l.length + 7 : Nat) : Int)) := ⟨by rw [w64] <;> omega⟩
  have e2 : Aside0 (wrap64 (((l.length + 7 : Nat) : Int) / 8) = (((l.length + 7) / 8 : Nat) : Int)) := ⟨by rw [w64] <;> omega⟩
  have e3 : Int.tmod (l.length : Int) 8 = ((l.length % 8 : Nat) : Int) := by rw [tmod_nn (Int.natCast_nonneg _)]; simp
  unfold bits_Check.f bits_bytes.f
  rw [if_neg (by omega), if_neg (by omega), Option.bind_some, e1.out, tdiv_nn (Int.natCast_nonneg _), e2.out, hO, show (((((l.length + 7) / 8 : Nat) : Int)) != ((((l.length + 7) / 8 : Nat) : Int))) = false by simp, bits_Check.j0, if_neg (by decide), e3]
  by_cases h0 : l.length % 8 = 0
  · rw [if_neg (by omega)]
  · have e4 : Aside0 (wrap64 (((Of l).length : Int) - 1) = ((l.length / 8 : Nat) : Int)) := ⟨by rw [hO, w64] <;> omega⟩
    have hz : shl .u8 (rd (Of l) ((l.length / 8 : Nat) : Int)) ((l.length % 8 : Nat) : Int) = 0 := by
      have hbl := byteOf_last l h0
      rw [rd_Of, shl8_nat _ _ (by omega)]
      have hr : l.length % 8 ≤ 8 := by omega
      generalize byteOf ((l.drop (8 * (l.length / 8))).take 8) = b at *
      generalize l.length % 8 = r at *
      clear e3
      rcases eight hr with rfl | rfl | rfl | rfl | rfl | rfl | rfl | rfl | rfl <;> (simp only [Nat.reducePow, Nat.reduceSub] at *; omega)
    rw [if_pos (by omega), e4.out, if_pos (by omega), if_pos (by omega), if_pos (by omega), if_pos hz]
end Go.Proofs.Ytmddmbagehjdeaa.Q
end
section
namespace Go.Proofs.Ytmddmbagehjdeaa.Q
open Go Go.RowKit Go.Proofs.Ytmddmbagehjdeaa.G Go.Proofs.YtmddmbagehjdeaaW.PrintWords Go.Proofs.YtmddmbagehjdeaaW.PrintLast Go.Proofs.YtmddmbagehjdeaaW.PrintMore
theorem own_ev (b : List Int) (N : Int) (h : b.length ≤ 1000000) : bits_own.f b N = some (b, N) := by
  unfold bits_own.f slices_Clone_byte_byte.f
  rw [if_pos (by omega)]
  rfl
theorem low_ld (c : Nat) (h : c ≤ 4) : low (bv (ld c)) (ld c).length = ld c := low_bv _
theorem bv_ld_lt (c : Nat) (h : c ≤ 4) : bv (ld c) < 18446744073709551616 := by rcases four h with rfl | rfl | rfl | rfl | rfl <;> decide
theorem PutNum_ev (l : List Bool) (n : Int) (h : I64 n) (hl : l.length ≤ 131072) (hfit : l.length + (coded n).length ≤ 131072) :
    (∃ K, ∀ k, K ≤ k → bits_Number.f k (Of l) (l.length : Int) n = some ((Of (l ++ coded n), ((l ++ coded n).length : Int), 0))) := by
  obtain ⟨c, hc⟩ : ∃ c, c = cls (foldN n) := ⟨_, rfl⟩
  have hc4 : c ≤ 4 := by rw [hc]; exact cls_le _
  have h1 := ld_len c hc4
  have h2 := wd_le c
  have hcl := coded_len n
  rw [← hc] at hcl
  obtain ⟨K1, e1⟩ := Check_ev l hl
  obtain ⟨K2, e2⟩ := Size_ev n h
  obtain ⟨K3, e3⟩ := Class_ev n h
  obtain ⟨K4, e4⟩ := put_ev (bv (ld c)) (by rw [two64]; exact bv_ld_lt c hc4) (ld c).length l (by omega) (by omega)
  obtain ⟨K5, e5⟩ := put_ev (foldN n) (by rw [two64]; exact foldN_lt h) (wd c) (l ++ ld c) h2 (by rw [List.length_append]; omega)
  rw [low_ld c hc4] at e4
  rw [List.append_assoc, List.length_append] at e5
  have hco : ld c ++ low (foldN n) (wd c) = coded n := by rw [hc]; rfl
  rw [hco] at e5
  refine ⟨K1 + K2 + K3 + K4 + K5, fun k hk => ?_⟩
  have hO := Of_length l
  unfold bits_Number.f
  have w1 : Aside0 (wrap64 (131072 - (l.length : Int)) = ((131072 - l.length : Nat) : Int)) := ⟨by rw [w64] <;> omega⟩
  have c1 : ¬ ((coded n).length : Int) > ((131072 - l.length : Nat) : Int) := by omega
  rw [e1 k (by omega), Option.bind_some, if_pos rfl, own_ev _ _ (by rw [hO]; omega), Option.bind_some, e2 k (by omega), Option.bind_some]
  simp only
  rw [w1.out, if_neg c1, e3 k (by omega), Option.bind_some, ← hc, lead_ev c hc4, Option.bind_some]
  simp only
  rw [e4 k (by omega), Option.bind_some, fold_ev n h, Option.bind_some, width_ev c hc4, Option.bind_some]
  simp only
  rw [e5 k (by omega), Option.bind_some]
  simp only [List.length_append, hcl, Nat.add_assoc]
end Go.Proofs.Ytmddmbagehjdeaa.Q
end
section
namespace Go.Proofs.Ytmddmbagehjdeaa.Q
open Go Go.RowKit Go.Proofs.Ytmddmbagehjdeaa.G Go.Proofs.YtmddmbagehjdeaaW.PrintWords Go.Proofs.YtmddmbagehjdeaaW.PrintLast Go.Proofs.YtmddmbagehjdeaaW.PrintMore
theorem awake17_ev : (∃ K, ∀ k, K ≤ k → windroselaw17_awake.f k = some (true)) := by
  have h : windroselaw17_awake.f 12 = some true := by decide +kernel
  exact Ev.of windroselaw17_awake.mono h
end Go.Proofs.Ytmddmbagehjdeaa.Q
end
section
namespace Go.Proofs.Ytmddmbagehjdeaa.Q
open Go Go.RowKit Go.Proofs.Ytmddmbagehjdeaa.G Go.Proofs.YtmddmbagehjdeaaW.PrintWords Go.Proofs.YtmddmbagehjdeaaW.PrintLast Go.Proofs.YtmddmbagehjdeaaW.PrintMore
theorem shr_zero (u : Nat) (n : Nat) (hn : n < 64) : (shr .u64 (u : Int) (n : Int) != 0) = decide (u / 2 ^ n ≠ 0) := by
  rw [shr_nat .u64 _ _ (by rw [u64bits]; omega)]
  rw [Bool.eq_iff_iff]
  simp only [bne_iff_ne, decide_eq_true_eq, ne_eq]
  omega
noncomputable def putR (l : List Bool) (u : Nat) (n : Int) : List Int × Int × Int :=
  open Classical in
  if n < 0 ∨ 64 < n ∨ n < 64 ∧ u / 2 ^ n.toNat ≠ 0 then (Of l, l.length, 1)
  else if ((131072 - l.length : Nat) : Int) < n then (Of l, l.length, 6)
  else (Of (l ++ low u n.toNat), ((l.length + n.toNat : Nat) : Int), 0)
theorem Put17_ev (l : List Bool) (hl : l.length ≤ 131072) (u : Nat) (hu : u < 18446744073709551616) (n : Int) : (∃ K, ∀ k, K ≤ k → bits_Put.f k (Of l) (l.length : Int) (u : Int) n = some (putR l u n)) := by
  obtain ⟨KC, hC⟩ := Check_ev l hl
  have hO := Of_length l
  have hown := own_ev (Of l) (l.length : Int) (by rw [hO]; omega)
  unfold putR
  by_cases h0 : n < 0
  · rw [if_pos (.inl h0)]
    refine ⟨KC + 1, fun k hk => ?_⟩
    obtain ⟨k, rfl⟩ : ∃ m, k = m + 1 := ⟨k - 1, by omega⟩
    unfold bits_Put.f
    rw [hC _ (by omega), Option.bind_some, if_pos rfl, hown, Option.bind_some, if_pos h0, bits_Put.j0, if_pos rfl]
  by_cases h1 : 64 < n
  · rw [if_pos (.inr (.inl h1))]
    refine ⟨KC + 1, fun k hk => ?_⟩
    obtain ⟨k, rfl⟩ : ∃ m, k = m + 1 := ⟨k - 1, by omega⟩
    unfold bits_Put.f
    rw [hC _ (by omega), Option.bind_some, if_pos rfl, hown, Option.bind_some, if_neg h0, if_pos h1, bits_Put.j0, if_pos rfl]
  obtain ⟨m, rfl⟩ := Int.eq_ofNat_of_zero_le (show 0 ≤ n by omega)
  rw [Int.toNat_natCast]
  have w1 : Aside0 (wrap64 (131072 - (l.length : Int)) = ((131072 - l.length : Nat) : Int)) := ⟨by rw [w64] <;> omega⟩
  by_cases h2 : m < 64 ∧ u / 2 ^ m ≠ 0
  · rw [if_pos (.inr (.inr ⟨by omega, h2.2⟩))]
    refine ⟨KC + 1, fun k hk => ?_⟩
    obtain ⟨k, rfl⟩ : ∃ m, k = m + 1 := ⟨k - 1, by omega⟩
    have hz := h2.2
    have h2' := h2.1
    clear h2
    unfold bits_Put.f
    rw [hC _ (by omega), Option.bind_some, if_pos rfl, hown, Option.bind_some, if_neg h0, if_neg h1, if_pos (by omega), if_pos (Int.natCast_nonneg _), shr_zero u m h2', decide_eq_true hz, bits_Put.j0, if_pos rfl]
  · have hn : ¬ ((m : Int) < 0 ∨ 64 < (m : Int) ∨ (m : Int) < 64 ∧ u / 2 ^ m ≠ 0) := by
      rintro (h | h | h)
      · exact h0 h
      · exact h1 h
      · exact h2 ⟨Int.ofNat_lt.1 h.1, h.2⟩
    rw [if_neg hn]
    have rest : (∃ K, ∀ k, K ≤ k → bits_Put.j0 k (u : Int) (m : Int) false (Of l) (l.length : Int) = some ((if ((131072 - l.length : Nat) : Int) < (m : Int) then (Of l, (l.length : Int), (6 : Int)) else (Of (l ++ low u m), ((l.length + m : Nat) : Int), 0)))) := by
      clear hn h2
      by_cases h3 : ((131072 - l.length : Nat) : Int) < (m : Int)
      · rw [if_pos h3]
        refine ⟨1, fun k hk => ?_⟩
        obtain ⟨k, rfl⟩ : ∃ m, k = m + 1 := ⟨k - 1, by omega⟩
        rw [bits_Put.j0, if_neg (by decide), w1.out, if_pos h3]
      · rw [if_neg h3]
        obtain ⟨K, hK⟩ := put_ev u (by rw [two64]; exact hu) m l (by omega) (by omega)
        refine ⟨K + 1, fun k hk => ?_⟩
        obtain ⟨k, rfl⟩ : ∃ m, k = m + 1 := ⟨k - 1, by omega⟩
        rw [bits_Put.j0, if_neg (by decide), w1.out, if_neg h3, hK k (by omega), Option.bind_some]
    obtain ⟨K, hK⟩ := rest
    refine ⟨KC + K, fun k hk => ?_⟩
    unfold bits_Put.f
    rw [hC _ (by omega), Option.bind_some, if_pos rfl, hown, Option.bind_some, if_neg h0, if_neg h1]
    by_cases h4 : m < 64
    · have hz : ¬ u / 2 ^ m ≠ 0 := fun hz => h2 ⟨h4, hz⟩
      clear h2 hn
      rw [if_pos (by omega), if_pos (Int.natCast_nonneg _), shr_zero u m h4, decide_eq_false hz]
      exact hK k (by omega)
    · clear h2 hn
      rw [if_neg (by omega)]
      exact hK k (by omega)
theorem join_loop (m : List Bool) (hm : m.length ≤ 131072) (l : List Bool) (hl : l.length + m.length ≤ 131072) (d : Nat) : ∀ at_, m.length - at_ ≤ d → at_ ≤ m.length →
    ∀ at', at' = at_ ∨ (m.length ≤ at' ∧ at_ = m.length ∧ at' ≤ 1000000) → (∃ K, ∀ k, K ≤ k → bits_Join.l0 k (at' : Int) (Of (l ++ m.take at_)) ((l ++ m.take at_).length : Int) (Of m) (m.length : Int) = some ((Of (l ++ m), ((l ++ m).length : Int), 0))) := by
  induction d with
  | zero =>
    intro at_ hd ha at' h
    refine ⟨1, fun k hk => ?_⟩
    obtain ⟨k, rfl⟩ : ∃ m, k = m + 1 := ⟨k - 1, by omega⟩
    rw [bits_Join.l0, if_neg (by omega), List.take_of_length_le (by omega)]
  | succ d ih =>
    intro at_ hd ha at' h
    by_cases h0 : m.length ≤ at_
    · refine ⟨1, fun k hk => ?_⟩
      obtain ⟨k, rfl⟩ : ∃ m, k = m + 1 := ⟨k - 1, by omega⟩
      rw [bits_Join.l0, if_neg (by omega), List.take_of_length_le (by omega)]
    obtain rfl : at' = at_ := by omega
    obtain ⟨n, hn⟩ : ∃ n, n = min 64 (m.length - at') := ⟨_, rfl⟩
    have hq : ((m.drop at').take n).length = n := by rw [List.length_take, List.length_drop]; omega
    have hbl := bv_lt ((m.drop at').take n)
    rw [hq] at hbl
    obtain ⟨KG, hG⟩ := get_ev m (by omega) (m.length : Int) n at' (by omega) (by omega)
    have hll : (l ++ m.take at').length + n ≤ 1000000 := by rw [List.length_append, List.length_take]; omega
    obtain ⟨KP, hP⟩ := put_ev (bv ((m.drop at').take n)) (Nat.lt_of_lt_of_le hbl (Nat.pow_le_pow_right (by decide) (by omega))) n (l ++ m.take at') (by omega) hll
    have e1 : low (bv ((m.drop at').take n)) n = (m.drop at').take n := by
      have := low_bv ((m.drop at').take n)
      rwa [hq] at this
    have e2 : l ++ m.take at' ++ (m.drop at').take n = l ++ m.take (at' + n) := by rw [List.append_assoc, ← List.take_add]
    have e3 : (l ++ m.take at').length + n = (l ++ m.take (at' + n)).length := by
      have h_ := congrArg List.length e2
      rw [List.length_append, hq] at h_
      exact h_
    rw [e1, e2, e3] at hP
    obtain ⟨K, hK⟩ := ih (at' + n) (by omega) (by omega) (at' + 64) (by omega)
    have w1 : Aside0 (wrap64 ((m.length : Int) - (at' : Int)) = ((m.length - at' : Nat) : Int)) := ⟨by rw [w64] <;> omega⟩
    have w2 : Aside0 (wrap64 ((at' : Int) + 64) = ((at' + 64 : Nat) : Int)) := ⟨by rw [w64] <;> omega⟩
    have w3 : mn 64 ((m.length - at' : Nat) : Int) = (n : Int) := by rw [show (64 : Int) = ((64 : Nat) : Int) from rfl, mn_nat, hn]
    clear hbl
    refine ⟨KG + KP + K + 1, fun k hk => ?_⟩
    obtain ⟨k, rfl⟩ : ∃ m, k = m + 1 := ⟨k - 1, by omega⟩
    rw [bits_Join.l0, if_pos (by omega), w1.out, w2.out, w3, hG k (by omega), Option.bind_some, hP k (by omega), Option.bind_some]
    exact hK k (by omega)
def joinR (l m : List Bool) : List Int × Int × Int := if l.length + m.length ≤ 131072 then (Of (l ++ m), ((l ++ m).length : Int), 0) else (Of l, (l.length : Int), 6)
theorem Join17_ev (l m : List Bool) (hl : l.length ≤ 131072) (hm : m.length ≤ 131072) : (∃ K, ∀ k, K ≤ k → bits_Join.f k (Of l) (l.length : Int) (Of m) (m.length : Int) = some (joinR l m)) := by
  obtain ⟨K1, h1⟩ := Check_ev l hl
  obtain ⟨K2, h2⟩ := Check_ev m hm
  have hO := Of_length l
  have hown := own_ev (Of l) (l.length : Int) (by rw [hO]; omega)
  have w1 : Aside0 (wrap64 (131072 - (l.length : Int)) = ((131072 - l.length : Nat) : Int)) := ⟨by rw [w64] <;> omega⟩
  unfold joinR
  by_cases h3 : l.length + m.length ≤ 131072
  · rw [if_pos h3]
    obtain ⟨K, hK⟩ := join_loop m hm l h3 m.length 0 (by omega) (Nat.zero_le _) 0 (.inl rfl)
    rw [show l ++ m.take 0 = l by simp, show ((0 : Nat) : Int) = 0 from rfl] at hK
    refine ⟨K1 + K2 + K + 1, fun k hk => ?_⟩
    obtain ⟨k, rfl⟩ : ∃ m, k = m + 1 := ⟨k - 1, by omega⟩
    unfold bits_Join.f
    rw [h1 _ (by omega), Option.bind_some, if_pos rfl, h2 _ (by omega), Option.bind_some, show ((0 : Int) != 0) = false from rfl, bits_Join.j0, if_neg (by decide), hown, Option.bind_some]
    simp only
    rw [w1.out, if_neg (by omega)]
    exact hK k (by omega)
  · rw [if_neg h3]
    refine ⟨K1 + K2 + 1, fun k hk => ?_⟩
    obtain ⟨k, rfl⟩ : ∃ m, k = m + 1 := ⟨k - 1, by omega⟩
    unfold bits_Join.f
    rw [h1 _ (by omega), Option.bind_some, if_pos rfl, h2 _ (by omega), Option.bind_some, show ((0 : Int) != 0) = false from rfl, bits_Join.j0, if_neg (by decide), hown, Option.bind_some]
    simp only
    rw [w1.out, if_pos (by omega)]
end Go.Proofs.Ytmddmbagehjdeaa.Q
end
section
namespace Go.Proofs.Ytmddmbagehjdeaa.Q
open Go Go.RowKit Go.Proofs.Ytmddmbagehjdeaa.G Go.Proofs.YtmddmbagehjdeaaW.PrintWords Go.Proofs.YtmddmbagehjdeaaW.PrintLast Go.Proofs.YtmddmbagehjdeaaW.PrintMore
def Byt (b : List Int) : Prop := ∀ x ∈ b, 0 ≤ x ∧ x ≤ 255
theorem wf_u8 {x : Int} (h : (Lit.int .u8 x).wf = true) : 0 ≤ x ∧ x ≤ 255 := by
  simp [Lit.wf] at h
  have e1 : IntKind.min .u8 = 0 := by decide
  have e2 : IntKind.max .u8 = 255 := by decide
  rw [e1, e2] at h
  exact h
theorem Byt.rd {b : List Int} (h : Byt b) (i : Int) : 0 ≤ rd b i ∧ rd b i ≤ 255 := by
  unfold Go.Proofs.YtmddmbagehjdeaaW.PrintWords.rd
  by_cases hi : i.toNat < b.length
  · exact h _ (getD_mem b _ 0 hi)
  · rw [List.getD_eq_getElem?_getD, List.getElem?_eq_none (by omega)]
    exact ⟨by decide, by decide⟩
def Good (b : List Int) (N : Int) : Prop := 0 ≤ N ∧ N ≤ 131072 ∧ (b.length : Int) = (N + 7) / 8 ∧ (N % 8 = 0 ∨ rd b (N / 8) % 2 ^ (8 - (N % 8).toNat) = 0)
noncomputable instance (b : List Int) (N : Int) : Decidable (Good b N) := Classical.propDecidable _
theorem last_zero (c : Nat) (r : Nat) (hr : r ≤ 8) (h1 : 1 ≤ r) (hc : c ≤ 255) : c * 2 ^ r % 256 = 0 ↔ c % 2 ^ (8 - r) = 0 := by
  rcases eight hr with rfl | rfl | rfl | rfl | rfl | rfl | rfl | rfl | rfl <;> (simp only [Nat.reducePow, Nat.reduceSub] at *; omega)
theorem check_gen (b : List Int) (hb : Byt b) (N : Int) (hN : I64 N) (hl : b.length ≤ maxLen) : (∃ K, ∀ k, K ≤ k → bits_Check.f k b N = some ((if Good b N then 0 else 1))) := by
  unfold maxLen at hl
  unfold I64 at hN
  refine ⟨1, fun k hk => ?_⟩
  obtain ⟨k, rfl⟩ : ∃ m, k = m + 1 := ⟨k - 1, by omega⟩
  unfold bits_Check.f bits_bytes.f
  have bad : ¬ Good b N → ∀ x, (if Good b N then (0 : Int) else 1) = x → x = 1 := fun h x e => by rw [if_neg h] at e; exact e.symm
  by_cases h0 : N < 0
  · rw [if_pos h0, bits_Check.j0, if_pos rfl, if_neg (fun h => by have := h.1; omega)]
  by_cases h1 : N > 131072
  · rw [if_neg h0, if_pos h1, bits_Check.j0, if_pos rfl, if_neg (fun h => by have := h.2.1; omega)]
  have w1 : wrap64 (N + 7) = N + 7 := by rw [w64] <;> omega
  have w2 : wrap64 ((N + 7) / 8) = (N + 7) / 8 := by rw [w64] <;> omega
  rw [if_neg h0, if_neg h1, Option.bind_some, w1, tdiv_nn (by omega), w2]
  clear w1 w2
  by_cases h2 : (b.length : Int) = (N + 7) / 8
  · rw [show ((b.length : Int) != (N + 7) / 8) = false by simp [h2], bits_Check.j0, if_neg (by decide), tmod_nn (by omega)]
    by_cases h3 : N % 8 = 0
    · rw [if_neg (by omega), if_pos ⟨by omega, by omega, h2, .inl h3⟩]
    · have w3 : Aside0 (wrap64 ((b.length : Int) - 1) = N / 8) := ⟨by rw [w64] <;> omega⟩
      obtain ⟨r, hr⟩ := Int.eq_ofNat_of_zero_le (show 0 ≤ N % 8 by omega)
      have hrd := hb.rd (N / 8)
      obtain ⟨c, hc⟩ := Int.eq_ofNat_of_zero_le hrd.1
      have hz := last_zero c r (by omega) (by omega) (by omega)
      have hg : Good b N ↔ c % 2 ^ (8 - r) = 0 := by
        unfold Good
        rw [hc, hr, Int.toNat_natCast]
        constructor
        · rintro ⟨_, _, _, h | h⟩
          · omega
          · exact_mod_cast h
        · intro h
          exact ⟨by omega, by omega, h2, .inr (by exact_mod_cast h)⟩
      rw [if_pos (by omega), w3.out, if_pos (by omega), if_pos (by omega), hr, if_pos (by omega), hc, shl8_nat _ _ (by omega)]
      by_cases h4 : c % 2 ^ (8 - r) = 0
      · rw [if_pos (by have := hz.2 h4; omega), if_pos (hg.2 h4)]
      · rw [if_neg (by intro h; exact h4 (hz.1 (by omega))), if_neg (fun h => h4 (hg.1 h))]
  · rw [show ((b.length : Int) != (N + 7) / 8) = true by simp [h2], bits_Check.j0, if_pos rfl, if_neg (fun h => h2 h.2.2.1)]
theorem may_gen (b : List Int) (hb : Byt b) (N : Int) (hN : I64 N) (hl : b.length ≤ maxLen) : windroseref17_May.f b N = some (decide (Good b N)) := by
  unfold maxLen at hl
  unfold I64 at hN
  unfold windroseref17_May.f
  by_cases h0 : N < 0
  · rw [if_pos h0, decide_eq_false (fun h => by have := h.1; omega)]
  by_cases h1 : N > 131072
  · rw [if_neg h0, if_pos h1, decide_eq_false (fun h => by have := h.2.1; omega)]
  have w1 : wrap64 (N + 7) = N + 7 := by rw [w64] <;> omega
  have w2 : wrap64 ((N + 7) / 8) = (N + 7) / 8 := by rw [w64] <;> omega
  rw [if_neg h0, if_neg h1, w1, tdiv_nn (by omega), w2, tmod_nn (by omega)]
  clear w1 w2
  by_cases h2 : (b.length : Int) = (N + 7) / 8
  · rw [if_pos h2]
    by_cases h3 : N % 8 = 0
    · rw [if_pos h3, decide_eq_true ⟨by omega, by omega, h2, .inl h3⟩]
    · have w3 : Aside0 (wrap64 ((b.length : Int) - 1) = N / 8) := ⟨by rw [w64] <;> omega⟩
      obtain ⟨r, hr⟩ := Int.eq_ofNat_of_zero_le (show 0 ≤ N % 8 by omega)
      have hrd := hb.rd (N / 8)
      obtain ⟨c, hc⟩ := Int.eq_ofNat_of_zero_le hrd.1
      have hr7 : r ≤ 7 ∧ 1 ≤ r := by omega
      have w4 : Aside0 (IntKind.u64.wrap (wrap64 (8 - (r : Int))) = ((8 - r : Nat) : Int)) := ⟨by rw [w64, wrap_u64] <;> omega⟩
      have w5 : Aside0 (wrap64 (c : Int) = (c : Int)) := ⟨by rw [w64] <;> omega⟩
      have w6 : shl .i64 1 ((8 - r : Nat) : Int) = ((2 ^ (8 - r) : Nat) : Int) := by
        rcases eight (show r ≤ 8 by omega) with rfl | rfl | rfl | rfl | rfl | rfl | rfl | rfl | rfl <;> decide +kernel
      have hp := Nat.two_pow_pos (8 - r)
      rw [if_neg h3, w3.out, if_pos (by omega), if_pos (by omega), hr, w4.out, if_pos (Int.natCast_nonneg _), w6, if_neg (by omega), hc, w5.out, tmod_nn (Int.natCast_nonneg _)]
      congr 1
      rw [Bool.eq_iff_iff]
      simp only [beq_iff_eq, decide_eq_true_eq]
      unfold Good
      rw [hc, hr, Int.toNat_natCast]
      constructor
      · intro h
        exact ⟨by omega, by omega, h2, .inr (by exact_mod_cast h)⟩
      · rintro ⟨_, _, _, h | h⟩
        · omega
        · exact_mod_cast h
  · rw [if_neg h2, decide_eq_false (fun h => h2 h.2.2.1)]
def bit (b : List Int) (i : Nat) : Bool := (rd b ((i / 8 : Nat) : Int)).toNat / 2 ^ (7 - i % 8) % 2 == 1
def bitsOf (b : List Int) (n : Nat) : List Bool := (List.range n).map (bit b)
theorem bitsOf_length (b : List Int) (n : Nat) : (bitsOf b n).length = n := by simp [bitsOf]
theorem bitsOf_succ (b : List Int) (n : Nat) : bitsOf b (n + 1) = bitsOf b n ++ [bit b n] := by simp [bitsOf, List.range_succ]
theorem list_loop (b : List Int) (hb : Byt b) (n : Nat) (hn : n ≤ 131072) (hl : n ≤ 8 * b.length) (d : Nat) : ∀ i, i + d = n → (∃ K, ∀ k, K ≤ k → windroseref17_List.l0 k (bitsOf b i) (i : Int) b (n : Int) = some (bitsOf b n)) := by
  induction d with
  | zero =>
    intro i hi
    obtain rfl : i = n := by omega
    refine Ev.succ 0 fun k _ => ?_
    rw [windroseref17_List.l0, if_neg (by omega)]
  | succ d ih =>
    intro i hi
    obtain ⟨K, hK⟩ := ih (i + 1) (by omega)
    have w1 : Aside0 (wrap64 ((i : Int) + 1) = ((i + 1 : Nat) : Int)) := ⟨by rw [w64] <;> omega⟩
    have w2 : Aside0 (wrap64 (Int.tdiv (i : Int) 8) = ((i / 8 : Nat) : Int)) := ⟨by rw [tdiv_nn (Int.natCast_nonneg _), w64] <;> omega⟩
    have w3 : Aside0 (IntKind.u64.wrap (wrap64 (7 - Int.tmod (i : Int) 8)) = ((7 - i % 8 : Nat) : Int)) := ⟨by rw [tmod_nn (Int.natCast_nonneg _), w64, wrap_u64] <;> omega⟩
    have e : (Int.tmod (shr .u8 (rd b ((i / 8 : Nat) : Int)) ((7 - i % 8 : Nat) : Int)) 2 == 1) = bit b i := by
      obtain ⟨c, hc⟩ := Int.eq_ofNat_of_zero_le (hb.rd ((i / 8 : Nat) : Int)).1
      unfold bit
      rw [hc, shr_nat .u8 _ _ (show 7 - i % 8 ≤ 8 from Nat.le_trans (Nat.sub_le _ _) (by decide)), tmod_nn (Int.natCast_nonneg _), Int.toNat_natCast, Bool.eq_iff_iff]
      simp only [beq_iff_eq]
      omega
    have hbl := bitsOf_length b i
    refine Ev.succ K fun k hk => ?_
    rw [windroseref17_List.l0, if_pos (by omega), w2.out, if_pos (by omega), if_pos (by omega), w3.out, if_pos (by omega), if_pos (by rw [hbl]; omega), e, ← bitsOf_succ, w1.out]
    exact hK k hk
theorem List_ev (b : List Int) (hb : Byt b) (n : Nat) (hn : n ≤ 131072) (hl : n ≤ 8 * b.length) : (∃ K, ∀ k, K ≤ k → windroseref17_List.f k b (n : Int) = some (bitsOf b n)) := list_loop b hb n hn hl n 0 (by omega)
theorem top_bits (c m : Nat) (hm : m ≤ 8) : (List.range m).map (fun t => (c / 2 ^ (7 - t) % 2 == 1)) = low (c / 2 ^ (8 - m)) m := by
  rcases eight hm with rfl | rfl | rfl | rfl | rfl | rfl | rfl | rfl | rfl <;> simp [List.range, List.range.loop, low, Nat.div_div_eq_div_mul]
theorem byteOf_top (c m : Nat) (hm : m ≤ 8) (hc : c ≤ 255) (hz : c % 2 ^ (8 - m) = 0) : byteOf (low (c / 2 ^ (8 - m)) m) = c := by
  unfold byteOf
  rw [bv_low, low_length]
  rcases eight hm with rfl | rfl | rfl | rfl | rfl | rfl | rfl | rfl | rfl <;> (simp only [Nat.reducePow, Nat.reduceSub] at *; omega)
theorem range_cut (f : Nat → Bool) (n a m : Nat) (h : a + m ≤ n) (hm : m = min 8 (n - a)) : (((List.range n).map f).drop a).take 8 = (List.range m).map (fun t => f (a + t)) := by
  apply List.ext_getElem?
  intro i
  rw [List.getElem?_take, List.getElem?_drop, List.getElem?_map, List.getElem?_map]
  by_cases h1 : i < m
  · rw [if_pos (by omega), List.getElem?_range (by omega), List.getElem?_range h1]
    rfl
  · rw [List.getElem?_eq_none (l := List.range m) (by simp; omega)]
    split
    · rw [List.getElem?_eq_none (by simp; omega)]; rfl
    · rfl
theorem of_bits (b : List Int) (hb : Byt b) (n : Nat) (hg : Good b (n : Int)) : Of (bitsOf b n) = b := by
  obtain ⟨_, _, h2, h3⟩ := hg
  apply List.ext_getElem?
  intro j
  by_cases hj : j < b.length
  · have hj2 : j < (n + 7) / 8 := by omega
    rw [Of, List.getElem?_map, bitsOf_length, List.getElem?_range hj2, Option.map_some, List.getElem?_eq_getElem hj]
    congr 1
    obtain ⟨m, hm⟩ : ∃ m, m = min 8 (n - 8 * j) := ⟨_, rfl⟩
    have hrd : rd b (j : Int) = b[j] := by simp [rd, List.getElem?_eq_getElem hj]
    obtain ⟨c, hc⟩ := Int.eq_ofNat_of_zero_le (hb.rd (j : Int)).1
    have hc2 := (hb.rd (j : Int)).2
    have e : ((bitsOf b n).drop (8 * j)).take 8 = low (c / 2 ^ (8 - m)) m := by
      unfold bitsOf
      rw [range_cut (bit b) n (8 * j) m (by omega) hm, ← top_bits c m (by omega)]
      apply List.map_congr_left
      intro t ht
      have ht' : t < m := by simpa using ht
      unfold bit
      rw [show (8 * j + t) / 8 = j by omega, show (8 * j + t) % 8 = t by omega, hc, Int.toNat_natCast]
    rw [e, byteOf_top c m (by omega) (by omega), ← hrd, hc]
    by_cases h8 : m = 8
    · rw [h8]; simp [Nat.mod_one]
    · have hm2 : m = n % 8 := by omega
      rcases h3 with h3 | h3
      · omega
      · have hj3 : (n : Int) / 8 = (j : Int) := by omega
        rw [hj3, hc] at h3
        have ht : ((n : Int) % 8).toNat = m := by omega
        rw [ht] at h3
        exact_mod_cast h3
  · rw [List.getElem?_eq_none (by rw [Of_length, bitsOf_length]; omega), List.getElem?_eq_none (by omega)]
end Go.Proofs.Ytmddmbagehjdeaa.Q
end
section
namespace Go.Proofs.Ytmddmbagehjdeaa.Q
open Go Go.RowKit Go.Proofs.Ytmddmbagehjdeaa.G Go.Proofs.YtmddmbagehjdeaaW.PrintWords Go.Proofs.YtmddmbagehjdeaaW.PrintLast Go.Proofs.YtmddmbagehjdeaaW.PrintMore
theorem reffold_ev (n : Int) (h : I64 n) : windroseref17_fold.f n = some (foldN n : Int) := by
  unfold windroseref17_fold.f I64 foldN at *
  by_cases h0 : 0 ≤ n
  · rw [if_pos h0, if_pos h0, wrap_u64, wrap_u64]
    congr 1
    omega
  · have w1 : wrap64 (-1 - n) = -1 - n := by rw [w64] <;> omega
    rw [if_neg h0, if_neg h0, w1, wrap_u64, wrap_u64, wrap_u64]
    congr 1
    omega
theorem refclass_ev (n : Int) (h : I64 n) : windroseref17_Class.f n = some ((cls (foldN n) : Nat) : Int) := by
  unfold windroseref17_Class.f
  rw [reffold_ev n h, Option.bind_some]
  unfold cls
  by_cases h0 : foldN n = 0
  · rw [if_pos (by omega), if_pos h0]; rfl
  by_cases h1 : foldN n < 128
  · rw [if_neg (by omega), if_pos (by omega), if_neg h0, if_pos h1]; rfl
  by_cases h2 : foldN n < 4096
  · rw [if_neg (by omega), if_neg (by omega), if_pos (by omega), if_neg h0, if_neg h1, if_pos h2]; rfl
  by_cases h3 : foldN n < 1048576
  · rw [if_neg (by omega), if_neg (by omega), if_neg (by omega), if_pos (by omega), if_neg h0, if_neg h1, if_neg h2, if_pos h3]; rfl
  · rw [if_neg (by omega), if_neg (by omega), if_neg (by omega), if_neg (by omega), if_neg h0, if_neg h1, if_neg h2, if_neg h3]; rfl
theorem rd_widths (c : Nat) (h : c ≤ 4) : rd ([0, 7, 12, 20, 64] : List Int) (c : Int) = (wd c : Int) := by rcases four h with rfl | rfl | rfl | rfl | rfl <;> rfl
end Go.Proofs.Ytmddmbagehjdeaa.Q
end
section
namespace Go.Proofs.Ytmddmbagehjdeaa.Q
open Go Go.RowKit Go.Proofs.Ytmddmbagehjdeaa.G Go.Proofs.YtmddmbagehjdeaaW.PrintWords Go.Proofs.YtmddmbagehjdeaaW.PrintLast Go.Proofs.YtmddmbagehjdeaaW.PrintMore
theorem low_set (u j m : Nat) : (List.replicate (m + 1) false ++ low u j).set m (u / 2 ^ j % 2 == 1) = List.replicate m false ++ low u (j + 1) := by
  rw [List.replicate_succ', List.append_assoc, List.set_append_right _ _ (by simp), List.length_replicate, Nat.sub_self, low]
  rfl
theorem low_loop (u n : Nat) (hu : u < 18446744073709551616) (hn : n ≤ 64) : ∀ m, m ≤ n →
    (∃ K, ∀ k, K ≤ k → windroseref17_Low.l0 k ((u / 2 ^ (n - m) : Nat) : Int) (List.replicate m false ++ low u (n - m)) ((m : Int) - 1) = some (low u n)) := by
  intro m
  induction m with
  | zero =>
    intro _
    refine Ev.succ 0 fun k _ => ?_
    rw [windroseref17_Low.l0, if_neg (by omega), Nat.sub_zero]
    rfl
  | succ m ih =>
    intro hm
    obtain ⟨K, hK⟩ := ih (by omega)
    obtain ⟨j, hj⟩ : ∃ j, n - (m + 1) = j := ⟨_, rfl⟩
    have hj1 : n - m = j + 1 := by omega
    rw [hj1] at hK
    obtain ⟨v, hv⟩ : ∃ v, u / 2 ^ j = v := ⟨_, rfl⟩
    have hv1 : u / 2 ^ (j + 1) = v / 2 := by rw [Nat.pow_succ, ← Nat.div_div_eq_div_mul, hv]
    have hvl : v < 18446744073709551616 := by rw [← hv]; exact Nat.lt_of_le_of_lt (Nat.div_le_self _ _) hu
    rw [hv1] at hK
    have e1 : Aside0 (IntKind.u64.wrap (Int.tdiv (v : Int) 2) = ((v / 2 : Nat) : Int)) := ⟨by rw [tdiv_nn (Int.natCast_nonneg _), wrap_u64]; omega⟩
    have e2 : Aside0 ((Int.tmod (v : Int) 2 == 1) = (v % 2 == 1)) := ⟨by rw [tmod_nn (Int.natCast_nonneg _), Bool.eq_iff_iff]; simp only [beq_iff_eq]; omega⟩
    have e3 : Aside0 (wrap64 (((m + 1 : Nat) : Int) - 1 - 1) = (m : Int) - 1) := ⟨by rw [w64] <;> omega⟩
    have e4 : Aside0 ((((m + 1 : Nat) : Int) - 1).toNat = m) := ⟨by omega⟩
    refine Ev.succ K fun k hk => ?_
    rw [hj, hv, windroseref17_Low.l0, if_pos (by omega), if_pos (by omega), if_pos (by rw [List.length_append, List.length_replicate]; omega), e1.out, e2.out, e3.out, e4.out, ← hv, low_set, hv]
    exact hK k hk
theorem Low_ev (u n : Nat) (hu : u < 18446744073709551616) (hn : n ≤ 64) : (∃ K, ∀ k, K ≤ k → windroseref17_Low.f k (u : Int) (n : Int) = some (low u n)) := by
  obtain ⟨K, hK⟩ := low_loop u n hu hn n (Nat.le_refl _)
  rw [Nat.sub_self, Nat.pow_zero, Nat.div_one] at hK
  have e1 : Aside0 (wrap64 ((n : Int) - 1) = (n : Int) - 1) := ⟨by rw [w64] <;> omega⟩
  refine ⟨K, fun k hk => ?_⟩
  unfold windroseref17_Low.f
  rw [if_pos (Int.natCast_nonneg _), Int.toNat_natCast, if_pos (by omega), e1.out]
  have := hK k hk
  rwa [low, List.append_nil] at this
theorem coded_loop (n : Int) (h : I64 n) (c : Nat) (hc : c ≤ 4) (hcn : cls (foldN n) = c) : ∀ d i, i + d = c →
    (∃ K, ∀ k, K ≤ k → windroseref17_Coded.l0 k n ([0, 7, 12, 20, 64] : List Int) (c : Int) (List.replicate i true) (i : Int) = some (coded n)) := by
  intro d
  induction d with
  | zero =>
    intro i hi
    obtain rfl : i = c := by omega
    obtain ⟨K, hK⟩ := Low_ev (foldN n) (wd i) (foldN_lt h) (wd_le i)
    have hco : coded n = ld i ++ low (foldN n) (wd i) := by rw [coded, hcn]
    have hll := low_length (foldN n) (wd i)
    have hwd := wd_le i
    have hf := reffold_ev n h
    rw [hco]
    refine ⟨K + 1, fun k hk => ?_⟩
    obtain ⟨k, rfl⟩ : ∃ m, k = m + 1 := ⟨k - 1, by omega⟩
    by_cases h4 : i = 4
    · subst h4
      rw [windroseref17_Coded.l0, if_neg (by omega), if_neg (by decide), hf, Option.bind_some, if_pos (by decide), if_pos (by decide), rd_widths 4 (by decide), hK k (by omega), Option.bind_some, if_pos (by rw [hll, List.length_replicate]; omega)]
      rfl
    · have hld : ld i = List.replicate i true ++ [false] := by unfold ld; rw [if_neg h4]
      rw [windroseref17_Coded.l0, if_neg (by omega), if_pos (by omega), if_pos (by rw [List.length_replicate]; omega), Option.bind_some, hf, Option.bind_some, if_pos (Int.natCast_nonneg _), if_pos (by simp only [List.length_cons, List.length_nil]; omega), rd_widths i hc, hK k (by omega), Option.bind_some, if_pos (by rw [hll, List.length_append, List.length_replicate, List.length_singleton]; omega), hld]
  | succ d ih =>
    intro i hi
    obtain ⟨K, hK⟩ := ih (i + 1) (by omega)
    have e1 : Aside0 (wrap64 ((i : Int) + 1) = ((i + 1 : Nat) : Int)) := ⟨by rw [w64] <;> omega⟩
    refine Ev.succ K fun k hk => ?_
    rw [windroseref17_Coded.l0, if_pos (by omega), if_pos (by rw [List.length_replicate]; omega), e1.out, ← List.replicate_succ']
    exact hK k hk
theorem Coded_ev (n : Int) (h : I64 n) : (∃ K, ∀ k, K ≤ k → windroseref17_Coded.f k n = some (coded n)) := by
  obtain ⟨K, hK⟩ := coded_loop n h (cls (foldN n)) (cls_le _) rfl _ 0 (Nat.zero_add _)
  refine ⟨K, fun k hk => ?_⟩
  unfold windroseref17_Coded.f
  rw [refclass_ev n h, Option.bind_some]
  exact hK k hk
def OfT (l : List Bool) (T : Nat) : List Int := (List.range T).map fun j => (byteOf ((l.drop (8 * j)).take 8) : Int)
theorem OfT_length (l : List Bool) (T : Nat) : (OfT l T).length = T := by simp [OfT]
theorem map_range_set {α : Type} (f g : Nat → α) (T j : Nat) (v : α) (hj : g j = v) (hg : ∀ k, k < T → k ≠ j → g k = f k) : ((List.range T).map f).set j v = (List.range T).map g := by
  apply List.ext_getElem
  · simp
  intro i h1 h2
  rw [List.getElem_set]
  simp only [List.length_map, List.length_range] at h2
  by_cases h : j = i
  · subst h; rw [if_pos rfl]; simp [hj]
  · rw [if_neg h]; simp [hg i h2 (fun e => h e.symm)]
theorem chunk_snoc (l : List Bool) (x : Bool) (j : Nat) : (((l ++ [x]).drop (8 * j)).take 8) = if j = l.length / 8 then ((l.drop (8 * j)).take 8) ++ [x] else (l.drop (8 * j)).take 8 := by
  by_cases h : j = l.length / 8
  · rw [if_pos h, List.drop_append_of_le_length (by omega), List.take_of_length_le (by simp; omega), List.take_of_length_le (by simp; omega)]
  · rw [if_neg h]
    by_cases h1 : 8 * j ≤ l.length
    · rw [List.drop_append_of_le_length h1, List.take_append_of_le_length (by simp; omega)]
    · rw [List.drop_of_length_le (by simp; omega), List.drop_of_length_le (by omega)]
theorem byteOf_false (p : List Bool) (h : p.length ≤ 7) : byteOf (p ++ [false]) = byteOf p := by
  unfold byteOf
  rw [bv_append, List.length_append, List.length_singleton, show 8 - p.length = 1 + (8 - (p.length + 1)) by omega, Nat.pow_add]
  simp only [bv, Bool.toNat_false, List.length_nil, Nat.pow_zero, Nat.zero_mul, Nat.add_zero]
  rw [Nat.mul_assoc]
theorem byteOf_true (p : List Bool) (h : p.length ≤ 7) : byteOf (p ++ [true]) = byteOf p + 2 ^ (7 - p.length) := by
  unfold byteOf
  rw [bv_append, List.length_append, List.length_singleton, show 8 - p.length = 1 + (8 - (p.length + 1)) by omega, Nat.pow_add, show 7 - p.length = 8 - (p.length + 1) by omega]
  simp only [bv, Bool.toNat_true, List.length_nil, Nat.pow_zero, Nat.one_mul, Nat.add_zero]
  rw [Nat.add_mul, Nat.mul_assoc, Nat.one_mul]
theorem OfT_false (l : List Bool) (T : Nat) : OfT (l ++ [false]) T = OfT l T := by
  unfold OfT
  apply List.map_congr_left
  intro j _
  rw [chunk_snoc]
  split
  · rename_i h
    rw [byteOf_false]
    simp only [List.length_take, List.length_drop]
    omega
  · rfl
theorem rd_OfT (l : List Bool) (T j : Nat) (hj : j < T) : rd (OfT l T) (j : Int) = (byteOf ((l.drop (8 * j)).take 8) : Int) := by
  unfold rd OfT
  rw [Int.toNat_natCast]
  simp [hj]
theorem OfT_true (l : List Bool) (T : Nat) (hT : l.length / 8 < T) : (OfT l T).set (l.length / 8) ((byteOf ((l.drop (8 * (l.length / 8))).take 8) + 2 ^ (7 - l.length % 8) : Nat) : Int) = OfT (l ++ [true]) T := by
  unfold OfT
  refine map_range_set _ _ T _ _ ?_ ?_
  · rw [chunk_snoc, if_pos rfl, byteOf_true]
    · congr 3
      simp only [List.length_take, List.length_drop]
      omega
    · simp only [List.length_take, List.length_drop]
      omega
  · intro k _ hk
    rw [chunk_snoc, if_neg hk]
theorem OfT_nil (T : Nat) : OfT [] T = List.replicate T 0 := by
  unfold OfT
  apply List.ext_getElem
  · simp
  intro i h1 h2
  simp [byteOf, bv]
theorem of_loop (l : List Bool) (hl : l.length ≤ 1000000) (T : Nat) (hT : T = (l.length + 7) / 8) (d : Nat) : ∀ i, i + d = l.length → (∃ K, ∀ k, K ≤ k → windroseref17_Of.l0 k l (OfT (l.take i) T) (i : Int) = some ((Of l, (l.length : Int)))) := by
  induction d with
  | zero =>
    intro i hi
    refine Ev.succ 0 fun k _ => ?_
    rw [windroseref17_Of.l0, if_neg (by omega), List.take_of_length_le (by omega), hT]
    rfl
  | succ d ih =>
    intro i hi
    obtain ⟨K, hK⟩ := ih (i + 1) (by omega)
    have hil : i < l.length := by omega
    have hb : rdOf false l (i : Int) = l[i] := by simp [rdOf, List.getElem?_eq_getElem hil]
    have hti : (l.take i).length = i := by rw [List.length_take]; omega
    have ht : l.take (i + 1) = l.take i ++ [l[i]] := (List.take_append_getElem hil).symm
    have e1 : Aside0 (wrap64 ((i : Int) + 1) = ((i + 1 : Nat) : Int)) := ⟨by rw [w64] <;> omega⟩
    have e2 : Aside0 (wrap64 (Int.tdiv (i : Int) 8) = ((i / 8 : Nat) : Int)) := ⟨by rw [tdiv_nn (Int.natCast_nonneg _), w64] <;> omega⟩
    have e3 : Aside0 (IntKind.u64.wrap (wrap64 (7 - Int.tmod (i : Int) 8)) = ((7 - i % 8 : Nat) : Int)) := ⟨by rw [tmod_nn (Int.natCast_nonneg _), w64, wrap_u64] <;> omega⟩
    have hlen := OfT_length (l.take i) T
    refine Ev.succ K fun k hk => ?_
    have hk1 := hK k hk
    rw [ht] at hk1
    cases hx : l[i] with
    | false =>
      rw [hx, OfT_false] at hk1
      rw [windroseref17_Of.l0, if_pos (by omega), if_pos (by omega), hb, hx, if_neg (by decide), e1.out]
      exact hk1
    | true =>
      have hbt := byteOf_lt (((l.take i).drop (8 * (i / 8))).take 8 ++ [true]) (by simp only [List.length_append, List.length_take, List.length_drop, List.length_singleton]; omega)
      have hp : (((l.take i).drop (8 * (i / 8))).take 8).length = i % 8 := by simp only [List.length_take, List.length_drop]; omega
      rw [byteOf_true _ (by omega), hp] at hbt
      have hO := OfT_true (l.take i) T (by rw [hti]; omega)
      rw [hti] at hO
      have hrd := rd_OfT (l.take i) T (i / 8) (by omega)
      have e4 : Aside0 ((rd (OfT (l.take i) T) ((i / 8 : Nat) : Int) + shl .u8 1 ((7 - i % 8 : Nat) : Int)) % 256 = ((byteOf (((l.take i).drop (8 * (i / 8))).take 8) + 2 ^ (7 - i % 8) : Nat) : Int)) := ⟨by
        have h8 : 2 ^ (7 - i % 8) < 256 := by
          have := Nat.pow_le_pow_right (show 0 < 2 by decide) (show 7 - i % 8 ≤ 7 by omega)
          omega
        rw [hrd, show (1 : Int) = ((1 : Nat) : Int) from rfl, shl8_nat 1 _ (by omega), Nat.one_mul, Nat.mod_eq_of_lt h8, ← Int.natCast_add, show (256 : Int) = ((256 : Nat) : Int) from rfl, ← Int.natCast_emod, Nat.mod_eq_of_lt hbt]⟩
      rw [hx, ← hO] at hk1
      rw [windroseref17_Of.l0, if_pos (by omega), if_pos (by omega), hb, hx, if_pos rfl, e2.out, if_pos (Int.natCast_nonneg _), if_pos (by rw [hlen]; omega), e3.out, if_pos (Int.natCast_nonneg _), e4.out, Int.toNat_natCast, e1.out]
      exact hk1
theorem RefOf_ev (l : List Bool) (hl : l.length ≤ 1000000) : (∃ K, ∀ k, K ≤ k → windroseref17_Of.f k l = some ((Of l, (l.length : Int)))) := by
  obtain ⟨K, hK⟩ := of_loop l hl _ rfl l.length 0 (Nat.zero_add _)
  have e1 : Aside0 (wrap64 (Int.tdiv (wrap64 ((l.length : Int) + 7)) 8) = (((l.length + 7) / 8 : Nat) : Int)) := ⟨by
    have : wrap64 ((l.length : Int) + 7) = ((l.length + 7 : Nat) : Int) := by rw [w64] <;> omega
    rw [this, tdiv_nn (Int.natCast_nonneg _), w64] <;> omega⟩
  refine ⟨K, fun k hk => ?_⟩
  unfold windroseref17_Of.f
  rw [e1.out, if_pos (Int.natCast_nonneg _), Int.toNat_natCast, if_pos (by omega)]
  have := hK k hk
  rwa [List.take_zero, OfT_nil] at this
theorem Told_ev (l : List Bool) (hl : l.length ≤ 1000000) (e : Int) : (∃ K, ∀ k, K ≤ k → windroselaw17_told.f k (Of l) (l.length : Int) e l e = some (true)) := by
  obtain ⟨K, hK⟩ := RefOf_ev l hl
  refine ⟨K, fun k hk => ?_⟩
  unfold windroselaw17_told.f windroseref17_Same.f
  rw [if_pos rfl, hK k hk, Option.bind_some, if_pos rfl, Option.bind_some, beq_self_eq_true]
end Go.Proofs.Ytmddmbagehjdeaa.Q
end
section
namespace Go.Proofs.Ytmddmbagehjdeaa.Q
open Go Go.RowKit Go.Proofs.Ytmddmbagehjdeaa.G Go.Proofs.YtmddmbagehjdeaaW.PrintWords Go.Proofs.YtmddmbagehjdeaaW.PrintLast Go.Proofs.YtmddmbagehjdeaaW.PrintMore
theorem bytes_of {b : List Int} (h : ∀ y ∈ b, (Lit.int .u8 y).wf = true) : Byt b := fun x hx => wf_u8 (h x hx)
theorem put_bad (b : List Int) (hb : Byt b) (N : Int) (hN : I64 N) (hl : b.length ≤ maxLen) (hg : ¬ Good b N) (u n : Int) : (∃ K, ∀ k, K ≤ k → bits_Put.f k b N u n = some (([], 0, 1))) := by
  obtain ⟨K, hK⟩ := check_gen b hb N hN hl
  rw [if_neg hg] at hK
  refine ⟨K, fun k hk => ?_⟩
  unfold bits_Put.f
  rw [hK k hk, Option.bind_some, if_neg (by decide)]
theorem num_bad (b : List Int) (hb : Byt b) (N : Int) (hN : I64 N) (hl : b.length ≤ maxLen) (hg : ¬ Good b N) (n : Int) : (∃ K, ∀ k, K ≤ k → bits_Number.f k b N n = some (([], 0, 1))) := by
  obtain ⟨K, hK⟩ := check_gen b hb N hN hl
  rw [if_neg hg] at hK
  refine ⟨K, fun k hk => ?_⟩
  unfold bits_Number.f
  rw [hK k hk, Option.bind_some, if_neg (by decide)]
theorem join_bad (b : List Int) (hb : Byt b) (N : Int) (hN : I64 N) (hl : b.length ≤ maxLen) (c : List Int) (hc : Byt c) (M : Int) (hM : I64 M) (hl2 : c.length ≤ maxLen) (hg : ¬ (Good b N ∧ Good c M)) : (∃ K, ∀ k, K ≤ k → bits_Join.f k b N c M = some (([], 0, 1))) := by
  obtain ⟨K, hK⟩ := check_gen b hb N hN hl
  obtain ⟨K2, hK2⟩ := check_gen c hc M hM hl2
  by_cases h1 : Good b N
  · have h2 : ¬ Good c M := fun h => hg ⟨h1, h⟩
    rw [if_pos h1] at hK
    rw [if_neg h2] at hK2
    refine ⟨K + K2 + 1, fun k hk => ?_⟩
    obtain ⟨k, rfl⟩ : ∃ m, k = m + 1 := ⟨k - 1, by omega⟩
    unfold bits_Join.f
    rw [hK _ (by omega), Option.bind_some, if_pos rfl, hK2 _ (by omega), Option.bind_some, show ((1 : Int) != 0) = true from rfl, bits_Join.j0, if_pos rfl]
  · rw [if_neg h1] at hK
    refine ⟨K + 1, fun k hk => ?_⟩
    obtain ⟨k, rfl⟩ : ∃ m, k = m + 1 := ⟨k - 1, by omega⟩
    unfold bits_Join.f
    rw [hK _ (by omega), Option.bind_some, if_neg (by decide), bits_Join.j0, if_pos rfl]
theorem Told_nil (e : Int) : (∃ K, ∀ k, K ≤ k → windroselaw17_told.f k [] 0 e [] e = some (true)) := Told_ev [] (Nat.zero_le _) e
theorem puts_j3 (l : List Bool) (hl : l.length ≤ 2400) (u : Nat) (hu : u < 18446744073709551616) (n : Int) (hn : I64 n) :
    (∃ K, ∀ k, K ≤ k → windroselaw17_BitsPuts.j2 k (u : Int) n (putR l u n).2.2 l (putR l u n).1 (putR l u n).2.1 = some (true)) := by
  obtain ⟨KA, hA⟩ := awake17_ev
  obtain ⟨KT, hT⟩ := Told_ev l (by omega) 1
  unfold I64 at hn
  have bad : n < 0 ∨ 64 < n ∨ n < 64 ∧ u / 2 ^ n.toNat ≠ 0 → (∃ K, ∀ k, K ≤ k → windroselaw17_BitsPuts.j3 k (u : Int) n (putR l u n).2.2 l true (putR l u n).1 (putR l u n).2.1 = some (true)) := fun hb => by
    have e : putR l u n = (Of l, (l.length : Int), 1) := by unfold putR; rw [if_pos hb]
    rw [e]
    refine ⟨KA + KT + 1, fun k hk => ?_⟩
    obtain ⟨k, rfl⟩ : ∃ m, k = m + 1 := ⟨k - 1, by omega⟩
    rw [windroselaw17_BitsPuts.j3, if_pos rfl, hT k (by omega), Option.bind_some, if_pos rfl, hA k (by omega), Option.bind_some]
  by_cases h0 : n < 0
  · obtain ⟨K, hK⟩ := bad (.inl h0)
    refine Ev.succ K fun k hk => ?_
    rw [windroselaw17_BitsPuts.j2, if_pos h0]
    exact hK k hk
  by_cases h1 : 64 < n
  · obtain ⟨K, hK⟩ := bad (.inr (.inl h1))
    refine Ev.succ K fun k hk => ?_
    rw [windroselaw17_BitsPuts.j2, if_neg h0, if_pos h1]
    exact hK k hk
  obtain ⟨m, rfl⟩ := Int.eq_ofNat_of_zero_le (show 0 ≤ n by omega)
  have hm : m ≤ 64 := by omega
  have w : Aside0 (IntKind.u64.wrap (m : Int) = (m : Int)) := ⟨by rw [wrap_u64]; omega⟩
  by_cases h2 : m < 64 ∧ u / 2 ^ m ≠ 0
  · obtain ⟨K, hK⟩ := bad (.inr (.inr ⟨by omega, by rw [Int.toNat_natCast]; exact h2.2⟩))
    have h3 := h2.1
    have h4 := h2.2
    clear h2
    refine Ev.succ K fun k hk => ?_
    rw [windroselaw17_BitsPuts.j2, if_neg h0, if_neg h1, if_pos (by omega), w.out, if_pos (Int.natCast_nonneg _), shr_zero u m h3, decide_eq_true h4]
    exact hK k hk
  · have hll := low_length u m
    have e : putR l u (m : Int) = (Of (l ++ low u m), ((l ++ low u m).length : Int), 0) := by
      unfold putR
      have hn0 : ¬ ((m : Int) < 0 ∨ 64 < (m : Int) ∨ (m : Int) < 64 ∧ u / 2 ^ (m : Int).toNat ≠ 0) := by
        rintro (h | h | h)
        · exact h0 h
        · exact h1 h
        · exact h2 ⟨Int.ofNat_lt.1 h.1, by have := h.2; rwa [Int.toNat_natCast] at this⟩
      rw [if_neg hn0, if_neg (by omega), Int.toNat_natCast, List.length_append, hll]
    obtain ⟨KL, hL⟩ := Low_ev u m hu hm
    obtain ⟨KT2, hT2⟩ := Told_ev (l ++ low u m) (by rw [List.length_append, hll]; omega) 0
    have good : (∃ K, ∀ k, K ≤ k → windroselaw17_BitsPuts.j3 k (u : Int) (m : Int) (putR l u m).2.2 l false (putR l u m).1 (putR l u m).2.1 = some (true)) := by
      rw [e]
      refine ⟨KA + KL + KT2 + 1, fun k hk => ?_⟩
      obtain ⟨k, rfl⟩ : ∃ m, k = m + 1 := ⟨k - 1, by omega⟩
      rw [windroselaw17_BitsPuts.j3, if_neg (by decide), Option.bind_some, List.nil_append, if_pos (by rw [List.length_nil]; omega), Option.bind_some, hL k (by omega), Option.bind_some, if_pos (by rw [hll]; omega), hT2 k (by omega), Option.bind_some, if_pos rfl, hA k (by omega), Option.bind_some]
    obtain ⟨K, hK⟩ := good
    refine Ev.succ K fun k hk => ?_
    by_cases h3 : m < 64
    · have h4 : ¬ u / 2 ^ m ≠ 0 := fun h => h2 ⟨h3, h⟩
      clear h2 e
      rw [windroselaw17_BitsPuts.j2, if_neg h0, if_neg h1, if_pos (by omega), w.out, if_pos (Int.natCast_nonneg _), shr_zero u m h3, decide_eq_false h4]
      exact hK k hk
    · clear h2 e
      rw [windroselaw17_BitsPuts.j2, if_neg h0, if_neg h1, if_neg (by omega)]
      exact hK k hk
theorem light_ev (b : List Int) (N : Int) : ∃ t, windroselaw17_light.f b N = some t ∧ (t = true → (b.length : Int) ≤ 300 ∧ N ≤ 2400) := by
  unfold windroselaw17_light.f
  by_cases h1 : (b.length : Int) ≤ 300
  · by_cases h2 : N ≤ 2400
    · exact ⟨_, by rw [if_pos h1, if_pos h2], fun _ => ⟨h1, h2⟩⟩
    · exact ⟨_, by rw [if_pos h1, if_neg h2], fun h => by cases h⟩
  · exact ⟨_, by rw [if_neg h1], fun h => by cases h⟩
theorem puts_j1 (l : List Bool) (hl : l.length ≤ 2400) (u : Nat) (hu : u < 18446744073709551616) (n : Int) (hn : I64 n) (c : List Int) (hc : Byt c) (M : Int) (hM : I64 M) (hcl : c.length ≤ maxLen) (hM2 : M ≤ 2400) :
    ∃ J : List Int × Int × Int, (∃ K, ∀ k, K ≤ k → bits_Join.f k (Of l) (l.length : Int) c M = some (J)) ∧
      (∃ K, ∀ k, K ≤ k → windroselaw17_BitsPuts.j1 k (u : Int) n (putR l u n).2.2 J.2.2 l false c M (putR l u n).1 (putR l u n).2.1 J.1 J.2.1 = some (true)) := by
  obtain ⟨K2, h2⟩ := puts_j3 l hl u hu n hn
  have hmay := may_gen c hc M hM hcl
  have hl8 : (Of l).length ≤ maxLen := by rw [Of_length]; unfold maxLen; omega
  have hOb : Byt (Of l) := by
    intro x hx
    unfold Of at hx
    obtain ⟨j, _, rfl⟩ := List.mem_map.1 hx
    have := byteOf_lt ((l.drop (8 * j)).take 8) (by rw [List.length_take]; omega)
    omega
  by_cases hg : Good c M
  · obtain ⟨m, rfl⟩ := Int.eq_ofNat_of_zero_le hg.1
    have hg1 := hg
    obtain ⟨_, _, hg2, _⟩ := hg1
    obtain ⟨KL, hL⟩ := List_ev c hc m (by omega) (by omega)
    have hO := of_bits c hc m hg
    have hbl := bitsOf_length c m
    obtain ⟨KJ, hJ⟩ := Join17_ev l (bitsOf c m) (by omega) (by rw [hbl]; omega)
    have hle : (l ++ bitsOf c m).length = l.length + m := by rw [List.length_append, hbl]
    obtain ⟨KT, hT⟩ := Told_ev (l ++ bitsOf c m) (by rw [hle]; omega) 0
    rw [hO, hbl] at hJ
    have hjr : joinR l (bitsOf c m) = (Of (l ++ bitsOf c m), ((l ++ bitsOf c m).length : Int), 0) := by unfold joinR; rw [if_pos (by rw [hbl]; omega)]
    rw [hjr] at hJ
    refine ⟨_, ⟨KJ, hJ⟩, ⟨K2 + KL + KT + 1, fun k hk => ?_⟩⟩
    obtain ⟨k, rfl⟩ : ∃ m, k = m + 1 := ⟨k - 1, by omega⟩
    rw [windroselaw17_BitsPuts.j1, if_neg (by decide), hmay, Option.bind_some, decide_eq_true hg, if_pos rfl, Option.bind_some, if_pos (by rw [List.length_nil]; omega), List.nil_append, Option.bind_some, hL k (by omega), Option.bind_some, if_pos (by rw [hbl]; omega), hT k (by omega), Option.bind_some, if_pos rfl]
    exact h2 k (by omega)
  · obtain ⟨KJ, hJ⟩ := join_bad (Of l) hOb (l.length : Int) ⟨by omega, by omega⟩ hl8 c hc M hM hcl (fun h => hg h.2)
    obtain ⟨KT, hT⟩ := Told_nil 1
    refine ⟨_, ⟨KJ, hJ⟩, ⟨K2 + KT + 1, fun k hk => ?_⟩⟩
    obtain ⟨k, rfl⟩ : ∃ m, k = m + 1 := ⟨k - 1, by omega⟩
    rw [windroselaw17_BitsPuts.j1, if_neg (by decide), hmay, Option.bind_some, decide_eq_false hg, if_neg (by decide), hT k (by omega), Option.bind_some, if_pos rfl]
    exact h2 k (by omega)
theorem puts_j0 (b : List Int) (hb : Byt b) (N : Int) (hN : I64 N) (hbl : b.length ≤ maxLen) (hN2 : N ≤ 2400) (u : Nat) (hu : u < 18446744073709551616) (n : Int) (hn : I64 n) (c : List Int) (hc : Byt c) (M : Int) (hM : I64 M) (hcl : c.length ≤ maxLen) (hM2 : M ≤ 2400) :
    (∃ K, ∀ k, K ≤ k → windroselaw17_BitsPuts.j0 k (u : Int) n false b N c M = some (true)) := by
  obtain ⟨KA, hA⟩ := awake17_ev
  have hmay := may_gen b hb N hN hbl
  have hv : I64 (wrap64 (u : Int)) := by unfold I64 wrap64; omega
  obtain ⟨v, hve⟩ : ∃ v, v = wrap64 (u : Int) := ⟨_, rfl⟩
  rw [← hve] at hv
  have HV := Aside0.mk hve
  clear hve
  by_cases hg : Good b N
  · obtain ⟨m, rfl⟩ := Int.eq_ofNat_of_zero_le hg.1
    have hg1 := hg
    obtain ⟨_, _, hg2, _⟩ := hg1
    obtain ⟨KL, hL⟩ := List_ev b hb m (by omega) (by omega)
    have hO := of_bits b hb m hg
    have hbl' := bitsOf_length b m
    obtain ⟨l, hle⟩ : ∃ l, l = bitsOf b m := ⟨_, rfl⟩
    rw [← hle] at hL hO hbl'
    subst hO
    rw [← hbl'] at hL hg hmay hN2 ⊢
    have hl : l.length ≤ 2400 := by omega
    have hcl2 := coded_le v
    obtain ⟨KP, hP⟩ := Put17_ev l (by omega) u hu n
    obtain ⟨KN, hNm⟩ := PutNum_ev l v hv (by omega) (by omega)
    obtain ⟨J, ⟨KJ, hJ⟩, ⟨K1, h1⟩⟩ := puts_j1 l hl u hu n hn c hc M hM hcl hM2
    obtain ⟨KC, hC⟩ := Coded_ev v hv
    obtain ⟨KT, hT⟩ := Told_ev (l ++ coded v) (by rw [List.length_append]; omega) 0
    obtain ⟨KK, hK⟩ := Class_ev v hv
    obtain ⟨KS, hS⟩ := Size_ev v hv
    have hrc := refclass_ev v hv
    refine ⟨KL + KP + KN + KJ + K1 + KC + KT + KK + KS + 1, fun k hk => ?_⟩
    obtain ⟨k, rfl⟩ : ∃ m, k = m + 1 := ⟨k - 1, by omega⟩
    rw [windroselaw17_BitsPuts.j0, if_neg (by decide), hP k (by omega), Option.bind_some, ← HV.out, hNm k (by omega), Option.bind_some, hJ k (by omega), Option.bind_some, hmay, Option.bind_some, decide_eq_true hg, if_pos rfl, hL k (by omega), Option.bind_some, hC k (by omega), Option.bind_some, Option.bind_some, if_pos (by rw [List.length_nil]; omega), List.nil_append, Option.bind_some, if_pos (by omega), hT k (by omega), Option.bind_some, if_pos rfl, hK k (by omega), Option.bind_some, hrc, Option.bind_some, if_pos rfl, hS k (by omega), Option.bind_some, bne_self_eq_false]
    exact h1 k (by omega)
  · obtain ⟨KP, hP⟩ := put_bad b hb N hN hbl hg (u : Int) n
    obtain ⟨KN, hNm⟩ := num_bad b hb N hN hbl hg v
    obtain ⟨KJ, hJ⟩ := join_bad b hb N hN hbl c hc M hM hcl (fun h => hg h.1)
    obtain ⟨KT, hT⟩ := Told_nil 1
    refine ⟨KP + KN + KJ + KT + KA + 1, fun k hk => ?_⟩
    obtain ⟨k, rfl⟩ : ∃ m, k = m + 1 := ⟨k - 1, by omega⟩
    rw [windroselaw17_BitsPuts.j0, if_neg (by decide), hP k (by omega), Option.bind_some, ← HV.out, hNm k (by omega), Option.bind_some, hJ k (by omega), Option.bind_some, hmay, Option.bind_some, decide_eq_false hg, if_neg (by decide), hT k (by omega), Option.bind_some, if_pos rfl, Option.bind_some, if_pos rfl, Option.bind_some, if_pos rfl, hA k (by omega), Option.bind_some]
theorem wf_u64 {x : Int} (h : (Lit.int .u64 x).wf = true) : 0 ≤ x ∧ x ≤ 18446744073709551615 := by
  simp [Lit.wf] at h
  have e1 : IntKind.min .u64 = 0 := by decide
  have e2 : IntKind.max .u64 = 18446744073709551615 := by decide
  rw [e1] at h
  first | exact h | (rw [e2] at h; exact h)
theorem BitsPuts : ∀ (l0_0 : List Int) (a0_1 : Int) (l1_0 : List Int) (a1_1 : Int) (a2_0 : Int) (a2_1 : Int), (l0_0.length ≤ maxLen ∧ ∀ y4 ∈ l0_0, (Lit.int .u8 y4).wf = true) ∧ (Lit.int .i64 a0_1).wf = true → (l1_0.length ≤ maxLen ∧ ∀ y4 ∈ l1_0, (Lit.int .u8 y4).wf = true) ∧ (Lit.int .i64 a1_1).wf = true → (Lit.int .u64 a2_0).wf = true ∧ (Lit.int .u64 a2_1).wf = true → ∃ k, windroselaw17_BitsPuts.f k l0_0 a0_1 l1_0 a1_1 a2_0 a2_1 = some true := by
  intro b N c M u n ⟨⟨hbl, hb⟩, hN⟩ ⟨⟨hcl, hc⟩, hM⟩ ⟨hu, hn⟩
  have hb := bytes_of hb
  have hc := bytes_of hc
  have hN := wf_i64 hN
  have hM := wf_i64 hM
  have hu := wf_u64 hu
  obtain ⟨u, rfl⟩ := Int.eq_ofNat_of_zero_le hu.1
  have hn : I64 (wrap64 n) := by unfold I64 wrap64; omega
  obtain ⟨KA, hA⟩ := awake17_ev
  obtain ⟨t1, e1, f1⟩ := light_ev b N
  obtain ⟨t2, e2, f2⟩ := light_ev c M
  have off : (∃ K, ∀ k, K ≤ k → windroselaw17_BitsPuts.j0 k (u : Int) (wrap64 n) true b N c M = some (true)) := by
    refine Ev.succ KA fun k hk => ?_
    rw [windroselaw17_BitsPuts.j0, if_pos rfl, hA k hk, Option.bind_some]
  obtain ⟨KO, hO⟩ := off
  cases t1 with
  | false =>
    refine ⟨KO, ?_⟩
    unfold windroselaw17_BitsPuts.f
    rw [e1, Option.bind_some, if_neg (by decide)]
    exact hO KO (Nat.le_refl _)
  | true =>
    cases t2 with
    | false =>
      refine ⟨KO, ?_⟩
      unfold windroselaw17_BitsPuts.f
      rw [e1, Option.bind_some, if_pos rfl, e2, Option.bind_some]
      exact hO KO (Nat.le_refl _)
    | true =>
      obtain ⟨K, hK⟩ := puts_j0 b hb N hN hbl (f1 rfl).2 u (by omega) (wrap64 n) hn c hc M hM hcl (f2 rfl).2
      refine ⟨K, ?_⟩
      unfold windroselaw17_BitsPuts.f
      rw [e1, Option.bind_some, if_pos rfl, e2, Option.bind_some]
      exact hK K (Nat.le_refl _)
end Go.Proofs.Ytmddmbagehjdeaa.Q
end
