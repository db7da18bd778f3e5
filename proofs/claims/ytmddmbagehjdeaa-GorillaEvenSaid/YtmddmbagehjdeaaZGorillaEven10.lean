/- Ytmddmbagehjdeaa: lines of the words and functions that the row GorillaEven rests on, and the row. No condition. -/
import Derived.Test.YtmddmbagehjdeaaZGorillaEven9
import Derived.Deep.Slices
import Derived.OpenShut
import Derived.ProofKit
section
set_option linter.unusedVariables false
set_option linter.unusedSimpArgs false
namespace Go.Proofs.YtmddmbagehjdeaaX
open Go Go.RowKit Go.Proofs.YtmddmbagehjdeaaW.PrintWords Go.ChangeShapes Go.WideShapes
def Rd (P : Program) (t : TypeId) {α : Type} (d : Kd α) (ok : α → Prop) : Prop :=
  ∀ {H : Type} (enc : TypeId × Value → H) (W : World) (base : Nat) (spare : Nat → Bool) (held : Bool) (fuel : Nat) (cs : List Value) (x : DataW H × List MemPlace),
    DataW.trod enc P W base spare held fuel t cs = some x → ∃ a, d.K W a cs ∧ ok a
def RdFs (P : Program) (L : List (TypeId × Nat)) (o e : Nat) {α : Type} (d : Kd α) (ok : α → Prop) : Prop :=
  ∀ {H : Type} (enc : TypeId × Value → H) (W : World) (base : Nat) (spare : Nat → Bool) (held : Bool) (fuel : Nat) (cs : List Value), cs.length = e →
    (∀ (i : Nat) (p : TypeId × Nat), L[i]? = some p → ∃ y, DataW.trod enc P W base spare held fuel p.1 ((cs.drop p.2).take (P.cellsOf p.1)) = some y) → ∃ a, d.K W a (cs.drop o) ∧ ok a
section
variable {P : Program} {t e : TypeId}
theorem Rd.int {k : IntKind} (ht : P.underlying t = some (.int k)) : Rd P t (Kd.int k) (fun n => (Lit.int k n).wf = true) := by
  intro H enc W base spare held fuel cs x h
  obtain ⟨n, rfl, _, hn⟩ := DataW.trod_int ht h
  exact ⟨n, rfl, hn⟩
theorem Rd.bool (ht : P.underlying t = some .bool) : Rd P t Kd.bool (fun _ => True) := by
  intro H enc W base spare held fuel cs x h
  obtain ⟨b, rfl, _⟩ := DataW.trod_bool ht h
  exact ⟨b, rfl, trivial⟩
theorem Rd.string (ht : P.underlying t = some .string) : Rd P t Kd.string (fun s => s.size ≤ maxLen) := by
  intro H enc W base spare held fuel cs x h
  obtain ⟨s, rfl, _, hs⟩ := DataW.trod_string ht h
  exact ⟨s, rfl, hs⟩
theorem cells_get {w : World} {base : Nat} {a : Addr} {n : Nat} {cs : List Value} (h : w.cells? base a n = some cs) : ∀ i u, cs[i]? = some u → w.cell? (a.add i) = some u := by
  intro i u hi
  obtain ⟨_, hl, hc⟩ := World.cells?_some h
  have hlt : i < cs.length := (List.getElem?_eq_some_iff.1 hi).1
  have := hc i (by omega)
  rw [hi] at this
  exact this
theorem Rd.slice {α : Type} {d : Kd α} {ok : α → Prop} (ht : P.underlying t = some (.slice e)) (he : P.cellsOf e = d.sz) (hd : Rd P e d ok) :
    Rd P t (Kd.slice e d) (fun l => l.length ≤ maxLen ∧ ∀ x ∈ l, ok x) := by
  intro H enc W base spare held fuel cs x h
  rcases Deep.open_slice ht h with ⟨rfl, _⟩ | ⟨a, len, cap, m, n, D, Pl, rfl, hb, hl, hm, hmm, rfl, hx⟩
  · exact ⟨[], ⟨none, 0, rfl, Nat.le_refl _, rfl, by simp, fun h0 => absurd h0 (Nat.lt_irrefl _)⟩, by simp [maxLen], fun x hx => by cases hx⟩
  · have hlm : len ≤ m := by rw [hmm]; split <;> omega
    have hall : ∀ i, i < len → ∃ y : α, (∃ c, W.cells? base (a.add (i * P.cellsOf e)) (P.cellsOf e) = some c ∧ d.K W y c) ∧ ok y := by
      intro i hi
      obtain ⟨c, h1, h2⟩ := hx i (by omega)
      obtain ⟨y, h3, h4⟩ := hd enc W base spare held n c _ h2
      exact ⟨y, ⟨c, h1, h3⟩, h4⟩
    have hlist : ∃ l : List α, l.length = len ∧ ∀ i y, l[i]? = some y → (∃ c, W.cells? base (a.add (i * P.cellsOf e)) (P.cellsOf e) = some c ∧ d.K W y c) ∧ ok y := by
      have key : ∀ k, k ≤ len → ∃ l : List α, l.length = k ∧ ∀ i y, l[i]? = some y → (∃ c, W.cells? base (a.add (i * P.cellsOf e)) (P.cellsOf e) = some c ∧ d.K W y c) ∧ ok y := by
        intro k
        induction k with
        | zero => exact fun _ => ⟨[], rfl, fun i y hy => by simp at hy⟩
        | succ k ih =>
          intro hk
          obtain ⟨l, hl1, hl2⟩ := ih (by omega)
          obtain ⟨y, hy⟩ := hall k (by omega)
          refine ⟨l ++ [y], by simp [hl1], fun i z hz => ?_⟩
          rcases Nat.lt_or_ge i l.length with hi | hi
          · rw [List.getElem?_append_left hi] at hz
            exact hl2 i z hz
          · rw [List.getElem?_append_right hi] at hz
            have h0 : i - l.length = 0 := by
              have := (List.getElem?_eq_some_iff.1 hz).1
              simp at this
              omega
            rw [h0] at hz
            simp at hz
            subst hz
            have : i = k := by omega
            subst this
            exact hy
      exact key len (Nat.le_refl _)
    obtain ⟨l, hl1, hl2⟩ := hlist
    refine ⟨l, ⟨some a, cap, by rw [hl1], by omega, rfl, by rw [hl1]; simp only [maxLen] at hm; omega, fun _ => ⟨a, rfl, fun j p hp => ?_⟩⟩, by omega, fun y hy => ?_⟩
    · obtain ⟨⟨c, h1, h2⟩, _⟩ := hl2 j p hp
      refine ⟨c, d.K_len h2, h2, fun i u hu => ?_⟩
      have := cells_get h1 i u hu
      rw [Deep.add_add, he] at this
      exact this
    · obtain ⟨i, hi, rfl⟩ := List.getElem_of_mem hy
      exact (hl2 i _ (List.getElem?_eq_getElem hi)).2
theorem RdFs.one {t o : Nat} {α : Type} {d : Kd α} {ok : α → Prop} (h : Rd P t d ok) : RdFs P [(t, o)] o (o + P.cellsOf t) d ok := by
  intro H enc W base spare held fuel cs hl hi
  obtain ⟨y, hy⟩ := hi 0 _ rfl
  obtain ⟨a, ha, hk⟩ := h enc W base spare held fuel _ _ hy
  rw [List.take_of_length_le (by simp [hl])] at ha
  exact ⟨a, ha, hk⟩
theorem RdFs.cons {t o e' : Nat} {L : List (TypeId × Nat)} {α β : Type} {d : Kd α} {d' : Kd β} {ok : α → Prop} {ok' : β → Prop} (h : Rd P t d ok) (hs : RdFs P L (o + P.cellsOf t) e' d' ok') :
    RdFs P ((t, o) :: L) o e' (Kd.pair d d') (fun x => ok x.1 ∧ ok' x.2) := by
  intro H enc W base spare held fuel cs hl hi
  obtain ⟨y, hy⟩ := hi 0 _ rfl
  obtain ⟨a, ha, hk⟩ := h enc W base spare held fuel _ _ hy
  obtain ⟨b, hb, hk'⟩ := hs enc W base spare held fuel cs hl (fun i p hp => hi (i + 1) p (by simpa using hp))
  refine ⟨(a, b), ⟨_, _, ?_, ha, hb⟩, hk, hk'⟩
  rw [← List.drop_drop]
  exact (List.take_append_drop _ _).symm
theorem Rd.struct {α β : Type} {d : Kd α} {ok : α → Prop} {fs : Array Field} (f : β → α) (g : α → β) (hg : ∀ a, f (g a) = a) (ht : P.underlying t = some (.struct fs))
    (h : RdFs P (fs.toList.map fun f => (f.type, f.offset)) 0 (P.cellsOf t) d ok) : Rd P t (Kd.iso d f) (fun x => ok (f x)) := by
  intro H enc W base spare held fuel cs x hx
  obtain ⟨xs, n, rfl, _, hl, hn, hi⟩ := DataW.trod_struct ht hx
  obtain ⟨a, ha, hk⟩ := h enc W base spare held n cs hl (fun i p hp => by
    rw [List.getElem?_map] at hp
    obtain ⟨f', hf', rfl⟩ := Option.map_eq_some_iff.1 hp
    have h1 := hi i f' (by simpa using hf')
    have hlt : i < xs.length := by
      have := (List.getElem?_eq_some_iff.1 hf').1
      simp at this
      omega
    rw [List.getElem?_eq_getElem hlt] at h1
    exact ⟨_, h1⟩)
  refine ⟨g a, ?_, by show ok (f (g a)); rw [hg]; exact hk⟩
  show d.K W (f (g a)) cs
  rw [hg]
  simpa using ha
theorem Rd.array {α β : Type} {d : Kd α} {ok : α → Prop} {n : Nat} (f : β → α) (g : α → β) (hg : ∀ a, f (g a) = a) (ht : P.underlying t = some (.array n e))
    (h : RdFs P ((List.range n).map fun i => (e, i * P.cellsOf e)) 0 (P.cellsOf t) d ok) : Rd P t (Kd.iso d f) (fun x => ok (f x)) := by
  intro H enc W base spare held fuel cs x hx
  obtain ⟨xs, m, rfl, _, hl, hn, hi⟩ := DataW.trod_array ht hx
  obtain ⟨a, ha, hk⟩ := h enc W base spare held m cs hl (fun i p hp => by
    rw [List.getElem?_map] at hp
    obtain ⟨j, hj, rfl⟩ := Option.map_eq_some_iff.1 hp
    obtain ⟨hlt, hj⟩ := List.getElem?_eq_some_iff.1 hj
    simp at hj hlt
    subst hj
    have h1 := hi i hlt
    rw [List.getElem?_eq_getElem (by omega)] at h1
    exact ⟨_, h1⟩)
  refine ⟨g a, ?_, by show ok (f (g a)); rw [hg]; exact hk⟩
  show d.K W (f (g a)) cs
  rw [hg]
  simpa using ha
theorem okWide_array {P : Program} {w : World} {r : Reach} {base : Nat} {t : TypeId} {v : Value} {n : Nat} {e : TypeId} (ht : P.underlying t = some (.array n e)) (h : Value.okWide P w r base t v) : ∃ cs, v = .agg cs ∧ cs.size = P.cellsOf t := by
  simp only [Value.okWide, ht] at h
  obtain ⟨cs, h1, h2, _⟩ := h
  exact ⟨cs, h1, h2⟩
end
end Go.Proofs.YtmddmbagehjdeaaX
end
section
set_option linter.unusedVariables false
namespace Go.Proofs.Ytmddmbagehjdeaa.Q
open Go Go.RowKit Go.Proofs.YtmddmbagehjdeaaW.PrintWords
theorem w64 {x : Int} (h : -9223372036854775808 ≤ x) (h' : x ≤ 9223372036854775807) : wrap64 x = x := by unfold wrap64; omega
theorem Ev.succ {α : Type} {g : Nat → Option α} {r : α} (K : Nat) (h : ∀ k, K ≤ k → g (k + 1) = some r) : Ev g r := by
  refine ⟨K + 1, fun k hk => ?_⟩
  obtain ⟨m, rfl⟩ : ∃ m, k = m + 1 := ⟨k - 1, by omega⟩
  exact h m (by omega)
theorem Ev.mk {α : Type} {g : Nat → Option α} {r : α} (K : Nat) (h : ∀ k, K ≤ k → g k = some r) : Ev g r := ⟨K, h⟩
theorem getD_mem {α : Type} (l : List α) (i : Nat) (d : α) (h : i < l.length) : l.getD i d ∈ l := by
  rw [List.getD_eq_getElem?_getD, List.getElem?_eq_getElem h]
  exact List.getElem_mem h
theorem drop_getD {α : Type} (l : List α) (i : Nat) (d : α) (h : i < l.length) : l.drop i = l.getD i d :: l.drop (i + 1) := by
  rw [List.drop_eq_getElem_cons h, List.getD_eq_getElem?_getD, List.getElem?_eq_getElem h]
  rfl
theorem tmod_nn {a b : Int} (h : 0 ≤ a) : Int.tmod a b = a % b := Int.tmod_eq_emod_of_nonneg h
theorem tdiv_nn {a b : Int} (h : 0 ≤ a) : Int.tdiv a b = a / b := Int.tdiv_eq_ediv_of_nonneg h
end Go.Proofs.Ytmddmbagehjdeaa.Q
end
section
set_option linter.unusedVariables false
namespace Go.Proofs.Ytmddmbagehjdeaa.Q
open Go Go.RowKit Go.Proofs.YtmddmbagehjdeaaW.PrintWords Go.Proofs.YtmddmbagehjdeaaW.PrintMore
def bv : List Bool → Nat
  | [] => 0
  | b :: l => b.toNat * 2 ^ l.length + bv l
theorem bv_append : ∀ a b : List Bool, bv (a ++ b) = bv a * 2 ^ b.length + bv b
  | [], b => by simp [bv]
  | x :: a, b => by
    rw [List.cons_append, bv, bv, bv_append a b, List.length_append, Nat.pow_add, Nat.add_mul, Nat.mul_assoc, Nat.add_assoc]
theorem bv_lt : ∀ a : List Bool, bv a < 2 ^ a.length
  | [] => by simp [bv]
  | x :: a => by
    have h := bv_lt a
    have hx : x.toNat ≤ 1 := by cases x <;> decide
    have : x.toNat * 2 ^ a.length ≤ 1 * 2 ^ a.length := Nat.mul_le_mul_right _ hx
    rw [bv, List.length_cons, Nat.pow_succ]
    omega
def low (u : Nat) : Nat → List Bool
  | 0 => []
  | n + 1 => (u / 2 ^ n % 2 == 1) :: low u n
theorem low_length (u : Nat) : ∀ n, (low u n).length = n
  | 0 => rfl
  | n + 1 => by rw [low, List.length_cons, low_length u n]
theorem bv_low (u : Nat) : ∀ n, bv (low u n) = u % 2 ^ n
  | 0 => by simp [low, bv, Nat.mod_one]
  | n + 1 => by
    rw [low, bv, low_length, bv_low u n, Nat.pow_succ]
    have e : (u / 2 ^ n % 2 == 1).toNat = u / 2 ^ n % 2 := by
      rcases Nat.mod_two_eq_zero_or_one (u / 2 ^ n) with h | h <;> rw [h] <;> rfl
    rw [e, Nat.mod_mul]
    rw [Nat.mul_comm, Nat.add_comm]
theorem low_bit (a b n : Nat) (h : b < 2 ^ n) : ∀ m, m ≤ n → low (a * 2 ^ n + b) m = low b m
  | 0, _ => rfl
  | m + 1, hm => by
    rw [low, low, low_bit a b n h m (by omega)]
    have e : 2 ^ n = 2 ^ m * (2 * 2 ^ (n - m - 1)) := by rw [← Nat.pow_succ', ← Nat.pow_add]; congr 1; omega
    have h1 : (a * 2 ^ n + b) / 2 ^ m % 2 = b / 2 ^ m % 2 := by
      rw [e, show a * (2 ^ m * (2 * 2 ^ (n - m - 1))) = 2 ^ m * (a * 2 ^ (n - m - 1) * 2) by
        rw [Nat.mul_comm 2 (2 ^ (n - m - 1)), ← Nat.mul_assoc, ← Nat.mul_assoc, Nat.mul_comm a (2 ^ m), Nat.mul_assoc (2 ^ m) a, Nat.mul_assoc (2 ^ m)]]
      rw [Nat.mul_add_div (Nat.two_pow_pos m)]
      omega
    rw [h1]
theorem low_bv : ∀ l : List Bool, low (bv l) l.length = l
  | [] => rfl
  | x :: l => by
    have hb := bv_lt l
    rw [List.length_cons, low, bv, low_bit _ _ _ hb _ (Nat.le_refl _), low_bv l]
    congr 1
    rw [Nat.mul_comm, Nat.mul_add_div (Nat.two_pow_pos _), Nat.div_eq_of_lt hb]
    cases x <;> rfl
theorem low_split (u m : Nat) : ∀ n, low u (n + m) = low (u / 2 ^ m) n ++ low u m
  | 0 => by simp [low]
  | n + 1 => by
    rw [show n + 1 + m = (n + m) + 1 by omega, low, low, low_split u m n, List.cons_append]
    congr 2
    rw [Nat.div_div_eq_div_mul, ← Nat.pow_add, Nat.add_comm m n]
def byteOf (m : List Bool) : Nat := bv m * 2 ^ (8 - m.length)
def Of (l : List Bool) : List Int := (List.range ((l.length + 7) / 8)).map fun j => (byteOf ((l.drop (8 * j)).take 8) : Int)
theorem Of_length (l : List Bool) : (Of l).length = (l.length + 7) / 8 := by simp [Of]
theorem Of_getD (l : List Bool) (j : Nat) : (Of l).getD j 0 = (byteOf ((l.drop (8 * j)).take 8) : Int) := by
  rw [List.getD_eq_getElem?_getD]
  by_cases h : j < (l.length + 7) / 8
  · rw [Of, List.getElem?_map, List.getElem?_range h]
    rfl
  · rw [List.getElem?_eq_none (by rw [Of_length]; omega), List.drop_of_length_le (by omega)]
    rfl
theorem rd_Of (l : List Bool) (j : Nat) : rd (Of l) (j : Int) = (byteOf ((l.drop (8 * j)).take 8) : Int) := by
  unfold rd
  rw [Int.toNat_natCast, Of_getD]
theorem byteOf_lt (m : List Bool) (h : m.length ≤ 8) : byteOf m < 256 := by
  have hb := bv_lt m
  unfold byteOf
  have e : 256 = 2 ^ m.length * 2 ^ (8 - m.length) := by rw [← Nat.pow_add, show m.length + (8 - m.length) = 8 by omega]
  rw [e]
  exact (Nat.mul_lt_mul_right (Nat.two_pow_pos _)).2 hb
theorem eight {x : Nat} (h : x ≤ 8) : x = 0 ∨ x = 1 ∨ x = 2 ∨ x = 3 ∨ x = 4 ∨ x = 5 ∨ x = 6 ∨ x = 7 ∨ x = 8 := by omega
theorem Of_more (l p : List Bool) (h0 : l.length % 8 ≠ 0) (h : l.length % 8 + p.length ≤ 8) :
    Of (l ++ p) = (Of l).set ((Of l).length - 1) ((byteOf ((l.drop (8 * (l.length / 8))).take 8) : Int) + bv p * 2 ^ (8 - l.length % 8 - p.length)) := by
  apply List.ext_getElem?
  intro j
  rw [List.getElem?_set, Of_length]
  by_cases hj : j < (l.length + 7) / 8
  · rw [Of, List.getElem?_map, List.getElem?_range (by rw [List.length_append]; omega), Option.map_some]
    split
    · rename_i e
      rw [if_pos (by omega)]
      have ej : j = l.length / 8 := by omega
      subst ej
      have hl : (l.drop (8 * (l.length / 8))).length = l.length % 8 := by rw [List.length_drop]; omega
      have t1 : (l.drop (8 * (l.length / 8))).take 8 = l.drop (8 * (l.length / 8)) := List.take_of_length_le (by omega)
      rw [List.drop_append_of_le_length (by omega), List.take_of_length_le (by rw [List.length_append]; omega), t1]
      unfold byteOf
      rw [bv_append, List.length_append, hl, Nat.add_mul, Nat.mul_assoc, ← Nat.pow_add, show p.length + (8 - (l.length % 8 + p.length)) = 8 - l.length % 8 by omega, show 8 - (l.length % 8 + p.length) = 8 - l.length % 8 - p.length by omega]
      simp
    · rename_i e
      rw [Of, List.getElem?_map, List.getElem?_range hj, Option.map_some]
      rw [List.drop_append_of_le_length (by omega), List.take_append_of_le_length (by rw [List.length_drop]; omega)]
  · rw [List.getElem?_eq_none (by rw [Of_length, List.length_append]; omega), if_neg (by omega), List.getElem?_eq_none (by rw [Of_length]; omega)]
theorem Of_new (l p : List Bool) (h0 : l.length % 8 = 0) (h : p.length ≤ 8) (hp : 1 ≤ p.length) : Of (l ++ p) = Of l ++ [(byteOf p : Int)] := by
  apply List.ext_getElem?
  intro j
  by_cases hj : j < (l.length + 7) / 8
  · rw [List.getElem?_append_left (by rw [Of_length]; exact hj), Of, Of, List.getElem?_map, List.getElem?_range (by rw [List.length_append]; omega), List.getElem?_map, List.getElem?_range hj, Option.map_some, Option.map_some]
    rw [List.drop_append_of_le_length (by omega), List.take_append_of_le_length (by rw [List.length_drop]; omega)]
  · rw [List.getElem?_append_right (by rw [Of_length]; omega), Of_length]
    by_cases hj2 : j = l.length / 8
    · subst hj2
      rw [Of, List.getElem?_map, List.getElem?_range (by rw [List.length_append]; omega), Option.map_some, show l.length / 8 - (l.length + 7) / 8 = 0 by omega]
      rw [show 8 * (l.length / 8) = l.length by omega, List.drop_left, List.take_of_length_le h]
      rfl
    · rw [List.getElem?_eq_none (by rw [Of_length, List.length_append]; omega), List.getElem?_eq_none (by rw [List.length_singleton]; omega)]
theorem byteOf_last (l : List Bool) (h0 : l.length % 8 ≠ 0) : byteOf ((l.drop (8 * (l.length / 8))).take 8) % 2 ^ (8 - l.length % 8) = 0 := by
  have hl : (l.drop (8 * (l.length / 8))).length = l.length % 8 := by rw [List.length_drop]; omega
  rw [List.take_of_length_le (by omega)]
  unfold byteOf
  rw [hl]
  exact Nat.mul_mod_left _ _
end Go.Proofs.Ytmddmbagehjdeaa.Q
end
section
set_option linter.unusedVariables false
namespace Go.Proofs.Ytmddmbagehjdeaa.Q
open Go Go.RowKit Go.Proofs.Ytmddmbagehjdeaa.G Go.Proofs.YtmddmbagehjdeaaW.PrintWords Go.Proofs.YtmddmbagehjdeaaW.PrintLast Go.Proofs.YtmddmbagehjdeaaW.PrintMore
theorem u8bits : IntKind.bits .u8 = 8 := rfl
theorem u64bits : IntKind.bits .u64 = 64 := rfl
theorem wraps_u64 (n : Int) (h0 : 0 ≤ n) (h1 : n < 2 ^ 64) : IntKind.u64.wrap n = n := by
  simp [IntKind.wrap, IntKind.bits, IntKind.signed]
  omega
theorem mn_nat (a b : Nat) : mn (a : Int) (b : Int) = ((min a b : Nat) : Int) := by
  unfold mn
  rcases Nat.lt_or_ge b a with h | h
  · rw [if_pos (by omega), Nat.min_eq_right (by omega)]
  · rw [if_neg (by omega), Nat.min_eq_left h]
theorem shr_nat (kd : IntKind) (x y : Nat) (hy : y ≤ kd.bits) : shr kd (x : Int) (y : Int) = ((x / 2 ^ y : Nat) : Int) := by
  unfold shr
  rw [Int.toNat_natCast, Nat.min_eq_left hy]
  simp
theorem shl8_nat (x y : Nat) (hy : y ≤ 8) : shl .u8 (x : Int) (y : Int) = ((x * 2 ^ y % 256 : Nat) : Int) := by
  unfold shl
  rw [Int.toNat_natCast, Nat.min_eq_left (by rw [u8bits]; exact hy), IntKind.wrap_u8]
  simp
theorem put_piece (u n k i : Nat) (hk : 1 ≤ k) (hkn : k ≤ n) (hn : n ≤ 64) (hik : i + k ≤ 8) :
    shr .u8 (shl .u8 ((shr .u64 (u : Int) ((n - k : Nat) : Int)) % 256) ((8 - k : Nat) : Int)) (i : Int) = ((bv (low (u / 2 ^ (n - k)) k) * 2 ^ (8 - i - k) : Nat) : Int) := by
  rw [shr_nat .u64 u (n - k) (by rw [u64bits]; omega), show (((u / 2 ^ (n - k) : Nat) : Int) % 256) = ((u / 2 ^ (n - k) % 256 : Nat) : Int) by simp, shl8_nat _ _ (by omega), shr_nat .u8 _ _ (by rw [u8bits]; omega), bv_low]
  congr 1
  generalize u / 2 ^ (n - k) = q
  clear hkn hn
  rcases eight (show i ≤ 8 by omega) with rfl | rfl | rfl | rfl | rfl | rfl | rfl | rfl | rfl <;>
  rcases eight (show k ≤ 8 by omega) with rfl | rfl | rfl | rfl | rfl | rfl | rfl | rfl | rfl <;>
  first
    | (exfalso; omega)
    | (simp only [Nat.reducePow, Nat.reduceSub] at *; omega)
theorem or_low (x y : Nat) (i : Nat) (hx : x % 2 ^ i = 0) (hx1 : x < 256) (hy : y < 2 ^ i) (hy1 : y < 256) : bits .or .u8 (x : Int) (y : Int) = ((x + y : Nat) : Int) := by
  have h := bits_join .u8 8 (by decide) (fun n h0 h1 => wraps_u8 n h0 h1) i (x : Int) (y : Int) (Int.natCast_nonneg _) (by exact_mod_cast hx) (by exact_mod_cast hx1) (Int.natCast_nonneg _) (by exact_mod_cast hy) (by exact_mod_cast hy1)
  rw [h]
  simp
theorem bv_piece_lt (q k i : Nat) (hik : i + k ≤ 8) : bv (low q k) * 2 ^ (8 - i - k) < 2 ^ (8 - i) := by
  have h := bv_lt (low q k)
  rw [low_length] at h
  have e : 2 ^ (8 - i) = 2 ^ k * 2 ^ (8 - i - k) := by rw [← Nat.pow_add]; congr 1; omega
  rw [e]
  exact (Nat.mul_lt_mul_right (Nat.two_pow_pos _)).2 h
theorem put_loop (u : Nat) (hu : u < 2 ^ 64) (d : Nat) : ∀ (n : Nat) (l : List Bool), n ≤ d → n ≤ 64 → l.length + n ≤ 1000000 →
    (∃ K, ∀ k, K ≤ k → bits_put.l0 k (u : Int) (n : Int) (Of l) (l.length : Int) = some ((Of (l ++ low u n), ((l.length + n : Nat) : Int)))) := by
  induction d with
  | zero =>
    intro n l hn _ _
    obtain rfl : n = 0 := by omega
    refine Ev.succ 0 fun k _ => ?_
    rw [bits_put.l0, if_neg (by omega)]
    simp [low]
  | succ d ih =>
    intro n l hn h64 hl
    rcases Nat.eq_zero_or_pos n with rfl | hpos
    · refine Ev.succ 0 fun k _ => ?_
      rw [bits_put.l0, if_neg (by omega)]
      simp [low]
    obtain ⟨i, hi⟩ : ∃ i, i = l.length % 8 := ⟨_, rfl⟩
    obtain ⟨k, hk⟩ : ∃ k, k = min n (8 - i) := ⟨_, rfl⟩
    have hi8 : i < 8 := by omega
    have hk1 : 1 ≤ k := by omega
    have hkn : k ≤ n := by omega
    have hik : i + k ≤ 8 := by omega
    have hlow : low u n = low (u / 2 ^ (n - k)) k ++ low u (n - k) := by
      have := low_split u (n - k) k
      rwa [show k + (n - k) = n by omega] at this
    obtain ⟨p, hp⟩ : ∃ p, p = low (u / 2 ^ (n - k)) k := ⟨_, rfl⟩
    have hpl : p.length = k := by rw [hp, low_length]
    obtain ⟨K, hK⟩ := ih (n - k) (l ++ p) (by omega) (by omega) (by rw [List.length_append, hpl]; omega)
    rw [List.append_assoc, hp, ← hlow, ← hp, List.length_append, hpl, show l.length + k + (n - k) = l.length + n by omega] at hK
    refine Ev.succ K fun k0 hk0 => ?_
    have hpc := put_piece u n k i hk1 hkn h64 hik
    rw [← hp] at hpc
    have hlt : bv p * 2 ^ (8 - i - k) < 2 ^ (8 - i) := by rw [hp]; exact bv_piece_lt _ _ _ hik
    have h256 : bv p * 2 ^ (8 - i - k) < 256 := Nat.lt_of_lt_of_le hlt (Nat.le_trans (Nat.pow_le_pow_right (show 0 < 2 by decide) (Nat.sub_le 8 i)) (by decide : (2 : Nat) ^ 8 ≤ 256))
    have eOr0 := or_low 0 (bv p * 2 ^ (8 - i - k)) 8 (by decide) (by decide) h256 h256
    have hbb := byteOf_lt ((l.drop (8 * (l.length / 8))).take 8) (by rw [List.length_take]; exact Nat.min_le_left _ _)
    have eOr1 : l.length % 8 ≠ 0 → bits .or .u8 ((byteOf ((l.drop (8 * (l.length / 8))).take 8) : Nat) : Int) ((bv p * 2 ^ (8 - i - k) : Nat) : Int) = ((byteOf ((l.drop (8 * (l.length / 8))).take 8) + bv p * 2 ^ (8 - i - k) : Nat) : Int) := fun hz => by
      have hbl := byteOf_last l hz
      rw [← hi] at hbl
      exact or_low _ _ _ hbl hbb hlt h256
    clear hlt h256 hbb
    have e0 : Aside0 (Int.tmod (l.length : Int) 8 = (i : Int)) := ⟨by rw [tmod_nn (Int.natCast_nonneg _), hi]; simp⟩
    have e1 : Aside0 (wrap64 (8 - (i : Int)) = ((8 - i : Nat) : Int)) := ⟨by rw [w64] <;> omega⟩
    have e2 : Aside0 (mn (n : Int) ((8 - i : Nat) : Int) = (k : Int)) := ⟨by rw [mn_nat, hk]⟩
    have e3 : Aside0 (wrap64 ((n : Int) - (k : Int)) = ((n - k : Nat) : Int)) := ⟨by rw [w64] <;> omega⟩
    have e4 : Aside0 (wrap64 (8 - (k : Int)) = ((8 - k : Nat) : Int)) := ⟨by rw [w64] <;> omega⟩
    have e5 : Aside0 (wrap64 ((l.length : Int) + (k : Int)) = ((l.length + k : Nat) : Int)) := ⟨by rw [w64] <;> omega⟩
    have hOl := Of_length l
    have c1 : (n : Int) > 0 := by omega
    have c2 : (0 : Int) ≤ ((n - k : Nat) : Int) := Int.natCast_nonneg _
    have c3 : (0 : Int) ≤ ((8 - k : Nat) : Int) := Int.natCast_nonneg _
    have c4 : (0 : Int) ≤ (i : Int) := Int.natCast_nonneg _
    rw [bits_put.l0, e0.out, e1.out, e2.out, e3.out, e4.out, e5.out, if_pos c1]
    by_cases h0 : i = 0
    · have hz : l.length % 8 = 0 := by omega
      have hyl : ((Of l ++ [0] : List Int).length : Int) = ((l.length / 8 + 1 : Nat) : Int) := by rw [List.length_append, hOl, List.length_singleton]; congr 2; omega
      have e6 : Aside0 (wrap64 (((Of l ++ [0] : List Int).length : Int) - 1) = ((Of l).length : Int)) := ⟨by rw [hyl, hOl, w64] <;> omega⟩
      have c5 : (i : Int) = 0 := by omega
      have c6 : (Of l).length < 140737488355328 := by rw [hOl]; omega
      have c7 : (0 : Int) ≤ ((Of l).length : Int) := Int.natCast_nonneg _
      have c8 : ((Of l).length : Int) < ((Of l ++ [0] : List Int).length : Int) := by rw [hyl, hOl]; omega
      have e7 : rd (Of l ++ [0] : List Int) ((Of l).length : Int) = ((0 : Nat) : Int) := by simp [rd]
      have e8 : (Of l ++ [0] : List Int).set ((Of l).length : Int).toNat (bits .or .u8 (rd (Of l ++ [0] : List Int) ((Of l).length : Int)) (shr .u8 (shl .u8 ((shr .u64 (u : Int) ((n - k : Nat) : Int)) % 256) ((8 - k : Nat) : Int)) (i : Int))) = Of (l ++ p) := by
        rw [e7, hpc, eOr0, Of_new l p hz (by omega) (by omega), Int.toNat_natCast, List.set_append_right _ _ (Nat.le_refl _)]
        unfold byteOf
        rw [hpl, h0]
        simp
      rw [if_pos c5, if_pos c6, Option.bind_some, e6.out, if_pos c2, if_pos c7, if_pos c8, if_pos c3, if_pos c4, e8]
      exact hK k0 hk0
    · have hz : l.length % 8 ≠ 0 := by omega
      have e6 : Aside0 (wrap64 (((Of l).length : Int) - 1) = ((l.length / 8 : Nat) : Int)) := ⟨by rw [hOl, w64] <;> omega⟩
      have c5 : ¬ (i : Int) = 0 := by omega
      have c7 : (0 : Int) ≤ ((l.length / 8 : Nat) : Int) := Int.natCast_nonneg _
      have c8 : ((l.length / 8 : Nat) : Int) < ((Of l).length : Int) := by rw [hOl]; omega
      have e8 : (Of l).set ((l.length / 8 : Nat) : Int).toNat (bits .or .u8 (rd (Of l) ((l.length / 8 : Nat) : Int)) (shr .u8 (shl .u8 ((shr .u64 (u : Int) ((n - k : Nat) : Int)) % 256) ((8 - k : Nat) : Int)) (i : Int))) = Of (l ++ p) := by
        rw [rd_Of, hpc, eOr1 hz, Of_more l p hz (by omega), Int.toNat_natCast, hOl, hpl, ← hi]
        congr 1
        omega
      rw [if_neg c5, e6.out, if_pos c2, if_pos c7, if_pos c8, if_pos c3, if_pos c4, e8]
      exact hK k0 hk0
theorem put_ev (u : Nat) (hu : u < 2 ^ 64) (n : Nat) (l : List Bool) (hn : n ≤ 64) (hl : l.length + n ≤ 1000000) :
    (∃ K, ∀ k, K ≤ k → bits_put.f k (Of l) (l.length : Int) (u : Int) (n : Int) = some ((Of (l ++ low u n), ((l.length + n : Nat) : Int)))) := put_loop u hu n n l (Nat.le_refl _) hn hl
end Go.Proofs.Ytmddmbagehjdeaa.Q
end
section
set_option linter.unusedVariables false
namespace Go.Proofs.Ytmddmbagehjdeaa.Q
open Go Go.RowKit Go.Proofs.Ytmddmbagehjdeaa.G Go.Proofs.YtmddmbagehjdeaaW.PrintWords Go.Proofs.YtmddmbagehjdeaaW.PrintLast Go.Proofs.YtmddmbagehjdeaaW.PrintMore
theorem wrap_u64 (n : Int) : IntKind.u64.wrap n = n % 18446744073709551616 := by simp [IntKind.wrap, IntKind.bits, IntKind.signed]
theorem bits_xor (k : IntKind) (j : Nat) (hj : j ≤ k.bits) (hk : ∀ n : Int, 0 ≤ n → n < 2 ^ j → k.wrap n = n) (a b : Nat) (ha : a < 2 ^ j) (hb : b < 2 ^ j) : bits .xor k a b = ((a ^^^ b : Nat) : Int) := by
  have hp : 2 ^ j ≤ 2 ^ k.bits := Nat.pow_le_pow_right (by decide) hj
  have ha' : a % 2 ^ k.bits = a := Nat.mod_eq_of_lt (Nat.lt_of_lt_of_le ha hp)
  have hb' : b % 2 ^ k.bits = b := Nat.mod_eq_of_lt (Nat.lt_of_lt_of_le hb hp)
  simp only [bits, BitVec.ofInt_natCast, BitVec.toNat_xor, BitVec.toNat_ofNat, ha', hb']
  exact hk _ (Int.natCast_nonneg _) (by exact_mod_cast Nat.xor_lt_two_pow ha hb)
theorem two64 : (2 : Nat) ^ 64 = 18446744073709551616 := by decide
theorem nat_xor_ones (x : Nat) (h : x < 18446744073709551616) : x ^^^ 18446744073709551615 = 18446744073709551615 - x := by
  have h1 : (BitVec.ofNat 64 x ^^^ BitVec.allOnes 64).toNat = x ^^^ 18446744073709551615 := by
    rw [BitVec.toNat_xor, BitVec.toNat_ofNat, Nat.mod_eq_of_lt (by rw [two64]; exact h), BitVec.toNat_allOnes]
  rw [← h1, BitVec.xor_allOnes, BitVec.toNat_not, BitVec.toNat_ofNat, Nat.mod_eq_of_lt (by rw [two64]; exact h)]
theorem xor_zero (x : Nat) (h : x < 18446744073709551616) : bits .xor .u64 (x : Int) 0 = (x : Int) := by
  have := bits_xor .u64 64 (by decide) wraps_u64 x 0 (by rw [two64]; exact h) (by decide)
  rw [Nat.xor_zero] at this
  exact this
theorem xor_ones (x : Nat) (h : x < 18446744073709551616) : bits .xor .u64 (x : Int) 18446744073709551615 = ((18446744073709551615 - x : Nat) : Int) := by
  have := bits_xor .u64 64 (by decide) wraps_u64 x 18446744073709551615 (by rw [two64]; exact h) (by decide)
  rw [nat_xor_ones x h] at this
  exact this
def foldN (n : Int) : Nat := if 0 ≤ n then (2 * n).toNat else (-2 * n - 1).toNat
def I64 (n : Int) : Prop := -9223372036854775808 ≤ n ∧ n ≤ 9223372036854775807
theorem foldN_lt {n : Int} (h : I64 n) : foldN n < 18446744073709551616 := by
  unfold I64 at h
  unfold foldN
  split <;> omega
theorem fold_ev (n : Int) (h : I64 n) : bits_fold.f n = some (foldN n : Int) := by
  unfold bits_fold.f I64 at *
  congr 1
  rw [wrap_u64, wrap_u64, wrap_u64]
  by_cases h0 : 0 ≤ n
  · have e1 : n / 9223372036854775808 % 18446744073709551616 = 0 := by omega
    have e2 : n % 18446744073709551616 * 2 % 18446744073709551616 = ((foldN n : Nat) : Int) := by unfold foldN; rw [if_pos h0]; omega
    rw [e1, e2, xor_zero _ (foldN_lt h)]
  · have e1 : n / 9223372036854775808 % 18446744073709551616 = 18446744073709551615 := by omega
    have e2 : n % 18446744073709551616 * 2 % 18446744073709551616 = (((2 * n + 18446744073709551616).toNat : Nat) : Int) := by omega
    rw [e1, e2, xor_ones _ (by omega)]
    unfold foldN
    rw [if_neg h0]
    omega
def cls (u : Nat) : Nat := if u = 0 then 0 else if u < 128 then 1 else if u < 4096 then 2 else if u < 1048576 then 3 else 4
def wd (c : Nat) : Nat := if c = 0 then 0 else if c = 1 then 7 else if c = 2 then 12 else if c = 3 then 20 else 64
theorem cls_le (u : Nat) : cls u ≤ 4 := by unfold cls; (repeat' split) <;> omega
theorem four {c : Nat} (h : c ≤ 4) : c = 0 ∨ c = 1 ∨ c = 2 ∨ c = 3 ∨ c = 4 := by omega
theorem width_ev (c : Nat) (h : c ≤ 4) : bits_width.f (c : Int) = some (wd c : Int) := by
  rcases four h with rfl | rfl | rfl | rfl | rfl <;> rfl
theorem bitLen_gt (u w : Nat) (hu : u < 18446744073709551616) : w < Lib.bitLen u ↔ 2 ^ w ≤ u := by
  by_cases hw : w ≤ 64
  · constructor
    · intro h
      rcases Nat.lt_or_ge u (2 ^ w) with h1 | h1
      · have := Lib.bitLen_le u w hw h1
        omega
      · exact h1
    · intro h
      have h1 := Lib.bitLen_shift w u h (by simpa using hu)
      have h2 : u / 2 ^ w ≠ 0 := by
        have := Nat.div_pos h (Nat.two_pow_pos w)
        omega
      have h3 := Lib.bitLen_half (u / 2 ^ w) h2 (Nat.lt_of_le_of_lt (Nat.div_le_self _ _) (by simpa using hu))
      omega
  · constructor
    · intro h
      have := Lib.bitLen_le u 64 (Nat.le_refl _) (by simpa using hu)
      omega
    · intro h
      have h1 : 2 ^ 64 ≤ 2 ^ w := Nat.pow_le_pow_right (by decide) (by omega)
      have h2 : (2 : Nat) ^ 64 = 18446744073709551616 := by decide
      omega
theorem len64_ev (u : Nat) (hu : u < 18446744073709551616) : bits_Len64.f (u : Int) = some (Lib.bitLen u : Int) := by
  unfold bits_Len64.f
  rw [if_pos (by omega), Int.toNat_natCast]
theorem class_step (n : Int) (h : I64 n) (c : Nat) (hc : c < 4) (K : Nat) (r : Option Int) (hr : ∀ k, K ≤ k → (if 2 ^ wd c ≤ foldN n then bits_Class.l0 k n ((c + 1 : Nat) : Int) else some (c : Int)) = r) : ∀ k, K + 1 ≤ k → bits_Class.l0 k n (c : Int) = r := by
  intro k hk
  obtain ⟨k, rfl⟩ : ∃ m, k = m + 1 := ⟨k - 1, by omega⟩
  rw [bits_Class.l0, if_pos (by omega), fold_ev n h, Option.bind_some, len64_ev _ (foldN_lt h), Option.bind_some, width_ev c (by omega), Option.bind_some]
  have e1 : Aside0 (wrap64 ((c : Int) + 1) = ((c + 1 : Nat) : Int)) := ⟨by rw [w64] <;> omega⟩
  have hb := bitLen_gt (foldN n) (wd c) (foldN_lt h)
  rw [← hr k (by omega), e1.out]
  by_cases h1 : 2 ^ wd c ≤ foldN n
  · rw [if_pos h1, if_pos (by have := hb.2 h1; omega)]
  · rw [if_neg h1, if_neg (by intro h2; exact h1 (hb.1 (by omega)))]
theorem Class_ev (n : Int) (h : I64 n) : (∃ K, ∀ k, K ≤ k → bits_Class.f k n = some (((cls (foldN n) : Nat) : Int))) := by
  refine ⟨5, fun k hk => ?_⟩
  unfold bits_Class.f
  have e0 : (0 : Int) = ((0 : Nat) : Int) := rfl
  rw [e0]
  refine class_step n h 0 (by decide) 4 _ (fun k hk => ?_) k hk
  have w0 : 2 ^ wd 0 = 1 := rfl
  have w1 : 2 ^ wd 1 = 128 := rfl
  have w2 : 2 ^ wd 2 = 4096 := rfl
  have w3 : 2 ^ wd 3 = 1048576 := rfl
  rw [w0]
  by_cases h0 : 1 ≤ foldN n
  · rw [if_pos h0]
    refine class_step n h 1 (by decide) 3 _ (fun k hk => ?_) k hk
    rw [w1]
    by_cases h1 : 128 ≤ foldN n
    · rw [if_pos h1]
      refine class_step n h 2 (by decide) 2 _ (fun k hk => ?_) k hk
      rw [w2]
      by_cases h2 : 4096 ≤ foldN n
      · rw [if_pos h2]
        refine class_step n h 3 (by decide) 1 _ (fun k hk => ?_) k hk
        rw [w3]
        by_cases h3 : 1048576 ≤ foldN n
        · rw [if_pos h3]
          obtain ⟨k, rfl⟩ : ∃ m, k = m + 1 := ⟨k - 1, by omega⟩
          rw [bits_Class.l0, if_neg (by omega)]
          unfold cls
          rw [if_neg (by omega), if_neg (by omega), if_neg (by omega), if_neg (by omega)]
        · rw [if_neg h3]
          unfold cls
          rw [if_neg (by omega), if_neg (by omega), if_neg (by omega), if_pos (by omega)]
      · rw [if_neg h2]
        unfold cls
        rw [if_neg (by omega), if_neg (by omega), if_pos (by omega)]
    · rw [if_neg h1]
      unfold cls
      rw [if_neg (by omega), if_pos (by omega)]
  · rw [if_neg h0]
    unfold cls
    rw [if_pos (by omega)]
def ld (c : Nat) : List Bool := if c = 4 then [true, true, true, true] else List.replicate c true ++ [false]
theorem lead_ev (c : Nat) (h : c ≤ 4) : bits_lead.f (c : Int) = some (((bv (ld c) : Nat) : Int), ((ld c).length : Int)) := by
  rcases four h with rfl | rfl | rfl | rfl | rfl <;> decide +kernel
theorem ld_len (c : Nat) (h : c ≤ 4) : (ld c).length ≤ 4 ∧ 1 ≤ (ld c).length := by rcases four h with rfl | rfl | rfl | rfl | rfl <;> decide
theorem wd_le (c : Nat) : wd c ≤ 64 := by unfold wd; (repeat' split) <;> omega
def coded (n : Int) : List Bool := ld (cls (foldN n)) ++ low (foldN n) (wd (cls (foldN n)))
theorem coded_len (n : Int) : (coded n).length = (ld (cls (foldN n))).length + wd (cls (foldN n)) := by rw [coded, List.length_append, low_length]
theorem coded_le (n : Int) : (coded n).length ≤ 68 := by
  have h1 := (ld_len (cls (foldN n)) (cls_le _)).1
  have h2 := wd_le (cls (foldN n))
  rw [coded_len]
  omega
theorem Size_ev (n : Int) (h : I64 n) : (∃ K, ∀ k, K ≤ k → bits_Size.f k n = some (((coded n).length : Int))) := by
  obtain ⟨K, hK⟩ := Class_ev n h
  have h1 := (ld_len (cls (foldN n)) (cls_le _)).1
  have h2 := wd_le (cls (foldN n))
  refine ⟨K, fun k hk => ?_⟩
  unfold bits_Size.f
  rw [hK k hk, Option.bind_some, lead_ev _ (cls_le _), Option.bind_some]
  simp only
  have e1 : wrap64 (((ld (cls (foldN n))).length : Int) + (wd (cls (foldN n)) : Int)) = ((coded n).length : Int) := by rw [coded_len, w64] <;> omega
  rw [width_ev _ (cls_le _), Option.bind_some, e1]
theorem Check_ev (l : List Bool) (hl : l.length ≤ 131072) : (∃ K, ∀ k, K ≤ k → bits_Check.f k (Of l) (l.length : Int) = some (0)) := by
  refine ⟨1, fun k hk => ?_⟩
  obtain ⟨k, rfl⟩ : ∃ m, k = m + 1 := ⟨k - 1, by omega⟩
  have hO := Of_length l
  have e1 : Aside0 (wrap64 ((l.length : Int) + 7) = ((l.length + 7 : Nat) : Int)) := ⟨by rw [w64] <;> omega⟩
  have e2 : Aside0 (wrap64 (((l.length + 7 : Nat) : Int) / 8) = (((l.length + 7) / 8 : Nat) : Int)) := ⟨by rw [w64] <;> omega⟩
  have e3 : Int.tmod (l.length : Int) 8 = ((l.length % 8 : Nat) : Int) := by rw [tmod_nn (Int.natCast_nonneg _)]; simp
  unfold bits_Check.f bits_bytes.f
  rw [if_neg (by omega), if_neg (by omega), Option.bind_some, e1.out, tdiv_nn (Int.natCast_nonneg _), e2.out, hO, show (((((l.length + 7) / 8 : Nat) : Int)) != ((((l.length + 7) / 8 : Nat) : Int))) = false by simp, bits_Check.j0, if_neg (by decide), e3]
  by_cases h0 : l.length % 8 = 0
  · rw [if_neg (by omega)]
  · have e4 : Aside0 (wrap64 (((Of l).length : Int) - 1) = ((l.length / 8 : Nat) : Int)) := ⟨by rw [hO, w64] <;> omega⟩
    have hz : shl .u8 (rd (Of l) ((l.length / 8 : Nat) : Int)) ((l.length % 8 : Nat) : Int) = 0 := by
      have hbl := byteOf_last l h0
      rw [rd_Of, shl8_nat _ _ (by omega)]
      have hr : l.length % 8 ≤ 8 := by omega
      generalize byteOf ((l.drop (8 * (l.length / 8))).take 8) = b at *
      generalize l.length % 8 = r at *
      clear e3
      rcases eight hr with rfl | rfl | rfl | rfl | rfl | rfl | rfl | rfl | rfl <;> (simp only [Nat.reducePow, Nat.reduceSub] at *; omega)
    rw [if_pos (by omega), e4.out, if_pos (by omega), if_pos (by omega), if_pos (by omega), if_pos hz]
end Go.Proofs.Ytmddmbagehjdeaa.Q
end
section
set_option linter.unusedVariables false
namespace Go.Proofs.Ytmddmbagehjdeaa.Q
open Go Go.RowKit Go.Proofs.Ytmddmbagehjdeaa.G Go.Proofs.YtmddmbagehjdeaaW.PrintWords Go.Proofs.YtmddmbagehjdeaaW.PrintLast Go.Proofs.YtmddmbagehjdeaaW.PrintMore
theorem own_ev (b : List Int) (N : Int) (h : b.length ≤ 1000000) : bits_own.f b N = some (b, N) := by
  unfold bits_own.f slices_Clone_byte_byte.f
  rw [if_pos (by omega)]
  rfl
theorem low_ld (c : Nat) (h : c ≤ 4) : low (bv (ld c)) (ld c).length = ld c := low_bv _
theorem bv_ld_lt (c : Nat) (h : c ≤ 4) : bv (ld c) < 18446744073709551616 := by rcases four h with rfl | rfl | rfl | rfl | rfl <;> decide
theorem PutNum_ev (l : List Bool) (n : Int) (h : I64 n) (hl : l.length ≤ 131072) (hfit : l.length + (coded n).length ≤ 131072) :
    (∃ K, ∀ k, K ≤ k → bits_Number.f k (Of l) (l.length : Int) n = some ((Of (l ++ coded n), ((l ++ coded n).length : Int), 0))) := by
  obtain ⟨c, hc⟩ : ∃ c, c = cls (foldN n) := ⟨_, rfl⟩
  have hc4 : c ≤ 4 := by rw [hc]; exact cls_le _
  have h1 := ld_len c hc4
  have h2 := wd_le c
  have hcl := coded_len n
  rw [← hc] at hcl
  obtain ⟨K1, e1⟩ := Check_ev l hl
  obtain ⟨K2, e2⟩ := Size_ev n h
  obtain ⟨K3, e3⟩ := Class_ev n h
  obtain ⟨K4, e4⟩ := put_ev (bv (ld c)) (by rw [two64]; exact bv_ld_lt c hc4) (ld c).length l (by omega) (by omega)
  obtain ⟨K5, e5⟩ := put_ev (foldN n) (by rw [two64]; exact foldN_lt h) (wd c) (l ++ ld c) h2 (by rw [List.length_append]; omega)
  rw [low_ld c hc4] at e4
  rw [List.append_assoc, List.length_append] at e5
  have hco : ld c ++ low (foldN n) (wd c) = coded n := by rw [hc]; rfl
  rw [hco] at e5
  refine ⟨K1 + K2 + K3 + K4 + K5, fun k hk => ?_⟩
  have hO := Of_length l
  unfold bits_Number.f
  have w1 : Aside0 (wrap64 (131072 - (l.length : Int)) = ((131072 - l.length : Nat) : Int)) := ⟨by rw [w64] <;> omega⟩
  have c1 : ¬ ((coded n).length : Int) > ((131072 - l.length : Nat) : Int) := by omega
  rw [e1 k (by omega), Option.bind_some, if_pos rfl, own_ev _ _ (by rw [hO]; omega), Option.bind_some, e2 k (by omega), Option.bind_some]
  simp only
  rw [w1.out, if_neg c1, e3 k (by omega), Option.bind_some, ← hc, lead_ev c hc4, Option.bind_some]
  simp only
  rw [e4 k (by omega), Option.bind_some, fold_ev n h, Option.bind_some, width_ev c hc4, Option.bind_some]
  simp only
  rw [e5 k (by omega), Option.bind_some]
  simp only [List.length_append, hcl, Nat.add_assoc]
end Go.Proofs.Ytmddmbagehjdeaa.Q
end
section
set_option linter.unusedVariables false
namespace Go.Proofs.Ytmddmbagehjdeaa.Q
open Go Go.RowKit Go.Proofs.Ytmddmbagehjdeaa.G Go.Proofs.YtmddmbagehjdeaaW.PrintWords Go.Proofs.YtmddmbagehjdeaaW.PrintLast Go.Proofs.YtmddmbagehjdeaaW.PrintMore
theorem shr_zero (u : Nat) (n : Nat) (hn : n < 64) : (shr .u64 (u : Int) (n : Int) != 0) = decide (u / 2 ^ n ≠ 0) := by
  rw [shr_nat .u64 _ _ (by rw [u64bits]; omega)]
  rw [Bool.eq_iff_iff]
  simp only [bne_iff_ne, decide_eq_true_eq, ne_eq]
  omega
noncomputable def putR (l : List Bool) (u : Nat) (n : Int) : List Int × Int × Int :=
  open Classical in
  if n < 0 ∨ 64 < n ∨ n < 64 ∧ u / 2 ^ n.toNat ≠ 0 then (Of l, l.length, 1)
  else if ((131072 - l.length : Nat) : Int) < n then (Of l, l.length, 6)
  else (Of (l ++ low u n.toNat), ((l.length + n.toNat : Nat) : Int), 0)
theorem Put17_ev (l : List Bool) (hl : l.length ≤ 131072) (u : Nat) (hu : u < 18446744073709551616) (n : Int) : (∃ K, ∀ k, K ≤ k → bits_Put.f k (Of l) (l.length : Int) (u : Int) n = some (putR l u n)) := by
  obtain ⟨KC, hC⟩ := Check_ev l hl
  have hO := Of_length l
  have hown := own_ev (Of l) (l.length : Int) (by rw [hO]; omega)
  unfold putR
  by_cases h0 : n < 0
  · rw [if_pos (.inl h0)]
    refine ⟨KC + 1, fun k hk => ?_⟩
    obtain ⟨k, rfl⟩ : ∃ m, k = m + 1 := ⟨k - 1, by omega⟩
    unfold bits_Put.f
    rw [hC _ (by omega), Option.bind_some, if_pos rfl, hown, Option.bind_some, if_pos h0, bits_Put.j0, if_pos rfl]
  by_cases h1 : 64 < n
  · rw [if_pos (.inr (.inl h1))]
    refine ⟨KC + 1, fun k hk => ?_⟩
    obtain ⟨k, rfl⟩ : ∃ m, k = m + 1 := ⟨k - 1, by omega⟩
    unfold bits_Put.f
    rw [hC _ (by omega), Option.bind_some, if_pos rfl, hown, Option.bind_some, if_neg h0, if_pos h1, bits_Put.j0, if_pos rfl]
  obtain ⟨m, rfl⟩ := Int.eq_ofNat_of_zero_le (show 0 ≤ n by omega)
  rw [Int.toNat_natCast]
  have w1 : Aside0 (wrap64 (131072 - (l.length : Int)) = ((131072 - l.length : Nat) : Int)) := ⟨by rw [w64] <;> omega⟩
  by_cases h2 : m < 64 ∧ u / 2 ^ m ≠ 0
  · rw [if_pos (.inr (.inr ⟨by omega, h2.2⟩))]
    refine ⟨KC + 1, fun k hk => ?_⟩
    obtain ⟨k, rfl⟩ : ∃ m, k = m + 1 := ⟨k - 1, by omega⟩
    have hz := h2.2
    have h2' := h2.1
    clear h2
    unfold bits_Put.f
    rw [hC _ (by omega), Option.bind_some, if_pos rfl, hown, Option.bind_some, if_neg h0, if_neg h1, if_pos (by omega), if_pos (Int.natCast_nonneg _), shr_zero u m h2', decide_eq_true hz, bits_Put.j0, if_pos rfl]
  · have hn : ¬ ((m : Int) < 0 ∨ 64 < (m : Int) ∨ (m : Int) < 64 ∧ u / 2 ^ m ≠ 0) := by
      rintro (h | h | h)
      · exact h0 h
      · exact h1 h
      · exact h2 ⟨Int.ofNat_lt.1 h.1, h.2⟩
    rw [if_neg hn]
    have rest : (∃ K, ∀ k, K ≤ k → bits_Put.j0 k (u : Int) (m : Int) false (Of l) (l.length : Int) = some ((if ((131072 - l.length : Nat) : Int) < (m : Int) then (Of l, (l.length : Int), (6 : Int)) else (Of (l ++ low u m), ((l.length + m : Nat) : Int), 0)))) := by
      clear hn h2
      by_cases h3 : ((131072 - l.length : Nat) : Int) < (m : Int)
      · rw [if_pos h3]
        refine ⟨1, fun k hk => ?_⟩
        obtain ⟨k, rfl⟩ : ∃ m, k = m + 1 := ⟨k - 1, by omega⟩
        rw [bits_Put.j0, if_neg (by decide), w1.out, if_pos h3]
      · rw [if_neg h3]
        obtain ⟨K, hK⟩ := put_ev u (by rw [two64]; exact hu) m l (by omega) (by omega)
        refine ⟨K + 1, fun k hk => ?_⟩
        obtain ⟨k, rfl⟩ : ∃ m, k = m + 1 := ⟨k - 1, by omega⟩
        rw [bits_Put.j0, if_neg (by decide), w1.out, if_neg h3, hK k (by omega), Option.bind_some]
    obtain ⟨K, hK⟩ := rest
    refine ⟨KC + K, fun k hk => ?_⟩
    unfold bits_Put.f
    rw [hC _ (by omega), Option.bind_some, if_pos rfl, hown, Option.bind_some, if_neg h0, if_neg h1]
    by_cases h4 : m < 64
    · have hz : ¬ u / 2 ^ m ≠ 0 := fun hz => h2 ⟨h4, hz⟩
      clear h2 hn
      rw [if_pos (by omega), if_pos (Int.natCast_nonneg _), shr_zero u m h4, decide_eq_false hz]
      exact hK k (by omega)
    · clear h2 hn
      rw [if_neg (by omega)]
      exact hK k (by omega)
end Go.Proofs.Ytmddmbagehjdeaa.Q
end
section
set_option linter.unusedVariables false
namespace Go.Proofs.Ytmddmbagehjdeaa.Q
open Go Go.RowKit Go.Proofs.Ytmddmbagehjdeaa.G Go.Proofs.YtmddmbagehjdeaaW.PrintWords Go.Proofs.YtmddmbagehjdeaaW.PrintLast
abbrev Smp := S67
def at_ (l : List Smp) (i : Nat) : Smp := rd_T67 l i
def Fits (l : List Smp) (i : Nat) : Prop := 0 ≤ (at_ l i).f0 ∧ (at_ l i).f0 ≤ 1099511627776 ∧ -1099511627776 ≤ (at_ l i).f1 ∧ (at_ l i).f1 ≤ 1099511627776 ∧ (0 < i → (at_ l (i - 1)).f0 < (at_ l i).f0)
def May (l : List Smp) : Prop := l.length ≤ 64 ∧ ∀ i, i < l.length → Fits l i
noncomputable instance (l : List Smp) : Decidable (May l) := Classical.propDecidable _
theorem check_loop (l : List Smp) (hl : l.length ≤ 64) (d : Nat) : ∀ i : Nat, i + d = l.length → (∀ j, j < i → Fits l j) → (∃ K, ∀ k, K ≤ k → block_Check.l0 k l l (l.length : Int) i = some ((if May l then 0 else 1))) := by
  induction d with
  | zero =>
    intro i hi hf
    refine Ev.succ 0 fun k _ => ?_
    simp only [block_Check.l0]
    rw [if_neg (by omega), if_pos ⟨hl, fun j hj => hf j (by omega)⟩]
  | succ d ih =>
    intro i hi hf
    have bad : ¬ Fits l i → ¬ May l := fun h hm => h (hm.2 i (by omega))
    by_cases g : Fits l i
    · obtain ⟨K, hK⟩ := ih (i + 1) (by omega) (fun j hj => by
        rcases Nat.lt_or_ge j i with h | h
        · exact hf j h
        · obtain rfl : j = i := by omega
          exact g)
      refine Ev.succ K fun k hk => ?_
      simp only [block_Check.l0]
      obtain ⟨g1, g2, g3, g4, g5⟩ := g
      have hK' := hK k hk
      have e1 : wrap64 ((i : Int) + 1) = ((i + 1 : Nat) : Int) := by rw [w64] <;> omega
      simp only [at_] at g1 g2 g3 g4 g5
      rw [if_pos (by omega), if_pos (by omega), if_pos (by omega), if_neg (by omega), if_neg (by omega), if_neg (by omega), if_neg (by omega), e1]
      by_cases h0 : 0 < i
      · have e2 : wrap64 ((i : Int) - 1) = ((i - 1 : Nat) : Int) := by rw [w64] <;> omega
        have g6 := g5 h0
        rw [if_pos (by omega), e2, if_pos (by omega), if_pos (by omega), if_neg (by omega)]
        exact hK'
      · rw [if_neg (by omega)]
        exact hK'
    · rw [if_neg (bad g)]
      refine Ev.succ 0 fun k _ => ?_
      simp only [block_Check.l0]
      rw [if_pos (by omega), if_pos (by omega), if_pos (by omega)]
      unfold Fits at g
      simp only [at_] at g
      by_cases g1 : (rd_T67 l i).f0 < 0
      · rw [if_pos g1]
      by_cases g2 : (rd_T67 l i).f0 > 1099511627776
      · rw [if_neg g1, if_pos g2]
      by_cases g3 : (rd_T67 l i).f1 < -1099511627776
      · rw [if_neg g1, if_neg g2, if_pos g3]
      by_cases g4 : (rd_T67 l i).f1 > 1099511627776
      · rw [if_neg g1, if_neg g2, if_neg g3, if_pos g4]
      have h0 : 0 < i := by
        rcases Nat.eq_zero_or_pos i with h | h
        · exact absurd ⟨by omega, by omega, by omega, by omega, fun hh => by omega⟩ g
        · exact h
      have e2 : wrap64 ((i : Int) - 1) = ((i - 1 : Nat) : Int) := by rw [w64] <;> omega
      have g5 : (rd_T67 l ((i - 1 : Nat) : Int)).f0 ≥ (rd_T67 l i).f0 := by
        by_cases h : (rd_T67 l ((i - 1 : Nat) : Int)).f0 < (rd_T67 l i).f0
        · exact absurd ⟨by omega, by omega, by omega, by omega, fun _ => h⟩ g
        · omega
      rw [if_neg g1, if_neg g2, if_neg g3, if_neg g4, if_pos (by omega), e2, if_pos (by omega), if_pos (by omega), if_pos (by omega)]
theorem check_ev (l : List Smp) : (∃ K, ∀ k, K ≤ k → block_Check.f k l = some ((if May l then 0 else 1))) := by
  unfold block_Check.f
  by_cases h : (l.length : Int) > 64
  · simp only [if_pos h]
    rw [if_neg (fun hm => by have := hm.1; omega)]
    exact ⟨0, fun _ _ => rfl⟩
  · simp only [if_neg h]
    exact check_loop l (by omega) l.length 0 (by omega) (fun j hj => by omega)
def Bd (s : Smp) : Prop := 0 ≤ s.f0 ∧ s.f0 ≤ 1099511627776 ∧ -1099511627776 ≤ s.f1 ∧ s.f1 ≤ 1099511627776
abbrev Rise (l : List Smp) : Prop := l.Pairwise (fun a b => a.f0 < b.f0)
theorem fits_tail {s : Smp} {l : List Smp} (h : ∀ i, i < (s :: l).length → Fits (s :: l) i) : ∀ i, i < l.length → Fits l i := by
  intro i hi
  have := h (i + 1) (by simp; omega)
  obtain ⟨g1, g2, g3, g4, g5⟩ := this
  have e : ∀ j : Nat, at_ (s :: l) (j + 1) = at_ l j := fun j => by
    simp only [at_, rd_T67]
    have h1 : ((j + 1 : Nat) : Int).toNat = j + 1 := by omega
    have h2 : ((j : Nat) : Int).toNat = j := by omega
    rw [h1, h2]; rfl
  rw [e] at g1 g2 g3 g4
  refine ⟨g1, g2, g3, g4, fun h0 => ?_⟩
  have := g5 (by omega)
  rw [e, show i + 1 - 1 = (i - 1) + 1 by omega, e] at this
  exact this
theorem fits_ok (l : List Smp) : (∀ i, i < l.length → Fits l i) → (∀ s ∈ l, Bd s) ∧ Rise l := by
  induction l with
  | nil => intro _; exact ⟨fun s h => by simp at h, List.Pairwise.nil⟩
  | cons s l ih =>
    intro h
    obtain ⟨h1, h2⟩ := ih (fits_tail h)
    have f0 := h 0 (by simp)
    have b0 : Bd s := ⟨f0.1, f0.2.1, f0.2.2.1, f0.2.2.2.1⟩
    refine ⟨fun x hx => ?_, ?_⟩
    · rcases List.mem_cons.1 hx with rfl | hx
      · exact b0
      · exact h1 x hx
    · refine List.pairwise_cons.2 ⟨fun b hb => ?_, h2⟩
      cases l with
      | nil => simp at hb
      | cons c l =>
        have f1' : s.f0 < c.f0 := (h 1 (by simp)).2.2.2.2 (by omega)
        rcases List.mem_cons.1 hb with rfl | hb
        · exact f1'
        · exact Int.lt_trans f1' ((List.pairwise_cons.1 h2).1 b hb)
end Go.Proofs.Ytmddmbagehjdeaa.Q
end
section
set_option linter.unusedVariables false
namespace Go.Proofs.Ytmddmbagehjdeaa.Q
open Go Go.RowKit Go.Proofs.Ytmddmbagehjdeaa.G Go.Proofs.YtmddmbagehjdeaaW.PrintWords Go.Proofs.YtmddmbagehjdeaaW.PrintLast
def pk : Bool → Int → Int → Int → Int → List Smp → List Int
  | _, _, _, _, _, [] => []
  | f, lt, lv, st, sv, s :: q => (s.f0 - lt - st) :: (s.f1 - lv - sv) :: pk false s.f0 s.f1 (if f then st else s.f0 - lt) (if f then sv else s.f1 - lv) q
def B2 (x : Int) : Prop := -4398046511104 ≤ x ∧ x ≤ 4398046511104
theorem pack_loop (l : List Smp) (hm : May l) (d : Nat) : ∀ (i : Nat) (f : Bool) (acc : List Int) (lt lv st sv : Int), (f = true ↔ i = 0) → i + d = l.length → acc.length ≤ 1000 + 2 * i → (-1099511627776 ≤ lt ∧ lt ≤ 1099511627776) → (-1099511627776 ≤ lv ∧ lv ≤ 1099511627776) → (-2199023255552 ≤ st ∧ st ≤ 2199023255552) → (-2199023255552 ≤ sv ∧ sv ≤ 2199023255552) →
    (∃ K, ∀ k, K ≤ k → block_Pack.l0 k l (l.length : Int) i acc lt lv st sv = some ((acc ++ pk f lt lv st sv (l.drop i), [], 0))) := by
  have h64 := hm.1
  induction d with
  | zero =>
    intro i f acc lt lv st sv hf0 hi ha h1 h2 h3 h4
    refine Ev.succ 0 fun k _ => ?_
    simp only [block_Pack.l0]
    rw [if_neg (by omega), List.drop_of_length_le (by omega), pk, List.append_nil]
  | succ d ih =>
    intro i f acc lt lv st sv hf0 hi ha h1 h2 h3 h4
    have hf := hm.2 i (by omega)
    obtain ⟨f1, f2, f3, f4, _⟩ := hf
    simp only [at_] at f1 f2 f3 f4
    have hd : l.drop i = rd_T67 l i :: l.drop (i + 1) := by rw [drop_getD l i z67 (by omega)]; rfl
    generalize hs : rd_T67 l i = s at hd f1 f2 f3 f4
    have c1 : (i : Int) < (l.length : Int) := by clear f1 f2 f3 f4; omega
    have c2 : (0 : Int) ≤ (i : Int) := Int.natCast_nonneg i
    have hc : ∀ x y : Int, acc.length + [x, y].length < 17592186044416 := fun x y => by
      have : [x, y].length = 2 := rfl
      rw [this]; clear f1 f2 f3 f4; omega
    have hb2 : acc.length + 2 ≤ 1000 + 2 * (i + 1) := by clear f1 f2 f3 f4; omega
    have hb3 : ∀ x y : Int, (acc ++ [x, y]).length ≤ 1000 + 2 * (i + 1) := fun x y => by rw [List.length_append]; exact hb2
    have e1 : wrap64 ((i : Int) + 1) = ((i + 1 : Nat) : Int) := by rw [w64] <;> omega
    have a1 : wrap64 (s.f0 - lt) = s.f0 - lt := by rw [w64] <;> omega
    have a2 : wrap64 (s.f1 - lv) = s.f1 - lv := by rw [w64] <;> omega
    have a3 : wrap64 (s.f0 - lt - st) = s.f0 - lt - st := by rw [w64] <;> omega
    have a4 : wrap64 (s.f1 - lv - sv) = s.f1 - lv - sv := by rw [w64] <;> omega
    rw [hd, pk]
    cases f with
    | true =>
      have h0 : i = 0 := hf0.1 rfl
      obtain ⟨K, hK⟩ := ih (i + 1) false (acc ++ [s.f0 - lt - st, s.f1 - lv - sv]) s.f0 s.f1 st sv (by simp) (by omega) (hb3 _ _) (by omega) (by omega) h3 h4
      refine Ev.succ K fun k hk => ?_
      have hKk := hK k hk
      rw [List.append_assoc] at hKk
      simp only [block_Pack.l0]
      rw [if_pos c1, if_pos c2, if_pos c1, hs, a1, a2, a3, a4, Option.bind_some, if_pos (hc _ _), Option.bind_some, if_neg (show ¬ (i : Int) > 0 by rw [h0]; decide), e1]
      simp only [if_true]
      exact hKk
    | false =>
      have h0 : ¬ i = 0 := fun h => by simp [h] at hf0
      have c0 : (i : Int) > 0 := by clear f1 f2 f3 f4; omega
      obtain ⟨K, hK⟩ := ih (i + 1) false (acc ++ [s.f0 - lt - st, s.f1 - lv - sv]) s.f0 s.f1 (s.f0 - lt) (s.f1 - lv) (by simp) (by omega) (hb3 _ _) (by omega) (by omega) (by omega) (by omega)
      refine Ev.succ K fun k hk => ?_
      have hKk := hK k hk
      rw [List.append_assoc] at hKk
      simp only [block_Pack.l0]
      rw [if_pos c1, if_pos c2, if_pos c1, hs, a1, a2, a3, a4, Option.bind_some, if_pos (hc _ _), Option.bind_some, if_pos c0, e1]
      simp only [Bool.false_eq_true, if_false]
      exact hKk
def packS (l : List Smp) : List Int := (l.length : Int) :: pk true 0 0 0 0 l
theorem Pack_ev (l : List Smp) : (∃ K, ∀ k, K ≤ k → block_Pack.f k l = some ((if May l then (packS l, [], 0) else ([], [], 1)))) := by
  obtain ⟨K1, h1⟩ := check_ev l
  by_cases hm : May l
  · obtain ⟨K2, h2⟩ := pack_loop l hm l.length 0 true [(l.length : Int)] 0 0 0 0 (by simp) (by omega) (by simp) (by omega) (by omega) (by omega) (by omega)
    refine ⟨K1 + K2, fun k hk => ?_⟩
    unfold block_Pack.f
    rw [h1 k (by omega), if_pos hm, if_pos hm, Option.bind_some, if_pos rfl]
    exact h2 k (by omega)
  · refine ⟨K1, fun k hk => ?_⟩
    unfold block_Pack.f
    rw [h1 k (by omega), if_neg hm, if_neg hm, Option.bind_some, if_neg (by decide)]
theorem pk_len (l : List Smp) : ∀ f lt lv st sv, (pk f lt lv st sv l).length = 2 * l.length := by
  induction l with
  | nil => intros; rfl
  | cons s l ih => intro f lt lv st sv; simp only [pk, List.length_cons, ih]; omega
theorem pk_b (l : List Smp) : (∀ s ∈ l, Bd s) → ∀ f lt lv st sv, (-1099511627776 ≤ lt ∧ lt ≤ 1099511627776) → (-1099511627776 ≤ lv ∧ lv ≤ 1099511627776) → (-2199023255552 ≤ st ∧ st ≤ 2199023255552) → (-2199023255552 ≤ sv ∧ sv ≤ 2199023255552) →
    ∀ x ∈ pk f lt lv st sv l, B2 x := by
  induction l with
  | nil => intro _ f lt lv st sv _ _ _ _ x hx; simp [pk] at hx
  | cons s l ih =>
    intro hb f lt lv st sv h1 h2 h3 h4 x hx
    obtain ⟨b1, b2, b3, b4⟩ := hb s (by simp)
    simp only [pk] at hx
    rcases List.mem_cons.1 hx with rfl | hx
    · unfold B2; omega
    rcases List.mem_cons.1 hx with rfl | hx
    · unfold B2; omega
    refine ih (fun s' h' => hb s' (by simp [h'])) _ _ _ _ _ (by omega) (by omega) ?_ ?_ x hx <;> split <;> omega
end Go.Proofs.Ytmddmbagehjdeaa.Q
end
section
set_option linter.unusedVariables false
namespace Go.Proofs.Ytmddmbagehjdeaa.Q
open Go Go.RowKit Go.Proofs.Ytmddmbagehjdeaa.G Go.Proofs.YtmddmbagehjdeaaW.PrintWords Go.Proofs.YtmddmbagehjdeaaW.PrintLast
theorem rd_mem (l : List Int) (i : Nat) (h : i < l.length) : rd l i ∈ l := by simp only [rd, Int.toNat_natCast]; exact getD_mem l i 0 h
end Go.Proofs.Ytmddmbagehjdeaa.Q
end
section
set_option linter.unusedVariables false
namespace Go.Proofs.Ytmddmbagehjdeaa.Q
open Go Go.RowKit Go.Proofs.Ytmddmbagehjdeaa.G Go.Proofs.YtmddmbagehjdeaaW.PrintWords Go.Proofs.YtmddmbagehjdeaaW.PrintLast
def un : Bool → Int → Int → Int → Int → List Int → List Smp
  | f, lt, lv, st, sv, a :: b :: q => ⟨lt + (st + a), lv + (sv + b)⟩ :: un false (lt + (st + a)) (lv + (sv + b)) (if f then st else st + a) (if f then sv else sv + b) q
  | _, _, _, _, _, _ => []
theorem packS_b (L : List Smp) (h : May L) : ∀ x ∈ (packS L).drop 1, B2 x := by
  have := (fits_ok L h.2).1
  exact pk_b L this true 0 0 0 0 (by omega) (by omega) (by omega) (by omega)
def Dat (nums : List Int) (texts : List ByteArray) : Prop := texts.length = 0 ∧ May (un true 0 0 0 0 (nums.drop 1)) ∧ packS (un true 0 0 0 0 (nums.drop 1)) = nums
noncomputable instance (nums : List Int) (texts : List ByteArray) : Decidable (Dat nums texts) := Classical.propDecidable _
theorem Dat.len {nums : List Int} {texts : List ByteArray} (h : Dat nums texts) : ∃ m, m ≤ 64 ∧ nums.length = 2 * m + 1 ∧ rd nums 0 = (m : Int) ∧ (un true 0 0 0 0 (nums.drop 1)).length = m := by
  obtain ⟨_, h2, h3⟩ := h
  refine ⟨_, h2.1, ?_, ?_, rfl⟩
  · rw [← congrArg List.length h3]; simp [packS, pk_len]
  · generalize un true 0 0 0 0 (nums.drop 1) = L at h3 ⊢
    rw [← h3]; rfl
end Go.Proofs.Ytmddmbagehjdeaa.Q
end
section
set_option linter.unusedVariables false
namespace Go.Proofs.Ytmddmbagehjdeaa.Q
open Go Go.RowKit Go.Proofs.Ytmddmbagehjdeaa.G Go.Proofs.YtmddmbagehjdeaaW.PrintWords Go.Proofs.YtmddmbagehjdeaaW.PrintLast Go.Proofs.YtmddmbagehjdeaaW.PrintMore
def zr : Nat → List Int → Nat
  | f + 1, a :: b :: q => if a = 0 ∧ b = 0 then zr f q + 1 else 0
  | _, _ => 0
theorem zr_le : ∀ f q, zr f q ≤ f
  | 0, _ => by unfold zr; exact Nat.le_refl _
  | f + 1, [] => by unfold zr; exact Nat.zero_le _
  | f + 1, [_] => by unfold zr; exact Nat.zero_le _
  | f + 1, a :: b :: q => by
    rw [zr]
    split
    · have := zr_le f q; omega
    · omega
theorem zr_len : ∀ f q, 2 * zr f q ≤ q.length
  | 0, _ => by unfold zr; omega
  | f + 1, [] => by unfold zr; omega
  | f + 1, [_] => by unfold zr; omega
  | f + 1, a :: b :: q => by
    rw [zr]
    split
    · have := zr_len f q; simp only [List.length_cons]; omega
    · omega
def gE : Nat → Nat → List Int → List Bool
  | f + 1, j, a :: b :: q => if j < 2 ∨ ¬ (a = 0 ∧ b = 0) then coded a ++ (coded b ++ gE f (j + 1) q)
      else [false, false] ++ (low (zr 15 q) 4 ++ gE f (j + 1 + zr 15 q) (q.drop (2 * zr 15 q)))
  | _, _, _ => []
theorem gE_fuel : ∀ f g j q, q.length ≤ 2 * f → q.length ≤ 2 * g → gE f j q = gE g j q
  | 0, 0, _, _, _, _ => rfl
  | 0, g + 1, j, [], _, _ => rfl
  | 0, g + 1, j, a :: q, h, _ => by simp at h
  | f + 1, 0, j, [], _, _ => rfl
  | f + 1, 0, j, a :: q, _, h => by simp at h
  | f + 1, g + 1, j, [], _, _ => rfl
  | f + 1, g + 1, j, [a], _, _ => rfl
  | f + 1, g + 1, j, a :: b :: q, h, h' => by
    simp only [List.length_cons] at h h'
    rw [gE, gE, gE_fuel f g (j + 1) q (by omega) (by omega), gE_fuel f g (j + 1 + zr 15 q) (q.drop (2 * zr 15 q)) (by rw [List.length_drop]; omega) (by rw [List.length_drop]; omega)]
def gq (j : Nat) (q : List Int) : List Bool := gE q.length j q
theorem gq_nil (j : Nat) : gq j [] = [] := rfl
theorem gq_coded (j : Nat) (a b : Int) (q : List Int) (h : j < 2 ∨ ¬ (a = 0 ∧ b = 0)) : gq j (a :: b :: q) = coded a ++ (coded b ++ gq (j + 1) q) := by
  unfold gq
  rw [List.length_cons, gE, if_pos h, gE_fuel (b :: q).length q.length (j + 1) q (by simp only [List.length_cons]; omega) (by omega)]
theorem gq_run (j : Nat) (q : List Int) (h : 2 ≤ j) : gq j (0 :: 0 :: q) = [false, false] ++ (low (zr 15 q) 4 ++ gq (j + 1 + zr 15 q) (q.drop (2 * zr 15 q))) := by
  unfold gq
  rw [List.length_cons, gE, if_neg (fun h1 => h1.elim (fun h2 => by omega) (fun h2 => h2 ⟨rfl, rfl⟩)), gE_fuel (0 :: q).length (q.drop (2 * zr 15 q)).length _ _ (by rw [List.length_drop, List.length_cons]; omega) (by omega)]
theorem gq_len : ∀ (m : Nat) (j : Nat) (q : List Int), q.length = 2 * m → (gq j q).length ≤ 136 * m := by
  intro m
  induction m using Nat.strongRecOn with
  | _ m ih =>
    intro j q hq
    match q, hq with
    | [], _ => rw [gq_nil]; simp
    | [x], hq => simp at hq; omega
    | a :: b :: q, hq =>
      simp only [List.length_cons] at hq
      by_cases h : j < 2 ∨ ¬ (a = 0 ∧ b = 0)
      · rw [gq_coded j a b q h]
        have h1 := ih (m - 1) (by omega) (j + 1) q (by omega)
        have h2 := coded_le a
        have h3 := coded_le b
        simp only [List.length_append]
        omega
      · have hj : 2 ≤ j := by omega
        have h0 : a = 0 ∧ b = 0 := by
          by_cases h1 : a = 0 ∧ b = 0
          · exact h1
          · exact absurd (Or.inr h1) h
        rw [h0.1, h0.2, gq_run j q hj]
        have h1 := zr_len 15 q
        have h2 := ih (m - 1 - zr 15 q) (by omega) (j + 1 + zr 15 q) (q.drop (2 * zr 15 q)) (by rw [List.length_drop]; omega)
        have h3 := low_length (zr 15 q) 4
        simp only [List.length_append, List.length_cons, List.length_nil, h3]
        omega
theorem rd_nat (n : List Int) (i : Nat) : rd n (i : Int) = n.getD i 0 := by unfold rd; rw [Int.toNat_natCast]
theorem drop2 (n : List Int) (i : Nat) (h : i + 1 < n.length) : n.drop i = rd n (i : Int) :: rd n ((i + 1 : Nat) : Int) :: n.drop (i + 2) := by
  rw [rd_nat, rd_nat, drop_getD n i 0 (by omega), drop_getD n (i + 1) 0 h]
theorem zeros_loop (n : List Int) (hn : n.length ≤ 1000) (at_ : Nat) (hev : (n.length - at_) % 2 = 0) (ha : at_ ≤ n.length) (d : Nat) : ∀ i, i + d = 16 → at_ + 2 * i ≤ n.length →
    (∃ K, ∀ k, K ≤ k → gorilla_zeros.l0 k n (at_ : Int) (i : Int) = some (((i + zr d (n.drop (at_ + 2 * i)) : Nat) : Int))) := by
  induction d with
  | zero =>
    intro i hi _
    refine Ev.succ 0 fun k _ => ?_
    rw [gorilla_zeros.l0, if_neg (by omega)]
    simp [zr]
  | succ d ih =>
    intro i hi hle
    have e1 : Aside0 (wrap64 (2 * (i : Int)) = ((2 * i : Nat) : Int)) := ⟨by rw [w64] <;> omega⟩
    have e2 : Aside0 (wrap64 ((at_ : Int) + ((2 * i : Nat) : Int)) = ((at_ + 2 * i : Nat) : Int)) := ⟨by rw [w64] <;> omega⟩
    have e3 : Aside0 (wrap64 (((at_ + 2 * i : Nat) : Int) + 1) = ((at_ + 2 * i + 1 : Nat) : Int)) := ⟨by rw [w64] <;> omega⟩
    have e4 : Aside0 (wrap64 ((i : Int) + 1) = ((i + 1 : Nat) : Int)) := ⟨by rw [w64] <;> omega⟩
    by_cases h1 : at_ + 2 * i + 1 < n.length
    · have hd := drop2 n (at_ + 2 * i) h1
      rw [hd, zr]
      by_cases h2 : rd n ((at_ + 2 * i : Nat) : Int) = 0
      · by_cases h3 : rd n ((at_ + 2 * i + 1 : Nat) : Int) = 0
        · obtain ⟨K, hK⟩ := ih (i + 1) (by omega) (by omega)
          refine Ev.succ K fun k hk => ?_
          have := hK k hk
          rw [show at_ + 2 * (i + 1) = at_ + 2 * i + 2 by omega, Nat.add_right_comm] at this
          rw [gorilla_zeros.l0, if_pos (by omega), e1.out, e2.out, e3.out, if_pos (by omega), if_pos (Int.natCast_nonneg _), if_pos (by omega), if_pos h2, if_pos (Int.natCast_nonneg _), if_pos h3, e4.out, if_pos ⟨h2, h3⟩, this]
          rfl
        · refine Ev.succ 0 fun k _ => ?_
          rw [gorilla_zeros.l0, if_pos (by omega), e1.out, e2.out, e3.out, if_pos (by omega), if_pos (Int.natCast_nonneg _), if_pos (by omega), if_pos h2, if_pos (Int.natCast_nonneg _), if_neg h3, if_neg (fun h => h3 h.2), Nat.add_zero]
      · refine Ev.succ 0 fun k _ => ?_
        rw [gorilla_zeros.l0, if_pos (by omega), e1.out, e2.out, e3.out, if_pos (by omega), if_pos (Int.natCast_nonneg _), if_pos (by omega), if_neg h2, if_neg (fun h => h2 h.1), Nat.add_zero]
    · have hnil : n.drop (at_ + 2 * i) = [] := List.drop_of_length_le (by omega)
      refine Ev.succ 0 fun k _ => ?_
      rw [gorilla_zeros.l0, if_pos (by omega), e1.out, e2.out, e3.out, if_neg (by omega), hnil]
      simp [zr]
theorem Zeros_ev (n : List Int) (hn : n.length ≤ 1000) (at_ : Nat) (hev : (n.length - at_) % 2 = 0) (ha : at_ ≤ n.length) : (∃ K, ∀ k, K ≤ k → gorilla_zeros.f k n (at_ : Int) = some (((zr 16 (n.drop at_) : Nat) : Int))) := by
  obtain ⟨K, hK⟩ := zeros_loop n hn at_ hev ha 16 0 rfl (by omega)
  refine ⟨K, fun k hk => ?_⟩
  have := hK k hk
  rwa [Nat.mul_zero, Nat.add_zero, Nat.zero_add] at this
theorem low6 (z : Nat) (h : z < 16) : low z 6 = [false, false] ++ low z 4 := by
  have e := low_split z 4 2
  rw [Nat.div_eq_of_lt (show z < 2 ^ 4 from h)] at e
  rw [e]
  rfl
theorem put6 (out : List Bool) (hl : out.length ≤ 100000) (z : Nat) (h : z < 16) : putR out z 6 = (Of (out ++ ([false, false] ++ low z 4)), ((out ++ ([false, false] ++ low z 4)).length : Int), 0) := by
  unfold putR
  have h1 : ¬ ((6 : Int) < 0 ∨ 64 < (6 : Int) ∨ (6 : Int) < 64 ∧ z / 2 ^ (6 : Int).toNat ≠ 0) := by
    rintro (h | h | h)
    · omega
    · omega
    · have h2 := h.2
      rw [show (6 : Int).toNat = 6 from rfl] at h2
      simp only [Nat.reducePow] at h2
      omega
  rw [if_neg h1, if_neg (by omega), show (6 : Int).toNat = 6 from rfl, low6 z h]
  simp [low_length]
theorem coded_run (n : List Int) (hb : ∀ x ∈ n, I64 x) (m : Nat) (hm : m ≤ 64) (hn : n.length = 1 + 2 * m) (d : Nat) : ∀ (j : Nat) (out : List Bool), m - j ≤ d → j ≤ m → out.length ≤ 136 * j →
    (∃ K, ∀ k, K ≤ k → gorilla_coded.l0 k n ((1 + 2 * j : Nat) : Int) (Of out) (out.length : Int) = some ((Of (out ++ gq j (n.drop (1 + 2 * j))), ((out ++ gq j (n.drop (1 + 2 * j))).length : Int)))) := by
  have done : ∀ (j : Nat) (out : List Bool), j = m → (∃ K, ∀ k, K ≤ k → gorilla_coded.l0 k n ((1 + 2 * j : Nat) : Int) (Of out) (out.length : Int) = some ((Of (out ++ gq j (n.drop (1 + 2 * j))), ((out ++ gq j (n.drop (1 + 2 * j))).length : Int)))) := fun j out hj => by
    refine Ev.succ 0 fun k _ => ?_
    rw [gorilla_coded.l0, if_neg (by omega), List.drop_of_length_le (by omega), gq_nil, List.append_nil]
  induction d with
  | zero => intro j out hd hj _; exact done j out (by omega)
  | succ d ih =>
    intro j out hd hj hout
    by_cases hjm : j = m
    · exact done j out hjm
    have hdr := drop2 n (1 + 2 * j) (by omega)
    obtain ⟨KZ, hZ⟩ := Zeros_ev n (by omega) (1 + 2 * j) (by omega) (by omega)
    obtain ⟨a, ha⟩ : ∃ a, a = rd n ((1 + 2 * j : Nat) : Int) := ⟨_, rfl⟩
    obtain ⟨b, hbb⟩ : ∃ b, b = rd n ((1 + 2 * j + 1 : Nat) : Int) := ⟨_, rfl⟩
    obtain ⟨q, hq⟩ : ∃ q, q = n.drop (1 + 2 * j + 2) := ⟨_, rfl⟩
    have ia : I64 a := hb a (by rw [ha]; exact rd_mem n _ (by omega))
    have ib : I64 b := hb b (by rw [hbb]; exact rd_mem n _ (by omega))
    rw [← ha, ← hbb, ← hq] at hdr
    rw [hdr] at hZ ⊢
    have ca := coded_le a
    have cb := coded_le b
    have e1 : Aside0 (wrap64 (((1 + 2 * j : Nat) : Int) + 1) = ((1 + 2 * j + 1 : Nat) : Int)) := ⟨by rw [w64] <;> omega⟩
    have e2 : Aside0 (wrap64 (((1 + 2 * j : Nat) : Int) + 2) = ((1 + 2 * (j + 1) : Nat) : Int)) := ⟨by rw [w64] <;> omega⟩
    by_cases h : j < 2 ∨ ¬ (a = 0 ∧ b = 0)
    · rw [gq_coded j a b q h]
      obtain ⟨K1, h1⟩ := PutNum_ev out a ia (by omega) (by omega)
      obtain ⟨K2, h2⟩ := PutNum_ev (out ++ coded a) b ib (by rw [List.length_append]; omega) (by rw [List.length_append]; omega)
      obtain ⟨K3, h3⟩ := ih (j + 1) (out ++ coded a ++ coded b) (by omega) (by omega) (by rw [List.length_append, List.length_append]; omega)
      rw [show 1 + 2 * (j + 1) = 1 + 2 * j + 2 by omega, ← hq] at h3
      simp only [List.append_assoc] at h3
      have fin : ∀ t : Int, (∃ K, ∀ k, K ≤ k → gorilla_coded.j1 k n ((1 + 2 * j : Nat) : Int) t false (Of out) (out.length : Int) = some ((Of (out ++ (coded a ++ (coded b ++ gq (j + 1) q))), ((out ++ (coded a ++ (coded b ++ gq (j + 1) q))).length : Int)))) := fun t => by
        refine ⟨K1 + K2 + K3 + 1, fun k hk => ?_⟩
        obtain ⟨k, rfl⟩ : ∃ m, k = m + 1 := ⟨k - 1, by omega⟩
        rw [gorilla_coded.j1, if_neg (by decide), if_pos (Int.natCast_nonneg _), if_pos (by omega), ← ha, h1 k (by omega), Option.bind_some, e1.out, if_pos (Int.natCast_nonneg _), if_pos (by omega), ← hbb, h2 k (by omega), Option.bind_some, e2.out, show 1 + 2 * (j + 1) = 1 + 2 * j + 2 by omega]
        simp only [List.append_assoc]
        exact h3 k (by omega)
      obtain ⟨K4, h4⟩ := fin ((zr 16 (a :: b :: q) : Nat) : Int)
      refine ⟨K4 + KZ + 1, fun k hk => ?_⟩
      obtain ⟨k, rfl⟩ : ∃ m, k = m + 1 := ⟨k - 1, by omega⟩
      rw [gorilla_coded.l0, if_pos (by omega), hZ k (by omega), Option.bind_some]
      by_cases hj2 : j < 2
      · rw [if_neg (by omega)]
        exact h4 k (by omega)
      · have hz : zr 16 (a :: b :: q) = 0 := by
          rw [zr, if_neg]
          rcases h with h | h
          · exact absurd h hj2
          · exact h
        rw [if_pos (by omega), hz, show decide (((0 : Nat) : Int) > 0) = false from rfl]
        rw [hz] at h4
        exact h4 k (by omega)
    · have hj2 : 2 ≤ j := by omega
      have h0 : a = 0 ∧ b = 0 := by
        by_cases h1 : a = 0 ∧ b = 0
        · exact h1
        · exact absurd (Or.inr h1) h
      have hzr : zr 16 (a :: b :: q) = zr 15 q + 1 := by rw [zr, if_pos h0]
      obtain ⟨z, hz⟩ : ∃ z, z = zr 15 q := ⟨_, rfl⟩
      have hz1 := zr_le 15 q
      have hz2 := zr_len 15 q
      have hql : q.length = 2 * (m - j - 1) := by rw [hq, List.length_drop]; omega
      rw [hzr] at hZ
      rw [h0.1, h0.2, gq_run j q hj2]
      rw [← hz] at hZ hz1 hz2 ⊢
      obtain ⟨K1, h1⟩ := Put17_ev out (by omega) z (by omega) 6
      rw [put6 out (by omega) z (by omega)] at h1
      have ll := low_length z 4
      obtain ⟨K3, h3⟩ := ih (j + 1 + z) (out ++ ([false, false] ++ low z 4)) (by omega) (by omega) (by simp only [List.length_append, ll, List.length_cons, List.length_nil]; omega)
      have hdd : n.drop (1 + 2 * (j + 1 + z)) = q.drop (2 * z) := by rw [hq, List.drop_drop]; congr 1; omega
      rw [hdd] at h3
      simp only [List.append_assoc] at h3 ⊢
      have e3 : Aside0 (IntKind.u64.wrap (wrap64 (((z + 1 : Nat) : Int) - 1)) = (z : Int)) := ⟨by rw [w64, wrap_u64] <;> omega⟩
      have e4 : Aside0 (wrap64 (((1 + 2 * j : Nat) : Int) + wrap64 (2 * ((z + 1 : Nat) : Int))) = ((1 + 2 * (j + 1 + z) : Nat) : Int)) := ⟨by
        have : wrap64 (2 * ((z + 1 : Nat) : Int)) = 2 * ((z + 1 : Nat) : Int) := by rw [w64] <;> omega
        rw [this, w64] <;> omega⟩
      refine ⟨K1 + K3 + KZ + 2, fun k hk => ?_⟩
      obtain ⟨k, rfl⟩ : ∃ m, k = m + 2 := ⟨k - 2, by omega⟩
      rw [gorilla_coded.l0, if_pos (by omega), hZ _ (by omega), Option.bind_some, if_pos (by omega), decide_eq_true (show ((z + 1 : Nat) : Int) > 0 by omega), gorilla_coded.j1, if_pos rfl, e3.out, h1 k (by omega), Option.bind_some, e4.out]
      exact h3 k (by omega)
theorem Coded18_ev (n : List Int) (hb : ∀ x ∈ n, I64 x) (m : Nat) (hm : m ≤ 64) (hn : n.length = 1 + 2 * m) : (∃ K, ∀ k, K ≤ k → gorilla_coded.f k n = some ((Of (gq 0 (n.drop 1)), ((gq 0 (n.drop 1)).length : Int)))) := by
  obtain ⟨K, hK⟩ := coded_run n hb m hm hn m 0 [] (by omega) (by omega) (by simp)
  exact ⟨K, fun k hk => hK k hk⟩
end Go.Proofs.Ytmddmbagehjdeaa.Q
end
section
set_option linter.unusedVariables false
namespace Go.Proofs.Ytmddmbagehjdeaa.Q
open Go Go.RowKit Go.Proofs.Ytmddmbagehjdeaa.G Go.Proofs.YtmddmbagehjdeaaW.PrintWords Go.Proofs.YtmddmbagehjdeaaW.PrintLast Go.Proofs.YtmddmbagehjdeaaW.PrintMore
def gor (l : List Smp) : List Bool := gq 0 ((packS l).drop 1)
theorem packS_len (l : List Smp) : (packS l).length = 1 + 2 * l.length := by rw [packS, List.length_cons, pk_len]; omega
theorem packS_i64 (l : List Smp) (hm : May l) : ∀ x ∈ packS l, I64 x := fun x hx => by
  have h64 := hm.1
  rcases List.mem_cons.1 hx with rfl | hx
  · unfold I64; omega
  · have := packS_b l hm x (by rw [packS, List.drop_one]; exact hx)
    unfold B2 at this
    unfold I64
    omega
theorem gor_len (l : List Smp) (hm : l.length ≤ 64) : (gor l).length ≤ 8704 := by
  have := gq_len l.length 0 ((packS l).drop 1) (by rw [List.length_drop, packS_len]; omega)
  unfold gor
  omega
def chunk (l : List Smp) : Int × Int × Int × List Int × Int := ((l.length : Int), (at_ l 0).f0, (at_ l (l.length - 1)).f0, Of (gor l), ((gor l).length : Int))
theorem Build_ev (l : List Smp) : (∃ K, ∀ k, K ≤ k → gorilla_Build.f k l = some ((if May l ∧ l ≠ [] then ((chunk l).1, (chunk l).2.1, (chunk l).2.2.1, (chunk l).2.2.2.1, (chunk l).2.2.2.2, 0) else (0, 0, 0, [], 0, 1)))) := by
  classical
  obtain ⟨K1, h1⟩ := Pack_ev l
  by_cases hm : May l
  · by_cases h0 : l = []
    · refine ⟨K1, fun k hk => ?_⟩
      unfold gorilla_Build.f
      rw [h1 k hk, Option.bind_some, if_pos hm, if_pos rfl, if_pos (by rw [h0]; rfl), if_neg (fun h => h.2 h0)]
    · have h64 := hm.1
      have hpos : 0 < l.length := List.length_pos_iff.2 h0
      obtain ⟨K2, h2⟩ := Coded18_ev (packS l) (packS_i64 l hm) l.length h64 (packS_len l)
      have e1 : Aside0 (wrap64 ((l.length : Int) - 1) = ((l.length - 1 : Nat) : Int)) := ⟨by rw [w64] <;> omega⟩
      refine ⟨K1 + K2, fun k hk => ?_⟩
      unfold gorilla_Build.f
      rw [h1 k (by omega), Option.bind_some, if_pos hm, if_pos rfl, if_neg (by omega), if_pos (by omega), e1.out, if_pos (Int.natCast_nonneg _), if_pos (by omega), h2 k (by omega), Option.bind_some, if_pos ⟨hm, h0⟩]
      rfl
  · refine ⟨K1, fun k hk => ?_⟩
    unfold gorilla_Build.f
    rw [h1 k hk, Option.bind_some, if_neg hm, if_neg (by decide), if_neg (fun h => hm h.1)]
end Go.Proofs.Ytmddmbagehjdeaa.Q
end
section
set_option linter.unusedVariables false
namespace Go.Proofs.Ytmddmbagehjdeaa.Q
open Go Go.RowKit Go.Proofs.Ytmddmbagehjdeaa.G Go.Proofs.YtmddmbagehjdeaaW.PrintWords Go.Proofs.YtmddmbagehjdeaaW.PrintLast Go.Proofs.YtmddmbagehjdeaaW.PrintMore
set_option maxRecDepth 100000 in
theorem awake18_ev : (∃ K, ∀ k, K ≤ k → windroselaw18_awake.f k = some (true)) := by
  have h1 : windroselaw18_awake.f 90 = some true := by decide +kernel
  exact ⟨90, fun k hk => at_rounds windroselaw18_awake.mono hk h1⟩
end Go.Proofs.Ytmddmbagehjdeaa.Q
end
section
set_option linter.unusedVariables false
namespace Go.Proofs.Ytmddmbagehjdeaa.Q
open Go Go.RowKit Go.Proofs.Ytmddmbagehjdeaa.G Go.Proofs.YtmddmbagehjdeaaW.PrintWords Go.Proofs.YtmddmbagehjdeaaW.PrintLast Go.Proofs.YtmddmbagehjdeaaW.PrintMore
def Byt (b : List Int) : Prop := ∀ x ∈ b, 0 ≤ x ∧ x ≤ 255
theorem wf_u8 {x : Int} (h : (Lit.int .u8 x).wf = true) : 0 ≤ x ∧ x ≤ 255 := by
  simp [Lit.wf] at h
  have e1 : IntKind.min .u8 = 0 := by decide
  have e2 : IntKind.max .u8 = 255 := by decide
  rw [e1, e2] at h
  exact h
theorem Byt.rd {b : List Int} (h : Byt b) (i : Int) : 0 ≤ rd b i ∧ rd b i ≤ 255 := by
  unfold Go.Proofs.YtmddmbagehjdeaaW.PrintWords.rd
  by_cases hi : i.toNat < b.length
  · exact h _ (getD_mem b _ 0 hi)
  · rw [List.getD_eq_getElem?_getD, List.getElem?_eq_none (by omega)]
    exact ⟨by decide, by decide⟩
def Good (b : List Int) (N : Int) : Prop := 0 ≤ N ∧ N ≤ 131072 ∧ (b.length : Int) = (N + 7) / 8 ∧ (N % 8 = 0 ∨ rd b (N / 8) % 2 ^ (8 - (N % 8).toNat) = 0)
noncomputable instance (b : List Int) (N : Int) : Decidable (Good b N) := Classical.propDecidable _
end Go.Proofs.Ytmddmbagehjdeaa.Q
end
section
set_option linter.unusedVariables false
namespace Go.Proofs.Ytmddmbagehjdeaa.Q
open Go Go.RowKit Go.Proofs.Ytmddmbagehjdeaa.G Go.Proofs.YtmddmbagehjdeaaW.PrintWords Go.Proofs.YtmddmbagehjdeaaW.PrintLast Go.Proofs.YtmddmbagehjdeaaW.PrintMore
def ev (s v : Int) (n : Nat) : List Smp := (List.range n).map fun (i : Nat) => (⟨s * (1 + (i : Int)), v⟩ : Smp)
theorem ev_length (s v : Int) (n : Nat) : (ev s v n).length = n := by simp [ev]
theorem ev_succ (s v : Int) (n : Nat) : ev s v (n + 1) = ev s v n ++ [⟨s * (1 + (n : Int)), v⟩] := by simp [ev, List.range_succ]
theorem ev_at (s v : Int) (n i : Nat) (h : i < n) : at_ (ev s v n) i = ⟨s * (1 + (i : Int)), v⟩ := by
  unfold at_ rd_T67 ev
  rw [Int.toNat_natCast]
  simp [h]
theorem mul_small (s : Int) (hs : 0 ≤ s ∧ s ≤ 65535) (i : Nat) (hi : i ≤ 70) : 0 ≤ s * (1 + (i : Int)) ∧ s * (1 + (i : Int)) ≤ 4653056 := by
  refine ⟨Int.mul_nonneg hs.1 (by omega), ?_⟩
  have h1 : s * (1 + (i : Int)) ≤ 65535 * (1 + (i : Int)) := Int.mul_le_mul_of_nonneg_right hs.2 (by omega)
  omega
theorem ev_may (s v : Int) (hs : 0 < s ∧ s ≤ 65535) (hv : 0 ≤ v ∧ v ≤ 65535) (n : Nat) (hn : n ≤ 64) : May (ev s v n) := by
  refine ⟨by rw [ev_length]; exact hn, fun i hi => ?_⟩
  rw [ev_length] at hi
  unfold Fits
  rw [ev_at s v n i hi]
  have h1 := mul_small s ⟨by omega, hs.2⟩ i (by omega)
  refine ⟨h1.1, by show s * (1 + (i : Int)) ≤ _; omega, by show _ ≤ v; omega, by show v ≤ _; omega, fun h => ?_⟩
  rw [ev_at s v n (i - 1) (by omega)]
  show s * (1 + ((i - 1 : Nat) : Int)) < s * (1 + (i : Int))
  exact Int.mul_lt_mul_of_pos_left (by omega) hs.1
theorem pk_tail (s v : Int) (m : Nat) : ∀ i : Nat, pk false (s * (1 + (i : Int))) v s 0 ((List.range' (i + 1) m).map fun (j : Nat) => (⟨s * (1 + (j : Int)), v⟩ : Smp)) = List.replicate (2 * m) 0 := by
  induction m with
  | zero => intro i; rfl
  | succ m ih =>
    intro i
    have e : s * (1 + ((i + 1 : Nat) : Int)) - s * (1 + (i : Int)) = s := by rw [← Int.mul_sub, show (1 + ((i + 1 : Nat) : Int)) - (1 + (i : Int)) = 1 by omega, Int.mul_one]
    rw [List.range'_succ, List.map_cons, pk]
    simp only [Bool.false_eq_true, if_false]
    rw [e, Int.sub_self, Int.sub_self, ih (i + 1), show 2 * (m + 1) = 2 * m + 1 + 1 by omega, List.replicate_succ, List.replicate_succ]
    rfl
theorem pk_ev (s v : Int) (m : Nat) : pk true 0 0 0 0 (ev s v (m + 2)) = [s, v, s, 0] ++ List.replicate (2 * m) 0 := by
  have h : ev s v (m + 2) = (⟨s * (1 + ((0 : Nat) : Int)), v⟩ : Smp) :: (⟨s * (1 + ((1 : Nat) : Int)), v⟩ : Smp) :: (List.range' 2 m).map fun (j : Nat) => (⟨s * (1 + (j : Int)), v⟩ : Smp) := by
    unfold ev
    rw [List.range_eq_range', List.range'_succ, List.range'_succ]
    rfl
  have e0 : s * (1 + ((0 : Nat) : Int)) = s := by rw [show (1 + ((0 : Nat) : Int)) = 1 from rfl, Int.mul_one]
  have e1 : s * (1 + ((1 : Nat) : Int)) - s = s := by
    have : s * (1 + ((1 : Nat) : Int)) = s + s := by rw [Int.mul_add, Int.mul_one]; show s + s * 1 = _; rw [Int.mul_one]
    omega
  have h3 := pk_tail s v m 1
  rw [h, pk, pk]
  simp only [Bool.false_eq_true, if_false, if_true]
  rw [e0]
  simp only [Int.sub_zero, Int.sub_self]
  rw [e1, h3]
  rfl
theorem zr_zero : ∀ (f m : Nat), zr f (List.replicate (2 * m) 0) = min f m
  | 0, m => by simp [zr]
  | f + 1, 0 => by simp [zr]
  | f + 1, m + 1 => by
    rw [show 2 * (m + 1) = 2 * m + 1 + 1 by omega, List.replicate_succ, List.replicate_succ, zr, if_pos ⟨rfl, rfl⟩, zr_zero f m]
    omega
theorem gq_zero : ∀ (m j : Nat), 2 ≤ j → (gq j (List.replicate (2 * m) 0)).length = 6 * ((m + 15) / 16) := by
  intro m
  induction m using Nat.strongRecOn with
  | _ m ih =>
    intro j hj
    match m with
    | 0 => simp [gq_nil]
    | m + 1 =>
      rw [show 2 * (m + 1) = 2 * m + 1 + 1 by omega, List.replicate_succ, List.replicate_succ, gq_run j _ hj, zr_zero]
      have hd : (List.replicate (2 * m) (0 : Int)).drop (2 * min 15 m) = List.replicate (2 * (m - min 15 m)) 0 := by rw [List.drop_replicate]; congr 1; omega
      have ll := low_length (min 15 m) 4
      rw [hd]
      simp only [List.length_append, List.length_cons, List.length_nil, ll]
      rw [ih (m - min 15 m) (by omega) _ (by omega)]
      omega
theorem gor_ev (s v : Int) (m : Nat) : (gor (ev s v (m + 2))).length = (coded s ++ (coded v ++ (coded s ++ coded 0))).length + 6 * ((m + 15) / 16) := by
  unfold gor
  rw [packS, List.drop_one, List.tail_cons, pk_ev]
  show (gq 0 (s :: v :: s :: 0 :: List.replicate (2 * m) 0)).length = _
  rw [gq_coded 0 s v _ (.inl (by decide)), gq_coded 1 s 0 _ (.inl (by decide))]
  have := gq_zero m (1 + 1) (by decide)
  simp only [List.length_append]
  omega
theorem even_loop (s v : Int) (hs : 0 ≤ s ∧ s ≤ 65535) (hv : 0 ≤ v ∧ v ≤ 65535) (a1 : Int) (n : Nat) (ha : wrap64 (3 + wrap64 (Int.tmod a1 61)) = (n : Int)) (hn : n ≤ 64) (R : Bool)
    (hR : ∀ k, windroselaw18_GorillaEven.l0 (k + 1) a1 (ev s v n) (n : Int) s v = windroselaw18_GorillaEven.l0 (k + 1) a1 (ev s v n) (n : Int) s v)
    (hE : (∃ K, ∀ k, K ≤ k → windroselaw18_GorillaEven.l0 k a1 (ev s v n) (n : Int) s v = some (R))) (d : Nat) : ∀ i, i + d = n → (∃ K, ∀ k, K ≤ k → windroselaw18_GorillaEven.l0 k a1 (ev s v i) (i : Int) s v = some (R)) := by
  induction d with
  | zero =>
    intro i hi
    obtain rfl : i = n := by omega
    exact hE
  | succ d ih =>
    intro i hi
    obtain ⟨K, hK⟩ := ih (i + 1) (by omega)
    have h1 := mul_small s hs i (by omega)
    have e1 : Aside0 (wrap64 (1 + (i : Int)) = 1 + (i : Int)) := ⟨by rw [w64] <;> omega⟩
    have e2 : Aside0 (wrap64 s = s) := ⟨by rw [w64] <;> omega⟩
    have e3 : Aside0 (wrap64 v = v) := ⟨by rw [w64] <;> omega⟩
    have e4 : Aside0 (wrap64 (s * (1 + (i : Int))) = s * (1 + (i : Int))) := ⟨by rw [w64] <;> omega⟩
    have e5 : Aside0 (wrap64 ((i : Int) + 1) = ((i + 1 : Nat) : Int)) := ⟨by rw [w64] <;> omega⟩
    have hl := ev_length s v i
    refine Ev.succ K fun k hk => ?_
    rw [windroselaw18_GorillaEven.l0, ha, if_pos (by omega), if_pos (by rw [hl]; omega), e2.out, e1.out, e4.out, e3.out, ← ev_succ, e5.out]
    exact hK k hk
theorem wf_u16 {x : Int} (h : (Lit.int .u16 x).wf = true) : 0 ≤ x ∧ x ≤ 65535 := by
  simp [Lit.wf] at h
  have e1 : IntKind.min .u16 = 0 := by decide
  have e2 : IntKind.max .u16 = 65535 := by decide
  rw [e1] at h
  first | exact h | (rw [e2] at h; exact h)
theorem GorillaEven : ∀ (a0_0 : Int) (a0_1 : Int) (a1 : Int), (Lit.int .u16 a0_0).wf = true ∧ (Lit.int .u16 a0_1).wf = true → (Lit.int .u8 a1).wf = true → ∃ k, windroselaw18_GorillaEven.f k a0_0 a0_1 a1 = some true := by
  intro s v a1 ⟨hs, hv⟩ ha
  have hs := wf_u16 hs
  have hv := wf_u16 hv
  have ha := wf_u8 ha
  obtain ⟨n, hn⟩ := Int.eq_ofNat_of_zero_le (show 0 ≤ 3 + a1 % 61 by omega)
  have hn3 : 3 ≤ n ∧ n ≤ 63 := by omega
  have hw : wrap64 (3 + wrap64 (Int.tmod a1 61)) = (n : Int) := by
    have : wrap64 (a1 % 61) = a1 % 61 := by rw [w64] <;> omega
    rw [tmod_nn ha.1, this, hn, w64] <;> omega
  obtain ⟨KA, hA⟩ := awake18_ev
  have fin : (∃ K, ∀ k, K ≤ k → windroselaw18_GorillaEven.l0 k a1 (ev s v n) (n : Int) s v = some (true)) := by
    by_cases h0 : s = 0
    · refine Ev.succ KA fun k hk => ?_
      rw [windroselaw18_GorillaEven.l0, hw, if_neg (by omega), if_pos h0, hA k hk, Option.bind_some]
    · have hm := ev_may s v ⟨by omega, hs.2⟩ hv n (by omega)
      have hm2 := ev_may s v ⟨by omega, hs.2⟩ hv 2 (by omega)
      have hl := ev_length s v n
      have ht : (ev s v n).take 2 = ev s v 2 := by
        unfold ev
        rw [← List.map_take, List.take_range]
        congr 2
        omega
      have hne : ev s v n ≠ [] := fun h => by rw [h] at hl; simp at hl; omega
      have hne2 : ev s v 2 ≠ [] := fun h => by have := ev_length s v 2; rw [h] at this; simp at this
      obtain ⟨K1, h1⟩ := Build_ev (ev s v n)
      rw [if_pos ⟨hm, hne⟩] at h1
      obtain ⟨K2, h2⟩ := Build_ev (ev s v 2)
      rw [if_pos ⟨hm2, hne2⟩] at h2
      have g1 := gor_ev s v (n - 2)
      rw [show n - 2 + 2 = n by omega] at g1
      have g2 := gor_ev s v 0
      rw [Nat.zero_add] at g2
      have gl := gor_len (ev s v 2) (by rw [ev_length]; omega)
      have c1 : (chunk (ev s v n)).2.2.2.2 = ((gor (ev s v n)).length : Int) := rfl
      have c2 : (chunk (ev s v 2)).2.2.2.2 = ((gor (ev s v 2)).length : Int) := rfl
      have e1 : Aside0 (wrap64 (((ev s v n).length : Int) - 2) = ((n - 2 : Nat) : Int)) := ⟨by rw [hl, w64] <;> omega⟩
      have e2 : Aside0 (wrap64 (((n - 2 : Nat) : Int) + 15) = ((n - 2 + 15 : Nat) : Int)) := ⟨by rw [w64] <;> omega⟩
      have e3 : Aside0 (wrap64 (Int.tdiv ((n - 2 + 15 : Nat) : Int) 16) = (((n - 2 + 15) / 16 : Nat) : Int)) := ⟨by rw [tdiv_nn (Int.natCast_nonneg _), w64] <;> omega⟩
      have e4 : Aside0 (wrap64 (6 * (((n - 2 + 15) / 16 : Nat) : Int)) = ((6 * ((n - 2 + 15) / 16) : Nat) : Int)) := ⟨by rw [w64] <;> omega⟩
      have e5 : Aside0 (wrap64 (((gor (ev s v 2)).length : Int) + ((6 * ((n - 2 + 15) / 16) : Nat) : Int)) = ((gor (ev s v n)).length : Int)) := ⟨by rw [w64] <;> omega⟩
      refine ⟨KA + K1 + K2 + 1, fun k hk => ?_⟩
      obtain ⟨k, rfl⟩ : ∃ m, k = m + 1 := ⟨k - 1, by omega⟩
      rw [windroselaw18_GorillaEven.l0, hw, if_neg (by omega), if_neg h0, h1 k (by omega), Option.bind_some, if_pos (by rw [hl]; omega), ht, h2 k (by omega), Option.bind_some, if_pos rfl, if_pos rfl, c1, c2, e1.out, e2.out, e3.out, e4.out, e5.out, if_pos rfl, hA k (by omega), Option.bind_some]
  obtain ⟨K, hK⟩ := even_loop s v hs hv a1 n hw (by omega) true (fun _ => rfl) fin n 0 (Nat.zero_add _)
  refine ⟨K, ?_⟩
  unfold windroselaw18_GorillaEven.f
  exact hK K (Nat.le_refl _)
end Go.Proofs.Ytmddmbagehjdeaa.Q
end
