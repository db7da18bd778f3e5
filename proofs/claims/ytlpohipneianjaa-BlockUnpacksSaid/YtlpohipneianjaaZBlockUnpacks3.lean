/- Ytlpohipneianjaa: lines of the words and functions that the row BlockUnpacks rests on, and the row. No condition. -/
import Derived.Test.YtlpohipneianjaaZBlockUnpacks2
section
set_option linter.unusedVariables false
set_option linter.unusedSimpArgs false
namespace Go.Proofs.YtlpohipneianjaaX
open Go Go.RowKit Go.Proofs.YtlpohipneianjaaW.PrintWords Go.ChangeShapes Go.WideShapes
section
variable {P : Program} {t e : TypeId}
theorem Rd.slice {α : Type} {d : Kd α} {ok : α → Prop} (ht : P.underlying t = some (.slice e)) (he : P.cellsOf e = d.sz) (hd : Rd P e d ok) :
    Rd P t (Kd.slice e d) (fun l => l.length ≤ maxLen ∧ ∀ x ∈ l, ok x) := by
  intro H enc W base spare held fuel cs x h
  rcases Deep.open_slice ht h with ⟨rfl, _⟩ | ⟨a, len, cap, m, n, D, Pl, rfl, hb, hl, hm, hmm, rfl, hx⟩
  · exact ⟨[], ⟨none, 0, rfl, Nat.le_refl _, rfl, by simp, fun h0 => absurd h0 (Nat.lt_irrefl _)⟩, by simp [maxLen], fun x hx => by cases hx⟩
  · have hlm : len ≤ m := by rw [hmm]; split <;> omega
    have hall : ∀ i, i < len → ∃ y : α, (∃ c, W.cells? base (a.add (i * P.cellsOf e)) (P.cellsOf e) = some c ∧ d.K W y c) ∧ ok y := by
      intro i hi
      obtain ⟨c, h1, h2⟩ := hx i (by omega)
      obtain ⟨y, h3, h4⟩ := hd enc W base spare held n c _ h2
      exact ⟨y, ⟨c, h1, h3⟩, h4⟩
    have hlist : ∃ l : List α, l.length = len ∧ ∀ i y, l[i]? = some y → (∃ c, W.cells? base (a.add (i * P.cellsOf e)) (P.cellsOf e) = some c ∧ d.K W y c) ∧ ok y := by
      have key : ∀ k, k ≤ len → ∃ l : List α, l.length = k ∧ ∀ i y, l[i]? = some y → (∃ c, W.cells? base (a.add (i * P.cellsOf e)) (P.cellsOf e) = some c ∧ d.K W y c) ∧ ok y := by
        intro k
        induction k with
        | zero => exact fun _ => ⟨[], rfl, fun i y hy => by simp at hy⟩
        | succ k ih =>
          intro hk
          obtain ⟨l, hl1, hl2⟩ := ih (by omega)
          obtain ⟨y, hy⟩ := hall k (by omega)
          refine ⟨l ++ [y], by simp [hl1], fun i z hz => ?_⟩
          rcases Nat.lt_or_ge i l.length with hi | hi
          · rw [List.getElem?_append_left hi] at hz
            exact hl2 i z hz
          · rw [List.getElem?_append_right hi] at hz
            have h0 : i - l.length = 0 := by
              have := (List.getElem?_eq_some_iff.1 hz).1
              simp at this
              omega
            rw [h0] at hz
            simp at hz
            subst hz
            have : i = k := by omega
            subst this
            exact hy
      exact key len (Nat.le_refl _)
    obtain ⟨l, hl1, hl2⟩ := hlist
    refine ⟨l, ⟨some a, cap, by rw [hl1], by omega, rfl, by rw [hl1]; simp only [maxLen] at hm; omega, fun _ => ⟨a, rfl, fun j p hp => ?_⟩⟩, by omega, fun y hy => ?_⟩
    · obtain ⟨⟨c, h1, h2⟩, _⟩ := hl2 j p hp
      refine ⟨c, d.K_len h2, h2, fun i u hu => ?_⟩
      have := cells_get h1 i u hu
      rw [Deep.add_add, he] at this
      exact this
    · obtain ⟨i, hi, rfl⟩ := List.getElem_of_mem hy
      exact (hl2 i _ (List.getElem?_eq_getElem hi)).2
theorem RdFs.one {t o : Nat} {α : Type} {d : Kd α} {ok : α → Prop} (h : Rd P t d ok) : RdFs P [(t, o)] o (o + P.cellsOf t) d ok := by
  intro H enc W base spare held fuel cs hl hi
  obtain ⟨y, hy⟩ := hi 0 _ rfl
  obtain ⟨a, ha, hk⟩ := h enc W base spare held fuel _ _ hy
  rw [List.take_of_length_le (by simp [hl])] at ha
  exact ⟨a, ha, hk⟩
theorem RdFs.cons {t o e' : Nat} {L : List (TypeId × Nat)} {α β : Type} {d : Kd α} {d' : Kd β} {ok : α → Prop} {ok' : β → Prop} (h : Rd P t d ok) (hs : RdFs P L (o + P.cellsOf t) e' d' ok') :
    RdFs P ((t, o) :: L) o e' (Kd.pair d d') (fun x => ok x.1 ∧ ok' x.2) := by
  intro H enc W base spare held fuel cs hl hi
  obtain ⟨y, hy⟩ := hi 0 _ rfl
  obtain ⟨a, ha, hk⟩ := h enc W base spare held fuel _ _ hy
  obtain ⟨b, hb, hk'⟩ := hs enc W base spare held fuel cs hl (fun i p hp => hi (i + 1) p (by simpa using hp))
  refine ⟨(a, b), ⟨_, _, ?_, ha, hb⟩, hk, hk'⟩
  rw [← List.drop_drop]
  exact (List.take_append_drop _ _).symm
theorem Rd.struct {α β : Type} {d : Kd α} {ok : α → Prop} {fs : Array Field} (f : β → α) (g : α → β) (hg : ∀ a, f (g a) = a) (ht : P.underlying t = some (.struct fs))
    (h : RdFs P (fs.toList.map fun f => (f.type, f.offset)) 0 (P.cellsOf t) d ok) : Rd P t (Kd.iso d f) (fun x => ok (f x)) := by
  intro H enc W base spare held fuel cs x hx
  obtain ⟨xs, n, rfl, _, hl, hn, hi⟩ := DataW.trod_struct ht hx
  obtain ⟨a, ha, hk⟩ := h enc W base spare held n cs hl (fun i p hp => by
    rw [List.getElem?_map] at hp
    obtain ⟨f', hf', rfl⟩ := Option.map_eq_some_iff.1 hp
    have h1 := hi i f' (by simpa using hf')
    have hlt : i < xs.length := by
      have := (List.getElem?_eq_some_iff.1 hf').1
      simp at this
      omega
    rw [List.getElem?_eq_getElem hlt] at h1
    exact ⟨_, h1⟩)
  refine ⟨g a, ?_, by show ok (f (g a)); rw [hg]; exact hk⟩
  show d.K W (f (g a)) cs
  rw [hg]
  simpa using ha
theorem Rd.array {α β : Type} {d : Kd α} {ok : α → Prop} {n : Nat} (f : β → α) (g : α → β) (hg : ∀ a, f (g a) = a) (ht : P.underlying t = some (.array n e))
    (h : RdFs P ((List.range n).map fun i => (e, i * P.cellsOf e)) 0 (P.cellsOf t) d ok) : Rd P t (Kd.iso d f) (fun x => ok (f x)) := by
  intro H enc W base spare held fuel cs x hx
  obtain ⟨xs, m, rfl, _, hl, hn, hi⟩ := DataW.trod_array ht hx
  obtain ⟨a, ha, hk⟩ := h enc W base spare held m cs hl (fun i p hp => by
    rw [List.getElem?_map] at hp
    obtain ⟨j, hj, rfl⟩ := Option.map_eq_some_iff.1 hp
    obtain ⟨hlt, hj⟩ := List.getElem?_eq_some_iff.1 hj
    simp at hj hlt
    subst hj
    have h1 := hi i hlt
    rw [List.getElem?_eq_getElem (by omega)] at h1
    exact ⟨_, h1⟩)
  refine ⟨g a, ?_, by show ok (f (g a)); rw [hg]; exact hk⟩
  show d.K W (f (g a)) cs
  rw [hg]
  simpa using ha
end
end Go.Proofs.YtlpohipneianjaaX
end
section
set_option linter.unusedVariables false
namespace Go.Proofs.Ytlpohipneianjaa.Q
open Go Go.RowKit Go.Proofs.YtlpohipneianjaaW.PrintWords
theorem w64 {x : Int} (h : -9223372036854775808 ≤ x) (h' : x ≤ 9223372036854775807) : wrap64 x = x := by unfold wrap64; omega
theorem Ev.succ {α : Type} {g : Nat → Option α} {r : α} (K : Nat) (h : ∀ k, K ≤ k → g (k + 1) = some r) : Ev g r := by
  refine ⟨K + 1, fun k hk => ?_⟩
  obtain ⟨m, rfl⟩ : ∃ m, k = m + 1 := ⟨k - 1, by omega⟩
  exact h m (by omega)
theorem Ev.mk {α : Type} {g : Nat → Option α} {r : α} (K : Nat) (h : ∀ k, K ≤ k → g k = some r) : Ev g r := ⟨K, h⟩
theorem getD_mem {α : Type} (l : List α) (i : Nat) (d : α) (h : i < l.length) : l.getD i d ∈ l := by
  rw [List.getD_eq_getElem?_getD, List.getElem?_eq_getElem h]
  exact List.getElem_mem h
theorem drop_getD {α : Type} (l : List α) (i : Nat) (d : α) (h : i < l.length) : l.drop i = l.getD i d :: l.drop (i + 1) := by
  rw [List.drop_eq_getElem_cons h, List.getD_eq_getElem?_getD, List.getElem?_eq_getElem h]
  rfl
end Go.Proofs.Ytlpohipneianjaa.Q
end
section
set_option linter.unusedVariables false
namespace Go.Proofs.Ytlpohipneianjaa.Q
open Go Go.RowKit Go.Proofs.Ytlpohipneianjaa.G Go.Proofs.YtlpohipneianjaaW.PrintWords Go.Proofs.YtlpohipneianjaaW.PrintLast
abbrev Smp := S42
def at_ (l : List Smp) (i : Nat) : Smp := rd_T42 l i
def Fits (l : List Smp) (i : Nat) : Prop := 0 ≤ (at_ l i).f0 ∧ (at_ l i).f0 ≤ 1099511627776 ∧ -1099511627776 ≤ (at_ l i).f1 ∧ (at_ l i).f1 ≤ 1099511627776 ∧ (0 < i → (at_ l (i - 1)).f0 < (at_ l i).f0)
def May (l : List Smp) : Prop := l.length ≤ 64 ∧ ∀ i, i < l.length → Fits l i
noncomputable instance (l : List Smp) : Decidable (May l) := Classical.propDecidable _
theorem may_loop (l : List Smp) (hl : l.length ≤ maxLen) (d : Nat) : ∀ i : Nat, i + d = l.length → (∀ j, j < i → Fits l j) → (∃ K, ∀ k, K ≤ k → windroseref11_May.l0 k l i = some ((decide (May l)))) := by
  unfold maxLen at hl
  induction d with
  | zero =>
    intro i hi hf
    refine Ev.succ 0 fun k _ => ?_
    simp only [windroseref11_May.l0]
    rw [if_neg (by omega)]
    congr 1
    rw [decide_eq_decide]
    exact ⟨fun h => ⟨by omega, fun j hj => hf j (by omega)⟩, fun h => by have := h.1; omega⟩
  | succ d ih =>
    intro i hi hf
    have bad : ¬ Fits l i → decide (May l) = false := fun h => decide_eq_false (fun hm => h (hm.2 i (by omega)))
    by_cases g : Fits l i
    · obtain ⟨K, hK⟩ := ih (i + 1) (by omega) (fun j hj => by
        rcases Nat.lt_or_ge j i with h | h
        · exact hf j h
        · obtain rfl : j = i := by omega
          exact g)
      refine Ev.succ K fun k hk => ?_
      simp only [windroseref11_May.l0]
      obtain ⟨g1, g2, g3, g4, g5⟩ := g
      have hK' := hK k hk
      have e1 : wrap64 ((i : Int) + 1) = ((i + 1 : Nat) : Int) := by rw [w64] <;> omega
      simp only [at_] at g1 g2 g3 g4 g5
      rw [if_pos (by omega), if_pos (by omega), if_neg (by omega), if_neg (by omega), if_neg (by omega), if_neg (by omega), e1]
      by_cases h0 : 0 < i
      · have e2 : wrap64 ((i : Int) - 1) = ((i - 1 : Nat) : Int) := by rw [w64] <;> omega
        have g6 := g5 h0
        rw [if_pos (by omega), e2, if_pos (by omega), if_pos (by omega), if_neg (by omega)]
        exact hK'
      · rw [if_neg (by omega)]
        exact hK'
    · rw [bad g]
      refine Ev.succ 0 fun k _ => ?_
      simp only [windroseref11_May.l0]
      rw [if_pos (by omega), if_pos (by omega)]
      unfold Fits at g
      simp only [at_] at g
      by_cases g1 : (rd_T42 l i).f0 < 0
      · rw [if_pos g1]
      by_cases g2 : (rd_T42 l i).f0 > 1099511627776
      · rw [if_neg g1, if_pos g2]
      by_cases g3 : (rd_T42 l i).f1 < -1099511627776
      · rw [if_neg g1, if_neg g2, if_pos g3]
      by_cases g4 : (rd_T42 l i).f1 > 1099511627776
      · rw [if_neg g1, if_neg g2, if_neg g3, if_pos g4]
      have h0 : 0 < i := by
        rcases Nat.eq_zero_or_pos i with h | h
        · exact absurd ⟨by omega, by omega, by omega, by omega, fun hh => by omega⟩ g
        · exact h
      have e2 : wrap64 ((i : Int) - 1) = ((i - 1 : Nat) : Int) := by rw [w64] <;> omega
      have g5 : (rd_T42 l ((i - 1 : Nat) : Int)).f0 ≥ (rd_T42 l i).f0 := by
        by_cases h : (rd_T42 l ((i - 1 : Nat) : Int)).f0 < (rd_T42 l i).f0
        · exact absurd ⟨by omega, by omega, by omega, by omega, fun _ => h⟩ g
        · omega
      rw [if_neg g1, if_neg g2, if_neg g3, if_neg g4, if_pos (by omega), e2, if_pos (by omega), if_pos (by omega), if_pos g5]
theorem may_ev (l : List Smp) (hl : l.length ≤ maxLen) : (∃ K, ∀ k, K ≤ k → windroseref11_May.f k l = some ((decide (May l)))) :=
  may_loop l hl l.length 0 (by omega) (fun j hj => by omega)
theorem check_loop (l : List Smp) (hl : l.length ≤ 64) (d : Nat) : ∀ i : Nat, i + d = l.length → (∀ j, j < i → Fits l j) → (∃ K, ∀ k, K ≤ k → block_Check.l0 k l l (l.length : Int) i = some ((if May l then 0 else 1))) := by
  induction d with
  | zero =>
    intro i hi hf
    refine Ev.succ 0 fun k _ => ?_
    simp only [block_Check.l0]
    rw [if_neg (by omega), if_pos ⟨hl, fun j hj => hf j (by omega)⟩]
  | succ d ih =>
    intro i hi hf
    have bad : ¬ Fits l i → ¬ May l := fun h hm => h (hm.2 i (by omega))
    by_cases g : Fits l i
    · obtain ⟨K, hK⟩ := ih (i + 1) (by omega) (fun j hj => by
        rcases Nat.lt_or_ge j i with h | h
        · exact hf j h
        · obtain rfl : j = i := by omega
          exact g)
      refine Ev.succ K fun k hk => ?_
      simp only [block_Check.l0]
      obtain ⟨g1, g2, g3, g4, g5⟩ := g
      have hK' := hK k hk
      have e1 : wrap64 ((i : Int) + 1) = ((i + 1 : Nat) : Int) := by rw [w64] <;> omega
      simp only [at_] at g1 g2 g3 g4 g5
      rw [if_pos (by omega), if_pos (by omega), if_pos (by omega), if_neg (by omega), if_neg (by omega), if_neg (by omega), if_neg (by omega), e1]
      by_cases h0 : 0 < i
      · have e2 : wrap64 ((i : Int) - 1) = ((i - 1 : Nat) : Int) := by rw [w64] <;> omega
        have g6 := g5 h0
        rw [if_pos (by omega), e2, if_pos (by omega), if_pos (by omega), if_neg (by omega)]
        exact hK'
      · rw [if_neg (by omega)]
        exact hK'
    · rw [if_neg (bad g)]
      refine Ev.succ 0 fun k _ => ?_
      simp only [block_Check.l0]
      rw [if_pos (by omega), if_pos (by omega), if_pos (by omega)]
      unfold Fits at g
      simp only [at_] at g
      by_cases g1 : (rd_T42 l i).f0 < 0
      · rw [if_pos g1]
      by_cases g2 : (rd_T42 l i).f0 > 1099511627776
      · rw [if_neg g1, if_pos g2]
      by_cases g3 : (rd_T42 l i).f1 < -1099511627776
      · rw [if_neg g1, if_neg g2, if_pos g3]
      by_cases g4 : (rd_T42 l i).f1 > 1099511627776
      · rw [if_neg g1, if_neg g2, if_neg g3, if_pos g4]
      have h0 : 0 < i := by
        rcases Nat.eq_zero_or_pos i with h | h
        · exact absurd ⟨by omega, by omega, by omega, by omega, fun hh => by omega⟩ g
        · exact h
      have e2 : wrap64 ((i : Int) - 1) = ((i - 1 : Nat) : Int) := by rw [w64] <;> omega
      have g5 : (rd_T42 l ((i - 1 : Nat) : Int)).f0 ≥ (rd_T42 l i).f0 := by
        by_cases h : (rd_T42 l ((i - 1 : Nat) : Int)).f0 < (rd_T42 l i).f0
        · exact absurd ⟨by omega, by omega, by omega, by omega, fun _ => h⟩ g
        · omega
      rw [if_neg g1, if_neg g2, if_neg g3, if_neg g4, if_pos (by omega), e2, if_pos (by omega), if_pos (by omega), if_pos (by omega)]
theorem check_ev (l : List Smp) : (∃ K, ∀ k, K ≤ k → block_Check.f k l = some ((if May l then 0 else 1))) := by
  unfold block_Check.f
  by_cases h : (l.length : Int) > 64
  · simp only [if_pos h]
    rw [if_neg (fun hm => by have := hm.1; omega)]
    exact ⟨0, fun _ _ => rfl⟩
  · simp only [if_neg h]
    exact check_loop l (by omega) l.length 0 (by omega) (fun j hj => by omega)
def Bd (s : Smp) : Prop := 0 ≤ s.f0 ∧ s.f0 ≤ 1099511627776 ∧ -1099511627776 ≤ s.f1 ∧ s.f1 ≤ 1099511627776
abbrev Rise (l : List Smp) : Prop := l.Pairwise (fun a b => a.f0 < b.f0)
theorem fits_tail {s : Smp} {l : List Smp} (h : ∀ i, i < (s :: l).length → Fits (s :: l) i) : ∀ i, i < l.length → Fits l i := by
  intro i hi
  have := h (i + 1) (by simp; omega)
  obtain ⟨g1, g2, g3, g4, g5⟩ := this
  have e : ∀ j : Nat, at_ (s :: l) (j + 1) = at_ l j := fun j => by
    simp only [at_, rd_T42]
    have h1 : ((j + 1 : Nat) : Int).toNat = j + 1 := by omega
    have h2 : ((j : Nat) : Int).toNat = j := by omega
    rw [h1, h2]; rfl
  rw [e] at g1 g2 g3 g4
  refine ⟨g1, g2, g3, g4, fun h0 => ?_⟩
  have := g5 (by omega)
  rw [e, show i + 1 - 1 = (i - 1) + 1 by omega, e] at this
  exact this
theorem fits_ok (l : List Smp) : (∀ i, i < l.length → Fits l i) → (∀ s ∈ l, Bd s) ∧ Rise l := by
  induction l with
  | nil => intro _; exact ⟨fun s h => by simp at h, List.Pairwise.nil⟩
  | cons s l ih =>
    intro h
    obtain ⟨h1, h2⟩ := ih (fits_tail h)
    have f0 := h 0 (by simp)
    have b0 : Bd s := ⟨f0.1, f0.2.1, f0.2.2.1, f0.2.2.2.1⟩
    refine ⟨fun x hx => ?_, ?_⟩
    · rcases List.mem_cons.1 hx with rfl | hx
      · exact b0
      · exact h1 x hx
    · refine List.pairwise_cons.2 ⟨fun b hb => ?_, h2⟩
      cases l with
      | nil => simp at hb
      | cons c l =>
        have f1' : s.f0 < c.f0 := (h 1 (by simp)).2.2.2.2 (by omega)
        rcases List.mem_cons.1 hb with rfl | hb
        · exact f1'
        · exact Int.lt_trans f1' ((List.pairwise_cons.1 h2).1 b hb)
end Go.Proofs.Ytlpohipneianjaa.Q
end
section
set_option linter.unusedVariables false
namespace Go.Proofs.Ytlpohipneianjaa.Q
open Go Go.RowKit Go.Proofs.Ytlpohipneianjaa.G Go.Proofs.YtlpohipneianjaaW.PrintWords Go.Proofs.YtlpohipneianjaaW.PrintLast
def countS (u : Nat) : List Int := if h : u < 128 then [(u : Int)] else ((u % 128 + 128 : Nat) : Int) :: countS (u / 128)
termination_by u
decreasing_by omega
def zig (n : Int) : Nat := if 0 ≤ n then (2 * n).toNat else (2 * (-1 - n) + 1).toNat
end Go.Proofs.Ytlpohipneianjaa.Q
end
section
set_option linter.unusedVariables false
namespace Go.Proofs.Ytlpohipneianjaa.Q
open Go Go.RowKit Go.Proofs.Ytlpohipneianjaa.G Go.Proofs.YtlpohipneianjaaW.PrintWords Go.Proofs.YtlpohipneianjaaW.PrintLast
def encN (l : List Int) : List Int := l.flatMap fun n => countS (zig n)
def encT (l : List ByteArray) : List Int := l.flatMap fun s => countS s.size ++ bytesOf s
def enc (nums : List Int) (texts : List ByteArray) : List Int := countS nums.length ++ encN nums ++ countS texts.length ++ encT texts
theorem rd_at (l : List Int) (i : Nat) (h : i < l.length) : l.drop i = rd l i :: l.drop (i + 1) := by rw [drop_getD l i 0 h]; rfl
theorem rd_mem (l : List Int) (i : Nat) (h : i < l.length) : rd l i ∈ l := by simp only [rd, Int.toNat_natCast]; exact getD_mem l i 0 h
end Go.Proofs.Ytlpohipneianjaa.Q
end
section
set_option linter.unusedVariables false
namespace Go.Proofs.Ytlpohipneianjaa.Q
open Go Go.RowKit Go.Proofs.Ytlpohipneianjaa.G Go.Proofs.YtlpohipneianjaaW.PrintWords Go.Proofs.YtlpohipneianjaaW.PrintLast
def pk : Bool → Int → Int → Int → Int → List Smp → List Int
  | _, _, _, _, _, [] => []
  | f, lt, lv, st, sv, s :: q => (s.f0 - lt - st) :: (s.f1 - lv - sv) :: pk false s.f0 s.f1 (if f then st else s.f0 - lt) (if f then sv else s.f1 - lv) q
def B2 (x : Int) : Prop := -4398046511104 ≤ x ∧ x ≤ 4398046511104
def packS (l : List Smp) : List Int := (l.length : Int) :: pk true 0 0 0 0 l
theorem pk_len (l : List Smp) : ∀ f lt lv st sv, (pk f lt lv st sv l).length = 2 * l.length := by
  induction l with
  | nil => intros; rfl
  | cons s l ih => intro f lt lv st sv; simp only [pk, List.length_cons, ih]; omega
theorem pk_b (l : List Smp) : (∀ s ∈ l, Bd s) → ∀ f lt lv st sv, (-1099511627776 ≤ lt ∧ lt ≤ 1099511627776) → (-1099511627776 ≤ lv ∧ lv ≤ 1099511627776) → (-2199023255552 ≤ st ∧ st ≤ 2199023255552) → (-2199023255552 ≤ sv ∧ sv ≤ 2199023255552) →
    ∀ x ∈ pk f lt lv st sv l, B2 x := by
  induction l with
  | nil => intro _ f lt lv st sv _ _ _ _ x hx; simp [pk] at hx
  | cons s l ih =>
    intro hb f lt lv st sv h1 h2 h3 h4 x hx
    obtain ⟨b1, b2, b3, b4⟩ := hb s (by simp)
    simp only [pk] at hx
    rcases List.mem_cons.1 hx with rfl | hx
    · unfold B2; omega
    rcases List.mem_cons.1 hx with rfl | hx
    · unfold B2; omega
    refine ih (fun s' h' => hb s' (by simp [h'])) _ _ _ _ _ (by omega) (by omega) ?_ ?_ x hx <;> split <;> omega
end Go.Proofs.Ytlpohipneianjaa.Q
end
section
set_option linter.unusedVariables false
namespace Go.Proofs.Ytlpohipneianjaa.Q
open Go Go.RowKit Go.Proofs.Ytlpohipneianjaa.G Go.Proofs.YtlpohipneianjaaW.PrintWords Go.Proofs.YtlpohipneianjaaW.PrintLast
theorem ints_loop (a b : List Int) (hab : a.length = b.length) (hl : a.length ≤ 9223372036854775807) (d : Nat) : ∀ i : Nat, i + d = a.length → (∃ K, ∀ k, K ≤ k → windroseref02_Ints.l0 k a b i = some ((decide (a.drop i = b.drop i)))) := by
  induction d with
  | zero =>
    intro i hi
    refine Ev.succ 0 fun k _ => ?_
    simp only [windroseref02_Ints.l0]
    rw [if_neg (by omega), decide_eq_true (by rw [List.drop_of_length_le (by omega), List.drop_of_length_le (by omega)])]
  | succ d ih =>
    intro i hi
    obtain ⟨K, hK⟩ := ih (i + 1) (by omega)
    refine Ev.succ K fun k hk => ?_
    simp only [windroseref02_Ints.l0]
    have e1 : wrap64 ((i : Int) + 1) = ((i + 1 : Nat) : Int) := by rw [w64] <;> omega
    rw [if_pos (by omega), if_pos (by omega), if_pos (by omega), rd_at a i (by omega), rd_at b i (by omega)]
    by_cases h : rd a i = rd b i
    · rw [if_pos h, e1, hK k hk]
      congr 1
      rw [decide_eq_decide, h]
      simp
    · rw [if_neg h, decide_eq_false (fun e => h (List.cons.inj e).1)]
theorem Ints_ev (a b : List Int) (hl : a.length ≤ 9223372036854775807) : (∃ K, ∀ k, K ≤ k → windroseref02_Ints.f k a b = some ((decide (a = b)))) := by
  by_cases h : a.length = b.length
  · obtain ⟨K, hK⟩ := ints_loop a b h hl a.length 0 (by omega)
    refine ⟨K, fun k hk => ?_⟩
    unfold windroseref02_Ints.f
    rw [if_pos (by omega)]
    exact hK k hk
  · refine ⟨0, fun k _ => ?_⟩
    unfold windroseref02_Ints.f
    rw [if_neg (by omega), decide_eq_false (fun e => h (by rw [e]))]
end Go.Proofs.Ytlpohipneianjaa.Q
end
section
set_option linter.unusedVariables false
namespace Go.Proofs.Ytlpohipneianjaa.Q
open Go Go.RowKit Go.Proofs.Ytlpohipneianjaa.G Go.Proofs.YtlpohipneianjaaW.PrintWords Go.Proofs.YtlpohipneianjaaW.PrintLast
def un : Bool → Int → Int → Int → Int → List Int → List Smp
  | f, lt, lv, st, sv, a :: b :: q => ⟨lt + (st + a), lv + (sv + b)⟩ :: un false (lt + (st + a)) (lv + (sv + b)) (if f then st else st + a) (if f then sv else sv + b) q
  | _, _, _, _, _, _ => []
theorem pk_un (n : Nat) : ∀ (q : List Int), q.length = 2 * n → ∀ f lt lv st sv, pk f lt lv st sv (un f lt lv st sv q) = q := by
  induction n with
  | zero => intro q hq; obtain rfl := List.eq_nil_of_length_eq_zero (by simpa using hq); intros; rfl
  | succ n ih =>
    intro q hq f lt lv st sv
    match q, hq with
    | a :: b :: q, hq =>
      have e1 : lt + (st + a) - lt - st = a := by omega
      have e2 : lv + (sv + b) - lv - sv = b := by omega
      have e3 : lt + (st + a) - lt = st + a := by omega
      have e4 : lv + (sv + b) - lv = sv + b := by omega
      simp only [un, pk]
      rw [e1, e2, e3, e4, ih q (by simp at hq; omega)]
theorem un_len (n : Nat) : ∀ (q : List Int), q.length = 2 * n → ∀ f lt lv st sv, (un f lt lv st sv q).length = n := by
  induction n with
  | zero => intro q hq; obtain rfl := List.eq_nil_of_length_eq_zero (by simpa using hq); intros; rfl
  | succ n ih =>
    intro q hq f lt lv st sv
    match q, hq with
    | a :: b :: q, hq =>
      simp only [un, List.length_cons]
      rw [ih q (by simp at hq; omega)]
def urun : List Smp × Smp × Smp → List Int → List Smp × Smp × Smp
  | z, a :: b :: q => urun (unpStep z a b) q
  | z, _ => z
theorem urun_pre (n : Nat) : ∀ (q : List Int), q.length = 2 * n → ∀ z, ∃ r, (urun z q).1 = z.1 ++ r := by
  induction n with
  | zero => intro q hq z; obtain rfl := List.eq_nil_of_length_eq_zero (by simpa using hq); exact ⟨[], by simp [urun]⟩
  | succ n ih =>
    intro q hq z
    match q, hq with
    | a :: b :: q, hq =>
      obtain ⟨r, hr⟩ := ih q (by simp at hq; omega) (unpStep z a b)
      exact ⟨(unpStep z a b).2.1 :: r, by simp only [urun]; rw [hr]; simp [unpStep]⟩
def Bw (s : Smp) : Prop := -1099511627776 ≤ s.f0 ∧ s.f0 ≤ 1099511627776 ∧ -1099511627776 ≤ s.f1 ∧ s.f1 ≤ 1099511627776
theorem urun_un (n : Nat) : ∀ (q : List Int), q.length = 2 * n → (∀ x ∈ q, B2 x) → ∀ (f : Bool) (acc : List Smp) (lt lv st sv : Int), (f = true ↔ acc = []) → Bw ⟨lt, lv⟩ →
    (-2199023255552 ≤ st ∧ st ≤ 2199023255552) → (-2199023255552 ≤ sv ∧ sv ≤ 2199023255552) →
    ((∀ s ∈ un f lt lv st sv q, Bw s) ∨ (∀ s ∈ (urun (acc, ⟨lt, lv⟩, ⟨st, sv⟩) q).1, Bw s)) →
    (urun (acc, ⟨lt, lv⟩, ⟨st, sv⟩) q).1 = acc ++ un f lt lv st sv q := by
  induction n with
  | zero => intro q hq _ f acc lt lv st sv _ _ _ _ _; obtain rfl := List.eq_nil_of_length_eq_zero (by simpa using hq); simp [urun, un]
  | succ n ih =>
    intro q hq hb f acc lt lv st sv hf hl hs1 hs2 H
    match q, hq with
    | a :: b :: q, hq =>
      obtain ⟨a1, a2⟩ := hb a (by simp)
      obtain ⟨b1, b2⟩ := hb b (by simp)
      obtain ⟨l1, l2, l3, l4⟩ := hl
      simp only at l1 l2 l3 l4
      have w1 : wrap64 (st + a) = st + a := by rw [w64] <;> omega
      have w2 : wrap64 (sv + b) = sv + b := by rw [w64] <;> omega
      have w3 : wrap64 (lt + (st + a)) = lt + (st + a) := by rw [w64] <;> omega
      have w4 : wrap64 (lv + (sv + b)) = lv + (sv + b) := by rw [w64] <;> omega
      have hq' : q.length = 2 * n := by simp at hq; omega
      have st1 : unpStep (acc, ⟨lt, lv⟩, ⟨st, sv⟩) a b = (acc ++ [⟨lt + (st + a), lv + (sv + b)⟩], ⟨lt + (st + a), lv + (sv + b)⟩, ⟨if f then st else st + a, if f then sv else sv + b⟩) := by
        simp only [unpStep]
        rw [w1, w2, w3, w4]
        cases f with
        | true =>
          obtain rfl := hf.1 rfl
          rw [if_neg (by simp)]
          rfl
        | false =>
          have : acc ≠ [] := fun h => by simp [h] at hf
          rw [if_pos (by have := List.length_pos_iff.2 this; omega)]
          rfl
      clear w1 w2 w3 w4
      have hn : Bw ⟨lt + (st + a), lv + (sv + b)⟩ := by
        rcases H with H | H
        · exact H _ (by simp [un])
        · refine H _ ?_
          simp only [urun]
          rw [st1]
          obtain ⟨r, hr⟩ := urun_pre n q hq' (acc ++ [⟨lt + (st + a), lv + (sv + b)⟩], ⟨lt + (st + a), lv + (sv + b)⟩, ⟨if f then st else st + a, if f then sv else sv + b⟩)
          rw [hr]
          simp
      have hn' := hn
      obtain ⟨n1, n2, n3, n4⟩ := hn'
      simp only at n1 n2 n3 n4
      simp only [urun, un]
      rw [st1, ih q hq' (fun x hx => hb x (by simp [hx])) false _ _ _ _ _ (by simp) hn (by split <;> omega) (by split <;> omega) ?_]
      · simp
      · rcases H with H | H
        · exact .inl fun s hs => H s (by simp only [un]; exact List.mem_cons_of_mem _ hs)
        · right
          intro s hs
          refine H s ?_
          simp only [urun]
          rw [st1]
          exact hs
theorem unpSt_urun (nums : List Int) (m : Nat) (hm : nums.length = 2 * m + 1) : (unpSt nums (List.finRange m)).1 = (urun ([], z42, z42) (nums.drop 1)).1 := by
  have key : ∀ (d j : Nat), j + d = m → ∀ z, ((List.finRange m).drop j).foldl (fun z i => unpStep z (numA nums i.val) (numB nums i.val)) z = urun z (nums.drop (1 + 2 * j)) := by
    intro d
    induction d with
    | zero =>
      intro j hj z
      rw [List.drop_of_length_le (by simp; omega), List.drop_of_length_le (by omega)]
      rfl
    | succ d ih =>
      intro j hj z
      have e : (List.finRange m).drop j = ⟨j, by omega⟩ :: (List.finRange m).drop (j + 1) := by
        rw [List.drop_eq_getElem_cons (by simp; omega)]
        simp
      rw [e, List.foldl_cons, ih (j + 1) (by omega), rd_at nums (1 + 2 * j) (by omega), rd_at nums (1 + 2 * j + 1) (by omega)]
      simp only [urun]
      unfold numA numB
      rw [show 1 + 2 * (j + 1) = 1 + 2 * j + 1 + 1 by omega, show 2 + 2 * j = 1 + 2 * j + 1 by omega]
  have := key m 0 (by omega) ([], z42, z42)
  unfold unpSt
  simpa using congrArg (·.1) this
theorem good_iff (nums : List Int) (m : Nat) (hm : nums.length = 2 * m + 1) : block_Unpack.good nums = true ↔ ∀ x ∈ nums.drop 1, B2 x := by
  have h2 : nums.length / 2 = m := by omega
  unfold block_Unpack.good
  rw [h2, List.all_eq_true]
  have inb : ∀ x, inB x = true ↔ B2 x := fun x => by unfold inB B2; simp
  constructor
  · intro h x hx
    obtain ⟨i, hi, rfl⟩ := List.mem_iff_getElem.1 hx
    rw [List.getElem_drop]
    have hi' : 1 + i < nums.length := by simp at hi; omega
    have hj := h ⟨i / 2, by omega⟩ (List.mem_finRange _)
    unfold goodAt at hj
    simp only [Bool.and_eq_true] at hj
    have hr : ∀ t : Nat, (ht : t < nums.length) → rd nums (t : Nat) = nums[t] := fun t ht => by simp [rd, List.getD_eq_getElem?_getD, ht]
    rcases Nat.mod_two_eq_zero_or_one i with h0 | h0
    · have := (inb _).1 hj.1
      unfold numA at this
      rw [hr _ (by show 1 + 2 * (i / 2) < _; omega)] at this
      have e : 1 + 2 * (i / 2) = 1 + i := by omega
      simpa only [e] using this
    · have := (inb _).1 hj.2
      unfold numB at this
      rw [hr _ (by show 2 + 2 * (i / 2) < _; omega)] at this
      have e : 2 + 2 * (i / 2) = 1 + i := by omega
      simpa only [e] using this
  · intro h j _
    have hj := j.isLt
    have hr : ∀ t : Nat, (ht : 1 + t < nums.length) → B2 (rd nums ((1 + t : Nat) : Nat)) := fun t ht => by
      have := rd_mem (nums.drop 1) t (by simp; omega)
      have e : rd (nums.drop 1) (t : Nat) = rd nums ((1 + t : Nat) : Nat) := by simp only [rd, Int.toNat_natCast]; simp [List.getD_eq_getElem?_getD, Nat.add_comm]
      rw [← e]
      exact h _ this
    unfold goodAt numA numB
    simp only [Bool.and_eq_true]
    refine ⟨(inb _).2 (hr (2 * j.val) (by omega)), (inb _).2 ?_⟩
    have := hr (2 * j.val + 1) (by omega)
    rwa [show 1 + (2 * j.val + 1) = 2 + 2 * j.val by omega] at this
def RelN (l : List Smp) (i : Nat) (f : Bool) (lt lv st sv : Int) : Prop :=
  (i = 0 → f = true ∧ lt = 0 ∧ lv = 0 ∧ st = 0 ∧ sv = 0) ∧
  (0 < i → f = false ∧ lt = (at_ l (i - 1)).f0 ∧ lv = (at_ l (i - 1)).f1) ∧ (i = 1 → st = 0 ∧ sv = 0) ∧
  (1 < i → st = (at_ l (i - 1)).f0 - (at_ l (i - 2)).f0 ∧ sv = (at_ l (i - 1)).f1 - (at_ l (i - 2)).f1)
theorem RelN.next {l : List Smp} {i : Nat} {f : Bool} {lt lv st sv : Int} (h : RelN l i f lt lv st sv) : RelN l (i + 1) false (at_ l i).f0 (at_ l i).f1 (if f then st else (at_ l i).f0 - lt) (if f then sv else (at_ l i).f1 - lv) := by
  obtain ⟨h0, h1, h2, h3⟩ := h
  refine ⟨fun h => by omega, fun _ => ⟨rfl, rfl, rfl⟩, fun h => ?_, fun h => ?_⟩
  · obtain ⟨rfl, _, _, e1, e2⟩ := h0 (by omega)
    exact ⟨e1, e2⟩
  · obtain ⟨rfl, e1, e2⟩ := h1 (by omega)
    rw [e1, e2]
    exact ⟨rfl, rfl⟩
theorem nums_loop (l : List Smp) (hm : May l) (d : Nat) : ∀ (i : Nat) (f : Bool) (acc : List Int) (lt lv st sv : Int), RelN l i f lt lv st sv → i + d = l.length → acc.length ≤ 1000 + 2 * i →
    (∃ K, ∀ k, K ≤ k → windroseref11_Nums.l0 k l acc i = some ((acc ++ pk f lt lv st sv (l.drop i)))) := by
  have h64 := hm.1
  induction d with
  | zero =>
    intro i f acc lt lv st sv hr hi ha
    refine Ev.succ 0 fun k _ => ?_
    simp only [windroseref11_Nums.l0]
    rw [if_neg (by omega), List.drop_of_length_le (by omega), pk, List.append_nil]
  | succ d ih =>
    intro i f acc lt lv st sv hr hi ha
    have hf := hm.2 i (by omega)
    obtain ⟨f1, f2, f3, f4, _⟩ := hf
    have hrn := hr.next
    obtain ⟨r0, r1, r2, r3⟩ := hr
    have hd : l.drop i = at_ l i :: l.drop (i + 1) := by rw [drop_getD l i z42 (by omega)]; rfl
    have hp1 : 0 < i → (0 ≤ (at_ l (i - 1)).f0 ∧ (at_ l (i - 1)).f0 ≤ 1099511627776 ∧ -1099511627776 ≤ (at_ l (i - 1)).f1 ∧ (at_ l (i - 1)).f1 ≤ 1099511627776) := fun h => by
      obtain ⟨a, b, c, d, _⟩ := hm.2 (i - 1) (by omega); exact ⟨a, b, c, d⟩
    have hp2 : 1 < i → (0 ≤ (at_ l (i - 2)).f0 ∧ (at_ l (i - 2)).f0 ≤ 1099511627776 ∧ -1099511627776 ≤ (at_ l (i - 2)).f1 ∧ (at_ l (i - 2)).f1 ≤ 1099511627776) := fun h => by
      obtain ⟨a, b, c, d, _⟩ := hm.2 (i - 2) (by omega); exact ⟨a, b, c, d⟩
    have c1 : (i : Int) < (l.length : Int) := by omega
    have c2 : (0 : Int) ≤ (i : Int) := Int.natCast_nonneg i
    have hc : ∀ x y : Int, acc.length + [x, y].length < 17592186044416 := fun x y => by
      have : [x, y].length = 2 := rfl
      rw [this]; omega
    have e1 : wrap64 ((i : Int) + 1) = ((i + 1 : Nat) : Int) := by rw [w64] <;> omega
    have hb3 : ∀ x y : Int, (acc ++ [x, y]).length ≤ 1000 + 2 * (i + 1) := fun x y => by rw [List.length_append]; simp only [List.length_cons, List.length_nil]; omega
    obtain ⟨K, hK⟩ := ih (i + 1) false (acc ++ [(at_ l i).f0 - lt - st, (at_ l i).f1 - lv - sv]) _ _ _ _ hrn (by omega) (hb3 _ _)
    refine Ev.succ K fun k hk => ?_
    have hKk := hK k hk
    rw [List.append_assoc] at hKk
    rw [hd, pk]
    simp only [windroseref11_Nums.l0]
    rw [if_pos c1, if_pos c2]
    clear hK hrn ih
    have ea : rd_T42 l i = at_ l i := rfl
    rw [ea]
    generalize at_ l i = s at hKk f1 f2 f3 f4 ⊢
    by_cases g0 : 0 < i
    · have e2 : wrap64 ((i : Int) - 1) = ((i - 1 : Nat) : Int) := by rw [w64] <;> omega
      obtain ⟨b1, b2, b3, b4⟩ := hp1 g0
      obtain ⟨rfl, q1, q2⟩ := r1 g0
      rw [if_pos (show (i : Int) > 0 by omega), e2, if_pos (by omega), if_pos (by omega)]
      have eb : rd_T42 l ((i - 1 : Nat) : Int) = at_ l (i - 1) := rfl
      rw [eb]
      generalize at_ l (i - 1) = p at b1 b2 b3 b4 q1 q2 r3 ⊢
      have v1 : wrap64 (s.f0 - p.f0) = s.f0 - p.f0 := by rw [w64] <;> omega
      have v2 : wrap64 (s.f1 - p.f1) = s.f1 - p.f1 := by rw [w64] <;> omega
      rw [v1, v2]
      by_cases g1 : 1 < i
      · have e3 : wrap64 ((i : Int) - 2) = ((i - 2 : Nat) : Int) := by rw [w64] <;> omega
        obtain ⟨d1, d2, d3, d4⟩ := hp2 g1
        obtain ⟨q3, q4⟩ := r3 g1
        rw [if_pos (show (i : Int) > 1 by omega), e3, if_pos (by omega), if_pos (by omega)]
        have ec : rd_T42 l ((i - 2 : Nat) : Int) = at_ l (i - 2) := rfl
        rw [ec]
        generalize at_ l (i - 2) = r at d1 d2 d3 d4 q3 q4 ⊢
        have v3 : wrap64 (p.f0 - r.f0) = p.f0 - r.f0 := by rw [w64] <;> omega
        have v4 : wrap64 (p.f1 - r.f1) = p.f1 - r.f1 := by rw [w64] <;> omega
        have v5 : wrap64 (s.f0 - p.f0 - (p.f0 - r.f0)) = s.f0 - p.f0 - (p.f0 - r.f0) := by rw [w64] <;> omega
        have v6 : wrap64 (s.f1 - p.f1 - (p.f1 - r.f1)) = s.f1 - p.f1 - (p.f1 - r.f1) := by rw [w64] <;> omega
        rw [v3, v4, v5, v6, Option.bind_some, if_pos (hc _ _), e1]
        rw [q1, q2, q3, q4] at hKk
        rw [q1, q2, q3, q4]
        exact hKk
      · obtain ⟨q3, q4⟩ := r2 (by omega)
        rw [if_neg (show ¬ (i : Int) > 1 by omega), Option.bind_some, if_pos (hc _ _), e1]
        rw [q1, q2, q3, q4, Int.sub_zero, Int.sub_zero] at hKk
        rw [q1, q2, q3, q4, Int.sub_zero, Int.sub_zero]
        exact hKk
    · obtain ⟨rfl, rfl, rfl, rfl, rfl⟩ := r0 (by omega)
      rw [if_neg (show ¬ (i : Int) > 0 by omega), if_neg (show ¬ (i : Int) > 1 by omega), Option.bind_some, if_pos (hc _ _), e1]
      rw [Int.sub_zero, Int.sub_zero, Int.sub_zero, Int.sub_zero] at hKk
      rw [Int.sub_zero, Int.sub_zero, Int.sub_zero, Int.sub_zero]
      exact hKk
theorem Nums_ev (l : List Smp) (hm : May l) : (∃ K, ∀ k, K ≤ k → windroseref11_Nums.f k l = some ((packS l))) := by
  obtain ⟨K, hK⟩ := nums_loop l hm l.length 0 true [(l.length : Int)] 0 0 0 0 ⟨fun _ => ⟨rfl, rfl, rfl, rfl, rfl⟩, fun h => by omega, fun h => by omega, fun h => by omega⟩ (by omega) (by simp)
  exact ⟨K, fun k hk => by unfold windroseref11_Nums.f; exact hK k hk⟩
theorem at_app (x y : List Smp) (j : Nat) (h : j < x.length) : at_ (x ++ y) j = at_ x j := by
  simp only [at_, rd_T42, Int.toNat_natCast]
  simp [List.getD_eq_getElem?_getD, List.getElem?_append_left h]
theorem at_end (x : List Smp) (s : Smp) : at_ (x ++ [s]) x.length = s := by
  simp only [at_, rd_T42, Int.toNat_natCast]
  simp [List.getD_eq_getElem?_getD]
theorem may_pre (x y : List Smp) (h : May (x ++ y)) : May x := by
  refine ⟨by have := h.1; simp at this; omega, fun i hi => ?_⟩
  obtain ⟨a, b, c, d, e⟩ := h.2 i (by simp; omega)
  rw [at_app x y i hi] at a b c d e
  refine ⟨a, b, c, d, fun h0 => ?_⟩
  have := e h0
  rwa [at_app x y (i - 1) (by omega)] at this
theorem may_nil : May ([] : List Smp) := ⟨by simp, fun i hi => by simp at hi⟩
theorem RelN.app {l : List Smp} {i : Nat} {f : Bool} {lt lv st sv : Int} (s : Smp) (h : RelN l i f lt lv st sv) (hi : i = l.length) : RelN (l ++ [s]) (i + 1) false s.f0 s.f1 (if f then st else s.f0 - lt) (if f then sv else s.f1 - lv) := by
  have h' : RelN (l ++ [s]) i f lt lv st sv := by
    obtain ⟨h0, h1, h2, h3⟩ := h
    refine ⟨h0, fun g => ?_, h2, fun g => ?_⟩
    · rw [at_app _ _ _ (by omega)]; exact h1 g
    · rw [at_app _ _ _ (by omega), at_app _ _ _ (by omega)]; exact h3 g
  have := h'.next
  rw [hi, at_end] at this
  rw [hi]
  exact this
theorem packS_b (L : List Smp) (h : May L) : ∀ x ∈ (packS L).drop 1, B2 x := by
  have := (fits_ok L h.2).1
  exact pk_b L this true 0 0 0 0 (by omega) (by omega) (by omega) (by omega)
noncomputable def resR (L : List Smp) (nums : List Int) : List Smp × Bool := by
  classical exact if May L ∧ packS L = nums then (L, true) else ([], false)
theorem resR_no {L : List Smp} {nums : List Int} (h : ¬ (May L ∧ packS L = nums)) : resR L nums = ([], false) := by unfold resR; rw [if_neg h]
theorem resR_yes {L : List Smp} {nums : List Int} (h : May L ∧ packS L = nums) : resR L nums = (L, true) := by unfold resR; rw [if_pos h]
theorem mem_drop1 {x : Int} {l : List Int} {i : Nat} (h : x ∈ l.drop i) (hi : 1 ≤ i) : x ∈ l.drop 1 := by
  obtain ⟨j, rfl⟩ : ∃ j, i = 1 + j := ⟨i - 1, by omega⟩
  rw [← List.drop_drop] at h
  exact List.mem_of_mem_drop h
theorem ref_loop (nums : List Int) (hn : nums.length ≤ 129) (texts : List ByteArray) (d : Nat) : ∀ (i : Nat) (acc : List Smp) (f : Bool) (lt lv st sv : Int), RelN acc acc.length f lt lv st sv → i = 1 + 2 * acc.length → nums.length ≤ i + 2 * d → May acc →
    (∃ K, ∀ k, K ≤ k → windroseref11_Unpack.l0 k acc i nums texts = some ((resR (acc ++ un f lt lv st sv (nums.drop i)) nums))) := by
  induction d with
  | zero =>
    intro i acc f lt lv st sv hr hi hd hm
    have e : nums.drop i = [] := List.drop_of_length_le (by omega)
    rw [e, show un f lt lv st sv [] = [] by simp [un], List.append_nil]
    have e1 : wrap64 ((i : Int) + 1) = ((i + 1 : Nat) : Int) := by rw [w64] <;> have := hm.1 <;> omega
    obtain ⟨K, hK⟩ := Nums_ev acc hm
    obtain ⟨K2, hK2⟩ := Ints_ev (packS acc) nums (by have := hm.1; simp [packS, pk_len]; omega)
    refine Ev.succ (K + K2) fun k hk => ?_
    simp only [windroseref11_Unpack.l0]
    rw [e1, if_neg (by omega), hK k (by omega), Option.bind_some, hK2 k (by omega), Option.bind_some]
    by_cases h : packS acc = nums
    · rw [decide_eq_true h, if_pos rfl, resR_yes ⟨hm, h⟩]
    · rw [decide_eq_false h, if_neg (by simp), resR_no (fun h' => h h'.2)]
  | succ d ih =>
    intro i acc f lt lv st sv hr hi hd hm
    have h64 := hm.1
    have e1 : wrap64 ((i : Int) + 1) = ((i + 1 : Nat) : Int) := by rw [w64] <;> omega
    by_cases hlt : i + 1 < nums.length
    · have hdr : nums.drop i = rd nums i :: rd nums ((i + 1 : Nat) : Nat) :: nums.drop (i + 2) := by rw [rd_at nums i (by omega), rd_at nums (i + 1) (by omega)]
      have ma : rd nums i ∈ nums.drop 1 := by
        have : rd nums i ∈ nums.drop i := by rw [hdr]; simp
        exact mem_drop1 this (by omega)
      have mb : rd nums ((i + 1 : Nat) : Nat) ∈ nums.drop 1 := by
        have : rd nums ((i + 1 : Nat) : Nat) ∈ nums.drop i := by rw [hdr]; simp
        exact mem_drop1 this (by omega)
      have far : ∀ L : List Smp, ¬ (B2 (rd nums i) ∧ B2 (rd nums ((i + 1 : Nat) : Nat))) → resR L nums = ([], false) := fun L hno => resR_no fun h => hno ⟨packS_b L h.1 _ (by rw [h.2]; exact ma), packS_b L h.1 _ (by rw [h.2]; exact mb)⟩
      rw [hdr]
      generalize hA : rd nums i = a at far
      generalize hB : rd nums ((i + 1 : Nat) : Nat) = b at far
      clear ma mb hdr
      have bad : ∀ L : List Smp, ¬ (B2 a ∧ B2 b) → (∃ K, ∀ k, K ≤ k → windroseref11_Unpack.j2 k acc i a b true nums texts = some ((resR L nums))) := fun L hno => Ev.succ 0 fun k _ => by
        simp only [windroseref11_Unpack.j2]
        rw [if_pos trivial, far L hno]
      have start : ∀ (R : List Smp × Bool) (c : Bool), (∃ K, ∀ k, K ≤ k → windroseref11_Unpack.j2 k acc i a b c nums texts = some (R)) → (if a > 8796093022208 then true else if a < -8796093022208 then true else if b > 8796093022208 then true else decide (b < -8796093022208)) = c → (∃ K, ∀ k, K ≤ k → windroseref11_Unpack.l0 k acc i nums texts = some (R)) := fun R c ⟨K, hK⟩ hc => Ev.succ K fun k hk => by
        have hKk := hK k hk
        simp only [windroseref11_Unpack.l0]
        rw [e1, if_pos (by omega), if_pos (by omega), if_pos (by omega), if_pos (by omega), hA, hB]
        rw [← hc] at hKk
        clear hc hK
        by_cases g1 : a > 8796093022208
        · rw [if_pos g1] at hKk ⊢; exact hKk
        rw [if_neg g1] at hKk ⊢
        by_cases g2 : a < -8796093022208
        · rw [if_pos g2] at hKk ⊢; exact hKk
        rw [if_neg g2] at hKk ⊢
        by_cases g3 : b > 8796093022208
        · rw [if_pos g3] at hKk ⊢; exact hKk
        rw [if_neg g3] at hKk ⊢
        exact hKk
      by_cases hbd : (-8796093022208 ≤ a ∧ a ≤ 8796093022208) ∧ (-8796093022208 ≤ b ∧ b ≤ 8796093022208)
      · obtain ⟨⟨a1, a2⟩, b1, b2⟩ := hbd
        refine start _ false ?_ (by rw [if_neg (by omega), if_neg (by omega), if_neg (by omega), decide_eq_false (by omega)])
        clear start bad far
        have hs0 : RelN (acc ++ [⟨lt + (st + a), lv + (sv + b)⟩]) (acc.length + 1) false (lt + (st + a)) (lv + (sv + b)) (if f then st else st + a) (if f then sv else sv + b) := by
          have := hr.app ⟨lt + (st + a), lv + (sv + b)⟩ rfl
          have q1 : lt + (st + a) - lt = st + a := by omega
          have q2 : lv + (sv + b) - lv = sv + b := by omega
          rw [q1, q2] at this
          exact this
        have eL : acc ++ un f lt lv st sv (a :: b :: nums.drop (i + 2)) = (acc ++ [⟨lt + (st + a), lv + (sv + b)⟩]) ++ un false (lt + (st + a)) (lv + (sv + b)) (if f then st else st + a) (if f then sv else sv + b) (nums.drop (i + 2)) := by simp [un]
        rw [eL]
        obtain ⟨s, hs⟩ : ∃ s : Smp, s = ⟨lt + (st + a), lv + (sv + b)⟩ := ⟨_, rfl⟩
        have e2 : wrap64 ((i : Int) + 2) = ((i + 2 : Nat) : Int) := by rw [w64] <;> omega
        obtain ⟨R, hR⟩ : ∃ R, R = resR ((acc ++ [s]) ++ un false (lt + (st + a)) (lv + (sv + b)) (if f then st else st + a) (if f then sv else sv + b) (nums.drop (i + 2))) nums := ⟨_, rfl⟩
        have T : (∃ K, ∀ k, K ≤ k → (windroseref11_May.f k (acc ++ [s])).bind (fun t => if t = true then windroseref11_Unpack.l0 k (acc ++ [s]) (wrap64 ((i : Int) + 2)) nums texts else some ([], false)) = some (R)) := by
          obtain ⟨K, hK⟩ := may_ev (acc ++ [s]) (by unfold maxLen; simp; omega)
          by_cases hmay : May (acc ++ [s])
          · obtain ⟨K2, hK2⟩ := ih (i + 2) (acc ++ [s]) _ _ _ _ _ (by rw [hs, List.length_append]; exact hs0) (by simp; omega) (by omega) hmay
            refine ⟨K + K2, fun k hk => ?_⟩
            rw [hK k (by omega), Option.bind_some, decide_eq_true hmay, if_pos rfl, e2, hK2 k (by omega), hR]
          · refine ⟨K, fun k hk => ?_⟩
            rw [hK k (by omega), Option.bind_some, decide_eq_false hmay, if_neg (by simp), hR, resR_no (fun h => hmay (may_pre _ _ h.1))]
        rw [← hs, ← hR]
        clear hR eL hs0 ih
        obtain ⟨K, hK⟩ := T
        obtain ⟨r0, r1, r2, r3⟩ := hr
        have hc : acc.length < 8796093022208 := by omega
        refine Ev.succ (K + 1) fun k hk => ?_
        obtain ⟨k, rfl⟩ : ∃ k', k = k' + 1 := ⟨k - 1, by omega⟩
        have hKk := hK k (by omega)
        simp only [windroseref11_Unpack.j2]
        rw [if_neg (by simp)]
        by_cases g0 : 0 < acc.length
        · have e3 : wrap64 ((acc.length : Int) - 1) = ((acc.length - 1 : Nat) : Int) := by rw [w64] <;> omega
          obtain ⟨_, q1, q2⟩ := r1 g0
          obtain ⟨p1, p2, p3, p4, _⟩ := hm.2 (acc.length - 1) (by omega)
          rw [if_pos (show (acc.length : Int) > 0 by omega), e3, if_pos (by omega), if_pos (by omega)]
          have eb : rd_T42 acc ((acc.length - 1 : Nat) : Int) = at_ acc (acc.length - 1) := rfl
          rw [eb]
          simp only [windroseref11_Unpack.j3]
          by_cases g1 : 1 < acc.length
          · have e4 : wrap64 ((acc.length : Int) - 2) = ((acc.length - 2 : Nat) : Int) := by rw [w64] <;> omega
            obtain ⟨q3, q4⟩ := r3 g1
            obtain ⟨d1, d2, d3, d4, _⟩ := hm.2 (acc.length - 2) (by omega)
            rw [if_pos (show (acc.length : Int) > 1 by omega), e3, if_pos (by omega), if_pos (by omega), e4, if_pos (by omega), if_pos (by omega), if_pos hc, eb]
            have ec : rd_T42 acc ((acc.length - 2 : Nat) : Int) = at_ acc (acc.length - 2) := rfl
            rw [ec]
            generalize at_ acc (acc.length - 1) = p at p1 p2 p3 p4 q1 q2 q3 q4 ⊢
            generalize at_ acc (acc.length - 2) = r at d1 d2 d3 d4 q3 q4 ⊢
            have v1 : wrap64 (a + p.f0) = a + p.f0 := by rw [w64] <;> omega
            have v2 : wrap64 (b + p.f1) = b + p.f1 := by rw [w64] <;> omega
            have v3 : wrap64 (a + p.f0 + p.f0) = a + p.f0 + p.f0 := by rw [w64] <;> omega
            have v4 : wrap64 (b + p.f1 + p.f1) = b + p.f1 + p.f1 := by rw [w64] <;> omega
            have v5 : wrap64 (a + p.f0 + p.f0 - r.f0) = a + p.f0 + p.f0 - r.f0 := by rw [w64] <;> omega
            have v6 : wrap64 (b + p.f1 + p.f1 - r.f1) = b + p.f1 + p.f1 - r.f1 := by rw [w64] <;> omega
            rw [v1, v2, v3, v4, v5, v6]
            clear v1 v2 v3 v4 v5 v6
            have es : (⟨a + p.f0 + p.f0 - r.f0, b + p.f1 + p.f1 - r.f1⟩ : Smp) = s := by
              rw [hs, q1, q2, q3, q4]
              congr 1 <;> omega
            rw [es, Option.bind_some]
            exact hKk
          · obtain ⟨q3, q4⟩ := r2 (by omega)
            rw [if_neg (show ¬ (acc.length : Int) > 1 by omega), if_pos hc]
            generalize at_ acc (acc.length - 1) = p at p1 p2 p3 p4 q1 q2 ⊢
            have v1 : wrap64 (a + p.f0) = a + p.f0 := by rw [w64] <;> omega
            have v2 : wrap64 (b + p.f1) = b + p.f1 := by rw [w64] <;> omega
            rw [v1, v2]
            clear v1 v2
            have es : (⟨a + p.f0, b + p.f1⟩ : Smp) = s := by
              rw [hs, q1, q2, q3, q4]
              congr 1 <;> omega
            rw [es, Option.bind_some]
            exact hKk
        · obtain ⟨_, q1, q2, q3, q4⟩ := r0 (by omega)
          rw [if_neg (show ¬ (acc.length : Int) > 0 by omega)]
          simp only [windroseref11_Unpack.j3]
          rw [if_neg (show ¬ (acc.length : Int) > 1 by omega), if_pos hc]
          have es : (⟨a, b⟩ : Smp) = s := by
            rw [hs, q1, q2, q3, q4]
            congr 1 <;> omega
          rw [es, Option.bind_some]
          exact hKk
      · refine start _ true (bad _ (by unfold B2; omega)) ?_
        clear start bad far
        by_cases g1 : a > 8796093022208
        · rw [if_pos g1]
        by_cases g2 : a < -8796093022208
        · rw [if_neg g1, if_pos g2]
        by_cases g3 : b > 8796093022208
        · rw [if_neg g1, if_neg g2, if_pos g3]
        rw [if_neg g1, if_neg g2, if_neg g3, decide_eq_true (by omega)]
    · have e : un f lt lv st sv (nums.drop i) = [] := by
        have : (nums.drop i).length ≤ 1 := by simp; omega
        match hq : nums.drop i, this with
        | [], _ => simp [un]
        | [x], _ => simp [un]
        | _ :: _ :: _, h => simp at h
      rw [e, List.append_nil]
      obtain ⟨K, hK⟩ := Nums_ev acc hm
      obtain ⟨K2, hK2⟩ := Ints_ev (packS acc) nums (by simp [packS, pk_len]; omega)
      refine Ev.succ (K + K2) fun k hk => ?_
      simp only [windroseref11_Unpack.l0]
      rw [e1, if_neg (by omega), hK k (by omega), Option.bind_some, hK2 k (by omega), Option.bind_some]
      by_cases h : packS acc = nums
      · rw [decide_eq_true h, if_pos rfl, resR_yes ⟨hm, h⟩]
      · rw [decide_eq_false h, if_neg (by simp), resR_no (fun h' => h h'.2)]
def Dat (nums : List Int) (texts : List ByteArray) : Prop := texts.length = 0 ∧ May (un true 0 0 0 0 (nums.drop 1)) ∧ packS (un true 0 0 0 0 (nums.drop 1)) = nums
noncomputable instance (nums : List Int) (texts : List ByteArray) : Decidable (Dat nums texts) := Classical.propDecidable _
theorem Dat.len {nums : List Int} {texts : List ByteArray} (h : Dat nums texts) : ∃ m, m ≤ 64 ∧ nums.length = 2 * m + 1 ∧ rd nums 0 = (m : Int) ∧ (un true 0 0 0 0 (nums.drop 1)).length = m := by
  obtain ⟨_, h2, h3⟩ := h
  refine ⟨_, h2.1, ?_, ?_, rfl⟩
  · rw [← congrArg List.length h3]; simp [packS, pk_len]
  · generalize un true 0 0 0 0 (nums.drop 1) = L at h3 ⊢
    rw [← h3]; rfl
theorem ref_ev (nums : List Int) (texts : List ByteArray) : (∃ K, ∀ k, K ≤ k → windroseref11_Unpack.f k nums texts = some ((if Dat nums texts then (un true 0 0 0 0 (nums.drop 1), true) else ([], false)))) := by
  have no : (0 < texts.length ∨ 129 < nums.length ∨ nums.length < 1) → ¬ Dat nums texts := fun h hd => by
    obtain ⟨m, h1, h2, _⟩ := hd.len
    have := hd.1
    omega
  have j : ∀ k, windroseref11_Unpack.j0 (k + 1) true nums texts = some ([], false) := fun k => by simp only [windroseref11_Unpack.j0]; rw [if_pos trivial]
  by_cases g1 : 0 < texts.length
  · rw [if_neg (no (.inl g1))]
    refine ⟨1, fun k hk => ?_⟩
    obtain ⟨k, rfl⟩ : ∃ k', k = k' + 1 := ⟨k - 1, by omega⟩
    unfold windroseref11_Unpack.f
    rw [if_pos (by omega), j]
  by_cases g2 : 129 < nums.length
  · rw [if_neg (no (.inr (.inl g2)))]
    refine ⟨1, fun k hk => ?_⟩
    obtain ⟨k, rfl⟩ : ∃ k', k = k' + 1 := ⟨k - 1, by omega⟩
    unfold windroseref11_Unpack.f
    rw [if_neg (by omega), if_pos (by omega), j]
  by_cases g3 : nums.length < 1
  · rw [if_neg (no (.inr (.inr g3)))]
    refine ⟨1, fun k hk => ?_⟩
    obtain ⟨k, rfl⟩ : ∃ k', k = k' + 1 := ⟨k - 1, by omega⟩
    unfold windroseref11_Unpack.f
    rw [if_neg (by omega), if_neg (by omega), decide_eq_true (by omega), j]
  obtain ⟨K, hK⟩ := ref_loop nums (by omega) texts 65 1 [] true 0 0 0 0 ⟨fun _ => ⟨rfl, rfl, rfl, rfl, rfl⟩, fun h => by simp at h, fun h => by simp at h, fun h => by simp at h⟩ (by simp) (by omega) may_nil
  refine ⟨K + 1, fun k hk => ?_⟩
  obtain ⟨k, rfl⟩ : ∃ k', k = k' + 1 := ⟨k - 1, by omega⟩
  unfold windroseref11_Unpack.f
  rw [if_neg (by omega), if_neg (by omega), decide_eq_false (by omega)]
  simp only [windroseref11_Unpack.j0]
  rw [if_neg (by simp)]
  refine (hK k (by omega)).trans ?_
  rw [List.nil_append]
  by_cases hd : Dat nums texts
  · rw [if_pos hd, resR_yes hd.2]
  · rw [if_neg hd, resR_no (fun h => hd ⟨by omega, h⟩)]
theorem bw_of_may {L : List Smp} (h : May L) : ∀ s ∈ L, Bw s := fun s hs => by
  obtain ⟨h1, h2, h3, h4⟩ := (fits_ok L h.2).1 s hs
  exact ⟨by omega, h2, h3, h4⟩
theorem prog_ev (nums : List Int) (hn : nums.length ≤ maxLen) (texts : List ByteArray) : (∃ K, ∀ k, K ≤ k → block_Unpack.f k nums texts = some ((if Dat nums texts then (un true 0 0 0 0 (nums.drop 1), (0 : Int)) else ([], 2)))) := by
  have row : ∀ m, nums.length = 2 * m + 1 → block_Unpack.row nums = (urun ([], z42, z42) (nums.drop 1)).1 := fun m hm => by
    unfold block_Unpack.row
    rw [show nums.length / 2 = m by omega]
    exact unpSt_urun nums m hm
  have same : ∀ m, nums.length = 2 * m + 1 → block_Unpack.good nums = true → (May (un true 0 0 0 0 (nums.drop 1)) ∨ May (block_Unpack.row nums)) → block_Unpack.row nums = un true 0 0 0 0 (nums.drop 1) := fun m hm hg h => by
    rw [row m hm] at h ⊢
    have := urun_un m (nums.drop 1) (by simp; omega) ((good_iff nums m hm).1 hg) true [] 0 0 0 0 (by simp) ⟨by simp, by simp, by simp, by simp⟩ (by omega) (by omega) (h.imp bw_of_may bw_of_may)
    exact this
  by_cases hd : Dat nums texts
  · rw [if_pos hd]
    obtain ⟨m, h1, h2, h3, h4⟩ := hd.len
    have hok : block_Unpack.ok nums texts = true := by
      unfold block_Unpack.ok
      simp only [Bool.and_eq_true, decide_eq_true_eq]
      exact ⟨⟨⟨by omega, by rw [h3, show nums.length / 2 = m by omega]⟩, hd.1⟩, by omega⟩
    have hg : block_Unpack.good nums = true := (good_iff nums m h2).2 (by have := packS_b _ hd.2.1; rwa [hd.2.2] at this)
    have hr := same m h2 hg (.inl hd.2.1)
    obtain ⟨K, hK⟩ := check_ev (un true 0 0 0 0 (nums.drop 1))
    refine ⟨K, fun k hk => ?_⟩
    unfold block_Unpack.f
    rw [if_pos hn, if_pos hok, if_pos hg, hr, hK k hk, Option.bind_some, if_pos hd.2.1, if_pos rfl]
  · rw [if_neg hd]
    obtain ⟨K, hK⟩ := check_ev (block_Unpack.row nums)
    refine ⟨K, fun k hk => ?_⟩
    unfold block_Unpack.f
    rw [if_pos hn]
    split
    · rename_i hok
      split
      · rename_i hg
        rw [hK k hk, Option.bind_some]
        by_cases hm : May (block_Unpack.row nums)
        · exfalso
          unfold block_Unpack.ok at hok
          simp only [Bool.and_eq_true, decide_eq_true_eq] at hok
          obtain ⟨⟨⟨o1, o2⟩, o3⟩, o4⟩ := hok
          have hm2 : nums.length = 2 * (nums.length / 2) + 1 := by omega
          have hr := same _ hm2 hg (.inr hm)
          rw [hr] at hm
          refine hd ⟨o3, hm, ?_⟩
          have hl := un_len (nums.length / 2) (nums.drop 1) (by simp; omega) true 0 0 0 0
          unfold packS
          rw [hl, pk_un (nums.length / 2) (nums.drop 1) (by simp; omega), ← o2]
          have := rd_at nums 0 (by omega)
          simpa using this.symm
        · rw [if_neg hm, if_neg (by decide)]
      · rfl
    · rfl
theorem same11_loop (a : List Smp) (hl : a.length ≤ 64) (d : Nat) : ∀ i : Nat, i + d = a.length → (∃ K, ∀ k, K ≤ k → windroseref11_Same.l0 k a a i = some (true)) := by
  induction d with
  | zero =>
    intro i hi
    refine Ev.succ 0 fun k _ => ?_
    simp only [windroseref11_Same.l0]
    rw [if_neg (by omega)]
  | succ d ih =>
    intro i hi
    obtain ⟨K, hK⟩ := ih (i + 1) (by omega)
    refine Ev.succ K fun k hk => ?_
    simp only [windroseref11_Same.l0]
    have e1 : wrap64 ((i : Int) + 1) = ((i + 1 : Nat) : Int) := by rw [w64] <;> omega
    rw [if_pos (by omega), if_pos (by omega), if_pos (by omega), if_neg (by simp), e1]
    exact hK k hk
theorem Same11_ev (a : List Smp) (hl : a.length ≤ 64) : (∃ K, ∀ k, K ≤ k → windroseref11_Same.f k a a = some (true)) := by
  obtain ⟨K, hK⟩ := same11_loop a hl a.length 0 (by omega)
  exact ⟨K, fun k hk => by unfold windroseref11_Same.f; rw [if_pos rfl]; exact hK k hk⟩
end Go.Proofs.Ytlpohipneianjaa.Q
end
section
set_option linter.unusedVariables false
namespace Go.Proofs.Ytlpohipneianjaa.Q
open Go Go.RowKit Go.Proofs.Ytlpohipneianjaa.G Go.Proofs.YtlpohipneianjaaW.PrintWords Go.Proofs.YtlpohipneianjaaW.PrintLast
theorem awake11u_ev : (∃ K, ∀ k, K ≤ k → windroselaw11_awake.f k = some (true)) := by
  have h : windroselaw11_awake.f 12 = some true := by decide +kernel
  exact Ev.of windroselaw11_awake.mono h
theorem BlockUnpacks : ∀ (l0_0 : List Int) (l0_1 : List ByteArray), (l0_0.length ≤ maxLen ∧ ∀ y4 ∈ l0_0, (Lit.int .i64 y4).wf = true) ∧ (l0_1.length ≤ maxLen ∧ ∀ y4 ∈ l0_1, y4.size ≤ maxLen) → ∃ k, windroselaw11_BlockUnpacks.f k l0_0 l0_1 = some true := by
  intro nums texts ⟨⟨hn, _⟩, _⟩
  obtain ⟨K1, hA⟩ := awake11u_ev
  obtain ⟨K2, hP⟩ := prog_ev nums hn texts
  obtain ⟨K3, hR⟩ := ref_ev nums texts
  have j1 : windroselaw11_BlockUnpacks.j0 (K1 + 1) true nums texts = some true := by
    simp only [windroselaw11_BlockUnpacks.j0]
    rw [if_pos trivial, hA K1 (by omega), Option.bind_some]
  by_cases g1 : 400 < nums.length
  · exact ⟨K1 + 1, by unfold windroselaw11_BlockUnpacks.f; rw [if_pos (by omega)]; exact j1⟩
  by_cases g2 : 100 < texts.length
  · exact ⟨K1 + 1, by unfold windroselaw11_BlockUnpacks.f; rw [if_neg (by omega), decide_eq_true (by omega)]; exact j1⟩
  by_cases hd : Dat nums texts
  · obtain ⟨K4, hS⟩ := Same11_ev (un true 0 0 0 0 (nums.drop 1)) hd.2.1.1
    refine ⟨K1 + K2 + K3 + K4 + 1, ?_⟩
    unfold windroselaw11_BlockUnpacks.f
    rw [if_neg (by omega), decide_eq_false (by omega)]
    simp only [windroselaw11_BlockUnpacks.j0]
    rw [if_neg (by simp), hP _ (by omega), Option.bind_some, hR _ (by omega), Option.bind_some, if_pos hd, if_pos hd]
    simp only
    rw [if_pos trivial, if_pos trivial, hS _ (by omega), Option.bind_some, if_pos rfl, hA _ (by omega), Option.bind_some]
  · refine ⟨K1 + K2 + K3 + 1, ?_⟩
    unfold windroselaw11_BlockUnpacks.f
    rw [if_neg (by omega), decide_eq_false (by omega)]
    simp only [windroselaw11_BlockUnpacks.j0]
    rw [if_neg (by simp), hP _ (by omega), Option.bind_some, hR _ (by omega), Option.bind_some, if_neg hd, if_neg hd]
    simp only
    rw [if_neg (by simp), if_pos trivial, if_pos (by simp), hA _ (by omega), Option.bind_some]
end Go.Proofs.Ytlpohipneianjaa.Q
end
section
namespace Go.Proofs.Ytlpohipneianjaa.blockUnpacks
open Go.ChangeShapes Go.WideShapes Go.ChangeAt Go.RowKit Go.Proofs.YtlpohipneianjaaX Go.Proofs.Ytlpohipneianjaa.G
open Go.ChangeMaps (open_string shut_string)
set_option linter.unusedVariables false
set_option linter.unusedSimpArgs false
theorem own : ownKnob Try.prog.godebug = none := by kernel_rfl
theorem laidOut : laidOutB Try.prog = true := by kernel_rfl
set_option maxRecDepth 100000 in
theorem lifted (os : Os) (started : os.Started) (H : Type) (enc : TypeId × Value → H) :
    ReturnsInHanded {} Try.checked os 4 .any (Rows.blockUnpacksSpec.pre6 enc Try.prog Try.f4 Rows.blockUnpacksRow.domain false) (Rows.blockUnpacksSpec.post enc Try.prog Try.f4 false true false false) := by
  refine returnsInHanded_of_change_sized (C := Try.checked) own started (by kernel_rfl) Try.func4
    (ChangeSpec.witness6 (enc := enc) (C := Try.checked) false ⟨#[], #[.agg #[.slice none 0 0, .slice none 0 0]], []⟩ 8 (by kernel_rfl) (by kernel_rfl) (by kernel_rfl) (by kernel_rfl)) ?_
  intro W base args ds gs before hval0 hW hcnd hsz0 _
  have hval : ∀ (j : Nat) t v, Try.f4.params[j]? = some t → args[j]? = some v → Value.okWide Try.prog W .any base t v := hval0
  have hW' := hW
  obtain ⟨p, q, hA0, hV, rfl, hfz, hnd⟩ := hW
  have hA : DataW.TrodAll enc Try.prog W 0 (fun _ => true) true Try.f4.params.toList args.toList ds p := hA0
  rw [Try.params4] at hA hval
  obtain ⟨v0, vs0, d0, ds0, p0, q0, hargs, rfl, rfl, h0, r0⟩ := trodAll_cons hA
  obtain ⟨rfl, rfl, rfl⟩ := trodAll_nil r0
  obtain rfl : args = #[v0] := by cases args; simp_all
  obtain ⟨rfl, rfl⟩ := trodVars_none hV
  have k0 := h0
  have lt0 : ∀ x ∈ p0, x.block < W.heap.size := by obtain ⟨m, hm⟩ := k0; exact DataW.trod_lt m _ _ _ hm
  obtain ⟨cs0, rfl, _⟩ := okWide_struct Try.underlying29 (hval 0 29 v0 rfl rfl)
  obtain ⟨fuel0, hf0⟩ := h0
  obtain ⟨⟨l0_0, l0_1⟩, hK0, w0⟩ := (Rd.struct (fun x => x) (fun x => x) (fun _ => rfl) Try.underlying29 (RdFs.cons (Rd.slice Try.underlying26 (by kernel_rfl) (Rd.int Try.underlying3)) (RdFs.one (Rd.slice Try.underlying27 (by kernel_rfl) (Rd.string Try.underlying9))))) enc W _ _ _ fuel0 _ _ hf0
  dsimp only at hK0 w0
  obtain ⟨_, _, e0, ⟨A0_0, c0_0, rfl, hc0_0, hr0_0⟩, ⟨A0_1, c0_1, rfl, hc0_1, hr0_1⟩⟩ := hK0
  obtain rfl : cs0 = #[.slice A0_0 l0_0.length c0_0, .slice A0_1 l0_1.length c0_1] := Array.ext' (by simpa [Value.cells] using e0)
  clear hA0 hval0 hsz0
  obtain ⟨k, h⟩ := Q.BlockUnpacks l0_0 l0_1 w0
  refine (windroselaw11_BlockUnpacks.calls k A0_0 c0_0 l0_0 A0_1 c0_1 l0_1 true W hr0_0 hc0_0 hr0_1 hc0_1 h).mono fun e W' ⟨he, bel⟩ => ?_
  subst he
  exact ⟨_, rfl, _, _, _, [], _, [], hW', trodAll_mk1 (shut_bool Try.underlying4 _), (trodAll_cons_mk (Below.trod laidOut (by kernel_rfl) (of_decide_eq_true (by kernel_rfl)) k0 bel lt0) trodAll_mk0), rfl, bel.frame _, fun h => by cases h⟩
theorem over : Rows.blockUnpacksRow.holds Try.pinned (OpenSpec.ofChange Rows.blockUnpacksSpec) :=
  OpenClaim.holds_of_wide 4 Try.f4 rfl rfl rfl rfl rfl rfl rfl ⟨rfl, rfl, rfl, rfl, rfl⟩ rfl rfl rfl rfl rfl (by kernel_rfl) Try.func4 (by kernel_rfl)
    (of_decide_eq_true (by kernel_rfl)) (by unfold Func.isWrapper; first | (rw [if_pos (by decide +kernel)]; kernel_rfl) | (rw [if_neg (by decide +kernel)]; exact ⟨rfl, rfl⟩))
    (fun os started H enc _ => lifted os started H enc)
theorem proved : Rows.BlockUnpacksSaid := over
#print axioms proved
end Go.Proofs.Ytlpohipneianjaa.blockUnpacks
namespace Go.Proofs.Ytlpohipneianjaa
theorem blockUnpacks_holds : Rows.BlockUnpacksSaid := blockUnpacks.proved
end Go.Proofs.Ytlpohipneianjaa
end
