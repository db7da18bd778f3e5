/- Ythmjfoikkfoelaa: lines of the words and functions that the row CompactParts rests on, and the row. No condition. -/
import Derived.Test.YthmjfoikkfoelaaZCompactParts7
import Derived.Deep.Slices
import Derived.OpenShut
import Derived.ProofKit
section
set_option linter.unusedVariables false
set_option linter.unusedSimpArgs false
namespace Go.Proofs.YthmjfoikkfoelaaX
open Go Go.RowKit Go.Proofs.YthmjfoikkfoelaaW.PrintWords Go.ChangeShapes Go.WideShapes
def Rd (P : Program) (t : TypeId) {α : Type} (d : Kd α) (ok : α → Prop) : Prop :=
  ∀ {H : Type} (enc : TypeId × Value → H) (W : World) (base : Nat) (spare : Nat → Bool) (held : Bool) (fuel : Nat) (cs : List Value) (x : DataW H × List MemPlace),
    DataW.trod enc P W base spare held fuel t cs = some x → ∃ a, d.K W a cs ∧ ok a
def RdFs (P : Program) (L : List (TypeId × Nat)) (o e : Nat) {α : Type} (d : Kd α) (ok : α → Prop) : Prop :=
  ∀ {H : Type} (enc : TypeId × Value → H) (W : World) (base : Nat) (spare : Nat → Bool) (held : Bool) (fuel : Nat) (cs : List Value), cs.length = e →
    (∀ (i : Nat) (p : TypeId × Nat), L[i]? = some p → ∃ y, DataW.trod enc P W base spare held fuel p.1 ((cs.drop p.2).take (P.cellsOf p.1)) = some y) → ∃ a, d.K W a (cs.drop o) ∧ ok a
section
variable {P : Program} {t e : TypeId}
theorem Rd.int {k : IntKind} (ht : P.underlying t = some (.int k)) : Rd P t (Kd.int k) (fun n => (Lit.int k n).wf = true) := by
  intro H enc W base spare held fuel cs x h
  obtain ⟨n, rfl, _, hn⟩ := DataW.trod_int ht h
  exact ⟨n, rfl, hn⟩
theorem Rd.bool (ht : P.underlying t = some .bool) : Rd P t Kd.bool (fun _ => True) := by
  intro H enc W base spare held fuel cs x h
  obtain ⟨b, rfl, _⟩ := DataW.trod_bool ht h
  exact ⟨b, rfl, trivial⟩
theorem cells_get {w : World} {base : Nat} {a : Addr} {n : Nat} {cs : List Value} (h : w.cells? base a n = some cs) : ∀ i u, cs[i]? = some u → w.cell? (a.add i) = some u := by
  intro i u hi
  obtain ⟨_, hl, hc⟩ := World.cells?_some h
  have hlt : i < cs.length := (List.getElem?_eq_some_iff.1 hi).1
  have := hc i (by omega)
  rw [hi] at this
  exact this
theorem Rd.slice {α : Type} {d : Kd α} {ok : α → Prop} (ht : P.underlying t = some (.slice e)) (he : P.cellsOf e = d.sz) (hd : Rd P e d ok) :
    Rd P t (Kd.slice e d) (fun l => l.length ≤ maxLen ∧ ∀ x ∈ l, ok x) := by
  intro H enc W base spare held fuel cs x h
  rcases Deep.open_slice ht h with ⟨rfl, _⟩ | ⟨a, len, cap, m, n, D, Pl, rfl, hb, hl, hm, hmm, rfl, hx⟩
  · exact ⟨[], ⟨none, 0, rfl, Nat.le_refl _, rfl, by simp, fun h0 => absurd h0 (Nat.lt_irrefl _)⟩, by simp [maxLen], fun x hx => by cases hx⟩
  · have hlm : len ≤ m := by rw [hmm]; split <;> omega
    have hall : ∀ i, i < len → ∃ y : α, (∃ c, W.cells? base (a.add (i * P.cellsOf e)) (P.cellsOf e) = some c ∧ d.K W y c) ∧ ok y := by
      intro i hi
      obtain ⟨c, h1, h2⟩ := hx i (by omega)
      obtain ⟨y, h3, h4⟩ := hd enc W base spare held n c _ h2
      exact ⟨y, ⟨c, h1, h3⟩, h4⟩
    have hlist : ∃ l : List α, l.length = len ∧ ∀ i y, l[i]? = some y → (∃ c, W.cells? base (a.add (i * P.cellsOf e)) (P.cellsOf e) = some c ∧ d.K W y c) ∧ ok y := by
      have key : ∀ k, k ≤ len → ∃ l : List α, l.length = k ∧ ∀ i y, l[i]? = some y → (∃ c, W.cells? base (a.add (i * P.cellsOf e)) (P.cellsOf e) = some c ∧ d.K W y c) ∧ ok y := by
        intro k
        induction k with
        | zero => exact fun _ => ⟨[], rfl, fun i y hy => by simp at hy⟩
        | succ k ih =>
          intro hk
          obtain ⟨l, hl1, hl2⟩ := ih (by omega)
          obtain ⟨y, hy⟩ := hall k (by omega)
          refine ⟨l ++ [y], by simp [hl1], fun i z hz => ?_⟩
          rcases Nat.lt_or_ge i l.length with hi | hi
          · rw [List.getElem?_append_left hi] at hz
            exact hl2 i z hz
          · rw [List.getElem?_append_right hi] at hz
            have h0 : i - l.length = 0 := by
              have := (List.getElem?_eq_some_iff.1 hz).1
              simp at this
              omega
            rw [h0] at hz
            simp at hz
            subst hz
            have : i = k := by omega
            subst this
            exact hy
      exact key len (Nat.le_refl _)
    obtain ⟨l, hl1, hl2⟩ := hlist
    refine ⟨l, ⟨some a, cap, by rw [hl1], by omega, rfl, by rw [hl1]; simp only [maxLen] at hm; omega, fun _ => ⟨a, rfl, fun j p hp => ?_⟩⟩, by omega, fun y hy => ?_⟩
    · obtain ⟨⟨c, h1, h2⟩, _⟩ := hl2 j p hp
      refine ⟨c, d.K_len h2, h2, fun i u hu => ?_⟩
      have := cells_get h1 i u hu
      rw [Deep.add_add, he] at this
      exact this
    · obtain ⟨i, hi, rfl⟩ := List.getElem_of_mem hy
      exact (hl2 i _ (List.getElem?_eq_getElem hi)).2
theorem RdFs.one {t o : Nat} {α : Type} {d : Kd α} {ok : α → Prop} (h : Rd P t d ok) : RdFs P [(t, o)] o (o + P.cellsOf t) d ok := by
  intro H enc W base spare held fuel cs hl hi
  obtain ⟨y, hy⟩ := hi 0 _ rfl
  obtain ⟨a, ha, hk⟩ := h enc W base spare held fuel _ _ hy
  rw [List.take_of_length_le (by simp [hl])] at ha
  exact ⟨a, ha, hk⟩
theorem RdFs.cons {t o e' : Nat} {L : List (TypeId × Nat)} {α β : Type} {d : Kd α} {d' : Kd β} {ok : α → Prop} {ok' : β → Prop} (h : Rd P t d ok) (hs : RdFs P L (o + P.cellsOf t) e' d' ok') :
    RdFs P ((t, o) :: L) o e' (Kd.pair d d') (fun x => ok x.1 ∧ ok' x.2) := by
  intro H enc W base spare held fuel cs hl hi
  obtain ⟨y, hy⟩ := hi 0 _ rfl
  obtain ⟨a, ha, hk⟩ := h enc W base spare held fuel _ _ hy
  obtain ⟨b, hb, hk'⟩ := hs enc W base spare held fuel cs hl (fun i p hp => hi (i + 1) p (by simpa using hp))
  refine ⟨(a, b), ⟨_, _, ?_, ha, hb⟩, hk, hk'⟩
  rw [← List.drop_drop]
  exact (List.take_append_drop _ _).symm
theorem Rd.struct {α β : Type} {d : Kd α} {ok : α → Prop} {fs : Array Field} (f : β → α) (g : α → β) (hg : ∀ a, f (g a) = a) (ht : P.underlying t = some (.struct fs))
    (h : RdFs P (fs.toList.map fun f => (f.type, f.offset)) 0 (P.cellsOf t) d ok) : Rd P t (Kd.iso d f) (fun x => ok (f x)) := by
  intro H enc W base spare held fuel cs x hx
  obtain ⟨xs, n, rfl, _, hl, hn, hi⟩ := DataW.trod_struct ht hx
  obtain ⟨a, ha, hk⟩ := h enc W base spare held n cs hl (fun i p hp => by
    rw [List.getElem?_map] at hp
    obtain ⟨f', hf', rfl⟩ := Option.map_eq_some_iff.1 hp
    have h1 := hi i f' (by simpa using hf')
    have hlt : i < xs.length := by
      have := (List.getElem?_eq_some_iff.1 hf').1
      simp at this
      omega
    rw [List.getElem?_eq_getElem hlt] at h1
    exact ⟨_, h1⟩)
  refine ⟨g a, ?_, by show ok (f (g a)); rw [hg]; exact hk⟩
  show d.K W (f (g a)) cs
  rw [hg]
  simpa using ha
theorem Rd.array {α β : Type} {d : Kd α} {ok : α → Prop} {n : Nat} (f : β → α) (g : α → β) (hg : ∀ a, f (g a) = a) (ht : P.underlying t = some (.array n e))
    (h : RdFs P ((List.range n).map fun i => (e, i * P.cellsOf e)) 0 (P.cellsOf t) d ok) : Rd P t (Kd.iso d f) (fun x => ok (f x)) := by
  intro H enc W base spare held fuel cs x hx
  obtain ⟨xs, m, rfl, _, hl, hn, hi⟩ := DataW.trod_array ht hx
  obtain ⟨a, ha, hk⟩ := h enc W base spare held m cs hl (fun i p hp => by
    rw [List.getElem?_map] at hp
    obtain ⟨j, hj, rfl⟩ := Option.map_eq_some_iff.1 hp
    obtain ⟨hlt, hj⟩ := List.getElem?_eq_some_iff.1 hj
    simp at hj hlt
    subst hj
    have h1 := hi i hlt
    rw [List.getElem?_eq_getElem (by omega)] at h1
    exact ⟨_, h1⟩)
  refine ⟨g a, ?_, by show ok (f (g a)); rw [hg]; exact hk⟩
  show d.K W (f (g a)) cs
  rw [hg]
  simpa using ha
theorem okWide_array {P : Program} {w : World} {r : Reach} {base : Nat} {t : TypeId} {v : Value} {n : Nat} {e : TypeId} (ht : P.underlying t = some (.array n e)) (h : Value.okWide P w r base t v) : ∃ cs, v = .agg cs ∧ cs.size = P.cellsOf t := by
  simp only [Value.okWide, ht] at h
  obtain ⟨cs, h1, h2, _⟩ := h
  exact ⟨cs, h1, h2⟩
end
end Go.Proofs.YthmjfoikkfoelaaX
end
section
namespace Go.Proofs.Ythmjfoikkfoelaa.G
open Go Go.RowKit Go.Proofs.YthmjfoikkfoelaaW.PrintWords Go.Proofs.YthmjfoikkfoelaaX
set_option linter.unusedVariables false
set_option maxRecDepth 100000
def ok41 (x : S41) : Prop := (Lit.int .i64 x.f0).wf = true ∧ (Lit.int .i64 x.f1).wf = true
theorem rd41 : Rd Try.prog 41 k41 ok41 := Rd.struct _ (fun b => ⟨b.1, b.2⟩) (fun _ => rfl) Try.underlying41 (RdFs.cons (Rd.int Try.underlying3) (RdFs.one (Rd.int Try.underlying3)))
end Go.Proofs.Ythmjfoikkfoelaa.G
end
section
set_option linter.unusedVariables false
namespace Go.Proofs.Ythmjfoikkfoelaa.Q
open Go Go.RowKit Go.Proofs.YthmjfoikkfoelaaW.PrintWords
theorem w64 {x : Int} (h : -9223372036854775808 ≤ x) (h' : x ≤ 9223372036854775807) : wrap64 x = x := by unfold wrap64; omega
theorem Ev.succ {α : Type} {g : Nat → Option α} {r : α} (K : Nat) (h : ∀ k, K ≤ k → g (k + 1) = some r) : Ev g r := by
  refine ⟨K + 1, fun k hk => ?_⟩
  obtain ⟨m, rfl⟩ : ∃ m, k = m + 1 := ⟨k - 1, by omega⟩
  exact h m (by omega)
theorem Ev.mk {α : Type} {g : Nat → Option α} {r : α} (K : Nat) (h : ∀ k, K ≤ k → g k = some r) : Ev g r := ⟨K, h⟩
theorem drop_getD {α : Type} (l : List α) (i : Nat) (d : α) (h : i < l.length) : l.drop i = l.getD i d :: l.drop (i + 1) := by
  rw [List.drop_eq_getElem_cons h, List.getD_eq_getElem?_getD, List.getElem?_eq_getElem h]
  rfl
theorem tmod_nn {a b : Int} (h : 0 ≤ a) : Int.tmod a b = a % b := Int.tmod_eq_emod_of_nonneg h
theorem tdiv_nn {a b : Int} (h : 0 ≤ a) : Int.tdiv a b = a / b := Int.tdiv_eq_ediv_of_nonneg h
end Go.Proofs.Ythmjfoikkfoelaa.Q
end
section
set_option linter.unusedVariables false
namespace Go.Proofs.Ythmjfoikkfoelaa.Q
open Go Go.RowKit Go.Proofs.Ythmjfoikkfoelaa.G Go.Proofs.YthmjfoikkfoelaaW.PrintWords Go.Proofs.YthmjfoikkfoelaaW.PrintLast
abbrev Smp := S41
def at_ (l : List Smp) (i : Nat) : Smp := rd_T41 l i
def Fits (l : List Smp) (i : Nat) : Prop := 0 ≤ (at_ l i).f0 ∧ (at_ l i).f0 ≤ 1099511627776 ∧ -1099511627776 ≤ (at_ l i).f1 ∧ (at_ l i).f1 ≤ 1099511627776 ∧ (0 < i → (at_ l (i - 1)).f0 < (at_ l i).f0)
def May (l : List Smp) : Prop := l.length ≤ 64 ∧ ∀ i, i < l.length → Fits l i
noncomputable instance (l : List Smp) : Decidable (May l) := Classical.propDecidable _
theorem may_loop (l : List Smp) (hl : l.length ≤ maxLen) (d : Nat) : ∀ i : Nat, i + d = l.length → (∀ j, j < i → Fits l j) → (∃ K, ∀ k, K ≤ k → windroseref11_May.l0 k l i = some ((decide (May l)))) := by
  unfold maxLen at hl
  induction d with
  | zero =>
    intro i hi hf
    refine Ev.succ 0 fun k _ => ?_
    simp only [windroseref11_May.l0]
    rw [if_neg (by omega)]
    congr 1
    rw [decide_eq_decide]
    exact ⟨fun h => ⟨by omega, fun j hj => hf j (by omega)⟩, fun h => by have := h.1; omega⟩
  | succ d ih =>
    intro i hi hf
    have bad : ¬ Fits l i → decide (May l) = false := fun h => decide_eq_false (fun hm => h (hm.2 i (by omega)))
    by_cases g : Fits l i
    · obtain ⟨K, hK⟩ := ih (i + 1) (by omega) (fun j hj => by
        rcases Nat.lt_or_ge j i with h | h
        · exact hf j h
        · obtain rfl : j = i := by omega
          exact g)
      refine Ev.succ K fun k hk => ?_
      simp only [windroseref11_May.l0]
      obtain ⟨g1, g2, g3, g4, g5⟩ := g
      have hK' := hK k hk
      have e1 : wrap64 ((i : Int) + 1) = ((i + 1 : Nat) : Int) := by rw [w64] <;> omega
      simp only [at_] at g1 g2 g3 g4 g5
      rw [if_pos (by omega), if_pos (by omega), if_neg (by omega), if_neg (by omega), if_neg (by omega), if_neg (by omega), e1]
      by_cases h0 : 0 < i
      · have e2 : wrap64 ((i : Int) - 1) = ((i - 1 : Nat) : Int) := by rw [w64] <;> omega
        have g6 := g5 h0
        rw [if_pos (by omega), e2, if_pos (by omega), if_pos (by omega), if_neg (by omega)]
        exact hK'
      · rw [if_neg (by omega)]
        exact hK'
    · rw [bad g]
      refine Ev.succ 0 fun k _ => ?_
      simp only [windroseref11_May.l0]
      rw [if_pos (by omega), if_pos (by omega)]
      unfold Fits at g
      simp only [at_] at g
      by_cases g1 : (rd_T41 l i).f0 < 0
      · rw [if_pos g1]
      by_cases g2 : (rd_T41 l i).f0 > 1099511627776
      · rw [if_neg g1, if_pos g2]
      by_cases g3 : (rd_T41 l i).f1 < -1099511627776
      · rw [if_neg g1, if_neg g2, if_pos g3]
      by_cases g4 : (rd_T41 l i).f1 > 1099511627776
      · rw [if_neg g1, if_neg g2, if_neg g3, if_pos g4]
      have h0 : 0 < i := by
        rcases Nat.eq_zero_or_pos i with h | h
        · exact absurd ⟨by omega, by omega, by omega, by omega, fun hh => by omega⟩ g
        · exact h
      have e2 : wrap64 ((i : Int) - 1) = ((i - 1 : Nat) : Int) := by rw [w64] <;> omega
      have g5 : (rd_T41 l ((i - 1 : Nat) : Int)).f0 ≥ (rd_T41 l i).f0 := by
        by_cases h : (rd_T41 l ((i - 1 : Nat) : Int)).f0 < (rd_T41 l i).f0
        · exact absurd ⟨by omega, by omega, by omega, by omega, fun _ => h⟩ g
        · omega
      rw [if_neg g1, if_neg g2, if_neg g3, if_neg g4, if_pos (by omega), e2, if_pos (by omega), if_pos (by omega), if_pos g5]
theorem may_ev (l : List Smp) (hl : l.length ≤ maxLen) : (∃ K, ∀ k, K ≤ k → windroseref11_May.f k l = some ((decide (May l)))) :=
  may_loop l hl l.length 0 (by omega) (fun j hj => by omega)
theorem check_loop (l : List Smp) (hl : l.length ≤ 64) (d : Nat) : ∀ i : Nat, i + d = l.length → (∀ j, j < i → Fits l j) → (∃ K, ∀ k, K ≤ k → block_Check.l0 k l l (l.length : Int) i = some ((if May l then 0 else 1))) := by
  induction d with
  | zero =>
    intro i hi hf
    refine Ev.succ 0 fun k _ => ?_
    simp only [block_Check.l0]
    rw [if_neg (by omega), if_pos ⟨hl, fun j hj => hf j (by omega)⟩]
  | succ d ih =>
    intro i hi hf
    have bad : ¬ Fits l i → ¬ May l := fun h hm => h (hm.2 i (by omega))
    by_cases g : Fits l i
    · obtain ⟨K, hK⟩ := ih (i + 1) (by omega) (fun j hj => by
        rcases Nat.lt_or_ge j i with h | h
        · exact hf j h
        · obtain rfl : j = i := by omega
          exact g)
      refine Ev.succ K fun k hk => ?_
      simp only [block_Check.l0]
      obtain ⟨g1, g2, g3, g4, g5⟩ := g
      have hK' := hK k hk
      have e1 : wrap64 ((i : Int) + 1) = ((i + 1 : Nat) : Int) := by rw [w64] <;> omega
      simp only [at_] at g1 g2 g3 g4 g5
      rw [if_pos (by omega), if_pos (by omega), if_pos (by omega), if_neg (by omega), if_neg (by omega), if_neg (by omega), if_neg (by omega), e1]
      by_cases h0 : 0 < i
      · have e2 : wrap64 ((i : Int) - 1) = ((i - 1 : Nat) : Int) := by rw [w64] <;> omega
        have g6 := g5 h0
        rw [if_pos (by omega), e2, if_pos (by omega), if_pos (by omega), if_neg (by omega)]
        exact hK'
      · rw [if_neg (by omega)]
        exact hK'
    · rw [if_neg (bad g)]
      refine Ev.succ 0 fun k _ => ?_
      simp only [block_Check.l0]
      rw [if_pos (by omega), if_pos (by omega), if_pos (by omega)]
      unfold Fits at g
      simp only [at_] at g
      by_cases g1 : (rd_T41 l i).f0 < 0
      · rw [if_pos g1]
      by_cases g2 : (rd_T41 l i).f0 > 1099511627776
      · rw [if_neg g1, if_pos g2]
      by_cases g3 : (rd_T41 l i).f1 < -1099511627776
      · rw [if_neg g1, if_neg g2, if_pos g3]
      by_cases g4 : (rd_T41 l i).f1 > 1099511627776
      · rw [if_neg g1, if_neg g2, if_neg g3, if_pos g4]
      have h0 : 0 < i := by
        rcases Nat.eq_zero_or_pos i with h | h
        · exact absurd ⟨by omega, by omega, by omega, by omega, fun hh => by omega⟩ g
        · exact h
      have e2 : wrap64 ((i : Int) - 1) = ((i - 1 : Nat) : Int) := by rw [w64] <;> omega
      have g5 : (rd_T41 l ((i - 1 : Nat) : Int)).f0 ≥ (rd_T41 l i).f0 := by
        by_cases h : (rd_T41 l ((i - 1 : Nat) : Int)).f0 < (rd_T41 l i).f0
        · exact absurd ⟨by omega, by omega, by omega, by omega, fun _ => h⟩ g
        · omega
      rw [if_neg g1, if_neg g2, if_neg g3, if_neg g4, if_pos (by omega), e2, if_pos (by omega), if_pos (by omega), if_pos (by omega)]
theorem check_ev (l : List Smp) : (∃ K, ∀ k, K ≤ k → block_Check.f k l = some ((if May l then 0 else 1))) := by
  unfold block_Check.f
  by_cases h : (l.length : Int) > 64
  · simp only [if_pos h]
    rw [if_neg (fun hm => by have := hm.1; omega)]
    exact ⟨0, fun _ _ => rfl⟩
  · simp only [if_neg h]
    exact check_loop l (by omega) l.length 0 (by omega) (fun j hj => by omega)
def Bd (s : Smp) : Prop := 0 ≤ s.f0 ∧ s.f0 ≤ 1099511627776 ∧ -1099511627776 ≤ s.f1 ∧ s.f1 ≤ 1099511627776
abbrev Rise (l : List Smp) : Prop := l.Pairwise (fun a b => a.f0 < b.f0)
theorem fits_tail {s : Smp} {l : List Smp} (h : ∀ i, i < (s :: l).length → Fits (s :: l) i) : ∀ i, i < l.length → Fits l i := by
  intro i hi
  have := h (i + 1) (by simp; omega)
  obtain ⟨g1, g2, g3, g4, g5⟩ := this
  have e : ∀ j : Nat, at_ (s :: l) (j + 1) = at_ l j := fun j => by
    simp only [at_, rd_T41]
    have h1 : ((j + 1 : Nat) : Int).toNat = j + 1 := by omega
    have h2 : ((j : Nat) : Int).toNat = j := by omega
    rw [h1, h2]; rfl
  rw [e] at g1 g2 g3 g4
  refine ⟨g1, g2, g3, g4, fun h0 => ?_⟩
  have := g5 (by omega)
  rw [e, show i + 1 - 1 = (i - 1) + 1 by omega, e] at this
  exact this
theorem fits_ok (l : List Smp) : (∀ i, i < l.length → Fits l i) → (∀ s ∈ l, Bd s) ∧ Rise l := by
  induction l with
  | nil => intro _; exact ⟨fun s h => by simp at h, List.Pairwise.nil⟩
  | cons s l ih =>
    intro h
    obtain ⟨h1, h2⟩ := ih (fits_tail h)
    have f0 := h 0 (by simp)
    have b0 : Bd s := ⟨f0.1, f0.2.1, f0.2.2.1, f0.2.2.2.1⟩
    refine ⟨fun x hx => ?_, ?_⟩
    · rcases List.mem_cons.1 hx with rfl | hx
      · exact b0
      · exact h1 x hx
    · refine List.pairwise_cons.2 ⟨fun b hb => ?_, h2⟩
      cases l with
      | nil => simp at hb
      | cons c l =>
        have f1' : s.f0 < c.f0 := (h 1 (by simp)).2.2.2.2 (by omega)
        rcases List.mem_cons.1 hb with rfl | hb
        · exact f1'
        · exact Int.lt_trans f1' ((List.pairwise_cons.1 h2).1 b hb)
end Go.Proofs.Ythmjfoikkfoelaa.Q
end
section
set_option linter.unusedVariables false
namespace Go.Proofs.Ythmjfoikkfoelaa.Q
open Go Go.RowKit Go.Proofs.Ythmjfoikkfoelaa.G Go.Proofs.YthmjfoikkfoelaaW.PrintWords Go.Proofs.YthmjfoikkfoelaaW.PrintLast
abbrev Rol := S43
def both (a b : Rol) : Rol := ⟨a.f0, wrap64 (a.f1 + b.f1), wrap64 (a.f2 + b.f2), mn a.f3 b.f3, mx a.f4 b.f4, b.f5⟩
def push (l : List Rol) (r : Rol) : List Rol :=
  match l.getLast? with
  | none => [r]
  | some x => if x.f0 = r.f0 then l.dropLast ++ [both x r] else l ++ [r]
theorem push_nil (r : Rol) : push [] r = [r] := rfl
theorem push_snoc (l : List Rol) (x r : Rol) : push (l ++ [x]) r = if x.f0 = r.f0 then l ++ [both x r] else l ++ [x] ++ [r] := by
  simp [push]
theorem push_ev (l : List Rol) (r : Rol) (hl : l.length < 2932031007402) : compact_push.f l r.f0 r.f1 r.f2 r.f3 r.f4 r.f5 = some (push l r) := by
  unfold compact_push.f
  rcases List.eq_nil_or_concat l with rfl | ⟨m, x, rfl⟩
  · have e : wrap64 ((([] : List Rol).length : Int) - 1) = -1 := by simp only [List.length_nil]; rw [w64] <;> omega
    rw [e, if_neg (by omega), if_pos (by simp)]
    rfl
  · have hm : (m.concat x).length = m.length + 1 := by simp
    have e : wrap64 (((m.concat x).length : Int) - 1) = (m.length : Int) := by rw [hm, w64] <;> omega
    have er : rd_T43 (m.concat x) (m.length : Int) = x := by simp [rd_T43]
    rw [e, if_pos (by omega), if_pos (by omega), if_pos (by omega), er, List.concat_eq_append, push_snoc]
    by_cases h : x.f0 = r.f0
    · rw [if_pos h, if_pos h]
      simp [compact_both.f, both]
    · rw [if_neg h, if_neg h, if_pos (by simp at hl ⊢; omega)]
def single (w : Int) (s : Smp) : Rol := ⟨wrap64 (s.f0 - Int.tmod s.f0 w), 1, s.f1, s.f1, s.f1, s.f1⟩
def rolls (w : Int) (acc : List Rol) (l : List Smp) : List Rol := l.foldl (fun o s => push o (single w s)) acc
theorem push_length (l : List Rol) (r : Rol) : (push l r).length ≤ l.length + 1 := by
  rcases List.eq_nil_or_concat l with rfl | ⟨m, x, rfl⟩
  · simp [push]
  · rw [List.concat_eq_append, push_snoc]
    split <;> simp
theorem rolls_loop (w : Int) (hw : w ≠ 0) (l : List Smp) (hl : l.length ≤ 64) (d : Nat) : ∀ (i : Nat) (acc : List Rol), i + d = l.length → acc.length ≤ i → (∃ K, ∀ k, K ≤ k → compact_Rolls.l0 k w acc l (l.length : Int) i = some ((rolls w acc (l.drop i), 0))) := by
  induction d with
  | zero =>
    intro i acc hi ha
    refine Ev.succ 0 fun k _ => ?_
    simp only [compact_Rolls.l0]
    rw [if_neg (by omega), List.drop_of_length_le (by omega)]
    rfl
  | succ d ih =>
    intro i acc hi ha
    have hp := push_length acc (single w (rd_T41 l i))
    obtain ⟨K, hK⟩ := ih (i + 1) (push acc (single w (rd_T41 l i))) (by omega) (by omega)
    refine Ev.succ K fun k hk => ?_
    simp only [compact_Rolls.l0]
    have e1 : wrap64 ((i : Int) + 1) = ((i + 1 : Nat) : Int) := by rw [w64] <;> omega
    have e2 : compact_push.f acc (wrap64 ((rd_T41 l i).f0 - Int.tmod (rd_T41 l i).f0 w)) 1 (rd_T41 l i).f1 (rd_T41 l i).f1 (rd_T41 l i).f1 (rd_T41 l i).f1 = some (push acc (single w (rd_T41 l i))) :=
      push_ev acc (single w (rd_T41 l i)) (by omega)
    rw [if_pos (by omega), if_pos (by omega), if_pos (by omega), if_neg hw, e2, Option.bind_some, e1, hK k hk]
    rw [drop_getD l i z41 (by omega)]
    rfl
theorem in_ev (a b c : Int) : compact_in.f a b c = some (decide (b ≤ a ∧ a ≤ c)) := by
  unfold compact_in.f
  by_cases h : a ≥ b
  · rw [if_pos h]
    congr 1
    rw [decide_eq_decide]
    omega
  · rw [if_neg h, decide_eq_false (by omega)]
theorem rolls_ev (l : List Smp) (w : Int) : (∃ K, ∀ k, K ≤ k → compact_Rolls.f k l w = some ((if May l ∧ 1 ≤ w ∧ w ≤ 1048576 then (rolls w [] l, 0) else ([], 1)))) := by
  obtain ⟨K, hK⟩ := check_ev l
  by_cases hm : May l
  · rw [if_pos hm] at hK
    by_cases hw : 1 ≤ w ∧ w ≤ 1048576
    · obtain ⟨K2, hK2⟩ := rolls_loop w (by omega) l hm.1 l.length 0 [] (by omega) (by simp)
      rw [if_pos ⟨hm, hw⟩]
      refine Ev.mk (K + K2 + 1) fun k hk => ?_
      unfold compact_Rolls.f
      obtain ⟨m, rfl⟩ : ∃ m, k = m + 1 := ⟨k - 1, by omega⟩
      rw [hK (m + 1) (by omega)]
      simp only [Option.bind_some, if_true, in_ev, decide_eq_true hw, compact_Rolls.j0, Bool.not_true]
      exact hK2 m (by omega)
    · rw [if_neg (fun h => hw h.2)]
      refine Ev.mk (K + 1) fun k hk => ?_
      unfold compact_Rolls.f
      obtain ⟨m, rfl⟩ : ∃ m, k = m + 1 := ⟨k - 1, by omega⟩
      rw [hK (m + 1) (by omega)]
      simp only [Option.bind_some, if_true, in_ev, decide_eq_false hw, compact_Rolls.j0, Bool.not_false]
  · rw [if_neg hm] at hK
    rw [if_neg (fun h => hm h.1)]
    refine Ev.mk (K + 1) fun k hk => ?_
    unfold compact_Rolls.f
    obtain ⟨m, rfl⟩ : ∃ m, k = m + 1 := ⟨k - 1, by omega⟩
    rw [hK (m + 1) (by omega)]
    simp only [Option.bind_some, compact_Rolls.j0]
    rfl
def rstep (r : Rol) (s : Smp) : Rol := ⟨r.f0, r.f1, wrap64 (r.f2 + s.f1), if s.f1 < r.f3 then s.f1 else r.f3, if s.f1 > r.f4 then s.f1 else r.f4, s.f1⟩
def tup (r : Rol) : Int × Int × Int × Int × Int × Int := (r.f0, r.f1, r.f2, r.f3, r.f4, r.f5)
theorem roll_loop (l : List Smp) (hl : l.length ≤ 64) (d : Nat) : ∀ (i : Nat) (r : Rol), i + d = l.length → (∃ K, ∀ k, K ≤ k → windroseref22_roll.l0 k l i r.f0 r.f1 r.f2 r.f3 r.f4 r.f5 = some ((tup ((l.drop i).foldl rstep r)))) := by
  induction d with
  | zero =>
    intro i r hi
    refine Ev.succ 0 fun k _ => ?_
    simp only [windroseref22_roll.l0]
    rw [if_neg (by omega), List.drop_of_length_le (by omega)]
    rfl
  | succ d ih =>
    intro i r hi
    obtain ⟨K, hK⟩ := ih (i + 1) (rstep r (rd_T41 l i)) (by omega)
    refine Ev.succ K fun k hk => ?_
    simp only [windroseref22_roll.l0]
    have e1 : wrap64 ((i : Int) + 1) = ((i + 1 : Nat) : Int) := by rw [w64] <;> omega
    have hK' := hK k hk
    rw [drop_getD l i z41 (by omega), List.foldl_cons]
    simp only [rstep] at hK'
    rw [if_pos (by omega), if_pos (by omega), e1]
    show _ = some (tup (List.foldl rstep (rstep r (rd_T41 l i)) (l.drop (i + 1))))
    simp only [rstep]
    split <;> split <;> simp_all
def rollOf (t : Int) : List Smp → Rol
  | [] => ⟨t, 0, 0, 0, 0, 0⟩
  | s :: q => (s :: q).foldl rstep ⟨t, ((s :: q).length : Int), 0, s.f1, s.f1, 0⟩
theorem roll_ev (l : List Smp) (t : Int) (hl : l.length ≤ 64) (h0 : l ≠ []) : (∃ K, ∀ k, K ≤ k → windroseref22_roll.f k l t = some ((tup (rollOf t l)))) := by
  cases l with
  | nil => exact absurd rfl h0
  | cons s q =>
    obtain ⟨K, hK⟩ := roll_loop (s :: q) hl (s :: q).length 0 ⟨t, ((s :: q).length : Int), 0, s.f1, s.f1, 0⟩ (by omega)
    refine Ev.mk K fun k hk => ?_
    unfold windroseref22_roll.f
    rw [if_pos (by simp only [List.length_cons]; omega)]
    exact hK k hk
theorem run_both (w t : Int) (out : List Rol) (q : List Smp) : ∀ x : Rol, x.f0 = t → (∀ s ∈ q, (single w s).f0 = t) → rolls w (out ++ [x]) q = out ++ [q.foldl (fun x s => both x (single w s)) x] := by
  induction q with
  | nil => intro x _ _; rfl
  | cons s q ih =>
    intro x hx hq
    have hs := hq s (by simp)
    show rolls w (push (out ++ [x]) (single w s)) q = _
    rw [push_snoc, if_pos (by rw [hx, hs])]
    exact ih _ hx (fun s' h' => hq s' (by simp [h']))
theorem run_rstep (w t : Int) (q : List Smp) : ∀ (c n a b d e : Int), 0 ≤ c → c + q.length = n → n ≤ 64 → q.foldl (fun x s => both x (single w s)) ⟨t, c, a, b, d, e⟩ = q.foldl rstep ⟨t, n, a, b, d, e⟩ := by
  induction q with
  | nil => intro c n a b d e hc h hn; simp at h; subst h; rfl
  | cons s q ih =>
    intro c n a b d e hc h hn
    simp only [List.foldl_cons, List.length_cons] at h ⊢
    have e1 : both ⟨t, c, a, b, d, e⟩ (single w s) = ⟨t, c + 1, wrap64 (a + s.f1), if s.f1 < b then s.f1 else b, if s.f1 > d then s.f1 else d, s.f1⟩ := by
      have h1 : wrap64 (c + 1) = c + 1 := by rw [w64] <;> omega
      have h2 : mn b s.f1 = if s.f1 < b then s.f1 else b := by unfold mn; split <;> rfl
      have h3 : mx d s.f1 = if s.f1 > d then s.f1 else d := by unfold mx; split <;> rfl
      simp only [both, single, h1, h2, h3]
    rw [e1]
    exact ih (c + 1) n (wrap64 (a + s.f1)) (if s.f1 < b then s.f1 else b) (if s.f1 > d then s.f1 else d) s.f1 (by omega) (by omega) hn
theorem run_all (w t : Int) (out : List Rol) (s : Smp) (q : List Smp) (hq : q.length < 64) (hw : -9223372036854775808 ≤ s.f1 ∧ s.f1 ≤ 9223372036854775807) (ht : ∀ s' ∈ s :: q, (single w s').f0 = t) (hl : ∀ x, out.getLast? = some x → x.f0 ≠ t) :
    rolls w out (s :: q) = out ++ [rollOf t (s :: q)] := by
  have hs := ht s (by simp)
  have e : push out (single w s) = out ++ [single w s] := by
    rcases List.eq_nil_or_concat out with rfl | ⟨m, x, rfl⟩
    · rfl
    · rw [List.concat_eq_append, push_snoc, if_neg (by rw [hs]; exact hl x (by simp))]
  show rolls w (push out (single w s)) q = _
  rw [e, run_both w t out q _ hs (fun s' h' => ht s' (by simp [h']))]
  congr 2
  have e2 : single w s = ⟨t, 1, s.f1, s.f1, s.f1, s.f1⟩ := by
    have : (single w s).f0 = t := hs
    simp only [single] at this ⊢
    rw [this]
  rw [e2, run_rstep w t q 1 ((q.length : Int) + 1) _ _ _ _ (by omega) (by omega) (by omega)]
  show _ = List.foldl rstep (rstep ⟨t, _, 0, s.f1, s.f1, 0⟩ s) q
  congr 1
  simp only [rstep]
  rw [Int.zero_add, w64 hw.1 hw.2]
  simp
def Ok (l : List Smp) : Prop := (∀ s ∈ l, Bd s) ∧ l.Pairwise (fun a b => a.f0 < b.f0)
theorem may_ok (l : List Smp) (h : May l) : Ok l := fits_ok l h.2
theorem Ok.of_append {a b : List Smp} (h : Ok (a ++ b)) : Ok b := ⟨fun s hs => h.1 s (by simp [hs]), (List.pairwise_append.1 h.2).2.1⟩
theorem key_in {w t T0 T : Int} (hw : 1 ≤ w) (ht : t = T0 / w * w) (h1 : t ≤ T) (h2 : T < t + w) : T - T % w = t := by
  have e : T % w = T - t := by
    have : T = (T - t) + T0 / w * w := by rw [ht]; omega
    rw [this, Int.add_mul_emod_self_right, Int.emod_eq_of_lt (by omega) (by omega)]
    omega
  omega
theorem key_over {w t T : Int} (hw : 1 ≤ w) (h : t + w ≤ T) : t < T - T % w := by
  have := Int.emod_lt_of_pos T (show 0 < w by omega)
  omega
theorem single_key {w : Int} (hw : 1 ≤ w) {s : Smp} (h : Bd s) : (single w s).f0 = s.f0 - s.f0 % w := by
  obtain ⟨h1, h2, _, _⟩ := h
  have a := Int.emod_nonneg s.f0 (show w ≠ 0 by omega)
  have b := Int.mul_ediv_add_emod s.f0 w
  have c := Int.mul_nonneg (show 0 ≤ w by omega) (Int.ediv_nonneg h1 (show 0 ≤ w by omega))
  simp only [single]
  rw [tmod_nn h1, w64] <;> omega
theorem span_start {w T : Int} (hw : 1 ≤ w) (h0 : 0 ≤ T) (h1 : T ≤ 1099511627776) : wrap64 (wrap64 (Int.tdiv T w) * w) = T / w * w ∧ 0 ≤ T / w * w ∧ T / w * w ≤ T ∧ T < T / w * w + w := by
  have e := Int.mul_ediv_add_emod T w
  rw [Int.mul_comm] at e
  have a := Int.emod_nonneg T (show w ≠ 0 by omega)
  have b := Int.emod_lt_of_pos T (show 0 < w by omega)
  have c : 0 ≤ T / w := Int.ediv_nonneg h0 (by omega)
  have d : T / w ≤ T := Int.ediv_le_self w h0
  have f : 0 ≤ T / w * w := Int.mul_nonneg c (by omega)
  rw [tdiv_nn h0, show wrap64 (T / w) = T / w from w64 (by omega) (by omega), w64 (by omega) (by omega)]
  exact ⟨rfl, f, by omega, by omega⟩
theorem rolls_append (w : Int) (acc : List Rol) (a b : List Smp) : rolls w acc (a ++ b) = rolls w (rolls w acc a) b := List.foldl_append
theorem span_loop (w : Int) (x : List Smp) (acc : List Rol) (t : Int) (n : Nat) (r : List Rol) (hx : x.length ≤ 64) (hn : n ≤ x.length) (ht : 0 ≤ t ∧ t ≤ 1099511627776 ∧ 1 ≤ w ∧ w ≤ 1048576) (hlt : ∀ j : Nat, j < n → (rd_T41 x j).f0 < t + w)
    (h : (∃ K, ∀ k, K ≤ k → windroseref22_Rolls.l1 k x w acc t n = some (r))) (d : Nat) : ∀ i : Nat, i + d = n → (∃ K, ∀ k, K ≤ k → windroseref22_Rolls.l1 k x w acc t i = some (r)) := by
  induction d with
  | zero => intro i hi; obtain rfl : i = n := by omega
            exact h
  | succ d ih =>
    intro i hi
    obtain ⟨K, hK⟩ := ih (i + 1) (by omega)
    refine Ev.succ K fun k hk => ?_
    simp only [windroseref22_Rolls.l1]
    have e1 : wrap64 ((i : Int) + 1) = ((i + 1 : Nat) : Int) := by rw [w64] <;> omega
    have e2 : wrap64 (t + w) = t + w := by rw [w64] <;> omega
    have := hlt i (by omega)
    rw [if_pos (by omega), if_pos (by omega), e2, if_pos (by omega), e1]
    exact hK k hk
theorem ref_rolls (w : Int) (hw : 1 ≤ w ∧ w ≤ 1048576) (n : Nat) : ∀ (x : List Smp) (acc : List Rol), x.length ≤ n → x.length ≤ 64 → acc.length + x.length ≤ 64 → Ok x →
    (∀ r, acc.getLast? = some r → ∀ s ∈ x, r.f0 < (single w s).f0) → (∃ K, ∀ k, K ≤ k → windroseref22_Rolls.l0 k x w acc = some (rolls w acc x)) := by
  induction n with
  | zero =>
    intro x acc h1 _ _ _ _
    obtain rfl : x = [] := List.eq_nil_of_length_eq_zero (by omega)
    refine Ev.succ 0 fun k _ => ?_
    simp only [windroseref22_Rolls.l0]
    rw [if_neg (by simp)]
    rfl
  | succ n ih =>
    intro x acc h1 h64 hacc hok hlast
    cases x with
    | nil =>
      refine Ev.succ 0 fun k _ => ?_
      simp only [windroseref22_Rolls.l0]
      rw [if_neg (by simp)]
      rfl
    | cons s q =>
      have hbs := hok.1 s (by simp)
      obtain ⟨e0, t0, t1, t2⟩ := span_start hw.1 hbs.1 hbs.2.1
      generalize ht : s.f0 / w * w = t at e0 t0 t1 t2
      have hp : ∃ p rest, s :: q = (s :: p) ++ rest ∧ (∀ z ∈ s :: p, z.f0 < t + w) ∧ (∀ z, rest.head? = some z → t + w ≤ z.f0) := by
        refine ⟨q.takeWhile (fun z => decide (z.f0 < t + w)), q.dropWhile (fun z => decide (z.f0 < t + w)), by simp [List.takeWhile_append_dropWhile], fun z hz => ?_, fun z hz => ?_⟩
        · rcases List.mem_cons.1 hz with rfl | hz
          · exact t2
          · have := List.all_eq_true.1 (List.all_takeWhile (p := fun z : Smp => decide (z.f0 < t + w)) (l := q)) z hz
            simpa using this
        · have := List.head?_dropWhile_not (fun z : Smp => decide (z.f0 < t + w)) q
          rw [hz] at this
          simp at this
          omega
      obtain ⟨p, rest, hsq, hpl, hrest⟩ := hp
      rw [hsq] at h1 h64 hacc hok hlast ⊢
      have hpw := List.pairwise_append.1 hok.2
      have hlenp : (s :: p ++ rest).length = (s :: p).length + rest.length := by simp only [List.length_append]
      have hrk : ∀ z ∈ rest, t + w ≤ z.f0 := by
        intro z hz
        cases rest with
        | nil => simp at hz
        | cons y rest =>
          have hy := hrest y rfl
          rcases List.mem_cons.1 hz with rfl | hz
          · exact hy
          · have := (List.pairwise_cons.1 hpw.2.1).1 z hz
            omega
      have hkp : ∀ z ∈ s :: p, (single w z).f0 = t := by
        intro z hz
        rw [single_key hw.1 (hok.1 z (by simp at hz ⊢; rcases hz with h | h <;> simp [h]))]
        refine key_in hw.1 ht.symm ?_ (hpl z hz)
        rcases List.mem_cons.1 hz with rfl | hz
        · exact t1
        · have := (List.pairwise_cons.1 hpw.1).1 z hz
          omega
      have hkr : ∀ z ∈ rest, t < (single w z).f0 := by
        intro z hz
        rw [single_key hw.1 (hok.1 z (by simp [hz]))]
        exact key_over hw.1 (hrk z hz)
      have hall : rolls w acc (s :: p) = acc ++ [rollOf t (s :: p)] := by
        refine run_all w t acc s p (by simp at h64; omega) ⟨by have := hbs.2.2.1; omega, by have := hbs.2.2.2; omega⟩ hkp (fun r hr => ?_)
        have := hlast r hr s (by simp)
        rw [hkp s (by simp)] at this
        omega
      obtain ⟨K1, hK1⟩ := roll_ev (s :: p) t (by omega) (by simp)
      obtain ⟨K2, hK2⟩ := ih rest (acc ++ [rollOf t (s :: p)]) (by simp at h1 ⊢; omega) (by omega) (by simp at hacc ⊢; omega) hok.of_append (by
        intro r hr z hz
        simp at hr
        subst hr
        have e : ∀ (l : List Smp) (r : Rol), (l.foldl rstep r).f0 = r.f0 := by
          intro l
          induction l with
          | nil => intro r; rfl
          | cons a l ih => intro r; rw [List.foldl_cons, ih]; rfl
        have : (rollOf t (s :: p)).f0 = t := by simp only [rollOf]; rw [e]
        rw [this]
        exact hkr z hz)
      have hl1 : (∃ K, ∀ k, K ≤ k → windroseref22_Rolls.l1 k (s :: p ++ rest) w acc t ((s :: p).length : Nat) = some (rolls w (acc ++ [rollOf t (s :: p)]) rest)) := by
        refine Ev.succ (K1 + K2) fun k hk => ?_
        have ht : ((s :: p ++ rest).take (((s :: p).length : Nat) : Int).toNat) = s :: p := by
          rw [Int.toNat_natCast, List.take_left]
        have hd : ((s :: p ++ rest).drop (((s :: p).length : Nat) : Int).toNat) = rest := by
          rw [Int.toNat_natCast, List.drop_left]
        have e2 : wrap64 (t + w) = t + w := by have := hbs.2.1; rw [w64] <;> omega
        simp only [windroseref22_Rolls.l1, ht, hd]
        have hk1 := hK1 k (by omega)
        have hk2 := hK2 k (by omega)
        by_cases hr : ((((s :: p).length : Nat) : Int) < ((s :: p ++ rest).length : Int))
        · rw [if_pos hr, if_pos (by omega)]
          have hz : (rd_T41 (s :: p ++ rest) (((s :: p).length : Nat) : Int)).f0 ≥ t + w := by
            cases rest with
            | nil => simp at hr
            | cons y rest =>
              have : rd_T41 (s :: p ++ y :: rest) (((s :: p).length : Nat) : Int) = y := by
                simp only [rd_T41, Int.toNat_natCast]
                rw [List.getD_eq_getElem?_getD, List.getElem?_append_right (Nat.le_refl _)]
                simp
              rw [this]
              exact hrest y rfl
          rw [e2, if_neg (by omega), if_pos (by omega), hk1]
          simp only [Option.bind_some, tup]
          rw [if_pos (by omega)]
          exact hk2
        · rw [if_neg hr, if_pos (by omega), if_pos (by omega), hk1]
          simp only [Option.bind_some, tup]
          rw [if_pos (by omega)]
          exact hk2
      have hsp := span_loop w (s :: p ++ rest) acc t (s :: p).length _ h64 (by omega) ⟨t0, by have := hbs.2.1; omega, hw⟩ (by
        intro j hj
        have : rd_T41 (s :: p ++ rest) (j : Int) ∈ s :: p := by
          simp only [rd_T41, Int.toNat_natCast]
          rw [List.getD_eq_getElem?_getD, List.getElem?_append_left hj, List.getElem?_eq_getElem hj]
          exact List.getElem_mem hj
        exact hpl _ this) hl1 (s :: p).length 0 (by omega)
      obtain ⟨K3, hK3⟩ := hsp
      rw [rolls_append, hall]
      refine Ev.succ K3 fun k hk => ?_
      simp only [windroseref22_Rolls.l0]
      have hpos : 0 < (s :: p ++ rest).length := by simp
      rw [if_pos (by omega), if_pos (by omega), if_neg (by omega)]
      have e3 : rd_T41 (s :: p ++ rest) 0 = s := rfl
      rw [e3, e0]
      exact hK3 k hk
theorem ref_rolls_ev (w : Int) (hw : 1 ≤ w ∧ w ≤ 1048576) (l : List Smp) (h : May l) : (∃ K, ∀ k, K ≤ k → windroseref22_Rolls.f k l w = some (rolls w [] l)) :=
  ref_rolls w hw l.length l [] (Nat.le_refl _) h.1 (by have := h.1; simp; omega) (may_ok l h) (fun r hr => by simp at hr)
theorem same_rolls_loop (a : List Rol) (hl : a.length ≤ maxLen) (d : Nat) : ∀ i : Nat, i + d = a.length → (∃ K, ∀ k, K ≤ k → windroseref22_SameRolls.l0 k a a i = some (true)) := by
  unfold maxLen at hl
  induction d with
  | zero =>
    intro i hi
    refine Ev.succ 0 fun k _ => ?_
    simp only [windroseref22_SameRolls.l0]
    rw [if_neg (by omega)]
  | succ d ih =>
    intro i hi
    obtain ⟨K, hK⟩ := ih (i + 1) (by omega)
    refine Ev.succ K fun k hk => ?_
    simp only [windroseref22_SameRolls.l0]
    have e1 : wrap64 ((i : Int) + 1) = ((i + 1 : Nat) : Int) := by rw [w64] <;> omega
    rw [if_pos (by omega), if_pos (by omega), if_pos (by omega), if_neg (by simp), e1]
    exact hK k hk
theorem same_rolls_ev (a : List Rol) (hl : a.length ≤ maxLen) : (∃ K, ∀ k, K ≤ k → windroseref22_SameRolls.f k a a = some (true)) := by
  obtain ⟨K, hK⟩ := same_rolls_loop a hl a.length 0 (by omega)
  refine Ev.mk K fun k hk => ?_
  unfold windroseref22_SameRolls.f
  rw [if_pos rfl]
  exact hK k hk
theorem rolls_length (w : Int) (l : List Smp) : ∀ acc, (rolls w acc l).length ≤ acc.length + l.length := by
  induction l with
  | nil => intro acc; simp [rolls]
  | cons s l ih =>
    intro acc
    have := ih (push acc (single w s))
    have h2 := push_length acc (single w s)
    show (rolls w (push acc (single w s)) l).length ≤ _
    simp only [List.length_cons]
    omega
end Go.Proofs.Ythmjfoikkfoelaa.Q
end
section
set_option linter.unusedVariables false
namespace Go.Proofs.Ythmjfoikkfoelaa.Q
open Go Go.RowKit Go.Proofs.Ythmjfoikkfoelaa.G Go.Proofs.YthmjfoikkfoelaaW.PrintWords Go.Proofs.YthmjfoikkfoelaaW.PrintLast
def rat (l : List Rol) (i : Nat) : Rol := rd_T43 l i
def RB (r : Rol) : Prop := 0 ≤ r.f0 ∧ r.f0 ≤ 1099511627776 ∧ 1 ≤ r.f1 ∧ r.f1 ≤ 1099511627776 ∧ -9007199254740992 ≤ r.f2 ∧ r.f2 ≤ 9007199254740992 ∧
  -9007199254740992 ≤ r.f3 ∧ r.f3 ≤ 9007199254740992 ∧ -9007199254740992 ≤ r.f4 ∧ r.f4 ≤ 9007199254740992 ∧ -9007199254740992 ≤ r.f5 ∧ r.f5 ≤ 9007199254740992 ∧ r.f3 ≤ r.f4
def RFits (l : List Rol) (i : Nat) : Prop := RB (rat l i) ∧ (0 < i → (rat l (i - 1)).f0 < (rat l i).f0)
def MayR (l : List Rol) : Prop := ∀ i, i < l.length → RFits l i
noncomputable instance (l : List Rol) : Decidable (MayR l) := Classical.propDecidable _
theorem crolls_step (l : List Rol) (hl : l.length ≤ maxLen) (i : Nat) (hi : i < l.length) (k : Nat) :
    (RFits l i → compact_rolls.l0 (k + 2) l l (l.length : Int) (i : Int) = compact_rolls.l0 k l l (l.length : Int) ((i + 1 : Nat) : Int)) ∧ (¬ RFits l i → compact_rolls.l0 (k + 2) l l (l.length : Int) (i : Int) = some false) := by
  unfold maxLen at hl
  have w1 : Aside0 (wrap64 ((i : Int) + 1) = ((i + 1 : Nat) : Int)) := ⟨by rw [w64] <;> omega⟩
  have w2 : 0 < i → Aside0 (wrap64 ((i : Int) - 1) = ((i - 1 : Nat) : Int)) := fun h => ⟨by rw [w64] <;> omega⟩
  have c1 : (i : Int) < (l.length : Int) := by omega
  have c2 : (0 : Int) ≤ (i : Int) := Int.natCast_nonneg _
  obtain ⟨r, hr⟩ : ∃ r, r = rd_T43 l (i : Int) := ⟨_, rfl⟩
  have hrat : rat l i = r := hr.symm
  unfold RFits RB
  rw [hrat, compact_rolls.l0, if_pos c1, if_pos c2, if_pos c1, ← hr, in_ev, Option.bind_some]
  by_cases b2 : -9007199254740992 ≤ r.f2 ∧ r.f2 ≤ 9007199254740992
  case neg =>
    rw [decide_eq_false b2, if_neg (by decide), compact_rolls.j1, if_neg (by decide)]
    exact ⟨fun h => absurd ⟨h.1.2.2.2.2.1, h.1.2.2.2.2.2.1⟩ b2, fun _ => rfl⟩
  rw [decide_eq_true b2, if_pos rfl, in_ev, Option.bind_some]
  by_cases b3 : -9007199254740992 ≤ r.f3 ∧ r.f3 ≤ 9007199254740992
  case neg =>
    rw [decide_eq_false b3, if_neg (by decide), compact_rolls.j1, if_neg (by decide)]
    exact ⟨fun h => absurd ⟨h.1.2.2.2.2.2.2.1, h.1.2.2.2.2.2.2.2.1⟩ b3, fun _ => rfl⟩
  rw [decide_eq_true b3, if_pos rfl, in_ev, Option.bind_some]
  by_cases b4 : -9007199254740992 ≤ r.f4 ∧ r.f4 ≤ 9007199254740992
  case neg =>
    rw [decide_eq_false b4, if_neg (by decide), compact_rolls.j1, if_neg (by decide)]
    exact ⟨fun h => absurd ⟨h.1.2.2.2.2.2.2.2.2.1, h.1.2.2.2.2.2.2.2.2.2.1⟩ b4, fun _ => rfl⟩
  rw [decide_eq_true b4, if_pos rfl, in_ev, Option.bind_some]
  by_cases b5 : -9007199254740992 ≤ r.f5 ∧ r.f5 ≤ 9007199254740992
  case neg =>
    rw [decide_eq_false b5, compact_rolls.j1, if_neg (by decide)]
    exact ⟨fun h => absurd ⟨h.1.2.2.2.2.2.2.2.2.2.2.1, h.1.2.2.2.2.2.2.2.2.2.2.2.1⟩ b5, fun _ => rfl⟩
  rw [decide_eq_true b5, compact_rolls.j1, if_pos rfl, in_ev, Option.bind_some]
  by_cases b0 : 0 ≤ r.f0 ∧ r.f0 ≤ 1099511627776
  case neg =>
    rw [decide_eq_false b0, if_neg (by decide)]
    exact ⟨fun h => absurd ⟨h.1.1, h.1.2.1⟩ b0, fun _ => rfl⟩
  rw [decide_eq_true b0, if_pos rfl, in_ev, Option.bind_some]
  by_cases b1 : 1 ≤ r.f1 ∧ r.f1 ≤ 1099511627776
  case neg =>
    rw [decide_eq_false b1, if_neg (by decide)]
    exact ⟨fun h => absurd ⟨h.1.2.2.1, h.1.2.2.2.1⟩ b1, fun _ => rfl⟩
  rw [decide_eq_true b1, if_pos rfl]
  by_cases bm : r.f3 > r.f4
  case pos =>
    rw [if_pos bm]
    exact ⟨fun h => absurd h.1.2.2.2.2.2.2.2.2.2.2.2.2 (by omega), fun _ => rfl⟩
  rw [if_neg bm]
  have hRB : 0 ≤ r.f0 ∧ r.f0 ≤ 1099511627776 ∧ 1 ≤ r.f1 ∧ r.f1 ≤ 1099511627776 ∧ -9007199254740992 ≤ r.f2 ∧ r.f2 ≤ 9007199254740992 ∧ -9007199254740992 ≤ r.f3 ∧ r.f3 ≤ 9007199254740992 ∧ -9007199254740992 ≤ r.f4 ∧ r.f4 ≤ 9007199254740992 ∧ -9007199254740992 ≤ r.f5 ∧ r.f5 ≤ 9007199254740992 ∧ r.f3 ≤ r.f4 := ⟨b0.1, b0.2, b1.1, b1.2, b2.1, b2.2, b3.1, b3.2, b4.1, b4.2, b5.1, b5.2, by omega⟩
  by_cases h0 : 0 < i
  · rw [if_pos (by omega), (w2 h0).out, if_pos (Int.natCast_nonneg _), if_pos (by omega)]
    by_cases bp : r.f0 ≤ (rd_T43 l ((i - 1 : Nat) : Int)).f0
    · rw [if_pos bp]
      exact ⟨fun h => absurd (h.2 h0) (by unfold rat; omega), fun _ => rfl⟩
    · rw [if_neg bp, w1.out]
      exact ⟨fun _ => rfl, fun h => absurd ⟨hRB, fun _ => (by unfold rat; omega)⟩ h⟩
  · rw [if_neg (by omega), w1.out]
    exact ⟨fun _ => rfl, fun h => absurd ⟨hRB, fun h1 => absurd h1 h0⟩ h⟩
theorem all_true {l : List Rol} (h : ∀ j, j < l.length → RFits l j) : decide (MayR l) = true := decide_eq_true (fun j hj => h j hj)
theorem all_false {l : List Rol} {i : Nat} (hi : i < l.length) (h : ¬ RFits l i) : decide (MayR l) = false := decide_eq_false (fun hm => h (hm i hi))
theorem crolls_loop (l : List Rol) (hl : l.length ≤ maxLen) (d : Nat) : ∀ i : Nat, i + d = l.length → (∀ j, j < i → RFits l j) → (∃ K, ∀ k, K ≤ k → compact_rolls.l0 k l l (l.length : Int) (i : Int) = some ((decide (MayR l)))) := by
  induction d with
  | zero =>
    intro i hi hf
    refine Ev.succ 0 fun k _ => ?_
    rw [compact_rolls.l0, if_neg (by omega), all_true (fun j hj => hf j (by omega))]
  | succ d ih =>
    intro i hi hf
    have st := crolls_step l hl i (by omega)
    by_cases g : RFits l i
    · obtain ⟨K, hK⟩ := ih (i + 1) (by omega) (fun j hj => by
        rcases Nat.lt_or_ge j i with h | h
        · exact hf j h
        · obtain rfl : j = i := by omega
          exact g)
      refine ⟨K + 2, fun k hk => ?_⟩
      obtain ⟨k, rfl⟩ : ∃ m, k = m + 2 := ⟨k - 2, by omega⟩
      rw [(st k).1 g]
      exact hK k (by omega)
    · refine ⟨2, fun k hk => ?_⟩
      obtain ⟨k, rfl⟩ : ∃ m, k = m + 2 := ⟨k - 2, by omega⟩
      rw [(st k).2 g, all_false (by omega) g]
theorem crolls_ev (l : List Rol) (hl : l.length ≤ maxLen) : (∃ K, ∀ k, K ≤ k → compact_rolls.f k l = some ((decide (MayR l)))) := by
  obtain ⟨K, hK⟩ := crolls_loop l hl l.length 0 (by omega) (fun j hj => by omega)
  exact ⟨K, hK⟩
def pushes (acc l : List Rol) : List Rol := l.foldl push acc
theorem join_loop (l : List Rol) (hl : l.length ≤ 100000) (d : Nat) : ∀ (i : Nat) (acc : List Rol), i + d = l.length → acc.length ≤ 100000 + i → (∃ K, ∀ k, K ≤ k → compact_Join.l0 k acc l (l.length : Int) i = some ((pushes acc (l.drop i), 0))) := by
  induction d with
  | zero =>
    intro i acc hi ha
    refine Ev.succ 0 fun k _ => ?_
    simp only [compact_Join.l0]
    rw [if_neg (by omega), List.drop_of_length_le (by omega)]
    rfl
  | succ d ih =>
    intro i acc hi ha
    have hp := push_length acc (rd_T43 l i)
    obtain ⟨K, hK⟩ := ih (i + 1) (push acc (rd_T43 l i)) (by omega) (by omega)
    refine Ev.succ K fun k hk => ?_
    simp only [compact_Join.l0]
    have e1 : wrap64 ((i : Int) + 1) = ((i + 1 : Nat) : Int) := by rw [w64] <;> omega
    rw [if_pos (by omega), if_pos (by omega), if_pos (by omega), push_ev acc _ (by omega), Option.bind_some, e1, hK k hk, drop_getD l i z43 (by omega)]
    rfl
end Go.Proofs.Ythmjfoikkfoelaa.Q
end
section
set_option linter.unusedVariables false
namespace Go.Proofs.Ythmjfoikkfoelaa.Q
open Go Go.RowKit Go.Proofs.Ythmjfoikkfoelaa.G Go.Proofs.YthmjfoikkfoelaaW.PrintWords Go.Proofs.YthmjfoikkfoelaaW.PrintLast
theorem pushes_append (acc a b : List Rol) : pushes acc (a ++ b) = pushes (pushes acc a) b := List.foldl_append
def lastT (a : List Rol) : Int := (rat a (a.length - 1)).f0
def firstT (b : List Rol) : Int := (rat b 0).f0
def MayJ (a b : List Rol) : Prop := MayR a ∧ MayR b ∧ ¬ (0 < a.length ∧ 0 < b.length ∧ firstT b < lastT a)
noncomputable instance (a b : List Rol) : Decidable (MayJ a b) := Classical.propDecidable _
theorem Join_ev (a b : List Rol) (ha : a.length ≤ 1000) (hb : b.length ≤ 1000) : (∃ K, ∀ k, K ≤ k → compact_Join.f k a b = some ((if MayJ a b then (pushes a b, 0) else ([], 1)))) := by
  obtain ⟨K1, h1⟩ := crolls_ev a (by unfold maxLen; omega)
  obtain ⟨K2, h2⟩ := crolls_ev b (by unfold maxLen; omega)
  have jbad : ∀ k, compact_Join.j0 (k + 1) a b true = some ([], 1) := fun k => by rw [compact_Join.j0, if_pos rfl]
  obtain ⟨K3, h3⟩ := join_loop b (by omega) b.length 0 a (by omega) (by omega)
  have jgood : ∀ k, K3 ≤ k → compact_Join.j0 (k + 1) a b false = some (pushes a b, 0) := fun k hk => by
    rw [compact_Join.j0, if_neg (by decide)]
    unfold api_Roll.f
    rw [if_pos (by omega), Option.bind_some]
    have := h3 k hk
    rw [List.drop_zero] at this
    exact this
  refine ⟨K1 + K2 + K3 + 1, fun k hk => ?_⟩
  obtain ⟨k, rfl⟩ : ∃ m, k = m + 1 := ⟨k - 1, by omega⟩
  unfold compact_Join.f
  rw [h1 _ (by omega), Option.bind_some]
  by_cases ma : MayR a
  case neg => rw [decide_eq_false ma, if_neg (by decide), jbad, if_neg (fun h => ma h.1)]
  rw [decide_eq_true ma, if_pos rfl, h2 _ (by omega), Option.bind_some]
  by_cases mb : MayR b
  case neg => rw [decide_eq_false mb, if_neg (by decide), jbad, if_neg (fun h => mb h.2.1)]
  rw [decide_eq_true mb, if_pos rfl]
  by_cases g1 : 0 < a.length
  · have w1 : Aside0 (wrap64 ((a.length : Int) - 1) = ((a.length - 1 : Nat) : Int)) := ⟨by rw [w64] <;> omega⟩
    by_cases g2 : 0 < b.length
    · rw [if_pos (by omega), if_pos (by omega), if_pos (by omega), w1.out, if_pos (Int.natCast_nonneg _), if_pos (by omega)]
      by_cases g3 : firstT b < lastT a
      · rw [decide_eq_true (show (rd_T43 b 0).f0 < (rd_T43 a ((a.length - 1 : Nat) : Int)).f0 from g3), jbad, if_neg (fun h => h.2.2 ⟨g1, g2, g3⟩)]
      · rw [decide_eq_false (show ¬ (rd_T43 b 0).f0 < (rd_T43 a ((a.length - 1 : Nat) : Int)).f0 from g3), jgood k (by omega), if_pos ⟨ma, mb, fun h => g3 h.2.2⟩]
    · rw [if_pos (by omega), if_neg (by omega), jgood k (by omega), if_pos ⟨ma, mb, fun h => g2 h.2.1⟩]
  · rw [if_neg (by omega), jgood k (by omega), if_pos ⟨ma, mb, fun h => g1 h.1⟩]
def widen (q : Int) (r : Rol) : Rol := ⟨r.f0 / q * q, r.f1, r.f2, r.f3, r.f4, r.f5⟩
def divs (w : Int) (r : Rol) : Bool := r.f0 % w == 0
theorem widen_in {q T : Int} (hq : 1 ≤ q) (h0 : 0 ≤ T) (h1 : T ≤ 1099511627776) : 0 ≤ T / q * q ∧ T / q * q ≤ T ∧ T - T % q = T / q * q := by
  have e := Int.mul_ediv_add_emod T q
  have n1 := Int.emod_nonneg T (show q ≠ 0 by omega)
  have n2 := Int.ediv_nonneg h0 (show 0 ≤ q by omega)
  have n3 := Int.mul_nonneg n2 (show 0 ≤ q by omega)
  rw [Int.mul_comm] at e
  omega
theorem wider_loop (w m : Int) (hw : 1 ≤ w ∧ w ≤ 1048576) (hm : 1 ≤ m ∧ m ≤ 1048576) (hq : 1 ≤ w * m ∧ w * m ≤ 1048576) (l : List Rol) (hM : MayR l) (hl : l.length ≤ 100000) (d : Nat) : ∀ (i : Nat) (acc : List Rol), i + d = l.length → acc.length ≤ i →
    (∃ K, ∀ k, K ≤ k → compact_Wider.l0 k w m acc l (l.length : Int) (i : Int) = some ((if (l.drop i).all (divs w) = true then (pushes acc ((l.drop i).map (widen (w * m))), 0) else ([], 1)))) := by
  have w0 : Aside0 (wrap64 (w * m) = w * m) := ⟨by rw [w64] <;> omega⟩
  induction d with
  | zero =>
    intro i acc hi ha
    refine Ev.succ 0 fun k _ => ?_
    rw [compact_Wider.l0, if_neg (by omega), List.drop_of_length_le (by omega)]
    rfl
  | succ d ih =>
    intro i acc hi ha
    have hil : i < l.length := by omega
    obtain ⟨r, hr⟩ : ∃ r, r = rd_T43 l (i : Int) := ⟨_, rfl⟩
    have hb := (hM i hil).1
    have hrat : rat l i = r := hr.symm
    rw [hrat] at hb
    have hwd := widen_in hq.1 hb.1 hb.2.1
    have hd : l.drop i = r :: l.drop (i + 1) := by rw [drop_getD l i z43 hil, hr]; rfl
    have w1 : Aside0 (wrap64 ((i : Int) + 1) = ((i + 1 : Nat) : Int)) := ⟨by rw [w64] <;> omega⟩
    have w2 : Aside0 (wrap64 (r.f0 - Int.tmod r.f0 (w * m)) = r.f0 / (w * m) * (w * m)) := ⟨by
      rw [tmod_nn hb.1, hwd.2.2]
      have := hwd.1
      have := hwd.2.1
      have := hb.2.1
      rw [w64] <;> omega⟩
    have hp := push_length acc (widen (w * m) r)
    obtain ⟨K, hK⟩ := ih (i + 1) (push acc (widen (w * m) r)) (by omega) (by omega)
    have c1 : (i : Int) < (l.length : Int) := by omega
    have hpe := push_ev acc (widen (w * m) r) (by omega)
    refine Ev.succ K fun k hk => ?_
    rw [compact_Wider.l0, if_pos c1, if_pos (Int.natCast_nonneg _), if_pos c1, if_neg (show ¬ w = 0 by omega), ← hr, tmod_nn hb.1, hd, List.all_cons]
    by_cases g : r.f0 % w = 0
    · rw [if_pos g, show divs w r = true by simp [divs, g], Bool.true_and, w0.out, if_neg (show ¬ w * m = 0 by omega), w2.out]
      have hpe' : compact_push.f acc (r.f0 / (w * m) * (w * m)) r.f1 r.f2 r.f3 r.f4 r.f5 = some (push acc (widen (w * m) r)) := hpe
      rw [hpe', Option.bind_some, w1.out, hK k hk]
      rfl
    · rw [if_neg g, show divs w r = false by simp [divs, g], Bool.false_and, if_neg (by decide)]
def MayW (l : List Rol) (w m : Int) : Prop := MayR l ∧ (1 ≤ w ∧ w ≤ 1048576) ∧ (1 ≤ m ∧ m ≤ 1048576) ∧ w * m ≤ 1048576
noncomputable instance (l : List Rol) (w m : Int) : Decidable (MayW l w m) := Classical.propDecidable _
noncomputable def widerR (l : List Rol) (w m : Int) : List Rol × Int := if MayW l w m then (if l.all (divs w) = true then (pushes [] (l.map (widen (w * m))), 0) else ([], 1)) else ([], 1)
theorem mul_in {w m : Int} (hw : 1 ≤ w ∧ w ≤ 1048576) (hm : 1 ≤ m ∧ m ≤ 1048576) : 1 ≤ w * m ∧ w * m ≤ 1099511627776 := by
  have h1 : 1 * 1 ≤ w * m := Int.mul_le_mul hw.1 hm.1 (by decide) (by omega)
  have h2 : w * m ≤ 1048576 * 1048576 := Int.mul_le_mul hw.2 hm.2 (by omega) (by decide)
  omega
theorem Wider_ev (l : List Rol) (hl : l.length ≤ 100000) (w m : Int) : (∃ K, ∀ k, K ≤ k → compact_Wider.f k l w m = some (widerR l w m)) := by
  obtain ⟨K1, h1⟩ := crolls_ev l (by unfold maxLen; omega)
  have jbad : ∀ k, compact_Wider.j0 (k + 1) l w m true = some ([], 1) := fun k => by rw [compact_Wider.j0, if_pos rfl]
  unfold widerR
  by_cases ml : MayR l
  case neg =>
    rw [if_neg (fun h => ml h.1)]
    refine ⟨K1 + 1, fun k hk => ?_⟩
    obtain ⟨k, rfl⟩ : ∃ m, k = m + 1 := ⟨k - 1, by omega⟩
    unfold compact_Wider.f
    rw [h1 _ (by omega), Option.bind_some, decide_eq_false ml, if_neg (by decide), jbad]
  by_cases hw : 1 ≤ w ∧ w ≤ 1048576
  case neg =>
    rw [if_neg (fun h => hw h.2.1)]
    refine ⟨K1 + 1, fun k hk => ?_⟩
    obtain ⟨k, rfl⟩ : ∃ m, k = m + 1 := ⟨k - 1, by omega⟩
    unfold compact_Wider.f
    rw [h1 _ (by omega), Option.bind_some, decide_eq_true ml, if_pos rfl, in_ev, Option.bind_some, decide_eq_false hw, if_neg (by decide), jbad]
  by_cases hm : 1 ≤ m ∧ m ≤ 1048576
  case neg =>
    rw [if_neg (fun h => hm h.2.2.1)]
    refine ⟨K1 + 1, fun k hk => ?_⟩
    obtain ⟨k, rfl⟩ : ∃ m, k = m + 1 := ⟨k - 1, by omega⟩
    unfold compact_Wider.f
    rw [h1 _ (by omega), Option.bind_some, decide_eq_true ml, if_pos rfl, in_ev, Option.bind_some, decide_eq_true hw, if_pos rfl, in_ev, Option.bind_some, decide_eq_false hm, if_neg (by decide), jbad]
  have hp := mul_in hw hm
  have w0 : Aside0 (wrap64 (w * m) = w * m) := ⟨by rw [w64] <;> omega⟩
  by_cases hq : w * m ≤ 1048576
  case neg =>
    rw [if_neg (fun h => hq h.2.2.2)]
    refine ⟨K1 + 1, fun k hk => ?_⟩
    obtain ⟨k, rfl⟩ : ∃ m, k = m + 1 := ⟨k - 1, by omega⟩
    unfold compact_Wider.f
    rw [h1 _ (by omega), Option.bind_some, decide_eq_true ml, if_pos rfl, in_ev, Option.bind_some, decide_eq_true hw, if_pos rfl, in_ev, Option.bind_some, decide_eq_true hm, if_pos rfl, w0.out, decide_eq_true (show w * m > 1048576 by omega), jbad]
  rw [if_pos ⟨ml, hw, hm, hq⟩]
  obtain ⟨K2, h2⟩ := wider_loop w m hw hm ⟨hp.1, hq⟩ l ml hl l.length 0 [] (by omega) (by simp)
  rw [List.drop_zero] at h2
  refine ⟨K1 + K2 + 1, fun k hk => ?_⟩
  obtain ⟨k, rfl⟩ : ∃ m, k = m + 1 := ⟨k - 1, by omega⟩
  unfold compact_Wider.f
  rw [h1 _ (by omega), Option.bind_some, decide_eq_true ml, if_pos rfl, in_ev, Option.bind_some, decide_eq_true hw, if_pos rfl, in_ev, Option.bind_some, decide_eq_true hm, if_pos rfl, w0.out, decide_eq_false (show ¬ w * m > 1048576 by omega), compact_Wider.j0, if_neg (by decide)]
  exact h2 k (by omega)
end Go.Proofs.Ythmjfoikkfoelaa.Q
end
section
set_option linter.unusedVariables false
namespace Go.Proofs.Ythmjfoikkfoelaa.Q
open Go Go.RowKit Go.Proofs.Ythmjfoikkfoelaa.G Go.Proofs.YthmjfoikkfoelaaW.PrintWords Go.Proofs.YthmjfoikkfoelaaW.PrintLast
theorem wrap_l (a b c : Int) : wrap64 (wrap64 (a + b) + c) = wrap64 (a + wrap64 (b + c)) := by unfold wrap64; omega
theorem mn_assoc (a b c : Int) : mn (mn a b) c = mn a (mn b c) := by
  unfold mn
  repeat' split
  all_goals omega
theorem mx_assoc (a b c : Int) : mx (mx a b) c = mx a (mx b c) := by
  unfold mx
  repeat' split
  all_goals omega
theorem both_assoc (x y r : Rol) : both (both x y) r = both x (both y r) := by
  simp only [both, wrap_l, mn_assoc, mx_assoc]
theorem pushes_snoc (acc l : List Rol) (r : Rol) : pushes acc (l ++ [r]) = push (pushes acc l) r := by simp [pushes, List.foldl_append]
theorem pushes_push (acc l : List Rol) (r : Rol) : pushes acc (push l r) = push (pushes acc l) r := by
  rcases List.eq_nil_or_concat l with rfl | ⟨m, x, rfl⟩
  · rfl
  · rw [List.concat_eq_append, push_snoc]
    by_cases h : x.f0 = r.f0
    · rw [if_pos h, pushes_snoc, pushes_snoc]
      generalize pushes acc m = M
      rcases List.eq_nil_or_concat M with rfl | ⟨M', y, rfl⟩
      · rw [push_nil, push_nil, show [x] = ([] : List Rol) ++ [x] from rfl, push_snoc, if_pos h]; rfl
      · rw [List.concat_eq_append, push_snoc, push_snoc]
        by_cases g : y.f0 = x.f0
        · rw [if_pos (show y.f0 = (both x r).f0 from g), if_pos g, push_snoc, if_pos (show (both y x).f0 = r.f0 from g.trans h), both_assoc]
        · rw [if_neg (show ¬ y.f0 = (both x r).f0 from g), if_neg g, push_snoc, if_pos h]
    · rw [if_neg h, pushes_snoc]
theorem pushes_pushes (acc b : List Rol) : ∀ l, pushes acc (pushes l b) = pushes (pushes acc l) b := by
  induction b with
  | nil => intro l; rfl
  | cons r b ih =>
    intro l
    show pushes acc (pushes (push l r) b) = pushes (push (pushes acc l) r) b
    rw [ih, pushes_push]
theorem rolls_pushes (w : Int) (acc : List Rol) (l : List Smp) : rolls w acc l = pushes acc (l.map (single w)) := by
  unfold rolls pushes
  rw [List.foldl_map]
theorem rolls_parts (w : Int) (a b : List Smp) : pushes (rolls w [] a) (rolls w [] b) = rolls w [] (a ++ b) := by
  simp only [rolls_pushes, pushes_pushes, List.map_append, pushes_append]
  rfl
theorem widen_both (q : Int) (x r : Rol) : widen q (both x r) = both (widen q x) (widen q r) := rfl
theorem pushes_widen (q : Int) (acc l : List Rol) (r : Rol) : pushes acc ((push l r).map (widen q)) = push (pushes acc (l.map (widen q))) (widen q r) := by
  rcases List.eq_nil_or_concat l with rfl | ⟨m, x, rfl⟩
  · rfl
  · rw [List.concat_eq_append, push_snoc]
    by_cases h : x.f0 = r.f0
    · rw [if_pos h, ← pushes_push]
      congr 1
      simp only [List.map_append, List.map_cons, List.map_nil]
      rw [push_snoc, if_pos (show (widen q x).f0 = (widen q r).f0 by simp only [widen]; rw [h]), widen_both]
    · rw [if_neg h, List.map_append, List.map_cons, List.map_nil, pushes_snoc]
theorem pushes_widens (q : Int) (acc b : List Rol) : ∀ l, pushes acc ((pushes l b).map (widen q)) = pushes (pushes acc (l.map (widen q))) (b.map (widen q)) := by
  induction b with
  | nil => intro l; rfl
  | cons r b ih =>
    intro l
    show pushes acc ((pushes (push l r) b).map (widen q)) = pushes (push (pushes acc (l.map (widen q))) (widen q r)) (b.map (widen q))
    rw [ih, pushes_widen]
theorem key_div {w : Int} (hw : 1 ≤ w) {s : Smp} (h : Bd s) : (single w s).f0 = s.f0 / w * w := by
  rw [single_key hw h]
  have := Int.mul_ediv_add_emod s.f0 w
  rw [Int.mul_comm] at this
  omega
theorem widen_single {w m : Int} (hw : 1 ≤ w) (hm : 1 ≤ m) (hq : 1 ≤ w * m) {s : Smp} (h : Bd s) : widen (w * m) (single w s) = single (w * m) s := by
  have e : (widen (w * m) (single w s)).f0 = (single (w * m) s).f0 := by
    rw [key_div hq h]
    show (single w s).f0 / (w * m) * (w * m) = _
    rw [key_div hw h, ← Int.ediv_ediv_of_nonneg (by omega), Int.mul_ediv_cancel _ (by omega), Int.ediv_ediv_of_nonneg (by omega)]
  unfold widen single at e ⊢
  simp only at e ⊢
  rw [e]
theorem rolls_wider {w m : Int} (hw : 1 ≤ w) (hm : 1 ≤ m) (hq : 1 ≤ w * m) (l : List Smp) (h : ∀ s ∈ l, Bd s) : pushes [] ((rolls w [] l).map (widen (w * m))) = rolls (w * m) [] l := by
  rw [rolls_pushes, pushes_widens, rolls_pushes]
  show pushes [] ((l.map (single w)).map (widen (w * m))) = _
  rw [List.map_map]
  congr 1
  exact List.map_congr_left fun s hs => widen_single hw hm hq (h s hs)
theorem key_mono {w : Int} (hw : 1 ≤ w) {s t : Smp} (hs : Bd s) (ht : Bd t) (h : s.f0 ≤ t.f0) : (single w s).f0 ≤ (single w t).f0 := by
  rw [key_div hw hs, key_div hw ht]
  exact Int.mul_le_mul_of_nonneg_right (Int.ediv_le_ediv (by omega) h) (by omega)
theorem keys (w : Int) (l : List Smp) : ∀ acc : List Rol, ∀ r ∈ rolls w acc l, (∃ x ∈ acc, r.f0 = x.f0) ∨ ∃ s ∈ l, r.f0 = (single w s).f0 := by
  induction l with
  | nil => intro acc r hr; exact Or.inl ⟨r, hr, rfl⟩
  | cons s l ih =>
    intro acc r hr
    rcases ih (push acc (single w s)) r hr with ⟨x, hx, e⟩ | ⟨s', hs', e⟩
    · rcases List.eq_nil_or_concat acc with rfl | ⟨m, y, rfl⟩
      · rw [push_nil] at hx
        simp only [List.mem_singleton] at hx
        exact Or.inr ⟨s, by simp, by rw [e, hx]⟩
      · rw [List.concat_eq_append, push_snoc] at hx
        split at hx
        · rcases List.mem_append.1 hx with h | h
          · exact Or.inl ⟨x, by simp [h], e⟩
          · simp only [List.mem_singleton] at h
            exact Or.inl ⟨y, by simp, by rw [e, h]; rfl⟩
        · rcases List.mem_append.1 hx with h | h
          · exact Or.inl ⟨x, by simpa using h, e⟩
          · simp only [List.mem_singleton] at h
            exact Or.inr ⟨s, by simp, by rw [e, h]⟩
    · exact Or.inr ⟨s', by simp [hs'], e⟩
def G1 (n : Int) (r : Rol) : Prop := 1 ≤ r.f1 ∧ r.f1 ≤ n ∧ -(n * 1099511627776) ≤ r.f2 ∧ r.f2 ≤ n * 1099511627776 ∧
  -1099511627776 ≤ r.f3 ∧ r.f3 ≤ 1099511627776 ∧ -1099511627776 ≤ r.f4 ∧ r.f4 ≤ 1099511627776 ∧ -1099511627776 ≤ r.f5 ∧ r.f5 ≤ 1099511627776 ∧ r.f3 ≤ r.f4
theorem G1.mono {n m : Int} (h : n ≤ m) {r : Rol} (g : G1 n r) : G1 m r := by
  unfold G1 at g ⊢
  omega
theorem G1.both {n : Int} (hn : 0 ≤ n ∧ n ≤ 64) {r : Rol} (g : G1 n r) (w : Int) {s : Smp} (h : Bd s) : G1 (n + 1) (both r (single w s)) := by
  obtain ⟨g1, g2, g3, g4, g5, g6, g7, g8, g9, g10, g11⟩ := g
  obtain ⟨_, _, h3, h4⟩ := h
  unfold G1
  simp only [Q.both, single]
  rw [w64 (by omega) (by omega), w64 (by omega) (by omega)]
  unfold mn mx
  split <;> split <;> omega
def Good (n : Int) (l : List Rol) : Prop := (∀ r ∈ l, G1 n r) ∧ l.Pairwise (fun a b => a.f0 < b.f0)
theorem Good.push {n : Int} (hn : 0 ≤ n ∧ n ≤ 64) {l : List Rol} (g : Good n l) {w : Int} {s : Smp} (h : Bd s) (hk : ∀ r ∈ l, r.f0 ≤ (single w s).f0) : Good (n + 1) (push l (single w s)) := by
  have hs : G1 (n + 1) (single w s) := by
    obtain ⟨_, _, h3, h4⟩ := h
    unfold G1
    simp only [single]
    omega
  rcases List.eq_nil_or_concat l with rfl | ⟨m, y, rfl⟩
  · exact ⟨by simp only [push_nil, List.mem_singleton]; intro r hr; rw [hr]; exact hs, by simp [push_nil]⟩
  · rw [List.concat_eq_append] at g hk ⊢
    obtain ⟨g1, g2⟩ := g
    obtain ⟨p1, p2, p3⟩ := List.pairwise_append.1 g2
    rw [push_snoc]
    split
    · rename_i e
      refine ⟨fun r hr => ?_, List.pairwise_append.2 ⟨p1, by simp, fun a ha b hb => ?_⟩⟩
      · rcases List.mem_append.1 hr with h' | h'
        · exact (g1 r (by simp [h'])).mono (by omega)
        · simp only [List.mem_singleton] at h'
          rw [h']
          exact (g1 y (by simp)).both hn w h
      · simp only [List.mem_singleton] at hb
        rw [hb]
        exact p3 a ha y (by simp)
    · rename_i e
      have hy := hk y (by simp)
      refine ⟨fun r hr => ?_, List.pairwise_append.2 ⟨g2, by simp, fun a ha b hb => ?_⟩⟩
      · rcases List.mem_append.1 hr with h' | h'
        · exact (g1 r h').mono (by omega)
        · simp only [List.mem_singleton] at h'
          rw [h']; exact hs
      · simp only [List.mem_singleton] at hb
        rw [hb]
        rcases List.mem_append.1 ha with h' | h'
        · have := p3 a h' y (by simp)
          omega
        · simp only [List.mem_singleton] at h'
          rw [h']; omega
theorem push_mem {l : List Rol} {r x : Rol} (h : x ∈ push l r) : (∃ y ∈ l, x.f0 = y.f0) ∨ x.f0 = r.f0 := by
  rcases List.eq_nil_or_concat l with rfl | ⟨m, y, rfl⟩
  · rw [push_nil] at h
    simp only [List.mem_singleton] at h
    exact Or.inr (by rw [h])
  · rw [List.concat_eq_append, push_snoc] at h
    split at h
    · rcases List.mem_append.1 h with h | h
      · exact Or.inl ⟨x, by simp [h], rfl⟩
      · simp only [List.mem_singleton] at h
        exact Or.inl ⟨y, by simp, by rw [h]; rfl⟩
    · rcases List.mem_append.1 h with h | h
      · exact Or.inl ⟨x, by simpa using h, rfl⟩
      · simp only [List.mem_singleton] at h
        exact Or.inr (by rw [h])
theorem rolls_good {w : Int} (hw : 1 ≤ w) (l : List Smp) : ∀ (n : Int) (acc : List Rol), Ok l → Good n acc → 0 ≤ n → n + l.length ≤ 64 → (∀ r ∈ acc, ∀ s ∈ l, r.f0 ≤ (single w s).f0) → Good (n + l.length) (rolls w acc l) := by
  induction l with
  | nil => intro n acc _ g _ _ _; simpa [rolls] using g
  | cons s l ih =>
    intro n acc hok g hn hle hk
    simp only [List.length_cons] at hle ⊢
    have hb := hok.1 s (by simp)
    have g' := g.push (w := w) ⟨hn, by omega⟩ hb (fun r hr => hk r hr s (by simp))
    have hok' : Ok l := ⟨fun x hx => hok.1 x (by simp [hx]), (List.pairwise_cons.1 hok.2).2⟩
    have := ih (n + 1) (push acc (single w s)) hok' g' (by omega) (by omega) (fun r hr t ht => by
      have hst : (single w s).f0 ≤ (single w t).f0 := key_mono hw hb (hok'.1 t ht) (by have := (List.pairwise_cons.1 hok.2).1 t ht; omega)
      rcases push_mem hr with ⟨y, hy, e⟩ | e
      · have := hk y hy s (by simp)
        omega
      · omega)
    rw [show n + ((l.length + 1 : Nat) : Int) = n + 1 + (l.length : Int) by omega]
    exact this
theorem rat_get (l : List Rol) (i : Nat) (h : i < l.length) : rat l i = l[i] := by
  simp [rat, rd_T43, List.getElem?_eq_getElem h]
theorem key_bound {w : Int} (hw : 1 ≤ w) {s : Smp} (h : Bd s) : 0 ≤ (single w s).f0 ∧ (single w s).f0 ≤ 1099511627776 := by
  have := widen_in hw h.1 h.2.1
  have := h.2.1
  rw [key_div hw h]
  omega
theorem rolls_may {w : Int} (hw : 1 ≤ w) (l : List Smp) (hok : Ok l) (h64 : l.length ≤ 64) : MayR (rolls w [] l) := by
  have g := rolls_good hw l 0 [] hok ⟨by simp, by simp⟩ (by omega) (by omega) (by simp)
  have g0 : Good 64 (rolls w [] l) := ⟨fun r hr => (g.1 r hr).mono (by omega), g.2⟩
  intro i hi
  refine ⟨?_, fun h0 => ?_⟩
  · rw [rat_get _ i hi]
    have hm := List.getElem_mem hi
    have a := g0.1 _ hm
    have b : 0 ≤ ((rolls w [] l)[i]).f0 ∧ ((rolls w [] l)[i]).f0 ≤ 1099511627776 := by
      rcases keys w l [] _ hm with ⟨x, hx, _⟩ | ⟨s, hs, e⟩
      · simp at hx
      · rw [e]; exact key_bound hw (hok.1 s hs)
    unfold G1 at a
    unfold RB
    omega
  · rw [rat_get _ i hi, rat_get _ (i - 1) (by omega)]
    exact List.pairwise_iff_getElem.1 g0.2 (i - 1) i (by omega) hi (by omega)
theorem rolls_divs {w : Int} (hw : 1 ≤ w) (l : List Smp) (hb : ∀ s ∈ l, Bd s) : (rolls w [] l).all (divs w) = true := by
  rw [List.all_eq_true]
  intro r hr
  rcases keys w l [] r hr with ⟨x, hx, _⟩ | ⟨s, hs, e⟩
  · simp at hx
  · simp only [divs, e, key_div hw (hb s hs), Int.mul_emod_left]
    rfl
theorem rolls_mayj {w : Int} (hw : 1 ≤ w) (a b : List Smp) (hok : Ok (a ++ b)) (h64 : (a ++ b).length ≤ 64) : MayJ (rolls w [] a) (rolls w [] b) := by
  have oa : Ok a := ⟨fun s hs => hok.1 s (by simp [hs]), (List.pairwise_append.1 hok.2).1⟩
  have ob : Ok b := hok.of_append
  simp only [List.length_append] at h64
  refine ⟨rolls_may hw a oa (by omega), rolls_may hw b ob (by omega), fun ⟨h1, h2, h3⟩ => ?_⟩
  unfold firstT lastT at h3
  rw [rat_get _ _ h2, rat_get _ _ (by omega)] at h3
  rcases keys w a [] _ (List.getElem_mem (show (rolls w [] a).length - 1 < (rolls w [] a).length by omega)) with ⟨x, hx, _⟩ | ⟨s, hs, e⟩
  · simp at hx
  rcases keys w b [] _ (List.getElem_mem h2) with ⟨x, hx, _⟩ | ⟨t, ht, e'⟩
  · simp at hx
  rw [e, e'] at h3
  have := (List.pairwise_append.1 hok.2).2.2 s hs t ht
  have := key_mono hw (oa.1 s hs) (ob.1 t ht) (by omega)
  omega
end Go.Proofs.Ythmjfoikkfoelaa.Q
end
section
namespace Go.Proofs.Ythmjfoikkfoelaa.Q
open Go Go.RowKit Go.Proofs.Ythmjfoikkfoelaa.G Go.Proofs.YthmjfoikkfoelaaW.PrintWords Go.Proofs.YthmjfoikkfoelaaW.PrintLast
theorem awake_ev : (∃ K, ∀ k, K ≤ k → windroselaw22_awake.f k = some (true)) := by
  have h : windroselaw22_awake.f 12 = some true := by decide +kernel
  exact Ev.of windroselaw22_awake.mono h
end Go.Proofs.Ythmjfoikkfoelaa.Q
end
section
namespace Go.Proofs.Ythmjfoikkfoelaa.Q
open Go Go.RowKit Go.Proofs.Ythmjfoikkfoelaa.G Go.Proofs.YthmjfoikkfoelaaW.PrintWords Go.Proofs.YthmjfoikkfoelaaW.PrintLast
theorem may_take (l : List Smp) (h : May l) (n : Nat) : May (l.take n) := by
  refine ⟨by have := h.1; simp only [List.length_take]; omega, fun i hi => ?_⟩
  simp only [List.length_take] at hi
  have f := h.2 i (by omega)
  have e : ∀ j, j < n → at_ (l.take n) j = at_ l j := fun j hj => by
    simp [at_, rd_T41, hj]
  unfold Fits at f ⊢
  rw [e i (by omega)]
  refine ⟨f.1, f.2.1, f.2.2.1, f.2.2.2.1, fun h0 => ?_⟩
  rw [e (i - 1) (by omega)]
  exact f.2.2.2.2 h0
theorem may_drop (l : List Smp) (h : May l) (n : Nat) : May (l.drop n) := by
  refine ⟨by have := h.1; simp only [List.length_drop]; omega, fun i hi => ?_⟩
  simp only [List.length_drop] at hi
  have f := h.2 (n + i) (by omega)
  have e : ∀ j, at_ (l.drop n) j = at_ l (n + j) := fun j => by
    unfold at_ rd_T41
    have e1 : ((j : Int)).toNat = j := by omega
    have e2 : (((n + j : Nat) : Int)).toNat = n + j := by omega
    simp only [e1, e2, List.getD_eq_getElem?_getD, List.getElem?_drop]
  unfold Fits at f ⊢
  rw [e i]
  refine ⟨f.1, f.2.1, f.2.2.1, f.2.2.2.1, fun h0 => ?_⟩
  rw [e (i - 1), show n + (i - 1) = n + i - 1 by omega]
  exact f.2.2.2.2 (by omega)
theorem wf_u8 {x : Int} (h : (Lit.int .u8 x).wf = true) : 0 ≤ x ∧ x ≤ 255 := by
  simp [Lit.wf] at h
  exact h
theorem CompactParts : ∀ (l0 : List (S41)) (a1 : Int) (a2_0 : Int) (a2_1 : Int), (l0.length ≤ maxLen ∧ ∀ y2 ∈ l0, ok41 y2) → (Lit.int .u8 a1).wf = true → (Lit.int .u8 a2_0).wf = true ∧ (Lit.int .u8 a2_1).wf = true → ∃ k, windroselaw22_CompactParts.f k l0 a1 a2_0 a2_1 = some true := by
  intro l p x y hl hp hxy
  obtain ⟨K0, h0⟩ := awake_ev
  have stop : windroselaw22_CompactParts.j0 (K0 + 1) l p true x y = some true := by
    simp only [windroselaw22_CompactParts.j0]
    rw [if_pos trivial, h0 _ (by omega)]; rfl
  by_cases hA : (l.length : Int) > 64
  · exact ⟨K0 + 1, by unfold windroselaw22_CompactParts.f; rw [if_pos hA]; exact stop⟩
  obtain ⟨K1, h1⟩ := may_ev l hl.1
  by_cases hM : May l
  · have hp' : 0 ≤ p ∧ p ≤ 255 := wf_u8 hp
    have hx' : 0 ≤ x ∧ x ≤ 255 := wf_u8 hxy.1
    have hy' : 0 ≤ y ∧ y ≤ 255 := wf_u8 hxy.2
    have n0 := Int.emod_nonneg p (show (l.length : Int) + 1 ≠ 0 by omega)
    have n1 := Int.emod_lt_of_pos p (show 0 < (l.length : Int) + 1 by omega)
    obtain ⟨w, hw⟩ : ∃ w, w = 1 + x := ⟨_, rfl⟩
    obtain ⟨m, hm⟩ : ∃ m, m = 1 + y := ⟨_, rfl⟩
    have w1 : 1 ≤ w ∧ w ≤ 256 := by omega
    have m1 : 1 ≤ m ∧ m ≤ 256 := by omega
    have q1 : 1 * 1 ≤ w * m := Int.mul_le_mul w1.1 m1.1 (by decide) (by omega)
    have q2 : w * m ≤ 256 * 256 := Int.mul_le_mul w1.2 m1.2 (by omega) (by decide)
    have ex : Aside0 (wrap64 (1 + wrap64 x) = w) := ⟨by rw [w64 (x := x) (by omega) (by omega), w64 (by omega) (by omega), hw]⟩
    have ey : Aside0 (wrap64 (1 + wrap64 y) = m) := ⟨by rw [w64 (x := y) (by omega) (by omega), w64 (by omega) (by omega), hm]⟩
    have eq : Aside0 (wrap64 (w * m) = w * m) := ⟨w64 (by omega) (by omega)⟩
    have el : Aside0 (wrap64 ((l.length : Int) + 1) = (l.length : Int) + 1) := ⟨w64 (by omega) (by omega)⟩
    have ep : Aside0 (wrap64 p = p) := ⟨w64 (by omega) (by omega)⟩
    obtain ⟨at', hat⟩ : ∃ z, z = p % ((l.length : Int) + 1) := ⟨_, rfl⟩
    obtain ⟨n, hn⟩ : ∃ z, z = at'.toNat := ⟨_, rfl⟩
    have et : Aside0 (Int.tmod p ((l.length : Int) + 1) = at') := ⟨by rw [tmod_nn hp'.1, hat]⟩
    have hn' : Aside0 (at'.toNat = n) := ⟨hn.symm⟩
    rw [← hat] at n0 n1
    clear hat hn
    have e : l.take n ++ l.drop n = l := List.take_append_drop n l
    have oka := may_ok l hM
    have mj : MayJ (rolls w [] (l.take n)) (rolls w [] (l.drop n)) := rolls_mayj w1.1 _ _ (by rw [e]; exact oka) (by rw [e]; omega)
    have ml : MayR (rolls w [] l) := rolls_may w1.1 l oka (by omega)
    have la := rolls_length w (l.take n) []
    have lb := rolls_length w (l.drop n) []
    have ll := rolls_length w l []
    have lq := rolls_length (w * m) l []
    have l1 : (l.take n).length ≤ l.length := by simp only [List.length_take]; omega
    have l2 : (l.drop n).length ≤ l.length := by simp only [List.length_drop]; omega
    simp only [List.length_nil] at la lb ll lq
    obtain ⟨K2, h2⟩ := rolls_ev (l.take n) w
    obtain ⟨K3, h3⟩ := rolls_ev (l.drop n) w
    rw [if_pos ⟨may_take l hM n, w1.1, by omega⟩] at h2
    rw [if_pos ⟨may_drop l hM n, w1.1, by omega⟩] at h3
    obtain ⟨K4, h4⟩ := Join_ev (rolls w [] (l.take n)) (rolls w [] (l.drop n)) (by omega) (by omega)
    rw [if_pos mj, rolls_parts, e] at h4
    obtain ⟨K5, h5⟩ := Wider_ev (rolls w [] l) (by omega) w m
    have ew : widerR (rolls w [] l) w m = (rolls (w * m) [] l, 0) := by
      unfold widerR
      rw [if_pos ⟨ml, ⟨w1.1, by omega⟩, ⟨m1.1, by omega⟩, by omega⟩, if_pos (rolls_divs w1.1 l oka.1), rolls_wider w1.1 m1.1 (by omega) l oka.1]
    rw [ew] at h5
    obtain ⟨K6, h6⟩ := ref_rolls_ev w ⟨w1.1, by omega⟩ l hM
    obtain ⟨K7, h7⟩ := ref_rolls_ev (w * m) ⟨by omega, by omega⟩ l hM
    obtain ⟨K8, h8⟩ := same_rolls_ev (rolls w [] l) (by unfold maxLen; omega)
    obtain ⟨K9, h9⟩ := same_rolls_ev (rolls (w * m) [] l) (by unfold maxLen; omega)
    refine ⟨K0 + K1 + K2 + K3 + K4 + K5 + K6 + K7 + K8 + K9 + 1, ?_⟩
    unfold windroselaw22_CompactParts.f
    rw [if_neg hA, h1 _ (by omega), Option.bind_some, decide_eq_true hM]
    simp only [windroselaw22_CompactParts.j0, el.out, ep.out, et.out, ex.out, ey.out, eq.out, hn'.out]
    rw [if_neg (by simp), if_neg (by omega), if_pos n0, if_pos (by omega), h2 _ (by omega), Option.bind_some, h3 _ (by omega), Option.bind_some]
    simp only []
    rw [h4 _ (by omega), Option.bind_some]
    simp only []
    rw [h5 _ (by omega), Option.bind_some]
    simp only []
    rw [if_pos trivial, if_pos trivial, if_pos trivial, if_pos trivial, h6 _ (by omega), Option.bind_some, h8 _ (by omega), Option.bind_some, if_pos rfl, h7 _ (by omega), Option.bind_some, h9 _ (by omega), Option.bind_some, if_pos rfl, h0 _ (by omega)]
    rfl
  · refine ⟨K0 + K1 + 1, ?_⟩
    unfold windroselaw22_CompactParts.f
    rw [if_neg hA, h1 _ (by omega), Option.bind_some, decide_eq_false hM]
    simp only [windroselaw22_CompactParts.j0]
    rw [if_pos (by simp), h0 _ (by omega)]
    rfl
end Go.Proofs.Ythmjfoikkfoelaa.Q
end
