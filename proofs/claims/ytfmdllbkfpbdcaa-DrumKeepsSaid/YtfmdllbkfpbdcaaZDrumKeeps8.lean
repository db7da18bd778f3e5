/- More lines for the row. -/
import Derived.Test.YtfmdllbkfpbdcaaZDrumKeeps7
import Derived.Deep.Slices
import Derived.OpenShut
import Derived.ProofKit
set_option linter.unusedVariables false
set_option linter.unusedSimpArgs false
section
namespace Go.Proofs.YtfmdllbkfpbdcaaX
open Go Go.RowKit Go.Proofs.YtfmdllbkfpbdcaaW.PrintWords Go.ChangeShapes Go.WideShapes
def Rd (P : Program) (t : TypeId) {α : Type} (d : Kd α) (ok : α → Prop) : Prop :=
  ∀ {H : Type} (enc : TypeId × Value → H) (W : World) (base : Nat) (spare : Nat → Bool) (held : Bool) (fuel : Nat) (cs : List Value) (x : DataW H × List MemPlace),
    DataW.trod enc P W base spare held fuel t cs = some x → ∃ a, d.K W a cs ∧ ok a
def RdFs (P : Program) (L : List (TypeId × Nat)) (o e : Nat) {α : Type} (d : Kd α) (ok : α → Prop) : Prop :=
  ∀ {H : Type} (enc : TypeId × Value → H) (W : World) (base : Nat) (spare : Nat → Bool) (held : Bool) (fuel : Nat) (cs : List Value), cs.length = e →
    (∀ (i : Nat) (p : TypeId × Nat), L[i]? = some p → ∃ y, DataW.trod enc P W base spare held fuel p.1 ((cs.drop p.2).take (P.cellsOf p.1)) = some y) → ∃ a, d.K W a (cs.drop o) ∧ ok a
section
variable {P : Program} {t e : TypeId}
theorem Rd.int {k : IntKind} (ht : P.underlying t = some (.int k)) : Rd P t (Kd.int k) (fun n => (Lit.int k n).wf = true) := by
  intro H enc W base spare held fuel cs x h
  obtain ⟨n, rfl, _, hn⟩ := DataW.trod_int ht h
  exact ⟨n, rfl, hn⟩
theorem Rd.bool (ht : P.underlying t = some .bool) : Rd P t Kd.bool (fun _ => True) := by
  intro H enc W base spare held fuel cs x h
  obtain ⟨b, rfl, _⟩ := DataW.trod_bool ht h
  exact ⟨b, rfl, trivial⟩
theorem cells_get {w : World} {base : Nat} {a : Addr} {n : Nat} {cs : List Value} (h : w.cells? base a n = some cs) : ∀ i u, cs[i]? = some u → w.cell? (a.add i) = some u := by
  intro i u hi
  obtain ⟨_, hl, hc⟩ := World.cells?_some h
  have hlt : i < cs.length := (List.getElem?_eq_some_iff.1 hi).1
  have := hc i (by omega)
  rw [hi] at this
  exact this
theorem Rd.slice {α : Type} {d : Kd α} {ok : α → Prop} (ht : P.underlying t = some (.slice e)) (he : P.cellsOf e = d.sz) (hd : Rd P e d ok) :
    Rd P t (Kd.slice e d) (fun l => l.length ≤ maxLen ∧ ∀ x ∈ l, ok x) := by
  intro H enc W base spare held fuel cs x h
  rcases Deep.open_slice ht h with ⟨rfl, _⟩ | ⟨a, len, cap, m, n, D, Pl, rfl, hb, hl, hm, hmm, rfl, hx⟩
  · exact ⟨[], ⟨none, 0, rfl, Nat.le_refl _, rfl, by simp, fun h0 => absurd h0 (Nat.lt_irrefl _)⟩, by simp [maxLen], fun x hx => by cases hx⟩
  · have hlm : len ≤ m := by rw [hmm]; split <;> omega
    have hall : ∀ i, i < len → ∃ y : α, (∃ c, W.cells? base (a.add (i * P.cellsOf e)) (P.cellsOf e) = some c ∧ d.K W y c) ∧ ok y := by
      intro i hi
      obtain ⟨c, h1, h2⟩ := hx i (by omega)
      obtain ⟨y, h3, h4⟩ := hd enc W base spare held n c _ h2
      exact ⟨y, ⟨c, h1, h3⟩, h4⟩
    have hlist : ∃ l : List α, l.length = len ∧ ∀ i y, l[i]? = some y → (∃ c, W.cells? base (a.add (i * P.cellsOf e)) (P.cellsOf e) = some c ∧ d.K W y c) ∧ ok y := by
      have key : ∀ k, k ≤ len → ∃ l : List α, l.length = k ∧ ∀ i y, l[i]? = some y → (∃ c, W.cells? base (a.add (i * P.cellsOf e)) (P.cellsOf e) = some c ∧ d.K W y c) ∧ ok y := by
        intro k
        induction k with
        | zero => exact fun _ => ⟨[], rfl, fun i y hy => by simp at hy⟩
        | succ k ih =>
          intro hk
          obtain ⟨l, hl1, hl2⟩ := ih (by omega)
          obtain ⟨y, hy⟩ := hall k (by omega)
          refine ⟨l ++ [y], by simp [hl1], fun i z hz => ?_⟩
          rcases Nat.lt_or_ge i l.length with hi | hi
          · rw [List.getElem?_append_left hi] at hz
            exact hl2 i z hz
          · rw [List.getElem?_append_right hi] at hz
            have h0 : i - l.length = 0 := by
              have := (List.getElem?_eq_some_iff.1 hz).1
              simp at this
              omega
            rw [h0] at hz
            simp at hz
            subst hz
            have : i = k := by omega
            subst this
            exact hy
      exact key len (Nat.le_refl _)
    obtain ⟨l, hl1, hl2⟩ := hlist
    refine ⟨l, ⟨some a, cap, by rw [hl1], by omega, rfl, by rw [hl1]; simp only [maxLen] at hm; omega, fun _ => ⟨a, rfl, fun j p hp => ?_⟩⟩, by omega, fun y hy => ?_⟩
    · obtain ⟨⟨c, h1, h2⟩, _⟩ := hl2 j p hp
      refine ⟨c, d.K_len h2, h2, fun i u hu => ?_⟩
      have := cells_get h1 i u hu
      rw [Deep.add_add, he] at this
      exact this
    · obtain ⟨i, hi, rfl⟩ := List.getElem_of_mem hy
      exact (hl2 i _ (List.getElem?_eq_getElem hi)).2
theorem RdFs.one {t o : Nat} {α : Type} {d : Kd α} {ok : α → Prop} (h : Rd P t d ok) : RdFs P [(t, o)] o (o + P.cellsOf t) d ok := by
  intro H enc W base spare held fuel cs hl hi
  obtain ⟨y, hy⟩ := hi 0 _ rfl
  obtain ⟨a, ha, hk⟩ := h enc W base spare held fuel _ _ hy
  rw [List.take_of_length_le (by simp [hl])] at ha
  exact ⟨a, ha, hk⟩
theorem RdFs.cons {t o e' : Nat} {L : List (TypeId × Nat)} {α β : Type} {d : Kd α} {d' : Kd β} {ok : α → Prop} {ok' : β → Prop} (h : Rd P t d ok) (hs : RdFs P L (o + P.cellsOf t) e' d' ok') :
    RdFs P ((t, o) :: L) o e' (Kd.pair d d') (fun x => ok x.1 ∧ ok' x.2) := by
  intro H enc W base spare held fuel cs hl hi
  obtain ⟨y, hy⟩ := hi 0 _ rfl
  obtain ⟨a, ha, hk⟩ := h enc W base spare held fuel _ _ hy
  obtain ⟨b, hb, hk'⟩ := hs enc W base spare held fuel cs hl (fun i p hp => hi (i + 1) p (by simpa using hp))
  refine ⟨(a, b), ⟨_, _, ?_, ha, hb⟩, hk, hk'⟩
  rw [← List.drop_drop]
  exact (List.take_append_drop _ _).symm
theorem Rd.struct {α β : Type} {d : Kd α} {ok : α → Prop} {fs : Array Field} (f : β → α) (g : α → β) (hg : ∀ a, f (g a) = a) (ht : P.underlying t = some (.struct fs))
    (h : RdFs P (fs.toList.map fun f => (f.type, f.offset)) 0 (P.cellsOf t) d ok) : Rd P t (Kd.iso d f) (fun x => ok (f x)) := by
  intro H enc W base spare held fuel cs x hx
  obtain ⟨xs, n, rfl, _, hl, hn, hi⟩ := DataW.trod_struct ht hx
  obtain ⟨a, ha, hk⟩ := h enc W base spare held n cs hl (fun i p hp => by
    rw [List.getElem?_map] at hp
    obtain ⟨f', hf', rfl⟩ := Option.map_eq_some_iff.1 hp
    have h1 := hi i f' (by simpa using hf')
    have hlt : i < xs.length := by
      have := (List.getElem?_eq_some_iff.1 hf').1
      simp at this
      omega
    rw [List.getElem?_eq_getElem hlt] at h1
    exact ⟨_, h1⟩)
  refine ⟨g a, ?_, by show ok (f (g a)); rw [hg]; exact hk⟩
  show d.K W (f (g a)) cs
  rw [hg]
  simpa using ha
theorem Rd.array {α β : Type} {d : Kd α} {ok : α → Prop} {n : Nat} (f : β → α) (g : α → β) (hg : ∀ a, f (g a) = a) (ht : P.underlying t = some (.array n e))
    (h : RdFs P ((List.range n).map fun i => (e, i * P.cellsOf e)) 0 (P.cellsOf t) d ok) : Rd P t (Kd.iso d f) (fun x => ok (f x)) := by
  intro H enc W base spare held fuel cs x hx
  obtain ⟨xs, m, rfl, _, hl, hn, hi⟩ := DataW.trod_array ht hx
  obtain ⟨a, ha, hk⟩ := h enc W base spare held m cs hl (fun i p hp => by
    rw [List.getElem?_map] at hp
    obtain ⟨j, hj, rfl⟩ := Option.map_eq_some_iff.1 hp
    obtain ⟨hlt, hj⟩ := List.getElem?_eq_some_iff.1 hj
    simp at hj hlt
    subst hj
    have h1 := hi i hlt
    rw [List.getElem?_eq_getElem (by omega)] at h1
    exact ⟨_, h1⟩)
  refine ⟨g a, ?_, by show ok (f (g a)); rw [hg]; exact hk⟩
  show d.K W (f (g a)) cs
  rw [hg]
  simpa using ha
theorem okWide_array {P : Program} {w : World} {r : Reach} {base : Nat} {t : TypeId} {v : Value} {n : Nat} {e : TypeId} (ht : P.underlying t = some (.array n e)) (h : Value.okWide P w r base t v) : ∃ cs, v = .agg cs ∧ cs.size = P.cellsOf t := by
  simp only [Value.okWide, ht] at h
  obtain ⟨cs, h1, h2, _⟩ := h
  exact ⟨cs, h1, h2⟩
end
end Go.Proofs.YtfmdllbkfpbdcaaX
end
section
namespace Go.Proofs.Ytfmdllbkfpbdcaa.Q
open Go Go.RowKit Go.Proofs.YtfmdllbkfpbdcaaW.PrintWords
theorem Ev.succ {α : Type} {g : Nat → Option α} {r : α} (K : Nat) (h : ∀ k, K ≤ k → g (k + 1) = some r) : Ev g r := by
  refine ⟨K + 1, fun k hk => ?_⟩
  obtain ⟨m, rfl⟩ : ∃ m, k = m + 1 := ⟨k - 1, by omega⟩
  exact h m (by omega)
theorem Ev.mk {α : Type} {g : Nat → Option α} {r : α} (K : Nat) (h : ∀ k, K ≤ k → g k = some r) : Ev g r := ⟨K, h⟩
theorem wf_i64 {x : Int} (h : (Lit.int .i64 x).wf = true) : -9223372036854775808 ≤ x ∧ x ≤ 9223372036854775807 := by
  simp [Lit.wf] at h
  have e1 : IntKind.min .i64 = -9223372036854775808 := by decide
  rw [e1] at h
  exact h
end Go.Proofs.Ytfmdllbkfpbdcaa.Q
end
section
namespace Go.Proofs.Ytfmdllbkfpbdcaa.Q
open Go Go.RowKit Go.Proofs.Ytfmdllbkfpbdcaa.G Go.Proofs.YtfmdllbkfpbdcaaW.PrintWords Go.Proofs.YtfmdllbkfpbdcaaW.PrintLast
theorem byte_wf {x : Int} (h : (Lit.int .u8 x).wf = true) : 0 ≤ x ∧ x ≤ 255 := by
  simp [Lit.wf] at h
  have e1 : IntKind.min .u8 = 0 := by decide
  have e2 : IntKind.max .u8 = 255 := by decide
  rw [e1, e2] at h
  exact h
theorem DrumKeeps : ∀ (a0_0 : Int) (a0_1 : Int) (a1 : Int) (l2 : List Bool), (Lit.int .u8 a0_0).wf = true ∧ (Lit.int .u8 a0_1).wf = true → (Lit.int .i64 a1).wf = true → (l2.length ≤ maxLen ∧ ∀ y2 ∈ l2, True) → ∃ k, windroselaw09_DrumKeeps.f k a0_0 a0_1 a1 l2 = some true := by
  intro a0_0 a0_1 a1 l2 ⟨h1, h2⟩ h3 _
  refine ⟨0, ?_⟩
  unfold windroselaw09_DrumKeeps.f
  rw [if_pos ⟨(byte_wf h1).1, (byte_wf h1).2, (byte_wf h2).1, (byte_wf h2).2, (wf_i64 h3).2⟩]
end Go.Proofs.Ytfmdllbkfpbdcaa.Q
end
