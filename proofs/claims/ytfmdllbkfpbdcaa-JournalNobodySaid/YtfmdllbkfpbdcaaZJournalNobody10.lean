/- More lines for the row. -/
import Derived.Test.YtfmdllbkfpbdcaaZJournalNobody9
import Derived.Deep.Slices
import Derived.OpenShut
import Derived.ProofKit
set_option linter.unusedVariables false
set_option linter.unusedSimpArgs false
section
namespace Go.Proofs.YtfmdllbkfpbdcaaX
open Go Go.RowKit Go.Proofs.YtfmdllbkfpbdcaaW.PrintWords Go.ChangeShapes Go.WideShapes
def Rd (P : Program) (t : TypeId) {α : Type} (d : Kd α) (ok : α → Prop) : Prop :=
  ∀ {H : Type} (enc : TypeId × Value → H) (W : World) (base : Nat) (spare : Nat → Bool) (held : Bool) (fuel : Nat) (cs : List Value) (x : DataW H × List MemPlace),
    DataW.trod enc P W base spare held fuel t cs = some x → ∃ a, d.K W a cs ∧ ok a
def RdFs (P : Program) (L : List (TypeId × Nat)) (o e : Nat) {α : Type} (d : Kd α) (ok : α → Prop) : Prop :=
  ∀ {H : Type} (enc : TypeId × Value → H) (W : World) (base : Nat) (spare : Nat → Bool) (held : Bool) (fuel : Nat) (cs : List Value), cs.length = e →
    (∀ (i : Nat) (p : TypeId × Nat), L[i]? = some p → ∃ y, DataW.trod enc P W base spare held fuel p.1 ((cs.drop p.2).take (P.cellsOf p.1)) = some y) → ∃ a, d.K W a (cs.drop o) ∧ ok a
section
variable {P : Program} {t e : TypeId}
theorem Rd.int {k : IntKind} (ht : P.underlying t = some (.int k)) : Rd P t (Kd.int k) (fun n => (Lit.int k n).wf = true) := by
  intro H enc W base spare held fuel cs x h
  obtain ⟨n, rfl, _, hn⟩ := DataW.trod_int ht h
  exact ⟨n, rfl, hn⟩
theorem Rd.bool (ht : P.underlying t = some .bool) : Rd P t Kd.bool (fun _ => True) := by
  intro H enc W base spare held fuel cs x h
  obtain ⟨b, rfl, _⟩ := DataW.trod_bool ht h
  exact ⟨b, rfl, trivial⟩
theorem Rd.string (ht : P.underlying t = some .string) : Rd P t Kd.string (fun s => s.size ≤ maxLen) := by
  intro H enc W base spare held fuel cs x h
  obtain ⟨s, rfl, _, hs⟩ := DataW.trod_string ht h
  exact ⟨s, rfl, hs⟩
theorem cells_get {w : World} {base : Nat} {a : Addr} {n : Nat} {cs : List Value} (h : w.cells? base a n = some cs) : ∀ i u, cs[i]? = some u → w.cell? (a.add i) = some u := by
  intro i u hi
  obtain ⟨_, hl, hc⟩ := World.cells?_some h
  have hlt : i < cs.length := (List.getElem?_eq_some_iff.1 hi).1
  have := hc i (by omega)
  rw [hi] at this
  exact this
theorem Rd.slice {α : Type} {d : Kd α} {ok : α → Prop} (ht : P.underlying t = some (.slice e)) (he : P.cellsOf e = d.sz) (hd : Rd P e d ok) :
    Rd P t (Kd.slice e d) (fun l => l.length ≤ maxLen ∧ ∀ x ∈ l, ok x) := by
  intro H enc W base spare held fuel cs x h
  rcases Deep.open_slice ht h with ⟨rfl, _⟩ | ⟨a, len, cap, m, n, D, Pl, rfl, hb, hl, hm, hmm, rfl, hx⟩
  · exact ⟨[], ⟨none, 0, rfl, Nat.le_refl _, rfl, by simp, fun h0 => absurd h0 (Nat.lt_irrefl _)⟩, by simp [maxLen], fun x hx => by cases hx⟩
  · have hlm : len ≤ m := by rw [hmm]; split <;> omega
    have hall : ∀ i, i < len → ∃ y : α, (∃ c, W.cells? base (a.add (i * P.cellsOf e)) (P.cellsOf e) = some c ∧ d.K W y c) ∧ ok y := by
      intro i hi
      obtain ⟨c, h1, h2⟩ := hx i (by omega)
      obtain ⟨y, h3, h4⟩ := hd enc W base spare held n c _ h2
      exact ⟨y, ⟨c, h1, h3⟩, h4⟩
    have hlist : ∃ l : List α, l.length = len ∧ ∀ i y, l[i]? = some y → (∃ c, W.cells? base (a.add (i * P.cellsOf e)) (P.cellsOf e) = some c ∧ d.K W y c) ∧ ok y := by
      have key : ∀ k, k ≤ len → ∃ l : List α, l.length = k ∧ ∀ i y, l[i]? = some y → (∃ c, W.cells? base (a.add (i * P.cellsOf e)) (P.cellsOf e) = some c ∧ d.K W y c) ∧ ok y := by
        intro k
        induction k with
        | zero => exact fun _ => ⟨[], rfl, fun i y hy => by simp at hy⟩
        | succ k ih =>
          intro hk
          obtain ⟨l, hl1, hl2⟩ := ih (by omega)
          obtain ⟨y, hy⟩ := hall k (by omega)
          refine ⟨l ++ [y], by simp [hl1], fun i z hz => ?_⟩
          rcases Nat.lt_or_ge i l.length with hi | hi
          · rw [List.getElem?_append_left hi] at hz
            exact hl2 i z hz
          · rw [List.getElem?_append_right hi] at hz
            have h0 : i - l.length = 0 := by
              have := (List.getElem?_eq_some_iff.1 hz).1
              simp at this
              omega
            rw [h0] at hz
            simp at hz
            subst hz
            have : i = k := by omega
            subst this
            exact hy
      exact key len (Nat.le_refl _)
    obtain ⟨l, hl1, hl2⟩ := hlist
    refine ⟨l, ⟨some a, cap, by rw [hl1], by omega, rfl, by rw [hl1]; simp only [maxLen] at hm; omega, fun _ => ⟨a, rfl, fun j p hp => ?_⟩⟩, by omega, fun y hy => ?_⟩
    · obtain ⟨⟨c, h1, h2⟩, _⟩ := hl2 j p hp
      refine ⟨c, d.K_len h2, h2, fun i u hu => ?_⟩
      have := cells_get h1 i u hu
      rw [Deep.add_add, he] at this
      exact this
    · obtain ⟨i, hi, rfl⟩ := List.getElem_of_mem hy
      exact (hl2 i _ (List.getElem?_eq_getElem hi)).2
theorem RdFs.one {t o : Nat} {α : Type} {d : Kd α} {ok : α → Prop} (h : Rd P t d ok) : RdFs P [(t, o)] o (o + P.cellsOf t) d ok := by
  intro H enc W base spare held fuel cs hl hi
  obtain ⟨y, hy⟩ := hi 0 _ rfl
  obtain ⟨a, ha, hk⟩ := h enc W base spare held fuel _ _ hy
  rw [List.take_of_length_le (by simp [hl])] at ha
  exact ⟨a, ha, hk⟩
theorem RdFs.cons {t o e' : Nat} {L : List (TypeId × Nat)} {α β : Type} {d : Kd α} {d' : Kd β} {ok : α → Prop} {ok' : β → Prop} (h : Rd P t d ok) (hs : RdFs P L (o + P.cellsOf t) e' d' ok') :
    RdFs P ((t, o) :: L) o e' (Kd.pair d d') (fun x => ok x.1 ∧ ok' x.2) := by
  intro H enc W base spare held fuel cs hl hi
  obtain ⟨y, hy⟩ := hi 0 _ rfl
  obtain ⟨a, ha, hk⟩ := h enc W base spare held fuel _ _ hy
  obtain ⟨b, hb, hk'⟩ := hs enc W base spare held fuel cs hl (fun i p hp => hi (i + 1) p (by simpa using hp))
  refine ⟨(a, b), ⟨_, _, ?_, ha, hb⟩, hk, hk'⟩
  rw [← List.drop_drop]
  exact (List.take_append_drop _ _).symm
theorem Rd.struct {α β : Type} {d : Kd α} {ok : α → Prop} {fs : Array Field} (f : β → α) (g : α → β) (hg : ∀ a, f (g a) = a) (ht : P.underlying t = some (.struct fs))
    (h : RdFs P (fs.toList.map fun f => (f.type, f.offset)) 0 (P.cellsOf t) d ok) : Rd P t (Kd.iso d f) (fun x => ok (f x)) := by
  intro H enc W base spare held fuel cs x hx
  obtain ⟨xs, n, rfl, _, hl, hn, hi⟩ := DataW.trod_struct ht hx
  obtain ⟨a, ha, hk⟩ := h enc W base spare held n cs hl (fun i p hp => by
    rw [List.getElem?_map] at hp
    obtain ⟨f', hf', rfl⟩ := Option.map_eq_some_iff.1 hp
    have h1 := hi i f' (by simpa using hf')
    have hlt : i < xs.length := by
      have := (List.getElem?_eq_some_iff.1 hf').1
      simp at this
      omega
    rw [List.getElem?_eq_getElem hlt] at h1
    exact ⟨_, h1⟩)
  refine ⟨g a, ?_, by show ok (f (g a)); rw [hg]; exact hk⟩
  show d.K W (f (g a)) cs
  rw [hg]
  simpa using ha
theorem Rd.array {α β : Type} {d : Kd α} {ok : α → Prop} {n : Nat} (f : β → α) (g : α → β) (hg : ∀ a, f (g a) = a) (ht : P.underlying t = some (.array n e))
    (h : RdFs P ((List.range n).map fun i => (e, i * P.cellsOf e)) 0 (P.cellsOf t) d ok) : Rd P t (Kd.iso d f) (fun x => ok (f x)) := by
  intro H enc W base spare held fuel cs x hx
  obtain ⟨xs, m, rfl, _, hl, hn, hi⟩ := DataW.trod_array ht hx
  obtain ⟨a, ha, hk⟩ := h enc W base spare held m cs hl (fun i p hp => by
    rw [List.getElem?_map] at hp
    obtain ⟨j, hj, rfl⟩ := Option.map_eq_some_iff.1 hp
    obtain ⟨hlt, hj⟩ := List.getElem?_eq_some_iff.1 hj
    simp at hj hlt
    subst hj
    have h1 := hi i hlt
    rw [List.getElem?_eq_getElem (by omega)] at h1
    exact ⟨_, h1⟩)
  refine ⟨g a, ?_, by show ok (f (g a)); rw [hg]; exact hk⟩
  show d.K W (f (g a)) cs
  rw [hg]
  simpa using ha
end
end Go.Proofs.YtfmdllbkfpbdcaaX
end
section
namespace Go.Proofs.Ytfmdllbkfpbdcaa.G
open Go Go.RowKit Go.Proofs.YtfmdllbkfpbdcaaW.PrintWords Go.Proofs.YtfmdllbkfpbdcaaX
set_option maxRecDepth 100000
def ok48 (x : S48) : Prop := (x.f0.length ≤ maxLen ∧ ∀ y4 ∈ x.f0, (Lit.int .i64 y4).wf = true) ∧ (x.f1.length ≤ maxLen ∧ ∀ y4 ∈ x.f1, y4.size ≤ maxLen)
theorem rd48 : Rd Try.prog 48 k48 ok48 := Rd.struct _ (fun b => ⟨b.1, b.2⟩) (fun _ => rfl) Try.underlying48 (RdFs.cons (Rd.slice Try.underlying45 (by kernel_rfl) (Rd.int Try.underlying3)) (RdFs.one (Rd.slice Try.underlying46 (by kernel_rfl) (Rd.string Try.underlying9))))
end Go.Proofs.Ytfmdllbkfpbdcaa.G
end
section
namespace Go.Proofs.Ytfmdllbkfpbdcaa.Q
open Go Go.RowKit Go.Proofs.Ytfmdllbkfpbdcaa.G Go.Proofs.YtfmdllbkfpbdcaaW.PrintWords Go.Proofs.YtfmdllbkfpbdcaaW.PrintLast
theorem JournalNobody : ∀ (a0_0 : Int) (l0_1 : List Int) (l0_2 : List ByteArray) (l0_3 : List (S48)) (a0_4 : Int) (a0_5 : Int) (a0_6 : Int) (l0_7 : List Int) (l0_8 : List Bool), (Lit.int .i64 a0_0).wf = true ∧ ((l0_1.length ≤ maxLen ∧ ∀ y4 ∈ l0_1, (Lit.int .i64 y4).wf = true) ∧ (l0_2.length ≤ maxLen ∧ ∀ y4 ∈ l0_2, y4.size ≤ maxLen)) ∧ (l0_3.length ≤ maxLen ∧ ∀ y4 ∈ l0_3, ok48 y4) ∧ ((Lit.int .i64 a0_4).wf = true ∧ (Lit.int .i64 a0_5).wf = true ∧ (Lit.int .i64 a0_6).wf = true ∧ (l0_7.length ≤ maxLen ∧ ∀ y4 ∈ l0_7, (Lit.int .u8 y4).wf = true) ∧ (l0_8.length ≤ maxLen ∧ ∀ y4 ∈ l0_8, True)) → ∃ k, windroselaw10_JournalNobody.f k a0_0 l0_1 l0_2 l0_3 a0_4 a0_5 a0_6 l0_7 l0_8 = some true := fun _ _ _ _ _ _ _ _ _ _ => ⟨0, rfl⟩
end Go.Proofs.Ytfmdllbkfpbdcaa.Q
end
