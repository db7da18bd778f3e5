/- Ythmjfoikkfoelaa: lines of the words and functions that the row CompactJoins rests on, and the row. No condition. -/
import Derived.Test.YthmjfoikkfoelaaZCompactJoins8
import Derived.Deep.Slices
import Derived.OpenShut
import Derived.ProofKit
section
set_option linter.unusedVariables false
set_option linter.unusedSimpArgs false
namespace Go.Proofs.YthmjfoikkfoelaaX
open Go Go.RowKit Go.Proofs.YthmjfoikkfoelaaW.PrintWords Go.ChangeShapes Go.WideShapes
def Rd (P : Program) (t : TypeId) {α : Type} (d : Kd α) (ok : α → Prop) : Prop :=
  ∀ {H : Type} (enc : TypeId × Value → H) (W : World) (base : Nat) (spare : Nat → Bool) (held : Bool) (fuel : Nat) (cs : List Value) (x : DataW H × List MemPlace),
    DataW.trod enc P W base spare held fuel t cs = some x → ∃ a, d.K W a cs ∧ ok a
def RdFs (P : Program) (L : List (TypeId × Nat)) (o e : Nat) {α : Type} (d : Kd α) (ok : α → Prop) : Prop :=
  ∀ {H : Type} (enc : TypeId × Value → H) (W : World) (base : Nat) (spare : Nat → Bool) (held : Bool) (fuel : Nat) (cs : List Value), cs.length = e →
    (∀ (i : Nat) (p : TypeId × Nat), L[i]? = some p → ∃ y, DataW.trod enc P W base spare held fuel p.1 ((cs.drop p.2).take (P.cellsOf p.1)) = some y) → ∃ a, d.K W a (cs.drop o) ∧ ok a
section
variable {P : Program} {t e : TypeId}
theorem Rd.int {k : IntKind} (ht : P.underlying t = some (.int k)) : Rd P t (Kd.int k) (fun n => (Lit.int k n).wf = true) := by
  intro H enc W base spare held fuel cs x h
  obtain ⟨n, rfl, _, hn⟩ := DataW.trod_int ht h
  exact ⟨n, rfl, hn⟩
theorem Rd.bool (ht : P.underlying t = some .bool) : Rd P t Kd.bool (fun _ => True) := by
  intro H enc W base spare held fuel cs x h
  obtain ⟨b, rfl, _⟩ := DataW.trod_bool ht h
  exact ⟨b, rfl, trivial⟩
theorem cells_get {w : World} {base : Nat} {a : Addr} {n : Nat} {cs : List Value} (h : w.cells? base a n = some cs) : ∀ i u, cs[i]? = some u → w.cell? (a.add i) = some u := by
  intro i u hi
  obtain ⟨_, hl, hc⟩ := World.cells?_some h
  have hlt : i < cs.length := (List.getElem?_eq_some_iff.1 hi).1
  have := hc i (by omega)
  rw [hi] at this
  exact this
theorem Rd.slice {α : Type} {d : Kd α} {ok : α → Prop} (ht : P.underlying t = some (.slice e)) (he : P.cellsOf e = d.sz) (hd : Rd P e d ok) :
    Rd P t (Kd.slice e d) (fun l => l.length ≤ maxLen ∧ ∀ x ∈ l, ok x) := by
  intro H enc W base spare held fuel cs x h
  rcases Deep.open_slice ht h with ⟨rfl, _⟩ | ⟨a, len, cap, m, n, D, Pl, rfl, hb, hl, hm, hmm, rfl, hx⟩
  · exact ⟨[], ⟨none, 0, rfl, Nat.le_refl _, rfl, by simp, fun h0 => absurd h0 (Nat.lt_irrefl _)⟩, by simp [maxLen], fun x hx => by cases hx⟩
  · have hlm : len ≤ m := by rw [hmm]; split <;> omega
    have hall : ∀ i, i < len → ∃ y : α, (∃ c, W.cells? base (a.add (i * P.cellsOf e)) (P.cellsOf e) = some c ∧ d.K W y c) ∧ ok y := by
      intro i hi
      obtain ⟨c, h1, h2⟩ := hx i (by omega)
      obtain ⟨y, h3, h4⟩ := hd enc W base spare held n c _ h2
      exact ⟨y, ⟨c, h1, h3⟩, h4⟩
    have hlist : ∃ l : List α, l.length = len ∧ ∀ i y, l[i]? = some y → (∃ c, W.cells? base (a.add (i * P.cellsOf e)) (P.cellsOf e) = some c ∧ d.K W y c) ∧ ok y := by
      have key : ∀ k, k ≤ len → ∃ l : List α, l.length = k ∧ ∀ i y, l[i]? = some y → (∃ c, W.cells? base (a.add (i * P.cellsOf e)) (P.cellsOf e) = some c ∧ d.K W y c) ∧ ok y := by
        intro k
        induction k with
        | zero => exact fun _ => ⟨[], rfl, fun i y hy => by simp at hy⟩
        | succ k ih =>
          intro hk
          obtain ⟨l, hl1, hl2⟩ := ih (by omega)
          obtain ⟨y, hy⟩ := hall k (by omega)
          refine ⟨l ++ [y], by simp [hl1], fun i z hz => ?_⟩
          rcases Nat.lt_or_ge i l.length with hi | hi
          · rw [List.getElem?_append_left hi] at hz
            exact hl2 i z hz
          · rw [List.getElem?_append_right hi] at hz
            have h0 : i - l.length = 0 := by
              have := (List.getElem?_eq_some_iff.1 hz).1
              simp at this
              omega
            rw [h0] at hz
            simp at hz
            subst hz
            have : i = k := by omega
            subst this
            exact hy
      exact key len (Nat.le_refl _)
    obtain ⟨l, hl1, hl2⟩ := hlist
    refine ⟨l, ⟨some a, cap, by rw [hl1], by omega, rfl, by rw [hl1]; simp only [maxLen] at hm; omega, fun _ => ⟨a, rfl, fun j p hp => ?_⟩⟩, by omega, fun y hy => ?_⟩
    · obtain ⟨⟨c, h1, h2⟩, _⟩ := hl2 j p hp
      refine ⟨c, d.K_len h2, h2, fun i u hu => ?_⟩
      have := cells_get h1 i u hu
      rw [Deep.add_add, he] at this
      exact this
    · obtain ⟨i, hi, rfl⟩ := List.getElem_of_mem hy
      exact (hl2 i _ (List.getElem?_eq_getElem hi)).2
theorem RdFs.one {t o : Nat} {α : Type} {d : Kd α} {ok : α → Prop} (h : Rd P t d ok) : RdFs P [(t, o)] o (o + P.cellsOf t) d ok := by
  intro H enc W base spare held fuel cs hl hi
  obtain ⟨y, hy⟩ := hi 0 _ rfl
  obtain ⟨a, ha, hk⟩ := h enc W base spare held fuel _ _ hy
  rw [List.take_of_length_le (by simp [hl])] at ha
  exact ⟨a, ha, hk⟩
theorem RdFs.cons {t o e' : Nat} {L : List (TypeId × Nat)} {α β : Type} {d : Kd α} {d' : Kd β} {ok : α → Prop} {ok' : β → Prop} (h : Rd P t d ok) (hs : RdFs P L (o + P.cellsOf t) e' d' ok') :
    RdFs P ((t, o) :: L) o e' (Kd.pair d d') (fun x => ok x.1 ∧ ok' x.2) := by
  intro H enc W base spare held fuel cs hl hi
  obtain ⟨y, hy⟩ := hi 0 _ rfl
  obtain ⟨a, ha, hk⟩ := h enc W base spare held fuel _ _ hy
  obtain ⟨b, hb, hk'⟩ := hs enc W base spare held fuel cs hl (fun i p hp => hi (i + 1) p (by simpa using hp))
  refine ⟨(a, b), ⟨_, _, ?_, ha, hb⟩, hk, hk'⟩
  rw [← List.drop_drop]
  exact (List.take_append_drop _ _).symm
theorem Rd.struct {α β : Type} {d : Kd α} {ok : α → Prop} {fs : Array Field} (f : β → α) (g : α → β) (hg : ∀ a, f (g a) = a) (ht : P.underlying t = some (.struct fs))
    (h : RdFs P (fs.toList.map fun f => (f.type, f.offset)) 0 (P.cellsOf t) d ok) : Rd P t (Kd.iso d f) (fun x => ok (f x)) := by
  intro H enc W base spare held fuel cs x hx
  obtain ⟨xs, n, rfl, _, hl, hn, hi⟩ := DataW.trod_struct ht hx
  obtain ⟨a, ha, hk⟩ := h enc W base spare held n cs hl (fun i p hp => by
    rw [List.getElem?_map] at hp
    obtain ⟨f', hf', rfl⟩ := Option.map_eq_some_iff.1 hp
    have h1 := hi i f' (by simpa using hf')
    have hlt : i < xs.length := by
      have := (List.getElem?_eq_some_iff.1 hf').1
      simp at this
      omega
    rw [List.getElem?_eq_getElem hlt] at h1
    exact ⟨_, h1⟩)
  refine ⟨g a, ?_, by show ok (f (g a)); rw [hg]; exact hk⟩
  show d.K W (f (g a)) cs
  rw [hg]
  simpa using ha
theorem Rd.array {α β : Type} {d : Kd α} {ok : α → Prop} {n : Nat} (f : β → α) (g : α → β) (hg : ∀ a, f (g a) = a) (ht : P.underlying t = some (.array n e))
    (h : RdFs P ((List.range n).map fun i => (e, i * P.cellsOf e)) 0 (P.cellsOf t) d ok) : Rd P t (Kd.iso d f) (fun x => ok (f x)) := by
  intro H enc W base spare held fuel cs x hx
  obtain ⟨xs, m, rfl, _, hl, hn, hi⟩ := DataW.trod_array ht hx
  obtain ⟨a, ha, hk⟩ := h enc W base spare held m cs hl (fun i p hp => by
    rw [List.getElem?_map] at hp
    obtain ⟨j, hj, rfl⟩ := Option.map_eq_some_iff.1 hp
    obtain ⟨hlt, hj⟩ := List.getElem?_eq_some_iff.1 hj
    simp at hj hlt
    subst hj
    have h1 := hi i hlt
    rw [List.getElem?_eq_getElem (by omega)] at h1
    exact ⟨_, h1⟩)
  refine ⟨g a, ?_, by show ok (f (g a)); rw [hg]; exact hk⟩
  show d.K W (f (g a)) cs
  rw [hg]
  simpa using ha
theorem okWide_array {P : Program} {w : World} {r : Reach} {base : Nat} {t : TypeId} {v : Value} {n : Nat} {e : TypeId} (ht : P.underlying t = some (.array n e)) (h : Value.okWide P w r base t v) : ∃ cs, v = .agg cs ∧ cs.size = P.cellsOf t := by
  simp only [Value.okWide, ht] at h
  obtain ⟨cs, h1, h2, _⟩ := h
  exact ⟨cs, h1, h2⟩
end
end Go.Proofs.YthmjfoikkfoelaaX
end
section
namespace Go.Proofs.Ythmjfoikkfoelaa.G
open Go Go.RowKit Go.Proofs.YthmjfoikkfoelaaW.PrintWords Go.Proofs.YthmjfoikkfoelaaX
set_option linter.unusedVariables false
set_option maxRecDepth 100000
def ok43 (x : S43) : Prop := (Lit.int .i64 x.f0).wf = true ∧ (Lit.int .i64 x.f1).wf = true ∧ (Lit.int .i64 x.f2).wf = true ∧ (Lit.int .i64 x.f3).wf = true ∧ (Lit.int .i64 x.f4).wf = true ∧ (Lit.int .i64 x.f5).wf = true
theorem rd43 : Rd Try.prog 43 k43 ok43 := Rd.struct _ (fun b => ⟨b.1, b.2.1, b.2.2.1, b.2.2.2.1, b.2.2.2.2.1, b.2.2.2.2.2⟩) (fun _ => rfl) Try.underlying43 (RdFs.cons (Rd.int Try.underlying3) (RdFs.cons (Rd.int Try.underlying3) (RdFs.cons (Rd.int Try.underlying3) (RdFs.cons (Rd.int Try.underlying3) (RdFs.cons (Rd.int Try.underlying3) (RdFs.one (Rd.int Try.underlying3)))))))
end Go.Proofs.Ythmjfoikkfoelaa.G
end
section
set_option linter.unusedVariables false
namespace Go.Proofs.Ythmjfoikkfoelaa.Q
open Go Go.RowKit Go.Proofs.YthmjfoikkfoelaaW.PrintWords
theorem w64 {x : Int} (h : -9223372036854775808 ≤ x) (h' : x ≤ 9223372036854775807) : wrap64 x = x := by unfold wrap64; omega
theorem Ev.succ {α : Type} {g : Nat → Option α} {r : α} (K : Nat) (h : ∀ k, K ≤ k → g (k + 1) = some r) : Ev g r := by
  refine ⟨K + 1, fun k hk => ?_⟩
  obtain ⟨m, rfl⟩ : ∃ m, k = m + 1 := ⟨k - 1, by omega⟩
  exact h m (by omega)
theorem Ev.mk {α : Type} {g : Nat → Option α} {r : α} (K : Nat) (h : ∀ k, K ≤ k → g k = some r) : Ev g r := ⟨K, h⟩
theorem drop_getD {α : Type} (l : List α) (i : Nat) (d : α) (h : i < l.length) : l.drop i = l.getD i d :: l.drop (i + 1) := by
  rw [List.drop_eq_getElem_cons h, List.getD_eq_getElem?_getD, List.getElem?_eq_getElem h]
  rfl
theorem tmod_nn {a b : Int} (h : 0 ≤ a) : Int.tmod a b = a % b := Int.tmod_eq_emod_of_nonneg h
theorem tdiv_nn {a b : Int} (h : 0 ≤ a) : Int.tdiv a b = a / b := Int.tdiv_eq_ediv_of_nonneg h
end Go.Proofs.Ythmjfoikkfoelaa.Q
end
section
set_option linter.unusedVariables false
namespace Go.Proofs.Ythmjfoikkfoelaa.Q
open Go Go.RowKit Go.Proofs.Ythmjfoikkfoelaa.G Go.Proofs.YthmjfoikkfoelaaW.PrintWords Go.Proofs.YthmjfoikkfoelaaW.PrintLast
abbrev Smp := S41
def at_ (l : List Smp) (i : Nat) : Smp := rd_T41 l i
def Fits (l : List Smp) (i : Nat) : Prop := 0 ≤ (at_ l i).f0 ∧ (at_ l i).f0 ≤ 1099511627776 ∧ -1099511627776 ≤ (at_ l i).f1 ∧ (at_ l i).f1 ≤ 1099511627776 ∧ (0 < i → (at_ l (i - 1)).f0 < (at_ l i).f0)
def May (l : List Smp) : Prop := l.length ≤ 64 ∧ ∀ i, i < l.length → Fits l i
noncomputable instance (l : List Smp) : Decidable (May l) := Classical.propDecidable _
end Go.Proofs.Ythmjfoikkfoelaa.Q
end
section
set_option linter.unusedVariables false
namespace Go.Proofs.Ythmjfoikkfoelaa.Q
open Go Go.RowKit Go.Proofs.Ythmjfoikkfoelaa.G Go.Proofs.YthmjfoikkfoelaaW.PrintWords Go.Proofs.YthmjfoikkfoelaaW.PrintLast
abbrev Rol := S43
def both (a b : Rol) : Rol := ⟨a.f0, wrap64 (a.f1 + b.f1), wrap64 (a.f2 + b.f2), mn a.f3 b.f3, mx a.f4 b.f4, b.f5⟩
def push (l : List Rol) (r : Rol) : List Rol :=
  match l.getLast? with
  | none => [r]
  | some x => if x.f0 = r.f0 then l.dropLast ++ [both x r] else l ++ [r]
theorem push_snoc (l : List Rol) (x r : Rol) : push (l ++ [x]) r = if x.f0 = r.f0 then l ++ [both x r] else l ++ [x] ++ [r] := by
  simp [push]
theorem push_ev (l : List Rol) (r : Rol) (hl : l.length < 2932031007402) : compact_push.f l r.f0 r.f1 r.f2 r.f3 r.f4 r.f5 = some (push l r) := by
  unfold compact_push.f
  rcases List.eq_nil_or_concat l with rfl | ⟨m, x, rfl⟩
  · have e : wrap64 ((([] : List Rol).length : Int) - 1) = -1 := by simp only [List.length_nil]; rw [w64] <;> omega
    rw [e, if_neg (by omega), if_pos (by simp)]
    rfl
  · have hm : (m.concat x).length = m.length + 1 := by simp
    have e : wrap64 (((m.concat x).length : Int) - 1) = (m.length : Int) := by rw [hm, w64] <;> omega
    have er : rd_T43 (m.concat x) (m.length : Int) = x := by simp [rd_T43]
    rw [e, if_pos (by omega), if_pos (by omega), if_pos (by omega), er, List.concat_eq_append, push_snoc]
    by_cases h : x.f0 = r.f0
    · rw [if_pos h, if_pos h]
      simp [compact_both.f, both]
    · rw [if_neg h, if_neg h, if_pos (by simp at hl ⊢; omega)]
theorem push_length (l : List Rol) (r : Rol) : (push l r).length ≤ l.length + 1 := by
  rcases List.eq_nil_or_concat l with rfl | ⟨m, x, rfl⟩
  · simp [push]
  · rw [List.concat_eq_append, push_snoc]
    split <;> simp
theorem in_ev (a b c : Int) : compact_in.f a b c = some (decide (b ≤ a ∧ a ≤ c)) := by
  unfold compact_in.f
  by_cases h : a ≥ b
  · rw [if_pos h]
    congr 1
    rw [decide_eq_decide]
    omega
  · rw [if_neg h, decide_eq_false (by omega)]
theorem same_rolls_loop (a : List Rol) (hl : a.length ≤ maxLen) (d : Nat) : ∀ i : Nat, i + d = a.length → (∃ K, ∀ k, K ≤ k → windroseref22_SameRolls.l0 k a a i = some (true)) := by
  unfold maxLen at hl
  induction d with
  | zero =>
    intro i hi
    refine Ev.succ 0 fun k _ => ?_
    simp only [windroseref22_SameRolls.l0]
    rw [if_neg (by omega)]
  | succ d ih =>
    intro i hi
    obtain ⟨K, hK⟩ := ih (i + 1) (by omega)
    refine Ev.succ K fun k hk => ?_
    simp only [windroseref22_SameRolls.l0]
    have e1 : wrap64 ((i : Int) + 1) = ((i + 1 : Nat) : Int) := by rw [w64] <;> omega
    rw [if_pos (by omega), if_pos (by omega), if_pos (by omega), if_neg (by simp), e1]
    exact hK k hk
theorem same_rolls_ev (a : List Rol) (hl : a.length ≤ maxLen) : (∃ K, ∀ k, K ≤ k → windroseref22_SameRolls.f k a a = some (true)) := by
  obtain ⟨K, hK⟩ := same_rolls_loop a hl a.length 0 (by omega)
  refine Ev.mk K fun k hk => ?_
  unfold windroseref22_SameRolls.f
  rw [if_pos rfl]
  exact hK k hk
end Go.Proofs.Ythmjfoikkfoelaa.Q
end
section
set_option linter.unusedVariables false
namespace Go.Proofs.Ythmjfoikkfoelaa.Q
open Go Go.RowKit Go.Proofs.Ythmjfoikkfoelaa.G Go.Proofs.YthmjfoikkfoelaaW.PrintWords Go.Proofs.YthmjfoikkfoelaaW.PrintLast
def rat (l : List Rol) (i : Nat) : Rol := rd_T43 l i
def RB (r : Rol) : Prop := 0 ≤ r.f0 ∧ r.f0 ≤ 1099511627776 ∧ 1 ≤ r.f1 ∧ r.f1 ≤ 1099511627776 ∧ -9007199254740992 ≤ r.f2 ∧ r.f2 ≤ 9007199254740992 ∧
  -9007199254740992 ≤ r.f3 ∧ r.f3 ≤ 9007199254740992 ∧ -9007199254740992 ≤ r.f4 ∧ r.f4 ≤ 9007199254740992 ∧ -9007199254740992 ≤ r.f5 ∧ r.f5 ≤ 9007199254740992 ∧ r.f3 ≤ r.f4
def RFits (l : List Rol) (i : Nat) : Prop := RB (rat l i) ∧ (0 < i → (rat l (i - 1)).f0 < (rat l i).f0)
def MayR (l : List Rol) : Prop := ∀ i, i < l.length → RFits l i
noncomputable instance (l : List Rol) : Decidable (MayR l) := Classical.propDecidable _
theorem crolls_step (l : List Rol) (hl : l.length ≤ maxLen) (i : Nat) (hi : i < l.length) (k : Nat) :
    (RFits l i → compact_rolls.l0 (k + 2) l l (l.length : Int) (i : Int) = compact_rolls.l0 k l l (l.length : Int) ((i + 1 : Nat) : Int)) ∧ (¬ RFits l i → compact_rolls.l0 (k + 2) l l (l.length : Int) (i : Int) = some false) := by
  unfold maxLen at hl
  have w1 : Aside0 (wrap64 ((i : Int) + 1) = ((i + 1 : Nat) : Int)) := ⟨by rw [w64] <;> omega⟩
  have w2 : 0 < i → Aside0 (wrap64 ((i : Int) - 1) = ((i - 1 : Nat) : Int)) := fun h => ⟨by rw [w64] <;> omega⟩
  have c1 : (i : Int) < (l.length : Int) := by omega
  have c2 : (0 : Int) ≤ (i : Int) := Int.natCast_nonneg _
  obtain ⟨r, hr⟩ : ∃ r, r = rd_T43 l (i : Int) := ⟨_, rfl⟩
  have hrat : rat l i = r := hr.symm
  unfold RFits RB
  rw [hrat, compact_rolls.l0, if_pos c1, if_pos c2, if_pos c1, ← hr, in_ev, Option.bind_some]
  by_cases b2 : -9007199254740992 ≤ r.f2 ∧ r.f2 ≤ 9007199254740992
  case neg =>
    rw [decide_eq_false b2, if_neg (by decide), compact_rolls.j1, if_neg (by decide)]
    exact ⟨fun h => absurd ⟨h.1.2.2.2.2.1, h.1.2.2.2.2.2.1⟩ b2, fun _ => rfl⟩
  rw [decide_eq_true b2, if_pos rfl, in_ev, Option.bind_some]
  by_cases b3 : -9007199254740992 ≤ r.f3 ∧ r.f3 ≤ 9007199254740992
  case neg =>
    rw [decide_eq_false b3, if_neg (by decide), compact_rolls.j1, if_neg (by decide)]
    exact ⟨fun h => absurd ⟨h.1.2.2.2.2.2.2.1, h.1.2.2.2.2.2.2.2.1⟩ b3, fun _ => rfl⟩
  rw [decide_eq_true b3, if_pos rfl, in_ev, Option.bind_some]
  by_cases b4 : -9007199254740992 ≤ r.f4 ∧ r.f4 ≤ 9007199254740992
  case neg =>
    rw [decide_eq_false b4, if_neg (by decide), compact_rolls.j1, if_neg (by decide)]
    exact ⟨fun h => absurd ⟨h.1.2.2.2.2.2.2.2.2.1, h.1.2.2.2.2.2.2.2.2.2.1⟩ b4, fun _ => rfl⟩
  rw [decide_eq_true b4, if_pos rfl, in_ev, Option.bind_some]
  by_cases b5 : -9007199254740992 ≤ r.f5 ∧ r.f5 ≤ 9007199254740992
  case neg =>
    rw [decide_eq_false b5, compact_rolls.j1, if_neg (by decide)]
    exact ⟨fun h => absurd ⟨h.1.2.2.2.2.2.2.2.2.2.2.1, h.1.2.2.2.2.2.2.2.2.2.2.2.1⟩ b5, fun _ => rfl⟩
  rw [decide_eq_true b5, compact_rolls.j1, if_pos rfl, in_ev, Option.bind_some]
  by_cases b0 : 0 ≤ r.f0 ∧ r.f0 ≤ 1099511627776
  case neg =>
    rw [decide_eq_false b0, if_neg (by decide)]
    exact ⟨fun h => absurd ⟨h.1.1, h.1.2.1⟩ b0, fun _ => rfl⟩
  rw [decide_eq_true b0, if_pos rfl, in_ev, Option.bind_some]
  by_cases b1 : 1 ≤ r.f1 ∧ r.f1 ≤ 1099511627776
  case neg =>
    rw [decide_eq_false b1, if_neg (by decide)]
    exact ⟨fun h => absurd ⟨h.1.2.2.1, h.1.2.2.2.1⟩ b1, fun _ => rfl⟩
  rw [decide_eq_true b1, if_pos rfl]
  by_cases bm : r.f3 > r.f4
  case pos =>
    rw [if_pos bm]
    exact ⟨fun h => absurd h.1.2.2.2.2.2.2.2.2.2.2.2.2 (by omega), fun _ => rfl⟩
  rw [if_neg bm]
  have hRB : 0 ≤ r.f0 ∧ r.f0 ≤ 1099511627776 ∧ 1 ≤ r.f1 ∧ r.f1 ≤ 1099511627776 ∧ -9007199254740992 ≤ r.f2 ∧ r.f2 ≤ 9007199254740992 ∧ -9007199254740992 ≤ r.f3 ∧ r.f3 ≤ 9007199254740992 ∧ -9007199254740992 ≤ r.f4 ∧ r.f4 ≤ 9007199254740992 ∧ -9007199254740992 ≤ r.f5 ∧ r.f5 ≤ 9007199254740992 ∧ r.f3 ≤ r.f4 := ⟨b0.1, b0.2, b1.1, b1.2, b2.1, b2.2, b3.1, b3.2, b4.1, b4.2, b5.1, b5.2, by omega⟩
  by_cases h0 : 0 < i
  · rw [if_pos (by omega), (w2 h0).out, if_pos (Int.natCast_nonneg _), if_pos (by omega)]
    by_cases bp : r.f0 ≤ (rd_T43 l ((i - 1 : Nat) : Int)).f0
    · rw [if_pos bp]
      exact ⟨fun h => absurd (h.2 h0) (by unfold rat; omega), fun _ => rfl⟩
    · rw [if_neg bp, w1.out]
      exact ⟨fun _ => rfl, fun h => absurd ⟨hRB, fun _ => (by unfold rat; omega)⟩ h⟩
  · rw [if_neg (by omega), w1.out]
    exact ⟨fun _ => rfl, fun h => absurd ⟨hRB, fun h1 => absurd h1 h0⟩ h⟩
theorem all_true {l : List Rol} (h : ∀ j, j < l.length → RFits l j) : decide (MayR l) = true := decide_eq_true (fun j hj => h j hj)
theorem all_false {l : List Rol} {i : Nat} (hi : i < l.length) (h : ¬ RFits l i) : decide (MayR l) = false := decide_eq_false (fun hm => h (hm i hi))
theorem crolls_loop (l : List Rol) (hl : l.length ≤ maxLen) (d : Nat) : ∀ i : Nat, i + d = l.length → (∀ j, j < i → RFits l j) → (∃ K, ∀ k, K ≤ k → compact_rolls.l0 k l l (l.length : Int) (i : Int) = some ((decide (MayR l)))) := by
  induction d with
  | zero =>
    intro i hi hf
    refine Ev.succ 0 fun k _ => ?_
    rw [compact_rolls.l0, if_neg (by omega), all_true (fun j hj => hf j (by omega))]
  | succ d ih =>
    intro i hi hf
    have st := crolls_step l hl i (by omega)
    by_cases g : RFits l i
    · obtain ⟨K, hK⟩ := ih (i + 1) (by omega) (fun j hj => by
        rcases Nat.lt_or_ge j i with h | h
        · exact hf j h
        · obtain rfl : j = i := by omega
          exact g)
      refine ⟨K + 2, fun k hk => ?_⟩
      obtain ⟨k, rfl⟩ : ∃ m, k = m + 2 := ⟨k - 2, by omega⟩
      rw [(st k).1 g]
      exact hK k (by omega)
    · refine ⟨2, fun k hk => ?_⟩
      obtain ⟨k, rfl⟩ : ∃ m, k = m + 2 := ⟨k - 2, by omega⟩
      rw [(st k).2 g, all_false (by omega) g]
theorem crolls_ev (l : List Rol) (hl : l.length ≤ maxLen) : (∃ K, ∀ k, K ≤ k → compact_rolls.f k l = some ((decide (MayR l)))) := by
  obtain ⟨K, hK⟩ := crolls_loop l hl l.length 0 (by omega) (fun j hj => by omega)
  exact ⟨K, hK⟩
theorem mayR_step (l : List Rol) (hl : l.length ≤ maxLen) (i : Nat) (hi : i < l.length) (k : Nat) :
    (RFits l i → windroseref22_MayRolls.l0 (k + 1) l 9007199254740992 (i : Int) = windroseref22_MayRolls.l0 k l 9007199254740992 ((i + 1 : Nat) : Int)) ∧ (¬ RFits l i → windroseref22_MayRolls.l0 (k + 1) l 9007199254740992 (i : Int) = some false) := by
  unfold maxLen at hl
  have w1 : Aside0 (wrap64 ((i : Int) + 1) = ((i + 1 : Nat) : Int)) := ⟨by rw [w64] <;> omega⟩
  have w2 : 0 < i → Aside0 (wrap64 ((i : Int) - 1) = ((i - 1 : Nat) : Int)) := fun h => ⟨by rw [w64] <;> omega⟩
  have w3 : Aside0 (wrap64 (-9007199254740992) = -9007199254740992) := ⟨by rw [w64] <;> omega⟩
  have c1 : (i : Int) < (l.length : Int) := by omega
  have c2 : (0 : Int) ≤ (i : Int) := Int.natCast_nonneg _
  obtain ⟨r, hr⟩ : ∃ r, r = rd_T43 l (i : Int) := ⟨_, rfl⟩
  have hrat : rat l i = r := hr.symm
  unfold RFits RB
  rw [hrat, windroseref22_MayRolls.l0, if_pos c1, if_pos c2, ← hr, w3.out]
  by_cases b1 : r.f0 < 0
  · rw [if_pos b1]; exact ⟨fun h => absurd h.1.1 (by omega), fun _ => rfl⟩
  by_cases b2 : r.f0 > 1099511627776
  · rw [if_neg b1, if_pos b2]; exact ⟨fun h => absurd h.1.2.1 (by omega), fun _ => rfl⟩
  by_cases b3 : r.f1 < 1
  · rw [if_neg b1, if_neg b2, if_pos b3]; exact ⟨fun h => absurd h.1.2.2.1 (by omega), fun _ => rfl⟩
  by_cases b4 : r.f1 > 1099511627776
  · rw [if_neg b1, if_neg b2, if_neg b3, if_pos b4]; exact ⟨fun h => absurd h.1.2.2.2.1 (by omega), fun _ => rfl⟩
  by_cases b5 : r.f2 > 9007199254740992
  · rw [if_neg b1, if_neg b2, if_neg b3, if_neg b4, if_pos b5]; exact ⟨fun h => absurd h.1.2.2.2.2.2.1 (by omega), fun _ => rfl⟩
  by_cases b6 : r.f2 < -9007199254740992
  · rw [if_neg b1, if_neg b2, if_neg b3, if_neg b4, if_neg b5, if_pos b6]; exact ⟨fun h => absurd h.1.2.2.2.2.1 (by omega), fun _ => rfl⟩
  by_cases b7 : r.f3 > r.f4
  · rw [if_neg b1, if_neg b2, if_neg b3, if_neg b4, if_neg b5, if_neg b6, if_pos b7]; exact ⟨fun h => absurd h.1.2.2.2.2.2.2.2.2.2.2.2.2 (by omega), fun _ => rfl⟩
  by_cases b8 : r.f3 < -9007199254740992
  · rw [if_neg b1, if_neg b2, if_neg b3, if_neg b4, if_neg b5, if_neg b6, if_neg b7, if_pos b8]; exact ⟨fun h => absurd h.1.2.2.2.2.2.2.1 (by omega), fun _ => rfl⟩
  by_cases b9 : r.f4 > 9007199254740992
  · rw [if_neg b1, if_neg b2, if_neg b3, if_neg b4, if_neg b5, if_neg b6, if_neg b7, if_neg b8, if_pos b9]; exact ⟨fun h => absurd h.1.2.2.2.2.2.2.2.2.2.1 (by omega), fun _ => rfl⟩
  by_cases b10 : r.f5 > 9007199254740992
  · rw [if_neg b1, if_neg b2, if_neg b3, if_neg b4, if_neg b5, if_neg b6, if_neg b7, if_neg b8, if_neg b9, if_pos b10]; exact ⟨fun h => absurd h.1.2.2.2.2.2.2.2.2.2.2.2.1 (by omega), fun _ => rfl⟩
  by_cases b11 : r.f5 < -9007199254740992
  · rw [if_neg b1, if_neg b2, if_neg b3, if_neg b4, if_neg b5, if_neg b6, if_neg b7, if_neg b8, if_neg b9, if_neg b10, if_pos b11]; exact ⟨fun h => absurd h.1.2.2.2.2.2.2.2.2.2.2.1 (by omega), fun _ => rfl⟩
  rw [if_neg b1, if_neg b2, if_neg b3, if_neg b4, if_neg b5, if_neg b6, if_neg b7, if_neg b8, if_neg b9, if_neg b10, if_neg b11]
  have hRB : 0 ≤ r.f0 ∧ r.f0 ≤ 1099511627776 ∧ 1 ≤ r.f1 ∧ r.f1 ≤ 1099511627776 ∧ -9007199254740992 ≤ r.f2 ∧ r.f2 ≤ 9007199254740992 ∧ -9007199254740992 ≤ r.f3 ∧ r.f3 ≤ 9007199254740992 ∧ -9007199254740992 ≤ r.f4 ∧ r.f4 ≤ 9007199254740992 ∧ -9007199254740992 ≤ r.f5 ∧ r.f5 ≤ 9007199254740992 ∧ r.f3 ≤ r.f4 := by
    refine ⟨?_, ?_, ?_, ?_, ?_, ?_, ?_, ?_, ?_, ?_, ?_, ?_, ?_⟩ <;> omega
  by_cases h0 : 0 < i
  · rw [if_pos (by omega), (w2 h0).out, if_pos (Int.natCast_nonneg _), if_pos (by omega)]
    by_cases bp : (rd_T43 l ((i - 1 : Nat) : Int)).f0 ≥ r.f0
    · rw [if_pos bp]
      exact ⟨fun h => absurd (h.2 h0) (by unfold rat; omega), fun _ => rfl⟩
    · rw [if_neg bp, w1.out]
      exact ⟨fun _ => rfl, fun h => absurd ⟨hRB, fun _ => (by unfold rat; omega)⟩ h⟩
  · rw [if_neg (by omega), w1.out]
    exact ⟨fun _ => rfl, fun h => absurd ⟨hRB, fun h1 => absurd h1 h0⟩ h⟩
theorem mayR_loop (l : List Rol) (hl : l.length ≤ maxLen) (d : Nat) : ∀ i : Nat, i + d = l.length → (∀ j, j < i → RFits l j) → (∃ K, ∀ k, K ≤ k → windroseref22_MayRolls.l0 k l 9007199254740992 (i : Int) = some ((decide (MayR l)))) := by
  induction d with
  | zero =>
    intro i hi hf
    refine Ev.succ 0 fun k _ => ?_
    rw [windroseref22_MayRolls.l0, if_neg (by omega), all_true (fun j hj => hf j (by omega))]
  | succ d ih =>
    intro i hi hf
    have st := mayR_step l hl i (by omega)
    by_cases g : RFits l i
    · obtain ⟨K, hK⟩ := ih (i + 1) (by omega) (fun j hj => by
        rcases Nat.lt_or_ge j i with h | h
        · exact hf j h
        · obtain rfl : j = i := by omega
          exact g)
      refine Ev.succ K fun k hk => ?_
      rw [(st k).1 g]
      exact hK k (by omega)
    · refine Ev.succ 0 fun k hk => ?_
      rw [(st k).2 g, all_false (by omega) g]
theorem mayR_ev (l : List Rol) (hl : l.length ≤ maxLen) : (∃ K, ∀ k, K ≤ k → windroseref22_MayRolls.f k l = some ((decide (MayR l)))) := by
  obtain ⟨K, hK⟩ := mayR_loop l hl l.length 0 (by omega) (fun j hj => by omega)
  exact ⟨K, hK⟩
def pushes (acc l : List Rol) : List Rol := l.foldl push acc
theorem pushes_length (l : List Rol) : ∀ acc, (pushes acc l).length ≤ acc.length + l.length := by
  induction l with
  | nil => intro acc; simp [pushes]
  | cons r l ih =>
    intro acc
    have h1 := ih (push acc r)
    have h2 := push_length acc r
    show (pushes (push acc r) l).length ≤ _
    simp only [List.length_cons]
    omega
theorem join_loop (l : List Rol) (hl : l.length ≤ 100000) (d : Nat) : ∀ (i : Nat) (acc : List Rol), i + d = l.length → acc.length ≤ 100000 + i → (∃ K, ∀ k, K ≤ k → compact_Join.l0 k acc l (l.length : Int) i = some ((pushes acc (l.drop i), 0))) := by
  induction d with
  | zero =>
    intro i acc hi ha
    refine Ev.succ 0 fun k _ => ?_
    simp only [compact_Join.l0]
    rw [if_neg (by omega), List.drop_of_length_le (by omega)]
    rfl
  | succ d ih =>
    intro i acc hi ha
    have hp := push_length acc (rd_T43 l i)
    obtain ⟨K, hK⟩ := ih (i + 1) (push acc (rd_T43 l i)) (by omega) (by omega)
    refine Ev.succ K fun k hk => ?_
    simp only [compact_Join.l0]
    have e1 : wrap64 ((i : Int) + 1) = ((i + 1 : Nat) : Int) := by rw [w64] <;> omega
    rw [if_pos (by omega), if_pos (by omega), if_pos (by omega), push_ev acc _ (by omega), Option.bind_some, e1, hK k hk, drop_getD l i z43 (by omega)]
    rfl
theorem refjoin_loop (l : List Rol) (hl : l.length ≤ 200000) (d : Nat) : ∀ (i : Nat) (acc : List Rol), i + d = l.length → acc.length ≤ i → (∃ K, ∀ k, K ≤ k → windroseref22_join.l0 k l acc i = some ((pushes acc (l.drop i)))) := by
  induction d with
  | zero =>
    intro i acc hi ha
    refine Ev.succ 0 fun k _ => ?_
    simp only [windroseref22_join.l0]
    rw [if_neg (by omega), List.drop_of_length_le (by omega)]
    rfl
  | succ d ih =>
    intro i acc hi ha
    have hp := push_length acc (rd_T43 l i)
    obtain ⟨K, hK⟩ := ih (i + 1) (push acc (rd_T43 l i)) (by omega) (by omega)
    refine ⟨K + 3, fun k hk => ?_⟩
    obtain ⟨k, rfl⟩ : ∃ m, k = m + 3 := ⟨k - 3, by omega⟩
    have e1 : Aside0 (wrap64 ((i : Int) + 1) = ((i + 1 : Nat) : Int)) := ⟨by rw [w64] <;> omega⟩
    have hd : pushes acc (l.drop i) = pushes (push acc (rd_T43 l i)) (l.drop (i + 1)) := by rw [drop_getD l i z43 (by omega)]; rfl
    rw [hd]
    obtain ⟨r, hr⟩ : ∃ r, r = rd_T43 l (i : Int) := ⟨_, rfl⟩
    rw [← hr] at hK hp ⊢
    have c1 : (i : Int) < (l.length : Int) := by omega
    have c2 : (0 : Int) ≤ (i : Int) := Int.natCast_nonneg _
    rcases List.eq_nil_or_concat acc with rfl | ⟨m, x, rfl⟩
    · have e : Aside0 (wrap64 ((([] : List Rol).length : Int) - 1) = -1) := ⟨by simp only [List.length_nil]; rw [w64] <;> omega⟩
      have hk' := hK (k + 1) (by omega)
      rw [windroseref22_join.l0, if_pos c1, if_pos c2, e.out, if_pos (by omega), windroseref22_join.j1, if_pos rfl, if_pos (by simp), e1.out, ← hr]
      exact hk'
    · have hm : (m.concat x).length = m.length + 1 := by simp
      have e : Aside0 (wrap64 (((m.concat x).length : Int) - 1) = (m.length : Int)) := ⟨by rw [hm, w64] <;> omega⟩
      have er : rd_T43 (m.concat x) (m.length : Int) = x := by simp [rd_T43]
      have c3 : ¬ (m.length : Int) < 0 := by omega
      have c4 : (0 : Int) ≤ (m.length : Int) := Int.natCast_nonneg _
      have c5 : (m.length : Int) < ((m.concat x).length : Int) := by rw [hm]; omega
      rw [windroseref22_join.l0, if_pos c1, if_pos c2, e.out, if_neg c3, if_pos c4, if_pos c5, er, ← hr]
      by_cases hx : x.f0 = r.f0
      · have hb : (x.f0 != r.f0) = false := by simp [hx]
        have fin : ∀ a b, a = mn x.f3 r.f3 → b = mx x.f4 r.f4 → (m.concat x).set ((m.length : Nat) : Int).toNat (⟨x.f0, wrap64 (x.f1 + r.f1), wrap64 (x.f2 + r.f2), a, b, r.f5⟩ : Rol) = push (m.concat x) r := by
          intro a b ha hb
          rw [List.concat_eq_append, push_snoc, if_pos hx, Int.toNat_natCast, List.set_append_right _ _ (Nat.le_refl _), ha, hb]
          simp [both]
        have hk1 := hK k (by omega)
        rw [hb, windroseref22_join.j1, if_neg (by simp), if_pos c4, if_pos c5, er]
        by_cases g3 : r.f3 < x.f3
        · rw [if_pos g3, windroseref22_join.j2]
          by_cases g4 : r.f4 > x.f4
          · rw [if_pos g4, if_pos c4, if_pos c5, e1.out, fin _ _ (by unfold mn; rw [if_pos g3]) (by unfold mx; rw [if_pos (by omega)])]
            exact hk1
          · rw [if_neg g4, if_pos c4, if_pos c5, e1.out, fin _ _ (by unfold mn; rw [if_pos g3]) (by unfold mx; rw [if_neg (by omega)])]
            exact hk1
        · rw [if_neg g3, windroseref22_join.j2]
          by_cases g4 : r.f4 > x.f4
          · rw [if_pos g4, if_pos c4, if_pos c5, e1.out, fin _ _ (by unfold mn; rw [if_neg g3]) (by unfold mx; rw [if_pos (by omega)])]
            exact hk1
          · rw [if_neg g4, if_pos c4, if_pos c5, e1.out, fin _ _ (by unfold mn; rw [if_neg g3]) (by unfold mx; rw [if_neg (by omega)])]
            exact hk1
      · have hb : (x.f0 != r.f0) = true := by simp [hx]
        have hpu : push (m.concat x) r = m.concat x ++ [r] := by rw [List.concat_eq_append, push_snoc, if_neg hx]
        have hk1 := hK (k + 1) (by omega)
        rw [hpu] at hk1 ⊢
        rw [hb, windroseref22_join.j1, if_pos rfl, if_pos (by omega), e1.out]
        exact hk1
end Go.Proofs.Ythmjfoikkfoelaa.Q
end
section
set_option linter.unusedVariables false
namespace Go.Proofs.Ythmjfoikkfoelaa.Q
open Go Go.RowKit Go.Proofs.Ythmjfoikkfoelaa.G Go.Proofs.YthmjfoikkfoelaaW.PrintWords Go.Proofs.YthmjfoikkfoelaaW.PrintLast
theorem pushes_append (acc a b : List Rol) : pushes acc (a ++ b) = pushes (pushes acc a) b := List.foldl_append
theorem push_new (l : List Rol) (r : Rol) (h : ∀ x, l.getLast? = some x → x.f0 ≠ r.f0) : push l r = l ++ [r] := by
  rcases List.eq_nil_or_concat l with rfl | ⟨m, x, rfl⟩
  · rfl
  · rw [List.concat_eq_append, push_snoc, if_neg (h x (by simp))]
theorem pushes_rising (l : List Rol) (hm : MayR l) (d : Nat) : ∀ i, i + d = l.length → pushes (l.take i) (l.drop i) = l := by
  induction d with
  | zero => intro i hi; rw [List.drop_of_length_le (by omega), List.take_of_length_le (by omega)]; rfl
  | succ d ih =>
    intro i hi
    have hil : i < l.length := by omega
    rw [drop_getD l i z43 hil]
    show pushes (push (l.take i) (l.getD i z43)) (l.drop (i + 1)) = l
    have e : push (l.take i) (l.getD i z43) = l.take (i + 1) := by
      rw [push_new, List.take_succ_eq_append_getElem hil]
      · congr 2
        simp [List.getElem?_eq_getElem hil]
      · intro x hx
        rcases Nat.eq_zero_or_pos i with rfl | h0
        · simp at hx
        · have h1 := (hm i hil).2 h0
          have hx' : x = rat l (i - 1) := by
            rw [List.getLast?_eq_getElem?, List.length_take, Nat.min_eq_left (by omega), List.getElem?_take, if_pos (by omega), List.getElem?_eq_getElem (by omega)] at hx
            simp only [Option.some.injEq] at hx
            rw [← hx]
            simp [rat, rd_T43, List.getElem?_eq_getElem (show i - 1 < l.length by omega)]
          rw [hx']
          have h2 : (l.getD i z43) = rat l i := by simp [rat, rd_T43]
          rw [h2]
          omega
    rw [e]
    exact ih (i + 1) (by omega)
theorem pushes_self (l : List Rol) (hm : MayR l) : pushes [] l = l := pushes_rising l hm l.length 0 (by omega)
def lastT (a : List Rol) : Int := (rat a (a.length - 1)).f0
def firstT (b : List Rol) : Int := (rat b 0).f0
def MayJ (a b : List Rol) : Prop := MayR a ∧ MayR b ∧ ¬ (0 < a.length ∧ 0 < b.length ∧ firstT b < lastT a)
noncomputable instance (a b : List Rol) : Decidable (MayJ a b) := Classical.propDecidable _
theorem Join_ev (a b : List Rol) (ha : a.length ≤ 1000) (hb : b.length ≤ 1000) : (∃ K, ∀ k, K ≤ k → compact_Join.f k a b = some ((if MayJ a b then (pushes a b, 0) else ([], 1)))) := by
  obtain ⟨K1, h1⟩ := crolls_ev a (by unfold maxLen; omega)
  obtain ⟨K2, h2⟩ := crolls_ev b (by unfold maxLen; omega)
  have jbad : ∀ k, compact_Join.j0 (k + 1) a b true = some ([], 1) := fun k => by rw [compact_Join.j0, if_pos rfl]
  obtain ⟨K3, h3⟩ := join_loop b (by omega) b.length 0 a (by omega) (by omega)
  have jgood : ∀ k, K3 ≤ k → compact_Join.j0 (k + 1) a b false = some (pushes a b, 0) := fun k hk => by
    rw [compact_Join.j0, if_neg (by decide)]
    unfold api_Roll.f
    rw [if_pos (by omega), Option.bind_some]
    have := h3 k hk
    rw [List.drop_zero] at this
    exact this
  refine ⟨K1 + K2 + K3 + 1, fun k hk => ?_⟩
  obtain ⟨k, rfl⟩ : ∃ m, k = m + 1 := ⟨k - 1, by omega⟩
  unfold compact_Join.f
  rw [h1 _ (by omega), Option.bind_some]
  by_cases ma : MayR a
  case neg => rw [decide_eq_false ma, if_neg (by decide), jbad, if_neg (fun h => ma h.1)]
  rw [decide_eq_true ma, if_pos rfl, h2 _ (by omega), Option.bind_some]
  by_cases mb : MayR b
  case neg => rw [decide_eq_false mb, if_neg (by decide), jbad, if_neg (fun h => mb h.2.1)]
  rw [decide_eq_true mb, if_pos rfl]
  by_cases g1 : 0 < a.length
  · have w1 : Aside0 (wrap64 ((a.length : Int) - 1) = ((a.length - 1 : Nat) : Int)) := ⟨by rw [w64] <;> omega⟩
    by_cases g2 : 0 < b.length
    · rw [if_pos (by omega), if_pos (by omega), if_pos (by omega), w1.out, if_pos (Int.natCast_nonneg _), if_pos (by omega)]
      by_cases g3 : firstT b < lastT a
      · rw [decide_eq_true (show (rd_T43 b 0).f0 < (rd_T43 a ((a.length - 1 : Nat) : Int)).f0 from g3), jbad, if_neg (fun h => h.2.2 ⟨g1, g2, g3⟩)]
      · rw [decide_eq_false (show ¬ (rd_T43 b 0).f0 < (rd_T43 a ((a.length - 1 : Nat) : Int)).f0 from g3), jgood k (by omega), if_pos ⟨ma, mb, fun h => g3 h.2.2⟩]
    · rw [if_pos (by omega), if_neg (by omega), jgood k (by omega), if_pos ⟨ma, mb, fun h => g2 h.2.1⟩]
  · rw [if_neg (by omega), jgood k (by omega), if_pos ⟨ma, mb, fun h => g1 h.1⟩]
theorem refjoin_ev (l : List Rol) (hl : l.length ≤ 200000) : (∃ K, ∀ k, K ≤ k → windroseref22_join.f k l = some (pushes [] l)) := by
  obtain ⟨K, hK⟩ := refjoin_loop l hl l.length 0 [] (by omega) (by simp)
  rw [List.drop_zero] at hK
  exact ⟨K, hK⟩
theorem RefJoin_ev (a b : List Rol) (ha : a.length ≤ 1000) (hb : b.length ≤ 1000) : (∃ K, ∀ k, K ≤ k → windroseref22_Join.f k a b = some ((if MayJ a b then (pushes a b, 0) else ([], 1)))) := by
  obtain ⟨K1, h1⟩ := mayR_ev a (by unfold maxLen; omega)
  obtain ⟨K2, h2⟩ := mayR_ev b (by unfold maxLen; omega)
  obtain ⟨K3, h3⟩ := refjoin_ev (a ++ b) (by rw [List.length_append]; omega)
  have e : MayR a → pushes [] (a ++ b) = pushes a b := fun ma => by rw [pushes_append, pushes_self a ma]
  refine ⟨K1 + K2 + K3, fun k hk => ?_⟩
  unfold windroseref22_Join.f
  rw [h1 _ (by omega), Option.bind_some]
  by_cases ma : MayR a
  case neg => rw [decide_eq_false ma, if_neg (by decide), if_neg (fun h => ma h.1)]
  rw [decide_eq_true ma, if_pos rfl, h2 _ (by omega), Option.bind_some]
  by_cases mb : MayR b
  case neg => rw [decide_eq_false mb, if_neg (by decide), if_neg (fun h => mb h.2.1)]
  rw [decide_eq_true mb, if_pos rfl]
  by_cases g1 : 0 < a.length
  · have w1 : Aside0 (wrap64 ((a.length : Int) - 1) = ((a.length - 1 : Nat) : Int)) := ⟨by rw [w64] <;> omega⟩
    by_cases g2 : 0 < b.length
    · rw [if_pos (by omega), if_pos (by omega), w1.out, if_pos (Int.natCast_nonneg _), if_pos (by omega), if_pos (by omega)]
      by_cases g3 : firstT b < lastT a
      · rw [if_pos (show (rd_T43 a ((a.length - 1 : Nat) : Int)).f0 > (rd_T43 b 0).f0 from g3), if_neg (fun h => h.2.2 ⟨g1, g2, g3⟩)]
      · rw [if_neg (show ¬ (rd_T43 a ((a.length - 1 : Nat) : Int)).f0 > (rd_T43 b 0).f0 from g3), if_pos ⟨ma, mb, fun h => g3 h.2.2⟩, Option.bind_some, if_pos (by simp; omega), Option.bind_some, List.nil_append, if_pos (by omega), h3 _ (by omega), Option.bind_some, e ma]
    · rw [if_pos (by omega), if_neg (by omega), if_pos ⟨ma, mb, fun h => g2 h.2.1⟩, Option.bind_some, if_pos (by simp; omega), Option.bind_some, List.nil_append, if_pos (by omega), h3 _ (by omega), Option.bind_some, e ma]
  · rw [if_neg (by omega), if_pos ⟨ma, mb, fun h => g1 h.1⟩, Option.bind_some, if_pos (by simp; omega), Option.bind_some, List.nil_append, if_pos (by omega), h3 _ (by omega), Option.bind_some, e ma]
def widen (q : Int) (r : Rol) : Rol := ⟨r.f0 / q * q, r.f1, r.f2, r.f3, r.f4, r.f5⟩
def divs (w : Int) (r : Rol) : Bool := r.f0 % w == 0
theorem widen_in {q T : Int} (hq : 1 ≤ q) (h0 : 0 ≤ T) (h1 : T ≤ 1099511627776) : 0 ≤ T / q * q ∧ T / q * q ≤ T ∧ T - T % q = T / q * q := by
  have e := Int.mul_ediv_add_emod T q
  have n1 := Int.emod_nonneg T (show q ≠ 0 by omega)
  have n2 := Int.ediv_nonneg h0 (show 0 ≤ q by omega)
  have n3 := Int.mul_nonneg n2 (show 0 ≤ q by omega)
  rw [Int.mul_comm] at e
  omega
theorem wider_loop (w m : Int) (hw : 1 ≤ w ∧ w ≤ 1048576) (hm : 1 ≤ m ∧ m ≤ 1048576) (hq : 1 ≤ w * m ∧ w * m ≤ 1048576) (l : List Rol) (hM : MayR l) (hl : l.length ≤ 100000) (d : Nat) : ∀ (i : Nat) (acc : List Rol), i + d = l.length → acc.length ≤ i →
    (∃ K, ∀ k, K ≤ k → compact_Wider.l0 k w m acc l (l.length : Int) (i : Int) = some ((if (l.drop i).all (divs w) = true then (pushes acc ((l.drop i).map (widen (w * m))), 0) else ([], 1)))) := by
  have w0 : Aside0 (wrap64 (w * m) = w * m) := ⟨by rw [w64] <;> omega⟩
  induction d with
  | zero =>
    intro i acc hi ha
    refine Ev.succ 0 fun k _ => ?_
    rw [compact_Wider.l0, if_neg (by omega), List.drop_of_length_le (by omega)]
    rfl
  | succ d ih =>
    intro i acc hi ha
    have hil : i < l.length := by omega
    obtain ⟨r, hr⟩ : ∃ r, r = rd_T43 l (i : Int) := ⟨_, rfl⟩
    have hb := (hM i hil).1
    have hrat : rat l i = r := hr.symm
    rw [hrat] at hb
    have hwd := widen_in hq.1 hb.1 hb.2.1
    have hd : l.drop i = r :: l.drop (i + 1) := by rw [drop_getD l i z43 hil, hr]; rfl
    have w1 : Aside0 (wrap64 ((i : Int) + 1) = ((i + 1 : Nat) : Int)) := ⟨by rw [w64] <;> omega⟩
    have w2 : Aside0 (wrap64 (r.f0 - Int.tmod r.f0 (w * m)) = r.f0 / (w * m) * (w * m)) := ⟨by
      rw [tmod_nn hb.1, hwd.2.2]
      have := hwd.1
      have := hwd.2.1
      have := hb.2.1
      rw [w64] <;> omega⟩
    have hp := push_length acc (widen (w * m) r)
    obtain ⟨K, hK⟩ := ih (i + 1) (push acc (widen (w * m) r)) (by omega) (by omega)
    have c1 : (i : Int) < (l.length : Int) := by omega
    have hpe := push_ev acc (widen (w * m) r) (by omega)
    refine Ev.succ K fun k hk => ?_
    rw [compact_Wider.l0, if_pos c1, if_pos (Int.natCast_nonneg _), if_pos c1, if_neg (show ¬ w = 0 by omega), ← hr, tmod_nn hb.1, hd, List.all_cons]
    by_cases g : r.f0 % w = 0
    · rw [if_pos g, show divs w r = true by simp [divs, g], Bool.true_and, w0.out, if_neg (show ¬ w * m = 0 by omega), w2.out]
      have hpe' : compact_push.f acc (r.f0 / (w * m) * (w * m)) r.f1 r.f2 r.f3 r.f4 r.f5 = some (push acc (widen (w * m) r)) := hpe
      rw [hpe', Option.bind_some, w1.out, hK k hk]
      rfl
    · rw [if_neg g, show divs w r = false by simp [divs, g], Bool.false_and, if_neg (by decide)]
theorem refwider_loop (w m : Int) (hw : 1 ≤ w ∧ w ≤ 1048576) (hm : 1 ≤ m ∧ m ≤ 1048576) (hq : 1 ≤ w * m ∧ w * m ≤ 1048576) (l : List Rol) (hM : MayR l) (hl : l.length ≤ 100000) (d : Nat) : ∀ (i : Nat) (acc : List Rol), i + d = l.length → acc.length = i →
    (∃ K, ∀ k, K ≤ k → windroseref22_Wider.l0 k l w m acc (i : Int) = some ((if (l.drop i).all (divs w) = true then (pushes [] (acc ++ (l.drop i).map (widen (w * m))), 0) else ([], 1)))) := by
  have w0 : Aside0 (wrap64 (w * m) = w * m) := ⟨by rw [w64] <;> omega⟩
  induction d with
  | zero =>
    intro i acc hi ha
    obtain ⟨K, hK⟩ := refjoin_ev acc (by omega)
    refine Ev.succ K fun k hk => ?_
    rw [windroseref22_Wider.l0, if_neg (by omega), List.drop_of_length_le (by omega), hK k hk, Option.bind_some, List.map_nil, List.append_nil]
    rfl
  | succ d ih =>
    intro i acc hi ha
    have hil : i < l.length := by omega
    obtain ⟨r, hr⟩ : ∃ r, r = rd_T43 l (i : Int) := ⟨_, rfl⟩
    have hb := (hM i hil).1
    have hrat : rat l i = r := hr.symm
    rw [hrat] at hb
    have hwd := widen_in hq.1 hb.1 hb.2.1
    have hww := widen_in hw.1 hb.1 hb.2.1
    have hd : l.drop i = r :: l.drop (i + 1) := by rw [drop_getD l i z43 hil, hr]; rfl
    have w1 : Aside0 (wrap64 ((i : Int) + 1) = ((i + 1 : Nat) : Int)) := ⟨by rw [w64] <;> omega⟩
    have n1 := Int.ediv_nonneg hb.1 (show 0 ≤ w * m by omega)
    have n2 : r.f0 / (w * m) ≤ r.f0 := Int.ediv_le_self _ hb.1
    have n3 := Int.ediv_nonneg hb.1 (show 0 ≤ w by omega)
    have n4 : r.f0 / w ≤ r.f0 := Int.ediv_le_self _ hb.1
    have w2 : Aside0 (wrap64 (wrap64 (Int.tdiv r.f0 (w * m)) * (w * m)) = r.f0 / (w * m) * (w * m)) := ⟨by
      rw [tdiv_nn hb.1]
      have := hwd.1
      have := hwd.2.1
      have := hb.2.1
      rw [w64 (x := r.f0 / (w * m)) (by omega) (by omega), w64] <;> omega⟩
    have w3 : Aside0 (wrap64 (wrap64 (Int.tdiv r.f0 w) * w) = r.f0 / w * w) := ⟨by
      rw [tdiv_nn hb.1]
      have := hww.1
      have := hww.2.1
      have := hb.2.1
      rw [w64 (x := r.f0 / w) (by omega) (by omega), w64] <;> omega⟩
    obtain ⟨K, hK⟩ := ih (i + 1) (acc ++ [widen (w * m) r]) (by omega) (by simp [ha])
    have c1 : (i : Int) < (l.length : Int) := by omega
    refine Ev.succ K fun k hk => ?_
    rw [windroseref22_Wider.l0, if_pos c1, if_pos (Int.natCast_nonneg _), if_neg (show ¬ w = 0 by omega), ← hr, w3.out, hd, List.all_cons]
    by_cases g : r.f0 % w = 0
    · rw [if_pos (by have := hww.2.2; omega), show divs w r = true by simp [divs, g], Bool.true_and, w0.out, if_neg (show ¬ w * m = 0 by omega), w2.out, if_pos (by omega), w1.out]
      have e : acc ++ (widen (w * m) r :: (l.drop (i + 1)).map (widen (w * m))) = acc ++ [widen (w * m) r] ++ (l.drop (i + 1)).map (widen (w * m)) := by simp
      rw [List.map_cons, e]
      exact hK k hk
    · rw [if_neg (by have := hww.2.2; omega), show divs w r = false by simp [divs, g], Bool.false_and, if_neg (by decide)]
def MayW (l : List Rol) (w m : Int) : Prop := MayR l ∧ (1 ≤ w ∧ w ≤ 1048576) ∧ (1 ≤ m ∧ m ≤ 1048576) ∧ w * m ≤ 1048576
noncomputable instance (l : List Rol) (w m : Int) : Decidable (MayW l w m) := Classical.propDecidable _
noncomputable def widerR (l : List Rol) (w m : Int) : List Rol × Int := if MayW l w m then (if l.all (divs w) = true then (pushes [] (l.map (widen (w * m))), 0) else ([], 1)) else ([], 1)
theorem mul_in {w m : Int} (hw : 1 ≤ w ∧ w ≤ 1048576) (hm : 1 ≤ m ∧ m ≤ 1048576) : 1 ≤ w * m ∧ w * m ≤ 1099511627776 := by
  have h1 : 1 * 1 ≤ w * m := Int.mul_le_mul hw.1 hm.1 (by decide) (by omega)
  have h2 : w * m ≤ 1048576 * 1048576 := Int.mul_le_mul hw.2 hm.2 (by omega) (by decide)
  omega
theorem Wider_ev (l : List Rol) (hl : l.length ≤ 100000) (w m : Int) : (∃ K, ∀ k, K ≤ k → compact_Wider.f k l w m = some (widerR l w m)) := by
  obtain ⟨K1, h1⟩ := crolls_ev l (by unfold maxLen; omega)
  have jbad : ∀ k, compact_Wider.j0 (k + 1) l w m true = some ([], 1) := fun k => by rw [compact_Wider.j0, if_pos rfl]
  unfold widerR
  by_cases ml : MayR l
  case neg =>
    rw [if_neg (fun h => ml h.1)]
    refine ⟨K1 + 1, fun k hk => ?_⟩
    obtain ⟨k, rfl⟩ : ∃ m, k = m + 1 := ⟨k - 1, by omega⟩
    unfold compact_Wider.f
    rw [h1 _ (by omega), Option.bind_some, decide_eq_false ml, if_neg (by decide), jbad]
  by_cases hw : 1 ≤ w ∧ w ≤ 1048576
  case neg =>
    rw [if_neg (fun h => hw h.2.1)]
    refine ⟨K1 + 1, fun k hk => ?_⟩
    obtain ⟨k, rfl⟩ : ∃ m, k = m + 1 := ⟨k - 1, by omega⟩
    unfold compact_Wider.f
    rw [h1 _ (by omega), Option.bind_some, decide_eq_true ml, if_pos rfl, in_ev, Option.bind_some, decide_eq_false hw, if_neg (by decide), jbad]
  by_cases hm : 1 ≤ m ∧ m ≤ 1048576
  case neg =>
    rw [if_neg (fun h => hm h.2.2.1)]
    refine ⟨K1 + 1, fun k hk => ?_⟩
    obtain ⟨k, rfl⟩ : ∃ m, k = m + 1 := ⟨k - 1, by omega⟩
    unfold compact_Wider.f
    rw [h1 _ (by omega), Option.bind_some, decide_eq_true ml, if_pos rfl, in_ev, Option.bind_some, decide_eq_true hw, if_pos rfl, in_ev, Option.bind_some, decide_eq_false hm, if_neg (by decide), jbad]
  have hp := mul_in hw hm
  have w0 : Aside0 (wrap64 (w * m) = w * m) := ⟨by rw [w64] <;> omega⟩
  by_cases hq : w * m ≤ 1048576
  case neg =>
    rw [if_neg (fun h => hq h.2.2.2)]
    refine ⟨K1 + 1, fun k hk => ?_⟩
    obtain ⟨k, rfl⟩ : ∃ m, k = m + 1 := ⟨k - 1, by omega⟩
    unfold compact_Wider.f
    rw [h1 _ (by omega), Option.bind_some, decide_eq_true ml, if_pos rfl, in_ev, Option.bind_some, decide_eq_true hw, if_pos rfl, in_ev, Option.bind_some, decide_eq_true hm, if_pos rfl, w0.out, decide_eq_true (show w * m > 1048576 by omega), jbad]
  rw [if_pos ⟨ml, hw, hm, hq⟩]
  obtain ⟨K2, h2⟩ := wider_loop w m hw hm ⟨hp.1, hq⟩ l ml hl l.length 0 [] (by omega) (by simp)
  rw [List.drop_zero] at h2
  refine ⟨K1 + K2 + 1, fun k hk => ?_⟩
  obtain ⟨k, rfl⟩ : ∃ m, k = m + 1 := ⟨k - 1, by omega⟩
  unfold compact_Wider.f
  rw [h1 _ (by omega), Option.bind_some, decide_eq_true ml, if_pos rfl, in_ev, Option.bind_some, decide_eq_true hw, if_pos rfl, in_ev, Option.bind_some, decide_eq_true hm, if_pos rfl, w0.out, decide_eq_false (show ¬ w * m > 1048576 by omega), compact_Wider.j0, if_neg (by decide)]
  exact h2 k (by omega)
theorem RefWider_ev (l : List Rol) (hl : l.length ≤ 100000) (w m : Int) : (∃ K, ∀ k, K ≤ k → windroseref22_Wider.f k l w m = some (widerR l w m)) := by
  obtain ⟨K1, h1⟩ := mayR_ev l (by unfold maxLen; omega)
  have jbad : ∀ k, windroseref22_Wider.j0 (k + 1) l w m true = some ([], 1) := fun k => by rw [windroseref22_Wider.j0, if_pos rfl]
  unfold widerR
  by_cases ml : MayR l
  case neg =>
    rw [if_neg (fun h => ml h.1)]
    refine ⟨K1 + 1, fun k hk => ?_⟩
    obtain ⟨k, rfl⟩ : ∃ m, k = m + 1 := ⟨k - 1, by omega⟩
    unfold windroseref22_Wider.f
    rw [h1 _ (by omega), Option.bind_some, decide_eq_false ml, if_neg (by decide), jbad]
  by_cases a1 : w < 1
  · rw [if_neg (fun h => by have := h.2.1.1; omega)]
    refine ⟨K1 + 1, fun k hk => ?_⟩
    obtain ⟨k, rfl⟩ : ∃ m, k = m + 1 := ⟨k - 1, by omega⟩
    unfold windroseref22_Wider.f
    rw [h1 _ (by omega), Option.bind_some, decide_eq_true ml, if_pos rfl, if_pos a1, jbad]
  by_cases a2 : w > 1048576
  · rw [if_neg (fun h => by have := h.2.1.2; omega)]
    refine ⟨K1 + 1, fun k hk => ?_⟩
    obtain ⟨k, rfl⟩ : ∃ m, k = m + 1 := ⟨k - 1, by omega⟩
    unfold windroseref22_Wider.f
    rw [h1 _ (by omega), Option.bind_some, decide_eq_true ml, if_pos rfl, if_neg a1, if_pos a2, jbad]
  by_cases a3 : m < 1
  · rw [if_neg (fun h => by have := h.2.2.1.1; omega)]
    refine ⟨K1 + 1, fun k hk => ?_⟩
    obtain ⟨k, rfl⟩ : ∃ m, k = m + 1 := ⟨k - 1, by omega⟩
    unfold windroseref22_Wider.f
    rw [h1 _ (by omega), Option.bind_some, decide_eq_true ml, if_pos rfl, if_neg a1, if_neg a2, if_pos a3, jbad]
  by_cases a4 : m > 1048576
  · rw [if_neg (fun h => by have := h.2.2.1.2; omega)]
    refine ⟨K1 + 1, fun k hk => ?_⟩
    obtain ⟨k, rfl⟩ : ∃ m, k = m + 1 := ⟨k - 1, by omega⟩
    unfold windroseref22_Wider.f
    rw [h1 _ (by omega), Option.bind_some, decide_eq_true ml, if_pos rfl, if_neg a1, if_neg a2, if_neg a3, if_pos a4, jbad]
  have hw : 1 ≤ w ∧ w ≤ 1048576 := by omega
  have hm : 1 ≤ m ∧ m ≤ 1048576 := by omega
  have hp := mul_in hw hm
  have w0 : Aside0 (wrap64 (w * m) = w * m) := ⟨by rw [w64] <;> omega⟩
  by_cases hq : w * m ≤ 1048576
  case neg =>
    rw [if_neg (fun h => hq h.2.2.2)]
    refine ⟨K1 + 1, fun k hk => ?_⟩
    obtain ⟨k, rfl⟩ : ∃ m, k = m + 1 := ⟨k - 1, by omega⟩
    unfold windroseref22_Wider.f
    rw [h1 _ (by omega), Option.bind_some, decide_eq_true ml, if_pos rfl, if_neg a1, if_neg a2, if_neg a3, if_neg a4, w0.out, decide_eq_true (show w * m > 1048576 by omega), jbad]
  rw [if_pos ⟨ml, hw, hm, hq⟩]
  obtain ⟨K2, h2⟩ := refwider_loop w m hw hm ⟨hp.1, hq⟩ l ml hl l.length 0 [] (by omega) rfl
  rw [List.drop_zero, List.nil_append] at h2
  refine ⟨K1 + K2 + 1, fun k hk => ?_⟩
  obtain ⟨k, rfl⟩ : ∃ m, k = m + 1 := ⟨k - 1, by omega⟩
  unfold windroseref22_Wider.f
  rw [h1 _ (by omega), Option.bind_some, decide_eq_true ml, if_pos rfl, if_neg a1, if_neg a2, if_neg a3, if_neg a4, w0.out, decide_eq_false (show ¬ w * m > 1048576 by omega), windroseref22_Wider.j0, if_neg (by decide)]
  exact h2 k (by omega)
end Go.Proofs.Ythmjfoikkfoelaa.Q
end
section
namespace Go.Proofs.Ythmjfoikkfoelaa.Q
open Go Go.RowKit Go.Proofs.Ythmjfoikkfoelaa.G Go.Proofs.YthmjfoikkfoelaaW.PrintWords Go.Proofs.YthmjfoikkfoelaaW.PrintLast
theorem awake_ev : (∃ K, ∀ k, K ≤ k → windroselaw22_awake.f k = some (true)) := by
  have h : windroselaw22_awake.f 12 = some true := by decide +kernel
  exact Ev.of windroselaw22_awake.mono h
end Go.Proofs.Ythmjfoikkfoelaa.Q
end
section
namespace Go.Proofs.Ythmjfoikkfoelaa.Q
open Go Go.RowKit Go.Proofs.Ythmjfoikkfoelaa.G Go.Proofs.YthmjfoikkfoelaaW.PrintWords Go.Proofs.YthmjfoikkfoelaaW.PrintLast
theorem widerR_length (l : List Rol) (w m : Int) : (widerR l w m).1.length ≤ l.length := by
  unfold widerR
  split
  · split
    · have := pushes_length (l.map (widen (w * m))) []
      simpa using this
    · simp
  · simp
theorem CompactJoins : ∀ (l0 : List (S43)) (l1 : List (S43)) (a2_0 : Int) (a2_1 : Int), (l0.length ≤ maxLen ∧ ∀ y2 ∈ l0, ok43 y2) → (l1.length ≤ maxLen ∧ ∀ y2 ∈ l1, ok43 y2) → (Lit.int .i64 a2_0).wf = true ∧ (Lit.int .i64 a2_1).wf = true → ∃ k, windroselaw22_CompactJoins.f k l0 l1 a2_0 a2_1 = some true := by
  intro a b w m ha hb hw
  obtain ⟨K0, h0⟩ := awake_ev
  have stop : windroselaw22_CompactJoins.j0 (K0 + 1) a b true w m = some true := by
    simp only [windroselaw22_CompactJoins.j0]
    rw [if_pos trivial, h0 _ (by omega)]; rfl
  by_cases hA : (a.length : Int) > 100
  · exact ⟨K0 + 1, by unfold windroselaw22_CompactJoins.f; rw [if_pos hA]; exact stop⟩
  by_cases hB : (b.length : Int) > 100
  · exact ⟨K0 + 1, by unfold windroselaw22_CompactJoins.f; rw [if_neg hA, decide_eq_true hB]; exact stop⟩
  obtain ⟨K1, h1⟩ := Join_ev a b (by omega) (by omega)
  obtain ⟨K2, h2⟩ := RefJoin_ev a b (by omega) (by omega)
  obtain ⟨K3, h3⟩ := Wider_ev a (by omega) w m
  obtain ⟨K4, h4⟩ := RefWider_ev a (by omega) w m
  generalize hJ : (if MayJ a b then (pushes a b, (0 : Int)) else ([], 1)) = J at h1 h2
  have hJl : J.1.length ≤ maxLen := by
    have := pushes_length b a
    unfold maxLen
    rw [← hJ]
    split
    · simp only; omega
    · simp
  have hWl : (widerR a w m).1.length ≤ maxLen := by
    have := widerR_length a w m
    unfold maxLen
    omega
  obtain ⟨K5, h5⟩ := same_rolls_ev J.1 hJl
  obtain ⟨K6, h6⟩ := same_rolls_ev (widerR a w m).1 hWl
  refine ⟨K0 + K1 + K2 + K3 + K4 + K5 + K6 + 1, ?_⟩
  unfold windroselaw22_CompactJoins.f
  rw [if_neg hA, decide_eq_false hB]
  simp only [windroselaw22_CompactJoins.j0]
  rw [if_neg (by simp), h1 _ (by omega), Option.bind_some, h2 _ (by omega), Option.bind_some, h3 _ (by omega), Option.bind_some, h4 _ (by omega), Option.bind_some, if_pos rfl, h5 _ (by omega), Option.bind_some, if_pos rfl, if_pos rfl, h6 _ (by omega), Option.bind_some, if_pos rfl, h0 _ (by omega)]
  rfl
end Go.Proofs.Ythmjfoikkfoelaa.Q
end
