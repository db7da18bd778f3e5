/- Ytmddmbagehjdeaa: lines of the words and functions that the row GorillaNobody rests on, and the row. No condition. -/
import Derived.Test.YtmddmbagehjdeaaZGorillaNobody8
import Derived.Outline
section
set_option linter.unusedVariables false
set_option linter.unusedSimpArgs false
namespace Go.Proofs.Ytmddmbagehjdeaa.G
open Go Go.RowKit Go.Shelf Go.Proofs.YtmddmbagehjdeaaW.PrintWords Go.Proofs.YtmddmbagehjdeaaW.PrintLast Go.Proofs.YtmddmbagehjdeaaW.PrintMore
attribute [local go_sem] Oper.semAt_some
attribute [local go_sem] max2_int min2_int max_two min_two
def inB (x : Int) : Bool := decide (-4398046511104 ≤ x) && decide (x ≤ 4398046511104)
def unpStep (z : List S67 × S67 × S67) (a b : Int) : List S67 × S67 × S67 :=
  (z.1 ++ [⟨wrap64 (z.2.1.f0 + wrap64 (z.2.2.f0 + a)), wrap64 (z.2.1.f1 + wrap64 (z.2.2.f1 + b))⟩], ⟨wrap64 (z.2.1.f0 + wrap64 (z.2.2.f0 + a)), wrap64 (z.2.1.f1 + wrap64 (z.2.2.f1 + b))⟩,
    if z.1.length + 1 > 1 then ⟨wrap64 (z.2.2.f0 + a), wrap64 (z.2.2.f1 + b)⟩ else z.2.2)
def numA (nums : List Int) (j : Nat) : Int := rd nums ((1 + 2 * j : Nat) : Int)
def numB (nums : List Int) (j : Nat) : Int := rd nums ((2 + 2 * j : Nat) : Int)
def goodAt (nums : List Int) (j : Nat) : Bool := inB (numA nums j) && inB (numB nums j)
def unpSt (nums : List Int) {m : Nat} (pre : List (Fin m)) : List S67 × S67 × S67 := pre.foldl (fun z j => unpStep z (numA nums j.val) (numB nums j.val)) ([], z67, z67)
theorem unpSt_snoc (nums : List Int) {m : Nat} (pre : List (Fin m)) (x : Fin m) : unpSt nums (pre ++ [x]) = unpStep (unpSt nums pre) (numA nums x.val) (numB nums x.val) := by simp [unpSt]
set_option maxHeartbeats 1000000 in
theorem block_in_eq (a : Int) (w : World) : Calls Try.prog 86 #[.int .i64 a] w fun e w' => e = .returned (.bool (inB a)) ∧ w' = w := by
  by_cases h1 : -4398046511104 ≤ a
  · by_cases h2 : a ≤ 4398046511104
    · have e : inB a = true := by simp [inB, h1, h2]
      rw [e]
      go_enter Try.func86, Try.ntmps86
      go_wp2
      go_ret
      exact ⟨rfl, rfl⟩
    · have e : inB a = false := by simp [inB, h2]
      rw [e]
      have h3 : decide (a ≤ 4398046511104) = false := decide_eq_false h2
      go_enter Try.func86, Try.ntmps86
      go_wp2
      go_ret
      exact ⟨rfl, rfl⟩
  · have e : inB a = false := by simp [inB, h1]
    rw [e]
    have h3 : decide (-4398046511104 ≤ a) = false := decide_eq_false h1
    go_enter Try.func86, Try.ntmps86
    go_wp2
    go_ret
    exact ⟨rfl, rfl⟩
theorem blk_turn {W W' : World} {row : Option Nat} {l : Nat} {cs : Array Value} {t : Nat} (h : W.heap[l]? = some (.cells cs t (0, 0))) (hg : W.grownBy W' row) (hr : ∀ r, row = some r → ∃ o : Obj, W.heap[r]? = some o ∧ o.isCells = false) : W'.heap[l]? = some (.cells cs t (0, 0)) := by
  refine (hg.block l (Array.getElem?_eq_some_iff.1 h).1 (fun e => ?_)).trans h
  obtain ⟨o, ho, hc⟩ := hr l e.symm
  rw [h] at ho
  injection ho with ho
  subst ho
  cases hc
theorem R_turn {α : Type} {d : Kd α} {e : Nat} {W W' : World} {base : Nat} {ok : Nat → Prop} {v : Value} {xs : List α} {row : Option Nat} (h : d.R e W base ok v xs) (hg : W.grownBy W' row) (hr : ∀ r, row = some r → ∃ o : Obj, W.heap[r]? = some o ∧ o.isCells = false) : d.R e W' base ok v xs :=
  Kd.R_mono (Kd.R_move (Kd.R_bound h) (fun k hk => hg.block k hk.2.2.1 (fun e => by
    obtain ⟨o, ho, hc⟩ := hr k e.symm
    obtain ⟨_, _, _, q, hq, cells, hk2⟩ := hk
    rw [hk2] at ho
    injection ho with ho
    subst ho
    cases hc))) (fun _ hk => hk.1)
theorem heap_new_at (W : World) (o : Obj) (k : Nat) (h : W.heap.size = k) : (W.alloc o).heap[k]? = some o := by subst h; exact World.alloc_heap_new W o
theorem heap_old_at (W : World) (o o' : Obj) (k : Nat) (hk : W.heap[k]? = some o') : (W.alloc o).heap[k]? = some o' := (Below.heap_alloc W o k (Array.getElem?_eq_some_iff.1 hk).1).trans hk
def UI (w : World) (nums : List Int) {m : Nat} (pre : List (Fin m)) (W : World) : Prop :=
  (∀ j ∈ pre, goodAt nums j.val = true) ∧ W.heap[w.heap.size + 1]? = some (.cells #[.slice none 0 0] 65 (0, 0)) ∧ W.heap[w.heap.size + 1 + 1]? = some (.cells #[.int .i64 0] 26 (0, 0)) ∧
  W.heap[w.heap.size + 1 + 1 + 1 + 1]? = some (.cells #[.int .i64 (unpSt nums pre).2.1.f0, .int .i64 (unpSt nums pre).2.1.f1] 67 (0, 0)) ∧
  W.heap[w.heap.size + 1 + 1 + 1 + 1 + 1]? = some (.cells #[.int .i64 (unpSt nums pre).2.2.f0, .int .i64 (unpSt nums pre).2.2.f1] 67 (0, 0)) ∧
  (∃ v, W.heap[w.heap.size + 1 + 1 + 1]? = some (.cells #[v] 65 (0, 0)) ∧ Kd.R k67 67 W w.heap.size (fun k => w.heap.size + 8 ≤ k) v (unpSt nums pre).1) ∧ Below w.heap.size w W ∧ w.heap.size + 8 ≤ W.heap.size
def UX (w : World) (nums : List Int) {m : Nat} (c : Code) (pre : List (Fin m)) (W : World) : Prop :=
  c = .ret ∧ (∃ j ∈ pre, goodAt nums j.val = false) ∧ W.heap[w.heap.size + 1]? = some (.cells #[.slice none 0 0] 65 (0, 0)) ∧ W.heap[w.heap.size + 1 + 1]? = some (.cells #[.int .i64 2] 26 (0, 0)) ∧ Below w.heap.size w W
theorem UI_own (w : World) (nums : List Int) {m : Nat} (B : Nat) (hB : w.heap.size ≤ B) : OwnFrom B (UI w nums (m := m)) := by
  rintro s W W' row ⟨h0, h1, h2, h3, h4, ⟨v, h5, h6⟩, h7, h8⟩ hg hr
  have hr' := fun r e => (hr r e).2
  exact ⟨h0, blk_turn h1 hg hr', blk_turn h2 hg hr', blk_turn h3 hg hr', blk_turn h4 hg hr', ⟨v, blk_turn h5 hg hr', R_turn h6 hg hr'⟩, h7.grown hg h7.size (fun k e => Nat.le_trans hB (hr k e).1), Nat.le_trans h8 hg.size⟩
theorem UX_own (w : World) (nums : List Int) {m : Nat} (B : Nat) (hB : w.heap.size ≤ B) (c : Code) : OwnFrom B (UX w nums (m := m) c) := by
  rintro s W W' row ⟨h0, h00, h1, h2, h7⟩ hg hr
  have hr' := fun r e => (hr r e).2
  exact ⟨h0, h00, blk_turn h1 hg hr', blk_turn h2 hg hr', h7.grown hg h7.size (fun k e => Nat.le_trans hB (hr k e).1)⟩
theorem cut_by {C G : Prop} (main : C → G) (cont : C) : G := main cont
theorem ux_bad (w W : World) (nums : List Int) {m : Nat} (pre : List (Fin m)) (x : Fin m) (hb : goodAt nums x.val = false) (h1 : W.heap[w.heap.size + 1]? = some (.cells #[.slice none 0 0] 65 (0, 0))) (h2 : W.heap[w.heap.size + 1 + 1]? = some (.cells #[.int .i64 0] 26 (0, 0))) (h7 : Below w.heap.size w W) :
    KeepsOthers W ((W.setCell ⟨w.heap.size + 1, 0, none⟩ (.slice none 0 0)).setCell ⟨w.heap.size + 1 + 1, 0, none⟩ (.int .i64 2)) ∧ UX w nums .ret (pre ++ [x]) ((W.setCell ⟨w.heap.size + 1, 0, none⟩ (.slice none 0 0)).setCell ⟨w.heap.size + 1 + 1, 0, none⟩ (.int .i64 2)) := by
  refine ⟨(KeepsOthers.setCell _ _ _).trans (KeepsOthers.setCell _ _ _), rfl, ⟨x, by simp, hb⟩, ?_, ?_, ?_⟩
  · exact blk_far (p := ⟨w.heap.size + 1 + 1, 0, none⟩) (blk_set h1 0 _) (by simp) _
  · exact blk_set (blk_far (p := ⟨w.heap.size + 1, 0, none⟩) h2 (by simp) _) 0 _
  · exact (h7.setCell (by simp only; omega) _).setCell (by simp only; omega) _
theorem unpSt_len (nums : List Int) {m : Nat} (pre : List (Fin m)) : (unpSt nums pre).1.length = pre.length := by
  unfold unpSt
  have : ∀ (l : List (Fin m)) (z : List S67 × S67 × S67), (l.foldl (fun z j => unpStep z (numA nums j.val) (numB nums j.val)) z).1.length = z.1.length + l.length := by
    intro l
    induction l with
    | nil => intro z; rfl
    | cons y ys ih => intro z; rw [List.foldl_cons, ih]; simp [unpStep]; omega
  simpa using this pre ([], z67, z67)
theorem R_set {α : Type} {d : Kd α} {e : Nat} {W : World} {base : Nat} {ok : Nat → Prop} {v : Value} {xs : List α} (h : d.R e W base ok v xs) (p : Addr) (u : Value) (hp : ∀ k, ok k → k ≠ p.block) : d.R e (W.setCell p u) base ok v xs :=
  Kd.R_move h (fun k hk => Below.heap_setCell _ _ _ _ (hp k hk))
theorem ui_next (w w' w1 : World) (nums : List Int) {m : Nat} (pre : List (Fin m)) (x : Fin m) (A B X Y : Int) (v v1 : Value) (hA : A = wrap64 ((unpSt nums pre).2.2.f0 + numA nums x.val)) (hB : B = wrap64 ((unpSt nums pre).2.2.f1 + numB nums x.val))
    (hX : X = wrap64 ((unpSt nums pre).2.1.f0 + A)) (hY : Y = wrap64 ((unpSt nums pre).2.1.f1 + B)) (hgood : ∀ j ∈ pre, goodAt nums j.val = true) (hx : goodAt nums x.val = true) (K1 : KeepsOthers w' w1)
    (g1 : w1.heap[w.heap.size + 1]? = some (.cells #[.slice none 0 0] 65 (0, 0))) (g2 : w1.heap[w.heap.size + 1 + 1]? = some (.cells #[.int .i64 0] 26 (0, 0))) (g3 : w1.heap[w.heap.size + 1 + 1 + 1]? = some (.cells #[v] 65 (0, 0)))
    (g4 : w1.heap[w.heap.size + 1 + 1 + 1 + 1]? = some (.cells #[.int .i64 X, .int .i64 Y] 67 (0, 0))) (g5 : w1.heap[w.heap.size + 1 + 1 + 1 + 1 + 1]? = some (.cells #[.int .i64 (unpSt nums pre).2.2.f0, .int .i64 (unpSt nums pre).2.2.f1] 67 (0, 0)))
    (g6 : w1.heap[w.heap.size + 1 + 1 + 1 + 1 + 1 + 1]? = w'.heap[w.heap.size + 1 + 1 + 1 + 1 + 1 + 1]?) (g7 : w1.heap[w.heap.size + 1 + 1 + 1 + 1 + 1 + 1 + 1]? = w'.heap[w.heap.size + 1 + 1 + 1 + 1 + 1 + 1 + 1]?)
    (hr1 : Kd.R k67 67 w1 w.heap.size (fun k => w.heap.size + 8 ≤ k) v1 ((unpSt nums pre).1 ++ [⟨X, Y⟩])) (hb1 : Below w.heap.size w w1) (hs1 : w.heap.size + 8 ≤ w1.heap.size) :
    (∀ Wf : World, ¬ 1 < (unpSt nums pre).1.length + 1 → Wf = w1.setCell ⟨w.heap.size + 1 + 1 + 1, 0, none⟩ v1 → KeepsOthers w' Wf ∧ KeepsTwo (w.heap.size + 1 + 1 + 1 + 1 + 1 + 1) (w.heap.size + 1 + 1 + 1 + 1 + 1 + 1 + 1) w' Wf ∧ UI w nums (pre ++ [x]) Wf) ∧
    (∀ Wf : World, 1 < (unpSt nums pre).1.length + 1 → Wf = ((w1.setCell ⟨w.heap.size + 1 + 1 + 1, 0, none⟩ v1).setCell ⟨w.heap.size + 1 + 1 + 1 + 1 + 1, 0, none⟩ (.int .i64 A)).setCell ⟨w.heap.size + 1 + 1 + 1 + 1 + 1, 1, none⟩ (.int .i64 B) → KeepsOthers w' Wf ∧ KeepsTwo (w.heap.size + 1 + 1 + 1 + 1 + 1 + 1) (w.heap.size + 1 + 1 + 1 + 1 + 1 + 1 + 1) w' Wf ∧ UI w nums (pre ++ [x]) Wf) := by
  have hg' : ∀ j ∈ pre ++ [x], goodAt nums j.val = true := fun j hj => by
    rcases List.mem_append.1 hj with h | h
    · exact hgood j h
    · rw [List.mem_singleton.1 h]; exact hx
  have far : ∀ (W : World) (g h' i : Nat) (u : Value) (cs : Array Value) (t : Nat), W.heap[g]? = some (.cells cs t (0, 0)) → g ≠ h' → (W.setCell ⟨h', i, none⟩ u).heap[g]? = some (.cells cs t (0, 0)) := fun W g h' i u cs t hb hne => blk_far (p := ⟨h', i, none⟩) hb hne u
  have same : ∀ (W : World) (g h' i : Nat) (u : Value), g ≠ h' → (W.setCell ⟨h', i, none⟩ u).heap[g]? = W.heap[g]? := fun W g h' i u hne => Below.heap_setCell W ⟨h', i, none⟩ u g hne
  constructor
  · rintro Wf hc rfl
    refine ⟨K1.trans (KeepsOthers.setCell _ _ _), ⟨?_, ?_⟩, hg', ?_, ?_, ?_, ?_, ⟨v1, ?_, ?_⟩, hb1.setCell (by simp only; omega) _, by simpa using hs1⟩
    · rw [same _ _ _ _ _ (by omega)]; exact g6
    · rw [same _ _ _ _ _ (by omega)]; exact g7
    · exact far _ _ _ _ _ _ _ g1 (by omega)
    · exact far _ _ _ _ _ _ _ g2 (by omega)
    · rw [unpSt_snoc]
      simp only [unpStep]
      rw [← hA, ← hB, ← hX, ← hY]
      exact far _ _ _ _ _ _ _ g4 (by omega)
    · rw [unpSt_snoc]
      simp only [unpStep]
      rw [if_neg (by simpa using hc)]
      exact far _ _ _ _ _ _ _ g5 (by omega)
    · exact blk_set g3 0 v1
    · rw [unpSt_snoc]
      simp only [unpStep]
      rw [← hA, ← hB, ← hX, ← hY]
      exact R_set hr1 _ _ (fun k hk => by simp only; omega)
  · rintro Wf hc rfl
    refine ⟨((K1.trans (KeepsOthers.setCell _ _ _)).trans (KeepsOthers.setCell _ _ _)).trans (KeepsOthers.setCell _ _ _), ⟨?_, ?_⟩, hg', ?_, ?_, ?_, ?_, ⟨v1, ?_, ?_⟩, ((hb1.setCell (by simp only; omega) _).setCell (by simp only; omega) _).setCell (by simp only; omega) _, by simpa using hs1⟩
    · rw [same _ _ _ _ _ (by omega), same _ _ _ _ _ (by omega), same _ _ _ _ _ (by omega)]; exact g6
    · rw [same _ _ _ _ _ (by omega), same _ _ _ _ _ (by omega), same _ _ _ _ _ (by omega)]; exact g7
    · exact far _ _ _ _ _ _ _ (far _ _ _ _ _ _ _ (far _ _ _ _ _ _ _ g1 (by omega)) (by omega)) (by omega)
    · exact far _ _ _ _ _ _ _ (far _ _ _ _ _ _ _ (far _ _ _ _ _ _ _ g2 (by omega)) (by omega)) (by omega)
    · rw [unpSt_snoc]
      simp only [unpStep]
      rw [← hA, ← hB, ← hX, ← hY]
      exact far _ _ _ _ _ _ _ (far _ _ _ _ _ _ _ (far _ _ _ _ _ _ _ g4 (by omega)) (by omega)) (by omega)
    · rw [unpSt_snoc]
      simp only [unpStep]
      rw [if_pos (by simpa using hc)]
      rw [← hA, ← hB]
      exact blk_set (blk_set (far _ _ _ _ _ _ _ g5 (by omega)) 0 _) 1 _
    · exact far _ _ _ _ _ _ _ (far _ _ _ _ _ _ _ (blk_set g3 0 v1) (by omega)) (by omega)
    · rw [unpSt_snoc]
      simp only [unpStep]
      rw [← hA, ← hB, ← hX, ← hY]
      exact R_set (R_set (R_set hr1 _ _ (fun k hk => by simp only; omega)) _ _ (fun k hk => by simp only; omega)) _ _ (fun k hk => by simp only; omega)
theorem unp_end (w Wf : World) (r1 : List S67) (r2 : Int) (Q : Ending → World → Prop) (hQ : (fun e w' => ∃ v0_ : Value, e = .returned (.tuple #[v0_, .int .i64 r2]) ∧ Kd.R k67 67 w' w.heap.size (fun _ => True) v0_ r1 ∧ Below w.heap.size w w') = Q)
    (tm : Array Value) (D : Nat) (hD : w.heap.size ≤ D) (v0 : Value) (ht2 : tm[2]?.getD undef = .pointer (some ⟨w.heap.size + 1, 0, none⟩)) (ht3 : tm[3]?.getD undef = .pointer (some ⟨w.heap.size + 1 + 1, 0, none⟩))
    (h1 : Wf.heap[w.heap.size + 1]? = some (.cells #[v0] 65 (0, 0))) (h2 : Wf.heap[w.heap.size + 1 + 1]? = some (.cells #[.int .i64 r2] 26 (0, 0))) (hK : Wf.heap[D]? = some (.deferred (some []))) (hR : Kd.R k67 67 Wf w.heap.size (fun _ => True) v0 r1) (hB : Below w.heap.size w Wf) :
    bodyPostM Fence.wide 5 Try.prog Try.f73 Q Exit.ret { tmps := tm, defers := [{ target := Target.collected D, args := #[] }] } Wf := by
  refine ⟨by simp, .inl ⟨_, _, rfl, run_takeDeferred hK, ?_⟩⟩
  have hg := grownBy_putObj' Wf D (.deferred none)
  have hr : ∀ r, some D = some r → ∃ o : Obj, Wf.heap[r]? = some o ∧ o.isCells = false := fun r e => by cases e; exact ⟨_, hK, rfl⟩
  have g1 := blk_turn h1 hg hr
  have g2 := blk_turn h2 hg hr
  have c1 : (Wf.putObj D (.deferred none)).cell? ⟨w.heap.size + 1, 0, none⟩ = some v0 := (blk_cell g1 0).trans rfl
  have c2 : (Wf.putObj D (.deferred none)).cell? ⟨w.heap.size + 1 + 1, 0, none⟩ = some (.int .i64 r2) := (blk_cell g2 0).trans rfl
  refine ⟨.tuple #[v0, .int .i64 r2], ?_, ?_⟩
  · simp [results, Try.f73, go_sem, c1, c2, ht2, ht3]
  · rw [← hQ]
    exact ⟨v0, rfl, R_turn hR hg hr, hB.grown hg hB.size (fun k e => by cases e; exact hD)⟩
theorem bad_next (w W : World) (h1 : W.heap[w.heap.size + 1]? = some (.cells #[.slice none 0 0] 65 (0, 0))) (h2 : W.heap[w.heap.size + 1 + 1]? = some (.cells #[.int .i64 0] 26 (0, 0))) (h7 : Below w.heap.size w W) (Wf : World) (hW : Wf = (W.setCell ⟨w.heap.size + 1, 0, none⟩ (.slice none 0 0)).setCell ⟨w.heap.size + 1 + 1, 0, none⟩ (.int .i64 2)) :
    KeepsOthers W Wf ∧ Wf.heap[w.heap.size + 1]? = some (.cells #[.slice none 0 0] 65 (0, 0)) ∧ Wf.heap[w.heap.size + 1 + 1]? = some (.cells #[.int .i64 2] 26 (0, 0)) ∧ Below w.heap.size w Wf := by
  subst hW
  exact ⟨(KeepsOthers.setCell _ _ _).trans (KeepsOthers.setCell _ _ _), blk_far (p := ⟨w.heap.size + 1 + 1, 0, none⟩) (blk_set h1 0 _) (by simp) _, blk_set (blk_far (p := ⟨w.heap.size + 1, 0, none⟩) h2 (by simp) _) 0 _, (h7.setCell (by simp only; omega) _).setCell (by simp only; omega) _⟩
theorem good_next (w W : World) (v : Value) (h1 : W.heap[w.heap.size + 1]? = some (.cells #[.slice none 0 0] 65 (0, 0))) (h2 : W.heap[w.heap.size + 1 + 1]? = some (.cells #[.int .i64 0] 26 (0, 0))) (h7 : Below w.heap.size w W) (r1 : List S67) (hR : Kd.R k67 67 W w.heap.size (fun k => w.heap.size + 8 ≤ k) v r1) (Wf : World) (hW : Wf = (W.setCell ⟨w.heap.size + 1, 0, none⟩ v).setCell ⟨w.heap.size + 1 + 1, 0, none⟩ (.int .i64 0)) :
    KeepsOthers W Wf ∧ Wf.heap[w.heap.size + 1]? = some (.cells #[v] 65 (0, 0)) ∧ Wf.heap[w.heap.size + 1 + 1]? = some (.cells #[.int .i64 0] 26 (0, 0)) ∧ Kd.R k67 67 Wf w.heap.size (fun _ => True) v r1 ∧ Below w.heap.size w Wf := by
  subst hW
  exact ⟨(KeepsOthers.setCell _ _ _).trans (KeepsOthers.setCell _ _ _), blk_far (p := ⟨w.heap.size + 1 + 1, 0, none⟩) (blk_set h1 0 _) (by simp) _, blk_set (blk_far (p := ⟨w.heap.size + 1, 0, none⟩) h2 (by simp) _) 0 _, Kd.R_mono (R_set (R_set hR _ _ (fun k hk => by simp only; omega)) _ _ (fun k hk => by simp only; omega)) (fun _ _ => trivial), (h7.setCell (by simp only; omega) _).setCell (by simp only; omega) _⟩
set_option maxRecDepth 100000 in
set_option maxHeartbeats 4000000 in
theorem unp_walk (k : Nat) (ad : Addr) (c0_0 : Nat) (nums : List Int) (A0_1 : Option Addr) (c0_1 : Nat) (texts : List ByteArray) (w : World) (hr0 : Kd.C (Kd.int .i64) w (some ad) nums.length nums) (hc0 : nums.length ≤ c0_0)
   (m : Nat) (hm : nums.length = 2 * m + 1) (hm64 : m ≤ 64) (h00 : rd nums 0 = m) (ht : texts = []) (r1 : List S67) (r2 : Int)
   (hres1 : (∀ j : Fin m, goodAt nums j.val = true) → ∃ rc, block_Check.f k (unpSt nums (List.finRange m)).1 = some rc ∧ (r1, r2) = if rc = 0 then ((unpSt nums (List.finRange m)).1, (0 : Int)) else ([], 2))
   (hres2 : (∃ j : Fin m, goodAt nums j.val = false) → (r1, r2) = ([], (2 : Int))) :
    Calls Try.prog 73 #[.agg #[.slice (some ad) nums.length c0_0, .slice A0_1 texts.length c0_1]] w fun e w' => ∃ v0_ : Value, e = .returned (.tuple #[v0_, .int .i64 r2]) ∧ Kd.R k67 67 w' w.heap.size (fun _ => True) v0_ r1 ∧ Below w.heap.size w w' := by
  obtain ⟨Q, hQ⟩ : ∃ Q : Ending → World → Prop, (fun e w' => ∃ v0_ : Value, e = .returned (.tuple #[v0_, .int .i64 r2]) ∧ Kd.R k67 67 w' w.heap.size (fun _ => True) v0_ r1 ∧ Below w.heap.size w w') = Q := ⟨_, rfl⟩
  rw [hQ]
  have HQQ := Aside0.mk hQ
  have HRES1 := Aside0.mk hres1
  have HRES2 := Aside0.mk hres2
  clear hQ hres1 hres2
  refine (callsIn_wide (n := 5)).1 ?_
  have hro : Fence.wide.round = none := rfl
  have hfn : ∀ f, Fence.wide.fn f = True := fun _ => eq_true trivial
  refine callsIn_of_wp_marks Try.func73 rfl trivial ?_ hro
  simp only [Try.ntmps73, List.size_toArray, List.length_cons, List.length_nil, Nat.reduceAdd, Nat.reduceSub, Array.replicate_succ, Array.replicate_zero, List.push_toArray, List.append_toArray, List.nil_append, List.cons_append]
  subst ht
  have hu29 := Try.underlying98
  have hu42 := Try.underlying67
  have hc00 : w.cell? ad = some (.int .i64 m) := by
    obtain ⟨ad', e, hx⟩ := Kd.at_int hr0 0 (by omega) (by omega)
    cases e
    rw [h00] at hx
    simpa [Addr.add] using hx
  have hlt := World.block_lt_of_cell? w _ hc00
  have hA : ∀ o1 o2 o3, (((w.alloc o1).alloc o2).alloc o3).cell? ad = some (.int .i64 m) := fun o1 o2 o3 => by
    rw [World.cell?_alloc_lt _ _ _ (by simp; omega), World.cell?_alloc_lt _ _ _ (by simp; omega), World.cell?_alloc_lt _ _ _ hlt, hc00]
  obtain ⟨q, hq⟩ : ∃ q : Int, q = (m : Int) := ⟨_, rfl⟩
  rw [← hq] at hA
  have HQ := Aside0.mk hq
  have t1 : (2 * (m : Int) + 1 == 0) = false := by simp; omega
  have t2 : (2 * (m : Int) + 1) / 2 = q := by omega
  have t3 : decide (64 < q) = false := by simp; omega
  clear hq
  obtain ⟨i0, hi, hz0, hz1, hz2⟩ := info_parts info3
  obtain ⟨A1, hA1, hcut⟩ : ∃ A1 : Option Addr, (m = 0 ∨ A1 = some ⟨ad.block, ad.off + 1, none⟩) ∧ ∀ W : World, (Instr.slice 22 (.slice (some ad) (2 * m + 1) c0_0) (some (.int .i64 1)) none none).run Try.prog W = .ok (.slice A1 (2 * m) (c0_0 - 1)) W := by
    refine ⟨if c0_0 = 1 then some ad else some ⟨ad.block, ad.off + 1, none⟩, ?_, fun W => ?_⟩
    · rcases Nat.eq_zero_or_pos m with h | h
      · exact .inl h
      · exact .inr (if_neg (by omega))
    · have h := cut_from (P := Try.prog) 22 3 .i64 Try.underlying22 hi 1 hz1 (some ad) (2 * m + 1) c0_0 1 (by omega) (by omega) W
      exact h
  have HA1 := Aside0.mk hA1
  clear hi hz0 hz1 hz2 hA1
  clear hc00 h00
  have HLT := Aside0.mk hlt
  have HM := Aside0.mk hm
  have HRR := Aside0.mk hr0
  have HC := Aside0.mk hc0
  have hn1 : nums.length = 2 * m + 1 := hm
  clear hlt hm hr0 hc0
  gi_wp2_with (gi_at_call 85; refine (chunk_in Fence.wide 4 trivial hro _ _ _ _).mono ?_; rintro e w' ⟨rfl, rfl⟩)
  obtain ⟨W0, hW0⟩ : ∃ W0 : World, ((((((((w.alloc (Obj.cells #[Value.slice (some ad) (2 * m + 1) c0_0, Value.slice A0_1 0 c0_1] 98)).alloc (Obj.cells #[Value.slice none 0 0] 65)).alloc (Obj.cells #[Value.int IntKind.i64 0] 26)).alloc (Obj.cells #[Value.slice none 0 0] 65)).alloc (Obj.cells #[Value.int IntKind.i64 0, Value.int IntKind.i64 0] 67)).alloc (Obj.cells #[Value.int IntKind.i64 0, Value.int IntKind.i64 0] 67)).alloc (Obj.cells #[Value.slice A1 (2 * m) (c0_0 - 1)] 22)).alloc (Obj.cells #[Value.int IntKind.i64 2] 3)) = W0 := ⟨_, rfl⟩
  have hsz : W0.heap.size = w.heap.size + 8 := by rw [← hW0]; simp
  have hB0 : Below w.heap.size w W0 := by
    rw [← hW0]
    exact ((((((((Below.refl _ w).alloc (Nat.le_refl _) _).alloc (by simp) _).alloc (by simp; omega) _).alloc (by simp; omega) _).alloc (by simp; omega) _).alloc (by simp; omega) _).alloc (by simp; omega) _).alloc (by simp; omega) _
  have hI0 : UI w nums (m := m) [] W0 := by
    rw [← hW0]
    refine ⟨fun j hj => by simp at hj, ?_, ?_, ?_, ?_, ⟨.slice none 0 0, ?_, Kd.R_nil _ _ _ _ _⟩, by rw [hW0]; exact hB0, by rw [hW0, hsz]; exact Nat.le_refl _⟩
    all_goals (repeat (first | (refine heap_new_at _ _ _ ?_; simp; done) | refine heap_old_at _ _ _ _ ?_))
  have hcs : W0.cell? ⟨w.heap.size + 1 + 1 + 1 + 1 + 1 + 1, 0, none⟩ = some (.slice A1 (2 * m) (c0_0 - 1)) := by
    have hb : W0.heap[w.heap.size + 1 + 1 + 1 + 1 + 1 + 1]? = some (.cells #[.slice A1 (2 * m) (c0_0 - 1)] 22 (0, 0)) := by
      rw [← hW0]
      repeat (first | (refine heap_new_at _ _ _ ?_; simp; done) | refine heap_old_at _ _ _ _ ?_)
    exact (blk_cell hb 0).trans rfl
  have hcn : W0.cell? ⟨w.heap.size + 1 + 1 + 1 + 1 + 1 + 1 + 1, 0, none⟩ = some (.int .i64 2) := by
    have hb : W0.heap[w.heap.size + 1 + 1 + 1 + 1 + 1 + 1 + 1]? = some (.cells #[.int .i64 2] 3 (0, 0)) := by
      rw [← hW0]
      repeat (first | (refine heap_new_at _ _ _ ?_; simp; done) | refine heap_old_at _ _ _ _ ?_)
    exact (blk_cell hb 0).trans rfl
  have hsv : ChunkOf m (.slice A1 (2 * m) (c0_0 - 1)) ad.block (ad.off + 1) := by
    have := HC.out
    have hm := HM.out
    rcases HA1.out with h | h
    · subst h; exact .inl ⟨rfl, _, _, rfl⟩
    · subst h; exact .inr ⟨_, rfl, by omega⟩
  have HSZ := Aside0.mk hsz
  rw [hW0]
  clear hW0 hsz
  refine wpIn_rangeFunc_ownF hro (by omega) (gf := 91) (lb := #[.pointer (some ⟨w.heap.size + 1 + 1 + 1 + 1 + 1 + 1, 0, none⟩), .pointer (some ⟨w.heap.size + 1 + 1 + 1 + 1 + 1 + 1 + 1, 0, none⟩)]) rfl trivial (enters_of Try.func91 (by kernel_rfl) rfl)
    (chunk_stops Fence.wide 4 trivial hro (by omega) _ _ ad.block (ad.off + 1) m (by omega) _ hsv W0 (by have := HSZ.out; omega) (by have := HSZ.out; omega) hcs hcn) keepsTwo_t (keepsTwo_b (by have := HSZ.out; omega) (by have := HSZ.out; omega)) (Below.refl _ _) (fun _ => rfl)
    (UI w nums) (UX w nums) (UI_own w nums _ hB0.size) (UX_own w nums _ hB0.size) hI0
    (fun x => { tmps := #[Value.agg #[Value.slice (some ad) (2 * m + 1) c0_0, Value.slice A0_1 0 c0_1], Value.pointer (some { block := w.heap.size, off := 0 }), Value.pointer (some { block := w.heap.size + 1, off := 0 }), Value.pointer (some { block := w.heap.size + 1 + 1, off := 0 }), Value.int IntKind.i64 (2 * (m : Int) + 1), Value.pointer (some { block := w.heap.size + 1 + 1 + 1, off := 0 }), Value.pointer (some { block := w.heap.size + 1 + 1 + 1 + 1, off := 0 }), Value.pointer (some { block := w.heap.size + 1 + 1 + 1 + 1 + 1, off := 0 }), Value.slice (some { block := ad.block, off := ad.off + 1 + 2 * x.val }) 2 2, undef, Value.pointer (some { block := w.heap.size, off := 0 }), Value.slice (some ad) (2 * m + 1) c0_0, Value.int IntKind.i64 (2 * (m : Int) + 1), Value.int IntKind.i64 (2 * (m : Int) + 1), Value.bool false, Value.bool false, Value.int IntKind.i64 (2 * (m : Int) + 1), Value.int IntKind.i64 1, Value.bool false, Value.bool false, Value.bool false, Value.pointer (some { block := w.heap.size, off := 0 }), Value.slice (some ad) (2 * m + 1) c0_0, Value.pointer (some ad), Value.int IntKind.i64 q, Value.int IntKind.i64 (2 * (m : Int) + 1), Value.int IntKind.i64 q, Value.bool false, Value.bool false, Value.bool false, Value.pointer (some { block := w.heap.size, off := 1 }), Value.slice A0_1 0 c0_1, Value.int IntKind.i64 0, Value.bool false, Value.bool false, Value.bool false, Value.int IntKind.i64 (2 * (m : Int) + 1), Value.int IntKind.i64 q, Value.bool false, Value.bool false, Value.pointer (some { block := w.heap.size, off := 0 }), Value.slice (some ad) (2 * m + 1) c0_0, Value.slice A1 (2 * m) (c0_0 - 1), Value.func (Fn.func 91) #[] #[Value.pointer (some { block := w.heap.size + 1 + 1 + 1 + 1 + 1 + 1, off := 0 }), Value.pointer (some { block := w.heap.size + 1 + 1 + 1 + 1 + 1 + 1 + 1, off := 0 })], Value.slice (some { block := ad.block, off := ad.off + 1 + 2 * x.val }) 2 2, undef, undef, undef, undef, undef, undef, undef, undef, undef, undef, undef, undef, undef, undef, undef, undef, undef, undef, undef, undef, undef, undef, undef, undef, undef, undef, undef, undef, undef, undef, undef, undef, undef, undef, undef, undef, undef, undef, undef, undef, undef, undef, undef, undef, undef, undef, undef, undef], defers := [] }) ?assign ?body ?done ?stop
  case assign =>
    intro l x W K hK
    gi_wp2
    exact hK
  case body =>
    rintro l pre x W ⟨hgd, h1, h2, h3, h4, ⟨v, h5, h6⟩, h7, h8⟩ hlt
    have H8 := Aside0.mk h8
    clear h8
    have d1 : 1 ≤ 5 - 1 - 1 := by omega
    have hx := x.isLt
    have hm := HM.out
    have hC := Kd.C_below HRR.out h7
    obtain ⟨a, ha⟩ : ∃ a : Int, a = numA nums x.val := ⟨_, rfl⟩
    obtain ⟨b, hb⟩ : ∃ b : Int, b = numB nums x.val := ⟨_, rfl⟩
    have ca : W.cell? ⟨ad.block, ad.off + 1 + 2 * x.val, none⟩ = some (.int .i64 a) := by
      obtain ⟨ad', e, hx'⟩ := Kd.at_int hC ((1 + 2 * x.val : Nat) : Int) (by omega) (by omega)
      cases e
      rw [Int.toNat_natCast] at hx'
      rw [ha]
      unfold numA
      rw [← hx']
      congr 1
      unfold Addr.add
      rw [if_neg (by omega)]
      simp [Nat.add_assoc]
    have cb : W.cell? ⟨ad.block, ad.off + 1 + 2 * x.val + 1, none⟩ = some (.int .i64 b) := by
      obtain ⟨ad', e, hx'⟩ := Kd.at_int hC ((2 + 2 * x.val : Nat) : Int) (by omega) (by omega)
      cases e
      rw [Int.toNat_natCast] at hx'
      rw [hb]
      unfold numB
      rw [← hx']
      congr 1
      unfold Addr.add
      rw [if_neg (by omega)]
      simp [Nat.add_assoc]
    have HA := Aside0.mk ha
    have HBb := Aside0.mk hb
    have H1 := Aside0.mk h1
    have H2 := Aside0.mk h2
    have H3 := Aside0.mk h3
    have H4 := Aside0.mk h4
    have H5 := Aside0.mk h5
    have H6 := Aside0.mk h6
    have H7 := Aside0.mk h7
    have HG := Aside0.mk hgd
    have c10 : W.cell? ⟨w.heap.size + 1, 0, none⟩ = some (.slice none 0 0) := (blk_cell h1 0).trans rfl
    have f10 := blk_frozen h1 0
    have c20 : W.cell? ⟨w.heap.size + 1 + 1, 0, none⟩ = some (.int .i64 0) := (blk_cell h2 0).trans rfl
    have f20 := blk_frozen h2 0
    generalize hz : unpSt nums pre = z at h3 h4 h6
    have HZ := Aside0.mk hz
    have c30 : W.cell? ⟨w.heap.size + 1 + 1 + 1, 0, none⟩ = some v := (blk_cell h5 0).trans rfl
    have f30 := blk_frozen h5 0
    have c40 : W.cell? ⟨w.heap.size + 1 + 1 + 1 + 1, 0, none⟩ = some (.int .i64 z.2.1.f0) := (blk_cell h3 0).trans rfl
    have c41 : W.cell? ⟨w.heap.size + 1 + 1 + 1 + 1, 1, none⟩ = some (.int .i64 z.2.1.f1) := (blk_cell h3 1).trans rfl
    have f40 := blk_frozen h3 0
    have f41 := blk_frozen h3 1
    have c50 : W.cell? ⟨w.heap.size + 1 + 1 + 1 + 1 + 1, 0, none⟩ = some (.int .i64 z.2.2.f0) := (blk_cell h4 0).trans rfl
    have c51 : W.cell? ⟨w.heap.size + 1 + 1 + 1 + 1 + 1, 1, none⟩ = some (.int .i64 z.2.2.f1) := (blk_cell h4 1).trans rfl
    have f50 := blk_frozen h4 0
    have f51 := blk_frozen h4 1
    clear ha hb hz h1 h2 h3 h4 h5 h6 h7 hgd hC hm
    have calla := fun W => (callsIn_wide (n := 2)).2 (block_in_eq a W)
    have callb := fun W => (callsIn_wide (n := 2)).2 (block_in_eq b W)
    have CA := Aside0.mk calla
    have CB := Aside0.mk callb
    clear calla callb
    cases ga : inB a with
    | false =>
      have GA := Aside0.mk ga
      gi_wp2_with (gi_at_call 86; refine (CallsIn.inRound l (CA.out _)).mono ?_; rintro e w' ⟨rfl, rfl⟩)
      exact ux_bad w w' nums pre x (by unfold goodAt; rw [← HA.out, GA.out]; rfl) H1.out H2.out H7.out
    | true =>
      have GA := Aside0.mk ga
      cases gb : inB b with
      | false =>
        have GB := Aside0.mk gb
        gi_wp2_with (first
          | (gi_at_call 86; refine (CallsIn.inRound l (CA.out _)).mono ?_; rintro e w' ⟨rfl, rfl⟩; clear CA)
          | (gi_at_call 86; refine (CallsIn.inRound l (CB.out _)).mono ?_; rintro e w' ⟨rfl, rfl⟩))
        exact ux_bad w w' nums pre x (by unfold goodAt; rw [← HA.out, ← HBb.out, GA.out, GB.out]; rfl) H1.out H2.out H7.out
      | true =>
        have GB := Aside0.mk gb
        gi_wp2_with (first
          | (gi_at_call 86; refine (CallsIn.inRound l (CA.out _)).mono ?_; rintro e w' ⟨rfl, rfl⟩; clear CA)
          | (gi_at_call 86; refine (CallsIn.inRound l (CB.out _)).mono ?_; rintro e w' ⟨rfl, rfl⟩))
        refine wpIn_region_heldF (fun V => V.cell? ⟨ad.block, ad.off + 1 + 2 * x.val, none⟩ = some (.int .i64 a) ∧ V.cell? ⟨ad.block, ad.off + 1 + 2 * x.val + 1, none⟩ = some (.int .i64 b) ∧ V.cell? ⟨w.heap.size + 1 + 1 + 1 + 1 + 1, 0, none⟩ = some (.int .i64 z.2.2.f0) ∧ V.cell? ⟨w.heap.size + 1 + 1 + 1 + 1 + 1, 1, none⟩ = some (.int .i64 z.2.2.f1)) (by kernel_rfl) ?_
        have hS : (w'.drew).cell? ⟨ad.block, ad.off + 1 + 2 * x.val, none⟩ = some (.int .i64 a) ∧ (w'.drew).cell? ⟨ad.block, ad.off + 1 + 2 * x.val + 1, none⟩ = some (.int .i64 b) ∧ (w'.drew).cell? ⟨w.heap.size + 1 + 1 + 1 + 1 + 1, 0, none⟩ = some (.int .i64 z.2.2.f0) ∧ (w'.drew).cell? ⟨w.heap.size + 1 + 1 + 1 + 1 + 1, 1, none⟩ = some (.int .i64 z.2.2.f1) := ⟨ca, cb, c50, c51⟩
        apply cut_by
        case main =>
          intro hc
          go_simp
          (refine wpAnyHeld_take (i := 0) (v := .pointer (some ⟨w.heap.size + 1 + 1 + 1 + 1 + 1, 0, none⟩)) (by intro j o ho c; have := List.mem_of_getElem? ((Array.getElem?_toList ..).trans ho); simp at this; rcases this with rfl | rfl | rfl | rfl | rfl | rfl | rfl | rfl | rfl | rfl | rfl | rfl | rfl | rfl | rfl <;> simp) rfl (by kernel_rfl) (by kernel_rfl) (by kernel_rfl) (fun _ _ _ h => h) ⟨.inl ⟨by rfl, ?_⟩, fun _ => rfl⟩ hS ?_; (focus (rintro w0 ⟨s1, s2, s3, s4⟩; go_simp; done)); go_simp)
          (refine wpAnyHeld_take (i := 1) (v := .int .i64 z.2.2.f0) (by intro j o ho c; have := List.mem_of_getElem? ((Array.getElem?_toList ..).trans ho); simp at this; rcases this with rfl | rfl | rfl | rfl | rfl | rfl | rfl | rfl | rfl | rfl | rfl | rfl | rfl | rfl | rfl <;> simp) rfl (by kernel_rfl) (by kernel_rfl) (by kernel_rfl) (fun _ _ _ h => h) ⟨.inl ⟨by rfl, ?_⟩, fun _ => rfl⟩ hS ?_; (focus (rintro w0 ⟨s1, s2, s3, s4⟩; go_simp; done)); go_simp)
          (refine wpAnyHeld_take (i := 2) (v := .slice (some ⟨ad.block, ad.off + 1 + 2 * x.val, none⟩) 2 2) (by intro j o ho c; have := List.mem_of_getElem? ((Array.getElem?_toList ..).trans ho); simp at this; rcases this with rfl | rfl | rfl | rfl | rfl | rfl | rfl | rfl | rfl | rfl | rfl | rfl | rfl | rfl | rfl <;> simp) rfl (by kernel_rfl) (by kernel_rfl) (by kernel_rfl) (fun _ _ _ h => h) ⟨.inl ⟨by rfl, ?_⟩, fun _ => rfl⟩ hS ?_; (focus (rintro w0 ⟨s1, s2, s3, s4⟩; go_simp; done)); go_simp)
          (refine wpAnyHeld_take (i := 3) (v := .pointer (some ⟨ad.block, ad.off + 1 + 2 * x.val, none⟩)) (by intro j o ho c; have := List.mem_of_getElem? ((Array.getElem?_toList ..).trans ho); simp at this; rcases this with rfl | rfl | rfl | rfl | rfl | rfl | rfl | rfl | rfl | rfl | rfl | rfl | rfl | rfl | rfl <;> simp) rfl (by kernel_rfl) (by kernel_rfl) (by kernel_rfl) (fun _ _ _ h => h) ⟨.inl ⟨by rfl, ?_⟩, fun _ => rfl⟩ hS ?_; (focus (rintro w0 ⟨s1, s2, s3, s4⟩; go_simp; done)); go_simp)
          (refine wpAnyHeld_take (i := 4) (v := .int .i64 a) (by intro j o ho c; have := List.mem_of_getElem? ((Array.getElem?_toList ..).trans ho); simp at this; rcases this with rfl | rfl | rfl | rfl | rfl | rfl | rfl | rfl | rfl | rfl | rfl | rfl | rfl | rfl | rfl <;> simp) rfl (by kernel_rfl) (by kernel_rfl) (by kernel_rfl) (fun _ _ _ h => h) ⟨.inl ⟨by rfl, ?_⟩, fun _ => rfl⟩ hS ?_; (focus (rintro w0 ⟨s1, s2, s3, s4⟩; go_simp; done)); go_simp)
          (refine wpAnyHeld_take (i := 5) (v := .int .i64 (IntKind.i64.wrap (z.2.2.f0 + a))) (by intro j o ho c; have := List.mem_of_getElem? ((Array.getElem?_toList ..).trans ho); simp at this; rcases this with rfl | rfl | rfl | rfl | rfl | rfl | rfl | rfl | rfl | rfl | rfl | rfl | rfl | rfl | rfl <;> simp) rfl (by kernel_rfl) (by kernel_rfl) (by kernel_rfl) (fun _ _ _ h => h) ⟨.inl ⟨by rfl, ?_⟩, fun _ => rfl⟩ hS ?_; (focus (rintro w0 ⟨s1, s2, s3, s4⟩; go_simp; done)); go_simp)
          (refine wpAnyHeld_take (i := 6) (v := .pointer (some ⟨w.heap.size + 1 + 1 + 1 + 1 + 1, 1, none⟩)) (by intro j o ho c; have := List.mem_of_getElem? ((Array.getElem?_toList ..).trans ho); simp at this; rcases this with rfl | rfl | rfl | rfl | rfl | rfl | rfl | rfl | rfl | rfl | rfl | rfl | rfl | rfl | rfl <;> simp) rfl (by kernel_rfl) (by kernel_rfl) (by kernel_rfl) (fun _ _ _ h => h) ⟨.inl ⟨by rfl, ?_⟩, fun _ => rfl⟩ hS ?_; (focus (rintro w0 ⟨s1, s2, s3, s4⟩; go_simp; done)); go_simp)
          (refine wpAnyHeld_take (i := 7) (v := .int .i64 z.2.2.f1) (by intro j o ho c; have := List.mem_of_getElem? ((Array.getElem?_toList ..).trans ho); simp at this; rcases this with rfl | rfl | rfl | rfl | rfl | rfl | rfl | rfl | rfl | rfl | rfl | rfl | rfl | rfl | rfl <;> simp) rfl (by kernel_rfl) (by kernel_rfl) (by kernel_rfl) (fun _ _ _ h => h) ⟨.inl ⟨by rfl, ?_⟩, fun _ => rfl⟩ hS ?_; (focus (rintro w0 ⟨s1, s2, s3, s4⟩; go_simp; done)); go_simp)
          (refine wpAnyHeld_take (i := 8) (v := .slice (some ⟨ad.block, ad.off + 1 + 2 * x.val, none⟩) 2 2) (by intro j o ho c; have := List.mem_of_getElem? ((Array.getElem?_toList ..).trans ho); simp at this; rcases this with rfl | rfl | rfl | rfl | rfl | rfl | rfl | rfl | rfl | rfl | rfl | rfl | rfl | rfl | rfl <;> simp) rfl (by kernel_rfl) (by kernel_rfl) (by kernel_rfl) (fun _ _ _ h => h) ⟨.inl ⟨by rfl, ?_⟩, fun _ => rfl⟩ hS ?_; (focus (rintro w0 ⟨s1, s2, s3, s4⟩; go_simp; done)); go_simp)
          (refine wpAnyHeld_take (i := 9) (v := .pointer (some ⟨ad.block, ad.off + 1 + 2 * x.val + 1, none⟩)) (by intro j o ho c; have := List.mem_of_getElem? ((Array.getElem?_toList ..).trans ho); simp at this; rcases this with rfl | rfl | rfl | rfl | rfl | rfl | rfl | rfl | rfl | rfl | rfl | rfl | rfl | rfl | rfl <;> simp) rfl (by kernel_rfl) (by kernel_rfl) (by kernel_rfl) (fun _ _ _ h => h) ⟨.inl ⟨by rfl, ?_⟩, fun _ => rfl⟩ hS ?_; (focus (rintro w0 ⟨s1, s2, s3, s4⟩; go_simp; done)); go_simp)
          (refine wpAnyHeld_take (i := 10) (v := .int .i64 b) (by intro j o ho c; have := List.mem_of_getElem? ((Array.getElem?_toList ..).trans ho); simp at this; rcases this with rfl | rfl | rfl | rfl | rfl | rfl | rfl | rfl | rfl | rfl | rfl | rfl | rfl | rfl | rfl <;> simp) rfl (by kernel_rfl) (by kernel_rfl) (by kernel_rfl) (fun _ _ _ h => h) ⟨.inl ⟨by rfl, ?_⟩, fun _ => rfl⟩ hS ?_; (focus (rintro w0 ⟨s1, s2, s3, s4⟩; go_simp; done)); go_simp)
          (refine wpAnyHeld_take (i := 11) (v := .int .i64 (IntKind.i64.wrap (z.2.2.f1 + b))) (by intro j o ho c; have := List.mem_of_getElem? ((Array.getElem?_toList ..).trans ho); simp at this; rcases this with rfl | rfl | rfl | rfl | rfl | rfl | rfl | rfl | rfl | rfl | rfl | rfl | rfl | rfl | rfl <;> simp) rfl (by kernel_rfl) (by kernel_rfl) (by kernel_rfl) (fun _ _ _ h => h) ⟨.inl ⟨by rfl, ?_⟩, fun _ => rfl⟩ hS ?_; (focus (rintro w0 ⟨s1, s2, s3, s4⟩; go_simp; done)); go_simp)
          (refine wpAnyHeld_take (i := 12) (v := .agg #[.int .i64 (IntKind.i64.wrap (z.2.2.f0 + a)), .int .i64 (IntKind.i64.wrap (z.2.2.f1 + b))]) (by intro j o ho c; have := List.mem_of_getElem? ((Array.getElem?_toList ..).trans ho); simp at this; rcases this with rfl | rfl | rfl | rfl | rfl | rfl | rfl | rfl | rfl | rfl | rfl | rfl | rfl | rfl | rfl <;> simp) rfl (by kernel_rfl) (by kernel_rfl) (by kernel_rfl) (fun _ _ _ h => h) ⟨.inl ⟨by rfl, ?_⟩, fun _ => rfl⟩ hS ?_; (focus (rintro w0 ⟨s1, s2, s3, s4⟩; go_simp; done)); go_simp)
          have ca' := fun o : Obj => (World.cell?_alloc_lt w' o _ (World.block_lt_of_cell? w' _ ca)).trans ca
          have cb' := fun o : Obj => (World.cell?_alloc_lt w' o _ (World.block_lt_of_cell? w' _ cb)).trans cb
          have c50' := fun o : Obj => (World.cell?_alloc_lt w' o _ (World.block_lt_of_cell? w' _ c50)).trans c50
          have c51' := fun o : Obj => (World.cell?_alloc_lt w' o _ (World.block_lt_of_cell? w' _ c51)).trans c51
          refine wpAnyHeld_one (i := 13) (by kernel_rfl) rfl rfl (fun K hK => ?_)
          go_simp
          refine hK _ _ ⟨ca' _, cb' _, c50' _, c51' _⟩ ?_
          clear hK K
          go_simp
          refine wpAnyHeld_one (i := 14) (by kernel_rfl) rfl rfl (fun K hK => ?_)
          go_simp
          refine hK _ _ ⟨ca' _, cb' _, c50' _, c51' _⟩ ?_
          clear hK K
          go_simp
          refine wpAnyHeld_done (by kernel_rfl) ?_ _
          exact hc
        case cont =>
          clear ca cb c50 c51 c10 f10 c20 f20 c30 f30 c40 c41 f40 f41 f50 f51 hS
          obtain ⟨A, hA'⟩ : ∃ A : Int, A = IntKind.i64.wrap (z.2.2.f0 + a) := ⟨_, rfl⟩
          obtain ⟨B, hB'⟩ : ∃ B : Int, B = IntKind.i64.wrap (z.2.2.f1 + b) := ⟨_, rfl⟩
          rw [← hA', ← hB']
          have HA' := Aside0.mk hA'
          have HB' := Aside0.mk hB'
          clear hA' hB'
          obtain ⟨V, hV⟩ : ∃ V : World, (w'.alloc (Obj.cells #[.int .i64 A, .int .i64 B] 67)).drew = V := ⟨_, rfl⟩
          have gV : w'.grownBy V none := by rw [← hV]; exact World.grownBy.trans (World.grownBy_alloc w' (Obj.cells #[.int .i64 A, .int .i64 B] 67) none) ⟨rfl, rfl, rfl, Nat.le_refl _, fun _ _ _ => rfl⟩
          obtain ⟨N, hN⟩ : ∃ N : Nat, w'.heap.size = N := ⟨_, rfl⟩
          have bN : V.heap[N]? = some (.cells #[.int .i64 A, .int .i64 B] 67 (0, 0)) := by rw [← hV, ← hN]; exact World.alloc_heap_new w' (Obj.cells #[.int .i64 A, .int .i64 B] 67)
          have sN : V.heap.size = N + 1 := by rw [← hV, ← hN]; exact World.size_alloc w' (Obj.cells #[.int .i64 A, .int .i64 B] 67)
          have b1 := blk_grown H1.out gV (by simp)
          have b2 := blk_grown H2.out gV (by simp)
          have b3 := blk_grown H5.out gV (by simp)
          have b4 := blk_grown H3.out gV (by simp)
          have b5 := blk_grown H4.out gV (by simp)
          have lN : w.heap.size + 1 + 1 + 1 + 1 + 1 < N := by rw [← hN]; exact blk_lt H4.out
          rw [HZ.out] at b4 b5
          have n3 : w.heap.size + 1 + 1 + 1 ≠ N := by omega
          have n4 : w.heap.size + 1 + 1 + 1 + 1 ≠ N := by omega
          have n5 : w.heap.size + 1 + 1 + 1 + 1 + 1 ≠ N := by omega
          have m3 := n3.symm
          have m4 := n4.symm
          have m5 := n5.symm
          have GV := Aside0.mk gV
          have SN := Aside0.mk sN
          have LN := Aside0.mk lN
          rw [hV, hN]
          have HN := Aside0.mk hN
          clear hV gV hN sN lN
          have c30 : V.cell? ⟨w.heap.size + 1 + 1 + 1, 0, none⟩ = some (v) := (blk_cell b3 0).trans rfl
          have f30 := blk_frozen b3 0
          have c40 : V.cell? ⟨w.heap.size + 1 + 1 + 1 + 1, 0, none⟩ = some (.int .i64 z.2.1.f0) := (blk_cell b4 0).trans rfl
          have f40 := blk_frozen b4 0
          have c41 : V.cell? ⟨w.heap.size + 1 + 1 + 1 + 1, 1, none⟩ = some (.int .i64 z.2.1.f1) := (blk_cell b4 1).trans rfl
          have f41 := blk_frozen b4 1
          have c50 : V.cell? ⟨w.heap.size + 1 + 1 + 1 + 1 + 1, 0, none⟩ = some (.int .i64 z.2.2.f0) := (blk_cell b5 0).trans rfl
          have f50 := blk_frozen b5 0
          have c51 : V.cell? ⟨w.heap.size + 1 + 1 + 1 + 1 + 1, 1, none⟩ = some (.int .i64 z.2.2.f1) := (blk_cell b5 1).trans rfl
          have f51 := blk_frozen b5 1
          have cN0 : V.cell? ⟨N, 0, none⟩ = some (.int .i64 A) := (blk_cell bN 0).trans rfl
          have fN0 := blk_frozen bN 0
          have cN1 : V.cell? ⟨N, 1, none⟩ = some (.int .i64 B) := (blk_cell bN 1).trans rfl
          have fN1 := blk_frozen bN 1
          have B1 := Aside0.mk b1
          have B2 := Aside0.mk b2
          have B3 := Aside0.mk b3
          have B4 := Aside0.mk b4
          have B5 := Aside0.mk b5
          have BN := Aside0.mk bN
          clear b1 b2 b3 b4 b5 bN
          gi_wp2_with (
            gi_at_builtin
            refine R_append_in k67 (w0 := w) w.heap.size rfl (.tmp 81) (.tmp 83) 65 67 (.agg #[.int .i64 0, .int .i64 0]) 16 rfl Try.underlying65 info67 rfl (by decide) (by decide) v z.1 (⟨wrap64 (z.2.1.f0 + A), wrap64 (z.2.1.f1 + B)⟩ : S67) [.int .i64 (wrap64 (z.2.1.f0 + A)), .int .i64 (wrap64 (z.2.1.f1 + B))] (fun k => w.heap.size + 8 ≤ k) (fun _ => False) rfl (by simp; rfl) (k67_mkM _ _ _ (⟨wrap64 (z.2.1.f0 + A), wrap64 (z.2.1.f1 + B)⟩ : S67)) (fun _ h => h.elim) ?fresh ?own ?bel ?base ?len ?_
            (case fresh => intro k hk; have h1 := H8.out; have h2 := SN.out; have h3 := HN.out; simp at hk; omega)
            (case own => have h := H6.out; rw [HZ.out] at h; exact R_set (R_set (R_turn h GV.out (by simp)) _ _ (fun k hk => by simp only; omega)) _ _ (fun k hk => by simp only; omega))
            (case bel => exact ((H7.out.grown GV.out H7.out.size (by simp)).setCell (by simp only; omega) _).setCell (by simp only; omega) _)
            (case base => have h1 := H8.out; have h2 := SN.out; have h3 := HN.out; simp; omega)
            (case len => have h := unpSt_len nums pre; rw [HZ.out] at h; omega)
            intro v1 w1 hr1 hb1 hg1 hat1
            go_loud (
              have hrow : ∀ k, v.ownBlock = some k → w.heap.size + 8 ≤ k ∧ k < N ∧ ∃ o, w'.heap[k]? = some o ∧ o.isCells = true := by
                intro k hk
                obtain ⟨h1, h2, h3, q, hq, cells, h4⟩ := (Kd.R_bound H6.out).1 k hk
                exact ⟨h1, by rw [← HN.out]; exact h3, _, h4, rfl⟩
              have no : ∀ k, k < w.heap.size + 8 ∨ N ≤ k → some k ≠ v.ownBlock := fun k hk e => by
                have := hrow k e.symm
                omega
              obtain ⟨V2, hV2⟩ : ∃ V2 : World, (V.setCell ⟨w.heap.size + 1 + 1 + 1 + 1, 0, none⟩ (.int .i64 (wrap64 (z.2.1.f0 + A)))).setCell ⟨w.heap.size + 1 + 1 + 1 + 1, 1, none⟩ (.int .i64 (wrap64 (z.2.1.f1 + B))) = V2 := ⟨_, rfl⟩
              rw [hV2] at hg1 hat1
              have KV : KeepsOthers w' V2 := by rw [← hV2]; exact ((KeepsOthers.of_grownBy GV.out (by simp)).trans (KeepsOthers.setCell _ _ _)).trans (KeepsOthers.setCell _ _ _)
              have hV2o : ∀ k, k ≠ w.heap.size + 1 + 1 + 1 + 1 → V2.heap[k]? = V.heap[k]? := fun k hk => by
                rw [← hV2]
                exact (Below.heap_setCell _ ⟨w.heap.size + 1 + 1 + 1 + 1, 1, none⟩ _ k hk).trans (Below.heap_setCell _ ⟨w.heap.size + 1 + 1 + 1 + 1, 0, none⟩ _ k hk)
              have hVo : ∀ k, k < N → V.heap[k]? = w'.heap[k]? := fun k hk => GV.out.block k (by rw [HN.out]; exact hk) (by simp)
              have s2 : V2.heap.size = N + 1 := by rw [← hV2]; simpa using SN.out
              have ho : ∀ k, k < w.heap.size + 8 ∨ N ≤ k → k < N + 1 → k ≠ w.heap.size + 1 + 1 + 1 + 1 → w1.heap[k]? = V.heap[k]? := fun k hk hk2 hk4 =>
                (hg1.block k (by rw [s2]; exact hk2) (no k hk)).trans (hV2o k hk4)
              have l8 := H8.out
              rw [HN.out] at l8
              have g1 := (ho _ (by omega) (by omega) (by omega)).trans B1.out
              have g2 := (ho _ (by omega) (by omega) (by omega)).trans B2.out
              have g3 := (ho _ (by omega) (by omega) (by omega)).trans B3.out
              have g5 := (ho _ (by omega) (by omega) (by omega)).trans B5.out
              have gN := (ho _ (by omega) (by omega) (by omega)).trans BN.out
              have g4 : w1.heap[w.heap.size + 1 + 1 + 1 + 1]? = some (.cells #[.int .i64 (wrap64 (z.2.1.f0 + A)), .int .i64 (wrap64 (z.2.1.f1 + B))] 67 (0, 0)) := by
                refine (hg1.block _ (by rw [s2]; omega) (no _ (by omega))).trans ?_
                rw [← hV2]
                exact blk_set (blk_set B4.out 0 _) 1 _
              have g6 := (ho (w.heap.size + 1 + 1 + 1 + 1 + 1 + 1) (by omega) (by omega) (by omega)).trans (hVo _ (by omega))
              have g7 := (ho (w.heap.size + 1 + 1 + 1 + 1 + 1 + 1 + 1) (by omega) (by omega) (by omega)).trans (hVo _ (by omega))
              have K1 : KeepsOthers w' w1 := KV.trans (KeepsOthers.of_grownBy hg1 (fun j o e hj => by
                obtain ⟨h1, h2, o', h3, h4⟩ := hrow j e
                rw [hV2o j (by omega), hVo j h2, h3] at hj
                injection hj with hj
                rw [← hj]
                exact h4))
              have s1 : w.heap.size + 8 ≤ w1.heap.size := by have := hg1.size; omega
              have UN := ui_next w w' w1 nums pre x A B (wrap64 (z.2.1.f0 + A)) (wrap64 (z.2.1.f1 + B)) v v1 (by rw [HZ.out, ← HA.out]; exact HA'.out.trans (IntWalk.i64_left _)) (by rw [HZ.out, ← HBb.out]; exact HB'.out.trans (IntWalk.i64_left _)) (by rw [HZ.out]) (by rw [HZ.out]) HG.out (by unfold goodAt; rw [← HA.out, ← HBb.out, GA.out, GB.out]; rfl) K1 g1 g2 g3 g4 (by rw [HZ.out]; exact g5) g6 g7 (by rw [HZ.out]; exact hr1) hb1 s1
              rw [HZ.out] at UN
              have UNA := Aside0.mk UN
              have e3 := blk_frozen g3 0
              have e50 := blk_frozen g5 0
              have e51 := blk_frozen g5 1
              have e30 : w1.cell? ⟨w.heap.size + 1 + 1 + 1, 0, none⟩ = some v := (blk_cell g3 0).trans rfl
              have e500 : w1.cell? ⟨w.heap.size + 1 + 1 + 1 + 1 + 1, 0, none⟩ = some (.int .i64 z.2.2.f0) := (blk_cell g5 0).trans rfl
              have e501 : w1.cell? ⟨w.heap.size + 1 + 1 + 1 + 1 + 1, 1, none⟩ = some (.int .i64 z.2.2.f1) := (blk_cell g5 1).trans rfl
              have eN0 : w1.cell? ⟨N, 0, none⟩ = some (.int .i64 A) := (blk_cell gN 0).trans rfl
              have eN1 : w1.cell? ⟨N, 1, none⟩ = some (.int .i64 B) := (blk_cell gN 1).trans rfl
              obtain ⟨A2, c2, hv1⟩ := Kd.R_slice hr1
              obtain ⟨L, hL⟩ : ∃ L : Nat, L = (z.1 ++ [(⟨wrap64 (z.2.1.f0 + A), wrap64 (z.2.1.f1 + B)⟩ : S67)]).length := ⟨_, rfl⟩
              rw [← hL] at hv1
              have hLL : L = z.1.length + 1 := by rw [hL]; simp
              have LL := Aside0.mk hLL
              clear hr1 hb1 hg1 hat1 hrow no hV2 KV hV2o hVo s2 ho l8 g1 g2 g3 g5 gN g4 g6 g7 K1 s1 UN hL hLL
              subst hv1)
            cases hd : decide (1 < (L : Int)))
          all_goals (first
            | exact UNA.out.2 _ (by have := LL.out; have := of_decide_eq_true hd; omega) rfl
            | exact UNA.out.1 _ (by have := LL.out; have := of_decide_eq_false hd; omega) rfl)
  case done =>
    intro D xs W hDD hxs hI hK
    have HDD := Aside0.mk hDD
    have hxs : xs = List.finRange m := hxs
    subst hxs
    obtain ⟨hgd, h1, h2, h3, h4, ⟨v, h5, h6⟩, h7, h8⟩ := hI
    obtain ⟨rc, hck, hr⟩ := HRES1.out (fun j => hgd j (List.mem_finRange j))
    have c30 : W.cell? ⟨w.heap.size + 1 + 1 + 1, 0, none⟩ = some v := (blk_cell h5 0).trans rfl
    have f10 := blk_frozen h1 0
    have f20 := blk_frozen h2 0
    obtain ⟨A3, c3, hv, hc3, hC3⟩ := Kd.R_reads h6
    subst hv
    have callc := (callsIn_wide (n := 4)).2 (block_Check.calls k A3 c3 _ rc W hC3 hc3 hck)
    have HCC := Aside0.mk callc
    have H1 := Aside0.mk h1
    have H2 := Aside0.mk h2
    have H5 := Aside0.mk h5
    have H6 := Aside0.mk h6
    have H7 := Aside0.mk h7
    have H8 := Aside0.mk h8
    have HR := Aside0.mk hr
    have HK := Aside0.mk hK
    clear callc h1 h2 h3 h4 h5 h6 h7 h8 hC3 hc3 hck hr hK hgd f10 f20
    gi_wp2_with (gi_at_call 75; refine HCC.out.mono ?_; go_loud (
      rintro e W2 ⟨rfl, hB2⟩
      have g1 := (hB2.block _ (by have := H8.out; omega)).trans H1.out
      have g2 := (hB2.block _ (by have := H8.out; omega)).trans H2.out
      have g5 := (hB2.block _ (by have := H8.out; omega)).trans H5.out
      have f10 := blk_frozen g1 0
      have f20 := blk_frozen g2 0
      have c10 : W2.cell? ⟨w.heap.size + 1, 0, none⟩ = some (.slice none 0 0) := (blk_cell g1 0).trans rfl
      have c20 : W2.cell? ⟨w.heap.size + 1 + 1, 0, none⟩ = some (.int .i64 0) := (blk_cell g2 0).trans rfl
      have c30 : W2.cell? ⟨w.heap.size + 1 + 1 + 1, 0, none⟩ = some _ := (blk_cell g5 0).trans rfl
      have g7 : Below w.heap.size w W2 := H7.out.trans (hB2.mono (by have := H8.out; omega))
      have gR : Kd.R k67 67 W2 w.heap.size (fun k => w.heap.size + 8 ≤ k) (.slice A3 (unpSt nums (List.finRange m)).1.length c3) (unpSt nums (List.finRange m)).1 :=
        Kd.R_mono (Kd.R_move (Kd.R_bound H6.out) (fun k hk => hB2.block k hk.2.2.1)) (fun _ hk => hk.1)
      have gD : W2.heap[D]? = some (.deferred (some [])) := (hB2.block D (Array.getElem?_eq_some_iff.1 HK.out).1).trans HK.out
      have BN := Aside0.mk (bad_next w W2 g1 g2 g7)
      have GN := Aside0.mk (good_next w W2 _ g1 g2 g7 _ gR)
      have GD := Aside0.mk gD
      clear g1 g2 g5 hB2 g7 gR gD
      obtain ⟨bb, hbb⟩ : ∃ bb : Bool, bb = (rc != 0) := ⟨_, rfl⟩
      have HBB := Aside0.mk hbb
      try rw [← hbb]
      clear hbb))
    all_goals (rename_i hcc; first
      | (have hrc : rc ≠ 0 := by simpa using hcc
         obtain ⟨k1, k2, k3, k4⟩ := BN.out _ rfl
         have hr := HR.out
         rw [if_neg hrc] at hr
         obtain ⟨rfl, rfl⟩ := Prod.mk.inj hr
         refine unp_end w _ [] 2 Q HQQ.out _ D (by have := HDD.out; have := HSZ.out; omega) (.slice none 0 0) rfl rfl k2 k3 (k1.same D _ GD.out rfl) (Kd.R_nil _ _ _ _ _) k4)
      | (have hrc : rc = 0 := by simpa using hcc
         obtain ⟨k1, k2, k3, k4, k5⟩ := GN.out _ rfl
         have hr := HR.out
         rw [if_pos hrc] at hr
         obtain ⟨rfl, rfl⟩ := Prod.mk.inj hr
         refine unp_end w _ _ 0 Q HQQ.out _ D (by have := HDD.out; have := HSZ.out; omega) _ rfl rfl k2 k3 (k1.same D _ GD.out rfl) k4 k5))
  case stop =>
    intro D c pre W hDD hpre hI hK
    obtain ⟨rfl, ⟨j, _, hj⟩, h1, h2, h7⟩ := hI
    have hr := HRES2.out ⟨j, hj⟩
    obtain ⟨rfl, rfl⟩ := Prod.mk.inj hr
    refine wpIn_ret ?_
    exact unp_end w W [] 2 Q HQQ.out _ D (by have := HSZ.out; omega) (.slice none 0 0) rfl rfl h1 h2 hK (Kd.R_nil _ _ _ _ _) h7
set_option maxRecDepth 100000 in
set_option maxHeartbeats 4000000 in
theorem unp_err (A0_0 : Option Addr) (c0_0 : Nat) (n : Nat) (A0_1 : Option Addr) (c0_1 : Nat) (tl : Nat) (w : World)
   (hmax : n ≤ maxLen) (hn : n = 0 ∨ (∃ m, n = 2 * m + 2) ∨ ∃ m ad q, n = 2 * m + 1 ∧ A0_0 = some ad ∧ w.cell? ad = some (.int .i64 q) ∧ (q ≠ m ∨ 0 < tl ∨ 64 < m)) :
    Calls Try.prog 73 #[.agg #[.slice A0_0 n c0_0, .slice A0_1 tl c0_1]] w fun e w' => ∃ v0_ : Value, e = .returned (.tuple #[v0_, .int .i64 2]) ∧ Kd.R k67 67 w' w.heap.size (fun _ => True) v0_ [] ∧ Below w.heap.size w w' := by
  have hu29 := Try.underlying98
  have hu42 := Try.underlying67
  have done : ∀ (o1 o2 o3 : Obj), Kd.R k67 67 (((w.alloc o1).alloc o2).alloc o3) w.heap.size (fun _ => True) (.slice none 0 0) [] ∧ Below w.heap.size w (((w.alloc o1).alloc o2).alloc o3) := fun o1 o2 o3 =>
    ⟨Kd.R_nil _ _ _ _ _, (((Below.refl _ w).alloc (Nat.le_refl _) _).alloc (by simp) _).alloc (by simp; omega) _⟩
  have DN := Aside0.mk done
  clear done
  rcases hn with rfl | ⟨m, rfl⟩ | ⟨m, ad, q, rfl, rfl, hc, hcase⟩
  · go_enter Try.func73, Try.ntmps73
    go_wp2
    exact bodyPost_ret (v := .tuple #[.slice none 0 0, .int .i64 2]) (by simp [results, Try.f73, go_sem]) rfl ⟨_, rfl, DN.out _ _ _⟩
  · have t1 : (2 * (m : Int) + 2 == 0) = false := by simp; omega
    go_enter Try.func73, Try.ntmps73
    go_wp2
    exact bodyPost_ret (v := .tuple #[.slice none 0 0, .int .i64 2]) (by simp [results, Try.f73, go_sem]) rfl ⟨_, rfl, DN.out _ _ _⟩
  · have hlt := World.block_lt_of_cell? w _ hc
    have hA : ∀ o1 o2 o3, (((w.alloc o1).alloc o2).alloc o3).cell? ad = some (.int .i64 q) := fun o1 o2 o3 => by
      rw [World.cell?_alloc_lt _ _ _ (by simp; omega), World.cell?_alloc_lt _ _ _ (by simp; omega), World.cell?_alloc_lt _ _ _ hlt, hc]
    have hm : m ≤ 4611686018427387903 := by simp only [maxLen] at hmax; omega
    clear hmax
    have t1 : (2 * (m : Int) + 1 == 0) = false := by simp; omega
    obtain ⟨p, hp⟩ : ∃ p : Int, p = (m : Int) := ⟨_, rfl⟩
    have t2 : (2 * (m : Int) + 1) / 2 = p := by omega
    clear hc hlt
    by_cases hq : q = p
    · subst hq
      have hcase : 0 < tl ∨ 64 < m := by omega
      have HP := Aside0.mk hp
      clear hp
      by_cases ht : 0 < tl
      · have t3 : decide (0 < (tl : Int)) = true := by simp; omega
        clear hcase ht
        go_enter Try.func73, Try.ntmps73
        go_wp2
        all_goals exact bodyPost_ret (v := .tuple #[.slice none 0 0, .int .i64 2]) (by simp [results, Try.f73, go_sem]) rfl ⟨_, rfl, DN.out _ _ _⟩
      · have ht0 : tl = 0 := by omega
        subst ht0
        have t3 : decide (64 < q) = true := by have := HP.out; simp; omega
        clear hcase ht
        go_enter Try.func73, Try.ntmps73
        go_wp2
        all_goals exact bodyPost_ret (v := .tuple #[.slice none 0 0, .int .i64 2]) (by simp [results, Try.f73, go_sem]) rfl ⟨_, rfl, DN.out _ _ _⟩
    · have t3 : (q != p) = true := by simpa using hq
      have t4 : (q == p) = false := by simpa using hq
      clear hcase hp
      go_enter Try.func73, Try.ntmps73
      go_wp2
      all_goals exact bodyPost_ret (v := .tuple #[.slice none 0 0, .int .i64 2]) (by simp [results, Try.f73, go_sem]) rfl ⟨_, rfl, DN.out _ _ _⟩
def block_Unpack.ok (nums : List Int) (texts : List ByteArray) : Bool := decide (nums.length % 2 = 1) && decide (rd nums 0 = ((nums.length / 2 : Nat) : Int)) && decide (texts.length = 0) && decide (nums.length / 2 ≤ 64)
def block_Unpack.good (nums : List Int) : Bool := (List.finRange (nums.length / 2)).all fun j => goodAt nums j.val
def block_Unpack.row (nums : List Int) : List S67 := (unpSt nums (List.finRange (nums.length / 2))).1
def block_Unpack.f (k : Nat) (nums : List Int) (texts : List ByteArray) : Option (List S67 × Int) :=
  if nums.length ≤ maxLen then
    if block_Unpack.ok nums texts = true then
      if block_Unpack.good nums = true then (block_Check.f k (block_Unpack.row nums)).bind fun rc => some (if rc = 0 then (block_Unpack.row nums, 0) else ([], 2))
      else some ([], 2)
    else some ([], 2)
  else none
theorem block_Unpack.mono : ∀ a0 a1 k, LeO (block_Unpack.f k a0 a1) (block_Unpack.f (k + 1) a0 a1) := by
  intro a0 a1 k r h
  unfold block_Unpack.f at h ⊢
  split at h
  · rename_i h1
    rw [if_pos h1]
    split at h
    · rename_i h2
      rw [if_pos h2]
      split at h
      · rename_i h3
        rw [if_pos h3]
        obtain ⟨rc, hc, he⟩ := Option.bind_eq_some_iff.1 h
        exact Option.bind_eq_some_iff.2 ⟨rc, block_Check.mono _ _ _ hc, he⟩
      · rename_i h3
        rw [if_neg h3]
        exact h
    · rename_i h2
      rw [if_neg h2]
      exact h
  · cases h
theorem block_Unpack.calls (k : Nat) (A0_0 : Option Addr) (c0_0 : Nat) (l0_0 : List Int) (A0_1 : Option Addr) (c0_1 : Nat) (l0_1 : List ByteArray) (r1 : List (S67)) (r2 : Int) (w : World) (hr0_0 : Kd.C (Kd.int .i64) w A0_0 l0_0.length l0_0) (hc0_0 : l0_0.length ≤ c0_0) (hr0_1 : Kd.C Kd.string w A0_1 l0_1.length l0_1) (hc0_1 : l0_1.length ≤ c0_1) (h : block_Unpack.f k l0_0 l0_1 = some (r1, r2)) :
    Calls Try.prog 73 #[.agg #[.slice A0_0 l0_0.length c0_0, .slice A0_1 l0_1.length c0_1]] w fun e w' => ∃ v0_ : Value, e = .returned (.tuple #[v0_, .int .i64 r2]) ∧ Kd.R k67 67 w' w.heap.size (fun _ => True) v0_ r1 ∧ Below w.heap.size w w' := by
  unfold block_Unpack.f at h
  split at h
  case isFalse => cases h
  rename_i hmax
  have cell0 : 0 < l0_0.length → ∃ ad, A0_0 = some ad ∧ w.cell? ad = some (.int .i64 (rd l0_0 0)) := fun hp => by
    obtain ⟨ad, e1, hx⟩ := Kd.at_int hr0_0 0 (by omega) (by omega)
    exact ⟨ad, e1, by simpa [Addr.add] using hx⟩
  split at h
  case isTrue hok =>
    unfold block_Unpack.ok at hok
    simp only [Bool.and_eq_true, decide_eq_true_eq] at hok
    obtain ⟨⟨⟨h1, h2⟩, h3⟩, h4⟩ := hok
    obtain ⟨ad, rfl, hc⟩ := cell0 (by omega)
    obtain ⟨m, hm⟩ : ∃ m, m = l0_0.length / 2 := ⟨_, rfl⟩
    have ht : l0_1 = [] := List.eq_nil_of_length_eq_zero h3
    refine unp_walk k ad c0_0 l0_0 A0_1 c0_1 l0_1 w hr0_0 hc0_0 m (by omega) (by omega) (by rw [h2, hm]) ht r1 r2 ?_ ?_
    · intro hall
      have hg : block_Unpack.good l0_0 = true := by
        unfold block_Unpack.good
        rw [← hm]
        exact List.all_eq_true.2 fun j _ => hall j
      rw [if_pos hg] at h
      obtain ⟨rc, hck, he⟩ := Option.bind_eq_some_iff.1 h
      unfold block_Unpack.row at hck he
      rw [← hm] at hck he
      exact ⟨rc, hck, (Option.some.inj he).symm⟩
    · rintro ⟨j, hj⟩
      have hg : ¬ block_Unpack.good l0_0 = true := fun hg => by
        unfold block_Unpack.good at hg
        rw [← hm] at hg
        have := List.all_eq_true.1 hg j (List.mem_finRange j)
        rw [hj] at this
        cases this
      rw [if_neg hg] at h
      exact (Option.some.inj h).symm
  case isFalse hok =>
    obtain ⟨rfl, rfl⟩ := Prod.mk.inj (Option.some.inj h)
    refine unp_err A0_0 c0_0 l0_0.length A0_1 c0_1 l0_1.length w hmax ?_
    rcases Nat.eq_zero_or_pos l0_0.length with hz | hp
    · exact .inl hz
    · rcases Nat.mod_two_eq_zero_or_one l0_0.length with h2 | h2
      · exact .inr (.inl ⟨l0_0.length / 2 - 1, by omega⟩)
      · obtain ⟨ad, e1, hc⟩ := cell0 hp
        refine .inr (.inr ⟨l0_0.length / 2, ad, _, by omega, e1, hc, ?_⟩)
        unfold block_Unpack.ok at hok
        simp only [Bool.and_eq_true, decide_eq_true_eq] at hok
        by_cases q1 : rd l0_0 0 = ((l0_0.length / 2 : Nat) : Int)
        · by_cases q2 : l0_1.length = 0
          · exact .inr (.inr (Nat.lt_of_not_le fun q3 => hok ⟨⟨⟨h2, q1⟩, q2⟩, q3⟩))
          · exact .inr (.inl (Nat.pos_of_ne_zero q2))
        · exact .inl q1
end Go.Proofs.Ytmddmbagehjdeaa.G
end
section
namespace Go.Proofs.Ytmddmbagehjdeaa.G
open Go.RowKit Go.Proofs.YtmddmbagehjdeaaX Go.Proofs.YtmddmbagehjdeaaW.PrintWords Go.Proofs.YtmddmbagehjdeaaW.PrintLast Go.Proofs.YtmddmbagehjdeaaW.PrintMore
attribute [local go_sem] max2_int min2_int max_two min_two max_three min_three max_four min_four
set_option linter.unusedVariables false
set_option linter.unusedSimpArgs false
attribute [local go_sem high] eqA67
def gorilla_Samples.j0 : Nat → Bool → Int → Int → Int → List Int → Int → Option ((List (S67)) × Int)
  | 0, _, _, _, _, _, _ => none
  | k + 1, x23, x561000, x561001, x561002, x561003, x561004 => if x23 = true then (some (([] : List (S67)), 2)) else ((gorilla_numbers.f k x561000 x561001 x561002 x561003 x561004).bind fun bt562 => (if bt562.2 = true then ((block_Unpack.f k bt562.1 ([] : List ByteArray)).bind fun bt566 => (if bt566.2 = 0 then ((gorilla_Build.f k bt566.1).bind fun bt570 => ((gorilla_Same.f k bt570.1 bt570.2.1 bt570.2.2.1 bt570.2.2.2.1 bt570.2.2.2.2.1 x561000 x561001 x561002 x561003 x561004).bind fun t579 => (if t579 = true then (some (bt566.1, 0)) else (some (([] : List (S67)), 2))))) else (some (([] : List (S67)), 2)))) else (some (([] : List (S67)), 2))))
def gorilla_Samples.f (k : Nat) (a0_0 : Int) (a0_1 : Int) (a0_2 : Int) (l0_3 : List Int) (a0_4 : Int) : Option ((List (S67)) × Int) := if a0_0 < 1 then (gorilla_Samples.j0 k true a0_0 a0_1 a0_2 l0_3 a0_4) else (if a0_0 > 64 then (gorilla_Samples.j0 k true a0_0 a0_1 a0_2 l0_3 a0_4) else ((bits_Check.f k l0_3 a0_4).bind fun t561 => (gorilla_Samples.j0 k (t561 != 0) a0_0 a0_1 a0_2 l0_3 a0_4)))
theorem gorilla_Samples.mono_l : ∀ k, (∀ y0 y1 y2 y3 y4 y5, LeO (gorilla_Samples.j0 k y0 y1 y2 y3 y4 y5) (gorilla_Samples.j0 (k + 1) y0 y1 y2 y3 y4 y5))
  | 0 => fun _ _ _ _ _ _ r h => by simp [gorilla_Samples.j0] at h
  | k + 1 => by
    have ih0 := gorilla_Samples.mono_l k
    · intro y0 y1 y2 y3 y4 y5
      unfold gorilla_Samples.j0
      repeat' first
      | (with_reducible exact ih0 _ _ _ _ _ _)
      | (with_reducible exact bits_Check.mono _ _ _)
      | (with_reducible exact block_Unpack.mono _ _ _)
      | (with_reducible exact gorilla_Build.mono _ _)
      | (with_reducible exact gorilla_Same.mono _ _ _ _ _ _ _ _ _ _ _)
      | (with_reducible exact gorilla_numbers.mono _ _ _ _ _ _)
      | (with_reducible exact LeO.refl _)
      | (with_reducible exact LeO.none _)
      | (with_reducible refine LeO.ite ?_ ?_)
      | (with_reducible refine LeO.bind ?_ (fun _ => ?_))
      | exact ih0 _ _ _ _ _ _
      | exact bits_Check.mono _ _ _
      | exact block_Unpack.mono _ _ _
      | exact gorilla_Build.mono _ _
      | exact gorilla_Same.mono _ _ _ _ _ _ _ _ _ _ _
      | exact gorilla_numbers.mono _ _ _ _ _ _
      | exact LeO.none _
      | refine LeO.ite ?_ ?_
      | refine LeO.bind ?_ (fun _ => ?_)
theorem gorilla_Samples.mono : ∀ a0 a1 a2 a3 a4 k, LeO (gorilla_Samples.f k a0 a1 a2 a3 a4) (gorilla_Samples.f (k + 1) a0 a1 a2 a3 a4) := by
  intro a0 a1 a2 a3 a4 k
  have ih0 := gorilla_Samples.mono_l k
  unfold gorilla_Samples.f
  repeat' first
      | (with_reducible exact ih0 _ _ _ _ _ _)
      | (with_reducible exact bits_Check.mono _ _ _)
      | (with_reducible exact block_Unpack.mono _ _ _)
      | (with_reducible exact gorilla_Build.mono _ _)
      | (with_reducible exact gorilla_Same.mono _ _ _ _ _ _ _ _ _ _ _)
      | (with_reducible exact gorilla_numbers.mono _ _ _ _ _ _)
      | (with_reducible exact LeO.refl _)
      | (with_reducible exact LeO.none _)
      | (with_reducible refine LeO.ite ?_ ?_)
      | (with_reducible refine LeO.bind ?_ (fun _ => ?_))
      | exact ih0 _ _ _ _ _ _
      | exact bits_Check.mono _ _ _
      | exact block_Unpack.mono _ _ _
      | exact gorilla_Build.mono _ _
      | exact gorilla_Same.mono _ _ _ _ _ _ _ _ _ _ _
      | exact gorilla_numbers.mono _ _ _ _ _ _
      | exact LeO.none _
      | refine LeO.ite ?_ ?_
      | refine LeO.bind ?_ (fun _ => ?_)
set_option maxHeartbeats 8000000 in
set_option maxRecDepth 100000 in
theorem gorilla_Samples.calls (k : Nat) (a0_0 : Int) (a0_1 : Int) (a0_2 : Int) (A0_3 : Option Addr) (c0_3 : Nat) (l0_3 : List Int) (a0_4 : Int) (r1 : List (S67)) (r2 : Int) (w : World) (hr0_3 : Kd.C (Kd.int .u8) w A0_3 l0_3.length l0_3) (hc0_3 : l0_3.length ≤ c0_3) (h : gorilla_Samples.f k a0_0 a0_1 a0_2 l0_3 a0_4 = some (r1, r2)) :
    Calls Try.prog 40 #[.agg #[.int .i64 a0_0, .int .i64 a0_1, .int .i64 a0_2, .slice A0_3 l0_3.length c0_3, .int .i64 a0_4]] w fun e w' => ∃ v0_ : Value, e = .returned (.tuple #[v0_, .int .i64 r2]) ∧ Kd.R k67 67 w' w.heap.size (fun _ => True) v0_ r1 ∧ Below w.heap.size w w' := by
  have hu69 := Try.underlying69
  have hu25 := Try.underlying25
  have hu98 := Try.underlying98
  have HR0_3 := Aside0.mk hr0_3
  have HC0_3 := Aside0.mk hc0_3
  clear hr0_3 hc0_3
  have HB := Aside0.mk (Below.refl w.heap.size w)
  have H : (if a0_0 < 1 then (gorilla_Samples.j0 k true a0_0 a0_1 a0_2 l0_3 a0_4) else (if a0_0 > 64 then (gorilla_Samples.j0 k true a0_0 a0_1 a0_2 l0_3 a0_4) else ((bits_Check.f k l0_3 a0_4).bind fun t561 => (gorilla_Samples.j0 k (t561 != 0) a0_0 a0_1 a0_2 l0_3 a0_4)))) = some (r1, r2) := h
  clear h
  have HC2 := Aside0.mk H
  clear H
  go_enter Try.func40, Try.ntmps40
  go_upto_region 1 with (first | ((with_reducible refine gate_dst (N := 1) rfl ?_); refine box_ev 1 #[.int .i64 a0_0, .int .i64 a0_1, .int .i64 a0_2, .slice A0_3 l0_3.length c0_3, .int .i64 a0_4] 69 ?_; intro gb560 hg w3 hbox hb; have n_ := pk4 (below_step bl_ hb) (hbox) ((ge_ hg bl_ : w.heap.size ≤ gb560)) ((ge_ hg bl_ : w.heap.size ≤ gb560)); clear HB; obtain ⟨HB, BK560, GW560, GE560⟩ := n_; clear hb hbox hg))
  (try simp only [Act.put, List.setIfInBounds_toArray, List.set_cons_zero, List.set_cons_succ])
  go_cut [23] (fun v23 wc => ∃ (kq : Nat) (x23_1 : Bool), v23 = .bool x23_1 ∧ Aside0 (gorilla_Samples.j0 kq x23_1 a0_0 a0_1 a0_2 l0_3 a0_4 = some (r1, r2)) ∧ Aside0 (kq ≤ k) ∧ Aside0 (wc.heap[gb560]? = some (.cells #[.int .i64 a0_0, .int .i64 a0_1, .int .i64 a0_2, (.slice A0_3 l0_3.length c0_3), .int .i64 a0_4] 69 (0, 0))) ∧ Aside0 (Below w.heap.size w wc))
  case first =>
    have H := HC2.out
    clear HC2
    replace H := dle H
    rcases H with ⟨c4b0, H⟩ | ⟨c4b0, H⟩
    focus
      (first | rw [c4b0] | (simp only [i64_w, i32_w]; rw [c4b0]) | skip)
      have H' := Aside0.mk H
      clear H
      obtain ⟨hcz5_0, hcz5_1, hcz5_2, hcz5_3, hcz5_4, hfz5_0, hfz5_1, hfz5_2, hfz5_3, hfz5_4⟩ := blk_at5 BK560.out
    rotate_left
    focus
      (first | rw [c4b0] | (simp only [i64_w, i32_w]; rw [c4b0]) | skip)
      replace H := dgt H
      rcases H with ⟨c6b0, H⟩ | ⟨c6b0, H⟩
      focus
        have H' := Aside0.mk H
        clear H
        obtain ⟨hcz7_0, hcz7_1, hcz7_2, hcz7_3, hcz7_4, hfz7_0, hfz7_1, hfz7_2, hfz7_3, hfz7_4⟩ := blk_at5 BK560.out
      rotate_left
      focus
        replace H := bindA H
        obtain ⟨t561, A8, H⟩ := H
        try dsimp only at H
        have H' := Aside0.mk H
        clear H
        obtain ⟨hcz9_0, hcz9_1, hcz9_2, hcz9_3, hcz9_4, hfz9_0, hfz9_1, hfz9_2, hfz9_3, hfz9_4⟩ := blk_at5 BK560.out
    all_goals
      go_wp2_with (first | (go_at_call 58; (with_reducible refine (bits_Check.calls k _ _ l0_3 a0_4 t561 _ ?side1 ?side2 A8.out).mono ?_); (case side1 => exact cb_ HR0_3); (case side2 => exact HC0_3.out); rintro e w7000 ⟨rfl, hb⟩; have n_ := pk2 (blk_below (bo_ BK560) hb) (below_step bl_ hb); clear BK560 HB; obtain ⟨BK560, HB⟩ := n_; (try clear hb)))
      go_meet
      first
        | case rel => exact ⟨_, (true), sm_, H', ⟨om_⟩, ⟨(bo_ BK560)⟩, ⟨bl_⟩⟩
        | case rel => exact ⟨_, ((t561 != 0)), sm_, H', ⟨om_⟩, ⟨(bo_ BK560)⟩, ⟨bl_⟩⟩
  case rest =>
    clear HC2
    obtain ⟨kq, x23_1, rfl, HA, HJ1, BK560, HB⟩ := hcut
    cases kq with
    | zero => exact absurd HA.out (by simp [gorilla_Samples.j0])
    | succ kj1 =>
      have H := HA.out
      clear HA
      simp only [gorilla_Samples.j0] at H
      replace H := dbool H
      rcases H with ⟨rfl, H⟩ | ⟨rfl, H⟩
      focus
        simp only [Option.some.injEq, Prod.mk.injEq] at H
        obtain ⟨rfl, rfl⟩ := H
      rotate_left
      focus
        replace H := bindA H
        obtain ⟨⟨t562, t565⟩, A12, H⟩ := H
        try dsimp only at H
        replace H := dbool H
        rcases H with ⟨rfl, H⟩ | ⟨rfl, H⟩
        focus
          replace H := bindA H
          obtain ⟨⟨t566, t569⟩, A14, H⟩ := H
          try dsimp only at H
          replace H := deqn H
          rcases H with ⟨c15b0, c15b1, H⟩ | ⟨c15b0, c15b1, c15, H⟩
          focus
            replace H := bindA H
            obtain ⟨⟨t570, t571, t572, t573, t576, t577⟩, A16, H⟩ := H
            try dsimp only at H
            replace H := bindA H
            obtain ⟨t579, A17, H⟩ := H
            try dsimp only at H
            replace H := dbool H
            rcases H with ⟨rfl, H⟩ | ⟨rfl, H⟩
            focus
              simp only [Option.some.injEq, Prod.mk.injEq] at H
              obtain ⟨rfl, rfl⟩ := H
              obtain ⟨hcz19_0, hcz19_1, hcz19_2, hcz19_3, hcz19_4, hfz19_0, hfz19_1, hfz19_2, hfz19_3, hfz19_4⟩ := blk_at5 BK560.out
            rotate_left
            focus
              simp only [Option.some.injEq, Prod.mk.injEq] at H
              obtain ⟨rfl, rfl⟩ := H
              obtain ⟨hcz31_0, hcz31_1, hcz31_2, hcz31_3, hcz31_4, hfz31_0, hfz31_1, hfz31_2, hfz31_3, hfz31_4⟩ := blk_at5 BK560.out
          rotate_left 2
          focus
            simp only [Option.some.injEq, Prod.mk.injEq] at H
            obtain ⟨rfl, rfl⟩ := H
            obtain ⟨hcz43_0, hcz43_1, hcz43_2, hcz43_3, hcz43_4, hfz43_0, hfz43_1, hfz43_2, hfz43_3, hfz43_4⟩ := blk_at5 BK560.out
        rotate_left 3
        focus
          simp only [Option.some.injEq, Prod.mk.injEq] at H
          obtain ⟨rfl, rfl⟩ := H
          obtain ⟨hcz47_0, hcz47_1, hcz47_2, hcz47_3, hcz47_4, hfz47_0, hfz47_1, hfz47_2, hfz47_3, hfz47_4⟩ := blk_at5 BK560.out
      all_goals
        go_wp2_with (first | ((with_reducible refine gate_callee (f := 72) rfl ?_); refine goL_ (some 26) Try.func72 #[.agg #[.int .i64 a0_0, .int .i64 a0_1, .int .i64 a0_2, .slice A0_3 l0_3.length c0_3, .int .i64 a0_4]] ?_; (with_reducible refine (gorilla_numbers.calls kj1 a0_0 a0_1 a0_2 _ _ l0_3 a0_4 t562 true _ ?side1 ?side2 A12.out).mono ?_); (case side1 => exact cb_ HR0_3); (case side2 => exact HC0_3.out); rintro e w7000 ⟨v7000, rfl, ho7000, hb⟩; refine ⟨_, rfl, ?_⟩; have n_ := pk3 (Kd.R_lower ho7000 (below_size bl_)) (blk_below (bo_ BK560) hb) (below_step bl_ hb); clear BK560 HB; obtain ⟨HO7000, BK560, HB⟩ := n_; (try clear hb ho7000); obtain ⟨Ao7000, co7000, eo7000⟩ := Kd.R_slice HO7000.out; subst eo7000) | ((with_reducible refine gate_callee (f := 72) rfl ?_); refine goL_ (some 26) Try.func72 #[.agg #[.int .i64 a0_0, .int .i64 a0_1, .int .i64 a0_2, .slice A0_3 l0_3.length c0_3, .int .i64 a0_4]] ?_; (with_reducible refine (gorilla_numbers.calls kj1 a0_0 a0_1 a0_2 _ _ l0_3 a0_4 t562 false _ ?side1 ?side2 A12.out).mono ?_); (case side1 => exact cb_ HR0_3); (case side2 => exact HC0_3.out); rintro e w7000 ⟨v7000, rfl, ho7000, hb⟩; refine ⟨_, rfl, ?_⟩; have n_ := pk3 (Kd.R_lower ho7000 (below_size bl_)) (blk_below (bo_ BK560) hb) (below_step bl_ hb); clear BK560 HB; obtain ⟨HO7000, BK560, HB⟩ := n_; (try clear hb ho7000)) | ((with_reducible refine gate_callee (f := 73) rfl ?_); refine goL_ (some 34) Try.func73 #[.agg #[.slice Ao7000 t562.length co7000, .slice none 0 0]] ?_; (refine (block_Unpack.calls kj1 _ _ t562 _ _ ([] : List ByteArray) t566 t569 _ ?side1 ?side2 ?side3 ?side4 A14.out).mono ?_); (case side1 => exact cr_ HO7000); (case side2 => exact (Kd.R_reads' HO7000.out).2.1); (case side3 => exact Kd.C_nil _ _); (case side4 => exact Nat.le_refl _); rintro e w7001 ⟨v7001, rfl, ho7000, hb⟩; refine ⟨_, rfl, ?_⟩; have n_ := pk4 (Kd.R_below (ro_ HO7000) hb) (Kd.R_lower ho7000 (below_size bl_)) (blk_below (bo_ BK560) hb) (below_step bl_ hb); clear HO7000 BK560 HB; obtain ⟨HO7000, HO7001, BK560, HB⟩ := n_; (try clear hb ho7000); (try (obtain ⟨Ao7001, co7001, eo7001⟩ := Kd.R_slice HO7001.out; subst eo7001))) | ((with_reducible refine gate_callee (f := 37) rfl ?_); refine goL_ (some 41) Try.func37 #[.slice Ao7001 t566.length co7001] ?_; (with_reducible refine (gorilla_Build.calls kj1 _ _ t566 t570 t571 t572 t573 t576 t577 _ ?side1 ?side2 A16.out).mono ?_); (case side1 => exact cr_ HO7001); (case side2 => exact (Kd.R_reads' HO7001.out).2.1); rintro e w7002 ⟨v7002, rfl, ho7000, hb⟩; refine ⟨_, rfl, ?_⟩; have n_ := pk5 (Kd.R_below (ro_ HO7000) hb) (Kd.R_below (ro_ HO7001) hb) (Kd.R_lower ho7000 (below_size bl_)) (blk_below (bo_ BK560) hb) (below_step bl_ hb); clear HO7000 HO7001 BK560 HB; obtain ⟨HO7000, HO7001, HO7002, BK560, HB⟩ := n_; (try clear hb ho7000)) | ((with_reducible refine gate_dst (N := 8) rfl ?_); refine box_ev 8 #[.int .i64 0, .int .i64 0, .int .i64 0, .slice none 0 0, .int .i64 0] 69 ?_; intro gb7000 hg w7003 hbox hb; have n_ := pk10 (Kd.R_below (ro_ HO7000) hb) (Kd.R_below (ro_ HO7001) hb) (Kd.R_below (ro_ HO7002) hb) (blk_below (bo_ BK560) hb) (below_step bl_ hb) (hbox) ((ge_ hg bl_ : w.heap.size ≤ gb7000)) ((ge_ hg bl_ : w.heap.size ≤ gb7000)) ((nb_ hg (bo_ BK560) : gb560 ≠ gb7000)) ((nc_ hg (bo_ BK560) : gb7000 ≠ gb560)); clear HO7000 HO7001 HO7002 BK560 HB; obtain ⟨HO7000, HO7001, HO7002, BK560, HB, BK7000, GW7000, GE7000, NB560_7000, NB7000_560⟩ := n_; clear hb hbox hg; have hnb7000 := NB7000_560.out; have hnc7000 := NB560_7000.out; have hcz7000_0 : w7003.cell? ⟨gb7000, 0, none⟩ = some (.int .i64 0) := (blk_cell BK7000.out 0).trans rfl; have hcz7000_1 : w7003.cell? ⟨gb7000, 1, none⟩ = some (.int .i64 0) := (blk_cell BK7000.out 1).trans rfl; have hcz7000_2 : w7003.cell? ⟨gb7000, 2, none⟩ = some (.int .i64 0) := (blk_cell BK7000.out 2).trans rfl; have hcz7000_3 : w7003.cell? ⟨gb7000, 3, none⟩ = some (.slice none 0 0) := (blk_cell BK7000.out 3).trans rfl; have hcz7000_4 : w7003.cell? ⟨gb7000, 4, none⟩ = some (.int .i64 0) := (blk_cell BK7000.out 4).trans rfl; have hfz7000_0 := blk_frozen BK7000.out 0; have hfz7000_1 := blk_frozen BK7000.out 1; have hfz7000_2 := blk_frozen BK7000.out 2; have hfz7000_3 := blk_frozen BK7000.out 3; have hfz7000_4 := blk_frozen BK7000.out 4; obtain ⟨Ao7002, co7002, eo7002⟩ := Kd.R_slice HO7002.out; subst eo7002; have hcz7001_0 : w7003.cell? ⟨gb560, 0, none⟩ = some (.int .i64 a0_0) := (blk_cell BK560.out 0).trans rfl; have hcz7001_1 : w7003.cell? ⟨gb560, 1, none⟩ = some (.int .i64 a0_1) := (blk_cell BK560.out 1).trans rfl; have hcz7001_2 : w7003.cell? ⟨gb560, 2, none⟩ = some (.int .i64 a0_2) := (blk_cell BK560.out 2).trans rfl; have hcz7001_3 : w7003.cell? ⟨gb560, 3, none⟩ = some (.slice A0_3 l0_3.length c0_3) := (blk_cell BK560.out 3).trans rfl; have hcz7001_4 : w7003.cell? ⟨gb560, 4, none⟩ = some (.int .i64 a0_4) := (blk_cell BK560.out 4).trans rfl; have hfz7001_0 := blk_frozen BK560.out 0; have hfz7001_1 := blk_frozen BK560.out 1; have hfz7001_2 := blk_frozen BK560.out 2; have hfz7001_3 := blk_frozen BK560.out 3; have hfz7001_4 := blk_frozen BK560.out 4) | ((with_reducible refine gate_callee (f := 57) rfl ?_); refine goL_ (some 46) Try.func57 #[.agg #[.int .i64 t570, .int .i64 t571, .int .i64 t572, .slice Ao7002 t573.length co7002, .int .i64 t576], .agg #[.int .i64 a0_0, .int .i64 a0_1, .int .i64 a0_2, .slice A0_3 l0_3.length c0_3, .int .i64 a0_4]] ?_; (with_reducible refine (gorilla_Same.calls kj1 t570 t571 t572 _ _ t573 t576 a0_0 a0_1 a0_2 _ _ l0_3 a0_4 false _ ?side1 ?side2 ?side3 ?side4 A17.out).mono ?_); (case side1 => refine (Kd.R_reads' (e := 5) (base := w.heap.size) (ok := fun k_ => True) (n := t573.length) (c := co7002) ?_).2.2; exact (rt_ ((Kd.R_mono (Kd.R_far (p := ⟨gb7000, 4, none⟩) (Kd.R_far (p := ⟨gb7000, 3, none⟩) (Kd.R_far (p := ⟨gb7000, 2, none⟩) (Kd.R_far (p := ⟨gb7000, 1, none⟩) (Kd.R_far (p := ⟨gb7000, 0, none⟩) (Kd.R_types HO7002.out BK7000.out (by decide)) (fun _ hk => hk.2) (.int .i64 t570)) (fun _ hk => hk.2) (.int .i64 t571)) (fun _ hk => hk.2) (.int .i64 t572)) (fun _ hk => hk.2) (.slice Ao7002 t573.length co7002)) (fun _ hk => hk.2) (.int .i64 t576)) (fun _ h_ => h_.1))))); (case side2 => exact (Kd.R_reads' HO7002.out).2.1); (case side3 => exact Kd.C_below HR0_3.out bl_); (case side4 => exact HC0_3.out); rintro e w7004 ⟨rfl, hb⟩; refine ⟨_, rfl, ?_⟩; have n_ := pk6 (Kd.R_below (rt_ ((Kd.R_mono (Kd.R_far (p := ⟨gb7000, 4, none⟩) (Kd.R_far (p := ⟨gb7000, 3, none⟩) (Kd.R_far (p := ⟨gb7000, 2, none⟩) (Kd.R_far (p := ⟨gb7000, 1, none⟩) (Kd.R_far (p := ⟨gb7000, 0, none⟩) (Kd.R_types HO7000.out BK7000.out (by decide)) (fun _ hk => hk.2) (.int .i64 t570)) (fun _ hk => hk.2) (.int .i64 t571)) (fun _ hk => hk.2) (.int .i64 t572)) (fun _ hk => hk.2) (.slice Ao7002 t573.length co7002)) (fun _ hk => hk.2) (.int .i64 t576)) (fun _ h_ => h_.1)))) hb) (Kd.R_below (rt_ ((Kd.R_mono (Kd.R_far (p := ⟨gb7000, 4, none⟩) (Kd.R_far (p := ⟨gb7000, 3, none⟩) (Kd.R_far (p := ⟨gb7000, 2, none⟩) (Kd.R_far (p := ⟨gb7000, 1, none⟩) (Kd.R_far (p := ⟨gb7000, 0, none⟩) (Kd.R_types HO7001.out BK7000.out (by decide)) (fun _ hk => hk.2) (.int .i64 t570)) (fun _ hk => hk.2) (.int .i64 t571)) (fun _ hk => hk.2) (.int .i64 t572)) (fun _ hk => hk.2) (.slice Ao7002 t573.length co7002)) (fun _ hk => hk.2) (.int .i64 t576)) (fun _ h_ => h_.1)))) hb) (Kd.R_below (rt_ ((Kd.R_mono (Kd.R_far (p := ⟨gb7000, 4, none⟩) (Kd.R_far (p := ⟨gb7000, 3, none⟩) (Kd.R_far (p := ⟨gb7000, 2, none⟩) (Kd.R_far (p := ⟨gb7000, 1, none⟩) (Kd.R_far (p := ⟨gb7000, 0, none⟩) (Kd.R_types HO7002.out BK7000.out (by decide)) (fun _ hk => hk.2) (.int .i64 t570)) (fun _ hk => hk.2) (.int .i64 t571)) (fun _ hk => hk.2) (.int .i64 t572)) (fun _ hk => hk.2) (.slice Ao7002 t573.length co7002)) (fun _ hk => hk.2) (.int .i64 t576)) (fun _ h_ => h_.1)))) hb) (blk_below (g := gb560) (o := .cells #[.int .i64 a0_0, .int .i64 a0_1, .int .i64 a0_2, .slice A0_3 l0_3.length c0_3, .int .i64 a0_4] 69 (0, 0)) (by (with_reducible repeat (first | refine blk_drewN ?_ _ | refine blk_drew ?_ | refine blk_alloc ?_ _)); refine blk_far ?_ NB560_7000.out _; (with_reducible repeat (first | refine blk_drewN ?_ _ | refine blk_drew ?_ | refine blk_alloc ?_ _)); refine blk_far ?_ NB560_7000.out _; (with_reducible repeat (first | refine blk_drewN ?_ _ | refine blk_drew ?_ | refine blk_alloc ?_ _)); refine blk_far ?_ NB560_7000.out _; (with_reducible repeat (first | refine blk_drewN ?_ _ | refine blk_drew ?_ | refine blk_alloc ?_ _)); refine blk_far ?_ NB560_7000.out _; (with_reducible repeat (first | refine blk_drewN ?_ _ | refine blk_drew ?_ | refine blk_alloc ?_ _)); refine blk_far ?_ NB560_7000.out _; exact (bo_ BK560)) hb) (blk_below (g := gb7000) (o := .cells #[.int .i64 t570, .int .i64 t571, .int .i64 t572, .slice Ao7002 t573.length co7002, .int .i64 t576] 69 (0, 0)) (by (with_reducible repeat (first | refine blk_drewN ?_ _ | refine blk_drew ?_ | refine blk_alloc ?_ _)); refine blk_put (cs := #[.int .i64 t570, .int .i64 t571, .int .i64 t572, .slice Ao7002 t573.length co7002, .int .i64 0]) ?_ 4 _ rfl; (with_reducible repeat (first | refine blk_drewN ?_ _ | refine blk_drew ?_ | refine blk_alloc ?_ _)); refine blk_put (cs := #[.int .i64 t570, .int .i64 t571, .int .i64 t572, .slice none 0 0, .int .i64 0]) ?_ 3 _ rfl; (with_reducible repeat (first | refine blk_drewN ?_ _ | refine blk_drew ?_ | refine blk_alloc ?_ _)); refine blk_put (cs := #[.int .i64 t570, .int .i64 t571, .int .i64 0, .slice none 0 0, .int .i64 0]) ?_ 2 _ rfl; (with_reducible repeat (first | refine blk_drewN ?_ _ | refine blk_drew ?_ | refine blk_alloc ?_ _)); refine blk_put (cs := #[.int .i64 t570, .int .i64 0, .int .i64 0, .slice none 0 0, .int .i64 0]) ?_ 1 _ rfl; (with_reducible repeat (first | refine blk_drewN ?_ _ | refine blk_drew ?_ | refine blk_alloc ?_ _)); refine blk_put (cs := #[.int .i64 0, .int .i64 0, .int .i64 0, .slice none 0 0, .int .i64 0]) ?_ 0 _ rfl; exact (bo_ BK7000)) hb) (below_step bl_ hb); clear HO7000 HO7001 HO7002 BK560 BK7000 HB; obtain ⟨HO7000, HO7001, HO7002, BK560, BK7000, HB⟩ := n_; (try clear hb)) | ((with_reducible refine gate_callee (f := 57) rfl ?_); refine goL_ (some 46) Try.func57 #[.agg #[.int .i64 t570, .int .i64 t571, .int .i64 t572, .slice Ao7002 t573.length co7002, .int .i64 t576], .agg #[.int .i64 a0_0, .int .i64 a0_1, .int .i64 a0_2, .slice A0_3 l0_3.length c0_3, .int .i64 a0_4]] ?_; (with_reducible refine (gorilla_Same.calls kj1 t570 t571 t572 _ _ t573 t576 a0_0 a0_1 a0_2 _ _ l0_3 a0_4 true _ ?side1 ?side2 ?side3 ?side4 A17.out).mono ?_); (case side1 => refine (Kd.R_reads' (e := 5) (base := w.heap.size) (ok := fun k_ => True) (n := t573.length) (c := co7002) ?_).2.2; exact (rt_ ((Kd.R_mono (Kd.R_far (p := ⟨gb7000, 4, none⟩) (Kd.R_far (p := ⟨gb7000, 3, none⟩) (Kd.R_far (p := ⟨gb7000, 2, none⟩) (Kd.R_far (p := ⟨gb7000, 1, none⟩) (Kd.R_far (p := ⟨gb7000, 0, none⟩) (Kd.R_types HO7002.out BK7000.out (by decide)) (fun _ hk => hk.2) (.int .i64 t570)) (fun _ hk => hk.2) (.int .i64 t571)) (fun _ hk => hk.2) (.int .i64 t572)) (fun _ hk => hk.2) (.slice Ao7002 t573.length co7002)) (fun _ hk => hk.2) (.int .i64 t576)) (fun _ h_ => h_.1))))); (case side2 => exact (Kd.R_reads' HO7002.out).2.1); (case side3 => exact Kd.C_below HR0_3.out bl_); (case side4 => exact HC0_3.out); rintro e w7004 ⟨rfl, hb⟩; refine ⟨_, rfl, ?_⟩; have n_ := pk6 (Kd.R_below (rt_ ((Kd.R_mono (Kd.R_far (p := ⟨gb7000, 4, none⟩) (Kd.R_far (p := ⟨gb7000, 3, none⟩) (Kd.R_far (p := ⟨gb7000, 2, none⟩) (Kd.R_far (p := ⟨gb7000, 1, none⟩) (Kd.R_far (p := ⟨gb7000, 0, none⟩) (Kd.R_types HO7000.out BK7000.out (by decide)) (fun _ hk => hk.2) (.int .i64 t570)) (fun _ hk => hk.2) (.int .i64 t571)) (fun _ hk => hk.2) (.int .i64 t572)) (fun _ hk => hk.2) (.slice Ao7002 t573.length co7002)) (fun _ hk => hk.2) (.int .i64 t576)) (fun _ h_ => h_.1)))) hb) (Kd.R_below (rt_ ((Kd.R_mono (Kd.R_far (p := ⟨gb7000, 4, none⟩) (Kd.R_far (p := ⟨gb7000, 3, none⟩) (Kd.R_far (p := ⟨gb7000, 2, none⟩) (Kd.R_far (p := ⟨gb7000, 1, none⟩) (Kd.R_far (p := ⟨gb7000, 0, none⟩) (Kd.R_types HO7001.out BK7000.out (by decide)) (fun _ hk => hk.2) (.int .i64 t570)) (fun _ hk => hk.2) (.int .i64 t571)) (fun _ hk => hk.2) (.int .i64 t572)) (fun _ hk => hk.2) (.slice Ao7002 t573.length co7002)) (fun _ hk => hk.2) (.int .i64 t576)) (fun _ h_ => h_.1)))) hb) (Kd.R_below (rt_ ((Kd.R_mono (Kd.R_far (p := ⟨gb7000, 4, none⟩) (Kd.R_far (p := ⟨gb7000, 3, none⟩) (Kd.R_far (p := ⟨gb7000, 2, none⟩) (Kd.R_far (p := ⟨gb7000, 1, none⟩) (Kd.R_far (p := ⟨gb7000, 0, none⟩) (Kd.R_types HO7002.out BK7000.out (by decide)) (fun _ hk => hk.2) (.int .i64 t570)) (fun _ hk => hk.2) (.int .i64 t571)) (fun _ hk => hk.2) (.int .i64 t572)) (fun _ hk => hk.2) (.slice Ao7002 t573.length co7002)) (fun _ hk => hk.2) (.int .i64 t576)) (fun _ h_ => h_.1)))) hb) (blk_below (g := gb560) (o := .cells #[.int .i64 a0_0, .int .i64 a0_1, .int .i64 a0_2, .slice A0_3 l0_3.length c0_3, .int .i64 a0_4] 69 (0, 0)) (by (with_reducible repeat (first | refine blk_drewN ?_ _ | refine blk_drew ?_ | refine blk_alloc ?_ _)); refine blk_far ?_ NB560_7000.out _; (with_reducible repeat (first | refine blk_drewN ?_ _ | refine blk_drew ?_ | refine blk_alloc ?_ _)); refine blk_far ?_ NB560_7000.out _; (with_reducible repeat (first | refine blk_drewN ?_ _ | refine blk_drew ?_ | refine blk_alloc ?_ _)); refine blk_far ?_ NB560_7000.out _; (with_reducible repeat (first | refine blk_drewN ?_ _ | refine blk_drew ?_ | refine blk_alloc ?_ _)); refine blk_far ?_ NB560_7000.out _; (with_reducible repeat (first | refine blk_drewN ?_ _ | refine blk_drew ?_ | refine blk_alloc ?_ _)); refine blk_far ?_ NB560_7000.out _; exact (bo_ BK560)) hb) (blk_below (g := gb7000) (o := .cells #[.int .i64 t570, .int .i64 t571, .int .i64 t572, .slice Ao7002 t573.length co7002, .int .i64 t576] 69 (0, 0)) (by (with_reducible repeat (first | refine blk_drewN ?_ _ | refine blk_drew ?_ | refine blk_alloc ?_ _)); refine blk_put (cs := #[.int .i64 t570, .int .i64 t571, .int .i64 t572, .slice Ao7002 t573.length co7002, .int .i64 0]) ?_ 4 _ rfl; (with_reducible repeat (first | refine blk_drewN ?_ _ | refine blk_drew ?_ | refine blk_alloc ?_ _)); refine blk_put (cs := #[.int .i64 t570, .int .i64 t571, .int .i64 t572, .slice none 0 0, .int .i64 0]) ?_ 3 _ rfl; (with_reducible repeat (first | refine blk_drewN ?_ _ | refine blk_drew ?_ | refine blk_alloc ?_ _)); refine blk_put (cs := #[.int .i64 t570, .int .i64 t571, .int .i64 0, .slice none 0 0, .int .i64 0]) ?_ 2 _ rfl; (with_reducible repeat (first | refine blk_drewN ?_ _ | refine blk_drew ?_ | refine blk_alloc ?_ _)); refine blk_put (cs := #[.int .i64 t570, .int .i64 0, .int .i64 0, .slice none 0 0, .int .i64 0]) ?_ 1 _ rfl; (with_reducible repeat (first | refine blk_drewN ?_ _ | refine blk_drew ?_ | refine blk_alloc ?_ _)); refine blk_put (cs := #[.int .i64 0, .int .i64 0, .int .i64 0, .slice none 0 0, .int .i64 0]) ?_ 0 _ rfl; exact (bo_ BK7000)) hb) (below_step bl_ hb); clear HO7000 HO7001 HO7002 BK560 BK7000 HB; obtain ⟨HO7000, HO7001, HO7002, BK560, BK7000, HB⟩ := n_; (try clear hb)))
        go_ret2
        first
          | exact ⟨_, rf_, nl_, bl_⟩
          | exact ⟨_, rf_, (ro_ HO7001), bl_⟩
def windroseref11_Same.l0 : Nat → List (S67) → List (S67) → Int → Option (Bool)
  | 0, _, _, _ => none
  | k + 1, x0, x1, x5 => if x5 < (x0.length : Int) then (if 0 ≤ x5 then (if x5 < (x1.length : Int) then (if (!(((rd_T67 x0 x5).f0) == ((rd_T67 x1 x5).f0)) || (!(((rd_T67 x0 x5).f1) == ((rd_T67 x1 x5).f1)))) = true then (some false) else (windroseref11_Same.l0 k x0 x1 (wrap64 (x5 + 1)))) else (none)) else (none)) else (some true)
def windroseref11_Same.f (k : Nat) (l0 : List (S67)) (l1 : List (S67)) : Option (Bool) := if (l0.length : Int) = (l1.length : Int) then (windroseref11_Same.l0 k l0 l1 0) else (some false)
theorem windroseref11_Same.mono_l : ∀ k, (∀ y0 y1 y2, LeO (windroseref11_Same.l0 k y0 y1 y2) (windroseref11_Same.l0 (k + 1) y0 y1 y2))
  | 0 => fun _ _ _ r h => by simp [windroseref11_Same.l0] at h
  | k + 1 => by
    have ih0 := windroseref11_Same.mono_l k
    · intro y0 y1 y2
      unfold windroseref11_Same.l0
      repeat' first
      | (with_reducible exact ih0 _ _ _)
      | (with_reducible exact LeO.refl _)
      | (with_reducible exact LeO.none _)
      | (with_reducible refine LeO.ite ?_ ?_)
      | (with_reducible refine LeO.bind ?_ (fun _ => ?_))
      | exact ih0 _ _ _
      | exact LeO.none _
      | refine LeO.ite ?_ ?_
      | refine LeO.bind ?_ (fun _ => ?_)
theorem windroseref11_Same.mono : ∀ a0 a1 k, LeO (windroseref11_Same.f k a0 a1) (windroseref11_Same.f (k + 1) a0 a1) := by
  intro a0 a1 k
  have ih0 := windroseref11_Same.mono_l k
  unfold windroseref11_Same.f
  repeat' first
      | (with_reducible exact ih0 _ _ _)
      | (with_reducible exact LeO.refl _)
      | (with_reducible exact LeO.none _)
      | (with_reducible refine LeO.ite ?_ ?_)
      | (with_reducible refine LeO.bind ?_ (fun _ => ?_))
      | exact ih0 _ _ _
      | exact LeO.none _
      | refine LeO.ite ?_ ?_
      | refine LeO.bind ?_ (fun _ => ?_)
set_option maxHeartbeats 8000000 in
set_option maxRecDepth 100000 in
theorem windroseref11_Same.calls (k : Nat) (A0 : Option Addr) (c0 : Nat) (l0 : List (S67)) (A1 : Option Addr) (c1 : Nat) (l1 : List (S67)) (r : Bool) (w : World) (hr0 : Kd.C k67 w A0 l0.length l0) (hc0 : l0.length ≤ c0) (hr1 : Kd.C k67 w A1 l1.length l1) (hc1 : l1.length ≤ c1) (h : windroseref11_Same.f k l0 l1 = some r) :
    Calls Try.prog 42 #[.slice A0 l0.length c0, .slice A1 l1.length c1] w fun e w' => e = .returned (.bool r) ∧ Drawn0 w w' := by
  have hu67 := Try.underlying67
  have HR0 := Aside0.mk hr0
  have HC0 := Aside0.mk hc0
  clear hr0 hc0
  have HR1 := Aside0.mk hr1
  have HC1 := Aside0.mk hc1
  clear hr1 hc1
  have H : (if (l0.length : Int) = (l1.length : Int) then (windroseref11_Same.l0 k l0 l1 0) else (some false)) = some r := h
  clear h
  by_cases c3 : (l0.length : Int) = (l1.length : Int)
  · rw [if_pos c3] at H
    have c3b0 : ((l0.length : Int) == (l1.length : Int)) = true := beq_iff_eq.mpr c3
    have c3b1 : ((l0.length : Int) != (l1.length : Int)) = false := bne_eq_false_iff_eq.mpr c3
    have c3b2 : (l0.length == l1.length) = true := by first | simpa using c3 | (simp at c3 ⊢; omega)
    clear c3
    have H' := Aside0.mk H
    clear H
    go_enter Try.func42, Try.ntmps42
    go_wp2
    repeat (go_quiet (fail); try go_wp2)
    go_loopg [5] k (fun kq v5 w' => ∃ (x5_1 : Int), v5 = .int .i64 x5_1 ∧ Aside0 (windroseref11_Same.l0 kq l0 l1 x5_1 = some r) ∧ Aside0 (kq ≤ k) ∧ Drawn0 w w')
    case atStart => exact ⟨(0), sm_, H', ⟨Nat.le_refl _⟩, by repeat (first | exact Drawn0.refl _ | apply Drawn0.step)⟩
    case round =>
      clear H'
      try clear c3
      try clear c3b0
      try clear c3b1
      try clear c3b2
      obtain ⟨x5_1, rfl, HA, HK1, ⟨m1, rfl⟩⟩ := hrel
      cases gk with
      | zero => exact absurd HA.out (by simp [windroseref11_Same.l0])
      | succ k1 =>
        have H := HA.out
        clear HA
        simp only [windroseref11_Same.l0] at H
        replace H := dle H
        rcases H with ⟨c4b0, H⟩ | ⟨c4b0, H⟩
        focus
          replace H := dle H
          rcases H with ⟨c5b0, H⟩ | ⟨c5b0, H⟩
          rotate_left
          · exact absurd H (by simp)
          replace H := dle H
          rcases H with ⟨c6b0, H⟩ | ⟨c6b0, H⟩
          rotate_left
          · exact absurd H (by simp)
          by_cases c7 : (!(((rd_T67 l0 x5_1).f0) == ((rd_T67 l1 x5_1).f0)) || (!(((rd_T67 l0 x5_1).f1) == ((rd_T67 l1 x5_1).f1)))) = true
          focus
            rw [if_pos c7] at H
            have c7b0 : (!(((rd_T67 l0 x5_1).f0) == ((rd_T67 l1 x5_1).f0)) || (!(((rd_T67 l0 x5_1).f1) == ((rd_T67 l1 x5_1).f1)))) = true := c7
            clear c7
            obtain rfl := Option.some.inj H
            have p580 : 0 ≤ (x5_1 : Int) := dc_
            have q580 : x5_1 < (l0.length : Int) := dc_
            obtain ⟨ad580, e580, hx580_0, hx580_1⟩ := at_T67 HR0.out x5_1 p580 q580
            cases e580
            replace p580 := eq_true p580
            replace q580 := eq_true q580
            have p581 : 0 ≤ (x5_1 : Int) := dc_
            have q581 : x5_1 < (l1.length : Int) := dc_
            obtain ⟨ad581, e581, hx581_0, hx581_1⟩ := at_T67 HR1.out x5_1 p581 q581
            cases e581
            replace p581 := eq_true p581
            replace q581 := eq_true q581
          rotate_left
          focus
            rw [if_neg c7] at H
            have c7b0 : (!(((rd_T67 l0 x5_1).f0) == ((rd_T67 l1 x5_1).f0)) || (!(((rd_T67 l0 x5_1).f1) == ((rd_T67 l1 x5_1).f1)))) = false := by simpa using c7
            clear c7
            have H' := Aside0.mk H
            clear H
            have p580 : 0 ≤ (x5_1 : Int) := dc_
            have q580 : x5_1 < (l0.length : Int) := dc_
            obtain ⟨ad580, e580, hx580_0, hx580_1⟩ := at_T67 HR0.out x5_1 p580 q580
            cases e580
            replace p580 := eq_true p580
            replace q580 := eq_true q580
            have p581 : 0 ≤ (x5_1 : Int) := dc_
            have q581 : x5_1 < (l1.length : Int) := dc_
            obtain ⟨ad581, e581, hx581_0, hx581_1⟩ := at_T67 HR1.out x5_1 p581 q581
            cases e581
            replace p581 := eq_true p581
            replace q581 := eq_true q581
        rotate_left 2
        focus
          obtain rfl := Option.some.inj H
        all_goals
          go_wp2
          repeat (go_quiet (fail); try go_wp2)
          first
            | go_ret
              exact ⟨by first | rfl | (simp; done) | (simp [*]; done), by repeat (first | exact Drawn0.refl _ | apply Drawn0.step)⟩
            | go_roundg k1
              case measure => have := HK1.out; omega
              case rel => exact ⟨(wrap64 (x5_1 + 1)), sm_, H', ⟨by have := HK1.out; omega⟩, by repeat (first | exact Drawn0.refl _ | apply Drawn0.step)⟩
  rw [if_neg c3] at H
  have c3b0 : ((l0.length : Int) == (l1.length : Int)) = false := beq_eq_false_iff_ne.mpr c3
  have c3b1 : ((l0.length : Int) != (l1.length : Int)) = true := bne_iff_ne.mpr c3
  have c3b2 : (l0.length == l1.length) = false := by first | simpa using c3 | (simp at c3 ⊢; omega)
  obtain rfl := Option.some.inj H
  go_enter Try.func42, Try.ntmps42
  go_wp2
  repeat (go_quiet (fail); try go_wp2)
  go_ret
  exact ⟨by first | rfl | (simp; done) | (simp [*]; done), by repeat (first | exact Drawn0.refl _ | apply Drawn0.step)⟩
def windroselaw18_awake.l0 : Nat → List (S67) → Int → Option (Bool)
  | 0, _, _ => none
  | k + 1, x1, x2 => if x2 < 5 then (if x1.length < 8796093022208 then (windroselaw18_awake.l0 k (x1 ++ [(⟨wrap64 (10 * x2), 3⟩ : S67)]) (wrap64 (x2 + 1))) else (none)) else ((gorilla_Build.f k x1).bind fun bt588 => ((gorilla_Samples.f k bt588.1 bt588.2.1 bt588.2.2.1 bt588.2.2.2.1 bt588.2.2.2.2.1).bind fun bt597 => (if bt588.2.2.2.2.2 = 0 then (if bt597.2 = 0 then (if bt588.1 = 5 then (if bt588.2.2.1 = 40 then (if bt588.2.2.2.2.1 = 26 then ((windroseref11_Same.f k bt597.1 x1).bind fun t601 => (some t601)) else (some false)) else (some false)) else (some false)) else (some false)) else (some false))))
def windroselaw18_awake.f (k : Nat)  : Option (Bool) := windroselaw18_awake.l0 k (([] : List (S67))) 0
theorem windroselaw18_awake.mono_l : ∀ k, (∀ y0 y1, LeO (windroselaw18_awake.l0 k y0 y1) (windroselaw18_awake.l0 (k + 1) y0 y1))
  | 0 => fun _ _ r h => by simp [windroselaw18_awake.l0] at h
  | k + 1 => by
    have ih0 := windroselaw18_awake.mono_l k
    · intro y0 y1
      unfold windroselaw18_awake.l0
      repeat' first
      | (with_reducible exact ih0 _ _)
      | (with_reducible exact gorilla_Build.mono _ _)
      | (with_reducible exact gorilla_Samples.mono _ _ _ _ _ _)
      | (with_reducible exact windroseref11_Same.mono _ _ _)
      | (with_reducible exact LeO.refl _)
      | (with_reducible exact LeO.none _)
      | (with_reducible refine LeO.ite ?_ ?_)
      | (with_reducible refine LeO.bind ?_ (fun _ => ?_))
      | exact ih0 _ _
      | exact gorilla_Build.mono _ _
      | exact gorilla_Samples.mono _ _ _ _ _ _
      | exact windroseref11_Same.mono _ _ _
      | exact LeO.none _
      | refine LeO.ite ?_ ?_
      | refine LeO.bind ?_ (fun _ => ?_)
theorem windroselaw18_awake.mono : ∀ k, LeO (windroselaw18_awake.f k ) (windroselaw18_awake.f (k + 1) ) := by
  intro  k
  have ih0 := windroselaw18_awake.mono_l k
  unfold windroselaw18_awake.f
  repeat' first
      | (with_reducible exact ih0 _ _)
      | (with_reducible exact gorilla_Build.mono _ _)
      | (with_reducible exact gorilla_Samples.mono _ _ _ _ _ _)
      | (with_reducible exact windroseref11_Same.mono _ _ _)
      | (with_reducible exact LeO.refl _)
      | (with_reducible exact LeO.none _)
      | (with_reducible refine LeO.ite ?_ ?_)
      | (with_reducible refine LeO.bind ?_ (fun _ => ?_))
      | exact ih0 _ _
      | exact gorilla_Build.mono _ _
      | exact gorilla_Samples.mono _ _ _ _ _ _
      | exact windroseref11_Same.mono _ _ _
      | exact LeO.none _
      | refine LeO.ite ?_ ?_
      | refine LeO.bind ?_ (fun _ => ?_)
set_option maxHeartbeats 8000000 in
set_option maxRecDepth 100000 in
theorem windroselaw18_awake.calls (k : Nat)  (r : Bool) (w : World) (h : windroselaw18_awake.f k  = some r) :
    Calls Try.prog 36 #[] w fun e w' => e = .returned (.bool r) ∧ Below w.heap.size w w' := by
  have hu67 := Try.underlying67
  have hu69 := Try.underlying69
  have HB := Aside0.mk (Below.refl w.heap.size w)
  have H : (windroselaw18_awake.l0 k (([] : List (S67))) 0) = some r := h
  clear h
  obtain ⟨y582, hy582⟩ : ∃ y_ : List (S67), y_ = (([] : List (S67))) := ⟨_, rfl⟩
  replace H : (windroselaw18_awake.l0 k y582 0) = some r := by first | (rw [hy582]; with_reducible exact H) | (have H2_ := (Option.bind_some _ _).symm.trans H; rw [hy582]; with_reducible exact H2_) | (have H2_ := (Option.bind_some _ _).symm.trans H; with_reducible exact H2_) | with_reducible exact H | (rw [hy582]; exact H) | exact H
  have Ny582 := Aside0.mk hy582
  clear hy582
  have H' := Aside0.mk H
  clear H
  go_enter Try.func36, Try.ntmps36
  go_wp2_with (first | ((with_reducible refine gate_dst (N := 7) rfl ?_); refine Kd.R_lit k67 _ 67 ?hg (N := 7) ?hd (xs := ([] : List (S67))) (inner := []) (ok := fun _ => True) (okp := fun _ => True) ?hr ?hp (fun _ hk => hk) trivial (Below.refl _ _) (Nat.le_refl _) (by simp) ?_; (case hd => rfl); (case hg => rfl); (case hr => first | (go_simp; done) | (go_simp; rfl)); (case hp => exact (Reps.none _ _)); intro v583 w1 ho2 hb hg_ hnew_; clear hg_ hnew_; (first | rw [← Ny582.out] at ho2 | (simp only [Int.reduceToNat] at ho2; rw [← Ny582.out] at ho2)); have n_ := pk2 (Kd.R_lower ho2 (below_size bl_)) (below_step bl_ hb); clear HB; obtain ⟨HO584, HB⟩ := n_; clear hb ho2))
  go_loopg [1, 2] k (fun kq v1 v2 w' => ∃ (x1_1 : List (S67)) (x2_1 : Int), v2 = .int .i64 x2_1 ∧ Aside0 (windroselaw18_awake.l0 kq x1_1 x2_1 = some r) ∧ Aside0 (kq ≤ k) ∧ Aside0 (Kd.R k67 67 w' w.heap.size (fun _ => True) v1 x1_1) ∧ Aside0 (Below w.heap.size w w'))
  case atStart => exact ⟨(y582), (0), sm_, H', ⟨Nat.le_refl _⟩, ⟨(ro_ HO584)⟩, ⟨bl_⟩⟩
  case round =>
    clear H'
    obtain ⟨x1_1, x2_1, rfl, HA, HK1, HO_1, HB⟩ := hrel
    cases gk with
    | zero => exact absurd HA.out (by simp [windroselaw18_awake.l0])
    | succ k1 =>
      have H := HA.out
      clear HA
      simp only [windroselaw18_awake.l0] at H
      replace H := dle H
      rcases H with ⟨c3b0, H⟩ | ⟨c3b0, H⟩
      focus
        by_cases c4 : x1_1.length < 8796093022208
        rotate_left
        · rw [if_neg c4] at H
          exact absurd H (by simp)
        rw [if_pos c4] at H
        have LMc4 := Aside0.mk c4
        clear c4
        obtain ⟨y585, hy585⟩ : ∃ y_ : List (S67), y_ = (x1_1 ++ [(⟨wrap64 (10 * x2_1), 3⟩ : S67)]) := ⟨_, rfl⟩
        replace H : (windroselaw18_awake.l0 k1 y585 (wrap64 (x2_1 + 1))) = some r := by first | (rw [hy585]; with_reducible exact H) | (have H2_ := (Option.bind_some _ _).symm.trans H; rw [hy585]; with_reducible exact H2_) | (have H2_ := (Option.bind_some _ _).symm.trans H; with_reducible exact H2_) | with_reducible exact H | (rw [hy585]; exact H) | exact H
        have Ny585 := Aside0.mk hy585
        clear hy585
        have H' := Aside0.mk H
        clear H
      rotate_left
      focus
        replace H := bindA H
        obtain ⟨⟨t588, t589, t590, t591, t594, t595⟩, A6, H⟩ := H
        try dsimp only at H
        replace H := bindA H
        obtain ⟨⟨t597, t600⟩, A7, H⟩ := H
        try dsimp only at H
        replace H := deqn H
        rcases H with ⟨c8b0, c8b1, H⟩ | ⟨c8b0, c8b1, c8, H⟩
        focus
          replace H := deqn H
          rcases H with ⟨c9b0, c9b1, H⟩ | ⟨c9b0, c9b1, c9, H⟩
          focus
            replace H := deqn H
            rcases H with ⟨c10b0, c10b1, H⟩ | ⟨c10b0, c10b1, c10, H⟩
            focus
              replace H := deqn H
              rcases H with ⟨c11b0, c11b1, H⟩ | ⟨c11b0, c11b1, c11, H⟩
              focus
                replace H := deqn H
                rcases H with ⟨c12b0, c12b1, H⟩ | ⟨c12b0, c12b1, c12, H⟩
                focus
                  replace H := bindA H
                  obtain ⟨t601, A13, H⟩ := H
                  try dsimp only at H
                  obtain rfl := Option.some.inj H
                  obtain ⟨Ao14, co14, eo14⟩ := Kd.R_slice HO_1.out
                  subst eo14
                rotate_left
                focus
                  obtain rfl := Option.some.inj H
                  obtain ⟨Ao22, co22, eo22⟩ := Kd.R_slice HO_1.out
                  subst eo22
              rotate_left 2
              focus
                obtain rfl := Option.some.inj H
                obtain ⟨Ao29, co29, eo29⟩ := Kd.R_slice HO_1.out
                subst eo29
            rotate_left 3
            focus
              obtain rfl := Option.some.inj H
              obtain ⟨Ao36, co36, eo36⟩ := Kd.R_slice HO_1.out
              subst eo36
          rotate_left 4
          focus
            obtain rfl := Option.some.inj H
            obtain ⟨Ao43, co43, eo43⟩ := Kd.R_slice HO_1.out
            subst eo43
        rotate_left 5
        focus
          obtain rfl := Option.some.inj H
          obtain ⟨Ao49, co49, eo49⟩ := Kd.R_slice HO_1.out
          subst eo49
      all_goals
        go_wp2_with (first | ((with_reducible refine gate_builtin (b := .append) (xs := #[.tmp 12, .tmp 16]) rfl ?_); at_builtin; refine Kd.R_append k67 (w0 := w) w.heap.size rfl (.tmp 12) (.tmp 16) 65 67 (.agg #[(.int .i64 0), (.int .i64 0)]) 16 rfl Try.underlying65 info67 rfl (by decide) (by omega) u1 x1_1 (⟨wrap64 (10 * x2_1), 3⟩ : S67) [.int .i64 (wrap64 (10 * x2_1)), .int .i64 3] (fun _ => True) (fun _ => False) rfl rfl ?aP (fun _ hk => hk.elim) ?aF ?aO ?aB ?aS ?aL ?_; (case aP => exact k67_mkM _ _ _ (⟨wrap64 (10 * x2_1), 3⟩ : S67)); (case aB => exact bl_); (case aF => exact (fun _ _ => trivial)); (case aO => exact (ro_ HO_1)); (case aS => exact (below_size bl_)); (case aL => have := LMc4.out; omega); intro v7000 w7000 ho hb hg hat; rw [← Ny585.out] at ho; have n_ := pk2 (hb) (ho); clear HB HO_1; obtain ⟨HB, HO7000⟩ := n_; clear ho hb hg hat) | ((with_reducible refine gate_callee (f := 37) rfl ?_); refine goL_ (some 20) Try.func37 #[.slice Ao14 x1_1.length co14] ?_; (with_reducible refine (gorilla_Build.calls k1 _ _ x1_1 t588 t589 t590 t591 t594 t595 _ ?side1 ?side2 A6.out).mono ?_); (case side1 => exact cr_ HO_1); (case side2 => exact (Kd.R_reads' HO_1.out).2.1); rintro e w7000 ⟨v7000, rfl, ho7000, hb⟩; refine ⟨_, rfl, ?_⟩; have n_ := pk3 (Kd.R_below (ro_ HO_1) hb) (Kd.R_lower ho7000 (below_size bl_)) (below_step bl_ hb); clear HO_1 HB; obtain ⟨HO_1, HO7000, HB⟩ := n_; (try clear hb ho7000)) | ((with_reducible refine gate_callee (f := 37) rfl ?_); refine goL_ (some 20) Try.func37 #[.slice Ao22 x1_1.length co22] ?_; (with_reducible refine (gorilla_Build.calls k1 _ _ x1_1 t588 t589 t590 t591 t594 t595 _ ?side1 ?side2 A6.out).mono ?_); (case side1 => exact cr_ HO_1); (case side2 => exact (Kd.R_reads' HO_1.out).2.1); rintro e w7000 ⟨v7000, rfl, ho7000, hb⟩; refine ⟨_, rfl, ?_⟩; have n_ := pk3 (Kd.R_below (ro_ HO_1) hb) (Kd.R_lower ho7000 (below_size bl_)) (below_step bl_ hb); clear HO_1 HB; obtain ⟨HO_1, HO7000, HB⟩ := n_; (try clear hb ho7000)) | ((with_reducible refine gate_callee (f := 37) rfl ?_); refine goL_ (some 20) Try.func37 #[.slice Ao29 x1_1.length co29] ?_; (with_reducible refine (gorilla_Build.calls k1 _ _ x1_1 t588 t589 t590 t591 t594 t595 _ ?side1 ?side2 A6.out).mono ?_); (case side1 => exact cr_ HO_1); (case side2 => exact (Kd.R_reads' HO_1.out).2.1); rintro e w7000 ⟨v7000, rfl, ho7000, hb⟩; refine ⟨_, rfl, ?_⟩; have n_ := pk3 (Kd.R_below (ro_ HO_1) hb) (Kd.R_lower ho7000 (below_size bl_)) (below_step bl_ hb); clear HO_1 HB; obtain ⟨HO_1, HO7000, HB⟩ := n_; (try clear hb ho7000)) | ((with_reducible refine gate_callee (f := 37) rfl ?_); refine goL_ (some 20) Try.func37 #[.slice Ao36 x1_1.length co36] ?_; (with_reducible refine (gorilla_Build.calls k1 _ _ x1_1 t588 t589 t590 t591 t594 t595 _ ?side1 ?side2 A6.out).mono ?_); (case side1 => exact cr_ HO_1); (case side2 => exact (Kd.R_reads' HO_1.out).2.1); rintro e w7000 ⟨v7000, rfl, ho7000, hb⟩; refine ⟨_, rfl, ?_⟩; have n_ := pk3 (Kd.R_below (ro_ HO_1) hb) (Kd.R_lower ho7000 (below_size bl_)) (below_step bl_ hb); clear HO_1 HB; obtain ⟨HO_1, HO7000, HB⟩ := n_; (try clear hb ho7000)) | ((with_reducible refine gate_callee (f := 37) rfl ?_); refine goL_ (some 20) Try.func37 #[.slice Ao43 x1_1.length co43] ?_; (with_reducible refine (gorilla_Build.calls k1 _ _ x1_1 t588 t589 t590 t591 t594 t595 _ ?side1 ?side2 A6.out).mono ?_); (case side1 => exact cr_ HO_1); (case side2 => exact (Kd.R_reads' HO_1.out).2.1); rintro e w7000 ⟨v7000, rfl, ho7000, hb⟩; refine ⟨_, rfl, ?_⟩; have n_ := pk3 (Kd.R_below (ro_ HO_1) hb) (Kd.R_lower ho7000 (below_size bl_)) (below_step bl_ hb); clear HO_1 HB; obtain ⟨HO_1, HO7000, HB⟩ := n_; (try clear hb ho7000)) | ((with_reducible refine gate_callee (f := 37) rfl ?_); refine goL_ (some 20) Try.func37 #[.slice Ao49 x1_1.length co49] ?_; (with_reducible refine (gorilla_Build.calls k1 _ _ x1_1 t588 t589 t590 t591 t594 t595 _ ?side1 ?side2 A6.out).mono ?_); (case side1 => exact cr_ HO_1); (case side2 => exact (Kd.R_reads' HO_1.out).2.1); rintro e w7000 ⟨v7000, rfl, ho7000, hb⟩; refine ⟨_, rfl, ?_⟩; have n_ := pk3 (Kd.R_below (ro_ HO_1) hb) (Kd.R_lower ho7000 (below_size bl_)) (below_step bl_ hb); clear HO_1 HB; obtain ⟨HO_1, HO7000, HB⟩ := n_; (try clear hb ho7000)) | ((with_reducible refine gate_dst (N := 3) rfl ?_); refine box_ev 3 #[.int .i64 0, .int .i64 0, .int .i64 0, .slice none 0 0, .int .i64 0] 69 ?_; intro gb7000 hg w7001 hbox hb; have n_ := pk6 (Kd.R_below (ro_ HO_1) hb) (Kd.R_below (ro_ HO7000) hb) (below_step bl_ hb) (hbox) ((ge_ hg bl_ : w.heap.size ≤ gb7000)) ((ge_ hg bl_ : w.heap.size ≤ gb7000)); clear HO_1 HO7000 HB; obtain ⟨HO_1, HO7000, HB, BK7000, GW7000, GE7000⟩ := n_; clear hb hbox hg; have hcz7000_0 : w7001.cell? ⟨gb7000, 0, none⟩ = some (.int .i64 0) := (blk_cell BK7000.out 0).trans rfl; have hcz7000_1 : w7001.cell? ⟨gb7000, 1, none⟩ = some (.int .i64 0) := (blk_cell BK7000.out 1).trans rfl; have hcz7000_2 : w7001.cell? ⟨gb7000, 2, none⟩ = some (.int .i64 0) := (blk_cell BK7000.out 2).trans rfl; have hcz7000_3 : w7001.cell? ⟨gb7000, 3, none⟩ = some (.slice none 0 0) := (blk_cell BK7000.out 3).trans rfl; have hcz7000_4 : w7001.cell? ⟨gb7000, 4, none⟩ = some (.int .i64 0) := (blk_cell BK7000.out 4).trans rfl; have hfz7000_0 := blk_frozen BK7000.out 0; have hfz7000_1 := blk_frozen BK7000.out 1; have hfz7000_2 := blk_frozen BK7000.out 2; have hfz7000_3 := blk_frozen BK7000.out 3; have hfz7000_4 := blk_frozen BK7000.out 4; obtain ⟨Ao7000, co7000, eo7000⟩ := Kd.R_slice HO7000.out; subst eo7000) | ((with_reducible refine gate_callee (f := 40) rfl ?_); refine goL_ (some 25) Try.func40 #[.agg #[.int .i64 t588, .int .i64 t589, .int .i64 t590, .slice Ao7000 t591.length co7000, .int .i64 t594]] ?_; (with_reducible refine (gorilla_Samples.calls k1 t588 t589 t590 _ _ t591 t594 t597 t600 _ ?side1 ?side2 A7.out).mono ?_); (case side1 => refine (Kd.R_reads' (e := 5) (base := w.heap.size) (ok := fun k_ => True) (n := t591.length) (c := co7000) ?_).2.2; exact (rt_ ((Kd.R_mono (Kd.R_far (p := ⟨gb7000, 4, none⟩) (Kd.R_far (p := ⟨gb7000, 3, none⟩) (Kd.R_far (p := ⟨gb7000, 2, none⟩) (Kd.R_far (p := ⟨gb7000, 1, none⟩) (Kd.R_far (p := ⟨gb7000, 0, none⟩) (Kd.R_types HO7000.out BK7000.out (by decide)) (fun _ hk => hk.2) (.int .i64 t588)) (fun _ hk => hk.2) (.int .i64 t589)) (fun _ hk => hk.2) (.int .i64 t590)) (fun _ hk => hk.2) (.slice Ao7000 t591.length co7000)) (fun _ hk => hk.2) (.int .i64 t594)) (fun _ h_ => h_.1))))); (case side2 => exact (Kd.R_reads' HO7000.out).2.1); rintro e w7002 ⟨v7001, rfl, ho7000, hb⟩; refine ⟨_, rfl, ?_⟩; have n_ := pk5 (Kd.R_elder' (rt_ ((Kd.R_mono (Kd.R_far (p := ⟨gb7000, 4, none⟩) (Kd.R_far (p := ⟨gb7000, 3, none⟩) (Kd.R_far (p := ⟨gb7000, 2, none⟩) (Kd.R_far (p := ⟨gb7000, 1, none⟩) (Kd.R_far (p := ⟨gb7000, 0, none⟩) (Kd.R_types HO_1.out BK7000.out (by decide)) (fun _ hk => hk.2) (.int .i64 t588)) (fun _ hk => hk.2) (.int .i64 t589)) (fun _ hk => hk.2) (.int .i64 t590)) (fun _ hk => hk.2) (.slice Ao7000 t591.length co7000)) (fun _ hk => hk.2) (.int .i64 t594)) (fun _ h_ => h_.1)))) (Kd.R_base ho7000) hb) (Kd.R_below (rt_ ((Kd.R_mono (Kd.R_far (p := ⟨gb7000, 4, none⟩) (Kd.R_far (p := ⟨gb7000, 3, none⟩) (Kd.R_far (p := ⟨gb7000, 2, none⟩) (Kd.R_far (p := ⟨gb7000, 1, none⟩) (Kd.R_far (p := ⟨gb7000, 0, none⟩) (Kd.R_types HO7000.out BK7000.out (by decide)) (fun _ hk => hk.2) (.int .i64 t588)) (fun _ hk => hk.2) (.int .i64 t589)) (fun _ hk => hk.2) (.int .i64 t590)) (fun _ hk => hk.2) (.slice Ao7000 t591.length co7000)) (fun _ hk => hk.2) (.int .i64 t594)) (fun _ h_ => h_.1)))) hb) (Kd.R_lower (Kd.R_new' ho7000 (Kd.R_lt (rt_ ((Kd.R_mono (Kd.R_far (p := ⟨gb7000, 4, none⟩) (Kd.R_far (p := ⟨gb7000, 3, none⟩) (Kd.R_far (p := ⟨gb7000, 2, none⟩) (Kd.R_far (p := ⟨gb7000, 1, none⟩) (Kd.R_far (p := ⟨gb7000, 0, none⟩) (Kd.R_types HO_1.out BK7000.out (by decide)) (fun _ hk => hk.2) (.int .i64 t588)) (fun _ hk => hk.2) (.int .i64 t589)) (fun _ hk => hk.2) (.int .i64 t590)) (fun _ hk => hk.2) (.slice Ao7000 t591.length co7000)) (fun _ hk => hk.2) (.int .i64 t594)) (fun _ h_ => h_.1)))))) (below_size bl_)) (blk_below (g := gb7000) (o := .cells #[.int .i64 t588, .int .i64 t589, .int .i64 t590, .slice Ao7000 t591.length co7000, .int .i64 t594] 69 (0, 0)) (by (with_reducible repeat (first | refine blk_drewN ?_ _ | refine blk_drew ?_ | refine blk_alloc ?_ _)); refine blk_put (cs := #[.int .i64 t588, .int .i64 t589, .int .i64 t590, .slice Ao7000 t591.length co7000, .int .i64 0]) ?_ 4 _ rfl; (with_reducible repeat (first | refine blk_drewN ?_ _ | refine blk_drew ?_ | refine blk_alloc ?_ _)); refine blk_put (cs := #[.int .i64 t588, .int .i64 t589, .int .i64 t590, .slice none 0 0, .int .i64 0]) ?_ 3 _ rfl; (with_reducible repeat (first | refine blk_drewN ?_ _ | refine blk_drew ?_ | refine blk_alloc ?_ _)); refine blk_put (cs := #[.int .i64 t588, .int .i64 t589, .int .i64 0, .slice none 0 0, .int .i64 0]) ?_ 2 _ rfl; (with_reducible repeat (first | refine blk_drewN ?_ _ | refine blk_drew ?_ | refine blk_alloc ?_ _)); refine blk_put (cs := #[.int .i64 t588, .int .i64 0, .int .i64 0, .slice none 0 0, .int .i64 0]) ?_ 1 _ rfl; (with_reducible repeat (first | refine blk_drewN ?_ _ | refine blk_drew ?_ | refine blk_alloc ?_ _)); refine blk_put (cs := #[.int .i64 0, .int .i64 0, .int .i64 0, .slice none 0 0, .int .i64 0]) ?_ 0 _ rfl; exact (bo_ BK7000)) hb) (below_step bl_ hb); clear HO_1 HO7000 BK7000 HB; obtain ⟨HO_1, HO7000, HO7001, BK7000, HB⟩ := n_; (try clear hb ho7000); (try (have hcz7001_0 : w7002.cell? ⟨gb7000, 0, none⟩ = some (.int .i64 t588) := (blk_cell BK7000.out 0).trans rfl; have hcz7001_1 : w7002.cell? ⟨gb7000, 1, none⟩ = some (.int .i64 t589) := (blk_cell BK7000.out 1).trans rfl; have hcz7001_2 : w7002.cell? ⟨gb7000, 2, none⟩ = some (.int .i64 t590) := (blk_cell BK7000.out 2).trans rfl; have hcz7001_3 : w7002.cell? ⟨gb7000, 3, none⟩ = some (.slice Ao7000 t591.length co7000) := (blk_cell BK7000.out 3).trans rfl; have hcz7001_4 : w7002.cell? ⟨gb7000, 4, none⟩ = some (.int .i64 t594) := (blk_cell BK7000.out 4).trans rfl; have hfz7001_0 := blk_frozen BK7000.out 0; have hfz7001_1 := blk_frozen BK7000.out 1; have hfz7001_2 := blk_frozen BK7000.out 2; have hfz7001_3 := blk_frozen BK7000.out 3; have hfz7001_4 := blk_frozen BK7000.out 4; obtain ⟨Ao7001, co7001, eo7001⟩ := Kd.R_slice HO7001.out; subst eo7001)); (try (have hcz7001_0 : w7002.cell? ⟨gb7000, 0, none⟩ = some (.int .i64 t588) := (blk_cell BK7000.out 0).trans rfl; have hcz7001_1 : w7002.cell? ⟨gb7000, 1, none⟩ = some (.int .i64 t589) := (blk_cell BK7000.out 1).trans rfl; have hcz7001_2 : w7002.cell? ⟨gb7000, 2, none⟩ = some (.int .i64 t590) := (blk_cell BK7000.out 2).trans rfl; have hcz7001_3 : w7002.cell? ⟨gb7000, 3, none⟩ = some (.slice Ao7000 t591.length co7000) := (blk_cell BK7000.out 3).trans rfl; have hcz7001_4 : w7002.cell? ⟨gb7000, 4, none⟩ = some (.int .i64 t594) := (blk_cell BK7000.out 4).trans rfl; have hfz7001_0 := blk_frozen BK7000.out 0; have hfz7001_1 := blk_frozen BK7000.out 1; have hfz7001_2 := blk_frozen BK7000.out 2; have hfz7001_3 := blk_frozen BK7000.out 3; have hfz7001_4 := blk_frozen BK7000.out 4))) | (go_at_call 42; (with_reducible refine (windroseref11_Same.calls k1 _ _ t597 _ _ x1_1 t601 _ ?side1 ?side2 ?side3 ?side4 A13.out).mono ?_); (case side1 => exact cr_ HO7001); (case side2 => exact (Kd.R_reads' HO7001.out).2.1); (case side3 => exact cr_ HO_1); (case side4 => exact (Kd.R_reads' HO_1.out).2.1); rintro e w' ⟨rfl, ⟨nd, rfl⟩⟩))
        first
          | go_roundg k1
            case measure => have := HK1.out; omega
            case rel => exact ⟨(y585), (wrap64 (x2_1 + 1)), sm_, H', ⟨by have := HK1.out; omega⟩, ⟨(ro_ HO7000)⟩, ⟨bl_⟩⟩
          | go_ret
            exact ⟨rf_, bl_⟩
end Go.Proofs.Ytmddmbagehjdeaa.G
end
