/- Ytlpohipneianjaa: lines of the words and functions that the row BlockPacks rests on, and the row. No condition. -/
import Derived.Test.YtlpohipneianjaaZBlockPacks4
section
set_option linter.unusedVariables false
set_option linter.unusedSimpArgs false
namespace Go.Proofs.YtlpohipneianjaaX
open Go Go.RowKit Go.Proofs.YtlpohipneianjaaW.PrintWords Go.ChangeShapes Go.WideShapes
section
variable {P : Program} {t e : TypeId}
theorem RdFs.one {t o : Nat} {α : Type} {d : Kd α} {ok : α → Prop} (h : Rd P t d ok) : RdFs P [(t, o)] o (o + P.cellsOf t) d ok := by
  intro H enc W base spare held fuel cs hl hi
  obtain ⟨y, hy⟩ := hi 0 _ rfl
  obtain ⟨a, ha, hk⟩ := h enc W base spare held fuel _ _ hy
  rw [List.take_of_length_le (by simp [hl])] at ha
  exact ⟨a, ha, hk⟩
theorem RdFs.cons {t o e' : Nat} {L : List (TypeId × Nat)} {α β : Type} {d : Kd α} {d' : Kd β} {ok : α → Prop} {ok' : β → Prop} (h : Rd P t d ok) (hs : RdFs P L (o + P.cellsOf t) e' d' ok') :
    RdFs P ((t, o) :: L) o e' (Kd.pair d d') (fun x => ok x.1 ∧ ok' x.2) := by
  intro H enc W base spare held fuel cs hl hi
  obtain ⟨y, hy⟩ := hi 0 _ rfl
  obtain ⟨a, ha, hk⟩ := h enc W base spare held fuel _ _ hy
  obtain ⟨b, hb, hk'⟩ := hs enc W base spare held fuel cs hl (fun i p hp => hi (i + 1) p (by simpa using hp))
  refine ⟨(a, b), ⟨_, _, ?_, ha, hb⟩, hk, hk'⟩
  rw [← List.drop_drop]
  exact (List.take_append_drop _ _).symm
theorem Rd.struct {α β : Type} {d : Kd α} {ok : α → Prop} {fs : Array Field} (f : β → α) (g : α → β) (hg : ∀ a, f (g a) = a) (ht : P.underlying t = some (.struct fs))
    (h : RdFs P (fs.toList.map fun f => (f.type, f.offset)) 0 (P.cellsOf t) d ok) : Rd P t (Kd.iso d f) (fun x => ok (f x)) := by
  intro H enc W base spare held fuel cs x hx
  obtain ⟨xs, n, rfl, _, hl, hn, hi⟩ := DataW.trod_struct ht hx
  obtain ⟨a, ha, hk⟩ := h enc W base spare held n cs hl (fun i p hp => by
    rw [List.getElem?_map] at hp
    obtain ⟨f', hf', rfl⟩ := Option.map_eq_some_iff.1 hp
    have h1 := hi i f' (by simpa using hf')
    have hlt : i < xs.length := by
      have := (List.getElem?_eq_some_iff.1 hf').1
      simp at this
      omega
    rw [List.getElem?_eq_getElem hlt] at h1
    exact ⟨_, h1⟩)
  refine ⟨g a, ?_, by show ok (f (g a)); rw [hg]; exact hk⟩
  show d.K W (f (g a)) cs
  rw [hg]
  simpa using ha
theorem Rd.array {α β : Type} {d : Kd α} {ok : α → Prop} {n : Nat} (f : β → α) (g : α → β) (hg : ∀ a, f (g a) = a) (ht : P.underlying t = some (.array n e))
    (h : RdFs P ((List.range n).map fun i => (e, i * P.cellsOf e)) 0 (P.cellsOf t) d ok) : Rd P t (Kd.iso d f) (fun x => ok (f x)) := by
  intro H enc W base spare held fuel cs x hx
  obtain ⟨xs, m, rfl, _, hl, hn, hi⟩ := DataW.trod_array ht hx
  obtain ⟨a, ha, hk⟩ := h enc W base spare held m cs hl (fun i p hp => by
    rw [List.getElem?_map] at hp
    obtain ⟨j, hj, rfl⟩ := Option.map_eq_some_iff.1 hp
    obtain ⟨hlt, hj⟩ := List.getElem?_eq_some_iff.1 hj
    simp at hj hlt
    subst hj
    have h1 := hi i hlt
    rw [List.getElem?_eq_getElem (by omega)] at h1
    exact ⟨_, h1⟩)
  refine ⟨g a, ?_, by show ok (f (g a)); rw [hg]; exact hk⟩
  show d.K W (f (g a)) cs
  rw [hg]
  simpa using ha
end
end Go.Proofs.YtlpohipneianjaaX
end
section
namespace Go.Proofs.Ytlpohipneianjaa.G
open Go Go.RowKit Go.Proofs.YtlpohipneianjaaW.PrintWords Go.Proofs.YtlpohipneianjaaX
set_option linter.unusedVariables false
def ok42 (x : S42) : Prop := (Lit.int .i64 x.f0).wf = true ∧ (Lit.int .i64 x.f1).wf = true
theorem rd42 : Rd Try.prog 42 k42 ok42 := Rd.struct _ (fun b => ⟨b.1, b.2⟩) (fun _ => rfl) Try.underlying42 (RdFs.cons (Rd.int Try.underlying3) (RdFs.one (Rd.int Try.underlying3)))
end Go.Proofs.Ytlpohipneianjaa.G
end
section
set_option linter.unusedVariables false
namespace Go.Proofs.Ytlpohipneianjaa.Q
open Go Go.RowKit Go.Proofs.YtlpohipneianjaaW.PrintWords
theorem w64 {x : Int} (h : -9223372036854775808 ≤ x) (h' : x ≤ 9223372036854775807) : wrap64 x = x := by unfold wrap64; omega
theorem Ev.succ {α : Type} {g : Nat → Option α} {r : α} (K : Nat) (h : ∀ k, K ≤ k → g (k + 1) = some r) : Ev g r := by
  refine ⟨K + 1, fun k hk => ?_⟩
  obtain ⟨m, rfl⟩ : ∃ m, k = m + 1 := ⟨k - 1, by omega⟩
  exact h m (by omega)
theorem Ev.mk {α : Type} {g : Nat → Option α} {r : α} (K : Nat) (h : ∀ k, K ≤ k → g k = some r) : Ev g r := ⟨K, h⟩
theorem getD_mem {α : Type} (l : List α) (i : Nat) (d : α) (h : i < l.length) : l.getD i d ∈ l := by
  rw [List.getD_eq_getElem?_getD, List.getElem?_eq_getElem h]
  exact List.getElem_mem h
theorem drop_getD {α : Type} (l : List α) (i : Nat) (d : α) (h : i < l.length) : l.drop i = l.getD i d :: l.drop (i + 1) := by
  rw [List.drop_eq_getElem_cons h, List.getD_eq_getElem?_getD, List.getElem?_eq_getElem h]
  rfl
theorem tmod_nn {a b : Int} (h : 0 ≤ a) : Int.tmod a b = a % b := Int.tmod_eq_emod_of_nonneg h
theorem tdiv_nn {a b : Int} (h : 0 ≤ a) : Int.tdiv a b = a / b := Int.tdiv_eq_ediv_of_nonneg h
end Go.Proofs.Ytlpohipneianjaa.Q
end
section
set_option linter.unusedVariables false
namespace Go.Proofs.Ytlpohipneianjaa.Q
open Go Go.RowKit Go.Proofs.Ytlpohipneianjaa.G Go.Proofs.YtlpohipneianjaaW.PrintWords Go.Proofs.YtlpohipneianjaaW.PrintLast
abbrev Smp := S42
def at_ (l : List Smp) (i : Nat) : Smp := rd_T42 l i
def Fits (l : List Smp) (i : Nat) : Prop := 0 ≤ (at_ l i).f0 ∧ (at_ l i).f0 ≤ 1099511627776 ∧ -1099511627776 ≤ (at_ l i).f1 ∧ (at_ l i).f1 ≤ 1099511627776 ∧ (0 < i → (at_ l (i - 1)).f0 < (at_ l i).f0)
def May (l : List Smp) : Prop := l.length ≤ 64 ∧ ∀ i, i < l.length → Fits l i
noncomputable instance (l : List Smp) : Decidable (May l) := Classical.propDecidable _
theorem may_loop (l : List Smp) (hl : l.length ≤ maxLen) (d : Nat) : ∀ i : Nat, i + d = l.length → (∀ j, j < i → Fits l j) → (∃ K, ∀ k, K ≤ k → windroseref11_May.l0 k l i = some ((decide (May l)))) := by
  unfold maxLen at hl
  induction d with
  | zero =>
    intro i hi hf
    refine Ev.succ 0 fun k _ => ?_
    simp only [windroseref11_May.l0]
    rw [if_neg (by omega)]
    congr 1
    rw [decide_eq_decide]
    exact ⟨fun h => ⟨by omega, fun j hj => hf j (by omega)⟩, fun h => by have := h.1; omega⟩
  | succ d ih =>
    intro i hi hf
    have bad : ¬ Fits l i → decide (May l) = false := fun h => decide_eq_false (fun hm => h (hm.2 i (by omega)))
    by_cases g : Fits l i
    · obtain ⟨K, hK⟩ := ih (i + 1) (by omega) (fun j hj => by
        rcases Nat.lt_or_ge j i with h | h
        · exact hf j h
        · obtain rfl : j = i := by omega
          exact g)
      refine Ev.succ K fun k hk => ?_
      simp only [windroseref11_May.l0]
      obtain ⟨g1, g2, g3, g4, g5⟩ := g
      have hK' := hK k hk
      have e1 : wrap64 ((i : Int) + 1) = ((i + 1 : Nat) : Int) := by rw [w64] <;> omega
      simp only [at_] at g1 g2 g3 g4 g5
      rw [if_pos (by omega), if_pos (by omega), if_neg (by omega), if_neg (by omega), if_neg (by omega), if_neg (by omega), e1]
      by_cases h0 : 0 < i
      · have e2 : wrap64 ((i : Int) - 1) = ((i - 1 : Nat) : Int) := by rw [w64] <;> omega
        have g6 := g5 h0
        rw [if_pos (by omega), e2, if_pos (by omega), if_pos (by omega), if_neg (by omega)]
        exact hK'
      · rw [if_neg (by omega)]
        exact hK'
    · rw [bad g]
      refine Ev.succ 0 fun k _ => ?_
      simp only [windroseref11_May.l0]
      rw [if_pos (by omega), if_pos (by omega)]
      unfold Fits at g
      simp only [at_] at g
      by_cases g1 : (rd_T42 l i).f0 < 0
      · rw [if_pos g1]
      by_cases g2 : (rd_T42 l i).f0 > 1099511627776
      · rw [if_neg g1, if_pos g2]
      by_cases g3 : (rd_T42 l i).f1 < -1099511627776
      · rw [if_neg g1, if_neg g2, if_pos g3]
      by_cases g4 : (rd_T42 l i).f1 > 1099511627776
      · rw [if_neg g1, if_neg g2, if_neg g3, if_pos g4]
      have h0 : 0 < i := by
        rcases Nat.eq_zero_or_pos i with h | h
        · exact absurd ⟨by omega, by omega, by omega, by omega, fun hh => by omega⟩ g
        · exact h
      have e2 : wrap64 ((i : Int) - 1) = ((i - 1 : Nat) : Int) := by rw [w64] <;> omega
      have g5 : (rd_T42 l ((i - 1 : Nat) : Int)).f0 ≥ (rd_T42 l i).f0 := by
        by_cases h : (rd_T42 l ((i - 1 : Nat) : Int)).f0 < (rd_T42 l i).f0
        · exact absurd ⟨by omega, by omega, by omega, by omega, fun _ => h⟩ g
        · omega
      rw [if_neg g1, if_neg g2, if_neg g3, if_neg g4, if_pos (by omega), e2, if_pos (by omega), if_pos (by omega), if_pos g5]
theorem may_ev (l : List Smp) (hl : l.length ≤ maxLen) : (∃ K, ∀ k, K ≤ k → windroseref11_May.f k l = some ((decide (May l)))) :=
  may_loop l hl l.length 0 (by omega) (fun j hj => by omega)
theorem check_loop (l : List Smp) (hl : l.length ≤ 64) (d : Nat) : ∀ i : Nat, i + d = l.length → (∀ j, j < i → Fits l j) → (∃ K, ∀ k, K ≤ k → block_Check.l0 k l l (l.length : Int) i = some ((if May l then 0 else 1))) := by
  induction d with
  | zero =>
    intro i hi hf
    refine Ev.succ 0 fun k _ => ?_
    simp only [block_Check.l0]
    rw [if_neg (by omega), if_pos ⟨hl, fun j hj => hf j (by omega)⟩]
  | succ d ih =>
    intro i hi hf
    have bad : ¬ Fits l i → ¬ May l := fun h hm => h (hm.2 i (by omega))
    by_cases g : Fits l i
    · obtain ⟨K, hK⟩ := ih (i + 1) (by omega) (fun j hj => by
        rcases Nat.lt_or_ge j i with h | h
        · exact hf j h
        · obtain rfl : j = i := by omega
          exact g)
      refine Ev.succ K fun k hk => ?_
      simp only [block_Check.l0]
      obtain ⟨g1, g2, g3, g4, g5⟩ := g
      have hK' := hK k hk
      have e1 : wrap64 ((i : Int) + 1) = ((i + 1 : Nat) : Int) := by rw [w64] <;> omega
      simp only [at_] at g1 g2 g3 g4 g5
      rw [if_pos (by omega), if_pos (by omega), if_pos (by omega), if_neg (by omega), if_neg (by omega), if_neg (by omega), if_neg (by omega), e1]
      by_cases h0 : 0 < i
      · have e2 : wrap64 ((i : Int) - 1) = ((i - 1 : Nat) : Int) := by rw [w64] <;> omega
        have g6 := g5 h0
        rw [if_pos (by omega), e2, if_pos (by omega), if_pos (by omega), if_neg (by omega)]
        exact hK'
      · rw [if_neg (by omega)]
        exact hK'
    · rw [if_neg (bad g)]
      refine Ev.succ 0 fun k _ => ?_
      simp only [block_Check.l0]
      rw [if_pos (by omega), if_pos (by omega), if_pos (by omega)]
      unfold Fits at g
      simp only [at_] at g
      by_cases g1 : (rd_T42 l i).f0 < 0
      · rw [if_pos g1]
      by_cases g2 : (rd_T42 l i).f0 > 1099511627776
      · rw [if_neg g1, if_pos g2]
      by_cases g3 : (rd_T42 l i).f1 < -1099511627776
      · rw [if_neg g1, if_neg g2, if_pos g3]
      by_cases g4 : (rd_T42 l i).f1 > 1099511627776
      · rw [if_neg g1, if_neg g2, if_neg g3, if_pos g4]
      have h0 : 0 < i := by
        rcases Nat.eq_zero_or_pos i with h | h
        · exact absurd ⟨by omega, by omega, by omega, by omega, fun hh => by omega⟩ g
        · exact h
      have e2 : wrap64 ((i : Int) - 1) = ((i - 1 : Nat) : Int) := by rw [w64] <;> omega
      have g5 : (rd_T42 l ((i - 1 : Nat) : Int)).f0 ≥ (rd_T42 l i).f0 := by
        by_cases h : (rd_T42 l ((i - 1 : Nat) : Int)).f0 < (rd_T42 l i).f0
        · exact absurd ⟨by omega, by omega, by omega, by omega, fun _ => h⟩ g
        · omega
      rw [if_neg g1, if_neg g2, if_neg g3, if_neg g4, if_pos (by omega), e2, if_pos (by omega), if_pos (by omega), if_pos (by omega)]
theorem check_ev (l : List Smp) : (∃ K, ∀ k, K ≤ k → block_Check.f k l = some ((if May l then 0 else 1))) := by
  unfold block_Check.f
  by_cases h : (l.length : Int) > 64
  · simp only [if_pos h]
    rw [if_neg (fun hm => by have := hm.1; omega)]
    exact ⟨0, fun _ _ => rfl⟩
  · simp only [if_neg h]
    exact check_loop l (by omega) l.length 0 (by omega) (fun j hj => by omega)
def Bd (s : Smp) : Prop := 0 ≤ s.f0 ∧ s.f0 ≤ 1099511627776 ∧ -1099511627776 ≤ s.f1 ∧ s.f1 ≤ 1099511627776
abbrev Rise (l : List Smp) : Prop := l.Pairwise (fun a b => a.f0 < b.f0)
theorem fits_tail {s : Smp} {l : List Smp} (h : ∀ i, i < (s :: l).length → Fits (s :: l) i) : ∀ i, i < l.length → Fits l i := by
  intro i hi
  have := h (i + 1) (by simp; omega)
  obtain ⟨g1, g2, g3, g4, g5⟩ := this
  have e : ∀ j : Nat, at_ (s :: l) (j + 1) = at_ l j := fun j => by
    simp only [at_, rd_T42]
    have h1 : ((j + 1 : Nat) : Int).toNat = j + 1 := by omega
    have h2 : ((j : Nat) : Int).toNat = j := by omega
    rw [h1, h2]; rfl
  rw [e] at g1 g2 g3 g4
  refine ⟨g1, g2, g3, g4, fun h0 => ?_⟩
  have := g5 (by omega)
  rw [e, show i + 1 - 1 = (i - 1) + 1 by omega, e] at this
  exact this
theorem fits_ok (l : List Smp) : (∀ i, i < l.length → Fits l i) → (∀ s ∈ l, Bd s) ∧ Rise l := by
  induction l with
  | nil => intro _; exact ⟨fun s h => by simp at h, List.Pairwise.nil⟩
  | cons s l ih =>
    intro h
    obtain ⟨h1, h2⟩ := ih (fits_tail h)
    have f0 := h 0 (by simp)
    have b0 : Bd s := ⟨f0.1, f0.2.1, f0.2.2.1, f0.2.2.2.1⟩
    refine ⟨fun x hx => ?_, ?_⟩
    · rcases List.mem_cons.1 hx with rfl | hx
      · exact b0
      · exact h1 x hx
    · refine List.pairwise_cons.2 ⟨fun b hb => ?_, h2⟩
      cases l with
      | nil => simp at hb
      | cons c l =>
        have f1' : s.f0 < c.f0 := (h 1 (by simp)).2.2.2.2 (by omega)
        rcases List.mem_cons.1 hb with rfl | hb
        · exact f1'
        · exact Int.lt_trans f1' ((List.pairwise_cons.1 h2).1 b hb)
end Go.Proofs.Ytlpohipneianjaa.Q
end
section
set_option linter.unusedVariables false
namespace Go.Proofs.Ytlpohipneianjaa.Q
open Go Go.RowKit Go.Proofs.Ytlpohipneianjaa.G Go.Proofs.YtlpohipneianjaaW.PrintWords Go.Proofs.YtlpohipneianjaaW.PrintLast
def countS (u : Nat) : List Int := if h : u < 128 then [(u : Int)] else ((u % 128 + 128 : Nat) : Int) :: countS (u / 128)
termination_by u
decreasing_by omega
theorem countS_lt {u : Nat} (h : u < 128) : countS u = [(u : Int)] := by rw [countS, dif_pos h]
theorem countS_ge {u : Nat} (h : ¬ u < 128) : countS u = ((u % 128 + 128 : Nat) : Int) :: countS (u / 128) := by rw [countS, dif_neg h]
theorem countS_len (n : Nat) : ∀ u : Nat, u < 128 ^ (n + 1) → (countS u).length ≤ n + 1 := by
  induction n with
  | zero => intro u h; rw [countS_lt (by simpa using h)]; simp
  | succ n ih =>
    intro u h
    by_cases h1 : u < 128
    · rw [countS_lt h1]; simp
    · rw [countS_ge h1]
      have := ih (u / 128) (by rw [Nat.pow_succ] at h; omega)
      simp only [List.length_cons]
      omega
theorem countS_len10 {u : Nat} (h : u < 18446744073709551616) : (countS u).length ≤ 10 := countS_len 9 u (by omega)
theorem or128 (x : Nat) : Go.bits .or .u8 ((x : Int) % 256) 128 = ((x % 128 + 128 : Nat) : Int) := by
  have h := (bits_nat .u8 8 (by decide) wraps_u8 (x % 256) 128 (by omega) (by decide)).2
  have e : ((x : Int) % 256) = ((x % 256 : Nat) : Int) := by omega
  rw [e, show (128 : Int) = ((128 : Nat) : Int) from rfl, h]
  have k : ∀ y : Fin 256, y.val ||| 128 = y.val % 128 + 128 := by decide +kernel
  have := k ⟨x % 256, by omega⟩
  simp only at this
  rw [this]
  omega
theorem count_loop (n : Nat) : ∀ (u : Nat) (acc : List Int), u < 128 ^ (n + 1) → acc.length + n ≤ 1000 → (∃ K, ∀ k, K ≤ k → frame_count.l0 k (u : Int) acc = some ((acc ++ countS u))) := by
  induction n with
  | zero =>
    intro u acc h ha
    have h1 : u < 128 := by simpa using h
    refine Ev.succ 0 fun k _ => ?_
    simp only [frame_count.l0]
    rw [if_neg (by omega), if_pos (by omega), countS_lt h1]
    congr 3
    omega
  | succ n ih =>
    intro u acc h ha
    by_cases h1 : u < 128
    · refine Ev.succ 0 fun k _ => ?_
      simp only [frame_count.l0]
      rw [if_neg (by omega), if_pos (by omega), countS_lt h1]
      congr 3
      omega
    · obtain ⟨K, hK⟩ := ih (u / 128) (acc ++ [((u % 128 + 128 : Nat) : Int)]) (by rw [Nat.pow_succ] at h; omega) (by simp; omega)
      refine Ev.succ K fun k hk => ?_
      simp only [frame_count.l0]
      rw [if_pos (by omega), if_pos (by omega), or128, show (u : Int) / 128 = ((u / 128 : Nat) : Int) by omega, hK k hk, countS_ge h1]
      simp
theorem count_ev {u : Nat} (h : u < 18446744073709551616) : (∃ K, ∀ k, K ≤ k → frame_count.f k (u : Int) = some ((countS u))) := by
  obtain ⟨K, hK⟩ := count_loop 9 u [] (by omega) (by simp)
  exact ⟨K, fun k hk => by unfold frame_count.f; simpa using hK k hk⟩
theorem refcount_ev (n : Nat) : ∀ u : Nat, u < 128 ^ (n + 1) → u < 18446744073709551616 → n ≤ 100 → (∃ K, ∀ k, K ≤ k → windroseref02_count.f k (u : Int) = some ((countS u))) := by
  induction n with
  | zero =>
    intro u h _ _
    have h1 : u < 128 := by simpa using h
    refine Ev.succ 0 fun k _ => ?_
    simp only [windroseref02_count.f]
    rw [if_pos (by omega), countS_lt h1]
    congr 2
    omega
  | succ n ih =>
    intro u h h64 hn
    by_cases h1 : u < 128
    · refine Ev.succ 0 fun k _ => ?_
      simp only [windroseref02_count.f]
      rw [if_pos (by omega), countS_lt h1]
      congr 2
      omega
    · have hl : u / 128 < 128 ^ (n + 1) := by rw [Nat.pow_succ] at h; omega
      obtain ⟨K, hK⟩ := ih (u / 128) hl (by omega) (by omega)
      have hlen := countS_len n (u / 128) hl
      refine Ev.succ K fun k hk => ?_
      simp only [windroseref02_count.f]
      have e1 : IntKind.u64.wrap (Int.tdiv (u : Int) 128) = ((u / 128 : Nat) : Int) := by
        rw [IntKind.wrap_u64, tdiv_nn (by omega)]; omega
      have e2 : IntKind.u64.wrap (Int.tmod (u : Int) 128 + 128) % 256 = ((u % 128 + 128 : Nat) : Int) := by
        rw [IntKind.wrap_u64, tmod_nn (by omega)]; omega
      rw [if_neg (by omega), Option.bind_some, e1, hK k hk, Option.bind_some, if_pos (by simp; omega), e2, countS_ge h1]
      rfl
theorem refcount {u : Nat} (h : u < 18446744073709551616) : (∃ K, ∀ k, K ≤ k → windroseref02_count.f k (u : Int) = some ((countS u))) := refcount_ev 9 u (by omega) h (by omega)
theorem Count_ev (n : Nat) (h : n ≤ 9223372036854775807) : (∃ K, ∀ k, K ≤ k → frame_Count.f k (n : Int) = some ((countS n))) := by
  obtain ⟨K, hK⟩ := count_ev (u := n) (by omega)
  refine ⟨K, fun k hk => ?_⟩
  unfold frame_Count.f
  rw [if_neg (by omega), IntKind.wrap_u64, show (n : Int) % 18446744073709551616 = (n : Int) by omega, hK k hk]
  rfl
theorem refCount_ev (n : Nat) (h : n ≤ 9223372036854775807) : (∃ K, ∀ k, K ≤ k → windroseref02_Count.f k (n : Int) = some ((countS n))) := by
  obtain ⟨K, hK⟩ := refcount (u := n) (by omega)
  refine ⟨K, fun k hk => ?_⟩
  unfold windroseref02_Count.f
  rw [IntKind.wrap_u64, show (n : Int) % 18446744073709551616 = (n : Int) by omega, hK k hk]
  rfl
def zig (n : Int) : Nat := if 0 ≤ n then (2 * n).toNat else (2 * (-1 - n) + 1).toNat
theorem zig_lt {n : Int} (h : -9223372036854775808 ≤ n ∧ n ≤ 9223372036854775807) : zig n < 18446744073709551616 := by unfold zig; split <;> omega
theorem xor_ones {x : Nat} (h : x < 18446744073709551616) : x ^^^ 18446744073709551615 = 18446744073709551615 - x := by
  have e : (BitVec.ofNat 64 x ^^^ BitVec.allOnes 64).toNat = (~~~ BitVec.ofNat 64 x).toNat := by rw [BitVec.xor_allOnes]
  rw [BitVec.toNat_xor, BitVec.toNat_not, BitVec.toNat_allOnes, BitVec.toNat_ofNat, Nat.mod_eq_of_lt (by omega : x < 2 ^ 64)] at e
  exact e
theorem fold_eq {n : Int} (h : -9223372036854775808 ≤ n ∧ n ≤ 9223372036854775807) :
    Go.bits .xor .u64 (IntKind.u64.wrap ((IntKind.u64.wrap n) * 2)) (IntKind.u64.wrap (n / 9223372036854775808)) = ((zig n : Nat) : Int) := by
  rw [IntKind.wrap_u64, IntKind.wrap_u64, IntKind.wrap_u64]
  by_cases h0 : 0 ≤ n
  · have e1 : n % 18446744073709551616 * 2 % 18446744073709551616 = ((zig n : Nat) : Int) := by unfold zig; rw [if_pos h0]; omega
    have e2 : n / 9223372036854775808 % 18446744073709551616 = ((0 : Nat) : Int) := by omega
    rw [e1, e2, bits_xor_u64_nat _ _ (zig_lt h) (by omega), Nat.xor_zero]
  · have e1 : n % 18446744073709551616 * 2 % 18446744073709551616 = ((18446744073709551615 - zig n : Nat) : Int) := by unfold zig; rw [if_neg h0]; omega
    have e2 : n / 9223372036854775808 % 18446744073709551616 = ((18446744073709551615 : Nat) : Int) := by omega
    have := zig_lt h
    rw [e1, e2, bits_xor_u64_nat _ _ (by omega) (by omega), xor_ones (by omega)]
    omega
theorem Number_ev {n : Int} (h : -9223372036854775808 ≤ n ∧ n ≤ 9223372036854775807) : (∃ K, ∀ k, K ≤ k → frame_Number.f k n = some ((countS (zig n)))) := by
  obtain ⟨K, hK⟩ := count_ev (zig_lt h)
  refine ⟨K, fun k hk => ?_⟩
  unfold frame_Number.f
  rw [fold_eq h, hK k hk]
  rfl
theorem refNumber_ev {n : Int} (h : -9223372036854775808 ≤ n ∧ n ≤ 9223372036854775807) : (∃ K, ∀ k, K ≤ k → windroseref02_Number.f k n = some ((countS (zig n)))) := by
  obtain ⟨K, hK⟩ := refcount (zig_lt h)
  refine ⟨K, fun k hk => ?_⟩
  unfold windroseref02_Number.f
  by_cases h0 : 0 ≤ n
  · have e : IntKind.u64.wrap ((IntKind.u64.wrap n) * 2) = ((zig n : Nat) : Int) := by rw [IntKind.wrap_u64, IntKind.wrap_u64]; unfold zig; rw [if_pos h0]; omega
    rw [if_pos (by omega), e, hK k hk]
    rfl
  · have e : IntKind.u64.wrap ((IntKind.u64.wrap ((IntKind.u64.wrap (wrap64 ((-1) - n))) * 2)) + 1) = ((zig n : Nat) : Int) := by
      rw [w64 (by omega) (by omega), IntKind.wrap_u64, IntKind.wrap_u64, IntKind.wrap_u64]; unfold zig; rw [if_neg h0]; omega
    rw [if_neg (by omega), e, hK k hk]
    rfl
end Go.Proofs.Ytlpohipneianjaa.Q
end
section
set_option linter.unusedVariables false
namespace Go.Proofs.Ytlpohipneianjaa.Q
open Go Go.RowKit Go.Proofs.Ytlpohipneianjaa.G Go.Proofs.YtlpohipneianjaaW.PrintWords Go.Proofs.YtlpohipneianjaaW.PrintLast
def I64 (n : Int) : Prop := -9223372036854775808 ≤ n ∧ n ≤ 9223372036854775807
def encN (l : List Int) : List Int := l.flatMap fun n => countS (zig n)
def encT (l : List ByteArray) : List Int := l.flatMap fun s => countS s.size ++ bytesOf s
def enc (nums : List Int) (texts : List ByteArray) : List Int := countS nums.length ++ encN nums ++ countS texts.length ++ encT texts
def Held (nums : List Int) (texts : List ByteArray) : Prop := nums.length ≤ 9223372036854775807 ∧ (∀ n ∈ nums, I64 n) ∧ texts.length ≤ 9223372036854775807 ∧ ∀ s ∈ texts, s.size ≤ 9223372036854775807
theorem encN_cons (n : Int) (l : List Int) : encN (n :: l) = countS (zig n) ++ encN l := by simp [encN]
theorem encT_cons (s : ByteArray) (l : List ByteArray) : encT (s :: l) = countS s.size ++ bytesOf s ++ encT l := by simp [encT]
theorem rd_at (l : List Int) (i : Nat) (h : i < l.length) : l.drop i = rd l i :: l.drop (i + 1) := by rw [drop_getD l i 0 h]; rfl
theorem rdOf_at (l : List ByteArray) (i : Nat) (h : i < l.length) : l.drop i = rdOf ByteArray.empty l i :: l.drop (i + 1) := by rw [drop_getD l i ByteArray.empty h]; rfl
theorem rd_mem (l : List Int) (i : Nat) (h : i < l.length) : rd l i ∈ l := by simp only [rd, Int.toNat_natCast]; exact getD_mem l i 0 h
theorem rdOf_mem (l : List ByteArray) (i : Nat) (h : i < l.length) : rdOf ByteArray.empty l i ∈ l := by simp only [rdOf, Int.toNat_natCast]; exact getD_mem l i _ h
def encR (b : List Int) : List Int × Int := if b.length ≤ 4096 then (b, 0) else ([], 4)
theorem enc_texts (texts : List ByteArray) (hh : texts.length ≤ 9223372036854775807) (ht : ∀ s ∈ texts, s.size ≤ 9223372036854775807) (d : Nat) : ∀ (i : Nat) (acc : List Int), i + d = texts.length → acc.length ≤ 5000 →
    (∃ K, ∀ k, K ≤ k → frame_Encode.l1 k acc texts (texts.length : Int) i = some ((encR (acc ++ encT (texts.drop i))))) := by
  induction d with
  | zero =>
    intro i acc hi ha
    refine Ev.succ 0 fun k _ => ?_
    simp only [frame_Encode.l1]
    rw [if_neg (by omega), List.drop_of_length_le (by omega)]
    unfold encR
    by_cases h : acc.length ≤ 4096
    · rw [if_neg (by omega), if_pos (by simpa [encT] using h)]; simp [encT]
    · rw [if_pos (by omega), if_neg (by simpa [encT] using h)]
  | succ d ih =>
    intro i acc hi ha
    have hd := rdOf_at texts i (by omega)
    have hm := ht _ (rdOf_mem texts i (by omega))
    generalize hs : rdOf ByteArray.empty texts i = s at hd hm
    obtain ⟨K0, h0⟩ := Count_ev s.size hm
    have hcl := countS_len10 (u := s.size) (by omega)
    have e1 : wrap64 ((i : Int) + 1) = ((i + 1 : Nat) : Int) := by rw [w64] <;> omega
    rw [hd, encT_cons]
    have hbl := bytesOf_length s
    have hal : (acc ++ countS s.size).length = acc.length + (countS s.size).length := List.length_append
    by_cases c1 : (acc ++ countS s.size).length > 4096
    · refine Ev.succ K0 fun k hk => ?_
      simp only [frame_Encode.l1]
      rw [if_pos (by omega), if_pos (by omega), if_pos (by omega), hs, h0 k hk, Option.bind_some, if_pos (by omega), Option.bind_some, if_pos (by omega)]
      unfold encR
      rw [if_neg (by simp only [List.length_append] at *; omega)]
    · have e2 : wrap64 (4096 - ((acc ++ countS s.size).length : Int)) = 4096 - ((acc ++ countS s.size).length : Int) := by rw [w64] <;> omega
      by_cases c2 : (s.size : Int) > 4096 - ((acc ++ countS s.size).length : Int)
      · refine Ev.succ K0 fun k hk => ?_
        simp only [frame_Encode.l1]
        rw [if_pos (by omega), if_pos (by omega), if_pos (by omega), hs, h0 k hk, Option.bind_some, if_pos (by omega), Option.bind_some, if_neg (by omega), e2, if_pos c2]
        unfold encR
        rw [if_neg (by simp only [List.length_append] at *; omega)]
      · obtain ⟨K, hK⟩ := ih (i + 1) (acc ++ countS s.size ++ bytesOf s) (by omega) (by simp only [List.length_append] at *; omega)
        refine Ev.succ (K + K0) fun k hk => ?_
        simp only [frame_Encode.l1]
        rw [if_pos (by omega), if_pos (by omega), if_pos (by omega), hs, h0 k (by omega), Option.bind_some, if_pos (by omega), Option.bind_some, if_neg (by omega), e2, if_neg c2, if_pos (by omega), e1, hK k (by omega)]
        simp only [List.append_assoc]
theorem enc_nums (nums : List Int) (texts : List ByteArray) (hh : Held nums texts) (d : Nat) : ∀ (i : Nat) (acc : List Int), i + d = nums.length → acc.length ≤ 4900 →
    (∃ K, ∀ k, K ≤ k → frame_Encode.l0 k acc nums (nums.length : Int) i nums texts = some ((encR (acc ++ encN (nums.drop i) ++ countS texts.length ++ encT texts)))) := by
  obtain ⟨hn1, hn2, ht1, ht2⟩ := hh
  have htl := countS_len10 (u := texts.length) (by omega)
  induction d with
  | zero =>
    intro i acc hi ha
    obtain ⟨K0, h0⟩ := Count_ev texts.length ht1
    obtain ⟨K, hK⟩ := enc_texts texts ht1 ht2 texts.length 0 (acc ++ countS texts.length) (by omega) (by simp only [List.length_append]; omega)
    refine Ev.succ (K + K0) fun k hk => ?_
    simp only [frame_Encode.l0]
    rw [if_neg (by omega), h0 k (by omega), Option.bind_some, if_pos (by omega)]
    have := hK k (by omega)
    rw [List.drop_of_length_le (by omega)]
    simp only [encN, List.flatMap_nil, List.append_nil]
    exact this
  | succ d ih =>
    intro i acc hi ha
    have hd := rd_at nums i (by omega)
    have hm := hn2 _ (rd_mem nums i (by omega))
    generalize hs : rd nums i = n at hd hm
    obtain ⟨K0, h0⟩ := Number_ev hm
    have hcl := countS_len10 (zig_lt hm)
    have e1 : wrap64 ((i : Int) + 1) = ((i + 1 : Nat) : Int) := by rw [w64] <;> omega
    rw [hd, encN_cons]
    have hal : (acc ++ countS (zig n)).length = acc.length + (countS (zig n)).length := List.length_append
    by_cases c1 : (acc ++ countS (zig n)).length > 4096
    · refine Ev.succ K0 fun k hk => ?_
      simp only [frame_Encode.l0]
      rw [if_pos (by omega), if_pos (by omega), if_pos (by omega), hs, h0 k hk, Option.bind_some, if_pos (by omega), Option.bind_some, if_pos (by omega)]
      unfold encR
      rw [if_neg (by simp only [List.length_append] at *; omega)]
    · obtain ⟨K, hK⟩ := ih (i + 1) (acc ++ countS (zig n)) (by omega) (by omega)
      refine Ev.succ (K + K0) fun k hk => ?_
      simp only [frame_Encode.l0]
      rw [if_pos (by omega), if_pos (by omega), if_pos (by omega), hs, h0 k (by omega), Option.bind_some, if_pos (by omega), Option.bind_some, if_neg (by omega), e1, hK k (by omega)]
      simp only [List.append_assoc]
theorem Encode_ev (nums : List Int) (texts : List ByteArray) (hh : Held nums texts) : (∃ K, ∀ k, K ≤ k → frame_Encode.f k nums texts = some ((encR (enc nums texts)))) := by
  obtain ⟨K0, h0⟩ := Count_ev nums.length hh.1
  obtain ⟨K, hK⟩ := enc_nums nums texts hh nums.length 0 (countS nums.length) (by omega) (by have h1 := hh.1; have := countS_len10 (u := nums.length) (by omega); omega)
  refine ⟨K + K0, fun k hk => ?_⟩
  unfold frame_Encode.f
  rw [h0 k (by omega), Option.bind_some]
  have := hK k (by omega)
  rw [List.drop_zero] at this
  exact this
def CutOf (R B : List Int) : Prop := (B.length ≤ 4096 → R = B) ∧ (4096 < B.length → 4096 < R.length)
theorem bytes_texts (nums : List Int) (texts : List ByteArray) (hh : texts.length ≤ 9223372036854775807) (ht : ∀ s ∈ texts, s.size ≤ 9223372036854775807) (d : Nat) : ∀ (i : Nat) (acc : List Int), i + d = texts.length → acc.length ≤ 20000 →
    ∃ R, (∃ K, ∀ k, K ≤ k → windroseref02_Bytes.l1 k acc i nums texts = some (R)) ∧ CutOf R (acc ++ encT (texts.drop i)) := by
  induction d with
  | zero =>
    intro i acc hi ha
    refine ⟨acc, ⟨2, fun k hk => ?_⟩, by rw [List.drop_of_length_le (by omega)]; simp [CutOf, encT]⟩
    obtain ⟨k, rfl⟩ : ∃ m, k = m + 2 := ⟨k - 2, by omega⟩
    rw [windroseref02_Bytes.l1, if_neg (by omega), windroseref02_Bytes.j3, if_neg (by simp)]
  | succ d ih =>
    intro i acc hi ha
    have hd := rdOf_at texts i (by omega)
    have hm := ht _ (rdOf_mem texts i (by omega))
    generalize hs : rdOf ByteArray.empty texts i = s at hd hm
    obtain ⟨K0, h0⟩ := refCount_ev s.size hm
    have hcl := countS_len10 (u := s.size) (by omega)
    have e1 : wrap64 ((i : Int) + 1) = ((i + 1 : Nat) : Int) := by rw [w64] <;> omega
    rw [hd, encT_cons]
    have hbl := bytesOf_length s
    have hal : (acc ++ countS s.size).length = acc.length + (countS s.size).length := List.length_append
    by_cases c0 : acc.length < 5000
    · by_cases c1 : s.size > 5000
      · have hxs : (s.extract 0 5000).size = 5000 := by simp; omega
        have hxb := bytesOf_length (s.extract 0 5000)
        obtain ⟨R, ⟨K, hK⟩, hR⟩ := ih (i + 1) (acc ++ countS s.size ++ bytesOf (s.extract 0 5000)) (by omega) (by simp only [List.length_append] at *; omega)
        refine ⟨R, ⟨K + K0 + 2, fun k hk => ?_⟩, fun h => absurd h (by simp only [List.length_append] at *; omega), fun _ => hR.2 (by simp only [List.length_append] at *; omega)⟩
        obtain ⟨k, rfl⟩ : ∃ m, k = m + 2 := ⟨k - 2, by omega⟩
        rw [windroseref02_Bytes.l1, if_pos (by omega), decide_eq_true (by omega), windroseref02_Bytes.j3, if_pos rfl, if_pos (by omega), if_pos (by omega), hs, h0 k (by omega), Option.bind_some, if_pos (by omega), Option.bind_some, if_pos (by omega), if_pos (by omega), if_pos (by omega), e1]
        exact hK k (by omega)
      · obtain ⟨R, ⟨K, hK⟩, hR⟩ := ih (i + 1) (acc ++ countS s.size ++ bytesOf s) (by omega) (by simp only [List.length_append] at *; omega)
        refine ⟨R, ⟨K + K0 + 2, fun k hk => ?_⟩, by simpa only [List.append_assoc] using hR⟩
        obtain ⟨k, rfl⟩ : ∃ m, k = m + 2 := ⟨k - 2, by omega⟩
        rw [windroseref02_Bytes.l1, if_pos (by omega), decide_eq_true (by omega), windroseref02_Bytes.j3, if_pos rfl, if_pos (by omega), if_pos (by omega), hs, h0 k (by omega), Option.bind_some, if_pos (by omega), Option.bind_some, if_neg (by omega), if_pos (by omega), e1]
        exact hK k (by omega)
    · refine ⟨acc, ⟨2, fun k hk => ?_⟩, fun h => absurd h (by simp only [List.length_append] at *; omega), fun _ => by omega⟩
      obtain ⟨k, rfl⟩ : ∃ m, k = m + 2 := ⟨k - 2, by omega⟩
      rw [windroseref02_Bytes.l1, if_pos (by omega), decide_eq_false (by omega), windroseref02_Bytes.j3, if_neg (by simp)]
theorem bytes_j1 (nums : List Int) (texts : List ByteArray) (hh : Held nums texts) (acc : List Int) (ha : acc.length ≤ 19000) :
    ∃ R, (∃ K, ∀ k, K ≤ k → windroseref02_Bytes.j1 k acc nums texts = some (R)) ∧ CutOf R (acc ++ countS texts.length ++ encT texts) := by
  have h2 := hh.2.2.1
  have htl := countS_len10 (u := texts.length) (by omega)
  obtain ⟨K0, h0⟩ := refCount_ev texts.length h2
  obtain ⟨R, ⟨K, hK⟩, hR⟩ := bytes_texts nums texts hh.2.2.1 hh.2.2.2 texts.length 0 (acc ++ countS texts.length) (by omega) (by simp only [List.length_append]; omega)
  refine ⟨R, Ev.succ (K + K0) fun k hk => ?_, by simpa using hR⟩
  simp only [windroseref02_Bytes.j1]
  rw [h0 k (by omega), Option.bind_some, if_pos (by omega)]
  exact hK k (by omega)
theorem bytes_nums (nums : List Int) (texts : List ByteArray) (hh : Held nums texts) (d : Nat) : ∀ (i : Nat) (acc : List Int), i + d = nums.length → acc.length ≤ 18000 →
    ∃ R, (∃ K, ∀ k, K ≤ k → windroseref02_Bytes.l0 k acc i nums texts = some (R)) ∧ CutOf R (acc ++ encN (nums.drop i) ++ countS texts.length ++ encT texts) := by
  induction d with
  | zero =>
    intro i acc hi ha
    obtain ⟨R, ⟨K, hK⟩, hR⟩ := bytes_j1 nums texts hh acc (by omega)
    refine ⟨R, Ev.succ K fun k hk => ?_, by rw [List.drop_of_length_le (by omega)]; simpa [encN] using hR⟩
    simp only [windroseref02_Bytes.l0]
    rw [if_neg (by omega)]
    exact hK k hk
  | succ d ih =>
    intro i acc hi ha
    have hn1 := hh.1
    have hd := rd_at nums i (by omega)
    have hm := hh.2.1 _ (rd_mem nums i (by omega))
    generalize hs : rd nums i = n at hd hm
    obtain ⟨K0, h0⟩ := refNumber_ev hm
    have hcl := countS_len10 (zig_lt hm)
    have e1 : wrap64 ((i : Int) + 1) = ((i + 1 : Nat) : Int) := by rw [w64] <;> omega
    rw [hd, encN_cons]
    by_cases c0 : acc.length < 5000
    · obtain ⟨R, ⟨K, hK⟩, hR⟩ := ih (i + 1) (acc ++ countS (zig n)) (by omega) (by simp only [List.length_append]; omega)
      refine ⟨R, Ev.succ (K + K0) fun k hk => ?_, by simpa only [List.append_assoc] using hR⟩
      simp only [windroseref02_Bytes.l0]
      rw [if_pos (by omega), if_pos (by omega), if_pos (by omega), hs, h0 k (by omega), Option.bind_some, if_pos (by omega), e1]
      exact hK k (by omega)
    · obtain ⟨R, ⟨K, hK⟩, hR⟩ := bytes_j1 nums texts hh acc (by omega)
      refine ⟨R, Ev.succ K fun k hk => ?_, fun h => absurd h (by simp only [List.length_append] at *; omega), fun _ => hR.2 (by simp only [List.length_append] at *; omega)⟩
      simp only [windroseref02_Bytes.l0]
      rw [if_pos (by omega), if_neg (by omega)]
      exact hK k hk
theorem Bytes_ev (nums : List Int) (texts : List ByteArray) (hh : Held nums texts) : ∃ R, (∃ K, ∀ k, K ≤ k → windroseref02_Bytes.f k nums texts = some (R)) ∧ CutOf R (enc nums texts) := by
  have h1 := hh.1
  obtain ⟨K0, h0⟩ := refCount_ev nums.length h1
  obtain ⟨R, ⟨K, hK⟩, hR⟩ := bytes_nums nums texts hh nums.length 0 (countS nums.length) (by omega) (by have := countS_len10 (u := nums.length) (by omega); omega)
  refine ⟨R, ⟨K + K0, fun k hk => ?_⟩, by simpa [enc] using hR⟩
  unfold windroseref02_Bytes.f
  rw [h0 k (by omega), Option.bind_some]
  exact hK k (by omega)
theorem Bytes_small (nums : List Int) (texts : List ByteArray) (hh : Held nums texts) (h : (enc nums texts).length ≤ 4096) : (∃ K, ∀ k, K ≤ k → windroseref02_Bytes.f k nums texts = some ((enc nums texts))) := by
  obtain ⟨R, hK, hR⟩ := Bytes_ev nums texts hh
  rw [hR.1 h] at hK
  exact hK
end Go.Proofs.Ytlpohipneianjaa.Q
end
section
set_option linter.unusedVariables false
namespace Go.Proofs.Ytlpohipneianjaa.Q
open Go Go.RowKit Go.Proofs.Ytlpohipneianjaa.G Go.Proofs.YtlpohipneianjaaW.PrintWords Go.Proofs.YtlpohipneianjaaW.PrintLast
def pk : Bool → Int → Int → Int → Int → List Smp → List Int
  | _, _, _, _, _, [] => []
  | f, lt, lv, st, sv, s :: q => (s.f0 - lt - st) :: (s.f1 - lv - sv) :: pk false s.f0 s.f1 (if f then st else s.f0 - lt) (if f then sv else s.f1 - lv) q
def B2 (x : Int) : Prop := -4398046511104 ≤ x ∧ x ≤ 4398046511104
theorem pack_loop (l : List Smp) (hm : May l) (d : Nat) : ∀ (i : Nat) (f : Bool) (acc : List Int) (lt lv st sv : Int), (f = true ↔ i = 0) → i + d = l.length → acc.length ≤ 1000 + 2 * i → (-1099511627776 ≤ lt ∧ lt ≤ 1099511627776) → (-1099511627776 ≤ lv ∧ lv ≤ 1099511627776) → (-2199023255552 ≤ st ∧ st ≤ 2199023255552) → (-2199023255552 ≤ sv ∧ sv ≤ 2199023255552) →
    (∃ K, ∀ k, K ≤ k → block_Pack.l0 k l (l.length : Int) i acc lt lv st sv = some ((acc ++ pk f lt lv st sv (l.drop i), [], 0))) := by
  have h64 := hm.1
  induction d with
  | zero =>
    intro i f acc lt lv st sv hf0 hi ha h1 h2 h3 h4
    refine Ev.succ 0 fun k _ => ?_
    simp only [block_Pack.l0]
    rw [if_neg (by omega), List.drop_of_length_le (by omega), pk, List.append_nil]
  | succ d ih =>
    intro i f acc lt lv st sv hf0 hi ha h1 h2 h3 h4
    have hf := hm.2 i (by omega)
    obtain ⟨f1, f2, f3, f4, _⟩ := hf
    simp only [at_] at f1 f2 f3 f4
    have hd : l.drop i = rd_T42 l i :: l.drop (i + 1) := by rw [drop_getD l i z42 (by omega)]; rfl
    generalize hs : rd_T42 l i = s at hd f1 f2 f3 f4
    have c1 : (i : Int) < (l.length : Int) := by clear f1 f2 f3 f4; omega
    have c2 : (0 : Int) ≤ (i : Int) := Int.natCast_nonneg i
    have hc : ∀ x y : Int, acc.length + [x, y].length < 17592186044416 := fun x y => by
      have : [x, y].length = 2 := rfl
      rw [this]; clear f1 f2 f3 f4; omega
    have hb2 : acc.length + 2 ≤ 1000 + 2 * (i + 1) := by clear f1 f2 f3 f4; omega
    have hb3 : ∀ x y : Int, (acc ++ [x, y]).length ≤ 1000 + 2 * (i + 1) := fun x y => by rw [List.length_append]; exact hb2
    have e1 : wrap64 ((i : Int) + 1) = ((i + 1 : Nat) : Int) := by rw [w64] <;> omega
    have a1 : wrap64 (s.f0 - lt) = s.f0 - lt := by rw [w64] <;> omega
    have a2 : wrap64 (s.f1 - lv) = s.f1 - lv := by rw [w64] <;> omega
    have a3 : wrap64 (s.f0 - lt - st) = s.f0 - lt - st := by rw [w64] <;> omega
    have a4 : wrap64 (s.f1 - lv - sv) = s.f1 - lv - sv := by rw [w64] <;> omega
    rw [hd, pk]
    cases f with
    | true =>
      have h0 : i = 0 := hf0.1 rfl
      obtain ⟨K, hK⟩ := ih (i + 1) false (acc ++ [s.f0 - lt - st, s.f1 - lv - sv]) s.f0 s.f1 st sv (by simp) (by omega) (hb3 _ _) (by omega) (by omega) h3 h4
      refine Ev.succ K fun k hk => ?_
      have hKk := hK k hk
      rw [List.append_assoc] at hKk
      simp only [block_Pack.l0]
      rw [if_pos c1, if_pos c2, if_pos c1, hs, a1, a2, a3, a4, Option.bind_some, if_pos (hc _ _), Option.bind_some, if_neg (show ¬ (i : Int) > 0 by rw [h0]; decide), e1]
      simp only [if_true]
      exact hKk
    | false =>
      have h0 : ¬ i = 0 := fun h => by simp [h] at hf0
      have c0 : (i : Int) > 0 := by clear f1 f2 f3 f4; omega
      obtain ⟨K, hK⟩ := ih (i + 1) false (acc ++ [s.f0 - lt - st, s.f1 - lv - sv]) s.f0 s.f1 (s.f0 - lt) (s.f1 - lv) (by simp) (by omega) (hb3 _ _) (by omega) (by omega) (by omega) (by omega)
      refine Ev.succ K fun k hk => ?_
      have hKk := hK k hk
      rw [List.append_assoc] at hKk
      simp only [block_Pack.l0]
      rw [if_pos c1, if_pos c2, if_pos c1, hs, a1, a2, a3, a4, Option.bind_some, if_pos (hc _ _), Option.bind_some, if_pos c0, e1]
      simp only [Bool.false_eq_true, if_false]
      exact hKk
def packS (l : List Smp) : List Int := (l.length : Int) :: pk true 0 0 0 0 l
theorem Pack_ev (l : List Smp) : (∃ K, ∀ k, K ≤ k → block_Pack.f k l = some ((if May l then (packS l, [], 0) else ([], [], 1)))) := by
  obtain ⟨K1, h1⟩ := check_ev l
  by_cases hm : May l
  · obtain ⟨K2, h2⟩ := pack_loop l hm l.length 0 true [(l.length : Int)] 0 0 0 0 (by simp) (by omega) (by simp) (by omega) (by omega) (by omega) (by omega)
    refine ⟨K1 + K2, fun k hk => ?_⟩
    unfold block_Pack.f
    rw [h1 k (by omega), if_pos hm, if_pos hm, Option.bind_some, if_pos rfl]
    exact h2 k (by omega)
  · refine ⟨K1, fun k hk => ?_⟩
    unfold block_Pack.f
    rw [h1 k (by omega), if_neg hm, if_neg hm, Option.bind_some, if_neg (by decide)]
theorem pk_len (l : List Smp) : ∀ f lt lv st sv, (pk f lt lv st sv l).length = 2 * l.length := by
  induction l with
  | nil => intros; rfl
  | cons s l ih => intro f lt lv st sv; simp only [pk, List.length_cons, ih]; omega
theorem pk_b (l : List Smp) : (∀ s ∈ l, Bd s) → ∀ f lt lv st sv, (-1099511627776 ≤ lt ∧ lt ≤ 1099511627776) → (-1099511627776 ≤ lv ∧ lv ≤ 1099511627776) → (-2199023255552 ≤ st ∧ st ≤ 2199023255552) → (-2199023255552 ≤ sv ∧ sv ≤ 2199023255552) →
    ∀ x ∈ pk f lt lv st sv l, B2 x := by
  induction l with
  | nil => intro _ f lt lv st sv _ _ _ _ x hx; simp [pk] at hx
  | cons s l ih =>
    intro hb f lt lv st sv h1 h2 h3 h4 x hx
    obtain ⟨b1, b2, b3, b4⟩ := hb s (by simp)
    simp only [pk] at hx
    rcases List.mem_cons.1 hx with rfl | hx
    · unfold B2; omega
    rcases List.mem_cons.1 hx with rfl | hx
    · unfold B2; omega
    refine ih (fun s' h' => hb s' (by simp [h'])) _ _ _ _ _ (by omega) (by omega) ?_ ?_ x hx <;> split <;> omega
theorem packS_held (l : List Smp) (hm : May l) : Held (packS l) [] := by
  have h64 := hm.1
  have hb := (fits_ok l hm.2).1
  refine ⟨by simp [packS, pk_len]; omega, fun x hx => ?_, by simp, fun s hs => by simp at hs⟩
  rcases List.mem_cons.1 hx with rfl | hx
  · unfold I64; omega
  · have := pk_b l hb true 0 0 0 0 (by omega) (by omega) (by omega) (by omega) x hx
    unfold B2 at this
    unfold I64
    omega
theorem encN_le (l : List Int) (h : ∀ x ∈ l, I64 x) : (encN l).length ≤ 10 * l.length := by
  induction l with
  | nil => simp [encN]
  | cons n l ih =>
    rw [encN_cons]
    have := countS_len10 (zig_lt (h n (by simp)))
    have := ih (fun x hx => h x (by simp [hx]))
    simp only [List.length_append, List.length_cons]
    omega
theorem packS_small (l : List Smp) (hm : May l) : (enc (packS l) []).length ≤ 4096 := by
  have hh := packS_held l hm
  have h64 := hm.1
  have h1 := encN_le (packS l) hh.2.1
  have hl : (packS l).length = 1 + 2 * l.length := by simp [packS, pk_len]; omega
  have h2 := countS_len10 (u := (packS l).length) (by omega)
  have h3 := countS_len10 (u := ([] : List ByteArray).length) (by simp)
  simp only [enc, List.length_append, encT, List.flatMap_nil, List.length_nil] at *
  omega
theorem BlockBytes_ev (l : List Smp) : (∃ K, ∀ k, K ≤ k → block_Bytes.f k l = some ((if May l then (((enc (packS l) []).length : Nat) : Int) else 0))) := by
  obtain ⟨K1, h1⟩ := Pack_ev l
  by_cases hm : May l
  · obtain ⟨K2, h2⟩ := Encode_ev (packS l) [] (packS_held l hm)
    refine ⟨K1 + K2, fun k hk => ?_⟩
    unfold block_Bytes.f
    rw [h1 k (by omega), if_pos hm, if_pos hm, Option.bind_some, if_pos rfl, h2 k (by omega)]
    simp only [encR, if_pos (packS_small l hm), Option.bind_some]
  · refine ⟨K1, fun k hk => ?_⟩
    unfold block_Bytes.f
    rw [h1 k (by omega), if_neg hm, if_neg hm, Option.bind_some, if_neg (by decide)]
end Go.Proofs.Ytlpohipneianjaa.Q
end
section
set_option linter.unusedVariables false
namespace Go.Proofs.Ytlpohipneianjaa.Q
open Go Go.RowKit Go.Proofs.Ytlpohipneianjaa.G Go.Proofs.YtlpohipneianjaaW.PrintWords Go.Proofs.YtlpohipneianjaaW.PrintLast
theorem ints_loop (a b : List Int) (hab : a.length = b.length) (hl : a.length ≤ 9223372036854775807) (d : Nat) : ∀ i : Nat, i + d = a.length → (∃ K, ∀ k, K ≤ k → windroseref02_Ints.l0 k a b i = some ((decide (a.drop i = b.drop i)))) := by
  induction d with
  | zero =>
    intro i hi
    refine Ev.succ 0 fun k _ => ?_
    simp only [windroseref02_Ints.l0]
    rw [if_neg (by omega), decide_eq_true (by rw [List.drop_of_length_le (by omega), List.drop_of_length_le (by omega)])]
  | succ d ih =>
    intro i hi
    obtain ⟨K, hK⟩ := ih (i + 1) (by omega)
    refine Ev.succ K fun k hk => ?_
    simp only [windroseref02_Ints.l0]
    have e1 : wrap64 ((i : Int) + 1) = ((i + 1 : Nat) : Int) := by rw [w64] <;> omega
    rw [if_pos (by omega), if_pos (by omega), if_pos (by omega), rd_at a i (by omega), rd_at b i (by omega)]
    by_cases h : rd a i = rd b i
    · rw [if_pos h, e1, hK k hk]
      congr 1
      rw [decide_eq_decide, h]
      simp
    · rw [if_neg h, decide_eq_false (fun e => h (List.cons.inj e).1)]
theorem Ints_ev (a b : List Int) (hl : a.length ≤ 9223372036854775807) : (∃ K, ∀ k, K ≤ k → windroseref02_Ints.f k a b = some ((decide (a = b)))) := by
  by_cases h : a.length = b.length
  · obtain ⟨K, hK⟩ := ints_loop a b h hl a.length 0 (by omega)
    refine ⟨K, fun k hk => ?_⟩
    unfold windroseref02_Ints.f
    rw [if_pos (by omega)]
    exact hK k hk
  · refine ⟨0, fun k _ => ?_⟩
    unfold windroseref02_Ints.f
    rw [if_neg (by omega), decide_eq_false (fun e => h (by rw [e]))]
theorem toList_loop (bs : ByteArray) (d : Nat) : ∀ (i : Nat) (r : List UInt8), i + d = bs.size → ByteArray.toList.loop bs i r = r.reverse ++ bs.data.toList.drop i := by
  have hsz : bs.data.toList.length = bs.size := by rw [Array.length_toList]; rfl
  induction d with
  | zero =>
    intro i r hi
    rw [ByteArray.toList.loop, if_neg (by omega), List.drop_of_length_le (by omega), List.append_nil]
  | succ d ih =>
    intro i r hi
    rw [ByteArray.toList.loop, if_pos (by omega), ih (i + 1) _ (by omega), List.drop_eq_getElem_cons (by omega : i < bs.data.toList.length), List.reverse_cons, List.append_assoc]
    congr 1
    have e : bs.get! i = bs.data.toList[i]'(by omega) := by
      show bs.data[i]! = _
      rw [getElem!_pos bs.data i (by have : bs.data.size = bs.size := rfl; omega)]
      simp
    rw [e]
    rfl
theorem toList_data (bs : ByteArray) : bs.toList = bs.data.toList := by
  rw [ByteArray.toList, toList_loop bs bs.size 0 [] (by omega)]
  simp
theorem toList_inj (a b : ByteArray) : a.toList = b.toList ↔ a = b := by
  constructor
  · intro h
    rw [toList_data, toList_data] at h
    exact ByteArray.ext (Array.ext' h)
  · rintro rfl; rfl
theorem strings_loop (a b : List ByteArray) (hab : a.length = b.length) (hl : a.length ≤ 9223372036854775807) (d : Nat) : ∀ i : Nat, i + d = a.length → (∃ K, ∀ k, K ≤ k → windroseref02_Strings.l0 k a b i = some ((decide (a.drop i = b.drop i)))) := by
  induction d with
  | zero =>
    intro i hi
    refine Ev.succ 0 fun k _ => ?_
    simp only [windroseref02_Strings.l0]
    rw [if_neg (by omega), decide_eq_true (by rw [List.drop_of_length_le (by omega), List.drop_of_length_le (by omega)])]
  | succ d ih =>
    intro i hi
    obtain ⟨K, hK⟩ := ih (i + 1) (by omega)
    refine Ev.succ K fun k hk => ?_
    simp only [windroseref02_Strings.l0]
    have e1 : wrap64 ((i : Int) + 1) = ((i + 1 : Nat) : Int) := by rw [w64] <;> omega
    rw [if_pos (by omega), if_pos (by omega), if_pos (by omega), rdOf_at a i (by omega), rdOf_at b i (by omega)]
    by_cases h : rdOf ByteArray.empty a i = rdOf ByteArray.empty b i
    · rw [if_pos (by rw [h]), e1, hK k hk]
      congr 1
      rw [decide_eq_decide, h]
      simp
    · rw [if_neg (fun e => h ((toList_inj _ _).1 e)), decide_eq_false (fun e => h (List.cons.inj e).1)]
theorem Strings_ev (a b : List ByteArray) (hl : a.length ≤ 9223372036854775807) : (∃ K, ∀ k, K ≤ k → windroseref02_Strings.f k a b = some ((decide (a = b)))) := by
  by_cases h : a.length = b.length
  · obtain ⟨K, hK⟩ := strings_loop a b h hl a.length 0 (by omega)
    refine ⟨K, fun k hk => ?_⟩
    unfold windroseref02_Strings.f
    rw [if_pos (by omega)]
    exact hK k hk
  · refine ⟨0, fun k _ => ?_⟩
    unfold windroseref02_Strings.f
    rw [if_neg (by omega), decide_eq_false (fun e => h (by rw [e]))]
theorem Same02_ev (a : List Int) (s : List ByteArray) (b : List Int) (t : List ByteArray) (h1 : a.length ≤ 9223372036854775807) (h2 : s.length ≤ 9223372036854775807) :
    (∃ K, ∀ k, K ≤ k → windroseref02_Same.f k a s b t = some ((decide (a = b ∧ s = t)))) := by
  obtain ⟨K1, hK1⟩ := Ints_ev a b h1
  obtain ⟨K2, hK2⟩ := Strings_ev s t h2
  refine ⟨K1 + K2, fun k hk => ?_⟩
  unfold windroseref02_Same.f
  rw [hK1 k (by omega), Option.bind_some]
  by_cases h : a = b
  · rw [decide_eq_true h, if_pos rfl, hK2 k (by omega), Option.bind_some]
    congr 1
    rw [decide_eq_decide]
    exact ⟨fun e => ⟨h, e⟩, fun e => e.2⟩
  · rw [decide_eq_false h, if_neg (by simp), decide_eq_false (fun e => h e.1)]
end Go.Proofs.Ytlpohipneianjaa.Q
end
section
set_option linter.unusedVariables false
namespace Go.Proofs.Ytlpohipneianjaa.Q
open Go Go.RowKit Go.Proofs.Ytlpohipneianjaa.G Go.Proofs.YtlpohipneianjaaW.PrintWords Go.Proofs.YtlpohipneianjaaW.PrintLast
def un : Bool → Int → Int → Int → Int → List Int → List Smp
  | f, lt, lv, st, sv, a :: b :: q => ⟨lt + (st + a), lv + (sv + b)⟩ :: un false (lt + (st + a)) (lv + (sv + b)) (if f then st else st + a) (if f then sv else sv + b) q
  | _, _, _, _, _, _ => []
theorem un_pk (l : List Smp) : ∀ f lt lv st sv, un f lt lv st sv (pk f lt lv st sv l) = l := by
  induction l with
  | nil => intros; rfl
  | cons s l ih =>
    intro f lt lv st sv
    have e1 : lt + (st + (s.f0 - lt - st)) = s.f0 := by omega
    have e2 : lv + (sv + (s.f1 - lv - sv)) = s.f1 := by omega
    have e3 : st + (s.f0 - lt - st) = s.f0 - lt := by omega
    have e4 : sv + (s.f1 - lv - sv) = s.f1 - lv := by omega
    simp only [pk, un]
    rw [e1, e2, e3, e4, ih]
theorem pk_un (n : Nat) : ∀ (q : List Int), q.length = 2 * n → ∀ f lt lv st sv, pk f lt lv st sv (un f lt lv st sv q) = q := by
  induction n with
  | zero => intro q hq; obtain rfl := List.eq_nil_of_length_eq_zero (by simpa using hq); intros; rfl
  | succ n ih =>
    intro q hq f lt lv st sv
    match q, hq with
    | a :: b :: q, hq =>
      have e1 : lt + (st + a) - lt - st = a := by omega
      have e2 : lv + (sv + b) - lv - sv = b := by omega
      have e3 : lt + (st + a) - lt = st + a := by omega
      have e4 : lv + (sv + b) - lv = sv + b := by omega
      simp only [un, pk]
      rw [e1, e2, e3, e4, ih q (by simp at hq; omega)]
theorem un_len (n : Nat) : ∀ (q : List Int), q.length = 2 * n → ∀ f lt lv st sv, (un f lt lv st sv q).length = n := by
  induction n with
  | zero => intro q hq; obtain rfl := List.eq_nil_of_length_eq_zero (by simpa using hq); intros; rfl
  | succ n ih =>
    intro q hq f lt lv st sv
    match q, hq with
    | a :: b :: q, hq =>
      simp only [un, List.length_cons]
      rw [ih q (by simp at hq; omega)]
def urun : List Smp × Smp × Smp → List Int → List Smp × Smp × Smp
  | z, a :: b :: q => urun (unpStep z a b) q
  | z, _ => z
theorem urun_pre (n : Nat) : ∀ (q : List Int), q.length = 2 * n → ∀ z, ∃ r, (urun z q).1 = z.1 ++ r := by
  induction n with
  | zero => intro q hq z; obtain rfl := List.eq_nil_of_length_eq_zero (by simpa using hq); exact ⟨[], by simp [urun]⟩
  | succ n ih =>
    intro q hq z
    match q, hq with
    | a :: b :: q, hq =>
      obtain ⟨r, hr⟩ := ih q (by simp at hq; omega) (unpStep z a b)
      exact ⟨(unpStep z a b).2.1 :: r, by simp only [urun]; rw [hr]; simp [unpStep]⟩
def Bw (s : Smp) : Prop := -1099511627776 ≤ s.f0 ∧ s.f0 ≤ 1099511627776 ∧ -1099511627776 ≤ s.f1 ∧ s.f1 ≤ 1099511627776
theorem urun_un (n : Nat) : ∀ (q : List Int), q.length = 2 * n → (∀ x ∈ q, B2 x) → ∀ (f : Bool) (acc : List Smp) (lt lv st sv : Int), (f = true ↔ acc = []) → Bw ⟨lt, lv⟩ →
    (-2199023255552 ≤ st ∧ st ≤ 2199023255552) → (-2199023255552 ≤ sv ∧ sv ≤ 2199023255552) →
    ((∀ s ∈ un f lt lv st sv q, Bw s) ∨ (∀ s ∈ (urun (acc, ⟨lt, lv⟩, ⟨st, sv⟩) q).1, Bw s)) →
    (urun (acc, ⟨lt, lv⟩, ⟨st, sv⟩) q).1 = acc ++ un f lt lv st sv q := by
  induction n with
  | zero => intro q hq _ f acc lt lv st sv _ _ _ _ _; obtain rfl := List.eq_nil_of_length_eq_zero (by simpa using hq); simp [urun, un]
  | succ n ih =>
    intro q hq hb f acc lt lv st sv hf hl hs1 hs2 H
    match q, hq with
    | a :: b :: q, hq =>
      obtain ⟨a1, a2⟩ := hb a (by simp)
      obtain ⟨b1, b2⟩ := hb b (by simp)
      obtain ⟨l1, l2, l3, l4⟩ := hl
      simp only at l1 l2 l3 l4
      have w1 : wrap64 (st + a) = st + a := by rw [w64] <;> omega
      have w2 : wrap64 (sv + b) = sv + b := by rw [w64] <;> omega
      have w3 : wrap64 (lt + (st + a)) = lt + (st + a) := by rw [w64] <;> omega
      have w4 : wrap64 (lv + (sv + b)) = lv + (sv + b) := by rw [w64] <;> omega
      have hq' : q.length = 2 * n := by simp at hq; omega
      have st1 : unpStep (acc, ⟨lt, lv⟩, ⟨st, sv⟩) a b = (acc ++ [⟨lt + (st + a), lv + (sv + b)⟩], ⟨lt + (st + a), lv + (sv + b)⟩, ⟨if f then st else st + a, if f then sv else sv + b⟩) := by
        simp only [unpStep]
        rw [w1, w2, w3, w4]
        cases f with
        | true =>
          obtain rfl := hf.1 rfl
          rw [if_neg (by simp)]
          rfl
        | false =>
          have : acc ≠ [] := fun h => by simp [h] at hf
          rw [if_pos (by have := List.length_pos_iff.2 this; omega)]
          rfl
      clear w1 w2 w3 w4
      have hn : Bw ⟨lt + (st + a), lv + (sv + b)⟩ := by
        rcases H with H | H
        · exact H _ (by simp [un])
        · refine H _ ?_
          simp only [urun]
          rw [st1]
          obtain ⟨r, hr⟩ := urun_pre n q hq' (acc ++ [⟨lt + (st + a), lv + (sv + b)⟩], ⟨lt + (st + a), lv + (sv + b)⟩, ⟨if f then st else st + a, if f then sv else sv + b⟩)
          rw [hr]
          simp
      have hn' := hn
      obtain ⟨n1, n2, n3, n4⟩ := hn'
      simp only at n1 n2 n3 n4
      simp only [urun, un]
      rw [st1, ih q hq' (fun x hx => hb x (by simp [hx])) false _ _ _ _ _ (by simp) hn (by split <;> omega) (by split <;> omega) ?_]
      · simp
      · rcases H with H | H
        · exact .inl fun s hs => H s (by simp only [un]; exact List.mem_cons_of_mem _ hs)
        · right
          intro s hs
          refine H s ?_
          simp only [urun]
          rw [st1]
          exact hs
theorem unpSt_urun (nums : List Int) (m : Nat) (hm : nums.length = 2 * m + 1) : (unpSt nums (List.finRange m)).1 = (urun ([], z42, z42) (nums.drop 1)).1 := by
  have key : ∀ (d j : Nat), j + d = m → ∀ z, ((List.finRange m).drop j).foldl (fun z i => unpStep z (numA nums i.val) (numB nums i.val)) z = urun z (nums.drop (1 + 2 * j)) := by
    intro d
    induction d with
    | zero =>
      intro j hj z
      rw [List.drop_of_length_le (by simp; omega), List.drop_of_length_le (by omega)]
      rfl
    | succ d ih =>
      intro j hj z
      have e : (List.finRange m).drop j = ⟨j, by omega⟩ :: (List.finRange m).drop (j + 1) := by
        rw [List.drop_eq_getElem_cons (by simp; omega)]
        simp
      rw [e, List.foldl_cons, ih (j + 1) (by omega), rd_at nums (1 + 2 * j) (by omega), rd_at nums (1 + 2 * j + 1) (by omega)]
      simp only [urun]
      unfold numA numB
      rw [show 1 + 2 * (j + 1) = 1 + 2 * j + 1 + 1 by omega, show 2 + 2 * j = 1 + 2 * j + 1 by omega]
  have := key m 0 (by omega) ([], z42, z42)
  unfold unpSt
  simpa using congrArg (·.1) this
theorem good_iff (nums : List Int) (m : Nat) (hm : nums.length = 2 * m + 1) : block_Unpack.good nums = true ↔ ∀ x ∈ nums.drop 1, B2 x := by
  have h2 : nums.length / 2 = m := by omega
  unfold block_Unpack.good
  rw [h2, List.all_eq_true]
  have inb : ∀ x, inB x = true ↔ B2 x := fun x => by unfold inB B2; simp
  constructor
  · intro h x hx
    obtain ⟨i, hi, rfl⟩ := List.mem_iff_getElem.1 hx
    rw [List.getElem_drop]
    have hi' : 1 + i < nums.length := by simp at hi; omega
    have hj := h ⟨i / 2, by omega⟩ (List.mem_finRange _)
    unfold goodAt at hj
    simp only [Bool.and_eq_true] at hj
    have hr : ∀ t : Nat, (ht : t < nums.length) → rd nums (t : Nat) = nums[t] := fun t ht => by simp [rd, List.getD_eq_getElem?_getD, ht]
    rcases Nat.mod_two_eq_zero_or_one i with h0 | h0
    · have := (inb _).1 hj.1
      unfold numA at this
      rw [hr _ (by show 1 + 2 * (i / 2) < _; omega)] at this
      have e : 1 + 2 * (i / 2) = 1 + i := by omega
      simpa only [e] using this
    · have := (inb _).1 hj.2
      unfold numB at this
      rw [hr _ (by show 2 + 2 * (i / 2) < _; omega)] at this
      have e : 2 + 2 * (i / 2) = 1 + i := by omega
      simpa only [e] using this
  · intro h j _
    have hj := j.isLt
    have hr : ∀ t : Nat, (ht : 1 + t < nums.length) → B2 (rd nums ((1 + t : Nat) : Nat)) := fun t ht => by
      have := rd_mem (nums.drop 1) t (by simp; omega)
      have e : rd (nums.drop 1) (t : Nat) = rd nums ((1 + t : Nat) : Nat) := by simp only [rd, Int.toNat_natCast]; simp [List.getD_eq_getElem?_getD, Nat.add_comm]
      rw [← e]
      exact h _ this
    unfold goodAt numA numB
    simp only [Bool.and_eq_true]
    refine ⟨(inb _).2 (hr (2 * j.val) (by omega)), (inb _).2 ?_⟩
    have := hr (2 * j.val + 1) (by omega)
    rwa [show 1 + (2 * j.val + 1) = 2 + 2 * j.val by omega] at this
def RelN (l : List Smp) (i : Nat) (f : Bool) (lt lv st sv : Int) : Prop :=
  (i = 0 → f = true ∧ lt = 0 ∧ lv = 0 ∧ st = 0 ∧ sv = 0) ∧
  (0 < i → f = false ∧ lt = (at_ l (i - 1)).f0 ∧ lv = (at_ l (i - 1)).f1) ∧ (i = 1 → st = 0 ∧ sv = 0) ∧
  (1 < i → st = (at_ l (i - 1)).f0 - (at_ l (i - 2)).f0 ∧ sv = (at_ l (i - 1)).f1 - (at_ l (i - 2)).f1)
theorem RelN.next {l : List Smp} {i : Nat} {f : Bool} {lt lv st sv : Int} (h : RelN l i f lt lv st sv) : RelN l (i + 1) false (at_ l i).f0 (at_ l i).f1 (if f then st else (at_ l i).f0 - lt) (if f then sv else (at_ l i).f1 - lv) := by
  obtain ⟨h0, h1, h2, h3⟩ := h
  refine ⟨fun h => by omega, fun _ => ⟨rfl, rfl, rfl⟩, fun h => ?_, fun h => ?_⟩
  · obtain ⟨rfl, _, _, e1, e2⟩ := h0 (by omega)
    exact ⟨e1, e2⟩
  · obtain ⟨rfl, e1, e2⟩ := h1 (by omega)
    rw [e1, e2]
    exact ⟨rfl, rfl⟩
theorem nums_loop (l : List Smp) (hm : May l) (d : Nat) : ∀ (i : Nat) (f : Bool) (acc : List Int) (lt lv st sv : Int), RelN l i f lt lv st sv → i + d = l.length → acc.length ≤ 1000 + 2 * i →
    (∃ K, ∀ k, K ≤ k → windroseref11_Nums.l0 k l acc i = some ((acc ++ pk f lt lv st sv (l.drop i)))) := by
  have h64 := hm.1
  induction d with
  | zero =>
    intro i f acc lt lv st sv hr hi ha
    refine Ev.succ 0 fun k _ => ?_
    simp only [windroseref11_Nums.l0]
    rw [if_neg (by omega), List.drop_of_length_le (by omega), pk, List.append_nil]
  | succ d ih =>
    intro i f acc lt lv st sv hr hi ha
    have hf := hm.2 i (by omega)
    obtain ⟨f1, f2, f3, f4, _⟩ := hf
    have hrn := hr.next
    obtain ⟨r0, r1, r2, r3⟩ := hr
    have hd : l.drop i = at_ l i :: l.drop (i + 1) := by rw [drop_getD l i z42 (by omega)]; rfl
    have hp1 : 0 < i → (0 ≤ (at_ l (i - 1)).f0 ∧ (at_ l (i - 1)).f0 ≤ 1099511627776 ∧ -1099511627776 ≤ (at_ l (i - 1)).f1 ∧ (at_ l (i - 1)).f1 ≤ 1099511627776) := fun h => by
      obtain ⟨a, b, c, d, _⟩ := hm.2 (i - 1) (by omega); exact ⟨a, b, c, d⟩
    have hp2 : 1 < i → (0 ≤ (at_ l (i - 2)).f0 ∧ (at_ l (i - 2)).f0 ≤ 1099511627776 ∧ -1099511627776 ≤ (at_ l (i - 2)).f1 ∧ (at_ l (i - 2)).f1 ≤ 1099511627776) := fun h => by
      obtain ⟨a, b, c, d, _⟩ := hm.2 (i - 2) (by omega); exact ⟨a, b, c, d⟩
    have c1 : (i : Int) < (l.length : Int) := by omega
    have c2 : (0 : Int) ≤ (i : Int) := Int.natCast_nonneg i
    have hc : ∀ x y : Int, acc.length + [x, y].length < 17592186044416 := fun x y => by
      have : [x, y].length = 2 := rfl
      rw [this]; omega
    have e1 : wrap64 ((i : Int) + 1) = ((i + 1 : Nat) : Int) := by rw [w64] <;> omega
    have hb3 : ∀ x y : Int, (acc ++ [x, y]).length ≤ 1000 + 2 * (i + 1) := fun x y => by rw [List.length_append]; simp only [List.length_cons, List.length_nil]; omega
    obtain ⟨K, hK⟩ := ih (i + 1) false (acc ++ [(at_ l i).f0 - lt - st, (at_ l i).f1 - lv - sv]) _ _ _ _ hrn (by omega) (hb3 _ _)
    refine Ev.succ K fun k hk => ?_
    have hKk := hK k hk
    rw [List.append_assoc] at hKk
    rw [hd, pk]
    simp only [windroseref11_Nums.l0]
    rw [if_pos c1, if_pos c2]
    clear hK hrn ih
    have ea : rd_T42 l i = at_ l i := rfl
    rw [ea]
    generalize at_ l i = s at hKk f1 f2 f3 f4 ⊢
    by_cases g0 : 0 < i
    · have e2 : wrap64 ((i : Int) - 1) = ((i - 1 : Nat) : Int) := by rw [w64] <;> omega
      obtain ⟨b1, b2, b3, b4⟩ := hp1 g0
      obtain ⟨rfl, q1, q2⟩ := r1 g0
      rw [if_pos (show (i : Int) > 0 by omega), e2, if_pos (by omega), if_pos (by omega)]
      have eb : rd_T42 l ((i - 1 : Nat) : Int) = at_ l (i - 1) := rfl
      rw [eb]
      generalize at_ l (i - 1) = p at b1 b2 b3 b4 q1 q2 r3 ⊢
      have v1 : wrap64 (s.f0 - p.f0) = s.f0 - p.f0 := by rw [w64] <;> omega
      have v2 : wrap64 (s.f1 - p.f1) = s.f1 - p.f1 := by rw [w64] <;> omega
      rw [v1, v2]
      by_cases g1 : 1 < i
      · have e3 : wrap64 ((i : Int) - 2) = ((i - 2 : Nat) : Int) := by rw [w64] <;> omega
        obtain ⟨d1, d2, d3, d4⟩ := hp2 g1
        obtain ⟨q3, q4⟩ := r3 g1
        rw [if_pos (show (i : Int) > 1 by omega), e3, if_pos (by omega), if_pos (by omega)]
        have ec : rd_T42 l ((i - 2 : Nat) : Int) = at_ l (i - 2) := rfl
        rw [ec]
        generalize at_ l (i - 2) = r at d1 d2 d3 d4 q3 q4 ⊢
        have v3 : wrap64 (p.f0 - r.f0) = p.f0 - r.f0 := by rw [w64] <;> omega
        have v4 : wrap64 (p.f1 - r.f1) = p.f1 - r.f1 := by rw [w64] <;> omega
        have v5 : wrap64 (s.f0 - p.f0 - (p.f0 - r.f0)) = s.f0 - p.f0 - (p.f0 - r.f0) := by rw [w64] <;> omega
        have v6 : wrap64 (s.f1 - p.f1 - (p.f1 - r.f1)) = s.f1 - p.f1 - (p.f1 - r.f1) := by rw [w64] <;> omega
        rw [v3, v4, v5, v6, Option.bind_some, if_pos (hc _ _), e1]
        rw [q1, q2, q3, q4] at hKk
        rw [q1, q2, q3, q4]
        exact hKk
      · obtain ⟨q3, q4⟩ := r2 (by omega)
        rw [if_neg (show ¬ (i : Int) > 1 by omega), Option.bind_some, if_pos (hc _ _), e1]
        rw [q1, q2, q3, q4, Int.sub_zero, Int.sub_zero] at hKk
        rw [q1, q2, q3, q4, Int.sub_zero, Int.sub_zero]
        exact hKk
    · obtain ⟨rfl, rfl, rfl, rfl, rfl⟩ := r0 (by omega)
      rw [if_neg (show ¬ (i : Int) > 0 by omega), if_neg (show ¬ (i : Int) > 1 by omega), Option.bind_some, if_pos (hc _ _), e1]
      rw [Int.sub_zero, Int.sub_zero, Int.sub_zero, Int.sub_zero] at hKk
      rw [Int.sub_zero, Int.sub_zero, Int.sub_zero, Int.sub_zero]
      exact hKk
theorem Nums_ev (l : List Smp) (hm : May l) : (∃ K, ∀ k, K ≤ k → windroseref11_Nums.f k l = some ((packS l))) := by
  obtain ⟨K, hK⟩ := nums_loop l hm l.length 0 true [(l.length : Int)] 0 0 0 0 ⟨fun _ => ⟨rfl, rfl, rfl, rfl, rfl⟩, fun h => by omega, fun h => by omega, fun h => by omega⟩ (by omega) (by simp)
  exact ⟨K, fun k hk => by unfold windroseref11_Nums.f; exact hK k hk⟩
theorem packS_b (L : List Smp) (h : May L) : ∀ x ∈ (packS L).drop 1, B2 x := by
  have := (fits_ok L h.2).1
  exact pk_b L this true 0 0 0 0 (by omega) (by omega) (by omega) (by omega)
def Dat (nums : List Int) (texts : List ByteArray) : Prop := texts.length = 0 ∧ May (un true 0 0 0 0 (nums.drop 1)) ∧ packS (un true 0 0 0 0 (nums.drop 1)) = nums
noncomputable instance (nums : List Int) (texts : List ByteArray) : Decidable (Dat nums texts) := Classical.propDecidable _
theorem Dat.len {nums : List Int} {texts : List ByteArray} (h : Dat nums texts) : ∃ m, m ≤ 64 ∧ nums.length = 2 * m + 1 ∧ rd nums 0 = (m : Int) ∧ (un true 0 0 0 0 (nums.drop 1)).length = m := by
  obtain ⟨_, h2, h3⟩ := h
  refine ⟨_, h2.1, ?_, ?_, rfl⟩
  · rw [← congrArg List.length h3]; simp [packS, pk_len]
  · generalize un true 0 0 0 0 (nums.drop 1) = L at h3 ⊢
    rw [← h3]; rfl
theorem bw_of_may {L : List Smp} (h : May L) : ∀ s ∈ L, Bw s := fun s hs => by
  obtain ⟨h1, h2, h3, h4⟩ := (fits_ok L h.2).1 s hs
  exact ⟨by omega, h2, h3, h4⟩
theorem prog_ev (nums : List Int) (hn : nums.length ≤ maxLen) (texts : List ByteArray) : (∃ K, ∀ k, K ≤ k → block_Unpack.f k nums texts = some ((if Dat nums texts then (un true 0 0 0 0 (nums.drop 1), (0 : Int)) else ([], 2)))) := by
  have row : ∀ m, nums.length = 2 * m + 1 → block_Unpack.row nums = (urun ([], z42, z42) (nums.drop 1)).1 := fun m hm => by
    unfold block_Unpack.row
    rw [show nums.length / 2 = m by omega]
    exact unpSt_urun nums m hm
  have same : ∀ m, nums.length = 2 * m + 1 → block_Unpack.good nums = true → (May (un true 0 0 0 0 (nums.drop 1)) ∨ May (block_Unpack.row nums)) → block_Unpack.row nums = un true 0 0 0 0 (nums.drop 1) := fun m hm hg h => by
    rw [row m hm] at h ⊢
    have := urun_un m (nums.drop 1) (by simp; omega) ((good_iff nums m hm).1 hg) true [] 0 0 0 0 (by simp) ⟨by simp, by simp, by simp, by simp⟩ (by omega) (by omega) (h.imp bw_of_may bw_of_may)
    exact this
  by_cases hd : Dat nums texts
  · rw [if_pos hd]
    obtain ⟨m, h1, h2, h3, h4⟩ := hd.len
    have hok : block_Unpack.ok nums texts = true := by
      unfold block_Unpack.ok
      simp only [Bool.and_eq_true, decide_eq_true_eq]
      exact ⟨⟨⟨by omega, by rw [h3, show nums.length / 2 = m by omega]⟩, hd.1⟩, by omega⟩
    have hg : block_Unpack.good nums = true := (good_iff nums m h2).2 (by have := packS_b _ hd.2.1; rwa [hd.2.2] at this)
    have hr := same m h2 hg (.inl hd.2.1)
    obtain ⟨K, hK⟩ := check_ev (un true 0 0 0 0 (nums.drop 1))
    refine ⟨K, fun k hk => ?_⟩
    unfold block_Unpack.f
    rw [if_pos hn, if_pos hok, if_pos hg, hr, hK k hk, Option.bind_some, if_pos hd.2.1, if_pos rfl]
  · rw [if_neg hd]
    obtain ⟨K, hK⟩ := check_ev (block_Unpack.row nums)
    refine ⟨K, fun k hk => ?_⟩
    unfold block_Unpack.f
    rw [if_pos hn]
    split
    · rename_i hok
      split
      · rename_i hg
        rw [hK k hk, Option.bind_some]
        by_cases hm : May (block_Unpack.row nums)
        · exfalso
          unfold block_Unpack.ok at hok
          simp only [Bool.and_eq_true, decide_eq_true_eq] at hok
          obtain ⟨⟨⟨o1, o2⟩, o3⟩, o4⟩ := hok
          have hm2 : nums.length = 2 * (nums.length / 2) + 1 := by omega
          have hr := same _ hm2 hg (.inr hm)
          rw [hr] at hm
          refine hd ⟨o3, hm, ?_⟩
          have hl := un_len (nums.length / 2) (nums.drop 1) (by simp; omega) true 0 0 0 0
          unfold packS
          rw [hl, pk_un (nums.length / 2) (nums.drop 1) (by simp; omega), ← o2]
          have := rd_at nums 0 (by omega)
          simpa using this.symm
        · rw [if_neg hm, if_neg (by decide)]
      · rfl
    · rfl
theorem same11_loop (a : List Smp) (hl : a.length ≤ 64) (d : Nat) : ∀ i : Nat, i + d = a.length → (∃ K, ∀ k, K ≤ k → windroseref11_Same.l0 k a a i = some (true)) := by
  induction d with
  | zero =>
    intro i hi
    refine Ev.succ 0 fun k _ => ?_
    simp only [windroseref11_Same.l0]
    rw [if_neg (by omega)]
  | succ d ih =>
    intro i hi
    obtain ⟨K, hK⟩ := ih (i + 1) (by omega)
    refine Ev.succ K fun k hk => ?_
    simp only [windroseref11_Same.l0]
    have e1 : wrap64 ((i : Int) + 1) = ((i + 1 : Nat) : Int) := by rw [w64] <;> omega
    rw [if_pos (by omega), if_pos (by omega), if_pos (by omega), if_neg (by simp), e1]
    exact hK k hk
theorem Same11_ev (a : List Smp) (hl : a.length ≤ 64) : (∃ K, ∀ k, K ≤ k → windroseref11_Same.f k a a = some (true)) := by
  obtain ⟨K, hK⟩ := same11_loop a hl a.length 0 (by omega)
  exact ⟨K, fun k hk => by unfold windroseref11_Same.f; rw [if_pos rfl]; exact hK k hk⟩
end Go.Proofs.Ytlpohipneianjaa.Q
end
section
set_option linter.unusedVariables false
namespace Go.Proofs.Ytlpohipneianjaa.Q
open Go Go.RowKit Go.Proofs.Ytlpohipneianjaa.G Go.Proofs.YtlpohipneianjaaW.PrintWords Go.Proofs.YtlpohipneianjaaW.PrintLast
theorem awake11p_ev : (∃ K, ∀ k, K ≤ k → windroselaw11_awake.f k = some (true)) := by
  have h : windroselaw11_awake.f 12 = some true := by decide +kernel
  exact Ev.of windroselaw11_awake.mono h
theorem BlockPacks : ∀ (l0 : List (S42)), (l0.length ≤ maxLen ∧ ∀ y2 ∈ l0, ok42 y2) → ∃ k, windroselaw11_BlockPacks.f k l0 = some true := by
  intro l ⟨hl, _⟩
  obtain ⟨K1, hA⟩ := awake11p_ev
  by_cases g1 : 200 < l.length
  · exact ⟨K1, by unfold windroselaw11_BlockPacks.f; rw [if_pos (by omega), hA K1 (by omega), Option.bind_some]⟩
  obtain ⟨K2, hP⟩ := Pack_ev l
  obtain ⟨K3, hC⟩ := check_ev l
  obtain ⟨K4, hM⟩ := may_ev l hl
  obtain ⟨K5, hB⟩ := BlockBytes_ev l
  by_cases hm : May l
  · have hpl : (packS l).length = 2 * l.length + 1 := by simp [packS, pk_len]
    have h64 := hm.1
    have hu : un true 0 0 0 0 ((packS l).drop 1) = l := un_pk l true 0 0 0 0
    have hd : Dat (packS l) [] := ⟨rfl, by rw [hu]; exact hm, by rw [hu]⟩
    obtain ⟨K6, hN⟩ := Nums_ev l hm
    obtain ⟨K7, hU⟩ := prog_ev (packS l) (by unfold maxLen; omega) []
    obtain ⟨K8, hS⟩ := Same02_ev (packS l) [] (packS l) [] (by omega) (by simp)
    obtain ⟨K9, hY⟩ := Bytes_small (packS l) [] (packS_held l hm) (packS_small l hm)
    obtain ⟨K10, hT⟩ := Same11_ev l h64
    rw [if_pos hd, hu] at hU
    rw [if_pos hm] at hP hC hB
    rw [decide_eq_true hm] at hM
    refine ⟨K1 + K2 + K3 + K4 + K5 + K6 + K7 + K8 + K9 + K10, ?_⟩
    unfold windroselaw11_BlockPacks.f
    rw [if_neg (by omega), hP _ (by omega), Option.bind_some, hC _ (by omega), Option.bind_some, hM _ (by omega), Option.bind_some, if_neg (by decide), Option.bind_some, if_pos rfl, hN _ (by omega), Option.bind_some]
    simp only
    rw [hU _ (by omega), Option.bind_some, if_pos trivial, hS _ (by omega), Option.bind_some]
    rw [if_pos (by simp), hB _ (by omega), Option.bind_some, hY _ (by omega), Option.bind_some, if_pos rfl]
    simp only
    rw [if_pos trivial, hT _ (by omega), Option.bind_some, if_pos rfl, hA _ (by omega), Option.bind_some]
  · obtain ⟨K8, hS⟩ := Same02_ev [] [] [] [] (by simp) (by simp)
    rw [if_neg hm] at hP hC hB
    rw [decide_eq_false hm] at hM
    refine ⟨K1 + K2 + K3 + K4 + K5 + K8, ?_⟩
    unfold windroselaw11_BlockPacks.f
    rw [if_neg (by omega), hP _ (by omega), Option.bind_some, hC _ (by omega), Option.bind_some, hM _ (by omega), Option.bind_some, if_neg (by decide), Option.bind_some, if_neg (by simp)]
    simp only
    rw [if_pos trivial, hS _ (by omega), Option.bind_some, if_pos (by simp), hB _ (by omega), Option.bind_some, if_pos rfl, hA _ (by omega), Option.bind_some]
end Go.Proofs.Ytlpohipneianjaa.Q
end
section
namespace Go.Proofs.Ytlpohipneianjaa.blockPacks
open Go.ChangeShapes Go.WideShapes Go.ChangeAt Go.RowKit Go.Proofs.YtlpohipneianjaaX Go.Proofs.Ytlpohipneianjaa.G
open Go.ChangeMaps (open_string shut_string)
set_option linter.unusedVariables false
set_option linter.unusedSimpArgs false
theorem own : ownKnob Try.prog.godebug = none := by kernel_rfl
theorem laidOut : laidOutB Try.prog = true := by kernel_rfl
set_option maxRecDepth 100000 in
theorem lifted (os : Os) (started : os.Started) (H : Type) (enc : TypeId × Value → H) :
    ReturnsInHanded {} Try.checked os 8 .any (Rows.blockPacksSpec.pre6 enc Try.prog Try.f8 Rows.blockPacksRow.domain false) (Rows.blockPacksSpec.post enc Try.prog Try.f8 false true false false) := by
  refine returnsInHanded_of_change_sized (C := Try.checked) own started (by kernel_rfl) Try.func8
    (ChangeSpec.witness6 (enc := enc) (C := Try.checked) false ⟨#[], #[.slice none 0 0], []⟩ 8 (by kernel_rfl) (by kernel_rfl) (by kernel_rfl) (by kernel_rfl)) ?_
  intro W base args ds gs before hval0 hW hcnd hsz0 _
  have hval : ∀ (j : Nat) t v, Try.f8.params[j]? = some t → args[j]? = some v → Value.okWide Try.prog W .any base t v := hval0
  have hW' := hW
  obtain ⟨p, q, hA0, hV, rfl, hfz, hnd⟩ := hW
  have hA : DataW.TrodAll enc Try.prog W 0 (fun _ => true) true Try.f8.params.toList args.toList ds p := hA0
  rw [Try.params8] at hA hval
  obtain ⟨v0, vs0, d0, ds0, p0, q0, hargs, rfl, rfl, h0, r0⟩ := trodAll_cons hA
  obtain ⟨rfl, rfl, rfl⟩ := trodAll_nil r0
  obtain rfl : args = #[v0] := by cases args; simp_all
  obtain ⟨rfl, rfl⟩ := trodVars_none hV
  have k0 := h0
  have lt0 : ∀ x ∈ p0, x.block < W.heap.size := by obtain ⟨m, hm⟩ := k0; exact DataW.trod_lt m _ _ _ hm
  obtain ⟨u0, len0, cap0, rfl⟩ := okWide_slice Try.underlying30 (hval 0 30 v0 rfl rfl)
  obtain ⟨fuel0, hf0⟩ := h0
  obtain ⟨l0, ⟨A0, c0, e0, hc0, hr0⟩, w0⟩ := (Rd.slice Try.underlying30 (by kernel_rfl) rd42) enc W _ _ _ fuel0 _ _ hf0
  simp [Value.cells] at e0
  obtain ⟨rfl, rfl, rfl⟩ := e0
  clear hA0 hval0 hsz0
  obtain ⟨k, h⟩ := Q.BlockPacks l0 w0
  refine (windroselaw11_BlockPacks.calls k u0 cap0 l0 true W hr0 hc0 h).mono fun e W' ⟨he, bel⟩ => ?_
  subst he
  exact ⟨_, rfl, _, _, _, [], _, [], hW', trodAll_mk1 (shut_bool Try.underlying4 _), (trodAll_cons_mk (Below.trod laidOut (by kernel_rfl) (of_decide_eq_true (by kernel_rfl)) k0 bel lt0) trodAll_mk0), rfl, bel.frame _, fun h => by cases h⟩
theorem over : Rows.blockPacksRow.holds Try.pinned (OpenSpec.ofChange Rows.blockPacksSpec) :=
  OpenClaim.holds_of_wide 8 Try.f8 rfl rfl rfl rfl rfl rfl rfl ⟨rfl, rfl, rfl, rfl, rfl⟩ rfl rfl rfl rfl rfl (by kernel_rfl) Try.func8 (by kernel_rfl)
    (of_decide_eq_true (by kernel_rfl)) (by unfold Func.isWrapper; first | (rw [if_pos (by decide +kernel)]; kernel_rfl) | (rw [if_neg (by decide +kernel)]; exact ⟨rfl, rfl⟩))
    (fun os started H enc _ => lifted os started H enc)
theorem proved : Rows.BlockPacksSaid := over
#print axioms proved
end Go.Proofs.Ytlpohipneianjaa.blockPacks
namespace Go.Proofs.Ytlpohipneianjaa
theorem blockPacks_holds : Rows.BlockPacksSaid := blockPacks.proved
end Go.Proofs.Ytlpohipneianjaa
end
