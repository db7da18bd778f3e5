/- The rolls of samples, by the code's way (one pushed behind the other) and by the reference's (span by span): the same. No condition. -/
import Derived.Test.YthmjfoikkfoelaaG3
import Derived.Test.YthmjfoikkfoelaaG4
import Derived.Test.YthmjfoikkfoelaaG5
import Derived.Test.YthmjfoikkfoelaaG6
import Derived.Test.YthmjfoikkfoelaaG7
import Derived.Test.YthmjfoikkfoelaaG8
import Derived.Test.YthmjfoikkfoelaaPSamp
set_option linter.unusedVariables false
namespace Go.Proofs.Ythmjfoikkfoelaa.Q
open Go Go.RowKit Go.Proofs.Ythmjfoikkfoelaa.G Go.Proofs.YthmjfoikkfoelaaW.PrintWords Go.Proofs.YthmjfoikkfoelaaW.PrintLast

abbrev Rol := S43
def both (a b : Rol) : Rol := ⟨a.f0, wrap64 (a.f1 + b.f1), wrap64 (a.f2 + b.f2), mn a.f3 b.f3, mx a.f4 b.f4, b.f5⟩
def push (l : List Rol) (r : Rol) : List Rol :=
  match l.getLast? with
  | none => [r]
  | some x => if x.f0 = r.f0 then l.dropLast ++ [both x r] else l ++ [r]

theorem push_nil (r : Rol) : push [] r = [r] := rfl
theorem push_snoc (l : List Rol) (x r : Rol) : push (l ++ [x]) r = if x.f0 = r.f0 then l ++ [both x r] else l ++ [x] ++ [r] := by
  simp [push]

theorem push_ev (l : List Rol) (r : Rol) (hl : l.length < 2932031007402) : compact_push.f l r.f0 r.f1 r.f2 r.f3 r.f4 r.f5 = some (push l r) := by
  unfold compact_push.f
  rcases List.eq_nil_or_concat l with rfl | ⟨m, x, rfl⟩
  · have e : wrap64 ((([] : List Rol).length : Int) - 1) = -1 := by simp only [List.length_nil]; rw [w64] <;> omega
    rw [e, if_neg (by omega), if_pos (by simp)]
    rfl
  · have hm : (m.concat x).length = m.length + 1 := by simp
    have e : wrap64 (((m.concat x).length : Int) - 1) = (m.length : Int) := by rw [hm, w64] <;> omega
    have er : rd_T43 (m.concat x) (m.length : Int) = x := by simp [rd_T43]
    rw [e, if_pos (by omega), if_pos (by omega), if_pos (by omega), er, List.concat_eq_append, push_snoc]
    by_cases h : x.f0 = r.f0
    · rw [if_pos h, if_pos h]
      simp [compact_both.f, both]
    · rw [if_neg h, if_neg h, if_pos (by simp at hl ⊢; omega)]

def single (w : Int) (s : Smp) : Rol := ⟨wrap64 (s.f0 - Int.tmod s.f0 w), 1, s.f1, s.f1, s.f1, s.f1⟩
def rolls (w : Int) (acc : List Rol) (l : List Smp) : List Rol := l.foldl (fun o s => push o (single w s)) acc

theorem push_length (l : List Rol) (r : Rol) : (push l r).length ≤ l.length + 1 := by
  rcases List.eq_nil_or_concat l with rfl | ⟨m, x, rfl⟩
  · simp [push]
  · rw [List.concat_eq_append, push_snoc]
    split <;> simp

theorem rolls_loop (w : Int) (hw : w ≠ 0) (l : List Smp) (hl : l.length ≤ 64) (d : Nat) : ∀ (i : Nat) (acc : List Rol), i + d = l.length → acc.length ≤ i → (∃ K, ∀ k, K ≤ k → compact_Rolls.l0 k w acc l (l.length : Int) i = some ((rolls w acc (l.drop i), 0))) := by
  induction d with
  | zero =>
    intro i acc hi ha
    refine Ev.succ 0 fun k _ => ?_
    simp only [compact_Rolls.l0]
    rw [if_neg (by omega), List.drop_of_length_le (by omega)]
    rfl
  | succ d ih =>
    intro i acc hi ha
    have hp := push_length acc (single w (rd_T41 l i))
    obtain ⟨K, hK⟩ := ih (i + 1) (push acc (single w (rd_T41 l i))) (by omega) (by omega)
    refine Ev.succ K fun k hk => ?_
    simp only [compact_Rolls.l0]
    have e1 : wrap64 ((i : Int) + 1) = ((i + 1 : Nat) : Int) := by rw [w64] <;> omega
    have e2 : compact_push.f acc (wrap64 ((rd_T41 l i).f0 - Int.tmod (rd_T41 l i).f0 w)) 1 (rd_T41 l i).f1 (rd_T41 l i).f1 (rd_T41 l i).f1 (rd_T41 l i).f1 = some (push acc (single w (rd_T41 l i))) :=
      push_ev acc (single w (rd_T41 l i)) (by omega)
    rw [if_pos (by omega), if_pos (by omega), if_pos (by omega), if_neg hw, e2, Option.bind_some, e1, hK k hk]
    rw [drop_getD l i z41 (by omega)]
    rfl

theorem in_ev (a b c : Int) : compact_in.f a b c = some (decide (b ≤ a ∧ a ≤ c)) := by
  unfold compact_in.f
  by_cases h : a ≥ b
  · rw [if_pos h]
    congr 1
    rw [decide_eq_decide]
    omega
  · rw [if_neg h, decide_eq_false (by omega)]

/-- What compact.Rolls answers. -/
theorem rolls_ev (l : List Smp) (w : Int) : (∃ K, ∀ k, K ≤ k → compact_Rolls.f k l w = some ((if May l ∧ 1 ≤ w ∧ w ≤ 1048576 then (rolls w [] l, 0) else ([], 1)))) := by
  obtain ⟨K, hK⟩ := check_ev l
  by_cases hm : May l
  · rw [if_pos hm] at hK
    by_cases hw : 1 ≤ w ∧ w ≤ 1048576
    · obtain ⟨K2, hK2⟩ := rolls_loop w (by omega) l hm.1 l.length 0 [] (by omega) (by simp)
      rw [if_pos ⟨hm, hw⟩]
      refine Ev.mk (K + K2 + 1) fun k hk => ?_
      unfold compact_Rolls.f
      obtain ⟨m, rfl⟩ : ∃ m, k = m + 1 := ⟨k - 1, by omega⟩
      rw [hK (m + 1) (by omega)]
      simp only [Option.bind_some, if_true, in_ev, decide_eq_true hw, compact_Rolls.j0, Bool.not_true]
      exact hK2 m (by omega)
    · rw [if_neg (fun h => hw h.2)]
      refine Ev.mk (K + 1) fun k hk => ?_
      unfold compact_Rolls.f
      obtain ⟨m, rfl⟩ : ∃ m, k = m + 1 := ⟨k - 1, by omega⟩
      rw [hK (m + 1) (by omega)]
      simp only [Option.bind_some, if_true, in_ev, decide_eq_false hw, compact_Rolls.j0, Bool.not_false]
  · rw [if_neg hm] at hK
    rw [if_neg (fun h => hm h.1)]
    refine Ev.mk (K + 1) fun k hk => ?_
    unfold compact_Rolls.f
    obtain ⟨m, rfl⟩ : ∃ m, k = m + 1 := ⟨k - 1, by omega⟩
    rw [hK (m + 1) (by omega)]
    simp only [Option.bind_some, compact_Rolls.j0]
    rfl

/-! ### the reference's -/
def rstep (r : Rol) (s : Smp) : Rol := ⟨r.f0, r.f1, wrap64 (r.f2 + s.f1), if s.f1 < r.f3 then s.f1 else r.f3, if s.f1 > r.f4 then s.f1 else r.f4, s.f1⟩
def tup (r : Rol) : Int × Int × Int × Int × Int × Int := (r.f0, r.f1, r.f2, r.f3, r.f4, r.f5)

theorem roll_loop (l : List Smp) (hl : l.length ≤ 64) (d : Nat) : ∀ (i : Nat) (r : Rol), i + d = l.length → (∃ K, ∀ k, K ≤ k → windroseref22_roll.l0 k l i r.f0 r.f1 r.f2 r.f3 r.f4 r.f5 = some ((tup ((l.drop i).foldl rstep r)))) := by
  induction d with
  | zero =>
    intro i r hi
    refine Ev.succ 0 fun k _ => ?_
    simp only [windroseref22_roll.l0]
    rw [if_neg (by omega), List.drop_of_length_le (by omega)]
    rfl
  | succ d ih =>
    intro i r hi
    obtain ⟨K, hK⟩ := ih (i + 1) (rstep r (rd_T41 l i)) (by omega)
    refine Ev.succ K fun k hk => ?_
    simp only [windroseref22_roll.l0]
    have e1 : wrap64 ((i : Int) + 1) = ((i + 1 : Nat) : Int) := by rw [w64] <;> omega
    have hK' := hK k hk
    rw [drop_getD l i z41 (by omega), List.foldl_cons]
    simp only [rstep] at hK'
    rw [if_pos (by omega), if_pos (by omega), e1]
    show _ = some (tup (List.foldl rstep (rstep r (rd_T41 l i)) (l.drop (i + 1))))
    simp only [rstep]
    split <;> split <;> simp_all

def rollOf (t : Int) : List Smp → Rol
  | [] => ⟨t, 0, 0, 0, 0, 0⟩
  | s :: q => (s :: q).foldl rstep ⟨t, ((s :: q).length : Int), 0, s.f1, s.f1, 0⟩

theorem roll_ev (l : List Smp) (t : Int) (hl : l.length ≤ 64) (h0 : l ≠ []) : (∃ K, ∀ k, K ≤ k → windroseref22_roll.f k l t = some ((tup (rollOf t l)))) := by
  cases l with
  | nil => exact absurd rfl h0
  | cons s q =>
    obtain ⟨K, hK⟩ := roll_loop (s :: q) hl (s :: q).length 0 ⟨t, ((s :: q).length : Int), 0, s.f1, s.f1, 0⟩ (by omega)
    refine Ev.mk K fun k hk => ?_
    unfold windroseref22_roll.f
    rw [if_pos (by simp only [List.length_cons]; omega)]
    exact hK k hk

/-- A run of samples of one span, pushed one behind the other, is the roll of them all. -/
theorem run_both (w t : Int) (out : List Rol) (q : List Smp) : ∀ x : Rol, x.f0 = t → (∀ s ∈ q, (single w s).f0 = t) → rolls w (out ++ [x]) q = out ++ [q.foldl (fun x s => both x (single w s)) x] := by
  induction q with
  | nil => intro x _ _; rfl
  | cons s q ih =>
    intro x hx hq
    have hs := hq s (by simp)
    show rolls w (push (out ++ [x]) (single w s)) q = _
    rw [push_snoc, if_pos (by rw [hx, hs])]
    exact ih _ hx (fun s' h' => hq s' (by simp [h']))

theorem run_rstep (w t : Int) (q : List Smp) : ∀ (c n a b d e : Int), 0 ≤ c → c + q.length = n → n ≤ 64 → q.foldl (fun x s => both x (single w s)) ⟨t, c, a, b, d, e⟩ = q.foldl rstep ⟨t, n, a, b, d, e⟩ := by
  induction q with
  | nil => intro c n a b d e hc h hn; simp at h; subst h; rfl
  | cons s q ih =>
    intro c n a b d e hc h hn
    simp only [List.foldl_cons, List.length_cons] at h ⊢
    have e1 : both ⟨t, c, a, b, d, e⟩ (single w s) = ⟨t, c + 1, wrap64 (a + s.f1), if s.f1 < b then s.f1 else b, if s.f1 > d then s.f1 else d, s.f1⟩ := by
      have h1 : wrap64 (c + 1) = c + 1 := by rw [w64] <;> omega
      have h2 : mn b s.f1 = if s.f1 < b then s.f1 else b := by unfold mn; split <;> rfl
      have h3 : mx d s.f1 = if s.f1 > d then s.f1 else d := by unfold mx; split <;> rfl
      simp only [both, single, h1, h2, h3]
    rw [e1]
    exact ih (c + 1) n (wrap64 (a + s.f1)) (if s.f1 < b then s.f1 else b) (if s.f1 > d then s.f1 else d) s.f1 (by omega) (by omega) hn

theorem run_all (w t : Int) (out : List Rol) (s : Smp) (q : List Smp) (hq : q.length < 64) (hw : -9223372036854775808 ≤ s.f1 ∧ s.f1 ≤ 9223372036854775807) (ht : ∀ s' ∈ s :: q, (single w s').f0 = t) (hl : ∀ x, out.getLast? = some x → x.f0 ≠ t) :
    rolls w out (s :: q) = out ++ [rollOf t (s :: q)] := by
  have hs := ht s (by simp)
  have e : push out (single w s) = out ++ [single w s] := by
    rcases List.eq_nil_or_concat out with rfl | ⟨m, x, rfl⟩
    · rfl
    · rw [List.concat_eq_append, push_snoc, if_neg (by rw [hs]; exact hl x (by simp))]
  show rolls w (push out (single w s)) q = _
  rw [e, run_both w t out q _ hs (fun s' h' => ht s' (by simp [h']))]
  congr 2
  have e2 : single w s = ⟨t, 1, s.f1, s.f1, s.f1, s.f1⟩ := by
    have : (single w s).f0 = t := hs
    simp only [single] at this ⊢
    rw [this]
  rw [e2, run_rstep w t q 1 ((q.length : Int) + 1) _ _ _ _ (by omega) (by omega) (by omega)]
  show _ = List.foldl rstep (rstep ⟨t, _, 0, s.f1, s.f1, 0⟩ s) q
  congr 1
  simp only [rstep]
  rw [Int.zero_add, w64 hw.1 hw.2]
  simp

/-! ### samples that may be, as a list -/
def Bd (s : Smp) : Prop := 0 ≤ s.f0 ∧ s.f0 ≤ 1099511627776 ∧ -1099511627776 ≤ s.f1 ∧ s.f1 ≤ 1099511627776
def Ok (l : List Smp) : Prop := (∀ s ∈ l, Bd s) ∧ l.Pairwise (fun a b => a.f0 < b.f0)

theorem at_cons0 (s : Smp) (l : List Smp) : at_ (s :: l) 0 = s := rfl
theorem at_cons1 (s c : Smp) (l : List Smp) : at_ (s :: c :: l) 1 = c := rfl

theorem may_ok (l : List Smp) : May l → Ok l := by
  induction l with
  | nil => intro _; exact ⟨fun s h => by simp at h, List.Pairwise.nil⟩
  | cons s l ih =>
    intro h
    obtain ⟨h1, h2⟩ := ih (may_tail h)
    have f0 := h.2 0 (by simp)
    have b0 : Bd s := ⟨f0.1, f0.2.1, f0.2.2.1, f0.2.2.2.1⟩
    refine ⟨fun x hx => ?_, ?_⟩
    · rcases List.mem_cons.1 hx with rfl | hx
      · exact b0
      · exact h1 x hx
    · refine List.pairwise_cons.2 ⟨fun b hb => ?_, h2⟩
      cases l with
      | nil => simp at hb
      | cons c l =>
        have f1 := (h.2 1 (by simp)).2.2.2.2 (by omega)
        rw [at_cons1] at f1
        have f1' : s.f0 < c.f0 := f1
        rcases List.mem_cons.1 hb with rfl | hb
        · exact f1'
        · exact Int.lt_trans f1' ((List.pairwise_cons.1 h2).1 b hb)

theorem Ok.of_append {a b : List Smp} (h : Ok (a ++ b)) : Ok b := ⟨fun s hs => h.1 s (by simp [hs]), (List.pairwise_append.1 h.2).2.1⟩

/-! ### spans -/
theorem key_in {w t T0 T : Int} (hw : 1 ≤ w) (ht : t = T0 / w * w) (h1 : t ≤ T) (h2 : T < t + w) : T - T % w = t := by
  have e : T % w = T - t := by
    have : T = (T - t) + T0 / w * w := by rw [ht]; omega
    rw [this, Int.add_mul_emod_self_right, Int.emod_eq_of_lt (by omega) (by omega)]
    omega
  omega
theorem key_over {w t T : Int} (hw : 1 ≤ w) (h : t + w ≤ T) : t < T - T % w := by
  have := Int.emod_lt_of_pos T (show 0 < w by omega)
  omega
theorem single_key {w : Int} (hw : 1 ≤ w) {s : Smp} (h : Bd s) : (single w s).f0 = s.f0 - s.f0 % w := by
  obtain ⟨h1, h2, _, _⟩ := h
  have a := Int.emod_nonneg s.f0 (show w ≠ 0 by omega)
  have b := Int.mul_ediv_add_emod s.f0 w
  have c := Int.mul_nonneg (show 0 ≤ w by omega) (Int.ediv_nonneg h1 (show 0 ≤ w by omega))
  simp only [single]
  rw [tmod_nn h1, w64] <;> omega

theorem span_start {w T : Int} (hw : 1 ≤ w) (h0 : 0 ≤ T) (h1 : T ≤ 1099511627776) : wrap64 (wrap64 (Int.tdiv T w) * w) = T / w * w ∧ 0 ≤ T / w * w ∧ T / w * w ≤ T ∧ T < T / w * w + w := by
  have e := Int.mul_ediv_add_emod T w
  rw [Int.mul_comm] at e
  have a := Int.emod_nonneg T (show w ≠ 0 by omega)
  have b := Int.emod_lt_of_pos T (show 0 < w by omega)
  have c : 0 ≤ T / w := Int.ediv_nonneg h0 (by omega)
  have d : T / w ≤ T := Int.ediv_le_self w h0
  have f : 0 ≤ T / w * w := Int.mul_nonneg c (by omega)
  rw [tdiv_nn h0, show wrap64 (T / w) = T / w from w64 (by omega) (by omega), w64 (by omega) (by omega)]
  exact ⟨rfl, f, by omega, by omega⟩

theorem rolls_append (w : Int) (acc : List Rol) (a b : List Smp) : rolls w acc (a ++ b) = rolls w (rolls w acc a) b := List.foldl_append

theorem span_loop (w : Int) (x : List Smp) (acc : List Rol) (t : Int) (n : Nat) (r : List Rol) (hx : x.length ≤ 64) (hn : n ≤ x.length) (ht : 0 ≤ t ∧ t ≤ 1099511627776 ∧ 1 ≤ w ∧ w ≤ 1048576) (hlt : ∀ j : Nat, j < n → (rd_T41 x j).f0 < t + w)
    (h : (∃ K, ∀ k, K ≤ k → windroseref22_Rolls.l1 k x w acc t n = some (r))) (d : Nat) : ∀ i : Nat, i + d = n → (∃ K, ∀ k, K ≤ k → windroseref22_Rolls.l1 k x w acc t i = some (r)) := by
  induction d with
  | zero => intro i hi; obtain rfl : i = n := by omega
            exact h
  | succ d ih =>
    intro i hi
    obtain ⟨K, hK⟩ := ih (i + 1) (by omega)
    refine Ev.succ K fun k hk => ?_
    simp only [windroseref22_Rolls.l1]
    have e1 : wrap64 ((i : Int) + 1) = ((i + 1 : Nat) : Int) := by rw [w64] <;> omega
    have e2 : wrap64 (t + w) = t + w := by rw [w64] <;> omega
    have := hlt i (by omega)
    rw [if_pos (by omega), if_pos (by omega), e2, if_pos (by omega), e1]
    exact hK k hk

theorem ref_rolls (w : Int) (hw : 1 ≤ w ∧ w ≤ 1048576) (n : Nat) : ∀ (x : List Smp) (acc : List Rol), x.length ≤ n → x.length ≤ 64 → acc.length + x.length ≤ 64 → Ok x →
    (∀ r, acc.getLast? = some r → ∀ s ∈ x, r.f0 < (single w s).f0) → (∃ K, ∀ k, K ≤ k → windroseref22_Rolls.l0 k x w acc = some (rolls w acc x)) := by
  induction n with
  | zero =>
    intro x acc h1 _ _ _ _
    obtain rfl : x = [] := List.eq_nil_of_length_eq_zero (by omega)
    refine Ev.succ 0 fun k _ => ?_
    simp only [windroseref22_Rolls.l0]
    rw [if_neg (by simp)]
    rfl
  | succ n ih =>
    intro x acc h1 h64 hacc hok hlast
    cases x with
    | nil =>
      refine Ev.succ 0 fun k _ => ?_
      simp only [windroseref22_Rolls.l0]
      rw [if_neg (by simp)]
      rfl
    | cons s q =>
      have hbs := hok.1 s (by simp)
      obtain ⟨e0, t0, t1, t2⟩ := span_start hw.1 hbs.1 hbs.2.1
      generalize ht : s.f0 / w * w = t at e0 t0 t1 t2
      have hp : ∃ p rest, s :: q = (s :: p) ++ rest ∧ (∀ z ∈ s :: p, z.f0 < t + w) ∧ (∀ z, rest.head? = some z → t + w ≤ z.f0) := by
        refine ⟨q.takeWhile (fun z => decide (z.f0 < t + w)), q.dropWhile (fun z => decide (z.f0 < t + w)), by simp [List.takeWhile_append_dropWhile], fun z hz => ?_, fun z hz => ?_⟩
        · rcases List.mem_cons.1 hz with rfl | hz
          · exact t2
          · have := List.all_eq_true.1 (List.all_takeWhile (p := fun z : Smp => decide (z.f0 < t + w)) (l := q)) z hz
            simpa using this
        · have := List.head?_dropWhile_not (fun z : Smp => decide (z.f0 < t + w)) q
          rw [hz] at this
          simp at this
          omega
      obtain ⟨p, rest, hsq, hpl, hrest⟩ := hp
      rw [hsq] at h1 h64 hacc hok hlast ⊢
      have hpw := List.pairwise_append.1 hok.2
      have hlenp : (s :: p ++ rest).length = (s :: p).length + rest.length := by simp only [List.length_append]
      have hrk : ∀ z ∈ rest, t + w ≤ z.f0 := by
        intro z hz
        cases rest with
        | nil => simp at hz
        | cons y rest =>
          have hy := hrest y rfl
          rcases List.mem_cons.1 hz with rfl | hz
          · exact hy
          · have := (List.pairwise_cons.1 hpw.2.1).1 z hz
            omega
      have hkp : ∀ z ∈ s :: p, (single w z).f0 = t := by
        intro z hz
        rw [single_key hw.1 (hok.1 z (by simp at hz ⊢; rcases hz with h | h <;> simp [h]))]
        refine key_in hw.1 ht.symm ?_ (hpl z hz)
        rcases List.mem_cons.1 hz with rfl | hz
        · exact t1
        · have := (List.pairwise_cons.1 hpw.1).1 z hz
          omega
      have hkr : ∀ z ∈ rest, t < (single w z).f0 := by
        intro z hz
        rw [single_key hw.1 (hok.1 z (by simp [hz]))]
        exact key_over hw.1 (hrk z hz)
      have hall : rolls w acc (s :: p) = acc ++ [rollOf t (s :: p)] := by
        refine run_all w t acc s p (by simp at h64; omega) ⟨by have := hbs.2.2.1; omega, by have := hbs.2.2.2; omega⟩ hkp (fun r hr => ?_)
        have := hlast r hr s (by simp)
        rw [hkp s (by simp)] at this
        omega
      obtain ⟨K1, hK1⟩ := roll_ev (s :: p) t (by omega) (by simp)
      obtain ⟨K2, hK2⟩ := ih rest (acc ++ [rollOf t (s :: p)]) (by simp at h1 ⊢; omega) (by omega) (by simp at hacc ⊢; omega) hok.of_append (by
        intro r hr z hz
        simp at hr
        subst hr
        have e : ∀ (l : List Smp) (r : Rol), (l.foldl rstep r).f0 = r.f0 := by
          intro l
          induction l with
          | nil => intro r; rfl
          | cons a l ih => intro r; rw [List.foldl_cons, ih]; rfl
        have : (rollOf t (s :: p)).f0 = t := by simp only [rollOf]; rw [e]
        rw [this]
        exact hkr z hz)
      have hl1 : (∃ K, ∀ k, K ≤ k → windroseref22_Rolls.l1 k (s :: p ++ rest) w acc t ((s :: p).length : Nat) = some (rolls w (acc ++ [rollOf t (s :: p)]) rest)) := by
        refine Ev.succ (K1 + K2) fun k hk => ?_
        have ht : ((s :: p ++ rest).take (((s :: p).length : Nat) : Int).toNat) = s :: p := by
          rw [Int.toNat_natCast, List.take_left]
        have hd : ((s :: p ++ rest).drop (((s :: p).length : Nat) : Int).toNat) = rest := by
          rw [Int.toNat_natCast, List.drop_left]
        have e2 : wrap64 (t + w) = t + w := by have := hbs.2.1; rw [w64] <;> omega
        simp only [windroseref22_Rolls.l1, ht, hd]
        have hk1 := hK1 k (by omega)
        have hk2 := hK2 k (by omega)
        by_cases hr : ((((s :: p).length : Nat) : Int) < ((s :: p ++ rest).length : Int))
        · rw [if_pos hr, if_pos (by omega)]
          have hz : (rd_T41 (s :: p ++ rest) (((s :: p).length : Nat) : Int)).f0 ≥ t + w := by
            cases rest with
            | nil => simp at hr
            | cons y rest =>
              have : rd_T41 (s :: p ++ y :: rest) (((s :: p).length : Nat) : Int) = y := by
                simp only [rd_T41, Int.toNat_natCast]
                rw [List.getD_eq_getElem?_getD, List.getElem?_append_right (Nat.le_refl _)]
                simp
              rw [this]
              exact hrest y rfl
          rw [e2, if_neg (by omega), if_pos (by omega), hk1]
          simp only [Option.bind_some, tup]
          rw [if_pos (by omega)]
          exact hk2
        · rw [if_neg hr, if_pos (by omega), if_pos (by omega), hk1]
          simp only [Option.bind_some, tup]
          rw [if_pos (by omega)]
          exact hk2
      have hsp := span_loop w (s :: p ++ rest) acc t (s :: p).length _ h64 (by omega) ⟨t0, by have := hbs.2.1; omega, hw⟩ (by
        intro j hj
        have : rd_T41 (s :: p ++ rest) (j : Int) ∈ s :: p := by
          simp only [rd_T41, Int.toNat_natCast]
          rw [List.getD_eq_getElem?_getD, List.getElem?_append_left hj, List.getElem?_eq_getElem hj]
          exact List.getElem_mem hj
        exact hpl _ this) hl1 (s :: p).length 0 (by omega)
      obtain ⟨K3, hK3⟩ := hsp
      rw [rolls_append, hall]
      refine Ev.succ K3 fun k hk => ?_
      simp only [windroseref22_Rolls.l0]
      have hpos : 0 < (s :: p ++ rest).length := by simp
      rw [if_pos (by omega), if_pos (by omega), if_neg (by omega)]
      have e3 : rd_T41 (s :: p ++ rest) 0 = s := rfl
      rw [e3, e0]
      exact hK3 k hk

theorem ref_rolls_ev (w : Int) (hw : 1 ≤ w ∧ w ≤ 1048576) (l : List Smp) (h : May l) : (∃ K, ∀ k, K ≤ k → windroseref22_Rolls.f k l w = some (rolls w [] l)) :=
  ref_rolls w hw l.length l [] (Nat.le_refl _) h.1 (by have := h.1; simp; omega) (may_ok l h) (fun r hr => by simp at hr)

theorem same_rolls_loop (a : List Rol) (hl : a.length ≤ maxLen) (d : Nat) : ∀ i : Nat, i + d = a.length → (∃ K, ∀ k, K ≤ k → windroseref22_SameRolls.l0 k a a i = some (true)) := by
  unfold maxLen at hl
  induction d with
  | zero =>
    intro i hi
    refine Ev.succ 0 fun k _ => ?_
    simp only [windroseref22_SameRolls.l0]
    rw [if_neg (by omega)]
  | succ d ih =>
    intro i hi
    obtain ⟨K, hK⟩ := ih (i + 1) (by omega)
    refine Ev.succ K fun k hk => ?_
    simp only [windroseref22_SameRolls.l0]
    have e1 : wrap64 ((i : Int) + 1) = ((i + 1 : Nat) : Int) := by rw [w64] <;> omega
    rw [if_pos (by omega), if_pos (by omega), if_pos (by omega), if_neg (by simp), e1]
    exact hK k hk
theorem same_rolls_ev (a : List Rol) (hl : a.length ≤ maxLen) : (∃ K, ∀ k, K ≤ k → windroseref22_SameRolls.f k a a = some (true)) := by
  obtain ⟨K, hK⟩ := same_rolls_loop a hl a.length 0 (by omega)
  refine Ev.mk K fun k hk => ?_
  unfold windroseref22_SameRolls.f
  rw [if_pos rfl]
  exact hK k hk
theorem rolls_length (w : Int) (l : List Smp) : ∀ acc, (rolls w acc l).length ≤ acc.length + l.length := by
  induction l with
  | nil => intro acc; simp [rolls]
  | cons s l ih =>
    intro acc
    have := ih (push acc (single w s))
    have h2 := push_length acc (single w s)
    show (rolls w (push acc (single w s)) l).length ≤ _
    simp only [List.length_cons]
    omega

theorem awake22_ev : (∃ K, ∀ k, K ≤ k → windroselaw22_awake.f k = some (true)) := by
  have h : windroselaw22_awake.f 12 = some true := by decide +kernel
  exact Ev.of windroselaw22_awake.mono h
end Go.Proofs.Ythmjfoikkfoelaa.Q
