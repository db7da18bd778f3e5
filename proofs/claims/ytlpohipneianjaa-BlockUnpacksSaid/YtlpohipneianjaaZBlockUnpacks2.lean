/- Ytlpohipneianjaa: lines of the words and functions that the row BlockUnpacks rests on, and the row. No condition. -/
import Derived.Test.YtlpohipneianjaaZBlockUnpacks1
section
set_option linter.unusedVariables false
set_option linter.unusedSimpArgs false
namespace Go.Proofs.Ytlpohipneianjaa.G
open Go Go.RowKit Go.Shelf Go.Proofs.YtlpohipneianjaaW.PrintWords Go.Proofs.YtlpohipneianjaaW.PrintLast Go.Proofs.YtlpohipneianjaaW.PrintMore
attribute [local go_sem] Oper.semAt_some
set_option maxRecDepth 100000 in
set_option maxHeartbeats 2000000 in
theorem chunk1_in (F : Fence) (n : Nat) (h7 : F.fn 56) (hro : F.round = none) (hn : 1 ≤ n) (l Bs Bn b off m cap : Nat) (hm : m ≤ 100000) (hcap : 2 * m ≤ cap) (J Jx : List (Fin m) → World → Prop)
    (hJd : ∀ pre W, J pre W → J pre W.drew)
    (hY : ∀ pre (x : Fin m) W, J pre W → pre.length < m → YieldAt F (n - 1) Try.prog l #[.slice (some ⟨b, off + 2 * x.val, none⟩) 2 2] W fun e W' =>
      (e = .returned (.bool true) ∧ J (pre ++ [x]) W' ∧ KeepsTwo Bs Bn W W') ∨ (e = .returned (.bool false) ∧ Jx (pre ++ [x]) W'))
    (W : World) (hBs : W.cell? ⟨Bs, 0, none⟩ = some (.slice (some ⟨b, off, none⟩) (2 * m) cap)) (hBn : W.cell? ⟨Bn, 0, none⟩ = some (.int .i64 2)) (h0 : J [] W) :
    CallsIn F n Try.prog 56 #[.func (.yield l) #[] #[], .pointer (some ⟨Bs, 0, none⟩), .pointer (some ⟨Bn, 0, none⟩)] W fun e W' => (∃ v, e = .returned v) ∧
      ((∃ ys, ys = List.finRange m ∧ J ys W') ∨ (∃ pre, pre <+: List.finRange m ∧ Jx pre W')) := by
  refine callsIn_of_wp Try.func56 rfl h7 ?_ hro
  simp only [Try.ntmps56, List.size_toArray, List.length_cons, List.length_nil, Nat.reduceAdd, Nat.reduceSub, Array.replicate_succ, Array.replicate_zero, List.push_toArray, List.append_toArray, List.nil_append, List.cons_append]
  gi_wp2
  gi_loopw [4] (fun i wr => ∃ k : Nat, k ≤ m ∧ i = .int .i64 (2 * k : Nat) ∧ J ((List.finRange m).take k) wr ∧ KeepsTwo Bs Bn W wr)
    (fun i _ => 2 * m - (intOf i).toNat)
  case atStart => exact ⟨0, Nat.zero_le _, rfl, h0, rfl, rfl⟩
  case round =>
    obtain ⟨k, hk, rfl, hJs, hnx⟩ := hrel
    have hs : wr.cell? ⟨Bs, 0, none⟩ = some (.slice (some ⟨b, off, none⟩) (2 * m) cap) := (cell_of_heap hnx.1 0).trans hBs
    have hnn : wr.cell? ⟨Bn, 0, none⟩ = some (.int .i64 2) := (cell_of_heap hnx.2 0).trans hBn
    by_cases hlt : k < m
    · obtain ⟨i0, hi, hz0, hz1, hz2⟩ := info_parts info3
      have fc1 : ∀ W : World, (Instr.slice 26 (.slice (some ⟨b, off, none⟩) (2 * m) cap) (some (.int .i64 ((2 * k : Nat) : Int))) none none).run Try.prog W = .ok (.slice (some ⟨b, off + 2 * k, none⟩) (2 * m - 2 * k) (cap - 2 * k)) W := by
        intro W
        have h := cut_from (P := Try.prog) 26 3 .i64 Try.underlying26 hi 1 hz1 (some ⟨b, off, none⟩) (2 * m) cap ((2 * k : Nat) : Int) (by omega) (by omega) W
        rw [Int.toNat_natCast, if_neg (by omega), Nat.mul_one] at h
        rw [h, Option.map_some, addr_add]
      have fc2 : ∀ W : World, (Instr.slice 26 (.slice (some ⟨b, off, none⟩) (2 * m) cap) (some (.int .i64 ((2 * k : Nat) : Int))) (some (.int .i64 (((2 * k : Nat) : Int) + 2))) (some (.int .i64 (((2 * k : Nat) : Int) + 2)))).run Try.prog W = .ok (.slice (some ⟨b, off + 2 * k, none⟩) 2 2) W := by
        intro W
        have h := cut3 (P := Try.prog) 26 3 .i64 .i64 .i64 Try.underlying26 hi 1 hz1 (some ⟨b, off, none⟩) (2 * m) cap ((2 * k : Nat) : Int) (((2 * k : Nat) : Int) + 2) (((2 * k : Nat) : Int) + 2) (by omega) (by omega) (by omega) (by omega) W
        rw [if_neg (by omega), Int.toNat_natCast, Nat.mul_one, show (((2 * k : Nat) : Int) + 2).toNat - 2 * k = 2 by omega] at h
        rw [h, Option.map_some, addr_add]
      have hmn : ¬ ((2 * m - 2 * k : Nat) : Int) < 2 := by omega
      have htk : (List.finRange m).take (k + 1) = (List.finRange m).take k ++ [⟨k, hlt⟩] := by
        rw [List.take_succ_eq_append_getElem (by simpa using hlt)]
        simp
      obtain ⟨fn, tmps, assign, body, hy, hR⟩ := hY _ ⟨k, hlt⟩ wr.drew (hJd _ _ hJs) (by simp; omega)
      dsimp only at hy
      clear hi hz0 hz1 hz2
      gi_wp2
      gi_region
      all_goals gi_wp2
      all_goals refine hR.mono ?_
      all_goals rintro e W3 (⟨rfl, hJ3, hk3⟩ | ⟨rfl, hJx3⟩)
      all_goals first
        | (have hnn3 : W3.cell? ⟨Bn, 0, none⟩ = some (.int .i64 2) := (cell_of_heap hk3.2 0).trans (by simpa using hnn)
           gi_wp2
           go_roundw
           case rel => exact ⟨k + 1, by omega, by simp; omega, by rw [htk]; exact hJ3, keepsTwo_t (B := wr.drew) hnx hk3⟩
           case measure => simp [intOf]; omega)
        | (gi_wp2
           refine bodyPost_ret (results_none rfl _ _ _) rfl ?_
           exact ⟨⟨_, rfl⟩, .inr ⟨_, ⟨(List.finRange m).drop (k + 1), by rw [← htk, List.take_append_drop]⟩, hJx3⟩⟩)
    · obtain rfl : k = m := by omega
      gi_wp2
      go_end0
      exact ⟨⟨_, rfl⟩, .inl ⟨_, by rw [List.take_of_length_le (by simp)], hJs⟩⟩
set_option maxRecDepth 100000 in
set_option maxHeartbeats 1000000 in
theorem chunk0_in (F : Fence) (n : Nat) (h7 : F.fn 56) (hro : F.round = none) (l Bs Bn : Nat) (A : Option Addr) (cap : Nat) (P : World → Prop) (W : World) (hBs : W.cell? ⟨Bs, 0, none⟩ = some (.slice A 0 cap)) (h0 : P W) :
    CallsIn F n Try.prog 56 #[.func (.yield l) #[] #[], .pointer (some ⟨Bs, 0, none⟩), .pointer (some ⟨Bn, 0, none⟩)] W fun e W' => (∃ v, e = .returned v) ∧ P W' := by
  refine callsIn_of_wp Try.func56 rfl h7 ?_ hro
  simp only [Try.ntmps56, List.size_toArray, List.length_cons, List.length_nil, Nat.reduceAdd, Nat.reduceSub, Array.replicate_succ, Array.replicate_zero, List.push_toArray, List.append_toArray, List.nil_append, List.cons_append]
  gi_wp2
  gi_loopw [4] (fun i wr => i = .int .i64 0 ∧ P wr ∧ wr.cell? ⟨Bs, 0, none⟩ = some (.slice A 0 cap)) (fun _ _ => 0)
  case atStart => exact ⟨rfl, h0, hBs⟩
  case round =>
    obtain ⟨rfl, hP, hs⟩ := hrel
    gi_wp2
    go_end0
    exact ⟨⟨_, rfl⟩, hP⟩
set_option maxHeartbeats 1000000 in
theorem chunk_in (F : Fence) (n : Nat) (h5 : F.fn 47) (hro : F.round = none) (a : Option Addr) (len cap : Nat) (w : World) :
    CallsIn F n Try.prog 47 #[.slice a len cap, .int .i64 2] w fun e w' => e = .returned (.func (.func 56) #[] #[.pointer (some ⟨w.heap.size, 0, none⟩), .pointer (some ⟨w.heap.size + 1, 0, none⟩)]) ∧ w' = (w.alloc (.cells #[.slice a len cap] 26)).alloc (.cells #[.int .i64 2] 3) := by
  refine callsIn_of_wp Try.func47 rfl h5 ?_ hro
  simp only [Try.ntmps47, List.size_toArray, List.length_cons, List.length_nil, Nat.reduceAdd, Nat.reduceSub, Array.replicate_succ, Array.replicate_zero, List.push_toArray, List.append_toArray, List.nil_append, List.cons_append]
  gi_wp2
  go_ret
  exact ⟨rfl, rfl⟩
def ChunkOf (m : Nat) (sv : Value) (b off : Nat) : Prop := (m = 0 ∧ ∃ A cap, sv = .slice A 0 cap) ∨ ∃ cap, sv = .slice (some ⟨b, off, none⟩) (2 * m) cap ∧ 2 * m ≤ cap
theorem chunk_stops (F : Fence) (n : Nat) (h7 : F.fn 56) (hro : F.round = none) (hn : 1 ≤ n) (Bs Bn b off m : Nat) (hm : m ≤ 100000) (sv : Value) (hsv : ChunkOf m sv b off) (w : World) (hBs0 : Bs < w.heap.size) (hBn0 : Bn < w.heap.size)
    (hBs : w.cell? ⟨Bs, 0, none⟩ = some sv) (hBn : w.cell? ⟨Bn, 0, none⟩ = some (.int .i64 2)) :
    SeqStopsK F n Try.prog 56 #[.pointer (some ⟨Bs, 0, none⟩), .pointer (some ⟨Bn, 0, none⟩)] (fun x : Fin m => #[.slice (some ⟨b, off + 2 * x.val, none⟩) 2 2]) (KeepsTwo Bs Bn) (fun ys => ys = List.finRange m) (fun pre => pre <+: List.finRange m) m w := fun l J Jx W hW hJ _ hY h0 => by
  have hs := (hW.cell (p := ⟨Bs, 0, none⟩) hBs0).trans hBs
  have hn' := (hW.cell (p := ⟨Bn, 0, none⟩) hBn0).trans hBn
  have hJd : ∀ pre W1, J pre W1 → J pre W1.drew := fun pre W1 h => hJ pre W1 _ none h ⟨rfl, rfl, rfl, Nat.le_refl _, fun _ _ _ => rfl⟩ (fun r e => by cases e)
  rcases hsv with ⟨rfl, A, cap, rfl⟩ | ⟨cap, rfl, hc⟩
  · exact (chunk0_in F n h7 hro l Bs Bn A cap (J []) W hs h0).mono fun e W' ⟨he, hj⟩ => ⟨he, .inl ⟨[], by simp, hj⟩⟩
  · exact chunk1_in F n h7 hro hn l Bs Bn b off m cap hm hc J Jx hJd hY W hs hn' h0
end Go.Proofs.Ytlpohipneianjaa.G
end
section
namespace Go
section
variable {F : Fence} {n : Nat} {P : Program} {ops : Array Oper} {Q : Exit → Act → World → Prop} {md : Region.Mode} {S : World → Prop}
def YieldsHeld (P : Program) (ops : Array Oper) (S : World → Prop) (o : Oper) (v : Value) (a : Act) : Prop := YieldsIf P ops S o v a ∧ ∀ w, o.about P w a.eval = none
def NoDefers (ops : Array Oper) : Prop := ∀ (j : Nat) (o : Oper), ops[j]? = some o → ∀ c, o.op ≠ .defer c
theorem wpOpIn_putHeld {j : Nat} {oi oj : Oper} {v : Value} (hnd : NoDefers ops) (hj : ops[j]? = some oj) (hap : oi.apart ops oj = true)
    (hsi : ∀ cs b, oi.op ≠ .select cs b) (hsj : ∀ cs b, oj.op ≠ .select cs b)
    (hQ : ∀ c a w, Q (.panic c) (a.put oi.dst v) w → Q (.panic c) a w) {K : Act → World → Prop} {a : Act} {w : World}
    (hy : YieldsHeld P ops S oi v a) (h : wpOpIn F n P ops Q j K (a.put oi.dst v) w) :
    wpOpIn F n P ops Q j (fun a' w' => YieldsHeld P ops S oi v a' ∧ K (a'.put oi.dst v) w') a w := by
  have hndj := hnd j oj hj
  obtain ⟨h1, h2, h3⟩ := Oper.apart_spec hap
  have keep : ∀ (a : Act), YieldsHeld P ops S oi v a → ∀ u, YieldsHeld P ops S oi v (a.put oj.dst u) := fun a hy u =>
    hy.of_same (execOp_put oi hsi a oj.dst u h3) (wanted_put oi a oj.dst u h3) (fun w => about_put oi w a oj.dst u h3)
  have keepD : ∀ d, YieldsHeld P ops S oi v { a with defers := d :: a.defers } := fun d => hy.of_same rfl rfl (fun _ => rfl)
  unfold wpOpIn at *
  simp only [hj] at *
  rw [wanted_put oj a oi.dst v h1, about_put oj w a oi.dst v h1] at h
  split
  · rename_i hw
    simp only [hw, if_true] at h
    unfold Oper.wpIn at *
    rw [about_put oj w a oi.dst v h1] at h
    refine ⟨h.1, ?_⟩
    have h := h.2
    rw [Oper.semAt_eq _ _ _ hndj, execOp_put oj hsj a oi.dst v h1] at h
    rw [Oper.semAt_eq _ _ _ hndj]
    generalize (execOp a.eval oj).run P w = r at *
    cases r with
    | ok x w' =>
      cases x <;> simp only [Oper.uponIn] at h ⊢
      case value u => exact ⟨keep a hy u, by rw [← Act.put_comm a v u h2]; exact h⟩
      case skip => exact ⟨keep a hy _, by rw [← Act.put_comm a v undef h2]; exact h⟩
      case defer d =>
        refine ⟨keep _ (keepD d) _, ?_⟩
        rw [← Act.put_comm _ v undef h2, ← Act.put_defers]
        exact h
      case enter f args =>
        refine ⟨h.1, CallsIn.mono h.2 fun e w'' he => ?_⟩
        cases e with
        | returned u => exact ⟨keep a hy u, by rw [← Act.put_comm a v u h2]; exact he⟩
        | panicked c => exact hQ _ _ _ he
        | outgrown => exact he
      case row row args => exact ⟨h.1, RowsIn.mono h.2 fun u w'' he => ⟨keep a hy u, by rw [← Act.put_comm a v u h2]; exact he⟩⟩
      case round l f tmps assign body =>
        refine ⟨h.1, RoundIn.mono h.2 fun e w'' he => ?_⟩
        cases e with
        | returned u => exact ⟨keep a hy u, by rw [← Act.put_comm a v u h2]; exact he⟩
        | panicked c => exact hQ _ _ _ he
        | outgrown => exact he
    | halt x w' =>
      cases x <;> simp only [Oper.uponIn] at h ⊢
      case panic u => exact hQ _ _ _ h
  · rename_i hw
    simp only [hw] at h
    exact ⟨h.1, keep a hy _, by rw [← Act.put_comm a v undef h2]; exact h.2⟩
def wpAnyHeld (F : Fence) (n : Nat) (P : Program) (md : Region.Mode) (ops : Array Oper) (Q : Exit → Act → World → Prop) (S : World → Prop) : Nat → Array Bool → Act → World → Prop
  | 0, listed, a, w => Region.ready md ops listed = [] ∧ Q .normal a w
  | fuel + 1, listed, a, w =>
    (Region.ready md ops listed = [] → Q .normal a w) ∧
    ∀ i ∈ Region.ready md ops listed, wpOpIn F n P ops Q i (fun a' w' => S w' ∧ wpAnyHeld F n P md ops Q S fuel (listed.setIfInBounds i true) a' w') a w
theorem wpAnyIn_of_held : ∀ (fuel : Nat) (listed : Array Bool) (a : Act) (w : World), wpAnyHeld F n P md ops Q S fuel listed a w → wpAnyIn F n P md ops Q fuel listed a w
  | 0, _, _, _, h => h
  | fuel + 1, _, _, _, h => ⟨h.1, fun i hi => wpOpIn_mono (fun a' w' h' => wpAnyIn_of_held fuel _ a' w' h'.2) (h.2 i hi)⟩
theorem wpAnyHeld_first {i : Nat} {oi : Oper} {v : Value} (hnd : NoDefers ops) (hi : ops[i]? = some oi) (hsel : ∀ (j : Nat) (o : Oper) cs b, ops[j]? = some o → o.op ≠ .select cs b)
    (hQ : ∀ c a w, Q (.panic c) (a.put oi.dst v) w → Q (.panic c) a w) :
    ∀ (fuel : Nat) (listed : Array Bool) (a : Act) (w : World),
      (∀ j oj, ops[j]? = some oj → j ≠ i → listed.getD j true = false → (∀ e ∈ oj.after, Region.binds md e = true → e.on ≠ i) → oi.apart ops oj = true) →
      i ∈ Region.ready md ops listed → YieldsHeld P ops S oi v a → S w →
      wpAnyHeld F n P md ops Q S fuel (listed.setIfInBounds i true) (a.put oi.dst v) w → wpAnyHeld F n P md ops Q S (fuel + 1) listed a w := by
  intro fuel
  induction fuel with
  | zero =>
    intro listed a w _ hr hy hS H
    refine ⟨fun h => (by rw [h] at hr; cases hr), fun j hj => ?_⟩
    by_cases hji : j = i
    · subst hji; exact hy.wpOpIn hnd hi hS ⟨hS, H⟩
    · have := ready_mono hj hji
      rw [H.1] at this
      cases this
  | succ fuel ih =>
    intro listed a w hfree hr hy hS H
    refine ⟨fun h => (by rw [h] at hr; cases hr), fun j hj => ?_⟩
    by_cases hji : j = i
    · subst hji; exact hy.wpOpIn hnd hi hS ⟨hS, H⟩
    · have h1 := H.2 j (ready_mono hj hji)
      obtain ⟨hjun, oj, hoj, hall⟩ := mem_ready.1 hj
      have hnot : ∀ e ∈ oj.after, Region.binds md e = true → e.on ≠ i := fun e he hb heq => by
        have h1 := hall e he hb
        have h0 := (mem_ready.1 hr).1
        rw [heq] at h1
        rcases Nat.lt_or_ge i listed.size with h' | h'
        · simp [h'] at h0 h1; rw [h0] at h1; cases h1
        · simp [Array.getElem?_eq_none h'] at h1
      have h2 := wpOpIn_putHeld hnd hoj (hfree j oj hoj hji hjun hnot) (fun cs b => hsel i oi cs b hi) (fun cs b => hsel j oj cs b hoj) hQ hy h1
      have hfree' : ∀ k ok, ops[k]? = some ok → k ≠ i → (listed.setIfInBounds j true).getD k true = false →
          (∀ e ∈ ok.after, Region.binds md e = true → e.on ≠ i) → oi.apart ops ok = true := fun k ok hk hki hun hno => by
        refine hfree k ok hk hki ?_ hno
        by_cases hjk : j = k
        · subst hjk; exact hjun
        · rw [getD_set_ne true hjk] at hun; exact hun
      refine wpOpIn_mono (fun a' w' h3 => ⟨h3.2.1, ih (listed.setIfInBounds j true) a' w' hfree' (ready_mono hr (Ne.symm hji)) h3.1 h3.2.1 ?_⟩) h2
      rw [Array.setIfInBounds_comm _ _ hji]
      exact h3.2.2
theorem wpAnyHeld_take {i : Nat} {oi : Oper} {v : Value} {fuel : Nat} {listed : Array Bool} {a : Act} {w : World} (hnd : NoDefers ops) (hi : ops[i]? = some oi)
    (hs : Region.noSelect ops = true) (hf : Region.free md ops listed i = true) (hr : (Region.ready md ops listed).contains i = true)
    (hQ : ∀ c a w, Q (.panic c) (a.put oi.dst v) w → Q (.panic c) a w) (hy : YieldsHeld P ops S oi v a) (hS : S w)
    (h : wpAnyHeld F n P md ops Q S fuel (listed.setIfInBounds i true) (a.put oi.dst v) w) : wpAnyHeld F n P md ops Q S (fuel + 1) listed a w :=
  wpAnyHeld_first hnd hi (Region.noSelect_spec hs) hQ fuel listed a w (Region.free_spec hi hf) (by simpa using hr) hy hS h
theorem wpAnyHeld_one {i : Nat} {o : Oper} {fuel : Nat} {listed : Array Bool} {a : Act} {w : World} (hr : Region.ready md ops listed = [i]) (ho : ops[i]? = some o) (hw : Region.wanted o (yielded ops a.tmps) = true)
    (h : ∀ K : Act → World → Prop, (∀ a w, S w → wpAnyHeld F n P md ops Q S fuel (listed.setIfInBounds i true) a w → K a w) → o.wpIn F n P a w K Q) : wpAnyHeld F n P md ops Q S (fuel + 1) listed a w :=
  ⟨fun h0 => absurd (hr.symm.trans h0) (by simp), fun j hj => by
    rw [hr] at hj
    simp at hj
    subst hj
    unfold wpOpIn
    simp only [ho]
    rw [if_pos hw]
    exact h _ (fun _ _ h1 h2 => ⟨h1, h2⟩)⟩
theorem wpAnyHeld_done {listed : Array Bool} {a : Act} {w : World} (hr : Region.ready md ops listed = []) (h : Q .normal a w) :
    ∀ fuel, wpAnyHeld F n P md ops Q S fuel listed a w
  | 0 => ⟨hr, h⟩
  | _ + 1 => ⟨fun _ => h, by rw [hr]; simp⟩
theorem wpIn_region_heldF (S : World → Prop) {id : Nat} {a : Act} {w : World} (hm : P.follows .mixedOrders = true)
    (h : wpAnyHeld F n P .any ops Q S ops.size (Array.replicate ops.size false) a w.drew) : (Code.region id ops true).wpIn F n P Q a w :=
  wpIn_region_any hm (wpAnyIn_of_held _ _ _ _ h)
end
end Go
namespace Go.Proofs.Ytlpohipneianjaa.G
open Go Go.RowKit Go.Proofs.YtlpohipneianjaaW.PrintWords Go.Proofs.YtlpohipneianjaaW.PrintLast Go.Proofs.YtlpohipneianjaaW.PrintMore
section
variable {F : Fence} {nF : Nat} {P : Program} {ops : Array Oper} {rest : List Oper} {o : Oper} {a : Act} {Q : Exit → Act → World → Prop} {α : Type}
theorem R_append_in (d : Kd α) {w0 W : World} (base : Nat) (hgd : o.guard = none) (s x : Operand) (t e : TypeId) (z : Value) (bytes : Nat)
    (ho : o.op = .call { callee := .builtin .append, args := #[s, x], argTypes := #[t, t] })
    (ht : P.underlying t = some (.slice e)) (hinfo : (P.info? e).map (fun i => (i.zero, i.size, i.bytes)) = some (some z, d.sz, bytes)) (hz : z.cells.size = d.sz) (hs0 : 0 < d.sz) (hb0 : 0 < bytes)
    (v : Value) (xs : List α) (p : α) (cs : List Value) (ok okp : Nat → Prop) (hs : a.eval s = v) (hx : a.eval x = .slice (some ⟨W.heap.size, 0, none⟩) 1 1) (hp : d.M W base okp p cs) (hokp : ∀ k, okp k → ok k ∧ some k ≠ v.ownBlock) (hfresh : ∀ k, W.heap.size ≤ k → ok k)
    (HO : d.R e W base ok v xs) (HB : Below base w0 W) (hbase : base ≤ W.heap.size) (hl : (xs.length + 1) * bytes ≤ 140737488355328)
    (h : ∀ v1 w1, d.R e w1 base ok v1 (xs ++ [p]) → Below base w0 w1 → W.grownBy w1 v.ownBlock → (v1.ownBlock = v.ownBlock ∨ ∃ b, v1.ownBlock = some b ∧ W.heap.size ≤ b) → wpListIn F nF P ops Q rest (a.put o.dst v1) w1) :
    wpListIn F nF P ops Q (o :: rest) a (W.alloc (.cells cs.toArray e)) := by
  obtain ⟨h0, inner, HOo, hr⟩ := HO
  obtain ⟨i0, hi, hzz⟩ := Option.map_eq_some_iff.1 hinfo
  simp only [Prod.mk.injEq] at hzz
  obtain ⟨hz0, hz1, hz2⟩ := hzz
  have hlen : xs.length + 1 ≤ 140737488355328 := Nat.le_trans (Nat.le_mul_of_pos_right _ hb0) hl
  have hys : cs.length = d.sz := d.K_len (d.K_of_M hp)
  refine wpListIn_append_own_at (w := W.alloc (.cells cs.toArray e)) hgd s x t ho base e i0 z d.sz bytes ht hi hz0 hz1 hz2 hz hs0 v xs.length inner hs (HOo.alloc _) ⟨W.heap.size, 0, none⟩ 1 1 cs hx (by rw [hys]; simp)
    (by simpa using World.news_of_block (cs := cs.toArray) (t := e) (fr := (0, 0)) (heap_alloc_new W (.cells cs.toArray e))) (d.K_one (d.K_of_M hp)) (by simp only [maxLen]; omega) hl (by simp; omega) ?_
  intro v1 w1 hown hg _ hat
  have hg' := World.grownBy.trans (World.grownBy_alloc W (.cells cs.toArray e) v.ownBlock) hg
  have hat' : v1.ownBlock = v.ownBlock ∨ ∃ b, v1.ownBlock = some b ∧ W.heap.size ≤ b := by
    rcases hat with hat | hat
    · exact .inl hat
    · exact .inr ⟨_, hat, by simp⟩
  exact h v1 w1 (Kd.R_appended h0 hr hp hokp hfresh hown hg' hat') ((HB.alloc hbase _).grown hg (by simp; omega) (own_base HOo)) hg' hat'
end
end Go.Proofs.Ytlpohipneianjaa.G
end
section
set_option linter.unusedVariables false
set_option linter.unusedSimpArgs false
namespace Go.Proofs.Ytlpohipneianjaa.G
open Go Go.RowKit Go.Shelf Go.Proofs.YtlpohipneianjaaW.PrintWords Go.Proofs.YtlpohipneianjaaW.PrintLast Go.Proofs.YtlpohipneianjaaW.PrintMore
attribute [local go_sem] Oper.semAt_some
def inB (x : Int) : Bool := decide (-4398046511104 ≤ x) && decide (x ≤ 4398046511104)
def unpStep (z : List S42 × S42 × S42) (a b : Int) : List S42 × S42 × S42 :=
  (z.1 ++ [⟨wrap64 (z.2.1.f0 + wrap64 (z.2.2.f0 + a)), wrap64 (z.2.1.f1 + wrap64 (z.2.2.f1 + b))⟩], ⟨wrap64 (z.2.1.f0 + wrap64 (z.2.2.f0 + a)), wrap64 (z.2.1.f1 + wrap64 (z.2.2.f1 + b))⟩,
    if z.1.length + 1 > 1 then ⟨wrap64 (z.2.2.f0 + a), wrap64 (z.2.2.f1 + b)⟩ else z.2.2)
def numA (nums : List Int) (j : Nat) : Int := rd nums ((1 + 2 * j : Nat) : Int)
def numB (nums : List Int) (j : Nat) : Int := rd nums ((2 + 2 * j : Nat) : Int)
def goodAt (nums : List Int) (j : Nat) : Bool := inB (numA nums j) && inB (numB nums j)
def unpSt (nums : List Int) {m : Nat} (pre : List (Fin m)) : List S42 × S42 × S42 := pre.foldl (fun z j => unpStep z (numA nums j.val) (numB nums j.val)) ([], z42, z42)
theorem unpSt_snoc (nums : List Int) {m : Nat} (pre : List (Fin m)) (x : Fin m) : unpSt nums (pre ++ [x]) = unpStep (unpSt nums pre) (numA nums x.val) (numB nums x.val) := by simp [unpSt]
set_option maxHeartbeats 1000000 in
theorem block_in_eq (a : Int) (w : World) : Calls Try.prog 48 #[.int .i64 a] w fun e w' => e = .returned (.bool (inB a)) ∧ w' = w := by
  by_cases h1 : -4398046511104 ≤ a
  · by_cases h2 : a ≤ 4398046511104
    · have e : inB a = true := by simp [inB, h1, h2]
      rw [e]
      go_enter Try.func48, Try.ntmps48
      go_wp2
      go_ret
      exact ⟨rfl, rfl⟩
    · have e : inB a = false := by simp [inB, h2]
      rw [e]
      have h3 : decide (a ≤ 4398046511104) = false := decide_eq_false h2
      go_enter Try.func48, Try.ntmps48
      go_wp2
      go_ret
      exact ⟨rfl, rfl⟩
  · have e : inB a = false := by simp [inB, h1]
    rw [e]
    have h3 : decide (-4398046511104 ≤ a) = false := decide_eq_false h1
    go_enter Try.func48, Try.ntmps48
    go_wp2
    go_ret
    exact ⟨rfl, rfl⟩
theorem blk_turn {W W' : World} {row : Option Nat} {l : Nat} {cs : Array Value} {t : Nat} (h : W.heap[l]? = some (.cells cs t (0, 0))) (hg : W.grownBy W' row) (hr : ∀ r, row = some r → ∃ o : Obj, W.heap[r]? = some o ∧ o.isCells = false) : W'.heap[l]? = some (.cells cs t (0, 0)) := by
  refine (hg.block l (Array.getElem?_eq_some_iff.1 h).1 (fun e => ?_)).trans h
  obtain ⟨o, ho, hc⟩ := hr l e.symm
  rw [h] at ho
  injection ho with ho
  subst ho
  cases hc
theorem R_turn {α : Type} {d : Kd α} {e : Nat} {W W' : World} {base : Nat} {ok : Nat → Prop} {v : Value} {xs : List α} {row : Option Nat} (h : d.R e W base ok v xs) (hg : W.grownBy W' row) (hr : ∀ r, row = some r → ∃ o : Obj, W.heap[r]? = some o ∧ o.isCells = false) : d.R e W' base ok v xs :=
  Kd.R_mono (Kd.R_move (Kd.R_bound h) (fun k hk => hg.block k hk.2.2.1 (fun e => by
    obtain ⟨o, ho, hc⟩ := hr k e.symm
    obtain ⟨_, _, _, q, hq, cells, hk2⟩ := hk
    rw [hk2] at ho
    injection ho with ho
    subst ho
    cases hc))) (fun _ hk => hk.1)
theorem heap_new_at (W : World) (o : Obj) (k : Nat) (h : W.heap.size = k) : (W.alloc o).heap[k]? = some o := by subst h; exact World.alloc_heap_new W o
theorem heap_old_at (W : World) (o o' : Obj) (k : Nat) (hk : W.heap[k]? = some o') : (W.alloc o).heap[k]? = some o' := (Below.heap_alloc W o k (Array.getElem?_eq_some_iff.1 hk).1).trans hk
def UI (w : World) (nums : List Int) {m : Nat} (pre : List (Fin m)) (W : World) : Prop :=
  (∀ j ∈ pre, goodAt nums j.val = true) ∧ W.heap[w.heap.size + 1]? = some (.cells #[.slice none 0 0] 30 (0, 0)) ∧ W.heap[w.heap.size + 1 + 1]? = some (.cells #[.int .i64 0] 31 (0, 0)) ∧
  W.heap[w.heap.size + 1 + 1 + 1 + 1]? = some (.cells #[.int .i64 (unpSt nums pre).2.1.f0, .int .i64 (unpSt nums pre).2.1.f1] 42 (0, 0)) ∧
  W.heap[w.heap.size + 1 + 1 + 1 + 1 + 1]? = some (.cells #[.int .i64 (unpSt nums pre).2.2.f0, .int .i64 (unpSt nums pre).2.2.f1] 42 (0, 0)) ∧
  (∃ v, W.heap[w.heap.size + 1 + 1 + 1]? = some (.cells #[v] 30 (0, 0)) ∧ Kd.R k42 42 W w.heap.size (fun k => w.heap.size + 8 ≤ k) v (unpSt nums pre).1) ∧ Below w.heap.size w W ∧ w.heap.size + 8 ≤ W.heap.size
def UX (w : World) (nums : List Int) {m : Nat} (c : Code) (pre : List (Fin m)) (W : World) : Prop :=
  c = .ret ∧ (∃ j ∈ pre, goodAt nums j.val = false) ∧ W.heap[w.heap.size + 1]? = some (.cells #[.slice none 0 0] 30 (0, 0)) ∧ W.heap[w.heap.size + 1 + 1]? = some (.cells #[.int .i64 2] 31 (0, 0)) ∧ Below w.heap.size w W
theorem UI_own (w : World) (nums : List Int) {m : Nat} (B : Nat) (hB : w.heap.size ≤ B) : OwnFrom B (UI w nums (m := m)) := by
  rintro s W W' row ⟨h0, h1, h2, h3, h4, ⟨v, h5, h6⟩, h7, h8⟩ hg hr
  have hr' := fun r e => (hr r e).2
  exact ⟨h0, blk_turn h1 hg hr', blk_turn h2 hg hr', blk_turn h3 hg hr', blk_turn h4 hg hr', ⟨v, blk_turn h5 hg hr', R_turn h6 hg hr'⟩, h7.grown hg h7.size (fun k e => Nat.le_trans hB (hr k e).1), Nat.le_trans h8 hg.size⟩
theorem UX_own (w : World) (nums : List Int) {m : Nat} (B : Nat) (hB : w.heap.size ≤ B) (c : Code) : OwnFrom B (UX w nums (m := m) c) := by
  rintro s W W' row ⟨h0, h00, h1, h2, h7⟩ hg hr
  have hr' := fun r e => (hr r e).2
  exact ⟨h0, h00, blk_turn h1 hg hr', blk_turn h2 hg hr', h7.grown hg h7.size (fun k e => Nat.le_trans hB (hr k e).1)⟩
theorem cut_by {C G : Prop} (main : C → G) (cont : C) : G := main cont
theorem ux_bad (w W : World) (nums : List Int) {m : Nat} (pre : List (Fin m)) (x : Fin m) (hb : goodAt nums x.val = false) (h1 : W.heap[w.heap.size + 1]? = some (.cells #[.slice none 0 0] 30 (0, 0))) (h2 : W.heap[w.heap.size + 1 + 1]? = some (.cells #[.int .i64 0] 31 (0, 0))) (h7 : Below w.heap.size w W) :
    KeepsOthers W ((W.setCell ⟨w.heap.size + 1, 0, none⟩ (.slice none 0 0)).setCell ⟨w.heap.size + 1 + 1, 0, none⟩ (.int .i64 2)) ∧ UX w nums .ret (pre ++ [x]) ((W.setCell ⟨w.heap.size + 1, 0, none⟩ (.slice none 0 0)).setCell ⟨w.heap.size + 1 + 1, 0, none⟩ (.int .i64 2)) := by
  refine ⟨(KeepsOthers.setCell _ _ _).trans (KeepsOthers.setCell _ _ _), rfl, ⟨x, by simp, hb⟩, ?_, ?_, ?_⟩
  · exact blk_far (p := ⟨w.heap.size + 1 + 1, 0, none⟩) (blk_set h1 0 _) (by simp) _
  · exact blk_set (blk_far (p := ⟨w.heap.size + 1, 0, none⟩) h2 (by simp) _) 0 _
  · exact (h7.setCell (by simp only; omega) _).setCell (by simp only; omega) _
theorem unpSt_len (nums : List Int) {m : Nat} (pre : List (Fin m)) : (unpSt nums pre).1.length = pre.length := by
  unfold unpSt
  have : ∀ (l : List (Fin m)) (z : List S42 × S42 × S42), (l.foldl (fun z j => unpStep z (numA nums j.val) (numB nums j.val)) z).1.length = z.1.length + l.length := by
    intro l
    induction l with
    | nil => intro z; rfl
    | cons y ys ih => intro z; rw [List.foldl_cons, ih]; simp [unpStep]; omega
  simpa using this pre ([], z42, z42)
theorem R_set {α : Type} {d : Kd α} {e : Nat} {W : World} {base : Nat} {ok : Nat → Prop} {v : Value} {xs : List α} (h : d.R e W base ok v xs) (p : Addr) (u : Value) (hp : ∀ k, ok k → k ≠ p.block) : d.R e (W.setCell p u) base ok v xs :=
  Kd.R_move h (fun k hk => Below.heap_setCell _ _ _ _ (hp k hk))
theorem ui_next (w w' w1 : World) (nums : List Int) {m : Nat} (pre : List (Fin m)) (x : Fin m) (A B X Y : Int) (v v1 : Value) (hA : A = wrap64 ((unpSt nums pre).2.2.f0 + numA nums x.val)) (hB : B = wrap64 ((unpSt nums pre).2.2.f1 + numB nums x.val))
    (hX : X = wrap64 ((unpSt nums pre).2.1.f0 + A)) (hY : Y = wrap64 ((unpSt nums pre).2.1.f1 + B)) (hgood : ∀ j ∈ pre, goodAt nums j.val = true) (hx : goodAt nums x.val = true) (K1 : KeepsOthers w' w1)
    (g1 : w1.heap[w.heap.size + 1]? = some (.cells #[.slice none 0 0] 30 (0, 0))) (g2 : w1.heap[w.heap.size + 1 + 1]? = some (.cells #[.int .i64 0] 31 (0, 0))) (g3 : w1.heap[w.heap.size + 1 + 1 + 1]? = some (.cells #[v] 30 (0, 0)))
    (g4 : w1.heap[w.heap.size + 1 + 1 + 1 + 1]? = some (.cells #[.int .i64 X, .int .i64 Y] 42 (0, 0))) (g5 : w1.heap[w.heap.size + 1 + 1 + 1 + 1 + 1]? = some (.cells #[.int .i64 (unpSt nums pre).2.2.f0, .int .i64 (unpSt nums pre).2.2.f1] 42 (0, 0)))
    (g6 : w1.heap[w.heap.size + 1 + 1 + 1 + 1 + 1 + 1]? = w'.heap[w.heap.size + 1 + 1 + 1 + 1 + 1 + 1]?) (g7 : w1.heap[w.heap.size + 1 + 1 + 1 + 1 + 1 + 1 + 1]? = w'.heap[w.heap.size + 1 + 1 + 1 + 1 + 1 + 1 + 1]?)
    (hr1 : Kd.R k42 42 w1 w.heap.size (fun k => w.heap.size + 8 ≤ k) v1 ((unpSt nums pre).1 ++ [⟨X, Y⟩])) (hb1 : Below w.heap.size w w1) (hs1 : w.heap.size + 8 ≤ w1.heap.size) :
    (∀ Wf : World, ¬ 1 < (unpSt nums pre).1.length + 1 → Wf = w1.setCell ⟨w.heap.size + 1 + 1 + 1, 0, none⟩ v1 → KeepsOthers w' Wf ∧ KeepsTwo (w.heap.size + 1 + 1 + 1 + 1 + 1 + 1) (w.heap.size + 1 + 1 + 1 + 1 + 1 + 1 + 1) w' Wf ∧ UI w nums (pre ++ [x]) Wf) ∧
    (∀ Wf : World, 1 < (unpSt nums pre).1.length + 1 → Wf = ((w1.setCell ⟨w.heap.size + 1 + 1 + 1, 0, none⟩ v1).setCell ⟨w.heap.size + 1 + 1 + 1 + 1 + 1, 0, none⟩ (.int .i64 A)).setCell ⟨w.heap.size + 1 + 1 + 1 + 1 + 1, 1, none⟩ (.int .i64 B) → KeepsOthers w' Wf ∧ KeepsTwo (w.heap.size + 1 + 1 + 1 + 1 + 1 + 1) (w.heap.size + 1 + 1 + 1 + 1 + 1 + 1 + 1) w' Wf ∧ UI w nums (pre ++ [x]) Wf) := by
  have hg' : ∀ j ∈ pre ++ [x], goodAt nums j.val = true := fun j hj => by
    rcases List.mem_append.1 hj with h | h
    · exact hgood j h
    · rw [List.mem_singleton.1 h]; exact hx
  have far : ∀ (W : World) (g h' i : Nat) (u : Value) (cs : Array Value) (t : Nat), W.heap[g]? = some (.cells cs t (0, 0)) → g ≠ h' → (W.setCell ⟨h', i, none⟩ u).heap[g]? = some (.cells cs t (0, 0)) := fun W g h' i u cs t hb hne => blk_far (p := ⟨h', i, none⟩) hb hne u
  have same : ∀ (W : World) (g h' i : Nat) (u : Value), g ≠ h' → (W.setCell ⟨h', i, none⟩ u).heap[g]? = W.heap[g]? := fun W g h' i u hne => Below.heap_setCell W ⟨h', i, none⟩ u g hne
  constructor
  · rintro Wf hc rfl
    refine ⟨K1.trans (KeepsOthers.setCell _ _ _), ⟨?_, ?_⟩, hg', ?_, ?_, ?_, ?_, ⟨v1, ?_, ?_⟩, hb1.setCell (by simp only; omega) _, by simpa using hs1⟩
    · rw [same _ _ _ _ _ (by omega)]; exact g6
    · rw [same _ _ _ _ _ (by omega)]; exact g7
    · exact far _ _ _ _ _ _ _ g1 (by omega)
    · exact far _ _ _ _ _ _ _ g2 (by omega)
    · rw [unpSt_snoc]
      simp only [unpStep]
      rw [← hA, ← hB, ← hX, ← hY]
      exact far _ _ _ _ _ _ _ g4 (by omega)
    · rw [unpSt_snoc]
      simp only [unpStep]
      rw [if_neg (by simpa using hc)]
      exact far _ _ _ _ _ _ _ g5 (by omega)
    · exact blk_set g3 0 v1
    · rw [unpSt_snoc]
      simp only [unpStep]
      rw [← hA, ← hB, ← hX, ← hY]
      exact R_set hr1 _ _ (fun k hk => by simp only; omega)
  · rintro Wf hc rfl
    refine ⟨((K1.trans (KeepsOthers.setCell _ _ _)).trans (KeepsOthers.setCell _ _ _)).trans (KeepsOthers.setCell _ _ _), ⟨?_, ?_⟩, hg', ?_, ?_, ?_, ?_, ⟨v1, ?_, ?_⟩, ((hb1.setCell (by simp only; omega) _).setCell (by simp only; omega) _).setCell (by simp only; omega) _, by simpa using hs1⟩
    · rw [same _ _ _ _ _ (by omega), same _ _ _ _ _ (by omega), same _ _ _ _ _ (by omega)]; exact g6
    · rw [same _ _ _ _ _ (by omega), same _ _ _ _ _ (by omega), same _ _ _ _ _ (by omega)]; exact g7
    · exact far _ _ _ _ _ _ _ (far _ _ _ _ _ _ _ (far _ _ _ _ _ _ _ g1 (by omega)) (by omega)) (by omega)
    · exact far _ _ _ _ _ _ _ (far _ _ _ _ _ _ _ (far _ _ _ _ _ _ _ g2 (by omega)) (by omega)) (by omega)
    · rw [unpSt_snoc]
      simp only [unpStep]
      rw [← hA, ← hB, ← hX, ← hY]
      exact far _ _ _ _ _ _ _ (far _ _ _ _ _ _ _ (far _ _ _ _ _ _ _ g4 (by omega)) (by omega)) (by omega)
    · rw [unpSt_snoc]
      simp only [unpStep]
      rw [if_pos (by simpa using hc)]
      rw [← hA, ← hB]
      exact blk_set (blk_set (far _ _ _ _ _ _ _ g5 (by omega)) 0 _) 1 _
    · exact far _ _ _ _ _ _ _ (far _ _ _ _ _ _ _ (blk_set g3 0 v1) (by omega)) (by omega)
    · rw [unpSt_snoc]
      simp only [unpStep]
      rw [← hA, ← hB, ← hX, ← hY]
      exact R_set (R_set (R_set hr1 _ _ (fun k hk => by simp only; omega)) _ _ (fun k hk => by simp only; omega)) _ _ (fun k hk => by simp only; omega)
theorem unp_end (w Wf : World) (r1 : List S42) (r2 : Int) (Q : Ending → World → Prop) (hQ : (fun e w' => ∃ v0_ : Value, e = .returned (.tuple #[v0_, .int .i64 r2]) ∧ Kd.R k42 42 w' w.heap.size (fun _ => True) v0_ r1 ∧ Below w.heap.size w w') = Q)
    (tm : Array Value) (D : Nat) (hD : w.heap.size ≤ D) (v0 : Value) (ht2 : tm[2]?.getD undef = .pointer (some ⟨w.heap.size + 1, 0, none⟩)) (ht3 : tm[3]?.getD undef = .pointer (some ⟨w.heap.size + 1 + 1, 0, none⟩))
    (h1 : Wf.heap[w.heap.size + 1]? = some (.cells #[v0] 30 (0, 0))) (h2 : Wf.heap[w.heap.size + 1 + 1]? = some (.cells #[.int .i64 r2] 31 (0, 0))) (hK : Wf.heap[D]? = some (.deferred (some []))) (hR : Kd.R k42 42 Wf w.heap.size (fun _ => True) v0 r1) (hB : Below w.heap.size w Wf) :
    bodyPostM Fence.wide 5 Try.prog Try.f18 Q Exit.ret { tmps := tm, defers := [{ target := Target.collected D, args := #[] }] } Wf := by
  refine ⟨by simp, .inl ⟨_, _, rfl, run_takeDeferred hK, ?_⟩⟩
  have hg := grownBy_putObj' Wf D (.deferred none)
  have hr : ∀ r, some D = some r → ∃ o : Obj, Wf.heap[r]? = some o ∧ o.isCells = false := fun r e => by cases e; exact ⟨_, hK, rfl⟩
  have g1 := blk_turn h1 hg hr
  have g2 := blk_turn h2 hg hr
  have c1 : (Wf.putObj D (.deferred none)).cell? ⟨w.heap.size + 1, 0, none⟩ = some v0 := (blk_cell g1 0).trans rfl
  have c2 : (Wf.putObj D (.deferred none)).cell? ⟨w.heap.size + 1 + 1, 0, none⟩ = some (.int .i64 r2) := (blk_cell g2 0).trans rfl
  refine ⟨.tuple #[v0, .int .i64 r2], ?_, ?_⟩
  · simp [results, Try.f18, go_sem, c1, c2, ht2, ht3]
  · rw [← hQ]
    exact ⟨v0, rfl, R_turn hR hg hr, hB.grown hg hB.size (fun k e => by cases e; exact hD)⟩
theorem bad_next (w W : World) (h1 : W.heap[w.heap.size + 1]? = some (.cells #[.slice none 0 0] 30 (0, 0))) (h2 : W.heap[w.heap.size + 1 + 1]? = some (.cells #[.int .i64 0] 31 (0, 0))) (h7 : Below w.heap.size w W) (Wf : World) (hW : Wf = (W.setCell ⟨w.heap.size + 1, 0, none⟩ (.slice none 0 0)).setCell ⟨w.heap.size + 1 + 1, 0, none⟩ (.int .i64 2)) :
    KeepsOthers W Wf ∧ Wf.heap[w.heap.size + 1]? = some (.cells #[.slice none 0 0] 30 (0, 0)) ∧ Wf.heap[w.heap.size + 1 + 1]? = some (.cells #[.int .i64 2] 31 (0, 0)) ∧ Below w.heap.size w Wf := by
  subst hW
  exact ⟨(KeepsOthers.setCell _ _ _).trans (KeepsOthers.setCell _ _ _), blk_far (p := ⟨w.heap.size + 1 + 1, 0, none⟩) (blk_set h1 0 _) (by simp) _, blk_set (blk_far (p := ⟨w.heap.size + 1, 0, none⟩) h2 (by simp) _) 0 _, (h7.setCell (by simp only; omega) _).setCell (by simp only; omega) _⟩
theorem good_next (w W : World) (v : Value) (h1 : W.heap[w.heap.size + 1]? = some (.cells #[.slice none 0 0] 30 (0, 0))) (h2 : W.heap[w.heap.size + 1 + 1]? = some (.cells #[.int .i64 0] 31 (0, 0))) (h7 : Below w.heap.size w W) (r1 : List S42) (hR : Kd.R k42 42 W w.heap.size (fun k => w.heap.size + 8 ≤ k) v r1) (Wf : World) (hW : Wf = (W.setCell ⟨w.heap.size + 1, 0, none⟩ v).setCell ⟨w.heap.size + 1 + 1, 0, none⟩ (.int .i64 0)) :
    KeepsOthers W Wf ∧ Wf.heap[w.heap.size + 1]? = some (.cells #[v] 30 (0, 0)) ∧ Wf.heap[w.heap.size + 1 + 1]? = some (.cells #[.int .i64 0] 31 (0, 0)) ∧ Kd.R k42 42 Wf w.heap.size (fun _ => True) v r1 ∧ Below w.heap.size w Wf := by
  subst hW
  exact ⟨(KeepsOthers.setCell _ _ _).trans (KeepsOthers.setCell _ _ _), blk_far (p := ⟨w.heap.size + 1 + 1, 0, none⟩) (blk_set h1 0 _) (by simp) _, blk_set (blk_far (p := ⟨w.heap.size + 1, 0, none⟩) h2 (by simp) _) 0 _, Kd.R_mono (R_set (R_set hR _ _ (fun k hk => by simp only; omega)) _ _ (fun k hk => by simp only; omega)) (fun _ _ => trivial), (h7.setCell (by simp only; omega) _).setCell (by simp only; omega) _⟩
set_option maxRecDepth 100000 in
set_option maxHeartbeats 4000000 in
theorem unp_walk (k : Nat) (ad : Addr) (c0_0 : Nat) (nums : List Int) (A0_1 : Option Addr) (c0_1 : Nat) (texts : List ByteArray) (w : World) (hr0 : Kd.C (Kd.int .i64) w (some ad) nums.length nums) (hc0 : nums.length ≤ c0_0)
   (m : Nat) (hm : nums.length = 2 * m + 1) (hm64 : m ≤ 64) (h00 : rd nums 0 = m) (ht : texts = []) (r1 : List S42) (r2 : Int)
   (hres1 : (∀ j : Fin m, goodAt nums j.val = true) → ∃ rc, block_Check.f k (unpSt nums (List.finRange m)).1 = some rc ∧ (r1, r2) = if rc = 0 then ((unpSt nums (List.finRange m)).1, (0 : Int)) else ([], 2))
   (hres2 : (∃ j : Fin m, goodAt nums j.val = false) → (r1, r2) = ([], (2 : Int))) :
    Calls Try.prog 18 #[.agg #[.slice (some ad) nums.length c0_0, .slice A0_1 texts.length c0_1]] w fun e w' => ∃ v0_ : Value, e = .returned (.tuple #[v0_, .int .i64 r2]) ∧ Kd.R k42 42 w' w.heap.size (fun _ => True) v0_ r1 ∧ Below w.heap.size w w' := by
  obtain ⟨Q, hQ⟩ : ∃ Q : Ending → World → Prop, (fun e w' => ∃ v0_ : Value, e = .returned (.tuple #[v0_, .int .i64 r2]) ∧ Kd.R k42 42 w' w.heap.size (fun _ => True) v0_ r1 ∧ Below w.heap.size w w') = Q := ⟨_, rfl⟩
  rw [hQ]
  have HQQ := Aside0.mk hQ
  have HRES1 := Aside0.mk hres1
  have HRES2 := Aside0.mk hres2
  clear hQ hres1 hres2
  refine (callsIn_wide (n := 5)).1 ?_
  have hro : Fence.wide.round = none := rfl
  have hfn : ∀ f, Fence.wide.fn f = True := fun _ => eq_true trivial
  refine callsIn_of_wp_marks Try.func18 rfl trivial ?_ hro
  simp only [Try.ntmps18, List.size_toArray, List.length_cons, List.length_nil, Nat.reduceAdd, Nat.reduceSub, Array.replicate_succ, Array.replicate_zero, List.push_toArray, List.append_toArray, List.nil_append, List.cons_append]
  subst ht
  have hu29 := Try.underlying29
  have hu42 := Try.underlying42
  have hc00 : w.cell? ad = some (.int .i64 m) := by
    obtain ⟨ad', e, hx⟩ := Kd.at_int hr0 0 (by omega) (by omega)
    cases e
    rw [h00] at hx
    simpa [Addr.add] using hx
  have hlt := World.block_lt_of_cell? w _ hc00
  have hA : ∀ o1 o2 o3, (((w.alloc o1).alloc o2).alloc o3).cell? ad = some (.int .i64 m) := fun o1 o2 o3 => by
    rw [World.cell?_alloc_lt _ _ _ (by simp; omega), World.cell?_alloc_lt _ _ _ (by simp; omega), World.cell?_alloc_lt _ _ _ hlt, hc00]
  obtain ⟨q, hq⟩ : ∃ q : Int, q = (m : Int) := ⟨_, rfl⟩
  rw [← hq] at hA
  have HQ := Aside0.mk hq
  have t1 : (2 * (m : Int) + 1 == 0) = false := by simp; omega
  have t2 : (2 * (m : Int) + 1) / 2 = q := by omega
  have t3 : decide (64 < q) = false := by simp; omega
  clear hq
  obtain ⟨i0, hi, hz0, hz1, hz2⟩ := info_parts info3
  obtain ⟨A1, hA1, hcut⟩ : ∃ A1 : Option Addr, (m = 0 ∨ A1 = some ⟨ad.block, ad.off + 1, none⟩) ∧ ∀ W : World, (Instr.slice 26 (.slice (some ad) (2 * m + 1) c0_0) (some (.int .i64 1)) none none).run Try.prog W = .ok (.slice A1 (2 * m) (c0_0 - 1)) W := by
    refine ⟨if c0_0 = 1 then some ad else some ⟨ad.block, ad.off + 1, none⟩, ?_, fun W => ?_⟩
    · rcases Nat.eq_zero_or_pos m with h | h
      · exact .inl h
      · exact .inr (if_neg (by omega))
    · have h := cut_from (P := Try.prog) 26 3 .i64 Try.underlying26 hi 1 hz1 (some ad) (2 * m + 1) c0_0 1 (by omega) (by omega) W
      exact h
  have HA1 := Aside0.mk hA1
  clear hi hz0 hz1 hz2 hA1
  clear hc00 h00
  have HLT := Aside0.mk hlt
  have HM := Aside0.mk hm
  have HRR := Aside0.mk hr0
  have HC := Aside0.mk hc0
  have hn1 : nums.length = 2 * m + 1 := hm
  clear hlt hm hr0 hc0
  gi_wp2_with (gi_at_call 47; refine (chunk_in Fence.wide 4 trivial hro _ _ _ _).mono ?_; rintro e w' ⟨rfl, rfl⟩)
  obtain ⟨W0, hW0⟩ : ∃ W0 : World, ((((((((w.alloc (Obj.cells #[Value.slice (some ad) (2 * m + 1) c0_0, Value.slice A0_1 0 c0_1] 29)).alloc (Obj.cells #[Value.slice none 0 0] 30)).alloc (Obj.cells #[Value.int IntKind.i64 0] 31)).alloc (Obj.cells #[Value.slice none 0 0] 30)).alloc (Obj.cells #[Value.int IntKind.i64 0, Value.int IntKind.i64 0] 42)).alloc (Obj.cells #[Value.int IntKind.i64 0, Value.int IntKind.i64 0] 42)).alloc (Obj.cells #[Value.slice A1 (2 * m) (c0_0 - 1)] 26)).alloc (Obj.cells #[Value.int IntKind.i64 2] 3)) = W0 := ⟨_, rfl⟩
  have hsz : W0.heap.size = w.heap.size + 8 := by rw [← hW0]; simp
  have hB0 : Below w.heap.size w W0 := by
    rw [← hW0]
    exact ((((((((Below.refl _ w).alloc (Nat.le_refl _) _).alloc (by simp) _).alloc (by simp; omega) _).alloc (by simp; omega) _).alloc (by simp; omega) _).alloc (by simp; omega) _).alloc (by simp; omega) _).alloc (by simp; omega) _
  have hI0 : UI w nums (m := m) [] W0 := by
    rw [← hW0]
    refine ⟨fun j hj => by simp at hj, ?_, ?_, ?_, ?_, ⟨.slice none 0 0, ?_, Kd.R_nil _ _ _ _ _⟩, by rw [hW0]; exact hB0, by rw [hW0, hsz]; exact Nat.le_refl _⟩
    all_goals (repeat (first | (refine heap_new_at _ _ _ ?_; simp; done) | refine heap_old_at _ _ _ _ ?_))
  have hcs : W0.cell? ⟨w.heap.size + 1 + 1 + 1 + 1 + 1 + 1, 0, none⟩ = some (.slice A1 (2 * m) (c0_0 - 1)) := by
    have hb : W0.heap[w.heap.size + 1 + 1 + 1 + 1 + 1 + 1]? = some (.cells #[.slice A1 (2 * m) (c0_0 - 1)] 26 (0, 0)) := by
      rw [← hW0]
      repeat (first | (refine heap_new_at _ _ _ ?_; simp; done) | refine heap_old_at _ _ _ _ ?_)
    exact (blk_cell hb 0).trans rfl
  have hcn : W0.cell? ⟨w.heap.size + 1 + 1 + 1 + 1 + 1 + 1 + 1, 0, none⟩ = some (.int .i64 2) := by
    have hb : W0.heap[w.heap.size + 1 + 1 + 1 + 1 + 1 + 1 + 1]? = some (.cells #[.int .i64 2] 3 (0, 0)) := by
      rw [← hW0]
      repeat (first | (refine heap_new_at _ _ _ ?_; simp; done) | refine heap_old_at _ _ _ _ ?_)
    exact (blk_cell hb 0).trans rfl
  have hsv : ChunkOf m (.slice A1 (2 * m) (c0_0 - 1)) ad.block (ad.off + 1) := by
    have := HC.out
    have hm := HM.out
    rcases HA1.out with h | h
    · subst h; exact .inl ⟨rfl, _, _, rfl⟩
    · subst h; exact .inr ⟨_, rfl, by omega⟩
  have HSZ := Aside0.mk hsz
  rw [hW0]
  clear hW0 hsz
  refine wpIn_rangeFunc_ownF hro (by omega) (gf := 56) (lb := #[.pointer (some ⟨w.heap.size + 1 + 1 + 1 + 1 + 1 + 1, 0, none⟩), .pointer (some ⟨w.heap.size + 1 + 1 + 1 + 1 + 1 + 1 + 1, 0, none⟩)]) rfl trivial (enters_of Try.func56 (by kernel_rfl) rfl)
    (chunk_stops Fence.wide 4 trivial hro (by omega) _ _ ad.block (ad.off + 1) m (by omega) _ hsv W0 (by have := HSZ.out; omega) (by have := HSZ.out; omega) hcs hcn) keepsTwo_t (keepsTwo_b (by have := HSZ.out; omega) (by have := HSZ.out; omega)) (Below.refl _ _) (fun _ => rfl)
    (UI w nums) (UX w nums) (UI_own w nums _ hB0.size) (UX_own w nums _ hB0.size) hI0
    (fun x => { tmps := #[Value.agg #[Value.slice (some ad) (2 * m + 1) c0_0, Value.slice A0_1 0 c0_1], Value.pointer (some { block := w.heap.size, off := 0 }), Value.pointer (some { block := w.heap.size + 1, off := 0 }), Value.pointer (some { block := w.heap.size + 1 + 1, off := 0 }), Value.int IntKind.i64 (2 * (m : Int) + 1), Value.pointer (some { block := w.heap.size + 1 + 1 + 1, off := 0 }), Value.pointer (some { block := w.heap.size + 1 + 1 + 1 + 1, off := 0 }), Value.pointer (some { block := w.heap.size + 1 + 1 + 1 + 1 + 1, off := 0 }), Value.slice (some { block := ad.block, off := ad.off + 1 + 2 * x.val }) 2 2, undef, Value.pointer (some { block := w.heap.size, off := 0 }), Value.slice (some ad) (2 * m + 1) c0_0, Value.int IntKind.i64 (2 * (m : Int) + 1), Value.int IntKind.i64 (2 * (m : Int) + 1), Value.bool false, Value.bool false, Value.int IntKind.i64 (2 * (m : Int) + 1), Value.int IntKind.i64 1, Value.bool false, Value.bool false, Value.bool false, Value.pointer (some { block := w.heap.size, off := 0 }), Value.slice (some ad) (2 * m + 1) c0_0, Value.pointer (some ad), Value.int IntKind.i64 q, Value.int IntKind.i64 (2 * (m : Int) + 1), Value.int IntKind.i64 q, Value.bool false, Value.bool false, Value.bool false, Value.pointer (some { block := w.heap.size, off := 1 }), Value.slice A0_1 0 c0_1, Value.int IntKind.i64 0, Value.bool false, Value.bool false, Value.bool false, Value.int IntKind.i64 (2 * (m : Int) + 1), Value.int IntKind.i64 q, Value.bool false, Value.bool false, Value.pointer (some { block := w.heap.size, off := 0 }), Value.slice (some ad) (2 * m + 1) c0_0, Value.slice A1 (2 * m) (c0_0 - 1), Value.func (Fn.func 56) #[] #[Value.pointer (some { block := w.heap.size + 1 + 1 + 1 + 1 + 1 + 1, off := 0 }), Value.pointer (some { block := w.heap.size + 1 + 1 + 1 + 1 + 1 + 1 + 1, off := 0 })], Value.slice (some { block := ad.block, off := ad.off + 1 + 2 * x.val }) 2 2, undef, undef, undef, undef, undef, undef, undef, undef, undef, undef, undef, undef, undef, undef, undef, undef, undef, undef, undef, undef, undef, undef, undef, undef, undef, undef, undef, undef, undef, undef, undef, undef, undef, undef, undef, undef, undef, undef, undef, undef, undef, undef, undef, undef, undef, undef, undef, undef], defers := [] }) ?assign ?body ?done ?stop
  case assign =>
    intro l x W K hK
    gi_wp2
    exact hK
  case body =>
    rintro l pre x W ⟨hgd, h1, h2, h3, h4, ⟨v, h5, h6⟩, h7, h8⟩ hlt
    have H8 := Aside0.mk h8
    clear h8
    have d1 : 1 ≤ 5 - 1 - 1 := by omega
    have hx := x.isLt
    have hm := HM.out
    have hC := Kd.C_below HRR.out h7
    obtain ⟨a, ha⟩ : ∃ a : Int, a = numA nums x.val := ⟨_, rfl⟩
    obtain ⟨b, hb⟩ : ∃ b : Int, b = numB nums x.val := ⟨_, rfl⟩
    have ca : W.cell? ⟨ad.block, ad.off + 1 + 2 * x.val, none⟩ = some (.int .i64 a) := by
      obtain ⟨ad', e, hx'⟩ := Kd.at_int hC ((1 + 2 * x.val : Nat) : Int) (by omega) (by omega)
      cases e
      rw [Int.toNat_natCast] at hx'
      rw [ha]
      unfold numA
      rw [← hx']
      congr 1
      unfold Addr.add
      rw [if_neg (by omega)]
      simp [Nat.add_assoc]
    have cb : W.cell? ⟨ad.block, ad.off + 1 + 2 * x.val + 1, none⟩ = some (.int .i64 b) := by
      obtain ⟨ad', e, hx'⟩ := Kd.at_int hC ((2 + 2 * x.val : Nat) : Int) (by omega) (by omega)
      cases e
      rw [Int.toNat_natCast] at hx'
      rw [hb]
      unfold numB
      rw [← hx']
      congr 1
      unfold Addr.add
      rw [if_neg (by omega)]
      simp [Nat.add_assoc]
    have HA := Aside0.mk ha
    have HBb := Aside0.mk hb
    have H1 := Aside0.mk h1
    have H2 := Aside0.mk h2
    have H3 := Aside0.mk h3
    have H4 := Aside0.mk h4
    have H5 := Aside0.mk h5
    have H6 := Aside0.mk h6
    have H7 := Aside0.mk h7
    have HG := Aside0.mk hgd
    have c10 : W.cell? ⟨w.heap.size + 1, 0, none⟩ = some (.slice none 0 0) := (blk_cell h1 0).trans rfl
    have f10 := blk_frozen h1 0
    have c20 : W.cell? ⟨w.heap.size + 1 + 1, 0, none⟩ = some (.int .i64 0) := (blk_cell h2 0).trans rfl
    have f20 := blk_frozen h2 0
    generalize hz : unpSt nums pre = z at h3 h4 h6
    have HZ := Aside0.mk hz
    have c30 : W.cell? ⟨w.heap.size + 1 + 1 + 1, 0, none⟩ = some v := (blk_cell h5 0).trans rfl
    have f30 := blk_frozen h5 0
    have c40 : W.cell? ⟨w.heap.size + 1 + 1 + 1 + 1, 0, none⟩ = some (.int .i64 z.2.1.f0) := (blk_cell h3 0).trans rfl
    have c41 : W.cell? ⟨w.heap.size + 1 + 1 + 1 + 1, 1, none⟩ = some (.int .i64 z.2.1.f1) := (blk_cell h3 1).trans rfl
    have f40 := blk_frozen h3 0
    have f41 := blk_frozen h3 1
    have c50 : W.cell? ⟨w.heap.size + 1 + 1 + 1 + 1 + 1, 0, none⟩ = some (.int .i64 z.2.2.f0) := (blk_cell h4 0).trans rfl
    have c51 : W.cell? ⟨w.heap.size + 1 + 1 + 1 + 1 + 1, 1, none⟩ = some (.int .i64 z.2.2.f1) := (blk_cell h4 1).trans rfl
    have f50 := blk_frozen h4 0
    have f51 := blk_frozen h4 1
    clear ha hb hz h1 h2 h3 h4 h5 h6 h7 hgd hC hm
    have calla := fun W => (callsIn_wide (n := 2)).2 (block_in_eq a W)
    have callb := fun W => (callsIn_wide (n := 2)).2 (block_in_eq b W)
    have CA := Aside0.mk calla
    have CB := Aside0.mk callb
    clear calla callb
    cases ga : inB a with
    | false =>
      have GA := Aside0.mk ga
      gi_wp2_with (gi_at_call 48; refine (CallsIn.inRound l (CA.out _)).mono ?_; rintro e w' ⟨rfl, rfl⟩)
      exact ux_bad w w' nums pre x (by unfold goodAt; rw [← HA.out, GA.out]; rfl) H1.out H2.out H7.out
    | true =>
      have GA := Aside0.mk ga
      cases gb : inB b with
      | false =>
        have GB := Aside0.mk gb
        gi_wp2_with (first
          | (gi_at_call 48; refine (CallsIn.inRound l (CA.out _)).mono ?_; rintro e w' ⟨rfl, rfl⟩; clear CA)
          | (gi_at_call 48; refine (CallsIn.inRound l (CB.out _)).mono ?_; rintro e w' ⟨rfl, rfl⟩))
        exact ux_bad w w' nums pre x (by unfold goodAt; rw [← HA.out, ← HBb.out, GA.out, GB.out]; rfl) H1.out H2.out H7.out
      | true =>
        have GB := Aside0.mk gb
        gi_wp2_with (first
          | (gi_at_call 48; refine (CallsIn.inRound l (CA.out _)).mono ?_; rintro e w' ⟨rfl, rfl⟩; clear CA)
          | (gi_at_call 48; refine (CallsIn.inRound l (CB.out _)).mono ?_; rintro e w' ⟨rfl, rfl⟩))
        refine wpIn_region_heldF (fun V => V.cell? ⟨ad.block, ad.off + 1 + 2 * x.val, none⟩ = some (.int .i64 a) ∧ V.cell? ⟨ad.block, ad.off + 1 + 2 * x.val + 1, none⟩ = some (.int .i64 b) ∧ V.cell? ⟨w.heap.size + 1 + 1 + 1 + 1 + 1, 0, none⟩ = some (.int .i64 z.2.2.f0) ∧ V.cell? ⟨w.heap.size + 1 + 1 + 1 + 1 + 1, 1, none⟩ = some (.int .i64 z.2.2.f1)) (by kernel_rfl) ?_
        have hS : (w'.drew).cell? ⟨ad.block, ad.off + 1 + 2 * x.val, none⟩ = some (.int .i64 a) ∧ (w'.drew).cell? ⟨ad.block, ad.off + 1 + 2 * x.val + 1, none⟩ = some (.int .i64 b) ∧ (w'.drew).cell? ⟨w.heap.size + 1 + 1 + 1 + 1 + 1, 0, none⟩ = some (.int .i64 z.2.2.f0) ∧ (w'.drew).cell? ⟨w.heap.size + 1 + 1 + 1 + 1 + 1, 1, none⟩ = some (.int .i64 z.2.2.f1) := ⟨ca, cb, c50, c51⟩
        apply cut_by
        case main =>
          intro hc
          go_simp
          (refine wpAnyHeld_take (i := 0) (v := .pointer (some ⟨w.heap.size + 1 + 1 + 1 + 1 + 1, 0, none⟩)) (by intro j o ho c; have := List.mem_of_getElem? ((Array.getElem?_toList ..).trans ho); simp at this; rcases this with rfl | rfl | rfl | rfl | rfl | rfl | rfl | rfl | rfl | rfl | rfl | rfl | rfl | rfl | rfl <;> simp) rfl (by kernel_rfl) (by kernel_rfl) (by kernel_rfl) (fun _ _ _ h => h) ⟨.inl ⟨by rfl, ?_⟩, fun _ => rfl⟩ hS ?_; (focus (rintro w0 ⟨s1, s2, s3, s4⟩; go_simp; done)); go_simp)
          (refine wpAnyHeld_take (i := 1) (v := .int .i64 z.2.2.f0) (by intro j o ho c; have := List.mem_of_getElem? ((Array.getElem?_toList ..).trans ho); simp at this; rcases this with rfl | rfl | rfl | rfl | rfl | rfl | rfl | rfl | rfl | rfl | rfl | rfl | rfl | rfl | rfl <;> simp) rfl (by kernel_rfl) (by kernel_rfl) (by kernel_rfl) (fun _ _ _ h => h) ⟨.inl ⟨by rfl, ?_⟩, fun _ => rfl⟩ hS ?_; (focus (rintro w0 ⟨s1, s2, s3, s4⟩; go_simp; done)); go_simp)
          (refine wpAnyHeld_take (i := 2) (v := .slice (some ⟨ad.block, ad.off + 1 + 2 * x.val, none⟩) 2 2) (by intro j o ho c; have := List.mem_of_getElem? ((Array.getElem?_toList ..).trans ho); simp at this; rcases this with rfl | rfl | rfl | rfl | rfl | rfl | rfl | rfl | rfl | rfl | rfl | rfl | rfl | rfl | rfl <;> simp) rfl (by kernel_rfl) (by kernel_rfl) (by kernel_rfl) (fun _ _ _ h => h) ⟨.inl ⟨by rfl, ?_⟩, fun _ => rfl⟩ hS ?_; (focus (rintro w0 ⟨s1, s2, s3, s4⟩; go_simp; done)); go_simp)
          (refine wpAnyHeld_take (i := 3) (v := .pointer (some ⟨ad.block, ad.off + 1 + 2 * x.val, none⟩)) (by intro j o ho c; have := List.mem_of_getElem? ((Array.getElem?_toList ..).trans ho); simp at this; rcases this with rfl | rfl | rfl | rfl | rfl | rfl | rfl | rfl | rfl | rfl | rfl | rfl | rfl | rfl | rfl <;> simp) rfl (by kernel_rfl) (by kernel_rfl) (by kernel_rfl) (fun _ _ _ h => h) ⟨.inl ⟨by rfl, ?_⟩, fun _ => rfl⟩ hS ?_; (focus (rintro w0 ⟨s1, s2, s3, s4⟩; go_simp; done)); go_simp)
          (refine wpAnyHeld_take (i := 4) (v := .int .i64 a) (by intro j o ho c; have := List.mem_of_getElem? ((Array.getElem?_toList ..).trans ho); simp at this; rcases this with rfl | rfl | rfl | rfl | rfl | rfl | rfl | rfl | rfl | rfl | rfl | rfl | rfl | rfl | rfl <;> simp) rfl (by kernel_rfl) (by kernel_rfl) (by kernel_rfl) (fun _ _ _ h => h) ⟨.inl ⟨by rfl, ?_⟩, fun _ => rfl⟩ hS ?_; (focus (rintro w0 ⟨s1, s2, s3, s4⟩; go_simp; done)); go_simp)
          (refine wpAnyHeld_take (i := 5) (v := .int .i64 (IntKind.i64.wrap (z.2.2.f0 + a))) (by intro j o ho c; have := List.mem_of_getElem? ((Array.getElem?_toList ..).trans ho); simp at this; rcases this with rfl | rfl | rfl | rfl | rfl | rfl | rfl | rfl | rfl | rfl | rfl | rfl | rfl | rfl | rfl <;> simp) rfl (by kernel_rfl) (by kernel_rfl) (by kernel_rfl) (fun _ _ _ h => h) ⟨.inl ⟨by rfl, ?_⟩, fun _ => rfl⟩ hS ?_; (focus (rintro w0 ⟨s1, s2, s3, s4⟩; go_simp; done)); go_simp)
          (refine wpAnyHeld_take (i := 6) (v := .pointer (some ⟨w.heap.size + 1 + 1 + 1 + 1 + 1, 1, none⟩)) (by intro j o ho c; have := List.mem_of_getElem? ((Array.getElem?_toList ..).trans ho); simp at this; rcases this with rfl | rfl | rfl | rfl | rfl | rfl | rfl | rfl | rfl | rfl | rfl | rfl | rfl | rfl | rfl <;> simp) rfl (by kernel_rfl) (by kernel_rfl) (by kernel_rfl) (fun _ _ _ h => h) ⟨.inl ⟨by rfl, ?_⟩, fun _ => rfl⟩ hS ?_; (focus (rintro w0 ⟨s1, s2, s3, s4⟩; go_simp; done)); go_simp)
          (refine wpAnyHeld_take (i := 7) (v := .int .i64 z.2.2.f1) (by intro j o ho c; have := List.mem_of_getElem? ((Array.getElem?_toList ..).trans ho); simp at this; rcases this with rfl | rfl | rfl | rfl | rfl | rfl | rfl | rfl | rfl | rfl | rfl | rfl | rfl | rfl | rfl <;> simp) rfl (by kernel_rfl) (by kernel_rfl) (by kernel_rfl) (fun _ _ _ h => h) ⟨.inl ⟨by rfl, ?_⟩, fun _ => rfl⟩ hS ?_; (focus (rintro w0 ⟨s1, s2, s3, s4⟩; go_simp; done)); go_simp)
          (refine wpAnyHeld_take (i := 8) (v := .slice (some ⟨ad.block, ad.off + 1 + 2 * x.val, none⟩) 2 2) (by intro j o ho c; have := List.mem_of_getElem? ((Array.getElem?_toList ..).trans ho); simp at this; rcases this with rfl | rfl | rfl | rfl | rfl | rfl | rfl | rfl | rfl | rfl | rfl | rfl | rfl | rfl | rfl <;> simp) rfl (by kernel_rfl) (by kernel_rfl) (by kernel_rfl) (fun _ _ _ h => h) ⟨.inl ⟨by rfl, ?_⟩, fun _ => rfl⟩ hS ?_; (focus (rintro w0 ⟨s1, s2, s3, s4⟩; go_simp; done)); go_simp)
          (refine wpAnyHeld_take (i := 9) (v := .pointer (some ⟨ad.block, ad.off + 1 + 2 * x.val + 1, none⟩)) (by intro j o ho c; have := List.mem_of_getElem? ((Array.getElem?_toList ..).trans ho); simp at this; rcases this with rfl | rfl | rfl | rfl | rfl | rfl | rfl | rfl | rfl | rfl | rfl | rfl | rfl | rfl | rfl <;> simp) rfl (by kernel_rfl) (by kernel_rfl) (by kernel_rfl) (fun _ _ _ h => h) ⟨.inl ⟨by rfl, ?_⟩, fun _ => rfl⟩ hS ?_; (focus (rintro w0 ⟨s1, s2, s3, s4⟩; go_simp; done)); go_simp)
          (refine wpAnyHeld_take (i := 10) (v := .int .i64 b) (by intro j o ho c; have := List.mem_of_getElem? ((Array.getElem?_toList ..).trans ho); simp at this; rcases this with rfl | rfl | rfl | rfl | rfl | rfl | rfl | rfl | rfl | rfl | rfl | rfl | rfl | rfl | rfl <;> simp) rfl (by kernel_rfl) (by kernel_rfl) (by kernel_rfl) (fun _ _ _ h => h) ⟨.inl ⟨by rfl, ?_⟩, fun _ => rfl⟩ hS ?_; (focus (rintro w0 ⟨s1, s2, s3, s4⟩; go_simp; done)); go_simp)
          (refine wpAnyHeld_take (i := 11) (v := .int .i64 (IntKind.i64.wrap (z.2.2.f1 + b))) (by intro j o ho c; have := List.mem_of_getElem? ((Array.getElem?_toList ..).trans ho); simp at this; rcases this with rfl | rfl | rfl | rfl | rfl | rfl | rfl | rfl | rfl | rfl | rfl | rfl | rfl | rfl | rfl <;> simp) rfl (by kernel_rfl) (by kernel_rfl) (by kernel_rfl) (fun _ _ _ h => h) ⟨.inl ⟨by rfl, ?_⟩, fun _ => rfl⟩ hS ?_; (focus (rintro w0 ⟨s1, s2, s3, s4⟩; go_simp; done)); go_simp)
          (refine wpAnyHeld_take (i := 12) (v := .agg #[.int .i64 (IntKind.i64.wrap (z.2.2.f0 + a)), .int .i64 (IntKind.i64.wrap (z.2.2.f1 + b))]) (by intro j o ho c; have := List.mem_of_getElem? ((Array.getElem?_toList ..).trans ho); simp at this; rcases this with rfl | rfl | rfl | rfl | rfl | rfl | rfl | rfl | rfl | rfl | rfl | rfl | rfl | rfl | rfl <;> simp) rfl (by kernel_rfl) (by kernel_rfl) (by kernel_rfl) (fun _ _ _ h => h) ⟨.inl ⟨by rfl, ?_⟩, fun _ => rfl⟩ hS ?_; (focus (rintro w0 ⟨s1, s2, s3, s4⟩; go_simp; done)); go_simp)
          have ca' := fun o : Obj => (World.cell?_alloc_lt w' o _ (World.block_lt_of_cell? w' _ ca)).trans ca
          have cb' := fun o : Obj => (World.cell?_alloc_lt w' o _ (World.block_lt_of_cell? w' _ cb)).trans cb
          have c50' := fun o : Obj => (World.cell?_alloc_lt w' o _ (World.block_lt_of_cell? w' _ c50)).trans c50
          have c51' := fun o : Obj => (World.cell?_alloc_lt w' o _ (World.block_lt_of_cell? w' _ c51)).trans c51
          refine wpAnyHeld_one (i := 13) (by kernel_rfl) rfl rfl (fun K hK => ?_)
          go_simp
          refine hK _ _ ⟨ca' _, cb' _, c50' _, c51' _⟩ ?_
          clear hK K
          go_simp
          refine wpAnyHeld_one (i := 14) (by kernel_rfl) rfl rfl (fun K hK => ?_)
          go_simp
          refine hK _ _ ⟨ca' _, cb' _, c50' _, c51' _⟩ ?_
          clear hK K
          go_simp
          refine wpAnyHeld_done (by kernel_rfl) ?_ _
          exact hc
        case cont =>
          clear ca cb c50 c51 c10 f10 c20 f20 c30 f30 c40 c41 f40 f41 f50 f51 hS
          obtain ⟨A, hA'⟩ : ∃ A : Int, A = IntKind.i64.wrap (z.2.2.f0 + a) := ⟨_, rfl⟩
          obtain ⟨B, hB'⟩ : ∃ B : Int, B = IntKind.i64.wrap (z.2.2.f1 + b) := ⟨_, rfl⟩
          rw [← hA', ← hB']
          have HA' := Aside0.mk hA'
          have HB' := Aside0.mk hB'
          clear hA' hB'
          obtain ⟨V, hV⟩ : ∃ V : World, (w'.alloc (Obj.cells #[.int .i64 A, .int .i64 B] 42)).drew = V := ⟨_, rfl⟩
          have gV : w'.grownBy V none := by rw [← hV]; exact World.grownBy.trans (World.grownBy_alloc w' (Obj.cells #[.int .i64 A, .int .i64 B] 42) none) ⟨rfl, rfl, rfl, Nat.le_refl _, fun _ _ _ => rfl⟩
          obtain ⟨N, hN⟩ : ∃ N : Nat, w'.heap.size = N := ⟨_, rfl⟩
          have bN : V.heap[N]? = some (.cells #[.int .i64 A, .int .i64 B] 42 (0, 0)) := by rw [← hV, ← hN]; exact World.alloc_heap_new w' (Obj.cells #[.int .i64 A, .int .i64 B] 42)
          have sN : V.heap.size = N + 1 := by rw [← hV, ← hN]; exact World.size_alloc w' (Obj.cells #[.int .i64 A, .int .i64 B] 42)
          have b1 := blk_grown H1.out gV (by simp)
          have b2 := blk_grown H2.out gV (by simp)
          have b3 := blk_grown H5.out gV (by simp)
          have b4 := blk_grown H3.out gV (by simp)
          have b5 := blk_grown H4.out gV (by simp)
          have lN : w.heap.size + 1 + 1 + 1 + 1 + 1 < N := by rw [← hN]; exact blk_lt H4.out
          rw [HZ.out] at b4 b5
          have n3 : w.heap.size + 1 + 1 + 1 ≠ N := by omega
          have n4 : w.heap.size + 1 + 1 + 1 + 1 ≠ N := by omega
          have n5 : w.heap.size + 1 + 1 + 1 + 1 + 1 ≠ N := by omega
          have m3 := n3.symm
          have m4 := n4.symm
          have m5 := n5.symm
          have GV := Aside0.mk gV
          have SN := Aside0.mk sN
          have LN := Aside0.mk lN
          rw [hV, hN]
          have HN := Aside0.mk hN
          clear hV gV hN sN lN
          have c30 : V.cell? ⟨w.heap.size + 1 + 1 + 1, 0, none⟩ = some (v) := (blk_cell b3 0).trans rfl
          have f30 := blk_frozen b3 0
          have c40 : V.cell? ⟨w.heap.size + 1 + 1 + 1 + 1, 0, none⟩ = some (.int .i64 z.2.1.f0) := (blk_cell b4 0).trans rfl
          have f40 := blk_frozen b4 0
          have c41 : V.cell? ⟨w.heap.size + 1 + 1 + 1 + 1, 1, none⟩ = some (.int .i64 z.2.1.f1) := (blk_cell b4 1).trans rfl
          have f41 := blk_frozen b4 1
          have c50 : V.cell? ⟨w.heap.size + 1 + 1 + 1 + 1 + 1, 0, none⟩ = some (.int .i64 z.2.2.f0) := (blk_cell b5 0).trans rfl
          have f50 := blk_frozen b5 0
          have c51 : V.cell? ⟨w.heap.size + 1 + 1 + 1 + 1 + 1, 1, none⟩ = some (.int .i64 z.2.2.f1) := (blk_cell b5 1).trans rfl
          have f51 := blk_frozen b5 1
          have cN0 : V.cell? ⟨N, 0, none⟩ = some (.int .i64 A) := (blk_cell bN 0).trans rfl
          have fN0 := blk_frozen bN 0
          have cN1 : V.cell? ⟨N, 1, none⟩ = some (.int .i64 B) := (blk_cell bN 1).trans rfl
          have fN1 := blk_frozen bN 1
          have B1 := Aside0.mk b1
          have B2 := Aside0.mk b2
          have B3 := Aside0.mk b3
          have B4 := Aside0.mk b4
          have B5 := Aside0.mk b5
          have BN := Aside0.mk bN
          clear b1 b2 b3 b4 b5 bN
          gi_wp2_with (
            gi_at_builtin
            refine R_append_in k42 (w0 := w) w.heap.size rfl (.tmp 81) (.tmp 83) 30 42 (.agg #[.int .i64 0, .int .i64 0]) 16 rfl Try.underlying30 info42 rfl (by decide) (by decide) v z.1 (⟨wrap64 (z.2.1.f0 + A), wrap64 (z.2.1.f1 + B)⟩ : S42) [.int .i64 (wrap64 (z.2.1.f0 + A)), .int .i64 (wrap64 (z.2.1.f1 + B))] (fun k => w.heap.size + 8 ≤ k) (fun _ => False) rfl (by simp; rfl) (k42_mkM _ _ _ (⟨wrap64 (z.2.1.f0 + A), wrap64 (z.2.1.f1 + B)⟩ : S42)) (fun _ h => h.elim) ?fresh ?own ?bel ?base ?len ?_
            (case fresh => intro k hk; have h1 := H8.out; have h2 := SN.out; have h3 := HN.out; simp at hk; omega)
            (case own => have h := H6.out; rw [HZ.out] at h; exact R_set (R_set (R_turn h GV.out (by simp)) _ _ (fun k hk => by simp only; omega)) _ _ (fun k hk => by simp only; omega))
            (case bel => exact ((H7.out.grown GV.out H7.out.size (by simp)).setCell (by simp only; omega) _).setCell (by simp only; omega) _)
            (case base => have h1 := H8.out; have h2 := SN.out; have h3 := HN.out; simp; omega)
            (case len => have h := unpSt_len nums pre; rw [HZ.out] at h; omega)
            intro v1 w1 hr1 hb1 hg1 hat1
            go_loud (
              have hrow : ∀ k, v.ownBlock = some k → w.heap.size + 8 ≤ k ∧ k < N ∧ ∃ o, w'.heap[k]? = some o ∧ o.isCells = true := by
                intro k hk
                obtain ⟨h1, h2, h3, q, hq, cells, h4⟩ := (Kd.R_bound H6.out).1 k hk
                exact ⟨h1, by rw [← HN.out]; exact h3, _, h4, rfl⟩
              have no : ∀ k, k < w.heap.size + 8 ∨ N ≤ k → some k ≠ v.ownBlock := fun k hk e => by
                have := hrow k e.symm
                omega
              obtain ⟨V2, hV2⟩ : ∃ V2 : World, (V.setCell ⟨w.heap.size + 1 + 1 + 1 + 1, 0, none⟩ (.int .i64 (wrap64 (z.2.1.f0 + A)))).setCell ⟨w.heap.size + 1 + 1 + 1 + 1, 1, none⟩ (.int .i64 (wrap64 (z.2.1.f1 + B))) = V2 := ⟨_, rfl⟩
              rw [hV2] at hg1 hat1
              have KV : KeepsOthers w' V2 := by rw [← hV2]; exact ((KeepsOthers.of_grownBy GV.out (by simp)).trans (KeepsOthers.setCell _ _ _)).trans (KeepsOthers.setCell _ _ _)
              have hV2o : ∀ k, k ≠ w.heap.size + 1 + 1 + 1 + 1 → V2.heap[k]? = V.heap[k]? := fun k hk => by
                rw [← hV2]
                exact (Below.heap_setCell _ ⟨w.heap.size + 1 + 1 + 1 + 1, 1, none⟩ _ k hk).trans (Below.heap_setCell _ ⟨w.heap.size + 1 + 1 + 1 + 1, 0, none⟩ _ k hk)
              have hVo : ∀ k, k < N → V.heap[k]? = w'.heap[k]? := fun k hk => GV.out.block k (by rw [HN.out]; exact hk) (by simp)
              have s2 : V2.heap.size = N + 1 := by rw [← hV2]; simpa using SN.out
              have ho : ∀ k, k < w.heap.size + 8 ∨ N ≤ k → k < N + 1 → k ≠ w.heap.size + 1 + 1 + 1 + 1 → w1.heap[k]? = V.heap[k]? := fun k hk hk2 hk4 =>
                (hg1.block k (by rw [s2]; exact hk2) (no k hk)).trans (hV2o k hk4)
              have l8 := H8.out
              rw [HN.out] at l8
              have g1 := (ho _ (by omega) (by omega) (by omega)).trans B1.out
              have g2 := (ho _ (by omega) (by omega) (by omega)).trans B2.out
              have g3 := (ho _ (by omega) (by omega) (by omega)).trans B3.out
              have g5 := (ho _ (by omega) (by omega) (by omega)).trans B5.out
              have gN := (ho _ (by omega) (by omega) (by omega)).trans BN.out
              have g4 : w1.heap[w.heap.size + 1 + 1 + 1 + 1]? = some (.cells #[.int .i64 (wrap64 (z.2.1.f0 + A)), .int .i64 (wrap64 (z.2.1.f1 + B))] 42 (0, 0)) := by
                refine (hg1.block _ (by rw [s2]; omega) (no _ (by omega))).trans ?_
                rw [← hV2]
                exact blk_set (blk_set B4.out 0 _) 1 _
              have g6 := (ho (w.heap.size + 1 + 1 + 1 + 1 + 1 + 1) (by omega) (by omega) (by omega)).trans (hVo _ (by omega))
              have g7 := (ho (w.heap.size + 1 + 1 + 1 + 1 + 1 + 1 + 1) (by omega) (by omega) (by omega)).trans (hVo _ (by omega))
              have K1 : KeepsOthers w' w1 := KV.trans (KeepsOthers.of_grownBy hg1 (fun j o e hj => by
                obtain ⟨h1, h2, o', h3, h4⟩ := hrow j e
                rw [hV2o j (by omega), hVo j h2, h3] at hj
                injection hj with hj
                rw [← hj]
                exact h4))
              have s1 : w.heap.size + 8 ≤ w1.heap.size := by have := hg1.size; omega
              have UN := ui_next w w' w1 nums pre x A B (wrap64 (z.2.1.f0 + A)) (wrap64 (z.2.1.f1 + B)) v v1 (by rw [HZ.out, ← HA.out]; exact HA'.out.trans (IntWalk.i64_left _)) (by rw [HZ.out, ← HBb.out]; exact HB'.out.trans (IntWalk.i64_left _)) (by rw [HZ.out]) (by rw [HZ.out]) HG.out (by unfold goodAt; rw [← HA.out, ← HBb.out, GA.out, GB.out]; rfl) K1 g1 g2 g3 g4 (by rw [HZ.out]; exact g5) g6 g7 (by rw [HZ.out]; exact hr1) hb1 s1
              rw [HZ.out] at UN
              have UNA := Aside0.mk UN
              have e3 := blk_frozen g3 0
              have e50 := blk_frozen g5 0
              have e51 := blk_frozen g5 1
              have e30 : w1.cell? ⟨w.heap.size + 1 + 1 + 1, 0, none⟩ = some v := (blk_cell g3 0).trans rfl
              have e500 : w1.cell? ⟨w.heap.size + 1 + 1 + 1 + 1 + 1, 0, none⟩ = some (.int .i64 z.2.2.f0) := (blk_cell g5 0).trans rfl
              have e501 : w1.cell? ⟨w.heap.size + 1 + 1 + 1 + 1 + 1, 1, none⟩ = some (.int .i64 z.2.2.f1) := (blk_cell g5 1).trans rfl
              have eN0 : w1.cell? ⟨N, 0, none⟩ = some (.int .i64 A) := (blk_cell gN 0).trans rfl
              have eN1 : w1.cell? ⟨N, 1, none⟩ = some (.int .i64 B) := (blk_cell gN 1).trans rfl
              obtain ⟨A2, c2, hv1⟩ := Kd.R_slice hr1
              obtain ⟨L, hL⟩ : ∃ L : Nat, L = (z.1 ++ [(⟨wrap64 (z.2.1.f0 + A), wrap64 (z.2.1.f1 + B)⟩ : S42)]).length := ⟨_, rfl⟩
              rw [← hL] at hv1
              have hLL : L = z.1.length + 1 := by rw [hL]; simp
              have LL := Aside0.mk hLL
              clear hr1 hb1 hg1 hat1 hrow no hV2 KV hV2o hVo s2 ho l8 g1 g2 g3 g5 gN g4 g6 g7 K1 s1 UN hL hLL
              subst hv1)
            cases hd : decide (1 < (L : Int)))
          all_goals (first
            | exact UNA.out.2 _ (by have := LL.out; have := of_decide_eq_true hd; omega) rfl
            | exact UNA.out.1 _ (by have := LL.out; have := of_decide_eq_false hd; omega) rfl)
  case done =>
    intro D xs W hDD hxs hI hK
    have HDD := Aside0.mk hDD
    have hxs : xs = List.finRange m := hxs
    subst hxs
    obtain ⟨hgd, h1, h2, h3, h4, ⟨v, h5, h6⟩, h7, h8⟩ := hI
    obtain ⟨rc, hck, hr⟩ := HRES1.out (fun j => hgd j (List.mem_finRange j))
    have c30 : W.cell? ⟨w.heap.size + 1 + 1 + 1, 0, none⟩ = some v := (blk_cell h5 0).trans rfl
    have f10 := blk_frozen h1 0
    have f20 := blk_frozen h2 0
    obtain ⟨A3, c3, hv, hc3, hC3⟩ := Kd.R_reads h6
    subst hv
    have callc := (callsIn_wide (n := 4)).2 (block_Check.calls k A3 c3 _ rc W hC3 hc3 hck)
    have HCC := Aside0.mk callc
    have H1 := Aside0.mk h1
    have H2 := Aside0.mk h2
    have H5 := Aside0.mk h5
    have H6 := Aside0.mk h6
    have H7 := Aside0.mk h7
    have H8 := Aside0.mk h8
    have HR := Aside0.mk hr
    have HK := Aside0.mk hK
    clear callc h1 h2 h3 h4 h5 h6 h7 h8 hC3 hc3 hck hr hK hgd f10 f20
    gi_wp2_with (gi_at_call 34; refine HCC.out.mono ?_; go_loud (
      rintro e W2 ⟨rfl, hB2⟩
      have g1 := (hB2.block _ (by have := H8.out; omega)).trans H1.out
      have g2 := (hB2.block _ (by have := H8.out; omega)).trans H2.out
      have g5 := (hB2.block _ (by have := H8.out; omega)).trans H5.out
      have f10 := blk_frozen g1 0
      have f20 := blk_frozen g2 0
      have c10 : W2.cell? ⟨w.heap.size + 1, 0, none⟩ = some (.slice none 0 0) := (blk_cell g1 0).trans rfl
      have c20 : W2.cell? ⟨w.heap.size + 1 + 1, 0, none⟩ = some (.int .i64 0) := (blk_cell g2 0).trans rfl
      have c30 : W2.cell? ⟨w.heap.size + 1 + 1 + 1, 0, none⟩ = some _ := (blk_cell g5 0).trans rfl
      have g7 : Below w.heap.size w W2 := H7.out.trans (hB2.mono (by have := H8.out; omega))
      have gR : Kd.R k42 42 W2 w.heap.size (fun k => w.heap.size + 8 ≤ k) (.slice A3 (unpSt nums (List.finRange m)).1.length c3) (unpSt nums (List.finRange m)).1 :=
        Kd.R_mono (Kd.R_move (Kd.R_bound H6.out) (fun k hk => hB2.block k hk.2.2.1)) (fun _ hk => hk.1)
      have gD : W2.heap[D]? = some (.deferred (some [])) := (hB2.block D (Array.getElem?_eq_some_iff.1 HK.out).1).trans HK.out
      have BN := Aside0.mk (bad_next w W2 g1 g2 g7)
      have GN := Aside0.mk (good_next w W2 _ g1 g2 g7 _ gR)
      have GD := Aside0.mk gD
      clear g1 g2 g5 hB2 g7 gR gD
      obtain ⟨bb, hbb⟩ : ∃ bb : Bool, bb = (rc != 0) := ⟨_, rfl⟩
      have HBB := Aside0.mk hbb
      try rw [← hbb]
      clear hbb))
    all_goals (rename_i hcc; first
      | (have hrc : rc ≠ 0 := by simpa using hcc
         obtain ⟨k1, k2, k3, k4⟩ := BN.out _ rfl
         have hr := HR.out
         rw [if_neg hrc] at hr
         obtain ⟨rfl, rfl⟩ := Prod.mk.inj hr
         refine unp_end w _ [] 2 Q HQQ.out _ D (by have := HDD.out; have := HSZ.out; omega) (.slice none 0 0) rfl rfl k2 k3 (k1.same D _ GD.out rfl) (Kd.R_nil _ _ _ _ _) k4)
      | (have hrc : rc = 0 := by simpa using hcc
         obtain ⟨k1, k2, k3, k4, k5⟩ := GN.out _ rfl
         have hr := HR.out
         rw [if_pos hrc] at hr
         obtain ⟨rfl, rfl⟩ := Prod.mk.inj hr
         refine unp_end w _ _ 0 Q HQQ.out _ D (by have := HDD.out; have := HSZ.out; omega) _ rfl rfl k2 k3 (k1.same D _ GD.out rfl) k4 k5))
  case stop =>
    intro D c pre W hDD hpre hI hK
    obtain ⟨rfl, ⟨j, _, hj⟩, h1, h2, h7⟩ := hI
    have hr := HRES2.out ⟨j, hj⟩
    obtain ⟨rfl, rfl⟩ := Prod.mk.inj hr
    refine wpIn_ret ?_
    exact unp_end w W [] 2 Q HQQ.out _ D (by have := HSZ.out; omega) (.slice none 0 0) rfl rfl h1 h2 hK (Kd.R_nil _ _ _ _ _) h7
set_option maxRecDepth 100000 in
set_option maxHeartbeats 4000000 in
theorem unp_err (A0_0 : Option Addr) (c0_0 : Nat) (n : Nat) (A0_1 : Option Addr) (c0_1 : Nat) (tl : Nat) (w : World)
   (hmax : n ≤ maxLen) (hn : n = 0 ∨ (∃ m, n = 2 * m + 2) ∨ ∃ m ad q, n = 2 * m + 1 ∧ A0_0 = some ad ∧ w.cell? ad = some (.int .i64 q) ∧ (q ≠ m ∨ 0 < tl ∨ 64 < m)) :
    Calls Try.prog 18 #[.agg #[.slice A0_0 n c0_0, .slice A0_1 tl c0_1]] w fun e w' => ∃ v0_ : Value, e = .returned (.tuple #[v0_, .int .i64 2]) ∧ Kd.R k42 42 w' w.heap.size (fun _ => True) v0_ [] ∧ Below w.heap.size w w' := by
  have hu29 := Try.underlying29
  have hu42 := Try.underlying42
  have done : ∀ (o1 o2 o3 : Obj), Kd.R k42 42 (((w.alloc o1).alloc o2).alloc o3) w.heap.size (fun _ => True) (.slice none 0 0) [] ∧ Below w.heap.size w (((w.alloc o1).alloc o2).alloc o3) := fun o1 o2 o3 =>
    ⟨Kd.R_nil _ _ _ _ _, (((Below.refl _ w).alloc (Nat.le_refl _) _).alloc (by simp) _).alloc (by simp; omega) _⟩
  have DN := Aside0.mk done
  clear done
  rcases hn with rfl | ⟨m, rfl⟩ | ⟨m, ad, q, rfl, rfl, hc, hcase⟩
  · go_enter Try.func18, Try.ntmps18
    go_wp2
    exact bodyPost_ret (v := .tuple #[.slice none 0 0, .int .i64 2]) (by simp [results, Try.f18, go_sem]) rfl ⟨_, rfl, DN.out _ _ _⟩
  · have t1 : (2 * (m : Int) + 2 == 0) = false := by simp; omega
    go_enter Try.func18, Try.ntmps18
    go_wp2
    exact bodyPost_ret (v := .tuple #[.slice none 0 0, .int .i64 2]) (by simp [results, Try.f18, go_sem]) rfl ⟨_, rfl, DN.out _ _ _⟩
  · have hlt := World.block_lt_of_cell? w _ hc
    have hA : ∀ o1 o2 o3, (((w.alloc o1).alloc o2).alloc o3).cell? ad = some (.int .i64 q) := fun o1 o2 o3 => by
      rw [World.cell?_alloc_lt _ _ _ (by simp; omega), World.cell?_alloc_lt _ _ _ (by simp; omega), World.cell?_alloc_lt _ _ _ hlt, hc]
    have hm : m ≤ 4611686018427387903 := by simp only [maxLen] at hmax; omega
    clear hmax
    have t1 : (2 * (m : Int) + 1 == 0) = false := by simp; omega
    obtain ⟨p, hp⟩ : ∃ p : Int, p = (m : Int) := ⟨_, rfl⟩
    have t2 : (2 * (m : Int) + 1) / 2 = p := by omega
    clear hc hlt
    by_cases hq : q = p
    · subst hq
      have hcase : 0 < tl ∨ 64 < m := by omega
      have HP := Aside0.mk hp
      clear hp
      by_cases ht : 0 < tl
      · have t3 : decide (0 < (tl : Int)) = true := by simp; omega
        clear hcase ht
        go_enter Try.func18, Try.ntmps18
        go_wp2
        all_goals exact bodyPost_ret (v := .tuple #[.slice none 0 0, .int .i64 2]) (by simp [results, Try.f18, go_sem]) rfl ⟨_, rfl, DN.out _ _ _⟩
      · have ht0 : tl = 0 := by omega
        subst ht0
        have t3 : decide (64 < q) = true := by have := HP.out; simp; omega
        clear hcase ht
        go_enter Try.func18, Try.ntmps18
        go_wp2
        all_goals exact bodyPost_ret (v := .tuple #[.slice none 0 0, .int .i64 2]) (by simp [results, Try.f18, go_sem]) rfl ⟨_, rfl, DN.out _ _ _⟩
    · have t3 : (q != p) = true := by simpa using hq
      have t4 : (q == p) = false := by simpa using hq
      clear hcase hp
      go_enter Try.func18, Try.ntmps18
      go_wp2
      all_goals exact bodyPost_ret (v := .tuple #[.slice none 0 0, .int .i64 2]) (by simp [results, Try.f18, go_sem]) rfl ⟨_, rfl, DN.out _ _ _⟩
def block_Unpack.ok (nums : List Int) (texts : List ByteArray) : Bool := decide (nums.length % 2 = 1) && decide (rd nums 0 = ((nums.length / 2 : Nat) : Int)) && decide (texts.length = 0) && decide (nums.length / 2 ≤ 64)
def block_Unpack.good (nums : List Int) : Bool := (List.finRange (nums.length / 2)).all fun j => goodAt nums j.val
def block_Unpack.row (nums : List Int) : List S42 := (unpSt nums (List.finRange (nums.length / 2))).1
def block_Unpack.f (k : Nat) (nums : List Int) (texts : List ByteArray) : Option (List S42 × Int) :=
  if nums.length ≤ maxLen then
    if block_Unpack.ok nums texts = true then
      if block_Unpack.good nums = true then (block_Check.f k (block_Unpack.row nums)).bind fun rc => some (if rc = 0 then (block_Unpack.row nums, 0) else ([], 2))
      else some ([], 2)
    else some ([], 2)
  else none
theorem block_Unpack.calls (k : Nat) (A0_0 : Option Addr) (c0_0 : Nat) (l0_0 : List Int) (A0_1 : Option Addr) (c0_1 : Nat) (l0_1 : List ByteArray) (r1 : List (S42)) (r2 : Int) (w : World) (hr0_0 : Kd.C (Kd.int .i64) w A0_0 l0_0.length l0_0) (hc0_0 : l0_0.length ≤ c0_0) (hr0_1 : Kd.C Kd.string w A0_1 l0_1.length l0_1) (hc0_1 : l0_1.length ≤ c0_1) (h : block_Unpack.f k l0_0 l0_1 = some (r1, r2)) :
    Calls Try.prog 18 #[.agg #[.slice A0_0 l0_0.length c0_0, .slice A0_1 l0_1.length c0_1]] w fun e w' => ∃ v0_ : Value, e = .returned (.tuple #[v0_, .int .i64 r2]) ∧ Kd.R k42 42 w' w.heap.size (fun _ => True) v0_ r1 ∧ Below w.heap.size w w' := by
  unfold block_Unpack.f at h
  split at h
  case isFalse => cases h
  rename_i hmax
  have cell0 : 0 < l0_0.length → ∃ ad, A0_0 = some ad ∧ w.cell? ad = some (.int .i64 (rd l0_0 0)) := fun hp => by
    obtain ⟨ad, e1, hx⟩ := Kd.at_int hr0_0 0 (by omega) (by omega)
    exact ⟨ad, e1, by simpa [Addr.add] using hx⟩
  split at h
  case isTrue hok =>
    unfold block_Unpack.ok at hok
    simp only [Bool.and_eq_true, decide_eq_true_eq] at hok
    obtain ⟨⟨⟨h1, h2⟩, h3⟩, h4⟩ := hok
    obtain ⟨ad, rfl, hc⟩ := cell0 (by omega)
    obtain ⟨m, hm⟩ : ∃ m, m = l0_0.length / 2 := ⟨_, rfl⟩
    have ht : l0_1 = [] := List.eq_nil_of_length_eq_zero h3
    refine unp_walk k ad c0_0 l0_0 A0_1 c0_1 l0_1 w hr0_0 hc0_0 m (by omega) (by omega) (by rw [h2, hm]) ht r1 r2 ?_ ?_
    · intro hall
      have hg : block_Unpack.good l0_0 = true := by
        unfold block_Unpack.good
        rw [← hm]
        exact List.all_eq_true.2 fun j _ => hall j
      rw [if_pos hg] at h
      obtain ⟨rc, hck, he⟩ := Option.bind_eq_some_iff.1 h
      unfold block_Unpack.row at hck he
      rw [← hm] at hck he
      exact ⟨rc, hck, (Option.some.inj he).symm⟩
    · rintro ⟨j, hj⟩
      have hg : ¬ block_Unpack.good l0_0 = true := fun hg => by
        unfold block_Unpack.good at hg
        rw [← hm] at hg
        have := List.all_eq_true.1 hg j (List.mem_finRange j)
        rw [hj] at this
        cases this
      rw [if_neg hg] at h
      exact (Option.some.inj h).symm
  case isFalse hok =>
    obtain ⟨rfl, rfl⟩ := Prod.mk.inj (Option.some.inj h)
    refine unp_err A0_0 c0_0 l0_0.length A0_1 c0_1 l0_1.length w hmax ?_
    rcases Nat.eq_zero_or_pos l0_0.length with hz | hp
    · exact .inl hz
    · rcases Nat.mod_two_eq_zero_or_one l0_0.length with h2 | h2
      · exact .inr (.inl ⟨l0_0.length / 2 - 1, by omega⟩)
      · obtain ⟨ad, e1, hc⟩ := cell0 hp
        refine .inr (.inr ⟨l0_0.length / 2, ad, _, by omega, e1, hc, ?_⟩)
        unfold block_Unpack.ok at hok
        simp only [Bool.and_eq_true, decide_eq_true_eq] at hok
        by_cases q1 : rd l0_0 0 = ((l0_0.length / 2 : Nat) : Int)
        · by_cases q2 : l0_1.length = 0
          · exact .inr (.inr (Nat.lt_of_not_le fun q3 => hok ⟨⟨⟨h2, q1⟩, q2⟩, q3⟩))
          · exact .inr (.inl (Nat.pos_of_ne_zero q2))
        · exact .inl q1
end Go.Proofs.Ytlpohipneianjaa.G
end
section
namespace Go.Proofs.Ytlpohipneianjaa.G
open Go.RowKit Go.Proofs.YtlpohipneianjaaW.PrintWords Go.Proofs.YtlpohipneianjaaW.PrintLast Go.Proofs.YtlpohipneianjaaW.PrintMore
set_option linter.unusedVariables false
set_option linter.unusedSimpArgs false
def windroseref11_Same.l0 : Nat → List (S42) → List (S42) → Int → Option (Bool)
  | 0, _, _, _ => none
  | k + 1, x0, x1, x5 => if x5 < (x0.length : Int) then (if 0 ≤ x5 then (if x5 < (x1.length : Int) then (if (!(((rd_T42 x0 x5).f0) == ((rd_T42 x1 x5).f0)) || (!(((rd_T42 x0 x5).f1) == ((rd_T42 x1 x5).f1)))) = true then (some false) else (windroseref11_Same.l0 k x0 x1 (wrap64 (x5 + 1)))) else (none)) else (none)) else (some true)
def windroseref11_Same.f (k : Nat) (l0 : List (S42)) (l1 : List (S42)) : Option (Bool) := if (l0.length : Int) = (l1.length : Int) then (windroseref11_Same.l0 k l0 l1 0) else (some false)
set_option maxHeartbeats 8000000 in
set_option maxRecDepth 100000 in
theorem windroseref11_Same.calls (k : Nat) (A0 : Option Addr) (c0 : Nat) (l0 : List (S42)) (A1 : Option Addr) (c1 : Nat) (l1 : List (S42)) (r : Bool) (w : World) (hr0 : Kd.C k42 w A0 l0.length l0) (hc0 : l0.length ≤ c0) (hr1 : Kd.C k42 w A1 l1.length l1) (hc1 : l1.length ≤ c1) (h : windroseref11_Same.f k l0 l1 = some r) :
    Calls Try.prog 20 #[.slice A0 l0.length c0, .slice A1 l1.length c1] w fun e w' => e = .returned (.bool r) ∧ Drawn0 w w' := by
  have hu42 := Try.underlying42
  have HR0 := Aside0.mk hr0
  have HC0 := Aside0.mk hc0
  clear hr0 hc0
  have HR1 := Aside0.mk hr1
  have HC1 := Aside0.mk hc1
  clear hr1 hc1
  have H : (if (l0.length : Int) = (l1.length : Int) then (windroseref11_Same.l0 k l0 l1 0) else (some false)) = some r := h
  clear h
  by_cases c3 : (l0.length : Int) = (l1.length : Int)
  · rw [if_pos c3] at H
    have c3b0 : ((l0.length : Int) == (l1.length : Int)) = true := beq_iff_eq.mpr c3
    have c3b1 : ((l0.length : Int) != (l1.length : Int)) = false := bne_eq_false_iff_eq.mpr c3
    have c3b2 : (l0.length == l1.length) = true := by first | simpa using c3 | (simp at c3 ⊢; omega)
    clear c3
    have H' := Aside0.mk H
    clear H
    go_enter Try.func20, Try.ntmps20
    go_wp2
    repeat (go_quiet (fail); try go_wp2)
    go_loopg [5] k (fun kq v5 w' => ∃ (x5_1 : Int), v5 = .int .i64 x5_1 ∧ Aside0 (windroseref11_Same.l0 kq l0 l1 x5_1 = some r) ∧ Aside0 (kq ≤ k) ∧ Drawn0 w w')
    case atStart => exact ⟨(0), (by first | rfl | (simp; done) | (simp [*]; done)), H', ⟨Nat.le_refl _⟩, by repeat (first | exact Drawn0.refl _ | apply Drawn0.step)⟩
    case round =>
      clear H'
      try clear c1
      try clear c2
      try clear p2
      try clear c3
      try clear c3b0
      try clear c3b1
      try clear c3b2
      obtain ⟨x5_1, rfl, HA, HK1, ⟨m1, rfl⟩⟩ := hrel
      cases gk with
      | zero => exact absurd HA.out (by simp [windroseref11_Same.l0])
      | succ k1 =>
        have H := HA.out
        clear HA
        simp only [windroseref11_Same.l0] at H
        by_cases c4 : x5_1 < (l0.length : Int)
        · rw [if_pos c4] at H
          have c4b0 : decide (x5_1 < (l0.length : Int)) = true := decide_eq_true c4
          clear c4
          by_cases c5 : 0 ≤ x5_1
          · rw [if_pos c5] at H
            have c5b0 : decide (0 ≤ x5_1) = true := decide_eq_true c5
            clear c5
            by_cases c6 : x5_1 < (l1.length : Int)
            · rw [if_pos c6] at H
              have c6b0 : decide (x5_1 < (l1.length : Int)) = true := decide_eq_true c6
              clear c6
              by_cases c7 : (!(((rd_T42 l0 x5_1).f0) == ((rd_T42 l1 x5_1).f0)) || (!(((rd_T42 l0 x5_1).f1) == ((rd_T42 l1 x5_1).f1)))) = true
              · rw [if_pos c7] at H
                have c7b0 : (!(((rd_T42 l0 x5_1).f0) == ((rd_T42 l1 x5_1).f0)) || (!(((rd_T42 l0 x5_1).f1) == ((rd_T42 l1 x5_1).f1)))) = true := c7
                clear c7
                obtain rfl := Option.some.inj H
                have p207 : 0 ≤ (x5_1 : Int) := of_decide_eq_true (by first | (with_reducible assumption) | assumption)
                have q207 : x5_1 < (l0.length : Int) := of_decide_eq_true (by first | (with_reducible assumption) | assumption)
                obtain ⟨ad207, e207, hx207_0, hx207_1⟩ := at_T42 HR0.out x5_1 p207 q207
                cases e207
                replace p207 := eq_true p207
                replace q207 := eq_true q207
                have p208 : 0 ≤ (x5_1 : Int) := of_decide_eq_true (by first | (with_reducible assumption) | assumption)
                have q208 : x5_1 < (l1.length : Int) := of_decide_eq_true (by first | (with_reducible assumption) | assumption)
                obtain ⟨ad208, e208, hx208_0, hx208_1⟩ := at_T42 HR1.out x5_1 p208 q208
                cases e208
                replace p208 := eq_true p208
                replace q208 := eq_true q208
                go_wp2
                repeat (go_quiet (fail); try go_wp2)
                go_ret
                exact ⟨by first | rfl | (simp; done) | (simp [*]; done), by repeat (first | exact Drawn0.refl _ | apply Drawn0.step)⟩
              · rw [if_neg c7] at H
                have c7b0 : (!(((rd_T42 l0 x5_1).f0) == ((rd_T42 l1 x5_1).f0)) || (!(((rd_T42 l0 x5_1).f1) == ((rd_T42 l1 x5_1).f1)))) = false := by simpa using c7
                clear c7
                have H' := Aside0.mk H
                clear H
                have p207 : 0 ≤ (x5_1 : Int) := of_decide_eq_true (by first | (with_reducible assumption) | assumption)
                have q207 : x5_1 < (l0.length : Int) := of_decide_eq_true (by first | (with_reducible assumption) | assumption)
                obtain ⟨ad207, e207, hx207_0, hx207_1⟩ := at_T42 HR0.out x5_1 p207 q207
                cases e207
                replace p207 := eq_true p207
                replace q207 := eq_true q207
                have p208 : 0 ≤ (x5_1 : Int) := of_decide_eq_true (by first | (with_reducible assumption) | assumption)
                have q208 : x5_1 < (l1.length : Int) := of_decide_eq_true (by first | (with_reducible assumption) | assumption)
                obtain ⟨ad208, e208, hx208_0, hx208_1⟩ := at_T42 HR1.out x5_1 p208 q208
                cases e208
                replace p208 := eq_true p208
                replace q208 := eq_true q208
                go_wp2
                repeat (go_quiet (fail); try go_wp2)
                go_roundg k1
                case measure => have := HK1.out; omega
                case rel => exact ⟨(wrap64 (x5_1 + 1)), (by first | rfl | (simp; done) | (simp [*]; done)), H', ⟨by have := HK1.out; omega⟩, by repeat (first | exact Drawn0.refl _ | apply Drawn0.step)⟩
            · rw [if_neg c6] at H
              exact absurd H (by simp)
          · rw [if_neg c5] at H
            exact absurd H (by simp)
        · rw [if_neg c4] at H
          have c4b0 : decide (x5_1 < (l0.length : Int)) = false := decide_eq_false c4
          clear c4
          obtain rfl := Option.some.inj H
          go_wp2
          repeat (go_quiet (fail); try go_wp2)
          go_ret
          exact ⟨by first | rfl | (simp; done) | (simp [*]; done), by repeat (first | exact Drawn0.refl _ | apply Drawn0.step)⟩
  · rw [if_neg c3] at H
    have c3b0 : ((l0.length : Int) == (l1.length : Int)) = false := beq_eq_false_iff_ne.mpr c3
    have c3b1 : ((l0.length : Int) != (l1.length : Int)) = true := bne_iff_ne.mpr c3
    have c3b2 : (l0.length == l1.length) = false := by first | simpa using c3 | (simp at c3 ⊢; omega)
    obtain rfl := Option.some.inj H
    go_enter Try.func20, Try.ntmps20
    go_wp2
    repeat (go_quiet (fail); try go_wp2)
    go_ret
    exact ⟨by first | rfl | (simp; done) | (simp [*]; done), by repeat (first | exact Drawn0.refl _ | apply Drawn0.step)⟩
def windroselaw11_BlockUnpacks.j0 : Nat → Bool → List Int → List ByteArray → Option (Bool)
  | 0, _, _, _ => none
  | k + 1, x16, x210000, x210001 => if x16 = true then ((windroselaw11_awake.f k).bind fun t210 => (some t210)) else ((block_Unpack.f k x210000 x210001).bind fun bt211 => ((windroseref11_Unpack.f k x210000 x210001).bind fun bt215 => (if bt215.2 = true then (if bt211.2 = 0 then ((windroseref11_Same.f k bt211.1 bt215.1).bind fun t219 => (if t219 = true then ((windroselaw11_awake.f k).bind fun t220 => (some t220)) else (some false))) else (some false)) else (if bt211.2 = 2 then (if (bt211.1.length : Int) = 0 then ((windroselaw11_awake.f k).bind fun t221 => (some t221)) else (some false)) else (some false)))))
def windroselaw11_BlockUnpacks.f (k : Nat) (l0_0 : List Int) (l0_1 : List ByteArray) : Option (Bool) := if (l0_0.length : Int) > 400 then (windroselaw11_BlockUnpacks.j0 k true l0_0 l0_1) else (windroselaw11_BlockUnpacks.j0 k (decide ((l0_1.length : Int) > 100)) l0_0 l0_1)
set_option maxHeartbeats 8000000 in
set_option maxRecDepth 100000 in
theorem windroselaw11_BlockUnpacks.calls (k : Nat) (A0_0 : Option Addr) (c0_0 : Nat) (l0_0 : List Int) (A0_1 : Option Addr) (c0_1 : Nat) (l0_1 : List ByteArray) (r : Bool) (w : World) (hr0_0 : Kd.C (Kd.int .i64) w A0_0 l0_0.length l0_0) (hc0_0 : l0_0.length ≤ c0_0) (hr0_1 : Kd.C Kd.string w A0_1 l0_1.length l0_1) (hc0_1 : l0_1.length ≤ c0_1) (h : windroselaw11_BlockUnpacks.f k l0_0 l0_1 = some r) :
    Calls Try.prog 4 #[.agg #[.slice A0_0 l0_0.length c0_0, .slice A0_1 l0_1.length c0_1]] w fun e w' => e = .returned (.bool r) ∧ Below w.heap.size w w' := by
  have hu29 := Try.underlying29
  have HR0_0 := Aside0.mk hr0_0
  have HC0_0 := Aside0.mk hc0_0
  clear hr0_0 hc0_0
  have HR0_1 := Aside0.mk hr0_1
  have HC0_1 := Aside0.mk hc0_1
  clear hr0_1 hc0_1
  have HB := Aside0.mk (Below.refl w.heap.size w)
  have H : (if (l0_0.length : Int) > 400 then (windroselaw11_BlockUnpacks.j0 k true l0_0 l0_1) else (windroselaw11_BlockUnpacks.j0 k (decide ((l0_1.length : Int) > 100)) l0_0 l0_1)) = some r := h
  clear h
  have HC2 := Aside0.mk H
  clear H
  go_enter Try.func4, Try.ntmps4
  go_upto_region 1 with (first | ((with_reducible refine gate_dst (N := 1) rfl ?_); (try (refine gate_guard (by rfl) ?_; dsimp only)); refine box_event ?hg (N := 1) ?hd (cs := #[.slice A0_0 l0_0.length c0_0, .slice A0_1 l0_1.length c0_1]) (t := 29) ?hr ?_; (case hd => rfl); (case hg => rfl); (case hr => first | (go_simp; done) | (go_simp; rfl)); intro gb209 hg w3 hbox hb; have n0_ := Aside0.mk (below_step (by repeat (first | (with_reducible first | exact HB.out | apply below_alloc | apply pw_below_drewN | apply below_drew1) | exact HB.out)) hb); have n1_ := Aside0.mk (hbox); have n2_ := Aside0.mk ((by rw [hg]; exact (below_size (by repeat (first | (with_reducible first | exact HB.out | apply below_alloc | apply pw_below_drewN | apply below_drew1) | exact HB.out))) : w.heap.size ≤ gb209)); have n3_ := Aside0.mk ((by rw [hg]; exact (below_size (by repeat (first | (with_reducible first | exact HB.out | apply below_alloc | apply pw_below_drewN | apply below_drew1) | exact HB.out))) : w.heap.size ≤ gb209)); clear HB; have HB := n0_; have BK209 := n1_; have GW209 := n2_; have GE209 := n3_; clear n0_ n1_ n2_ n3_; clear hb hbox hg))
  (try simp only [Act.put, List.setIfInBounds_toArray, List.set_cons_zero, List.set_cons_succ])
  go_cut [16] (fun v16 wc => ∃ (kq : Nat) (x16_1 : Bool), v16 = .bool x16_1 ∧ Aside0 (windroselaw11_BlockUnpacks.j0 kq x16_1 l0_0 l0_1 = some r) ∧ Aside0 (kq ≤ k) ∧ Aside0 (wc.heap[gb209]? = some (.cells #[(.slice A0_0 l0_0.length c0_0), (.slice A0_1 l0_1.length c0_1)] 29 (0, 0))) ∧ Aside0 (Below w.heap.size w wc))
  case first =>
    have H := HC2.out
    clear HC2
    by_cases c4 : (l0_0.length : Int) > 400
    · rw [if_pos c4] at H
      have c4b0 : decide (400 < (l0_0.length : Int)) = true := decide_eq_true c4
      have c4b1 : decide (400 < l0_0.length) = true := decide_eq_true (by omega)
      clear c4
      (first | rw [c4b0] | (simp only [i64_w, i32_w]; rw [c4b0]) | skip)
      have H' := Aside0.mk H
      clear H
      have hcz5_0 : w3.cell? ⟨gb209, 0, none⟩ = some (.slice A0_0 l0_0.length c0_0) := (blk_cell BK209.out 0).trans rfl
      have hcz5_1 : w3.cell? ⟨gb209, 1, none⟩ = some (.slice A0_1 l0_1.length c0_1) := (blk_cell BK209.out 1).trans rfl
      have hfz5_0 := blk_frozen BK209.out 0
      have hfz5_1 := blk_frozen BK209.out 1
      go_wp2
      go_meet
      case rel => exact ⟨_, (true), (by first | rfl | (simp; done) | (simp [*]; done)), H', ⟨by first | omega | exact Nat.le_refl _⟩, ⟨by (with_reducible repeat (first | refine blk_drewN ?_ _ | refine blk_drew ?_ | refine blk_alloc ?_ _)); exact BK209.out⟩, ⟨by repeat (first | (with_reducible first | exact HB.out | apply below_alloc | apply pw_below_drewN | apply below_drew1 | refine below_set ?_ GE209.out) | exact HB.out)⟩⟩
    · rw [if_neg c4] at H
      have c4b0 : decide (400 < (l0_0.length : Int)) = false := decide_eq_false c4
      have c4b1 : decide (400 < l0_0.length) = false := decide_eq_false (by omega)
      clear c4
      (first | rw [c4b0] | (simp only [i64_w, i32_w]; rw [c4b0]) | skip)
      have H' := Aside0.mk H
      clear H
      have hcz6_0 : w3.cell? ⟨gb209, 0, none⟩ = some (.slice A0_0 l0_0.length c0_0) := (blk_cell BK209.out 0).trans rfl
      have hcz6_1 : w3.cell? ⟨gb209, 1, none⟩ = some (.slice A0_1 l0_1.length c0_1) := (blk_cell BK209.out 1).trans rfl
      have hfz6_0 := blk_frozen BK209.out 0
      have hfz6_1 := blk_frozen BK209.out 1
      go_wp2
      go_meet
      case rel => exact ⟨_, (decide ((l0_1.length : Int) > 100)), (by first | rfl | (simp; done) | (simp [*]; done)), H', ⟨by first | omega | exact Nat.le_refl _⟩, ⟨by (with_reducible repeat (first | refine blk_drewN ?_ _ | refine blk_drew ?_ | refine blk_alloc ?_ _)); exact BK209.out⟩, ⟨by repeat (first | (with_reducible first | exact HB.out | apply below_alloc | apply pw_below_drewN | apply below_drew1 | refine below_set ?_ GE209.out) | exact HB.out)⟩⟩
  case rest =>
    clear HC2
    try clear p2
    try clear c4
    try clear c4b0
    try clear c4b1
    try clear hcz5_0
    try clear hcz5_1
    try clear hcz6_0
    try clear hcz6_1
    try clear hfz5_0
    try clear hfz5_1
    try clear hfz6_0
    try clear hfz6_1
    obtain ⟨kq, x16_1, rfl, HA, HJ1, BK209, HB⟩ := hcut
    cases kq with
    | zero => exact absurd HA.out (by simp [windroselaw11_BlockUnpacks.j0])
    | succ kj1 =>
      have H := HA.out
      clear HA
      simp only [windroselaw11_BlockUnpacks.j0] at H
      by_cases c7 : x16_1 = true
      · subst c7
        have H1 : ((windroselaw11_awake.f kj1).bind fun t210 => (some t210)) = some r := by rw [if_pos rfl] at H; exact H
        clear H
        have H := H1
        clear H1
        replace H := Option.bind_eq_some_iff.mp H
        obtain ⟨t210, A80, H⟩ := H
        replace H : (some t210) = some r := H
        have A8 := Aside0.mk A80
        clear A80
        obtain rfl := Option.some.inj H
        go_wp2_with (first | ((with_reducible refine gate_callee (f := 17) rfl ?_); refine goesL_ (some 17) rfl rfl Try.func17 (by kernel_rfl) rfl #[] rfl (by (try simp only [List.map_toArray, List.map_cons, List.map_nil]); first | done | rfl | (simp only [List.length_drop, List.length_take]; rfl)) ?_; (with_reducible refine (windroselaw11_awake.calls kj1  t210 _ A8.out).mono ?_); rintro e w9 ⟨rfl, hb⟩; refine ⟨_, rfl, ?_⟩; have n0_ := Aside0.mk (blk_below (g := gb209) (o := .cells #[.slice A0_0 l0_0.length c0_0, .slice A0_1 l0_1.length c0_1] 29 (0, 0)) (by (with_reducible repeat (first | refine blk_drewN ?_ _ | refine blk_drew ?_ | refine blk_alloc ?_ _)); exact BK209.out) hb); have n1_ := Aside0.mk (below_step (by repeat (first | (with_reducible first | exact HB.out | apply below_alloc | apply pw_below_drewN | apply below_drew1 | refine below_set ?_ GE209.out) | exact HB.out)) hb); clear BK209; clear HB; have BK209 := n0_; have HB := n1_; clear n0_ n1_; (try clear hb); (try clear hb2); (try clear hk); (try clear hi)))
        go_ret
        exact ⟨by first | rfl | (simp [errW_none, errW_some] <;> rfl) | (simp [*, errW_none, errW_some] <;> rfl), by repeat (first | (with_reducible first | exact HB.out | apply below_alloc | apply pw_below_drewN | apply below_drew1 | refine below_set ?_ GE209.out) | exact HB.out)⟩
      · replace c7 := Bool.eq_false_iff.mpr c7
        subst c7
        have H1 : ((block_Unpack.f kj1 l0_0 l0_1).bind fun bt211 => ((windroseref11_Unpack.f kj1 l0_0 l0_1).bind fun bt215 => (if bt215.2 = true then (if bt211.2 = 0 then ((windroseref11_Same.f kj1 bt211.1 bt215.1).bind fun t219 => (if t219 = true then ((windroselaw11_awake.f kj1).bind fun t220 => (some t220)) else (some false))) else (some false)) else (if bt211.2 = 2 then (if (bt211.1.length : Int) = 0 then ((windroselaw11_awake.f kj1).bind fun t221 => (some t221)) else (some false)) else (some false))))) = some r := by rw [if_neg (show ¬ (false = true) by decide)] at H; exact H
        clear H
        have H := H1
        clear H1
        replace H := Option.bind_eq_some_iff.mp H
        obtain ⟨⟨t211, t214⟩, A100, H⟩ := H
        replace H : ((windroseref11_Unpack.f kj1 l0_0 l0_1).bind fun bt215 => (if bt215.2 = true then (if t214 = 0 then ((windroseref11_Same.f kj1 t211 bt215.1).bind fun t219 => (if t219 = true then ((windroselaw11_awake.f kj1).bind fun t220 => (some t220)) else (some false))) else (some false)) else (if t214 = 2 then (if (t211.length : Int) = 0 then ((windroselaw11_awake.f kj1).bind fun t221 => (some t221)) else (some false)) else (some false)))) = some r := H
        have A10 := Aside0.mk A100
        clear A100
        replace H := Option.bind_eq_some_iff.mp H
        obtain ⟨⟨t215, t218⟩, A110, H⟩ := H
        replace H : (if t218 = true then (if t214 = 0 then ((windroseref11_Same.f kj1 t211 t215).bind fun t219 => (if t219 = true then ((windroselaw11_awake.f kj1).bind fun t220 => (some t220)) else (some false))) else (some false)) else (if t214 = 2 then (if (t211.length : Int) = 0 then ((windroselaw11_awake.f kj1).bind fun t221 => (some t221)) else (some false)) else (some false))) = some r := H
        have A11 := Aside0.mk A110
        clear A110
        by_cases c12 : t218 = true
        · subst c12
          have H1 : (if t214 = 0 then ((windroseref11_Same.f kj1 t211 t215).bind fun t219 => (if t219 = true then ((windroselaw11_awake.f kj1).bind fun t220 => (some t220)) else (some false))) else (some false)) = some r := by rw [if_pos rfl] at H; exact H
          clear H
          have H := H1
          clear H1
          by_cases c13 : t214 = 0
          · rw [if_pos c13] at H
            have c13b0 : (t214 == 0) = true := beq_iff_eq.mpr c13
            have c13b1 : (t214 != 0) = false := bne_eq_false_iff_eq.mpr c13
            clear c13
            replace H := Option.bind_eq_some_iff.mp H
            obtain ⟨t219, A140, H⟩ := H
            replace H : (if t219 = true then ((windroselaw11_awake.f kj1).bind fun t220 => (some t220)) else (some false)) = some r := H
            have A14 := Aside0.mk A140
            clear A140
            by_cases c15 : t219 = true
            · subst c15
              have H1 : ((windroselaw11_awake.f kj1).bind fun t220 => (some t220)) = some r := by rw [if_pos rfl] at H; exact H
              clear H
              have H := H1
              clear H1
              replace H := Option.bind_eq_some_iff.mp H
              obtain ⟨t220, A160, H⟩ := H
              replace H : (some t220) = some r := H
              have A16 := Aside0.mk A160
              clear A160
              obtain rfl := Option.some.inj H
              have hcz17_0 : wc.cell? ⟨gb209, 0, none⟩ = some (.slice A0_0 l0_0.length c0_0) := (blk_cell BK209.out 0).trans rfl
              have hcz17_1 : wc.cell? ⟨gb209, 1, none⟩ = some (.slice A0_1 l0_1.length c0_1) := (blk_cell BK209.out 1).trans rfl
              have hfz17_0 := blk_frozen BK209.out 0
              have hfz17_1 := blk_frozen BK209.out 1
              go_wp2_with (first | ((with_reducible refine gate_callee (f := 18) rfl ?_); refine goesL_ (some 20) rfl rfl Try.func18 (by kernel_rfl) rfl #[.agg #[.slice A0_0 l0_0.length c0_0, .slice A0_1 l0_1.length c0_1]] rfl (by (try simp only [List.map_toArray, List.map_cons, List.map_nil]); first | done | rfl | (simp only [List.length_drop, List.length_take]; rfl)) ?_; (with_reducible refine (block_Unpack.calls kj1 _ _ l0_0 _ _ l0_1 t211 t214 _ ?side1 ?side2 ?side3 ?side4 A10.out).mono ?_); (case side1 => repeat (first | exact (Kd.C_below HR0_0.out HB.out) | (with_reducible refine Kd.C_alloc ?_ _) | (with_reducible refine Kd.C_drewN ?_ _) | (with_reducible refine Kd.C_drew ?_))); (case side2 => exact HC0_0.out); (case side3 => repeat (first | exact (Kd.C_below HR0_1.out HB.out) | (with_reducible refine Kd.C_alloc ?_ _) | (with_reducible refine Kd.C_drewN ?_ _) | (with_reducible refine Kd.C_drew ?_))); (case side4 => exact HC0_1.out); rintro e w18 ⟨v212, rfl, ho0, hb⟩; refine ⟨_, rfl, ?_⟩; have n0_ := Aside0.mk (Kd.R_lower ho0 (below_size (by repeat (first | (with_reducible first | exact HB.out | apply below_alloc | apply pw_below_drewN | apply below_drew1 | refine below_set ?_ GE209.out) | exact HB.out)))); have n1_ := Aside0.mk (blk_below (g := gb209) (o := .cells #[.slice A0_0 l0_0.length c0_0, .slice A0_1 l0_1.length c0_1] 29 (0, 0)) (by (with_reducible repeat (first | refine blk_drewN ?_ _ | refine blk_drew ?_ | refine blk_alloc ?_ _)); exact BK209.out) hb); have n2_ := Aside0.mk (below_step (by repeat (first | (with_reducible first | exact HB.out | apply below_alloc | apply pw_below_drewN | apply below_drew1 | refine below_set ?_ GE209.out) | exact HB.out)) hb); clear BK209; clear HB; have HO213 := n0_; have BK209 := n1_; have HB := n2_; clear n0_ n1_ n2_; (try clear hb); (try clear hb2); (try clear hk); (try clear hi); (try clear ho0); have hcz19_0 : w18.cell? ⟨gb209, 0, none⟩ = some (.slice A0_0 l0_0.length c0_0) := (blk_cell BK209.out 0).trans rfl; have hcz19_1 : w18.cell? ⟨gb209, 1, none⟩ = some (.slice A0_1 l0_1.length c0_1) := (blk_cell BK209.out 1).trans rfl; have hfz19_0 := blk_frozen BK209.out 0; have hfz19_1 := blk_frozen BK209.out 1) | ((with_reducible refine gate_callee (f := 19) rfl ?_); refine goesL_ (some 25) rfl rfl Try.func19 (by kernel_rfl) rfl #[.agg #[.slice A0_0 l0_0.length c0_0, .slice A0_1 l0_1.length c0_1]] rfl (by (try simp only [List.map_toArray, List.map_cons, List.map_nil]); first | done | rfl | (simp only [List.length_drop, List.length_take]; rfl)) ?_; (with_reducible refine (windroseref11_Unpack.calls kj1 _ _ l0_0 _ _ l0_1 t215 true _ ?side1 ?side2 ?side3 ?side4 A11.out).mono ?_); (case side1 => repeat (first | exact (Kd.C_below HR0_0.out HB.out) | (with_reducible refine Kd.C_alloc ?_ _) | (with_reducible refine Kd.C_drewN ?_ _) | (with_reducible refine Kd.C_drew ?_))); (case side2 => exact HC0_0.out); (case side3 => repeat (first | exact (Kd.C_below HR0_1.out HB.out) | (with_reducible refine Kd.C_alloc ?_ _) | (with_reducible refine Kd.C_drewN ?_ _) | (with_reducible refine Kd.C_drew ?_))); (case side4 => exact HC0_1.out); rintro e w20 ⟨v216, rfl, ho0, hb⟩; refine ⟨_, rfl, ?_⟩; have n0_ := Aside0.mk (Kd.R_elder' (by (with_reducible repeat (first | apply Kd.R_alloc | apply Kd.R_drewN | apply Kd.R_drew)); exact HO213.out) (Kd.R_base ho0) hb); have n1_ := Aside0.mk (Kd.R_lower (Kd.R_new' ho0 (Kd.R_lt (by (with_reducible repeat (first | apply Kd.R_alloc | apply Kd.R_drewN | apply Kd.R_drew)); exact HO213.out))) (below_size (by repeat (first | (with_reducible first | exact HB.out | apply below_alloc | apply pw_below_drewN | apply below_drew1 | refine below_set ?_ GE209.out) | exact HB.out)))); have n2_ := Aside0.mk (blk_below (g := gb209) (o := .cells #[.slice A0_0 l0_0.length c0_0, .slice A0_1 l0_1.length c0_1] 29 (0, 0)) (by (with_reducible repeat (first | refine blk_drewN ?_ _ | refine blk_drew ?_ | refine blk_alloc ?_ _)); exact BK209.out) hb); have n3_ := Aside0.mk (below_step (by repeat (first | (with_reducible first | exact HB.out | apply below_alloc | apply pw_below_drewN | apply below_drew1 | refine below_set ?_ GE209.out) | exact HB.out)) hb); clear HO213; clear BK209; clear HB; have HO213 := n0_; have HO217 := n1_; have BK209 := n2_; have HB := n3_; clear n0_ n1_ n2_ n3_; (try clear hb); (try clear hb2); (try clear hk); (try clear hi); (try clear ho0); obtain ⟨Ao21, co21, eo21⟩ := Kd.R_slice HO213.out; subst eo21; obtain ⟨Ao22, co22, eo22⟩ := Kd.R_slice HO217.out; subst eo22) | (go_at_call 20; (with_reducible refine (windroseref11_Same.calls kj1 _ _ t211 _ _ t215 true _ ?side1 ?side2 ?side3 ?side4 A14.out).mono ?_); (case side1 => repeat (first | exact (Kd.R_reads' HO213.out).2.2 | (with_reducible refine Kd.C_alloc ?_ _) | (with_reducible refine Kd.C_drewN ?_ _) | (with_reducible refine Kd.C_drew ?_))); (case side2 => exact (Kd.R_reads' HO213.out).2.1); (case side3 => repeat (first | exact (Kd.R_reads' HO217.out).2.2 | (with_reducible refine Kd.C_alloc ?_ _) | (with_reducible refine Kd.C_drewN ?_ _) | (with_reducible refine Kd.C_drew ?_))); (case side4 => exact (Kd.R_reads' HO217.out).2.1); rintro e w' ⟨rfl, ⟨nd, rfl⟩⟩) | (go_at_call 17; (with_reducible refine (windroselaw11_awake.calls kj1  t220 _ A16.out).mono ?_); rintro e w23 ⟨rfl, hb⟩; have n0_ := Aside0.mk (Kd.R_below (by (with_reducible repeat (first | apply Kd.R_alloc | apply Kd.R_drewN | apply Kd.R_drew)); exact HO213.out) hb); have n1_ := Aside0.mk (Kd.R_below (by (with_reducible repeat (first | apply Kd.R_alloc | apply Kd.R_drewN | apply Kd.R_drew)); exact HO217.out) hb); have n2_ := Aside0.mk (blk_below (g := gb209) (o := .cells #[.slice A0_0 l0_0.length c0_0, .slice A0_1 l0_1.length c0_1] 29 (0, 0)) (by (with_reducible repeat (first | refine blk_drewN ?_ _ | refine blk_drew ?_ | refine blk_alloc ?_ _)); exact BK209.out) hb); have n3_ := Aside0.mk (below_step (by repeat (first | (with_reducible first | exact HB.out | apply below_alloc | apply pw_below_drewN | apply below_drew1 | refine below_set ?_ GE209.out) | exact HB.out)) hb); clear HO213; clear HO217; clear BK209; clear HB; have HO213 := n0_; have HO217 := n1_; have BK209 := n2_; have HB := n3_; clear n0_ n1_ n2_ n3_; (try clear hb); (try clear hb2); (try clear hk); (try clear hi)))
              go_ret
              exact ⟨by first | rfl | (simp [errW_none, errW_some] <;> rfl) | (simp [*, errW_none, errW_some] <;> rfl), by repeat (first | (with_reducible first | exact HB.out | apply below_alloc | apply pw_below_drewN | apply below_drew1 | refine below_set ?_ GE209.out) | exact HB.out)⟩
            · replace c15 := Bool.eq_false_iff.mpr c15
              subst c15
              have H1 : (some false) = some r := by rw [if_neg (show ¬ (false = true) by decide)] at H; exact H
              clear H
              have H := H1
              clear H1
              obtain rfl := Option.some.inj H
              have hcz24_0 : wc.cell? ⟨gb209, 0, none⟩ = some (.slice A0_0 l0_0.length c0_0) := (blk_cell BK209.out 0).trans rfl
              have hcz24_1 : wc.cell? ⟨gb209, 1, none⟩ = some (.slice A0_1 l0_1.length c0_1) := (blk_cell BK209.out 1).trans rfl
              have hfz24_0 := blk_frozen BK209.out 0
              have hfz24_1 := blk_frozen BK209.out 1
              go_wp2_with (first | ((with_reducible refine gate_callee (f := 18) rfl ?_); refine goesL_ (some 20) rfl rfl Try.func18 (by kernel_rfl) rfl #[.agg #[.slice A0_0 l0_0.length c0_0, .slice A0_1 l0_1.length c0_1]] rfl (by (try simp only [List.map_toArray, List.map_cons, List.map_nil]); first | done | rfl | (simp only [List.length_drop, List.length_take]; rfl)) ?_; (with_reducible refine (block_Unpack.calls kj1 _ _ l0_0 _ _ l0_1 t211 t214 _ ?side1 ?side2 ?side3 ?side4 A10.out).mono ?_); (case side1 => repeat (first | exact (Kd.C_below HR0_0.out HB.out) | (with_reducible refine Kd.C_alloc ?_ _) | (with_reducible refine Kd.C_drewN ?_ _) | (with_reducible refine Kd.C_drew ?_))); (case side2 => exact HC0_0.out); (case side3 => repeat (first | exact (Kd.C_below HR0_1.out HB.out) | (with_reducible refine Kd.C_alloc ?_ _) | (with_reducible refine Kd.C_drewN ?_ _) | (with_reducible refine Kd.C_drew ?_))); (case side4 => exact HC0_1.out); rintro e w25 ⟨v212, rfl, ho0, hb⟩; refine ⟨_, rfl, ?_⟩; have n0_ := Aside0.mk (Kd.R_lower ho0 (below_size (by repeat (first | (with_reducible first | exact HB.out | apply below_alloc | apply pw_below_drewN | apply below_drew1 | refine below_set ?_ GE209.out) | exact HB.out)))); have n1_ := Aside0.mk (blk_below (g := gb209) (o := .cells #[.slice A0_0 l0_0.length c0_0, .slice A0_1 l0_1.length c0_1] 29 (0, 0)) (by (with_reducible repeat (first | refine blk_drewN ?_ _ | refine blk_drew ?_ | refine blk_alloc ?_ _)); exact BK209.out) hb); have n2_ := Aside0.mk (below_step (by repeat (first | (with_reducible first | exact HB.out | apply below_alloc | apply pw_below_drewN | apply below_drew1 | refine below_set ?_ GE209.out) | exact HB.out)) hb); clear BK209; clear HB; have HO213 := n0_; have BK209 := n1_; have HB := n2_; clear n0_ n1_ n2_; (try clear hb); (try clear hb2); (try clear hk); (try clear hi); (try clear ho0); have hcz26_0 : w25.cell? ⟨gb209, 0, none⟩ = some (.slice A0_0 l0_0.length c0_0) := (blk_cell BK209.out 0).trans rfl; have hcz26_1 : w25.cell? ⟨gb209, 1, none⟩ = some (.slice A0_1 l0_1.length c0_1) := (blk_cell BK209.out 1).trans rfl; have hfz26_0 := blk_frozen BK209.out 0; have hfz26_1 := blk_frozen BK209.out 1) | ((with_reducible refine gate_callee (f := 19) rfl ?_); refine goesL_ (some 25) rfl rfl Try.func19 (by kernel_rfl) rfl #[.agg #[.slice A0_0 l0_0.length c0_0, .slice A0_1 l0_1.length c0_1]] rfl (by (try simp only [List.map_toArray, List.map_cons, List.map_nil]); first | done | rfl | (simp only [List.length_drop, List.length_take]; rfl)) ?_; (with_reducible refine (windroseref11_Unpack.calls kj1 _ _ l0_0 _ _ l0_1 t215 true _ ?side1 ?side2 ?side3 ?side4 A11.out).mono ?_); (case side1 => repeat (first | exact (Kd.C_below HR0_0.out HB.out) | (with_reducible refine Kd.C_alloc ?_ _) | (with_reducible refine Kd.C_drewN ?_ _) | (with_reducible refine Kd.C_drew ?_))); (case side2 => exact HC0_0.out); (case side3 => repeat (first | exact (Kd.C_below HR0_1.out HB.out) | (with_reducible refine Kd.C_alloc ?_ _) | (with_reducible refine Kd.C_drewN ?_ _) | (with_reducible refine Kd.C_drew ?_))); (case side4 => exact HC0_1.out); rintro e w27 ⟨v216, rfl, ho0, hb⟩; refine ⟨_, rfl, ?_⟩; have n0_ := Aside0.mk (Kd.R_elder' (by (with_reducible repeat (first | apply Kd.R_alloc | apply Kd.R_drewN | apply Kd.R_drew)); exact HO213.out) (Kd.R_base ho0) hb); have n1_ := Aside0.mk (Kd.R_lower (Kd.R_new' ho0 (Kd.R_lt (by (with_reducible repeat (first | apply Kd.R_alloc | apply Kd.R_drewN | apply Kd.R_drew)); exact HO213.out))) (below_size (by repeat (first | (with_reducible first | exact HB.out | apply below_alloc | apply pw_below_drewN | apply below_drew1 | refine below_set ?_ GE209.out) | exact HB.out)))); have n2_ := Aside0.mk (blk_below (g := gb209) (o := .cells #[.slice A0_0 l0_0.length c0_0, .slice A0_1 l0_1.length c0_1] 29 (0, 0)) (by (with_reducible repeat (first | refine blk_drewN ?_ _ | refine blk_drew ?_ | refine blk_alloc ?_ _)); exact BK209.out) hb); have n3_ := Aside0.mk (below_step (by repeat (first | (with_reducible first | exact HB.out | apply below_alloc | apply pw_below_drewN | apply below_drew1 | refine below_set ?_ GE209.out) | exact HB.out)) hb); clear HO213; clear BK209; clear HB; have HO213 := n0_; have HO217 := n1_; have BK209 := n2_; have HB := n3_; clear n0_ n1_ n2_ n3_; (try clear hb); (try clear hb2); (try clear hk); (try clear hi); (try clear ho0); obtain ⟨Ao28, co28, eo28⟩ := Kd.R_slice HO213.out; subst eo28; obtain ⟨Ao29, co29, eo29⟩ := Kd.R_slice HO217.out; subst eo29) | (go_at_call 20; (with_reducible refine (windroseref11_Same.calls kj1 _ _ t211 _ _ t215 false _ ?side1 ?side2 ?side3 ?side4 A14.out).mono ?_); (case side1 => repeat (first | exact (Kd.R_reads' HO213.out).2.2 | (with_reducible refine Kd.C_alloc ?_ _) | (with_reducible refine Kd.C_drewN ?_ _) | (with_reducible refine Kd.C_drew ?_))); (case side2 => exact (Kd.R_reads' HO213.out).2.1); (case side3 => repeat (first | exact (Kd.R_reads' HO217.out).2.2 | (with_reducible refine Kd.C_alloc ?_ _) | (with_reducible refine Kd.C_drewN ?_ _) | (with_reducible refine Kd.C_drew ?_))); (case side4 => exact (Kd.R_reads' HO217.out).2.1); rintro e w' ⟨rfl, ⟨nd, rfl⟩⟩))
              go_ret
              exact ⟨by first | rfl | (simp [errW_none, errW_some] <;> rfl) | (simp [*, errW_none, errW_some] <;> rfl), by repeat (first | (with_reducible first | exact HB.out | apply below_alloc | apply pw_below_drewN | apply below_drew1 | refine below_set ?_ GE209.out) | exact HB.out)⟩
          · rw [if_neg c13] at H
            have c13b0 : (t214 == 0) = false := beq_eq_false_iff_ne.mpr c13
            have c13b1 : (t214 != 0) = true := bne_iff_ne.mpr c13
            obtain rfl := Option.some.inj H
            have hcz30_0 : wc.cell? ⟨gb209, 0, none⟩ = some (.slice A0_0 l0_0.length c0_0) := (blk_cell BK209.out 0).trans rfl
            have hcz30_1 : wc.cell? ⟨gb209, 1, none⟩ = some (.slice A0_1 l0_1.length c0_1) := (blk_cell BK209.out 1).trans rfl
            have hfz30_0 := blk_frozen BK209.out 0
            have hfz30_1 := blk_frozen BK209.out 1
            go_wp2_with (first | ((with_reducible refine gate_callee (f := 18) rfl ?_); refine goesL_ (some 20) rfl rfl Try.func18 (by kernel_rfl) rfl #[.agg #[.slice A0_0 l0_0.length c0_0, .slice A0_1 l0_1.length c0_1]] rfl (by (try simp only [List.map_toArray, List.map_cons, List.map_nil]); first | done | rfl | (simp only [List.length_drop, List.length_take]; rfl)) ?_; (with_reducible refine (block_Unpack.calls kj1 _ _ l0_0 _ _ l0_1 t211 t214 _ ?side1 ?side2 ?side3 ?side4 A10.out).mono ?_); (case side1 => repeat (first | exact (Kd.C_below HR0_0.out HB.out) | (with_reducible refine Kd.C_alloc ?_ _) | (with_reducible refine Kd.C_drewN ?_ _) | (with_reducible refine Kd.C_drew ?_))); (case side2 => exact HC0_0.out); (case side3 => repeat (first | exact (Kd.C_below HR0_1.out HB.out) | (with_reducible refine Kd.C_alloc ?_ _) | (with_reducible refine Kd.C_drewN ?_ _) | (with_reducible refine Kd.C_drew ?_))); (case side4 => exact HC0_1.out); rintro e w31 ⟨v212, rfl, ho0, hb⟩; refine ⟨_, rfl, ?_⟩; have n0_ := Aside0.mk (Kd.R_lower ho0 (below_size (by repeat (first | (with_reducible first | exact HB.out | apply below_alloc | apply pw_below_drewN | apply below_drew1 | refine below_set ?_ GE209.out) | exact HB.out)))); have n1_ := Aside0.mk (blk_below (g := gb209) (o := .cells #[.slice A0_0 l0_0.length c0_0, .slice A0_1 l0_1.length c0_1] 29 (0, 0)) (by (with_reducible repeat (first | refine blk_drewN ?_ _ | refine blk_drew ?_ | refine blk_alloc ?_ _)); exact BK209.out) hb); have n2_ := Aside0.mk (below_step (by repeat (first | (with_reducible first | exact HB.out | apply below_alloc | apply pw_below_drewN | apply below_drew1 | refine below_set ?_ GE209.out) | exact HB.out)) hb); clear BK209; clear HB; have HO213 := n0_; have BK209 := n1_; have HB := n2_; clear n0_ n1_ n2_; (try clear hb); (try clear hb2); (try clear hk); (try clear hi); (try clear ho0); have hcz32_0 : w31.cell? ⟨gb209, 0, none⟩ = some (.slice A0_0 l0_0.length c0_0) := (blk_cell BK209.out 0).trans rfl; have hcz32_1 : w31.cell? ⟨gb209, 1, none⟩ = some (.slice A0_1 l0_1.length c0_1) := (blk_cell BK209.out 1).trans rfl; have hfz32_0 := blk_frozen BK209.out 0; have hfz32_1 := blk_frozen BK209.out 1) | ((with_reducible refine gate_callee (f := 19) rfl ?_); refine goesL_ (some 25) rfl rfl Try.func19 (by kernel_rfl) rfl #[.agg #[.slice A0_0 l0_0.length c0_0, .slice A0_1 l0_1.length c0_1]] rfl (by (try simp only [List.map_toArray, List.map_cons, List.map_nil]); first | done | rfl | (simp only [List.length_drop, List.length_take]; rfl)) ?_; (with_reducible refine (windroseref11_Unpack.calls kj1 _ _ l0_0 _ _ l0_1 t215 true _ ?side1 ?side2 ?side3 ?side4 A11.out).mono ?_); (case side1 => repeat (first | exact (Kd.C_below HR0_0.out HB.out) | (with_reducible refine Kd.C_alloc ?_ _) | (with_reducible refine Kd.C_drewN ?_ _) | (with_reducible refine Kd.C_drew ?_))); (case side2 => exact HC0_0.out); (case side3 => repeat (first | exact (Kd.C_below HR0_1.out HB.out) | (with_reducible refine Kd.C_alloc ?_ _) | (with_reducible refine Kd.C_drewN ?_ _) | (with_reducible refine Kd.C_drew ?_))); (case side4 => exact HC0_1.out); rintro e w33 ⟨v216, rfl, ho0, hb⟩; refine ⟨_, rfl, ?_⟩; have n0_ := Aside0.mk (Kd.R_elder' (by (with_reducible repeat (first | apply Kd.R_alloc | apply Kd.R_drewN | apply Kd.R_drew)); exact HO213.out) (Kd.R_base ho0) hb); have n1_ := Aside0.mk (Kd.R_lower (Kd.R_new' ho0 (Kd.R_lt (by (with_reducible repeat (first | apply Kd.R_alloc | apply Kd.R_drewN | apply Kd.R_drew)); exact HO213.out))) (below_size (by repeat (first | (with_reducible first | exact HB.out | apply below_alloc | apply pw_below_drewN | apply below_drew1 | refine below_set ?_ GE209.out) | exact HB.out)))); have n2_ := Aside0.mk (blk_below (g := gb209) (o := .cells #[.slice A0_0 l0_0.length c0_0, .slice A0_1 l0_1.length c0_1] 29 (0, 0)) (by (with_reducible repeat (first | refine blk_drewN ?_ _ | refine blk_drew ?_ | refine blk_alloc ?_ _)); exact BK209.out) hb); have n3_ := Aside0.mk (below_step (by repeat (first | (with_reducible first | exact HB.out | apply below_alloc | apply pw_below_drewN | apply below_drew1 | refine below_set ?_ GE209.out) | exact HB.out)) hb); clear HO213; clear BK209; clear HB; have HO213 := n0_; have HO217 := n1_; have BK209 := n2_; have HB := n3_; clear n0_ n1_ n2_ n3_; (try clear hb); (try clear hb2); (try clear hk); (try clear hi); (try clear ho0)))
            go_ret
            exact ⟨by first | rfl | (simp [errW_none, errW_some] <;> rfl) | (simp [*, errW_none, errW_some] <;> rfl), by repeat (first | (with_reducible first | exact HB.out | apply below_alloc | apply pw_below_drewN | apply below_drew1 | refine below_set ?_ GE209.out) | exact HB.out)⟩
        · replace c12 := Bool.eq_false_iff.mpr c12
          subst c12
          have H1 : (if t214 = 2 then (if (t211.length : Int) = 0 then ((windroselaw11_awake.f kj1).bind fun t221 => (some t221)) else (some false)) else (some false)) = some r := by rw [if_neg (show ¬ (false = true) by decide)] at H; exact H
          clear H
          have H := H1
          clear H1
          by_cases c34 : t214 = 2
          · rw [if_pos c34] at H
            have c34b0 : (t214 == 2) = true := beq_iff_eq.mpr c34
            have c34b1 : (t214 != 2) = false := bne_eq_false_iff_eq.mpr c34
            clear c34
            by_cases c35 : (t211.length : Int) = 0
            · rw [if_pos c35] at H
              have c35b0 : ((t211.length : Int) == 0) = true := beq_iff_eq.mpr c35
              have c35b1 : ((t211.length : Int) != 0) = false := bne_eq_false_iff_eq.mpr c35
              clear c35
              replace H := Option.bind_eq_some_iff.mp H
              obtain ⟨t221, A360, H⟩ := H
              replace H : (some t221) = some r := H
              have A36 := Aside0.mk A360
              clear A360
              obtain rfl := Option.some.inj H
              have hcz37_0 : wc.cell? ⟨gb209, 0, none⟩ = some (.slice A0_0 l0_0.length c0_0) := (blk_cell BK209.out 0).trans rfl
              have hcz37_1 : wc.cell? ⟨gb209, 1, none⟩ = some (.slice A0_1 l0_1.length c0_1) := (blk_cell BK209.out 1).trans rfl
              have hfz37_0 := blk_frozen BK209.out 0
              have hfz37_1 := blk_frozen BK209.out 1
              go_wp2_with (first | ((with_reducible refine gate_callee (f := 18) rfl ?_); refine goesL_ (some 20) rfl rfl Try.func18 (by kernel_rfl) rfl #[.agg #[.slice A0_0 l0_0.length c0_0, .slice A0_1 l0_1.length c0_1]] rfl (by (try simp only [List.map_toArray, List.map_cons, List.map_nil]); first | done | rfl | (simp only [List.length_drop, List.length_take]; rfl)) ?_; (with_reducible refine (block_Unpack.calls kj1 _ _ l0_0 _ _ l0_1 t211 t214 _ ?side1 ?side2 ?side3 ?side4 A10.out).mono ?_); (case side1 => repeat (first | exact (Kd.C_below HR0_0.out HB.out) | (with_reducible refine Kd.C_alloc ?_ _) | (with_reducible refine Kd.C_drewN ?_ _) | (with_reducible refine Kd.C_drew ?_))); (case side2 => exact HC0_0.out); (case side3 => repeat (first | exact (Kd.C_below HR0_1.out HB.out) | (with_reducible refine Kd.C_alloc ?_ _) | (with_reducible refine Kd.C_drewN ?_ _) | (with_reducible refine Kd.C_drew ?_))); (case side4 => exact HC0_1.out); rintro e w38 ⟨v212, rfl, ho0, hb⟩; refine ⟨_, rfl, ?_⟩; have n0_ := Aside0.mk (Kd.R_lower ho0 (below_size (by repeat (first | (with_reducible first | exact HB.out | apply below_alloc | apply pw_below_drewN | apply below_drew1 | refine below_set ?_ GE209.out) | exact HB.out)))); have n1_ := Aside0.mk (blk_below (g := gb209) (o := .cells #[.slice A0_0 l0_0.length c0_0, .slice A0_1 l0_1.length c0_1] 29 (0, 0)) (by (with_reducible repeat (first | refine blk_drewN ?_ _ | refine blk_drew ?_ | refine blk_alloc ?_ _)); exact BK209.out) hb); have n2_ := Aside0.mk (below_step (by repeat (first | (with_reducible first | exact HB.out | apply below_alloc | apply pw_below_drewN | apply below_drew1 | refine below_set ?_ GE209.out) | exact HB.out)) hb); clear BK209; clear HB; have HO213 := n0_; have BK209 := n1_; have HB := n2_; clear n0_ n1_ n2_; (try clear hb); (try clear hb2); (try clear hk); (try clear hi); (try clear ho0); have hcz39_0 : w38.cell? ⟨gb209, 0, none⟩ = some (.slice A0_0 l0_0.length c0_0) := (blk_cell BK209.out 0).trans rfl; have hcz39_1 : w38.cell? ⟨gb209, 1, none⟩ = some (.slice A0_1 l0_1.length c0_1) := (blk_cell BK209.out 1).trans rfl; have hfz39_0 := blk_frozen BK209.out 0; have hfz39_1 := blk_frozen BK209.out 1) | ((with_reducible refine gate_callee (f := 19) rfl ?_); refine goesL_ (some 25) rfl rfl Try.func19 (by kernel_rfl) rfl #[.agg #[.slice A0_0 l0_0.length c0_0, .slice A0_1 l0_1.length c0_1]] rfl (by (try simp only [List.map_toArray, List.map_cons, List.map_nil]); first | done | rfl | (simp only [List.length_drop, List.length_take]; rfl)) ?_; (with_reducible refine (windroseref11_Unpack.calls kj1 _ _ l0_0 _ _ l0_1 t215 false _ ?side1 ?side2 ?side3 ?side4 A11.out).mono ?_); (case side1 => repeat (first | exact (Kd.C_below HR0_0.out HB.out) | (with_reducible refine Kd.C_alloc ?_ _) | (with_reducible refine Kd.C_drewN ?_ _) | (with_reducible refine Kd.C_drew ?_))); (case side2 => exact HC0_0.out); (case side3 => repeat (first | exact (Kd.C_below HR0_1.out HB.out) | (with_reducible refine Kd.C_alloc ?_ _) | (with_reducible refine Kd.C_drewN ?_ _) | (with_reducible refine Kd.C_drew ?_))); (case side4 => exact HC0_1.out); rintro e w40 ⟨v216, rfl, ho0, hb⟩; refine ⟨_, rfl, ?_⟩; have n0_ := Aside0.mk (Kd.R_elder' (by (with_reducible repeat (first | apply Kd.R_alloc | apply Kd.R_drewN | apply Kd.R_drew)); exact HO213.out) (Kd.R_base ho0) hb); have n1_ := Aside0.mk (Kd.R_lower (Kd.R_new' ho0 (Kd.R_lt (by (with_reducible repeat (first | apply Kd.R_alloc | apply Kd.R_drewN | apply Kd.R_drew)); exact HO213.out))) (below_size (by repeat (first | (with_reducible first | exact HB.out | apply below_alloc | apply pw_below_drewN | apply below_drew1 | refine below_set ?_ GE209.out) | exact HB.out)))); have n2_ := Aside0.mk (blk_below (g := gb209) (o := .cells #[.slice A0_0 l0_0.length c0_0, .slice A0_1 l0_1.length c0_1] 29 (0, 0)) (by (with_reducible repeat (first | refine blk_drewN ?_ _ | refine blk_drew ?_ | refine blk_alloc ?_ _)); exact BK209.out) hb); have n3_ := Aside0.mk (below_step (by repeat (first | (with_reducible first | exact HB.out | apply below_alloc | apply pw_below_drewN | apply below_drew1 | refine below_set ?_ GE209.out) | exact HB.out)) hb); clear HO213; clear BK209; clear HB; have HO213 := n0_; have HO217 := n1_; have BK209 := n2_; have HB := n3_; clear n0_ n1_ n2_ n3_; (try clear hb); (try clear hb2); (try clear hk); (try clear hi); (try clear ho0); obtain ⟨Ao41, co41, eo41⟩ := Kd.R_slice HO213.out; subst eo41) | (go_at_call 17; (with_reducible refine (windroselaw11_awake.calls kj1  t221 _ A36.out).mono ?_); rintro e w42 ⟨rfl, hb⟩; have n0_ := Aside0.mk (Kd.R_below (by (with_reducible repeat (first | apply Kd.R_alloc | apply Kd.R_drewN | apply Kd.R_drew)); exact HO213.out) hb); have n1_ := Aside0.mk (Kd.R_below (by (with_reducible repeat (first | apply Kd.R_alloc | apply Kd.R_drewN | apply Kd.R_drew)); exact HO217.out) hb); have n2_ := Aside0.mk (blk_below (g := gb209) (o := .cells #[.slice A0_0 l0_0.length c0_0, .slice A0_1 l0_1.length c0_1] 29 (0, 0)) (by (with_reducible repeat (first | refine blk_drewN ?_ _ | refine blk_drew ?_ | refine blk_alloc ?_ _)); exact BK209.out) hb); have n3_ := Aside0.mk (below_step (by repeat (first | (with_reducible first | exact HB.out | apply below_alloc | apply pw_below_drewN | apply below_drew1 | refine below_set ?_ GE209.out) | exact HB.out)) hb); clear HO213; clear HO217; clear BK209; clear HB; have HO213 := n0_; have HO217 := n1_; have BK209 := n2_; have HB := n3_; clear n0_ n1_ n2_ n3_; (try clear hb); (try clear hb2); (try clear hk); (try clear hi)))
              go_ret
              exact ⟨by first | rfl | (simp [errW_none, errW_some] <;> rfl) | (simp [*, errW_none, errW_some] <;> rfl), by repeat (first | (with_reducible first | exact HB.out | apply below_alloc | apply pw_below_drewN | apply below_drew1 | refine below_set ?_ GE209.out) | exact HB.out)⟩
            · rw [if_neg c35] at H
              have c35b0 : ((t211.length : Int) == 0) = false := beq_eq_false_iff_ne.mpr c35
              have c35b1 : ((t211.length : Int) != 0) = true := bne_iff_ne.mpr c35
              have c35b2 : ¬ (t211 = []) := fun h_ => c35 (by rw [h_]; rfl)
              obtain rfl := Option.some.inj H
              have hcz43_0 : wc.cell? ⟨gb209, 0, none⟩ = some (.slice A0_0 l0_0.length c0_0) := (blk_cell BK209.out 0).trans rfl
              have hcz43_1 : wc.cell? ⟨gb209, 1, none⟩ = some (.slice A0_1 l0_1.length c0_1) := (blk_cell BK209.out 1).trans rfl
              have hfz43_0 := blk_frozen BK209.out 0
              have hfz43_1 := blk_frozen BK209.out 1
              go_wp2_with (first | ((with_reducible refine gate_callee (f := 18) rfl ?_); refine goesL_ (some 20) rfl rfl Try.func18 (by kernel_rfl) rfl #[.agg #[.slice A0_0 l0_0.length c0_0, .slice A0_1 l0_1.length c0_1]] rfl (by (try simp only [List.map_toArray, List.map_cons, List.map_nil]); first | done | rfl | (simp only [List.length_drop, List.length_take]; rfl)) ?_; (with_reducible refine (block_Unpack.calls kj1 _ _ l0_0 _ _ l0_1 t211 t214 _ ?side1 ?side2 ?side3 ?side4 A10.out).mono ?_); (case side1 => repeat (first | exact (Kd.C_below HR0_0.out HB.out) | (with_reducible refine Kd.C_alloc ?_ _) | (with_reducible refine Kd.C_drewN ?_ _) | (with_reducible refine Kd.C_drew ?_))); (case side2 => exact HC0_0.out); (case side3 => repeat (first | exact (Kd.C_below HR0_1.out HB.out) | (with_reducible refine Kd.C_alloc ?_ _) | (with_reducible refine Kd.C_drewN ?_ _) | (with_reducible refine Kd.C_drew ?_))); (case side4 => exact HC0_1.out); rintro e w44 ⟨v212, rfl, ho0, hb⟩; refine ⟨_, rfl, ?_⟩; have n0_ := Aside0.mk (Kd.R_lower ho0 (below_size (by repeat (first | (with_reducible first | exact HB.out | apply below_alloc | apply pw_below_drewN | apply below_drew1 | refine below_set ?_ GE209.out) | exact HB.out)))); have n1_ := Aside0.mk (blk_below (g := gb209) (o := .cells #[.slice A0_0 l0_0.length c0_0, .slice A0_1 l0_1.length c0_1] 29 (0, 0)) (by (with_reducible repeat (first | refine blk_drewN ?_ _ | refine blk_drew ?_ | refine blk_alloc ?_ _)); exact BK209.out) hb); have n2_ := Aside0.mk (below_step (by repeat (first | (with_reducible first | exact HB.out | apply below_alloc | apply pw_below_drewN | apply below_drew1 | refine below_set ?_ GE209.out) | exact HB.out)) hb); clear BK209; clear HB; have HO213 := n0_; have BK209 := n1_; have HB := n2_; clear n0_ n1_ n2_; (try clear hb); (try clear hb2); (try clear hk); (try clear hi); (try clear ho0); have hcz45_0 : w44.cell? ⟨gb209, 0, none⟩ = some (.slice A0_0 l0_0.length c0_0) := (blk_cell BK209.out 0).trans rfl; have hcz45_1 : w44.cell? ⟨gb209, 1, none⟩ = some (.slice A0_1 l0_1.length c0_1) := (blk_cell BK209.out 1).trans rfl; have hfz45_0 := blk_frozen BK209.out 0; have hfz45_1 := blk_frozen BK209.out 1) | ((with_reducible refine gate_callee (f := 19) rfl ?_); refine goesL_ (some 25) rfl rfl Try.func19 (by kernel_rfl) rfl #[.agg #[.slice A0_0 l0_0.length c0_0, .slice A0_1 l0_1.length c0_1]] rfl (by (try simp only [List.map_toArray, List.map_cons, List.map_nil]); first | done | rfl | (simp only [List.length_drop, List.length_take]; rfl)) ?_; (with_reducible refine (windroseref11_Unpack.calls kj1 _ _ l0_0 _ _ l0_1 t215 false _ ?side1 ?side2 ?side3 ?side4 A11.out).mono ?_); (case side1 => repeat (first | exact (Kd.C_below HR0_0.out HB.out) | (with_reducible refine Kd.C_alloc ?_ _) | (with_reducible refine Kd.C_drewN ?_ _) | (with_reducible refine Kd.C_drew ?_))); (case side2 => exact HC0_0.out); (case side3 => repeat (first | exact (Kd.C_below HR0_1.out HB.out) | (with_reducible refine Kd.C_alloc ?_ _) | (with_reducible refine Kd.C_drewN ?_ _) | (with_reducible refine Kd.C_drew ?_))); (case side4 => exact HC0_1.out); rintro e w46 ⟨v216, rfl, ho0, hb⟩; refine ⟨_, rfl, ?_⟩; have n0_ := Aside0.mk (Kd.R_elder' (by (with_reducible repeat (first | apply Kd.R_alloc | apply Kd.R_drewN | apply Kd.R_drew)); exact HO213.out) (Kd.R_base ho0) hb); have n1_ := Aside0.mk (Kd.R_lower (Kd.R_new' ho0 (Kd.R_lt (by (with_reducible repeat (first | apply Kd.R_alloc | apply Kd.R_drewN | apply Kd.R_drew)); exact HO213.out))) (below_size (by repeat (first | (with_reducible first | exact HB.out | apply below_alloc | apply pw_below_drewN | apply below_drew1 | refine below_set ?_ GE209.out) | exact HB.out)))); have n2_ := Aside0.mk (blk_below (g := gb209) (o := .cells #[.slice A0_0 l0_0.length c0_0, .slice A0_1 l0_1.length c0_1] 29 (0, 0)) (by (with_reducible repeat (first | refine blk_drewN ?_ _ | refine blk_drew ?_ | refine blk_alloc ?_ _)); exact BK209.out) hb); have n3_ := Aside0.mk (below_step (by repeat (first | (with_reducible first | exact HB.out | apply below_alloc | apply pw_below_drewN | apply below_drew1 | refine below_set ?_ GE209.out) | exact HB.out)) hb); clear HO213; clear BK209; clear HB; have HO213 := n0_; have HO217 := n1_; have BK209 := n2_; have HB := n3_; clear n0_ n1_ n2_ n3_; (try clear hb); (try clear hb2); (try clear hk); (try clear hi); (try clear ho0); obtain ⟨Ao47, co47, eo47⟩ := Kd.R_slice HO213.out; subst eo47))
              go_ret
              exact ⟨by first | rfl | (simp [errW_none, errW_some] <;> rfl) | (simp [*, errW_none, errW_some] <;> rfl), by repeat (first | (with_reducible first | exact HB.out | apply below_alloc | apply pw_below_drewN | apply below_drew1 | refine below_set ?_ GE209.out) | exact HB.out)⟩
          · rw [if_neg c34] at H
            have c34b0 : (t214 == 2) = false := beq_eq_false_iff_ne.mpr c34
            have c34b1 : (t214 != 2) = true := bne_iff_ne.mpr c34
            obtain rfl := Option.some.inj H
            have hcz48_0 : wc.cell? ⟨gb209, 0, none⟩ = some (.slice A0_0 l0_0.length c0_0) := (blk_cell BK209.out 0).trans rfl
            have hcz48_1 : wc.cell? ⟨gb209, 1, none⟩ = some (.slice A0_1 l0_1.length c0_1) := (blk_cell BK209.out 1).trans rfl
            have hfz48_0 := blk_frozen BK209.out 0
            have hfz48_1 := blk_frozen BK209.out 1
            go_wp2_with (first | ((with_reducible refine gate_callee (f := 18) rfl ?_); refine goesL_ (some 20) rfl rfl Try.func18 (by kernel_rfl) rfl #[.agg #[.slice A0_0 l0_0.length c0_0, .slice A0_1 l0_1.length c0_1]] rfl (by (try simp only [List.map_toArray, List.map_cons, List.map_nil]); first | done | rfl | (simp only [List.length_drop, List.length_take]; rfl)) ?_; (with_reducible refine (block_Unpack.calls kj1 _ _ l0_0 _ _ l0_1 t211 t214 _ ?side1 ?side2 ?side3 ?side4 A10.out).mono ?_); (case side1 => repeat (first | exact (Kd.C_below HR0_0.out HB.out) | (with_reducible refine Kd.C_alloc ?_ _) | (with_reducible refine Kd.C_drewN ?_ _) | (with_reducible refine Kd.C_drew ?_))); (case side2 => exact HC0_0.out); (case side3 => repeat (first | exact (Kd.C_below HR0_1.out HB.out) | (with_reducible refine Kd.C_alloc ?_ _) | (with_reducible refine Kd.C_drewN ?_ _) | (with_reducible refine Kd.C_drew ?_))); (case side4 => exact HC0_1.out); rintro e w49 ⟨v212, rfl, ho0, hb⟩; refine ⟨_, rfl, ?_⟩; have n0_ := Aside0.mk (Kd.R_lower ho0 (below_size (by repeat (first | (with_reducible first | exact HB.out | apply below_alloc | apply pw_below_drewN | apply below_drew1 | refine below_set ?_ GE209.out) | exact HB.out)))); have n1_ := Aside0.mk (blk_below (g := gb209) (o := .cells #[.slice A0_0 l0_0.length c0_0, .slice A0_1 l0_1.length c0_1] 29 (0, 0)) (by (with_reducible repeat (first | refine blk_drewN ?_ _ | refine blk_drew ?_ | refine blk_alloc ?_ _)); exact BK209.out) hb); have n2_ := Aside0.mk (below_step (by repeat (first | (with_reducible first | exact HB.out | apply below_alloc | apply pw_below_drewN | apply below_drew1 | refine below_set ?_ GE209.out) | exact HB.out)) hb); clear BK209; clear HB; have HO213 := n0_; have BK209 := n1_; have HB := n2_; clear n0_ n1_ n2_; (try clear hb); (try clear hb2); (try clear hk); (try clear hi); (try clear ho0); have hcz50_0 : w49.cell? ⟨gb209, 0, none⟩ = some (.slice A0_0 l0_0.length c0_0) := (blk_cell BK209.out 0).trans rfl; have hcz50_1 : w49.cell? ⟨gb209, 1, none⟩ = some (.slice A0_1 l0_1.length c0_1) := (blk_cell BK209.out 1).trans rfl; have hfz50_0 := blk_frozen BK209.out 0; have hfz50_1 := blk_frozen BK209.out 1) | ((with_reducible refine gate_callee (f := 19) rfl ?_); refine goesL_ (some 25) rfl rfl Try.func19 (by kernel_rfl) rfl #[.agg #[.slice A0_0 l0_0.length c0_0, .slice A0_1 l0_1.length c0_1]] rfl (by (try simp only [List.map_toArray, List.map_cons, List.map_nil]); first | done | rfl | (simp only [List.length_drop, List.length_take]; rfl)) ?_; (with_reducible refine (windroseref11_Unpack.calls kj1 _ _ l0_0 _ _ l0_1 t215 false _ ?side1 ?side2 ?side3 ?side4 A11.out).mono ?_); (case side1 => repeat (first | exact (Kd.C_below HR0_0.out HB.out) | (with_reducible refine Kd.C_alloc ?_ _) | (with_reducible refine Kd.C_drewN ?_ _) | (with_reducible refine Kd.C_drew ?_))); (case side2 => exact HC0_0.out); (case side3 => repeat (first | exact (Kd.C_below HR0_1.out HB.out) | (with_reducible refine Kd.C_alloc ?_ _) | (with_reducible refine Kd.C_drewN ?_ _) | (with_reducible refine Kd.C_drew ?_))); (case side4 => exact HC0_1.out); rintro e w51 ⟨v216, rfl, ho0, hb⟩; refine ⟨_, rfl, ?_⟩; have n0_ := Aside0.mk (Kd.R_elder' (by (with_reducible repeat (first | apply Kd.R_alloc | apply Kd.R_drewN | apply Kd.R_drew)); exact HO213.out) (Kd.R_base ho0) hb); have n1_ := Aside0.mk (Kd.R_lower (Kd.R_new' ho0 (Kd.R_lt (by (with_reducible repeat (first | apply Kd.R_alloc | apply Kd.R_drewN | apply Kd.R_drew)); exact HO213.out))) (below_size (by repeat (first | (with_reducible first | exact HB.out | apply below_alloc | apply pw_below_drewN | apply below_drew1 | refine below_set ?_ GE209.out) | exact HB.out)))); have n2_ := Aside0.mk (blk_below (g := gb209) (o := .cells #[.slice A0_0 l0_0.length c0_0, .slice A0_1 l0_1.length c0_1] 29 (0, 0)) (by (with_reducible repeat (first | refine blk_drewN ?_ _ | refine blk_drew ?_ | refine blk_alloc ?_ _)); exact BK209.out) hb); have n3_ := Aside0.mk (below_step (by repeat (first | (with_reducible first | exact HB.out | apply below_alloc | apply pw_below_drewN | apply below_drew1 | refine below_set ?_ GE209.out) | exact HB.out)) hb); clear HO213; clear BK209; clear HB; have HO213 := n0_; have HO217 := n1_; have BK209 := n2_; have HB := n3_; clear n0_ n1_ n2_ n3_; (try clear hb); (try clear hb2); (try clear hk); (try clear hi); (try clear ho0)))
            go_ret
            exact ⟨by first | rfl | (simp [errW_none, errW_some] <;> rfl) | (simp [*, errW_none, errW_some] <;> rfl), by repeat (first | (with_reducible first | exact HB.out | apply below_alloc | apply pw_below_drewN | apply below_drew1 | refine below_set ?_ GE209.out) | exact HB.out)⟩
end Go.Proofs.Ytlpohipneianjaa.G
end
section
set_option linter.unusedVariables false
set_option linter.unusedSimpArgs false
namespace Go.Proofs.YtlpohipneianjaaX
open Go Go.RowKit Go.Proofs.YtlpohipneianjaaW.PrintWords Go.ChangeShapes Go.WideShapes
def Rd (P : Program) (t : TypeId) {α : Type} (d : Kd α) (ok : α → Prop) : Prop :=
  ∀ {H : Type} (enc : TypeId × Value → H) (W : World) (base : Nat) (spare : Nat → Bool) (held : Bool) (fuel : Nat) (cs : List Value) (x : DataW H × List MemPlace),
    DataW.trod enc P W base spare held fuel t cs = some x → ∃ a, d.K W a cs ∧ ok a
def RdFs (P : Program) (L : List (TypeId × Nat)) (o e : Nat) {α : Type} (d : Kd α) (ok : α → Prop) : Prop :=
  ∀ {H : Type} (enc : TypeId × Value → H) (W : World) (base : Nat) (spare : Nat → Bool) (held : Bool) (fuel : Nat) (cs : List Value), cs.length = e →
    (∀ (i : Nat) (p : TypeId × Nat), L[i]? = some p → ∃ y, DataW.trod enc P W base spare held fuel p.1 ((cs.drop p.2).take (P.cellsOf p.1)) = some y) → ∃ a, d.K W a (cs.drop o) ∧ ok a
section
variable {P : Program} {t e : TypeId}
theorem Rd.int {k : IntKind} (ht : P.underlying t = some (.int k)) : Rd P t (Kd.int k) (fun n => (Lit.int k n).wf = true) := by
  intro H enc W base spare held fuel cs x h
  obtain ⟨n, rfl, _, hn⟩ := DataW.trod_int ht h
  exact ⟨n, rfl, hn⟩
theorem Rd.bool (ht : P.underlying t = some .bool) : Rd P t Kd.bool (fun _ => True) := by
  intro H enc W base spare held fuel cs x h
  obtain ⟨b, rfl, _⟩ := DataW.trod_bool ht h
  exact ⟨b, rfl, trivial⟩
theorem Rd.string (ht : P.underlying t = some .string) : Rd P t Kd.string (fun s => s.size ≤ maxLen) := by
  intro H enc W base spare held fuel cs x h
  obtain ⟨s, rfl, _, hs⟩ := DataW.trod_string ht h
  exact ⟨s, rfl, hs⟩
theorem cells_get {w : World} {base : Nat} {a : Addr} {n : Nat} {cs : List Value} (h : w.cells? base a n = some cs) : ∀ i u, cs[i]? = some u → w.cell? (a.add i) = some u := by
  intro i u hi
  obtain ⟨_, hl, hc⟩ := World.cells?_some h
  have hlt : i < cs.length := (List.getElem?_eq_some_iff.1 hi).1
  have := hc i (by omega)
  rw [hi] at this
  exact this
theorem Rd.slice {α : Type} {d : Kd α} {ok : α → Prop} (ht : P.underlying t = some (.slice e)) (he : P.cellsOf e = d.sz) (hd : Rd P e d ok) :
    Rd P t (Kd.slice e d) (fun l => l.length ≤ maxLen ∧ ∀ x ∈ l, ok x) := by
  intro H enc W base spare held fuel cs x h
  rcases Deep.open_slice ht h with ⟨rfl, _⟩ | ⟨a, len, cap, m, n, D, Pl, rfl, hb, hl, hm, hmm, rfl, hx⟩
  · exact ⟨[], ⟨none, 0, rfl, Nat.le_refl _, rfl, by simp, fun h0 => absurd h0 (Nat.lt_irrefl _)⟩, by simp [maxLen], fun x hx => by cases hx⟩
  · have hlm : len ≤ m := by rw [hmm]; split <;> omega
    have hall : ∀ i, i < len → ∃ y : α, (∃ c, W.cells? base (a.add (i * P.cellsOf e)) (P.cellsOf e) = some c ∧ d.K W y c) ∧ ok y := by
      intro i hi
      obtain ⟨c, h1, h2⟩ := hx i (by omega)
      obtain ⟨y, h3, h4⟩ := hd enc W base spare held n c _ h2
      exact ⟨y, ⟨c, h1, h3⟩, h4⟩
    have hlist : ∃ l : List α, l.length = len ∧ ∀ i y, l[i]? = some y → (∃ c, W.cells? base (a.add (i * P.cellsOf e)) (P.cellsOf e) = some c ∧ d.K W y c) ∧ ok y := by
      have key : ∀ k, k ≤ len → ∃ l : List α, l.length = k ∧ ∀ i y, l[i]? = some y → (∃ c, W.cells? base (a.add (i * P.cellsOf e)) (P.cellsOf e) = some c ∧ d.K W y c) ∧ ok y := by
        intro k
        induction k with
        | zero => exact fun _ => ⟨[], rfl, fun i y hy => by simp at hy⟩
        | succ k ih =>
          intro hk
          obtain ⟨l, hl1, hl2⟩ := ih (by omega)
          obtain ⟨y, hy⟩ := hall k (by omega)
          refine ⟨l ++ [y], by simp [hl1], fun i z hz => ?_⟩
          rcases Nat.lt_or_ge i l.length with hi | hi
          · rw [List.getElem?_append_left hi] at hz
            exact hl2 i z hz
          · rw [List.getElem?_append_right hi] at hz
            have h0 : i - l.length = 0 := by
              have := (List.getElem?_eq_some_iff.1 hz).1
              simp at this
              omega
            rw [h0] at hz
            simp at hz
            subst hz
            have : i = k := by omega
            subst this
            exact hy
      exact key len (Nat.le_refl _)
    obtain ⟨l, hl1, hl2⟩ := hlist
    refine ⟨l, ⟨some a, cap, by rw [hl1], by omega, rfl, by rw [hl1]; simp only [maxLen] at hm; omega, fun _ => ⟨a, rfl, fun j p hp => ?_⟩⟩, by omega, fun y hy => ?_⟩
    · obtain ⟨⟨c, h1, h2⟩, _⟩ := hl2 j p hp
      refine ⟨c, d.K_len h2, h2, fun i u hu => ?_⟩
      have := cells_get h1 i u hu
      rw [Deep.add_add, he] at this
      exact this
    · obtain ⟨i, hi, rfl⟩ := List.getElem_of_mem hy
      exact (hl2 i _ (List.getElem?_eq_getElem hi)).2
theorem RdFs.one {t o : Nat} {α : Type} {d : Kd α} {ok : α → Prop} (h : Rd P t d ok) : RdFs P [(t, o)] o (o + P.cellsOf t) d ok := by
  intro H enc W base spare held fuel cs hl hi
  obtain ⟨y, hy⟩ := hi 0 _ rfl
  obtain ⟨a, ha, hk⟩ := h enc W base spare held fuel _ _ hy
  rw [List.take_of_length_le (by simp [hl])] at ha
  exact ⟨a, ha, hk⟩
theorem RdFs.cons {t o e' : Nat} {L : List (TypeId × Nat)} {α β : Type} {d : Kd α} {d' : Kd β} {ok : α → Prop} {ok' : β → Prop} (h : Rd P t d ok) (hs : RdFs P L (o + P.cellsOf t) e' d' ok') :
    RdFs P ((t, o) :: L) o e' (Kd.pair d d') (fun x => ok x.1 ∧ ok' x.2) := by
  intro H enc W base spare held fuel cs hl hi
  obtain ⟨y, hy⟩ := hi 0 _ rfl
  obtain ⟨a, ha, hk⟩ := h enc W base spare held fuel _ _ hy
  obtain ⟨b, hb, hk'⟩ := hs enc W base spare held fuel cs hl (fun i p hp => hi (i + 1) p (by simpa using hp))
  refine ⟨(a, b), ⟨_, _, ?_, ha, hb⟩, hk, hk'⟩
  rw [← List.drop_drop]
  exact (List.take_append_drop _ _).symm
theorem Rd.struct {α β : Type} {d : Kd α} {ok : α → Prop} {fs : Array Field} (f : β → α) (g : α → β) (hg : ∀ a, f (g a) = a) (ht : P.underlying t = some (.struct fs))
    (h : RdFs P (fs.toList.map fun f => (f.type, f.offset)) 0 (P.cellsOf t) d ok) : Rd P t (Kd.iso d f) (fun x => ok (f x)) := by
  intro H enc W base spare held fuel cs x hx
  obtain ⟨xs, n, rfl, _, hl, hn, hi⟩ := DataW.trod_struct ht hx
  obtain ⟨a, ha, hk⟩ := h enc W base spare held n cs hl (fun i p hp => by
    rw [List.getElem?_map] at hp
    obtain ⟨f', hf', rfl⟩ := Option.map_eq_some_iff.1 hp
    have h1 := hi i f' (by simpa using hf')
    have hlt : i < xs.length := by
      have := (List.getElem?_eq_some_iff.1 hf').1
      simp at this
      omega
    rw [List.getElem?_eq_getElem hlt] at h1
    exact ⟨_, h1⟩)
  refine ⟨g a, ?_, by show ok (f (g a)); rw [hg]; exact hk⟩
  show d.K W (f (g a)) cs
  rw [hg]
  simpa using ha
theorem Rd.array {α β : Type} {d : Kd α} {ok : α → Prop} {n : Nat} (f : β → α) (g : α → β) (hg : ∀ a, f (g a) = a) (ht : P.underlying t = some (.array n e))
    (h : RdFs P ((List.range n).map fun i => (e, i * P.cellsOf e)) 0 (P.cellsOf t) d ok) : Rd P t (Kd.iso d f) (fun x => ok (f x)) := by
  intro H enc W base spare held fuel cs x hx
  obtain ⟨xs, m, rfl, _, hl, hn, hi⟩ := DataW.trod_array ht hx
  obtain ⟨a, ha, hk⟩ := h enc W base spare held m cs hl (fun i p hp => by
    rw [List.getElem?_map] at hp
    obtain ⟨j, hj, rfl⟩ := Option.map_eq_some_iff.1 hp
    obtain ⟨hlt, hj⟩ := List.getElem?_eq_some_iff.1 hj
    simp at hj hlt
    subst hj
    have h1 := hi i hlt
    rw [List.getElem?_eq_getElem (by omega)] at h1
    exact ⟨_, h1⟩)
  refine ⟨g a, ?_, by show ok (f (g a)); rw [hg]; exact hk⟩
  show d.K W (f (g a)) cs
  rw [hg]
  simpa using ha
end
end Go.Proofs.YtlpohipneianjaaX
end
section
set_option linter.unusedVariables false
namespace Go.Proofs.Ytlpohipneianjaa.Q
open Go Go.RowKit Go.Proofs.YtlpohipneianjaaW.PrintWords
theorem w64 {x : Int} (h : -9223372036854775808 ≤ x) (h' : x ≤ 9223372036854775807) : wrap64 x = x := by unfold wrap64; omega
theorem Ev.succ {α : Type} {g : Nat → Option α} {r : α} (K : Nat) (h : ∀ k, K ≤ k → g (k + 1) = some r) : Ev g r := by
  refine ⟨K + 1, fun k hk => ?_⟩
  obtain ⟨m, rfl⟩ : ∃ m, k = m + 1 := ⟨k - 1, by omega⟩
  exact h m (by omega)
theorem Ev.mk {α : Type} {g : Nat → Option α} {r : α} (K : Nat) (h : ∀ k, K ≤ k → g k = some r) : Ev g r := ⟨K, h⟩
theorem getD_mem {α : Type} (l : List α) (i : Nat) (d : α) (h : i < l.length) : l.getD i d ∈ l := by
  rw [List.getD_eq_getElem?_getD, List.getElem?_eq_getElem h]
  exact List.getElem_mem h
theorem drop_getD {α : Type} (l : List α) (i : Nat) (d : α) (h : i < l.length) : l.drop i = l.getD i d :: l.drop (i + 1) := by
  rw [List.drop_eq_getElem_cons h, List.getD_eq_getElem?_getD, List.getElem?_eq_getElem h]
  rfl
end Go.Proofs.Ytlpohipneianjaa.Q
end
section
set_option linter.unusedVariables false
namespace Go.Proofs.Ytlpohipneianjaa.Q
open Go Go.RowKit Go.Proofs.Ytlpohipneianjaa.G Go.Proofs.YtlpohipneianjaaW.PrintWords Go.Proofs.YtlpohipneianjaaW.PrintLast
abbrev Smp := S42
def at_ (l : List Smp) (i : Nat) : Smp := rd_T42 l i
def Fits (l : List Smp) (i : Nat) : Prop := 0 ≤ (at_ l i).f0 ∧ (at_ l i).f0 ≤ 1099511627776 ∧ -1099511627776 ≤ (at_ l i).f1 ∧ (at_ l i).f1 ≤ 1099511627776 ∧ (0 < i → (at_ l (i - 1)).f0 < (at_ l i).f0)
def May (l : List Smp) : Prop := l.length ≤ 64 ∧ ∀ i, i < l.length → Fits l i
noncomputable instance (l : List Smp) : Decidable (May l) := Classical.propDecidable _
theorem may_loop (l : List Smp) (hl : l.length ≤ maxLen) (d : Nat) : ∀ i : Nat, i + d = l.length → (∀ j, j < i → Fits l j) → (∃ K, ∀ k, K ≤ k → windroseref11_May.l0 k l i = some ((decide (May l)))) := by
  unfold maxLen at hl
  induction d with
  | zero =>
    intro i hi hf
    refine Ev.succ 0 fun k _ => ?_
    simp only [windroseref11_May.l0]
    rw [if_neg (by omega)]
    congr 1
    rw [decide_eq_decide]
    exact ⟨fun h => ⟨by omega, fun j hj => hf j (by omega)⟩, fun h => by have := h.1; omega⟩
  | succ d ih =>
    intro i hi hf
    have bad : ¬ Fits l i → decide (May l) = false := fun h => decide_eq_false (fun hm => h (hm.2 i (by omega)))
    by_cases g : Fits l i
    · obtain ⟨K, hK⟩ := ih (i + 1) (by omega) (fun j hj => by
        rcases Nat.lt_or_ge j i with h | h
        · exact hf j h
        · obtain rfl : j = i := by omega
          exact g)
      refine Ev.succ K fun k hk => ?_
      simp only [windroseref11_May.l0]
      obtain ⟨g1, g2, g3, g4, g5⟩ := g
      have hK' := hK k hk
      have e1 : wrap64 ((i : Int) + 1) = ((i + 1 : Nat) : Int) := by rw [w64] <;> omega
      simp only [at_] at g1 g2 g3 g4 g5
      rw [if_pos (by omega), if_pos (by omega), if_neg (by omega), if_neg (by omega), if_neg (by omega), if_neg (by omega), e1]
      by_cases h0 : 0 < i
      · have e2 : wrap64 ((i : Int) - 1) = ((i - 1 : Nat) : Int) := by rw [w64] <;> omega
        have g6 := g5 h0
        rw [if_pos (by omega), e2, if_pos (by omega), if_pos (by omega), if_neg (by omega)]
        exact hK'
      · rw [if_neg (by omega)]
        exact hK'
    · rw [bad g]
      refine Ev.succ 0 fun k _ => ?_
      simp only [windroseref11_May.l0]
      rw [if_pos (by omega), if_pos (by omega)]
      unfold Fits at g
      simp only [at_] at g
      by_cases g1 : (rd_T42 l i).f0 < 0
      · rw [if_pos g1]
      by_cases g2 : (rd_T42 l i).f0 > 1099511627776
      · rw [if_neg g1, if_pos g2]
      by_cases g3 : (rd_T42 l i).f1 < -1099511627776
      · rw [if_neg g1, if_neg g2, if_pos g3]
      by_cases g4 : (rd_T42 l i).f1 > 1099511627776
      · rw [if_neg g1, if_neg g2, if_neg g3, if_pos g4]
      have h0 : 0 < i := by
        rcases Nat.eq_zero_or_pos i with h | h
        · exact absurd ⟨by omega, by omega, by omega, by omega, fun hh => by omega⟩ g
        · exact h
      have e2 : wrap64 ((i : Int) - 1) = ((i - 1 : Nat) : Int) := by rw [w64] <;> omega
      have g5 : (rd_T42 l ((i - 1 : Nat) : Int)).f0 ≥ (rd_T42 l i).f0 := by
        by_cases h : (rd_T42 l ((i - 1 : Nat) : Int)).f0 < (rd_T42 l i).f0
        · exact absurd ⟨by omega, by omega, by omega, by omega, fun _ => h⟩ g
        · omega
      rw [if_neg g1, if_neg g2, if_neg g3, if_neg g4, if_pos (by omega), e2, if_pos (by omega), if_pos (by omega), if_pos g5]
theorem may_ev (l : List Smp) (hl : l.length ≤ maxLen) : (∃ K, ∀ k, K ≤ k → windroseref11_May.f k l = some ((decide (May l)))) :=
  may_loop l hl l.length 0 (by omega) (fun j hj => by omega)
theorem check_loop (l : List Smp) (hl : l.length ≤ 64) (d : Nat) : ∀ i : Nat, i + d = l.length → (∀ j, j < i → Fits l j) → (∃ K, ∀ k, K ≤ k → block_Check.l0 k l l (l.length : Int) i = some ((if May l then 0 else 1))) := by
  induction d with
  | zero =>
    intro i hi hf
    refine Ev.succ 0 fun k _ => ?_
    simp only [block_Check.l0]
    rw [if_neg (by omega), if_pos ⟨hl, fun j hj => hf j (by omega)⟩]
  | succ d ih =>
    intro i hi hf
    have bad : ¬ Fits l i → ¬ May l := fun h hm => h (hm.2 i (by omega))
    by_cases g : Fits l i
    · obtain ⟨K, hK⟩ := ih (i + 1) (by omega) (fun j hj => by
        rcases Nat.lt_or_ge j i with h | h
        · exact hf j h
        · obtain rfl : j = i := by omega
          exact g)
      refine Ev.succ K fun k hk => ?_
      simp only [block_Check.l0]
      obtain ⟨g1, g2, g3, g4, g5⟩ := g
      have hK' := hK k hk
      have e1 : wrap64 ((i : Int) + 1) = ((i + 1 : Nat) : Int) := by rw [w64] <;> omega
      simp only [at_] at g1 g2 g3 g4 g5
      rw [if_pos (by omega), if_pos (by omega), if_pos (by omega), if_neg (by omega), if_neg (by omega), if_neg (by omega), if_neg (by omega), e1]
      by_cases h0 : 0 < i
      · have e2 : wrap64 ((i : Int) - 1) = ((i - 1 : Nat) : Int) := by rw [w64] <;> omega
        have g6 := g5 h0
        rw [if_pos (by omega), e2, if_pos (by omega), if_pos (by omega), if_neg (by omega)]
        exact hK'
      · rw [if_neg (by omega)]
        exact hK'
    · rw [if_neg (bad g)]
      refine Ev.succ 0 fun k _ => ?_
      simp only [block_Check.l0]
      rw [if_pos (by omega), if_pos (by omega), if_pos (by omega)]
      unfold Fits at g
      simp only [at_] at g
      by_cases g1 : (rd_T42 l i).f0 < 0
      · rw [if_pos g1]
      by_cases g2 : (rd_T42 l i).f0 > 1099511627776
      · rw [if_neg g1, if_pos g2]
      by_cases g3 : (rd_T42 l i).f1 < -1099511627776
      · rw [if_neg g1, if_neg g2, if_pos g3]
      by_cases g4 : (rd_T42 l i).f1 > 1099511627776
      · rw [if_neg g1, if_neg g2, if_neg g3, if_pos g4]
      have h0 : 0 < i := by
        rcases Nat.eq_zero_or_pos i with h | h
        · exact absurd ⟨by omega, by omega, by omega, by omega, fun hh => by omega⟩ g
        · exact h
      have e2 : wrap64 ((i : Int) - 1) = ((i - 1 : Nat) : Int) := by rw [w64] <;> omega
      have g5 : (rd_T42 l ((i - 1 : Nat) : Int)).f0 ≥ (rd_T42 l i).f0 := by
        by_cases h : (rd_T42 l ((i - 1 : Nat) : Int)).f0 < (rd_T42 l i).f0
        · exact absurd ⟨by omega, by omega, by omega, by omega, fun _ => h⟩ g
        · omega
      rw [if_neg g1, if_neg g2, if_neg g3, if_neg g4, if_pos (by omega), e2, if_pos (by omega), if_pos (by omega), if_pos (by omega)]
theorem check_ev (l : List Smp) : (∃ K, ∀ k, K ≤ k → block_Check.f k l = some ((if May l then 0 else 1))) := by
  unfold block_Check.f
  by_cases h : (l.length : Int) > 64
  · simp only [if_pos h]
    rw [if_neg (fun hm => by have := hm.1; omega)]
    exact ⟨0, fun _ _ => rfl⟩
  · simp only [if_neg h]
    exact check_loop l (by omega) l.length 0 (by omega) (fun j hj => by omega)
def Bd (s : Smp) : Prop := 0 ≤ s.f0 ∧ s.f0 ≤ 1099511627776 ∧ -1099511627776 ≤ s.f1 ∧ s.f1 ≤ 1099511627776
abbrev Rise (l : List Smp) : Prop := l.Pairwise (fun a b => a.f0 < b.f0)
theorem fits_tail {s : Smp} {l : List Smp} (h : ∀ i, i < (s :: l).length → Fits (s :: l) i) : ∀ i, i < l.length → Fits l i := by
  intro i hi
  have := h (i + 1) (by simp; omega)
  obtain ⟨g1, g2, g3, g4, g5⟩ := this
  have e : ∀ j : Nat, at_ (s :: l) (j + 1) = at_ l j := fun j => by
    simp only [at_, rd_T42]
    have h1 : ((j + 1 : Nat) : Int).toNat = j + 1 := by omega
    have h2 : ((j : Nat) : Int).toNat = j := by omega
    rw [h1, h2]; rfl
  rw [e] at g1 g2 g3 g4
  refine ⟨g1, g2, g3, g4, fun h0 => ?_⟩
  have := g5 (by omega)
  rw [e, show i + 1 - 1 = (i - 1) + 1 by omega, e] at this
  exact this
theorem fits_ok (l : List Smp) : (∀ i, i < l.length → Fits l i) → (∀ s ∈ l, Bd s) ∧ Rise l := by
  induction l with
  | nil => intro _; exact ⟨fun s h => by simp at h, List.Pairwise.nil⟩
  | cons s l ih =>
    intro h
    obtain ⟨h1, h2⟩ := ih (fits_tail h)
    have f0 := h 0 (by simp)
    have b0 : Bd s := ⟨f0.1, f0.2.1, f0.2.2.1, f0.2.2.2.1⟩
    refine ⟨fun x hx => ?_, ?_⟩
    · rcases List.mem_cons.1 hx with rfl | hx
      · exact b0
      · exact h1 x hx
    · refine List.pairwise_cons.2 ⟨fun b hb => ?_, h2⟩
      cases l with
      | nil => simp at hb
      | cons c l =>
        have f1' : s.f0 < c.f0 := (h 1 (by simp)).2.2.2.2 (by omega)
        rcases List.mem_cons.1 hb with rfl | hb
        · exact f1'
        · exact Int.lt_trans f1' ((List.pairwise_cons.1 h2).1 b hb)
end Go.Proofs.Ytlpohipneianjaa.Q
end
section
set_option linter.unusedVariables false
namespace Go.Proofs.Ytlpohipneianjaa.Q
open Go Go.RowKit Go.Proofs.Ytlpohipneianjaa.G Go.Proofs.YtlpohipneianjaaW.PrintWords Go.Proofs.YtlpohipneianjaaW.PrintLast
def countS (u : Nat) : List Int := if h : u < 128 then [(u : Int)] else ((u % 128 + 128 : Nat) : Int) :: countS (u / 128)
termination_by u
decreasing_by omega
def zig (n : Int) : Nat := if 0 ≤ n then (2 * n).toNat else (2 * (-1 - n) + 1).toNat
end Go.Proofs.Ytlpohipneianjaa.Q
end
section
set_option linter.unusedVariables false
namespace Go.Proofs.Ytlpohipneianjaa.Q
open Go Go.RowKit Go.Proofs.Ytlpohipneianjaa.G Go.Proofs.YtlpohipneianjaaW.PrintWords Go.Proofs.YtlpohipneianjaaW.PrintLast
def encN (l : List Int) : List Int := l.flatMap fun n => countS (zig n)
def encT (l : List ByteArray) : List Int := l.flatMap fun s => countS s.size ++ bytesOf s
def enc (nums : List Int) (texts : List ByteArray) : List Int := countS nums.length ++ encN nums ++ countS texts.length ++ encT texts
theorem rd_at (l : List Int) (i : Nat) (h : i < l.length) : l.drop i = rd l i :: l.drop (i + 1) := by rw [drop_getD l i 0 h]; rfl
theorem rd_mem (l : List Int) (i : Nat) (h : i < l.length) : rd l i ∈ l := by simp only [rd, Int.toNat_natCast]; exact getD_mem l i 0 h
end Go.Proofs.Ytlpohipneianjaa.Q
end
section
set_option linter.unusedVariables false
namespace Go.Proofs.Ytlpohipneianjaa.Q
open Go Go.RowKit Go.Proofs.Ytlpohipneianjaa.G Go.Proofs.YtlpohipneianjaaW.PrintWords Go.Proofs.YtlpohipneianjaaW.PrintLast
def pk : Bool → Int → Int → Int → Int → List Smp → List Int
  | _, _, _, _, _, [] => []
  | f, lt, lv, st, sv, s :: q => (s.f0 - lt - st) :: (s.f1 - lv - sv) :: pk false s.f0 s.f1 (if f then st else s.f0 - lt) (if f then sv else s.f1 - lv) q
def B2 (x : Int) : Prop := -4398046511104 ≤ x ∧ x ≤ 4398046511104
def packS (l : List Smp) : List Int := (l.length : Int) :: pk true 0 0 0 0 l
theorem pk_len (l : List Smp) : ∀ f lt lv st sv, (pk f lt lv st sv l).length = 2 * l.length := by
  induction l with
  | nil => intros; rfl
  | cons s l ih => intro f lt lv st sv; simp only [pk, List.length_cons, ih]; omega
theorem pk_b (l : List Smp) : (∀ s ∈ l, Bd s) → ∀ f lt lv st sv, (-1099511627776 ≤ lt ∧ lt ≤ 1099511627776) → (-1099511627776 ≤ lv ∧ lv ≤ 1099511627776) → (-2199023255552 ≤ st ∧ st ≤ 2199023255552) → (-2199023255552 ≤ sv ∧ sv ≤ 2199023255552) →
    ∀ x ∈ pk f lt lv st sv l, B2 x := by
  induction l with
  | nil => intro _ f lt lv st sv _ _ _ _ x hx; simp [pk] at hx
  | cons s l ih =>
    intro hb f lt lv st sv h1 h2 h3 h4 x hx
    obtain ⟨b1, b2, b3, b4⟩ := hb s (by simp)
    simp only [pk] at hx
    rcases List.mem_cons.1 hx with rfl | hx
    · unfold B2; omega
    rcases List.mem_cons.1 hx with rfl | hx
    · unfold B2; omega
    refine ih (fun s' h' => hb s' (by simp [h'])) _ _ _ _ _ (by omega) (by omega) ?_ ?_ x hx <;> split <;> omega
end Go.Proofs.Ytlpohipneianjaa.Q
end
section
set_option linter.unusedVariables false
namespace Go.Proofs.Ytlpohipneianjaa.Q
open Go Go.RowKit Go.Proofs.Ytlpohipneianjaa.G Go.Proofs.YtlpohipneianjaaW.PrintWords Go.Proofs.YtlpohipneianjaaW.PrintLast
theorem ints_loop (a b : List Int) (hab : a.length = b.length) (hl : a.length ≤ 9223372036854775807) (d : Nat) : ∀ i : Nat, i + d = a.length → (∃ K, ∀ k, K ≤ k → windroseref02_Ints.l0 k a b i = some ((decide (a.drop i = b.drop i)))) := by
  induction d with
  | zero =>
    intro i hi
    refine Ev.succ 0 fun k _ => ?_
    simp only [windroseref02_Ints.l0]
    rw [if_neg (by omega), decide_eq_true (by rw [List.drop_of_length_le (by omega), List.drop_of_length_le (by omega)])]
  | succ d ih =>
    intro i hi
    obtain ⟨K, hK⟩ := ih (i + 1) (by omega)
    refine Ev.succ K fun k hk => ?_
    simp only [windroseref02_Ints.l0]
    have e1 : wrap64 ((i : Int) + 1) = ((i + 1 : Nat) : Int) := by rw [w64] <;> omega
    rw [if_pos (by omega), if_pos (by omega), if_pos (by omega), rd_at a i (by omega), rd_at b i (by omega)]
    by_cases h : rd a i = rd b i
    · rw [if_pos h, e1, hK k hk]
      congr 1
      rw [decide_eq_decide, h]
      simp
    · rw [if_neg h, decide_eq_false (fun e => h (List.cons.inj e).1)]
theorem Ints_ev (a b : List Int) (hl : a.length ≤ 9223372036854775807) : (∃ K, ∀ k, K ≤ k → windroseref02_Ints.f k a b = some ((decide (a = b)))) := by
  by_cases h : a.length = b.length
  · obtain ⟨K, hK⟩ := ints_loop a b h hl a.length 0 (by omega)
    refine ⟨K, fun k hk => ?_⟩
    unfold windroseref02_Ints.f
    rw [if_pos (by omega)]
    exact hK k hk
  · refine ⟨0, fun k _ => ?_⟩
    unfold windroseref02_Ints.f
    rw [if_neg (by omega), decide_eq_false (fun e => h (by rw [e]))]
end Go.Proofs.Ytlpohipneianjaa.Q
end
section
set_option linter.unusedVariables false
namespace Go.Proofs.Ytlpohipneianjaa.Q
open Go Go.RowKit Go.Proofs.Ytlpohipneianjaa.G Go.Proofs.YtlpohipneianjaaW.PrintWords Go.Proofs.YtlpohipneianjaaW.PrintLast
def un : Bool → Int → Int → Int → Int → List Int → List Smp
  | f, lt, lv, st, sv, a :: b :: q => ⟨lt + (st + a), lv + (sv + b)⟩ :: un false (lt + (st + a)) (lv + (sv + b)) (if f then st else st + a) (if f then sv else sv + b) q
  | _, _, _, _, _, _ => []
theorem pk_un (n : Nat) : ∀ (q : List Int), q.length = 2 * n → ∀ f lt lv st sv, pk f lt lv st sv (un f lt lv st sv q) = q := by
  induction n with
  | zero => intro q hq; obtain rfl := List.eq_nil_of_length_eq_zero (by simpa using hq); intros; rfl
  | succ n ih =>
    intro q hq f lt lv st sv
    match q, hq with
    | a :: b :: q, hq =>
      have e1 : lt + (st + a) - lt - st = a := by omega
      have e2 : lv + (sv + b) - lv - sv = b := by omega
      have e3 : lt + (st + a) - lt = st + a := by omega
      have e4 : lv + (sv + b) - lv = sv + b := by omega
      simp only [un, pk]
      rw [e1, e2, e3, e4, ih q (by simp at hq; omega)]
theorem un_len (n : Nat) : ∀ (q : List Int), q.length = 2 * n → ∀ f lt lv st sv, (un f lt lv st sv q).length = n := by
  induction n with
  | zero => intro q hq; obtain rfl := List.eq_nil_of_length_eq_zero (by simpa using hq); intros; rfl
  | succ n ih =>
    intro q hq f lt lv st sv
    match q, hq with
    | a :: b :: q, hq =>
      simp only [un, List.length_cons]
      rw [ih q (by simp at hq; omega)]
def urun : List Smp × Smp × Smp → List Int → List Smp × Smp × Smp
  | z, a :: b :: q => urun (unpStep z a b) q
  | z, _ => z
theorem urun_pre (n : Nat) : ∀ (q : List Int), q.length = 2 * n → ∀ z, ∃ r, (urun z q).1 = z.1 ++ r := by
  induction n with
  | zero => intro q hq z; obtain rfl := List.eq_nil_of_length_eq_zero (by simpa using hq); exact ⟨[], by simp [urun]⟩
  | succ n ih =>
    intro q hq z
    match q, hq with
    | a :: b :: q, hq =>
      obtain ⟨r, hr⟩ := ih q (by simp at hq; omega) (unpStep z a b)
      exact ⟨(unpStep z a b).2.1 :: r, by simp only [urun]; rw [hr]; simp [unpStep]⟩
def Bw (s : Smp) : Prop := -1099511627776 ≤ s.f0 ∧ s.f0 ≤ 1099511627776 ∧ -1099511627776 ≤ s.f1 ∧ s.f1 ≤ 1099511627776
theorem urun_un (n : Nat) : ∀ (q : List Int), q.length = 2 * n → (∀ x ∈ q, B2 x) → ∀ (f : Bool) (acc : List Smp) (lt lv st sv : Int), (f = true ↔ acc = []) → Bw ⟨lt, lv⟩ →
    (-2199023255552 ≤ st ∧ st ≤ 2199023255552) → (-2199023255552 ≤ sv ∧ sv ≤ 2199023255552) →
    ((∀ s ∈ un f lt lv st sv q, Bw s) ∨ (∀ s ∈ (urun (acc, ⟨lt, lv⟩, ⟨st, sv⟩) q).1, Bw s)) →
    (urun (acc, ⟨lt, lv⟩, ⟨st, sv⟩) q).1 = acc ++ un f lt lv st sv q := by
  induction n with
  | zero => intro q hq _ f acc lt lv st sv _ _ _ _ _; obtain rfl := List.eq_nil_of_length_eq_zero (by simpa using hq); simp [urun, un]
  | succ n ih =>
    intro q hq hb f acc lt lv st sv hf hl hs1 hs2 H
    match q, hq with
    | a :: b :: q, hq =>
      obtain ⟨a1, a2⟩ := hb a (by simp)
      obtain ⟨b1, b2⟩ := hb b (by simp)
      obtain ⟨l1, l2, l3, l4⟩ := hl
      simp only at l1 l2 l3 l4
      have w1 : wrap64 (st + a) = st + a := by rw [w64] <;> omega
      have w2 : wrap64 (sv + b) = sv + b := by rw [w64] <;> omega
      have w3 : wrap64 (lt + (st + a)) = lt + (st + a) := by rw [w64] <;> omega
      have w4 : wrap64 (lv + (sv + b)) = lv + (sv + b) := by rw [w64] <;> omega
      have hq' : q.length = 2 * n := by simp at hq; omega
      have st1 : unpStep (acc, ⟨lt, lv⟩, ⟨st, sv⟩) a b = (acc ++ [⟨lt + (st + a), lv + (sv + b)⟩], ⟨lt + (st + a), lv + (sv + b)⟩, ⟨if f then st else st + a, if f then sv else sv + b⟩) := by
        simp only [unpStep]
        rw [w1, w2, w3, w4]
        cases f with
        | true =>
          obtain rfl := hf.1 rfl
          rw [if_neg (by simp)]
          rfl
        | false =>
          have : acc ≠ [] := fun h => by simp [h] at hf
          rw [if_pos (by have := List.length_pos_iff.2 this; omega)]
          rfl
      clear w1 w2 w3 w4
      have hn : Bw ⟨lt + (st + a), lv + (sv + b)⟩ := by
        rcases H with H | H
        · exact H _ (by simp [un])
        · refine H _ ?_
          simp only [urun]
          rw [st1]
          obtain ⟨r, hr⟩ := urun_pre n q hq' (acc ++ [⟨lt + (st + a), lv + (sv + b)⟩], ⟨lt + (st + a), lv + (sv + b)⟩, ⟨if f then st else st + a, if f then sv else sv + b⟩)
          rw [hr]
          simp
      have hn' := hn
      obtain ⟨n1, n2, n3, n4⟩ := hn'
      simp only at n1 n2 n3 n4
      simp only [urun, un]
      rw [st1, ih q hq' (fun x hx => hb x (by simp [hx])) false _ _ _ _ _ (by simp) hn (by split <;> omega) (by split <;> omega) ?_]
      · simp
      · rcases H with H | H
        · exact .inl fun s hs => H s (by simp only [un]; exact List.mem_cons_of_mem _ hs)
        · right
          intro s hs
          refine H s ?_
          simp only [urun]
          rw [st1]
          exact hs
theorem unpSt_urun (nums : List Int) (m : Nat) (hm : nums.length = 2 * m + 1) : (unpSt nums (List.finRange m)).1 = (urun ([], z42, z42) (nums.drop 1)).1 := by
  have key : ∀ (d j : Nat), j + d = m → ∀ z, ((List.finRange m).drop j).foldl (fun z i => unpStep z (numA nums i.val) (numB nums i.val)) z = urun z (nums.drop (1 + 2 * j)) := by
    intro d
    induction d with
    | zero =>
      intro j hj z
      rw [List.drop_of_length_le (by simp; omega), List.drop_of_length_le (by omega)]
      rfl
    | succ d ih =>
      intro j hj z
      have e : (List.finRange m).drop j = ⟨j, by omega⟩ :: (List.finRange m).drop (j + 1) := by
        rw [List.drop_eq_getElem_cons (by simp; omega)]
        simp
      rw [e, List.foldl_cons, ih (j + 1) (by omega), rd_at nums (1 + 2 * j) (by omega), rd_at nums (1 + 2 * j + 1) (by omega)]
      simp only [urun]
      unfold numA numB
      rw [show 1 + 2 * (j + 1) = 1 + 2 * j + 1 + 1 by omega, show 2 + 2 * j = 1 + 2 * j + 1 by omega]
  have := key m 0 (by omega) ([], z42, z42)
  unfold unpSt
  simpa using congrArg (·.1) this
theorem good_iff (nums : List Int) (m : Nat) (hm : nums.length = 2 * m + 1) : block_Unpack.good nums = true ↔ ∀ x ∈ nums.drop 1, B2 x := by
  have h2 : nums.length / 2 = m := by omega
  unfold block_Unpack.good
  rw [h2, List.all_eq_true]
  have inb : ∀ x, inB x = true ↔ B2 x := fun x => by unfold inB B2; simp
  constructor
  · intro h x hx
    obtain ⟨i, hi, rfl⟩ := List.mem_iff_getElem.1 hx
    rw [List.getElem_drop]
    have hi' : 1 + i < nums.length := by simp at hi; omega
    have hj := h ⟨i / 2, by omega⟩ (List.mem_finRange _)
    unfold goodAt at hj
    simp only [Bool.and_eq_true] at hj
    have hr : ∀ t : Nat, (ht : t < nums.length) → rd nums (t : Nat) = nums[t] := fun t ht => by simp [rd, List.getD_eq_getElem?_getD, ht]
    rcases Nat.mod_two_eq_zero_or_one i with h0 | h0
    · have := (inb _).1 hj.1
      unfold numA at this
      rw [hr _ (by show 1 + 2 * (i / 2) < _; omega)] at this
      have e : 1 + 2 * (i / 2) = 1 + i := by omega
      simpa only [e] using this
    · have := (inb _).1 hj.2
      unfold numB at this
      rw [hr _ (by show 2 + 2 * (i / 2) < _; omega)] at this
      have e : 2 + 2 * (i / 2) = 1 + i := by omega
      simpa only [e] using this
  · intro h j _
    have hj := j.isLt
    have hr : ∀ t : Nat, (ht : 1 + t < nums.length) → B2 (rd nums ((1 + t : Nat) : Nat)) := fun t ht => by
      have := rd_mem (nums.drop 1) t (by simp; omega)
      have e : rd (nums.drop 1) (t : Nat) = rd nums ((1 + t : Nat) : Nat) := by simp only [rd, Int.toNat_natCast]; simp [List.getD_eq_getElem?_getD, Nat.add_comm]
      rw [← e]
      exact h _ this
    unfold goodAt numA numB
    simp only [Bool.and_eq_true]
    refine ⟨(inb _).2 (hr (2 * j.val) (by omega)), (inb _).2 ?_⟩
    have := hr (2 * j.val + 1) (by omega)
    rwa [show 1 + (2 * j.val + 1) = 2 + 2 * j.val by omega] at this
def RelN (l : List Smp) (i : Nat) (f : Bool) (lt lv st sv : Int) : Prop :=
  (i = 0 → f = true ∧ lt = 0 ∧ lv = 0 ∧ st = 0 ∧ sv = 0) ∧
  (0 < i → f = false ∧ lt = (at_ l (i - 1)).f0 ∧ lv = (at_ l (i - 1)).f1) ∧ (i = 1 → st = 0 ∧ sv = 0) ∧
  (1 < i → st = (at_ l (i - 1)).f0 - (at_ l (i - 2)).f0 ∧ sv = (at_ l (i - 1)).f1 - (at_ l (i - 2)).f1)
theorem RelN.next {l : List Smp} {i : Nat} {f : Bool} {lt lv st sv : Int} (h : RelN l i f lt lv st sv) : RelN l (i + 1) false (at_ l i).f0 (at_ l i).f1 (if f then st else (at_ l i).f0 - lt) (if f then sv else (at_ l i).f1 - lv) := by
  obtain ⟨h0, h1, h2, h3⟩ := h
  refine ⟨fun h => by omega, fun _ => ⟨rfl, rfl, rfl⟩, fun h => ?_, fun h => ?_⟩
  · obtain ⟨rfl, _, _, e1, e2⟩ := h0 (by omega)
    exact ⟨e1, e2⟩
  · obtain ⟨rfl, e1, e2⟩ := h1 (by omega)
    rw [e1, e2]
    exact ⟨rfl, rfl⟩
theorem nums_loop (l : List Smp) (hm : May l) (d : Nat) : ∀ (i : Nat) (f : Bool) (acc : List Int) (lt lv st sv : Int), RelN l i f lt lv st sv → i + d = l.length → acc.length ≤ 1000 + 2 * i →
    (∃ K, ∀ k, K ≤ k → windroseref11_Nums.l0 k l acc i = some ((acc ++ pk f lt lv st sv (l.drop i)))) := by
  have h64 := hm.1
  induction d with
  | zero =>
    intro i f acc lt lv st sv hr hi ha
    refine Ev.succ 0 fun k _ => ?_
    simp only [windroseref11_Nums.l0]
    rw [if_neg (by omega), List.drop_of_length_le (by omega), pk, List.append_nil]
  | succ d ih =>
    intro i f acc lt lv st sv hr hi ha
    have hf := hm.2 i (by omega)
    obtain ⟨f1, f2, f3, f4, _⟩ := hf
    have hrn := hr.next
    obtain ⟨r0, r1, r2, r3⟩ := hr
    have hd : l.drop i = at_ l i :: l.drop (i + 1) := by rw [drop_getD l i z42 (by omega)]; rfl
    have hp1 : 0 < i → (0 ≤ (at_ l (i - 1)).f0 ∧ (at_ l (i - 1)).f0 ≤ 1099511627776 ∧ -1099511627776 ≤ (at_ l (i - 1)).f1 ∧ (at_ l (i - 1)).f1 ≤ 1099511627776) := fun h => by
      obtain ⟨a, b, c, d, _⟩ := hm.2 (i - 1) (by omega); exact ⟨a, b, c, d⟩
    have hp2 : 1 < i → (0 ≤ (at_ l (i - 2)).f0 ∧ (at_ l (i - 2)).f0 ≤ 1099511627776 ∧ -1099511627776 ≤ (at_ l (i - 2)).f1 ∧ (at_ l (i - 2)).f1 ≤ 1099511627776) := fun h => by
      obtain ⟨a, b, c, d, _⟩ := hm.2 (i - 2) (by omega); exact ⟨a, b, c, d⟩
    have c1 : (i : Int) < (l.length : Int) := by omega
    have c2 : (0 : Int) ≤ (i : Int) := Int.natCast_nonneg i
    have hc : ∀ x y : Int, acc.length + [x, y].length < 17592186044416 := fun x y => by
      have : [x, y].length = 2 := rfl
      rw [this]; omega
    have e1 : wrap64 ((i : Int) + 1) = ((i + 1 : Nat) : Int) := by rw [w64] <;> omega
    have hb3 : ∀ x y : Int, (acc ++ [x, y]).length ≤ 1000 + 2 * (i + 1) := fun x y => by rw [List.length_append]; simp only [List.length_cons, List.length_nil]; omega
    obtain ⟨K, hK⟩ := ih (i + 1) false (acc ++ [(at_ l i).f0 - lt - st, (at_ l i).f1 - lv - sv]) _ _ _ _ hrn (by omega) (hb3 _ _)
    refine Ev.succ K fun k hk => ?_
    have hKk := hK k hk
    rw [List.append_assoc] at hKk
    rw [hd, pk]
    simp only [windroseref11_Nums.l0]
    rw [if_pos c1, if_pos c2]
    clear hK hrn ih
    have ea : rd_T42 l i = at_ l i := rfl
    rw [ea]
    generalize at_ l i = s at hKk f1 f2 f3 f4 ⊢
    by_cases g0 : 0 < i
    · have e2 : wrap64 ((i : Int) - 1) = ((i - 1 : Nat) : Int) := by rw [w64] <;> omega
      obtain ⟨b1, b2, b3, b4⟩ := hp1 g0
      obtain ⟨rfl, q1, q2⟩ := r1 g0
      rw [if_pos (show (i : Int) > 0 by omega), e2, if_pos (by omega), if_pos (by omega)]
      have eb : rd_T42 l ((i - 1 : Nat) : Int) = at_ l (i - 1) := rfl
      rw [eb]
      generalize at_ l (i - 1) = p at b1 b2 b3 b4 q1 q2 r3 ⊢
      have v1 : wrap64 (s.f0 - p.f0) = s.f0 - p.f0 := by rw [w64] <;> omega
      have v2 : wrap64 (s.f1 - p.f1) = s.f1 - p.f1 := by rw [w64] <;> omega
      rw [v1, v2]
      by_cases g1 : 1 < i
      · have e3 : wrap64 ((i : Int) - 2) = ((i - 2 : Nat) : Int) := by rw [w64] <;> omega
        obtain ⟨d1, d2, d3, d4⟩ := hp2 g1
        obtain ⟨q3, q4⟩ := r3 g1
        rw [if_pos (show (i : Int) > 1 by omega), e3, if_pos (by omega), if_pos (by omega)]
        have ec : rd_T42 l ((i - 2 : Nat) : Int) = at_ l (i - 2) := rfl
        rw [ec]
        generalize at_ l (i - 2) = r at d1 d2 d3 d4 q3 q4 ⊢
        have v3 : wrap64 (p.f0 - r.f0) = p.f0 - r.f0 := by rw [w64] <;> omega
        have v4 : wrap64 (p.f1 - r.f1) = p.f1 - r.f1 := by rw [w64] <;> omega
        have v5 : wrap64 (s.f0 - p.f0 - (p.f0 - r.f0)) = s.f0 - p.f0 - (p.f0 - r.f0) := by rw [w64] <;> omega
        have v6 : wrap64 (s.f1 - p.f1 - (p.f1 - r.f1)) = s.f1 - p.f1 - (p.f1 - r.f1) := by rw [w64] <;> omega
        rw [v3, v4, v5, v6, Option.bind_some, if_pos (hc _ _), e1]
        rw [q1, q2, q3, q4] at hKk
        rw [q1, q2, q3, q4]
        exact hKk
      · obtain ⟨q3, q4⟩ := r2 (by omega)
        rw [if_neg (show ¬ (i : Int) > 1 by omega), Option.bind_some, if_pos (hc _ _), e1]
        rw [q1, q2, q3, q4, Int.sub_zero, Int.sub_zero] at hKk
        rw [q1, q2, q3, q4, Int.sub_zero, Int.sub_zero]
        exact hKk
    · obtain ⟨rfl, rfl, rfl, rfl, rfl⟩ := r0 (by omega)
      rw [if_neg (show ¬ (i : Int) > 0 by omega), if_neg (show ¬ (i : Int) > 1 by omega), Option.bind_some, if_pos (hc _ _), e1]
      rw [Int.sub_zero, Int.sub_zero, Int.sub_zero, Int.sub_zero] at hKk
      rw [Int.sub_zero, Int.sub_zero, Int.sub_zero, Int.sub_zero]
      exact hKk
theorem Nums_ev (l : List Smp) (hm : May l) : (∃ K, ∀ k, K ≤ k → windroseref11_Nums.f k l = some ((packS l))) := by
  obtain ⟨K, hK⟩ := nums_loop l hm l.length 0 true [(l.length : Int)] 0 0 0 0 ⟨fun _ => ⟨rfl, rfl, rfl, rfl, rfl⟩, fun h => by omega, fun h => by omega, fun h => by omega⟩ (by omega) (by simp)
  exact ⟨K, fun k hk => by unfold windroseref11_Nums.f; exact hK k hk⟩
theorem at_app (x y : List Smp) (j : Nat) (h : j < x.length) : at_ (x ++ y) j = at_ x j := by
  simp only [at_, rd_T42, Int.toNat_natCast]
  simp [List.getD_eq_getElem?_getD, List.getElem?_append_left h]
theorem at_end (x : List Smp) (s : Smp) : at_ (x ++ [s]) x.length = s := by
  simp only [at_, rd_T42, Int.toNat_natCast]
  simp [List.getD_eq_getElem?_getD]
theorem may_pre (x y : List Smp) (h : May (x ++ y)) : May x := by
  refine ⟨by have := h.1; simp at this; omega, fun i hi => ?_⟩
  obtain ⟨a, b, c, d, e⟩ := h.2 i (by simp; omega)
  rw [at_app x y i hi] at a b c d e
  refine ⟨a, b, c, d, fun h0 => ?_⟩
  have := e h0
  rwa [at_app x y (i - 1) (by omega)] at this
theorem may_nil : May ([] : List Smp) := ⟨by simp, fun i hi => by simp at hi⟩
theorem RelN.app {l : List Smp} {i : Nat} {f : Bool} {lt lv st sv : Int} (s : Smp) (h : RelN l i f lt lv st sv) (hi : i = l.length) : RelN (l ++ [s]) (i + 1) false s.f0 s.f1 (if f then st else s.f0 - lt) (if f then sv else s.f1 - lv) := by
  have h' : RelN (l ++ [s]) i f lt lv st sv := by
    obtain ⟨h0, h1, h2, h3⟩ := h
    refine ⟨h0, fun g => ?_, h2, fun g => ?_⟩
    · rw [at_app _ _ _ (by omega)]; exact h1 g
    · rw [at_app _ _ _ (by omega), at_app _ _ _ (by omega)]; exact h3 g
  have := h'.next
  rw [hi, at_end] at this
  rw [hi]
  exact this
theorem packS_b (L : List Smp) (h : May L) : ∀ x ∈ (packS L).drop 1, B2 x := by
  have := (fits_ok L h.2).1
  exact pk_b L this true 0 0 0 0 (by omega) (by omega) (by omega) (by omega)
noncomputable def resR (L : List Smp) (nums : List Int) : List Smp × Bool := by
  classical exact if May L ∧ packS L = nums then (L, true) else ([], false)
theorem resR_no {L : List Smp} {nums : List Int} (h : ¬ (May L ∧ packS L = nums)) : resR L nums = ([], false) := by unfold resR; rw [if_neg h]
theorem resR_yes {L : List Smp} {nums : List Int} (h : May L ∧ packS L = nums) : resR L nums = (L, true) := by unfold resR; rw [if_pos h]
theorem mem_drop1 {x : Int} {l : List Int} {i : Nat} (h : x ∈ l.drop i) (hi : 1 ≤ i) : x ∈ l.drop 1 := by
  obtain ⟨j, rfl⟩ : ∃ j, i = 1 + j := ⟨i - 1, by omega⟩
  rw [← List.drop_drop] at h
  exact List.mem_of_mem_drop h
theorem ref_loop (nums : List Int) (hn : nums.length ≤ 129) (texts : List ByteArray) (d : Nat) : ∀ (i : Nat) (acc : List Smp) (f : Bool) (lt lv st sv : Int), RelN acc acc.length f lt lv st sv → i = 1 + 2 * acc.length → nums.length ≤ i + 2 * d → May acc →
    (∃ K, ∀ k, K ≤ k → windroseref11_Unpack.l0 k acc i nums texts = some ((resR (acc ++ un f lt lv st sv (nums.drop i)) nums))) := by
  induction d with
  | zero =>
    intro i acc f lt lv st sv hr hi hd hm
    have e : nums.drop i = [] := List.drop_of_length_le (by omega)
    rw [e, show un f lt lv st sv [] = [] by simp [un], List.append_nil]
    have e1 : wrap64 ((i : Int) + 1) = ((i + 1 : Nat) : Int) := by rw [w64] <;> have := hm.1 <;> omega
    obtain ⟨K, hK⟩ := Nums_ev acc hm
    obtain ⟨K2, hK2⟩ := Ints_ev (packS acc) nums (by have := hm.1; simp [packS, pk_len]; omega)
    refine Ev.succ (K + K2) fun k hk => ?_
    simp only [windroseref11_Unpack.l0]
    rw [e1, if_neg (by omega), hK k (by omega), Option.bind_some, hK2 k (by omega), Option.bind_some]
    by_cases h : packS acc = nums
    · rw [decide_eq_true h, if_pos rfl, resR_yes ⟨hm, h⟩]
    · rw [decide_eq_false h, if_neg (by simp), resR_no (fun h' => h h'.2)]
  | succ d ih =>
    intro i acc f lt lv st sv hr hi hd hm
    have h64 := hm.1
    have e1 : wrap64 ((i : Int) + 1) = ((i + 1 : Nat) : Int) := by rw [w64] <;> omega
    by_cases hlt : i + 1 < nums.length
    · have hdr : nums.drop i = rd nums i :: rd nums ((i + 1 : Nat) : Nat) :: nums.drop (i + 2) := by rw [rd_at nums i (by omega), rd_at nums (i + 1) (by omega)]
      have ma : rd nums i ∈ nums.drop 1 := by
        have : rd nums i ∈ nums.drop i := by rw [hdr]; simp
        exact mem_drop1 this (by omega)
      have mb : rd nums ((i + 1 : Nat) : Nat) ∈ nums.drop 1 := by
        have : rd nums ((i + 1 : Nat) : Nat) ∈ nums.drop i := by rw [hdr]; simp
        exact mem_drop1 this (by omega)
      have far : ∀ L : List Smp, ¬ (B2 (rd nums i) ∧ B2 (rd nums ((i + 1 : Nat) : Nat))) → resR L nums = ([], false) := fun L hno => resR_no fun h => hno ⟨packS_b L h.1 _ (by rw [h.2]; exact ma), packS_b L h.1 _ (by rw [h.2]; exact mb)⟩
      rw [hdr]
      generalize hA : rd nums i = a at far
      generalize hB : rd nums ((i + 1 : Nat) : Nat) = b at far
      clear ma mb hdr
      have bad : ∀ L : List Smp, ¬ (B2 a ∧ B2 b) → (∃ K, ∀ k, K ≤ k → windroseref11_Unpack.j2 k acc i a b true nums texts = some ((resR L nums))) := fun L hno => Ev.succ 0 fun k _ => by
        simp only [windroseref11_Unpack.j2]
        rw [if_pos trivial, far L hno]
      have start : ∀ (R : List Smp × Bool) (c : Bool), (∃ K, ∀ k, K ≤ k → windroseref11_Unpack.j2 k acc i a b c nums texts = some (R)) → (if a > 8796093022208 then true else if a < -8796093022208 then true else if b > 8796093022208 then true else decide (b < -8796093022208)) = c → (∃ K, ∀ k, K ≤ k → windroseref11_Unpack.l0 k acc i nums texts = some (R)) := fun R c ⟨K, hK⟩ hc => Ev.succ K fun k hk => by
        have hKk := hK k hk
        simp only [windroseref11_Unpack.l0]
        rw [e1, if_pos (by omega), if_pos (by omega), if_pos (by omega), if_pos (by omega), hA, hB]
        rw [← hc] at hKk
        clear hc hK
        by_cases g1 : a > 8796093022208
        · rw [if_pos g1] at hKk ⊢; exact hKk
        rw [if_neg g1] at hKk ⊢
        by_cases g2 : a < -8796093022208
        · rw [if_pos g2] at hKk ⊢; exact hKk
        rw [if_neg g2] at hKk ⊢
        by_cases g3 : b > 8796093022208
        · rw [if_pos g3] at hKk ⊢; exact hKk
        rw [if_neg g3] at hKk ⊢
        exact hKk
      by_cases hbd : (-8796093022208 ≤ a ∧ a ≤ 8796093022208) ∧ (-8796093022208 ≤ b ∧ b ≤ 8796093022208)
      · obtain ⟨⟨a1, a2⟩, b1, b2⟩ := hbd
        refine start _ false ?_ (by rw [if_neg (by omega), if_neg (by omega), if_neg (by omega), decide_eq_false (by omega)])
        clear start bad far
        have hs0 : RelN (acc ++ [⟨lt + (st + a), lv + (sv + b)⟩]) (acc.length + 1) false (lt + (st + a)) (lv + (sv + b)) (if f then st else st + a) (if f then sv else sv + b) := by
          have := hr.app ⟨lt + (st + a), lv + (sv + b)⟩ rfl
          have q1 : lt + (st + a) - lt = st + a := by omega
          have q2 : lv + (sv + b) - lv = sv + b := by omega
          rw [q1, q2] at this
          exact this
        have eL : acc ++ un f lt lv st sv (a :: b :: nums.drop (i + 2)) = (acc ++ [⟨lt + (st + a), lv + (sv + b)⟩]) ++ un false (lt + (st + a)) (lv + (sv + b)) (if f then st else st + a) (if f then sv else sv + b) (nums.drop (i + 2)) := by simp [un]
        rw [eL]
        obtain ⟨s, hs⟩ : ∃ s : Smp, s = ⟨lt + (st + a), lv + (sv + b)⟩ := ⟨_, rfl⟩
        have e2 : wrap64 ((i : Int) + 2) = ((i + 2 : Nat) : Int) := by rw [w64] <;> omega
        obtain ⟨R, hR⟩ : ∃ R, R = resR ((acc ++ [s]) ++ un false (lt + (st + a)) (lv + (sv + b)) (if f then st else st + a) (if f then sv else sv + b) (nums.drop (i + 2))) nums := ⟨_, rfl⟩
        have T : (∃ K, ∀ k, K ≤ k → (windroseref11_May.f k (acc ++ [s])).bind (fun t => if t = true then windroseref11_Unpack.l0 k (acc ++ [s]) (wrap64 ((i : Int) + 2)) nums texts else some ([], false)) = some (R)) := by
          obtain ⟨K, hK⟩ := may_ev (acc ++ [s]) (by unfold maxLen; simp; omega)
          by_cases hmay : May (acc ++ [s])
          · obtain ⟨K2, hK2⟩ := ih (i + 2) (acc ++ [s]) _ _ _ _ _ (by rw [hs, List.length_append]; exact hs0) (by simp; omega) (by omega) hmay
            refine ⟨K + K2, fun k hk => ?_⟩
            rw [hK k (by omega), Option.bind_some, decide_eq_true hmay, if_pos rfl, e2, hK2 k (by omega), hR]
          · refine ⟨K, fun k hk => ?_⟩
            rw [hK k (by omega), Option.bind_some, decide_eq_false hmay, if_neg (by simp), hR, resR_no (fun h => hmay (may_pre _ _ h.1))]
        rw [← hs, ← hR]
        clear hR eL hs0 ih
        obtain ⟨K, hK⟩ := T
        obtain ⟨r0, r1, r2, r3⟩ := hr
        have hc : acc.length < 8796093022208 := by omega
        refine Ev.succ (K + 1) fun k hk => ?_
        obtain ⟨k, rfl⟩ : ∃ k', k = k' + 1 := ⟨k - 1, by omega⟩
        have hKk := hK k (by omega)
        simp only [windroseref11_Unpack.j2]
        rw [if_neg (by simp)]
        by_cases g0 : 0 < acc.length
        · have e3 : wrap64 ((acc.length : Int) - 1) = ((acc.length - 1 : Nat) : Int) := by rw [w64] <;> omega
          obtain ⟨_, q1, q2⟩ := r1 g0
          obtain ⟨p1, p2, p3, p4, _⟩ := hm.2 (acc.length - 1) (by omega)
          rw [if_pos (show (acc.length : Int) > 0 by omega), e3, if_pos (by omega), if_pos (by omega)]
          have eb : rd_T42 acc ((acc.length - 1 : Nat) : Int) = at_ acc (acc.length - 1) := rfl
          rw [eb]
          simp only [windroseref11_Unpack.j3]
          by_cases g1 : 1 < acc.length
          · have e4 : wrap64 ((acc.length : Int) - 2) = ((acc.length - 2 : Nat) : Int) := by rw [w64] <;> omega
            obtain ⟨q3, q4⟩ := r3 g1
            obtain ⟨d1, d2, d3, d4, _⟩ := hm.2 (acc.length - 2) (by omega)
            rw [if_pos (show (acc.length : Int) > 1 by omega), e3, if_pos (by omega), if_pos (by omega), e4, if_pos (by omega), if_pos (by omega), if_pos hc, eb]
            have ec : rd_T42 acc ((acc.length - 2 : Nat) : Int) = at_ acc (acc.length - 2) := rfl
            rw [ec]
            generalize at_ acc (acc.length - 1) = p at p1 p2 p3 p4 q1 q2 q3 q4 ⊢
            generalize at_ acc (acc.length - 2) = r at d1 d2 d3 d4 q3 q4 ⊢
            have v1 : wrap64 (a + p.f0) = a + p.f0 := by rw [w64] <;> omega
            have v2 : wrap64 (b + p.f1) = b + p.f1 := by rw [w64] <;> omega
            have v3 : wrap64 (a + p.f0 + p.f0) = a + p.f0 + p.f0 := by rw [w64] <;> omega
            have v4 : wrap64 (b + p.f1 + p.f1) = b + p.f1 + p.f1 := by rw [w64] <;> omega
            have v5 : wrap64 (a + p.f0 + p.f0 - r.f0) = a + p.f0 + p.f0 - r.f0 := by rw [w64] <;> omega
            have v6 : wrap64 (b + p.f1 + p.f1 - r.f1) = b + p.f1 + p.f1 - r.f1 := by rw [w64] <;> omega
            rw [v1, v2, v3, v4, v5, v6]
            clear v1 v2 v3 v4 v5 v6
            have es : (⟨a + p.f0 + p.f0 - r.f0, b + p.f1 + p.f1 - r.f1⟩ : Smp) = s := by
              rw [hs, q1, q2, q3, q4]
              congr 1 <;> omega
            rw [es, Option.bind_some]
            exact hKk
          · obtain ⟨q3, q4⟩ := r2 (by omega)
            rw [if_neg (show ¬ (acc.length : Int) > 1 by omega), if_pos hc]
            generalize at_ acc (acc.length - 1) = p at p1 p2 p3 p4 q1 q2 ⊢
            have v1 : wrap64 (a + p.f0) = a + p.f0 := by rw [w64] <;> omega
            have v2 : wrap64 (b + p.f1) = b + p.f1 := by rw [w64] <;> omega
            rw [v1, v2]
            clear v1 v2
            have es : (⟨a + p.f0, b + p.f1⟩ : Smp) = s := by
              rw [hs, q1, q2, q3, q4]
              congr 1 <;> omega
            rw [es, Option.bind_some]
            exact hKk
        · obtain ⟨_, q1, q2, q3, q4⟩ := r0 (by omega)
          rw [if_neg (show ¬ (acc.length : Int) > 0 by omega)]
          simp only [windroseref11_Unpack.j3]
          rw [if_neg (show ¬ (acc.length : Int) > 1 by omega), if_pos hc]
          have es : (⟨a, b⟩ : Smp) = s := by
            rw [hs, q1, q2, q3, q4]
            congr 1 <;> omega
          rw [es, Option.bind_some]
          exact hKk
      · refine start _ true (bad _ (by unfold B2; omega)) ?_
        clear start bad far
        by_cases g1 : a > 8796093022208
        · rw [if_pos g1]
        by_cases g2 : a < -8796093022208
        · rw [if_neg g1, if_pos g2]
        by_cases g3 : b > 8796093022208
        · rw [if_neg g1, if_neg g2, if_pos g3]
        rw [if_neg g1, if_neg g2, if_neg g3, decide_eq_true (by omega)]
    · have e : un f lt lv st sv (nums.drop i) = [] := by
        have : (nums.drop i).length ≤ 1 := by simp; omega
        match hq : nums.drop i, this with
        | [], _ => simp [un]
        | [x], _ => simp [un]
        | _ :: _ :: _, h => simp at h
      rw [e, List.append_nil]
      obtain ⟨K, hK⟩ := Nums_ev acc hm
      obtain ⟨K2, hK2⟩ := Ints_ev (packS acc) nums (by simp [packS, pk_len]; omega)
      refine Ev.succ (K + K2) fun k hk => ?_
      simp only [windroseref11_Unpack.l0]
      rw [e1, if_neg (by omega), hK k (by omega), Option.bind_some, hK2 k (by omega), Option.bind_some]
      by_cases h : packS acc = nums
      · rw [decide_eq_true h, if_pos rfl, resR_yes ⟨hm, h⟩]
      · rw [decide_eq_false h, if_neg (by simp), resR_no (fun h' => h h'.2)]
def Dat (nums : List Int) (texts : List ByteArray) : Prop := texts.length = 0 ∧ May (un true 0 0 0 0 (nums.drop 1)) ∧ packS (un true 0 0 0 0 (nums.drop 1)) = nums
noncomputable instance (nums : List Int) (texts : List ByteArray) : Decidable (Dat nums texts) := Classical.propDecidable _
theorem Dat.len {nums : List Int} {texts : List ByteArray} (h : Dat nums texts) : ∃ m, m ≤ 64 ∧ nums.length = 2 * m + 1 ∧ rd nums 0 = (m : Int) ∧ (un true 0 0 0 0 (nums.drop 1)).length = m := by
  obtain ⟨_, h2, h3⟩ := h
  refine ⟨_, h2.1, ?_, ?_, rfl⟩
  · rw [← congrArg List.length h3]; simp [packS, pk_len]
  · generalize un true 0 0 0 0 (nums.drop 1) = L at h3 ⊢
    rw [← h3]; rfl
theorem ref_ev (nums : List Int) (texts : List ByteArray) : (∃ K, ∀ k, K ≤ k → windroseref11_Unpack.f k nums texts = some ((if Dat nums texts then (un true 0 0 0 0 (nums.drop 1), true) else ([], false)))) := by
  have no : (0 < texts.length ∨ 129 < nums.length ∨ nums.length < 1) → ¬ Dat nums texts := fun h hd => by
    obtain ⟨m, h1, h2, _⟩ := hd.len
    have := hd.1
    omega
  have j : ∀ k, windroseref11_Unpack.j0 (k + 1) true nums texts = some ([], false) := fun k => by simp only [windroseref11_Unpack.j0]; rw [if_pos trivial]
  by_cases g1 : 0 < texts.length
  · rw [if_neg (no (.inl g1))]
    refine ⟨1, fun k hk => ?_⟩
    obtain ⟨k, rfl⟩ : ∃ k', k = k' + 1 := ⟨k - 1, by omega⟩
    unfold windroseref11_Unpack.f
    rw [if_pos (by omega), j]
  by_cases g2 : 129 < nums.length
  · rw [if_neg (no (.inr (.inl g2)))]
    refine ⟨1, fun k hk => ?_⟩
    obtain ⟨k, rfl⟩ : ∃ k', k = k' + 1 := ⟨k - 1, by omega⟩
    unfold windroseref11_Unpack.f
    rw [if_neg (by omega), if_pos (by omega), j]
  by_cases g3 : nums.length < 1
  · rw [if_neg (no (.inr (.inr g3)))]
    refine ⟨1, fun k hk => ?_⟩
    obtain ⟨k, rfl⟩ : ∃ k', k = k' + 1 := ⟨k - 1, by omega⟩
    unfold windroseref11_Unpack.f
    rw [if_neg (by omega), if_neg (by omega), decide_eq_true (by omega), j]
  obtain ⟨K, hK⟩ := ref_loop nums (by omega) texts 65 1 [] true 0 0 0 0 ⟨fun _ => ⟨rfl, rfl, rfl, rfl, rfl⟩, fun h => by simp at h, fun h => by simp at h, fun h => by simp at h⟩ (by simp) (by omega) may_nil
  refine ⟨K + 1, fun k hk => ?_⟩
  obtain ⟨k, rfl⟩ : ∃ k', k = k' + 1 := ⟨k - 1, by omega⟩
  unfold windroseref11_Unpack.f
  rw [if_neg (by omega), if_neg (by omega), decide_eq_false (by omega)]
  simp only [windroseref11_Unpack.j0]
  rw [if_neg (by simp)]
  refine (hK k (by omega)).trans ?_
  rw [List.nil_append]
  by_cases hd : Dat nums texts
  · rw [if_pos hd, resR_yes hd.2]
  · rw [if_neg hd, resR_no (fun h => hd ⟨by omega, h⟩)]
theorem bw_of_may {L : List Smp} (h : May L) : ∀ s ∈ L, Bw s := fun s hs => by
  obtain ⟨h1, h2, h3, h4⟩ := (fits_ok L h.2).1 s hs
  exact ⟨by omega, h2, h3, h4⟩
theorem prog_ev (nums : List Int) (hn : nums.length ≤ maxLen) (texts : List ByteArray) : (∃ K, ∀ k, K ≤ k → block_Unpack.f k nums texts = some ((if Dat nums texts then (un true 0 0 0 0 (nums.drop 1), (0 : Int)) else ([], 2)))) := by
  have row : ∀ m, nums.length = 2 * m + 1 → block_Unpack.row nums = (urun ([], z42, z42) (nums.drop 1)).1 := fun m hm => by
    unfold block_Unpack.row
    rw [show nums.length / 2 = m by omega]
    exact unpSt_urun nums m hm
  have same : ∀ m, nums.length = 2 * m + 1 → block_Unpack.good nums = true → (May (un true 0 0 0 0 (nums.drop 1)) ∨ May (block_Unpack.row nums)) → block_Unpack.row nums = un true 0 0 0 0 (nums.drop 1) := fun m hm hg h => by
    rw [row m hm] at h ⊢
    have := urun_un m (nums.drop 1) (by simp; omega) ((good_iff nums m hm).1 hg) true [] 0 0 0 0 (by simp) ⟨by simp, by simp, by simp, by simp⟩ (by omega) (by omega) (h.imp bw_of_may bw_of_may)
    exact this
  by_cases hd : Dat nums texts
  · rw [if_pos hd]
    obtain ⟨m, h1, h2, h3, h4⟩ := hd.len
    have hok : block_Unpack.ok nums texts = true := by
      unfold block_Unpack.ok
      simp only [Bool.and_eq_true, decide_eq_true_eq]
      exact ⟨⟨⟨by omega, by rw [h3, show nums.length / 2 = m by omega]⟩, hd.1⟩, by omega⟩
    have hg : block_Unpack.good nums = true := (good_iff nums m h2).2 (by have := packS_b _ hd.2.1; rwa [hd.2.2] at this)
    have hr := same m h2 hg (.inl hd.2.1)
    obtain ⟨K, hK⟩ := check_ev (un true 0 0 0 0 (nums.drop 1))
    refine ⟨K, fun k hk => ?_⟩
    unfold block_Unpack.f
    rw [if_pos hn, if_pos hok, if_pos hg, hr, hK k hk, Option.bind_some, if_pos hd.2.1, if_pos rfl]
  · rw [if_neg hd]
    obtain ⟨K, hK⟩ := check_ev (block_Unpack.row nums)
    refine ⟨K, fun k hk => ?_⟩
    unfold block_Unpack.f
    rw [if_pos hn]
    split
    · rename_i hok
      split
      · rename_i hg
        rw [hK k hk, Option.bind_some]
        by_cases hm : May (block_Unpack.row nums)
        · exfalso
          unfold block_Unpack.ok at hok
          simp only [Bool.and_eq_true, decide_eq_true_eq] at hok
          obtain ⟨⟨⟨o1, o2⟩, o3⟩, o4⟩ := hok
          have hm2 : nums.length = 2 * (nums.length / 2) + 1 := by omega
          have hr := same _ hm2 hg (.inr hm)
          rw [hr] at hm
          refine hd ⟨o3, hm, ?_⟩
          have hl := un_len (nums.length / 2) (nums.drop 1) (by simp; omega) true 0 0 0 0
          unfold packS
          rw [hl, pk_un (nums.length / 2) (nums.drop 1) (by simp; omega), ← o2]
          have := rd_at nums 0 (by omega)
          simpa using this.symm
        · rw [if_neg hm, if_neg (by decide)]
      · rfl
    · rfl
theorem same11_loop (a : List Smp) (hl : a.length ≤ 64) (d : Nat) : ∀ i : Nat, i + d = a.length → (∃ K, ∀ k, K ≤ k → windroseref11_Same.l0 k a a i = some (true)) := by
  induction d with
  | zero =>
    intro i hi
    refine Ev.succ 0 fun k _ => ?_
    simp only [windroseref11_Same.l0]
    rw [if_neg (by omega)]
  | succ d ih =>
    intro i hi
    obtain ⟨K, hK⟩ := ih (i + 1) (by omega)
    refine Ev.succ K fun k hk => ?_
    simp only [windroseref11_Same.l0]
    have e1 : wrap64 ((i : Int) + 1) = ((i + 1 : Nat) : Int) := by rw [w64] <;> omega
    rw [if_pos (by omega), if_pos (by omega), if_pos (by omega), if_neg (by simp), e1]
    exact hK k hk
theorem Same11_ev (a : List Smp) (hl : a.length ≤ 64) : (∃ K, ∀ k, K ≤ k → windroseref11_Same.f k a a = some (true)) := by
  obtain ⟨K, hK⟩ := same11_loop a hl a.length 0 (by omega)
  exact ⟨K, fun k hk => by unfold windroseref11_Same.f; rw [if_pos rfl]; exact hK k hk⟩
end Go.Proofs.Ytlpohipneianjaa.Q
end
section
set_option linter.unusedVariables false
namespace Go.Proofs.Ytlpohipneianjaa.Q
open Go Go.RowKit Go.Proofs.Ytlpohipneianjaa.G Go.Proofs.YtlpohipneianjaaW.PrintWords Go.Proofs.YtlpohipneianjaaW.PrintLast
theorem awake11u_ev : (∃ K, ∀ k, K ≤ k → windroselaw11_awake.f k = some (true)) := by
  have h : windroselaw11_awake.f 12 = some true := by decide +kernel
  exact Ev.of windroselaw11_awake.mono h
theorem BlockUnpacks : ∀ (l0_0 : List Int) (l0_1 : List ByteArray), (l0_0.length ≤ maxLen ∧ ∀ y4 ∈ l0_0, (Lit.int .i64 y4).wf = true) ∧ (l0_1.length ≤ maxLen ∧ ∀ y4 ∈ l0_1, y4.size ≤ maxLen) → ∃ k, windroselaw11_BlockUnpacks.f k l0_0 l0_1 = some true := by
  intro nums texts ⟨⟨hn, _⟩, _⟩
  obtain ⟨K1, hA⟩ := awake11u_ev
  obtain ⟨K2, hP⟩ := prog_ev nums hn texts
  obtain ⟨K3, hR⟩ := ref_ev nums texts
  have j1 : windroselaw11_BlockUnpacks.j0 (K1 + 1) true nums texts = some true := by
    simp only [windroselaw11_BlockUnpacks.j0]
    rw [if_pos trivial, hA K1 (by omega), Option.bind_some]
  by_cases g1 : 400 < nums.length
  · exact ⟨K1 + 1, by unfold windroselaw11_BlockUnpacks.f; rw [if_pos (by omega)]; exact j1⟩
  by_cases g2 : 100 < texts.length
  · exact ⟨K1 + 1, by unfold windroselaw11_BlockUnpacks.f; rw [if_neg (by omega), decide_eq_true (by omega)]; exact j1⟩
  by_cases hd : Dat nums texts
  · obtain ⟨K4, hS⟩ := Same11_ev (un true 0 0 0 0 (nums.drop 1)) hd.2.1.1
    refine ⟨K1 + K2 + K3 + K4 + 1, ?_⟩
    unfold windroselaw11_BlockUnpacks.f
    rw [if_neg (by omega), decide_eq_false (by omega)]
    simp only [windroselaw11_BlockUnpacks.j0]
    rw [if_neg (by simp), hP _ (by omega), Option.bind_some, hR _ (by omega), Option.bind_some, if_pos hd, if_pos hd]
    simp only
    rw [if_pos trivial, if_pos trivial, hS _ (by omega), Option.bind_some, if_pos rfl, hA _ (by omega), Option.bind_some]
  · refine ⟨K1 + K2 + K3 + 1, ?_⟩
    unfold windroselaw11_BlockUnpacks.f
    rw [if_neg (by omega), decide_eq_false (by omega)]
    simp only [windroselaw11_BlockUnpacks.j0]
    rw [if_neg (by simp), hP _ (by omega), Option.bind_some, hR _ (by omega), Option.bind_some, if_neg hd, if_neg hd]
    simp only
    rw [if_neg (by simp), if_pos trivial, if_pos (by simp), hA _ (by omega), Option.bind_some]
end Go.Proofs.Ytlpohipneianjaa.Q
end
section
namespace Go.Proofs.Ytlpohipneianjaa.blockUnpacks
open Go.ChangeShapes Go.WideShapes Go.ChangeAt Go.RowKit Go.Proofs.YtlpohipneianjaaX Go.Proofs.Ytlpohipneianjaa.G
open Go.ChangeMaps (open_string shut_string)
set_option linter.unusedVariables false
set_option linter.unusedSimpArgs false
theorem own : ownKnob Try.prog.godebug = none := by kernel_rfl
theorem laidOut : laidOutB Try.prog = true := by kernel_rfl
set_option maxRecDepth 100000 in
theorem lifted (os : Os) (started : os.Started) (H : Type) (enc : TypeId × Value → H) :
    ReturnsInHanded {} Try.checked os 4 .any (Rows.blockUnpacksSpec.pre6 enc Try.prog Try.f4 Rows.blockUnpacksRow.domain false) (Rows.blockUnpacksSpec.post enc Try.prog Try.f4 false true false false) := by
  refine returnsInHanded_of_change_sized (C := Try.checked) own started (by kernel_rfl) Try.func4
    (ChangeSpec.witness6 (enc := enc) (C := Try.checked) false ⟨#[], #[.agg #[.slice none 0 0, .slice none 0 0]], []⟩ 8 (by kernel_rfl) (by kernel_rfl) (by kernel_rfl) (by kernel_rfl)) ?_
  intro W base args ds gs before hval0 hW hcnd hsz0 _
  have hval : ∀ (j : Nat) t v, Try.f4.params[j]? = some t → args[j]? = some v → Value.okWide Try.prog W .any base t v := hval0
  have hW' := hW
  obtain ⟨p, q, hA0, hV, rfl, hfz, hnd⟩ := hW
  have hA : DataW.TrodAll enc Try.prog W 0 (fun _ => true) true Try.f4.params.toList args.toList ds p := hA0
  rw [Try.params4] at hA hval
  obtain ⟨v0, vs0, d0, ds0, p0, q0, hargs, rfl, rfl, h0, r0⟩ := trodAll_cons hA
  obtain ⟨rfl, rfl, rfl⟩ := trodAll_nil r0
  obtain rfl : args = #[v0] := by cases args; simp_all
  obtain ⟨rfl, rfl⟩ := trodVars_none hV
  have k0 := h0
  have lt0 : ∀ x ∈ p0, x.block < W.heap.size := by obtain ⟨m, hm⟩ := k0; exact DataW.trod_lt m _ _ _ hm
  obtain ⟨cs0, rfl, _⟩ := okWide_struct Try.underlying29 (hval 0 29 v0 rfl rfl)
  obtain ⟨fuel0, hf0⟩ := h0
  obtain ⟨⟨l0_0, l0_1⟩, hK0, w0⟩ := (Rd.struct (fun x => x) (fun x => x) (fun _ => rfl) Try.underlying29 (RdFs.cons (Rd.slice Try.underlying26 (by kernel_rfl) (Rd.int Try.underlying3)) (RdFs.one (Rd.slice Try.underlying27 (by kernel_rfl) (Rd.string Try.underlying9))))) enc W _ _ _ fuel0 _ _ hf0
  dsimp only at hK0 w0
  obtain ⟨_, _, e0, ⟨A0_0, c0_0, rfl, hc0_0, hr0_0⟩, ⟨A0_1, c0_1, rfl, hc0_1, hr0_1⟩⟩ := hK0
  obtain rfl : cs0 = #[.slice A0_0 l0_0.length c0_0, .slice A0_1 l0_1.length c0_1] := Array.ext' (by simpa [Value.cells] using e0)
  clear hA0 hval0 hsz0
  obtain ⟨k, h⟩ := Q.BlockUnpacks l0_0 l0_1 w0
  refine (windroselaw11_BlockUnpacks.calls k A0_0 c0_0 l0_0 A0_1 c0_1 l0_1 true W hr0_0 hc0_0 hr0_1 hc0_1 h).mono fun e W' ⟨he, bel⟩ => ?_
  subst he
  exact ⟨_, rfl, _, _, _, [], _, [], hW', trodAll_mk1 (shut_bool Try.underlying4 _), (trodAll_cons_mk (Below.trod laidOut (by kernel_rfl) (of_decide_eq_true (by kernel_rfl)) k0 bel lt0) trodAll_mk0), rfl, bel.frame _, fun h => by cases h⟩
theorem over : Rows.blockUnpacksRow.holds Try.pinned (OpenSpec.ofChange Rows.blockUnpacksSpec) :=
  OpenClaim.holds_of_wide 4 Try.f4 rfl rfl rfl rfl rfl rfl rfl ⟨rfl, rfl, rfl, rfl, rfl⟩ rfl rfl rfl rfl rfl (by kernel_rfl) Try.func4 (by kernel_rfl)
    (of_decide_eq_true (by kernel_rfl)) (by unfold Func.isWrapper; first | (rw [if_pos (by decide +kernel)]; kernel_rfl) | (rw [if_neg (by decide +kernel)]; exact ⟨rfl, rfl⟩))
    (fun os started H enc _ => lifted os started H enc)
theorem proved : Rows.BlockUnpacksSaid := over
#print axioms proved
end Go.Proofs.Ytlpohipneianjaa.blockUnpacks
namespace Go.Proofs.Ytlpohipneianjaa
theorem blockUnpacks_holds : Rows.BlockUnpacksSaid := blockUnpacks.proved
end Go.Proofs.Ytlpohipneianjaa
end
