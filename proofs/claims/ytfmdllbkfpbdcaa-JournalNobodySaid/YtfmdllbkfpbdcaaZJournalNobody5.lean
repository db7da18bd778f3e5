/- More lines for the row. -/
import Derived.Test.YtfmdllbkfpbdcaaZJournalNobody4
import Derived.RangeFuncBox
import Derived.RangeFuncLeaves
import Derived.RangeFuncFrom
import Derived.RangeFuncWrites
import Derived.Shelf.Abstract
import Derived.OwnWalkIn
import Derived.TacticsInMore
import Derived.LoopNIn
import Derived.LoopIn
import Derived.BigRegionIn
import Derived.RegionIn
import Derived.Shelf.RegionOpen
set_option linter.unusedVariables false
set_option linter.unusedSimpArgs false
section
namespace Go.Proofs.Ytfmdllbkfpbdcaa.G
open Go Go.RowKit Go.Shelf Go.Proofs.YtfmdllbkfpbdcaaW.PrintWords Go.Proofs.YtfmdllbkfpbdcaaW.PrintLast Go.Proofs.YtfmdllbkfpbdcaaW.PrintMore
attribute [local go_sem] Oper.semAt_some
attribute [local go_sem] max2_int min2_int max_two min_two
def KeepsTwo (Bs Bn : Nat) (W W' : World) : Prop := W'.heap[Bs]? = W.heap[Bs]? ∧ W'.heap[Bn]? = W.heap[Bn]?
theorem cell_of_heap {W W' : World} {b : Nat} (h : W'.heap[b]? = W.heap[b]?) (o : Nat) : W'.cell? ⟨b, o, none⟩ = W.cell? ⟨b, o, none⟩ := by unfold World.cell?; simp [h]
theorem keepsTwo_t {Bs Bn : Nat} {A B C : World} (h : KeepsTwo Bs Bn A B) (k : KeepsTwo Bs Bn B C) : KeepsTwo Bs Bn A C := ⟨k.1.trans h.1, k.2.trans h.2⟩
theorem keepsTwo_b {Bs Bn N : Nat} (h1 : Bs < N) (h2 : Bn < N) : ∀ (W : World) (l : Nat) (o o' : Obj), N ≤ l → W.heap[l]? = some o → o.isCells = false → o.isWalk = false → KeepsTwo Bs Bn W (W.putObj l o') :=
  fun W l o o' hl _ _ _ => ⟨World.putObj_heap_other (by omega), World.putObj_heap_other (by omega)⟩
theorem addr_add (b off j : Nat) : (⟨b, off, none⟩ : Addr).add j = ⟨b, off + j, none⟩ := by
  unfold Addr.add
  split <;> simp_all
theorem cut3 {P : Program} (t e : TypeId) (kl kh km : IntKind) {i : TypeInfo} (ht : P.underlying t = some (.slice e)) (hi : P.info? e = some i) (size : Nat) (hsz : i.size = size) (A : Option Addr) (n c : Nat) (lo hi' mx : Int) (h0 : 0 ≤ lo) (h1 : lo ≤ hi') (h2 : hi' ≤ mx) (hc : mx ≤ c) :
    ∀ W : World, (Instr.slice t (.slice A n c) (some (.int kl lo)) (some (.int kh hi')) (some (.int km mx))).run P W = .ok (.slice (if mx.toNat = lo.toNat then A else A.map (·.add (lo.toNat * size))) (hi'.toNat - lo.toNat) (mx.toNat - lo.toNat)) W := by
  intro W
  have hel : P.elem t = e := by simp [Program.elem, ht]
  have hu : P.underlying t = some (.slice (P.elem t)) := by rw [hel]; exact ht
  rw [run_slice_lhm W t A n c hu kl kh km lo hi' mx h0 h1 h2 hc, hel]
  simp [sizeOf, typeInfo, hi, hsz, sliced, Result.andThen]
set_option maxRecDepth 100000 in
set_option maxHeartbeats 2000000 in
theorem chunk1_in (F : Fence) (n : Nat) (h7 : F.fn 72) (hro : F.round = none) (hn : 1 ≤ n) (l Bs Bn b off m cap : Nat) (hm : m ≤ 100000) (hcap : 64 * m ≤ cap) (J Jx : List (Fin m) → World → Prop)
    (hJd : ∀ pre W, J pre W → J pre W.drew)
    (hY : ∀ pre (x : Fin m) W, J pre W → pre.length < m → YieldAt F (n - 1) Try.prog l #[.slice (some ⟨b, off + 64 * x.val, none⟩) 64 64] W fun e W' =>
      (e = .returned (.bool true) ∧ J (pre ++ [x]) W' ∧ KeepsTwo Bs Bn W W') ∨ (e = .returned (.bool false) ∧ Jx (pre ++ [x]) W'))
    (W : World) (hBs : W.cell? ⟨Bs, 0, none⟩ = some (.slice (some ⟨b, off, none⟩) (64 * m) cap)) (hBn : W.cell? ⟨Bn, 0, none⟩ = some (.int .i64 64)) (h0 : J [] W) :
    CallsIn F n Try.prog 72 #[.func (.yield l) #[] #[], .pointer (some ⟨Bs, 0, none⟩), .pointer (some ⟨Bn, 0, none⟩)] W fun e W' => (∃ v, e = .returned v) ∧
      ((∃ ys, ys = List.finRange m ∧ J ys W') ∨ (∃ pre, pre <+: List.finRange m ∧ Jx pre W')) := by
  refine callsIn_of_wp Try.func72 rfl h7 ?_ hro
  simp only [Try.ntmps72, List.size_toArray, List.length_cons, List.length_nil, Nat.reduceAdd, Nat.reduceSub, Array.replicate_succ, Array.replicate_zero, List.push_toArray, List.append_toArray, List.nil_append, List.cons_append]
  gi_wp2
  gi_loopw [4] (fun i wr => ∃ k : Nat, k ≤ m ∧ i = .int .i64 (64 * k : Nat) ∧ J ((List.finRange m).take k) wr ∧ KeepsTwo Bs Bn W wr)
    (fun i _ => 64 * m - (intOf i).toNat)
  case atStart => exact ⟨0, Nat.zero_le _, rfl, h0, rfl, rfl⟩
  case round =>
    obtain ⟨k, hk, rfl, hJs, hnx⟩ := hrel
    have hs : wr.cell? ⟨Bs, 0, none⟩ = some (.slice (some ⟨b, off, none⟩) (64 * m) cap) := (cell_of_heap hnx.1 0).trans hBs
    have hnn : wr.cell? ⟨Bn, 0, none⟩ = some (.int .i64 64) := (cell_of_heap hnx.2 0).trans hBn
    by_cases hlt : k < m
    · obtain ⟨i0, hi, hz0, hz1, hz2⟩ := info_parts info5
      have fc1 : ∀ W : World, (Instr.slice 30 (.slice (some ⟨b, off, none⟩) (64 * m) cap) (some (.int .i64 ((64 * k : Nat) : Int))) none none).run Try.prog W = .ok (.slice (some ⟨b, off + 64 * k, none⟩) (64 * m - 64 * k) (cap - 64 * k)) W := by
        intro W
        have h := cut_from (P := Try.prog) 30 5 .i64 Try.underlying30 hi 1 hz1 (some ⟨b, off, none⟩) (64 * m) cap ((64 * k : Nat) : Int) (by omega) (by omega) W
        rw [Int.toNat_natCast, if_neg (by omega), Nat.mul_one] at h
        rw [h, Option.map_some, addr_add]
      have fc2 : ∀ W : World, (Instr.slice 30 (.slice (some ⟨b, off, none⟩) (64 * m) cap) (some (.int .i64 ((64 * k : Nat) : Int))) (some (.int .i64 (((64 * k : Nat) : Int) + 64))) (some (.int .i64 (((64 * k : Nat) : Int) + 64)))).run Try.prog W = .ok (.slice (some ⟨b, off + 64 * k, none⟩) 64 64) W := by
        intro W
        have h := cut3 (P := Try.prog) 30 5 .i64 .i64 .i64 Try.underlying30 hi 1 hz1 (some ⟨b, off, none⟩) (64 * m) cap ((64 * k : Nat) : Int) (((64 * k : Nat) : Int) + 64) (((64 * k : Nat) : Int) + 64) (by omega) (by omega) (by omega) (by omega) W
        rw [if_neg (by omega), Int.toNat_natCast, Nat.mul_one, show (((64 * k : Nat) : Int) + 64).toNat - 64 * k = 64 by omega] at h
        rw [h, Option.map_some, addr_add]
      have hmn : ¬ ((64 * m - 64 * k : Nat) : Int) < 64 := by omega
      have htk : (List.finRange m).take (k + 1) = (List.finRange m).take k ++ [⟨k, hlt⟩] := by
        rw [List.take_succ_eq_append_getElem (by simpa using hlt)]
        simp
      obtain ⟨fn, tmps, assign, body, hy, hR⟩ := hY _ ⟨k, hlt⟩ wr.drew (hJd _ _ hJs) (by simp; omega)
      dsimp only at hy
      clear hi hz0 hz1 hz2
      gi_wp2
      gi_region
      all_goals gi_wp2
      all_goals refine hR.mono ?_
      all_goals rintro e W3 (⟨rfl, hJ3, hk3⟩ | ⟨rfl, hJx3⟩)
      all_goals first
        | (have hnn3 : W3.cell? ⟨Bn, 0, none⟩ = some (.int .i64 64) := (cell_of_heap hk3.2 0).trans (by simpa using hnn)
           gi_wp2
           go_roundw
           case rel => exact ⟨k + 1, by omega, by simp; omega, by rw [htk]; exact hJ3, keepsTwo_t (B := wr.drew) hnx hk3⟩
           case measure => simp [intOf]; omega)
        | (gi_wp2
           refine bodyPost_ret (results_none rfl _ _ _) rfl ?_
           exact ⟨⟨_, rfl⟩, .inr ⟨_, ⟨(List.finRange m).drop (k + 1), by rw [← htk, List.take_append_drop]⟩, hJx3⟩⟩)
    · obtain rfl : k = m := by omega
      gi_wp2
      go_end0
      exact ⟨⟨_, rfl⟩, .inl ⟨_, by rw [List.take_of_length_le (by simp)], hJs⟩⟩
set_option maxRecDepth 100000 in
set_option maxHeartbeats 1000000 in
theorem chunk0_in (F : Fence) (n : Nat) (h7 : F.fn 72) (hro : F.round = none) (l Bs Bn : Nat) (A : Option Addr) (cap : Nat) (P : World → Prop) (W : World) (hBs : W.cell? ⟨Bs, 0, none⟩ = some (.slice A 0 cap)) (h0 : P W) :
    CallsIn F n Try.prog 72 #[.func (.yield l) #[] #[], .pointer (some ⟨Bs, 0, none⟩), .pointer (some ⟨Bn, 0, none⟩)] W fun e W' => (∃ v, e = .returned v) ∧ P W' := by
  refine callsIn_of_wp Try.func72 rfl h7 ?_ hro
  simp only [Try.ntmps72, List.size_toArray, List.length_cons, List.length_nil, Nat.reduceAdd, Nat.reduceSub, Array.replicate_succ, Array.replicate_zero, List.push_toArray, List.append_toArray, List.nil_append, List.cons_append]
  gi_wp2
  gi_loopw [4] (fun i wr => i = .int .i64 0 ∧ P wr ∧ wr.cell? ⟨Bs, 0, none⟩ = some (.slice A 0 cap)) (fun _ _ => 0)
  case atStart => exact ⟨rfl, h0, hBs⟩
  case round =>
    obtain ⟨rfl, hP, hs⟩ := hrel
    gi_wp2
    go_end0
    exact ⟨⟨_, rfl⟩, hP⟩
set_option maxHeartbeats 1000000 in
theorem chunk_in (F : Fence) (n : Nat) (h5 : F.fn 47) (hro : F.round = none) (a : Option Addr) (len cap : Nat) (w : World) :
    CallsIn F n Try.prog 47 #[.slice a len cap, .int .i64 64] w fun e w' => e = .returned (.func (.func 72) #[] #[.pointer (some ⟨w.heap.size, 0, none⟩), .pointer (some ⟨w.heap.size + 1, 0, none⟩)]) ∧ w' = (w.alloc (.cells #[.slice a len cap] 30)).alloc (.cells #[.int .i64 64] 3) := by
  refine callsIn_of_wp Try.func47 rfl h5 ?_ hro
  simp only [Try.ntmps47, List.size_toArray, List.length_cons, List.length_nil, Nat.reduceAdd, Nat.reduceSub, Array.replicate_succ, Array.replicate_zero, List.push_toArray, List.append_toArray, List.nil_append, List.cons_append]
  gi_wp2
  go_ret
  exact ⟨rfl, rfl⟩
def ChunkOf (m : Nat) (sv : Value) (b off : Nat) : Prop := (m = 0 ∧ ∃ A cap, sv = .slice A 0 cap) ∨ ∃ cap, sv = .slice (some ⟨b, off, none⟩) (64 * m) cap ∧ 64 * m ≤ cap
theorem chunk_stops (F : Fence) (n : Nat) (h7 : F.fn 72) (hro : F.round = none) (hn : 1 ≤ n) (Bs Bn b off m : Nat) (hm : m ≤ 100000) (sv : Value) (hsv : ChunkOf m sv b off) (w : World) (hBs0 : Bs < w.heap.size) (hBn0 : Bn < w.heap.size)
    (hBs : w.cell? ⟨Bs, 0, none⟩ = some sv) (hBn : w.cell? ⟨Bn, 0, none⟩ = some (.int .i64 64)) :
    SeqStopsK F n Try.prog 72 #[.pointer (some ⟨Bs, 0, none⟩), .pointer (some ⟨Bn, 0, none⟩)] (fun x : Fin m => #[.slice (some ⟨b, off + 64 * x.val, none⟩) 64 64]) (KeepsTwo Bs Bn) (fun ys => ys = List.finRange m) (fun pre => pre <+: List.finRange m) m w := fun l J Jx W hW hJ _ hY h0 => by
  have hs := (hW.cell (p := ⟨Bs, 0, none⟩) hBs0).trans hBs
  have hn' := (hW.cell (p := ⟨Bn, 0, none⟩) hBn0).trans hBn
  have hJd : ∀ pre W1, J pre W1 → J pre W1.drew := fun pre W1 h => hJ pre W1 _ none h ⟨rfl, rfl, rfl, Nat.le_refl _, fun _ _ _ => rfl⟩ (fun r e => by cases e)
  rcases hsv with ⟨rfl, A, cap, rfl⟩ | ⟨cap, rfl, hc⟩
  · exact (chunk0_in F n h7 hro l Bs Bn A cap (J []) W hs h0).mono fun e W' ⟨he, hj⟩ => ⟨he, .inl ⟨[], by simp, hj⟩⟩
  · exact chunk1_in F n h7 hro hn l Bs Bn b off m cap hm hc J Jx hJd hY W hs hn' h0
end Go.Proofs.Ytfmdllbkfpbdcaa.G
end
