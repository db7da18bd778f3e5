/- More lines for the row. -/
import Derived.Test.YtfmdllbkfpbdcaaZDrumNobody6
import Derived.WalkMore
import Derived.Laws.CopyOwn
import Derived.Deep.RegionLaw
import Derived.Outline
import Derived.IntWalk
set_option linter.unusedVariables false
set_option linter.unusedSimpArgs false
section
namespace Go.Proofs.Ytfmdllbkfpbdcaa.G
open Go Go.RowKit Go.Proofs.YtfmdllbkfpbdcaaX Go.Proofs.YtfmdllbkfpbdcaaW.PrintWords Go.Proofs.YtfmdllbkfpbdcaaW.PrintLast Go.Proofs.YtfmdllbkfpbdcaaW.PrintMore
attribute [local go_sem] max2_int min2_int max_two min_two
structure DrumS where
  seen : List Int
  kept : List Int
  ws : List S100
  armed : Int
  gone : Bool
def newD (n : Int) : DrumS := ⟨List.replicate (64 * n.toNat) 0, List.replicate (64 * n.toNat) 0, [], -1, false⟩
def Bts (w : World) (s : Nat) (l : List Int) : Prop := w.heap[s]? = some (.cells (nums .u8 l).toArray 5 (0, 0))
def IsDr (S : Nat → Prop) (B : Nat) (w : World) (g s k : Nat) (D : DrumS) : Prop := ∃ v,
  w.heap[g]? = some (.cells #[.slice (some ⟨s, 0, none⟩) D.seen.length D.seen.length, .slice (some ⟨k, 0, none⟩) D.kept.length D.kept.length, v, .int .i64 D.armed, .bool D.gone] 43 (0, 0)) ∧
  Bts w s D.seen ∧ Bts w k D.kept ∧ Kd.R k100 100 w B (fun b => S b ∧ b ≠ g ∧ b ≠ s ∧ b ≠ k) v D.ws ∧
  (S g ∧ S s ∧ S k) ∧ (B ≤ g ∧ B ≤ s ∧ B ≤ k) ∧ (g ≠ s ∧ g ≠ k ∧ s ≠ k) ∧ ∀ b, w.heap.size ≤ b → S b
theorem Bts.lt {w : World} {s : Nat} {l : List Int} (h : Bts w s l) : s < w.heap.size := blk_lt h
theorem Bts.kept {w W : World} {s : Nat} {l : List Int} (h : Bts w s l) (hk : W.heap[s]? = w.heap[s]?) : Bts W s l := hk.trans h
theorem made_nums (n : Nat) : madeCells (Value.int .u8 0).cells (n * 1) = (nums .u8 (List.replicate n 0)).toArray := by
  apply Array.ext'
  simp [madeCells, nums, Value.cells]
  apply List.ext_getElem
  · simp
  · intro i h1 h2
    simp [Nat.mod_one]
theorem al3 (w : World) (o1 o2 o3 : Obj) : (((w.alloc o1).alloc o2).alloc o3).heap[w.heap.size]? = some o1 ∧ (((w.alloc o1).alloc o2).alloc o3).heap[w.heap.size + 1]? = some o2 ∧ (((w.alloc o1).alloc o2).alloc o3).heap[w.heap.size + 2]? = some o3 := by
  refine ⟨?_, ?_, ?_⟩
  · rw [Below.heap_alloc _ _ _ (by simp; omega), Below.heap_alloc _ _ _ (by simp)]
    exact heap_alloc_new w o1
  · rw [Below.heap_alloc _ _ _ (by simp)]
    simpa using heap_alloc_new (w.alloc o1) o2
  · simpa using heap_alloc_new ((w.alloc o1).alloc o2) o3
theorem new_made (w : World) (n : Int) (s k g : Nat) (W : World) (hs : s = w.heap.size ∧ k = w.heap.size + 1 ∨ k = w.heap.size ∧ s = w.heap.size + 1) (hg : g = w.heap.size + 2)
    (h1 : Bts W s (List.replicate (64 * n.toNat) 0)) (h2 : Bts W k (List.replicate (64 * n.toNat) 0)) (hb : W.heap[g]? = some (.cells #[.slice (some ⟨s, 0, none⟩) (64 * n.toNat) (64 * n.toNat), .slice (some ⟨k, 0, none⟩) (64 * n.toNat) (64 * n.toNat), .slice none 0 0, .int .i64 (-1), .bool false] 43 (0, 0))) (hB : Below w.heap.size w W) :
    IsDr (fun b => w.heap.size ≤ b) w.heap.size W g s k (newD n) := by
  refine ⟨.slice none 0 0, ?_, h1, h2, Kd.R_nil _ _ _ _ _, ?_, ?_, ?_, fun b hb => Nat.le_trans hB.size hb⟩
  · simpa [newD] using hb
  · rcases hs with ⟨rfl, rfl⟩ | ⟨rfl, rfl⟩ <;> subst hg <;> exact ⟨by omega, by omega, by omega⟩
  · rcases hs with ⟨rfl, rfl⟩ | ⟨rfl, rfl⟩ <;> subst hg <;> exact ⟨by omega, by omega, by omega⟩
  · rcases hs with ⟨rfl, rfl⟩ | ⟨rfl, rfl⟩ <;> subst hg <;> exact ⟨by omega, by omega, by omega⟩
set_option maxHeartbeats 4000000 in
set_option maxRecDepth 100000 in
theorem new_ok (n : Int) (w : World) (h1 : 8 ≤ n) (h2 : n ≤ 8192) (h3 : n % 2 = 0) : Calls Try.prog 10 #[.int .i64 n] w fun e w' => ∃ g s k, e = .returned (.tuple #[.pointer (some ⟨g, 0, none⟩), .int .i64 0]) ∧ IsDr (fun b => w.heap.size ≤ b) w.heap.size w' g s k (newD n) ∧ Below w.heap.size w w' := by
  have c1 : decide (n < 8) = false := decide_eq_false (by omega)
  have c2 : decide (8192 < n) = false := decide_eq_false (by omega)
  have c3 : (n % 2 != 0) = false := by simpa using h3
  have h0 : 0 ≤ n := by omega
  have hu43 := Try.underlying43
  obtain ⟨i0, hi, hz0, hz1, hz2⟩ := info_parts info5
  have hmk : ∀ W : World, (Instr.makeSlice 30 (.int .i64 (64 * n)) (.int .i64 (64 * n))).run Try.prog W = .ok (.slice (some ⟨W.heap.size, 0, none⟩) (64 * n.toNat) (64 * n.toNat)) (W.alloc (.cells (nums .u8 (List.replicate (64 * n.toNat) 0)).toArray 5)) := by
    intro W
    have h := run_makeSlice (P := Try.prog) W 30 5 i0 (.int .u8 0) Try.underlying30 hi hz0 .i64 .i64 (64 * n) (64 * n) (by omega) (Int.le_refl _) (by rw [hz1]; omega) (by rw [hz2]; omega) (by omega)
    rw [hz1, made_nums, show (64 * n).toNat = 64 * n.toNat by omega] at h
    exact h
  have H0 := Aside0.mk h0
  clear hi hz0 hz1 hz2 h3
  go_enter Try.func10, Try.ntmps10
  go_wp2
  have hA := fun o3 : Obj => al3 w (.cells (nums .u8 (List.replicate (64 * n.toNat) 0)).toArray 5) (.cells (nums .u8 (List.replicate (64 * n.toNat) 0)).toArray 5) o3
  have HA := Aside0.mk hA
  clear hA
  go_region
  all_goals (go_wp2; go_ret2)
  · obtain ⟨a1, a2, a3⟩ := HA.out (.cells #[.slice (some ⟨w.heap.size, 0, none⟩) (64 * n.toNat) (64 * n.toNat), .slice (some ⟨w.heap.size + 1, 0, none⟩) (64 * n.toNat) (64 * n.toNat), .slice none 0 0, .int .i64 (-1), .bool false] 43 (0, 0))
    have hb := below_alloc (below_alloc (below_alloc (Below.refl w.heap.size w) (.cells (nums .u8 (List.replicate (64 * n.toNat) 0)).toArray 5)) (.cells (nums .u8 (List.replicate (64 * n.toNat) 0)).toArray 5)) (.cells #[.slice (some ⟨w.heap.size, 0, none⟩) (64 * n.toNat) (64 * n.toNat), .slice (some ⟨w.heap.size + 1, 0, none⟩) (64 * n.toNat) (64 * n.toNat), .slice none 0 0, .int .i64 (-1), .bool false] 43 (0, 0))
    exact ⟨_, _, _, rfl, new_made w n _ _ _ _ (.inl ⟨rfl, rfl⟩) rfl a1 a2 a3 (Below.drew hb), Below.drew hb⟩
  · obtain ⟨a1, a2, a3⟩ := HA.out (.cells #[.slice (some ⟨w.heap.size + 1, 0, none⟩) (64 * n.toNat) (64 * n.toNat), .slice (some ⟨w.heap.size, 0, none⟩) (64 * n.toNat) (64 * n.toNat), .slice none 0 0, .int .i64 (-1), .bool false] 43 (0, 0))
    have hb := below_alloc (below_alloc (below_alloc (Below.refl w.heap.size w) (.cells (nums .u8 (List.replicate (64 * n.toNat) 0)).toArray 5)) (.cells (nums .u8 (List.replicate (64 * n.toNat) 0)).toArray 5)) (.cells #[.slice (some ⟨w.heap.size + 1, 0, none⟩) (64 * n.toNat) (64 * n.toNat), .slice (some ⟨w.heap.size, 0, none⟩) (64 * n.toNat) (64 * n.toNat), .slice none 0 0, .int .i64 (-1), .bool false] 43 (0, 0))
    exact ⟨_, _, _, rfl, new_made w n _ _ _ _ (.inr ⟨rfl, rfl⟩) rfl a2 a1 a3 (Below.drew hb), Below.drew hb⟩
set_option maxHeartbeats 2000000 in
theorem sectors_blk (w : World) (g n c : Nat) (A : Option Addr) (v1 v2 v3 v4 : Value) (h : w.heap[g]? = some (.cells #[.slice A n c, v1, v2, v3, v4] 43 (0, 0))) (hn : n ≤ 1000000) : Calls Try.prog 18 #[.pointer (some ⟨g, 0, none⟩)] w fun e w' => e = .returned (.int .i64 ((n / 64 : Nat) : Int)) ∧ w' = w := by
  have hu43 := Try.underlying43
  obtain ⟨c0, c1, c2, c3, c4, f0, f1, f2, f3, f4⟩ := blk_at5 h
  have hn0 : (0 : Int) ≤ (n : Int) := by omega
  have hN := Aside0.mk hn
  clear h hn c1 c2 c3 c4 f0 f1 f2 f3 f4
  go_enter Try.func18, Try.ntmps18
  go_wp2
  go_ret
  refine ⟨?_, rfl⟩
  show Ending.returned (.int .i64 (wrap64 ((n : Int) / 64))) = _
  rw [show wrap64 ((n : Int) / 64) = ((n / 64 : Nat) : Int) from by unfold wrap64; have := hN.out; omega]
theorem sectors_nil (w : World) : Calls Try.prog 18 #[.pointer none] w fun e w' => e = .returned (.int .i64 0) ∧ w' = w := by
  go_enter Try.func18, Try.ntmps18
  go_wp2
  go_ret
  exact ⟨rfl, rfl⟩
def hasB (s at_ n : Int) : Bool := decide (0 ≤ at_ ∧ n ≤ s ∧ at_ ≤ s - n)
set_option maxHeartbeats 4000000 in
theorem has_of (w : World) (p : Value) (s at_ n : Int) (h : Calls Try.prog 18 #[p] w fun e w' => e = .returned (.int .i64 s) ∧ w' = w) (hs : 0 ≤ s) (hs' : s ≤ 1000000) (hn : 0 ≤ n) (hp : p.oneCell' = true) : Calls Try.prog 46 #[p, .int .i64 at_, .int .i64 n] w fun e w' => e = .returned (.bool (hasB s at_ n)) ∧ w' = w := by
  have H := Aside0.mk h
  clear h
  by_cases h1 : 0 ≤ at_
  rotate_left
  · have e : hasB s at_ n = false := by simp [hasB, h1]
    rw [e]
    have c1 : decide (0 ≤ at_) = false := decide_eq_false h1
    clear h1 e
    go_enter Try.func46, Try.ntmps46
    go_wp2
    go_ret
    exact ⟨rfl, rfl⟩
  have c1 : decide (0 ≤ at_) = true := decide_eq_true h1
  by_cases h2 : n ≤ s
  rotate_left
  · have e : hasB s at_ n = false := by simp [hasB, h2]
    rw [e]
    have c2 : decide (n ≤ s) = false := decide_eq_false h2
    clear h1 h2 e
    go_enter Try.func46, Try.ntmps46
    go_wp2_with (go_at_call 18; refine (H.out).mono ?_; rintro e w' ⟨rfl, rfl⟩)
    go_ret
    exact ⟨rfl, rfl⟩
  have c2 : decide (n ≤ s) = true := decide_eq_true h2
  by_cases h3 : at_ ≤ s - n
  · have e : hasB s at_ n = true := by simp [hasB, h1, h2, h3]
    rw [e]
    have c3 : decide (at_ ≤ s - n) = true := decide_eq_true h3
    clear e
    go_enter Try.func46, Try.ntmps46
    go_wp2_with (go_at_call 18; refine (H.out).mono ?_; rintro e w' ⟨rfl, rfl⟩)
    go_ret
    exact ⟨rfl, rfl⟩
  · have e : hasB s at_ n = false := by simp [hasB, h3]
    rw [e]
    have c3 : decide (at_ ≤ s - n) = false := decide_eq_false h3
    clear e h3
    go_enter Try.func46, Try.ntmps46
    go_wp2_with (go_at_call 18; refine (H.out).mono ?_; rintro e w' ⟨rfl, rfl⟩)
    go_ret
    exact ⟨rfl, rfl⟩
set_option maxHeartbeats 2000000 in
theorem pending_blk (w : World) (g n c : Nat) (A : Option Addr) (v0 v1 v3 v4 : Value) (h : w.heap[g]? = some (.cells #[v0, v1, .slice A n c, v3, v4] 43 (0, 0))) : Calls Try.prog 19 #[.pointer (some ⟨g, 0, none⟩)] w fun e w' => e = .returned (.int .i64 (n : Int)) ∧ w' = w := by
  have hu43 := Try.underlying43
  obtain ⟨c0, c1, c2, c3, c4, f0, f1, f2, f3, f4⟩ := blk_at5 h
  clear h c0 c1 c3 c4 f0 f1 f2 f3 f4
  go_enter Try.func19, Try.ntmps19
  go_wp2
  go_ret
  exact ⟨rfl, rfl⟩
theorem pending_nil (w : World) : Calls Try.prog 19 #[.pointer none] w fun e w' => e = .returned (.int .i64 0) ∧ w' = w := by
  go_enter Try.func19, Try.ntmps19
  go_wp2
  go_ret
  exact ⟨rfl, rfl⟩
set_option maxHeartbeats 2000000 in
theorem gone_blk (w : World) (g : Nat) (v0 v1 v2 v3 : Value) (b : Bool) (h : w.heap[g]? = some (.cells #[v0, v1, v2, v3, .bool b] 43 (0, 0))) : Calls Try.prog 20 #[.pointer (some ⟨g, 0, none⟩)] w fun e w' => e = .returned (.bool b) ∧ w' = w := by
  have hu43 := Try.underlying43
  obtain ⟨c0, c1, c2, c3, c4, f0, f1, f2, f3, f4⟩ := blk_at5 h
  clear h c0 c1 c2 c3 f0 f1 f2 f3 f4
  go_enter Try.func20, Try.ntmps20
  go_wp2
  go_ret
  exact ⟨rfl, rfl⟩
theorem gone_nil (w : World) : Calls Try.prog 20 #[.pointer none] w fun e w' => e = .returned (.bool false) ∧ w' = w := by
  go_enter Try.func20, Try.ntmps20
  go_wp2
  go_ret
  exact ⟨rfl, rfl⟩
theorem IsDr.opens {S : Nat → Prop} {B : Nat} {w : World} {g s k : Nat} {D : DrumS} (h : IsDr S B w g s k D) : ∃ A c, A = A ∧ w.heap[g]? = some (.cells #[.slice (some ⟨s, 0, none⟩) D.seen.length D.seen.length, .slice (some ⟨k, 0, none⟩) D.kept.length D.kept.length, .slice A D.ws.length c, .int .i64 D.armed, .bool D.gone] 43 (0, 0)) ∧ Kd.R k100 100 w B (fun b => S b ∧ b ≠ g ∧ b ≠ s ∧ b ≠ k) (.slice A D.ws.length c) D.ws := by
  obtain ⟨v, h1, h2, h3, h4, h5⟩ := h
  obtain ⟨A, c, rfl⟩ := Kd.R_slice h4
  exact ⟨A, c, rfl, h1, h4⟩
theorem IsDr.put {S : Nat → Prop} {B : Nat} {w W : World} {g s k : Nat} {D D' : DrumS} {v : Value} (h : IsDr S B w g s k D) (hs : D'.seen = D.seen) (hk : D'.kept = D.kept)
    (hb : W.heap[g]? = some (.cells #[.slice (some ⟨s, 0, none⟩) D.seen.length D.seen.length, .slice (some ⟨k, 0, none⟩) D.kept.length D.kept.length, v, .int .i64 D'.armed, .bool D'.gone] 43 (0, 0)))
    (h1 : W.heap[s]? = w.heap[s]?) (h2 : W.heap[k]? = w.heap[k]?) (hR : Kd.R k100 100 W B (fun b => S b ∧ b ≠ g ∧ b ≠ s ∧ b ≠ k) v D'.ws) (hle : w.heap.size ≤ W.heap.size) : IsDr S B W g s k D' := by
  obtain ⟨v0, h3, h4, h5, h6, h7, h8, h9, h10⟩ := h
  exact ⟨v, by rw [hs, hk]; exact hb, by rw [hs]; exact h4.kept h1, by rw [hk]; exact h5.kept h2, hR, h7, h8, h9, fun b hb => h10 b (Nat.le_trans hle hb)⟩
theorem R_set_ {α : Type} {d : Kd α} {e : Nat} {W : World} {base : Nat} {ok : Nat → Prop} {v : Value} {xs : List α} (h : d.R e W base ok v xs) (p : Addr) (u : Value) (hp : ∀ k, ok k → k ≠ p.block) : d.R e (W.setCell p u) base ok v xs :=
  Kd.R_move h (fun k hk => Below.heap_setCell _ _ _ _ (hp k hk))
def CopyTo (w w' : World) (g : Nat) (cs : Array Value) (t : TypeId) : Prop := w'.heap[g]? = some (.cells cs t (0, 0)) ∧ KeepBut w w' g none ∧ ∀ B w0, B ≤ g → Below B w0 w → Below B w0 w'
theorem copy_to {w : World} {g : Nat} {cur : Array Value} {t : TypeId} (hg : w.heap[g]? = some (.cells cur t (0, 0))) (cs : Array Value) : CopyTo w (w.setRow g cs) g cs t :=
  ⟨setRow_heap w g _ cs t _ hg, ⟨by simp [World.setRow], fun i _ hne _ => setRow_other w g i cs hne⟩, fun B w0 hB h => below_setRow h hB cs⟩
theorem step_copy_to {P : Program} {ops : Array Oper} {o : Oper} {a : Act} {w : World} {K : Act → World → Prop} {Q : Exit → Act → World → Prop} {E : Prop} (hgd : o.guard = none) (d s : Operand) (dT sT : TypeId)
    (ho : o.op = .call { callee := .builtin .copy, args := #[d, s], argTypes := #[dT, sT] }) (elem : TypeId) (hu : P.underlying dT = some (.slice elem)) (hsz : (P.info? elem).map (·.size) = some 1)
    (ad : Addr) (dLen dCap sLen sCap g off : Nat) (hd : a.eval d = .slice (some ⟨g, off, none⟩) dLen dCap) (hs : a.eval s = .slice (some ad) sLen sCap)
    (cur : List Value) (t : TypeId) (hg : w.heap[g]? = some (.cells cur.toArray t (0, 0))) (cs : List Value) (hn : cs.length = min sLen dLen) (hsrc : ∀ j v, cs[j]? = some v → w.cell? (ad.add j) = some v)
    (hfit : off + cs.length ≤ cur.length) (h1 : ∀ v ∈ cs, v.oneCell' = true)
    (h : ∀ w', CopyTo w w' g (splice cur off cs).toArray t → K (a.put o.dst (goInt cs.length)) w') :
    if Region.wanted o (yielded ops a.tmps) = true then Oper.wp P o a w K Q else E := by
  have hw : Region.wanted o (yielded ops a.tmps) = true := by simp [Region.wanted, hgd]
  rw [if_pos hw]
  have hrun := run_copy_row (P := P) w dT sT o.type elem g off dLen dCap ad sLen sCap cur.toArray t cs hu hsz hg hn hsrc (by simpa using hfit) h1
  unfold Oper.wp
  simp only [execOp, ho, resolve, invoke, builtin, List.map_toArray, List.map_cons, List.map_nil, hd, hs, Sem.run_bind, Sem.run_pure, Result.andThen_ok, hrun]
  exact h _ (by simpa [splice] using copy_to hg (splice cur off cs).toArray)
theorem nums_splice (k : IntKind) (L cs : List Int) (off : Nat) : splice (nums k L) off (nums k cs) = nums k (splice L off cs) := by simp [splice, nums]
theorem cut_at {P : Program} (t e : TypeId) {i : TypeInfo} (ht : P.underlying t = some (.slice e)) (hi : P.info? e = some i) (hsz : i.size = 1) (s n lo : Nat) (j : Int) (hj : j = (lo : Int)) (h : lo < n) (W : World) : (Instr.slice t (.slice (some ⟨s, 0, none⟩) n n) (some (.int .i64 j)) none none).run P W = .ok (.slice (some ⟨s, lo, none⟩) (n - lo) (n - lo)) W := by
  subst hj
  have h2 := cut_from (P := P) t e .i64 ht hi 1 hsz (some ⟨s, 0, none⟩) n n (lo : Int) (by omega) (by omega) W
  rw [Int.toNat_natCast, if_neg (by omega)] at h2
  rw [h2]
  simp only [Option.map_some, Addr.add]
  split
  · rename_i h0
    rw [show lo = 0 by omega]
  · simp
theorem nums_len (k : IntKind) (l : List Int) : (nums k l).length = l.length := by simp [nums]
theorem nums_one {k : IntKind} {l : List Int} {v : Value} (h : v ∈ nums k l) : v.oneCell' = true := by
  simp only [nums, List.mem_map] at h
  obtain ⟨x, _, rfl⟩ := h
  rfl
theorem C_cells {k : IntKind} {w : World} {A : Option Addr} {l : List Int} (h : Kd.C (Kd.int k) w A l.length l) : ∀ (j : Nat) (v : Value), (nums k l)[j]? = some v → ∃ ad, A = some ad ∧ w.cell? (ad.add j) = some v := by
  intro j v hv
  have hj : j < l.length := by
    rcases Nat.lt_or_ge j l.length with h | h
    · exact h
    · rw [List.getElem?_eq_none (by rw [nums_len]; exact h)] at hv
      cases hv
  obtain ⟨ad, e, hx⟩ := Kd.at_int h (j : Int) (by omega) (by omega)
  refine ⟨ad, e, ?_⟩
  rw [Int.toNat_natCast] at hx
  rw [hx, ← hv]
  simp [nums, rd, hj]
theorem R_keepBut_ {α : Type} {d : Kd α} {e : Nat} {W W' : World} {base g : Nat} {ok : Nat → Prop} {v : Value} {xs : List α} (h : d.R e W base ok v xs) (hk : KeepBut W W' g none) (hok : ∀ k, ok k → k ≠ g) : d.R e W' base ok v xs :=
  Kd.R_mono (Kd.R_move (Kd.R_bound h) (fun k hk' => hk.2 k hk'.2.2.1 (hok k hk'.1) (by simp))) (fun _ hk => hk.1)
theorem IsDr.kept_ {S : Nat → Prop} {B : Nat} {w W : World} {g s k : Nat} {D : DrumS} {l : List Int} (h : IsDr S B w g s k D) (hb : Bts W k l) (hk : KeepBut w W k none) (hl : l.length = D.kept.length) : IsDr S B W g s k { D with kept := l } := by
  obtain ⟨v, h1, h2, h3, h4, h5, h6, h7, h8⟩ := h
  refine ⟨v, ?_, h2.kept (hk.2 s h2.lt h7.2.2 (by simp)), hb, R_keepBut_ h4 hk (fun b hb => hb.2.2.2), h5, h6, h7, fun b hb => h8 b (Nat.le_trans hk.1 hb)⟩
  rw [hl]
  exact (hk.2 g (blk_lt h1) h7.2.1 (by simp)).trans h1
def keepD (a : Nat) (l : List Int) (D : DrumS) : DrumS := { D with kept := splice D.kept (64 * a) l }
set_option maxHeartbeats 4000000 in
set_option maxRecDepth 100000 in
theorem keep_calls (S : Nat → Prop) (B : Nat) (w : World) (g s k : Nat) (D : DrumS) (a : Nat) (A : Option Addr) (c : Nat) (l : List Int) (h : IsDr S B w g s k D) (hB : B ≤ w.heap.size) (hC : Kd.C (Kd.int .u8) w A l.length l) (hc : l.length ≤ c) (hl : l.length = 64) (ha : 64 * a + 64 ≤ D.kept.length) (hn : D.kept.length ≤ 1000000) :
    Calls Try.prog 50 #[.pointer (some ⟨g, 0, none⟩), .agg #[.int .i64 (a : Int), .slice A l.length c]] w fun e w' => (∃ v, e = .returned v) ∧ IsDr S B w' g s k (keepD a l D) ∧ Below B w w' ∧ KeepBut w w' k none := by
  have hu43 := Try.underlying43
  have hu100 := Try.underlying100
  have H := Aside0.mk h
  obtain ⟨v, h1, h2, h3, h4, ⟨h5, h6, h7⟩, ⟨h8, h8s, h8k⟩, ⟨n1, n2, n3⟩, h10⟩ := h
  have BK := Aside0.mk h1
  have HBk := Aside0.mk h8k
  have HSk := Aside0.mk h7
  have HK := Aside0.mk h3
  have HB := Aside0.mk (Below.refl w.heap.size w)
  obtain ⟨i0, hi, hz0, hz1, hz2⟩ := info_parts info5
  have hcut := fun W => cut_at (P := Try.prog) 30 5 Try.underlying30 hi hz1 k D.kept.length (64 * a) (64 * (a : Int)) (by omega) (by omega) W
  have hsz : (Try.prog.info? 5).map (·.size) = some 1 := by rw [hi]; simp [hz1]
  have HC := Aside0.mk hC
  have HA := Aside0.mk ha
  have HL := Aside0.mk hl
  have HSZ := Aside0.mk hsz
  have HBW := Aside0.mk hB
  have q1 : (0 : Int) ≤ (a : Int) := by omega
  have q2 : (a : Int) ≤ 20000 := by omega
  have q3 : (64 * (a : Int)) = ((64 * a : Nat) : Int) := by simp
  have Q3 := Aside0.mk q3
  clear h1 h2 h3 h4 h5 h6 h7 h8 h8s h8k n1 n2 n3 h10 hi hz0 hz1 hz2 hsz hC ha hl hB q3
  obtain ⟨n, hne⟩ : ∃ n, n = l.length := ⟨_, rfl⟩
  rw [← hne]
  have HNE := Aside0.mk hne
  clear hne
  go_enter Try.func50, Try.ntmps50
  go_wp2_with (first | ((with_reducible refine gate_dst (N := 3) rfl ?_); refine box_ev 3 #[.int .i64 (a : Int), .slice A n c] 100 ?_; intro gb hg w1 hbox hb; have n_ := pk3 (below_step bl_ hb) hbox (blk_below BK.out hb); clear HB BK; obtain ⟨HB, BKb, BK⟩ := n_; clear hb hbox hg; obtain ⟨b0, b1, fb0, fb1⟩ := blk_at2 BKb.out; obtain ⟨c0, c1, c2, c3, c4, f0, f1, f2, f3, f4⟩ := blk_at5 BK.out))
  clear c0 c2 c3 c4 f0 f1 f2 f3 f4 fb0 fb1
  have HKw : Aside0 (Bts w1 k D.kept) := ⟨blk_below HK.out HB.out⟩
  have HCw : Aside0 (∀ j v, (nums .u8 l)[j]? = some v → ∃ ad, A = some ad ∧ w1.cell? (ad.add j) = some v) := ⟨C_cells (Kd.C_below HC.out HB.out)⟩
  have HBB : Aside0 (Below B w w1) := ⟨HB.out.mono HBW.out⟩
  have z1 : (0 : Int) ≤ 64 * (a : Int) := by omega
  have z2 : 64 * (a : Int) ≤ ((D.kept.length : Nat) : Int) := by have := HA.out; omega
  have hw : IntKind.i64.wrap (64 * (a : Int)) = 64 * (a : Int) := IntWalk.i64_in _ (by omega)
  have HB0 := HB
  clear HK BK HB HC BKb
  obtain ⟨ad, hA⟩ : ∃ ad, A = some ad := by
    obtain ⟨ad, e, _⟩ := HCw.out 0 _ (List.getElem?_eq_getElem (by rw [nums_len, HL.out]; decide))
    exact ⟨ad, e⟩
  subst hA
  have HCx : Aside0 (∀ j v, (nums .u8 l)[j]? = some v → w1.cell? (ad.add j) = some v) := ⟨fun j v hv => by obtain ⟨ad', e', h'⟩ := HCw.out j v hv; cases e'; exact h'⟩
  clear HCw
  have fin : ∀ w2, CopyTo w1.drew w2 k (splice (nums .u8 D.kept) (64 * a) (nums .u8 l)).toArray 5 → IsDr S B w2 g s k (keepD a l D) ∧ Below B w w2 ∧ KeepBut w w2 k none := fun w2 hcp => by
    have hk1 : KeepBut w w1.drew k none := KeepBut.of_below (Below.drew HB0.out) k none
    refine ⟨H.out.kept_ (by unfold Bts; rw [← nums_splice]; exact hcp.1) (KeepBut.trans hk1 hcp.2.1 (.inl rfl)) (length_splice _ _ _ (by have := HA.out; have := HL.out; omega)), hcp.2.2 B w HBk.out (Below.drew HBB.out), KeepBut.trans hk1 hcp.2.1 (.inl rfl)⟩
  have FIN := Aside0.mk fin
  clear fin
  go_region_law ((refine step_copy_to rfl (.tmp 11) (.tmp 13) 30 30 (by rfl) 5 Try.underlying30 HSZ.out ad (D.kept.length - 64 * a) (D.kept.length - 64 * a) n c k (64 * a) (by rfl) (by rfl) (nums .u8 D.kept) 5 HKw.out (nums .u8 l) (by rw [nums_len, HNE.out, Nat.min_eq_left]; have := HA.out; have := HL.out; omega) HCx.out (by rw [nums_len, nums_len]; have := HA.out; have := HL.out; omega) (fun v hv => nums_one hv) ?_; intro w2 hcp))
  all_goals (go_wp2; go_end0; exact ⟨⟨_, rfl⟩, FIN.out _ hcp⟩)
theorem below_put2 {B : Nat} {w0 W : World} {b : Nat} (h : Below B w0 W) (hb : B ≤ b) (x y : Value) : Below B w0 ((W.setCell ⟨b, 0, none⟩ x).setCell ⟨b, 1, none⟩ y) := (h.setCell (p := ⟨b, 0, none⟩) hb _).setCell (p := ⟨b, 1, none⟩) hb _
theorem getD_mem_ {α : Type} (l : List α) (i : Nat) (d : α) (h : i < l.length) : l.getD i d ∈ l := by
  rw [List.getD_eq_getElem?_getD, List.getElem?_eq_getElem h]
  exact List.getElem_mem h
theorem IsDr.below {S : Nat → Prop} {B : Nat} {w W : World} {g s k : Nat} {D : DrumS} (h : IsDr S B w g s k D) (hb : Below w.heap.size w W) : IsDr S B W g s k D := by
  obtain ⟨v, h1, h2, h3, h4, h5, h6, h7, h8⟩ := h
  exact ⟨v, (hb.block g (blk_lt h1)).trans h1, h2.kept (hb.block s h2.lt), h3.kept (hb.block k h3.lt), Kd.R_below h4 hb, h5, h6, h7, fun b h => h8 b (Nat.le_trans hb.size h)⟩
def DrumS.Good (D : DrumS) : Prop := D.seen.length = D.kept.length ∧ D.kept.length ≤ 524288 ∧ ∀ x ∈ D.ws, 0 ≤ x.f0 ∧ 64 * x.f0 + 64 ≤ D.kept.length ∧ x.f1.length = 64
def keepAll (l : List S100) (D : DrumS) : DrumS := l.foldl (fun D x => keepD x.f0.toNat x.f1 D) D
theorem keepAll_snoc (l : List S100) (x : S100) (D : DrumS) : keepAll (l ++ [x]) D = keepD x.f0.toNat x.f1 (keepAll l D) := by simp [keepAll]
theorem keepAll_ws (l : List S100) : ∀ D : DrumS, (keepAll l D).ws = D.ws ∧ (keepAll l D).seen = D.seen ∧ (keepAll l D).armed = D.armed ∧ (keepAll l D).gone = D.gone := by
  induction l with
  | nil => intro D; exact ⟨rfl, rfl, rfl, rfl⟩
  | cons x xs ih => intro D; exact ih _
theorem keepAll_len (l : List S100) : ∀ D : DrumS, (∀ x ∈ l, 0 ≤ x.f0 ∧ 64 * x.f0 + 64 ≤ D.kept.length ∧ x.f1.length = 64) → (keepAll l D).kept.length = D.kept.length := by
  induction l with
  | nil => intro D _; rfl
  | cons x xs ih =>
    intro D h
    have h1 := h x (by simp)
    have e : (keepD x.f0.toNat x.f1 D).kept.length = D.kept.length := length_splice _ _ _ (by omega)
    have := ih (keepD x.f0.toNat x.f1 D) (fun y hy => by rw [e]; exact h y (List.mem_cons_of_mem _ hy))
    exact this.trans e
theorem IsDr.unwritten {S : Nat → Prop} {B : Nat} {w : World} {g s k : Nat} {D : DrumS} (h : IsDr S B w g s k D) : IsDr S B (w.setCell ⟨g, 2, none⟩ (.slice none 0 0)) g s k { D with ws := [] } ∧ Below B w (w.setCell ⟨g, 2, none⟩ (.slice none 0 0)) ∧ Kept w (w.setCell ⟨g, 2, none⟩ (.slice none 0 0)) S := by
  have h' := h
  obtain ⟨v, h1, h2, h3, h4, h5, h6, h7, h8⟩ := h
  exact ⟨h'.put (v := .slice none 0 0) rfl rfl (blk_put (cs := #[.slice (some ⟨s, 0, none⟩) D.seen.length D.seen.length, .slice (some ⟨k, 0, none⟩) D.kept.length D.kept.length, v, .int .i64 D.armed, .bool D.gone]) h1 2 _ rfl) (Below.heap_setCell _ ⟨g, 2, none⟩ _ _ (Ne.symm h7.1)) (Below.heap_setCell _ ⟨g, 2, none⟩ _ _ (Ne.symm h7.2.1)) (Kd.R_nil _ _ _ _ _) (by simp),
    (Below.refl _ _).setCell (p := ⟨g, 2, none⟩) h6.1 _, (Kept.refl _ _).setCell (p := ⟨g, 2, none⟩) (.inl h5.1) _⟩
theorem sync_nil (w : World) : Calls Try.prog 14 #[.pointer none] w fun e w' => (∃ v, e = .returned v) ∧ w' = w := by
  go_enter Try.func14, Try.ntmps14
  go_wp2
  refine bodyPost_ret (results_none rfl _ _ _) rfl ?_
  exact ⟨⟨_, rfl⟩, rfl⟩
def syncD (D : DrumS) : DrumS := if D.gone then D else { keepAll D.ws D with ws := [] }
set_option maxHeartbeats 8000000 in
set_option maxRecDepth 100000 in
theorem sync_calls (S : Nat → Prop) (B : Nat) (w : World) (g s k : Nat) (D : DrumS) (h : IsDr S B w g s k D) (hB : B ≤ w.heap.size) (hG : D.Good) : Calls Try.prog 14 #[.pointer (some ⟨g, 0, none⟩)] w fun e w' => (∃ v, e = .returned v) ∧ IsDr S B w' g s k (syncD D) ∧ Below B w w' ∧ Kept w w' S := by
  have hu43 := Try.underlying43
  have hu100 := Try.underlying100
  have H := Aside0.mk h
  obtain ⟨A, c, _, h1, hR⟩ := h.opens
  obtain ⟨c0, c1, c2, c3, c4, f0, f1, f2, f3, f4⟩ := blk_at5 h1
  have HG := Aside0.mk hG
  have HBW := Aside0.mk hB
  have HRR := Aside0.mk hR
  have HSk : Aside0 (S k) := ⟨by obtain ⟨_, _, _, _, _, h, _⟩ := h; exact h.2.2⟩
  clear h hG hB c0 c1 c3 f0 f1 f2 f3 f4 hR h1
  cases hg : D.gone with
  | true =>
    rw [hg] at c4
    have HGo := Aside0.mk hg
    clear hg
    go_enter Try.func14, Try.ntmps14
    go_wp2
    refine bodyPost_ret (results_none rfl _ _ _) rfl ?_
    exact ⟨⟨_, rfl⟩, by unfold syncD; rw [HGo.out, if_pos rfl]; exact H.out, Below.refl _ _, Kept.refl _ _⟩
  | false =>
    rw [hg] at c4
    have HGo := Aside0.mk hg
    clear hg
    obtain ⟨m, hm⟩ : ∃ m, m = D.ws.length := ⟨_, rfl⟩
    rw [← hm] at c2
    have HM := Aside0.mk hm
    have hm63 : m ≤ 9223372036854775807 := by rw [hm]; exact (Kd.R_reads' HRR.out).2.2.2.1
    clear hm
    go_enter Try.func14, Try.ntmps14
    go_wp2
    go_loopw [17] (fun i wr => ∃ j : Nat, j ≤ m ∧ i = .int .i64 (j : Int) ∧ Aside0 (IsDr S B wr g s k (keepAll (D.ws.take j) D)) ∧ Aside0 (Below B w wr) ∧ Aside0 (KeepBut w wr k none)) (fun i _ => m - (intOf i).toNat)
    case atStart => exact ⟨0, Nat.zero_le _, rfl, H, ⟨Below.refl _ _⟩, ⟨KeepBut.refl _ _ _⟩⟩
    case round =>
      clear c2 c4
      obtain ⟨j, hj, rfl, HI, HB, HK⟩ := hrel
      by_cases hlt : j < m
      · have HRw := Aside0.mk (R_keepBut_ HRR.out HK.out (fun b hb => hb.2.2.2))
        obtain ⟨x, hx⟩ : ∃ x, x = rd_T100 D.ws (j : Int) := ⟨_, rfl⟩
        obtain ⟨ad, A1, c1, e, x0, x1, hc1, hC1⟩ := at_T100 (Kd.R_reads' HRw.out).2.2 (j : Int) (by omega) (by have := HM.out; omega)
        rw [← hx] at x0 x1 hc1 hC1
        rw [Int.toNat_natCast] at x0 x1
        subst e
        have hmem : x ∈ D.ws := by rw [hx]; exact getD_mem_ D.ws j _ (by have := HM.out; omega)
        obtain ⟨y0, y1, y2⟩ := HG.out.2.2 x hmem
        obtain ⟨a, ha⟩ : ∃ a : Nat, x.f0 = (a : Int) := ⟨x.f0.toNat, by omega⟩
        rw [ha] at x0 y1
        have HX := Aside0.mk hx
        have HA := Aside0.mk ha
        have HC1 := Aside0.mk hC1
        have Hc1 := Aside0.mk hc1
        have Y1 := Aside0.mk y1
        have Y2 := Aside0.mk y2
        have X0 := Aside0.mk x0
        have X1 := Aside0.mk x1
        have hj0 : (0 : Int) ≤ (j : Int) := by omega
        have hj1 : (j : Int) < (m : Int) := by omega
        have HBr := Aside0.mk (Below.refl wr.heap.size wr)
        have HLN : Aside0 ((keepAll (D.ws.take j) D).kept.length = D.kept.length) := ⟨keepAll_len _ _ (fun z hz => HG.out.2.2 z (List.mem_of_mem_take hz))⟩
        clear hx ha hC1 hc1 y0 y1 y2 hmem
        go_wp2_with (first
          | ((with_reducible refine gate_dst (N := 3) rfl ?_); refine box_ev 3 #[.int .i64 0, .slice none 0 0] 100 ?_; intro gb hg w1 hbox hb; have n_ := pk3 hb hbox (show wr.heap.size ≤ gb by rw [hg]; exact Nat.le_refl _); clear HBr; obtain ⟨HBr, BKb, GE⟩ := n_; clear hb hbox hg; obtain ⟨b0, b1, fb0, fb1⟩ := blk_at2 BKb.out)
          | (go_at_call 50; (with_reducible refine (keep_calls S B _ g s k (keepAll (D.ws.take j) D) a A1 c1 x.f1 (HI.out.below (below_put2 HBr.out GE.out _ _)) ?s1 ?s2 Hc1.out Y2.out ?s3 ?s4).mono ?_); (case s1 => exact Nat.le_trans (Nat.le_trans HBW.out HB.out.size) (below_put2 HBr.out GE.out _ _).size); (case s2 => exact Kd.C_below HC1.out (below_put2 HBr.out GE.out _ _)); (case s3 => rw [HLN.out]; have := Y1.out; omega); (case s4 => rw [HLN.out]; exact Nat.le_trans HG.out.2.1 (by decide)); rintro e w4 ⟨⟨v, rfl⟩, hd, hb, hk⟩; have n_ := pk3 hd (HB.out.trans ((below_put2 HBr.out GE.out _ _).mono (Nat.le_trans HBW.out HB.out.size) |>.trans hb)) (KeepBut.trans HK.out (KeepBut.trans (KeepBut.of_below (below_put2 HBr.out GE.out _ _) k none) hk (.inl rfl)) (.inl rfl)); obtain ⟨HD4, HB4, HK4⟩ := n_; clear hd hb hk b0 b1 fb0 fb1))
        have hs : D.ws.take (j + 1) = D.ws.take j ++ [x] := by
          rw [List.take_succ_eq_append_getElem (by have := HM.out; omega), HX.out]
          congr 2
          show _ = D.ws.getD ((j : Int)).toNat _
          rw [Int.toNat_natCast, List.getD_eq_getElem?_getD, List.getElem?_eq_getElem (by have := HM.out; omega)]
          rfl
        have HD5 : Aside0 (IsDr S B w4 g s k (keepAll (D.ws.take (j + 1)) D)) := ⟨by rw [hs, keepAll_snoc, HA.out]; exact HD4.out⟩
        clear hs
        go_roundw
        case rel => exact ⟨j + 1, by omega, by go_num, HD5, HB4, HK4⟩
        case measure => simp [intOf]; omega
      · obtain rfl : j = m := by omega
        have BK := Aside0.mk HI.out.opens.choose_spec.choose_spec.2.1
        obtain ⟨c0, c1, c2, c3, c4, f0, f1, f2, f3, f4⟩ := blk_at5 BK.out
        clear c0 c1 c3 c4 f0 f1 f3 f4 BK
        go_wp2
        go_end0
        obtain ⟨e1, e2, e3⟩ := HI.out.unwritten
        refine ⟨⟨_, rfl⟩, ?_, HB.out.trans e2, (Kept.of_keep (Kept.refl _ _) HK.out (.inl HSk.out)).then_ e3 (fun _ h => .inl h)⟩
        unfold syncD
        rw [HGo.out, if_neg (by decide)]
        rw [List.take_of_length_le (by rw [HM.out]; exact Nat.le_refl _)] at e1
        exact e1
end Go.Proofs.Ytfmdllbkfpbdcaa.G
end
section
namespace Go.Proofs.Ytfmdllbkfpbdcaa.G
open Go Go.RowKit Go.Proofs.YtfmdllbkfpbdcaaX Go.Proofs.YtfmdllbkfpbdcaaW.PrintWords Go.Proofs.YtfmdllbkfpbdcaaW.PrintLast Go.Proofs.YtfmdllbkfpbdcaaW.PrintMore
attribute [local go_sem] max2_int min2_int max_two min_two
def patAt (pat : List Bool) (j : Nat) : Bool := decide (0 < pat.length) && pat.getD (j % pat.length) false
def crashTo (pat : List Bool) (l : List S100) (D : DrumS) : Nat → DrumS
  | 0 => D
  | j + 1 => if patAt pat j = true then keepD (l.getD j z100).f0.toNat (l.getD j z100).f1 (crashTo pat l D j) else crashTo pat l D j
theorem crashTo_same (pat : List Bool) (l : List S100) (D : DrumS) : ∀ j, (crashTo pat l D j).ws = D.ws ∧ (crashTo pat l D j).seen = D.seen
  | 0 => ⟨rfl, rfl⟩
  | j + 1 => by
    unfold crashTo
    split
    · exact crashTo_same pat l D j
    · exact crashTo_same pat l D j
theorem crashTo_len (pat : List Bool) (l : List S100) (D : DrumS) (h : ∀ x ∈ l, 0 ≤ x.f0 ∧ 64 * x.f0 + 64 ≤ D.kept.length ∧ x.f1.length = 64) : ∀ j, j ≤ l.length → (crashTo pat l D j).kept.length = D.kept.length
  | 0, _ => rfl
  | j + 1, hj => by
    have ih := crashTo_len pat l D h j (by omega)
    unfold crashTo
    split
    · have hm := h _ (getD_mem_ l j z100 (by omega))
      exact (length_splice _ _ _ (by omega)).trans ih
    · exact ih
theorem splice_all {α : Type} (L cs : List α) (h : L.length = cs.length) : splice L 0 cs = cs := by
  simp [splice, ← h]
theorem Bts.cells {w : World} {k : Nat} {l : List Int} (h : Bts w k l) : ∀ (j : Nat) (v : Value), (nums .u8 l)[j]? = some v → w.cell? ((⟨k, 0, none⟩ : Addr).add j) = some v := by
  intro j v hv
  have e : (⟨k, 0, none⟩ : Addr).add j = ⟨k, j, none⟩ := by unfold Addr.add; split <;> simp_all
  rw [e, blk_cell h j]
  simpa using hv
def crashD (pat : List Bool) (D : DrumS) : DrumS := ⟨(crashTo pat D.ws D D.ws.length).kept, (crashTo pat D.ws D D.ws.length).kept, [], -1, false⟩
theorem crash_nil (w : World) (p : Value) : Calls Try.prog 16 #[.pointer none, p] w fun e w' => (∃ v, e = .returned v) ∧ w' = w := by
  go_enter Try.func16, Try.ntmps16
  go_wp2
  refine bodyPost_ret (results_none rfl _ _ _) rfl ?_
  exact ⟨⟨_, rfl⟩, rfl⟩
set_option maxHeartbeats 16000000 in
set_option maxRecDepth 100000 in
theorem crash_calls (S : Nat → Prop) (B : Nat) (w : World) (g s k : Nat) (D : DrumS) (P : Option Addr) (pc : Nat) (pat : List Bool) (h : IsDr S B w g s k D) (hB : B ≤ w.heap.size) (hG : D.Good) (hP : Kd.F Kd.bool w (fun b => ¬ S b) P pat.length pat) :
    Calls Try.prog 16 #[.pointer (some ⟨g, 0, none⟩), .slice P pat.length pc] w fun e w' => (∃ v, e = .returned v) ∧ IsDr S B w' g s k (crashD pat D) ∧ Below B w w' ∧ Kept w w' S := by
  have hu43 := Try.underlying43
  have hu100 := Try.underlying100
  have H := Aside0.mk h
  obtain ⟨A, c, _, h1, hR⟩ := h.opens
  obtain ⟨c0, c1, c2, c3, c4, f0, f1, f2, f3, f4⟩ := blk_at5 h1
  have HG := Aside0.mk hG
  have HBW := Aside0.mk hB
  have HRR := Aside0.mk hR
  have HP := Aside0.mk hP
  have HSk : Aside0 (S k) := ⟨by obtain ⟨_, _, _, _, _, h, _⟩ := h; exact h.2.2⟩
  clear h hG hB c0 c1 c3 c4 f0 f1 f2 f3 f4 hR h1 hP
  obtain ⟨m, hm⟩ : ∃ m, m = D.ws.length := ⟨_, rfl⟩
  rw [← hm] at c2
  have HM := Aside0.mk hm
  have hm63 : m ≤ 9223372036854775807 := by rw [hm]; exact (Kd.R_reads' HRR.out).2.2.2.1
  clear hm
  obtain ⟨p, hp⟩ : ∃ p, p = pat.length := ⟨_, rfl⟩
  rw [← hp]
  have HPL := Aside0.mk hp
  clear hp
  go_enter Try.func16, Try.ntmps16
  go_wp2
  go_loopw [13] (fun i wr => ∃ j : Nat, j ≤ m ∧ i = .int .i64 (j : Int) ∧ Aside0 (IsDr S B wr g s k (crashTo pat D.ws D j)) ∧ Aside0 (Below B w wr) ∧ Aside0 (KeepBut w wr k none)) (fun i _ => m - (intOf i).toNat)
  case atStart => exact ⟨0, Nat.zero_le _, rfl, H, ⟨Below.refl _ _⟩, ⟨KeepBut.refl _ _ _⟩⟩
  case round =>
    clear c2
    obtain ⟨j, hj, rfl, HI, HB, HK⟩ := hrel
    by_cases hlt : j < m
    · have HRw := Aside0.mk (R_keepBut_ HRR.out HK.out (fun b hb => hb.2.2.2))
      obtain ⟨x, hx⟩ : ∃ x, x = rd_T100 D.ws (j : Int) := ⟨_, rfl⟩
      obtain ⟨ad, A1, c1, e, x0, x1, hc1, hC1⟩ := at_T100 (Kd.R_reads' HRw.out).2.2 (j : Int) (by omega) (by have := HM.out; omega)
      rw [← hx] at x0 x1 hc1 hC1
      rw [Int.toNat_natCast] at x0 x1
      subst e
      have hmem : x ∈ D.ws := by rw [hx]; exact getD_mem_ D.ws j _ (by have := HM.out; omega)
      obtain ⟨y0, y1, y2⟩ := HG.out.2.2 x hmem
      obtain ⟨a, ha⟩ : ∃ a : Nat, x.f0 = (a : Int) := ⟨x.f0.toNat, by omega⟩
      rw [ha] at x0 y1
      have HX : Aside0 (D.ws.getD j z100 = x) := ⟨by rw [hx]; show _ = D.ws.getD ((j : Int)).toNat _; rw [Int.toNat_natCast]⟩
      have HA := Aside0.mk ha
      have HC1 := Aside0.mk hC1
      have Hc1 := Aside0.mk hc1
      have Y1 := Aside0.mk y1
      have Y2 := Aside0.mk y2
      have hj0 : (0 : Int) ≤ (j : Int) := by omega
      have hj1 : (j : Int) < (m : Int) := by omega
      have HBr := Aside0.mk (Below.refl wr.heap.size wr)
      have HLN : Aside0 ((crashTo pat D.ws D j).kept.length = D.kept.length) := ⟨crashTo_len _ _ _ HG.out.2.2 j (by have := HM.out; omega)⟩
      have HPw := Aside0.mk (Kd.F_keep HP.out HK.out (fun b hb => fun e => hb (by rw [e]; exact HSk.out)))
      clear hx ha hC1 hc1 y0 y1 y2 hmem
      have done : ∀ (W : World) (D' : DrumS), D' = crashTo pat D.ws D (j + 1) → IsDr S B W g s k D' → Below B w W → KeepBut w W k none → ∃ j' : Nat, j' ≤ m ∧ Value.int .i64 ((j : Int) + 1) = .int .i64 (j' : Int) ∧ Aside0 (IsDr S B W g s k (crashTo pat D.ws D j')) ∧ Aside0 (Below B w W) ∧ Aside0 (KeepBut w W k none) := fun W D' e a b c => ⟨j + 1, by omega, by go_num, ⟨by rw [← e]; exact a⟩, ⟨b⟩, ⟨c⟩⟩
      have DONE := Aside0.mk done
      clear done
      by_cases hp0 : 0 < p
      rotate_left
      · have p1 : decide (0 < p) = false := decide_eq_false hp0
        have PA : Aside0 (patAt pat j = false) := ⟨by unfold patAt; rw [decide_eq_false (by have := HPL.out; omega)]; rfl⟩
        clear hp0
        go_wp2_with (first
          | ((with_reducible refine gate_dst (N := 5) rfl ?_); refine box_ev 5 #[.int .i64 0, .slice none 0 0] 100 ?_; intro gb hg w1 hbox hb; have n_ := pk3 hb hbox (show wr.heap.size ≤ gb by rw [hg]; exact Nat.le_refl _); clear HBr; obtain ⟨HBr, BKb, GE⟩ := n_; clear hb hbox hg; obtain ⟨b0, b1, fb0, fb1⟩ := blk_at2 BKb.out))
        refine ⟨DONE.out _ _ (by rw [crashTo, if_neg (by rw [PA.out]; decide)]) (HI.out.below (below_put2 HBr.out GE.out _ _)) (HB.out.trans ((below_put2 HBr.out GE.out _ _).mono (Nat.le_trans HBW.out HB.out.size))) (KeepBut.trans HK.out (KeepBut.of_below (below_put2 HBr.out GE.out _ _) k none) (.inl rfl)), by simp [intOf]; omega⟩
      · have p1 : decide (0 < p) = true := decide_eq_true hp0
        have p2 : (0 : Int) ≤ (j : Int) % (p : Int) := Int.emod_nonneg _ (by omega)
        have p3 : (j : Int) % (p : Int) < (p : Int) := Int.emod_lt_of_pos _ (by omega)
        have p4 : ((p : Int) == 0) = false := by rw [beq_eq_false_iff_ne]; omega
        obtain ⟨adp, ep, _⟩ := Kd.at_bool (Kd.F_now HPw.out) ((j % p : Nat) : Int) (by omega) (by have := Nat.mod_lt j hp0; have := HPL.out; omega)
        subst ep
        have PA : patAt pat j = pat.getD (j % p) false := by unfold patAt; rw [← HPL.out, decide_eq_true hp0]; rfl
        cases hb : pat.getD (j % p) false with
        | false =>
          rw [hb] at PA
          have PA := Aside0.mk PA
          have PB : Aside0 (rdOf false pat ((j % p : Nat) : Int) = false) := ⟨hb⟩
          clear hb
          go_wp2_with (first
            | ((with_reducible refine gate_dst (N := 5) rfl ?_); refine box_ev 5 #[.int .i64 0, .slice none 0 0] 100 ?_; intro gb hg w1 hbox hb; have n_ := pk3 hb hbox (show wr.heap.size ≤ gb by rw [hg]; exact Nat.le_refl _); clear HBr; obtain ⟨HBr, BKb, GE⟩ := n_; clear hb hbox hg; obtain ⟨b0, b1, fb0, fb1⟩ := blk_at2 BKb.out; obtain ⟨adp_, ep, hq⟩ := Kd.at_bool (Kd.F_now (Kd.F_below HPw.out (below_put2 HBr.out GE.out (.int .i64 (a : Int)) (.slice A1 x.f1.length c1)))) ((j % p : Nat) : Int) (by omega) (by have := Nat.mod_lt j (by omega : p > 0); have := HPL.out; omega); cases ep; rw [Int.toNat_natCast, show rdOf false pat ((j % p : Nat) : Int) = false from PB.out] at hq; have hq' := hq; rw [show j % p = ((j : Int) % (p : Int)).toNat from by omega] at hq'))
          refine ⟨DONE.out _ _ (by rw [crashTo, if_neg (by rw [PA.out]; decide)]) (HI.out.below (below_put2 HBr.out GE.out _ _)) (HB.out.trans ((below_put2 HBr.out GE.out _ _).mono (Nat.le_trans HBW.out HB.out.size))) (KeepBut.trans HK.out (KeepBut.of_below (below_put2 HBr.out GE.out _ _) k none) (.inl rfl)), by simp [intOf]; omega⟩
        | true =>
          rw [hb] at PA
          have PA := Aside0.mk PA
          have PB : Aside0 (rdOf false pat ((j % p : Nat) : Int) = true) := ⟨hb⟩
          clear hb
          go_wp2_with (first
            | ((with_reducible refine gate_dst (N := 5) rfl ?_); refine box_ev 5 #[.int .i64 0, .slice none 0 0] 100 ?_; intro gb hg w1 hbox hb; have n_ := pk3 hb hbox (show wr.heap.size ≤ gb by rw [hg]; exact Nat.le_refl _); clear HBr; obtain ⟨HBr, BKb, GE⟩ := n_; clear hb hbox hg; obtain ⟨b0, b1, fb0, fb1⟩ := blk_at2 BKb.out; obtain ⟨adp_, ep, hq⟩ := Kd.at_bool (Kd.F_now (Kd.F_below HPw.out (below_put2 HBr.out GE.out (.int .i64 (a : Int)) (.slice A1 x.f1.length c1)))) ((j % p : Nat) : Int) (by omega) (by have := Nat.mod_lt j (by omega : p > 0); have := HPL.out; omega); cases ep; rw [Int.toNat_natCast, show rdOf false pat ((j % p : Nat) : Int) = true from PB.out] at hq; have hq' := hq; rw [show j % p = ((j : Int) % (p : Int)).toNat from by omega] at hq')
            | (go_at_call 50; (with_reducible refine (keep_calls S B _ g s k (crashTo pat D.ws D j) a A1 c1 x.f1 (HI.out.below (below_put2 HBr.out GE.out _ _)) ?s1 ?s2 Hc1.out Y2.out ?s3 ?s4).mono ?_); (case s1 => exact Nat.le_trans (Nat.le_trans HBW.out HB.out.size) (below_put2 HBr.out GE.out _ _).size); (case s2 => exact Kd.C_below HC1.out (below_put2 HBr.out GE.out _ _)); (case s3 => rw [HLN.out]; have := Y1.out; omega); (case s4 => rw [HLN.out]; exact Nat.le_trans HG.out.2.1 (by decide)); rintro e w4 ⟨⟨v, rfl⟩, hd, hb, hk⟩; have n_ := pk3 hd (HB.out.trans ((below_put2 HBr.out GE.out _ _).mono (Nat.le_trans HBW.out HB.out.size) |>.trans hb)) (KeepBut.trans HK.out (KeepBut.trans (KeepBut.of_below (below_put2 HBr.out GE.out _ _) k none) hk (.inl rfl)) (.inl rfl)); obtain ⟨HD4, HB4, HK4⟩ := n_; clear hd hb hk b0 b1 fb0 fb1 hq hq'))
          refine ⟨DONE.out _ _ (by rw [crashTo, if_pos PA.out, HX.out, HA.out]; rfl) HD4.out HB4.out HK4.out, by simp [intOf]; omega⟩
    · obtain rfl : j = m := by omega
      have HLN : Aside0 ((crashTo pat D.ws D j).kept.length = D.kept.length) := ⟨crashTo_len _ _ _ HG.out.2.2 j (by have := HM.out; omega)⟩
      have HSE : Aside0 ((crashTo pat D.ws D j).seen.length = (crashTo pat D.ws D j).kept.length) := ⟨by rw [(crashTo_same pat D.ws D j).2, HLN.out]; exact HG.out.1⟩
      have HE : Aside0 (crashD pat D = ⟨(crashTo pat D.ws D j).kept, (crashTo pat D.ws D j).kept, [], -1, false⟩) := ⟨by unfold crashD; rw [← HM.out]⟩
      generalize crashTo pat D.ws D j = D' at HI HLN HSE HE
      obtain ⟨n, hn⟩ : ∃ n, n = D'.kept.length := ⟨_, rfl⟩
      have HN := Aside0.mk hn
      obtain ⟨v, b1, b2, b3, b4, ⟨d1, d2, d3⟩, ⟨e1, e2, e3⟩, ⟨n1, n2, n3⟩, b8⟩ := HI.out
      rw [HSE.out, ← hn] at b1
      obtain ⟨c0, c1, c2, c3, c4, f0, f1, f2, f3, f4⟩ := blk_at5 b1
      have B1 := Aside0.mk b1
      have B2 := Aside0.mk b2
      have B3 := Aside0.mk b3
      have N1 := Aside0.mk n1
      have N3 := Aside0.mk n3
      have E2 := Aside0.mk e2
      obtain ⟨i0, hi, hz0, hz1, hz2⟩ := info_parts info5
      have HSZ : Aside0 ((Try.prog.info? 5).map (·.size) = some 1) := ⟨by rw [hi]; simp [hz1]⟩
      have fin : ∀ w2, CopyTo wr.drew w2 s (splice (nums .u8 D'.seen) 0 (nums .u8 D'.kept)).toArray 5 → IsDr S B (((w2.setCell ⟨g, 2, none⟩ (.slice none 0 0)).setCell ⟨g, 3, none⟩ (.int .i64 (-1))).setCell ⟨g, 4, none⟩ (.bool false)) g s k (crashD pat D) ∧ Below B w (((w2.setCell ⟨g, 2, none⟩ (.slice none 0 0)).setCell ⟨g, 3, none⟩ (.int .i64 (-1))).setCell ⟨g, 4, none⟩ (.bool false)) ∧ Kept w (((w2.setCell ⟨g, 2, none⟩ (.slice none 0 0)).setCell ⟨g, 3, none⟩ (.int .i64 (-1))).setCell ⟨g, 4, none⟩ (.bool false)) S := fun w2 hcp => by
        have hk2 : KeepBut wr w2 s none := KeepBut.trans (KeepBut.of_below (Below.drew (Below.refl _ _)) s none) hcp.2.1 (.inl rfl)
        have g2 : w2.heap[g]? = _ := (hk2.2 g (blk_lt b1) n1 (by simp)).trans b1
        have s2 : Bts w2 s D'.kept := by
          unfold Bts
          rw [hcp.1, nums_splice, splice_all _ _ HSE.out]
        have k2 : Bts w2 k D'.kept := b3.kept (hk2.2 k b3.lt (Ne.symm n3) (by simp))
        rw [HE.out]
        refine ⟨⟨.slice none 0 0, ?_, ?_, ?_, Kd.R_nil _ _ _ _ _, ⟨d1, d2, d3⟩, ⟨e1, e2, e3⟩, ⟨n1, n2, n3⟩, fun b hb => b8 b (Nat.le_trans hk2.1 (by simpa using hb))⟩, ?_, ?_⟩
        · have q := blk_put (cs := #[.slice (some ⟨s, 0, none⟩) n n, .slice (some ⟨k, 0, none⟩) n n, .slice none 0 0, .int .i64 (-1), .bool D'.gone]) (blk_put (cs := #[.slice (some ⟨s, 0, none⟩) n n, .slice (some ⟨k, 0, none⟩) n n, .slice none 0 0, .int .i64 D'.armed, .bool D'.gone]) (blk_put g2 2 (.slice none 0 0) rfl) 3 (.int .i64 (-1)) rfl) 4 (.bool false) rfl
          rw [hn] at q
          exact q
        · exact s2.kept (((Below.heap_setCell _ ⟨g, 4, none⟩ _ s (Ne.symm n1)).trans (Below.heap_setCell _ ⟨g, 3, none⟩ _ s (Ne.symm n1))).trans (Below.heap_setCell _ ⟨g, 2, none⟩ _ s (Ne.symm n1)))
        · exact k2.kept (((Below.heap_setCell _ ⟨g, 4, none⟩ _ k (Ne.symm n2)).trans (Below.heap_setCell _ ⟨g, 3, none⟩ _ k (Ne.symm n2))).trans (Below.heap_setCell _ ⟨g, 2, none⟩ _ k (Ne.symm n2)))
        · exact (((hcp.2.2 B w e2 (Below.drew HB.out)).setCell (p := ⟨g, 2, none⟩) e1 _).setCell (p := ⟨g, 3, none⟩) e1 _).setCell (p := ⟨g, 4, none⟩) e1 _
        · exact ((((Kept.of_keep (Kept.refl w S) HK.out (.inl HSk.out)).of_keep hk2 (.inl d2)).setCell (p := ⟨g, 2, none⟩) (.inl d1) _).setCell (p := ⟨g, 3, none⟩) (.inl d1) _).setCell (p := ⟨g, 4, none⟩) (.inl d1) _
      have FIN := Aside0.mk fin
      clear fin b1 b2 b3 b4 d1 d2 d3 e1 e2 e3 n1 n2 n3 b8 hi hz0 hz1 hz2 c2 c3 c4 f0 f1 f2 f3 f4 hn
      go_wp2
      go_region_law ((refine step_copy_to rfl (.tmp 37) (.tmp 41) 30 30 (by rfl) 5 Try.underlying30 HSZ.out ⟨k, 0, none⟩ n n n n s 0 (by rfl) (by rfl) (nums .u8 D'.seen) 5 B2.out (nums .u8 D'.kept) (by rw [nums_len, HN.out, Nat.min_self]) (Bts.cells B3.out) (by rw [nums_len, nums_len, HSE.out]; omega) (fun v hv => nums_one hv) ?_; intro w2 hcp; have BK2 := (hcp.2.1.2 g (blk_lt B1.out) N1.out (by simp)).trans B1.out; obtain ⟨c0, c1, c2, c3, c4, f0, f1, f2, f3, f4⟩ := blk_at5 BK2; clear BK2))
      all_goals (go_wp2; go_end0; exact ⟨⟨_, rfl⟩, FIN.out _ hcp⟩)
theorem Bts.C {w : World} {s : Nat} {l : List Int} (h : Bts w s l) (hl : l.length ≤ 9223372036854775807) : Kd.C (Kd.int .u8) w (some ⟨s, 0, none⟩) l.length l := by
  refine Kd.C_of_reads (enc := Value.int .u8) (d := (0 : Int)) (h1 := fun _ => rfl) ⟨rfl, hl, fun h0 => ⟨_, rfl, fun j hj => ?_⟩⟩
  refine h.cells j _ ?_
  simp [nums, hj]
def readD (D : DrumS) (at_ n : Int) : List Int × Int :=
  if n < 0 then ([], 1) else if hasB ((D.seen.length / 64 : Nat) : Int) at_ n = false then ([], 5) else if n = 0 then ([], 0) else ((D.seen.take (64 * (at_ + n)).toNat).drop (64 * at_).toNat, 0)
theorem hasB_true {s at_ n : Int} (h : hasB s at_ n = true) : 0 ≤ at_ ∧ n ≤ s ∧ at_ ≤ s - n := of_decide_eq_true h
set_option maxHeartbeats 8000000 in
set_option maxRecDepth 100000 in
theorem read_calls (S : Nat → Prop) (B : Nat) (w : World) (g s k : Nat) (D : DrumS) (at_ n : Int) (h : IsDr S B w g s k D) (hG : D.Good) :
    Calls Try.prog 17 #[.pointer (some ⟨g, 0, none⟩), .int .i64 at_, .int .i64 n] w fun e w' => ∃ v, e = .returned (.tuple #[v, .int .i64 (readD D at_ n).2]) ∧ Kd.R (Kd.int .u8) 5 w' w.heap.size (fun _ => True) v (readD D at_ n).1 ∧ Below w.heap.size w w' := by
  have hu43 := Try.underlying43
  by_cases h1 : n < 0
  · have e : readD D at_ n = ([], 1) := by unfold readD; rw [if_pos h1]
    rw [e]
    have c1 : decide (n < 0) = true := decide_eq_true h1
    clear h h1 e hG
    go_enter Try.func17, Try.ntmps17
    go_wp2
    go_ret2
    exact ⟨_, rfl, Kd.R_nil _ _ _ _ _, Below.refl _ _⟩
  have c1 : decide (n < 0) = false := decide_eq_false h1
  obtain ⟨v, b1, b2, b3, b4, b5⟩ := h
  have hN : D.seen.length ≤ 524288 := by rw [hG.1]; exact hG.2.1
  have HS := Aside0.mk (has_of w (.pointer (some ⟨g, 0, none⟩)) ((D.seen.length / 64 : Nat) : Int) at_ n (sectors_blk w g _ _ _ _ _ _ _ b1 (by omega)) (by omega) (by omega) (by omega) rfl)
  cases hb : hasB ((D.seen.length / 64 : Nat) : Int) at_ n with
  | false =>
    have e : readD D at_ n = ([], 5) := by unfold readD; rw [if_neg h1, if_pos hb]
    rw [e]
    rw [hb] at HS
    clear b1 b2 b3 b4 b5 h1 e hG hb hN
    go_enter Try.func17, Try.ntmps17
    go_wp2_with (go_at_call 46; refine (HS.out).mono ?_; rintro e w' ⟨rfl, rfl⟩)
    go_ret2
    exact ⟨_, rfl, Kd.R_nil _ _ _ _ _, Below.refl _ _⟩
  | true =>
    rw [hb] at HS
    by_cases h2 : n = 0
    · subst h2
      have e : readD D at_ 0 = ([], 0) := by unfold readD; rw [if_neg h1, if_neg (by rw [hb]; decide), if_pos rfl]
      rw [e]
      clear b1 b2 b3 b4 b5 h1 e hG hb hN
      go_enter Try.func17, Try.ntmps17
      go_wp2_with (go_at_call 46; refine (HS.out).mono ?_; rintro e w' ⟨rfl, rfl⟩)
      go_ret2
      exact ⟨_, rfl, Kd.R_nil _ _ _ _ _, Below.refl _ _⟩
    · have e : readD D at_ n = ((D.seen.take (64 * (at_ + n)).toNat).drop (64 * at_).toNat, 0) := by unfold readD; rw [if_neg h1, if_neg (by rw [hb]; decide), if_neg h2]
      rw [e]
      obtain ⟨r1, r2, r3⟩ := hasB_true hb
      have c2 : (n == 0) = false := by simpa using h2
      obtain ⟨c0, _, _, _, _, f0, _⟩ := blk_at5 b1
      have hC := Kd.C_mid (Bts.C b2 (by omega)) (lo := (64 * at_).toNat) (hi := (64 * (at_ + n)).toNat) (c := D.seen.length) (by omega) (by omega) (Nat.le_refl _)
      obtain ⟨i0, hi, hz0, hz1, hz2⟩ := info_parts info5
      have hcut := cut_mid (P := Try.prog) 30 5 .i64 .i64 Try.underlying30 hi 1 hz1 (some ⟨s, 0, none⟩) D.seen.length D.seen.length (64 * at_) (64 * (at_ + n)) (by omega) (by omega) (by omega) (Nat.le_refl _)
      generalize hA2 : (if D.seen.length = (64 * at_).toNat then some (⟨s, 0, none⟩ : Addr) else (some (⟨s, 0, none⟩ : Addr)).map (·.add ((64 * at_).toNat * 1))) = A2 at hcut
      have hA3 : (if D.seen.length = (64 * at_).toNat then some (⟨s, 0, none⟩ : Addr) else (some (⟨s, 0, none⟩ : Addr)).map (·.add ((64 * at_).toNat * (Kd.int .u8).sz))) = A2 := hA2
      rw [hA3] at hC
      obtain ⟨L, hL⟩ : ∃ L, L = (D.seen.take (64 * (at_ + n)).toNat).drop (64 * at_).toNat := ⟨_, rfl⟩
      rw [← hL] at hC ⊢
      have hlen : (64 * (at_ + n)).toNat - (64 * at_).toNat = L.length := by rw [hL, List.length_drop, List.length_take]; omega
      rw [hlen] at hcut
      have HC := Aside0.mk hC
      have HLN : Aside0 (L.length ≤ D.seen.length - (64 * at_).toNat) := ⟨by rw [← hlen]; omega⟩
      have HLM : Aside0 (L.length < 140737488355328) := ⟨by rw [← hlen]; omega⟩
      have q1 : 0 ≤ at_ := r1
      have q2 : at_ ≤ 8192 := by omega
      have q3 : 0 ≤ n := by omega
      have q4 : n ≤ 8192 := by omega
      clear b1 b2 b3 b4 b5 h1 e hG hb hN r1 r2 r3 h2 hA2 hA3 hL hlen hi hz0 hz1 hz2 hC
      go_enter Try.func17, Try.ntmps17
      go_wp2_with (first
        | (go_at_call 46; refine (HS.out).mono ?_; rintro e w' ⟨rfl, rfl⟩)
        | (go_at_call 49; (with_reducible refine (slices_Clone_byte_byte.calls A2 _ L L _ HC.out HLN.out (by unfold slices_Clone_byte_byte.f; rw [if_pos HLM.out])).mono ?_); rintro e w3 ⟨v3, rfl, ho, hb⟩; have n_ := pk2 ho hb; obtain ⟨HO, HB⟩ := n_; clear ho hb))
      go_ret2
      exact ⟨_, rfl, HO.out, HB.out⟩
theorem IsDr.goneNow {S : Nat → Prop} {B : Nat} {w : World} {g s k : Nat} {D : DrumS} (h : IsDr S B w g s k D) : IsDr S B (w.setCell ⟨g, 4, none⟩ (.bool true)) g s k { D with gone := true } ∧ Below B w (w.setCell ⟨g, 4, none⟩ (.bool true)) ∧ Kept w (w.setCell ⟨g, 4, none⟩ (.bool true)) S := by
  have h' := h
  obtain ⟨v, h1, h2, h3, h4, h5, h6, h7, h8⟩ := h
  exact ⟨h'.put (v := v) rfl rfl (blk_put (cs := #[.slice (some ⟨s, 0, none⟩) D.seen.length D.seen.length, .slice (some ⟨k, 0, none⟩) D.kept.length D.kept.length, v, .int .i64 D.armed, .bool D.gone]) h1 4 _ rfl) (Below.heap_setCell _ ⟨g, 4, none⟩ _ _ (Ne.symm h7.1)) (Below.heap_setCell _ ⟨g, 4, none⟩ _ _ (Ne.symm h7.2.1)) (R_set_ h4 ⟨g, 4, none⟩ _ (fun b hb => hb.2.1)) (by simp),
    (Below.refl _ _).setCell (p := ⟨g, 4, none⟩) h6.1 _, (Kept.refl _ _).setCell (p := ⟨g, 4, none⟩) (.inl h5.1) _⟩
theorem info_write : (Try.prog.info? 100).map (fun i => (i.zero, i.size, i.bytes)) = some (some (.agg #[.int .i64 0, .slice none 0 0]), 2, 32) := by kernel_rfl
def countD (x : S100) (D : DrumS) : DrumS := if D.gone then D else if D.armed = 0 then { D with gone := true } else { D with armed := if D.armed < 0 then -1 else D.armed - 1, ws := D.ws ++ [x] }
set_option maxHeartbeats 16000000 in
set_option maxRecDepth 100000 in
theorem count_calls (S : Nat → Prop) (B : Nat) (w0 w : World) (g s k : Nat) (D : DrumS) (a : Nat) (A : Option Addr) (c : Nat) (l : List Int) (h : IsDr S B w0 g s k D) (hb : Below w0.heap.size w0 w) (hR : Kd.R (Kd.int .u8) 5 w w0.heap.size (fun _ => True) (.slice A l.length c) l) (hB : B ≤ w0.heap.size) (hl : D.ws.length ≤ 1000000000) (ha : -1 ≤ D.armed ∧ D.armed ≤ 9223372036854775807) :
    Calls Try.prog 48 #[.pointer (some ⟨g, 0, none⟩), .agg #[.int .i64 (a : Int), .slice A l.length c]] w fun e w' => (∃ v, e = .returned v) ∧ IsDr S B w' g s k (countD ⟨a, l⟩ D) ∧ Below B w w' ∧ Kept w w' S := by
  have hu43 := Try.underlying43
  have hu100 := Try.underlying100
  have H := Aside0.mk (h.below hb)
  have H0 := Aside0.mk h
  have HR := Aside0.mk hR
  have HBw0 := Aside0.mk hb
  have HBW := Aside0.mk hB
  have HLW := Aside0.mk hl
  have HAR := Aside0.mk ha
  obtain ⟨v, b1, b2, b3, b4, ⟨d1, d2, d3⟩, ⟨e1, e2, e3⟩, ⟨n1, n2, n3⟩, b8⟩ := h
  have h := H0.out
  have hg0 : g < w0.heap.size := blk_lt b1
  have hs0 := b2.lt
  have hk0 := b3.lt
  have hv0 := Kd.R_lt b4
  have OKP : Aside0 (∀ b, (w0.heap.size ≤ b ∧ b < w.heap.size) → (S b ∧ b ≠ g ∧ b ≠ s ∧ b ≠ k) ∧ some b ≠ v.ownBlock) := ⟨fun b hb' => ⟨⟨b8 b hb'.1, by omega, by omega, by omega⟩, fun e => by have := hv0 b e.symm; omega⟩⟩
  replace b1 := (hb.block g hg0).trans b1
  replace b2 := b2.kept (hb.block s hs0)
  replace b3 := b3.kept (hb.block k hk0)
  replace b4 := Kd.R_below b4 hb
  have HV := Aside0.mk b4
  have HG0 := Aside0.mk hg0
  have B8 := Aside0.mk b8
  have BK := Aside0.mk b1
  have N1 := Aside0.mk n1
  have N2 := Aside0.mk n2
  have E1 := Aside0.mk e1
  have D1 := Aside0.mk d1
  have HB := Aside0.mk (Below.refl w.heap.size w)
  obtain ⟨n, hne⟩ : ∃ n, n = l.length := ⟨_, rfl⟩
  rw [← hne]
  have HNE := Aside0.mk hne
  cases hg : D.gone with
  | true =>
    have e : countD ⟨a, l⟩ D = D := by unfold countD; rw [hg, if_pos rfl]
    rw [e]
    rw [hg] at BK
    clear h hb hR hB hl ha b1 b2 b3 b4 b8 hne e
    go_enter Try.func48, Try.ntmps48
    go_wp2_with (first | ((with_reducible refine gate_dst (N := 3) rfl ?_); refine box_ev 3 #[.int .i64 (a : Int), .slice A n c] 100 ?_; intro gb hg' w1 hbox hb; have n_ := pk3 (below_step bl_ hb) hbox (blk_below BK.out hb); clear HB BK; obtain ⟨HB, BKb, BK⟩ := n_; clear hb hbox hg'; obtain ⟨c0, c1, c2, c3, c4, f0, f1, f2, f3, f4⟩ := blk_at5 BK.out))
    go_end0
    exact ⟨⟨_, rfl⟩, H.out.below HB.out, HB.out.mono (Nat.le_trans HBW.out HBw0.out.size), Kept.of_below HB.out S⟩
  | false =>
    rw [hg] at BK
    by_cases h0 : D.armed = 0
    · have e : countD ⟨a, l⟩ D = { D with gone := true } := by unfold countD; rw [hg, if_neg (by decide), if_pos h0]
      rw [e]
      have c30 : (D.armed == 0) = true := by simpa using h0
      clear h hb hR hB hl ha b1 b2 b3 b4 b8 hne e h0
      go_enter Try.func48, Try.ntmps48
      go_wp2_with (first | ((with_reducible refine gate_dst (N := 3) rfl ?_); refine box_ev 3 #[.int .i64 (a : Int), .slice A n c] 100 ?_; intro gb hg' w1 hbox hb; have n_ := pk3 (below_step bl_ hb) hbox (blk_below BK.out hb); clear HB BK; obtain ⟨HB, BKb, BK⟩ := n_; clear hb hbox hg'; obtain ⟨c0, c1, c2, c3, c4, f0, f1, f2, f3, f4⟩ := blk_at5 BK.out))
      go_end0
      obtain ⟨x1, x2, x3⟩ := (H.out.below HB.out).goneNow
      exact ⟨⟨_, rfl⟩, x1, (HB.out.mono (Nat.le_trans HBW.out HBw0.out.size)).trans x2, (Kept.of_below HB.out S).then_ x3 (fun _ h => .inl h)⟩
    · have c30 : (D.armed == 0) = false := by simpa using h0
      have e : countD ⟨a, l⟩ D = { D with armed := if D.armed < 0 then -1 else D.armed - 1, ws := D.ws ++ [⟨a, l⟩] } := by unfold countD; rw [hg, if_neg (by decide), if_neg h0]
      have E := Aside0.mk e
      have NE := Aside0.mk h0
      have q1 : -1 ≤ D.armed := ha.1
      have q2 : D.armed ≤ 9223372036854775807 := ha.2
      clear h hb hR hB hl ha b1 b2 b3 b4 b8 hne e
      go_enter Try.func48, Try.ntmps48
      go_wp2_with (first | ((with_reducible refine gate_dst (N := 3) rfl ?_); refine box_ev 3 #[.int .i64 (a : Int), .slice A n c] 100 ?_; intro gb hg' w1 hbox hb; have n_ := pk4 (below_step bl_ hb) hbox (blk_below BK.out hb) (nb_ hg' BK.out); clear HB BK; obtain ⟨HB, BKb, BK, NGB⟩ := n_; clear hb hbox hg'; obtain ⟨c0, c1, c2, c3, c4, f0, f1, f2, f3, f4⟩ := blk_at5 BK.out; obtain ⟨y0, y1, fy0, fy1⟩ := blk_at2 BKb.out))
      all_goals
        have app : ∀ x : Int, Kd.R k100 100 (w1.setCell ⟨g, 3, none⟩ (.int .i64 x)).drew B (fun b => S b ∧ b ≠ g ∧ b ≠ s ∧ b ≠ k) v D.ws := fun x => R_set_ (Kd.R_below HV.out HB.out) ⟨g, 3, none⟩ _ (fun b hb => hb.2.1)
        have elt : ∀ x : Int, k100.M (w1.setCell ⟨g, 3, none⟩ (.int .i64 x)).drew B (fun b => w0.heap.size ≤ b ∧ b < w.heap.size) (⟨(a : Int), l⟩ : S100) [.int .i64 (a : Int), .slice A n c] := fun x => k100_mkM _ _ _ (⟨(a : Int), l⟩ : S100) (by
          rw [HNE.out]
          refine R_set_ (Kd.R_below (Kd.R_lower (Kd.R_mono (Kd.R_bound HR.out) (fun b hb => ⟨hb.2.1, hb.2.2.1⟩)) HBW.out) HB.out) ⟨g, 3, none⟩ _ (fun b hb => ?_)
          have := HG0.out
          have := hb.1
          simp only
          omega)
        have fin : ∀ (x : Int) (v2 : Value) (w2 : World), (x = if D.armed < 0 then -1 else D.armed - 1) → Kd.R k100 100 w2 B (fun b => S b ∧ b ≠ g ∧ b ≠ s ∧ b ≠ k) v2 (D.ws ++ [(⟨(a : Int), l⟩ : S100)]) → (w1.setCell ⟨g, 3, none⟩ (.int .i64 x)).drew.grownBy w2 v.ownBlock →
            w2.heap[g]? = some (.cells #[.slice (some ⟨s, 0, none⟩) D.seen.length D.seen.length, .slice (some ⟨k, 0, none⟩) D.kept.length D.kept.length, v, .int .i64 x, .bool false] 43 (0, 0)) ∧ IsDr S B (w2.setCell ⟨g, 2, none⟩ v2) g s k (countD ⟨a, l⟩ D) ∧ Below B w (w2.setCell ⟨g, 2, none⟩ v2) ∧ Kept w (w2.setCell ⟨g, 2, none⟩ v2) S := fun x v2 w2 hx hr hg2 => by
          have own : ∀ b, v.ownBlock = some b → S b ∧ b ≠ g ∧ b ≠ s ∧ b ≠ k := HV.out.1
          have g1 : (w1.setCell ⟨g, 3, none⟩ (.int .i64 x)).heap[g]? = some (.cells #[.slice (some ⟨s, 0, none⟩) D.seen.length D.seen.length, .slice (some ⟨k, 0, none⟩) D.kept.length D.kept.length, v, .int .i64 x, .bool false] 43 (0, 0)) := blk_put (cs := #[.slice (some ⟨s, 0, none⟩) D.seen.length D.seen.length, .slice (some ⟨k, 0, none⟩) D.kept.length D.kept.length, v, .int .i64 D.armed, .bool false]) BK.out 3 _ rfl
          have g2 := (hg2.block g (blk_lt g1) (fun e => (own g e.symm).2.1 rfl)).trans g1
          have s1 : w1.heap[s]? = w.heap[s]? := HB.out.block s (Nat.lt_of_lt_of_le hs0 HBw0.out.size)
          have k1 : w1.heap[k]? = w.heap[k]? := HB.out.block k (Nat.lt_of_lt_of_le hk0 HBw0.out.size)
          have s2 : w2.heap[s]? = w.heap[s]? := ((hg2.block s (Nat.lt_of_lt_of_le (Nat.lt_of_lt_of_le hs0 HBw0.out.size) (by simpa using HB.out.size)) (fun e => (own s e.symm).2.2.1 rfl)).trans (Below.heap_setCell w1 ⟨g, 3, none⟩ _ s (Ne.symm n1))).trans s1
          have k2 : w2.heap[k]? = w.heap[k]? := ((hg2.block k (Nat.lt_of_lt_of_le (Nat.lt_of_lt_of_le hk0 HBw0.out.size) (by simpa using HB.out.size)) (fun e => (own k e.symm).2.2.2 rfl)).trans (Below.heap_setCell w1 ⟨g, 3, none⟩ _ k (Ne.symm n2))).trans k1
          have hsz : w.heap.size ≤ w2.heap.size := Nat.le_trans (by simpa using HB.out.size) hg2.size
          have hbl : Below B w w2 := (Below.drew ((HB.out.mono (Nat.le_trans HBW.out HBw0.out.size)).setCell (p := ⟨g, 3, none⟩) E1.out _)).grown hg2 (by have := HB.out.size; have := HBW.out; have := HBw0.out.size; simp; omega) (fun b e => by
            have q := Kd.R_bound HV.out
            exact (q.1 b e).2.1)
          rw [E.out]
          refine ⟨g2, ?_, hbl.setCell (p := ⟨g, 2, none⟩) E1.out _, ?_⟩
          · refine H.out.put (v := v2) rfl rfl ?_ ((Below.heap_setCell _ ⟨g, 2, none⟩ _ s (Ne.symm n1)).trans s2) ((Below.heap_setCell _ ⟨g, 2, none⟩ _ k (Ne.symm n2)).trans k2) (R_set_ hr ⟨g, 2, none⟩ _ (fun b hb => hb.2.1)) (by simpa using hsz)
            have q := blk_put (cs := #[.slice (some ⟨s, 0, none⟩) D.seen.length D.seen.length, .slice (some ⟨k, 0, none⟩) D.kept.length D.kept.length, v, .int .i64 x, .bool false]) g2 2 v2 rfl
            rw [hx] at q
            simp only [hg]
            exact q
          · refine ((((Kept.of_below HB.out S).setCell (p := ⟨g, 3, none⟩) (.inl D1.out) (.int .i64 x)).drew).of_grown hg2 ?_ |>.setCell (p := ⟨g, 2, none⟩) (.inl D1.out) v2)
            exact fun b e => .inl (own b e).1
        have APP := Aside0.mk app
        have ELT := Aside0.mk elt
        have FRESH : Aside0 (∀ b, w1.heap.size ≤ b → S b ∧ b ≠ g ∧ b ≠ s ∧ b ≠ k) := ⟨fun b hb => by have := HBw0.out.size; have := HB.out.size; exact ⟨B8.out b (by omega), by omega, by omega, by omega⟩⟩
        have FIN := Aside0.mk fin
        clear app elt fin hs0 hk0 hv0 hg0 n1 n2 n3 d1 d2 d3 e1 e2 e3 hg
        have HBS : Aside0 (∀ x : Int, B ≤ (w1.setCell ⟨g, 3, none⟩ (.int .i64 x)).drew.heap.size) := ⟨fun x => by have := HB.out.size; have := HBW.out; have := HBw0.out.size; simp; omega⟩
        have HLN : Aside0 ((D.ws.length + 1) * 32 ≤ 140737488355328) := ⟨by have := HLW.out; omega⟩
      · obtain ⟨x, hx⟩ : ∃ x : Int, x = D.armed - 1 := ⟨_, rfl⟩
        have EX : Aside0 (x = if D.armed < 0 then -1 else D.armed - 1) := ⟨by have := NE.out; omega⟩
        rw [← hx]
        clear hx
        have nl : ∀ o : Obj, ((w1.setCell ⟨g, 3, none⟩ (.int .i64 x)).alloc o).cell? ⟨g, 2, none⟩ = some v := fun o => by
          have q : (w1.setCell ⟨g, 3, none⟩ (.int .i64 x)).cell? ⟨g, 2, none⟩ = some v := (blk_cell (blk_put (cs := #[.slice (some ⟨s, 0, none⟩) D.seen.length D.seen.length, .slice (some ⟨k, 0, none⟩) D.kept.length D.kept.length, v, .int .i64 D.armed, .bool false]) BK.out 3 (.int .i64 x) rfl) 2).trans rfl
          exact (World.cell?_alloc_lt _ o _ (World.block_lt_of_cell? _ _ q)).trans q
        go_region_law ((refine Kd.R_append_step k100 (w0 := (w1.setCell ⟨g, 3, none⟩ (.int .i64 (x))).drew) B (by rfl) (.tmp 17) (.tmp 19) 41 100 (.agg #[.int .i64 0, .slice none 0 0]) 32 (by rfl) Try.underlying41 info_write rfl (by decide) (by omega) v D.ws (⟨(a : Int), l⟩ : S100) [.int .i64 (a : Int), .slice A n c] (fun b => S b ∧ b ≠ g ∧ b ≠ s ∧ b ≠ k) (fun b => w0.heap.size ≤ b ∧ b < w.heap.size) (by rfl) (by show Value.slice (some ⟨w1.heap.size, 0, none⟩) 1 1 = _; simp) (ELT.out x) OKP.out (fun b hb => FRESH.out b (by simpa using hb)) (APP.out x) (Below.refl _ _) (HBS.out x) HLN.out ?_; intro v7 w7 ho7 hb7 hg7 hat7; obtain ⟨A7, c7, hv7⟩ := Kd.R_slice ho7; obtain ⟨n7, hn7⟩ : ∃ n7, n7 = (D.ws ++ [(⟨(a : Int), l⟩ : S100)]).length := ⟨_, rfl⟩; rw [← hn7] at hv7; clear hn7; subst hv7; have BK7 := (FIN.out x _ w7 EX.out ho7 hg7).1; obtain ⟨c0, c1, c2, c3, c4, f0, f1, f2, f3, f4⟩ := blk_at5 BK7))
        all_goals (go_wp2; go_end0; exact ⟨⟨_, rfl⟩, (FIN.out x _ w7 EX.out ho7 hg7).2⟩)
      · obtain ⟨x, hx⟩ : ∃ x : Int, x = -1 := ⟨_, rfl⟩
        have EX : Aside0 (x = if D.armed < 0 then -1 else D.armed - 1) := ⟨by have := NE.out; omega⟩
        rw [← hx]
        clear hx
        have nl : ∀ o : Obj, ((w1.setCell ⟨g, 3, none⟩ (.int .i64 x)).alloc o).cell? ⟨g, 2, none⟩ = some v := fun o => by
          have q : (w1.setCell ⟨g, 3, none⟩ (.int .i64 x)).cell? ⟨g, 2, none⟩ = some v := (blk_cell (blk_put (cs := #[.slice (some ⟨s, 0, none⟩) D.seen.length D.seen.length, .slice (some ⟨k, 0, none⟩) D.kept.length D.kept.length, v, .int .i64 D.armed, .bool false]) BK.out 3 (.int .i64 x) rfl) 2).trans rfl
          exact (World.cell?_alloc_lt _ o _ (World.block_lt_of_cell? _ _ q)).trans q
        go_region_law ((refine Kd.R_append_step k100 (w0 := (w1.setCell ⟨g, 3, none⟩ (.int .i64 (x))).drew) B (by rfl) (.tmp 17) (.tmp 19) 41 100 (.agg #[.int .i64 0, .slice none 0 0]) 32 (by rfl) Try.underlying41 info_write rfl (by decide) (by omega) v D.ws (⟨(a : Int), l⟩ : S100) [.int .i64 (a : Int), .slice A n c] (fun b => S b ∧ b ≠ g ∧ b ≠ s ∧ b ≠ k) (fun b => w0.heap.size ≤ b ∧ b < w.heap.size) (by rfl) (by show Value.slice (some ⟨w1.heap.size, 0, none⟩) 1 1 = _; simp) (ELT.out x) OKP.out (fun b hb => FRESH.out b (by simpa using hb)) (APP.out x) (Below.refl _ _) (HBS.out x) HLN.out ?_; intro v7 w7 ho7 hb7 hg7 hat7; obtain ⟨A7, c7, hv7⟩ := Kd.R_slice ho7; obtain ⟨n7, hn7⟩ : ∃ n7, n7 = (D.ws ++ [(⟨(a : Int), l⟩ : S100)]).length := ⟨_, rfl⟩; rw [← hn7] at hv7; clear hn7; subst hv7; have BK7 := (FIN.out x _ w7 EX.out ho7 hg7).1; obtain ⟨c0, c1, c2, c3, c4, f0, f1, f2, f3, f4⟩ := blk_at5 BK7))
        all_goals (go_wp2; go_end0; exact ⟨⟨_, rfl⟩, (FIN.out x _ w7 EX.out ho7 hg7).2⟩)
end Go.Proofs.Ytfmdllbkfpbdcaa.G
end
section
namespace Go.Proofs.Ytfmdllbkfpbdcaa.G
open Go Go.RowKit Go.Shelf Go.Proofs.YtfmdllbkfpbdcaaX Go.Proofs.YtfmdllbkfpbdcaaW.PrintWords Go.Proofs.YtfmdllbkfpbdcaaW.PrintLast Go.Proofs.YtfmdllbkfpbdcaaW.PrintMore
attribute [local go_sem] Oper.semAt_some
attribute [local go_sem] max2_int min2_int max_two min_two
def writeOne (a : Nat) (c : List Int) (D : DrumS) : DrumS := countD ⟨a, c⟩ { D with seen := splice D.seen (64 * a) c }
def sector (l : List Int) (j : Nat) : List Int := (l.drop (64 * j)).take 64
def wst (a : Nat) (l : List Int) {m : Nat} (pre : List (Fin m)) (D : DrumS) : DrumS × Nat := pre.foldl (fun z x => (writeOne (a + z.2) (sector l x.val) z.1, z.2 + 1)) (D, 0)
theorem wst_snoc (a : Nat) (l : List Int) {m : Nat} (pre : List (Fin m)) (x : Fin m) (D : DrumS) : wst a l (pre ++ [x]) D = (writeOne (a + (wst a l pre D).2) (sector l x.val) (wst a l pre D).1, (wst a l pre D).2 + 1) := by simp [wst]
theorem wst_len (a : Nat) (l : List Int) {m : Nat} (pre : List (Fin m)) (D : DrumS) : (wst a l pre D).2 = pre.length := by
  have h : ∀ (pre : List (Fin m)) (z : DrumS × Nat), (pre.foldl (fun z x => (writeOne (a + z.2) (sector l x.val) z.1, z.2 + 1)) z).2 = z.2 + pre.length := by
    intro pre
    induction pre with
    | nil => intro z; rfl
    | cons y ys ih => intro z; rw [List.foldl_cons, ih]; simp; omega
  exact (h pre (D, 0)).trans (Nat.zero_add _)
def writeD (D : DrumS) (at_ : Int) (l : List Int) : DrumS × Int :=
  if l.length % 64 ≠ 0 then (D, 1) else if hasB ((D.seen.length / 64 : Nat) : Int) at_ ((l.length / 64 : Nat) : Int) = false then (D, 5) else ((wst at_.toNat l (List.finRange (l.length / 64)) D).1, 0)
set_option maxHeartbeats 8000000 in
set_option maxRecDepth 100000 in
theorem write_bad (w : World) (p : Option Addr) (at_ : Int) (A : Option Addr) (n c : Nat) (hn : n ≤ 1000000000) (h : n % 64 ≠ 0) :
    Calls Try.prog 12 #[.pointer p, .int .i64 at_, .slice A n c] w fun e w' => e = .returned (.int .i64 1) ∧ Below w.heap.size w w' := by
  have q0 : (0 : Int) ≤ (n : Int) := by omega
  have q1 : ((n : Int) % 64 != 0) = true := by rw [bne_iff_ne]; omega
  have HB := Aside0.mk (Below.refl w.heap.size w)
  clear h
  go_enter Try.func12, Try.ntmps12
  go_wp2
  go_ret
  exact ⟨rfl, below_alloc (below_alloc (Below.refl _ _) _) _⟩
set_option maxHeartbeats 8000000 in
set_option maxRecDepth 100000 in
theorem write_out (w : World) (p : Option Addr) (at_ : Int) (A : Option Addr) (n c : Nat) (hn : n ≤ 1000000000) (h : n % 64 = 0) (hh : ∀ W : World, Below w.heap.size w W → Calls Try.prog 46 #[.pointer p, .int .i64 at_, .int .i64 ((n / 64 : Nat) : Int)] W fun e w' => e = .returned (.bool false) ∧ w' = W) :
    Calls Try.prog 12 #[.pointer p, .int .i64 at_, .slice A n c] w fun e w' => e = .returned (.int .i64 5) ∧ Below w.heap.size w w' := by
  obtain ⟨m, hm⟩ : ∃ m : Nat, n = 64 * m := ⟨n / 64, by omega⟩
  have hm2 : n / 64 = m := by omega
  rw [hm2] at hh
  have q0 : (0 : Int) ≤ (n : Int) := by omega
  have q1 : ((n : Int) % 64 != 0) = false := by rw [bne_eq_false_iff_eq]; omega
  have q2 : (n : Int) / 64 = (m : Int) := by omega
  have HH := Aside0.mk hh
  clear h hh hm hm2
  go_enter Try.func12, Try.ntmps12
  go_wp2_with (go_at_call 46; refine (HH.out _ (below_alloc (below_alloc (Below.refl _ _) _) _)).mono ?_; rintro e w' ⟨rfl, rfl⟩)
  go_ret
  exact ⟨rfl, below_alloc (below_alloc (Below.refl _ _) _) _⟩
theorem blk_turn_d {W W' : World} {row : Option Nat} {l : Nat} {cs : Array Value} {t : Nat} (h : W.heap[l]? = some (.cells cs t (0, 0))) (hg : W.grownBy W' row) (hr : ∀ r, row = some r → ∃ o : Obj, W.heap[r]? = some o ∧ o.isCells = false) : W'.heap[l]? = some (.cells cs t (0, 0)) := by
  refine (hg.block l (Array.getElem?_eq_some_iff.1 h).1 (fun e => ?_)).trans h
  obtain ⟨o, ho, hc⟩ := hr l e.symm
  rw [h] at ho
  injection ho with ho
  subst ho
  cases hc
theorem R_turn_d {α : Type} {d : Kd α} {e : Nat} {W W' : World} {base : Nat} {ok : Nat → Prop} {v : Value} {xs : List α} {row : Option Nat} (h : d.R e W base ok v xs) (hg : W.grownBy W' row) (hr : ∀ r, row = some r → ∃ o : Obj, W.heap[r]? = some o ∧ o.isCells = false) : d.R e W' base ok v xs :=
  Kd.R_mono (Kd.R_move (Kd.R_bound h) (fun k hk => hg.block k hk.2.2.1 (fun e => by
    obtain ⟨o, ho, hc⟩ := hr k e.symm
    obtain ⟨_, _, _, q, hq, cells, hk2⟩ := hk
    rw [hk2] at ho
    injection ho with ho
    subst ho
    cases hc))) (fun _ hk => hk.1)
theorem IsDr.turn {S : Nat → Prop} {B : Nat} {W W' : World} {g s k : Nat} {D : DrumS} {row : Option Nat} (h : IsDr S B W g s k D) (hg : W.grownBy W' row) (hr : ∀ r, row = some r → ∃ o : Obj, W.heap[r]? = some o ∧ o.isCells = false) : IsDr S B W' g s k D := by
  obtain ⟨v, h1, h2, h3, h4, h5, h6, h7, h8⟩ := h
  exact ⟨v, blk_turn_d h1 hg hr, blk_turn_d h2 hg hr, blk_turn_d h3 hg hr, R_turn_d h4 hg hr, h5, h6, h7, fun b hb => h8 b (Nat.le_trans hg.size hb)⟩
def Prot (W : World) (b : Nat) : Prop := ∃ o : Obj, W.heap[b]? = some o ∧ ∀ cs, o ≠ .cells cs 100 (0, 0) ∧ o ≠ .cells cs 5 (0, 0) ∧ o ≠ .cells cs 43 (0, 0)
theorem IsDr.strict {S : Nat → Prop} {B : Nat} {W : World} {g s k : Nat} {D : DrumS} (h : IsDr S B W g s k D) : IsDr (fun b => S b ∧ ¬ Prot W b) B W g s k D := by
  obtain ⟨v, h1, h2, h3, h4, ⟨a1, a2, a3⟩, h6, h7, h8⟩ := h
  refine ⟨v, h1, h2, h3, Kd.R_mono (Kd.R_bound h4) (fun b hb => ⟨⟨hb.1.1, ?_⟩, hb.1.2⟩), ⟨⟨a1, ?_⟩, ⟨a2, ?_⟩, ⟨a3, ?_⟩⟩, h6, h7, fun b hb => ⟨h8 b hb, ?_⟩⟩
  · rintro ⟨o, ho, hn⟩
    obtain ⟨_, _, _, q, hq, cells, hk⟩ := hb
    rw [hk] at ho
    injection ho with ho
    subst ho
    have : q = 100 ∨ q = 5 := by
      have h' : q ∈ (100 :: ([] ++ (5 :: []) : List Nat)) := hq
      simpa using h'
    rcases this with rfl | rfl
    · exact (hn cells).1 rfl
    · exact (hn cells).2.1 rfl
  · rintro ⟨o, ho, hn⟩
    rw [h1] at ho
    injection ho with ho
    exact (hn _).2.2 ho.symm
  · rintro ⟨o, ho, hn⟩
    rw [h2] at ho
    injection ho with ho
    exact (hn _).2.1 ho.symm
  · rintro ⟨o, ho, hn⟩
    rw [h3] at ho
    injection ho with ho
    exact (hn _).2.1 ho.symm
  · rintro ⟨o, ho, hn⟩
    rw [Array.getElem?_eq_none hb] at ho
    cases ho
theorem IsDr.more {S S' : Nat → Prop} {B : Nat} {W : World} {g s k : Nat} {D : DrumS} (h : IsDr S B W g s k D) (hs : ∀ b, S b → S' b) : IsDr S' B W g s k D := by
  obtain ⟨v, h1, h2, h3, h4, ⟨a1, a2, a3⟩, h6, h7, h8⟩ := h
  exact ⟨v, h1, h2, h3, Kd.R_mono h4 (fun b hb => ⟨hs b hb.1, hb.2⟩), ⟨hs _ a1, hs _ a2, hs _ a3⟩, h6, h7, fun b hb => hs b (h8 b hb)⟩
theorem wpIn_copy_to {F : Fence} {nf : Nat} {P : Program} {o : Oper} {a : Act} {w : World} {K : Act → World → Prop} {Q : Exit → Act → World → Prop} (hF : ∀ f, F.fn f) (d s : Operand) (dT sT : TypeId)
    (ho : o.op = .call { callee := .builtin .copy, args := #[d, s], argTypes := #[dT, sT] }) (elem : TypeId) (hu : P.underlying dT = some (.slice elem)) (hsz : (P.info? elem).map (·.size) = some 1)
    (ad : Addr) (dLen dCap sLen sCap g off : Nat) (hd : a.eval d = .slice (some ⟨g, off, none⟩) dLen dCap) (hs : a.eval s = .slice (some ad) sLen sCap)
    (cur : List Value) (t : TypeId) (hg : w.heap[g]? = some (.cells cur.toArray t (0, 0))) (cs : List Value) (hn : cs.length = min sLen dLen) (hsrc : ∀ j v, cs[j]? = some v → w.cell? (ad.add j) = some v)
    (hfit : off + cs.length ≤ cur.length) (h1 : ∀ v ∈ cs, v.oneCell' = true)
    (N : Tmp) (hN : o.dst = some N) (h : ∀ w', CopyTo w w' g (splice cur off cs).toArray t → K (a.put (some N) (goInt cs.length)) w') : o.wpIn F nf P a w K Q := by
  rw [← hN] at h
  have hrun := run_copy_row (P := P) w dT sT o.type elem g off dLen dCap ad sLen sCap cur.toArray t cs hu hsz hg hn hsrc (by simpa using hfit) h1
  refine ⟨fun f _ => hF f, ?_⟩
  rw [Oper.semAt_eq _ _ _ (by rw [ho]; intro c hc; cases hc)]
  simp only [execOp, ho, resolve, invoke, builtin, List.map_toArray, List.map_cons, List.map_nil, hd, hs, Sem.run_bind, Sem.run_pure, Result.andThen_ok, hrun, Oper.uponIn]
  exact h _ (by simpa [splice] using copy_to hg (splice cur off cs).toArray)
theorem sector_len (l : List Int) (j : Nat) (h : 64 * j + 64 ≤ l.length) : (sector l j).length = 64 := by
  unfold sector
  rw [List.length_take, List.length_drop]
  omega
theorem sector_cells {W : World} {b o : Nat} {l : List Int} (h : Kd.C (Kd.int .u8) W (some ⟨b, o, none⟩) l.length l) (x : Nat) (hx : 64 * x + 64 ≤ l.length) : ∀ (j : Nat) (v : Value), (nums .u8 (sector l x))[j]? = some v → W.cell? ((⟨b, o + 64 * x, none⟩ : Addr).add j) = some v := by
  intro j v hv
  have hj : j < 64 := by
    rcases Nat.lt_or_ge j 64 with h | h
    · exact h
    · rw [List.getElem?_eq_none (by rw [nums_len, sector_len l x hx]; exact h)] at hv
      cases hv
  have e : (⟨b, o + 64 * x, none⟩ : Addr).add j = (⟨b, o, none⟩ : Addr).add (64 * x + j) := by
    unfold Addr.add
    by_cases h0 : j = 0
    · subst h0
      by_cases h1 : x = 0
      · subst h1; simp
      · rw [if_pos rfl, if_neg (by omega)]; rfl
    · rw [if_neg h0, if_neg (by omega)]
      simp only [Addr.mk.injEq, and_true, true_and]
      omega
  rw [e]
  obtain ⟨ad, e2, hc⟩ := C_cells h (64 * x + j) v (by
    rw [← hv]
    unfold sector nums
    rw [List.map_take, List.map_drop, List.getElem?_take, if_pos hj, List.getElem?_drop])
  cases e2
  exact hc
theorem sector_C {W : World} {b o : Nat} {l : List Int} (h : Kd.C (Kd.int .u8) W (some ⟨b, o, none⟩) l.length l) (x : Nat) (hx : 64 * x + 64 ≤ l.length) : Kd.C (Kd.int .u8) W (some ⟨b, o + 64 * x, none⟩) (sector l x).length (sector l x) := by
  refine Kd.C_of_reads (enc := Value.int .u8) (d := (0 : Int)) (h1 := fun _ => rfl) ⟨rfl, by rw [sector_len l x hx]; decide, fun h0 => ⟨_, rfl, fun j hj => ?_⟩⟩
  refine sector_cells h x hx j _ ?_
  simp [nums, hj]
theorem countD_facts (x : S100) (D : DrumS) (har : -1 ≤ D.armed ∧ D.armed ≤ 9223372036854775807) : (countD x D).seen = D.seen ∧ (countD x D).kept = D.kept ∧ (-1 ≤ (countD x D).armed ∧ (countD x D).armed ≤ 9223372036854775807) ∧ (countD x D).ws.length ≤ D.ws.length + 1 := by
  unfold countD
  split
  · exact ⟨rfl, rfl, har, by omega⟩
  · split
    · exact ⟨rfl, rfl, har, by simp⟩
    · refine ⟨rfl, rfl, ?_, by simp⟩
      simp only
      split <;> omega
theorem wst_facts (a : Nat) (l : List Int) {m : Nat} (pre : List (Fin m)) (D : DrumS) (hm : l.length = 64 * m) (hfit : 64 * (a + m) ≤ D.seen.length) (har : -1 ≤ D.armed ∧ D.armed ≤ 9223372036854775807) : pre.length ≤ m →
    (wst a l pre D).1.seen.length = D.seen.length ∧ (wst a l pre D).1.kept = D.kept ∧ (-1 ≤ (wst a l pre D).1.armed ∧ (wst a l pre D).1.armed ≤ 9223372036854775807) ∧ (wst a l pre D).1.ws.length ≤ D.ws.length + pre.length := by
  have key : ∀ (n : Nat) (pre : List (Fin m)), pre.length = n → n ≤ m → (wst a l pre D).1.seen.length = D.seen.length ∧ (wst a l pre D).1.kept = D.kept ∧ (-1 ≤ (wst a l pre D).1.armed ∧ (wst a l pre D).1.armed ≤ 9223372036854775807) ∧ (wst a l pre D).1.ws.length ≤ D.ws.length + n := by
    intro n
    induction n with
    | zero =>
      intro pre h _
      obtain rfl := List.eq_nil_of_length_eq_zero h
      exact ⟨rfl, rfl, har, Nat.le_refl _⟩
    | succ n ih =>
      intro pre h hn
      obtain ⟨p, x, rfl⟩ : ∃ p x, pre = p ++ [x] := ⟨pre.dropLast, pre.getLast (by intro e; simp [e] at h), (List.dropLast_concat_getLast _).symm⟩
      have hp : p.length = n := by simpa using h
      obtain ⟨i1, i2, i3, i4⟩ := ih p hp (by omega)
      rw [wst_snoc, wst_len, hp]
      have hx := x.isLt
      have hs : (splice (wst a l p D).1.seen (64 * (a + n)) (sector l x.val)).length = (wst a l p D).1.seen.length := length_splice _ _ _ (by rw [sector_len l x.val (by omega)]; omega)
      obtain ⟨c1, c2, c3, c4⟩ := countD_facts ⟨((a + n : Nat) : Int), sector l x.val⟩ { (wst a l p D).1 with seen := splice (wst a l p D).1.seen (64 * (a + n)) (sector l x.val) } i3
      exact ⟨(congrArg List.length c1).trans (hs.trans i1), c2.trans i2, c3, Nat.le_trans c4 (by show (wst a l p D).1.ws.length + 1 ≤ _; omega)⟩
  exact key _ pre rfl
def WI (w : World) (S : Nat → Prop) (B : Nat) (g s k : Nat) (D : DrumS) (a : Nat) (l : List Int) (A : Option Addr) (n c : Nat) {m : Nat} (pre : List (Fin m)) (W : World) : Prop :=
  IsDr S B W g s k (wst a l pre D).1 ∧ W.heap[w.heap.size]? = some (.cells #[.pointer (some ⟨g, 0, none⟩)] 24 (0, 0)) ∧ W.heap[w.heap.size + 1]? = some (.cells #[.int .i64 ((a + pre.length : Nat) : Int)] 3 (0, 0)) ∧
  W.heap[w.heap.size + 1 + 1]? = some (.cells #[.slice A n c] 30 (0, 0)) ∧ W.heap[w.heap.size + 1 + 1 + 1]? = some (.cells #[.int .i64 64] 3 (0, 0)) ∧ Below B w W ∧ Kept w W S ∧ w.heap.size + 4 ≤ W.heap.size
theorem WI_own (w : World) (S : Nat → Prop) (B : Nat) (g s k : Nat) (D : DrumS) (a : Nat) (l : List Int) (A : Option Addr) (n c : Nat) {m : Nat} (B0 : Nat) (hB : w.heap.size ≤ B0) (hBB : B ≤ w.heap.size) : OwnFrom B0 (WI w S B g s k D a l A n c (m := m)) := by
  rintro z W W' row ⟨h0, h1, h2, h3, h4, h5, h6, h7⟩ hg hr
  have hr' := fun r e => (hr r e).2
  exact ⟨h0.turn hg hr', blk_turn_d h1 hg hr', blk_turn_d h2 hg hr', blk_turn_d h3 hg hr', blk_turn_d h4 hg hr', h5.grown hg (Nat.le_trans hBB h5.size) (fun k e => Nat.le_trans hBB (Nat.le_trans hB (hr k e).1)), Kept.of_grown hg h6 (fun k e => .inr (Nat.le_trans hB (hr k e).1)), Nat.le_trans h7 hg.size⟩
theorem al4 (w : World) (o1 o2 o3 o4 : Obj) : ((((w.alloc o1).alloc o2).alloc o3).alloc o4).heap[w.heap.size]? = some o1 ∧ ((((w.alloc o1).alloc o2).alloc o3).alloc o4).heap[w.heap.size + 1]? = some o2 ∧ ((((w.alloc o1).alloc o2).alloc o3).alloc o4).heap[w.heap.size + 1 + 1]? = some o3 ∧ ((((w.alloc o1).alloc o2).alloc o3).alloc o4).heap[w.heap.size + 1 + 1 + 1]? = some o4 := by
  obtain ⟨a1, a2, a3⟩ := al3 w o1 o2 o3
  refine ⟨(Below.heap_alloc _ _ _ (by simp; omega)).trans a1, (Below.heap_alloc _ _ _ (by simp)).trans a2, (Below.heap_alloc _ _ _ (by simp)).trans a3, ?_⟩
  simpa using heap_alloc_new (((w.alloc o1).alloc o2).alloc o3) o4
theorem cell_spot {w : World} {ad : Addr} {v : Value} (h : w.cell? ad = some v) : ad = ⟨ad.block, ad.off, none⟩ := by
  obtain ⟨b, o, sp⟩ := ad
  cases sp with
  | none => rfl
  | some q =>
    exfalso
    unfold World.cell? at h
    simp only at h
    split at h
    · simp at h
    · cases h
theorem chunk_of {w : World} {ok : Nat → Prop} {A : Option Addr} {m c : Nat} {l : List Int} (hF : Kd.F (Kd.int .u8) w ok A l.length l) (hm : l.length = 64 * m) (hc : l.length ≤ c) : ∃ adb ado, ChunkOf m (.slice A l.length c) adb ado ∧ (0 < m → A = some ⟨adb, ado, none⟩) := by
  rcases Nat.eq_zero_or_pos m with h | h
  · subst h
    exact ⟨0, 0, .inl ⟨rfl, A, c, by rw [hm]⟩, fun h => absurd h (by omega)⟩
  · obtain ⟨ad, e, hx⟩ := Kd.at_int (Kd.F_now hF) 0 (by omega) (by omega)
    have e2 : ad.add (0 : Int).toNat = ad := by simp [Addr.add]
    rw [e2] at hx
    have e3 := cell_spot hx
    refine ⟨ad.block, ad.off, .inr ⟨c, ?_, by omega⟩, fun _ => ?_⟩
    · rw [e, hm, ← e3]
    · rw [e, ← e3]
theorem IsDr.far {S : Nat → Prop} {B : Nat} {W : World} {g s k : Nat} {D : DrumS} (h : IsDr S B W g s k D) {p : Addr} (hp : ¬ S p.block) (u : Value) : IsDr S B (W.setCell p u) g s k D := by
  obtain ⟨v, h1, h2, h3, h4, ⟨a1, a2, a3⟩, h6, h7, h8⟩ := h
  have ne : ∀ b, S b → b ≠ p.block := fun b hb e => hp (e ▸ hb)
  exact ⟨v, (Below.heap_setCell _ p u g (ne g a1)).trans h1, h2.kept (Below.heap_setCell _ p u s (ne s a2)), h3.kept (Below.heap_setCell _ p u k (ne k a3)), R_set_ h4 p u (fun b hb => ne b hb.1), ⟨a1, a2, a3⟩, h6, h7, fun b hb => h8 b (by simpa using hb)⟩
theorem IsDr.seen_ {S : Nat → Prop} {B : Nat} {w W : World} {g s k : Nat} {D : DrumS} {l : List Int} (h : IsDr S B w g s k D) (hb : Bts W s l) (hk : KeepBut w W s none) (hl : l.length = D.seen.length) : IsDr S B W g s k { D with seen := l } := by
  obtain ⟨v, h1, h2, h3, h4, h5, h6, h7, h8⟩ := h
  refine ⟨v, ?_, hb, h3.kept (hk.2 k h3.lt (Ne.symm h7.2.2) (by simp)), R_keepBut_ h4 hk (fun b hb => hb.2.2.1), h5, h6, h7, fun b hb => h8 b (Nat.le_trans hk.1 hb)⟩
  rw [hl]
  exact (hk.2 g (blk_lt h1) h7.1 (by simp)).trans h1
theorem prot_of {W : World} {b t : Nat} {cs : Array Value} (h : W.heap[b]? = some (.cells cs t (0, 0))) (h1 : t ≠ 100) (h2 : t ≠ 5) (h3 : t ≠ 43) : Prot W b :=
  ⟨_, h, fun cs' => ⟨fun e => by injection e with _ e _; exact h1 e, fun e => by injection e with _ e _; exact h2 e, fun e => by injection e with _ e _; exact h3 e⟩⟩
theorem prot_other {W : World} {b : Nat} {o : Obj} (h : W.heap[b]? = some o) (ho : o.isCells = false) : Prot W b :=
  ⟨o, h, fun cs => by refine ⟨?_, ?_, ?_⟩ <;> (intro e; rw [e] at ho; cases ho)⟩
theorem round_end {w W W4 : World} {S : Nat → Prop} {B g s k : Nat} {D : DrumS} {a : Nat} {l : List Int} {A : Option Addr} {n c m : Nat} {pre : List (Fin m)} {x : Fin m} (hI : WI w S B g s k D a l A n c pre W) (hBw : B ≤ w.heap.size)
    (hd : IsDr (fun b => S b ∧ ¬ Prot W b) B W4 g s k (wst a l (pre ++ [x]) D).1) (hb : Below B W W4) (hk : Kept W W4 (fun b => S b ∧ ¬ Prot W b)) (u : Int) (hu : u = ((a + (pre ++ [x]).length : Nat) : Int)) :
    KeepsOthers W (W4.setCell ⟨w.heap.size + 1, 0, none⟩ (.int .i64 u)) ∧ KeepsTwo (w.heap.size + 1 + 1) (w.heap.size + 1 + 1 + 1) W (W4.setCell ⟨w.heap.size + 1, 0, none⟩ (.int .i64 u)) ∧ WI w S B g s k D a l A n c (pre ++ [x]) (W4.setCell ⟨w.heap.size + 1, 0, none⟩ (.int .i64 u)) := by
  obtain ⟨h0, h1, h2, h3, h4, h5, h6, h7⟩ := hI
  have p3 : Prot W w.heap.size := prot_of h1 (by decide) (by decide) (by decide)
  have p4 : Prot W (w.heap.size + 1) := prot_of h2 (by decide) (by decide) (by decide)
  have ps : Prot W (w.heap.size + 1 + 1) := prot_of h3 (by decide) (by decide) (by decide)
  have pn : Prot W (w.heap.size + 1 + 1 + 1) := prot_of h4 (by decide) (by decide) (by decide)
  have same : ∀ b, Prot W b → b < W.heap.size → W4.heap[b]? = W.heap[b]? := fun b hp hlt => hk.2 b hlt (fun h => h.2 hp)
  have far : ∀ b, b ≠ w.heap.size + 1 → (W4.setCell ⟨w.heap.size + 1, 0, none⟩ (.int .i64 u)).heap[b]? = W4.heap[b]? := fun b hne => Below.heap_setCell W4 ⟨w.heap.size + 1, 0, none⟩ _ b hne
  have e3 := (far w.heap.size (by omega)).trans (same _ p3 (by omega))
  have es := (far (w.heap.size + 1 + 1) (by omega)).trans (same _ ps (by omega))
  have en := (far (w.heap.size + 1 + 1 + 1) (by omega)).trans (same _ pn (by omega))
  have hk2 : Kept w W4 S := h6.then_ hk (fun b hb => .inl hb.1)
  refine ⟨⟨by simpa using hb.size, fun b o ho hc => ?_⟩, ⟨es, en⟩, ?_, e3.trans h1, ?_, es.trans h3, en.trans h4, ?_, ?_, ?_⟩
  · have hne : b ≠ w.heap.size + 1 := by
      intro e
      subst e
      rw [h2] at ho
      injection ho with ho
      subst ho
      cases hc
    rw [far b hne, same b (prot_other ho hc) (blk_lt ho)]
    exact ho
  · exact (hd.far (p := ⟨w.heap.size + 1, 0, none⟩) (fun h => h.2 p4) _).more (fun b hb => hb.1)
  · rw [← hu]
    exact blk_put ((same _ p4 (by omega)).trans h2) 0 (.int .i64 u) rfl
  · exact (h5.trans hb).setCell (p := ⟨w.heap.size + 1, 0, none⟩) (by simp only; omega) _
  · exact hk2.setCell (p := ⟨w.heap.size + 1, 0, none⟩) (.inr (by simp only; omega)) _
  · have := hb.size
    simp
    omega
theorem wpIn_call {F : Fence} {nf : Nat} {P : Program} {o : Oper} {a : Act} {w : World} {K : Act → World → Prop} {Q : Exit → Act → World → Prop} (hF : ∀ f, F.fn f) (f : FuncId) (args : Array Operand) (tys : Array TypeId)
    (ho : o.op = .call { callee := .value (.func f), args := args, argTypes := tys }) (he : ∀ args w, (callFunc f args).run P w = .ok (.enter f args) w) (hn : 1 ≤ nf) (vals : Array Value) (hv' : args.toList.map a.eval = vals.toList) (R : Ending → World → Prop) (hC : CallsIn F (nf - 1) P f vals w R)
    (N : Tmp) (hN : o.dst = some N) (h : ∀ e w', R e w' → ∃ v, e = .returned v ∧ K (a.put (some N) v) w') : o.wpIn F nf P a w K Q := by
  have hv : args.map a.eval = vals := Array.ext' (by simpa using hv')
  refine ⟨fun f _ => hF f, ?_⟩
  rw [Oper.semAt_eq _ _ _ (by rw [ho]; intro c hc; cases hc)]
  have hrun : (execOp a.eval o).run P w = .ok (.enter f vals) w := by
    have h1 : (resolve a.eval { callee := .value (.func f), args := args, argTypes := tys } o.type).run P w = .ok { target := .fn (.func f) #[], args := vals } w := by
      simp [resolve, hv, go_sem]
    simp only [execOp, ho, Sem.run_bind, h1, Result.andThen_ok]
    simp [invoke, go_sem, he]
  rw [hrun]
  refine ⟨fun _ => hn, CallsIn.mono hC fun e w' hr => ?_⟩
  obtain ⟨v, rfl, hk⟩ := h e w' hr
  rw [hN]
  exact hk
set_option maxRecDepth 100000 in
set_option maxHeartbeats 16000000 in
theorem write_yes (S : Nat → Prop) (B : Nat) (w : World) (g s k : Nat) (D : DrumS) (a : Nat) (A : Option Addr) (c : Nat) (l : List Int) (m : Nat) (h : IsDr S B w g s k D) (hB : B ≤ w.heap.size) (hG : D.Good) (hF : Kd.F (Kd.int .u8) w (fun b => ¬ S b) A l.length l) (hc : l.length ≤ c) (hm : l.length = 64 * m) (hfit : 64 * (a + m) ≤ D.seen.length) (hl : D.ws.length + m ≤ 1000000000) (har : -1 ≤ D.armed ∧ D.armed ≤ 9223372036854775807) :
    Calls Try.prog 12 #[.pointer (some ⟨g, 0, none⟩), .int .i64 (a : Int), .slice A l.length c] w fun e w' => e = .returned (.int .i64 0) ∧ IsDr S B w' g s k (wst a l (List.finRange m) D).1 ∧ Below B w w' ∧ Kept w w' S := by
  obtain ⟨Q, hQ⟩ : ∃ Q : Ending → World → Prop, (fun e w' => e = .returned (.int .i64 0) ∧ IsDr S B w' g s k (wst a l (List.finRange m) D).1 ∧ Below B w w' ∧ Kept w w' S) = Q := ⟨_, rfl⟩
  rw [hQ]
  have HQQ := Aside0.mk hQ
  clear hQ
  refine (callsIn_wide (n := 6)).1 ?_
  have hro : Fence.wide.round = none := rfl
  have hfn : ∀ f, Fence.wide.fn f = True := fun _ => eq_true trivial
  refine callsIn_of_wp_marks Try.func12 rfl trivial ?_ hro
  simp only [Try.ntmps12, List.size_toArray, List.length_cons, List.length_nil, Nat.reduceAdd, Nat.reduceSub, Array.replicate_succ, Array.replicate_zero, List.push_toArray, List.append_toArray, List.nil_append, List.cons_append]
  have hu43 := Try.underlying43
  have hu100 := Try.underlying100
  have hkl : D.kept.length ≤ 524288 := hG.2.1
  have hsl : D.seen.length ≤ 524288 := by rw [hG.1]; exact hkl
  have HAS : Aside0 (∀ W : World, Below w.heap.size w W → Calls Try.prog 46 #[.pointer (some ⟨g, 0, none⟩), .int .i64 (a : Int), .int .i64 (m : Int)] W fun e w' => e = .returned (.bool true) ∧ w' = W) := ⟨fun W hb => by
    obtain ⟨v, b1, b2, b3, b4, b5⟩ := h.below hb
    have q := has_of W (.pointer (some ⟨g, 0, none⟩)) ((D.seen.length / 64 : Nat) : Int) (a : Int) (m : Int) (sectors_blk W g _ _ _ _ _ _ _ b1 (by omega)) (by omega) (by omega) (by omega) rfl
    have e : hasB ((D.seen.length / 64 : Nat) : Int) (a : Int) (m : Int) = true := decide_eq_true ⟨by omega, by omega, by omega⟩
    rw [e] at q
    exact q⟩
  have H := Aside0.mk h
  have HB := Aside0.mk hB
  have HG := Aside0.mk hG
  have HF := Aside0.mk hF
  have HC := Aside0.mk hc
  have HM := Aside0.mk hm
  have HFIT := Aside0.mk hfit
  have HL := Aside0.mk hl
  have HAR := Aside0.mk har
  obtain ⟨n, hn⟩ : ∃ n, n = l.length := ⟨_, rfl⟩
  have hn2 : n = 64 * m := by omega
  have hmb : m ≤ 8192 := by omega
  rw [← hn]
  have HN := Aside0.mk hn
  have t1 : ((n : Int) % 64 != 0) = false := by rw [bne_eq_false_iff_eq]; omega
  have t2 : (n : Int) / 64 = (m : Int) := by omega
  have t3 : (0 : Int) ≤ (n : Int) := by omega
  have t4 : (n : Int) ≤ 1000000 := by omega
  clear h hB hG hF hc hm hfit hl har hn hkl hsl
  have HN2 := Aside0.mk hn2
  have HMB := Aside0.mk hmb
  clear hn2 hmb
  gi_wp2_with (first
    | (gi_at_call 46; refine ((callsIn_wide (n := 5)).2 (HAS.out _ (below_alloc (below_alloc (Below.refl _ _) _) _))).mono ?_; rintro e w' ⟨rfl, rfl⟩)
    | (gi_at_call 47; refine (chunk_in Fence.wide 5 trivial hro _ _ _ _).mono ?_; rintro e w' ⟨rfl, rfl⟩))
  obtain ⟨W0, hW0⟩ : ∃ W0 : World, ((((w.alloc (Obj.cells #[Value.pointer (some { block := g, off := 0 })] 24)).alloc (Obj.cells #[Value.int IntKind.i64 (a : Int)] 3)).alloc (Obj.cells #[Value.slice A n c] 30)).alloc (Obj.cells #[Value.int IntKind.i64 64] 3)) = W0 := ⟨_, rfl⟩
  have hsz : W0.heap.size = w.heap.size + 4 := by rw [← hW0]; simp
  have hB0 : Below w.heap.size w W0 := by
    rw [← hW0]
    exact below_alloc (below_alloc (below_alloc (below_alloc (Below.refl _ w) _) _) _) _
  obtain ⟨hb3, hb4, hbs, hbn⟩ := al4 w (Obj.cells #[Value.pointer (some { block := g, off := 0 })] 24) (Obj.cells #[Value.int IntKind.i64 (a : Int)] 3) (Obj.cells #[Value.slice A n c] 30) (Obj.cells #[Value.int IntKind.i64 64] 3)
  rw [hW0] at hb3 hb4 hbs hbn ⊢
  obtain ⟨adb, ado, hsv, hA⟩ := chunk_of HF.out HM.out HC.out
  rw [← HN.out] at hsv
  have HAD := Aside0.mk hA
  clear hA
  have HSV := Aside0.mk hsv
  have HSZ := Aside0.mk hsz
  have hI0 : WI w S B g s k D a l A n c (m := m) [] W0 := ⟨H.out.below hB0, hb3, hb4, hbs, hbn, hB0.mono HB.out, Kept.of_below hB0 S, by rw [hsz]; exact Nat.le_refl _⟩
  have hcs : W0.cell? ⟨w.heap.size + 1 + 1, 0, none⟩ = some (.slice A n c) := (blk_cell hbs 0).trans rfl
  have hcn : W0.cell? ⟨w.heap.size + 1 + 1 + 1, 0, none⟩ = some (.int .i64 64) := (blk_cell hbn 0).trans rfl
  clear hW0 hsz hb3 hb4 hbs hbn
  refine wpIn_rangeFunc_ownF hro (by omega) (gf := 72) (lb := #[.pointer (some ⟨w.heap.size + 1 + 1, 0, none⟩), .pointer (some ⟨w.heap.size + 1 + 1 + 1, 0, none⟩)]) rfl trivial (enters_of Try.func72 (by kernel_rfl) rfl)
    (chunk_stops Fence.wide 5 trivial hro (by omega) _ _ adb ado m (by have := HMB.out; omega) _ hsv W0 (by have := HSZ.out; omega) (by have := HSZ.out; omega) hcs hcn) keepsTwo_t (keepsTwo_b (by have := HSZ.out; omega) (by have := HSZ.out; omega)) (Below.refl _ _) (fun _ => rfl)
    (WI w S B g s k D a l A n c) (fun _ _ _ => False) (WI_own w S B g s k D a l A n c _ (by have := HSZ.out; omega) HB.out) (fun _ => fun _ _ _ _ h => h.elim) hI0
    (fun x => { tmps := #[Value.pointer (some { block := g, off := 0 }), Value.int IntKind.i64 (a : Int), Value.slice A n c, Value.pointer (some { block := w.heap.size, off := 0 }), Value.pointer (some { block := w.heap.size + 1, off := 0 }), undef, Value.int IntKind.i64 0, Value.slice (some { block := adb, off := ado + 64 * x.val }) 64 64, Value.bool false, Value.slice A n c, Value.int IntKind.i64 (n : Int), Value.int IntKind.i64 ((n : Int) % 64), Value.bool false, Value.bool false, Value.pointer (some { block := g, off := 0 }), Value.int IntKind.i64 (a : Int), Value.slice A n c, Value.int IntKind.i64 (n : Int), Value.int IntKind.i64 (m : Int), Value.bool true, Value.bool false, Value.slice A n c, Value.func (Fn.func 72) #[] #[Value.pointer (some { block := w.heap.size + 1 + 1, off := 0 }), Value.pointer (some { block := w.heap.size + 1 + 1 + 1, off := 0 })], Value.slice (some { block := adb, off := ado + 64 * x.val }) 64 64, undef, undef, undef, undef, undef, undef, undef, undef, undef, undef, undef, undef, undef, undef, undef, undef, undef], defers := [] }) ?assign ?body ?done ?stop
  case assign =>
    intro l x W K hK
    gi_wp2
    exact hK
  case body =>
    rintro ll pre x W hI hlt
    obtain ⟨h0, h1, h2, h3, h4, h5, h6, h7⟩ := hI
    have HPL : Aside0 (pre.length < m) := ⟨hlt⟩
    have HI : Aside0 (WI w S B g s k D a l A n c pre W) := ⟨⟨h0, h1, h2, h3, h4, h5, h6, h7⟩⟩
    obtain ⟨q, hq⟩ : ∃ q, q = a + pre.length := ⟨_, rfl⟩
    rw [← hq] at h2
    obtain ⟨D1, hD1⟩ : ∃ D1, D1 = (wst a l pre D).1 := ⟨_, rfl⟩
    rw [← hD1] at h0
    obtain ⟨w1, w2, w3, w4⟩ := wst_facts a l pre D HM.out (by have := HFIT.out; omega) HAR.out (Nat.le_of_lt hlt)
    rw [← hD1] at w1 w2 w3 w4
    have hqb : 64 * q + 64 ≤ D1.seen.length := by rw [w1]; have := HFIT.out; omega
    have hsl : D1.seen.length ≤ 524288 := by rw [w1, HG.out.1]; exact HG.out.2.1
    have HQ := Aside0.mk hq
    have HD1 := Aside0.mk hD1
    have HQB := Aside0.mk hqb
    have HW1 := Aside0.mk w1
    have HW3 := Aside0.mk w3
    have HW4 := Aside0.mk w4
    have HDr := Aside0.mk h0
    obtain ⟨v, b1, b2, b3, b4, b5⟩ := h0
    have B2 := Aside0.mk b2
    obtain ⟨cg0, cg1, cg2, cg3, cg4, fg0, fg1, fg2, fg3, fg4⟩ := blk_at5 b1
    obtain ⟨cb3, fb3⟩ := blk_at1 h1
    obtain ⟨cb4, fb4⟩ := blk_at1 h2
    obtain ⟨N1, hN1⟩ : ∃ N1, N1 = D1.seen.length := ⟨_, rfl⟩
    rw [← hN1] at cg0
    have HN1 := Aside0.mk hN1
    obtain ⟨i0, hi, hz0, hz1, hz2⟩ := info_parts info5
    have HSZE : Aside0 ((Try.prog.info? 5).map (·.size) = some 1) := ⟨by rw [hi]; simp [hz1]⟩
    have hcut := fun V => cut_at (P := Try.prog) 30 5 Try.underlying30 hi hz1 s N1 (64 * q) (64 * (q : Int)) (by omega) (by omega) V
    have z0 : (0 : Int) ≤ (q : Int) := by omega
    have z00 : (q : Int) ≤ 20000 := by omega
    have z1 : (0 : Int) ≤ 64 * (q : Int) := by omega
    have z2 : 64 * (q : Int) ≤ ((N1 : Nat) : Int) := by omega
    have hw : IntKind.i64.wrap (64 * (q : Int)) = 64 * (q : Int) := IntWalk.i64_in _ (by omega)
    have hxl := x.isLt
    have HAx : Aside0 (A = some ⟨adb, ado, none⟩) := ⟨HAD.out (by omega)⟩
    have HFw := Aside0.mk (Kd.F_kept HF.out h6 (fun b hb => hb))
    have HCx : Aside0 (∀ j v, (nums .u8 (sector l x.val))[j]? = some v → W.cell? ((⟨adb, ado + 64 * x.val, none⟩ : Addr).add j) = some v) := ⟨sector_cells (by rw [← HAx.out]; exact Kd.F_now HFw.out) x.val (by have := HM.out; omega)⟩
    have HS0 : Aside0 (s < w.heap.size) := ⟨by obtain ⟨_, _, q, _⟩ := H.out; exact q.lt⟩
    have HG0 : Aside0 (g < w.heap.size) := ⟨by obtain ⟨_, q, _⟩ := H.out; exact blk_lt q⟩
    have HGS : Aside0 (g ≠ s) := ⟨by obtain ⟨_, _, _, _, _, _, _, q, _⟩ := H.out; exact q.1⟩
    have HSL : Aside0 ((sector l x.val).length = 64) := ⟨sector_len l x.val (by have := HM.out; omega)⟩
    clear hq hD1 w1 w2 w3 w4 hqb hsl b1 b2 b3 b4 b5 cg1 cg2 cg3 cg4 fg1 fg2 fg3 fg4 hN1 hi hz0 hz1 hz2 h1 h2 h3 h4 h5 h6 h7 hxl hlt
    gi_wp2
    refine wpIn_region_heldF (fun V => V.cell? ⟨w.heap.size, 0, none⟩ = some (.pointer (some ⟨g, 0, none⟩)) ∧ V.cell? ⟨w.heap.size + 1, 0, none⟩ = some (.int .i64 (q : Int)) ∧ V.cell? ⟨g, 0, none⟩ = some (.slice (some ⟨s, 0, none⟩) N1 N1)) (by kernel_rfl) ?_
    have hS : (W.drew).cell? ⟨w.heap.size, 0, none⟩ = some (.pointer (some ⟨g, 0, none⟩)) ∧ (W.drew).cell? ⟨w.heap.size + 1, 0, none⟩ = some (.int .i64 (q : Int)) ∧ (W.drew).cell? ⟨g, 0, none⟩ = some (.slice (some ⟨s, 0, none⟩) N1 N1) := ⟨cb3, cb4, cg0⟩
    go_simp
    (refine wpAnyHeld_take (i := 0) (v := .pointer (some ⟨g, 0, none⟩)) (by intro j o ho c; have := List.mem_of_getElem? ((Array.getElem?_toList ..).trans ho); simp at this; rcases this with rfl | rfl | rfl | rfl | rfl | rfl | rfl | rfl | rfl <;> simp) rfl (by kernel_rfl) (by kernel_rfl) (by kernel_rfl) (fun _ _ _ h => h) ⟨.inl ⟨by rfl, ?_⟩, fun _ => rfl⟩ hS ?_; (focus (rintro w0 ⟨s1, s2, s3⟩; go_simp; done)); go_simp)
    (refine wpAnyHeld_take (i := 1) (v := .pointer (some ⟨g, 0, none⟩)) (by intro j o ho c; have := List.mem_of_getElem? ((Array.getElem?_toList ..).trans ho); simp at this; rcases this with rfl | rfl | rfl | rfl | rfl | rfl | rfl | rfl | rfl <;> simp) rfl (by kernel_rfl) (by kernel_rfl) (by kernel_rfl) (fun _ _ _ h => h) ⟨.inl ⟨by rfl, ?_⟩, fun _ => rfl⟩ hS ?_; (focus (rintro w0 ⟨s1, s2, s3⟩; go_simp; done)); go_simp)
    (refine wpAnyHeld_take (i := 2) (v := .pointer (some ⟨g, 0, none⟩)) (by intro j o ho c; have := List.mem_of_getElem? ((Array.getElem?_toList ..).trans ho); simp at this; rcases this with rfl | rfl | rfl | rfl | rfl | rfl | rfl | rfl | rfl <;> simp) rfl (by kernel_rfl) (by kernel_rfl) (by kernel_rfl) (fun _ _ _ h => h) ⟨.inl ⟨by rfl, ?_⟩, fun _ => rfl⟩ hS ?_; (focus (rintro w0 ⟨s1, s2, s3⟩; go_simp; done)); go_simp)
    (refine wpAnyHeld_take (i := 3) (v := .slice (some ⟨s, 0, none⟩) N1 N1) (by intro j o ho c; have := List.mem_of_getElem? ((Array.getElem?_toList ..).trans ho); simp at this; rcases this with rfl | rfl | rfl | rfl | rfl | rfl | rfl | rfl | rfl <;> simp) rfl (by kernel_rfl) (by kernel_rfl) (by kernel_rfl) (fun _ _ _ h => h) ⟨.inl ⟨by rfl, ?_⟩, fun _ => rfl⟩ hS ?_; (focus (rintro w0 ⟨s1, s2, s3⟩; go_simp; done)); go_simp)
    (refine wpAnyHeld_take (i := 4) (v := .int .i64 (q : Int)) (by intro j o ho c; have := List.mem_of_getElem? ((Array.getElem?_toList ..).trans ho); simp at this; rcases this with rfl | rfl | rfl | rfl | rfl | rfl | rfl | rfl | rfl <;> simp) rfl (by kernel_rfl) (by kernel_rfl) (by kernel_rfl) (fun _ _ _ h => h) ⟨.inl ⟨by rfl, ?_⟩, fun _ => rfl⟩ hS ?_; (focus (rintro w0 ⟨s1, s2, s3⟩; go_simp; done)); go_simp)
    (refine wpAnyHeld_take (i := 5) (v := .int .i64 (64 * (q : Int))) (by intro j o ho c; have := List.mem_of_getElem? ((Array.getElem?_toList ..).trans ho); simp at this; rcases this with rfl | rfl | rfl | rfl | rfl | rfl | rfl | rfl | rfl <;> simp) rfl (by kernel_rfl) (by kernel_rfl) (by kernel_rfl) (fun _ _ _ h => h) ⟨.inl ⟨by rfl, ?_⟩, fun _ => rfl⟩ hS ?_; (focus (rintro w0 ⟨s1, s2, s3⟩; go_simp; done)); go_simp)
    (refine wpAnyHeld_take (i := 6) (v := .slice (some ⟨s, 64 * q, none⟩) (N1 - 64 * q) (N1 - 64 * q)) (by intro j o ho c; have := List.mem_of_getElem? ((Array.getElem?_toList ..).trans ho); simp at this; rcases this with rfl | rfl | rfl | rfl | rfl | rfl | rfl | rfl | rfl <;> simp) rfl (by kernel_rfl) (by kernel_rfl) (by kernel_rfl) (fun _ _ _ h => h) ⟨.inl ⟨by rfl, ?_⟩, fun _ => rfl⟩ hS ?_; (focus (rintro w0 ⟨s1, s2, s3⟩; go_simp; done)); go_simp)
    (refine wpAnyHeld_take (i := 7) (v := .slice (some ⟨adb, ado + 64 * x.val, none⟩) 64 64) (by intro j o ho c; have := List.mem_of_getElem? ((Array.getElem?_toList ..).trans ho); simp at this; rcases this with rfl | rfl | rfl | rfl | rfl | rfl | rfl | rfl | rfl <;> simp) rfl (by kernel_rfl) (by kernel_rfl) (by kernel_rfl) (fun _ _ _ h => h) ⟨.inl ⟨by rfl, ?_⟩, fun _ => rfl⟩ hS ?_; (focus (rintro w0 ⟨s1, s2, s3⟩; go_simp; done)); go_simp)
    refine wpAnyHeld_one (i := 8) (by kernel_rfl) rfl rfl (fun K hK => ?_)
    refine wpIn_copy_to (fun _ => trivial) (.tmp 30) (.tmp 31) 30 30 (by rfl) 5 Try.underlying30 HSZE.out ⟨adb, ado + 64 * x.val, none⟩ (N1 - 64 * q) (N1 - 64 * q) 64 64 s (64 * q) (by rfl) (by rfl) (nums .u8 D1.seen) 5 B2.out (nums .u8 (sector l x.val)) (by rw [nums_len, HSL.out]; have := HQB.out; have := HN1.out; omega) HCx.out (by rw [nums_len, nums_len, HSL.out]; have := HQB.out; omega) (fun v hv => nums_one hv) 32 (by rfl) ?_
    intro W2 hcp
    generalize goInt ((nums .u8 (sector l x.val)).length : Int) = zz
    have e3 : W2.heap[w.heap.size]? = W.heap[w.heap.size]? := hcp.2.1.2 _ (by show w.heap.size < W.heap.size; have := HI.out.2.2.2.2.2.2.2; omega) (by have := HS0.out; omega) (by simp)
    have e4 : W2.heap[w.heap.size + 1]? = W.heap[w.heap.size + 1]? := hcp.2.1.2 _ (by show w.heap.size + 1 < W.heap.size; have := HI.out.2.2.2.2.2.2.2; omega) (by have := HS0.out; omega) (by simp)
    have eg : W2.heap[g]? = W.heap[g]? := hcp.2.1.2 _ (by show g < W.heap.size; have := HG0.out; have := HI.out.2.2.2.2.2.2.2; omega) HGS.out (by simp)
    refine hK _ _ ⟨(cell_of_heap e3 0).trans cb3, (cell_of_heap e4 0).trans cb4, (cell_of_heap eg 0).trans cg0⟩ ?_
    clear hK K
    refine wpAnyHeld_done (by kernel_rfl) ?_ _
    clear hS
    replace cb3 := (cell_of_heap e3 0).trans cb3
    replace cb4 := (cell_of_heap e4 0).trans cb4
    have fb4 : W2.frozen? ⟨w.heap.size + 1, 0, none⟩ = false := blk_frozen (e4.trans HI.out.2.2.1) 0
    have HCP := Aside0.mk hcp
    clear hcp e3 e4 eg cg0 fb3 fg0 hcut hw z1 z2
    have hS' : Aside0 (IsDr (fun b => S b ∧ ¬ Prot W b) B W2 g s k { D1 with seen := splice D1.seen (64 * q) (sector l x.val) }) := ⟨HDr.out.strict.seen_ (by unfold Bts; rw [HCP.out.1, nums_splice]) (KeepBut.trans (KeepBut.of_below (Below.drew (Below.refl _ _)) s none) HCP.out.2.1 (.inl rfl)) (length_splice _ _ _ (by rw [HSL.out]; exact HQB.out))⟩
    have hK2 : Aside0 (Kept W W2 (fun b => S b ∧ ¬ Prot W b)) := ⟨Kept.of_keep (Kept.refl W _) (KeepBut.trans (KeepBut.of_below (Below.drew (Below.refl _ _)) s none) HCP.out.2.1 (.inl rfl)) (.inl (by obtain ⟨_, _, _, _, _, h, _⟩ := HDr.out.strict; exact h.2.1))⟩
    have hB2 : Aside0 (Below B W W2) := ⟨HCP.out.2.2 B W (by obtain ⟨_, _, _, _, _, _, h, _⟩ := HDr.out; exact h.2.1) (Below.drew (Below.refl _ _))⟩
    have hC2 : Aside0 (Kd.C (Kd.int .u8) W2 (some ⟨adb, ado + 64 * x.val, none⟩) (sector l x.val).length (sector l x.val)) := ⟨sector_C (by rw [← HAx.out]; exact Kd.F_now (Kd.F_kept HFw.out (hK2.out.mono (fun b hb => hb.1)) (fun b hb => hb))) x.val (by have := HM.out; omega)⟩
    have CL : Aside0 (Calls Try.prog 49 #[.slice (some ⟨adb, ado + 64 * x.val, none⟩) 64 64] W2.drew (fun e w' => ∃ v0_ : Value, e = .returned (v0_) ∧ Kd.R (Kd.int .u8) 5 w' W2.heap.size (fun _ => True) v0_ (sector l x.val) ∧ Below W2.heap.size W2 w')) := ⟨by
      have q := slices_Clone_byte_byte.calls (some ⟨adb, ado + 64 * x.val, none⟩) 64 (sector l x.val) (sector l x.val) W2.drew (Kd.C_below hC2.out (Below.drew (Below.refl _ _))) (by rw [HSL.out]; exact Nat.le_refl _) (by unfold slices_Clone_byte_byte.f; rw [if_pos (by rw [HSL.out]; decide)])
      rw [HSL.out] at q
      exact q.mono fun e w' ⟨v, h1, h2, h3⟩ => ⟨v, h1, h2, (Below.drew (Below.refl _ _)).trans h3⟩⟩
    clear cb3 cb4 fb4
    gi_wp2
    refine wpIn_region_heldF (fun V => V.cell? ⟨w.heap.size, 0, none⟩ = some (.pointer (some ⟨g, 0, none⟩)) ∧ V.cell? ⟨w.heap.size + 1, 0, none⟩ = some (.int .i64 (q : Int))) (by kernel_rfl) ?_
    have keep : ∀ V : World, V.heap[w.heap.size]? = W.heap[w.heap.size]? → V.heap[w.heap.size + 1]? = W.heap[w.heap.size + 1]? → V.cell? ⟨w.heap.size, 0, none⟩ = some (.pointer (some ⟨g, 0, none⟩)) ∧ V.cell? ⟨w.heap.size + 1, 0, none⟩ = some (.int .i64 (q : Int)) := fun V e1 e2 => ⟨(cell_of_heap e1 0).trans ((blk_cell HI.out.2.1 0).trans rfl), (cell_of_heap e2 0).trans ((blk_cell HI.out.2.2.1 0).trans (by rw [HQ.out]; rfl))⟩
    have KEEP := Aside0.mk keep
    clear keep
    have hS := KEEP.out W2.drew (hK2.out.2 _ (by have := HI.out.2.2.2.2.2.2.2; omega) (fun h => h.2 (prot_of HI.out.2.1 (by decide) (by decide) (by decide)))) (hK2.out.2 _ (by have := HI.out.2.2.2.2.2.2.2; omega) (fun h => h.2 (prot_of HI.out.2.2.1 (by decide) (by decide) (by decide))))
    go_simp
    (refine wpAnyHeld_take (i := 0) (v := .pointer (some ⟨g, 0, none⟩)) (by intro j o ho c; have := List.mem_of_getElem? ((Array.getElem?_toList ..).trans ho); simp at this; rcases this with rfl | rfl | rfl | rfl | rfl | rfl <;> simp) rfl (by kernel_rfl) (by kernel_rfl) (by kernel_rfl) (fun _ _ _ h => h) ⟨.inl ⟨by rfl, ?_⟩, fun _ => rfl⟩ hS ?_; (focus (rintro w0 ⟨s1, s2⟩; go_simp; done)); go_simp)
    (refine wpAnyHeld_take (i := 1) (v := .int .i64 (q : Int)) (by intro j o ho c; have := List.mem_of_getElem? ((Array.getElem?_toList ..).trans ho); simp at this; rcases this with rfl | rfl | rfl | rfl | rfl | rfl <;> simp) rfl (by kernel_rfl) (by kernel_rfl) (by kernel_rfl) (fun _ _ _ h => h) ⟨.inl ⟨by rfl, ?_⟩, fun _ => rfl⟩ hS ?_; (focus (rintro w0 ⟨s1, s2⟩; go_simp; done)); go_simp)
    (refine wpAnyHeld_take (i := 2) (v := .slice (some ⟨adb, ado + 64 * x.val, none⟩) 64 64) (by intro j o ho c; have := List.mem_of_getElem? ((Array.getElem?_toList ..).trans ho); simp at this; rcases this with rfl | rfl | rfl | rfl | rfl | rfl <;> simp) rfl (by kernel_rfl) (by kernel_rfl) (by kernel_rfl) (fun _ _ _ h => h) ⟨.inl ⟨by rfl, ?_⟩, fun _ => rfl⟩ hS ?_; (focus (rintro w0 ⟨s1, s2⟩; go_simp; done)); go_simp)
    refine wpAnyHeld_one (i := 3) (by kernel_rfl) rfl rfl (fun K hK => ?_)
    refine wpIn_call (fun _ => trivial) 49 #[.tmp 35] #[30] (by rfl) (enters_of Try.func49 (by kernel_rfl) rfl) (by omega) #[.slice (some ⟨adb, ado + 64 * x.val, none⟩) 64 64] (by rfl) _ (CallsIn.inRound ll ((callsIn_wide (n := 6 - 1 - 1 - 1)).2 CL.out)) 36 (by rfl) ?_
    rintro e W3 ⟨v3, rfl, ho3, hb3⟩
    obtain ⟨A3, c3, hv3⟩ := Kd.R_slice ho3
    subst hv3
    have HO3 := Aside0.mk ho3
    have HB3 := Aside0.mk hb3
    have f3 : ∀ b, Prot W b → b < W.heap.size → W3.heap[b]? = W.heap[b]? := fun b hp hlt => (hb3.block b (Nat.lt_of_lt_of_le hlt hK2.out.1)).trans (hK2.out.2 b hlt (fun h => h.2 hp))
    have P3 : Prot W w.heap.size := prot_of HI.out.2.1 (by decide) (by decide) (by decide)
    have P4 : Prot W (w.heap.size + 1) := prot_of HI.out.2.2.1 (by decide) (by decide) (by decide)
    have hsw : w.heap.size + 4 ≤ W.heap.size := HI.out.2.2.2.2.2.2.2
    have PP3 := Aside0.mk P3
    have PP4 := Aside0.mk P4
    have HSW := Aside0.mk hsw
    replace hS := KEEP.out W3 (f3 _ P3 (by omega)) (f3 _ P4 (by omega))
    rw [HSL.out]
    refine ⟨_, rfl, hK _ _ hS ?_⟩
    clear hK K f3 P3 P4 hsw ho3 hb3
    (refine wpAnyHeld_take (i := 4) (v := .agg #[.int .i64 (q : Int), .slice A3 64 c3]) (by intro j o ho c; have := List.mem_of_getElem? ((Array.getElem?_toList ..).trans ho); simp at this; rcases this with rfl | rfl | rfl | rfl | rfl | rfl <;> simp) rfl (by kernel_rfl) (by kernel_rfl) (by kernel_rfl) (fun _ _ _ h => h) ⟨.inl ⟨by rfl, ?_⟩, fun _ => rfl⟩ hS ?_; (focus (rintro w0 ⟨s1, s2⟩; go_simp; done)); go_simp)
    refine wpAnyHeld_one (i := 5) (by kernel_rfl) rfl rfl (fun K hK => ?_)
    have CT := count_calls (fun b => S b ∧ ¬ Prot W b) B W2 W3 g s k { D1 with seen := splice D1.seen (64 * q) (sector l x.val) } q A3 c3 (sector l x.val) hS'.out HB3.out HO3.out (Nat.le_trans HB.out (by have := HSW.out; have := hK2.out.1; omega)) (by have := HW4.out; have := HL.out; have := x.isLt; have := HPL.out; show D1.ws.length ≤ _; omega) HW3.out
    rw [HSL.out] at CT
    refine wpIn_call (fun _ => trivial) 48 #[.tmp 33, .tmp 37] #[24, 100] (by rfl) (enters_of Try.func48 (by kernel_rfl) rfl) (by omega) #[.pointer (some ⟨g, 0, none⟩), .agg #[.int .i64 (q : Int), .slice A3 64 c3]] (by rfl) _ (CallsIn.inRound ll ((callsIn_wide (n := 6 - 1 - 1 - 1)).2 CT)) 38 (by rfl) ?_
    rintro e W4 ⟨⟨v4, rfl⟩, hd4, hb4, hk4⟩
    have f4 : ∀ b, Prot W b → b < W.heap.size → W4.heap[b]? = W.heap[b]? := fun b hp hlt => (hk4.2 b (Nat.lt_of_lt_of_le hlt (Nat.le_trans hK2.out.1 HB3.out.size)) (fun h => h.2 hp)).trans ((HB3.out.block b (Nat.lt_of_lt_of_le hlt hK2.out.1)).trans (hK2.out.2 b hlt (fun h => h.2 hp)))
    replace hS := KEEP.out W4 (f4 _ PP3.out (by have := HSW.out; omega)) (f4 _ PP4.out (by have := HSW.out; omega))
    refine ⟨_, rfl, hK _ _ hS ?_⟩
    clear hK K
    refine wpAnyHeld_done (by kernel_rfl) ?_ _
    obtain ⟨cb3, cb4⟩ := hS
    have fb4 : W4.frozen? ⟨w.heap.size + 1, 0, none⟩ = false := blk_frozen ((f4 _ PP4.out (by have := HSW.out; omega)).trans HI.out.2.2.1) 0
    have hWK : Kept W W4 (fun b => S b ∧ ¬ Prot W b) := (hK2.out.below HB3.out).then_ hk4 (fun _ h => .inl h)
    have hBW : B ≤ W2.heap.size := Nat.le_trans HB.out (by have := HSW.out; have := hK2.out.1; omega)
    have hWB : Below B W W4 := (hB2.out.trans (HB3.out.mono hBW)).trans hb4
    have hst : (wst a l (pre ++ [x]) D).1 = countD ⟨(q : Int), sector l x.val⟩ { D1 with seen := splice D1.seen (64 * q) (sector l x.val) } := by
      rw [wst_snoc, wst_len, ← HQ.out, ← HD1.out]
      rfl
    rw [← hst] at hd4
    have FIN := Aside0.mk (round_end HI.out HB.out hd4 hWB hWK ((q : Int) + 1) (by rw [HQ.out, List.length_append]; simp; omega))
    clear hst hd4 hb4 hk4 f4 hWK hWB hBW CT
    gi_wp2
    exact FIN.out
  case stop =>
    rintro Dd c pre W _ _ h _
    exact h.elim
  case done =>
    rintro Dd xs W hD hS hI hK
    subst hS
    have HI := Aside0.mk hI
    have HK := Aside0.mk hK
    have HDd := Aside0.mk hD
    clear hI hK hD
    gi_wp2
    refine ⟨by simp, .inl ⟨_, _, rfl, run_takeDeferred HK.out, ?_⟩⟩
    have hg := grownBy_putObj' W Dd (.deferred none)
    have hr : ∀ r, some Dd = some r → ∃ o : Obj, W.heap[r]? = some o ∧ o.isCells = false := fun r e => by cases e; exact ⟨_, HK.out, rfl⟩
    have hD2 : w.heap.size ≤ Dd := by have := HSZ.out; have := HDd.out; omega
    refine ⟨.int .i64 0, by simp [results, Try.f12, go_sem], ?_⟩
    rw [← HQQ.out]
    exact ⟨rfl, HI.out.1.turn hg hr, HI.out.2.2.2.2.2.1.grown hg (Nat.le_trans HB.out HI.out.2.2.2.2.2.1.size) (fun k e => by cases e; exact Nat.le_trans HB.out hD2), Kept.of_grown hg HI.out.2.2.2.2.2.2.1 (fun k e => by cases e; exact .inr hD2)⟩
theorem write_calls (S : Nat → Prop) (B : Nat) (w : World) (g s k : Nat) (D : DrumS) (at_ : Int) (A : Option Addr) (c : Nat) (l : List Int) (h : IsDr S B w g s k D) (hB : B ≤ w.heap.size) (hG : D.Good) (hF : Kd.F (Kd.int .u8) w (fun b => ¬ S b) A l.length l) (hc : l.length ≤ c) (hn : l.length ≤ 1000000000) (hl : D.ws.length + l.length / 64 ≤ 1000000000) (har : -1 ≤ D.armed ∧ D.armed ≤ 9223372036854775807) :
    Calls Try.prog 12 #[.pointer (some ⟨g, 0, none⟩), .int .i64 at_, .slice A l.length c] w fun e w' => e = .returned (.int .i64 (writeD D at_ l).2) ∧ IsDr S B w' g s k (writeD D at_ l).1 ∧ Below B w w' ∧ Kept w w' S := by
  by_cases h64 : l.length % 64 ≠ 0
  · have e : writeD D at_ l = (D, 1) := by unfold writeD; rw [if_pos h64]
    rw [e]
    exact (write_bad w _ at_ A l.length c hn h64).mono fun e w' ⟨h1, h2⟩ => ⟨h1, h.below h2, h2.mono hB, Kept.of_below h2 S⟩
  · have hz : l.length % 64 = 0 := by omega
    have hsl : D.seen.length ≤ 524288 := by rw [hG.1]; exact hG.2.1
    cases hb : hasB ((D.seen.length / 64 : Nat) : Int) at_ ((l.length / 64 : Nat) : Int) with
    | false =>
      have e : writeD D at_ l = (D, 5) := by unfold writeD; rw [if_neg h64, if_pos hb]
      rw [e]
      refine (write_out w _ at_ A l.length c hn hz (fun W hW => ?_)).mono fun e w' ⟨h1, h2⟩ => ⟨h1, h.below h2, h2.mono hB, Kept.of_below h2 S⟩
      obtain ⟨v, b1, b2, b3, b4, b5⟩ := h.below hW
      have q := has_of W (.pointer (some ⟨g, 0, none⟩)) ((D.seen.length / 64 : Nat) : Int) at_ ((l.length / 64 : Nat) : Int) (sectors_blk W g _ _ _ _ _ _ _ b1 (by omega)) (by omega) (by omega) (by omega) rfl
      rw [hb] at q
      exact q
    | true =>
      have e : writeD D at_ l = ((wst at_.toNat l (List.finRange (l.length / 64)) D).1, 0) := by unfold writeD; rw [if_neg h64, if_neg (by rw [hb]; decide)]
      rw [e]
      obtain ⟨r1, r2, r3⟩ := hasB_true hb
      obtain ⟨a, rfl⟩ : ∃ a : Nat, at_ = (a : Int) := ⟨at_.toNat, by omega⟩
      rw [Int.toNat_natCast]
      exact write_yes S B w g s k D a A c l (l.length / 64) h hB hG hF hc (by omega) (by omega) hl har
end Go.Proofs.Ytfmdllbkfpbdcaa.G
end
section
namespace Go.Proofs.Ytfmdllbkfpbdcaa.G
open Go.RowKit Go.Proofs.YtfmdllbkfpbdcaaX Go.Proofs.YtfmdllbkfpbdcaaW.PrintWords Go.Proofs.YtfmdllbkfpbdcaaW.PrintLast Go.Proofs.YtfmdllbkfpbdcaaW.PrintMore
attribute [local go_sem] max2_int min2_int max_two min_two max_three min_three max_four min_four
def IsS43 (w0 W : World) (g : Nat) (f0 : List Int) (f1 : List Int) (f2 : List (S100)) (f3 : Int) (f4 : Bool) : Prop := ∃ A0 c0, ∃ A1 c1, ∃ A2 c2, W.heap[g]? = some (.cells #[.slice A0 f0.length c0, .slice A1 f1.length c1, .slice A2 f2.length c2, .int .i64 f3, .bool f4] 43 (0, 0)) ∧ w0.heap.size ≤ g ∧ Kd.C (Kd.int .u8) w0 A0 f0.length f0 ∧ Kd.C (Kd.int .u8) w0 A1 f1.length f1 ∧ Kd.C k100 w0 A2 f2.length f2
theorem IsS43.grown {w0 W : World} {g : Nat} {f0 : List Int} {f1 : List Int} {f2 : List (S100)} {f3 : Int} {f4 : Bool} {W1 : World} {row : Option Nat} (h : IsS43 w0 W g f0 f1 f2 f3 f4) (hw : W.grownBy W1 row) (hne : some g ≠ row) : IsS43 w0 W1 g f0 f1 f2 f3 f4 := by
  obtain ⟨A0, c0, A1, c1, A2, c2, hb, hg, hr0, hr1, hr2⟩ := h
  exact ⟨A0, c0, A1, c1, A2, c2, blk_grown hb hw hne, hg, hr0, hr1, hr2⟩
theorem IsS43.kept {w0 W : World} {g : Nat} {f0 : List Int} {f1 : List Int} {f2 : List (S100)} {f3 : Int} {f4 : Bool} {W1 : World} {S : Nat → Prop} (h : IsS43 w0 W g f0 f1 f2 f3 f4) (hk : Kept W W1 S) (hne : ¬ S g) : IsS43 w0 W1 g f0 f1 f2 f3 f4 := by
  obtain ⟨A0, c0, A1, c1, A2, c2, hb, hg, hr0, hr1, hr2⟩ := h
  exact ⟨A0, c0, A1, c1, A2, c2, blk_kept hb hk hne, hg, hr0, hr1, hr2⟩
theorem IsS43.below {w0 W : World} {g : Nat} {f0 : List Int} {f1 : List Int} {f2 : List (S100)} {f3 : Int} {f4 : Bool} {W1 : World} (h : IsS43 w0 W g f0 f1 f2 f3 f4) (hw : Below W.heap.size W W1) : IsS43 w0 W1 g f0 f1 f2 f3 f4 := h.grown (grown_of_below hw none) (by simp)
theorem IsS43.alloc {w0 W : World} {g : Nat} {f0 : List Int} {f1 : List Int} {f2 : List (S100)} {f3 : Int} {f4 : Bool} (h : IsS43 w0 W g f0 f1 f2 f3 f4) (o : Obj) : IsS43 w0 (W.alloc o) g f0 f1 f2 f3 f4 := h.below (below_alloc (Below.refl _ _) o)
theorem IsS43.drewN {w0 W : World} {g : Nat} {f0 : List Int} {f1 : List Int} {f2 : List (S100)} {f3 : Int} {f4 : Bool} (h : IsS43 w0 W g f0 f1 f2 f3 f4) (m : Nat) : IsS43 w0 (W.drewN m) g f0 f1 f2 f3 f4 := h
theorem IsS43.drew {w0 W : World} {g : Nat} {f0 : List Int} {f1 : List Int} {f2 : List (S100)} {f3 : Int} {f4 : Bool} (h : IsS43 w0 W g f0 f1 f2 f3 f4) : IsS43 w0 W.drew g f0 f1 f2 f3 f4 := h
theorem IsS43.at_ {w0 W : World} {g : Nat} {f0 : List Int} {f1 : List Int} {f2 : List (S100)} {f3 : Int} {f4 : Bool} {w' : World} {m : Nat} (hq : W.drewN m = w') (h : IsS43 w0 W g f0 f1 f2 f3 f4) : IsS43 w0 w' g f0 f1 f2 f3 f4 := by subst hq; exact IsS43.drewN h m
theorem IsS43.apart {w0 W : World} {g : Nat} {f0 : List Int} {f1 : List Int} {f2 : List (S100)} {f3 : Int} {f4 : Bool} {α : Type} {d : Kd α} {e : Nat} {base : Nat} {ok : Nat → Prop} {v : Value} {xs : List α} (h : IsS43 w0 W g f0 f1 f2 f3 f4) (ho : d.R e W base ok v xs) (ht : ∀ q, q ∈ e :: d.E → q ≠ 43) : d.R e W base (fun k => ok k ∧ k ≠ g) v xs := by
  obtain ⟨A0, c0, A1, c1, A2, c2, hb, hg, hr0, hr1, hr2⟩ := h
  exact Kd.R_types ho hb ht
theorem IsS43.own_ne {w0 W : World} {g : Nat} {f0 : List Int} {f1 : List Int} {f2 : List (S100)} {f3 : Int} {f4 : Bool} {α : Type} {d : Kd α} {e : Nat} {base : Nat} {ok : Nat → Prop} {v : Value} {xs : List α} (h : IsS43 w0 W g f0 f1 f2 f3 f4) (ho : d.R e W base ok v xs) (ht : e ≠ 43) : some g ≠ v.ownBlock := by
  obtain ⟨A0, c0, A1, c1, A2, c2, hb, hg, hr0, hr1, hr2⟩ := h
  exact Kd.R_ne ho hb ht
theorem IsS43.lt {w0 W : World} {g : Nat} {f0 : List Int} {f1 : List Int} {f2 : List (S100)} {f3 : Int} {f4 : Bool} (h : IsS43 w0 W g f0 f1 f2 f3 f4) : g < W.heap.size := by
  obtain ⟨A0, c0, A1, c1, A2, c2, hb, hg, hr0, hr1, hr2⟩ := h
  exact blk_lt hb
theorem IsS43.far {w0 W : World} {g : Nat} {f0 : List Int} {f1 : List Int} {f2 : List (S100)} {f3 : Int} {f4 : Bool} {p : Addr} (h : IsS43 w0 W g f0 f1 f2 f3 f4) (hne : g ≠ p.block) (u : Value) : IsS43 w0 (W.setCell p u) g f0 f1 f2 f3 f4 := by
  obtain ⟨A0, c0, A1, c1, A2, c2, hb, hg, hr0, hr1, hr2⟩ := h
  exact ⟨A0, c0, A1, c1, A2, c2, blk_far hb hne u, hg, hr0, hr1, hr2⟩
def windroselaw09_Page.l0 : Nat → List Int → Int → List Int → Int → Option (List Int)
  | 0, _, _, _, _ => none
  | k + 1, x0, x1, x5, x6 => if x6 < x1 then (if (x0.length : Int) > 0 then (if (x0.length : Int) = 0 then (none) else (if 0 ≤ (Int.tmod x6 (x0.length : Int)) then (if (Int.tmod x6 (x0.length : Int)) < (x0.length : Int) then (if 0 ≤ x6 then (if x6 < (x5.length : Int) then (windroselaw09_Page.l0 k x0 x1 (x5.set (x6 : Int).toNat (rd x0 (Int.tmod x6 (x0.length : Int)))) (wrap64 (x6 + 1))) else (none)) else (none)) else (none)) else (none))) else (some x5)) else (some x5)
def windroselaw09_Page.f (k : Nat) (l0 : List Int) (a1 : Int) : Option (List Int) := if 0 ≤ a1 then (if (a1 : Int).toNat ≤ 281474976710656 then (windroselaw09_Page.l0 k l0 a1 (List.replicate (a1 : Int).toNat 0) 0) else (none)) else (none)
set_option maxHeartbeats 8000000 in
set_option maxRecDepth 100000 in
theorem windroselaw09_Page.calls (k : Nat) (A0 : Option Addr) (c0 : Nat) (l0 : List Int) (a1 : Int) (r : List Int) (w : World) (hr0 : Kd.C (Kd.int .u8) w A0 l0.length l0) (hc0 : l0.length ≤ c0) (h : windroselaw09_Page.f k l0 a1 = some r) :
    Calls Try.prog 13 #[.slice A0 l0.length c0, .int .i64 a1] w fun e w' => ∃ v0_ : Value, e = .returned (v0_) ∧ Kd.R (Kd.int .u8) 5 w' w.heap.size (fun _ => True) v0_ r ∧ Below w.heap.size w w' := by
  have HR0 := Aside0.mk hr0
  have HC0 := Aside0.mk hc0
  clear hr0 hc0
  have HB := Aside0.mk (Below.refl w.heap.size w)
  have H : (if 0 ≤ a1 then (if (a1 : Int).toNat ≤ 281474976710656 then (windroselaw09_Page.l0 k l0 a1 (List.replicate (a1 : Int).toNat 0) 0) else (none)) else (none)) = some r := h
  clear h
  by_cases c3 : 0 ≤ a1
  · rw [if_pos c3] at H
    have c3b0 := eq_true c3
    have c3b1 : decide (0 ≤ a1) = true := decide_eq_true c3
    clear c3
    by_cases c4 : (a1 : Int).toNat ≤ 281474976710656
    · rw [if_pos c4] at H
      have c4b0 := eq_true c4
      have c4b1 : decide ((a1 : Int).toNat ≤ 281474976710656) = true := decide_eq_true c4
      clear c4
      obtain ⟨y108, hy108⟩ : ∃ y_ : List Int, y_ = (List.replicate (a1 : Int).toNat 0) := ⟨_, rfl⟩
      replace H : (windroselaw09_Page.l0 k l0 a1 y108 0) = some r := by first | (rw [hy108]; with_reducible exact H) | (have H2_ := (Option.bind_some _ _).symm.trans H; rw [hy108]; with_reducible exact H2_) | (have H2_ := (Option.bind_some _ _).symm.trans H; with_reducible exact H2_) | with_reducible exact H | (rw [hy108]; exact H) | exact H
      have Ny108 := Aside0.mk hy108
      clear hy108
      have H' := Aside0.mk H
      clear H
      go_enter Try.func13, Try.ntmps13
      go_wp2_with (first | ((with_reducible refine gate_dst (N := 8) rfl ?_); (try (refine gate_guard (by rfl) ?_; dsimp only)); refine Kd.R_make (Kd.int .u8) _ 5 rfl (N := 8) rfl 30 _ _ rfl a1 rfl rfl Try.underlying30 (.int .u8 0) 1 info5 rfl (by decide) (by omega) 0 (ok := fun _ => True) (okp := fun _ => True) rfl (fun _ hk => hk) trivial dc_ (Nat.le_trans (Nat.mul_le_mul_right _ (dc_ : a1.toNat ≤ 281474976710656)) (by omega)) (Below.refl _ _) (Nat.le_refl _) ?_; intro v109 w5 ho6 hb hg_ hnew_; clear hg_ hnew_; (first | rw [← Ny108.out] at ho6 | (simp only [Int.reduceToNat] at ho6; rw [← Ny108.out] at ho6)); have n_ := pk2 (Kd.R_lower ho6 (below_size bl_)) (below_step bl_ hb); clear HB; obtain ⟨HO110, HB⟩ := n_; clear hb ho6))
      go_loopg [6] k (fun kq v6 w' => ∃ (x5_1 : List Int) (x6_1 : Int), v6 = .int .i64 x6_1 ∧ Aside0 (windroselaw09_Page.l0 kq l0 a1 x5_1 x6_1 = some r) ∧ Aside0 (kq ≤ k) ∧ Aside0 (Kd.R (Kd.int .u8) 5 w' w.heap.size (fun _ => True) v109 x5_1) ∧ Aside0 (Below w.heap.size w w'))
      case atStart => exact ⟨(y108), (0), sm_, H', ⟨Nat.le_refl _⟩, ⟨(ro_ HO110)⟩, ⟨bl_⟩⟩
      case round =>
        clear H'
        try clear c3
        try clear c3b0
        try clear c3b1
        try clear c4
        try clear c4b0
        try clear c4b1
        obtain ⟨x5_1, x6_1, rfl, HA, HK1, HO_5, HB⟩ := hrel
        cases gk with
        | zero => exact absurd HA.out (by simp [windroselaw09_Page.l0])
        | succ k1 =>
          have H := HA.out
          clear HA
          simp only [windroselaw09_Page.l0] at H
          replace H := dle H
          rcases H with ⟨c7b0, H⟩ | ⟨c7b0, H⟩
          focus
            by_cases c8 : (l0.length : Int) > 0
            focus
              rw [if_pos c8] at H
              have c8b0 : decide (0 < (l0.length : Int)) = true := decide_eq_true c8
              have c8b1 : decide (0 < l0.length) = true := decide_eq_true (by omega)
              clear c8
              by_cases c9 : (l0.length : Int) = 0
              · rw [if_pos c9] at H
                exact absurd H (by simp)
              rw [if_neg c9] at H
              have c9b0 : ((l0.length : Int) == 0) = false := beq_eq_false_iff_ne.mpr c9
              have c9b1 : ((l0.length : Int) != 0) = true := bne_iff_ne.mpr c9
              have c9b2 : ¬ (l0 = []) := fun h_ => c9 (by rw [h_]; rfl)
              obtain ⟨ji10, hji10⟩ : ∃ j_ : Int, (Int.tmod x6_1 (l0.length : Int)) = j_ := ⟨_, rfl⟩
              replace H : (if 0 ≤ (ji10) then (if (ji10) < (l0.length : Int) then (if 0 ≤ x6_1 then (if x6_1 < (x5_1.length : Int) then (windroselaw09_Page.l0 k1 l0 a1 (x5_1.set (x6_1 : Int).toNat (rd l0 (ji10))) (wrap64 (x6_1 + 1))) else (none)) else (none)) else (none)) else (none)) = some r := by first | (rw [hji10] at H; exact H) | (simp only [hji10] at H ⊢; exact H)
              replace H := dle H
              rcases H with ⟨c11b0, H⟩ | ⟨c11b0, H⟩
              rotate_left
              · exact absurd H (by simp)
              replace H := dle H
              rcases H with ⟨c12b0, H⟩ | ⟨c12b0, H⟩
              rotate_left
              · exact absurd H (by simp)
              replace H := dle H
              rcases H with ⟨c13b0, H⟩ | ⟨c13b0, H⟩
              rotate_left
              · exact absurd H (by simp)
              replace H := dle H
              rcases H with ⟨c14b0, H⟩ | ⟨c14b0, H⟩
              rotate_left
              · exact absurd H (by simp)
              obtain ⟨y112, hy112⟩ : ∃ y_ : List Int, y_ = (x5_1.set (x6_1 : Int).toNat (rd l0 (ji10))) := ⟨_, rfl⟩
              replace H : (windroselaw09_Page.l0 k1 l0 a1 y112 (wrap64 (x6_1 + 1))) = some r := by first | (rw [hy112]; with_reducible exact H) | (have H2_ := (Option.bind_some _ _).symm.trans H; rw [hy112]; with_reducible exact H2_) | (have H2_ := (Option.bind_some _ _).symm.trans H; with_reducible exact H2_) | with_reducible exact H | (rw [hy112]; exact H) | exact H
              have Ny112 := Aside0.mk hy112
              clear hy112
              have H' := Aside0.mk H
              clear H
              have p111 : 0 ≤ ((ji10) : Int) := dc_
              have q111 : (ji10) < (l0.length : Int) := dc_
              obtain ⟨ad111, e111, hx111_0⟩ := Kd.at_int HR0.out (ji10) p111 q111
              cases e111
              replace hx111_0 := (HB.out.cell (World.block_lt_of_cell? w _ hx111_0)).trans hx111_0
              replace p111 := eq_true p111
              replace q111 := eq_true q111
              have p15 : 0 ≤ (x6_1 : Int) := dc_
              have q15 : (x6_1 : Int) < ((x5_1.length : Int) : Int) := dc_
              obtain ⟨go15, co15, eo15, gb15, gl15, cl15, HG15⟩ := Kd.R_form HO_5.out (by omega)
            rotate_left
            focus
              rw [if_neg c8] at H
              have c8b0 : decide (0 < (l0.length : Int)) = false := decide_eq_false c8
              have c8b1 : decide (0 < l0.length) = false := decide_eq_false (by omega)
              clear c8
              obtain rfl := Option.some.inj H
          rotate_left 2
          focus
            obtain rfl := Option.some.inj H
          all_goals
            first
              | go_wp2
                go_ret
                exact ⟨_, rf_, (ro_ HO_5), bl_⟩
              | (first | cases eo15 | (injection eo15 with ea_ en_ ec_; (first | subst ea_ | (injection ea_ with ea_; subst ea_)); subst ec_; clear en_))
                have GB7000 := Aside0.mk gb15
                have GG7000 := Aside0.mk HG15
                clear gb15 gl15 HG15
                obtain ⟨hx7000_0, hf7000_0⟩ := Kd.R_celln 0 HO_5.out (x6_1 : Int) p15 q15
                replace p15 := eq_true p15
                replace q15 := eq_true q15
                have HP7000 := Kd.R_putg HO_5.out (x6_1 : Int) (rd l0 (ji10))
                go_wp2_with (first | ((with_reducible refine gate_store (t := 5) (p := 28) rfl ?_); refine store_event (t := 5) (p := 28) (v := ?vo_w17) (w1 := (wr.setCell ⟨go15, (x6_1 : Int).toNat, none⟩ (.int .u8 (rd l0 (ji10))))) ?hg ?ho ?hn ?hr ?_; (case ho => rfl); (case hg => rfl); (case hn => rfl); (case hr => first | (go_simp; done) | (go_simp; rfl)); intro w7000 hw; have hg : wr.grownBy w7000 (some go15) := (by rw [hw]; exact HP7000.2); have hp_ : Kd.R (Kd.int .u8) 5 w7000 w.heap.size (fun _ => True) (.slice (some ⟨go15, 0, none⟩) x5_1.length co15) y112 := (by rw [hw, Ny112.out]; exact HP7000.1); clear HP7000; have n_ := pk2 (hp_) ((by rw [hw]; exact below_set (HB.out) GB7000.out : Below w.heap.size w w7000)); clear HO_5 HB; obtain ⟨HO_5, HB⟩ := n_; clear hg hw hp_))
                go_roundg k1
                case measure => have := HK1.out; omega
                case rel => exact ⟨(y112), (wrap64 (x6_1 + 1)), sm_, H', ⟨by have := HK1.out; omega⟩, ⟨(ro_ HO_5)⟩, ⟨bl_⟩⟩
    · rw [if_neg c4] at H
      exact absurd H (by simp)
  · rw [if_neg c3] at H
    exact absurd H (by simp)
end Go.Proofs.Ytfmdllbkfpbdcaa.G
end
section
namespace Go.Proofs.Ytfmdllbkfpbdcaa.G
open Go Go.RowKit Go.Proofs.YtfmdllbkfpbdcaaX Go.Proofs.YtfmdllbkfpbdcaaW.PrintWords Go.Proofs.YtfmdllbkfpbdcaaW.PrintLast Go.Proofs.YtfmdllbkfpbdcaaW.PrintMore
def DrumS.Fine (N : Nat) (D : DrumS) : Prop := D.Good ∧ (-1 ≤ D.armed ∧ D.armed ≤ 9223372036854775807) ∧ D.ws.length ≤ N
theorem DrumS.Fine.good {N : Nat} {D : DrumS} (h : D.Fine N) : D.Good := h.1
theorem DrumS.Fine.le {N M : Nat} {D : DrumS} (h : D.Fine N) (hM : N ≤ M) : D.Fine M := ⟨h.1, h.2.1, Nat.le_trans h.2.2 hM⟩
theorem fine_new (n : Int) (h1 : 8 ≤ n) (h2 : n ≤ 8192) : (newD n).Fine 0 :=
  ⟨⟨by simp [newD], by simp [newD]; omega, fun x hx => by simp [newD] at hx⟩, by simp [newD], by simp [newD]⟩
theorem fine_keepAll {N : Nat} {D : DrumS} (h : D.Fine N) : (keepAll D.ws D).Fine N := by
  obtain ⟨e1, e2, e3, e4⟩ := keepAll_ws D.ws D
  have e5 := keepAll_len D.ws D h.1.2.2
  exact ⟨⟨by rw [e2, e5]; exact h.1.1, by rw [e5]; exact h.1.2.1, fun x hx => by rw [e1] at hx; rw [e5]; exact h.1.2.2 x hx⟩, by rw [e3]; exact h.2.1, by rw [e1]; exact h.2.2⟩
theorem fine_sync {N : Nat} {D : DrumS} (h : D.Fine N) : (syncD D).Fine N := by
  unfold syncD
  split
  · exact h
  · have h2 := fine_keepAll h
    exact ⟨⟨h2.1.1, h2.1.2.1, fun x hx => by simp at hx⟩, h2.2.1, by simp⟩
theorem fine_crash {N : Nat} {D : DrumS} (h : D.Fine N) (pat : List Bool) : (crashD pat D).Fine 0 := by
  have e := crashTo_len pat D.ws D h.1.2.2 D.ws.length (Nat.le_refl _)
  exact ⟨⟨rfl, by show (crashTo pat D.ws D D.ws.length).kept.length ≤ _; rw [e]; exact h.1.2.1, fun x hx => by simp [crashD] at hx⟩, by simp [crashD], by simp [crashD]⟩
theorem countD_ws (x : S100) (D : DrumS) : ∀ y ∈ (countD x D).ws, y ∈ D.ws ∨ y = x := by
  intro y hy
  unfold countD at hy
  split at hy
  · exact .inl hy
  · split at hy
    · exact .inl hy
    · simp only [List.mem_append, List.mem_singleton] at hy
      exact hy
theorem wst_good (a : Nat) (l : List Int) {m : Nat} (D : DrumS) (hG : D.Good) (hm : l.length = 64 * m) (hfit : 64 * (a + m) ≤ D.seen.length) (har : -1 ≤ D.armed ∧ D.armed ≤ 9223372036854775807) :
    ∀ (n : Nat) (pre : List (Fin m)), pre.length = n → n ≤ m → ∀ y ∈ (wst a l pre D).1.ws, 0 ≤ y.f0 ∧ 64 * y.f0 + 64 ≤ D.kept.length ∧ y.f1.length = 64 := by
  intro n
  induction n with
  | zero =>
    intro pre h _
    obtain rfl := List.eq_nil_of_length_eq_zero h
    exact hG.2.2
  | succ n ih =>
    intro pre h hn
    obtain ⟨p, x, rfl⟩ : ∃ p x, pre = p ++ [x] := ⟨pre.dropLast, pre.getLast (by intro e; simp [e] at h), (List.dropLast_concat_getLast _).symm⟩
    have hp : p.length = n := by simpa using h
    intro y hy
    rw [wst_snoc, wst_len, hp] at hy
    rcases countD_ws _ _ y hy with h1 | rfl
    · exact ih p hp (by omega) y h1
    · have hx := x.isLt
      refine ⟨by simp only; omega, ?_, sector_len l x.val (by omega)⟩
      simp only
      rw [← hG.1]
      omega
theorem fine_write {N : Nat} {D : DrumS} (h : D.Fine N) (at_ : Int) (l : List Int) : (writeD D at_ l).1.Fine (N + l.length / 64) := by
  unfold writeD
  split
  · exact h.le (by omega)
  · rename_i h64
    split
    · exact h.le (by omega)
    · rename_i hb
      have hb' : hasB ((D.seen.length / 64 : Nat) : Int) at_ ((l.length / 64 : Nat) : Int) = true := by simpa using hb
      obtain ⟨r1, r2, r3⟩ := hasB_true hb'
      have hm : l.length = 64 * (l.length / 64) := by omega
      have hfit : 64 * (at_.toNat + l.length / 64) ≤ D.seen.length := by omega
      obtain ⟨w1, w2, w3, w4⟩ := wst_facts at_.toNat l (List.finRange (l.length / 64)) D hm hfit h.2.1 (by simp)
      have w5 := wst_good at_.toNat l D h.1 hm hfit h.2.1 (l.length / 64) (List.finRange (l.length / 64)) (by simp) (Nat.le_refl _)
      exact ⟨⟨by rw [w1, w2]; exact h.1.1, by rw [w2]; exact h.1.2.1, fun x hx => by rw [w2]; exact w5 x hx⟩, w3, Nat.le_trans w4 (by have := h.2.2; simp only [List.length_finRange]; omega)⟩
theorem IsDr.apart {S : Nat → Prop} {B : Nat} {W W2 : World} {g s k : Nat} {D : DrumS} (h : IsDr S B W g s k D) (hb : Below W.heap.size W W2) : IsDr (fun b => S b ∧ ¬ (W.heap.size ≤ b ∧ b < W2.heap.size)) B W2 g s k D := by
  obtain ⟨v, h1, h2, h3, h4, ⟨a1, a2, a3⟩, h6, h7, h8⟩ := h
  have hg : g < W.heap.size := blk_lt h1
  have hs := h2.lt
  have hk := h3.lt
  exact ⟨v, (hb.block g hg).trans h1, h2.kept (hb.block s hs), h3.kept (hb.block k hk), Kd.R_below (Kd.R_mono (Kd.R_bound h4) (fun b hb' => ⟨⟨hb'.1.1, fun h => by have := hb'.2.2.1; omega⟩, hb'.1.2⟩)) hb, ⟨⟨a1, fun h => by omega⟩, ⟨a2, fun h => by omega⟩, ⟨a3, fun h => by omega⟩⟩, h6, h7, fun b hb' => ⟨h8 b (Nat.le_trans hb.size hb'), fun h => by omega⟩⟩
theorem F_fresh {α : Type} {d : Kd α} {e : Nat} {S : Nat → Prop} {W W2 : World} {A : Option Addr} {c base : Nat} {l : List α} (hbase : W.heap.size ≤ base) (hR : Kd.R d e W2 base (fun _ => True) (.slice A l.length c) l) : Kd.F d W2 (fun b => ¬ (S b ∧ ¬ (W.heap.size ≤ b ∧ b < W2.heap.size))) A l.length l :=
  Kd.F_mono (Kd.R_F (Kd.R_bound hR)) (fun b hb h => h.2 ⟨Nat.le_trans hbase hb.2.1, hb.2.2.1⟩)
theorem write_fresh (S : Nat → Prop) (B : Nat) (W W2 : World) (g s k : Nat) (D : DrumS) (at_ : Int) (A : Option Addr) (c base N : Nat) (l : List Int) (h : IsDr S B W g s k D) (hW : Below W.heap.size W W2) (hbase : W.heap.size ≤ base) (hR : Kd.R (Kd.int .u8) 5 W2 base (fun _ => True) (.slice A l.length c) l) (hB : B ≤ W.heap.size) (hG : D.Fine N) (hn : l.length ≤ 100000000) (hN : N ≤ 900000000) :
    Calls Try.prog 12 #[.pointer (some ⟨g, 0, none⟩), .int .i64 at_, .slice A l.length c] W2 fun e w' => e = .returned (.int .i64 (writeD D at_ l).2) ∧ IsDr S B w' g s k (writeD D at_ l).1 ∧ Below B W w' ∧ Kept W w' S := by
  refine (write_calls _ B W2 g s k D at_ A c l (h.apart hW) (Nat.le_trans hB hW.size) hG.1 (F_fresh hbase hR) (Kd.R_reads' hR).2.1 (by omega) (by have := hG.2.2; omega) hG.2.1).mono ?_
  rintro e w' ⟨h1, h2, h3, h4⟩
  exact ⟨h1, h2.more (fun b hb => hb.1), (hW.mono hB).trans h3, (Kept.of_below hW S).then_ h4 (fun b hb => .inl hb.1)⟩
theorem crash_fresh (S : Nat → Prop) (B : Nat) (W W2 : World) (g s k : Nat) (D : DrumS) (P : Option Addr) (pc base N : Nat) (pat : List Bool) (h : IsDr S B W g s k D) (hW : Below W.heap.size W W2) (hbase : W.heap.size ≤ base) (hR : Kd.R Kd.bool 4 W2 base (fun _ => True) (.slice P pat.length pc) pat) (hB : B ≤ W.heap.size) (hG : D.Fine N) :
    Calls Try.prog 16 #[.pointer (some ⟨g, 0, none⟩), .slice P pat.length pc] W2 fun e w' => (∃ v, e = .returned v) ∧ IsDr S B w' g s k (crashD pat D) ∧ Below B W w' ∧ Kept W w' S := by
  refine (crash_calls _ B W2 g s k D P pc pat (h.apart hW) (Nat.le_trans hB hW.size) hG.1 (F_fresh hbase hR)).mono ?_
  rintro e w' ⟨h1, h2, h3, h4⟩
  exact ⟨h1, h2.more (fun b hb => hb.1), (hW.mono hB).trans h3, (Kept.of_below hW S).then_ h4 (fun b hb => .inl hb.1)⟩
theorem page_loop (b : Int) (n : Nat) (hn : n ≤ 100000) (d : Nat) : ∀ (i : Nat) (xs : List Int) (k : Nat), i + d = n → xs.length = n → d < k → windroselaw09_Page.l0 k [b] (n : Int) xs (i : Int) = some (xs.take i ++ List.replicate d b) := by
  induction d with
  | zero =>
    intro i xs k hi hx hk
    obtain ⟨k, rfl⟩ : ∃ m, k = m + 1 := ⟨k - 1, by omega⟩
    simp only [windroselaw09_Page.l0]
    rw [if_neg (by omega), List.take_of_length_le (by omega)]
    simp
  | succ d ih =>
    intro i xs k hi hx hk
    obtain ⟨k, rfl⟩ : ∃ m, k = m + 1 := ⟨k - 1, by omega⟩
    simp only [windroselaw09_Page.l0]
    have e1 : Int.tmod (i : Int) (([b] : List Int).length : Int) = 0 := by
      rw [Int.tmod_eq_emod_of_nonneg (by omega)]
      simp only [List.length_cons, List.length_nil]
      omega
    have e2 : wrap64 ((i : Int) + 1) = ((i + 1 : Nat) : Int) := by unfold wrap64; omega
    rw [if_pos (by omega), if_pos (by simp), if_neg (by simp), e1, if_pos (by omega), if_pos (by simp), if_pos (by omega), if_pos (by omega), e2, Int.toNat_natCast, ih (i + 1) _ k (by omega) (by rw [List.length_set]; exact hx) (by omega)]
    congr 1
    rw [List.take_succ_eq_append_getElem (by rw [List.length_set]; omega), List.take_set_of_le (Nat.le_refl _), List.getElem_set_self, List.append_assoc]
    rfl
theorem page_one (b : Int) (n : Nat) (hn : n ≤ 100000) : windroselaw09_Page.f (n + 1) [b] (n : Int) = some (List.replicate n b) := by
  unfold windroselaw09_Page.f
  rw [if_pos (by omega), if_pos (by omega)]
  have := page_loop b n hn n 0 (List.replicate n 0) (n + 1) (by omega) (by simp) (by omega)
  rw [Int.toNat_natCast]
  simpa using this
theorem page_nil (n : Nat) (h0 : 0 < n) (hn : n ≤ 100000) : windroselaw09_Page.f 1 [] (n : Int) = some (List.replicate n 0) := by
  unfold windroselaw09_Page.f
  rw [if_pos (by omega), if_pos (by omega)]
  simp only [windroselaw09_Page.l0]
  rw [if_pos (by omega), if_neg (by simp), Int.toNat_natCast]
theorem page_calls (b : Int) (n : Int) (k : Nat) (A : Option Addr) (c : Nat) (L : List Int) (w : World) (base : Nat) (hR : Kd.R (Kd.int .u8) 5 w base (fun _ => True) (.slice A ([b] : List Int).length c) [b]) (h : windroselaw09_Page.f k [b] n = some L) :
    Calls Try.prog 13 #[.slice A 1 c, .int .i64 n] w fun e w' => ∃ A' c', e = .returned (.slice A' L.length c') ∧ Kd.R (Kd.int .u8) 5 w' w.heap.size (fun _ => True) (.slice A' L.length c') L ∧ Below w.heap.size w w' := by
  refine (windroselaw09_Page.calls k A c [b] n L w (Kd.R_reads' hR).2.2 (Kd.R_reads' hR).2.1 h).mono ?_
  rintro e w' ⟨v, rfl, ho, hb⟩
  obtain ⟨A', c', rfl⟩ := Kd.R_slice ho
  exact ⟨A', c', rfl, ho, hb⟩
def awakeD : DrumS × Int := writeD (syncD (writeD (newD 8) 0 (List.replicate 64 1)).1) 0 (List.replicate 64 2)
def awakeR : List Int × Int := readD (crashD [false] awakeD.1) 0 1
theorem awake_told : awakeD.2 = 0 ∧ awakeR = (List.replicate 64 1, 0) := by decide +kernel
set_option maxHeartbeats 16000000 in
set_option maxRecDepth 100000 in
theorem awake09_calls (w : World) : Calls Try.prog 11 #[] w fun e w' => e = .returned (.bool true) ∧ Below w.heap.size w w' := by
  have hf0 := fine_new 8 (by decide) (by decide)
  have hf1 := fine_write hf0 0 (List.replicate 64 1)
  have hf2 := fine_sync hf1
  have hf3 := fine_write hf2 0 (List.replicate 64 2)
  have hf4 := fine_crash hf3 [false]
  obtain ⟨t1, t2⟩ := awake_told
  obtain ⟨D0, hD0⟩ : ∃ D0, D0 = newD 8 := ⟨_, rfl⟩
  obtain ⟨L1, hL1⟩ : ∃ L, L = List.replicate 64 (1 : Int) := ⟨_, rfl⟩
  obtain ⟨L2, hL2⟩ : ∃ L, L = List.replicate 64 (2 : Int) := ⟨_, rfl⟩
  have hl1 : L1.length = 64 := by rw [hL1]; rfl
  have hl2 : L2.length = 64 := by rw [hL2]; rfl
  have p1 : windroselaw09_Page.f 65 [1] 64 = some L1 := by rw [hL1]; exact page_one 1 64 (by decide)
  have p2 : windroselaw09_Page.f 65 [2] 64 = some L2 := by rw [hL2]; exact page_one 2 64 (by decide)
  unfold awakeR at t2
  unfold awakeD at t1 t2
  rw [← hD0] at hf0
  rw [← hD0, ← hL1] at hf1 hf2
  rw [← hD0, ← hL1, ← hL2] at hf3 hf4
  rw [← hD0, ← hL1, ← hL2] at t1 t2
  obtain ⟨D1, hD1⟩ : ∃ D1, D1 = (writeD D0 0 L1).1 := ⟨_, rfl⟩
  rw [← hD1] at hf1 hf2 hf3 hf4 t1 t2
  obtain ⟨D2, hD2⟩ : ∃ D2, D2 = syncD D1 := ⟨_, rfl⟩
  rw [← hD2] at hf2 hf3 hf4 t1 t2
  obtain ⟨D3, hD3⟩ : ∃ D3, D3 = (writeD D2 0 L2).1 := ⟨_, rfl⟩
  rw [← hD3] at hf3 hf4 t2
  obtain ⟨D4, hD4⟩ : ∃ D4, D4 = crashD [false] D3 := ⟨_, rfl⟩
  rw [← hD4] at hf4 t2
  have hx : rd L1 63 = 1 := by rw [hL1]; rfl
  have HF0 := Aside0.mk hf0
  have HF1 := Aside0.mk hf1
  have HF2 := Aside0.mk hf2
  have HF3 := Aside0.mk hf3
  have HF4 := Aside0.mk hf4
  have T1 := Aside0.mk t1
  have T2 := Aside0.mk t2
  have HD0 := Aside0.mk hD0
  have HD1 := Aside0.mk hD1
  have HD2 := Aside0.mk hD2
  have HD3 := Aside0.mk hD3
  have HD4 := Aside0.mk hD4
  have HL1 := Aside0.mk p1
  have HL2 := Aside0.mk p2
  have HN1 := Aside0.mk hl1
  have HN2 := Aside0.mk hl2
  have HXX := Aside0.mk hx
  clear hf0 hf1 hf2 hf3 hf4 t1 t2 hD0 hD1 hD2 hD3 hD4 hL1 hL2 p1 p2 hl1 hl2 hx
  go_enter Try.func11, Try.ntmps11
  go_wp2_with (first
    | (go_at_call 10; (with_reducible refine (new_ok 8 _ (by decide) (by decide) (by decide)).mono ?_); rintro e w1 ⟨g, s, k, rfl, hd, hb⟩; rw [← HD0.out] at hd; have n_ := pk2 hd hb; clear hd hb; obtain ⟨HDa, HB⟩ := n_)
    | ((with_reducible refine gate_dst (N := 17) rfl ?_); refine Kd.R_lit (Kd.int .u8) _ 5 ?hg (N := 17) ?hd (xs := ([1] : List Int)) (inner := [.int .u8 1]) (ok := fun _ => True) (okp := fun _ => True) ?hr ?hp (fun _ hk => hk) trivial (Below.refl _ _) (Nat.le_refl _) (by simp) ?_; (case hd => rfl); (case hg => rfl); (case hr => first | (go_simp; done) | (go_simp; rfl)); (case hp => exact (Reps.one (show Kd.M (Kd.int .u8) _ _ _ 1 [.int .u8 1] from rfl) (Reps.none _ _))); intro v17 w17 ho hb hg_ hnew_; obtain ⟨A17, c17, hv⟩ := Kd.R_slice ho; subst hv; have n_ := pk2 ho hb; clear hg_ hnew_ ho hb; obtain ⟨HPa, HXa⟩ := n_)
    | (go_at_call 13; (with_reducible refine (page_calls 1 64 65 A17 c17 L1 _ _ HPa.out HL1.out).mono ?_); rintro e wpa ⟨Apa, cpa, rfl, ho, hb⟩; have n_ := pk2 (Kd.R_lower ho HXa.out.size) (below_step HXa.out hb); clear HPa HXa ho hb; obtain ⟨HPa, HXa⟩ := n_)
    | (go_at_call 12; (with_reducible refine (write_fresh (fun b => w.heap.size ≤ b) w.heap.size w1 _ g s k D0 0 Apa cpa _ _ L1 HDa.out HXa.out (Nat.le_refl _) HPa.out HB.out.size HF0.out (by rw [HN1.out]; decide) (by decide)).mono ?_); rintro e w4 ⟨he, hd, hb, hk⟩; subst he; rw [← HD1.out] at hd; have n_ := pk2 hd (HB.out.trans hb); clear hd hb hk HB HDa HPa HXa; obtain ⟨HDb, HB⟩ := n_)
    | (go_at_call 14; (with_reducible refine (sync_calls (fun b => w.heap.size ≤ b) w.heap.size w4 g s k D1 HDb.out HB.out.size HF1.out.good).mono ?_); rintro e w5 ⟨⟨v5, rfl⟩, hd, hb, hk⟩; rw [← HD2.out] at hd; have n_ := pk2 hd (HB.out.trans hb); clear hd hb hk HB HDb; obtain ⟨HDc, HB⟩ := n_)
    | ((with_reducible refine gate_dst (N := 23) rfl ?_); refine Kd.R_lit (Kd.int .u8) _ 5 ?hg (N := 23) ?hd (xs := ([2] : List Int)) (inner := [.int .u8 2]) (ok := fun _ => True) (okp := fun _ => True) ?hr ?hp (fun _ hk => hk) trivial (Below.refl _ _) (Nat.le_refl _) (by simp) ?_; (case hd => rfl); (case hg => rfl); (case hr => first | (go_simp; done) | (go_simp; rfl)); (case hp => exact (Reps.one (show Kd.M (Kd.int .u8) _ _ _ 2 [.int .u8 2] from rfl) (Reps.none _ _))); intro v23 w23 ho hb hg_ hnew_; obtain ⟨A23, c23, hv⟩ := Kd.R_slice ho; subst hv; have n_ := pk2 ho hb; clear hg_ hnew_ ho hb; obtain ⟨HPc, HXc⟩ := n_)
    | (go_at_call 13; (with_reducible refine (page_calls 2 64 65 A23 c23 L2 _ _ HPc.out HL2.out).mono ?_); rintro e wpc ⟨Apc, cpc, rfl, ho, hb⟩; have n_ := pk2 (Kd.R_lower ho HXc.out.size) (below_step HXc.out hb); clear HPc HXc ho hb; obtain ⟨HPc, HXc⟩ := n_)
    | (go_at_call 12; (with_reducible refine (write_fresh (fun b => w.heap.size ≤ b) w.heap.size w5 _ g s k D2 0 Apc cpc _ _ L2 HDc.out HXc.out (Nat.le_refl _) HPc.out HB.out.size HF2.out (by rw [HN2.out]; decide) (by rw [HN1.out]; decide)).mono ?_); rintro e w6 ⟨he, hd, hb, hk⟩; rw [T1.out] at he; subst he; rw [← HD3.out] at hd; have n_ := pk2 hd (HB.out.trans hb); clear hd hb hk HB HDc HPc HXc; obtain ⟨HDd, HB⟩ := n_)
    | ((with_reducible refine gate_dst (N := 27) rfl ?_); refine Kd.R_lit Kd.bool _ 4 ?hg (N := 27) ?hd (xs := ([false] : List Bool)) (inner := [.bool false]) (ok := fun _ => True) (okp := fun _ => True) ?hr ?hp (fun _ hk => hk) trivial (Below.refl _ _) (Nat.le_refl _) (by simp) ?_; (case hd => rfl); (case hg => rfl); (case hr => first | (go_simp; done) | (go_simp; rfl)); (case hp => exact (Reps.one (show Kd.M Kd.bool _ _ _ false [.bool false] from rfl) (Reps.none _ _))); intro v27 w27 ho hb hg_ hnew_; obtain ⟨A27, c27, hv⟩ := Kd.R_slice ho; subst hv; have n_ := pk2 ho hb; clear hg_ hnew_ ho hb; obtain ⟨HPd, HXd⟩ := n_)
    | (go_at_call 16; refine (crash_fresh (fun b => w.heap.size ≤ b) w.heap.size w6 w27 g s k D3 A27 c27 _ _ [false] HDd.out HXd.out (Nat.le_refl _) HPd.out HB.out.size HF3.out).mono ?_; rintro e w7 ⟨⟨v7, rfl⟩, hd, hb, hk⟩; rw [← HD4.out] at hd; have n_ := pk2 hd (HB.out.trans hb); clear hd hb hk HB HDd HPd HXd; obtain ⟨HDe, HB⟩ := n_)
    | (go_at_call 17; (with_reducible refine (read_calls (fun b => w.heap.size ≤ b) w.heap.size w7 g s k D4 0 1 HDe.out HF4.out.good).mono ?_); rintro e w8 ⟨v8, rfl, ho, hb⟩; rw [T2.out] at ho ⊢; obtain ⟨A8, c8, hv⟩ := Kd.R_slice ho; subst hv; obtain ⟨ad, hA, hx⟩ := Kd.at_int (Kd.R_reads' ho).2.2 63 (by decide) (by rw [HN1.out]; decide); subst hA; rw [HXX.out, show ad.add (63 : Int).toNat = ⟨ad.block, ad.off + 63, none⟩ from by simp [Addr.add]] at hx; have n_ := pk1 (below_step HB.out hb); clear HB HDe ho hb; have HB := n_; rw [HN1.out]))
  go_ret
  exact ⟨rfl, HB.out⟩
end Go.Proofs.Ytfmdllbkfpbdcaa.G
end
section
namespace Go.Proofs.Ytfmdllbkfpbdcaa.G
open Go Go.RowKit Go.Proofs.YtfmdllbkfpbdcaaX Go.Proofs.YtfmdllbkfpbdcaaW.PrintWords Go.Proofs.YtfmdllbkfpbdcaaW.PrintLast Go.Proofs.YtfmdllbkfpbdcaaW.PrintMore
attribute [local go_sem] max2_int min2_int max_two min_two
def Zr (w : World) (g : Nat) (a : Int) : Prop := w.heap[g]? = some (.cells #[.slice none 0 0, .slice none 0 0, .slice none 0 0, .int .i64 a, .bool false] 43 (0, 0))
theorem arm_nil (n : Int) (w : World) : Calls Try.prog 15 #[.pointer none, .int .i64 n] w fun e w' => (∃ v, e = .returned v) ∧ w' = w := by
  go_enter Try.func15, Try.ntmps15
  go_wp2
  go_end0
  exact ⟨⟨_, rfl⟩, rfl⟩
theorem wipe_nil (w : World) : Calls Try.prog 21 #[.pointer none] w fun e w' => (∃ v, e = .returned v) ∧ w' = w := by
  go_enter Try.func21, Try.ntmps21
  go_wp2
  refine bodyPost_ret (results_none rfl _ _ _) rfl ?_
  exact ⟨⟨_, rfl⟩, rfl⟩
theorem has_nil (w : World) (n : Int) (hn : 0 < n) : Calls Try.prog 46 #[.pointer none, .int .i64 0, .int .i64 n] w fun e w' => e = .returned (.bool false) ∧ w' = w := by
  have q := has_of w (.pointer none) 0 0 n (sectors_nil w) (by decide) (by decide) (by omega) rfl
  have e : hasB 0 0 n = false := by unfold hasB; rw [decide_eq_false (by omega)]
  rw [e] at q
  exact q
theorem has_zero (w : World) (g : Nat) (a n : Int) (h : Zr w g a) (hn : 0 < n) : Calls Try.prog 46 #[.pointer (some ⟨g, 0, none⟩), .int .i64 0, .int .i64 n] w fun e w' => e = .returned (.bool false) ∧ w' = w := by
  have q := has_of w (.pointer (some ⟨g, 0, none⟩)) 0 0 n (sectors_blk w g 0 0 none _ _ _ _ h (by decide)) (by decide) (by decide) (by omega) rfl
  have e : hasB 0 0 n = false := by unfold hasB; rw [decide_eq_false (by omega)]
  rw [e] at q
  exact q
set_option maxHeartbeats 4000000 in
theorem read_none (w : World) (p : Option Addr) (h : Calls Try.prog 46 #[.pointer p, .int .i64 0, .int .i64 1] w fun e w' => e = .returned (.bool false) ∧ w' = w) : Calls Try.prog 17 #[.pointer p, .int .i64 0, .int .i64 1] w fun e w' => e = .returned (.tuple #[.slice none 0 0, .int .i64 5]) ∧ w' = w := by
  have H := Aside0.mk h
  clear h
  go_enter Try.func17, Try.ntmps17
  go_wp2_with (go_at_call 46; refine (H.out).mono ?_; rintro e w' ⟨rfl, rfl⟩)
  go_ret2
  exact ⟨rfl, rfl⟩
set_option maxHeartbeats 4000000 in
set_option maxRecDepth 100000 in
theorem arm_zero (n a : Int) (w : World) (g : Nat) (h : Zr w g a) (hB : w.heap.size ≤ w.heap.size) : Calls Try.prog 15 #[.pointer (some ⟨g, 0, none⟩), .int .i64 n] w fun e w' => (∃ v, e = .returned v) ∧ (∃ a', Zr w' g a') ∧ KeepBut w w' g none ∧ ∀ B, B ≤ g → Below B w w' := by
  have hu43 := Try.underlying43
  have H := Aside0.mk h
  obtain ⟨c0, c1, c2, c3, c4, f0, f1, f2, f3, f4⟩ := blk_at5 h
  have fin : ∀ x : Int, (∃ a', Zr (w.setCell ⟨g, 3, none⟩ (.int .i64 x)) g a') ∧ KeepBut w (w.setCell ⟨g, 3, none⟩ (.int .i64 x)) g none ∧ ∀ B, B ≤ g → Below B w (w.setCell ⟨g, 3, none⟩ (.int .i64 x)) := fun x =>
    ⟨⟨x, blk_put H.out 3 _ rfl⟩, KeepBut.set_ (KeepBut.refl _ _ _) 3 _, fun B hB => (Below.refl _ _).setCell (p := ⟨g, 3, none⟩) hB _⟩
  have FIN := Aside0.mk fin
  clear h fin
  go_enter Try.func15, Try.ntmps15
  go_wp2
  all_goals (go_end0; exact ⟨⟨_, rfl⟩, FIN.out _⟩)
theorem zr_put (w : World) (g : Nat) (a : Int) (h : Zr w g a) : Zr (w.setCell ⟨g, 2, none⟩ (.slice none 0 0)) g a ∧ KeepBut w (w.setCell ⟨g, 2, none⟩ (.slice none 0 0)) g none ∧ ∀ B, B ≤ g → Below B w (w.setCell ⟨g, 2, none⟩ (.slice none 0 0)) :=
  ⟨blk_put h 2 _ rfl, KeepBut.set_ (KeepBut.refl _ _ _) 2 _, fun B hB => (Below.refl _ _).setCell (p := ⟨g, 2, none⟩) hB _⟩
set_option maxHeartbeats 4000000 in
set_option maxRecDepth 100000 in
theorem sync_zero (a : Int) (w : World) (g : Nat) (h : Zr w g a) : Calls Try.prog 14 #[.pointer (some ⟨g, 0, none⟩)] w fun e w' => (∃ v, e = .returned v) ∧ Zr w' g a ∧ KeepBut w w' g none ∧ ∀ B, B ≤ g → Below B w w' := by
  have hu43 := Try.underlying43
  have H := Aside0.mk h
  obtain ⟨c0, c1, c2, c3, c4, f0, f1, f2, f3, f4⟩ := blk_at5 h
  clear h
  go_enter Try.func14, Try.ntmps14
  go_wp2
  refine wp_loop_rounds 1 ?_
  rw [rounds_succ]
  go_wp2
  go_end0
  exact ⟨⟨_, rfl⟩, zr_put w g a H.out⟩
theorem step_copy_zero {P : Program} {ops : Array Oper} {o : Oper} {a : Act} {w : World} {K : Act → World → Prop} {Q : Exit → Act → World → Prop} {E : Prop} (hgd : o.guard = none) (d s : Operand) (dT sT : TypeId)
    (ho : o.op = .call { callee := .builtin .copy, args := #[d, s], argTypes := #[dT, sT] }) (elem : TypeId) (hu : P.underlying dT = some (.slice elem)) (hsz : (P.info? elem).map (·.size) = some 1)
    (hd : a.eval d = .slice none 0 0) (hs : a.eval s = .slice none 0 0) (h : K (a.put o.dst (goInt 0)) w) :
    if Region.wanted o (yielded ops a.tmps) = true then Oper.wp P o a w K Q else E := by
  have hw : Region.wanted o (yielded ops a.tmps) = true := by simp [Region.wanted, hgd]
  rw [if_pos hw]
  have hrun := run_copy_none (P := P) w dT sT o.type elem none none 0 0 0 0 hu hsz (by decide)
  unfold Oper.wp
  simp only [execOp, ho, resolve, invoke, builtin, List.map_toArray, List.map_cons, List.map_nil, hd, hs, Sem.run_bind, Sem.run_pure, Result.andThen_ok, hrun]
  exact h
set_option maxHeartbeats 4000000 in
set_option maxRecDepth 100000 in
theorem crash_zero (a : Int) (w : World) (g : Nat) (P : Option Addr) (n c : Nat) (h : Zr w g a) : Calls Try.prog 16 #[.pointer (some ⟨g, 0, none⟩), .slice P n c] w fun e w' => (∃ v, e = .returned v) ∧ Zr w' g (-1) ∧ KeepBut w w' g none ∧ ∀ B, B ≤ g → Below B w w' := by
  have hu43 := Try.underlying43
  have H := Aside0.mk h
  obtain ⟨c0, c1, c2, c3, c4, f0, f1, f2, f3, f4⟩ := blk_at5 h
  obtain ⟨i0, hi, hz0, hz1, hz2⟩ := info_parts info5
  have HSZ : Aside0 ((Try.prog.info? 5).map (·.size) = some 1) := ⟨by rw [hi]; simp [hz1]⟩
  have fin : ∀ W : World, W = w.drew → Zr (((W.setCell ⟨g, 2, none⟩ (.slice none 0 0)).setCell ⟨g, 3, none⟩ (.int .i64 (-1))).setCell ⟨g, 4, none⟩ (.bool false)) g (-1) ∧ KeepBut w (((W.setCell ⟨g, 2, none⟩ (.slice none 0 0)).setCell ⟨g, 3, none⟩ (.int .i64 (-1))).setCell ⟨g, 4, none⟩ (.bool false)) g none ∧ ∀ B, B ≤ g → Below B w (((W.setCell ⟨g, 2, none⟩ (.slice none 0 0)).setCell ⟨g, 3, none⟩ (.int .i64 (-1))).setCell ⟨g, 4, none⟩ (.bool false)) := by
    rintro W rfl
    have h' : Zr w.drew g a := H.out
    refine ⟨?_, ?_, fun B hB => (((Below.drew (Below.refl _ _)).setCell (p := ⟨g, 2, none⟩) hB _).setCell (p := ⟨g, 3, none⟩) hB _).setCell (p := ⟨g, 4, none⟩) hB _⟩
    · exact blk_put (cs := #[.slice none 0 0, .slice none 0 0, .slice none 0 0, .int .i64 (-1), .bool false]) (blk_put (cs := #[.slice none 0 0, .slice none 0 0, .slice none 0 0, .int .i64 a, .bool false]) (blk_put h' 2 (.slice none 0 0) rfl) 3 (.int .i64 (-1)) rfl) 4 (.bool false) rfl
    · exact KeepBut.set_ (KeepBut.set_ (KeepBut.set_ (KeepBut.of_below (Below.drew (Below.refl _ _)) g none) 2 _) 3 _) 4 _
  have FIN := Aside0.mk fin
  clear h fin hi hz0 hz1 hz2
  go_enter Try.func16, Try.ntmps16
  go_wp2
  refine wp_loop_rounds 1 ?_
  rw [rounds_succ]
  go_wp2
  go_region_law ((refine step_copy_zero rfl (.tmp 37) (.tmp 41) 30 30 (by rfl) 5 Try.underlying30 HSZ.out (by rfl) (by rfl) ?_))
  all_goals (go_wp2; go_end0; exact ⟨⟨_, rfl⟩, FIN.out _ rfl⟩)
set_option maxHeartbeats 4000000 in
set_option maxRecDepth 100000 in
theorem wipe_zero (a : Int) (w : World) (g : Nat) (h : Zr w g a) : Calls Try.prog 21 #[.pointer (some ⟨g, 0, none⟩)] w fun e w' => (∃ v, e = .returned v) ∧ Zr w' g (-1) ∧ KeepBut w w' g none ∧ ∀ B, B ≤ g → Below B w w' := by
  have hu43 := Try.underlying43
  have H := Aside0.mk h
  obtain ⟨c0, c1, c2, c3, c4, f0, f1, f2, f3, f4⟩ := blk_at5 h
  have hclr : ∀ W : World, (Builtin.clear_ #[30] 0 #[.slice none 0 0]).run Try.prog W = .ok (.tuple #[]) W := fun W => by kernel_rfl
  obtain ⟨p1, p2, p3⟩ := zr_put w g a h
  have P2 := Aside0.mk p2
  have P3 := Aside0.mk p3
  have P1 := Aside0.mk p1
  clear h p1 p2 p3
  go_enter Try.func21, Try.ntmps21
  go_wp2_with (go_at_call 16; refine (crash_zero a _ g none 0 0 P1.out).mono ?_; rintro e w2 ⟨⟨v, rfl⟩, hz, hk, hb⟩)
  go_end0
  exact ⟨⟨_, rfl⟩, hz, KeepBut.trans P2.out hk (.inl rfl), fun B hB => (P3.out B hB).trans (hb B hB)⟩
theorem page0_calls (w : World) : Calls Try.prog 13 #[.slice none 0 0, .int .i64 64] w fun e w' => ∃ A c, e = .returned (.slice A 64 c) ∧ Below w.heap.size w w' := by
  refine (windroselaw09_Page.calls 1 none 0 [] 64 (List.replicate 64 0) w (Kd.C_nil _ _) (Nat.le_refl _) (page_nil 64 (by decide) (by decide))).mono ?_
  rintro e w' ⟨v, rfl, ho, hb⟩
  obtain ⟨A, c, hv⟩ := Kd.R_slice ho
  rw [List.length_replicate] at hv
  exact ⟨A, c, by rw [hv], hb⟩
theorem write_nil (w : World) (A : Option Addr) (c : Nat) : Calls Try.prog 12 #[.pointer none, .int .i64 0, .slice A 64 c] w fun e w' => e = .returned (.int .i64 5) ∧ Below w.heap.size w w' :=
  write_out w none 0 A 64 c (by decide) (by decide) (fun W _ => has_nil W 1 (by decide))
theorem Zr.below {w W : World} {g : Nat} {a : Int} (h : Zr w g a) (hb : Below w.heap.size w W) : Zr W g a := (hb.block g (blk_lt h)).trans h
theorem write_zero (w : World) (g : Nat) (a : Int) (h : Zr w g a) (A : Option Addr) (c : Nat) : Calls Try.prog 12 #[.pointer (some ⟨g, 0, none⟩), .int .i64 0, .slice A 64 c] w fun e w' => e = .returned (.int .i64 5) ∧ Below w.heap.size w w' :=
  write_out w (some ⟨g, 0, none⟩) 0 A 64 c (by decide) (by decide) (fun W hb => has_zero W g a 1 (h.below hb) (by decide))
theorem sectors_zero (w : World) (g : Nat) (a : Int) (h : Zr w g a) : Calls Try.prog 18 #[.pointer (some ⟨g, 0, none⟩)] w fun e w' => e = .returned (.int .i64 0) ∧ w' = w := sectors_blk w g 0 0 none _ _ _ _ h (by decide)
theorem pending_zero (w : World) (g : Nat) (a : Int) (h : Zr w g a) : Calls Try.prog 19 #[.pointer (some ⟨g, 0, none⟩)] w fun e w' => e = .returned (.int .i64 0) ∧ w' = w := pending_blk w g 0 0 none _ _ _ _ h
theorem gone_zero (w : World) (g : Nat) (a : Int) (h : Zr w g a) : Calls Try.prog 20 #[.pointer (some ⟨g, 0, none⟩)] w fun e w' => e = .returned (.bool false) ∧ w' = w := gone_blk w g _ _ _ _ _ h
def windroselaw09_DrumNobody.f (k : Nat) (a0_0 a0_1 a0_2 : Int) (l0_3 : List Int) (l0_4 : List Bool) : Option Bool := some true
set_option maxHeartbeats 16000000 in
set_option maxRecDepth 100000 in
theorem DrumNobody_calls (a0_0 a0_1 a0_2 : Int) (A3 : Option Addr) (n3 c3 : Nat) (A4 : Option Addr) (n4 c4 : Nat) (w : World) :
    Calls Try.prog 5 #[.agg #[.int .i64 a0_0, .int .i64 a0_1, .int .i64 a0_2, .slice A3 n3 c3, .slice A4 n4 c4]] w fun e w' => e = .returned (.bool true) ∧ Below w.heap.size w w' := by
  have hu43 := Try.underlying43
  have hu40 := Try.underlying40
  have HB := Aside0.mk (Below.refl w.heap.size w)
  go_enter Try.func5, Try.ntmps5
  go_wp2_with (first | ((with_reducible refine gate_dst (N := 1) rfl ?_); refine box_ev 1 #[.int .i64 a0_0, .int .i64 a0_1, .int .i64 a0_2, .slice A3 n3 c3, .slice A4 n4 c4] 40 ?_; intro gb1 hg w1 hbox hb; have n_ := pk3 (below_step bl_ hb) hbox (ge_ hg bl_ : w.heap.size ≤ gb1); clear HB; obtain ⟨HB, BK, GB⟩ := n_; clear hb hbox hg; obtain ⟨x0, x1, x2, x3, x4, fx0, fx1, fx2, fx3, fx4⟩ := blk_at5 BK.out))
  refine wp_loop_rounds 3 ?_
  rw [rounds_succ]
  go_wp2_with (first
    | (go_at_call 14; (with_reducible refine (sync_nil _).mono ?_); rintro e w2 ⟨⟨v2, rfl⟩, rfl⟩)
    | (go_at_call 15; (with_reducible refine (arm_nil _ _).mono ?_); rintro e w3 ⟨⟨v3, rfl⟩, rfl⟩)
    | (go_at_call 16; (with_reducible refine (crash_nil _ _).mono ?_); rintro e w4 ⟨⟨v4, rfl⟩, rfl⟩)
    | (go_at_call 21; (with_reducible refine (wipe_nil _).mono ?_); rintro e w5 ⟨⟨v5, rfl⟩, rfl⟩)
    | (go_at_call 17; (with_reducible refine (read_none _ none (has_nil _ 1 (by decide))).mono ?_); rintro e w6 ⟨rfl, rfl⟩)
    | (go_at_call 18; (with_reducible refine (sectors_nil _).mono ?_); rintro e w7 ⟨rfl, rfl⟩)
    | (go_at_call 13; (with_reducible refine (page0_calls _).mono ?_); rintro e w8 ⟨A8, c8, rfl, hb⟩; have n_ := pk2 (below_step HB.out hb) (blk_below BK.out hb); clear HB BK hb x0 x1 x2 x3 x4 fx0 fx1 fx2 fx3 fx4; obtain ⟨HB, BK⟩ := n_)
    | (go_at_call 12; (with_reducible refine (write_nil _ A8 c8).mono ?_); rintro e w9 ⟨rfl, hb⟩; have n_ := pk2 (below_step HB.out hb) (blk_below BK.out hb); clear HB BK hb; obtain ⟨HB, BK⟩ := n_)
    | (go_at_call 19; (with_reducible refine (pending_nil _).mono ?_); rintro e w10 ⟨rfl, rfl⟩)
    | (go_at_call 20; (with_reducible refine (gone_nil _).mono ?_); rintro e w11 ⟨rfl, rfl⟩))
  rw [rounds_succ]
  obtain ⟨x0, x1, x2, x3, x4, fx0, fx1, fx2, fx3, fx4⟩ := blk_at5 BK.out
  go_wp2_with (first
    | ((with_reducible refine gate_dst (N := 14) rfl ?_); refine box_ev 14 #[.slice none 0 0, .slice none 0 0, .slice none 0 0, .int .i64 0, .bool false] 43 ?_; intro gz hg w12 hbox hb; have n_ := pk3 (show Zr w12 gz 0 from hbox) (below_step HB.out hb) (blk_below BK.out hb); have GZ : Aside0 (w.heap.size ≤ gz) := ⟨ge_ hg HB.out⟩; have NZ : Aside0 (gb1 ≠ gz) := ⟨nb_ hg BK.out⟩; clear hb hbox hg; clear HB BK x0 x1 x2 x3 x4 fx0 fx1 fx2 fx3 fx4; obtain ⟨HZ, HB, BK⟩ := n_; obtain ⟨x0, x1, x2, x3, x4, fx0, fx1, fx2, fx3, fx4⟩ := blk_at5 BK.out)
    | (go_at_call 14; (with_reducible refine (sync_zero _ _ gz HZ.out).mono ?_); rintro e w2 ⟨⟨u2, rfl⟩, hz, hk, hb⟩; have n_ := pk3 hz (HB.out.trans (hb _ GZ.out)) (KeepBut.blk hk BK.out NZ.out (by simp)); clear hz hk hb; clear HB BK HZ x0 x1 x2 x3 x4 fx0 fx1 fx2 fx3 fx4; obtain ⟨HZ, HB, BK⟩ := n_; obtain ⟨x0, x1, x2, x3, x4, fx0, fx1, fx2, fx3, fx4⟩ := blk_at5 BK.out)
    | (go_at_call 15; (with_reducible refine (arm_zero _ _ _ gz HZ.out (Nat.le_refl _)).mono ?_); rintro e w3 ⟨⟨u3, rfl⟩, ⟨aa, hz⟩, hk, hb⟩; have n_ := pk3 hz (HB.out.trans (hb _ GZ.out)) (KeepBut.blk hk BK.out NZ.out (by simp)); clear hz hk hb; clear HB BK HZ x0 x1 x2 x3 x4 fx0 fx1 fx2 fx3 fx4; obtain ⟨HZ, HB, BK⟩ := n_; obtain ⟨x0, x1, x2, x3, x4, fx0, fx1, fx2, fx3, fx4⟩ := blk_at5 BK.out)
    | (go_at_call 16; (with_reducible refine (crash_zero _ _ gz _ _ _ HZ.out).mono ?_); rintro e w4 ⟨⟨u4, rfl⟩, hz, hk, hb⟩; have n_ := pk3 hz (HB.out.trans (hb _ GZ.out)) (KeepBut.blk hk BK.out NZ.out (by simp)); clear hz hk hb; clear HB BK HZ x0 x1 x2 x3 x4 fx0 fx1 fx2 fx3 fx4; obtain ⟨HZ, HB, BK⟩ := n_; obtain ⟨x0, x1, x2, x3, x4, fx0, fx1, fx2, fx3, fx4⟩ := blk_at5 BK.out)
    | (go_at_call 21; (with_reducible refine (wipe_zero _ _ gz HZ.out).mono ?_); rintro e w5 ⟨⟨u5, rfl⟩, hz, hk, hb⟩; have n_ := pk3 hz (HB.out.trans (hb _ GZ.out)) (KeepBut.blk hk BK.out NZ.out (by simp)); clear hz hk hb; clear HB BK HZ x0 x1 x2 x3 x4 fx0 fx1 fx2 fx3 fx4; obtain ⟨HZ, HB, BK⟩ := n_; obtain ⟨x0, x1, x2, x3, x4, fx0, fx1, fx2, fx3, fx4⟩ := blk_at5 BK.out)
    | (go_at_call 17; (with_reducible refine (read_none _ (some ⟨gz, 0, none⟩) (has_zero _ gz _ 1 HZ.out (by decide))).mono ?_); rintro e w6 ⟨rfl, rfl⟩)
    | (go_at_call 18; (with_reducible refine (sectors_zero _ gz _ HZ.out).mono ?_); rintro e w7 ⟨rfl, rfl⟩)
    | (go_at_call 13; (with_reducible refine (page0_calls _).mono ?_); rintro e w8 ⟨A9, c9, rfl, hb⟩; have n_ := pk3 (HZ.out.below hb) (below_step HB.out hb) (blk_below BK.out hb); clear hb; clear HB BK HZ x0 x1 x2 x3 x4 fx0 fx1 fx2 fx3 fx4; obtain ⟨HZ, HB, BK⟩ := n_; obtain ⟨x0, x1, x2, x3, x4, fx0, fx1, fx2, fx3, fx4⟩ := blk_at5 BK.out)
    | (go_at_call 12; (with_reducible refine (write_zero _ gz _ HZ.out A9 c9).mono ?_); rintro e w9 ⟨rfl, hb⟩; have n_ := pk3 (HZ.out.below hb) (below_step HB.out hb) (blk_below BK.out hb); clear hb; clear HB BK HZ x0 x1 x2 x3 x4 fx0 fx1 fx2 fx3 fx4; obtain ⟨HZ, HB, BK⟩ := n_; obtain ⟨x0, x1, x2, x3, x4, fx0, fx1, fx2, fx3, fx4⟩ := blk_at5 BK.out)
    | (go_at_call 19; (with_reducible refine (pending_zero _ gz _ HZ.out).mono ?_); rintro e w10 ⟨rfl, rfl⟩)
    | (go_at_call 20; (with_reducible refine (gone_zero _ gz _ HZ.out).mono ?_); rintro e w11 ⟨rfl, rfl⟩))
  rw [rounds_succ]
  go_wp2_with (go_at_call 11; (with_reducible refine (awake09_calls _).mono ?_); rintro e w13 ⟨rfl, hb⟩; have HB6 := Aside0.mk (below_step HB.out hb); clear hb)
  go_ret
  exact ⟨rfl, HB6.out⟩
theorem windroselaw09_DrumNobody.calls (k : Nat) (a0_0 a0_1 a0_2 : Int) (A0_3 : Option Addr) (c0_3 : Nat) (l0_3 : List Int) (A0_4 : Option Addr) (c0_4 : Nat) (l0_4 : List Bool) (r : Bool) (w : World) (hr0_3 : Kd.C (Kd.int .u8) w A0_3 l0_3.length l0_3) (hc0_3 : l0_3.length ≤ c0_3) (hr0_4 : Kd.C Kd.bool w A0_4 l0_4.length l0_4) (hc0_4 : l0_4.length ≤ c0_4) (h : windroselaw09_DrumNobody.f k a0_0 a0_1 a0_2 l0_3 l0_4 = some r) :
    Calls Try.prog 5 #[.agg #[.int .i64 a0_0, .int .i64 a0_1, .int .i64 a0_2, .slice A0_3 l0_3.length c0_3, .slice A0_4 l0_4.length c0_4]] w fun e w' => e = .returned (.bool r) ∧ Below w.heap.size w w' := by
  injection h with h
  subst h
  exact DrumNobody_calls a0_0 a0_1 a0_2 A0_3 l0_3.length c0_3 A0_4 l0_4.length c0_4 w
end Go.Proofs.Ytfmdllbkfpbdcaa.G
end
