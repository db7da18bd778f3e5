/- More lines for the row. -/
import Derived.Test.YtfmdllbkfpbdcaaZJournalNobody7
import Derived.WalkMore
import Derived.Laws.CopyOwn
import Derived.Deep.RegionLaw
import Derived.Outline
import Derived.IntWalk
set_option linter.unusedVariables false
set_option linter.unusedSimpArgs false
section
namespace Go.Proofs.Ytfmdllbkfpbdcaa.G
open Go Go.RowKit Go.Proofs.YtfmdllbkfpbdcaaX Go.Proofs.YtfmdllbkfpbdcaaW.PrintWords Go.Proofs.YtfmdllbkfpbdcaaW.PrintLast Go.Proofs.YtfmdllbkfpbdcaaW.PrintMore
attribute [local go_sem] max2_int min2_int max_two min_two
structure DrumS where
  seen : List Int
  kept : List Int
  ws : List S100
  armed : Int
  gone : Bool
def newD (n : Int) : DrumS := ⟨List.replicate (64 * n.toNat) 0, List.replicate (64 * n.toNat) 0, [], -1, false⟩
def Bts (w : World) (s : Nat) (l : List Int) : Prop := w.heap[s]? = some (.cells (nums .u8 l).toArray 5 (0, 0))
def IsDr (S : Nat → Prop) (B : Nat) (w : World) (g s k : Nat) (D : DrumS) : Prop := ∃ v,
  w.heap[g]? = some (.cells #[.slice (some ⟨s, 0, none⟩) D.seen.length D.seen.length, .slice (some ⟨k, 0, none⟩) D.kept.length D.kept.length, v, .int .i64 D.armed, .bool D.gone] 43 (0, 0)) ∧
  Bts w s D.seen ∧ Bts w k D.kept ∧ Kd.R k100 100 w B (fun b => S b ∧ b ≠ g ∧ b ≠ s ∧ b ≠ k) v D.ws ∧
  (S g ∧ S s ∧ S k) ∧ (B ≤ g ∧ B ≤ s ∧ B ≤ k) ∧ (g ≠ s ∧ g ≠ k ∧ s ≠ k) ∧ ∀ b, w.heap.size ≤ b → S b
theorem Bts.lt {w : World} {s : Nat} {l : List Int} (h : Bts w s l) : s < w.heap.size := blk_lt h
theorem Bts.kept {w W : World} {s : Nat} {l : List Int} (h : Bts w s l) (hk : W.heap[s]? = w.heap[s]?) : Bts W s l := hk.trans h
theorem made_nums (n : Nat) : madeCells (Value.int .u8 0).cells (n * 1) = (nums .u8 (List.replicate n 0)).toArray := by
  apply Array.ext'
  simp [madeCells, nums, Value.cells]
  apply List.ext_getElem
  · simp
  · intro i h1 h2
    simp [Nat.mod_one]
theorem al3 (w : World) (o1 o2 o3 : Obj) : (((w.alloc o1).alloc o2).alloc o3).heap[w.heap.size]? = some o1 ∧ (((w.alloc o1).alloc o2).alloc o3).heap[w.heap.size + 1]? = some o2 ∧ (((w.alloc o1).alloc o2).alloc o3).heap[w.heap.size + 2]? = some o3 := by
  refine ⟨?_, ?_, ?_⟩
  · rw [Below.heap_alloc _ _ _ (by simp; omega), Below.heap_alloc _ _ _ (by simp)]
    exact heap_alloc_new w o1
  · rw [Below.heap_alloc _ _ _ (by simp)]
    simpa using heap_alloc_new (w.alloc o1) o2
  · simpa using heap_alloc_new ((w.alloc o1).alloc o2) o3
theorem new_made (w : World) (n : Int) (s k g : Nat) (W : World) (hs : s = w.heap.size ∧ k = w.heap.size + 1 ∨ k = w.heap.size ∧ s = w.heap.size + 1) (hg : g = w.heap.size + 2)
    (h1 : Bts W s (List.replicate (64 * n.toNat) 0)) (h2 : Bts W k (List.replicate (64 * n.toNat) 0)) (hb : W.heap[g]? = some (.cells #[.slice (some ⟨s, 0, none⟩) (64 * n.toNat) (64 * n.toNat), .slice (some ⟨k, 0, none⟩) (64 * n.toNat) (64 * n.toNat), .slice none 0 0, .int .i64 (-1), .bool false] 43 (0, 0))) (hB : Below w.heap.size w W) :
    IsDr (fun b => w.heap.size ≤ b) w.heap.size W g s k (newD n) := by
  refine ⟨.slice none 0 0, ?_, h1, h2, Kd.R_nil _ _ _ _ _, ?_, ?_, ?_, fun b hb => Nat.le_trans hB.size hb⟩
  · simpa [newD] using hb
  · rcases hs with ⟨rfl, rfl⟩ | ⟨rfl, rfl⟩ <;> subst hg <;> exact ⟨by omega, by omega, by omega⟩
  · rcases hs with ⟨rfl, rfl⟩ | ⟨rfl, rfl⟩ <;> subst hg <;> exact ⟨by omega, by omega, by omega⟩
  · rcases hs with ⟨rfl, rfl⟩ | ⟨rfl, rfl⟩ <;> subst hg <;> exact ⟨by omega, by omega, by omega⟩
set_option maxHeartbeats 4000000 in
set_option maxRecDepth 100000 in
theorem new_ok (n : Int) (w : World) (h1 : 8 ≤ n) (h2 : n ≤ 8192) (h3 : n % 2 = 0) : Calls Try.prog 10 #[.int .i64 n] w fun e w' => ∃ g s k, e = .returned (.tuple #[.pointer (some ⟨g, 0, none⟩), .int .i64 0]) ∧ IsDr (fun b => w.heap.size ≤ b) w.heap.size w' g s k (newD n) ∧ Below w.heap.size w w' := by
  have c1 : decide (n < 8) = false := decide_eq_false (by omega)
  have c2 : decide (8192 < n) = false := decide_eq_false (by omega)
  have c3 : (n % 2 != 0) = false := by simpa using h3
  have h0 : 0 ≤ n := by omega
  have hu43 := Try.underlying43
  obtain ⟨i0, hi, hz0, hz1, hz2⟩ := info_parts info5
  have hmk : ∀ W : World, (Instr.makeSlice 30 (.int .i64 (64 * n)) (.int .i64 (64 * n))).run Try.prog W = .ok (.slice (some ⟨W.heap.size, 0, none⟩) (64 * n.toNat) (64 * n.toNat)) (W.alloc (.cells (nums .u8 (List.replicate (64 * n.toNat) 0)).toArray 5)) := by
    intro W
    have h := run_makeSlice (P := Try.prog) W 30 5 i0 (.int .u8 0) Try.underlying30 hi hz0 .i64 .i64 (64 * n) (64 * n) (by omega) (Int.le_refl _) (by rw [hz1]; omega) (by rw [hz2]; omega) (by omega)
    rw [hz1, made_nums, show (64 * n).toNat = 64 * n.toNat by omega] at h
    exact h
  have H0 := Aside0.mk h0
  clear hi hz0 hz1 hz2 h3
  go_enter Try.func10, Try.ntmps10
  go_wp2
  have hA := fun o3 : Obj => al3 w (.cells (nums .u8 (List.replicate (64 * n.toNat) 0)).toArray 5) (.cells (nums .u8 (List.replicate (64 * n.toNat) 0)).toArray 5) o3
  have HA := Aside0.mk hA
  clear hA
  go_region
  all_goals (go_wp2; go_ret2)
  · obtain ⟨a1, a2, a3⟩ := HA.out (.cells #[.slice (some ⟨w.heap.size, 0, none⟩) (64 * n.toNat) (64 * n.toNat), .slice (some ⟨w.heap.size + 1, 0, none⟩) (64 * n.toNat) (64 * n.toNat), .slice none 0 0, .int .i64 (-1), .bool false] 43 (0, 0))
    have hb := below_alloc (below_alloc (below_alloc (Below.refl w.heap.size w) (.cells (nums .u8 (List.replicate (64 * n.toNat) 0)).toArray 5)) (.cells (nums .u8 (List.replicate (64 * n.toNat) 0)).toArray 5)) (.cells #[.slice (some ⟨w.heap.size, 0, none⟩) (64 * n.toNat) (64 * n.toNat), .slice (some ⟨w.heap.size + 1, 0, none⟩) (64 * n.toNat) (64 * n.toNat), .slice none 0 0, .int .i64 (-1), .bool false] 43 (0, 0))
    exact ⟨_, _, _, rfl, new_made w n _ _ _ _ (.inl ⟨rfl, rfl⟩) rfl a1 a2 a3 (Below.drew hb), Below.drew hb⟩
  · obtain ⟨a1, a2, a3⟩ := HA.out (.cells #[.slice (some ⟨w.heap.size + 1, 0, none⟩) (64 * n.toNat) (64 * n.toNat), .slice (some ⟨w.heap.size, 0, none⟩) (64 * n.toNat) (64 * n.toNat), .slice none 0 0, .int .i64 (-1), .bool false] 43 (0, 0))
    have hb := below_alloc (below_alloc (below_alloc (Below.refl w.heap.size w) (.cells (nums .u8 (List.replicate (64 * n.toNat) 0)).toArray 5)) (.cells (nums .u8 (List.replicate (64 * n.toNat) 0)).toArray 5)) (.cells #[.slice (some ⟨w.heap.size + 1, 0, none⟩) (64 * n.toNat) (64 * n.toNat), .slice (some ⟨w.heap.size, 0, none⟩) (64 * n.toNat) (64 * n.toNat), .slice none 0 0, .int .i64 (-1), .bool false] 43 (0, 0))
    exact ⟨_, _, _, rfl, new_made w n _ _ _ _ (.inr ⟨rfl, rfl⟩) rfl a2 a1 a3 (Below.drew hb), Below.drew hb⟩
set_option maxHeartbeats 2000000 in
theorem sectors_blk (w : World) (g n c : Nat) (A : Option Addr) (v1 v2 v3 v4 : Value) (h : w.heap[g]? = some (.cells #[.slice A n c, v1, v2, v3, v4] 43 (0, 0))) (hn : n ≤ 1000000) : Calls Try.prog 18 #[.pointer (some ⟨g, 0, none⟩)] w fun e w' => e = .returned (.int .i64 ((n / 64 : Nat) : Int)) ∧ w' = w := by
  have hu43 := Try.underlying43
  obtain ⟨c0, c1, c2, c3, c4, f0, f1, f2, f3, f4⟩ := blk_at5 h
  have hn0 : (0 : Int) ≤ (n : Int) := by omega
  have hN := Aside0.mk hn
  clear h hn c1 c2 c3 c4 f0 f1 f2 f3 f4
  go_enter Try.func18, Try.ntmps18
  go_wp2
  go_ret
  refine ⟨?_, rfl⟩
  show Ending.returned (.int .i64 (wrap64 ((n : Int) / 64))) = _
  rw [show wrap64 ((n : Int) / 64) = ((n / 64 : Nat) : Int) from by unfold wrap64; have := hN.out; omega]
theorem sectors_nil (w : World) : Calls Try.prog 18 #[.pointer none] w fun e w' => e = .returned (.int .i64 0) ∧ w' = w := by
  go_enter Try.func18, Try.ntmps18
  go_wp2
  go_ret
  exact ⟨rfl, rfl⟩
def hasB (s at_ n : Int) : Bool := decide (0 ≤ at_ ∧ n ≤ s ∧ at_ ≤ s - n)
set_option maxHeartbeats 4000000 in
theorem has_of (w : World) (p : Value) (s at_ n : Int) (h : Calls Try.prog 18 #[p] w fun e w' => e = .returned (.int .i64 s) ∧ w' = w) (hs : 0 ≤ s) (hs' : s ≤ 1000000) (hn : 0 ≤ n) (hp : p.oneCell' = true) : Calls Try.prog 46 #[p, .int .i64 at_, .int .i64 n] w fun e w' => e = .returned (.bool (hasB s at_ n)) ∧ w' = w := by
  have H := Aside0.mk h
  clear h
  by_cases h1 : 0 ≤ at_
  rotate_left
  · have e : hasB s at_ n = false := by simp [hasB, h1]
    rw [e]
    have c1 : decide (0 ≤ at_) = false := decide_eq_false h1
    clear h1 e
    go_enter Try.func46, Try.ntmps46
    go_wp2
    go_ret
    exact ⟨rfl, rfl⟩
  have c1 : decide (0 ≤ at_) = true := decide_eq_true h1
  by_cases h2 : n ≤ s
  rotate_left
  · have e : hasB s at_ n = false := by simp [hasB, h2]
    rw [e]
    have c2 : decide (n ≤ s) = false := decide_eq_false h2
    clear h1 h2 e
    go_enter Try.func46, Try.ntmps46
    go_wp2_with (go_at_call 18; refine (H.out).mono ?_; rintro e w' ⟨rfl, rfl⟩)
    go_ret
    exact ⟨rfl, rfl⟩
  have c2 : decide (n ≤ s) = true := decide_eq_true h2
  by_cases h3 : at_ ≤ s - n
  · have e : hasB s at_ n = true := by simp [hasB, h1, h2, h3]
    rw [e]
    have c3 : decide (at_ ≤ s - n) = true := decide_eq_true h3
    clear e
    go_enter Try.func46, Try.ntmps46
    go_wp2_with (go_at_call 18; refine (H.out).mono ?_; rintro e w' ⟨rfl, rfl⟩)
    go_ret
    exact ⟨rfl, rfl⟩
  · have e : hasB s at_ n = false := by simp [hasB, h3]
    rw [e]
    have c3 : decide (at_ ≤ s - n) = false := decide_eq_false h3
    clear e h3
    go_enter Try.func46, Try.ntmps46
    go_wp2_with (go_at_call 18; refine (H.out).mono ?_; rintro e w' ⟨rfl, rfl⟩)
    go_ret
    exact ⟨rfl, rfl⟩
set_option maxHeartbeats 2000000 in
theorem gone_blk (w : World) (g : Nat) (v0 v1 v2 v3 : Value) (b : Bool) (h : w.heap[g]? = some (.cells #[v0, v1, v2, v3, .bool b] 43 (0, 0))) : Calls Try.prog 20 #[.pointer (some ⟨g, 0, none⟩)] w fun e w' => e = .returned (.bool b) ∧ w' = w := by
  have hu43 := Try.underlying43
  obtain ⟨c0, c1, c2, c3, c4, f0, f1, f2, f3, f4⟩ := blk_at5 h
  clear h c0 c1 c2 c3 f0 f1 f2 f3 f4
  go_enter Try.func20, Try.ntmps20
  go_wp2
  go_ret
  exact ⟨rfl, rfl⟩
theorem IsDr.opens {S : Nat → Prop} {B : Nat} {w : World} {g s k : Nat} {D : DrumS} (h : IsDr S B w g s k D) : ∃ A c, A = A ∧ w.heap[g]? = some (.cells #[.slice (some ⟨s, 0, none⟩) D.seen.length D.seen.length, .slice (some ⟨k, 0, none⟩) D.kept.length D.kept.length, .slice A D.ws.length c, .int .i64 D.armed, .bool D.gone] 43 (0, 0)) ∧ Kd.R k100 100 w B (fun b => S b ∧ b ≠ g ∧ b ≠ s ∧ b ≠ k) (.slice A D.ws.length c) D.ws := by
  obtain ⟨v, h1, h2, h3, h4, h5⟩ := h
  obtain ⟨A, c, rfl⟩ := Kd.R_slice h4
  exact ⟨A, c, rfl, h1, h4⟩
theorem IsDr.put {S : Nat → Prop} {B : Nat} {w W : World} {g s k : Nat} {D D' : DrumS} {v : Value} (h : IsDr S B w g s k D) (hs : D'.seen = D.seen) (hk : D'.kept = D.kept)
    (hb : W.heap[g]? = some (.cells #[.slice (some ⟨s, 0, none⟩) D.seen.length D.seen.length, .slice (some ⟨k, 0, none⟩) D.kept.length D.kept.length, v, .int .i64 D'.armed, .bool D'.gone] 43 (0, 0)))
    (h1 : W.heap[s]? = w.heap[s]?) (h2 : W.heap[k]? = w.heap[k]?) (hR : Kd.R k100 100 W B (fun b => S b ∧ b ≠ g ∧ b ≠ s ∧ b ≠ k) v D'.ws) (hle : w.heap.size ≤ W.heap.size) : IsDr S B W g s k D' := by
  obtain ⟨v0, h3, h4, h5, h6, h7, h8, h9, h10⟩ := h
  exact ⟨v, by rw [hs, hk]; exact hb, by rw [hs]; exact h4.kept h1, by rw [hk]; exact h5.kept h2, hR, h7, h8, h9, fun b hb => h10 b (Nat.le_trans hle hb)⟩
theorem R_set_ {α : Type} {d : Kd α} {e : Nat} {W : World} {base : Nat} {ok : Nat → Prop} {v : Value} {xs : List α} (h : d.R e W base ok v xs) (p : Addr) (u : Value) (hp : ∀ k, ok k → k ≠ p.block) : d.R e (W.setCell p u) base ok v xs :=
  Kd.R_move h (fun k hk => Below.heap_setCell _ _ _ _ (hp k hk))
def CopyTo (w w' : World) (g : Nat) (cs : Array Value) (t : TypeId) : Prop := w'.heap[g]? = some (.cells cs t (0, 0)) ∧ KeepBut w w' g none ∧ ∀ B w0, B ≤ g → Below B w0 w → Below B w0 w'
theorem copy_to {w : World} {g : Nat} {cur : Array Value} {t : TypeId} (hg : w.heap[g]? = some (.cells cur t (0, 0))) (cs : Array Value) : CopyTo w (w.setRow g cs) g cs t :=
  ⟨setRow_heap w g _ cs t _ hg, ⟨by simp [World.setRow], fun i _ hne _ => setRow_other w g i cs hne⟩, fun B w0 hB h => below_setRow h hB cs⟩
theorem step_copy_to {P : Program} {ops : Array Oper} {o : Oper} {a : Act} {w : World} {K : Act → World → Prop} {Q : Exit → Act → World → Prop} {E : Prop} (hgd : o.guard = none) (d s : Operand) (dT sT : TypeId)
    (ho : o.op = .call { callee := .builtin .copy, args := #[d, s], argTypes := #[dT, sT] }) (elem : TypeId) (hu : P.underlying dT = some (.slice elem)) (hsz : (P.info? elem).map (·.size) = some 1)
    (ad : Addr) (dLen dCap sLen sCap g off : Nat) (hd : a.eval d = .slice (some ⟨g, off, none⟩) dLen dCap) (hs : a.eval s = .slice (some ad) sLen sCap)
    (cur : List Value) (t : TypeId) (hg : w.heap[g]? = some (.cells cur.toArray t (0, 0))) (cs : List Value) (hn : cs.length = min sLen dLen) (hsrc : ∀ j v, cs[j]? = some v → w.cell? (ad.add j) = some v)
    (hfit : off + cs.length ≤ cur.length) (h1 : ∀ v ∈ cs, v.oneCell' = true)
    (h : ∀ w', CopyTo w w' g (splice cur off cs).toArray t → K (a.put o.dst (goInt cs.length)) w') :
    if Region.wanted o (yielded ops a.tmps) = true then Oper.wp P o a w K Q else E := by
  have hw : Region.wanted o (yielded ops a.tmps) = true := by simp [Region.wanted, hgd]
  rw [if_pos hw]
  have hrun := run_copy_row (P := P) w dT sT o.type elem g off dLen dCap ad sLen sCap cur.toArray t cs hu hsz hg hn hsrc (by simpa using hfit) h1
  unfold Oper.wp
  simp only [execOp, ho, resolve, invoke, builtin, List.map_toArray, List.map_cons, List.map_nil, hd, hs, Sem.run_bind, Sem.run_pure, Result.andThen_ok, hrun]
  exact h _ (by simpa [splice] using copy_to hg (splice cur off cs).toArray)
theorem nums_splice (k : IntKind) (L cs : List Int) (off : Nat) : splice (nums k L) off (nums k cs) = nums k (splice L off cs) := by simp [splice, nums]
theorem cut_at {P : Program} (t e : TypeId) {i : TypeInfo} (ht : P.underlying t = some (.slice e)) (hi : P.info? e = some i) (hsz : i.size = 1) (s n lo : Nat) (j : Int) (hj : j = (lo : Int)) (h : lo < n) (W : World) : (Instr.slice t (.slice (some ⟨s, 0, none⟩) n n) (some (.int .i64 j)) none none).run P W = .ok (.slice (some ⟨s, lo, none⟩) (n - lo) (n - lo)) W := by
  subst hj
  have h2 := cut_from (P := P) t e .i64 ht hi 1 hsz (some ⟨s, 0, none⟩) n n (lo : Int) (by omega) (by omega) W
  rw [Int.toNat_natCast, if_neg (by omega)] at h2
  rw [h2]
  simp only [Option.map_some, Addr.add]
  split
  · rename_i h0
    rw [show lo = 0 by omega]
  · simp
theorem nums_len (k : IntKind) (l : List Int) : (nums k l).length = l.length := by simp [nums]
theorem nums_one {k : IntKind} {l : List Int} {v : Value} (h : v ∈ nums k l) : v.oneCell' = true := by
  simp only [nums, List.mem_map] at h
  obtain ⟨x, _, rfl⟩ := h
  rfl
theorem C_cells {k : IntKind} {w : World} {A : Option Addr} {l : List Int} (h : Kd.C (Kd.int k) w A l.length l) : ∀ (j : Nat) (v : Value), (nums k l)[j]? = some v → ∃ ad, A = some ad ∧ w.cell? (ad.add j) = some v := by
  intro j v hv
  have hj : j < l.length := by
    rcases Nat.lt_or_ge j l.length with h | h
    · exact h
    · rw [List.getElem?_eq_none (by rw [nums_len]; exact h)] at hv
      cases hv
  obtain ⟨ad, e, hx⟩ := Kd.at_int h (j : Int) (by omega) (by omega)
  refine ⟨ad, e, ?_⟩
  rw [Int.toNat_natCast] at hx
  rw [hx, ← hv]
  simp [nums, rd, hj]
theorem R_keepBut_ {α : Type} {d : Kd α} {e : Nat} {W W' : World} {base g : Nat} {ok : Nat → Prop} {v : Value} {xs : List α} (h : d.R e W base ok v xs) (hk : KeepBut W W' g none) (hok : ∀ k, ok k → k ≠ g) : d.R e W' base ok v xs :=
  Kd.R_mono (Kd.R_move (Kd.R_bound h) (fun k hk' => hk.2 k hk'.2.2.1 (hok k hk'.1) (by simp))) (fun _ hk => hk.1)
theorem IsDr.kept_ {S : Nat → Prop} {B : Nat} {w W : World} {g s k : Nat} {D : DrumS} {l : List Int} (h : IsDr S B w g s k D) (hb : Bts W k l) (hk : KeepBut w W k none) (hl : l.length = D.kept.length) : IsDr S B W g s k { D with kept := l } := by
  obtain ⟨v, h1, h2, h3, h4, h5, h6, h7, h8⟩ := h
  refine ⟨v, ?_, h2.kept (hk.2 s h2.lt h7.2.2 (by simp)), hb, R_keepBut_ h4 hk (fun b hb => hb.2.2.2), h5, h6, h7, fun b hb => h8 b (Nat.le_trans hk.1 hb)⟩
  rw [hl]
  exact (hk.2 g (blk_lt h1) h7.2.1 (by simp)).trans h1
def keepD (a : Nat) (l : List Int) (D : DrumS) : DrumS := { D with kept := splice D.kept (64 * a) l }
set_option maxHeartbeats 4000000 in
set_option maxRecDepth 100000 in
theorem keep_calls (S : Nat → Prop) (B : Nat) (w : World) (g s k : Nat) (D : DrumS) (a : Nat) (A : Option Addr) (c : Nat) (l : List Int) (h : IsDr S B w g s k D) (hB : B ≤ w.heap.size) (hC : Kd.C (Kd.int .u8) w A l.length l) (hc : l.length ≤ c) (hl : l.length = 64) (ha : 64 * a + 64 ≤ D.kept.length) (hn : D.kept.length ≤ 1000000) :
    Calls Try.prog 50 #[.pointer (some ⟨g, 0, none⟩), .agg #[.int .i64 (a : Int), .slice A l.length c]] w fun e w' => (∃ v, e = .returned v) ∧ IsDr S B w' g s k (keepD a l D) ∧ Below B w w' ∧ KeepBut w w' k none := by
  have hu43 := Try.underlying43
  have hu100 := Try.underlying100
  have H := Aside0.mk h
  obtain ⟨v, h1, h2, h3, h4, ⟨h5, h6, h7⟩, ⟨h8, h8s, h8k⟩, ⟨n1, n2, n3⟩, h10⟩ := h
  have BK := Aside0.mk h1
  have HBk := Aside0.mk h8k
  have HSk := Aside0.mk h7
  have HK := Aside0.mk h3
  have HB := Aside0.mk (Below.refl w.heap.size w)
  obtain ⟨i0, hi, hz0, hz1, hz2⟩ := info_parts info5
  have hcut := fun W => cut_at (P := Try.prog) 30 5 Try.underlying30 hi hz1 k D.kept.length (64 * a) (64 * (a : Int)) (by omega) (by omega) W
  have hsz : (Try.prog.info? 5).map (·.size) = some 1 := by rw [hi]; simp [hz1]
  have HC := Aside0.mk hC
  have HA := Aside0.mk ha
  have HL := Aside0.mk hl
  have HSZ := Aside0.mk hsz
  have HBW := Aside0.mk hB
  have q1 : (0 : Int) ≤ (a : Int) := by omega
  have q2 : (a : Int) ≤ 20000 := by omega
  have q3 : (64 * (a : Int)) = ((64 * a : Nat) : Int) := by simp
  have Q3 := Aside0.mk q3
  clear h1 h2 h3 h4 h5 h6 h7 h8 h8s h8k n1 n2 n3 h10 hi hz0 hz1 hz2 hsz hC ha hl hB q3
  obtain ⟨n, hne⟩ : ∃ n, n = l.length := ⟨_, rfl⟩
  rw [← hne]
  have HNE := Aside0.mk hne
  clear hne
  go_enter Try.func50, Try.ntmps50
  go_wp2_with (first | ((with_reducible refine gate_dst (N := 3) rfl ?_); refine box_ev 3 #[.int .i64 (a : Int), .slice A n c] 100 ?_; intro gb hg w1 hbox hb; have n_ := pk3 (below_step bl_ hb) hbox (blk_below BK.out hb); clear HB BK; obtain ⟨HB, BKb, BK⟩ := n_; clear hb hbox hg; obtain ⟨b0, b1, fb0, fb1⟩ := blk_at2 BKb.out; obtain ⟨c0, c1, c2, c3, c4, f0, f1, f2, f3, f4⟩ := blk_at5 BK.out))
  clear c0 c2 c3 c4 f0 f1 f2 f3 f4 fb0 fb1
  have HKw : Aside0 (Bts w1 k D.kept) := ⟨blk_below HK.out HB.out⟩
  have HCw : Aside0 (∀ j v, (nums .u8 l)[j]? = some v → ∃ ad, A = some ad ∧ w1.cell? (ad.add j) = some v) := ⟨C_cells (Kd.C_below HC.out HB.out)⟩
  have HBB : Aside0 (Below B w w1) := ⟨HB.out.mono HBW.out⟩
  have z1 : (0 : Int) ≤ 64 * (a : Int) := by omega
  have z2 : 64 * (a : Int) ≤ ((D.kept.length : Nat) : Int) := by have := HA.out; omega
  have hw : IntKind.i64.wrap (64 * (a : Int)) = 64 * (a : Int) := IntWalk.i64_in _ (by omega)
  have HB0 := HB
  clear HK BK HB HC BKb
  obtain ⟨ad, hA⟩ : ∃ ad, A = some ad := by
    obtain ⟨ad, e, _⟩ := HCw.out 0 _ (List.getElem?_eq_getElem (by rw [nums_len, HL.out]; decide))
    exact ⟨ad, e⟩
  subst hA
  have HCx : Aside0 (∀ j v, (nums .u8 l)[j]? = some v → w1.cell? (ad.add j) = some v) := ⟨fun j v hv => by obtain ⟨ad', e', h'⟩ := HCw.out j v hv; cases e'; exact h'⟩
  clear HCw
  have fin : ∀ w2, CopyTo w1.drew w2 k (splice (nums .u8 D.kept) (64 * a) (nums .u8 l)).toArray 5 → IsDr S B w2 g s k (keepD a l D) ∧ Below B w w2 ∧ KeepBut w w2 k none := fun w2 hcp => by
    have hk1 : KeepBut w w1.drew k none := KeepBut.of_below (Below.drew HB0.out) k none
    refine ⟨H.out.kept_ (by unfold Bts; rw [← nums_splice]; exact hcp.1) (KeepBut.trans hk1 hcp.2.1 (.inl rfl)) (length_splice _ _ _ (by have := HA.out; have := HL.out; omega)), hcp.2.2 B w HBk.out (Below.drew HBB.out), KeepBut.trans hk1 hcp.2.1 (.inl rfl)⟩
  have FIN := Aside0.mk fin
  clear fin
  go_region_law ((refine step_copy_to rfl (.tmp 11) (.tmp 13) 30 30 (by rfl) 5 Try.underlying30 HSZ.out ad (D.kept.length - 64 * a) (D.kept.length - 64 * a) n c k (64 * a) (by rfl) (by rfl) (nums .u8 D.kept) 5 HKw.out (nums .u8 l) (by rw [nums_len, HNE.out, Nat.min_eq_left]; have := HA.out; have := HL.out; omega) HCx.out (by rw [nums_len, nums_len]; have := HA.out; have := HL.out; omega) (fun v hv => nums_one hv) ?_; intro w2 hcp))
  all_goals (go_wp2; go_end0; exact ⟨⟨_, rfl⟩, FIN.out _ hcp⟩)
theorem below_put2 {B : Nat} {w0 W : World} {b : Nat} (h : Below B w0 W) (hb : B ≤ b) (x y : Value) : Below B w0 ((W.setCell ⟨b, 0, none⟩ x).setCell ⟨b, 1, none⟩ y) := (h.setCell (p := ⟨b, 0, none⟩) hb _).setCell (p := ⟨b, 1, none⟩) hb _
theorem getD_mem_ {α : Type} (l : List α) (i : Nat) (d : α) (h : i < l.length) : l.getD i d ∈ l := by
  rw [List.getD_eq_getElem?_getD, List.getElem?_eq_getElem h]
  exact List.getElem_mem h
theorem IsDr.below {S : Nat → Prop} {B : Nat} {w W : World} {g s k : Nat} {D : DrumS} (h : IsDr S B w g s k D) (hb : Below w.heap.size w W) : IsDr S B W g s k D := by
  obtain ⟨v, h1, h2, h3, h4, h5, h6, h7, h8⟩ := h
  exact ⟨v, (hb.block g (blk_lt h1)).trans h1, h2.kept (hb.block s h2.lt), h3.kept (hb.block k h3.lt), Kd.R_below h4 hb, h5, h6, h7, fun b h => h8 b (Nat.le_trans hb.size h)⟩
def DrumS.Good (D : DrumS) : Prop := D.seen.length = D.kept.length ∧ D.kept.length ≤ 524288 ∧ ∀ x ∈ D.ws, 0 ≤ x.f0 ∧ 64 * x.f0 + 64 ≤ D.kept.length ∧ x.f1.length = 64
def keepAll (l : List S100) (D : DrumS) : DrumS := l.foldl (fun D x => keepD x.f0.toNat x.f1 D) D
theorem keepAll_snoc (l : List S100) (x : S100) (D : DrumS) : keepAll (l ++ [x]) D = keepD x.f0.toNat x.f1 (keepAll l D) := by simp [keepAll]
theorem keepAll_ws (l : List S100) : ∀ D : DrumS, (keepAll l D).ws = D.ws ∧ (keepAll l D).seen = D.seen ∧ (keepAll l D).armed = D.armed ∧ (keepAll l D).gone = D.gone := by
  induction l with
  | nil => intro D; exact ⟨rfl, rfl, rfl, rfl⟩
  | cons x xs ih => intro D; exact ih _
theorem keepAll_len (l : List S100) : ∀ D : DrumS, (∀ x ∈ l, 0 ≤ x.f0 ∧ 64 * x.f0 + 64 ≤ D.kept.length ∧ x.f1.length = 64) → (keepAll l D).kept.length = D.kept.length := by
  induction l with
  | nil => intro D _; rfl
  | cons x xs ih =>
    intro D h
    have h1 := h x (by simp)
    have e : (keepD x.f0.toNat x.f1 D).kept.length = D.kept.length := length_splice _ _ _ (by omega)
    have := ih (keepD x.f0.toNat x.f1 D) (fun y hy => by rw [e]; exact h y (List.mem_cons_of_mem _ hy))
    exact this.trans e
theorem IsDr.unwritten {S : Nat → Prop} {B : Nat} {w : World} {g s k : Nat} {D : DrumS} (h : IsDr S B w g s k D) : IsDr S B (w.setCell ⟨g, 2, none⟩ (.slice none 0 0)) g s k { D with ws := [] } ∧ Below B w (w.setCell ⟨g, 2, none⟩ (.slice none 0 0)) ∧ Kept w (w.setCell ⟨g, 2, none⟩ (.slice none 0 0)) S := by
  have h' := h
  obtain ⟨v, h1, h2, h3, h4, h5, h6, h7, h8⟩ := h
  exact ⟨h'.put (v := .slice none 0 0) rfl rfl (blk_put (cs := #[.slice (some ⟨s, 0, none⟩) D.seen.length D.seen.length, .slice (some ⟨k, 0, none⟩) D.kept.length D.kept.length, v, .int .i64 D.armed, .bool D.gone]) h1 2 _ rfl) (Below.heap_setCell _ ⟨g, 2, none⟩ _ _ (Ne.symm h7.1)) (Below.heap_setCell _ ⟨g, 2, none⟩ _ _ (Ne.symm h7.2.1)) (Kd.R_nil _ _ _ _ _) (by simp),
    (Below.refl _ _).setCell (p := ⟨g, 2, none⟩) h6.1 _, (Kept.refl _ _).setCell (p := ⟨g, 2, none⟩) (.inl h5.1) _⟩
def syncD (D : DrumS) : DrumS := if D.gone then D else { keepAll D.ws D with ws := [] }
set_option maxHeartbeats 8000000 in
set_option maxRecDepth 100000 in
theorem sync_calls (S : Nat → Prop) (B : Nat) (w : World) (g s k : Nat) (D : DrumS) (h : IsDr S B w g s k D) (hB : B ≤ w.heap.size) (hG : D.Good) : Calls Try.prog 14 #[.pointer (some ⟨g, 0, none⟩)] w fun e w' => (∃ v, e = .returned v) ∧ IsDr S B w' g s k (syncD D) ∧ Below B w w' ∧ Kept w w' S := by
  have hu43 := Try.underlying43
  have hu100 := Try.underlying100
  have H := Aside0.mk h
  obtain ⟨A, c, _, h1, hR⟩ := h.opens
  obtain ⟨c0, c1, c2, c3, c4, f0, f1, f2, f3, f4⟩ := blk_at5 h1
  have HG := Aside0.mk hG
  have HBW := Aside0.mk hB
  have HRR := Aside0.mk hR
  have HSk : Aside0 (S k) := ⟨by obtain ⟨_, _, _, _, _, h, _⟩ := h; exact h.2.2⟩
  clear h hG hB c0 c1 c3 f0 f1 f2 f3 f4 hR h1
  cases hg : D.gone with
  | true =>
    rw [hg] at c4
    have HGo := Aside0.mk hg
    clear hg
    go_enter Try.func14, Try.ntmps14
    go_wp2
    refine bodyPost_ret (results_none rfl _ _ _) rfl ?_
    exact ⟨⟨_, rfl⟩, by unfold syncD; rw [HGo.out, if_pos rfl]; exact H.out, Below.refl _ _, Kept.refl _ _⟩
  | false =>
    rw [hg] at c4
    have HGo := Aside0.mk hg
    clear hg
    obtain ⟨m, hm⟩ : ∃ m, m = D.ws.length := ⟨_, rfl⟩
    rw [← hm] at c2
    have HM := Aside0.mk hm
    have hm63 : m ≤ 9223372036854775807 := by rw [hm]; exact (Kd.R_reads' HRR.out).2.2.2.1
    clear hm
    go_enter Try.func14, Try.ntmps14
    go_wp2
    go_loopw [17] (fun i wr => ∃ j : Nat, j ≤ m ∧ i = .int .i64 (j : Int) ∧ Aside0 (IsDr S B wr g s k (keepAll (D.ws.take j) D)) ∧ Aside0 (Below B w wr) ∧ Aside0 (KeepBut w wr k none)) (fun i _ => m - (intOf i).toNat)
    case atStart => exact ⟨0, Nat.zero_le _, rfl, H, ⟨Below.refl _ _⟩, ⟨KeepBut.refl _ _ _⟩⟩
    case round =>
      clear c2 c4
      obtain ⟨j, hj, rfl, HI, HB, HK⟩ := hrel
      by_cases hlt : j < m
      · have HRw := Aside0.mk (R_keepBut_ HRR.out HK.out (fun b hb => hb.2.2.2))
        obtain ⟨x, hx⟩ : ∃ x, x = rd_T100 D.ws (j : Int) := ⟨_, rfl⟩
        obtain ⟨ad, A1, c1, e, x0, x1, hc1, hC1⟩ := at_T100 (Kd.R_reads' HRw.out).2.2 (j : Int) (by omega) (by have := HM.out; omega)
        rw [← hx] at x0 x1 hc1 hC1
        rw [Int.toNat_natCast] at x0 x1
        subst e
        have hmem : x ∈ D.ws := by rw [hx]; exact getD_mem_ D.ws j _ (by have := HM.out; omega)
        obtain ⟨y0, y1, y2⟩ := HG.out.2.2 x hmem
        obtain ⟨a, ha⟩ : ∃ a : Nat, x.f0 = (a : Int) := ⟨x.f0.toNat, by omega⟩
        rw [ha] at x0 y1
        have HX := Aside0.mk hx
        have HA := Aside0.mk ha
        have HC1 := Aside0.mk hC1
        have Hc1 := Aside0.mk hc1
        have Y1 := Aside0.mk y1
        have Y2 := Aside0.mk y2
        have X0 := Aside0.mk x0
        have X1 := Aside0.mk x1
        have hj0 : (0 : Int) ≤ (j : Int) := by omega
        have hj1 : (j : Int) < (m : Int) := by omega
        have HBr := Aside0.mk (Below.refl wr.heap.size wr)
        have HLN : Aside0 ((keepAll (D.ws.take j) D).kept.length = D.kept.length) := ⟨keepAll_len _ _ (fun z hz => HG.out.2.2 z (List.mem_of_mem_take hz))⟩
        clear hx ha hC1 hc1 y0 y1 y2 hmem
        go_wp2_with (first
          | ((with_reducible refine gate_dst (N := 3) rfl ?_); refine box_ev 3 #[.int .i64 0, .slice none 0 0] 100 ?_; intro gb hg w1 hbox hb; have n_ := pk3 hb hbox (show wr.heap.size ≤ gb by rw [hg]; exact Nat.le_refl _); clear HBr; obtain ⟨HBr, BKb, GE⟩ := n_; clear hb hbox hg; obtain ⟨b0, b1, fb0, fb1⟩ := blk_at2 BKb.out)
          | (go_at_call 50; (with_reducible refine (keep_calls S B _ g s k (keepAll (D.ws.take j) D) a A1 c1 x.f1 (HI.out.below (below_put2 HBr.out GE.out _ _)) ?s1 ?s2 Hc1.out Y2.out ?s3 ?s4).mono ?_); (case s1 => exact Nat.le_trans (Nat.le_trans HBW.out HB.out.size) (below_put2 HBr.out GE.out _ _).size); (case s2 => exact Kd.C_below HC1.out (below_put2 HBr.out GE.out _ _)); (case s3 => rw [HLN.out]; have := Y1.out; omega); (case s4 => rw [HLN.out]; exact Nat.le_trans HG.out.2.1 (by decide)); rintro e w4 ⟨⟨v, rfl⟩, hd, hb, hk⟩; have n_ := pk3 hd (HB.out.trans ((below_put2 HBr.out GE.out _ _).mono (Nat.le_trans HBW.out HB.out.size) |>.trans hb)) (KeepBut.trans HK.out (KeepBut.trans (KeepBut.of_below (below_put2 HBr.out GE.out _ _) k none) hk (.inl rfl)) (.inl rfl)); obtain ⟨HD4, HB4, HK4⟩ := n_; clear hd hb hk b0 b1 fb0 fb1))
        have hs : D.ws.take (j + 1) = D.ws.take j ++ [x] := by
          rw [List.take_succ_eq_append_getElem (by have := HM.out; omega), HX.out]
          congr 2
          show _ = D.ws.getD ((j : Int)).toNat _
          rw [Int.toNat_natCast, List.getD_eq_getElem?_getD, List.getElem?_eq_getElem (by have := HM.out; omega)]
          rfl
        have HD5 : Aside0 (IsDr S B w4 g s k (keepAll (D.ws.take (j + 1)) D)) := ⟨by rw [hs, keepAll_snoc, HA.out]; exact HD4.out⟩
        clear hs
        go_roundw
        case rel => exact ⟨j + 1, by omega, by go_num, HD5, HB4, HK4⟩
        case measure => simp [intOf]; omega
      · obtain rfl : j = m := by omega
        have BK := Aside0.mk HI.out.opens.choose_spec.choose_spec.2.1
        obtain ⟨c0, c1, c2, c3, c4, f0, f1, f2, f3, f4⟩ := blk_at5 BK.out
        clear c0 c1 c3 c4 f0 f1 f3 f4 BK
        go_wp2
        go_end0
        obtain ⟨e1, e2, e3⟩ := HI.out.unwritten
        refine ⟨⟨_, rfl⟩, ?_, HB.out.trans e2, (Kept.of_keep (Kept.refl _ _) HK.out (.inl HSk.out)).then_ e3 (fun _ h => .inl h)⟩
        unfold syncD
        rw [HGo.out, if_neg (by decide)]
        rw [List.take_of_length_le (by rw [HM.out]; exact Nat.le_refl _)] at e1
        exact e1
end Go.Proofs.Ytfmdllbkfpbdcaa.G
end
section
namespace Go.Proofs.Ytfmdllbkfpbdcaa.G
open Go Go.RowKit Go.Proofs.YtfmdllbkfpbdcaaX Go.Proofs.YtfmdllbkfpbdcaaW.PrintWords Go.Proofs.YtfmdllbkfpbdcaaW.PrintLast Go.Proofs.YtfmdllbkfpbdcaaW.PrintMore
attribute [local go_sem] max2_int min2_int max_two min_two
def patAt (pat : List Bool) (j : Nat) : Bool := decide (0 < pat.length) && pat.getD (j % pat.length) false
def crashTo (pat : List Bool) (l : List S100) (D : DrumS) : Nat → DrumS
  | 0 => D
  | j + 1 => if patAt pat j = true then keepD (l.getD j z100).f0.toNat (l.getD j z100).f1 (crashTo pat l D j) else crashTo pat l D j
theorem crashTo_same (pat : List Bool) (l : List S100) (D : DrumS) : ∀ j, (crashTo pat l D j).ws = D.ws ∧ (crashTo pat l D j).seen = D.seen
  | 0 => ⟨rfl, rfl⟩
  | j + 1 => by
    unfold crashTo
    split
    · exact crashTo_same pat l D j
    · exact crashTo_same pat l D j
theorem crashTo_len (pat : List Bool) (l : List S100) (D : DrumS) (h : ∀ x ∈ l, 0 ≤ x.f0 ∧ 64 * x.f0 + 64 ≤ D.kept.length ∧ x.f1.length = 64) : ∀ j, j ≤ l.length → (crashTo pat l D j).kept.length = D.kept.length
  | 0, _ => rfl
  | j + 1, hj => by
    have ih := crashTo_len pat l D h j (by omega)
    unfold crashTo
    split
    · have hm := h _ (getD_mem_ l j z100 (by omega))
      exact (length_splice _ _ _ (by omega)).trans ih
    · exact ih
theorem splice_all {α : Type} (L cs : List α) (h : L.length = cs.length) : splice L 0 cs = cs := by
  simp [splice, ← h]
theorem Bts.cells {w : World} {k : Nat} {l : List Int} (h : Bts w k l) : ∀ (j : Nat) (v : Value), (nums .u8 l)[j]? = some v → w.cell? ((⟨k, 0, none⟩ : Addr).add j) = some v := by
  intro j v hv
  have e : (⟨k, 0, none⟩ : Addr).add j = ⟨k, j, none⟩ := by unfold Addr.add; split <;> simp_all
  rw [e, blk_cell h j]
  simpa using hv
def crashD (pat : List Bool) (D : DrumS) : DrumS := ⟨(crashTo pat D.ws D D.ws.length).kept, (crashTo pat D.ws D D.ws.length).kept, [], -1, false⟩
set_option maxHeartbeats 16000000 in
set_option maxRecDepth 100000 in
theorem crash_calls (S : Nat → Prop) (B : Nat) (w : World) (g s k : Nat) (D : DrumS) (P : Option Addr) (pc : Nat) (pat : List Bool) (h : IsDr S B w g s k D) (hB : B ≤ w.heap.size) (hG : D.Good) (hP : Kd.F Kd.bool w (fun b => ¬ S b) P pat.length pat) :
    Calls Try.prog 16 #[.pointer (some ⟨g, 0, none⟩), .slice P pat.length pc] w fun e w' => (∃ v, e = .returned v) ∧ IsDr S B w' g s k (crashD pat D) ∧ Below B w w' ∧ Kept w w' S := by
  have hu43 := Try.underlying43
  have hu100 := Try.underlying100
  have H := Aside0.mk h
  obtain ⟨A, c, _, h1, hR⟩ := h.opens
  obtain ⟨c0, c1, c2, c3, c4, f0, f1, f2, f3, f4⟩ := blk_at5 h1
  have HG := Aside0.mk hG
  have HBW := Aside0.mk hB
  have HRR := Aside0.mk hR
  have HP := Aside0.mk hP
  have HSk : Aside0 (S k) := ⟨by obtain ⟨_, _, _, _, _, h, _⟩ := h; exact h.2.2⟩
  clear h hG hB c0 c1 c3 c4 f0 f1 f2 f3 f4 hR h1 hP
  obtain ⟨m, hm⟩ : ∃ m, m = D.ws.length := ⟨_, rfl⟩
  rw [← hm] at c2
  have HM := Aside0.mk hm
  have hm63 : m ≤ 9223372036854775807 := by rw [hm]; exact (Kd.R_reads' HRR.out).2.2.2.1
  clear hm
  obtain ⟨p, hp⟩ : ∃ p, p = pat.length := ⟨_, rfl⟩
  rw [← hp]
  have HPL := Aside0.mk hp
  clear hp
  go_enter Try.func16, Try.ntmps16
  go_wp2
  go_loopw [13] (fun i wr => ∃ j : Nat, j ≤ m ∧ i = .int .i64 (j : Int) ∧ Aside0 (IsDr S B wr g s k (crashTo pat D.ws D j)) ∧ Aside0 (Below B w wr) ∧ Aside0 (KeepBut w wr k none)) (fun i _ => m - (intOf i).toNat)
  case atStart => exact ⟨0, Nat.zero_le _, rfl, H, ⟨Below.refl _ _⟩, ⟨KeepBut.refl _ _ _⟩⟩
  case round =>
    clear c2
    obtain ⟨j, hj, rfl, HI, HB, HK⟩ := hrel
    by_cases hlt : j < m
    · have HRw := Aside0.mk (R_keepBut_ HRR.out HK.out (fun b hb => hb.2.2.2))
      obtain ⟨x, hx⟩ : ∃ x, x = rd_T100 D.ws (j : Int) := ⟨_, rfl⟩
      obtain ⟨ad, A1, c1, e, x0, x1, hc1, hC1⟩ := at_T100 (Kd.R_reads' HRw.out).2.2 (j : Int) (by omega) (by have := HM.out; omega)
      rw [← hx] at x0 x1 hc1 hC1
      rw [Int.toNat_natCast] at x0 x1
      subst e
      have hmem : x ∈ D.ws := by rw [hx]; exact getD_mem_ D.ws j _ (by have := HM.out; omega)
      obtain ⟨y0, y1, y2⟩ := HG.out.2.2 x hmem
      obtain ⟨a, ha⟩ : ∃ a : Nat, x.f0 = (a : Int) := ⟨x.f0.toNat, by omega⟩
      rw [ha] at x0 y1
      have HX : Aside0 (D.ws.getD j z100 = x) := ⟨by rw [hx]; show _ = D.ws.getD ((j : Int)).toNat _; rw [Int.toNat_natCast]⟩
      have HA := Aside0.mk ha
      have HC1 := Aside0.mk hC1
      have Hc1 := Aside0.mk hc1
      have Y1 := Aside0.mk y1
      have Y2 := Aside0.mk y2
      have hj0 : (0 : Int) ≤ (j : Int) := by omega
      have hj1 : (j : Int) < (m : Int) := by omega
      have HBr := Aside0.mk (Below.refl wr.heap.size wr)
      have HLN : Aside0 ((crashTo pat D.ws D j).kept.length = D.kept.length) := ⟨crashTo_len _ _ _ HG.out.2.2 j (by have := HM.out; omega)⟩
      have HPw := Aside0.mk (Kd.F_keep HP.out HK.out (fun b hb => fun e => hb (by rw [e]; exact HSk.out)))
      clear hx ha hC1 hc1 y0 y1 y2 hmem
      have done : ∀ (W : World) (D' : DrumS), D' = crashTo pat D.ws D (j + 1) → IsDr S B W g s k D' → Below B w W → KeepBut w W k none → ∃ j' : Nat, j' ≤ m ∧ Value.int .i64 ((j : Int) + 1) = .int .i64 (j' : Int) ∧ Aside0 (IsDr S B W g s k (crashTo pat D.ws D j')) ∧ Aside0 (Below B w W) ∧ Aside0 (KeepBut w W k none) := fun W D' e a b c => ⟨j + 1, by omega, by go_num, ⟨by rw [← e]; exact a⟩, ⟨b⟩, ⟨c⟩⟩
      have DONE := Aside0.mk done
      clear done
      by_cases hp0 : 0 < p
      rotate_left
      · have p1 : decide (0 < p) = false := decide_eq_false hp0
        have PA : Aside0 (patAt pat j = false) := ⟨by unfold patAt; rw [decide_eq_false (by have := HPL.out; omega)]; rfl⟩
        clear hp0
        go_wp2_with (first
          | ((with_reducible refine gate_dst (N := 5) rfl ?_); refine box_ev 5 #[.int .i64 0, .slice none 0 0] 100 ?_; intro gb hg w1 hbox hb; have n_ := pk3 hb hbox (show wr.heap.size ≤ gb by rw [hg]; exact Nat.le_refl _); clear HBr; obtain ⟨HBr, BKb, GE⟩ := n_; clear hb hbox hg; obtain ⟨b0, b1, fb0, fb1⟩ := blk_at2 BKb.out))
        refine ⟨DONE.out _ _ (by rw [crashTo, if_neg (by rw [PA.out]; decide)]) (HI.out.below (below_put2 HBr.out GE.out _ _)) (HB.out.trans ((below_put2 HBr.out GE.out _ _).mono (Nat.le_trans HBW.out HB.out.size))) (KeepBut.trans HK.out (KeepBut.of_below (below_put2 HBr.out GE.out _ _) k none) (.inl rfl)), by simp [intOf]; omega⟩
      · have p1 : decide (0 < p) = true := decide_eq_true hp0
        have p2 : (0 : Int) ≤ (j : Int) % (p : Int) := Int.emod_nonneg _ (by omega)
        have p3 : (j : Int) % (p : Int) < (p : Int) := Int.emod_lt_of_pos _ (by omega)
        have p4 : ((p : Int) == 0) = false := by rw [beq_eq_false_iff_ne]; omega
        obtain ⟨adp, ep, _⟩ := Kd.at_bool (Kd.F_now HPw.out) ((j % p : Nat) : Int) (by omega) (by have := Nat.mod_lt j hp0; have := HPL.out; omega)
        subst ep
        have PA : patAt pat j = pat.getD (j % p) false := by unfold patAt; rw [← HPL.out, decide_eq_true hp0]; rfl
        cases hb : pat.getD (j % p) false with
        | false =>
          rw [hb] at PA
          have PA := Aside0.mk PA
          have PB : Aside0 (rdOf false pat ((j % p : Nat) : Int) = false) := ⟨hb⟩
          clear hb
          go_wp2_with (first
            | ((with_reducible refine gate_dst (N := 5) rfl ?_); refine box_ev 5 #[.int .i64 0, .slice none 0 0] 100 ?_; intro gb hg w1 hbox hb; have n_ := pk3 hb hbox (show wr.heap.size ≤ gb by rw [hg]; exact Nat.le_refl _); clear HBr; obtain ⟨HBr, BKb, GE⟩ := n_; clear hb hbox hg; obtain ⟨b0, b1, fb0, fb1⟩ := blk_at2 BKb.out; obtain ⟨adp_, ep, hq⟩ := Kd.at_bool (Kd.F_now (Kd.F_below HPw.out (below_put2 HBr.out GE.out (.int .i64 (a : Int)) (.slice A1 x.f1.length c1)))) ((j % p : Nat) : Int) (by omega) (by have := Nat.mod_lt j (by omega : p > 0); have := HPL.out; omega); cases ep; rw [Int.toNat_natCast, show rdOf false pat ((j % p : Nat) : Int) = false from PB.out] at hq; have hq' := hq; rw [show j % p = ((j : Int) % (p : Int)).toNat from by omega] at hq'))
          refine ⟨DONE.out _ _ (by rw [crashTo, if_neg (by rw [PA.out]; decide)]) (HI.out.below (below_put2 HBr.out GE.out _ _)) (HB.out.trans ((below_put2 HBr.out GE.out _ _).mono (Nat.le_trans HBW.out HB.out.size))) (KeepBut.trans HK.out (KeepBut.of_below (below_put2 HBr.out GE.out _ _) k none) (.inl rfl)), by simp [intOf]; omega⟩
        | true =>
          rw [hb] at PA
          have PA := Aside0.mk PA
          have PB : Aside0 (rdOf false pat ((j % p : Nat) : Int) = true) := ⟨hb⟩
          clear hb
          go_wp2_with (first
            | ((with_reducible refine gate_dst (N := 5) rfl ?_); refine box_ev 5 #[.int .i64 0, .slice none 0 0] 100 ?_; intro gb hg w1 hbox hb; have n_ := pk3 hb hbox (show wr.heap.size ≤ gb by rw [hg]; exact Nat.le_refl _); clear HBr; obtain ⟨HBr, BKb, GE⟩ := n_; clear hb hbox hg; obtain ⟨b0, b1, fb0, fb1⟩ := blk_at2 BKb.out; obtain ⟨adp_, ep, hq⟩ := Kd.at_bool (Kd.F_now (Kd.F_below HPw.out (below_put2 HBr.out GE.out (.int .i64 (a : Int)) (.slice A1 x.f1.length c1)))) ((j % p : Nat) : Int) (by omega) (by have := Nat.mod_lt j (by omega : p > 0); have := HPL.out; omega); cases ep; rw [Int.toNat_natCast, show rdOf false pat ((j % p : Nat) : Int) = true from PB.out] at hq; have hq' := hq; rw [show j % p = ((j : Int) % (p : Int)).toNat from by omega] at hq')
            | (go_at_call 50; (with_reducible refine (keep_calls S B _ g s k (crashTo pat D.ws D j) a A1 c1 x.f1 (HI.out.below (below_put2 HBr.out GE.out _ _)) ?s1 ?s2 Hc1.out Y2.out ?s3 ?s4).mono ?_); (case s1 => exact Nat.le_trans (Nat.le_trans HBW.out HB.out.size) (below_put2 HBr.out GE.out _ _).size); (case s2 => exact Kd.C_below HC1.out (below_put2 HBr.out GE.out _ _)); (case s3 => rw [HLN.out]; have := Y1.out; omega); (case s4 => rw [HLN.out]; exact Nat.le_trans HG.out.2.1 (by decide)); rintro e w4 ⟨⟨v, rfl⟩, hd, hb, hk⟩; have n_ := pk3 hd (HB.out.trans ((below_put2 HBr.out GE.out _ _).mono (Nat.le_trans HBW.out HB.out.size) |>.trans hb)) (KeepBut.trans HK.out (KeepBut.trans (KeepBut.of_below (below_put2 HBr.out GE.out _ _) k none) hk (.inl rfl)) (.inl rfl)); obtain ⟨HD4, HB4, HK4⟩ := n_; clear hd hb hk b0 b1 fb0 fb1 hq hq'))
          refine ⟨DONE.out _ _ (by rw [crashTo, if_pos PA.out, HX.out, HA.out]; rfl) HD4.out HB4.out HK4.out, by simp [intOf]; omega⟩
    · obtain rfl : j = m := by omega
      have HLN : Aside0 ((crashTo pat D.ws D j).kept.length = D.kept.length) := ⟨crashTo_len _ _ _ HG.out.2.2 j (by have := HM.out; omega)⟩
      have HSE : Aside0 ((crashTo pat D.ws D j).seen.length = (crashTo pat D.ws D j).kept.length) := ⟨by rw [(crashTo_same pat D.ws D j).2, HLN.out]; exact HG.out.1⟩
      have HE : Aside0 (crashD pat D = ⟨(crashTo pat D.ws D j).kept, (crashTo pat D.ws D j).kept, [], -1, false⟩) := ⟨by unfold crashD; rw [← HM.out]⟩
      generalize crashTo pat D.ws D j = D' at HI HLN HSE HE
      obtain ⟨n, hn⟩ : ∃ n, n = D'.kept.length := ⟨_, rfl⟩
      have HN := Aside0.mk hn
      obtain ⟨v, b1, b2, b3, b4, ⟨d1, d2, d3⟩, ⟨e1, e2, e3⟩, ⟨n1, n2, n3⟩, b8⟩ := HI.out
      rw [HSE.out, ← hn] at b1
      obtain ⟨c0, c1, c2, c3, c4, f0, f1, f2, f3, f4⟩ := blk_at5 b1
      have B1 := Aside0.mk b1
      have B2 := Aside0.mk b2
      have B3 := Aside0.mk b3
      have N1 := Aside0.mk n1
      have N3 := Aside0.mk n3
      have E2 := Aside0.mk e2
      obtain ⟨i0, hi, hz0, hz1, hz2⟩ := info_parts info5
      have HSZ : Aside0 ((Try.prog.info? 5).map (·.size) = some 1) := ⟨by rw [hi]; simp [hz1]⟩
      have fin : ∀ w2, CopyTo wr.drew w2 s (splice (nums .u8 D'.seen) 0 (nums .u8 D'.kept)).toArray 5 → IsDr S B (((w2.setCell ⟨g, 2, none⟩ (.slice none 0 0)).setCell ⟨g, 3, none⟩ (.int .i64 (-1))).setCell ⟨g, 4, none⟩ (.bool false)) g s k (crashD pat D) ∧ Below B w (((w2.setCell ⟨g, 2, none⟩ (.slice none 0 0)).setCell ⟨g, 3, none⟩ (.int .i64 (-1))).setCell ⟨g, 4, none⟩ (.bool false)) ∧ Kept w (((w2.setCell ⟨g, 2, none⟩ (.slice none 0 0)).setCell ⟨g, 3, none⟩ (.int .i64 (-1))).setCell ⟨g, 4, none⟩ (.bool false)) S := fun w2 hcp => by
        have hk2 : KeepBut wr w2 s none := KeepBut.trans (KeepBut.of_below (Below.drew (Below.refl _ _)) s none) hcp.2.1 (.inl rfl)
        have g2 : w2.heap[g]? = _ := (hk2.2 g (blk_lt b1) n1 (by simp)).trans b1
        have s2 : Bts w2 s D'.kept := by
          unfold Bts
          rw [hcp.1, nums_splice, splice_all _ _ HSE.out]
        have k2 : Bts w2 k D'.kept := b3.kept (hk2.2 k b3.lt (Ne.symm n3) (by simp))
        rw [HE.out]
        refine ⟨⟨.slice none 0 0, ?_, ?_, ?_, Kd.R_nil _ _ _ _ _, ⟨d1, d2, d3⟩, ⟨e1, e2, e3⟩, ⟨n1, n2, n3⟩, fun b hb => b8 b (Nat.le_trans hk2.1 (by simpa using hb))⟩, ?_, ?_⟩
        · have q := blk_put (cs := #[.slice (some ⟨s, 0, none⟩) n n, .slice (some ⟨k, 0, none⟩) n n, .slice none 0 0, .int .i64 (-1), .bool D'.gone]) (blk_put (cs := #[.slice (some ⟨s, 0, none⟩) n n, .slice (some ⟨k, 0, none⟩) n n, .slice none 0 0, .int .i64 D'.armed, .bool D'.gone]) (blk_put g2 2 (.slice none 0 0) rfl) 3 (.int .i64 (-1)) rfl) 4 (.bool false) rfl
          rw [hn] at q
          exact q
        · exact s2.kept (((Below.heap_setCell _ ⟨g, 4, none⟩ _ s (Ne.symm n1)).trans (Below.heap_setCell _ ⟨g, 3, none⟩ _ s (Ne.symm n1))).trans (Below.heap_setCell _ ⟨g, 2, none⟩ _ s (Ne.symm n1)))
        · exact k2.kept (((Below.heap_setCell _ ⟨g, 4, none⟩ _ k (Ne.symm n2)).trans (Below.heap_setCell _ ⟨g, 3, none⟩ _ k (Ne.symm n2))).trans (Below.heap_setCell _ ⟨g, 2, none⟩ _ k (Ne.symm n2)))
        · exact (((hcp.2.2 B w e2 (Below.drew HB.out)).setCell (p := ⟨g, 2, none⟩) e1 _).setCell (p := ⟨g, 3, none⟩) e1 _).setCell (p := ⟨g, 4, none⟩) e1 _
        · exact ((((Kept.of_keep (Kept.refl w S) HK.out (.inl HSk.out)).of_keep hk2 (.inl d2)).setCell (p := ⟨g, 2, none⟩) (.inl d1) _).setCell (p := ⟨g, 3, none⟩) (.inl d1) _).setCell (p := ⟨g, 4, none⟩) (.inl d1) _
      have FIN := Aside0.mk fin
      clear fin b1 b2 b3 b4 d1 d2 d3 e1 e2 e3 n1 n2 n3 b8 hi hz0 hz1 hz2 c2 c3 c4 f0 f1 f2 f3 f4 hn
      go_wp2
      go_region_law ((refine step_copy_to rfl (.tmp 37) (.tmp 41) 30 30 (by rfl) 5 Try.underlying30 HSZ.out ⟨k, 0, none⟩ n n n n s 0 (by rfl) (by rfl) (nums .u8 D'.seen) 5 B2.out (nums .u8 D'.kept) (by rw [nums_len, HN.out, Nat.min_self]) (Bts.cells B3.out) (by rw [nums_len, nums_len, HSE.out]; omega) (fun v hv => nums_one hv) ?_; intro w2 hcp; have BK2 := (hcp.2.1.2 g (blk_lt B1.out) N1.out (by simp)).trans B1.out; obtain ⟨c0, c1, c2, c3, c4, f0, f1, f2, f3, f4⟩ := blk_at5 BK2; clear BK2))
      all_goals (go_wp2; go_end0; exact ⟨⟨_, rfl⟩, FIN.out _ hcp⟩)
theorem Bts.C {w : World} {s : Nat} {l : List Int} (h : Bts w s l) (hl : l.length ≤ 9223372036854775807) : Kd.C (Kd.int .u8) w (some ⟨s, 0, none⟩) l.length l := by
  refine Kd.C_of_reads (enc := Value.int .u8) (d := (0 : Int)) (h1 := fun _ => rfl) ⟨rfl, hl, fun h0 => ⟨_, rfl, fun j hj => ?_⟩⟩
  refine h.cells j _ ?_
  simp [nums, hj]
def readD (D : DrumS) (at_ n : Int) : List Int × Int :=
  if n < 0 then ([], 1) else if hasB ((D.seen.length / 64 : Nat) : Int) at_ n = false then ([], 5) else if n = 0 then ([], 0) else ((D.seen.take (64 * (at_ + n)).toNat).drop (64 * at_).toNat, 0)
theorem hasB_true {s at_ n : Int} (h : hasB s at_ n = true) : 0 ≤ at_ ∧ n ≤ s ∧ at_ ≤ s - n := of_decide_eq_true h
set_option maxHeartbeats 8000000 in
set_option maxRecDepth 100000 in
theorem read_calls (S : Nat → Prop) (B : Nat) (w : World) (g s k : Nat) (D : DrumS) (at_ n : Int) (h : IsDr S B w g s k D) (hG : D.Good) :
    Calls Try.prog 17 #[.pointer (some ⟨g, 0, none⟩), .int .i64 at_, .int .i64 n] w fun e w' => ∃ v, e = .returned (.tuple #[v, .int .i64 (readD D at_ n).2]) ∧ Kd.R (Kd.int .u8) 5 w' w.heap.size (fun _ => True) v (readD D at_ n).1 ∧ Below w.heap.size w w' := by
  have hu43 := Try.underlying43
  by_cases h1 : n < 0
  · have e : readD D at_ n = ([], 1) := by unfold readD; rw [if_pos h1]
    rw [e]
    have c1 : decide (n < 0) = true := decide_eq_true h1
    clear h h1 e hG
    go_enter Try.func17, Try.ntmps17
    go_wp2
    go_ret2
    exact ⟨_, rfl, Kd.R_nil _ _ _ _ _, Below.refl _ _⟩
  have c1 : decide (n < 0) = false := decide_eq_false h1
  obtain ⟨v, b1, b2, b3, b4, b5⟩ := h
  have hN : D.seen.length ≤ 524288 := by rw [hG.1]; exact hG.2.1
  have HS := Aside0.mk (has_of w (.pointer (some ⟨g, 0, none⟩)) ((D.seen.length / 64 : Nat) : Int) at_ n (sectors_blk w g _ _ _ _ _ _ _ b1 (by omega)) (by omega) (by omega) (by omega) rfl)
  cases hb : hasB ((D.seen.length / 64 : Nat) : Int) at_ n with
  | false =>
    have e : readD D at_ n = ([], 5) := by unfold readD; rw [if_neg h1, if_pos hb]
    rw [e]
    rw [hb] at HS
    clear b1 b2 b3 b4 b5 h1 e hG hb hN
    go_enter Try.func17, Try.ntmps17
    go_wp2_with (go_at_call 46; refine (HS.out).mono ?_; rintro e w' ⟨rfl, rfl⟩)
    go_ret2
    exact ⟨_, rfl, Kd.R_nil _ _ _ _ _, Below.refl _ _⟩
  | true =>
    rw [hb] at HS
    by_cases h2 : n = 0
    · subst h2
      have e : readD D at_ 0 = ([], 0) := by unfold readD; rw [if_neg h1, if_neg (by rw [hb]; decide), if_pos rfl]
      rw [e]
      clear b1 b2 b3 b4 b5 h1 e hG hb hN
      go_enter Try.func17, Try.ntmps17
      go_wp2_with (go_at_call 46; refine (HS.out).mono ?_; rintro e w' ⟨rfl, rfl⟩)
      go_ret2
      exact ⟨_, rfl, Kd.R_nil _ _ _ _ _, Below.refl _ _⟩
    · have e : readD D at_ n = ((D.seen.take (64 * (at_ + n)).toNat).drop (64 * at_).toNat, 0) := by unfold readD; rw [if_neg h1, if_neg (by rw [hb]; decide), if_neg h2]
      rw [e]
      obtain ⟨r1, r2, r3⟩ := hasB_true hb
      have c2 : (n == 0) = false := by simpa using h2
      obtain ⟨c0, _, _, _, _, f0, _⟩ := blk_at5 b1
      have hC := Kd.C_mid (Bts.C b2 (by omega)) (lo := (64 * at_).toNat) (hi := (64 * (at_ + n)).toNat) (c := D.seen.length) (by omega) (by omega) (Nat.le_refl _)
      obtain ⟨i0, hi, hz0, hz1, hz2⟩ := info_parts info5
      have hcut := cut_mid (P := Try.prog) 30 5 .i64 .i64 Try.underlying30 hi 1 hz1 (some ⟨s, 0, none⟩) D.seen.length D.seen.length (64 * at_) (64 * (at_ + n)) (by omega) (by omega) (by omega) (Nat.le_refl _)
      generalize hA2 : (if D.seen.length = (64 * at_).toNat then some (⟨s, 0, none⟩ : Addr) else (some (⟨s, 0, none⟩ : Addr)).map (·.add ((64 * at_).toNat * 1))) = A2 at hcut
      have hA3 : (if D.seen.length = (64 * at_).toNat then some (⟨s, 0, none⟩ : Addr) else (some (⟨s, 0, none⟩ : Addr)).map (·.add ((64 * at_).toNat * (Kd.int .u8).sz))) = A2 := hA2
      rw [hA3] at hC
      obtain ⟨L, hL⟩ : ∃ L, L = (D.seen.take (64 * (at_ + n)).toNat).drop (64 * at_).toNat := ⟨_, rfl⟩
      rw [← hL] at hC ⊢
      have hlen : (64 * (at_ + n)).toNat - (64 * at_).toNat = L.length := by rw [hL, List.length_drop, List.length_take]; omega
      rw [hlen] at hcut
      have HC := Aside0.mk hC
      have HLN : Aside0 (L.length ≤ D.seen.length - (64 * at_).toNat) := ⟨by rw [← hlen]; omega⟩
      have HLM : Aside0 (L.length < 140737488355328) := ⟨by rw [← hlen]; omega⟩
      have q1 : 0 ≤ at_ := r1
      have q2 : at_ ≤ 8192 := by omega
      have q3 : 0 ≤ n := by omega
      have q4 : n ≤ 8192 := by omega
      clear b1 b2 b3 b4 b5 h1 e hG hb hN r1 r2 r3 h2 hA2 hA3 hL hlen hi hz0 hz1 hz2 hC
      go_enter Try.func17, Try.ntmps17
      go_wp2_with (first
        | (go_at_call 46; refine (HS.out).mono ?_; rintro e w' ⟨rfl, rfl⟩)
        | (go_at_call 49; (with_reducible refine (slices_Clone_byte_byte.calls A2 _ L L _ HC.out HLN.out (by unfold slices_Clone_byte_byte.f; rw [if_pos HLM.out])).mono ?_); rintro e w3 ⟨v3, rfl, ho, hb⟩; have n_ := pk2 ho hb; obtain ⟨HO, HB⟩ := n_; clear ho hb))
      go_ret2
      exact ⟨_, rfl, HO.out, HB.out⟩
theorem IsDr.goneNow {S : Nat → Prop} {B : Nat} {w : World} {g s k : Nat} {D : DrumS} (h : IsDr S B w g s k D) : IsDr S B (w.setCell ⟨g, 4, none⟩ (.bool true)) g s k { D with gone := true } ∧ Below B w (w.setCell ⟨g, 4, none⟩ (.bool true)) ∧ Kept w (w.setCell ⟨g, 4, none⟩ (.bool true)) S := by
  have h' := h
  obtain ⟨v, h1, h2, h3, h4, h5, h6, h7, h8⟩ := h
  exact ⟨h'.put (v := v) rfl rfl (blk_put (cs := #[.slice (some ⟨s, 0, none⟩) D.seen.length D.seen.length, .slice (some ⟨k, 0, none⟩) D.kept.length D.kept.length, v, .int .i64 D.armed, .bool D.gone]) h1 4 _ rfl) (Below.heap_setCell _ ⟨g, 4, none⟩ _ _ (Ne.symm h7.1)) (Below.heap_setCell _ ⟨g, 4, none⟩ _ _ (Ne.symm h7.2.1)) (R_set_ h4 ⟨g, 4, none⟩ _ (fun b hb => hb.2.1)) (by simp),
    (Below.refl _ _).setCell (p := ⟨g, 4, none⟩) h6.1 _, (Kept.refl _ _).setCell (p := ⟨g, 4, none⟩) (.inl h5.1) _⟩
theorem info_write : (Try.prog.info? 100).map (fun i => (i.zero, i.size, i.bytes)) = some (some (.agg #[.int .i64 0, .slice none 0 0]), 2, 32) := by kernel_rfl
def countD (x : S100) (D : DrumS) : DrumS := if D.gone then D else if D.armed = 0 then { D with gone := true } else { D with armed := if D.armed < 0 then -1 else D.armed - 1, ws := D.ws ++ [x] }
set_option maxHeartbeats 16000000 in
set_option maxRecDepth 100000 in
theorem count_calls (S : Nat → Prop) (B : Nat) (w0 w : World) (g s k : Nat) (D : DrumS) (a : Nat) (A : Option Addr) (c : Nat) (l : List Int) (h : IsDr S B w0 g s k D) (hb : Below w0.heap.size w0 w) (hR : Kd.R (Kd.int .u8) 5 w w0.heap.size (fun _ => True) (.slice A l.length c) l) (hB : B ≤ w0.heap.size) (hl : D.ws.length ≤ 1000000000) (ha : -1 ≤ D.armed ∧ D.armed ≤ 9223372036854775807) :
    Calls Try.prog 48 #[.pointer (some ⟨g, 0, none⟩), .agg #[.int .i64 (a : Int), .slice A l.length c]] w fun e w' => (∃ v, e = .returned v) ∧ IsDr S B w' g s k (countD ⟨a, l⟩ D) ∧ Below B w w' ∧ Kept w w' S := by
  have hu43 := Try.underlying43
  have hu100 := Try.underlying100
  have H := Aside0.mk (h.below hb)
  have H0 := Aside0.mk h
  have HR := Aside0.mk hR
  have HBw0 := Aside0.mk hb
  have HBW := Aside0.mk hB
  have HLW := Aside0.mk hl
  have HAR := Aside0.mk ha
  obtain ⟨v, b1, b2, b3, b4, ⟨d1, d2, d3⟩, ⟨e1, e2, e3⟩, ⟨n1, n2, n3⟩, b8⟩ := h
  have h := H0.out
  have hg0 : g < w0.heap.size := blk_lt b1
  have hs0 := b2.lt
  have hk0 := b3.lt
  have hv0 := Kd.R_lt b4
  have OKP : Aside0 (∀ b, (w0.heap.size ≤ b ∧ b < w.heap.size) → (S b ∧ b ≠ g ∧ b ≠ s ∧ b ≠ k) ∧ some b ≠ v.ownBlock) := ⟨fun b hb' => ⟨⟨b8 b hb'.1, by omega, by omega, by omega⟩, fun e => by have := hv0 b e.symm; omega⟩⟩
  replace b1 := (hb.block g hg0).trans b1
  replace b2 := b2.kept (hb.block s hs0)
  replace b3 := b3.kept (hb.block k hk0)
  replace b4 := Kd.R_below b4 hb
  have HV := Aside0.mk b4
  have HG0 := Aside0.mk hg0
  have B8 := Aside0.mk b8
  have BK := Aside0.mk b1
  have N1 := Aside0.mk n1
  have N2 := Aside0.mk n2
  have E1 := Aside0.mk e1
  have D1 := Aside0.mk d1
  have HB := Aside0.mk (Below.refl w.heap.size w)
  obtain ⟨n, hne⟩ : ∃ n, n = l.length := ⟨_, rfl⟩
  rw [← hne]
  have HNE := Aside0.mk hne
  cases hg : D.gone with
  | true =>
    have e : countD ⟨a, l⟩ D = D := by unfold countD; rw [hg, if_pos rfl]
    rw [e]
    rw [hg] at BK
    clear h hb hR hB hl ha b1 b2 b3 b4 b8 hne e
    go_enter Try.func48, Try.ntmps48
    go_wp2_with (first | ((with_reducible refine gate_dst (N := 3) rfl ?_); refine box_ev 3 #[.int .i64 (a : Int), .slice A n c] 100 ?_; intro gb hg' w1 hbox hb; have n_ := pk3 (below_step bl_ hb) hbox (blk_below BK.out hb); clear HB BK; obtain ⟨HB, BKb, BK⟩ := n_; clear hb hbox hg'; obtain ⟨c0, c1, c2, c3, c4, f0, f1, f2, f3, f4⟩ := blk_at5 BK.out))
    go_end0
    exact ⟨⟨_, rfl⟩, H.out.below HB.out, HB.out.mono (Nat.le_trans HBW.out HBw0.out.size), Kept.of_below HB.out S⟩
  | false =>
    rw [hg] at BK
    by_cases h0 : D.armed = 0
    · have e : countD ⟨a, l⟩ D = { D with gone := true } := by unfold countD; rw [hg, if_neg (by decide), if_pos h0]
      rw [e]
      have c30 : (D.armed == 0) = true := by simpa using h0
      clear h hb hR hB hl ha b1 b2 b3 b4 b8 hne e h0
      go_enter Try.func48, Try.ntmps48
      go_wp2_with (first | ((with_reducible refine gate_dst (N := 3) rfl ?_); refine box_ev 3 #[.int .i64 (a : Int), .slice A n c] 100 ?_; intro gb hg' w1 hbox hb; have n_ := pk3 (below_step bl_ hb) hbox (blk_below BK.out hb); clear HB BK; obtain ⟨HB, BKb, BK⟩ := n_; clear hb hbox hg'; obtain ⟨c0, c1, c2, c3, c4, f0, f1, f2, f3, f4⟩ := blk_at5 BK.out))
      go_end0
      obtain ⟨x1, x2, x3⟩ := (H.out.below HB.out).goneNow
      exact ⟨⟨_, rfl⟩, x1, (HB.out.mono (Nat.le_trans HBW.out HBw0.out.size)).trans x2, (Kept.of_below HB.out S).then_ x3 (fun _ h => .inl h)⟩
    · have c30 : (D.armed == 0) = false := by simpa using h0
      have e : countD ⟨a, l⟩ D = { D with armed := if D.armed < 0 then -1 else D.armed - 1, ws := D.ws ++ [⟨a, l⟩] } := by unfold countD; rw [hg, if_neg (by decide), if_neg h0]
      have E := Aside0.mk e
      have NE := Aside0.mk h0
      have q1 : -1 ≤ D.armed := ha.1
      have q2 : D.armed ≤ 9223372036854775807 := ha.2
      clear h hb hR hB hl ha b1 b2 b3 b4 b8 hne e
      go_enter Try.func48, Try.ntmps48
      go_wp2_with (first | ((with_reducible refine gate_dst (N := 3) rfl ?_); refine box_ev 3 #[.int .i64 (a : Int), .slice A n c] 100 ?_; intro gb hg' w1 hbox hb; have n_ := pk4 (below_step bl_ hb) hbox (blk_below BK.out hb) (nb_ hg' BK.out); clear HB BK; obtain ⟨HB, BKb, BK, NGB⟩ := n_; clear hb hbox hg'; obtain ⟨c0, c1, c2, c3, c4, f0, f1, f2, f3, f4⟩ := blk_at5 BK.out; obtain ⟨y0, y1, fy0, fy1⟩ := blk_at2 BKb.out))
      all_goals
        have app : ∀ x : Int, Kd.R k100 100 (w1.setCell ⟨g, 3, none⟩ (.int .i64 x)).drew B (fun b => S b ∧ b ≠ g ∧ b ≠ s ∧ b ≠ k) v D.ws := fun x => R_set_ (Kd.R_below HV.out HB.out) ⟨g, 3, none⟩ _ (fun b hb => hb.2.1)
        have elt : ∀ x : Int, k100.M (w1.setCell ⟨g, 3, none⟩ (.int .i64 x)).drew B (fun b => w0.heap.size ≤ b ∧ b < w.heap.size) (⟨(a : Int), l⟩ : S100) [.int .i64 (a : Int), .slice A n c] := fun x => k100_mkM _ _ _ (⟨(a : Int), l⟩ : S100) (by
          rw [HNE.out]
          refine R_set_ (Kd.R_below (Kd.R_lower (Kd.R_mono (Kd.R_bound HR.out) (fun b hb => ⟨hb.2.1, hb.2.2.1⟩)) HBW.out) HB.out) ⟨g, 3, none⟩ _ (fun b hb => ?_)
          have := HG0.out
          have := hb.1
          simp only
          omega)
        have fin : ∀ (x : Int) (v2 : Value) (w2 : World), (x = if D.armed < 0 then -1 else D.armed - 1) → Kd.R k100 100 w2 B (fun b => S b ∧ b ≠ g ∧ b ≠ s ∧ b ≠ k) v2 (D.ws ++ [(⟨(a : Int), l⟩ : S100)]) → (w1.setCell ⟨g, 3, none⟩ (.int .i64 x)).drew.grownBy w2 v.ownBlock →
            w2.heap[g]? = some (.cells #[.slice (some ⟨s, 0, none⟩) D.seen.length D.seen.length, .slice (some ⟨k, 0, none⟩) D.kept.length D.kept.length, v, .int .i64 x, .bool false] 43 (0, 0)) ∧ IsDr S B (w2.setCell ⟨g, 2, none⟩ v2) g s k (countD ⟨a, l⟩ D) ∧ Below B w (w2.setCell ⟨g, 2, none⟩ v2) ∧ Kept w (w2.setCell ⟨g, 2, none⟩ v2) S := fun x v2 w2 hx hr hg2 => by
          have own : ∀ b, v.ownBlock = some b → S b ∧ b ≠ g ∧ b ≠ s ∧ b ≠ k := HV.out.1
          have g1 : (w1.setCell ⟨g, 3, none⟩ (.int .i64 x)).heap[g]? = some (.cells #[.slice (some ⟨s, 0, none⟩) D.seen.length D.seen.length, .slice (some ⟨k, 0, none⟩) D.kept.length D.kept.length, v, .int .i64 x, .bool false] 43 (0, 0)) := blk_put (cs := #[.slice (some ⟨s, 0, none⟩) D.seen.length D.seen.length, .slice (some ⟨k, 0, none⟩) D.kept.length D.kept.length, v, .int .i64 D.armed, .bool false]) BK.out 3 _ rfl
          have g2 := (hg2.block g (blk_lt g1) (fun e => (own g e.symm).2.1 rfl)).trans g1
          have s1 : w1.heap[s]? = w.heap[s]? := HB.out.block s (Nat.lt_of_lt_of_le hs0 HBw0.out.size)
          have k1 : w1.heap[k]? = w.heap[k]? := HB.out.block k (Nat.lt_of_lt_of_le hk0 HBw0.out.size)
          have s2 : w2.heap[s]? = w.heap[s]? := ((hg2.block s (Nat.lt_of_lt_of_le (Nat.lt_of_lt_of_le hs0 HBw0.out.size) (by simpa using HB.out.size)) (fun e => (own s e.symm).2.2.1 rfl)).trans (Below.heap_setCell w1 ⟨g, 3, none⟩ _ s (Ne.symm n1))).trans s1
          have k2 : w2.heap[k]? = w.heap[k]? := ((hg2.block k (Nat.lt_of_lt_of_le (Nat.lt_of_lt_of_le hk0 HBw0.out.size) (by simpa using HB.out.size)) (fun e => (own k e.symm).2.2.2 rfl)).trans (Below.heap_setCell w1 ⟨g, 3, none⟩ _ k (Ne.symm n2))).trans k1
          have hsz : w.heap.size ≤ w2.heap.size := Nat.le_trans (by simpa using HB.out.size) hg2.size
          have hbl : Below B w w2 := (Below.drew ((HB.out.mono (Nat.le_trans HBW.out HBw0.out.size)).setCell (p := ⟨g, 3, none⟩) E1.out _)).grown hg2 (by have := HB.out.size; have := HBW.out; have := HBw0.out.size; simp; omega) (fun b e => by
            have q := Kd.R_bound HV.out
            exact (q.1 b e).2.1)
          rw [E.out]
          refine ⟨g2, ?_, hbl.setCell (p := ⟨g, 2, none⟩) E1.out _, ?_⟩
          · refine H.out.put (v := v2) rfl rfl ?_ ((Below.heap_setCell _ ⟨g, 2, none⟩ _ s (Ne.symm n1)).trans s2) ((Below.heap_setCell _ ⟨g, 2, none⟩ _ k (Ne.symm n2)).trans k2) (R_set_ hr ⟨g, 2, none⟩ _ (fun b hb => hb.2.1)) (by simpa using hsz)
            have q := blk_put (cs := #[.slice (some ⟨s, 0, none⟩) D.seen.length D.seen.length, .slice (some ⟨k, 0, none⟩) D.kept.length D.kept.length, v, .int .i64 x, .bool false]) g2 2 v2 rfl
            rw [hx] at q
            simp only [hg]
            exact q
          · refine ((((Kept.of_below HB.out S).setCell (p := ⟨g, 3, none⟩) (.inl D1.out) (.int .i64 x)).drew).of_grown hg2 ?_ |>.setCell (p := ⟨g, 2, none⟩) (.inl D1.out) v2)
            exact fun b e => .inl (own b e).1
        have APP := Aside0.mk app
        have ELT := Aside0.mk elt
        have FRESH : Aside0 (∀ b, w1.heap.size ≤ b → S b ∧ b ≠ g ∧ b ≠ s ∧ b ≠ k) := ⟨fun b hb => by have := HBw0.out.size; have := HB.out.size; exact ⟨B8.out b (by omega), by omega, by omega, by omega⟩⟩
        have FIN := Aside0.mk fin
        clear app elt fin hs0 hk0 hv0 hg0 n1 n2 n3 d1 d2 d3 e1 e2 e3 hg
        have HBS : Aside0 (∀ x : Int, B ≤ (w1.setCell ⟨g, 3, none⟩ (.int .i64 x)).drew.heap.size) := ⟨fun x => by have := HB.out.size; have := HBW.out; have := HBw0.out.size; simp; omega⟩
        have HLN : Aside0 ((D.ws.length + 1) * 32 ≤ 140737488355328) := ⟨by have := HLW.out; omega⟩
      · obtain ⟨x, hx⟩ : ∃ x : Int, x = D.armed - 1 := ⟨_, rfl⟩
        have EX : Aside0 (x = if D.armed < 0 then -1 else D.armed - 1) := ⟨by have := NE.out; omega⟩
        rw [← hx]
        clear hx
        have nl : ∀ o : Obj, ((w1.setCell ⟨g, 3, none⟩ (.int .i64 x)).alloc o).cell? ⟨g, 2, none⟩ = some v := fun o => by
          have q : (w1.setCell ⟨g, 3, none⟩ (.int .i64 x)).cell? ⟨g, 2, none⟩ = some v := (blk_cell (blk_put (cs := #[.slice (some ⟨s, 0, none⟩) D.seen.length D.seen.length, .slice (some ⟨k, 0, none⟩) D.kept.length D.kept.length, v, .int .i64 D.armed, .bool false]) BK.out 3 (.int .i64 x) rfl) 2).trans rfl
          exact (World.cell?_alloc_lt _ o _ (World.block_lt_of_cell? _ _ q)).trans q
        go_region_law ((refine Kd.R_append_step k100 (w0 := (w1.setCell ⟨g, 3, none⟩ (.int .i64 (x))).drew) B (by rfl) (.tmp 17) (.tmp 19) 41 100 (.agg #[.int .i64 0, .slice none 0 0]) 32 (by rfl) Try.underlying41 info_write rfl (by decide) (by omega) v D.ws (⟨(a : Int), l⟩ : S100) [.int .i64 (a : Int), .slice A n c] (fun b => S b ∧ b ≠ g ∧ b ≠ s ∧ b ≠ k) (fun b => w0.heap.size ≤ b ∧ b < w.heap.size) (by rfl) (by show Value.slice (some ⟨w1.heap.size, 0, none⟩) 1 1 = _; simp) (ELT.out x) OKP.out (fun b hb => FRESH.out b (by simpa using hb)) (APP.out x) (Below.refl _ _) (HBS.out x) HLN.out ?_; intro v7 w7 ho7 hb7 hg7 hat7; obtain ⟨A7, c7, hv7⟩ := Kd.R_slice ho7; obtain ⟨n7, hn7⟩ : ∃ n7, n7 = (D.ws ++ [(⟨(a : Int), l⟩ : S100)]).length := ⟨_, rfl⟩; rw [← hn7] at hv7; clear hn7; subst hv7; have BK7 := (FIN.out x _ w7 EX.out ho7 hg7).1; obtain ⟨c0, c1, c2, c3, c4, f0, f1, f2, f3, f4⟩ := blk_at5 BK7))
        all_goals (go_wp2; go_end0; exact ⟨⟨_, rfl⟩, (FIN.out x _ w7 EX.out ho7 hg7).2⟩)
      · obtain ⟨x, hx⟩ : ∃ x : Int, x = -1 := ⟨_, rfl⟩
        have EX : Aside0 (x = if D.armed < 0 then -1 else D.armed - 1) := ⟨by have := NE.out; omega⟩
        rw [← hx]
        clear hx
        have nl : ∀ o : Obj, ((w1.setCell ⟨g, 3, none⟩ (.int .i64 x)).alloc o).cell? ⟨g, 2, none⟩ = some v := fun o => by
          have q : (w1.setCell ⟨g, 3, none⟩ (.int .i64 x)).cell? ⟨g, 2, none⟩ = some v := (blk_cell (blk_put (cs := #[.slice (some ⟨s, 0, none⟩) D.seen.length D.seen.length, .slice (some ⟨k, 0, none⟩) D.kept.length D.kept.length, v, .int .i64 D.armed, .bool false]) BK.out 3 (.int .i64 x) rfl) 2).trans rfl
          exact (World.cell?_alloc_lt _ o _ (World.block_lt_of_cell? _ _ q)).trans q
        go_region_law ((refine Kd.R_append_step k100 (w0 := (w1.setCell ⟨g, 3, none⟩ (.int .i64 (x))).drew) B (by rfl) (.tmp 17) (.tmp 19) 41 100 (.agg #[.int .i64 0, .slice none 0 0]) 32 (by rfl) Try.underlying41 info_write rfl (by decide) (by omega) v D.ws (⟨(a : Int), l⟩ : S100) [.int .i64 (a : Int), .slice A n c] (fun b => S b ∧ b ≠ g ∧ b ≠ s ∧ b ≠ k) (fun b => w0.heap.size ≤ b ∧ b < w.heap.size) (by rfl) (by show Value.slice (some ⟨w1.heap.size, 0, none⟩) 1 1 = _; simp) (ELT.out x) OKP.out (fun b hb => FRESH.out b (by simpa using hb)) (APP.out x) (Below.refl _ _) (HBS.out x) HLN.out ?_; intro v7 w7 ho7 hb7 hg7 hat7; obtain ⟨A7, c7, hv7⟩ := Kd.R_slice ho7; obtain ⟨n7, hn7⟩ : ∃ n7, n7 = (D.ws ++ [(⟨(a : Int), l⟩ : S100)]).length := ⟨_, rfl⟩; rw [← hn7] at hv7; clear hn7; subst hv7; have BK7 := (FIN.out x _ w7 EX.out ho7 hg7).1; obtain ⟨c0, c1, c2, c3, c4, f0, f1, f2, f3, f4⟩ := blk_at5 BK7))
        all_goals (go_wp2; go_end0; exact ⟨⟨_, rfl⟩, (FIN.out x _ w7 EX.out ho7 hg7).2⟩)
end Go.Proofs.Ytfmdllbkfpbdcaa.G
end
section
namespace Go.Proofs.Ytfmdllbkfpbdcaa.G
open Go Go.RowKit Go.Shelf Go.Proofs.YtfmdllbkfpbdcaaX Go.Proofs.YtfmdllbkfpbdcaaW.PrintWords Go.Proofs.YtfmdllbkfpbdcaaW.PrintLast Go.Proofs.YtfmdllbkfpbdcaaW.PrintMore
attribute [local go_sem] Oper.semAt_some
attribute [local go_sem] max2_int min2_int max_two min_two
def writeOne (a : Nat) (c : List Int) (D : DrumS) : DrumS := countD ⟨a, c⟩ { D with seen := splice D.seen (64 * a) c }
def sector (l : List Int) (j : Nat) : List Int := (l.drop (64 * j)).take 64
def wst (a : Nat) (l : List Int) {m : Nat} (pre : List (Fin m)) (D : DrumS) : DrumS × Nat := pre.foldl (fun z x => (writeOne (a + z.2) (sector l x.val) z.1, z.2 + 1)) (D, 0)
theorem wst_snoc (a : Nat) (l : List Int) {m : Nat} (pre : List (Fin m)) (x : Fin m) (D : DrumS) : wst a l (pre ++ [x]) D = (writeOne (a + (wst a l pre D).2) (sector l x.val) (wst a l pre D).1, (wst a l pre D).2 + 1) := by simp [wst]
theorem wst_len (a : Nat) (l : List Int) {m : Nat} (pre : List (Fin m)) (D : DrumS) : (wst a l pre D).2 = pre.length := by
  have h : ∀ (pre : List (Fin m)) (z : DrumS × Nat), (pre.foldl (fun z x => (writeOne (a + z.2) (sector l x.val) z.1, z.2 + 1)) z).2 = z.2 + pre.length := by
    intro pre
    induction pre with
    | nil => intro z; rfl
    | cons y ys ih => intro z; rw [List.foldl_cons, ih]; simp; omega
  exact (h pre (D, 0)).trans (Nat.zero_add _)
def writeD (D : DrumS) (at_ : Int) (l : List Int) : DrumS × Int :=
  if l.length % 64 ≠ 0 then (D, 1) else if hasB ((D.seen.length / 64 : Nat) : Int) at_ ((l.length / 64 : Nat) : Int) = false then (D, 5) else ((wst at_.toNat l (List.finRange (l.length / 64)) D).1, 0)
set_option maxHeartbeats 8000000 in
set_option maxRecDepth 100000 in
theorem write_bad (w : World) (p : Option Addr) (at_ : Int) (A : Option Addr) (n c : Nat) (hn : n ≤ 1000000000) (h : n % 64 ≠ 0) :
    Calls Try.prog 12 #[.pointer p, .int .i64 at_, .slice A n c] w fun e w' => e = .returned (.int .i64 1) ∧ Below w.heap.size w w' := by
  have q0 : (0 : Int) ≤ (n : Int) := by omega
  have q1 : ((n : Int) % 64 != 0) = true := by rw [bne_iff_ne]; omega
  have HB := Aside0.mk (Below.refl w.heap.size w)
  clear h
  go_enter Try.func12, Try.ntmps12
  go_wp2
  go_ret
  exact ⟨rfl, below_alloc (below_alloc (Below.refl _ _) _) _⟩
set_option maxHeartbeats 8000000 in
set_option maxRecDepth 100000 in
theorem write_out (w : World) (p : Option Addr) (at_ : Int) (A : Option Addr) (n c : Nat) (hn : n ≤ 1000000000) (h : n % 64 = 0) (hh : ∀ W : World, Below w.heap.size w W → Calls Try.prog 46 #[.pointer p, .int .i64 at_, .int .i64 ((n / 64 : Nat) : Int)] W fun e w' => e = .returned (.bool false) ∧ w' = W) :
    Calls Try.prog 12 #[.pointer p, .int .i64 at_, .slice A n c] w fun e w' => e = .returned (.int .i64 5) ∧ Below w.heap.size w w' := by
  obtain ⟨m, hm⟩ : ∃ m : Nat, n = 64 * m := ⟨n / 64, by omega⟩
  have hm2 : n / 64 = m := by omega
  rw [hm2] at hh
  have q0 : (0 : Int) ≤ (n : Int) := by omega
  have q1 : ((n : Int) % 64 != 0) = false := by rw [bne_eq_false_iff_eq]; omega
  have q2 : (n : Int) / 64 = (m : Int) := by omega
  have HH := Aside0.mk hh
  clear h hh hm hm2
  go_enter Try.func12, Try.ntmps12
  go_wp2_with (go_at_call 46; refine (HH.out _ (below_alloc (below_alloc (Below.refl _ _) _) _)).mono ?_; rintro e w' ⟨rfl, rfl⟩)
  go_ret
  exact ⟨rfl, below_alloc (below_alloc (Below.refl _ _) _) _⟩
theorem blk_turn_d {W W' : World} {row : Option Nat} {l : Nat} {cs : Array Value} {t : Nat} (h : W.heap[l]? = some (.cells cs t (0, 0))) (hg : W.grownBy W' row) (hr : ∀ r, row = some r → ∃ o : Obj, W.heap[r]? = some o ∧ o.isCells = false) : W'.heap[l]? = some (.cells cs t (0, 0)) := by
  refine (hg.block l (Array.getElem?_eq_some_iff.1 h).1 (fun e => ?_)).trans h
  obtain ⟨o, ho, hc⟩ := hr l e.symm
  rw [h] at ho
  injection ho with ho
  subst ho
  cases hc
theorem R_turn_d {α : Type} {d : Kd α} {e : Nat} {W W' : World} {base : Nat} {ok : Nat → Prop} {v : Value} {xs : List α} {row : Option Nat} (h : d.R e W base ok v xs) (hg : W.grownBy W' row) (hr : ∀ r, row = some r → ∃ o : Obj, W.heap[r]? = some o ∧ o.isCells = false) : d.R e W' base ok v xs :=
  Kd.R_mono (Kd.R_move (Kd.R_bound h) (fun k hk => hg.block k hk.2.2.1 (fun e => by
    obtain ⟨o, ho, hc⟩ := hr k e.symm
    obtain ⟨_, _, _, q, hq, cells, hk2⟩ := hk
    rw [hk2] at ho
    injection ho with ho
    subst ho
    cases hc))) (fun _ hk => hk.1)
theorem IsDr.turn {S : Nat → Prop} {B : Nat} {W W' : World} {g s k : Nat} {D : DrumS} {row : Option Nat} (h : IsDr S B W g s k D) (hg : W.grownBy W' row) (hr : ∀ r, row = some r → ∃ o : Obj, W.heap[r]? = some o ∧ o.isCells = false) : IsDr S B W' g s k D := by
  obtain ⟨v, h1, h2, h3, h4, h5, h6, h7, h8⟩ := h
  exact ⟨v, blk_turn_d h1 hg hr, blk_turn_d h2 hg hr, blk_turn_d h3 hg hr, R_turn_d h4 hg hr, h5, h6, h7, fun b hb => h8 b (Nat.le_trans hg.size hb)⟩
def Prot (W : World) (b : Nat) : Prop := ∃ o : Obj, W.heap[b]? = some o ∧ ∀ cs, o ≠ .cells cs 100 (0, 0) ∧ o ≠ .cells cs 5 (0, 0) ∧ o ≠ .cells cs 43 (0, 0)
theorem IsDr.strict {S : Nat → Prop} {B : Nat} {W : World} {g s k : Nat} {D : DrumS} (h : IsDr S B W g s k D) : IsDr (fun b => S b ∧ ¬ Prot W b) B W g s k D := by
  obtain ⟨v, h1, h2, h3, h4, ⟨a1, a2, a3⟩, h6, h7, h8⟩ := h
  refine ⟨v, h1, h2, h3, Kd.R_mono (Kd.R_bound h4) (fun b hb => ⟨⟨hb.1.1, ?_⟩, hb.1.2⟩), ⟨⟨a1, ?_⟩, ⟨a2, ?_⟩, ⟨a3, ?_⟩⟩, h6, h7, fun b hb => ⟨h8 b hb, ?_⟩⟩
  · rintro ⟨o, ho, hn⟩
    obtain ⟨_, _, _, q, hq, cells, hk⟩ := hb
    rw [hk] at ho
    injection ho with ho
    subst ho
    have : q = 100 ∨ q = 5 := by
      have h' : q ∈ (100 :: ([] ++ (5 :: []) : List Nat)) := hq
      simpa using h'
    rcases this with rfl | rfl
    · exact (hn cells).1 rfl
    · exact (hn cells).2.1 rfl
  · rintro ⟨o, ho, hn⟩
    rw [h1] at ho
    injection ho with ho
    exact (hn _).2.2 ho.symm
  · rintro ⟨o, ho, hn⟩
    rw [h2] at ho
    injection ho with ho
    exact (hn _).2.1 ho.symm
  · rintro ⟨o, ho, hn⟩
    rw [h3] at ho
    injection ho with ho
    exact (hn _).2.1 ho.symm
  · rintro ⟨o, ho, hn⟩
    rw [Array.getElem?_eq_none hb] at ho
    cases ho
theorem IsDr.more {S S' : Nat → Prop} {B : Nat} {W : World} {g s k : Nat} {D : DrumS} (h : IsDr S B W g s k D) (hs : ∀ b, S b → S' b) : IsDr S' B W g s k D := by
  obtain ⟨v, h1, h2, h3, h4, ⟨a1, a2, a3⟩, h6, h7, h8⟩ := h
  exact ⟨v, h1, h2, h3, Kd.R_mono h4 (fun b hb => ⟨hs b hb.1, hb.2⟩), ⟨hs _ a1, hs _ a2, hs _ a3⟩, h6, h7, fun b hb => hs b (h8 b hb)⟩
theorem wpIn_copy_to {F : Fence} {nf : Nat} {P : Program} {o : Oper} {a : Act} {w : World} {K : Act → World → Prop} {Q : Exit → Act → World → Prop} (hF : ∀ f, F.fn f) (d s : Operand) (dT sT : TypeId)
    (ho : o.op = .call { callee := .builtin .copy, args := #[d, s], argTypes := #[dT, sT] }) (elem : TypeId) (hu : P.underlying dT = some (.slice elem)) (hsz : (P.info? elem).map (·.size) = some 1)
    (ad : Addr) (dLen dCap sLen sCap g off : Nat) (hd : a.eval d = .slice (some ⟨g, off, none⟩) dLen dCap) (hs : a.eval s = .slice (some ad) sLen sCap)
    (cur : List Value) (t : TypeId) (hg : w.heap[g]? = some (.cells cur.toArray t (0, 0))) (cs : List Value) (hn : cs.length = min sLen dLen) (hsrc : ∀ j v, cs[j]? = some v → w.cell? (ad.add j) = some v)
    (hfit : off + cs.length ≤ cur.length) (h1 : ∀ v ∈ cs, v.oneCell' = true)
    (N : Tmp) (hN : o.dst = some N) (h : ∀ w', CopyTo w w' g (splice cur off cs).toArray t → K (a.put (some N) (goInt cs.length)) w') : o.wpIn F nf P a w K Q := by
  rw [← hN] at h
  have hrun := run_copy_row (P := P) w dT sT o.type elem g off dLen dCap ad sLen sCap cur.toArray t cs hu hsz hg hn hsrc (by simpa using hfit) h1
  refine ⟨fun f _ => hF f, ?_⟩
  rw [Oper.semAt_eq _ _ _ (by rw [ho]; intro c hc; cases hc)]
  simp only [execOp, ho, resolve, invoke, builtin, List.map_toArray, List.map_cons, List.map_nil, hd, hs, Sem.run_bind, Sem.run_pure, Result.andThen_ok, hrun, Oper.uponIn]
  exact h _ (by simpa [splice] using copy_to hg (splice cur off cs).toArray)
theorem sector_len (l : List Int) (j : Nat) (h : 64 * j + 64 ≤ l.length) : (sector l j).length = 64 := by
  unfold sector
  rw [List.length_take, List.length_drop]
  omega
theorem sector_cells {W : World} {b o : Nat} {l : List Int} (h : Kd.C (Kd.int .u8) W (some ⟨b, o, none⟩) l.length l) (x : Nat) (hx : 64 * x + 64 ≤ l.length) : ∀ (j : Nat) (v : Value), (nums .u8 (sector l x))[j]? = some v → W.cell? ((⟨b, o + 64 * x, none⟩ : Addr).add j) = some v := by
  intro j v hv
  have hj : j < 64 := by
    rcases Nat.lt_or_ge j 64 with h | h
    · exact h
    · rw [List.getElem?_eq_none (by rw [nums_len, sector_len l x hx]; exact h)] at hv
      cases hv
  have e : (⟨b, o + 64 * x, none⟩ : Addr).add j = (⟨b, o, none⟩ : Addr).add (64 * x + j) := by
    unfold Addr.add
    by_cases h0 : j = 0
    · subst h0
      by_cases h1 : x = 0
      · subst h1; simp
      · rw [if_pos rfl, if_neg (by omega)]; rfl
    · rw [if_neg h0, if_neg (by omega)]
      simp only [Addr.mk.injEq, and_true, true_and]
      omega
  rw [e]
  obtain ⟨ad, e2, hc⟩ := C_cells h (64 * x + j) v (by
    rw [← hv]
    unfold sector nums
    rw [List.map_take, List.map_drop, List.getElem?_take, if_pos hj, List.getElem?_drop])
  cases e2
  exact hc
theorem sector_C {W : World} {b o : Nat} {l : List Int} (h : Kd.C (Kd.int .u8) W (some ⟨b, o, none⟩) l.length l) (x : Nat) (hx : 64 * x + 64 ≤ l.length) : Kd.C (Kd.int .u8) W (some ⟨b, o + 64 * x, none⟩) (sector l x).length (sector l x) := by
  refine Kd.C_of_reads (enc := Value.int .u8) (d := (0 : Int)) (h1 := fun _ => rfl) ⟨rfl, by rw [sector_len l x hx]; decide, fun h0 => ⟨_, rfl, fun j hj => ?_⟩⟩
  refine sector_cells h x hx j _ ?_
  simp [nums, hj]
theorem countD_facts (x : S100) (D : DrumS) (har : -1 ≤ D.armed ∧ D.armed ≤ 9223372036854775807) : (countD x D).seen = D.seen ∧ (countD x D).kept = D.kept ∧ (-1 ≤ (countD x D).armed ∧ (countD x D).armed ≤ 9223372036854775807) ∧ (countD x D).ws.length ≤ D.ws.length + 1 := by
  unfold countD
  split
  · exact ⟨rfl, rfl, har, by omega⟩
  · split
    · exact ⟨rfl, rfl, har, by simp⟩
    · refine ⟨rfl, rfl, ?_, by simp⟩
      simp only
      split <;> omega
theorem wst_facts (a : Nat) (l : List Int) {m : Nat} (pre : List (Fin m)) (D : DrumS) (hm : l.length = 64 * m) (hfit : 64 * (a + m) ≤ D.seen.length) (har : -1 ≤ D.armed ∧ D.armed ≤ 9223372036854775807) : pre.length ≤ m →
    (wst a l pre D).1.seen.length = D.seen.length ∧ (wst a l pre D).1.kept = D.kept ∧ (-1 ≤ (wst a l pre D).1.armed ∧ (wst a l pre D).1.armed ≤ 9223372036854775807) ∧ (wst a l pre D).1.ws.length ≤ D.ws.length + pre.length := by
  have key : ∀ (n : Nat) (pre : List (Fin m)), pre.length = n → n ≤ m → (wst a l pre D).1.seen.length = D.seen.length ∧ (wst a l pre D).1.kept = D.kept ∧ (-1 ≤ (wst a l pre D).1.armed ∧ (wst a l pre D).1.armed ≤ 9223372036854775807) ∧ (wst a l pre D).1.ws.length ≤ D.ws.length + n := by
    intro n
    induction n with
    | zero =>
      intro pre h _
      obtain rfl := List.eq_nil_of_length_eq_zero h
      exact ⟨rfl, rfl, har, Nat.le_refl _⟩
    | succ n ih =>
      intro pre h hn
      obtain ⟨p, x, rfl⟩ : ∃ p x, pre = p ++ [x] := ⟨pre.dropLast, pre.getLast (by intro e; simp [e] at h), (List.dropLast_concat_getLast _).symm⟩
      have hp : p.length = n := by simpa using h
      obtain ⟨i1, i2, i3, i4⟩ := ih p hp (by omega)
      rw [wst_snoc, wst_len, hp]
      have hx := x.isLt
      have hs : (splice (wst a l p D).1.seen (64 * (a + n)) (sector l x.val)).length = (wst a l p D).1.seen.length := length_splice _ _ _ (by rw [sector_len l x.val (by omega)]; omega)
      obtain ⟨c1, c2, c3, c4⟩ := countD_facts ⟨((a + n : Nat) : Int), sector l x.val⟩ { (wst a l p D).1 with seen := splice (wst a l p D).1.seen (64 * (a + n)) (sector l x.val) } i3
      exact ⟨(congrArg List.length c1).trans (hs.trans i1), c2.trans i2, c3, Nat.le_trans c4 (by show (wst a l p D).1.ws.length + 1 ≤ _; omega)⟩
  exact key _ pre rfl
def WI (w : World) (S : Nat → Prop) (B : Nat) (g s k : Nat) (D : DrumS) (a : Nat) (l : List Int) (A : Option Addr) (n c : Nat) {m : Nat} (pre : List (Fin m)) (W : World) : Prop :=
  IsDr S B W g s k (wst a l pre D).1 ∧ W.heap[w.heap.size]? = some (.cells #[.pointer (some ⟨g, 0, none⟩)] 24 (0, 0)) ∧ W.heap[w.heap.size + 1]? = some (.cells #[.int .i64 ((a + pre.length : Nat) : Int)] 3 (0, 0)) ∧
  W.heap[w.heap.size + 1 + 1]? = some (.cells #[.slice A n c] 30 (0, 0)) ∧ W.heap[w.heap.size + 1 + 1 + 1]? = some (.cells #[.int .i64 64] 3 (0, 0)) ∧ Below B w W ∧ Kept w W S ∧ w.heap.size + 4 ≤ W.heap.size
theorem WI_own (w : World) (S : Nat → Prop) (B : Nat) (g s k : Nat) (D : DrumS) (a : Nat) (l : List Int) (A : Option Addr) (n c : Nat) {m : Nat} (B0 : Nat) (hB : w.heap.size ≤ B0) (hBB : B ≤ w.heap.size) : OwnFrom B0 (WI w S B g s k D a l A n c (m := m)) := by
  rintro z W W' row ⟨h0, h1, h2, h3, h4, h5, h6, h7⟩ hg hr
  have hr' := fun r e => (hr r e).2
  exact ⟨h0.turn hg hr', blk_turn_d h1 hg hr', blk_turn_d h2 hg hr', blk_turn_d h3 hg hr', blk_turn_d h4 hg hr', h5.grown hg (Nat.le_trans hBB h5.size) (fun k e => Nat.le_trans hBB (Nat.le_trans hB (hr k e).1)), Kept.of_grown hg h6 (fun k e => .inr (Nat.le_trans hB (hr k e).1)), Nat.le_trans h7 hg.size⟩
theorem al4 (w : World) (o1 o2 o3 o4 : Obj) : ((((w.alloc o1).alloc o2).alloc o3).alloc o4).heap[w.heap.size]? = some o1 ∧ ((((w.alloc o1).alloc o2).alloc o3).alloc o4).heap[w.heap.size + 1]? = some o2 ∧ ((((w.alloc o1).alloc o2).alloc o3).alloc o4).heap[w.heap.size + 1 + 1]? = some o3 ∧ ((((w.alloc o1).alloc o2).alloc o3).alloc o4).heap[w.heap.size + 1 + 1 + 1]? = some o4 := by
  obtain ⟨a1, a2, a3⟩ := al3 w o1 o2 o3
  refine ⟨(Below.heap_alloc _ _ _ (by simp; omega)).trans a1, (Below.heap_alloc _ _ _ (by simp)).trans a2, (Below.heap_alloc _ _ _ (by simp)).trans a3, ?_⟩
  simpa using heap_alloc_new (((w.alloc o1).alloc o2).alloc o3) o4
theorem cell_spot {w : World} {ad : Addr} {v : Value} (h : w.cell? ad = some v) : ad = ⟨ad.block, ad.off, none⟩ := by
  obtain ⟨b, o, sp⟩ := ad
  cases sp with
  | none => rfl
  | some q =>
    exfalso
    unfold World.cell? at h
    simp only at h
    split at h
    · simp at h
    · cases h
theorem chunk_of {w : World} {ok : Nat → Prop} {A : Option Addr} {m c : Nat} {l : List Int} (hF : Kd.F (Kd.int .u8) w ok A l.length l) (hm : l.length = 64 * m) (hc : l.length ≤ c) : ∃ adb ado, ChunkOf m (.slice A l.length c) adb ado ∧ (0 < m → A = some ⟨adb, ado, none⟩) := by
  rcases Nat.eq_zero_or_pos m with h | h
  · subst h
    exact ⟨0, 0, .inl ⟨rfl, A, c, by rw [hm]⟩, fun h => absurd h (by omega)⟩
  · obtain ⟨ad, e, hx⟩ := Kd.at_int (Kd.F_now hF) 0 (by omega) (by omega)
    have e2 : ad.add (0 : Int).toNat = ad := by simp [Addr.add]
    rw [e2] at hx
    have e3 := cell_spot hx
    refine ⟨ad.block, ad.off, .inr ⟨c, ?_, by omega⟩, fun _ => ?_⟩
    · rw [e, hm, ← e3]
    · rw [e, ← e3]
theorem IsDr.far {S : Nat → Prop} {B : Nat} {W : World} {g s k : Nat} {D : DrumS} (h : IsDr S B W g s k D) {p : Addr} (hp : ¬ S p.block) (u : Value) : IsDr S B (W.setCell p u) g s k D := by
  obtain ⟨v, h1, h2, h3, h4, ⟨a1, a2, a3⟩, h6, h7, h8⟩ := h
  have ne : ∀ b, S b → b ≠ p.block := fun b hb e => hp (e ▸ hb)
  exact ⟨v, (Below.heap_setCell _ p u g (ne g a1)).trans h1, h2.kept (Below.heap_setCell _ p u s (ne s a2)), h3.kept (Below.heap_setCell _ p u k (ne k a3)), R_set_ h4 p u (fun b hb => ne b hb.1), ⟨a1, a2, a3⟩, h6, h7, fun b hb => h8 b (by simpa using hb)⟩
theorem IsDr.seen_ {S : Nat → Prop} {B : Nat} {w W : World} {g s k : Nat} {D : DrumS} {l : List Int} (h : IsDr S B w g s k D) (hb : Bts W s l) (hk : KeepBut w W s none) (hl : l.length = D.seen.length) : IsDr S B W g s k { D with seen := l } := by
  obtain ⟨v, h1, h2, h3, h4, h5, h6, h7, h8⟩ := h
  refine ⟨v, ?_, hb, h3.kept (hk.2 k h3.lt (Ne.symm h7.2.2) (by simp)), R_keepBut_ h4 hk (fun b hb => hb.2.2.1), h5, h6, h7, fun b hb => h8 b (Nat.le_trans hk.1 hb)⟩
  rw [hl]
  exact (hk.2 g (blk_lt h1) h7.1 (by simp)).trans h1
theorem prot_of {W : World} {b t : Nat} {cs : Array Value} (h : W.heap[b]? = some (.cells cs t (0, 0))) (h1 : t ≠ 100) (h2 : t ≠ 5) (h3 : t ≠ 43) : Prot W b :=
  ⟨_, h, fun cs' => ⟨fun e => by injection e with _ e _; exact h1 e, fun e => by injection e with _ e _; exact h2 e, fun e => by injection e with _ e _; exact h3 e⟩⟩
theorem prot_other {W : World} {b : Nat} {o : Obj} (h : W.heap[b]? = some o) (ho : o.isCells = false) : Prot W b :=
  ⟨o, h, fun cs => by refine ⟨?_, ?_, ?_⟩ <;> (intro e; rw [e] at ho; cases ho)⟩
theorem round_end {w W W4 : World} {S : Nat → Prop} {B g s k : Nat} {D : DrumS} {a : Nat} {l : List Int} {A : Option Addr} {n c m : Nat} {pre : List (Fin m)} {x : Fin m} (hI : WI w S B g s k D a l A n c pre W) (hBw : B ≤ w.heap.size)
    (hd : IsDr (fun b => S b ∧ ¬ Prot W b) B W4 g s k (wst a l (pre ++ [x]) D).1) (hb : Below B W W4) (hk : Kept W W4 (fun b => S b ∧ ¬ Prot W b)) (u : Int) (hu : u = ((a + (pre ++ [x]).length : Nat) : Int)) :
    KeepsOthers W (W4.setCell ⟨w.heap.size + 1, 0, none⟩ (.int .i64 u)) ∧ KeepsTwo (w.heap.size + 1 + 1) (w.heap.size + 1 + 1 + 1) W (W4.setCell ⟨w.heap.size + 1, 0, none⟩ (.int .i64 u)) ∧ WI w S B g s k D a l A n c (pre ++ [x]) (W4.setCell ⟨w.heap.size + 1, 0, none⟩ (.int .i64 u)) := by
  obtain ⟨h0, h1, h2, h3, h4, h5, h6, h7⟩ := hI
  have p3 : Prot W w.heap.size := prot_of h1 (by decide) (by decide) (by decide)
  have p4 : Prot W (w.heap.size + 1) := prot_of h2 (by decide) (by decide) (by decide)
  have ps : Prot W (w.heap.size + 1 + 1) := prot_of h3 (by decide) (by decide) (by decide)
  have pn : Prot W (w.heap.size + 1 + 1 + 1) := prot_of h4 (by decide) (by decide) (by decide)
  have same : ∀ b, Prot W b → b < W.heap.size → W4.heap[b]? = W.heap[b]? := fun b hp hlt => hk.2 b hlt (fun h => h.2 hp)
  have far : ∀ b, b ≠ w.heap.size + 1 → (W4.setCell ⟨w.heap.size + 1, 0, none⟩ (.int .i64 u)).heap[b]? = W4.heap[b]? := fun b hne => Below.heap_setCell W4 ⟨w.heap.size + 1, 0, none⟩ _ b hne
  have e3 := (far w.heap.size (by omega)).trans (same _ p3 (by omega))
  have es := (far (w.heap.size + 1 + 1) (by omega)).trans (same _ ps (by omega))
  have en := (far (w.heap.size + 1 + 1 + 1) (by omega)).trans (same _ pn (by omega))
  have hk2 : Kept w W4 S := h6.then_ hk (fun b hb => .inl hb.1)
  refine ⟨⟨by simpa using hb.size, fun b o ho hc => ?_⟩, ⟨es, en⟩, ?_, e3.trans h1, ?_, es.trans h3, en.trans h4, ?_, ?_, ?_⟩
  · have hne : b ≠ w.heap.size + 1 := by
      intro e
      subst e
      rw [h2] at ho
      injection ho with ho
      subst ho
      cases hc
    rw [far b hne, same b (prot_other ho hc) (blk_lt ho)]
    exact ho
  · exact (hd.far (p := ⟨w.heap.size + 1, 0, none⟩) (fun h => h.2 p4) _).more (fun b hb => hb.1)
  · rw [← hu]
    exact blk_put ((same _ p4 (by omega)).trans h2) 0 (.int .i64 u) rfl
  · exact (h5.trans hb).setCell (p := ⟨w.heap.size + 1, 0, none⟩) (by simp only; omega) _
  · exact hk2.setCell (p := ⟨w.heap.size + 1, 0, none⟩) (.inr (by simp only; omega)) _
  · have := hb.size
    simp
    omega
theorem wpIn_call {F : Fence} {nf : Nat} {P : Program} {o : Oper} {a : Act} {w : World} {K : Act → World → Prop} {Q : Exit → Act → World → Prop} (hF : ∀ f, F.fn f) (f : FuncId) (args : Array Operand) (tys : Array TypeId)
    (ho : o.op = .call { callee := .value (.func f), args := args, argTypes := tys }) (he : ∀ args w, (callFunc f args).run P w = .ok (.enter f args) w) (hn : 1 ≤ nf) (vals : Array Value) (hv' : args.toList.map a.eval = vals.toList) (R : Ending → World → Prop) (hC : CallsIn F (nf - 1) P f vals w R)
    (N : Tmp) (hN : o.dst = some N) (h : ∀ e w', R e w' → ∃ v, e = .returned v ∧ K (a.put (some N) v) w') : o.wpIn F nf P a w K Q := by
  have hv : args.map a.eval = vals := Array.ext' (by simpa using hv')
  refine ⟨fun f _ => hF f, ?_⟩
  rw [Oper.semAt_eq _ _ _ (by rw [ho]; intro c hc; cases hc)]
  have hrun : (execOp a.eval o).run P w = .ok (.enter f vals) w := by
    have h1 : (resolve a.eval { callee := .value (.func f), args := args, argTypes := tys } o.type).run P w = .ok { target := .fn (.func f) #[], args := vals } w := by
      simp [resolve, hv, go_sem]
    simp only [execOp, ho, Sem.run_bind, h1, Result.andThen_ok]
    simp [invoke, go_sem, he]
  rw [hrun]
  refine ⟨fun _ => hn, CallsIn.mono hC fun e w' hr => ?_⟩
  obtain ⟨v, rfl, hk⟩ := h e w' hr
  rw [hN]
  exact hk
set_option maxRecDepth 100000 in
set_option maxHeartbeats 16000000 in
theorem write_yes (S : Nat → Prop) (B : Nat) (w : World) (g s k : Nat) (D : DrumS) (a : Nat) (A : Option Addr) (c : Nat) (l : List Int) (m : Nat) (h : IsDr S B w g s k D) (hB : B ≤ w.heap.size) (hG : D.Good) (hF : Kd.F (Kd.int .u8) w (fun b => ¬ S b) A l.length l) (hc : l.length ≤ c) (hm : l.length = 64 * m) (hfit : 64 * (a + m) ≤ D.seen.length) (hl : D.ws.length + m ≤ 1000000000) (har : -1 ≤ D.armed ∧ D.armed ≤ 9223372036854775807) :
    Calls Try.prog 12 #[.pointer (some ⟨g, 0, none⟩), .int .i64 (a : Int), .slice A l.length c] w fun e w' => e = .returned (.int .i64 0) ∧ IsDr S B w' g s k (wst a l (List.finRange m) D).1 ∧ Below B w w' ∧ Kept w w' S := by
  obtain ⟨Q, hQ⟩ : ∃ Q : Ending → World → Prop, (fun e w' => e = .returned (.int .i64 0) ∧ IsDr S B w' g s k (wst a l (List.finRange m) D).1 ∧ Below B w w' ∧ Kept w w' S) = Q := ⟨_, rfl⟩
  rw [hQ]
  have HQQ := Aside0.mk hQ
  clear hQ
  refine (callsIn_wide (n := 6)).1 ?_
  have hro : Fence.wide.round = none := rfl
  have hfn : ∀ f, Fence.wide.fn f = True := fun _ => eq_true trivial
  refine callsIn_of_wp_marks Try.func12 rfl trivial ?_ hro
  simp only [Try.ntmps12, List.size_toArray, List.length_cons, List.length_nil, Nat.reduceAdd, Nat.reduceSub, Array.replicate_succ, Array.replicate_zero, List.push_toArray, List.append_toArray, List.nil_append, List.cons_append]
  have hu43 := Try.underlying43
  have hu100 := Try.underlying100
  have hkl : D.kept.length ≤ 524288 := hG.2.1
  have hsl : D.seen.length ≤ 524288 := by rw [hG.1]; exact hkl
  have HAS : Aside0 (∀ W : World, Below w.heap.size w W → Calls Try.prog 46 #[.pointer (some ⟨g, 0, none⟩), .int .i64 (a : Int), .int .i64 (m : Int)] W fun e w' => e = .returned (.bool true) ∧ w' = W) := ⟨fun W hb => by
    obtain ⟨v, b1, b2, b3, b4, b5⟩ := h.below hb
    have q := has_of W (.pointer (some ⟨g, 0, none⟩)) ((D.seen.length / 64 : Nat) : Int) (a : Int) (m : Int) (sectors_blk W g _ _ _ _ _ _ _ b1 (by omega)) (by omega) (by omega) (by omega) rfl
    have e : hasB ((D.seen.length / 64 : Nat) : Int) (a : Int) (m : Int) = true := decide_eq_true ⟨by omega, by omega, by omega⟩
    rw [e] at q
    exact q⟩
  have H := Aside0.mk h
  have HB := Aside0.mk hB
  have HG := Aside0.mk hG
  have HF := Aside0.mk hF
  have HC := Aside0.mk hc
  have HM := Aside0.mk hm
  have HFIT := Aside0.mk hfit
  have HL := Aside0.mk hl
  have HAR := Aside0.mk har
  obtain ⟨n, hn⟩ : ∃ n, n = l.length := ⟨_, rfl⟩
  have hn2 : n = 64 * m := by omega
  have hmb : m ≤ 8192 := by omega
  rw [← hn]
  have HN := Aside0.mk hn
  have t1 : ((n : Int) % 64 != 0) = false := by rw [bne_eq_false_iff_eq]; omega
  have t2 : (n : Int) / 64 = (m : Int) := by omega
  have t3 : (0 : Int) ≤ (n : Int) := by omega
  have t4 : (n : Int) ≤ 1000000 := by omega
  clear h hB hG hF hc hm hfit hl har hn hkl hsl
  have HN2 := Aside0.mk hn2
  have HMB := Aside0.mk hmb
  clear hn2 hmb
  gi_wp2_with (first
    | (gi_at_call 46; refine ((callsIn_wide (n := 5)).2 (HAS.out _ (below_alloc (below_alloc (Below.refl _ _) _) _))).mono ?_; rintro e w' ⟨rfl, rfl⟩)
    | (gi_at_call 47; refine (chunk_in Fence.wide 5 trivial hro _ _ _ _).mono ?_; rintro e w' ⟨rfl, rfl⟩))
  obtain ⟨W0, hW0⟩ : ∃ W0 : World, ((((w.alloc (Obj.cells #[Value.pointer (some { block := g, off := 0 })] 24)).alloc (Obj.cells #[Value.int IntKind.i64 (a : Int)] 3)).alloc (Obj.cells #[Value.slice A n c] 30)).alloc (Obj.cells #[Value.int IntKind.i64 64] 3)) = W0 := ⟨_, rfl⟩
  have hsz : W0.heap.size = w.heap.size + 4 := by rw [← hW0]; simp
  have hB0 : Below w.heap.size w W0 := by
    rw [← hW0]
    exact below_alloc (below_alloc (below_alloc (below_alloc (Below.refl _ w) _) _) _) _
  obtain ⟨hb3, hb4, hbs, hbn⟩ := al4 w (Obj.cells #[Value.pointer (some { block := g, off := 0 })] 24) (Obj.cells #[Value.int IntKind.i64 (a : Int)] 3) (Obj.cells #[Value.slice A n c] 30) (Obj.cells #[Value.int IntKind.i64 64] 3)
  rw [hW0] at hb3 hb4 hbs hbn ⊢
  obtain ⟨adb, ado, hsv, hA⟩ := chunk_of HF.out HM.out HC.out
  rw [← HN.out] at hsv
  have HAD := Aside0.mk hA
  clear hA
  have HSV := Aside0.mk hsv
  have HSZ := Aside0.mk hsz
  have hI0 : WI w S B g s k D a l A n c (m := m) [] W0 := ⟨H.out.below hB0, hb3, hb4, hbs, hbn, hB0.mono HB.out, Kept.of_below hB0 S, by rw [hsz]; exact Nat.le_refl _⟩
  have hcs : W0.cell? ⟨w.heap.size + 1 + 1, 0, none⟩ = some (.slice A n c) := (blk_cell hbs 0).trans rfl
  have hcn : W0.cell? ⟨w.heap.size + 1 + 1 + 1, 0, none⟩ = some (.int .i64 64) := (blk_cell hbn 0).trans rfl
  clear hW0 hsz hb3 hb4 hbs hbn
  refine wpIn_rangeFunc_ownF hro (by omega) (gf := 72) (lb := #[.pointer (some ⟨w.heap.size + 1 + 1, 0, none⟩), .pointer (some ⟨w.heap.size + 1 + 1 + 1, 0, none⟩)]) rfl trivial (enters_of Try.func72 (by kernel_rfl) rfl)
    (chunk_stops Fence.wide 5 trivial hro (by omega) _ _ adb ado m (by have := HMB.out; omega) _ hsv W0 (by have := HSZ.out; omega) (by have := HSZ.out; omega) hcs hcn) keepsTwo_t (keepsTwo_b (by have := HSZ.out; omega) (by have := HSZ.out; omega)) (Below.refl _ _) (fun _ => rfl)
    (WI w S B g s k D a l A n c) (fun _ _ _ => False) (WI_own w S B g s k D a l A n c _ (by have := HSZ.out; omega) HB.out) (fun _ => fun _ _ _ _ h => h.elim) hI0
    (fun x => { tmps := #[Value.pointer (some { block := g, off := 0 }), Value.int IntKind.i64 (a : Int), Value.slice A n c, Value.pointer (some { block := w.heap.size, off := 0 }), Value.pointer (some { block := w.heap.size + 1, off := 0 }), undef, Value.int IntKind.i64 0, Value.slice (some { block := adb, off := ado + 64 * x.val }) 64 64, Value.bool false, Value.slice A n c, Value.int IntKind.i64 (n : Int), Value.int IntKind.i64 ((n : Int) % 64), Value.bool false, Value.bool false, Value.pointer (some { block := g, off := 0 }), Value.int IntKind.i64 (a : Int), Value.slice A n c, Value.int IntKind.i64 (n : Int), Value.int IntKind.i64 (m : Int), Value.bool true, Value.bool false, Value.slice A n c, Value.func (Fn.func 72) #[] #[Value.pointer (some { block := w.heap.size + 1 + 1, off := 0 }), Value.pointer (some { block := w.heap.size + 1 + 1 + 1, off := 0 })], Value.slice (some { block := adb, off := ado + 64 * x.val }) 64 64, undef, undef, undef, undef, undef, undef, undef, undef, undef, undef, undef, undef, undef, undef, undef, undef, undef], defers := [] }) ?assign ?body ?done ?stop
  case assign =>
    intro l x W K hK
    gi_wp2
    exact hK
  case body =>
    rintro ll pre x W hI hlt
    obtain ⟨h0, h1, h2, h3, h4, h5, h6, h7⟩ := hI
    have HPL : Aside0 (pre.length < m) := ⟨hlt⟩
    have HI : Aside0 (WI w S B g s k D a l A n c pre W) := ⟨⟨h0, h1, h2, h3, h4, h5, h6, h7⟩⟩
    obtain ⟨q, hq⟩ : ∃ q, q = a + pre.length := ⟨_, rfl⟩
    rw [← hq] at h2
    obtain ⟨D1, hD1⟩ : ∃ D1, D1 = (wst a l pre D).1 := ⟨_, rfl⟩
    rw [← hD1] at h0
    obtain ⟨w1, w2, w3, w4⟩ := wst_facts a l pre D HM.out (by have := HFIT.out; omega) HAR.out (Nat.le_of_lt hlt)
    rw [← hD1] at w1 w2 w3 w4
    have hqb : 64 * q + 64 ≤ D1.seen.length := by rw [w1]; have := HFIT.out; omega
    have hsl : D1.seen.length ≤ 524288 := by rw [w1, HG.out.1]; exact HG.out.2.1
    have HQ := Aside0.mk hq
    have HD1 := Aside0.mk hD1
    have HQB := Aside0.mk hqb
    have HW1 := Aside0.mk w1
    have HW3 := Aside0.mk w3
    have HW4 := Aside0.mk w4
    have HDr := Aside0.mk h0
    obtain ⟨v, b1, b2, b3, b4, b5⟩ := h0
    have B2 := Aside0.mk b2
    obtain ⟨cg0, cg1, cg2, cg3, cg4, fg0, fg1, fg2, fg3, fg4⟩ := blk_at5 b1
    obtain ⟨cb3, fb3⟩ := blk_at1 h1
    obtain ⟨cb4, fb4⟩ := blk_at1 h2
    obtain ⟨N1, hN1⟩ : ∃ N1, N1 = D1.seen.length := ⟨_, rfl⟩
    rw [← hN1] at cg0
    have HN1 := Aside0.mk hN1
    obtain ⟨i0, hi, hz0, hz1, hz2⟩ := info_parts info5
    have HSZE : Aside0 ((Try.prog.info? 5).map (·.size) = some 1) := ⟨by rw [hi]; simp [hz1]⟩
    have hcut := fun V => cut_at (P := Try.prog) 30 5 Try.underlying30 hi hz1 s N1 (64 * q) (64 * (q : Int)) (by omega) (by omega) V
    have z0 : (0 : Int) ≤ (q : Int) := by omega
    have z00 : (q : Int) ≤ 20000 := by omega
    have z1 : (0 : Int) ≤ 64 * (q : Int) := by omega
    have z2 : 64 * (q : Int) ≤ ((N1 : Nat) : Int) := by omega
    have hw : IntKind.i64.wrap (64 * (q : Int)) = 64 * (q : Int) := IntWalk.i64_in _ (by omega)
    have hxl := x.isLt
    have HAx : Aside0 (A = some ⟨adb, ado, none⟩) := ⟨HAD.out (by omega)⟩
    have HFw := Aside0.mk (Kd.F_kept HF.out h6 (fun b hb => hb))
    have HCx : Aside0 (∀ j v, (nums .u8 (sector l x.val))[j]? = some v → W.cell? ((⟨adb, ado + 64 * x.val, none⟩ : Addr).add j) = some v) := ⟨sector_cells (by rw [← HAx.out]; exact Kd.F_now HFw.out) x.val (by have := HM.out; omega)⟩
    have HS0 : Aside0 (s < w.heap.size) := ⟨by obtain ⟨_, _, q, _⟩ := H.out; exact q.lt⟩
    have HG0 : Aside0 (g < w.heap.size) := ⟨by obtain ⟨_, q, _⟩ := H.out; exact blk_lt q⟩
    have HGS : Aside0 (g ≠ s) := ⟨by obtain ⟨_, _, _, _, _, _, _, q, _⟩ := H.out; exact q.1⟩
    have HSL : Aside0 ((sector l x.val).length = 64) := ⟨sector_len l x.val (by have := HM.out; omega)⟩
    clear hq hD1 w1 w2 w3 w4 hqb hsl b1 b2 b3 b4 b5 cg1 cg2 cg3 cg4 fg1 fg2 fg3 fg4 hN1 hi hz0 hz1 hz2 h1 h2 h3 h4 h5 h6 h7 hxl hlt
    gi_wp2
    refine wpIn_region_heldF (fun V => V.cell? ⟨w.heap.size, 0, none⟩ = some (.pointer (some ⟨g, 0, none⟩)) ∧ V.cell? ⟨w.heap.size + 1, 0, none⟩ = some (.int .i64 (q : Int)) ∧ V.cell? ⟨g, 0, none⟩ = some (.slice (some ⟨s, 0, none⟩) N1 N1)) (by kernel_rfl) ?_
    have hS : (W.drew).cell? ⟨w.heap.size, 0, none⟩ = some (.pointer (some ⟨g, 0, none⟩)) ∧ (W.drew).cell? ⟨w.heap.size + 1, 0, none⟩ = some (.int .i64 (q : Int)) ∧ (W.drew).cell? ⟨g, 0, none⟩ = some (.slice (some ⟨s, 0, none⟩) N1 N1) := ⟨cb3, cb4, cg0⟩
    go_simp
    (refine wpAnyHeld_take (i := 0) (v := .pointer (some ⟨g, 0, none⟩)) (by intro j o ho c; have := List.mem_of_getElem? ((Array.getElem?_toList ..).trans ho); simp at this; rcases this with rfl | rfl | rfl | rfl | rfl | rfl | rfl | rfl | rfl <;> simp) rfl (by kernel_rfl) (by kernel_rfl) (by kernel_rfl) (fun _ _ _ h => h) ⟨.inl ⟨by rfl, ?_⟩, fun _ => rfl⟩ hS ?_; (focus (rintro w0 ⟨s1, s2, s3⟩; go_simp; done)); go_simp)
    (refine wpAnyHeld_take (i := 1) (v := .pointer (some ⟨g, 0, none⟩)) (by intro j o ho c; have := List.mem_of_getElem? ((Array.getElem?_toList ..).trans ho); simp at this; rcases this with rfl | rfl | rfl | rfl | rfl | rfl | rfl | rfl | rfl <;> simp) rfl (by kernel_rfl) (by kernel_rfl) (by kernel_rfl) (fun _ _ _ h => h) ⟨.inl ⟨by rfl, ?_⟩, fun _ => rfl⟩ hS ?_; (focus (rintro w0 ⟨s1, s2, s3⟩; go_simp; done)); go_simp)
    (refine wpAnyHeld_take (i := 2) (v := .pointer (some ⟨g, 0, none⟩)) (by intro j o ho c; have := List.mem_of_getElem? ((Array.getElem?_toList ..).trans ho); simp at this; rcases this with rfl | rfl | rfl | rfl | rfl | rfl | rfl | rfl | rfl <;> simp) rfl (by kernel_rfl) (by kernel_rfl) (by kernel_rfl) (fun _ _ _ h => h) ⟨.inl ⟨by rfl, ?_⟩, fun _ => rfl⟩ hS ?_; (focus (rintro w0 ⟨s1, s2, s3⟩; go_simp; done)); go_simp)
    (refine wpAnyHeld_take (i := 3) (v := .slice (some ⟨s, 0, none⟩) N1 N1) (by intro j o ho c; have := List.mem_of_getElem? ((Array.getElem?_toList ..).trans ho); simp at this; rcases this with rfl | rfl | rfl | rfl | rfl | rfl | rfl | rfl | rfl <;> simp) rfl (by kernel_rfl) (by kernel_rfl) (by kernel_rfl) (fun _ _ _ h => h) ⟨.inl ⟨by rfl, ?_⟩, fun _ => rfl⟩ hS ?_; (focus (rintro w0 ⟨s1, s2, s3⟩; go_simp; done)); go_simp)
    (refine wpAnyHeld_take (i := 4) (v := .int .i64 (q : Int)) (by intro j o ho c; have := List.mem_of_getElem? ((Array.getElem?_toList ..).trans ho); simp at this; rcases this with rfl | rfl | rfl | rfl | rfl | rfl | rfl | rfl | rfl <;> simp) rfl (by kernel_rfl) (by kernel_rfl) (by kernel_rfl) (fun _ _ _ h => h) ⟨.inl ⟨by rfl, ?_⟩, fun _ => rfl⟩ hS ?_; (focus (rintro w0 ⟨s1, s2, s3⟩; go_simp; done)); go_simp)
    (refine wpAnyHeld_take (i := 5) (v := .int .i64 (64 * (q : Int))) (by intro j o ho c; have := List.mem_of_getElem? ((Array.getElem?_toList ..).trans ho); simp at this; rcases this with rfl | rfl | rfl | rfl | rfl | rfl | rfl | rfl | rfl <;> simp) rfl (by kernel_rfl) (by kernel_rfl) (by kernel_rfl) (fun _ _ _ h => h) ⟨.inl ⟨by rfl, ?_⟩, fun _ => rfl⟩ hS ?_; (focus (rintro w0 ⟨s1, s2, s3⟩; go_simp; done)); go_simp)
    (refine wpAnyHeld_take (i := 6) (v := .slice (some ⟨s, 64 * q, none⟩) (N1 - 64 * q) (N1 - 64 * q)) (by intro j o ho c; have := List.mem_of_getElem? ((Array.getElem?_toList ..).trans ho); simp at this; rcases this with rfl | rfl | rfl | rfl | rfl | rfl | rfl | rfl | rfl <;> simp) rfl (by kernel_rfl) (by kernel_rfl) (by kernel_rfl) (fun _ _ _ h => h) ⟨.inl ⟨by rfl, ?_⟩, fun _ => rfl⟩ hS ?_; (focus (rintro w0 ⟨s1, s2, s3⟩; go_simp; done)); go_simp)
    (refine wpAnyHeld_take (i := 7) (v := .slice (some ⟨adb, ado + 64 * x.val, none⟩) 64 64) (by intro j o ho c; have := List.mem_of_getElem? ((Array.getElem?_toList ..).trans ho); simp at this; rcases this with rfl | rfl | rfl | rfl | rfl | rfl | rfl | rfl | rfl <;> simp) rfl (by kernel_rfl) (by kernel_rfl) (by kernel_rfl) (fun _ _ _ h => h) ⟨.inl ⟨by rfl, ?_⟩, fun _ => rfl⟩ hS ?_; (focus (rintro w0 ⟨s1, s2, s3⟩; go_simp; done)); go_simp)
    refine wpAnyHeld_one (i := 8) (by kernel_rfl) rfl rfl (fun K hK => ?_)
    refine wpIn_copy_to (fun _ => trivial) (.tmp 30) (.tmp 31) 30 30 (by rfl) 5 Try.underlying30 HSZE.out ⟨adb, ado + 64 * x.val, none⟩ (N1 - 64 * q) (N1 - 64 * q) 64 64 s (64 * q) (by rfl) (by rfl) (nums .u8 D1.seen) 5 B2.out (nums .u8 (sector l x.val)) (by rw [nums_len, HSL.out]; have := HQB.out; have := HN1.out; omega) HCx.out (by rw [nums_len, nums_len, HSL.out]; have := HQB.out; omega) (fun v hv => nums_one hv) 32 (by rfl) ?_
    intro W2 hcp
    generalize goInt ((nums .u8 (sector l x.val)).length : Int) = zz
    have e3 : W2.heap[w.heap.size]? = W.heap[w.heap.size]? := hcp.2.1.2 _ (by show w.heap.size < W.heap.size; have := HI.out.2.2.2.2.2.2.2; omega) (by have := HS0.out; omega) (by simp)
    have e4 : W2.heap[w.heap.size + 1]? = W.heap[w.heap.size + 1]? := hcp.2.1.2 _ (by show w.heap.size + 1 < W.heap.size; have := HI.out.2.2.2.2.2.2.2; omega) (by have := HS0.out; omega) (by simp)
    have eg : W2.heap[g]? = W.heap[g]? := hcp.2.1.2 _ (by show g < W.heap.size; have := HG0.out; have := HI.out.2.2.2.2.2.2.2; omega) HGS.out (by simp)
    refine hK _ _ ⟨(cell_of_heap e3 0).trans cb3, (cell_of_heap e4 0).trans cb4, (cell_of_heap eg 0).trans cg0⟩ ?_
    clear hK K
    refine wpAnyHeld_done (by kernel_rfl) ?_ _
    clear hS
    replace cb3 := (cell_of_heap e3 0).trans cb3
    replace cb4 := (cell_of_heap e4 0).trans cb4
    have fb4 : W2.frozen? ⟨w.heap.size + 1, 0, none⟩ = false := blk_frozen (e4.trans HI.out.2.2.1) 0
    have HCP := Aside0.mk hcp
    clear hcp e3 e4 eg cg0 fb3 fg0 hcut hw z1 z2
    have hS' : Aside0 (IsDr (fun b => S b ∧ ¬ Prot W b) B W2 g s k { D1 with seen := splice D1.seen (64 * q) (sector l x.val) }) := ⟨HDr.out.strict.seen_ (by unfold Bts; rw [HCP.out.1, nums_splice]) (KeepBut.trans (KeepBut.of_below (Below.drew (Below.refl _ _)) s none) HCP.out.2.1 (.inl rfl)) (length_splice _ _ _ (by rw [HSL.out]; exact HQB.out))⟩
    have hK2 : Aside0 (Kept W W2 (fun b => S b ∧ ¬ Prot W b)) := ⟨Kept.of_keep (Kept.refl W _) (KeepBut.trans (KeepBut.of_below (Below.drew (Below.refl _ _)) s none) HCP.out.2.1 (.inl rfl)) (.inl (by obtain ⟨_, _, _, _, _, h, _⟩ := HDr.out.strict; exact h.2.1))⟩
    have hB2 : Aside0 (Below B W W2) := ⟨HCP.out.2.2 B W (by obtain ⟨_, _, _, _, _, _, h, _⟩ := HDr.out; exact h.2.1) (Below.drew (Below.refl _ _))⟩
    have hC2 : Aside0 (Kd.C (Kd.int .u8) W2 (some ⟨adb, ado + 64 * x.val, none⟩) (sector l x.val).length (sector l x.val)) := ⟨sector_C (by rw [← HAx.out]; exact Kd.F_now (Kd.F_kept HFw.out (hK2.out.mono (fun b hb => hb.1)) (fun b hb => hb))) x.val (by have := HM.out; omega)⟩
    have CL : Aside0 (Calls Try.prog 49 #[.slice (some ⟨adb, ado + 64 * x.val, none⟩) 64 64] W2.drew (fun e w' => ∃ v0_ : Value, e = .returned (v0_) ∧ Kd.R (Kd.int .u8) 5 w' W2.heap.size (fun _ => True) v0_ (sector l x.val) ∧ Below W2.heap.size W2 w')) := ⟨by
      have q := slices_Clone_byte_byte.calls (some ⟨adb, ado + 64 * x.val, none⟩) 64 (sector l x.val) (sector l x.val) W2.drew (Kd.C_below hC2.out (Below.drew (Below.refl _ _))) (by rw [HSL.out]; exact Nat.le_refl _) (by unfold slices_Clone_byte_byte.f; rw [if_pos (by rw [HSL.out]; decide)])
      rw [HSL.out] at q
      exact q.mono fun e w' ⟨v, h1, h2, h3⟩ => ⟨v, h1, h2, (Below.drew (Below.refl _ _)).trans h3⟩⟩
    clear cb3 cb4 fb4
    gi_wp2
    refine wpIn_region_heldF (fun V => V.cell? ⟨w.heap.size, 0, none⟩ = some (.pointer (some ⟨g, 0, none⟩)) ∧ V.cell? ⟨w.heap.size + 1, 0, none⟩ = some (.int .i64 (q : Int))) (by kernel_rfl) ?_
    have keep : ∀ V : World, V.heap[w.heap.size]? = W.heap[w.heap.size]? → V.heap[w.heap.size + 1]? = W.heap[w.heap.size + 1]? → V.cell? ⟨w.heap.size, 0, none⟩ = some (.pointer (some ⟨g, 0, none⟩)) ∧ V.cell? ⟨w.heap.size + 1, 0, none⟩ = some (.int .i64 (q : Int)) := fun V e1 e2 => ⟨(cell_of_heap e1 0).trans ((blk_cell HI.out.2.1 0).trans rfl), (cell_of_heap e2 0).trans ((blk_cell HI.out.2.2.1 0).trans (by rw [HQ.out]; rfl))⟩
    have KEEP := Aside0.mk keep
    clear keep
    have hS := KEEP.out W2.drew (hK2.out.2 _ (by have := HI.out.2.2.2.2.2.2.2; omega) (fun h => h.2 (prot_of HI.out.2.1 (by decide) (by decide) (by decide)))) (hK2.out.2 _ (by have := HI.out.2.2.2.2.2.2.2; omega) (fun h => h.2 (prot_of HI.out.2.2.1 (by decide) (by decide) (by decide))))
    go_simp
    (refine wpAnyHeld_take (i := 0) (v := .pointer (some ⟨g, 0, none⟩)) (by intro j o ho c; have := List.mem_of_getElem? ((Array.getElem?_toList ..).trans ho); simp at this; rcases this with rfl | rfl | rfl | rfl | rfl | rfl <;> simp) rfl (by kernel_rfl) (by kernel_rfl) (by kernel_rfl) (fun _ _ _ h => h) ⟨.inl ⟨by rfl, ?_⟩, fun _ => rfl⟩ hS ?_; (focus (rintro w0 ⟨s1, s2⟩; go_simp; done)); go_simp)
    (refine wpAnyHeld_take (i := 1) (v := .int .i64 (q : Int)) (by intro j o ho c; have := List.mem_of_getElem? ((Array.getElem?_toList ..).trans ho); simp at this; rcases this with rfl | rfl | rfl | rfl | rfl | rfl <;> simp) rfl (by kernel_rfl) (by kernel_rfl) (by kernel_rfl) (fun _ _ _ h => h) ⟨.inl ⟨by rfl, ?_⟩, fun _ => rfl⟩ hS ?_; (focus (rintro w0 ⟨s1, s2⟩; go_simp; done)); go_simp)
    (refine wpAnyHeld_take (i := 2) (v := .slice (some ⟨adb, ado + 64 * x.val, none⟩) 64 64) (by intro j o ho c; have := List.mem_of_getElem? ((Array.getElem?_toList ..).trans ho); simp at this; rcases this with rfl | rfl | rfl | rfl | rfl | rfl <;> simp) rfl (by kernel_rfl) (by kernel_rfl) (by kernel_rfl) (fun _ _ _ h => h) ⟨.inl ⟨by rfl, ?_⟩, fun _ => rfl⟩ hS ?_; (focus (rintro w0 ⟨s1, s2⟩; go_simp; done)); go_simp)
    refine wpAnyHeld_one (i := 3) (by kernel_rfl) rfl rfl (fun K hK => ?_)
    refine wpIn_call (fun _ => trivial) 49 #[.tmp 35] #[30] (by rfl) (enters_of Try.func49 (by kernel_rfl) rfl) (by omega) #[.slice (some ⟨adb, ado + 64 * x.val, none⟩) 64 64] (by rfl) _ (CallsIn.inRound ll ((callsIn_wide (n := 6 - 1 - 1 - 1)).2 CL.out)) 36 (by rfl) ?_
    rintro e W3 ⟨v3, rfl, ho3, hb3⟩
    obtain ⟨A3, c3, hv3⟩ := Kd.R_slice ho3
    subst hv3
    have HO3 := Aside0.mk ho3
    have HB3 := Aside0.mk hb3
    have f3 : ∀ b, Prot W b → b < W.heap.size → W3.heap[b]? = W.heap[b]? := fun b hp hlt => (hb3.block b (Nat.lt_of_lt_of_le hlt hK2.out.1)).trans (hK2.out.2 b hlt (fun h => h.2 hp))
    have P3 : Prot W w.heap.size := prot_of HI.out.2.1 (by decide) (by decide) (by decide)
    have P4 : Prot W (w.heap.size + 1) := prot_of HI.out.2.2.1 (by decide) (by decide) (by decide)
    have hsw : w.heap.size + 4 ≤ W.heap.size := HI.out.2.2.2.2.2.2.2
    have PP3 := Aside0.mk P3
    have PP4 := Aside0.mk P4
    have HSW := Aside0.mk hsw
    replace hS := KEEP.out W3 (f3 _ P3 (by omega)) (f3 _ P4 (by omega))
    rw [HSL.out]
    refine ⟨_, rfl, hK _ _ hS ?_⟩
    clear hK K f3 P3 P4 hsw ho3 hb3
    (refine wpAnyHeld_take (i := 4) (v := .agg #[.int .i64 (q : Int), .slice A3 64 c3]) (by intro j o ho c; have := List.mem_of_getElem? ((Array.getElem?_toList ..).trans ho); simp at this; rcases this with rfl | rfl | rfl | rfl | rfl | rfl <;> simp) rfl (by kernel_rfl) (by kernel_rfl) (by kernel_rfl) (fun _ _ _ h => h) ⟨.inl ⟨by rfl, ?_⟩, fun _ => rfl⟩ hS ?_; (focus (rintro w0 ⟨s1, s2⟩; go_simp; done)); go_simp)
    refine wpAnyHeld_one (i := 5) (by kernel_rfl) rfl rfl (fun K hK => ?_)
    have CT := count_calls (fun b => S b ∧ ¬ Prot W b) B W2 W3 g s k { D1 with seen := splice D1.seen (64 * q) (sector l x.val) } q A3 c3 (sector l x.val) hS'.out HB3.out HO3.out (Nat.le_trans HB.out (by have := HSW.out; have := hK2.out.1; omega)) (by have := HW4.out; have := HL.out; have := x.isLt; have := HPL.out; show D1.ws.length ≤ _; omega) HW3.out
    rw [HSL.out] at CT
    refine wpIn_call (fun _ => trivial) 48 #[.tmp 33, .tmp 37] #[24, 100] (by rfl) (enters_of Try.func48 (by kernel_rfl) rfl) (by omega) #[.pointer (some ⟨g, 0, none⟩), .agg #[.int .i64 (q : Int), .slice A3 64 c3]] (by rfl) _ (CallsIn.inRound ll ((callsIn_wide (n := 6 - 1 - 1 - 1)).2 CT)) 38 (by rfl) ?_
    rintro e W4 ⟨⟨v4, rfl⟩, hd4, hb4, hk4⟩
    have f4 : ∀ b, Prot W b → b < W.heap.size → W4.heap[b]? = W.heap[b]? := fun b hp hlt => (hk4.2 b (Nat.lt_of_lt_of_le hlt (Nat.le_trans hK2.out.1 HB3.out.size)) (fun h => h.2 hp)).trans ((HB3.out.block b (Nat.lt_of_lt_of_le hlt hK2.out.1)).trans (hK2.out.2 b hlt (fun h => h.2 hp)))
    replace hS := KEEP.out W4 (f4 _ PP3.out (by have := HSW.out; omega)) (f4 _ PP4.out (by have := HSW.out; omega))
    refine ⟨_, rfl, hK _ _ hS ?_⟩
    clear hK K
    refine wpAnyHeld_done (by kernel_rfl) ?_ _
    obtain ⟨cb3, cb4⟩ := hS
    have fb4 : W4.frozen? ⟨w.heap.size + 1, 0, none⟩ = false := blk_frozen ((f4 _ PP4.out (by have := HSW.out; omega)).trans HI.out.2.2.1) 0
    have hWK : Kept W W4 (fun b => S b ∧ ¬ Prot W b) := (hK2.out.below HB3.out).then_ hk4 (fun _ h => .inl h)
    have hBW : B ≤ W2.heap.size := Nat.le_trans HB.out (by have := HSW.out; have := hK2.out.1; omega)
    have hWB : Below B W W4 := (hB2.out.trans (HB3.out.mono hBW)).trans hb4
    have hst : (wst a l (pre ++ [x]) D).1 = countD ⟨(q : Int), sector l x.val⟩ { D1 with seen := splice D1.seen (64 * q) (sector l x.val) } := by
      rw [wst_snoc, wst_len, ← HQ.out, ← HD1.out]
      rfl
    rw [← hst] at hd4
    have FIN := Aside0.mk (round_end HI.out HB.out hd4 hWB hWK ((q : Int) + 1) (by rw [HQ.out, List.length_append]; simp; omega))
    clear hst hd4 hb4 hk4 f4 hWK hWB hBW CT
    gi_wp2
    exact FIN.out
  case stop =>
    rintro Dd c pre W _ _ h _
    exact h.elim
  case done =>
    rintro Dd xs W hD hS hI hK
    subst hS
    have HI := Aside0.mk hI
    have HK := Aside0.mk hK
    have HDd := Aside0.mk hD
    clear hI hK hD
    gi_wp2
    refine ⟨by simp, .inl ⟨_, _, rfl, run_takeDeferred HK.out, ?_⟩⟩
    have hg := grownBy_putObj' W Dd (.deferred none)
    have hr : ∀ r, some Dd = some r → ∃ o : Obj, W.heap[r]? = some o ∧ o.isCells = false := fun r e => by cases e; exact ⟨_, HK.out, rfl⟩
    have hD2 : w.heap.size ≤ Dd := by have := HSZ.out; have := HDd.out; omega
    refine ⟨.int .i64 0, by simp [results, Try.f12, go_sem], ?_⟩
    rw [← HQQ.out]
    exact ⟨rfl, HI.out.1.turn hg hr, HI.out.2.2.2.2.2.1.grown hg (Nat.le_trans HB.out HI.out.2.2.2.2.2.1.size) (fun k e => by cases e; exact Nat.le_trans HB.out hD2), Kept.of_grown hg HI.out.2.2.2.2.2.2.1 (fun k e => by cases e; exact .inr hD2)⟩
theorem write_calls (S : Nat → Prop) (B : Nat) (w : World) (g s k : Nat) (D : DrumS) (at_ : Int) (A : Option Addr) (c : Nat) (l : List Int) (h : IsDr S B w g s k D) (hB : B ≤ w.heap.size) (hG : D.Good) (hF : Kd.F (Kd.int .u8) w (fun b => ¬ S b) A l.length l) (hc : l.length ≤ c) (hn : l.length ≤ 1000000000) (hl : D.ws.length + l.length / 64 ≤ 1000000000) (har : -1 ≤ D.armed ∧ D.armed ≤ 9223372036854775807) :
    Calls Try.prog 12 #[.pointer (some ⟨g, 0, none⟩), .int .i64 at_, .slice A l.length c] w fun e w' => e = .returned (.int .i64 (writeD D at_ l).2) ∧ IsDr S B w' g s k (writeD D at_ l).1 ∧ Below B w w' ∧ Kept w w' S := by
  by_cases h64 : l.length % 64 ≠ 0
  · have e : writeD D at_ l = (D, 1) := by unfold writeD; rw [if_pos h64]
    rw [e]
    exact (write_bad w _ at_ A l.length c hn h64).mono fun e w' ⟨h1, h2⟩ => ⟨h1, h.below h2, h2.mono hB, Kept.of_below h2 S⟩
  · have hz : l.length % 64 = 0 := by omega
    have hsl : D.seen.length ≤ 524288 := by rw [hG.1]; exact hG.2.1
    cases hb : hasB ((D.seen.length / 64 : Nat) : Int) at_ ((l.length / 64 : Nat) : Int) with
    | false =>
      have e : writeD D at_ l = (D, 5) := by unfold writeD; rw [if_neg h64, if_pos hb]
      rw [e]
      refine (write_out w _ at_ A l.length c hn hz (fun W hW => ?_)).mono fun e w' ⟨h1, h2⟩ => ⟨h1, h.below h2, h2.mono hB, Kept.of_below h2 S⟩
      obtain ⟨v, b1, b2, b3, b4, b5⟩ := h.below hW
      have q := has_of W (.pointer (some ⟨g, 0, none⟩)) ((D.seen.length / 64 : Nat) : Int) at_ ((l.length / 64 : Nat) : Int) (sectors_blk W g _ _ _ _ _ _ _ b1 (by omega)) (by omega) (by omega) (by omega) rfl
      rw [hb] at q
      exact q
    | true =>
      have e : writeD D at_ l = ((wst at_.toNat l (List.finRange (l.length / 64)) D).1, 0) := by unfold writeD; rw [if_neg h64, if_neg (by rw [hb]; decide)]
      rw [e]
      obtain ⟨r1, r2, r3⟩ := hasB_true hb
      obtain ⟨a, rfl⟩ : ∃ a : Nat, at_ = (a : Int) := ⟨at_.toNat, by omega⟩
      rw [Int.toNat_natCast]
      exact write_yes S B w g s k D a A c l (l.length / 64) h hB hG hF hc (by omega) (by omega) hl har
end Go.Proofs.Ytfmdllbkfpbdcaa.G
end
section
namespace Go.Proofs.Ytfmdllbkfpbdcaa.G
open Go.RowKit Go.Proofs.YtfmdllbkfpbdcaaX Go.Proofs.YtfmdllbkfpbdcaaW.PrintWords Go.Proofs.YtfmdllbkfpbdcaaW.PrintLast Go.Proofs.YtfmdllbkfpbdcaaW.PrintMore
attribute [local go_sem] max2_int min2_int max_two min_two max_three min_three max_four min_four
def IsS43 (w0 W : World) (g : Nat) (f0 : List Int) (f1 : List Int) (f2 : List (S100)) (f3 : Int) (f4 : Bool) : Prop := ∃ A0 c0, ∃ A1 c1, ∃ A2 c2, W.heap[g]? = some (.cells #[.slice A0 f0.length c0, .slice A1 f1.length c1, .slice A2 f2.length c2, .int .i64 f3, .bool f4] 43 (0, 0)) ∧ w0.heap.size ≤ g ∧ Kd.C (Kd.int .u8) w0 A0 f0.length f0 ∧ Kd.C (Kd.int .u8) w0 A1 f1.length f1 ∧ Kd.C k100 w0 A2 f2.length f2
theorem IsS43.grown {w0 W : World} {g : Nat} {f0 : List Int} {f1 : List Int} {f2 : List (S100)} {f3 : Int} {f4 : Bool} {W1 : World} {row : Option Nat} (h : IsS43 w0 W g f0 f1 f2 f3 f4) (hw : W.grownBy W1 row) (hne : some g ≠ row) : IsS43 w0 W1 g f0 f1 f2 f3 f4 := by
  obtain ⟨A0, c0, A1, c1, A2, c2, hb, hg, hr0, hr1, hr2⟩ := h
  exact ⟨A0, c0, A1, c1, A2, c2, blk_grown hb hw hne, hg, hr0, hr1, hr2⟩
theorem IsS43.kept {w0 W : World} {g : Nat} {f0 : List Int} {f1 : List Int} {f2 : List (S100)} {f3 : Int} {f4 : Bool} {W1 : World} {S : Nat → Prop} (h : IsS43 w0 W g f0 f1 f2 f3 f4) (hk : Kept W W1 S) (hne : ¬ S g) : IsS43 w0 W1 g f0 f1 f2 f3 f4 := by
  obtain ⟨A0, c0, A1, c1, A2, c2, hb, hg, hr0, hr1, hr2⟩ := h
  exact ⟨A0, c0, A1, c1, A2, c2, blk_kept hb hk hne, hg, hr0, hr1, hr2⟩
theorem IsS43.below {w0 W : World} {g : Nat} {f0 : List Int} {f1 : List Int} {f2 : List (S100)} {f3 : Int} {f4 : Bool} {W1 : World} (h : IsS43 w0 W g f0 f1 f2 f3 f4) (hw : Below W.heap.size W W1) : IsS43 w0 W1 g f0 f1 f2 f3 f4 := h.grown (grown_of_below hw none) (by simp)
theorem IsS43.alloc {w0 W : World} {g : Nat} {f0 : List Int} {f1 : List Int} {f2 : List (S100)} {f3 : Int} {f4 : Bool} (h : IsS43 w0 W g f0 f1 f2 f3 f4) (o : Obj) : IsS43 w0 (W.alloc o) g f0 f1 f2 f3 f4 := h.below (below_alloc (Below.refl _ _) o)
theorem IsS43.drewN {w0 W : World} {g : Nat} {f0 : List Int} {f1 : List Int} {f2 : List (S100)} {f3 : Int} {f4 : Bool} (h : IsS43 w0 W g f0 f1 f2 f3 f4) (m : Nat) : IsS43 w0 (W.drewN m) g f0 f1 f2 f3 f4 := h
theorem IsS43.drew {w0 W : World} {g : Nat} {f0 : List Int} {f1 : List Int} {f2 : List (S100)} {f3 : Int} {f4 : Bool} (h : IsS43 w0 W g f0 f1 f2 f3 f4) : IsS43 w0 W.drew g f0 f1 f2 f3 f4 := h
theorem IsS43.at_ {w0 W : World} {g : Nat} {f0 : List Int} {f1 : List Int} {f2 : List (S100)} {f3 : Int} {f4 : Bool} {w' : World} {m : Nat} (hq : W.drewN m = w') (h : IsS43 w0 W g f0 f1 f2 f3 f4) : IsS43 w0 w' g f0 f1 f2 f3 f4 := by subst hq; exact IsS43.drewN h m
theorem IsS43.apart {w0 W : World} {g : Nat} {f0 : List Int} {f1 : List Int} {f2 : List (S100)} {f3 : Int} {f4 : Bool} {α : Type} {d : Kd α} {e : Nat} {base : Nat} {ok : Nat → Prop} {v : Value} {xs : List α} (h : IsS43 w0 W g f0 f1 f2 f3 f4) (ho : d.R e W base ok v xs) (ht : ∀ q, q ∈ e :: d.E → q ≠ 43) : d.R e W base (fun k => ok k ∧ k ≠ g) v xs := by
  obtain ⟨A0, c0, A1, c1, A2, c2, hb, hg, hr0, hr1, hr2⟩ := h
  exact Kd.R_types ho hb ht
theorem IsS43.own_ne {w0 W : World} {g : Nat} {f0 : List Int} {f1 : List Int} {f2 : List (S100)} {f3 : Int} {f4 : Bool} {α : Type} {d : Kd α} {e : Nat} {base : Nat} {ok : Nat → Prop} {v : Value} {xs : List α} (h : IsS43 w0 W g f0 f1 f2 f3 f4) (ho : d.R e W base ok v xs) (ht : e ≠ 43) : some g ≠ v.ownBlock := by
  obtain ⟨A0, c0, A1, c1, A2, c2, hb, hg, hr0, hr1, hr2⟩ := h
  exact Kd.R_ne ho hb ht
theorem IsS43.lt {w0 W : World} {g : Nat} {f0 : List Int} {f1 : List Int} {f2 : List (S100)} {f3 : Int} {f4 : Bool} (h : IsS43 w0 W g f0 f1 f2 f3 f4) : g < W.heap.size := by
  obtain ⟨A0, c0, A1, c1, A2, c2, hb, hg, hr0, hr1, hr2⟩ := h
  exact blk_lt hb
theorem IsS43.far {w0 W : World} {g : Nat} {f0 : List Int} {f1 : List Int} {f2 : List (S100)} {f3 : Int} {f4 : Bool} {p : Addr} (h : IsS43 w0 W g f0 f1 f2 f3 f4) (hne : g ≠ p.block) (u : Value) : IsS43 w0 (W.setCell p u) g f0 f1 f2 f3 f4 := by
  obtain ⟨A0, c0, A1, c1, A2, c2, hb, hg, hr0, hr1, hr2⟩ := h
  exact ⟨A0, c0, A1, c1, A2, c2, blk_far hb hne u, hg, hr0, hr1, hr2⟩
end Go.Proofs.Ytfmdllbkfpbdcaa.G
end
section
namespace Go.Proofs.Ytfmdllbkfpbdcaa.G
open Go Go.RowKit Go.Proofs.YtfmdllbkfpbdcaaX Go.Proofs.YtfmdllbkfpbdcaaW.PrintWords Go.Proofs.YtfmdllbkfpbdcaaW.PrintLast Go.Proofs.YtfmdllbkfpbdcaaW.PrintMore
def DrumS.Fine (N : Nat) (D : DrumS) : Prop := D.Good ∧ (-1 ≤ D.armed ∧ D.armed ≤ 9223372036854775807) ∧ D.ws.length ≤ N
theorem DrumS.Fine.good {N : Nat} {D : DrumS} (h : D.Fine N) : D.Good := h.1
theorem DrumS.Fine.le {N M : Nat} {D : DrumS} (h : D.Fine N) (hM : N ≤ M) : D.Fine M := ⟨h.1, h.2.1, Nat.le_trans h.2.2 hM⟩
theorem fine_new (n : Int) (h1 : 8 ≤ n) (h2 : n ≤ 8192) : (newD n).Fine 0 :=
  ⟨⟨by simp [newD], by simp [newD]; omega, fun x hx => by simp [newD] at hx⟩, by simp [newD], by simp [newD]⟩
theorem fine_keepAll {N : Nat} {D : DrumS} (h : D.Fine N) : (keepAll D.ws D).Fine N := by
  obtain ⟨e1, e2, e3, e4⟩ := keepAll_ws D.ws D
  have e5 := keepAll_len D.ws D h.1.2.2
  exact ⟨⟨by rw [e2, e5]; exact h.1.1, by rw [e5]; exact h.1.2.1, fun x hx => by rw [e1] at hx; rw [e5]; exact h.1.2.2 x hx⟩, by rw [e3]; exact h.2.1, by rw [e1]; exact h.2.2⟩
theorem fine_sync {N : Nat} {D : DrumS} (h : D.Fine N) : (syncD D).Fine N := by
  unfold syncD
  split
  · exact h
  · have h2 := fine_keepAll h
    exact ⟨⟨h2.1.1, h2.1.2.1, fun x hx => by simp at hx⟩, h2.2.1, by simp⟩
theorem fine_crash {N : Nat} {D : DrumS} (h : D.Fine N) (pat : List Bool) : (crashD pat D).Fine 0 := by
  have e := crashTo_len pat D.ws D h.1.2.2 D.ws.length (Nat.le_refl _)
  exact ⟨⟨rfl, by show (crashTo pat D.ws D D.ws.length).kept.length ≤ _; rw [e]; exact h.1.2.1, fun x hx => by simp [crashD] at hx⟩, by simp [crashD], by simp [crashD]⟩
theorem countD_ws (x : S100) (D : DrumS) : ∀ y ∈ (countD x D).ws, y ∈ D.ws ∨ y = x := by
  intro y hy
  unfold countD at hy
  split at hy
  · exact .inl hy
  · split at hy
    · exact .inl hy
    · simp only [List.mem_append, List.mem_singleton] at hy
      exact hy
theorem wst_good (a : Nat) (l : List Int) {m : Nat} (D : DrumS) (hG : D.Good) (hm : l.length = 64 * m) (hfit : 64 * (a + m) ≤ D.seen.length) (har : -1 ≤ D.armed ∧ D.armed ≤ 9223372036854775807) :
    ∀ (n : Nat) (pre : List (Fin m)), pre.length = n → n ≤ m → ∀ y ∈ (wst a l pre D).1.ws, 0 ≤ y.f0 ∧ 64 * y.f0 + 64 ≤ D.kept.length ∧ y.f1.length = 64 := by
  intro n
  induction n with
  | zero =>
    intro pre h _
    obtain rfl := List.eq_nil_of_length_eq_zero h
    exact hG.2.2
  | succ n ih =>
    intro pre h hn
    obtain ⟨p, x, rfl⟩ : ∃ p x, pre = p ++ [x] := ⟨pre.dropLast, pre.getLast (by intro e; simp [e] at h), (List.dropLast_concat_getLast _).symm⟩
    have hp : p.length = n := by simpa using h
    intro y hy
    rw [wst_snoc, wst_len, hp] at hy
    rcases countD_ws _ _ y hy with h1 | rfl
    · exact ih p hp (by omega) y h1
    · have hx := x.isLt
      refine ⟨by simp only; omega, ?_, sector_len l x.val (by omega)⟩
      simp only
      rw [← hG.1]
      omega
theorem fine_write {N : Nat} {D : DrumS} (h : D.Fine N) (at_ : Int) (l : List Int) : (writeD D at_ l).1.Fine (N + l.length / 64) := by
  unfold writeD
  split
  · exact h.le (by omega)
  · rename_i h64
    split
    · exact h.le (by omega)
    · rename_i hb
      have hb' : hasB ((D.seen.length / 64 : Nat) : Int) at_ ((l.length / 64 : Nat) : Int) = true := by simpa using hb
      obtain ⟨r1, r2, r3⟩ := hasB_true hb'
      have hm : l.length = 64 * (l.length / 64) := by omega
      have hfit : 64 * (at_.toNat + l.length / 64) ≤ D.seen.length := by omega
      obtain ⟨w1, w2, w3, w4⟩ := wst_facts at_.toNat l (List.finRange (l.length / 64)) D hm hfit h.2.1 (by simp)
      have w5 := wst_good at_.toNat l D h.1 hm hfit h.2.1 (l.length / 64) (List.finRange (l.length / 64)) (by simp) (Nat.le_refl _)
      exact ⟨⟨by rw [w1, w2]; exact h.1.1, by rw [w2]; exact h.1.2.1, fun x hx => by rw [w2]; exact w5 x hx⟩, w3, Nat.le_trans w4 (by have := h.2.2; simp only [List.length_finRange]; omega)⟩
theorem seen_write {D : DrumS} (at_ : Int) (l : List Int) (har : -1 ≤ D.armed ∧ D.armed ≤ 9223372036854775807) : (writeD D at_ l).1.seen.length = D.seen.length ∧ (writeD D at_ l).1.kept = D.kept := by
  unfold writeD
  split
  · exact ⟨rfl, rfl⟩
  · rename_i h64
    split
    · exact ⟨rfl, rfl⟩
    · rename_i hb
      have hb' : hasB ((D.seen.length / 64 : Nat) : Int) at_ ((l.length / 64 : Nat) : Int) = true := by simpa using hb
      obtain ⟨r1, r2, r3⟩ := hasB_true hb'
      obtain ⟨w1, w2, _⟩ := wst_facts at_.toNat l (List.finRange (l.length / 64)) D (by omega) (by omega) har (by simp)
      exact ⟨w1, w2⟩
theorem IsDr.apart {S : Nat → Prop} {B : Nat} {W W2 : World} {g s k : Nat} {D : DrumS} (h : IsDr S B W g s k D) (hb : Below W.heap.size W W2) : IsDr (fun b => S b ∧ ¬ (W.heap.size ≤ b ∧ b < W2.heap.size)) B W2 g s k D := by
  obtain ⟨v, h1, h2, h3, h4, ⟨a1, a2, a3⟩, h6, h7, h8⟩ := h
  have hg : g < W.heap.size := blk_lt h1
  have hs := h2.lt
  have hk := h3.lt
  exact ⟨v, (hb.block g hg).trans h1, h2.kept (hb.block s hs), h3.kept (hb.block k hk), Kd.R_below (Kd.R_mono (Kd.R_bound h4) (fun b hb' => ⟨⟨hb'.1.1, fun h => by have := hb'.2.2.1; omega⟩, hb'.1.2⟩)) hb, ⟨⟨a1, fun h => by omega⟩, ⟨a2, fun h => by omega⟩, ⟨a3, fun h => by omega⟩⟩, h6, h7, fun b hb' => ⟨h8 b (Nat.le_trans hb.size hb'), fun h => by omega⟩⟩
theorem F_fresh {α : Type} {d : Kd α} {e : Nat} {S : Nat → Prop} {W W2 : World} {A : Option Addr} {c base : Nat} {l : List α} (hbase : W.heap.size ≤ base) (hR : Kd.R d e W2 base (fun _ => True) (.slice A l.length c) l) : Kd.F d W2 (fun b => ¬ (S b ∧ ¬ (W.heap.size ≤ b ∧ b < W2.heap.size))) A l.length l :=
  Kd.F_mono (Kd.R_F (Kd.R_bound hR)) (fun b hb h => h.2 ⟨Nat.le_trans hbase hb.2.1, hb.2.2.1⟩)
theorem write_fresh (S : Nat → Prop) (B : Nat) (W W2 : World) (g s k : Nat) (D : DrumS) (at_ : Int) (A : Option Addr) (c base N : Nat) (l : List Int) (h : IsDr S B W g s k D) (hW : Below W.heap.size W W2) (hbase : W.heap.size ≤ base) (hR : Kd.R (Kd.int .u8) 5 W2 base (fun _ => True) (.slice A l.length c) l) (hB : B ≤ W.heap.size) (hG : D.Fine N) (hn : l.length ≤ 100000000) (hN : N ≤ 900000000) :
    Calls Try.prog 12 #[.pointer (some ⟨g, 0, none⟩), .int .i64 at_, .slice A l.length c] W2 fun e w' => e = .returned (.int .i64 (writeD D at_ l).2) ∧ IsDr S B w' g s k (writeD D at_ l).1 ∧ Below B W w' ∧ Kept W w' S := by
  refine (write_calls _ B W2 g s k D at_ A c l (h.apart hW) (Nat.le_trans hB hW.size) hG.1 (F_fresh hbase hR) (Kd.R_reads' hR).2.1 (by omega) (by have := hG.2.2; omega) hG.2.1).mono ?_
  rintro e w' ⟨h1, h2, h3, h4⟩
  exact ⟨h1, h2.more (fun b hb => hb.1), (hW.mono hB).trans h3, (Kept.of_below hW S).then_ h4 (fun b hb => .inl hb.1)⟩
end Go.Proofs.Ytfmdllbkfpbdcaa.G
end
section
namespace Go.Proofs.Ytfmdllbkfpbdcaa.G
open Go Go.RowKit Go.Proofs.YtfmdllbkfpbdcaaX Go.Proofs.YtfmdllbkfpbdcaaW.PrintWords Go.Proofs.YtfmdllbkfpbdcaaW.PrintLast Go.Proofs.YtfmdllbkfpbdcaaW.PrintMore
structure JnS where
  D : DrumS
  half : Int
  age : Int
  l : List S48
  e : Int
def IsJn (S T : Nat → Prop) (B : Nat) (w : World) (j g s k : Nat) (J : JnS) : Prop := ∃ v,
  w.heap[j]? = some (.cells #[.pointer (some ⟨g, 0, none⟩), .int .i64 J.half, .int .i64 J.age, v, .int .i64 J.e] 54 (0, 0)) ∧
  IsDr S B w g s k J.D ∧ Kd.N k48 48 w B (fun b => ¬ S b ∧ b ≠ j) v J.l ∧ ¬ S j ∧ B ≤ j ∧ (T j ∧ (∀ b, v.ownBlock = some b → T b) ∧ ∀ b, S b → T b)
theorem IsJn.below {S T : Nat → Prop} {B : Nat} {w W : World} {j g s k : Nat} {J : JnS} (h : IsJn S T B w j g s k J) (hb : Below w.heap.size w W) : IsJn S T B W j g s k J := by
  obtain ⟨v, h1, h2, h3, h4, h5, h6⟩ := h
  exact ⟨v, (hb.block j (blk_lt h1)).trans h1, h2.below hb, Kd.N_below h3 hb, h4, h5, h6⟩
theorem IsJn.drew {S T : Nat → Prop} {B : Nat} {w : World} {j g s k : Nat} {J : JnS} (h : IsJn S T B w j g s k J) : IsJn S T B w.drew j g s k J := h.below (below_drew (Below.refl _ _))
theorem IsJn.blk {S T : Nat → Prop} {B : Nat} {w : World} {j g s k : Nat} {J : JnS} (h : IsJn S T B w j g s k J) : ∃ v, w.heap[j]? = some (.cells #[.pointer (some ⟨g, 0, none⟩), .int .i64 J.half, .int .i64 J.age, v, .int .i64 J.e] 54 (0, 0)) := by
  obtain ⟨v, h1, _⟩ := h
  exact ⟨v, h1⟩
theorem IsJn.dr {S T : Nat → Prop} {B : Nat} {w : World} {j g s k : Nat} {J : JnS} (h : IsJn S T B w j g s k J) : IsDr S B w g s k J.D := by
  obtain ⟨v, _, h2, _⟩ := h
  exact h2
def JnS.secs (J : JnS) : Int := ((J.D.seen.length / 64 / 2 : Nat) : Int)
theorem is_nil (w : World) : Calls Try.prog 51 #[.pointer none] w fun e w' => e = .returned (.bool false) ∧ w' = w := by
  go_enter Try.func51, Try.ntmps51
  go_wp2
  go_ret
  exact ⟨rfl, rfl⟩
set_option maxHeartbeats 2000000 in
theorem is_blk (w : World) (j : Nat) (p : Option Addr) (v1 v2 v3 v4 : Value) (h : w.heap[j]? = some (.cells #[.pointer p, v1, v2, v3, v4] 54 (0, 0))) : Calls Try.prog 51 #[.pointer (some ⟨j, 0, none⟩)] w fun e w' => e = .returned (.bool p.isSome) ∧ w' = w := by
  have hu := Try.underlying54
  obtain ⟨c0, c1, c2, c3, c4, f0, f1, f2, f3, f4⟩ := blk_at5 h
  clear h c1 c2 c3 c4 f0 f1 f2 f3 f4
  cases p with
  | none =>
    go_enter Try.func51, Try.ntmps51
    go_wp2
    go_ret
    exact ⟨rfl, rfl⟩
  | some a =>
    go_enter Try.func51, Try.ntmps51
    go_wp2
    go_ret
    exact ⟨rfl, rfl⟩
set_option maxHeartbeats 2000000 in
theorem jsectors (w : World) (j g : Nat) (n : Nat) (v1 v2 v3 v4 : Value) (h : w.heap[j]? = some (.cells #[.pointer (some ⟨g, 0, none⟩), v1, v2, v3, v4] 54 (0, 0))) (hn : n ≤ 1000000) (hs : Calls Try.prog 18 #[.pointer (some ⟨g, 0, none⟩)] w fun e w' => e = .returned (.int .i64 (n : Int)) ∧ w' = w) : Calls Try.prog 78 #[.pointer (some ⟨j, 0, none⟩)] w fun e w' => e = .returned (.int .i64 ((n / 2 : Nat) : Int)) ∧ w' = w := by
  have hu := Try.underlying54
  obtain ⟨c0, c1, c2, c3, c4, f0, f1, f2, f3, f4⟩ := blk_at5 h
  have hN := Aside0.mk hn
  have HS := Aside0.mk hs
  have hn0 : (0 : Int) ≤ (n : Int) := by omega
  clear h c1 c2 c3 c4 f0 f1 f2 f3 f4 hn hs
  go_enter Try.func78, Try.ntmps78
  go_wp2_with (go_at_call 18; (with_reducible refine HS.out.mono ?_); rintro e w1 ⟨rfl, rfl⟩)
  go_ret
  refine ⟨?_, rfl⟩
  show Ending.returned (.int .i64 (wrap64 ((n : Int) / 2))) = _
  rw [show wrap64 ((n : Int) / 2) = ((n / 2 : Nat) : Int) from by unfold wrap64; have := hN.out; omega]
theorem IsJn.sectors {S T : Nat → Prop} {B : Nat} {w : World} {j g s k : Nat} {J : JnS} (h : IsJn S T B w j g s k J) (hG : J.D.Good) : Calls Try.prog 78 #[.pointer (some ⟨j, 0, none⟩)] w fun e w' => e = .returned (.int .i64 J.secs) ∧ w' = w := by
  obtain ⟨v, h1, h2, h3, h4, h5, h6⟩ := h
  obtain ⟨A, c, _, b1, _⟩ := h2.opens
  have hl : J.D.seen.length ≤ 1000000 := by have := hG.1; have := hG.2.1; omega
  exact jsectors w j g (J.D.seen.length / 64) _ _ _ _ h1 (by omega) (sectors_blk w g _ _ _ _ _ _ _ b1 hl)
set_option maxHeartbeats 2000000 in
theorem IsJn.first {S T : Nat → Prop} {B : Nat} {w : World} {j g s k : Nat} {J : JnS} (h : IsJn S T B w j g s k J) (hG : J.D.Good) (half : Int) (hh : half = 0 ∨ half = 1) : Calls Try.prog 55 #[.pointer (some ⟨j, 0, none⟩), .int .i64 half] w fun e w' => e = .returned (.int .i64 (half * J.secs + 1)) ∧ w' = w := by
  have HS := Aside0.mk (h.sectors hG)
  have hs : 0 ≤ J.secs ∧ J.secs ≤ 100000 := by unfold JnS.secs; have := hG.1; have := hG.2.1; omega
  obtain ⟨n, hn⟩ : ∃ n, n = J.secs := ⟨_, rfl⟩
  rw [← hn] at HS hs ⊢
  have HN := Aside0.mk hs
  have HH := Aside0.mk hh
  clear hn hs hh h hG
  go_enter Try.func55, Try.ntmps55
  go_wp2_with (go_at_call 78; (with_reducible refine HS.out.mono ?_); rintro e w1 ⟨rfl, rfl⟩)
  go_ret
  refine ⟨?_, rfl⟩
  show Ending.returned (.int .i64 (wrap64 (wrap64 (half * n) + 1))) = _
  have e : wrap64 (wrap64 (half * n) + 1) = half * n + 1 := by
    have h1 := HN.out
    rcases HH.out with rfl | rfl
    · rw [Int.zero_mul]; unfold wrap64; omega
    · rw [Int.one_mul]; unfold wrap64; omega
  rw [e]
set_option maxHeartbeats 2000000 in
theorem IsJn.room {S T : Nat → Prop} {B : Nat} {w : World} {j g s k : Nat} {J : JnS} (h : IsJn S T B w j g s k J) (hG : J.D.Good) : Calls Try.prog 57 #[.pointer (some ⟨j, 0, none⟩)] w fun e w' => e = .returned (.int .i64 (64 * (J.secs - 1))) ∧ w' = w := by
  have HS := Aside0.mk (h.sectors hG)
  have hs : 0 ≤ J.secs ∧ J.secs ≤ 100000 := by unfold JnS.secs; have := hG.1; have := hG.2.1; omega
  obtain ⟨n, hn⟩ : ∃ n, n = J.secs := ⟨_, rfl⟩
  rw [← hn] at HS hs ⊢
  have HN := Aside0.mk hs
  clear hn hs h hG
  go_enter Try.func57, Try.ntmps57
  go_wp2_with (go_at_call 78; (with_reducible refine HS.out.mono ?_); rintro e w1 ⟨rfl, rfl⟩)
  go_ret
  refine ⟨?_, rfl⟩
  show Ending.returned (.int .i64 (wrap64 (64 * wrap64 (n - 1)))) = _
  have e : wrap64 (64 * wrap64 (n - 1)) = 64 * (n - 1) := by
    have h1 := HN.out
    unfold wrap64
    omega
  rw [e]
end Go.Proofs.Ytfmdllbkfpbdcaa.G
end
section
namespace Go.Proofs.Ytfmdllbkfpbdcaa.G
open Go Go.RowKit Go.Proofs.YtfmdllbkfpbdcaaX Go.Proofs.YtfmdllbkfpbdcaaW.PrintWords Go.Proofs.YtfmdllbkfpbdcaaW.PrintLast Go.Proofs.YtfmdllbkfpbdcaaW.PrintMore
def jleft.T3 : Bool × List (List Nat × List Nat) := (true, [([], []), ([0], [0]), ([], []), ([2], [2]), ([3], [3]), ([4], [4]), ([1, 5], [1, 5]), ([6, 1, 0, 1, 2, 3, 4, 5, 6], [6])])
def jleft.B3 : List Nat := [0, 1, 0, 4, 12, 28, 63, 127]
theorem jleft.tab3 : rtab .any (opsOf Try.f26 3) = jleft.T3 := by kernel_rfl
theorem jleft.bits3 : waitsOk jleft.T3.2 jleft.B3 = true := by kernel_rfl
set_option maxHeartbeats 4000000 in
set_option maxRecDepth 100000 in
theorem IsJn.left {S T : Nat → Prop} {B : Nat} {w : World} {j g s k : Nat} {J : JnS} (h : IsJn S T B w j g s k J) (hG : J.D.Good) (he : 0 ≤ J.e ∧ J.e ≤ 1000000000) : Calls Try.prog 26 #[.pointer (some ⟨j, 0, none⟩)] w fun e w' => e = .returned (.int .i64 (64 * (J.secs - 1) - J.e)) ∧ Below w.heap.size w w' := by
  have hu := Try.underlying54
  have hs : 0 ≤ J.secs ∧ J.secs ≤ 100000 := by unfold JnS.secs; have := hG.1; have := hG.2.1; omega
  have HR := Aside0.mk (h.drew.room hG)
  obtain ⟨n, hn⟩ : ∃ n, n = J.secs := ⟨_, rfl⟩
  obtain ⟨x, hx⟩ : ∃ x, x = J.e := ⟨_, rfl⟩
  obtain ⟨v, h1⟩ := h.blk
  have HI := Aside0.mk (is_blk w j _ _ _ _ _ h1)
  rw [← hn] at HR hs ⊢
  rw [← hx] at h1 he ⊢
  have BK := Aside0.mk h1
  have HN := Aside0.mk hs
  have HE := Aside0.mk he
  have HB := Aside0.mk (below_drew1 (Below.refl w.heap.size w))
  clear hn hx hs he h h1 hG
  go_enter Try.func26, Try.ntmps26
  go_upto_region 3 with (go_at_call 51; (with_reducible refine HI.out.mono ?_); rintro e w1 ⟨rfl, rfl⟩)
  refine start_ (n := 8) (S := fun w' => w'.cell? ⟨j, 4, none⟩ = some (.int .i64 x)) (ds := []) (up ([0, 2, 3, 4, 5, 1, 6, 7]) 8 0) (by kernel_rfl) rfl (by kernel_rfl) ((blk_cell (blk_drew BK.out) 4).trans rfl) (fun hHeld => ?_)
  refine with_tabW jleft.tab3 jleft.bits3 (fun HT_ HW_ => ?_)
  generalize w1.drew = w2 at HR HB hHeld ⊢
  iterate 5 (first | (refine pq_ (v := ?_) (a' := ?_) rfl rfl HT_.out (by kernel_rfl) (fun _ _ _ h => h) (Or.inl ⟨by rfl, ?hy⟩) ?ha ?_; (case hy => intro w'; go_simp; with_reducible rfl); (case ha => show Act.put _ (some _) _ = _; simp only [ap_, sb_, s0_, s1_, i64_w, i32_w]; rfl)) | (refine tq_ (v := ?_) (a' := ?_) rfl rfl HT_.out HW_.out (by kernel_rfl) (fun _ _ _ h => h) (Or.inl ⟨by rfl, ?hy⟩) hHeld ?ha ?_; (case hy => intro w' s0_; go_simp; with_reducible rfl); (case ha => show Act.put _ (some _) _ = _; simp only [ap_, sb_, s0_, s1_, i64_w, i32_w]; rfl)))
  refine oq_ rfl rfl HT_.out (by kernel_rfl) (by decide) (fun K hK => ?_)
  refine goes_ Try.func57 (by kernel_rfl) rfl #[.pointer (some ⟨j, 0, none⟩)] (by rfl) rfl rfl (by (try simp only [List.map_toArray, List.map_cons, List.map_nil]); first | done | rfl) ?_
  with_reducible refine HR.out.mono ?_
  rintro e w3 ⟨rfl, rfl⟩
  refine ⟨_, rfl, ?_⟩
  refine hK.out _ _ hHeld (fun hHeld => ?_)
  clear hK K
  refine norm_ (a' := ?_) ?_ ?_
  rotate_left
  · show Act.put _ (some 7) _ = _
    simp only [ap_, sb_, s0_, s1_, i64_w, i32_w]
    rfl
  iterate 2 (refine pq_ (v := ?_) (a' := ?_) rfl rfl HT_.out (by kernel_rfl) (fun _ _ _ h => h) (Or.inl ⟨by rfl, ?hy⟩) ?ha ?_; (case hy => intro w'; go_simp; with_reducible rfl); (case ha => show Act.put _ (some _) _ = _; simp only [ap_, sb_, s0_, s1_, i64_w, i32_w]; rfl))
  refine done_ (done_of HT_.out (by kernel_rfl)) ?_
  go_wp2
  go_ret
  refine ⟨?_, HB.out⟩
  show Ending.returned (.int .i64 (wrap64 (64 * (n - 1) - x))) = _
  rw [show wrap64 (64 * (n - 1) - x) = 64 * (n - 1) - x from by unfold wrap64; have := HN.out; have := HE.out; omega]
theorem IsJn.put_ {S T : Nat → Prop} {B : Nat} {w W : World} {j g s k : Nat} {J : JnS} {D : DrumS} (h : IsJn S T B w j g s k J) (hd : IsDr S B W g s k D) (hk : Kept w W S) : IsJn S T B W j g s k { J with D := D } := by
  obtain ⟨v, h1, h2, h3, h4, h5, h6⟩ := h
  exact ⟨v, (hk.2 j (blk_lt h1) h4).trans h1, hd, Kd.N_kept h3 hk (fun _ hk => hk.1), h4, h5, h6⟩
theorem gone_of {S : Nat → Prop} {B : Nat} {w : World} {g s k : Nat} {D : DrumS} (h : IsDr S B w g s k D) : Calls Try.prog 20 #[.pointer (some ⟨g, 0, none⟩)] w fun e w' => e = .returned (.bool D.gone) ∧ w' = w := by
  obtain ⟨A, c, _, b1, _⟩ := h.opens
  exact gone_blk w g _ _ _ _ _ b1
set_option maxHeartbeats 2000000 in
theorem IsJn.gone {S T : Nat → Prop} {B : Nat} {w : World} {j g s k : Nat} {J : JnS} (h : IsJn S T B w j g s k J) : Calls Try.prog 27 #[.pointer (some ⟨j, 0, none⟩)] w fun e w' => e = .returned (.bool J.D.gone) ∧ w' = w := by
  have hu := Try.underlying54
  obtain ⟨v, h1⟩ := h.blk
  have HI := Aside0.mk (is_blk w j _ _ _ _ _ h1)
  have HG := Aside0.mk (gone_of h.dr)
  obtain ⟨c0, c1, c2, c3, c4, f0, f1, f2, f3, f4⟩ := blk_at5 h1
  clear h h1 c1 c2 c3 c4 f0 f1 f2 f3 f4
  go_enter Try.func27, Try.ntmps27
  go_wp2_with (first
    | (go_at_call 51; (with_reducible refine HI.out.mono ?_); rintro e w1 ⟨rfl, rfl⟩)
    | (go_at_call 20; (with_reducible refine HG.out.mono ?_); rintro e w1 ⟨rfl, rfl⟩))
  go_ret
  exact ⟨rfl, rfl⟩
theorem gone_nobody (w : World) (p : Value) (h : Calls Try.prog 51 #[p] w fun e w' => e = .returned (.bool false) ∧ w' = w) : Calls Try.prog 27 #[p] w fun e w' => e = .returned (.bool false) ∧ w' = w := by
  have HI := Aside0.mk h
  clear h
  go_enter Try.func27, Try.ntmps27
  go_wp2_with (go_at_call 51; (with_reducible refine HI.out.mono ?_); rintro e w1 ⟨rfl, rfl⟩)
  go_ret
  exact ⟨rfl, rfl⟩
theorem frame_call3 (k : Nat) (A : Option Addr) (c : Nat) (ag en : Int) (b : List Int) (er : Int) (w : World) {base : Nat} {ok : Nat → Prop} (ho : Kd.R (Kd.int .i64) 3 w base ok (.slice A ([7, ag, en] : List Int).length c) [7, ag, en]) (h : frame_Frame.f k [7, ag, en] [] = some (b, er)) :
    Calls Try.prog 73 #[.agg #[.slice A 3 c, .slice none 0 0]] w fun e w' => ∃ v0_ : Value, e = .returned (.tuple #[v0_, .int .i64 er]) ∧ Kd.R (Kd.int .u8) 5 w' w.heap.size (fun _ => True) v0_ b ∧ Below w.heap.size w w' :=
  frame_Frame.calls k A c [7, ag, en] none 0 [] b er w (Kd.R_reads' ho).2.2 (Kd.R_reads' ho).2.1 (Kd.C_nil _ _) (Nat.le_refl _) h
def jlead.T0 : Bool × List (List Nat × List Nat) := (true, [([], []), ([0], [0]), ([1], [1]), ([2], [2]), ([], []), ([4], [4]), ([5], [5]), ([6], [6]), ([3, 7], [3, 7]), ([8], [8]), ([9], [9]), ([10], [10]), ([11], [11]), ([11], [11]), ([12, 10, 0, 1, 2, 3, 4, 5, 6, 7, 8, 9, 10, 11, 12], [12]), ([13, 14, 0, 1, 2, 3, 4, 5, 6, 7, 8, 9, 10, 11, 12, 13, 14], [13])])
def jlead.B0 : List Nat := [0, 1, 3, 7, 0, 16, 48, 112, 255, 511, 1023, 2047, 4095, 4095, 8191, 32767]
theorem jlead.tab0 : rtab .any (opsOf Try.f52 0) = jlead.T0 := by kernel_rfl
theorem jlead.bits0 : waitsOk jlead.T0.2 jlead.B0 = true := by kernel_rfl
def jlead.T1 : Bool × List (List Nat × List Nat) := (true, [([], []), ([0], [0]), ([1], [1]), ([2], [2]), ([], []), ([], []), ([5], [5]), ([6], [6]), ([7], [7]), ([4, 8], [4, 8]), ([9], [9]), ([], []), ([11, 9], [11]), ([3, 10, 12, 12], [3, 10, 12])])
def jlead.B1 : List Nat := [0, 1, 3, 7, 0, 0, 32, 96, 224, 496, 1008, 0, 3056, 8191]
theorem jlead.tab1 : rtab .any (opsOf Try.f52 1) = jlead.T1 := by kernel_rfl
theorem jlead.bits1 : waitsOk jlead.T1.2 jlead.B1 = true := by kernel_rfl
def headD (J : JnS) (p : List Int) : DrumS := syncD (writeD J.D (J.half * J.secs) p).1
set_option maxHeartbeats 16000000 in
set_option maxRecDepth 100000 in
theorem IsJn.lead {S T : Nat → Prop} {B N : Nat} {w : World} {j g s k : Nat} {J : JnS} (kk : Nat) (b p : List Int) (er : Int) (h : IsJn S T B w j g s k J) (hB : B ≤ w.heap.size) (hG : J.D.Fine N) (hN : N ≤ 900000000) (hh : J.half = 0 ∨ J.half = 1) (hb : frame_Frame.f kk [7, J.age, J.e] [] = some (b, er)) (hp : journal_filled.f b = some p) (hpl : p.length ≤ 100000000) :
    Calls Try.prog 52 #[.pointer (some ⟨j, 0, none⟩)] w fun e w' => (∃ v, e = .returned v) ∧ IsJn S T B w' j g s k { J with D := headD J p } ∧ Below B w w' ∧ Kept w w' S := by
  have hu := Try.underlying54
  have hud := Try.underlying48
  have hs : 0 ≤ J.secs ∧ J.secs ≤ 100000 := by unfold JnS.secs; have := hG.1.1; have := hG.1.2.1; omega
  have HJ := Aside0.mk h
  have HBB := Aside0.mk hB
  have HG := Aside0.mk hG
  have HNN := Aside0.mk hN
  have HH := Aside0.mk hh
  have HP := Aside0.mk hp
  have HPL := Aside0.mk hpl
  have HFR := Aside0.mk hb
  obtain ⟨fs, hfs⟩ : ∃ x, x = J.half * J.secs + 1 := ⟨_, rfl⟩
  have hfr : 1 ≤ fs ∧ fs ≤ 200000 := by rcases hh with e | e <;> rw [e] at hfs <;> omega
  have HFS := Aside0.mk hfs
  have HFQ := Aside0.mk hfr
  have FST : Aside0 (∀ W, Below w.heap.size w W → Calls Try.prog 55 #[.pointer (some ⟨j, 0, none⟩), .int .i64 J.half] W fun e w' => e = .returned (.int .i64 fs) ∧ w' = W) := ⟨fun W hW => by rw [hfs]; exact (h.below hW).first hG.1 J.half hh⟩
  obtain ⟨v, h1⟩ := h.blk
  obtain ⟨hf, hhf⟩ : ∃ x, x = J.half := ⟨_, rfl⟩
  obtain ⟨ag, hag⟩ : ∃ x, x = J.age := ⟨_, rfl⟩
  obtain ⟨en, hen⟩ : ∃ x, x = J.e := ⟨_, rfl⟩
  rw [← hhf, ← hag, ← hen] at h1
  rw [← hag, ← hen] at HFR
  rw [← hhf] at FST
  have HHF := Aside0.mk hhf
  have BK := Aside0.mk h1
  have HS := Aside0.mk hs
  have HB := Aside0.mk (Below.refl w.heap.size w)
  clear hs hhf hag hen h1 h hB hG hN hh hb hp hpl hfs hfr
  have n_ := pk2 (blk_drew BK.out) (below_drew1 HB.out)
  clear HB
  obtain ⟨BK1, HB⟩ := n_
  go_enter Try.func52, Try.ntmps52
  go_upto_region 0 with (fail)
  refine start_ (n := 16) (S := fun w' => w'.cell? ⟨j, 2, none⟩ = some (.int .i64 ag) ∧ w'.cell? ⟨j, 4, none⟩ = some (.int .i64 en)) (ds := []) (up (List.range 16) 16 0) (by kernel_rfl) rfl (by kernel_rfl) ⟨(blk_cell BK1.out 2).trans rfl, (blk_cell BK1.out 4).trans rfl⟩ (fun hHeld => ?_)
  refine with_tabW jlead.tab0 jlead.bits0 (fun HT_ HW_ => ?_)
  generalize w.drew = w2 at BK1 HB hHeld ⊢
  iterate 8 (first | (refine pq_ (v := ?_) (a' := ?_) rfl rfl HT_.out (by kernel_rfl) (fun _ _ _ h => h) (Or.inl ⟨by rfl, ?hy⟩) ?ha ?_; (case hy => intro w'; go_simp; with_reducible rfl); (case ha => show Act.put _ (some _) _ = _; simp only [ap_, sb_, s0_, s1_, i64_w, i32_w]; rfl)) | (refine tq_ (v := ?_) (a' := ?_) rfl rfl HT_.out HW_.out (by kernel_rfl) (fun _ _ _ h => h) (Or.inl ⟨by rfl, ?hy⟩) hHeld ?ha ?_; (case hy => rintro w' ⟨s0_, s1_⟩; go_simp; with_reducible rfl); (case ha => show Act.put _ (some _) _ = _; simp only [ap_, sb_, s0_, s1_, i64_w, i32_w]; rfl)))
  refine oq_ rfl rfl HT_.out (by kernel_rfl) (by decide) (fun K hK => ?_)
  refine Kd.R_lit_step (Kd.int .i64) _ 3 ?hg (N := 13) ?hd (xs := ([7, ag, en] : List Int)) (inner := [.int .i64 7, .int .i64 ag, .int .i64 en]) (ok := fun _ => True) (okp := fun _ => True) ?hr ?hp (fun _ hk => hk) trivial (Below.refl _ _) (Nat.le_refl _) (by simp) ?_; (case hd => rfl); (case hg => rfl); (case hr => first | (go_simp; done) | (go_simp; rfl)); (case hp => exact (Reps.one (show Kd.M (Kd.int .i64) _ _ _ 7 [.int .i64 7] from rfl) (Reps.one (show Kd.M (Kd.int .i64) _ _ _ ag [.int .i64 ag] from rfl) (Reps.one (show Kd.M (Kd.int .i64) _ _ _ en [.int .i64 en] from rfl) (Reps.none _ _)))))
  intro v3 w3 ho hb hg_ hnew_
  clear hg_ hnew_
  obtain ⟨A3, c3, hv⟩ := Kd.R_slice ho
  subst hv
  have n_ := pk3 ho (blk_below BK1.out hb) (below_step HB.out hb)
  clear BK1 HB ho hb
  obtain ⟨HO3, BK1, HB⟩ := n_
  refine hK.out _ _ ⟨(blk_cell BK1.out 2).trans rfl, (blk_cell BK1.out 4).trans rfl⟩ (fun hHeld => ?_)
  clear hK K
  refine norm_ (a' := ?_) ?_ ?_
  rotate_left
  · show Act.put _ (some 13) _ = _
    simp only [ap_, sb_, s0_, s1_, i64_w, i32_w]
    rfl
  iterate 1 (refine pq_ (v := ?_) (a' := ?_) rfl rfl HT_.out (by kernel_rfl) (fun _ _ _ h => h) (Or.inl ⟨by rfl, ?hy⟩) ?ha ?_; (case hy => intro w'; go_simp; with_reducible rfl); (case ha => show Act.put _ (some _) _ = _; simp only [ap_, sb_, s0_, s1_, i64_w, i32_w]; rfl))
  refine oq_ rfl rfl HT_.out (by kernel_rfl) (by decide) (fun K hK => ?_)
  refine goes_ Try.func73 (by kernel_rfl) rfl #[.agg #[.slice A3 3 c3, .slice none 0 0]] (by rfl) rfl rfl (by (try simp only [List.map_toArray, List.map_cons, List.map_nil]); first | done | rfl) ?_
  refine (frame_call3 kk A3 c3 ag en b er _ HO3.out HFR.out).mono ?_
  rintro e w4 ⟨v4, rfl, ho, hb⟩
  refine ⟨_, rfl, ?_⟩
  obtain ⟨A4, c4, hv⟩ := Kd.R_slice ho
  subst hv
  have n_ := pk3 (Kd.R_lower ho HB.out.size) (blk_below BK1.out hb) (below_step HB.out hb)
  clear BK1 HB ho hb HO3
  obtain ⟨HO4, BK1, HB⟩ := n_
  refine hK.out _ _ ⟨(blk_cell BK1.out 2).trans rfl, (blk_cell BK1.out 4).trans rfl⟩ (fun hHeld => ?_)
  clear hK K
  refine norm_ (a' := ?_) ?_ ?_
  rotate_left
  · show Act.put _ (some 15) _ = _
    simp only [ap_, sb_, s0_, s1_, i64_w, i32_w]
    rfl
  iterate 5 (refine pq_ (v := ?_) (a' := ?_) rfl rfl HT_.out (by kernel_rfl) (fun _ _ _ h => h) (Or.inl ⟨by rfl, ?hy⟩) ?ha ?_; (case hy => intro w'; go_simp; with_reducible rfl); (case ha => show Act.put _ (some _) _ = _; simp only [ap_, sb_, s0_, s1_, i64_w, i32_w]; rfl))
  refine done_ (done_of HT_.out (by kernel_rfl)) ?_
  go_upto_region 1 with (fail)
  have n_ := pk3 (Kd.R_drew HO4.out) (blk_drew BK1.out) (below_drew1 HB.out)
  clear HO4 BK1 HB
  obtain ⟨HO4, BK1, HB⟩ := n_
  refine start_ (n := 14) (S := fun w' => w'.cell? ⟨j, 0, none⟩ = some (.pointer (some ⟨g, 0, none⟩)) ∧ w'.cell? ⟨j, 1, none⟩ = some (.int .i64 hf)) (ds := []) (up ([0, 1, 2, 3, 4, 5, 6, 7, 8, 11, 9, 10, 12, 13]) 14 0) (by kernel_rfl) rfl (by kernel_rfl) ⟨(blk_cell BK1.out 0).trans rfl, (blk_cell BK1.out 1).trans rfl⟩ (fun hHeld => ?_)
  refine with_tabW jlead.tab1 jlead.bits1 (fun HT_ HW_ => ?_)
  generalize w4.drew = w5 at HO4 BK1 HB hHeld ⊢
  iterate 10 (first | (refine pq_ (v := ?_) (a' := ?_) rfl rfl HT_.out (by kernel_rfl) (fun _ _ _ h => h) (Or.inl ⟨by rfl, ?hy⟩) ?ha ?_; (case hy => intro w'; go_simp; with_reducible rfl); (case ha => show Act.put _ (some _) _ = _; simp only [ap_, sb_, s0_, s1_, i64_w, i32_w]; rfl)) | (refine tq_ (v := ?_) (a' := ?_) rfl rfl HT_.out HW_.out (by kernel_rfl) (fun _ _ _ h => h) (Or.inl ⟨by rfl, ?hy⟩) hHeld ?ha ?_; (case hy => rintro w' ⟨s0_, s1_⟩; go_simp; with_reducible rfl); (case ha => show Act.put _ (some _) _ = _; simp only [ap_, sb_, s0_, s1_, i64_w, i32_w]; rfl)))
  refine oq_ rfl rfl HT_.out (by kernel_rfl) (by decide) (fun K hK => ?_)
  refine goes_ Try.func55 (by kernel_rfl) rfl #[.pointer (some ⟨j, 0, none⟩), .int .i64 hf] (by rfl) rfl rfl (by (try simp only [List.map_toArray, List.map_cons, List.map_nil]); first | done | rfl) ?_
  with_reducible refine (FST.out _ HB.out).mono ?_
  rintro e w6 ⟨rfl, he⟩
  rw [he]
  clear he w6
  refine ⟨_, rfl, ?_⟩
  refine hK.out _ _ hHeld (fun hHeld => ?_)
  clear hK K
  refine norm_ (a' := ?_) ?_ ?_
  rotate_left
  · show Act.put _ (some 27) _ = _
    simp only [ap_, sb_, s0_, s1_, i64_w, i32_w]
    rfl
  iterate 1 (refine pq_ (v := ?_) (a' := ?_) rfl rfl HT_.out (by kernel_rfl) (fun _ _ _ h => h) (Or.inl ⟨by rfl, ?hy⟩) ?ha ?_; (case hy => intro w'; go_simp; with_reducible rfl); (case ha => show Act.put _ (some _) _ = _; simp only [ap_, sb_, s0_, s1_, i64_w, i32_w]; rfl))
  refine oq_ rfl rfl HT_.out (by kernel_rfl) (by decide) (fun K hK => ?_)
  refine goes_ Try.func56 (by kernel_rfl) rfl #[.slice A4 b.length c4] (by rfl) rfl rfl (by (try simp only [List.map_toArray, List.map_cons, List.map_nil]); first | done | rfl) ?_
  with_reducible refine (journal_filled.calls (fun _ => True) _ b p w _ HB.out HO4.out HP.out).mono ?_
  rintro e w7 ⟨v7, rfl, ho, hb, hk⟩
  refine ⟨_, rfl, ?_⟩
  obtain ⟨A7, c7, hv⟩ := Kd.R_slice ho
  subst hv
  have n_ := pk3 (Kd.R_mono ho (fun _ _ => trivial) : Kd.R _ _ _ _ (fun _ => True) _ _) ((hb.block j (blk_lt BK.out)).trans BK.out) hb
  clear BK1 HB HO4 ho hb hk
  obtain ⟨HO7, BK1, HB⟩ := n_
  refine hK.out _ _ ⟨(blk_cell BK1.out 0).trans rfl, (blk_cell BK1.out 1).trans rfl⟩ (fun hHeld => ?_)
  clear hK K
  refine norm_ (a' := ?_) ?_ ?_
  rotate_left
  · show Act.put _ (some 30) _ = _
    simp only [ap_, sb_, s0_, s1_, i64_w, i32_w]
    rfl
  refine oq_ rfl rfl HT_.out (by kernel_rfl) (by decide) (fun K hK => ?_)
  refine goes_ Try.func12 (by kernel_rfl) rfl #[.pointer (some ⟨g, 0, none⟩), .int .i64 (wrap64 (fs - 1)), .slice A7 p.length c7] (by rfl) rfl rfl (by (try simp only [List.map_toArray, List.map_cons, List.map_nil]); first | done | rfl) ?_
  with_reducible refine (write_fresh S B w _ g s k J.D (wrap64 (fs - 1)) A7 c7 w.heap.size N p HJ.out.dr HB.out (Nat.le_refl _) HO7.out HBB.out HG.out HPL.out HNN.out).mono ?_
  rintro e w8 ⟨rfl, hd, hb, hk⟩
  refine ⟨_, rfl, ?_⟩
  have n_ := pk3 (HJ.out.put_ hd hk) hb hk
  clear BK1 HB HO7 hd hb hk
  obtain ⟨HJ2, HB, HK⟩ := n_
  obtain ⟨v8, hv8⟩ := HJ2.out.blk
  rw [show J.half = hf from HHF.out.symm] at hv8
  have BK1 := Aside0.mk hv8
  clear hv8
  refine hK.out _ _ ⟨(blk_cell BK1.out 0).trans rfl, (blk_cell BK1.out 1).trans rfl⟩ (fun hHeld => ?_)
  clear hK K
  refine norm_ (a' := ?_) ?_ ?_
  rotate_left
  · show Act.put _ (some 31) _ = _
    simp only [ap_, sb_, s0_, s1_, i64_w, i32_w]
    rfl
  refine done_ (done_of HT_.out (by kernel_rfl)) ?_
  obtain ⟨hcz0, hcz1, hcz2, hcz3, hcz4, hfz0, hfz1, hfz2, hfz3, hfz4⟩ := blk_at5 BK1.out
  clear hcz1 hcz2 hcz3 hcz4 hfz0 hfz1 hfz2 hfz3 hfz4
  go_wp2_with (go_at_call 14; (with_reducible refine (sync_calls S B _ g s k _ HJ2.out.dr (Nat.le_trans HBB.out HB.out.size) (fine_write HG.out _ _).good).mono ?_); rintro e w9 ⟨⟨v9, rfl⟩, hd, hb, hk⟩; have n_ := pk3 (HJ2.out.put_ hd hk) (HB.out.trans hb) (HK.out.then_ hk (fun _ h => .inl h)); clear HB HK hd hb hk; obtain ⟨HJ3, HB, HK⟩ := n_)
  go_end0
  have e : wrap64 (fs - 1) = J.half * J.secs := by have := HFQ.out; have := HFS.out; unfold wrap64; omega
  refine ⟨⟨_, rfl⟩, ?_, HB.out, HK.out⟩
  have := HJ3.out
  rw [e] at this
  exact this
end Go.Proofs.Ytfmdllbkfpbdcaa.G
end
section
namespace Go.Proofs.Ytfmdllbkfpbdcaa.G
open Go Go.RowKit Go.Proofs.YtfmdllbkfpbdcaaX Go.Proofs.YtfmdllbkfpbdcaaW.PrintWords Go.Proofs.YtfmdllbkfpbdcaaW.PrintLast Go.Proofs.YtfmdllbkfpbdcaaW.PrintMore
set_option maxHeartbeats 8000000 in
set_option maxRecDepth 100000 in
theorem cloneI (A0 : Option Addr) (c0 : Nat) (l0 : List Int) (w : World) (hr0 : Kd.C (Kd.int .i64) w A0 l0.length l0) (hc0 : l0.length ≤ c0) (hl : l0.length < 1000000000) :
    Calls Try.prog 75 #[.slice A0 l0.length c0] w fun e w' => ∃ v0_ : Value, e = .returned (v0_) ∧ Kd.R (Kd.int .i64) 3 w' w.heap.size (fun _ => True) v0_ l0 ∧ Below w.heap.size w w' := by
  have HL := Aside0.mk hl
  have HR := Aside0.mk hr0
  have HC := Aside0.mk hc0
  have HB := Aside0.mk (Below.refl w.heap.size w)
  have hnil := fun (W : World) => Lib.run_eql_slice_nil (P := Try.prog) W 45 3 A0 l0.length c0 0 0 Try.underlying45
  clear hl hc0
  rcases A0 with _ | ad
  · have h0 : l0 = [] := by
      rcases Nat.eq_zero_or_pos l0.length with h0 | h0
      · exact List.eq_nil_of_length_eq_zero h0
      · obtain ⟨ad, e, _⟩ := hr0.2.2 h0
        cases e
    clear hr0
    have H0 := Aside0.mk h0
    clear h0
    go_enter Try.func75, Try.ntmps75
    go_wp2
    go_ret
    exact ⟨_, rfl, by rw [H0.out]; exact Kd.R_nil _ _ _ _ _, Below.refl _ _⟩
  · clear hr0
    go_enter Try.func75, Try.ntmps75
    go_wp2_with (first
      | ((with_reducible refine gate_dst (N := 5) rfl ?_); refine Kd.R_lit (Kd.int .i64) _ 3 ?hg (N := 5) ?hd (xs := ([] : List Int)) (inner := []) (ok := fun _ => True) (okp := fun _ => True) ?hr ?hp (fun _ hk => hk) trivial (Below.refl _ _) (Nat.le_refl _) (by simp) ?_; (case hd => rfl); (case hg => rfl); (case hr => first | (go_simp; done) | (go_simp; rfl)); (case hp => exact (Reps.none _ _)); intro v5 w5 ho5 hb5 hg_ hnew_; clear hg_ hnew_; have HO5 := Aside0.mk ho5; have HB5 := Aside0.mk hb5; clear ho5 hb5)
      | ((with_reducible refine gate_builtin (b := .append) (xs := #[.tmp 5, .tmp 6]) rfl ?_); at_builtin; refine Kd.R_append_rows (Kd.int .i64) (w0 := w) w.heap.size rfl (.tmp 5) (.tmp 6) 45 3 (.int .i64 0) 8 rfl Try.underlying45 info3 rfl (by decide) (by omega) v5 [] l0 _ _ _ (fun _ => True) (fun _ => False) rfl rfl ?aO ?aR (fun _ _ h => h) (fun _ h => h.elim) ?aF ?aB ?aS ?aL ?_; (case aR => exact Kd.C_below HR.out (below_then (Below.refl _ _) (Nat.le_refl _) HB5.out)); (case aF => exact (fun _ _ => trivial)); (case aB => exact HB5.out); (case aO => exact HO5.out); (case aS => exact HB5.out.size); (case aL => have := HL.out; simp; omega); intro v7 w7 ho hb hg hat; rw [List.nil_append] at ho; have HO7 := Aside0.mk ho; have HB7 := Aside0.mk hb; clear ho hb hg hat))
    go_ret
    exact ⟨_, rfl, HO7.out, HB7.out⟩
set_option maxHeartbeats 8000000 in
set_option maxRecDepth 100000 in
theorem cloneS (A0 : Option Addr) (c0 : Nat) (l0 : List ByteArray) (w : World) (hr0 : Kd.C Kd.string w A0 l0.length l0) (hc0 : l0.length ≤ c0) (hl : l0.length < 1000000000) :
    Calls Try.prog 76 #[.slice A0 l0.length c0] w fun e w' => ∃ v0_ : Value, e = .returned (v0_) ∧ Kd.R Kd.string 9 w' w.heap.size (fun _ => True) v0_ l0 ∧ Below w.heap.size w w' := by
  have HL := Aside0.mk hl
  have HR := Aside0.mk hr0
  have HC := Aside0.mk hc0
  have HB := Aside0.mk (Below.refl w.heap.size w)
  have hnil := fun (W : World) => Lib.run_eql_slice_nil (P := Try.prog) W 46 9 A0 l0.length c0 0 0 Try.underlying46
  clear hl hc0
  rcases A0 with _ | ad
  · have h0 : l0 = [] := by
      rcases Nat.eq_zero_or_pos l0.length with h0 | h0
      · exact List.eq_nil_of_length_eq_zero h0
      · obtain ⟨ad, e, _⟩ := hr0.2.2 h0
        cases e
    clear hr0
    have H0 := Aside0.mk h0
    clear h0
    go_enter Try.func76, Try.ntmps76
    go_wp2
    go_ret
    exact ⟨_, rfl, by rw [H0.out]; exact Kd.R_nil _ _ _ _ _, Below.refl _ _⟩
  · clear hr0
    go_enter Try.func76, Try.ntmps76
    go_wp2_with (first
      | ((with_reducible refine gate_dst (N := 5) rfl ?_); refine Kd.R_lit Kd.string _ 9 ?hg (N := 5) ?hd (xs := ([] : List ByteArray)) (inner := []) (ok := fun _ => True) (okp := fun _ => True) ?hr ?hp (fun _ hk => hk) trivial (Below.refl _ _) (Nat.le_refl _) (by simp) ?_; (case hd => rfl); (case hg => rfl); (case hr => first | (go_simp; done) | (go_simp; rfl)); (case hp => exact (Reps.none _ _)); intro v5 w5 ho5 hb5 hg_ hnew_; clear hg_ hnew_; have HO5 := Aside0.mk ho5; have HB5 := Aside0.mk hb5; clear ho5 hb5)
      | ((with_reducible refine gate_builtin (b := .append) (xs := #[.tmp 5, .tmp 6]) rfl ?_); at_builtin; refine Kd.R_append_rows Kd.string (w0 := w) w.heap.size rfl (.tmp 5) (.tmp 6) 46 9 (.string ⟨#[]⟩) 16 rfl Try.underlying46 info9 rfl (by decide) (by omega) v5 [] l0 _ _ _ (fun _ => True) (fun _ => False) rfl rfl ?aO ?aR (fun _ _ h => h) (fun _ h => h.elim) ?aF ?aB ?aS ?aL ?_; (case aR => exact Kd.C_below HR.out (below_then (Below.refl _ _) (Nat.le_refl _) HB5.out)); (case aF => exact (fun _ _ => trivial)); (case aB => exact HB5.out); (case aO => exact HO5.out); (case aS => exact HB5.out.size); (case aL => have := HL.out; simp; omega); intro v7 w7 ho hb hg hat; rw [List.nil_append] at ho; have HO7 := Aside0.mk ho; have HB7 := Aside0.mk hb; clear ho hb hg hat))
    go_ret
    exact ⟨_, rfl, HO7.out, HB7.out⟩
set_option maxHeartbeats 8000000 in
set_option maxRecDepth 100000 in
theorem cloneD (A0 : Option Addr) (c0 : Nat) (l0 : List S48) (w : World) (ok : Nat → Prop) (hr0 : Kd.F k48 w ok A0 l0.length l0) (hc0 : l0.length ≤ c0) (hl : l0.length < 1000000000) :
    Calls Try.prog 74 #[.slice A0 l0.length c0] w fun e w' => ∃ v0_ : Value, e = .returned (v0_) ∧ Kd.N k48 48 w' w.heap.size (fun b => ok b ∨ w.heap.size ≤ b) v0_ l0 ∧ Below w.heap.size w w' := by
  have HL := Aside0.mk hl
  have HR := Aside0.mk hr0
  have HC := Aside0.mk hc0
  have HB := Aside0.mk (Below.refl w.heap.size w)
  have hnil := fun (W : World) => Lib.run_eql_slice_nil (P := Try.prog) W 49 48 A0 l0.length c0 0 0 Try.underlying49
  clear hl hc0
  rcases A0 with _ | ad
  · have h0 : l0 = [] := by
      rcases Nat.eq_zero_or_pos l0.length with h0 | h0
      · exact List.eq_nil_of_length_eq_zero h0
      · obtain ⟨ad, e, _⟩ := (Kd.F_now hr0).2.2 h0
        cases e
    clear hr0
    have H0 := Aside0.mk h0
    clear h0
    go_enter Try.func74, Try.ntmps74
    go_wp2
    go_ret
    exact ⟨_, rfl, by rw [H0.out]; exact Kd.N_nil _ _ _ _ _, Below.refl _ _⟩
  · clear hr0
    go_enter Try.func74, Try.ntmps74
    go_wp2_with (first
      | ((with_reducible refine gate_dst (N := 5) rfl ?_); refine Kd.R_lit k48 _ 48 ?hg (N := 5) ?hd (xs := ([] : List S48)) (inner := []) (ok := fun _ => True) (okp := fun _ => True) ?hr ?hp (fun _ hk => hk) trivial (Below.refl _ _) (Nat.le_refl _) (by simp) ?_; (case hd => rfl); (case hg => rfl); (case hr => first | (go_simp; done) | (go_simp; rfl)); (case hp => exact (Reps.none _ _)); intro v5 w5 ho5 hb5 hg_ hnew_; clear hg_ hnew_; have HO5 := Aside0.mk ho5; have HB5 := Aside0.mk hb5; clear ho5 hb5)
      | ((with_reducible refine gate_builtin (b := .append) (xs := #[.tmp 5, .tmp 6]) rfl ?_); at_builtin; refine Kd.N_append_rows k48 (w0 := w) w.heap.size rfl (.tmp 5) (.tmp 6) 49 48 (.agg #[.slice none 0 0, .slice none 0 0]) 48 rfl Try.underlying49 info48 rfl (by decide) (by omega) v5 [] l0 _ _ _ (fun b => ok b ∨ w.heap.size ≤ b) (fun b => ok b ∧ b < w.heap.size) rfl rfl ?aO ?aR ?aP ?aF ?aB ?aS ?aL ?_; (case aR => exact Kd.F_below (Kd.F_bound HR.out) HB5.out); (case aP => exact (fun b hb => ⟨.inl hb.1, fun e => by have := Kd.R_base HO5.out b e.symm; have := hb.2; omega⟩)); (case aF => exact (fun b hb => .inr (Nat.le_trans HB5.out.size hb))); (case aB => exact HB5.out); (case aO => exact Kd.R_N (Kd.R_mono (Kd.R_bound HO5.out) (fun b hb => .inr hb.2.1))); (case aS => exact HB5.out.size); (case aL => have := HL.out; simp; omega); intro v7 w7 ho hb hg hat; rw [List.nil_append] at ho; have HO7 := Aside0.mk ho; have HB7 := Aside0.mk hb; clear ho hb hg hat))
    go_ret
    exact ⟨_, rfl, HO7.out, HB7.out⟩
theorem at_FD {W : World} {ok : Nat → Prop} {A : Option Addr} {n : Nat} {xs : List S48} (h : Kd.F k48 W ok A n xs) (i : Int) (h0 : 0 ≤ i) (h1 : i < n) : ∃ ad A0 c0 A1 c1, A = some ad ∧ W.cell? (ad.add (i.toNat * 2)) = some (.slice A0 (rd_T48 xs i).f0.length c0) ∧ W.cell? ⟨(ad.add (i.toNat * 2)).block, (ad.add (i.toNat * 2)).off + 1, none⟩ = some (.slice A1 (rd_T48 xs i).f1.length c1) ∧ (rd_T48 xs i).f0.length ≤ c0 ∧ Kd.F (Kd.int .i64) W ok A0 (rd_T48 xs i).f0.length (rd_T48 xs i).f0 ∧ (rd_T48 xs i).f1.length ≤ c1 ∧ Kd.F Kd.string W ok A1 (rd_T48 xs i).f1.length (rd_T48 xs i).f1 := by
  obtain ⟨ad, c, e, _, hK, hc0, _⟩ := Kd.F_get h z48 i h0 h1
  have hc : ∀ j u, c[j]? = some u → W.cell? (ad.add (i.toNat * 2 + j)) = some u := hc0
  obtain ⟨A0, c0, A1, c1, rfl, l0, g0, l1, g1⟩ := k48_openF hK
  exact ⟨ad, A0, c0, A1, c1, e, hc 0 _ rfl, by rw [← add_field _ _ 1 (by omega)]; exact hc 1 _ rfl, l0, g0, l1, g1⟩
theorem store_two {a : Act} {oi : Oper} {W : World} {t : TypeId} {p x : Operand} {nb o : Nat} {e : TypeId} {cur : Array Value} {v0 v1 : Value} (ho : oi.op = .store t p x) (hp : a.eval p = .pointer (some ⟨nb, o, none⟩)) (hx : a.eval x = .agg #[v0, v1]) (hh : W.heap[nb]? = some (.cells cur e (0, 0))) (ht : (Try.prog.info? t).map (·.size) = some 2) (hs : o + 2 ≤ cur.size) (h0 : v0.cells.toList = [v0] ∧ v0.oneCell' = true) (h1 : v1.cells.toList = [v1] ∧ v1.oneCell' = true) :
    (execOp a.eval oi).run Try.prog W = .ok .skip (W.setCells nb o [v0, v1]) := by
  have hu : (Value.agg #[v0, v1]).cells.toList = [v0, v1] := by
    have e0 := h0.1
    have e1 := h1.1
    simp [Value.cells] at *
    try simp [e0, e1]
  have hrun := run_store_run (P := Try.prog) (o := o) t (Value.agg #[v0, v1]) [v0, v1] hh hu ht hs (by intro q hq; rcases List.mem_cons.1 hq with rfl | hq; exact h0.2; rcases List.mem_cons.1 hq with rfl | hq; exact h1.2; cases hq)
  unfold execOp
  simp only [ho, hp, hx, Sem.run_bind, Sem.run_pure, Result.andThen_ok, hrun]
theorem far_cells {W : World} {nb o gs i : Nat} {vs : List Value} {v : Value} (h : W.cell? ⟨gs, i, none⟩ = some v) (hn : gs ≠ nb) : (W.setCells nb o vs).cell? ⟨gs, i, none⟩ = some v := by
  have e := setCells_far (g := nb) vs o (w := W) gs hn
  simp only [World.cell?] at h ⊢
  rw [e]
  exact h
theorem add_at (nb n : Nat) : (⟨nb, 0, none⟩ : Addr).add n = ⟨nb, n, none⟩ := by
  rcases Nat.eq_zero_or_pos n with rfl | h
  · simp [Addr.add]
  · simp [Addr.add]
    omega
theorem N_put2 {α : Type} {d : Kd α} {e base b : Nat} {W : World} {ok : Nat → Prop} {v : Value} {xs : List α} (h : Kd.N d e W base ok v xs) (hb : ∀ k, ok k → k ≠ b) (x y : Value) : Kd.N d e ((W.setCell ⟨b, 0, none⟩ x).setCell ⟨b, 1, none⟩ y) base ok v xs :=
  Kd.N_far (p := ⟨b, 1, none⟩) (Kd.N_far (p := ⟨b, 0, none⟩) h hb x) hb y
theorem F_put2 {α : Type} {d : Kd α} {W : World} {ok : Nat → Prop} {A : Option Addr} {n b : Nat} {xs : List α} (h : Kd.F d W ok A n xs) (hb : ∀ k, ok k → k ≠ b) (x y : Value) : Kd.F d ((W.setCell ⟨b, 0, none⟩ x).setCell ⟨b, 1, none⟩ y) ok A n xs :=
  Kd.F_far (p := ⟨b, 1, none⟩) (Kd.F_far (p := ⟨b, 0, none⟩) h hb x) hb y
theorem put2_ {W : World} {g t : Nat} {a b : Value} (h : W.heap[g]? = some (.cells #[a, b] t (0, 0))) (x y : Value) : ((W.setCell ⟨g, 0, none⟩ x).setCell ⟨g, 1, none⟩ y).heap[g]? = some (.cells #[x, y] t (0, 0)) := by
  refine blk_put (cs := #[x, b]) ?_ 1 _ rfl
  exact blk_put (cs := #[a, b]) h 0 _ rfl
theorem N_room {α : Type} {d : Kd α} {e base g n cap : Nat} {w : World} {ok : Nat → Prop} {xs : List α} (h : Kd.N d e w base ok (.slice (some ⟨g, 0, none⟩) n cap) xs) : ∃ cur, w.heap[g]? = some (.cells cur e (0, 0)) ∧ n * d.sz ≤ cur.size := by
  obtain ⟨_, rows, hl, hR, _⟩ := h
  obtain ⟨_, inner, hown, _⟩ := hR
  rcases hown.2 with ⟨hv, _⟩ | ⟨g', cap', cur, hv, hb, hh, hnc, hcm, hcs, _⟩
  · cases hv
  injection hv with ha hn hc
  injection ha with ha
  injection ha with hg'
  subst hg'
  refine ⟨cur, hh, ?_⟩
  rw [hcs, hn]
  exact Nat.mul_le_mul_right _ hnc
theorem N_setD {W : World} {base nb n cp : Nat} {ok okp : Nat → Prop} {xs : List S48} (h : Kd.N k48 48 W base ok (.slice (some ⟨nb, 0, none⟩) n cp) xs) (i : Int) (h0 : 0 ≤ i) (h1 : i < n) (hn : n = xs.length) {v0 v1 : Value} (hM : Kd.FK k48 W okp (rd_T48 xs i) [v0, v1]) (hokp : ∀ k, okp k → ok k ∧ k ≠ nb) :
    Kd.N k48 48 (W.setCells nb (i.toNat * 2) [v0, v1]) base ok (.slice (some ⟨nb, 0, none⟩) n cp) xs ∧ W.grownBy (W.setCells nb (i.toNat * 2) [v0, v1]) (some nb) := by
  obtain ⟨ad, c, e, hcl, hK, hcc, _⟩ := Kd.F_get (Kd.N_F h) z48 i h0 h1
  injection e with e
  subst e
  have hc2 : c.length = 2 := hcl
  have hq := Kd.N_seg h i h0 h1 (c := c) (seg := [v0, v1]) (j := 0) hcl (fun j u hj => by
    have h_ := hcc j u hj
    rw [show (⟨nb, 0, none⟩ : Addr).add (i.toNat * Kd.sz k48 + j) = ⟨nb, i.toNat * Kd.sz k48 + j, none⟩ from add_at _ _] at h_
    exact h_) (show 0 + 2 ≤ 2 from Nat.le_refl 2) (x' := rd_T48 xs i) (okp := okp) (by
    have e2 : c.take 0 ++ [v0, v1] ++ c.drop (0 + [v0, v1].length) = [v0, v1] := by
      rw [List.drop_of_length_le (by rw [hc2]; exact Nat.le_refl 2)]
      simp
    rw [e2]
    exact hM) hokp
  have es : xs.set i.toNat (rd_T48 xs i) = xs := by
    apply List.ext_getElem?
    intro j
    rw [List.getElem?_set]
    split
    · next e =>
      subst e
      have hlt : i.toNat < xs.length := by omega
      rw [if_pos hlt]
      unfold rd_T48
      rw [List.getD_eq_getElem?_getD, List.getElem?_eq_getElem hlt]
      rfl
    · rfl
  rw [es] at hq
  exact hq
theorem below_grown {B : Nat} {w0 W W1 : World} {g : Nat} (h : Below B w0 W) (hg : W.grownBy W1 (some g)) (hB : B ≤ g) (hf : ∀ k, W.heap.size ≤ k → W1.heap[k]? = W.heap[k]?) : Below B w0 W1 :=
  h.trans ⟨hg.os, hg.tape, hg.output, hg.size, fun k hk => by
    rcases Nat.lt_or_ge k W.heap.size with hlt | hge
    · exact hg.block k hlt (fun he => by injection he with he; omega)
    · exact hf k hge⟩
def jcopied.T5 : Bool × List (List Nat × List Nat) := (true, [([], []), ([], []), ([], []), ([2], [2]), ([3], [3]), ([], []), ([5], [5]), ([6, 4], [6]), ([4, 7], [4, 7]), ([0, 1, 0, 1, 2, 3, 4, 5, 6, 7, 8], [0, 1]), ([9, 8, 7, 0, 1, 2, 3, 4, 5, 6, 7, 8], [8, 9])])
def jcopied.B5 : List Nat := [0, 0, 0, 4, 12, 0, 32, 124, 252, 511, 1023]
theorem jcopied.tab5 : rtab .any (opsOf Try.f53 5) = jcopied.T5 := by kernel_rfl
theorem jcopied.bits5 : waitsOk jcopied.T5.2 jcopied.B5 = true := by kernel_rfl
set_option maxHeartbeats 32000000 in
set_option maxRecDepth 100000 in
theorem copied_calls (A0 : Option Addr) (c0 : Nat) (l0 : List S48) (w : World) (ok : Nat → Prop) (hr0 : Kd.F k48 w ok A0 l0.length l0) (hc0 : l0.length ≤ c0) (hl : l0.length < 1000000000) (hsz : ∀ x ∈ l0, x.f0.length < 1000000000 ∧ x.f1.length < 1000000000) :
    Calls Try.prog 53 #[.slice A0 l0.length c0] w fun e w' => ∃ v0_ : Value, e = .returned (v0_) ∧ Kd.N k48 48 w' w.heap.size (fun b => ok b ∨ w.heap.size ≤ b) v0_ l0 ∧ Below w.heap.size w w' := by
  have hu := Try.underlying48
  have HR := Aside0.mk hr0
  have HC := Aside0.mk hc0
  have HL := Aside0.mk hl
  have HSZ := Aside0.mk hsz
  clear hr0 hc0 hl hsz
  go_enter Try.func53, Try.ntmps53
  go_wp2_with (go_at_call 74; (with_reducible refine (cloneD A0 c0 l0 _ ok HR.out HC.out HL.out).mono ?_); rintro e w1 ⟨v1, rfl, ho, hb⟩; obtain ⟨A1, c1, hv⟩ := Kd.N_slice ho; subst hv; have n_ := pk2 ho hb; clear ho hb; obtain ⟨HO, HB⟩ := n_)
  go_loopg [9] (l0.length + 1) (fun kq v9 w' => ∃ (x9 : Int), v9 = .int .i64 x9 ∧ Aside0 (0 ≤ x9 ∧ x9 ≤ (l0.length : Int) ∧ (l0.length : Int) - x9 < kq) ∧ Aside0 (Kd.N k48 48 w' w.heap.size (fun b => ok b ∨ w.heap.size ≤ b) (.slice A1 l0.length c1) l0) ∧ Aside0 (Below w.heap.size w w'))
  case atStart => exact ⟨0, rfl, ⟨by omega⟩, HO, HB⟩
  case round =>
    clear HO HB
    obtain ⟨x9, rfl, HK, HO, HB⟩ := hrel
    by_cases h1 : x9 < (l0.length : Int)
    rotate_left
    · have c1 : decide (x9 < (l0.length : Int)) = false := decide_eq_false h1
      clear h1
      go_wp2
      go_ret
      exact ⟨_, rfl, HO.out, HB.out⟩
    have h0 : 0 ≤ x9 := HK.out.1
    have HOB := Aside0.mk (Kd.N_bound HO.out)
    obtain ⟨ad, B0, d0, B1, d1, eA, hx0, hx1, q0, g0, q1, g1⟩ := at_FD (Kd.N_F HOB.out) x9 h0 h1
    obtain ⟨nb, cp, eq, hnb, hnl, cells, hcl⟩ := Kd.N_form HO.out (by omega)
    injection eq with e1 _ ec
    subst e1
    subst ec
    injection eA with eA
    subst eA
    obtain ⟨x, hx⟩ : ∃ x, x = rd_T48 l0 x9 := ⟨_, rfl⟩
    rw [← hx] at hx0 hx1 q0 g0 q1 g1
    replace hx0 : wr.cell? ⟨nb, x9.toNat * 2, none⟩ = some (.slice B0 x.f0.length d0) := by have h_ := hx0; rw [show (⟨nb, 0, none⟩ : Addr).add (x9.toNat * 2) = ⟨nb, x9.toNat * 2, none⟩ from add_at _ _] at h_; exact h_
    replace hx1 : wr.cell? ⟨nb, x9.toNat * 2 + 1, none⟩ = some (.slice B1 x.f1.length d1) := by have h_ := hx1; rw [show (⟨nb, 0, none⟩ : Addr).add (x9.toNat * 2) = ⟨nb, x9.toNat * 2, none⟩ from add_at _ _] at h_; exact h_
    have HX := Aside0.mk hx
    have hxm : x ∈ l0 := by rw [hx]; exact getD_mem_ _ _ _ (by omega)
    have HXS := Aside0.mk (HSZ.out x hxm)
    have G0 := Aside0.mk g0
    have G1 := Aside0.mk g1
    have Q0 := Aside0.mk q0
    have Q1 := Aside0.mk q1
    have HI := Aside0.mk (show 0 ≤ x9 ∧ x9 < (l0.length : Int) from ⟨h0, h1⟩)
    have HNB := Aside0.mk (show w.heap.size ≤ nb ∧ nb < wr.heap.size from ⟨hnb, hnl⟩)
    clear hx hxm g0 g1 q0 q1 hnb hnl hcl cells
    have c1_ : decide (x9 < (l0.length : Int)) = true := decide_eq_true h1
    have p0 := eq_true h0
    have p1 := eq_true h1
    clear h0 h1 HO
    obtain ⟨wz, hwz⟩ : ∃ z, z = wr.heap.size := ⟨_, rfl⟩
    rw [← hwz] at HOB HNB G0 G1
    have HZ := Aside0.mk (Nat.le_of_eq hwz)
    clear hwz
    go_upto_region 5 with ((with_reducible refine gate_dst (N := 4) rfl ?_); refine box_ev 4 #[.slice none 0 0, .slice none 0 0] 48 ?_; intro gs hg w7 hbox hb; have n_ := pk6 (Kd.N_below HOB.out hb) (Kd.F_below G0.out hb) (Kd.F_below G1.out hb) (below_step HB.out hb) hbox (show wz ≤ gs ∧ w.heap.size ≤ gs by have := HZ.out; have := HNB.out; omega); clear HOB G0 G1 HB hbox hg hb; obtain ⟨HOB, G0, G1, HB, BKS, GSZ⟩ := n_; obtain ⟨hcs0, hcs1, hfs0, hfs1⟩ := blk_at2 BKS.out)
    have HNG : Aside0 (∀ k, (ok k ∨ w.heap.size ≤ k) ∧ k < wz → k ≠ gs) := ⟨fun k hk e => by have := GSZ.out; omega⟩
    have n_ := pk5 (N_put2 HOB.out HNG.out (.slice B0 x.f0.length d0) (.slice B1 x.f1.length d1)) (F_put2 G0.out HNG.out (.slice B0 x.f0.length d0) (.slice B1 x.f1.length d1)) (F_put2 G1.out HNG.out (.slice B0 x.f0.length d0) (.slice B1 x.f1.length d1)) (below_put2 HB.out GSZ.out.2 (.slice B0 x.f0.length d0) (.slice B1 x.f1.length d1)) (put2_ BKS.out (.slice B0 x.f0.length d0) (.slice B1 x.f1.length d1))
    have HZ8 : Aside0 (wz ≤ ((w7.setCell ⟨gs, 0, none⟩ (.slice B0 x.f0.length d0)).setCell ⟨gs, 1, none⟩ (.slice B1 x.f1.length d1)).heap.size) := ⟨by have := blk_lt BKS.out; have := GSZ.out; simp; omega⟩
    clear HOB G0 G1 HB BKS HZ hcs0 hcs1 hfs0 hfs1 hx0 hx1
    obtain ⟨HOB, G0, G1, HB, BKS⟩ := n_
    generalize ((w7.setCell ⟨gs, 0, none⟩ (.slice B0 x.f0.length d0)).setCell ⟨gs, 1, none⟩ (.slice B1 x.f1.length d1)) = w8 at HOB G0 G1 HB BKS HZ8 ⊢
    have n_ := pk5 (Kd.N_drew HOB.out) (Kd.F_below G0.out (below_drew (Below.refl _ _))) (Kd.F_below G1.out (below_drew (Below.refl _ _))) (below_drew1 HB.out) (blk_drew BKS.out)
    have HZ : Aside0 (wz ≤ w8.drew.heap.size) := HZ8
    clear HOB G0 G1 HB BKS HZ8
    obtain ⟨HOB, G0, G1, HB, BKS⟩ := n_
    refine start_ (n := 11) (S := fun w' => w'.cell? ⟨gs, 0, none⟩ = some (.slice B0 x.f0.length d0) ∧ w'.cell? ⟨gs, 1, none⟩ = some (.slice B1 x.f1.length d1)) (ds := []) (up ([0, 1, 2, 3, 5, 6, 4, 7, 8, 9, 10]) 11 0) (by kernel_rfl) rfl (by kernel_rfl) ⟨(blk_cell BKS.out 0).trans rfl, (blk_cell BKS.out 1).trans rfl⟩ (fun hHeld => ?_)
    refine with_tabW jcopied.tab5 jcopied.bits5 (fun HT_ HW_ => ?_)
    generalize w8.drew = w9 at HOB G0 G1 HB BKS HZ hHeld ⊢
    iterate 6 (first | (refine pq_ (v := ?_) (a' := ?_) rfl rfl HT_.out (by kernel_rfl) (fun _ _ _ h => h) (Or.inl ⟨by rfl, ?hy⟩) ?ha ?_; (case hy => intro w'; go_simp; with_reducible rfl); (case ha => show Act.put _ (some _) _ = _; simp only [ap_, sb_, s0_, s1_, i64_w, i32_w]; rfl)) | (refine tq_ (v := ?_) (a' := ?_) rfl rfl HT_.out HW_.out (by kernel_rfl) (fun _ _ _ h => h) (Or.inl ⟨by rfl, ?hy⟩) hHeld ?ha ?_; (case hy => rintro w' ⟨s0_, s1_⟩; go_simp; with_reducible rfl); (case ha => show Act.put _ (some _) _ = _; simp only [ap_, sb_, s0_, s1_, i64_w, i32_w]; rfl)))
    refine oq_ rfl rfl HT_.out (by kernel_rfl) (by decide) (fun K hK => ?_)
    refine goes_ Try.func75 (by kernel_rfl) rfl #[.slice B0 x.f0.length d0] (by rfl) rfl rfl (by (try simp only [List.map_toArray, List.map_cons, List.map_nil]); first | done | rfl) ?_
    with_reducible refine (cloneI B0 d0 x.f0 _ (Kd.F_now G0.out) Q0.out HXS.out.1).mono ?_
    rintro e w10 ⟨v10, rfl, ho, hb⟩
    refine ⟨_, rfl, ?_⟩
    obtain ⟨A10, c10, hv⟩ := Kd.R_slice ho
    subst hv
    have n_ := pk7 (Kd.N_below HOB.out hb) (Kd.F_below G1.out hb) (below_step HB.out hb) (blk_below BKS.out hb) (Kd.F_mono (ok' := fun k => wz ≤ k) (Kd.R_F (Kd.R_bound ho)) (fun k hk => Nat.le_trans HZ.out hk.2.1)) (Kd.R_reads' ho).2.1 (Nat.le_trans HZ.out hb.size)
    clear HOB G0 G1 HB BKS HZ ho hb
    obtain ⟨HOB, G1, HB, BKS, F10, L10, HZ⟩ := n_
    refine hK.out _ _ ⟨(blk_cell BKS.out 0).trans rfl, (blk_cell BKS.out 1).trans rfl⟩ (fun hHeld => ?_)
    clear hK K
    refine norm_ (a' := ?_) ?_ ?_
    rotate_left
    · show Act.put _ (some 18) _ = _
      simp only [ap_, sb_, s0_, s1_, i64_w, i32_w]
      rfl
    refine oq_ rfl rfl HT_.out (by kernel_rfl) (by decide) (fun K hK => ?_)
    refine goes_ Try.func76 (by kernel_rfl) rfl #[.slice B1 x.f1.length d1] (by rfl) rfl rfl (by (try simp only [List.map_toArray, List.map_cons, List.map_nil]); first | done | rfl) ?_
    with_reducible refine (cloneS B1 d1 x.f1 _ (Kd.F_now G1.out) Q1.out HXS.out.2).mono ?_
    rintro e w11 ⟨v11, rfl, ho, hb⟩
    refine ⟨_, rfl, ?_⟩
    obtain ⟨A11, c11, hv⟩ := Kd.R_slice ho
    subst hv
    have n_ := pk7 (Kd.N_below HOB.out hb) (Kd.F_below F10.out hb) (below_step HB.out hb) (blk_below BKS.out hb) (Kd.F_mono (ok' := fun k => wz ≤ k) (Kd.R_F (Kd.R_bound ho)) (fun k hk => Nat.le_trans HZ.out hk.2.1)) (Kd.R_reads' ho).2.1 (Nat.le_trans HZ.out hb.size)
    clear HOB G1 HB BKS HZ F10 ho hb
    obtain ⟨HOB, F10, HB, BKS, F11, L11, HZ⟩ := n_
    refine hK.out _ _ ⟨(blk_cell BKS.out 0).trans rfl, (blk_cell BKS.out 1).trans rfl⟩ (fun hHeld => ?_)
    clear hK K
    refine norm_ (a' := ?_) ?_ ?_
    rotate_left
    · show Act.put _ (some 21) _ = _
      simp only [ap_, sb_, s0_, s1_, i64_w, i32_w]
      rfl
    iterate 2 (refine pq_ (v := ?_) (a' := ?_) rfl rfl HT_.out (by kernel_rfl) (fun _ _ _ h => h) (Or.inl ⟨by rfl, ?hy⟩) ?ha ?_; (case hy => intro w'; go_simp; with_reducible rfl); (case ha => show Act.put _ (some _) _ = _; simp only [ap_, sb_, s0_, s1_, i64_w, i32_w]; rfl))
    refine oq_ rfl rfl HT_.out (by kernel_rfl) (by decide) (fun K hK => ?_)
    obtain ⟨cur, hh, hcz⟩ := N_room HOB.out
    have hcz : l0.length * 2 ≤ cur.size := hcz
    have hst := N_setD (Kd.N_mono (ok' := fun b => ok b ∨ w.heap.size ≤ b) HOB.out (fun k hk => hk.1)) x9 HI.out.1 HI.out.2 rfl (okp := fun k => wz ≤ k) (by rw [← HX.out]; exact k48_mkF _ _ x L10.out F10.out L11.out F11.out) (fun k hk => ⟨.inr (by have := HNB.out; omega), by have := HNB.out; omega⟩)
    refine skip_ (w1 := w11.setCells nb (x9.toNat * 2) [.slice A10 x.f0.length c10, .slice A11 x.f1.length c11]) (by rfl) rfl (store_two (o := x9.toNat * 2) rfl (by go_simp) (by rfl) hh (by kernel_rfl) (by have := HI.out; omega) ⟨rfl, rfl⟩ ⟨rfl, rfl⟩) ?_
    have n_ := pk2 hst.1 (below_grown HB.out hst.2 HNB.out.1 (fun k hk => setCells_far _ _ k (by have := HNB.out; have := HZ.out; omega)))
    have hgb : gs ≠ nb := by have := HNB.out; have := GSZ.out; omega
    clear HOB HB F10 F11 hst hh hcz
    obtain ⟨HO, HB⟩ := n_
    refine hK.out _ _ ⟨far_cells hHeld.1 hgb, far_cells hHeld.2 hgb⟩ (fun hHeld => ?_)
    clear hK K
    refine done_ (done_of HT_.out (by kernel_rfl)) ?_
    clear hHeld
    generalize w11.setCells nb (x9.toNat * 2) [.slice A10 x.f0.length c10, .slice A11 x.f1.length c11] = w12 at HO HB ⊢
    go_wp2
    cases gk with
    | zero => exact absurd HK.out.2.2 (by have := HI.out; omega)
    | succ k1 =>
    go_roundg k1
    case measure => omega
    case rel => exact ⟨x9 + 1, (by rw [show wrap64 (x9 + 1) = x9 + 1 from by unfold wrap64; have := HI.out; have := HL.out; omega]), ⟨by have := HI.out; have := HK.out; omega⟩, HO, HB⟩
end Go.Proofs.Ytfmdllbkfpbdcaa.G
end
section
namespace Go.Proofs.Ytfmdllbkfpbdcaa.G
open Go Go.RowKit Go.Proofs.YtfmdllbkfpbdcaaX Go.Proofs.YtfmdllbkfpbdcaaW.PrintWords Go.Proofs.YtfmdllbkfpbdcaaW.PrintLast Go.Proofs.YtfmdllbkfpbdcaaW.PrintMore
def JnS.Sized (J : JnS) : Prop := J.l.length < 1000000000 ∧ ∀ x ∈ J.l, x.f0.length < 1000000000 ∧ x.f1.length < 1000000000
set_option maxHeartbeats 4000000 in
theorem IsJn.records {S T : Nat → Prop} {B : Nat} {w : World} {j g s k : Nat} {J : JnS} (h : IsJn S T B w j g s k J) (hz : J.Sized) : Calls Try.prog 23 #[.pointer (some ⟨j, 0, none⟩)] w fun e w' => ∃ v0_ : Value, e = .returned v0_ ∧ Kd.N k48 48 w' w.heap.size (fun b => (¬ S b ∧ b ≠ j) ∨ w.heap.size ≤ b) v0_ J.l ∧ Below w.heap.size w w' := by
  have hu := Try.underlying54
  obtain ⟨v, h1, h2, h3, h4, h5, h6⟩ := h
  obtain ⟨A, c, hv⟩ := Kd.N_slice h3
  subst hv
  have hc : J.l.length ≤ c := (Kd.N_reads' h3).2.1
  have HI := Aside0.mk (is_blk w j _ _ _ _ _ h1)
  have HF := Aside0.mk (Kd.N_F h3)
  have HC := Aside0.mk hc
  have HZ1 := Aside0.mk hz.1
  have HZ2 := Aside0.mk hz.2
  obtain ⟨c0, c1, c2, c3, c4, f0, f1, f2, f3, f4⟩ := blk_at5 h1
  clear h1 h2 h3 h4 h5 h6 hc hz c0 c1 c2 c4 f0 f1 f2 f3 f4
  go_enter Try.func23, Try.ntmps23
  go_wp2_with (first
    | (go_at_call 51; (with_reducible refine HI.out.mono ?_); rintro e w1 ⟨rfl, rfl⟩)
    | (go_at_call 53; (with_reducible refine (copied_calls A c J.l _ _ HF.out HC.out HZ1.out HZ2.out).mono ?_); rintro e w2 ⟨v2, rfl, ho, hb⟩; have n_ := pk2 ho hb; clear ho hb; obtain ⟨HO, HB⟩ := n_))
  go_ret
  exact ⟨_, rfl, HO.out, HB.out⟩
theorem records_nobody (w : World) (p : Value) (h : Calls Try.prog 51 #[p] w fun e w' => e = .returned (.bool false) ∧ w' = w) : Calls Try.prog 23 #[p] w fun e w' => e = .returned (.slice none 0 0) ∧ w' = w := by
  have HI := Aside0.mk h
  clear h
  go_enter Try.func23, Try.ntmps23
  go_wp2_with (go_at_call 51; (with_reducible refine HI.out.mono ?_); rintro e w1 ⟨rfl, rfl⟩)
  go_ret
  exact ⟨rfl, rfl⟩
theorem left_nobody (w : World) (p : Value) (h : Calls Try.prog 51 #[p] w fun e w' => e = .returned (.bool false) ∧ w' = w) : Calls Try.prog 26 #[p] w fun e w' => e = .returned (.int .i64 0) ∧ w' = w := by
  have HI := Aside0.mk h
  clear h
  go_enter Try.func26, Try.ntmps26
  go_wp2_with (go_at_call 51; (with_reducible refine HI.out.mono ?_); rintro e w1 ⟨rfl, rfl⟩)
  go_ret
  exact ⟨rfl, rfl⟩
theorem sync_nobody (w : World) (p : Value) (h : Calls Try.prog 51 #[p] w fun e w' => e = .returned (.bool false) ∧ w' = w) : Calls Try.prog 22 #[p] w fun e w' => (∃ v, e = .returned v) ∧ w' = w := by
  have HI := Aside0.mk h
  clear h
  go_enter Try.func22, Try.ntmps22
  go_wp2_with (go_at_call 51; (with_reducible refine HI.out.mono ?_); rintro e w1 ⟨rfl, rfl⟩)
  go_end0
  exact ⟨⟨_, rfl⟩, rfl⟩
set_option maxHeartbeats 4000000 in
theorem IsJn.sync {S T : Nat → Prop} {B N : Nat} {w : World} {j g s k : Nat} {J : JnS} (kk : Nat) (b p : List Int) (er : Int) (h : IsJn S T B w j g s k J) (hB : B ≤ w.heap.size) (hG : J.D.Fine N) (hN : N ≤ 900000000) (hh : J.half = 0 ∨ J.half = 1) (hb : frame_Frame.f kk [7, J.age, J.e] [] = some (b, er)) (hp : journal_filled.f b = some p) (hpl : p.length ≤ 100000000) :
    Calls Try.prog 22 #[.pointer (some ⟨j, 0, none⟩)] w fun e w' => (∃ v, e = .returned v) ∧ IsJn S T B w' j g s k { J with D := headD { J with D := syncD J.D } p } ∧ Below B w w' ∧ Kept w w' S := by
  have hu := Try.underlying54
  obtain ⟨v, h1⟩ := h.blk
  have HJ := Aside0.mk h
  have HI := Aside0.mk (is_blk w j _ _ _ _ _ h1)
  have HBB := Aside0.mk hB
  have HG := Aside0.mk hG
  have HNN := Aside0.mk hN
  have HH := Aside0.mk hh
  have HFR := Aside0.mk hb
  have HP := Aside0.mk hp
  have HPL := Aside0.mk hpl
  obtain ⟨c0, c1, c2, c3, c4, f0, f1, f2, f3, f4⟩ := blk_at5 h1
  clear h h1 hB hG hN hh hb hp hpl c1 c2 c3 c4 f0 f1 f2 f3 f4
  go_enter Try.func22, Try.ntmps22
  go_wp2_with (first
    | (go_at_call 51; (with_reducible refine HI.out.mono ?_); rintro e w1 ⟨rfl, rfl⟩)
    | (go_at_call 14; (with_reducible refine (sync_calls S B _ g s k J.D HJ.out.dr HBB.out HG.out.good).mono ?_); rintro e w9 ⟨⟨v9, rfl⟩, hd, hb, hk⟩; have n_ := pk3 (HJ.out.put_ hd hk) hb hk; clear hd hb hk; obtain ⟨HJ2, HB, HK⟩ := n_)
    | (go_at_call 52; (with_reducible refine (IsJn.lead kk b p er HJ2.out (Nat.le_trans HBB.out HB.out.size) (fine_sync HG.out) HNN.out HH.out HFR.out HP.out HPL.out).mono ?_); rintro e w10 ⟨⟨v10, rfl⟩, hj, hb, hk⟩; have n_ := pk3 hj (HB.out.trans hb) (HK.out.then_ hk (fun _ h => .inl h)); clear HB HK hj hb hk; obtain ⟨HJ3, HB, HK⟩ := n_))
  go_end0
  exact ⟨⟨_, rfl⟩, HJ3.out, HB.out, HK.out⟩
theorem nought_calls (x : Int) (w : World) : Calls Try.prog 93 #[.int .u8 x] w fun e w' => e = .returned (.bool (x != 0)) ∧ w' = w := by
  go_enter Try.func93, Try.ntmps93
  go_wp2
  go_ret
  exact ⟨rfl, rfl⟩
def nz (l : List Int) : Bool := l.any (fun c => c != 0)
set_option maxHeartbeats 16000000 in
set_option maxRecDepth 100000 in
theorem index_calls (A : Option Addr) (c : Nat) (l : List Int) (w : World) (hC : Kd.C (Kd.int .u8) w A l.length l) (hl : l.length < 1000000000) :
    Calls Try.prog 101 #[.slice A l.length c, .func (.func 93) #[] #[]] w fun e w' => (∃ r : Int, e = .returned (.int .i64 r) ∧ decide (r ≥ 0) = nz l) ∧ w' = w := by
  have HC := Aside0.mk hC
  have HL := Aside0.mk hl
  clear hC hl
  go_enter Try.func101, Try.ntmps101
  go_wp2
  go_loopg [8] (l.length + 1) (fun kq v8 w' => ∃ (x8 : Int), v8 = .int .i64 x8 ∧ Aside0 (0 ≤ x8 ∧ x8 ≤ (l.length : Int) ∧ (l.length : Int) - x8 < kq ∧ nz (l.take x8.toNat) = false) ∧ w' = w)
  case atStart => exact ⟨0, rfl, ⟨by omega, by omega, by omega, by simp [nz]⟩, rfl⟩
  case round =>
    obtain ⟨x8, rfl, HK, rfl⟩ := hrel
    by_cases h1 : x8 < (l.length : Int)
    rotate_left
    · have c1 : decide (x8 < (l.length : Int)) = false := decide_eq_false h1
      have HE := Aside0.mk h1
      clear h1
      go_wp2
      go_ret
      refine ⟨⟨_, rfl, ?_⟩, rfl⟩
      have e := HK.out.2.2.2
      rw [List.take_of_length_le (by have := HE.out; omega)] at e
      rw [e]
      decide
    have h0 : 0 ≤ x8 := HK.out.1
    obtain ⟨ad, eA, hx⟩ := Kd.at_int HC.out x8 h0 h1
    subst eA
    have HI := Aside0.mk (show 0 ≤ x8 ∧ x8 < (l.length : Int) from ⟨h0, h1⟩)
    have c1 : decide (x8 < (l.length : Int)) = true := decide_eq_true h1
    have et : l.take (x8 + 1).toNat = l.take x8.toNat ++ [rd l x8] := by
      rw [show (x8 + 1).toNat = x8.toNat + 1 by omega, List.take_succ_eq_append_getElem (by omega)]
      congr 2
      unfold rd
      rw [List.getD_eq_getElem?_getD, List.getElem?_eq_getElem (by omega)]
      rfl
    obtain ⟨x, hxe⟩ : ∃ x, x = rd l x8 := ⟨_, rfl⟩
    rw [← hxe] at hx et
    have ET := Aside0.mk et
    have hm : x ∈ l := by rw [hxe]; unfold rd; exact getD_mem_ _ _ _ (by omega)
    have HM := Aside0.mk hm
    clear hxe et hm
    replace h0 := eq_true h0
    replace h1 := eq_true h1
    by_cases hz : x = 0
    · have z1 : (x != 0) = false := by simp [hz]
      have HZ := Aside0.mk hz
      clear hz
      go_wp2_with (go_at_call 93; (with_reducible refine (nought_calls x _).mono ?_); rintro e w2 ⟨rfl, he⟩; rw [he]; clear he w2)
      cases gk with
      | zero => exact absurd HK.out.2.2.1 (by have := HI.out; omega)
      | succ k1 =>
      go_roundg k1
      case measure => omega
      case rel => exact ⟨x8 + 1, (by rw [show wrap64 (x8 + 1) = x8 + 1 from by unfold wrap64; have := HI.out; have := HL.out; omega]), ⟨by have := HI.out; have := HK.out; omega, by have := HI.out; omega, by have := HI.out; have := HK.out; omega, by rw [ET.out]; unfold nz; rw [List.any_append]; have e := HK.out.2.2.2; unfold nz at e; rw [e, HZ.out]; rfl⟩, rfl⟩
    · have z1 : (x != 0) = true := by simpa using hz
      have HZ := Aside0.mk hz
      clear hz
      go_wp2_with (go_at_call 93; (with_reducible refine (nought_calls x _).mono ?_); rintro e w2 ⟨rfl, he⟩; rw [he]; clear he w2)
      go_ret
      refine ⟨⟨_, rfl, ?_⟩, rfl⟩
      have e : nz l = true := by unfold nz; rw [List.any_eq_true]; exact ⟨x, HM.out, by simpa using HZ.out⟩
      rw [e, decide_eq_true (show x8 ≥ 0 from HI.out.1)]
theorem contains_calls (A : Option Addr) (c : Nat) (l : List Int) (w : World) (hC : Kd.C (Kd.int .u8) w A l.length l) (hl : l.length < 1000000000) :
    Calls Try.prog 92 #[.slice A l.length c, .func (.func 93) #[] #[]] w fun e w' => e = .returned (.bool (nz l)) ∧ w' = w := by
  have HC := Aside0.mk hC
  have HL := Aside0.mk hl
  clear hC hl
  go_enter Try.func92, Try.ntmps92
  go_wp2_with (go_at_call 101; (with_reducible refine (index_calls A c l _ HC.out HL.out).mono ?_); rintro e w2 ⟨⟨r, rfl, hr⟩, he⟩; rw [he]; have HR := Aside0.mk hr; clear he w2 hr)
  go_ret
  refine ⟨?_, rfl⟩
  rw [← HR.out]
  rfl
end Go.Proofs.Ytfmdllbkfpbdcaa.G
end
section
namespace Go.Proofs.Ytfmdllbkfpbdcaa.G
open Go Go.RowKit Go.Proofs.YtfmdllbkfpbdcaaX Go.Proofs.YtfmdllbkfpbdcaaW.PrintWords Go.Proofs.YtfmdllbkfpbdcaaW.PrintLast Go.Proofs.YtfmdllbkfpbdcaaW.PrintMore
theorem IsDr.apart_ {S : Nat → Prop} {B : Nat} {w W : World} {g s k : Nat} {D : DrumS} (h : IsDr S B w g s k D) (hm : ∀ b, S b → b < w.heap.size → W.heap[b]? = w.heap[b]?) (hs : w.heap.size ≤ W.heap.size) : IsDr (fun b => S b ∧ ¬ (w.heap.size ≤ b ∧ b < W.heap.size)) B W g s k D := by
  obtain ⟨v, h1, h2, h3, h4, ⟨a1, a2, a3⟩, h6, h7, h8⟩ := h
  have hg : g < w.heap.size := blk_lt h1
  have hs' := h2.lt
  have hk := h3.lt
  exact ⟨v, (hm g a1 hg).trans h1, h2.kept (hm s a2 hs'), h3.kept (hm k a3 hk), Kd.R_step (Kd.R_mono (Kd.R_bound h4) (fun b hb' => ⟨⟨hb'.1.1, fun h => by have := hb'.2.2.1; omega⟩, hb'.1.2⟩)) (fun b hb hlt => hm b hb.1.1 hlt), ⟨⟨a1, fun h => by omega⟩, ⟨a2, fun h => by omega⟩, ⟨a3, fun h => by omega⟩⟩, h6, h7, fun b hb' => ⟨h8 b (Nat.le_trans hs hb'), fun h => by omega⟩⟩
theorem IsJn.renew {S T : Nat → Prop} {B : Nat} {wA w1 wB : World} {j g s k : Nat} {J : JnS} {v : Value} {l : List S48} {half age e : Int} (h : IsJn S T B wA j g s k J) (hB : B ≤ wA.heap.size) (hn : Kd.N k48 48 w1 wA.heap.size (fun b => (¬ S b ∧ b ≠ j) ∨ wA.heap.size ≤ b) v l) (hb : Below wA.heap.size wA w1)
    (hj : wB.heap[j]? = some (.cells #[.pointer (some ⟨g, 0, none⟩), .int .i64 half, .int .i64 age, v, .int .i64 e] 54 (0, 0))) (hk : ∀ b, b ≠ j → wB.heap[b]? = w1.heap[b]?) (hs : wB.heap.size = w1.heap.size) :
    IsJn (fun b => S b ∧ ¬ (wA.heap.size ≤ b ∧ b < wB.heap.size)) T B wB j g s k { D := J.D, half := half, age := age, l := l, e := e } ∧ Kept wA wB T := by
  obtain ⟨v0, h1, h2, h3, h4, h5, t1, t2, t3⟩ := h
  have hjl : j < wA.heap.size := blk_lt h1
  have hsz : wA.heap.size ≤ wB.heap.size := by rw [hs]; exact hb.size
  have hfr : ∀ b, wA.heap.size ≤ b → S b := by obtain ⟨_, _, _, _, _, _, _, _, h8⟩ := h2; exact h8
  refine ⟨⟨v, hj, h2.apart_ (fun b hS hlt => (hk b (fun e => h4 (e ▸ hS))).trans (hb.block b hlt)) hsz, ?_, fun hS => h4 hS.1, h5, t1, fun b hv => t3 b (hfr b (Kd.N_base hn b hv)), fun b hS => t3 b hS.1⟩, hsz, fun b hlt hT => (hk b (fun e => hT (e ▸ t1))).trans (hb.block b hlt)⟩
  have hn2 := Kd.N_mono (ok' := fun b => (¬ (S b ∧ ¬ (wA.heap.size ≤ b ∧ b < wB.heap.size)) ∧ b ≠ j)) (Kd.N_bound hn) (fun b hb' => by
    rcases hb'.1 with h | h
    · exact ⟨fun hS => h.1 hS.1, h.2⟩
    · exact ⟨fun hS => hS.2 ⟨h, by rw [hs]; exact hb'.2⟩, by omega⟩)
  exact Kd.N_lower (Kd.N_step hn2 (fun b hb' _ => hk b hb'.2)) hB
def anewRow (kk : Nat) (age : Int) : List S48 → List Int → Option (List Int × Int)
  | [], acc => some (acc, 0)
  | x :: xs, acc => (journal_framed.f kk x.f0 x.f1 age).bind fun be => if be.2 = 0 then anewRow kk age xs (acc ++ be.1) else some (acc, be.2)
theorem anew_nobody (w : World) (p q : Value) (h : Calls Try.prog 51 #[p] w fun e w' => e = .returned (.bool false) ∧ w' = w) : Calls Try.prog 25 #[p, q] w fun e w' => e = .returned (.int .i64 1) ∧ w' = w := by
  have HI := Aside0.mk h
  clear h
  go_enter Try.func25, Try.ntmps25
  go_wp2_with (go_at_call 51; (with_reducible refine HI.out.mono ?_); rintro e w1 ⟨rfl, rfl⟩)
  go_ret
  exact ⟨rfl, rfl⟩
def janew.T9 : Bool × List (List Nat × List Nat) := (true, [([], []), ([], []), ([1], [1]), ([2], [2]), ([3], [3]), ([4], [4]), ([0, 5], [0, 5]), ([6], [6]), ([7], [7]), ([7], [7]), ([8, 6, 0, 1, 2, 3, 4, 5, 6, 7, 8], [8]), ([9, 10, 0, 1, 2, 3, 4, 5, 6, 7, 8, 9, 10], [9])])
def janew.B9 : List Nat := [0, 0, 2, 6, 14, 30, 63, 127, 255, 255, 511, 2047]
theorem janew.tab9 : rtab .any (opsOf Try.f25 9) = janew.T9 := by kernel_rfl
theorem janew.bits9 : waitsOk janew.T9.2 janew.B9 = true := by kernel_rfl
def janew.T17 : Bool × List (List Nat × List Nat) := (true, [([], []), ([0], [0]), ([1], [1]), ([2], [2]), ([], []), ([], []), ([4, 5], [4, 5]), ([], []), ([7, 6], [7]), ([8, 8], [8]), ([3, 6, 9, 9], [3, 6, 9])])
def janew.B17 : List Nat := [0, 1, 3, 7, 0, 0, 48, 0, 240, 496, 1023]
theorem janew.tab17 : rtab .any (opsOf Try.f25 17) = janew.T17 := by kernel_rfl
theorem janew.bits17 : waitsOk janew.T17.2 janew.B17 = true := by kernel_rfl
def janew.T19 : Bool × List (List Nat × List Nat) := (true, [([], []), ([], []), ([], []), ([], []), ([], []), ([], []), ([5], [5]), ([6], [6]), ([7], [7]), ([8], [8]), ([], []), ([10], [10]), ([], []), ([12], [12]), ([0, 0, 4, 8, 13], [0]), ([14, 0, 4, 8, 13], [14]), ([15, 4, 13, 0, 4, 8, 13], [4, 15]), ([1, 0, 1, 4, 5, 6, 7, 8, 9, 13, 14, 15, 16], [1]), ([17, 0, 1, 4, 5, 6, 7, 8, 9, 13, 14, 15, 16], [17]), ([18, 9, 16, 0, 1, 4, 5, 6, 7, 8, 9, 13, 14, 15, 16], [9, 18]), ([2, 0, 1, 2, 4, 5, 6, 7, 8, 9, 10, 11, 13, 14, 15, 16, 17, 18, 19], [2]), ([20, 0, 1, 2, 4, 5, 6, 7, 8, 9, 10, 11, 13, 14, 15, 16, 17, 18, 19], [20]), ([21, 11, 19, 0, 1, 2, 4, 5, 6, 7, 8, 9, 10, 11, 13, 14, 15, 16, 17, 18, 19], [11, 21]), ([3, 0, 1, 2, 3, 4, 5, 6, 7, 8, 9, 10, 11, 12, 13, 14, 15, 16, 17, 18, 19, 20, 21, 22], [3]), ([23, 0, 1, 2, 3, 4, 5, 6, 7, 8, 9, 10, 11, 12, 13, 14, 15, 16, 17, 18, 19, 20, 21, 22], [23]), ([24, 13, 22, 0, 1, 2, 3, 4, 5, 6, 7, 8, 9, 10, 11, 12, 13, 14, 15, 16, 17, 18, 19, 20, 21, 22], [13, 24])])
def janew.B19 : List Nat := [0, 0, 0, 0, 0, 0, 32, 96, 224, 480, 0, 1024, 0, 4096, 12785, 29169, 61937, 127987, 259059, 521203, 1048567, 2097143, 4194295, 8388607, 16777215, 33554431]
theorem janew.tab19 : rtab .any (opsOf Try.f25 19) = janew.T19 := by kernel_rfl
theorem janew.bits19 : waitsOk janew.T19.2 janew.B19 = true := by kernel_rfl
def anewJ (J : JnS) (l : List S48) (row : List Int) (er : Int) (p p2 : List Int) : JnS × Int :=
  if J.age = 2147483647 then (J, 6) else if er ≠ 0 then (J, er) else if (row.length : Int) > 64 * (J.secs - 1) then (J, 6)
  else ({ D := headD { D := syncD (writeD J.D ((1 - J.half) * J.secs + 1) p).1, half := 1 - J.half, age := J.age + 1, l := l, e := (row.length : Int) } p2, half := 1 - J.half, age := J.age + 1, l := l, e := (row.length : Int) }, 0)
theorem anewJ_full {J : JnS} {l row er p p2} (h : J.age = 2147483647) : anewJ J l row er p p2 = (J, 6) := by unfold anewJ; rw [if_pos h]
theorem anewJ_er {J : JnS} {l row er p p2} (h : ¬ J.age = 2147483647) (h2 : er ≠ 0) : anewJ J l row er p p2 = (J, er) := by unfold anewJ; rw [if_neg h, if_pos h2]
theorem anewJ_long {J : JnS} {l row er p p2} (h : ¬ J.age = 2147483647) (h2 : er = 0) (h3 : (row.length : Int) > 64 * (J.secs - 1)) : anewJ J l row er p p2 = (J, 6) := by unfold anewJ; rw [if_neg h, if_neg (by simp [h2]), if_pos h3]
theorem anewJ_ok {J : JnS} {l row er p p2} (h : ¬ J.age = 2147483647) (h2 : er = 0) (h3 : ¬ (row.length : Int) > 64 * (J.secs - 1)) : anewJ J l row er p p2 = ({ D := headD { D := syncD (writeD J.D ((1 - J.half) * J.secs + 1) p).1, half := 1 - J.half, age := J.age + 1, l := l, e := (row.length : Int) } p2, half := 1 - J.half, age := J.age + 1, l := l, e := (row.length : Int) }, 0) := by unfold anewJ; rw [if_neg h, if_neg (by simp [h2]), if_neg h3]
set_option maxHeartbeats 64000000 in
set_option maxRecDepth 100000 in
theorem IsJn.anew {S T : Nat → Prop} {B N : Nat} {w : World} {j g s k : Nat} {J : JnS} (kk : Nat) (Al : Option Addr) (cl : Nat) (l : List S48) (row : List Int) (er : Int) (p b2 p2 : List Int) (e2 : Int) (h : IsJn S T B w j g s k J) (hB : B ≤ w.heap.size) (hG : J.D.Fine N) (hN : N ≤ 800000000) (hh : J.half = 0 ∨ J.half = 1) (hag : 0 ≤ J.age ∧ J.age ≤ 2147483647)
    (hl : Kd.F k48 w (fun b => ¬ S b ∧ b ≠ j) Al l.length l) (hcl : l.length ≤ cl) (hln : l.length < 1000000) (hsz : ∀ x ∈ l, x.f0.length < 1000000000 ∧ x.f1.length < 1000000000) (hr : anewRow kk (J.age + 1) l [] = some (row, er)) (hfl : ∀ x ∈ l, ∀ b e, journal_framed.f kk x.f0 x.f1 (J.age + 1) = some (b, e) → b.length ≤ 1000000)
    (hp : er = 0 → journal_filled.f row = some p ∧ p.length ≤ 100000000) (hb2 : er = 0 → frame_Frame.f kk [7, J.age + 1, (row.length : Int)] [] = some (b2, e2) ∧ journal_filled.f b2 = some p2 ∧ p2.length ≤ 100000000) :
    Calls Try.prog 25 #[.pointer (some ⟨j, 0, none⟩), .slice Al l.length cl] w fun e w' => ∃ S', e = .returned (.int .i64 (anewJ J l row er p p2).2) ∧ IsJn S' T B w' j g s k (anewJ J l row er p p2).1 ∧ (∀ b, S' b → S b) ∧ Below B w w' ∧ Kept w w' T := by
  have hu := Try.underlying54
  have hud := Try.underlying48
  have HJ := Aside0.mk h
  obtain ⟨v, h1⟩ := h.blk
  have HI := Aside0.mk (is_blk w j _ _ _ _ _ h1)
  have HTS : Aside0 (∀ b, S b → T b) := ⟨by obtain ⟨_, _, _, _, _, _, h6⟩ := h; exact h6.2.2⟩
  obtain ⟨ag, hage⟩ : ∃ x, x = J.age := ⟨_, rfl⟩
  obtain ⟨hf, hhf⟩ : ∃ x, x = J.half := ⟨_, rfl⟩
  have BK := Aside0.mk h1
  have HBB := Aside0.mk hB
  have HGG := Aside0.mk hG
  have HNN := Aside0.mk hN
  have HH := Aside0.mk hh
  have HAG := Aside0.mk hag
  have HL := Aside0.mk hl
  have HCL := Aside0.mk hcl
  have HLN := Aside0.mk hln
  have HSZ := Aside0.mk hsz
  have HR := Aside0.mk hr
  have HFL := Aside0.mk hfl
  have HP := Aside0.mk hp
  have HB2 := Aside0.mk hb2
  have HAE := Aside0.mk hage
  have HHE := Aside0.mk hhf
  have HB := Aside0.mk (Below.refl w.heap.size w)
  rw [← hage, ← hhf] at BK
  obtain ⟨hcz0, hcz1, hcz2, hcz3, hcz4, hfz0, hfz1, hfz2, hfz3, hfz4⟩ := blk_at5 BK.out
  clear hcz0 hcz1 hcz3 hcz4 hfz0 hfz1 hfz2 hfz3 hfz4 h h1 hB hG hN hh hag hl hcl hln hsz hr hfl hp hb2 hage hhf
  by_cases a1 : ag = 2147483647
  · have q1 : (ag == 2147483647) = true := by simpa using a1
    have A1 := Aside0.mk a1
    clear a1
    go_enter Try.func25, Try.ntmps25
    go_wp2_with (go_at_call 51; (with_reducible refine HI.out.mono ?_); rintro e w1 ⟨rfl, rfl⟩)
    go_ret
    rw [anewJ_full (HAE.out.symm.trans A1.out)]
    exact ⟨S, rfl, HJ.out, fun _ h => h, Below.refl _ _, Kept.refl _ _⟩
  have q1 : (ag == 2147483647) = false := by simpa using a1
  have A1 := Aside0.mk a1
  clear a1
  go_enter Try.func25, Try.ntmps25
  go_wp2_with (go_at_call 51; (with_reducible refine HI.out.mono ?_); rintro e w1 ⟨rfl, he⟩; rw [he]; clear he w1)
  clear hcz2
  go_loopg [5, 23] (l.length + 1) (fun kq v5 v23 w' => ∃ (x23 : Int) (acc : List Int), v23 = .int .i64 x23 ∧ Aside0 (0 ≤ x23 ∧ x23 ≤ (l.length : Int) ∧ (l.length : Int) - x23 < kq) ∧ Aside0 (Kd.R (Kd.int .u8) 5 w' w.heap.size (fun _ => True) v5 acc) ∧ Aside0 (anewRow kk (J.age + 1) (l.drop x23.toNat) acc = some (row, er)) ∧ Aside0 ((acc.length : Int) ≤ 1000000 * x23) ∧ Aside0 (Below w.heap.size w w'))
  case atStart => exact ⟨0, [], rfl, ⟨by omega, by omega, by omega⟩, ⟨Kd.R_nil _ _ _ _ _⟩, ⟨by simpa using HR.out⟩, ⟨by simp⟩, HB⟩
  case round =>
    clear HB
    obtain ⟨x23, acc, rfl, HK, HO, HRW, HAL, HB⟩ := hrel
    obtain ⟨A5, c5, hv⟩ := Kd.R_slice HO.out
    subst hv
    by_cases h1 : x23 < (l.length : Int)
    rotate_left
    · have c1 : decide (x23 < (l.length : Int)) = false := decide_eq_false h1
      have HE := Aside0.mk h1
      clear h1
      have HFI := HRW.out
      rw [List.drop_of_length_le (by have := HE.out; omega), anewRow] at HFI
      injection HFI with HFI
      injection HFI with e1 e2
      have ER := Aside0.mk e2.symm
      subst e1
      clear e2 HRW
      have HPP := Aside0.mk (HP.out ER.out)
      have HPB := Aside0.mk (HB2.out ER.out)
      obtain ⟨rm, hrm⟩ : ∃ x, x = 64 * (J.secs - 1) := ⟨_, rfl⟩
      have ROOM : Aside0 (∀ W, Below w.heap.size w W → Calls Try.prog 57 #[.pointer (some ⟨j, 0, none⟩)] W fun e w' => e = .returned (.int .i64 rm) ∧ w' = W) := ⟨fun W hW => by rw [hrm]; exact (HJ.out.below hW).room HGG.out.good⟩
      have HRM := Aside0.mk hrm
      clear hrm
      have BKr : Aside0 (wr.heap[j]? = _) := ⟨(HB.out.block j (blk_lt BK.out)).trans BK.out⟩
      obtain ⟨hcz0, hcz1, hcz2, hcz3, hcz4, hfz0, hfz1, hfz2, hfz3, hfz4⟩ := blk_at5 BKr.out
      clear hcz0 hcz2 hcz3 hcz4 hfz0 hfz1 hfz2 hfz3 hfz4
      by_cases r1 : rm < (acc.length : Int)
      · have q3 : decide (rm < (acc.length : Int)) = true := decide_eq_true r1
        have R1 := Aside0.mk r1
        clear r1
        go_wp2_with (go_at_call 57; (with_reducible refine (ROOM.out _ HB.out).mono ?_); rintro e w6 ⟨rfl, he⟩; rw [he]; clear he w6)
        go_ret
        rw [anewJ_long (fun e => A1.out (HAE.out.trans e)) ER.out (by have := R1.out; have := HRM.out; omega)]
        first | exact ⟨S, rfl, HJ.out.below HB.out, fun _ h => h, HB.out.mono HBB.out, Kept.of_below HB.out T⟩ | exact ⟨rfl, S, HJ.out.below HB.out, fun _ h => h, HB.out.mono HBB.out, Kept.of_below HB.out T⟩
      have q3 : decide (rm < (acc.length : Int)) = false := decide_eq_false r1
      have R1 := Aside0.mk r1
      clear r1
      have hs : 0 ≤ J.secs ∧ J.secs ≤ 100000 := by unfold JnS.secs; have := HGG.out.good.1; have := HGG.out.good.2.1; omega
      have hoth : wrap64 (1 - hf) = 1 - J.half := by have := HHE.out; have := HH.out; unfold wrap64; omega
      obtain ⟨ot, hot⟩ : ∃ x, x = wrap64 (1 - hf) := ⟨_, rfl⟩
      have hot2 : ot = 1 - J.half := hot.trans hoth
      have hoo : ot = 0 ∨ ot = 1 := by have := HH.out; omega
      obtain ⟨fs, hfs⟩ : ∃ x, x = ot * J.secs + 1 := ⟨_, rfl⟩
      have FST : Aside0 (∀ W, Below w.heap.size w W → Calls Try.prog 55 #[.pointer (some ⟨j, 0, none⟩), .int .i64 ot] W fun e w' => e = .returned (.int .i64 fs) ∧ w' = W) := ⟨fun W hW => by rw [hfs]; exact (HJ.out.below hW).first HGG.out.good ot hoo⟩
      have HOT := Aside0.mk hot
      have HOT2 := Aside0.mk hot2
      have HOO := Aside0.mk hoo
      have HFS := Aside0.mk hfs
      clear hs hoth hot hot2 hoo hfs
      go_upto_region 17 with (go_at_call 57; (with_reducible refine (ROOM.out _ HB.out).mono ?_); rintro e w6 ⟨rfl, he⟩; rw [he]; clear he w6)
      rw [← HOT.out]
      clear hcz1
      have n_ := pk3 (Kd.R_drew HO.out) (below_drew1 HB.out) (blk_drew BKr.out)
      clear HO HB BKr
      obtain ⟨HO, HB, BKr⟩ := n_
      refine start_ (n := 11) (S := fun w' => w'.cell? ⟨j, 0, none⟩ = some (.pointer (some ⟨g, 0, none⟩))) (ds := []) (up ([0, 1, 2, 3, 4, 5, 7, 6, 8, 9, 10]) 11 0) (by kernel_rfl) rfl (by kernel_rfl) ((blk_cell BKr.out 0).trans rfl) (fun hHeld => ?_)
      refine with_tabW janew.tab17 janew.bits17 (fun HT_ HW_ => ?_)
      generalize wr.drew = w12 at HO HB BKr hHeld ⊢
      iterate 7 (first | (refine pq_ (v := ?_) (a' := ?_) rfl rfl HT_.out (by kernel_rfl) (fun _ _ _ h => h) (Or.inl ⟨by rfl, ?hy⟩) ?ha ?_; (case hy => intro w'; go_simp; with_reducible rfl); (case ha => show Act.put _ (some _) _ = _; simp only [ap_, sb_, s0_, s1_, i64_w, i32_w]; rfl)) | (refine tq_ (v := ?_) (a' := ?_) rfl rfl HT_.out HW_.out (by kernel_rfl) (fun _ _ _ h => h) (Or.inl ⟨by rfl, ?hy⟩) hHeld ?ha ?_; (case hy => intro w' s0_; go_simp; with_reducible rfl); (case ha => show Act.put _ (some _) _ = _; simp only [ap_, sb_, s0_, s1_, i64_w, i32_w]; rfl)))
      refine oq_ rfl rfl HT_.out (by kernel_rfl) (by decide) (fun K hK => ?_)
      refine goes_ Try.func55 (by kernel_rfl) rfl #[.pointer (some ⟨j, 0, none⟩), .int .i64 ot] (by rfl) rfl rfl (by (try simp only [List.map_toArray, List.map_cons, List.map_nil]); first | done | rfl) ?_
      with_reducible refine (FST.out _ HB.out).mono ?_
      rintro e w6 ⟨rfl, he⟩
      rw [he]
      clear he w6
      refine ⟨_, rfl, ?_⟩
      refine hK.out _ _ hHeld (fun hHeld => ?_)
      clear hK K
      refine norm_ (a' := ?_) ?_ ?_
      rotate_left
      · show Act.put _ (some 60) _ = _
        simp only [ap_, sb_, s0_, s1_, i64_w, i32_w]
        rfl
      refine oq_ rfl rfl HT_.out (by kernel_rfl) (by decide) (fun K hK => ?_)
      refine goes_ Try.func49 (by kernel_rfl) rfl #[.slice A5 acc.length c5] (by rfl) rfl rfl (by (try simp only [List.map_toArray, List.map_cons, List.map_nil]); first | done | rfl) ?_
      with_reducible refine (slices_Clone_byte_byte.calls A5 c5 acc acc _ (Kd.R_reads' HO.out).2.2 (Kd.R_reads' HO.out).2.1 (by unfold slices_Clone_byte_byte.f; rw [if_pos (by have := HAL.out; have := HK.out; have := HLN.out; omega)])).mono ?_
      rintro e w13 ⟨v13, rfl, ho, hb⟩
      refine ⟨_, rfl, ?_⟩
      obtain ⟨A13, c13, hv⟩ := Kd.R_slice ho
      subst hv
      have n_ := pk3 (Kd.R_lower ho HB.out.size) (below_step HB.out hb) (blk_below BKr.out hb)
      clear HO HB BKr ho hb
      obtain ⟨HO, HB, BKr⟩ := n_
      refine hK.out _ _ ((blk_cell BKr.out 0).trans rfl) (fun hHeld => ?_)
      clear hK K
      refine norm_ (a' := ?_) ?_ ?_
      rotate_left
      · show Act.put _ (some 62) _ = _
        simp only [ap_, sb_, s0_, s1_, i64_w, i32_w]
        rfl
      refine oq_ rfl rfl HT_.out (by kernel_rfl) (by decide) (fun K hK => ?_)
      refine goes_ Try.func56 (by kernel_rfl) rfl #[.slice A13 acc.length c13] (by rfl) rfl rfl (by (try simp only [List.map_toArray, List.map_cons, List.map_nil]); first | done | rfl) ?_
      with_reducible refine (journal_filled.calls (fun _ => True) _ acc p w _ HB.out HO.out HPP.out.1).mono ?_
      rintro e w14 ⟨v14, rfl, ho, hb, hk⟩
      refine ⟨_, rfl, ?_⟩
      obtain ⟨A14, c14, hv⟩ := Kd.R_slice ho
      subst hv
      have n_ := pk3 (Kd.R_mono ho (fun _ _ => trivial) : Kd.R _ _ _ _ (fun _ => True) _ _) hb ((hb.block j (blk_lt BK.out)).trans BK.out)
      clear HO HB BKr ho hb hk
      obtain ⟨HO, HB, BKr⟩ := n_
      refine hK.out _ _ ((blk_cell BKr.out 0).trans rfl) (fun hHeld => ?_)
      clear hK K
      refine norm_ (a' := ?_) ?_ ?_
      rotate_left
      · show Act.put _ (some 63) _ = _
        simp only [ap_, sb_, s0_, s1_, i64_w, i32_w]
        rfl
      refine oq_ rfl rfl HT_.out (by kernel_rfl) (by decide) (fun K hK => ?_)
      refine goes_ Try.func12 (by kernel_rfl) rfl #[.pointer (some ⟨g, 0, none⟩), .int .i64 fs, .slice A14 p.length c14] (by rfl) rfl rfl (by (try simp only [List.map_toArray, List.map_cons, List.map_nil]); first | done | rfl) ?_
      with_reducible refine (write_fresh S B w _ g s k J.D fs A14 c14 w.heap.size N p HJ.out.dr HB.out (Nat.le_refl _) HO.out HBB.out HGG.out HPP.out.2 (Nat.le_trans HNN.out (by decide))).mono ?_
      rintro e w15 ⟨rfl, hd, hb, hk⟩
      refine ⟨_, rfl, ?_⟩
      have n_ := pk3 (HJ.out.put_ hd hk) hb hk
      clear HO HB BKr hd hb hk
      obtain ⟨HJ2, HB, HK2⟩ := n_
      obtain ⟨v15, hv15⟩ := HJ2.out.blk
      rw [show J.half = hf from HHE.out.symm, show J.age = ag from HAE.out.symm] at hv15
      have BKr := Aside0.mk hv15
      clear hv15
      refine hK.out _ _ ((blk_cell BKr.out 0).trans rfl) (fun hHeld => ?_)
      clear hK K
      refine norm_ (a' := ?_) ?_ ?_
      rotate_left
      · show Act.put _ (some 64) _ = _
        simp only [ap_, sb_, s0_, s1_, i64_w, i32_w]
        rfl
      refine done_ (done_of HT_.out (by kernel_rfl)) ?_
      clear hHeld
      obtain ⟨hcz0, hcz1, hcz2, hcz3, hcz4, hfz0, hfz1, hfz2, hfz3, hfz4⟩ := blk_at5 BKr.out
      clear hcz1 hcz2 hcz3 hcz4 hfz0 hfz1 hfz2 hfz3 hfz4
      go_upto_region 19 with (go_at_call 14; (with_reducible refine (sync_calls S B _ g s k _ HJ2.out.dr (Nat.le_trans HBB.out HB.out.size) (fine_write HGG.out _ _).good).mono ?_); rintro e w16 ⟨⟨v16, rfl⟩, hd, hb, hk⟩; have n_ := pk3 (HJ2.out.put_ hd hk) (HB.out.trans hb) (HK2.out.then_ hk (fun _ h => .inl h)); clear HB HK2 hd hb hk BKr hcz0; obtain ⟨HJ3, HB, HK2⟩ := n_)
      have hag1 : wrap64 (ag + 1) = J.age + 1 := by have := HAG.out; have := HAE.out; have := A1.out; unfold wrap64; omega
      have HAG1 := Aside0.mk hag1
      clear hag1
      obtain ⟨v16, hv16⟩ := HJ3.out.drew.blk
      rw [show J.half = hf from HHE.out.symm, show J.age = ag from HAE.out.symm] at hv16
      have n_ := pk5 HJ3.out.drew (Below.drew HB.out) (show Kept w w16.drew S from HK2.out) (show Kd.F k48 w16.drew (fun b => ¬ S b ∧ b ≠ j) Al l.length l from Kd.F_step HL.out (fun k hk hlt => HK2.out.2 k hlt hk.1)) hv16
      clear HJ3 HB HK2 hv16 HJ2
      obtain ⟨HJA, HB, HKA, FLA, BKA⟩ := n_
      refine start_ (n := 26) (S := fun w' => w'.cell? ⟨j, 2, none⟩ = some (.int .i64 ag)) (ds := [16, 19, 22, 25]) (up (List.range 26) 26 0) (by kernel_rfl) rfl (by kernel_rfl) ((blk_cell BKA.out 2).trans rfl) (fun hHeld => ?_)
      refine with_tabW janew.tab19 janew.bits19 (fun HT_ HW_ => ?_)
      generalize w16.drew = wA at HJA HB HKA FLA BKA hHeld ⊢
      iterate 13 (first | (refine pq_ (v := ?_) (a' := ?_) rfl rfl HT_.out (by kernel_rfl) (fun _ _ _ h => h) (Or.inl ⟨by rfl, ?hy⟩) ?ha ?_; (case hy => intro w'; go_simp; with_reducible rfl); (case ha => show Act.put _ (some _) _ = _; simp only [ap_, sb_, s0_, s1_, i64_w, i32_w]; rfl)) | (refine tq_ (v := ?_) (a' := ?_) rfl rfl HT_.out HW_.out (by kernel_rfl) (fun _ _ _ h => h) (Or.inl ⟨by rfl, ?hy⟩) hHeld ?ha ?_; (case hy => intro w' s0_; go_simp; with_reducible rfl); (case ha => show Act.put _ (some _) _ = _; simp only [ap_, sb_, s0_, s1_, i64_w, i32_w]; rfl)))
      refine oq_ rfl rfl HT_.out (by kernel_rfl) (by decide) (fun K hK => ?_)
      refine goes_ Try.func53 (by kernel_rfl) rfl #[.slice Al l.length cl] (by rfl) rfl rfl (by (try simp only [List.map_toArray, List.map_cons, List.map_nil]); first | done | rfl) ?_
      with_reducible refine (copied_calls Al cl l _ _ FLA.out HCL.out (Nat.lt_trans HLN.out (by decide)) HSZ.out).mono ?_
      rintro e w17 ⟨v17, rfl, ho, hb⟩
      refine ⟨_, rfl, ?_⟩
      obtain ⟨A17, c17, hv⟩ := Kd.N_slice ho
      subst hv
      have n_ := pk7 ho hb (blk_below BKA.out hb) (show ∀ b, b ≠ j → w17.heap[b]? = w17.heap[b]? from fun _ _ => rfl) (HB.out.trans (hb.mono (Nat.le_trans HBB.out HB.out.size))) (show w17.heap.size = w17.heap.size from rfl) (show B ≤ j by obtain ⟨_, _, _, _, _, h5, _⟩ := HJA.out; exact h5)
      clear ho hb BKA
      obtain ⟨HNA, HBC, BKj, HK1, HBj, HSZ1, HBJ⟩ := n_
      refine hK.out _ _ ((blk_cell BKj.out 2).trans rfl) (fun hHeld => ?_)
      clear hK K
      refine norm_ (a' := ?_) ?_ ?_
      rotate_left
      · show Act.put _ (some 83) _ = _
        simp only [ap_, sb_, s0_, s1_, i64_w, i32_w]
        rfl
      iterate 2 (refine pq_ (v := ?_) (a' := ?_) rfl rfl HT_.out (by kernel_rfl) (fun _ _ _ h => h) (Or.inl ⟨by rfl, ?hy⟩) ?ha ?_; (case hy => intro w'; go_simp; with_reducible rfl); (case ha => show Act.put _ (some _) _ = _; simp only [ap_, sb_, s0_, s1_, i64_w, i32_w]; rfl))
      refine lq_ rfl rfl HT_.out (by kernel_rfl) (by decide) (fun K hK => ?_)
      have hs_ : w17.cell? ⟨j, 1, none⟩ = some (.int .i64 hf) := (blk_cell BKj.out 1).trans rfl
      have hfs_ := blk_frozen BKj.out 1
      refine skip_ (w1 := ?_) (by rfl) rfl ?_ ?_
      rotate_left
      · go_simp
        rfl
      have n_ := pk4 (show (w17.setCell ⟨j, 1, none⟩ (.int .i64 ot)).heap[j]? = some (.cells #[.pointer (some ⟨g, 0, none⟩), .int .i64 ot, .int .i64 ag, v16, .int .i64 J.e] 54 (0, 0)) from blk_put (cs := #[.pointer (some ⟨g, 0, none⟩), .int .i64 hf, .int .i64 ag, v16, .int .i64 J.e]) BKj.out 1 (.int .i64 ot) rfl) (show ∀ b, b ≠ j → (w17.setCell ⟨j, 1, none⟩ (.int .i64 ot)).heap[b]? = w17.heap[b]? from fun b hb => (Below.heap_setCell _ ⟨j, 1, none⟩ _ b hb).trans (HK1.out b hb)) (HBj.out.setCell (p := ⟨j, 1, none⟩) HBJ.out (.int .i64 ot)) (show (w17.setCell ⟨j, 1, none⟩ (.int .i64 ot)).heap.size = w17.heap.size by simp [HSZ1.out])
      clear BKj HK1 HBj HSZ1 hs_ hfs_
      obtain ⟨BKj, HK1, HBj, HSZ1⟩ := n_
      generalize (w17.setCell ⟨j, 1, none⟩ (.int .i64 ot)) = w18 at BKj HK1 HBj HSZ1 ⊢
      refine hK.out _ _ ?_
      clear hK K
      iterate 2 (refine pq_ (v := ?_) (a' := ?_) rfl rfl HT_.out (by kernel_rfl) (fun _ _ _ h => h) (Or.inl ⟨by rfl, ?hy⟩) ?ha ?_; (case hy => intro w'; go_simp; with_reducible rfl); (case ha => show Act.put _ (some _) _ = _; simp only [ap_, sb_, s0_, s1_, i64_w, i32_w]; rfl))
      refine lq_ rfl rfl HT_.out (by kernel_rfl) (by decide) (fun K hK => ?_)
      have hs_ : w18.cell? ⟨j, 2, none⟩ = some (.int .i64 ag) := (blk_cell BKj.out 2).trans rfl
      have hfs_ := blk_frozen BKj.out 2
      refine skip_ (w1 := ?_) (by rfl) rfl ?_ ?_
      rotate_left
      · go_simp
        rfl
      have n_ := pk4 (show (w18.setCell ⟨j, 2, none⟩ (.int .i64 (wrap64 (ag + 1)))).heap[j]? = some (.cells #[.pointer (some ⟨g, 0, none⟩), .int .i64 ot, .int .i64 (wrap64 (ag + 1)), v16, .int .i64 J.e] 54 (0, 0)) from blk_put (cs := #[.pointer (some ⟨g, 0, none⟩), .int .i64 ot, .int .i64 ag, v16, .int .i64 J.e]) BKj.out 2 (.int .i64 (wrap64 (ag + 1))) rfl) (show ∀ b, b ≠ j → (w18.setCell ⟨j, 2, none⟩ (.int .i64 (wrap64 (ag + 1)))).heap[b]? = w17.heap[b]? from fun b hb => (Below.heap_setCell _ ⟨j, 2, none⟩ _ b hb).trans (HK1.out b hb)) (HBj.out.setCell (p := ⟨j, 2, none⟩) HBJ.out (.int .i64 (wrap64 (ag + 1)))) (show (w18.setCell ⟨j, 2, none⟩ (.int .i64 (wrap64 (ag + 1)))).heap.size = w17.heap.size by simp [HSZ1.out])
      clear BKj HK1 HBj HSZ1 hs_ hfs_
      obtain ⟨BKj, HK1, HBj, HSZ1⟩ := n_
      generalize (w18.setCell ⟨j, 2, none⟩ (.int .i64 (wrap64 (ag + 1)))) = w19 at BKj HK1 HBj HSZ1 ⊢
      refine hK.out _ _ ?_
      clear hK K
      iterate 2 (refine pq_ (v := ?_) (a' := ?_) rfl rfl HT_.out (by kernel_rfl) (fun _ _ _ h => h) (Or.inl ⟨by rfl, ?hy⟩) ?ha ?_; (case hy => intro w'; go_simp; with_reducible rfl); (case ha => show Act.put _ (some _) _ = _; simp only [ap_, sb_, s0_, s1_, i64_w, i32_w]; rfl))
      refine lq_ rfl rfl HT_.out (by kernel_rfl) (by decide) (fun K hK => ?_)
      have hs_ : w19.cell? ⟨j, 4, none⟩ = some (.int .i64 J.e) := (blk_cell BKj.out 4).trans rfl
      have hfs_ := blk_frozen BKj.out 4
      refine skip_ (w1 := ?_) (by rfl) rfl ?_ ?_
      rotate_left
      · go_simp
        rfl
      have n_ := pk4 (show (w19.setCell ⟨j, 4, none⟩ (.int .i64 (acc.length : Int))).heap[j]? = some (.cells #[.pointer (some ⟨g, 0, none⟩), .int .i64 ot, .int .i64 (wrap64 (ag + 1)), v16, .int .i64 (acc.length : Int)] 54 (0, 0)) from blk_put (cs := #[.pointer (some ⟨g, 0, none⟩), .int .i64 ot, .int .i64 (wrap64 (ag + 1)), v16, .int .i64 J.e]) BKj.out 4 (.int .i64 (acc.length : Int)) rfl) (show ∀ b, b ≠ j → (w19.setCell ⟨j, 4, none⟩ (.int .i64 (acc.length : Int))).heap[b]? = w17.heap[b]? from fun b hb => (Below.heap_setCell _ ⟨j, 4, none⟩ _ b hb).trans (HK1.out b hb)) (HBj.out.setCell (p := ⟨j, 4, none⟩) HBJ.out (.int .i64 (acc.length : Int))) (show (w19.setCell ⟨j, 4, none⟩ (.int .i64 (acc.length : Int))).heap.size = w17.heap.size by simp [HSZ1.out])
      clear BKj HK1 HBj HSZ1 hs_ hfs_
      obtain ⟨BKj, HK1, HBj, HSZ1⟩ := n_
      generalize (w19.setCell ⟨j, 4, none⟩ (.int .i64 (acc.length : Int))) = w20 at BKj HK1 HBj HSZ1 ⊢
      refine hK.out _ _ ?_
      clear hK K
      iterate 2 (refine pq_ (v := ?_) (a' := ?_) rfl rfl HT_.out (by kernel_rfl) (fun _ _ _ h => h) (Or.inl ⟨by rfl, ?hy⟩) ?ha ?_; (case hy => intro w'; go_simp; with_reducible rfl); (case ha => show Act.put _ (some _) _ = _; simp only [ap_, sb_, s0_, s1_, i64_w, i32_w]; rfl))
      refine lq_ rfl rfl HT_.out (by kernel_rfl) (by decide) (fun K hK => ?_)
      have hs_ : w20.cell? ⟨j, 3, none⟩ = some (v16) := (blk_cell BKj.out 3).trans rfl
      have hfs_ := blk_frozen BKj.out 3
      refine skip_ (w1 := ?_) (by rfl) rfl ?_ ?_
      rotate_left
      · go_simp
        rfl
      have n_ := pk4 (show (w20.setCell ⟨j, 3, none⟩ (.slice A17 l.length c17)).heap[j]? = some (.cells #[.pointer (some ⟨g, 0, none⟩), .int .i64 ot, .int .i64 (wrap64 (ag + 1)), .slice A17 l.length c17, .int .i64 (acc.length : Int)] 54 (0, 0)) from blk_put (cs := #[.pointer (some ⟨g, 0, none⟩), .int .i64 ot, .int .i64 (wrap64 (ag + 1)), v16, .int .i64 (acc.length : Int)]) BKj.out 3 (.slice A17 l.length c17) rfl) (show ∀ b, b ≠ j → (w20.setCell ⟨j, 3, none⟩ (.slice A17 l.length c17)).heap[b]? = w17.heap[b]? from fun b hb => (Below.heap_setCell _ ⟨j, 3, none⟩ _ b hb).trans (HK1.out b hb)) (HBj.out.setCell (p := ⟨j, 3, none⟩) HBJ.out (.slice A17 l.length c17)) (show (w20.setCell ⟨j, 3, none⟩ (.slice A17 l.length c17)).heap.size = w17.heap.size by simp [HSZ1.out])
      clear BKj HK1 HBj HSZ1 hs_ hfs_
      obtain ⟨BKj, HK1, HBj, HSZ1⟩ := n_
      generalize (w20.setCell ⟨j, 3, none⟩ (.slice A17 l.length c17)) = w21 at BKj HK1 HBj HSZ1 ⊢
      refine hK.out _ _ ?_
      clear hK K
      refine done_ (done_of HT_.out (by kernel_rfl)) ?_
      have hren := IsJn.renew HJA.out (Nat.le_trans HBB.out HB.out.size) HNA.out HBC.out BKj.out HK1.out HSZ1.out
      rw [HAG1.out] at hren
      have HJB := Aside0.mk hren.1
      have HKB := Aside0.mk (show Kept w w21 T from (show Kept w wA T from ⟨HKA.out.1, fun i hi hT => HKA.out.2 i hi (fun hS => hT (HTS.out i hS))⟩).then_ hren.2 (fun _ h => .inl h))
      have HF2 := Aside0.mk (fine_sync (fine_write HGG.out fs p))
      clear hren HJA HKA FLA HNA HBC HK1 HSZ1
      go_wp2_with (go_at_call 52; (with_reducible refine (IsJn.lead kk b2 p2 e2 HJB.out (Nat.le_trans HBB.out HBj.out.size) HF2.out (by have := HNN.out; have := HPP.out.2; omega) HOO.out HPB.out.1 HPB.out.2.1 HPB.out.2.2).mono ?_); rintro e w22 ⟨⟨v22, rfl⟩, hj, hb, hk⟩; have n_ := pk3 hj (HBj.out.trans hb) hk; clear HBj hj hb hk; obtain ⟨HJC, HBj, HKC⟩ := n_)
      go_ret
      have e1 : fs = (1 - J.half) * J.secs + 1 := by rw [HFS.out, HOT2.out]
      rw [anewJ_ok (fun e => A1.out (HAE.out.trans e)) ER.out (by have := R1.out; have := HRM.out; omega)]
      have hjc := HJC.out
      rw [e1, HOT2.out] at hjc
      first | exact ⟨_, rfl, hjc, fun _ h => h.1, HBj.out, HKB.out.then_ HKC.out (fun b h => .inl (HTS.out b h.1))⟩ | exact ⟨rfl, _, hjc, fun _ h => h.1, HBj.out, HKB.out.then_ HKC.out (fun b h => .inl (HTS.out b h.1))⟩
    have h0 : 0 ≤ x23 := HK.out.1
    obtain ⟨ad, B0, d0, B1, d1, eA, hx0, hx1, q0, g0, q1_, g1⟩ := at_FD (Kd.F_below HL.out HB.out) x23 h0 h1
    subst eA
    obtain ⟨x, hx⟩ : ∃ x, x = rd_T48 l x23 := ⟨_, rfl⟩
    rw [← hx] at hx0 hx1 q0 g0 q1_ g1
    have ed : l.drop x23.toNat = x :: l.drop (x23 + 1).toNat := by
      rw [show (x23 + 1).toNat = x23.toNat + 1 by omega, List.drop_eq_getElem_cons (by omega)]
      congr 1
      rw [hx]
      unfold rd_T48
      rw [List.getD_eq_getElem?_getD, List.getElem?_eq_getElem (by omega)]
      rfl
    have hrw := HRW.out
    rw [ed, anewRow] at hrw
    obtain ⟨⟨b, e1⟩, hfr, hrest⟩ := Option.bind_eq_some_iff.1 hrw
    have hxm : x ∈ l := by rw [hx]; exact getD_mem_ _ _ _ (by omega)
    have HBLN := Aside0.mk (HFL.out x hxm b e1 hfr)
    have hag1 : wrap64 (ag + 1) = J.age + 1 := by have := HAG.out; have := HAE.out; have := A1.out; unfold wrap64; omega
    rw [← hag1] at hfr
    have HFR := Aside0.mk hfr
    have HREST := Aside0.mk hrest
    have HI2 := Aside0.mk (show 0 ≤ x23 ∧ x23 < (l.length : Int) from ⟨h0, h1⟩)
    have c1 : decide (x23 < (l.length : Int)) = true := decide_eq_true h1
    obtain ⟨wz, hwz⟩ : ∃ z, z = wr.heap.size := ⟨_, rfl⟩
    have G0 : Aside0 (Kd.F (Kd.int .i64) wr (fun k => k < wz) B0 x.f0.length x.f0) := ⟨Kd.F_mono (Kd.F_bound g0) (fun k hk => by rw [hwz]; exact hk.2)⟩
    have G1 : Aside0 (Kd.F Kd.string wr (fun k => k < wz) B1 x.f1.length x.f1) := ⟨Kd.F_mono (Kd.F_bound g1) (fun k hk => by rw [hwz]; exact hk.2)⟩
    have HO2 : Aside0 (Kd.R (Kd.int .u8) 5 wr w.heap.size (fun k => k < wz) (.slice A5 acc.length c5) acc) := ⟨Kd.R_mono (Kd.R_bound HO.out) (fun k hk => by rw [hwz]; exact hk.2.2.1)⟩
    have Q0 := Aside0.mk q0
    have Q1 := Aside0.mk q1_
    have HZ := Aside0.mk (Nat.le_of_eq hwz)
    have BKr : Aside0 (wr.heap[j]? = _) := ⟨(HB.out.block j (blk_lt BK.out)).trans BK.out⟩
    have NJ : Aside0 (j < wz) := ⟨by rw [hwz]; exact blk_lt BKr.out⟩
    replace h0 := eq_true h0
    replace h1 := eq_true h1
    clear hx ed hrw hfr hrest hxm hag1 hwz g0 g1 q0 q1_ HO HRW
    go_upto_region 9 with ((with_reducible refine gate_dst (N := 7) rfl ?_); refine box_ev 7 #[.slice none 0 0, .slice none 0 0] 48 ?_; intro gs hg w7 hbox hb; have n_ := pk7 (Kd.R_below HO2.out hb) (Kd.F_below G0.out hb) (Kd.F_below G1.out hb) (below_step HB.out hb) hbox (show wz ≤ gs ∧ w.heap.size ≤ gs from ⟨by have := HZ.out; omega, ge_ hg HB.out⟩) (blk_below BKr.out hb); clear HO2 G0 G1 HB hbox hg hb BKr; obtain ⟨HO2, G0, G1, HB, BKS, GSZ, BKr⟩ := n_; obtain ⟨hcs0, hcs1, hfs0, hfs1⟩ := blk_at2 BKS.out)
    have HNG : Aside0 (∀ k, k < wz → k ≠ gs) := ⟨fun k hk e => by have := GSZ.out; omega⟩
    have n_ := pk6 (R_set_ (R_set_ HO2.out ⟨gs, 0, none⟩ (.slice B0 x.f0.length d0) HNG.out) ⟨gs, 1, none⟩ (.slice B1 x.f1.length d1) HNG.out) (F_put2 G0.out HNG.out (.slice B0 x.f0.length d0) (.slice B1 x.f1.length d1)) (F_put2 G1.out HNG.out (.slice B0 x.f0.length d0) (.slice B1 x.f1.length d1)) (below_put2 HB.out GSZ.out.2 (.slice B0 x.f0.length d0) (.slice B1 x.f1.length d1)) (put2_ BKS.out (.slice B0 x.f0.length d0) (.slice B1 x.f1.length d1)) (blk_far (p := ⟨gs, 1, none⟩) (blk_far (p := ⟨gs, 0, none⟩) BKr.out (HNG.out j NJ.out) (.slice B0 x.f0.length d0)) (HNG.out j NJ.out) (.slice B1 x.f1.length d1))
    clear HO2 G0 G1 HB BKS BKr hcs0 hcs1 hfs0 hfs1 hx0 hx1
    obtain ⟨HO2, G0, G1, HB, BKS, BKr⟩ := n_
    generalize ((w7.setCell ⟨gs, 0, none⟩ (.slice B0 x.f0.length d0)).setCell ⟨gs, 1, none⟩ (.slice B1 x.f1.length d1)) = w8 at HO2 G0 G1 HB BKS BKr ⊢
    have n_ := pk6 (Kd.R_drew HO2.out) (Kd.F_below G0.out (below_drew (Below.refl _ _))) (Kd.F_below G1.out (below_drew (Below.refl _ _))) (below_drew1 HB.out) (blk_drew BKS.out) (blk_drew BKr.out)
    clear HO2 G0 G1 HB BKS BKr
    obtain ⟨HO2, G0, G1, HB, BKS, BKr⟩ := n_
    refine start_ (n := 12) (S := fun w' => w'.cell? ⟨gs, 0, none⟩ = some (.slice B0 x.f0.length d0) ∧ w'.cell? ⟨gs, 1, none⟩ = some (.slice B1 x.f1.length d1) ∧ w'.cell? ⟨j, 2, none⟩ = some (.int .i64 ag)) (ds := []) (up (List.range 12) 12 0) (by kernel_rfl) rfl (by kernel_rfl) ⟨(blk_cell BKS.out 0).trans rfl, (blk_cell BKS.out 1).trans rfl, (blk_cell BKr.out 2).trans rfl⟩ (fun hHeld => ?_)
    refine with_tabW janew.tab9 janew.bits9 (fun HT_ HW_ => ?_)
    generalize w8.drew = w9 at HO2 G0 G1 HB BKS BKr hHeld ⊢
    iterate 6 (first | (refine pq_ (v := ?_) (a' := ?_) rfl rfl HT_.out (by kernel_rfl) (fun _ _ _ h => h) (Or.inl ⟨by rfl, ?hy⟩) ?ha ?_; (case hy => intro w'; go_simp; with_reducible rfl); (case ha => show Act.put _ (some _) _ = _; simp only [ap_, sb_, s0_, s1_, i64_w, i32_w]; rfl)) | (refine tq_ (v := ?_) (a' := ?_) rfl rfl HT_.out HW_.out (by kernel_rfl) (fun _ _ _ h => h) (Or.inl ⟨by rfl, ?hy⟩) hHeld ?ha ?_; (case hy => rintro w' ⟨s0_, s1_, s2_⟩; go_simp; with_reducible rfl); (case ha => show Act.put _ (some _) _ = _; simp only [ap_, sb_, s0_, s1_, i64_w, i32_w]; rfl)))
    refine oq_ rfl rfl HT_.out (by kernel_rfl) (by decide) (fun K hK => ?_)
    refine goes_ Try.func54 (by kernel_rfl) rfl #[.agg #[.slice B0 x.f0.length d0, .slice B1 x.f1.length d1], .int .i64 (wrap64 (ag + 1))] (by rfl) rfl rfl (by (try simp only [List.map_toArray, List.map_cons, List.map_nil]); first | done | rfl) ?_
    with_reducible refine (journal_framed.calls kk B0 d0 x.f0 B1 d1 x.f1 (wrap64 (ag + 1)) b e1 _ (Kd.F_now G0.out) Q0.out (Kd.F_now G1.out) Q1.out HFR.out).mono ?_
    rintro e w10 ⟨v10, rfl, ho, hb⟩
    refine ⟨_, rfl, ?_⟩
    obtain ⟨A10, c10, hv⟩ := Kd.R_slice ho
    subst hv
    have n_ := pk5 (Kd.R_below HO2.out hb) (below_step HB.out hb) (blk_below BKS.out hb) (blk_below BKr.out hb) ho
    clear HO2 G0 G1 HB BKS BKr ho hb
    obtain ⟨HO2, HB, BKS, BKr, HBB10⟩ := n_
    refine hK.out _ _ ⟨(blk_cell BKS.out 0).trans rfl, (blk_cell BKS.out 1).trans rfl, (blk_cell BKr.out 2).trans rfl⟩ (fun hHeld => ?_)
    clear hK K
    refine norm_ (a' := ?_) ?_ ?_
    rotate_left
    · show Act.put _ (some 34) _ = _
      simp only [ap_, sb_, s0_, s1_, i64_w, i32_w]
      rfl
    iterate 5 (refine pq_ (v := ?_) (a' := ?_) rfl rfl HT_.out (by kernel_rfl) (fun _ _ _ h => h) (Or.inl ⟨by rfl, ?hy⟩) ?ha ?_; (case hy => intro w'; go_simp; with_reducible rfl); (case ha => show Act.put _ (some _) _ = _; simp only [ap_, sb_, s0_, s1_, i64_w, i32_w]; rfl))
    refine done_ (done_of HT_.out (by kernel_rfl)) ?_
    clear hHeld
    by_cases z1 : e1 = 0
    rotate_left
    · have q2 : (e1 != 0) = true := by simpa using z1
      have Z1 := Aside0.mk z1
      clear z1
      go_wp2
      go_ret
      have hre := HREST.out
      rw [if_neg (show ¬ (b, e1).2 = 0 from Z1.out)] at hre
      injection hre with hre
      injection hre with r1 r2
      have r2' : er = e1 := r2.symm
      rw [anewJ_er (fun e => A1.out (HAE.out.trans e)) (by rw [r2']; exact Z1.out), r2']
      exact ⟨rfl, S, HJ.out.below HB.out, fun _ h => h, HB.out.mono HBB.out, Kept.of_below HB.out T⟩
    have q2 : (e1 != 0) = false := by simpa using z1
    have HRN : Aside0 (anewRow kk (J.age + 1) (l.drop (x23 + 1).toNat) (acc ++ b) = some (row, er)) := ⟨by have h_ := HREST.out; rw [if_pos (show (b, e1).2 = 0 from z1)] at h_; exact h_⟩
    clear z1 HREST HFR
    go_wp2_with ((with_reducible refine gate_builtin (b := .append) (xs := #[.tmp 40, .tmp 41]) rfl ?_); at_builtin; refine Kd.R_append_rows (Kd.int .u8) (w0 := w) w.heap.size rfl (.tmp 40) (.tmp 41) 30 5 (.int .u8 0) 1 rfl Try.underlying30 info5 rfl (by decide) (by omega) (.slice A5 acc.length c5) acc b _ _ _ (fun _ => True) (fun _ => False) rfl rfl ?aO ?aR (fun _ _ h => h) (fun _ h => h.elim) ?aF ?aB ?aS ?aL ?_; (case aR => exact (Kd.R_reads' HBB10.out).2.2); (case aF => exact (fun _ _ => trivial)); (case aB => exact HB.out); (case aO => exact Kd.R_mono HO2.out (fun _ _ => trivial)); (case aS => exact HB.out.size); (case aL => have := HAL.out; have := HI2.out; have := HLN.out; have := HBLN.out; omega); intro v42 w42 ho hb hg hat; have n_ := pk2 ho hb; clear HO2 HB HBB10 BKS BKr ho hb hg hat; obtain ⟨HO3, HB⟩ := n_)
    cases gk with
    | zero => exact absurd HK.out.2.2 (by have := HI2.out; omega)
    | succ k1 =>
    go_roundg k1
    case measure => omega
    case rel => exact ⟨x23 + 1, acc ++ b, (by rw [show wrap64 (x23 + 1) = x23 + 1 from by unfold wrap64; have := HI2.out; have := HLN.out; omega]), ⟨by have := HI2.out; have := HK.out; omega⟩, HO3, HRN, ⟨by rw [List.length_append]; have := HAL.out; have := HBLN.out; omega⟩, HB⟩
end Go.Proofs.Ytfmdllbkfpbdcaa.G
end
