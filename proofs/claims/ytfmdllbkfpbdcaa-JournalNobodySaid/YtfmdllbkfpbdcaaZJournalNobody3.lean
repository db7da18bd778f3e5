/- More lines for the row. -/
import Derived.Test.YtfmdllbkfpbdcaaZJournalNobody2
import Derived.Test.YtfmdllbkfpbdcaaProg
set_option linter.unusedVariables false
set_option linter.unusedSimpArgs false
section
namespace Go.Proofs.Ytfmdllbkfpbdcaa.G
open Go.RowKit Go.Proofs.YtfmdllbkfpbdcaaW.PrintWords Go.Proofs.YtfmdllbkfpbdcaaW.PrintLast Go.Proofs.YtfmdllbkfpbdcaaW.PrintMore
attribute [local go_sem] max2_int min2_int max_two min_two max_three min_three max_four min_four
def errW : Option Int → Value
  | none => .nilIface
  | some c => .iface 0 (.int .i64 c)
theorem errW_none : errW none = .nilIface := rfl
theorem errW_some (c : Int) : errW (some c) = .iface 0 (.int .i64 c) := rfl
theorem info3 : (Try.prog.info? 3).map (fun i => (i.zero, i.size, i.bytes)) = some (some (.int .i64 0), 1, 8) := by kernel_rfl
theorem info5 : (Try.prog.info? 5).map (fun i => (i.zero, i.size, i.bytes)) = some (some (.int .u8 0), 1, 1) := by kernel_rfl
theorem info9 : (Try.prog.info? 9).map (fun i => (i.zero, i.size, i.bytes)) = some (some (.string ⟨#[]⟩), 1, 16) := by kernel_rfl
theorem info48 : (Try.prog.info? 48).map (fun i => (i.zero, i.size, i.bytes)) = some (some (.agg #[(.slice none 0 0), (.slice none 0 0)]), 2, 48) := by kernel_rfl
structure S100 where
  f0 : Int
  f1 : (List Int)
def z100 : S100 := ⟨(0 : Int), ([] : List Int)⟩
def k100 : Kd S100 := Kd.iso (Kd.pair (Kd.int .i64) (Kd.slice 5 (Kd.int .u8))) (fun x : S100 => (x.f0, x.f1))
theorem k100_open {w : World} {x : S100} {cs : List Value} (h : k100.K w x cs) : ∃ A1 c1, cs = [.int .i64 x.f0, .slice A1 x.f1.length c1] ∧ x.f1.length ≤ c1 ∧ (Kd.int .u8).C w A1 x.f1.length x.f1 := by
  obtain ⟨_, _, rfl, rfl, ⟨A1, c1, rfl, l1, g1⟩⟩ := h
  exact ⟨A1, c1, rfl, l1, g1⟩
theorem k100_mkM (w : World) (base : Nat) (ok : Nat → Prop) (x : S100) {v1 : Value} (g1 : (Kd.int .u8).R 5 w base ok v1 x.f1) : k100.M w base ok x [.int .i64 x.f0, v1] := ⟨[.int .i64 x.f0], [v1], rfl, rfl, ⟨v1, rfl, g1⟩⟩
def rd_T100 (xs : List S100) (i : Int) : S100 := xs.getD i.toNat z100
theorem at_T100 {w : World} {A : Option Addr} {n : Nat} {xs : List S100} (h : Kd.C k100 w A n xs) (i : Int) (h0 : 0 ≤ i) (h1 : i < n) : ∃ ad A1 c1, A = some ad ∧ w.cell? (ad.add (i.toNat * 2)) = some (.int .i64 (rd_T100 xs i).f0) ∧ w.cell? ⟨(ad.add (i.toNat * 2)).block, (ad.add (i.toNat * 2)).off + 1, none⟩ = some (.slice A1 (rd_T100 xs i).f1.length c1) ∧ (rd_T100 xs i).f1.length ≤ c1 ∧ (Kd.int .u8).C w A1 (rd_T100 xs i).f1.length (rd_T100 xs i).f1 := by
  obtain ⟨ad, c, e, _, hK, hc0⟩ := Kd.C_get h z100 i h0 h1
  have hc : ∀ j u, c[j]? = some u → w.cell? (ad.add (i.toNat * 2 + j)) = some u := hc0
  obtain ⟨A1, c1, rfl, l1, g1⟩ := k100_open hK
  exact ⟨ad, A1, c1, e, hc 0 _ rfl, by rw [← add_field _ _ 1 (by omega)]; exact hc 1 _ rfl, l1, g1⟩
structure S22 where
  f0 : Int
  f1 : Int
structure S40 where
  f0 : Int
  f1 : Int
  f2 : Int
  f3 : (List Int)
  f4 : (List Bool)
structure S48 where
  f0 : (List Int)
  f1 : (List ByteArray)
def z48 : S48 := ⟨([] : List Int), ([] : List ByteArray)⟩
def k48 : Kd S48 := Kd.iso (Kd.pair (Kd.slice 3 (Kd.int .i64)) (Kd.slice 9 Kd.string)) (fun x : S48 => (x.f0, x.f1))
theorem k48_open {w : World} {x : S48} {cs : List Value} (h : k48.K w x cs) : ∃ A0 c0 A1 c1, cs = [.slice A0 x.f0.length c0, .slice A1 x.f1.length c1] ∧ x.f0.length ≤ c0 ∧ (Kd.int .i64).C w A0 x.f0.length x.f0 ∧ x.f1.length ≤ c1 ∧ Kd.string.C w A1 x.f1.length x.f1 := by
  obtain ⟨_, _, rfl, ⟨A0, c0, rfl, l0, g0⟩, ⟨A1, c1, rfl, l1, g1⟩⟩ := h
  exact ⟨A0, c0, A1, c1, rfl, l0, g0, l1, g1⟩
theorem k48_mk (w : World) (x : S48) {A0 : Option Addr} {c0 : Nat} (l0 : x.f0.length ≤ c0) (g0 : (Kd.int .i64).C w A0 x.f0.length x.f0) {A1 : Option Addr} {c1 : Nat} (l1 : x.f1.length ≤ c1) (g1 : Kd.string.C w A1 x.f1.length x.f1) : k48.K w x [.slice A0 x.f0.length c0, .slice A1 x.f1.length c1] := ⟨[.slice A0 x.f0.length c0], [.slice A1 x.f1.length c1], rfl, ⟨A0, c0, rfl, l0, g0⟩, ⟨A1, c1, rfl, l1, g1⟩⟩
theorem k48_openF {W : World} {ok : Nat → Prop} {x : S48} {cs : List Value} (h : Kd.FK k48 W ok x cs) : ∃ A0 c0 A1 c1, cs = [.slice A0 x.f0.length c0, .slice A1 x.f1.length c1] ∧ x.f0.length ≤ c0 ∧ Kd.F (Kd.int .i64) W ok A0 x.f0.length x.f0 ∧ x.f1.length ≤ c1 ∧ Kd.F Kd.string W ok A1 x.f1.length x.f1 := by
  obtain ⟨A0, c0, A1, c1, rfl, l0, _, l1, _⟩ := k48_open (Kd.FK_now h)
  exact ⟨A0, c0, A1, c1, rfl, l0, (fun W' hW => by obtain ⟨A0_, c0_, A1_, c1_, he, l0_, g0_, l1_, g1_⟩ := k48_open (h W' hW); injection (Option.some.inj (show some (Value.slice A0 x.f0.length c0) = some (Value.slice A0_ x.f0.length c0_) from congrArg (fun l => l[0]?) he)) with ha_ _ _; rw [ha_]; exact g0_), l1, (fun W' hW => by obtain ⟨A0_, c0_, A1_, c1_, he, l0_, g0_, l1_, g1_⟩ := k48_open (h W' hW); injection (Option.some.inj (show some (Value.slice A1 x.f1.length c1) = some (Value.slice A1_ x.f1.length c1_) from congrArg (fun l => l[1]?) he)) with ha_ _ _; rw [ha_]; exact g1_)⟩
theorem k48_mkF (W : World) (ok : Nat → Prop) (x : S48) {A0 : Option Addr} {c0 : Nat} (l0 : x.f0.length ≤ c0) (g0 : Kd.F (Kd.int .i64) W ok A0 x.f0.length x.f0) {A1 : Option Addr} {c1 : Nat} (l1 : x.f1.length ≤ c1) (g1 : Kd.F Kd.string W ok A1 x.f1.length x.f1) : Kd.FK k48 W ok x [.slice A0 x.f0.length c0, .slice A1 x.f1.length c1] := fun W2 hW => k48_mk W2 x l0 (g0 W2 hW) l1 (g1 W2 hW)
def rd_T48 (xs : List S48) (i : Int) : S48 := xs.getD i.toNat z48
structure S51 where
  f0 : Int
  f1 : S48
  f2 : (List S48)
  f3 : S40
end Go.Proofs.Ytfmdllbkfpbdcaa.G
end
section
namespace Go.Proofs.YtfmdllbkfpbdcaaX
open Go Go.RowKit Go.Proofs.YtfmdllbkfpbdcaaW.PrintWords Go.Proofs.YtfmdllbkfpbdcaaW.PrintLast Go.Proofs.YtfmdllbkfpbdcaaW.PrintMore
theorem bindA {α β : Type} {o : Option α} {f : α → Option β} {r : β} (H : o.bind f = some r) : ∃ t, Aside0 (o = some t) ∧ f t = some r := by
  obtain ⟨t, h1, h2⟩ := Option.bind_eq_some_iff.mp H
  exact ⟨t, Aside0.mk h1, h2⟩
theorem dbool {α : Type} {b : Bool} {x y r : α} (H : (if b = true then x else y) = r) : (b = true ∧ x = r) ∨ (b = false ∧ y = r) := by
  cases b
  · exact .inr ⟨rfl, by rwa [if_neg (by decide)] at H⟩
  · exact .inl ⟨rfl, by rwa [if_pos rfl] at H⟩
theorem dle {α : Type} {p : Prop} [i : Decidable p] {x y r : α} (H : (if p then x else y) = r) : (decide p = true ∧ x = r) ∨ (decide p = false ∧ y = r) := by
  by_cases h : p
  · exact .inl ⟨decide_eq_true h, by rwa [if_pos h] at H⟩
  · exact .inr ⟨decide_eq_false h, by rwa [if_neg h] at H⟩
theorem dgt {α : Type} {a b : Int} [i : Decidable (a > b)] {x y r : α} (H : (if a > b then x else y) = r) : (decide (b < a) = true ∧ x = r) ∨ (decide (b < a) = false ∧ y = r) := by
  by_cases h : a > b
  · exact .inl ⟨decide_eq_true h, by rwa [if_pos h] at H⟩
  · exact .inr ⟨decide_eq_false h, by rwa [if_neg h] at H⟩
theorem deqn {α β : Type} [BEq β] [LawfulBEq β] {a b : β} [i : Decidable (a = b)] {x y r : α} (H : (if a = b then x else y) = r) : ((a == b) = true ∧ (a != b) = false ∧ x = r) ∨ ((a == b) = false ∧ (a != b) = true ∧ ¬ a = b ∧ y = r) := by
  by_cases h : a = b
  · exact .inl ⟨beq_iff_eq.mpr h, bne_eq_false_iff_eq.mpr h, by rwa [if_pos h] at H⟩
  · exact .inr ⟨beq_eq_false_iff_ne.mpr h, bne_iff_ne.mpr h, h, by rwa [if_neg h] at H⟩
theorem blk_at1 {W : World} {g T : Nat} {v0 : Value} (h : W.heap[g]? = some (.cells #[v0] T (0, 0))) : W.cell? ⟨g, 0, none⟩ = some v0 ∧ W.frozen? ⟨g, 0, none⟩ = false := ⟨(blk_cell h 0).trans rfl, blk_frozen h 0⟩
theorem blk_at2 {W : World} {g T : Nat} {v0 v1 : Value} (h : W.heap[g]? = some (.cells #[v0, v1] T (0, 0))) : W.cell? ⟨g, 0, none⟩ = some v0 ∧ W.cell? ⟨g, 1, none⟩ = some v1 ∧ W.frozen? ⟨g, 0, none⟩ = false ∧ W.frozen? ⟨g, 1, none⟩ = false := ⟨(blk_cell h 0).trans rfl, (blk_cell h 1).trans rfl, blk_frozen h 0, blk_frozen h 1⟩
theorem blk_at5 {W : World} {g T : Nat} {v0 v1 v2 v3 v4 : Value} (h : W.heap[g]? = some (.cells #[v0, v1, v2, v3, v4] T (0, 0))) : W.cell? ⟨g, 0, none⟩ = some v0 ∧ W.cell? ⟨g, 1, none⟩ = some v1 ∧ W.cell? ⟨g, 2, none⟩ = some v2 ∧ W.cell? ⟨g, 3, none⟩ = some v3 ∧ W.cell? ⟨g, 4, none⟩ = some v4 ∧ W.frozen? ⟨g, 0, none⟩ = false ∧ W.frozen? ⟨g, 1, none⟩ = false ∧ W.frozen? ⟨g, 2, none⟩ = false ∧ W.frozen? ⟨g, 3, none⟩ = false ∧ W.frozen? ⟨g, 4, none⟩ = false := ⟨(blk_cell h 0).trans rfl, (blk_cell h 1).trans rfl, (blk_cell h 2).trans rfl, (blk_cell h 3).trans rfl, (blk_cell h 4).trans rfl, blk_frozen h 0, blk_frozen h 1, blk_frozen h 2, blk_frozen h 3, blk_frozen h 4⟩
theorem below_set_ {w W : World} {g j : Nat} {v : Value} (h : Below w.heap.size w W) (hg : Aside0 (w.heap.size ≤ g)) : Below w.heap.size w (W.setCell ⟨g, j, none⟩ v) := below_set h hg.out
theorem bl_ {b : Nat} {w W : World} (h : Below b w W := by repeat (first | (with_reducible first | exact HB.out | apply below_alloc | apply pw_below_drewN | apply below_drew1 | refine below_set_ ?_ (by assumption)) | exact HB.out)) : Below b w W := h
theorem rf_ {p : Prop} (h : p := by first | rfl | (simp [errW_none, errW_some] <;> rfl) | (simp [*, errW_none, errW_some] <;> rfl)) : p := h
theorem nl_ {p : Prop} (h : p := by first | exact Kd.R_nil _ _ _ _ _ | exact Kd.N_nil _ _ _ _ _ | exact Kd.V_nil _ _ _ _ _ | exact Kd.Q_nil _ _ _ _ _ | exact Kd.S_nil _ _ _ _ _) : p := h
theorem sm_ {p : Prop} (h : p := by first | rfl | (simp; done) | (simp [*]; done)) : p := h
theorem om_ {a b : Nat} (h : a ≤ b := by first | omega | exact Nat.le_refl _) : a ≤ b := h
theorem dc_ {p : Prop} [i : Decidable p] (h : decide p = true := by first | (with_reducible assumption) | assumption) : p := of_decide_eq_true h
theorem ge_ {w W : World} {g : Nat} (hg : g = W.heap.size) (h : Below w.heap.size w W) : w.heap.size ≤ g := by rw [hg]; exact below_size h
theorem nb_ {W : World} {g g' : Nat} {o : Obj} (hg : g' = W.heap.size) (h : W.heap[g]? = some o) : g ≠ g' := by rw [hg]; exact Nat.ne_of_lt (blk_lt h)
theorem nc_ {W : World} {g g' : Nat} {o : Obj} (hg : g' = W.heap.size) (h : W.heap[g]? = some o) : g' ≠ g := by rw [hg]; exact Nat.ne_of_gt (blk_lt h)
theorem bo_ {W W1 : World} {g : Nat} {o : Obj} (h : Aside0 (W.heap[g]? = some o)) (k : W.heap[g]? = some o → W1.heap[g]? = some o := by intro h_; (with_reducible repeat (first | refine blk_drewN ?_ _ | refine blk_drew ?_ | refine blk_alloc ?_ _)); exact h_) : W1.heap[g]? = some o := k h.out
theorem ro_ {α : Type} {d : Kd α} {e base : Nat} {W W1 : World} {ok : Nat → Prop} {v : Value} {xs : List α} (h : Aside0 (Kd.R d e W base ok v xs)) (k : Kd.R d e W base ok v xs → Kd.R d e W1 base ok v xs := by intro h_; (with_reducible repeat (first | apply Kd.R_alloc | apply Kd.R_drewN | apply Kd.R_drew)); exact h_) : Kd.R d e W1 base ok v xs := k h.out
theorem rt_ {α : Type} {d : Kd α} {e base : Nat} {W W1 : World} {ok : Nat → Prop} {v : Value} {xs : List α} (h : Kd.R d e W base ok v xs) (k : Kd.R d e W base ok v xs → Kd.R d e W1 base ok v xs := by intro h_; (with_reducible repeat (first | apply Kd.R_alloc | apply Kd.R_drewN | apply Kd.R_drew)); exact h_) : Kd.R d e W1 base ok v xs := k h
theorem vo_ {α : Type} {d : Kd α} {e base : Nat} {W W1 : World} {ok : Nat → Prop} {v : Value} {xs : List α} (h : Aside0 (Kd.V d e W base ok v xs)) (k : Kd.V d e W base ok v xs → Kd.V d e W1 base ok v xs := by intro h_; (with_reducible repeat (first | apply Kd.V_alloc | apply Kd.V_drewN | apply Kd.V_drew)); exact h_) : Kd.V d e W1 base ok v xs := k h.out
theorem vt_ {α : Type} {d : Kd α} {e base : Nat} {W W1 : World} {ok : Nat → Prop} {v : Value} {xs : List α} (h : Kd.V d e W base ok v xs) (k : Kd.V d e W base ok v xs → Kd.V d e W1 base ok v xs := by intro h_; (with_reducible repeat (first | apply Kd.V_alloc | apply Kd.V_drewN | apply Kd.V_drew)); exact h_) : Kd.V d e W1 base ok v xs := k h
theorem cb_ {α : Type} {d : Kd α} {W W1 : World} {A : Option Addr} {n : Nat} {xs : List α} (h : Aside0 (Kd.C d W A n xs)) (k : Kd.C d W A n xs → Kd.C d W1 A n xs := by intro h_; repeat (first | exact Kd.C_below h_ HB.out | (with_reducible refine Kd.C_alloc ?_ _) | (with_reducible refine Kd.C_drewN ?_ _) | (with_reducible refine Kd.C_drew ?_))) : Kd.C d W1 A n xs := k h.out
theorem cr_ {α : Type} {d : Kd α} {e base n c : Nat} {W W1 : World} {ok : Nat → Prop} {A : Option Addr} {xs : List α} (h : Aside0 (Kd.R d e W base ok (.slice A n c) xs)) (k : Kd.C d W A xs.length xs → Kd.C d W1 A xs.length xs := by intro h_; repeat (first | exact h_ | (with_reducible refine Kd.C_alloc ?_ _) | (with_reducible refine Kd.C_drewN ?_ _) | (with_reducible refine Kd.C_drew ?_))) : Kd.C d W1 A xs.length xs := k (Kd.R_reads' h.out).2.2
theorem cv_ {α : Type} {d : Kd α} {e base n c : Nat} {W W1 : World} {ok : Nat → Prop} {A : Option Addr} {xs : List α} (h : Aside0 (Kd.V d e W base ok (.slice A n c) xs)) (k : Kd.C d W A xs.length xs → Kd.C d W1 A xs.length xs := by intro h_; repeat (first | exact h_ | (with_reducible refine Kd.C_alloc ?_ _) | (with_reducible refine Kd.C_drewN ?_ _) | (with_reducible refine Kd.C_drew ?_))) : Kd.C d W1 A xs.length xs := k (Kd.V_reads' h.out).2.2
theorem pk1 {p0 : Prop} (h0 : p0) : Aside0 p0 := ⟨h0⟩
theorem pk2 {p0 p1 : Prop} (h0 : p0) (h1 : p1) : Aside0 p0 ∧ Aside0 p1 := ⟨⟨h0⟩, ⟨h1⟩⟩
theorem pk3 {p0 p1 p2 : Prop} (h0 : p0) (h1 : p1) (h2 : p2) : Aside0 p0 ∧ Aside0 p1 ∧ Aside0 p2 := ⟨⟨h0⟩, ⟨h1⟩, ⟨h2⟩⟩
theorem pk4 {p0 p1 p2 p3 : Prop} (h0 : p0) (h1 : p1) (h2 : p2) (h3 : p3) : Aside0 p0 ∧ Aside0 p1 ∧ Aside0 p2 ∧ Aside0 p3 := ⟨⟨h0⟩, ⟨h1⟩, ⟨h2⟩, ⟨h3⟩⟩
theorem pk5 {p0 p1 p2 p3 p4 : Prop} (h0 : p0) (h1 : p1) (h2 : p2) (h3 : p3) (h4 : p4) : Aside0 p0 ∧ Aside0 p1 ∧ Aside0 p2 ∧ Aside0 p3 ∧ Aside0 p4 := ⟨⟨h0⟩, ⟨h1⟩, ⟨h2⟩, ⟨h3⟩, ⟨h4⟩⟩
theorem pk6 {p0 p1 p2 p3 p4 p5 : Prop} (h0 : p0) (h1 : p1) (h2 : p2) (h3 : p3) (h4 : p4) (h5 : p5) : Aside0 p0 ∧ Aside0 p1 ∧ Aside0 p2 ∧ Aside0 p3 ∧ Aside0 p4 ∧ Aside0 p5 := ⟨⟨h0⟩, ⟨h1⟩, ⟨h2⟩, ⟨h3⟩, ⟨h4⟩, ⟨h5⟩⟩
theorem pk7 {p0 p1 p2 p3 p4 p5 p6 : Prop} (h0 : p0) (h1 : p1) (h2 : p2) (h3 : p3) (h4 : p4) (h5 : p5) (h6 : p6) : Aside0 p0 ∧ Aside0 p1 ∧ Aside0 p2 ∧ Aside0 p3 ∧ Aside0 p4 ∧ Aside0 p5 ∧ Aside0 p6 := ⟨⟨h0⟩, ⟨h1⟩, ⟨h2⟩, ⟨h3⟩, ⟨h4⟩, ⟨h5⟩, ⟨h6⟩⟩
theorem pk8 {p0 p1 p2 p3 p4 p5 p6 p7 : Prop} (h0 : p0) (h1 : p1) (h2 : p2) (h3 : p3) (h4 : p4) (h5 : p5) (h6 : p6) (h7 : p7) : Aside0 p0 ∧ Aside0 p1 ∧ Aside0 p2 ∧ Aside0 p3 ∧ Aside0 p4 ∧ Aside0 p5 ∧ Aside0 p6 ∧ Aside0 p7 := ⟨⟨h0⟩, ⟨h1⟩, ⟨h2⟩, ⟨h3⟩, ⟨h4⟩, ⟨h5⟩, ⟨h6⟩, ⟨h7⟩⟩
theorem pk11 {p0 p1 p2 p3 p4 p5 p6 p7 p8 p9 p10 : Prop} (h0 : p0) (h1 : p1) (h2 : p2) (h3 : p3) (h4 : p4) (h5 : p5) (h6 : p6) (h7 : p7) (h8 : p8) (h9 : p9) (h10 : p10) : Aside0 p0 ∧ Aside0 p1 ∧ Aside0 p2 ∧ Aside0 p3 ∧ Aside0 p4 ∧ Aside0 p5 ∧ Aside0 p6 ∧ Aside0 p7 ∧ Aside0 p8 ∧ Aside0 p9 ∧ Aside0 p10 := ⟨⟨h0⟩, ⟨h1⟩, ⟨h2⟩, ⟨h3⟩, ⟨h4⟩, ⟨h5⟩, ⟨h6⟩, ⟨h7⟩, ⟨h8⟩, ⟨h9⟩, ⟨h10⟩⟩
section
variable {P : Program} {ops : Array Oper} {rest : List Oper} {o : Oper} {a : Act} {Q : Exit → Act → World → Prop}
theorem box_ev {W : World} (N : Tmp) (cs : Array Value) (t : TypeId)
    (h : ∀ g, g = W.heap.size → ∀ w1, w1.heap[g]? = some (.cells cs t (0, 0)) → Below W.heap.size W w1 → wpList P ops Q rest (a.put o.dst (.pointer (some ⟨g, 0, none⟩))) w1)
    (hgd : o.guard = none := by rfl) (hd : o.dst = some N := by rfl) (hrun : (execOp a.eval o).run P W = .ok (.value (.pointer (some ⟨W.heap.size, 0, none⟩))) (W.alloc (.cells cs t (0, 0))) := by first | (go_simp; done) | (go_simp; rfl)) : wpList P ops Q (o :: rest) a W :=
  box_event hgd hd hrun h
theorem goL_ {W : World} (N : Option Tmp) {f : FuncId} {fn : Func} {as_ : Array Operand} {ts : Array TypeId} (hf : P.funcs[f]? = some fn) (args : Array Value)
    (h : Calls P f args W fun e w' => ∃ v, e = .returned v ∧ wpList P ops Q rest (a.put N v) w')
    (hd : o.dst = N := by rfl) (hg : o.guard = none := by rfl) (hname : (fn.name == "runtime.NumGoroutine") = false := by kernel_rfl) (hb : fn.body.isSome = true := by rfl)
    (hop : o.op = .call { callee := .value (.func f), args := as_, argTypes := ts } := by rfl) (hargs : as_.map a.eval = args := by (try simp only [List.map_toArray, List.map_cons, List.map_nil]); first | done | rfl | (simp only [List.length_drop, List.length_take]; rfl)) : wpList P ops Q (o :: rest) a W :=
  goesL_ N hd hg hf hname hb args hop hargs h
end
end Go.Proofs.YtfmdllbkfpbdcaaX
end
section
namespace Go.Proofs.Ytfmdllbkfpbdcaa.G
open Go.RowKit Go.Proofs.YtfmdllbkfpbdcaaX Go.Proofs.YtfmdllbkfpbdcaaW.PrintWords Go.Proofs.YtfmdllbkfpbdcaaW.PrintLast Go.Proofs.YtfmdllbkfpbdcaaW.PrintMore
attribute [local go_sem] max2_int min2_int max_two min_two max_three min_three max_four min_four
def journal_filled.f (l0 : List Int) : Option (List Int) := if 0 ≤ ((64 - ((l0.length : Int) % 64)) % 64) then (if l0.length + ((64 - ((l0.length : Int) % 64)) % 64 : Int).toNat < 140737488355328 then (some (l0 ++ List.replicate ((64 - ((l0.length : Int) % 64)) % 64 : Int).toNat 0)) else (none)) else (none)
set_option maxHeartbeats 8000000 in
set_option maxRecDepth 100000 in
theorem journal_filled.calls (P0_ : Nat → Prop) (u9000_ : Value) (l0 : List Int) (r : List Int) (w0 w : World) (hB : Below w0.heap.size w0 w) (ho0 : Kd.R (Kd.int .u8) 5 w w0.heap.size P0_ u9000_ l0) (h : journal_filled.f l0 = some r) :
    Calls Try.prog 56 #[u9000_] w fun e w' => ∃ v0_ : Value, e = .returned (v0_) ∧ Kd.R (Kd.int .u8) 5 w' w0.heap.size (fun k_ => (P0_ k_ ∨ w.heap.size ≤ k_)) v0_ r ∧ Below w0.heap.size w0 w' ∧ Kept w w' (fun k_ => P0_ k_) := by
  have HO0 := Aside0.mk (show Kd.R (Kd.int .u8) 5 w w0.heap.size (fun k_ => (P0_ k_ ∨ w.heap.size ≤ k_)) u9000_ l0 from Kd.R_mono ho0 (fun k_ hk => (.inl hk)))
  have HK := Aside0.mk (Kept.refl w (fun k_ => P0_ k_))
  have HW0 := Aside0.mk hB.size
  have HB := Aside0.mk hB
  clear hB
  have H : (if 0 ≤ ((64 - ((l0.length : Int) % 64)) % 64) then (if l0.length + ((64 - ((l0.length : Int) % 64)) % 64 : Int).toNat < 140737488355328 then (some (l0 ++ List.replicate ((64 - ((l0.length : Int) % 64)) % 64 : Int).toNat 0)) else (none)) else (none)) = some r := h
  clear h
  obtain ⟨ji2, hji2⟩ : ∃ j_ : Int, ((64 - ((l0.length : Int) % 64)) % 64) = j_ := ⟨_, rfl⟩
  replace H : (if 0 ≤ (ji2) then (if l0.length + (ji2 : Int).toNat < 140737488355328 then (some (l0 ++ List.replicate (ji2 : Int).toNat 0)) else (none)) else (none)) = some r := by first | (rw [hji2] at H; exact H) | (simp only [hji2] at H ⊢; exact H)
  by_cases c3 : 0 ≤ (ji2)
  rotate_left
  · rw [if_neg c3] at H
    exact absurd H (by simp)
  rw [if_pos c3] at H
  have c3b0 := eq_true c3
  have c3b1 : decide (0 ≤ (ji2)) = true := decide_eq_true c3
  clear c3
  by_cases c4 : l0.length + (ji2 : Int).toNat < 140737488355328
  rotate_left
  · rw [if_neg c4] at H
    exact absurd H (by simp)
  rw [if_pos c4] at H
  have LMc4 := Aside0.mk c4
  clear c4
  obtain ⟨y122, hy122⟩ : ∃ y_ : List Int, y_ = (l0 ++ List.replicate (ji2 : Int).toNat 0) := ⟨_, rfl⟩
  replace H : (some y122) = some r := by first | (rw [hy122]; with_reducible exact H) | (have H2_ := (Option.bind_some _ _).symm.trans H; rw [hy122]; with_reducible exact H2_) | (have H2_ := (Option.bind_some _ _).symm.trans H; with_reducible exact H2_) | with_reducible exact H | (rw [hy122]; exact H) | exact H
  have Ny122 := Aside0.mk hy122
  clear hy122
  obtain rfl := Option.some.inj H
  obtain ⟨Ao5, co5, eo5⟩ := Kd.R_slice HO0.out
  subst eo5
  go_enter Try.func56, Try.ntmps56
  go_wp2_with (first | (at_builtin; refine Kd.R_append_zeros (Kd.int .u8) (w0 := w0) w0.heap.size rfl (.tmp 3) (.tmp 8) 30 3 5 (.int .u8 0) 1 rfl Try.underlying30 Try.underlying3 info5 rfl (by decide) (by omega) (.slice Ao5 l0.length co5) l0 0 (ji2 : Int) (fun k_ => (P0_ k_ ∨ w.heap.size ≤ k_)) rfl (by first | rfl | exact congrArg (Value.int .i64) (by assumption)) rfl ?aF ?aO dc_ ?aB ?aS ?aL ?_; (case aB => exact bl_); (case aF => exact (fun k_ hk => (.inr (Nat.le_trans (by first | exact HK.out.1 | exact (show Kept w _ (fun k_ => P0_ k_) from by repeat (first | (with_reducible first | exact HK.out | apply Kept.alloc | apply Kept.drewN | apply Kept.drew) | exact HK.out)).1) hk)))); (case aO => exact (ro_ HO0)); (case aS => exact (below_size bl_)); (case aL => have := LMc4.out; omega); intro v7000 w7000 ho hb hg hat; rw [← Ny122.out] at ho; have n_ := pk3 (hb) (Kept.of_grown (S := (fun k_ => P0_ k_)) hg (by repeat (first | (with_reducible first | exact HK.out | apply Kept.alloc | apply Kept.drewN | apply Kept.drew) | exact HK.out)) (fun k_ e_ => (HO0.out.1 k_ e_))) (ho); clear HB HK HO0; obtain ⟨HB, HK, HO7000⟩ := n_; clear ho hb hg hat))
  go_ret
  exact ⟨_, by first | rfl | (simp [errW_none, errW_some] <;> rfl) | (simp only [← hji2]; first | rfl | (simp [errW_none, errW_some] <;> rfl)) | (simp [*, errW_none, errW_some] <;> rfl), (ro_ HO7000), bl_, by repeat (first | (with_reducible first | exact HK.out | apply Kept.alloc | apply Kept.drewN | apply Kept.drew) | exact HK.out)⟩
def frame_count.l0 : Nat → Int → List Int → Option (List Int)
  | 0, _, _ => none
  | k + 1, x0, x3 => if x0 > 127 then (if x3.length < 140737488355328 then (frame_count.l0 k (x0 / 128) (x3 ++ [Go.bits .or .u8 ((x0) % 256) 128])) else (none)) else (if x3.length < 140737488355328 then (some (x3 ++ [(x0) % 256])) else (none))
def frame_count.f (k : Nat) (a0 : Int) : Option (List Int) := frame_count.l0 k a0 ([] : List Int)
theorem frame_count.mono_l : ∀ k, (∀ y0 y1, LeO (frame_count.l0 k y0 y1) (frame_count.l0 (k + 1) y0 y1))
  | 0 => fun _ _ r h => by simp [frame_count.l0] at h
  | k + 1 => by
    have ih0 := frame_count.mono_l k
    · intro y0 y1
      unfold frame_count.l0
      repeat' first
      | (with_reducible exact ih0 _ _)
      | (with_reducible exact LeO.refl _)
      | (with_reducible exact LeO.none _)
      | (with_reducible refine LeO.ite ?_ ?_)
      | (with_reducible refine LeO.bind ?_ (fun _ => ?_))
      | exact ih0 _ _
      | exact LeO.none _
      | refine LeO.ite ?_ ?_
      | refine LeO.bind ?_ (fun _ => ?_)
theorem frame_count.mono : ∀ a0 k, LeO (frame_count.f k a0) (frame_count.f (k + 1) a0) := by
  intro a0 k
  have ih0 := frame_count.mono_l k
  unfold frame_count.f
  repeat' first
      | (with_reducible exact ih0 _ _)
      | (with_reducible exact LeO.refl _)
      | (with_reducible exact LeO.none _)
      | (with_reducible refine LeO.ite ?_ ?_)
      | (with_reducible refine LeO.bind ?_ (fun _ => ?_))
      | exact ih0 _ _
      | exact LeO.none _
      | refine LeO.ite ?_ ?_
      | refine LeO.bind ?_ (fun _ => ?_)
set_option maxHeartbeats 8000000 in
set_option maxRecDepth 100000 in
theorem frame_count.calls (k : Nat) (a0 : Int) (r : List Int) (w : World) (h : frame_count.f k a0 = some r) :
    Calls Try.prog 100 #[.int .u64 a0] w fun e w' => ∃ v0_ : Value, e = .returned (v0_) ∧ Kd.R (Kd.int .u8) 5 w' w.heap.size (fun _ => True) v0_ r ∧ Below w.heap.size w w' := by
  have HB := Aside0.mk (Below.refl w.heap.size w)
  have H : (frame_count.l0 k a0 ([] : List Int)) = some r := h
  clear h
  have H' := Aside0.mk H
  clear H
  go_enter Try.func100, Try.ntmps100
  go_wp2
  go_loopg [0, 3] k (fun kq v0 v3 w' => ∃ (x0_1 : Int) (x3_1 : List Int), v0 = .int .u64 x0_1 ∧ Aside0 (frame_count.l0 kq x0_1 x3_1 = some r) ∧ Aside0 (kq ≤ k) ∧ Aside0 (Kd.R (Kd.int .u8) 5 w' w.heap.size (fun _ => True) v3 x3_1) ∧ Aside0 (Below w.heap.size w w'))
  case atStart => exact ⟨(a0), (([] : List Int)), sm_, H', ⟨Nat.le_refl _⟩, ⟨nl_⟩, ⟨bl_⟩⟩
  case round =>
    clear H'
    obtain ⟨x0_1, x3_1, rfl, HA, HK1, HO_3, HB⟩ := hrel
    cases gk with
    | zero => exact absurd HA.out (by simp [frame_count.l0])
    | succ k1 =>
      have H := HA.out
      clear HA
      simp only [frame_count.l0] at H
      replace H := dgt H
      rcases H with ⟨c2b0, H⟩ | ⟨c2b0, H⟩
      focus
        by_cases c3 : x3_1.length < 140737488355328
        rotate_left
        · rw [if_neg c3] at H
          exact absurd H (by simp)
        rw [if_pos c3] at H
        have LMc3 := Aside0.mk c3
        clear c3
        obtain ⟨y125, hy125⟩ : ∃ y_ : List Int, y_ = (x3_1 ++ [Go.bits .or .u8 ((x0_1) % 256) 128]) := ⟨_, rfl⟩
        replace H : (frame_count.l0 k1 (x0_1 / 128) y125) = some r := by first | (rw [hy125]; with_reducible exact H) | (have H2_ := (Option.bind_some _ _).symm.trans H; rw [hy125]; with_reducible exact H2_) | (have H2_ := (Option.bind_some _ _).symm.trans H; with_reducible exact H2_) | with_reducible exact H | (rw [hy125]; exact H) | exact H
        have Ny125 := Aside0.mk hy125
        clear hy125
        have H' := Aside0.mk H
        clear H
      rotate_left
      focus
        by_cases c5 : x3_1.length < 140737488355328
        rotate_left
        · rw [if_neg c5] at H
          exact absurd H (by simp)
        rw [if_pos c5] at H
        have LMc5 := Aside0.mk c5
        clear c5
        obtain ⟨y128, hy128⟩ : ∃ y_ : List Int, y_ = (x3_1 ++ [(x0_1) % 256]) := ⟨_, rfl⟩
        replace H : (some y128) = some r := by first | (rw [hy128]; with_reducible exact H) | (have H2_ := (Option.bind_some _ _).symm.trans H; rw [hy128]; with_reducible exact H2_) | (have H2_ := (Option.bind_some _ _).symm.trans H; with_reducible exact H2_) | with_reducible exact H | (rw [hy128]; exact H) | exact H
        have Ny128 := Aside0.mk hy128
        clear hy128
        obtain rfl := Option.some.inj H
      all_goals
        go_wp2_with (first | ((with_reducible refine gate_builtin (b := .append) (xs := #[.tmp 8, .tmp 12]) rfl ?_); at_builtin; refine Kd.R_append (Kd.int .u8) (w0 := w) w.heap.size rfl (.tmp 8) (.tmp 12) 30 5 (.int .u8 0) 1 rfl Try.underlying30 info5 rfl (by decide) (by omega) u3 x3_1 (Go.bits .or .u8 ((x0_1) % 256) 128) [.int .u8 (Go.bits .or .u8 ((x0_1) % 256) 128)] (fun _ => True) (fun _ => False) rfl rfl ?aP (fun _ hk => hk.elim) ?aF ?aO ?aB ?aS ?aL ?_; (case aP => exact rfl); (case aB => exact bl_); (case aF => exact (fun _ _ => trivial)); (case aO => exact (ro_ HO_3)); (case aS => exact (below_size bl_)); (case aL => have := LMc3.out; omega); intro v7000 w7000 ho hb hg hat; rw [← Ny125.out] at ho; have n_ := pk2 (hb) (ho); clear HB HO_3; obtain ⟨HB, HO7000⟩ := n_; clear ho hb hg hat) | ((with_reducible refine gate_builtin (b := .append) (xs := #[.tmp 14, .tmp 17]) rfl ?_); at_builtin; refine Kd.R_append (Kd.int .u8) (w0 := w) w.heap.size rfl (.tmp 14) (.tmp 17) 30 5 (.int .u8 0) 1 rfl Try.underlying30 info5 rfl (by decide) (by omega) u3 x3_1 ((x0_1) % 256) [.int .u8 ((x0_1) % 256)] (fun _ => True) (fun _ => False) rfl rfl ?aP (fun _ hk => hk.elim) ?aF ?aO ?aB ?aS ?aL ?_; (case aP => exact rfl); (case aB => exact bl_); (case aF => exact (fun _ _ => trivial)); (case aO => exact (ro_ HO_3)); (case aS => exact (below_size bl_)); (case aL => have := LMc5.out; omega); intro v7000 w7000 ho hb hg hat; rw [← Ny128.out] at ho; have n_ := pk2 (hb) (ho); clear HB HO_3; obtain ⟨HB, HO7000⟩ := n_; clear ho hb hg hat))
        first
          | go_roundg k1
            case measure => have := HK1.out; omega
            case rel => exact ⟨(x0_1 / 128), (y125), sm_, H', ⟨by have := HK1.out; omega⟩, ⟨(ro_ HO7000)⟩, ⟨bl_⟩⟩
          | go_ret
            exact ⟨_, rf_, (ro_ HO7000), bl_⟩
def frame_Count.f (k : Nat) (a0 : Int) : Option (List Int) := if a0 < 0 then (some ([] : List Int)) else ((frame_count.f k (IntKind.u64.wrap (a0))).bind fun t131 => (some t131))
theorem frame_Count.mono : ∀ a0 k, LeO (frame_Count.f k a0) (frame_Count.f (k + 1) a0) := by
  intro a0 k
  unfold frame_Count.f
  repeat' first
      | (with_reducible exact frame_count.mono _ _)
      | (with_reducible exact LeO.refl _)
      | (with_reducible exact LeO.none _)
      | (with_reducible refine LeO.ite ?_ ?_)
      | (with_reducible refine LeO.bind ?_ (fun _ => ?_))
      | exact frame_count.mono _ _
      | exact LeO.none _
      | refine LeO.ite ?_ ?_
      | refine LeO.bind ?_ (fun _ => ?_)
set_option maxHeartbeats 8000000 in
set_option maxRecDepth 100000 in
theorem frame_Count.calls (k : Nat) (a0 : Int) (r : List Int) (w : World) (h : frame_Count.f k a0 = some r) :
    Calls Try.prog 91 #[.int .i64 a0] w fun e w' => ∃ v0_ : Value, e = .returned (v0_) ∧ Kd.R (Kd.int .u8) 5 w' w.heap.size (fun _ => True) v0_ r ∧ Below w.heap.size w w' := by
  have HB := Aside0.mk (Below.refl w.heap.size w)
  have H : (if a0 < 0 then (some ([] : List Int)) else ((frame_count.f k (IntKind.u64.wrap (a0))).bind fun t131 => (some t131))) = some r := h
  clear h
  replace H := dle H
  rcases H with ⟨c2b0, H⟩ | ⟨c2b0, H⟩
  focus
    obtain rfl := Option.some.inj H
  rotate_left
  focus
    replace H := bindA H
    obtain ⟨t131, A3, H⟩ := H
    try dsimp only at H
    obtain rfl := Option.some.inj H
  all_goals
    go_enter Try.func91, Try.ntmps91
    go_wp2_with (first | ((with_reducible refine gate_callee (f := 100) rfl ?_); refine goL_ (some 7) Try.func100 #[.int .u64 (IntKind.u64.wrap (a0))] ?_; (with_reducible refine (frame_count.calls k (IntKind.u64.wrap (a0)) t131 _ A3.out).mono ?_); rintro e w7000 ⟨v7000, rfl, ho7000, hb⟩; refine ⟨_, rfl, ?_⟩; have n_ := pk2 (Kd.R_lower ho7000 (below_size bl_)) (below_step bl_ hb); clear HB; obtain ⟨HO7000, HB⟩ := n_; (try clear hb ho7000)))
    go_ret
    first
      | exact ⟨_, rf_, nl_, bl_⟩
      | exact ⟨_, rf_, (ro_ HO7000), bl_⟩
def frame_Number.f (k : Nat) (a0 : Int) : Option (List Int) := (frame_count.f k (Go.bits .xor .u64 (IntKind.u64.wrap ((IntKind.u64.wrap (a0)) * 2)) (IntKind.u64.wrap (a0 / 9223372036854775808)))).bind fun t134 => (some t134)
theorem frame_Number.mono : ∀ a0 k, LeO (frame_Number.f k a0) (frame_Number.f (k + 1) a0) := by
  intro a0 k
  unfold frame_Number.f
  repeat' first
      | (with_reducible exact frame_count.mono _ _)
      | (with_reducible exact LeO.refl _)
      | (with_reducible exact LeO.none _)
      | (with_reducible refine LeO.ite ?_ ?_)
      | (with_reducible refine LeO.bind ?_ (fun _ => ?_))
      | exact frame_count.mono _ _
      | exact LeO.none _
      | refine LeO.ite ?_ ?_
      | refine LeO.bind ?_ (fun _ => ?_)
set_option maxHeartbeats 8000000 in
set_option maxRecDepth 100000 in
theorem frame_Number.calls (k : Nat) (a0 : Int) (r : List Int) (w : World) (h : frame_Number.f k a0 = some r) :
    Calls Try.prog 99 #[.int .i64 a0] w fun e w' => ∃ v0_ : Value, e = .returned (v0_) ∧ Kd.R (Kd.int .u8) 5 w' w.heap.size (fun _ => True) v0_ r ∧ Below w.heap.size w w' := by
  have HB := Aside0.mk (Below.refl w.heap.size w)
  have H : ((frame_count.f k (Go.bits .xor .u64 (IntKind.u64.wrap ((IntKind.u64.wrap (a0)) * 2)) (IntKind.u64.wrap (a0 / 9223372036854775808)))).bind fun t134 => (some t134)) = some r := h
  clear h
  replace H := bindA H
  obtain ⟨t134, A2, H⟩ := H
  try dsimp only at H
  obtain rfl := Option.some.inj H
  go_enter Try.func99, Try.ntmps99
  go_wp2_with (first | ((with_reducible refine gate_callee (f := 100) rfl ?_); refine goL_ (some 10) Try.func100 #[.int .u64 (Go.bits .xor .u64 (IntKind.u64.wrap ((IntKind.u64.wrap (a0)) * 2)) (IntKind.u64.wrap (a0 / 9223372036854775808)))] ?_; (with_reducible refine (frame_count.calls k (Go.bits .xor .u64 (IntKind.u64.wrap ((IntKind.u64.wrap (a0)) * 2)) (IntKind.u64.wrap (a0 / 9223372036854775808))) t134 _ A2.out).mono ?_); rintro e w7000 ⟨v7000, rfl, ho7000, hb⟩; refine ⟨_, rfl, ?_⟩; have n_ := pk2 (Kd.R_lower ho7000 (below_size bl_)) (below_step bl_ hb); clear HB; obtain ⟨HO7000, HB⟩ := n_; (try clear hb ho7000)))
  go_ret
  exact ⟨_, rf_, (ro_ HO7000), bl_⟩
mutual
def frame_Encode.l0 : Nat → List Int → List Int → Int → Int → List Int → List ByteArray → Option (List Int × Int)
  | 0, _, _, _, _, _, _ => none
  | k + 1, x4, x14, x15, x16, x138000, x138001 => if x16 < x15 then (if 0 ≤ x16 then (if x16 < (x14.length : Int) then ((frame_Number.f k (rd x14 x16)).bind fun t142 => (if x4.length + t142.length < 140737488355328 then ((some (x4 ++ t142 : List Int)).bind fun y145 => (if (y145.length : Int) > 4096 then (some (([] : List Int), 4)) else (frame_Encode.l0 k y145 x14 x15 (wrap64 (x16 + 1)) x138000 x138001))) else (none))) else (none)) else (none)) else ((frame_Count.f k (x138001.length : Int)).bind fun t148 => (if x4.length + t148.length < 140737488355328 then (frame_Encode.l1 k (x4 ++ t148) x138001 (x138001.length : Int) 0) else (none)))
def frame_Encode.l1 : Nat → List Int → List ByteArray → Int → Int → Option (List Int × Int)
  | 0, _, _, _, _ => none
  | k + 1, x4, x35, x36, x37 => if x37 < x36 then (if 0 ≤ x37 then (if x37 < (x35.length : Int) then ((frame_Count.f k ((rdOf ByteArray.empty x35 x37).size : Int)).bind fun t155 => (if x4.length + t155.length < 140737488355328 then ((some (x4 ++ t155 : List Int)).bind fun y158 => (if (y158.length : Int) > 4096 then (some (([] : List Int), 4)) else (if ((rdOf ByteArray.empty x35 x37).size : Int) > (wrap64 (4096 - (y158.length : Int))) then (some (([] : List Int), 4)) else (if y158.length + (rdOf ByteArray.empty x35 x37).size < 140737488355328 then (frame_Encode.l1 k (y158 ++ bytesOf (rdOf ByteArray.empty x35 x37)) x35 x36 (wrap64 (x37 + 1))) else (none))))) else (none))) else (none)) else (none)) else (if (x4.length : Int) > 4096 then (some (([] : List Int), 4)) else (some (x4, 0)))
end
def frame_Encode.f (k : Nat) (l0_0 : List Int) (l0_1 : List ByteArray) : Option (List Int × Int) := (frame_Count.f k (l0_0.length : Int)).bind fun t138 => (frame_Encode.l0 k t138 l0_0 (l0_0.length : Int) 0 l0_0 l0_1)
theorem frame_Encode.mono_l : ∀ k, (∀ y0 y1 y2 y3 y4 y5, LeO (frame_Encode.l0 k y0 y1 y2 y3 y4 y5) (frame_Encode.l0 (k + 1) y0 y1 y2 y3 y4 y5)) ∧ (∀ y0 y1 y2 y3, LeO (frame_Encode.l1 k y0 y1 y2 y3) (frame_Encode.l1 (k + 1) y0 y1 y2 y3))
  | 0 => ⟨fun _ _ _ _ _ _ r h => by simp [frame_Encode.l0] at h, fun _ _ _ _ r h => by simp [frame_Encode.l1] at h⟩
  | k + 1 => by
    obtain ⟨ih0, ih1⟩ := frame_Encode.mono_l k
    refine ⟨?_, ?_⟩
    · intro y0 y1 y2 y3 y4 y5
      unfold frame_Encode.l0
      repeat' first
      | (with_reducible exact ih0 _ _ _ _ _ _)
      | (with_reducible exact ih1 _ _ _ _)
      | (with_reducible exact frame_Count.mono _ _)
      | (with_reducible exact frame_Number.mono _ _)
      | (with_reducible exact LeO.refl _)
      | (with_reducible exact LeO.none _)
      | (with_reducible refine LeO.ite ?_ ?_)
      | (with_reducible refine LeO.bind ?_ (fun _ => ?_))
      | exact ih0 _ _ _ _ _ _
      | exact ih1 _ _ _ _
      | exact frame_Count.mono _ _
      | exact frame_Number.mono _ _
      | exact LeO.none _
      | refine LeO.ite ?_ ?_
      | refine LeO.bind ?_ (fun _ => ?_)
    · intro y0 y1 y2 y3
      unfold frame_Encode.l1
      repeat' first
      | (with_reducible exact ih0 _ _ _ _ _ _)
      | (with_reducible exact ih1 _ _ _ _)
      | (with_reducible exact frame_Count.mono _ _)
      | (with_reducible exact frame_Number.mono _ _)
      | (with_reducible exact LeO.refl _)
      | (with_reducible exact LeO.none _)
      | (with_reducible refine LeO.ite ?_ ?_)
      | (with_reducible refine LeO.bind ?_ (fun _ => ?_))
      | exact ih0 _ _ _ _ _ _
      | exact ih1 _ _ _ _
      | exact frame_Count.mono _ _
      | exact frame_Number.mono _ _
      | exact LeO.none _
      | refine LeO.ite ?_ ?_
      | refine LeO.bind ?_ (fun _ => ?_)
theorem frame_Encode.mono : ∀ a0 a1 k, LeO (frame_Encode.f k a0 a1) (frame_Encode.f (k + 1) a0 a1) := by
  intro a0 a1 k
  obtain ⟨ih0, ih1⟩ := frame_Encode.mono_l k
  unfold frame_Encode.f
  repeat' first
      | (with_reducible exact ih0 _ _ _ _ _ _)
      | (with_reducible exact ih1 _ _ _ _)
      | (with_reducible exact frame_Count.mono _ _)
      | (with_reducible exact frame_Number.mono _ _)
      | (with_reducible exact LeO.refl _)
      | (with_reducible exact LeO.none _)
      | (with_reducible refine LeO.ite ?_ ?_)
      | (with_reducible refine LeO.bind ?_ (fun _ => ?_))
      | exact ih0 _ _ _ _ _ _
      | exact ih1 _ _ _ _
      | exact frame_Count.mono _ _
      | exact frame_Number.mono _ _
      | exact LeO.none _
      | refine LeO.ite ?_ ?_
      | refine LeO.bind ?_ (fun _ => ?_)
set_option maxHeartbeats 8000000 in
set_option maxRecDepth 100000 in
theorem frame_Encode.calls (k : Nat) (A0_0 : Option Addr) (c0_0 : Nat) (l0_0 : List Int) (A0_1 : Option Addr) (c0_1 : Nat) (l0_1 : List ByteArray) (r1 : List Int) (r2 : Int) (w : World) (hr0_0 : Kd.C (Kd.int .i64) w A0_0 l0_0.length l0_0) (hc0_0 : l0_0.length ≤ c0_0) (hr0_1 : Kd.C Kd.string w A0_1 l0_1.length l0_1) (hc0_1 : l0_1.length ≤ c0_1) (h : frame_Encode.f k l0_0 l0_1 = some (r1, r2)) :
    Calls Try.prog 89 #[.agg #[.slice A0_0 l0_0.length c0_0, .slice A0_1 l0_1.length c0_1]] w fun e w' => ∃ v0_ : Value, e = .returned (.tuple #[v0_, .int .i64 r2]) ∧ Kd.R (Kd.int .u8) 5 w' w.heap.size (fun _ => True) v0_ r1 ∧ Below w.heap.size w w' := by
  have hu48 := Try.underlying48
  have HR0_0 := Aside0.mk hr0_0
  have HC0_0 := Aside0.mk hc0_0
  clear hr0_0 hc0_0
  have HR0_1 := Aside0.mk hr0_1
  have HC0_1 := Aside0.mk hc0_1
  clear hr0_1 hc0_1
  have HB := Aside0.mk (Below.refl w.heap.size w)
  have H : ((frame_Count.f k (l0_0.length : Int)).bind fun t138 => (frame_Encode.l0 k t138 l0_0 (l0_0.length : Int) 0 l0_0 l0_1)) = some (r1, r2) := h
  clear h
  replace H := bindA H
  obtain ⟨t138, A2, H⟩ := H
  try dsimp only at H
  have H' := Aside0.mk H
  clear H
  go_enter Try.func89, Try.ntmps89
  go_wp2_with (first | ((with_reducible refine gate_dst (N := 1) rfl ?_); (try (refine gate_guard (by rfl) ?_; dsimp only)); refine box_ev 1 #[.slice A0_0 l0_0.length c0_0, .slice A0_1 l0_1.length c0_1] 48 ?_; intro gb137 hg w3 hbox hb; have n_ := pk4 (below_step bl_ hb) (hbox) ((ge_ hg bl_ : w.heap.size ≤ gb137)) ((ge_ hg bl_ : w.heap.size ≤ gb137)); clear HB; obtain ⟨HB, BK137, GW137, GE137⟩ := n_; clear hb hbox hg; have hcz4_0 : w3.cell? ⟨gb137, 0, none⟩ = some (.slice A0_0 l0_0.length c0_0) := (blk_cell BK137.out 0).trans rfl; have hcz4_1 : w3.cell? ⟨gb137, 1, none⟩ = some (.slice A0_1 l0_1.length c0_1) := (blk_cell BK137.out 1).trans rfl; have hfz4_0 := blk_frozen BK137.out 0; have hfz4_1 := blk_frozen BK137.out 1) | ((with_reducible refine gate_callee (f := 91) rfl ?_); refine goL_ (some 12) Try.func91 #[.int .i64 (l0_0.length : Int)] ?_; (with_reducible refine (frame_Count.calls k (l0_0.length : Int) t138 _ A2.out).mono ?_); rintro e w5 ⟨v139, rfl, ho0, hb⟩; refine ⟨_, rfl, ?_⟩; have n_ := pk3 (Kd.R_lower ho0 (below_size bl_)) (blk_below (bo_ BK137) hb) (below_step bl_ hb); clear BK137 HB; obtain ⟨HO140, BK137, HB⟩ := n_; (try clear hb ho0); have hcz6_0 : w5.cell? ⟨gb137, 0, none⟩ = some (.slice A0_0 l0_0.length c0_0) := (blk_cell BK137.out 0).trans rfl; have hcz6_1 : w5.cell? ⟨gb137, 1, none⟩ = some (.slice A0_1 l0_1.length c0_1) := (blk_cell BK137.out 1).trans rfl; have hfz6_0 := blk_frozen BK137.out 0; have hfz6_1 := blk_frozen BK137.out 1))
  go_loopg [4, 16] k (fun kq v4 v16 w' => ∃ (x4_1 : List Int) (x16_1 : Int), v16 = .int .i64 x16_1 ∧ Aside0 (frame_Encode.l0 kq x4_1 l0_0 (l0_0.length : Int) x16_1 l0_0 l0_1 = some (r1, r2)) ∧ Aside0 (kq ≤ k) ∧ Aside0 (Kd.R (Kd.int .u8) 5 w' w.heap.size (fun _ => True) v4 x4_1) ∧ Aside0 (w'.heap[gb137]? = some (.cells #[(.slice A0_0 l0_0.length c0_0), (.slice A0_1 l0_1.length c0_1)] 48 (0, 0))) ∧ Aside0 (Below w.heap.size w w'))
  case atStart => exact ⟨(t138), (0), sm_, H', ⟨Nat.le_refl _⟩, ⟨(ro_ HO140)⟩, ⟨(bo_ BK137)⟩, ⟨bl_⟩⟩
  case round =>
    clear H'
    obtain ⟨x4_1, x16_1, rfl, HA, HK1, HO_4, BK137, HB⟩ := hrel
    cases gk with
    | zero => exact absurd HA.out (by simp [frame_Encode.l0])
    | succ k1 =>
      have H := HA.out
      clear HA
      simp only [frame_Encode.l0] at H
      replace H := dle H
      rcases H with ⟨c7b0, H⟩ | ⟨c7b0, H⟩
      rotate_left
      · replace H := bindA H
        obtain ⟨t148, A21, H⟩ := H
        try dsimp only at H
        by_cases c22 : x4_1.length + t148.length < 140737488355328
        · rw [if_pos c22] at H
          have LMc22 := Aside0.mk c22
          clear c22
          obtain ⟨y151, hy151⟩ : ∃ y_ : List Int, y_ = (x4_1 ++ t148) := ⟨_, rfl⟩
          replace H : (frame_Encode.l1 k1 y151 l0_1 (l0_1.length : Int) 0) = some (r1, r2) := by first | (rw [hy151]; with_reducible exact H) | (have H2_ := (Option.bind_some _ _).symm.trans H; rw [hy151]; with_reducible exact H2_) | (have H2_ := (Option.bind_some _ _).symm.trans H; with_reducible exact H2_) | with_reducible exact H | (rw [hy151]; exact H) | exact H
          have Ny151 := Aside0.mk hy151
          clear hy151
          have H' := Aside0.mk H
          clear H
          obtain ⟨hcz23_0, hcz23_1, hfz23_0, hfz23_1⟩ := blk_at2 BK137.out
          go_wp2_with (first | ((with_reducible refine gate_callee (f := 91) rfl ?_); refine goL_ (some 32) Try.func91 #[.int .i64 (l0_1.length : Int)] ?_; (with_reducible refine (frame_Count.calls k1 (l0_1.length : Int) t148 _ A21.out).mono ?_); rintro e w24 ⟨v149, rfl, ho0, hb⟩; refine ⟨_, rfl, ?_⟩; have n_ := pk4 (Kd.R_elder' (ro_ HO_4) (Kd.R_base ho0) hb) (Kd.R_lower (Kd.R_new' ho0 (Kd.R_lt (ro_ HO_4))) (below_size bl_)) (blk_below (bo_ BK137) hb) (below_step bl_ hb); clear HO_4 BK137 HB; obtain ⟨HO_4, HO150, BK137, HB⟩ := n_; (try clear hb ho0); obtain ⟨Ao26, co26, eo26⟩ := Kd.R_slice HO150.out; subst eo26) | ((with_reducible refine gate_builtin (b := .append) (xs := #[.tmp 28, .tmp 32]) rfl ?_); (try (refine gate_guard (by rfl) ?_; dsimp only)); at_builtin; refine Kd.R_append_rows (Kd.int .u8) (w0 := w) w.heap.size rfl (.tmp 28) (.tmp 32) 30 5 (.int .u8 0) 1 rfl Try.underlying30 info5 rfl (by decide) (by omega) u4 x4_1 t148 _ _ _ (fun k_ => some k_ ≠ (.slice Ao26 t148.length co26 : Value).ownBlock) (fun _ => False) rfl rfl ?aO ?aR (fun _ _ h => h) (fun _ h => h.elim) ?aF ?aB ?aS ?aL ?_; (case aR => exact cr_ HO150); (case aB => exact bl_); (case aF => exact (fun k_ hk => Kd.fresh' (Kd.R_lt (ro_ HO150)) k_ hk)); (case aO => exact (rt_ (Kd.R_mono HO_4.out (fun _ hk => hk.2)))); (case aS => exact (below_size bl_)); (case aL => have := LMc22.out; omega); intro v152 w25 ho hb hg hat; rw [← Ny151.out] at ho; have n_ := pk4 (blk_grown (bo_ BK137) hg (Kd.R_ne HO_4.out BK137.out (by decide))) (Kd.R_after (ok := (fun _ => True)) (ro_ HO150) hg hat) (hb) (ho); clear BK137 HO150 HB HO_4; obtain ⟨BK137, HO150, HB, HO153⟩ := n_; clear ho hb hg hat; have hcz27_0 : w25.cell? ⟨gb137, 0, none⟩ = some (.slice A0_0 l0_0.length c0_0) := (blk_cell BK137.out 0).trans rfl; have hcz27_1 : w25.cell? ⟨gb137, 1, none⟩ = some (.slice A0_1 l0_1.length c0_1) := (blk_cell BK137.out 1).trans rfl; have hfz27_0 := blk_frozen BK137.out 0; have hfz27_1 := blk_frozen BK137.out 1))
          go_loopg [4, 37] k1 (fun kq v4 v37 w' => ∃ (x4_2 : List Int) (x37_2 : Int), v37 = .int .i64 x37_2 ∧ Aside0 (frame_Encode.l1 kq x4_2 l0_1 (l0_1.length : Int) x37_2 = some (r1, r2)) ∧ Aside0 (kq ≤ k1) ∧ Aside0 (Kd.R (Kd.int .u8) 5 w' w.heap.size (fun _ => True) v4 x4_2) ∧ Aside0 (w'.heap[gb137]? = some (.cells #[(.slice A0_0 l0_0.length c0_0), (.slice A0_1 l0_1.length c0_1)] 48 (0, 0))) ∧ Aside0 (Below w.heap.size w w'))
          case atStart => exact ⟨(y151), (0), sm_, H', ⟨Nat.le_refl _⟩, ⟨(rt_ (Kd.R_mono HO153.out (fun _ hk => trivial)))⟩, ⟨(bo_ BK137)⟩, ⟨bl_⟩⟩
          case round =>
            clear H'
            try clear c7
            try clear c7b0
            try clear c22
            try clear hcz23_0
            try clear hcz23_1
            try clear hfz23_0
            try clear hfz23_1
            obtain ⟨x4_2, x37_2, rfl, HA, HK2, HO_4, BK137, HB⟩ := hrel
            cases gk with
            | zero => exact absurd HA.out (by simp [frame_Encode.l1])
            | succ k2 =>
              have H := HA.out
              clear HA
              simp only [frame_Encode.l1] at H
              replace H := dle H
              rcases H with ⟨c28b0, H⟩ | ⟨c28b0, H⟩
              focus
                replace H := dle H
                rcases H with ⟨c29b0, H⟩ | ⟨c29b0, H⟩
                rotate_left
                · exact absurd H (by simp)
                replace H := dle H
                rcases H with ⟨c30b0, H⟩ | ⟨c30b0, H⟩
                rotate_left
                · exact absurd H (by simp)
                replace H := bindA H
                obtain ⟨t155, A31, H⟩ := H
                try dsimp only at H
                by_cases c32 : x4_2.length + t155.length < 140737488355328
                rotate_left
                · rw [if_neg c32] at H
                  exact absurd H (by simp)
                rw [if_pos c32] at H
                have LMc32 := Aside0.mk c32
                clear c32
                obtain ⟨y158, hy158⟩ : ∃ y_ : List Int, y_ = (x4_2 ++ t155) := ⟨_, rfl⟩
                replace H : (if (y158.length : Int) > 4096 then (some (([] : List Int), 4)) else (if ((rdOf ByteArray.empty l0_1 x37_2).size : Int) > (wrap64 (4096 - (y158.length : Int))) then (some (([] : List Int), 4)) else (if y158.length + (rdOf ByteArray.empty l0_1 x37_2).size < 140737488355328 then (frame_Encode.l1 k2 (y158 ++ bytesOf (rdOf ByteArray.empty l0_1 x37_2)) l0_1 (l0_1.length : Int) (wrap64 (x37_2 + 1))) else (none)))) = some (r1, r2) := by first | (rw [hy158]; with_reducible exact H) | (have H2_ := (Option.bind_some _ _).symm.trans H; rw [hy158]; with_reducible exact H2_) | (have H2_ := (Option.bind_some _ _).symm.trans H; with_reducible exact H2_) | with_reducible exact H | (rw [hy158]; exact H) | exact H
                have Ny158 := Aside0.mk hy158
                clear hy158
                by_cases c33 : (y158.length : Int) > 4096
                focus
                  rw [if_pos c33] at H
                  have c33b0 : decide (4096 < (y158.length : Int)) = true := decide_eq_true c33
                  have c33b1 : decide (4096 < y158.length) = true := decide_eq_true (by omega)
                  clear c33
                  simp only [Option.some.injEq, Prod.mk.injEq] at H
                  obtain ⟨rfl, rfl⟩ := H
                  have p154 : 0 ≤ (x37_2 : Int) := dc_
                  have q154 : x37_2 < (l0_1.length : Int) := dc_
                  obtain ⟨ad154, e154, hx154_0⟩ := Kd.at_string HR0_1.out x37_2 p154 q154
                  cases e154
                  replace hx154_0 := (HB.out.cell (World.block_lt_of_cell? w _ hx154_0)).trans hx154_0
                  replace p154 := eq_true p154
                  replace q154 := eq_true q154
                rotate_left
                focus
                  rw [if_neg c33] at H
                  have c33b0 : decide (4096 < (y158.length : Int)) = false := decide_eq_false c33
                  have c33b1 : decide (4096 < y158.length) = false := decide_eq_false (by omega)
                  clear c33
                  replace H := dgt H
                  rcases H with ⟨c38b0, H⟩ | ⟨c38b0, H⟩
                  focus
                    simp only [Option.some.injEq, Prod.mk.injEq] at H
                    obtain ⟨rfl, rfl⟩ := H
                    have p154 : 0 ≤ (x37_2 : Int) := dc_
                    have q154 : x37_2 < (l0_1.length : Int) := dc_
                    obtain ⟨ad154, e154, hx154_0⟩ := Kd.at_string HR0_1.out x37_2 p154 q154
                    cases e154
                    replace hx154_0 := (HB.out.cell (World.block_lt_of_cell? w _ hx154_0)).trans hx154_0
                    replace p154 := eq_true p154
                    replace q154 := eq_true q154
                  rotate_left
                  focus
                    by_cases c43 : y158.length + (rdOf ByteArray.empty l0_1 x37_2).size < 140737488355328
                    rotate_left
                    · rw [if_neg c43] at H
                      exact absurd H (by simp)
                    rw [if_pos c43] at H
                    have LMc43 := Aside0.mk c43
                    clear c43
                    obtain ⟨y161, hy161⟩ : ∃ y_ : List Int, y_ = (y158 ++ bytesOf (rdOf ByteArray.empty l0_1 x37_2)) := ⟨_, rfl⟩
                    replace H : (frame_Encode.l1 k2 y161 l0_1 (l0_1.length : Int) (wrap64 (x37_2 + 1))) = some (r1, r2) := by first | (rw [hy161]; with_reducible exact H) | (have H2_ := (Option.bind_some _ _).symm.trans H; rw [hy161]; with_reducible exact H2_) | (have H2_ := (Option.bind_some _ _).symm.trans H; with_reducible exact H2_) | with_reducible exact H | (rw [hy161]; exact H) | exact H
                    have Ny161 := Aside0.mk hy161
                    clear hy161
                    have H' := Aside0.mk H
                    clear H
                    have p154 : 0 ≤ (x37_2 : Int) := dc_
                    have q154 : x37_2 < (l0_1.length : Int) := dc_
                    obtain ⟨ad154, e154, hx154_0⟩ := Kd.at_string HR0_1.out x37_2 p154 q154
                    cases e154
                    replace hx154_0 := (HB.out.cell (World.block_lt_of_cell? w _ hx154_0)).trans hx154_0
                    replace p154 := eq_true p154
                    replace q154 := eq_true q154
              rotate_left 3
              focus
                by_cases c49 : (x4_2.length : Int) > 4096
                focus
                  rw [if_pos c49] at H
                  have c49b0 : decide (4096 < (x4_2.length : Int)) = true := decide_eq_true c49
                  have c49b1 : decide (4096 < x4_2.length) = true := decide_eq_true (by omega)
                  clear c49
                  simp only [Option.some.injEq, Prod.mk.injEq] at H
                  obtain ⟨rfl, rfl⟩ := H
                  obtain ⟨Ao50, co50, eo50⟩ := Kd.R_slice HO_4.out
                  subst eo50
                rotate_left
                focus
                  rw [if_neg c49] at H
                  have c49b0 : decide (4096 < (x4_2.length : Int)) = false := decide_eq_false c49
                  have c49b1 : decide (4096 < x4_2.length) = false := decide_eq_false (by omega)
                  clear c49
                  simp only [Option.some.injEq, Prod.mk.injEq] at H
                  obtain ⟨rfl, rfl⟩ := H
                  obtain ⟨Ao51, co51, eo51⟩ := Kd.R_slice HO_4.out
                  subst eo51
              all_goals
                go_wp2_with (first | ((with_reducible refine gate_callee (f := 91) rfl ?_); refine goL_ (some 44) Try.func91 #[.int .i64 ((rdOf ByteArray.empty l0_1 x37_2).size : Int)] ?_; (with_reducible refine (frame_Count.calls k2 ((rdOf ByteArray.empty l0_1 x37_2).size : Int) t155 _ A31.out).mono ?_); rintro e w7000 ⟨v7000, rfl, ho0, hb⟩; refine ⟨_, rfl, ?_⟩; have n_ := pk4 (Kd.R_elder' (ro_ HO_4) (Kd.R_base ho0) hb) (Kd.R_lower (Kd.R_new' ho0 (Kd.R_lt (ro_ HO_4))) (below_size bl_)) (blk_below (bo_ BK137) hb) (below_step bl_ hb); clear HO_4 BK137 HB; obtain ⟨HO_4, HO7000, BK137, HB⟩ := n_; (try clear hb ho0); obtain ⟨Ao7000, co7000, eo7000⟩ := Kd.R_slice HO7000.out; subst eo7000) | ((with_reducible refine gate_builtin (b := .append) (xs := #[.tmp 41, .tmp 44]) rfl ?_); (try (refine gate_guard (by rfl) ?_; dsimp only)); at_builtin; refine Kd.R_append_rows (Kd.int .u8) (w0 := w) w.heap.size rfl (.tmp 41) (.tmp 44) 30 5 (.int .u8 0) 1 rfl Try.underlying30 info5 rfl (by decide) (by omega) u4 x4_2 t155 _ _ _ (fun k_ => some k_ ≠ (.slice Ao7000 t155.length co7000 : Value).ownBlock) (fun _ => False) rfl rfl ?aO ?aR (fun _ _ h => h) (fun _ h => h.elim) ?aF ?aB ?aS ?aL ?_; (case aR => exact cr_ HO7000); (case aB => exact bl_); (case aF => exact (fun k_ hk => Kd.fresh' (Kd.R_lt (ro_ HO7000)) k_ hk)); (case aO => exact (rt_ (Kd.R_mono HO_4.out (fun _ hk => hk.2)))); (case aS => exact (below_size bl_)); (case aL => have := LMc32.out; omega); intro v7001 w7001 ho hb hg hat; rw [← Ny158.out] at ho; have n_ := pk4 (blk_grown (bo_ BK137) hg (Kd.R_ne HO_4.out BK137.out (by decide))) (Kd.R_after (ok := (fun _ => True)) (ro_ HO7000) hg hat) (hb) (ho); clear BK137 HO7000 HB HO_4; obtain ⟨BK137, HO7000, HB, HO7001⟩ := n_; clear ho hb hg hat; obtain ⟨Ao7001, co7001, eo7001⟩ := Kd.R_slice HO7001.out; subst eo7001) | (at_builtin; refine Go.Proofs.YtfmdllbkfpbdcaaX.R_append_str (w0 := w) w.heap.size rfl (.tmp 57) _ 30 9 5 rfl Try.underlying30 Try.underlying9 info5 (.slice Ao7001 y158.length co7001) y158 (rdOf ByteArray.empty l0_1 x37_2) (fun k_ => some k_ ≠ (.slice Ao7000 t155.length co7000 : Value).ownBlock) rfl rfl ?aO ?aF ?aB ?aS ?aL ?_; (case aB => exact bl_); (case aF => exact (fun k_ hk => Kd.fresh' (Kd.R_lt (ro_ HO7000)) k_ hk)); (case aO => exact (ro_ HO7001)); (case aS => exact (below_size bl_)); (case aL => have := LMc43.out; omega); intro v7002 w7002 ho hb hg hat; rw [← Ny161.out] at ho; have n_ := pk4 (blk_grown (bo_ BK137) hg (Kd.R_ne HO7001.out BK137.out (by decide))) (Kd.R_after (ok := (fun _ => True)) (ro_ HO7000) hg hat) (hb) (ho); clear BK137 HO7000 HB HO7001; obtain ⟨BK137, HO7000, HB, HO7002⟩ := n_; clear ho hb hg hat))
                first
                  | go_ret2
                    first
                      | exact ⟨_, rf_, nl_, bl_⟩
                      | exact ⟨_, rf_, (ro_ HO_4), bl_⟩
                  | go_roundg k2
                    case measure => have := HK1.out; have := HK2.out; omega
                    case rel => exact ⟨(y161), (wrap64 (x37_2 + 1)), sm_, H', ⟨by have := HK1.out; have := HK2.out; omega⟩, ⟨(rt_ (Kd.R_mono HO7002.out (fun _ hk => trivial)))⟩, ⟨(bo_ BK137)⟩, ⟨bl_⟩⟩
        · rw [if_neg c22] at H
          exact absurd H (by simp)
      replace H := dle H
      rcases H with ⟨c8b0, H⟩ | ⟨c8b0, H⟩
      rotate_left
      · exact absurd H (by simp)
      replace H := dle H
      rcases H with ⟨c9b0, H⟩ | ⟨c9b0, H⟩
      rotate_left
      · exact absurd H (by simp)
      replace H := bindA H
      obtain ⟨t142, A10, H⟩ := H
      try dsimp only at H
      by_cases c11 : x4_1.length + t142.length < 140737488355328
      rotate_left
      · rw [if_neg c11] at H
        exact absurd H (by simp)
      rw [if_pos c11] at H
      have LMc11 := Aside0.mk c11
      clear c11
      obtain ⟨y145, hy145⟩ : ∃ y_ : List Int, y_ = (x4_1 ++ t142) := ⟨_, rfl⟩
      replace H : (if (y145.length : Int) > 4096 then (some (([] : List Int), 4)) else (frame_Encode.l0 k1 y145 l0_0 (l0_0.length : Int) (wrap64 (x16_1 + 1)) l0_0 l0_1)) = some (r1, r2) := by first | (rw [hy145]; with_reducible exact H) | (have H2_ := (Option.bind_some _ _).symm.trans H; rw [hy145]; with_reducible exact H2_) | (have H2_ := (Option.bind_some _ _).symm.trans H; with_reducible exact H2_) | with_reducible exact H | (rw [hy145]; exact H) | exact H
      have Ny145 := Aside0.mk hy145
      clear hy145
      by_cases c12 : (y145.length : Int) > 4096
      focus
        rw [if_pos c12] at H
        have c12b0 : decide (4096 < (y145.length : Int)) = true := decide_eq_true c12
        have c12b1 : decide (4096 < y145.length) = true := decide_eq_true (by omega)
        clear c12
        simp only [Option.some.injEq, Prod.mk.injEq] at H
        obtain ⟨rfl, rfl⟩ := H
        have p141 : 0 ≤ (x16_1 : Int) := dc_
        have q141 : x16_1 < (l0_0.length : Int) := dc_
        obtain ⟨ad141, e141, hx141_0⟩ := Kd.at_int HR0_0.out x16_1 p141 q141
        cases e141
        replace hx141_0 := (HB.out.cell (World.block_lt_of_cell? w _ hx141_0)).trans hx141_0
        replace p141 := eq_true p141
        replace q141 := eq_true q141
      rotate_left
      focus
        rw [if_neg c12] at H
        have c12b0 : decide (4096 < (y145.length : Int)) = false := decide_eq_false c12
        have c12b1 : decide (4096 < y145.length) = false := decide_eq_false (by omega)
        clear c12
        have H' := Aside0.mk H
        clear H
        have p141 : 0 ≤ (x16_1 : Int) := dc_
        have q141 : x16_1 < (l0_0.length : Int) := dc_
        obtain ⟨ad141, e141, hx141_0⟩ := Kd.at_int HR0_0.out x16_1 p141 q141
        cases e141
        replace hx141_0 := (HB.out.cell (World.block_lt_of_cell? w _ hx141_0)).trans hx141_0
        replace p141 := eq_true p141
        replace q141 := eq_true q141
      all_goals
        go_wp2_with (first | ((with_reducible refine gate_callee (f := 99) rfl ?_); refine goL_ (some 22) Try.func99 #[.int .i64 (rd l0_0 x16_1)] ?_; (with_reducible refine (frame_Number.calls k1 (rd l0_0 x16_1) t142 _ A10.out).mono ?_); rintro e w13 ⟨v143, rfl, ho0, hb⟩; refine ⟨_, rfl, ?_⟩; have n_ := pk4 (Kd.R_elder' (ro_ HO_4) (Kd.R_base ho0) hb) (Kd.R_lower (Kd.R_new' ho0 (Kd.R_lt (ro_ HO_4))) (below_size bl_)) (blk_below (bo_ BK137) hb) (below_step bl_ hb); clear HO_4 BK137 HB; obtain ⟨HO_4, HO144, BK137, HB⟩ := n_; (try clear hb ho0); obtain ⟨Ao15, co15, eo15⟩ := Kd.R_slice HO144.out; subst eo15) | ((with_reducible refine gate_callee (f := 99) rfl ?_); refine goL_ (some 22) Try.func99 #[.int .i64 (rd l0_0 x16_1)] ?_; (with_reducible refine (frame_Number.calls k1 (rd l0_0 x16_1) t142 _ A10.out).mono ?_); rintro e w17 ⟨v143, rfl, ho0, hb⟩; refine ⟨_, rfl, ?_⟩; have n_ := pk4 (Kd.R_elder' (ro_ HO_4) (Kd.R_base ho0) hb) (Kd.R_lower (Kd.R_new' ho0 (Kd.R_lt (ro_ HO_4))) (below_size bl_)) (blk_below (bo_ BK137) hb) (below_step bl_ hb); clear HO_4 BK137 HB; obtain ⟨HO_4, HO144, BK137, HB⟩ := n_; (try clear hb ho0); obtain ⟨Ao19, co19, eo19⟩ := Kd.R_slice HO144.out; subst eo19) | ((with_reducible refine gate_builtin (b := .append) (xs := #[.tmp 20, .tmp 22]) rfl ?_); (try (refine gate_guard (by rfl) ?_; dsimp only)); at_builtin; refine Kd.R_append_rows (Kd.int .u8) (w0 := w) w.heap.size rfl (.tmp 20) (.tmp 22) 30 5 (.int .u8 0) 1 rfl Try.underlying30 info5 rfl (by decide) (by omega) u4 x4_1 t142 _ _ _ (fun k_ => some k_ ≠ (.slice Ao15 t142.length co15 : Value).ownBlock) (fun _ => False) rfl rfl ?aO ?aR (fun _ _ h => h) (fun _ h => h.elim) ?aF ?aB ?aS ?aL ?_; (case aR => exact cr_ HO144); (case aB => exact bl_); (case aF => exact (fun k_ hk => Kd.fresh' (Kd.R_lt (ro_ HO144)) k_ hk)); (case aO => exact (rt_ (Kd.R_mono HO_4.out (fun _ hk => hk.2)))); (case aS => exact (below_size bl_)); (case aL => have := LMc11.out; omega); intro v146 w14 ho hb hg hat; rw [← Ny145.out] at ho; have n_ := pk4 (blk_grown (bo_ BK137) hg (Kd.R_ne HO_4.out BK137.out (by decide))) (Kd.R_after (ok := (fun _ => True)) (ro_ HO144) hg hat) (hb) (ho); clear BK137 HO144 HB HO_4; obtain ⟨BK137, HO144, HB, HO147⟩ := n_; clear ho hb hg hat; obtain ⟨Ao16, co16, eo16⟩ := Kd.R_slice HO147.out; subst eo16) | ((with_reducible refine gate_builtin (b := .append) (xs := #[.tmp 20, .tmp 22]) rfl ?_); (try (refine gate_guard (by rfl) ?_; dsimp only)); at_builtin; refine Kd.R_append_rows (Kd.int .u8) (w0 := w) w.heap.size rfl (.tmp 20) (.tmp 22) 30 5 (.int .u8 0) 1 rfl Try.underlying30 info5 rfl (by decide) (by omega) u4 x4_1 t142 _ _ _ (fun k_ => some k_ ≠ (.slice Ao19 t142.length co19 : Value).ownBlock) (fun _ => False) rfl rfl ?aO ?aR (fun _ _ h => h) (fun _ h => h.elim) ?aF ?aB ?aS ?aL ?_; (case aR => exact cr_ HO144); (case aB => exact bl_); (case aF => exact (fun k_ hk => Kd.fresh' (Kd.R_lt (ro_ HO144)) k_ hk)); (case aO => exact (rt_ (Kd.R_mono HO_4.out (fun _ hk => hk.2)))); (case aS => exact (below_size bl_)); (case aL => have := LMc11.out; omega); intro v146 w18 ho hb hg hat; rw [← Ny145.out] at ho; have n_ := pk4 (blk_grown (bo_ BK137) hg (Kd.R_ne HO_4.out BK137.out (by decide))) (Kd.R_after (ok := (fun _ => True)) (ro_ HO144) hg hat) (hb) (ho); clear BK137 HO144 HB HO_4; obtain ⟨BK137, HO144, HB, HO147⟩ := n_; clear ho hb hg hat; obtain ⟨Ao20, co20, eo20⟩ := Kd.R_slice HO147.out; subst eo20))
        first
          | go_ret2
            exact ⟨_, rf_, nl_, bl_⟩
          | go_roundg k1
            case measure => have := HK1.out; omega
            case rel => exact ⟨(y145), (wrap64 (x16_1 + 1)), sm_, H', ⟨by have := HK1.out; omega⟩, ⟨(rt_ (Kd.R_mono HO147.out (fun _ hk => trivial)))⟩, ⟨(bo_ BK137)⟩, ⟨bl_⟩⟩
mutual
def frame_Sum.l0 : Nat → Int → List Int → Int → Int → Option (Int)
  | 0, _, _, _, _ => none
  | k + 1, x3, x7, x8, x9 => if x9 < x8 then (if 0 ≤ x9 then (if x9 < (x7.length : Int) then (frame_Sum.l1 k (Go.bits .xor .u32 x3 ((((rd x7 x9) % 4294967296) * 16777216) % 4294967296)) x7 x8 x9 0) else (none)) else (none)) else (some x3)
def frame_Sum.l1 : Nat → Int → List Int → Int → Int → Int → Option (Int)
  | 0, _, _, _, _, _ => none
  | k + 1, x3, x7, x8, x9, x18 => if x18 < 8 then (if (x3 / 2147483648) = 1 then (frame_Sum.l1 k (Go.bits .xor .u32 ((x3 * 2) % 4294967296) 1947962583) x7 x8 x9 (wrap64 (x18 + 1))) else (frame_Sum.l1 k ((x3 * 2) % 4294967296) x7 x8 x9 (wrap64 (x18 + 1)))) else (frame_Sum.l0 k x3 x7 x8 (wrap64 (x9 + 1)))
end
def frame_Sum.f (k : Nat) (l0 : List Int) : Option (Int) := frame_Sum.l0 k 4294967295 l0 (l0.length : Int) 0
theorem frame_Sum.mono_l : ∀ k, (∀ y0 y1 y2 y3, LeO (frame_Sum.l0 k y0 y1 y2 y3) (frame_Sum.l0 (k + 1) y0 y1 y2 y3)) ∧ (∀ y0 y1 y2 y3 y4, LeO (frame_Sum.l1 k y0 y1 y2 y3 y4) (frame_Sum.l1 (k + 1) y0 y1 y2 y3 y4))
  | 0 => ⟨fun _ _ _ _ r h => by simp [frame_Sum.l0] at h, fun _ _ _ _ _ r h => by simp [frame_Sum.l1] at h⟩
  | k + 1 => by
    obtain ⟨ih0, ih1⟩ := frame_Sum.mono_l k
    refine ⟨?_, ?_⟩
    · intro y0 y1 y2 y3
      unfold frame_Sum.l0
      repeat' first
      | (with_reducible exact ih0 _ _ _ _)
      | (with_reducible exact ih1 _ _ _ _ _)
      | (with_reducible exact LeO.refl _)
      | (with_reducible exact LeO.none _)
      | (with_reducible refine LeO.ite ?_ ?_)
      | (with_reducible refine LeO.bind ?_ (fun _ => ?_))
      | exact ih0 _ _ _ _
      | exact ih1 _ _ _ _ _
      | exact LeO.none _
      | refine LeO.ite ?_ ?_
      | refine LeO.bind ?_ (fun _ => ?_)
    · intro y0 y1 y2 y3 y4
      unfold frame_Sum.l1
      repeat' first
      | (with_reducible exact ih0 _ _ _ _)
      | (with_reducible exact ih1 _ _ _ _ _)
      | (with_reducible exact LeO.refl _)
      | (with_reducible exact LeO.none _)
      | (with_reducible refine LeO.ite ?_ ?_)
      | (with_reducible refine LeO.bind ?_ (fun _ => ?_))
      | exact ih0 _ _ _ _
      | exact ih1 _ _ _ _ _
      | exact LeO.none _
      | refine LeO.ite ?_ ?_
      | refine LeO.bind ?_ (fun _ => ?_)
theorem frame_Sum.mono : ∀ a0 k, LeO (frame_Sum.f k a0) (frame_Sum.f (k + 1) a0) := by
  intro a0 k
  obtain ⟨ih0, ih1⟩ := frame_Sum.mono_l k
  unfold frame_Sum.f
  repeat' first
      | (with_reducible exact ih0 _ _ _ _)
      | (with_reducible exact ih1 _ _ _ _ _)
      | (with_reducible exact LeO.refl _)
      | (with_reducible exact LeO.none _)
      | (with_reducible refine LeO.ite ?_ ?_)
      | (with_reducible refine LeO.bind ?_ (fun _ => ?_))
      | exact ih0 _ _ _ _
      | exact ih1 _ _ _ _ _
      | exact LeO.none _
      | refine LeO.ite ?_ ?_
      | refine LeO.bind ?_ (fun _ => ?_)
set_option maxHeartbeats 8000000 in
set_option maxRecDepth 100000 in
theorem frame_Sum.calls (k : Nat) (A0 : Option Addr) (c0 : Nat) (l0 : List Int) (r : Int) (w : World) (hr0 : Kd.C (Kd.int .u8) w A0 l0.length l0) (hc0 : l0.length ≤ c0) (h : frame_Sum.f k l0 = some r) :
    Calls Try.prog 90 #[.slice A0 l0.length c0] w fun e w' => e = .returned (.int .u32 r) ∧ Drawn0 w w' := by
  have HR0 := Aside0.mk hr0
  have HC0 := Aside0.mk hc0
  clear hr0 hc0
  have H : (frame_Sum.l0 k 4294967295 l0 (l0.length : Int) 0) = some r := h
  clear h
  have H' := Aside0.mk H
  clear H
  go_enter Try.func90, Try.ntmps90
  go_wp2
  go_loopg [3, 9] k (fun kq v3 v9 w' => ∃ (x3_1 : Int) (x9_1 : Int), v3 = .int .u32 x3_1 ∧ v9 = .int .i64 x9_1 ∧ Aside0 (frame_Sum.l0 kq x3_1 l0 (l0.length : Int) x9_1 = some r) ∧ Aside0 (kq ≤ k) ∧ Drawn0 w w')
  case atStart => exact ⟨(4294967295), (0), sm_, sm_, H', ⟨Nat.le_refl _⟩, by repeat (first | exact Drawn0.refl _ | apply Drawn0.step)⟩
  case round =>
    clear H'
    obtain ⟨x3_1, x9_1, rfl, rfl, HA, HK1, ⟨m1, rfl⟩⟩ := hrel
    cases gk with
    | zero => exact absurd HA.out (by simp [frame_Sum.l0])
    | succ k1 =>
      have H := HA.out
      clear HA
      simp only [frame_Sum.l0] at H
      replace H := dle H
      rcases H with ⟨c2b0, H⟩ | ⟨c2b0, H⟩
      · replace H := dle H
        rcases H with ⟨c3b0, H⟩ | ⟨c3b0, H⟩
        · replace H := dle H
          rcases H with ⟨c4b0, H⟩ | ⟨c4b0, H⟩
          · have H' := Aside0.mk H
            clear H
            have p164 : 0 ≤ (x9_1 : Int) := dc_
            have q164 : x9_1 < (l0.length : Int) := dc_
            obtain ⟨ad164, e164, hx164_0⟩ := Kd.at_int HR0.out x9_1 p164 q164
            cases e164
            replace p164 := eq_true p164
            replace q164 := eq_true q164
            go_wp2
            go_loopg [3, 18] k1 (fun kq v3 v18 w' => ∃ (x3_2 : Int) (x18_2 : Int), v3 = .int .u32 x3_2 ∧ v18 = .int .i64 x18_2 ∧ Aside0 (frame_Sum.l1 kq x3_2 l0 (l0.length : Int) x9_1 x18_2 = some r) ∧ Aside0 (kq ≤ k1) ∧ Drawn0 w w')
            case atStart => exact ⟨(Go.bits .xor .u32 x3_1 ((((rd l0 x9_1) % 4294967296) * 16777216) % 4294967296)), (0), sm_, sm_, H', ⟨Nat.le_refl _⟩, by repeat (first | exact Drawn0.refl _ | apply Drawn0.step)⟩
            case round =>
              clear H'
              try clear c2
              try clear c2b0
              try clear c3
              try clear c3b0
              try clear c4
              try clear c4b0
              try clear hx164_0
              try clear p164
              try clear q164
              obtain ⟨x3_2, x18_2, rfl, rfl, HA, HK2, ⟨m2, rfl⟩⟩ := hrel
              cases gk with
              | zero => exact absurd HA.out (by simp [frame_Sum.l1])
              | succ k2 =>
                have H := HA.out
                clear HA
                simp only [frame_Sum.l1] at H
                replace H := dle H
                rcases H with ⟨c5b0, H⟩ | ⟨c5b0, H⟩
                focus
                  replace H := deqn H
                  rcases H with ⟨c6b0, c6b1, H⟩ | ⟨c6b0, c6b1, c6, H⟩
                  focus
                    have H' := Aside0.mk H
                    clear H
                  rotate_left
                  focus
                    have H' := Aside0.mk H
                    clear H
                rotate_left 2
                focus
                  have H' := Aside0.mk H
                  clear H
                all_goals
                  go_wp2
                  go_roundg k2
                  case measure => have := HK1.out; have := HK2.out; omega
                  first
                    | case rel => exact ⟨(Go.bits .xor .u32 ((x3_2 * 2) % 4294967296) 1947962583), (wrap64 (x18_2 + 1)), sm_, sm_, H', ⟨by have := HK1.out; have := HK2.out; omega⟩, by repeat (first | exact Drawn0.refl _ | apply Drawn0.step)⟩
                    | case rel => exact ⟨((x3_2 * 2) % 4294967296), (wrap64 (x18_2 + 1)), sm_, sm_, H', ⟨by have := HK1.out; have := HK2.out; omega⟩, by repeat (first | exact Drawn0.refl _ | apply Drawn0.step)⟩
                    | case rel => exact ⟨(x3_2), (wrap64 (x9_1 + 1)), sm_, sm_, H', ⟨by have := HK1.out; have := HK2.out; omega⟩, by repeat (first | exact Drawn0.refl _ | apply Drawn0.step)⟩
          exact absurd H (by simp)
        exact absurd H (by simp)
      obtain rfl := Option.some.inj H
      go_wp2
      go_ret
      exact ⟨by first | rfl | (simp; done) | (simp [*]; done), by repeat (first | exact Drawn0.refl _ | apply Drawn0.step)⟩
def frame_Frame.f (k : Nat) (l0_0 : List Int) (l0_1 : List ByteArray) : Option (List Int × Int) := (frame_Encode.f k l0_0 l0_1).bind fun bt166 => (if bt166.2 = 0 then ((frame_Sum.f k bt166.1).bind fun t170 => ((frame_Count.f k (bt166.1.length : Int)).bind fun t171 => (if t171.length + bt166.1.length < 140737488355328 then ((some (t171 ++ bt166.1 : List Int)).bind fun y174 => ((some (([(t170 / 16777216) % 256, (t170 / 65536) % 256, (t170 / 256) % 256, (t170) % 256] : List Int) : List Int)).bind fun y177 => (if y174.length + y177.length < 140737488355328 then (some ((y174 ++ y177), 0)) else (none)))) else (none)))) else (some (([] : List Int), bt166.2)))
theorem frame_Frame.mono : ∀ a0 a1 k, LeO (frame_Frame.f k a0 a1) (frame_Frame.f (k + 1) a0 a1) := by
  intro a0 a1 k
  unfold frame_Frame.f
  repeat' first
      | (with_reducible exact frame_Count.mono _ _)
      | (with_reducible exact frame_Encode.mono _ _ _)
      | (with_reducible exact frame_Sum.mono _ _)
      | (with_reducible exact LeO.refl _)
      | (with_reducible exact LeO.none _)
      | (with_reducible refine LeO.ite ?_ ?_)
      | (with_reducible refine LeO.bind ?_ (fun _ => ?_))
      | exact frame_Count.mono _ _
      | exact frame_Encode.mono _ _ _
      | exact frame_Sum.mono _ _
      | exact LeO.none _
      | refine LeO.ite ?_ ?_
      | refine LeO.bind ?_ (fun _ => ?_)
set_option maxHeartbeats 8000000 in
set_option maxRecDepth 100000 in
theorem frame_Frame.calls (k : Nat) (A0_0 : Option Addr) (c0_0 : Nat) (l0_0 : List Int) (A0_1 : Option Addr) (c0_1 : Nat) (l0_1 : List ByteArray) (r1 : List Int) (r2 : Int) (w : World) (hr0_0 : Kd.C (Kd.int .i64) w A0_0 l0_0.length l0_0) (hc0_0 : l0_0.length ≤ c0_0) (hr0_1 : Kd.C Kd.string w A0_1 l0_1.length l0_1) (hc0_1 : l0_1.length ≤ c0_1) (h : frame_Frame.f k l0_0 l0_1 = some (r1, r2)) :
    Calls Try.prog 73 #[.agg #[.slice A0_0 l0_0.length c0_0, .slice A0_1 l0_1.length c0_1]] w fun e w' => ∃ v0_ : Value, e = .returned (.tuple #[v0_, .int .i64 r2]) ∧ Kd.R (Kd.int .u8) 5 w' w.heap.size (fun _ => True) v0_ r1 ∧ Below w.heap.size w w' := by
  have hu48 := Try.underlying48
  have HR0_0 := Aside0.mk hr0_0
  have HC0_0 := Aside0.mk hc0_0
  clear hr0_0 hc0_0
  have HR0_1 := Aside0.mk hr0_1
  have HC0_1 := Aside0.mk hc0_1
  clear hr0_1 hc0_1
  have HB := Aside0.mk (Below.refl w.heap.size w)
  have H : ((frame_Encode.f k l0_0 l0_1).bind fun bt166 => (if bt166.2 = 0 then ((frame_Sum.f k bt166.1).bind fun t170 => ((frame_Count.f k (bt166.1.length : Int)).bind fun t171 => (if t171.length + bt166.1.length < 140737488355328 then ((some (t171 ++ bt166.1 : List Int)).bind fun y174 => ((some (([(t170 / 16777216) % 256, (t170 / 65536) % 256, (t170 / 256) % 256, (t170) % 256] : List Int) : List Int)).bind fun y177 => (if y174.length + y177.length < 140737488355328 then (some ((y174 ++ y177), 0)) else (none)))) else (none)))) else (some (([] : List Int), bt166.2)))) = some (r1, r2) := h
  clear h
  replace H := bindA H
  obtain ⟨⟨t166, t169⟩, A2, H⟩ := H
  try dsimp only at H
  replace H := deqn H
  rcases H with ⟨c3b0, c3b1, H⟩ | ⟨c3b0, c3b1, c3, H⟩
  focus
    replace H := bindA H
    obtain ⟨t170, A4, H⟩ := H
    try dsimp only at H
    replace H := bindA H
    obtain ⟨t171, A5, H⟩ := H
    try dsimp only at H
    by_cases c6 : t171.length + t166.length < 140737488355328
    rotate_left
    · rw [if_neg c6] at H
      exact absurd H (by simp)
    rw [if_pos c6] at H
    have LMc6 := Aside0.mk c6
    clear c6
    obtain ⟨y174, hy174⟩ : ∃ y_ : List Int, y_ = (t171 ++ t166) := ⟨_, rfl⟩
    replace H : ((some (([(t170 / 16777216) % 256, (t170 / 65536) % 256, (t170 / 256) % 256, (t170) % 256] : List Int) : List Int)).bind fun y177 => (if y174.length + y177.length < 140737488355328 then (some ((y174 ++ y177), 0)) else (none))) = some (r1, r2) := by first | (rw [hy174]; with_reducible exact H) | (have H2_ := (Option.bind_some _ _).symm.trans H; rw [hy174]; with_reducible exact H2_) | (have H2_ := (Option.bind_some _ _).symm.trans H; with_reducible exact H2_) | with_reducible exact H | (rw [hy174]; exact H) | exact H
    have Ny174 := Aside0.mk hy174
    clear hy174
    obtain ⟨y177, hy177⟩ : ∃ y_ : List Int, y_ = (([(t170 / 16777216) % 256, (t170 / 65536) % 256, (t170 / 256) % 256, (t170) % 256] : List Int)) := ⟨_, rfl⟩
    replace H : (if y174.length + y177.length < 140737488355328 then (some ((y174 ++ y177), 0)) else (none)) = some (r1, r2) := by first | (rw [hy177]; with_reducible exact H) | (have H2_ := (Option.bind_some _ _).symm.trans H; rw [hy177]; with_reducible exact H2_) | (have H2_ := (Option.bind_some _ _).symm.trans H; with_reducible exact H2_) | with_reducible exact H | (rw [hy177]; exact H) | exact H
    have Ny177 := Aside0.mk hy177
    clear hy177
    by_cases c7 : y174.length + y177.length < 140737488355328
    rotate_left
    · rw [if_neg c7] at H
      exact absurd H (by simp)
    rw [if_pos c7] at H
    have LMc7 := Aside0.mk c7
    clear c7
    obtain ⟨y180, hy180⟩ : ∃ y_ : List Int, y_ = (y174 ++ y177) := ⟨_, rfl⟩
    replace H : (some (y180, 0)) = some (r1, r2) := by first | (rw [hy180]; with_reducible exact H) | (have H2_ := (Option.bind_some _ _).symm.trans H; rw [hy180]; with_reducible exact H2_) | (have H2_ := (Option.bind_some _ _).symm.trans H; with_reducible exact H2_) | with_reducible exact H | (rw [hy180]; exact H) | exact H
    have Ny180 := Aside0.mk hy180
    clear hy180
    simp only [Option.some.injEq, Prod.mk.injEq] at H
    obtain ⟨rfl, rfl⟩ := H
  rotate_left
  focus
    simp only [Option.some.injEq, Prod.mk.injEq] at H
    obtain ⟨rfl, rfl⟩ := H
  all_goals
    go_enter Try.func73, Try.ntmps73
    go_wp2_with (first | ((with_reducible refine gate_dst (N := 1) rfl ?_); refine box_ev 1 #[.slice A0_0 l0_0.length c0_0, .slice A0_1 l0_1.length c0_1] 48 ?_; intro gb7000 hg w7000 hbox hb; have n_ := pk4 (below_step bl_ hb) (hbox) ((ge_ hg bl_ : w.heap.size ≤ gb7000)) ((ge_ hg bl_ : w.heap.size ≤ gb7000)); clear HB; obtain ⟨HB, BK7000, GW7000, GE7000⟩ := n_; clear hb hbox hg; have hcz7000_0 : w7000.cell? ⟨gb7000, 0, none⟩ = some (.slice A0_0 l0_0.length c0_0) := (blk_cell BK7000.out 0).trans rfl; have hcz7000_1 : w7000.cell? ⟨gb7000, 1, none⟩ = some (.slice A0_1 l0_1.length c0_1) := (blk_cell BK7000.out 1).trans rfl; have hfz7000_0 := blk_frozen BK7000.out 0; have hfz7000_1 := blk_frozen BK7000.out 1) | ((with_reducible refine gate_callee (f := 89) rfl ?_); refine goL_ (some 9) Try.func89 #[.agg #[.slice A0_0 l0_0.length c0_0, .slice A0_1 l0_1.length c0_1]] ?_; (with_reducible refine (frame_Encode.calls k _ _ l0_0 _ _ l0_1 t166 t169 _ ?side1 ?side2 ?side3 ?side4 A2.out).mono ?_); (case side1 => exact cb_ HR0_0); (case side2 => exact HC0_0.out); (case side3 => exact cb_ HR0_1); (case side4 => exact HC0_1.out); rintro e w7001 ⟨v7000, rfl, ho7000, hb⟩; refine ⟨_, rfl, ?_⟩; have n_ := pk3 (Kd.R_lower ho7000 (below_size bl_)) (blk_below (bo_ BK7000) hb) (below_step bl_ hb); clear BK7000 HB; obtain ⟨HO7000, BK7000, HB⟩ := n_; (try clear hb ho7000); (try (obtain ⟨Ao7000, co7000, eo7000⟩ := Kd.R_slice HO7000.out; subst eo7000))) | ((with_reducible refine gate_callee (f := 90) rfl ?_); refine goL_ (some 16) Try.func90 #[.slice Ao7000 t166.length co7000] ?_; (with_reducible refine (frame_Sum.calls k _ _ t166 t170 _ ?side1 ?side2 A4.out).mono ?_); (case side1 => exact cr_ HO7000); (case side2 => exact (Kd.R_reads' HO7000.out).2.1); rintro e w' ⟨rfl, ⟨nd, rfl⟩⟩; refine ⟨_, rfl, ?_⟩) | ((with_reducible refine gate_callee (f := 91) rfl ?_); refine goL_ (some 19) Try.func91 #[.int .i64 (t166.length : Int)] ?_; (with_reducible refine (frame_Count.calls k (t166.length : Int) t171 _ A5.out).mono ?_); rintro e w7002 ⟨v7001, rfl, ho7000, hb⟩; refine ⟨_, rfl, ?_⟩; have n_ := pk4 (Kd.R_elder' (ro_ HO7000) (Kd.R_base ho7000) hb) (Kd.R_lower (Kd.R_new' ho7000 (Kd.R_lt (ro_ HO7000))) (below_size bl_)) (blk_below (bo_ BK7000) hb) (below_step bl_ hb); clear HO7000 BK7000 HB; obtain ⟨HO7000, HO7001, BK7000, HB⟩ := n_; (try clear hb ho7000)) | ((with_reducible refine gate_builtin (b := .append) (xs := #[.tmp 19, .tmp 20]) rfl ?_); at_builtin; refine Kd.R_append_rows (Kd.int .u8) (w0 := w) w.heap.size rfl (.tmp 19) (.tmp 20) 30 5 (.int .u8 0) 1 rfl Try.underlying30 info5 rfl (by decide) (by omega) v7001 t171 t166 _ _ _ (fun k_ => some k_ ≠ (.slice Ao7000 t166.length co7000 : Value).ownBlock) (fun _ => False) rfl rfl ?aO ?aR (fun _ _ h => h) (fun _ h => h.elim) ?aF ?aB ?aS ?aL ?_; (case aR => exact cr_ HO7000); (case aB => exact bl_); (case aF => exact (fun k_ hk => Kd.fresh' (Kd.R_lt (ro_ HO7000)) k_ hk)); (case aO => exact (rt_ (Kd.R_mono HO7001.out (fun _ hk => hk.2)))); (case aS => exact (below_size bl_)); (case aL => have := LMc6.out; omega); intro v7002 w7003 ho hb hg hat; rw [← Ny174.out] at ho; have n_ := pk4 (blk_grown (bo_ BK7000) hg (Kd.R_ne HO7001.out BK7000.out (by decide))) (Kd.R_after (ok := (fun _ => True)) (ro_ HO7000) hg hat) (hb) (ho); clear BK7000 HO7000 HB HO7001; obtain ⟨BK7000, HO7000, HB, HO7002⟩ := n_; clear ho hb hg hat) | ((with_reducible refine gate_dst (N := 34) rfl ?_); refine Kd.R_lit (Kd.int .u8) _ 5 ?hg (N := 34) ?hd (xs := ([(t170 / 16777216) % 256, (t170 / 65536) % 256, (t170 / 256) % 256, (t170) % 256] : List Int)) (inner := [.int .u8 ((t170 / 16777216) % 256), .int .u8 ((t170 / 65536) % 256), .int .u8 ((t170 / 256) % 256), .int .u8 ((t170) % 256)]) (ok := fun _ => True) (okp := fun _ => True) ?hr ?hp (fun _ hk => hk) trivial (Below.refl _ _) (Nat.le_refl _) (by simp) ?_; (case hd => rfl); (case hg => rfl); (case hr => first | (go_simp; done) | (go_simp; rfl)); (case hp => exact (Reps.one (show Kd.M (Kd.int .u8) _ _ _ ((t170 / 16777216) % 256) [.int .u8 ((t170 / 16777216) % 256)] from rfl) (Reps.one (show Kd.M (Kd.int .u8) _ _ _ ((t170 / 65536) % 256) [.int .u8 ((t170 / 65536) % 256)] from rfl) (Reps.one (show Kd.M (Kd.int .u8) _ _ _ ((t170 / 256) % 256) [.int .u8 ((t170 / 256) % 256)] from rfl) (Reps.one (show Kd.M (Kd.int .u8) _ _ _ ((t170) % 256) [.int .u8 ((t170) % 256)] from rfl) (Reps.none _ _)))))); intro v7003 w7004 ho7001 hb hg_ hnew_; clear hg_ hnew_; (first | rw [← Ny177.out] at ho7001 | (simp only [Int.reduceToNat] at ho7001; rw [← Ny177.out] at ho7001)); have n_ := pk5 (Kd.R_elder' (ro_ HO7000) (Kd.R_base ho7001) hb) (Kd.R_elder' (ro_ HO7002) (Kd.R_base ho7001) hb) (Kd.R_lower (Kd.R_new' (Kd.R_new' ho7001 (Kd.R_lt (ro_ HO7000))) (Kd.R_lt (ro_ HO7002))) (below_size bl_)) (blk_below (bo_ BK7000) hb) (below_step bl_ hb); clear HO7000 HO7002 BK7000 HB; obtain ⟨HO7000, HO7002, HO7003, BK7000, HB⟩ := n_; clear hb ho7001; obtain ⟨Ao7001, co7001, eo7001⟩ := Kd.R_slice HO7003.out; subst eo7001) | ((with_reducible refine gate_builtin (b := .append) (xs := #[.tmp 22, .tmp 34]) rfl ?_); at_builtin; refine Kd.R_append_rows (Kd.int .u8) (w0 := w) w.heap.size rfl (.tmp 22) (.tmp 34) 30 5 (.int .u8 0) 1 rfl Try.underlying30 info5 rfl (by decide) (by omega) v7002 y174 y177 _ _ _ (fun k_ => some k_ ≠ (.slice Ao7000 t166.length co7000 : Value).ownBlock ∧ some k_ ≠ (.slice Ao7001 y177.length co7001 : Value).ownBlock) (fun _ => False) rfl rfl ?aO ?aR (fun _ _ h => h) (fun _ h => h.elim) ?aF ?aB ?aS ?aL ?_; (case aR => exact cr_ HO7003); (case aB => exact bl_); (case aF => exact (fun k_ hk => ⟨Kd.fresh' (Kd.R_lt (ro_ HO7000)) k_ hk, Kd.fresh' (Kd.R_lt (ro_ HO7003)) k_ hk⟩)); (case aO => exact (ro_ HO7002)); (case aS => exact (below_size bl_)); (case aL => have := LMc7.out; omega); intro v7004 w7005 ho hb hg hat; rw [← Ny180.out] at ho; have n_ := pk5 (blk_grown (bo_ BK7000) hg (Kd.R_ne HO7002.out BK7000.out (by decide))) (Kd.R_after (ok := (fun k_ => some k_ ≠ (.slice Ao7001 y177.length co7001 : Value).ownBlock)) (rt_ (Kd.R_mono HO7000.out (fun _ hk => ⟨hk.2, hk.1.2⟩))) hg hat) (Kd.R_after (ok := (fun k_ => some k_ ≠ (.slice Ao7000 t166.length co7000 : Value).ownBlock)) (rt_ (Kd.R_mono HO7003.out (fun _ hk => ⟨hk.1.2, hk.2⟩))) hg hat) (hb) (ho); clear BK7000 HO7000 HO7003 HB HO7002; obtain ⟨BK7000, HO7000, HO7003, HB, HO7004⟩ := n_; clear ho hb hg hat))
    go_ret2
    first
      | exact ⟨_, rf_, (rt_ (Kd.R_mono HO7004.out (fun _ hk => trivial))), bl_⟩
      | exact ⟨_, rf_, nl_, bl_⟩
def journal_four.f (a0 : Int) : Option (ByteArray) := some (strOfNums (([(a0 / 16777216) % 256, (a0 / 65536) % 256, (a0 / 256) % 256, (a0) % 256] : List Int)))
set_option maxHeartbeats 8000000 in
set_option maxRecDepth 100000 in
theorem journal_four.calls (a0 : Int) (r : ByteArray) (w : World) (h : journal_four.f a0 = some r) :
    Calls Try.prog 77 #[.int .i64 a0] w fun e w' => e = .returned (.string r) ∧ Below w.heap.size w w' := by
  have HB := Aside0.mk (Below.refl w.heap.size w)
  have H : (some (strOfNums (([(a0 / 16777216) % 256, (a0 / 65536) % 256, (a0 / 256) % 256, (a0) % 256] : List Int)))) = some r := h
  clear h
  obtain ⟨y183, hy183⟩ : ∃ y_ : List Int, y_ = (([(a0 / 16777216) % 256, (a0 / 65536) % 256, (a0 / 256) % 256, (a0) % 256] : List Int)) := ⟨_, rfl⟩
  replace H : (some (strOfNums y183)) = some r := by first | (rw [hy183]; with_reducible exact H) | (have H2_ := (Option.bind_some _ _).symm.trans H; rw [hy183]; with_reducible exact H2_) | (have H2_ := (Option.bind_some _ _).symm.trans H; with_reducible exact H2_) | with_reducible exact H | (rw [hy183]; exact H) | exact H
  have Ny183 := Aside0.mk hy183
  clear hy183
  obtain rfl := Option.some.inj H
  go_enter Try.func77, Try.ntmps77
  go_wp2_with (first | ((with_reducible refine gate_dst (N := 14) rfl ?_); refine Kd.R_lit (Kd.int .u8) _ 5 ?hg (N := 14) ?hd (xs := ([(a0 / 16777216) % 256, (a0 / 65536) % 256, (a0 / 256) % 256, (a0) % 256] : List Int)) (inner := [.int .u8 ((a0 / 16777216) % 256), .int .u8 ((a0 / 65536) % 256), .int .u8 ((a0 / 256) % 256), .int .u8 ((a0) % 256)]) (ok := fun _ => True) (okp := fun _ => True) ?hr ?hp (fun _ hk => hk) trivial (Below.refl _ _) (Nat.le_refl _) (by simp) ?_; (case hd => rfl); (case hg => rfl); (case hr => first | (go_simp; done) | (go_simp; rfl)); (case hp => exact (Reps.one (show Kd.M (Kd.int .u8) _ _ _ ((a0 / 16777216) % 256) [.int .u8 ((a0 / 16777216) % 256)] from rfl) (Reps.one (show Kd.M (Kd.int .u8) _ _ _ ((a0 / 65536) % 256) [.int .u8 ((a0 / 65536) % 256)] from rfl) (Reps.one (show Kd.M (Kd.int .u8) _ _ _ ((a0 / 256) % 256) [.int .u8 ((a0 / 256) % 256)] from rfl) (Reps.one (show Kd.M (Kd.int .u8) _ _ _ ((a0) % 256) [.int .u8 ((a0) % 256)] from rfl) (Reps.none _ _)))))); intro v7000 w7000 ho7000 hb hg_ hnew_; clear hg_ hnew_; (first | rw [← Ny183.out] at ho7000 | (simp only [Int.reduceToNat] at ho7000; rw [← Ny183.out] at ho7000)); have n_ := pk2 (Kd.R_lower ho7000 (below_size bl_)) (below_step bl_ hb); clear HB; obtain ⟨HO7000, HB⟩ := n_; clear hb ho7000; have hcv7000 := own_string (P := Try.prog) Try.underlying30 Try.underlying5 Try.underlying9 (Kd.own_of_R HO7000.out)))
  go_ret
  exact ⟨rf_, bl_⟩
end Go.Proofs.Ytfmdllbkfpbdcaa.G
end
section
namespace Go.Proofs.Ytfmdllbkfpbdcaa.G
open Go.RowKit Go.Proofs.YtfmdllbkfpbdcaaX Go.Proofs.YtfmdllbkfpbdcaaW.PrintWords Go.Proofs.YtfmdllbkfpbdcaaW.PrintLast Go.Proofs.YtfmdllbkfpbdcaaW.PrintMore
attribute [local go_sem] max2_int min2_int max_two min_two max_three min_three max_four min_four
def journal_framed.f (k : Nat) (l0_0 : List Int) (l0_1 : List ByteArray) (a1 : Int) : Option (List Int × Int) := (journal_four.f a1).bind fun t187 => ((some (([t187] : List ByteArray) : List ByteArray)).bind fun y188 => (if y188.length + l0_1.length < 8796093022208 then ((frame_Frame.f k l0_0 (y188 ++ l0_1)).bind fun bt194 => (some (bt194.1, bt194.2))) else (none)))
theorem journal_framed.mono : ∀ a0 a1 a2 k, LeO (journal_framed.f k a0 a1 a2) (journal_framed.f (k + 1) a0 a1 a2) := by
  intro a0 a1 a2 k
  unfold journal_framed.f
  repeat' first
      | (with_reducible exact frame_Frame.mono _ _ _)
      | (with_reducible exact LeO.refl _)
      | (with_reducible exact LeO.none _)
      | (with_reducible refine LeO.ite ?_ ?_)
      | (with_reducible refine LeO.bind ?_ (fun _ => ?_))
      | exact frame_Frame.mono _ _ _
      | exact LeO.none _
      | refine LeO.ite ?_ ?_
      | refine LeO.bind ?_ (fun _ => ?_)
def journal_framed.T1 : Bool × List (List Nat × List Nat) := (true, [([], []), ([0], [0]), ([], []), ([2], [2]), ([3], [3]), ([], []), ([5], [5]), ([4, 6, 3], [4, 6]), ([1, 7], [1, 7]), ([8, 7], [8]), ([9], [9]), ([9], [9]), ([10, 9, 0, 1, 2, 3, 4, 5, 6, 7, 8, 9, 10, 11], [10]), ([11, 12, 0, 1, 2, 3, 4, 5, 6, 7, 8, 9, 10, 11, 12], [11])])
def journal_framed.B1 : List Nat := [0, 1, 0, 4, 12, 0, 32, 124, 255, 511, 1023, 1023, 4095, 8191]
theorem journal_framed.tab1 : rtab .any (opsOf Try.f54 1) = journal_framed.T1 := by kernel_rfl
theorem journal_framed.bits1 : waitsOk journal_framed.T1.2 journal_framed.B1 = true := by kernel_rfl
set_option maxHeartbeats 8000000 in
set_option maxRecDepth 100000 in
theorem journal_framed.calls (k : Nat) (A0_0 : Option Addr) (c0_0 : Nat) (l0_0 : List Int) (A0_1 : Option Addr) (c0_1 : Nat) (l0_1 : List ByteArray) (a1 : Int) (r1 : List Int) (r2 : Int) (w : World) (hr0_0 : Kd.C (Kd.int .i64) w A0_0 l0_0.length l0_0) (hc0_0 : l0_0.length ≤ c0_0) (hr0_1 : Kd.C Kd.string w A0_1 l0_1.length l0_1) (hc0_1 : l0_1.length ≤ c0_1) (h : journal_framed.f k l0_0 l0_1 a1 = some (r1, r2)) :
    Calls Try.prog 54 #[.agg #[.slice A0_0 l0_0.length c0_0, .slice A0_1 l0_1.length c0_1], .int .i64 a1] w fun e w' => ∃ v0_ : Value, e = .returned (.tuple #[v0_, .int .i64 r2]) ∧ Kd.R (Kd.int .u8) 5 w' w.heap.size (fun _ => True) v0_ r1 ∧ Below w.heap.size w w' := by
  have hu48 := Try.underlying48
  have HR0_0 := Aside0.mk hr0_0
  have HC0_0 := Aside0.mk hc0_0
  clear hr0_0 hc0_0
  have HR0_1 := Aside0.mk hr0_1
  have HC0_1 := Aside0.mk hc0_1
  clear hr0_1 hc0_1
  have HB := Aside0.mk (Below.refl w.heap.size w)
  have H : ((journal_four.f a1).bind fun t187 => ((some (([t187] : List ByteArray) : List ByteArray)).bind fun y188 => (if y188.length + l0_1.length < 8796093022208 then ((frame_Frame.f k l0_0 (y188 ++ l0_1)).bind fun bt194 => (some (bt194.1, bt194.2))) else (none)))) = some (r1, r2) := h
  clear h
  replace H := bindA H
  obtain ⟨t187, A3, H⟩ := H
  try dsimp only at H
  obtain ⟨y188, hy188⟩ : ∃ y_ : List ByteArray, y_ = (([t187] : List ByteArray)) := ⟨_, rfl⟩
  replace H : (if y188.length + l0_1.length < 8796093022208 then ((frame_Frame.f k l0_0 (y188 ++ l0_1)).bind fun bt194 => (some (bt194.1, bt194.2))) else (none)) = some (r1, r2) := by first | (rw [hy188]; with_reducible exact H) | (have H2_ := (Option.bind_some _ _).symm.trans H; rw [hy188]; with_reducible exact H2_) | (have H2_ := (Option.bind_some _ _).symm.trans H; with_reducible exact H2_) | with_reducible exact H | (rw [hy188]; exact H) | exact H
  have Ny188 := Aside0.mk hy188
  clear hy188
  by_cases c4 : y188.length + l0_1.length < 8796093022208
  rotate_left
  · rw [if_neg c4] at H
    exact absurd H (by simp)
  rw [if_pos c4] at H
  have LMc4 := Aside0.mk c4
  clear c4
  obtain ⟨y191, hy191⟩ : ∃ y_ : List ByteArray, y_ = (y188 ++ l0_1) := ⟨_, rfl⟩
  replace H : ((frame_Frame.f k l0_0 y191).bind fun bt194 => (some (bt194.1, bt194.2))) = some (r1, r2) := by first | (rw [hy191]; with_reducible exact H) | (have H2_ := (Option.bind_some _ _).symm.trans H; rw [hy191]; with_reducible exact H2_) | (have H2_ := (Option.bind_some _ _).symm.trans H; with_reducible exact H2_) | with_reducible exact H | (rw [hy191]; exact H) | exact H
  have Ny191 := Aside0.mk hy191
  clear hy191
  replace H := bindA H
  obtain ⟨⟨t194, t197⟩, A5, H⟩ := H
  try dsimp only at H
  simp only [Option.some.injEq, Prod.mk.injEq] at H
  obtain ⟨rfl, rfl⟩ := H
  go_enter Try.func54, Try.ntmps54
  try go_wp2_with (first | ((with_reducible refine gate_dst (N := 2) rfl ?_); refine box_ev 2 #[.slice A0_0 l0_0.length c0_0, .slice A0_1 l0_1.length c0_1] 48 ?_; intro gb7000 hg w7000 hbox hb; have n_ := pk4 (below_step bl_ hb) (hbox) ((ge_ hg bl_ : w.heap.size ≤ gb7000)) ((ge_ hg bl_ : w.heap.size ≤ gb7000)); clear HB; obtain ⟨HB, BK7000, GW7000, GE7000⟩ := n_; clear hb hbox hg))
  have n7000_ := Aside0.mk (blk_drew BK7000.out)
  have n7001_ := Aside0.mk (below_drew1 HB.out)
  clear BK7000
  clear HB
  have BK7000 := n7000_
  have HB := n7001_
  clear n7000_ n7001_
  refine start_ (n := 14) (S := fun w' => w'.cell? ⟨gb7000, 0, none⟩ = some (.slice A0_0 l0_0.length c0_0) ∧ w'.cell? ⟨gb7000, 1, none⟩ = some (.slice A0_1 l0_1.length c0_1)) (ds := []) #[false, false, false, false, false, false, false, false, false, false, false, false, false, false] (by kernel_rfl) rfl rfl ⟨(blk_cell BK7000.out 0).trans rfl, (blk_cell BK7000.out 1).trans rfl⟩ (fun hHeld => ?_); refine with_tabW journal_framed.tab1 journal_framed.bits1 (fun HT_ HW_ => ?_)
  generalize w7000.drew = w7001 at BK7000 HB hHeld ⊢
  refine pure_ (i := 0) (N := some 6) (v := ?_) (a' := ?_) #[true, false, false, false, false, false, false, false, false, false, false, false, false, false] rfl rfl (any_of HT_.out (by kernel_rfl)) (fun _ _ _ h => h) (Or.inl ⟨by rfl, ?_⟩) ?_ ?_
  rotate_left
  · intro w'
    go_simp
    with_reducible rfl
  rotate_left
  · simp only [Act.put, List.setIfInBounds_toArray, List.set_cons_zero, List.set_cons_succ, i64_w, i32_w]
    rfl
  refine pure_ (i := 2) (N := some 8) (v := ?_) (a' := ?_) #[true, false, true, false, false, false, false, false, false, false, false, false, false, false] rfl rfl (any_of HT_.out (by kernel_rfl)) (fun _ _ _ h => h) (Or.inl ⟨by rfl, ?_⟩) ?_ ?_
  rotate_left
  · intro w'
    go_simp
    with_reducible rfl
  rotate_left
  · simp only [Act.put, List.setIfInBounds_toArray, List.set_cons_zero, List.set_cons_succ, i64_w, i32_w]
    rfl
  refine pure_ (i := 5) (N := some 11) (v := ?_) (a' := ?_) #[true, false, true, false, false, true, false, false, false, false, false, false, false, false] rfl rfl (any_of HT_.out (by kernel_rfl)) (fun _ _ _ h => h) (Or.inl ⟨by rfl, ?_⟩) ?_ ?_
  rotate_left
  · intro w'
    go_simp
    with_reducible rfl
  rotate_left
  · simp only [Act.put, List.setIfInBounds_toArray, List.set_cons_zero, List.set_cons_succ, i64_w, i32_w]
    rfl
  refine take_ (i := 1) (N := some 7) (v := ?_) (a' := ?_) #[true, true, true, false, false, true, false, false, false, false, false, false, false, false] rfl rfl (take_ofW HT_.out HW_.out (by kernel_rfl)) (fun _ _ _ h => h) (Or.inl ⟨by rfl, ?_⟩) hHeld ?_ ?_
  rotate_left
  · rintro w' ⟨s7000, s7001⟩
    go_simp
    with_reducible rfl
  rotate_left
  · simp only [Act.put, List.setIfInBounds_toArray, List.set_cons_zero, List.set_cons_succ, i64_w, i32_w]
    rfl
  refine take_ (i := 6) (N := some 12) (v := ?_) (a' := ?_) #[true, true, true, false, false, true, true, false, false, false, false, false, false, false] rfl rfl (take_ofW HT_.out HW_.out (by kernel_rfl)) (fun _ _ _ h => h) (Or.inl ⟨by rfl, ?_⟩) hHeld ?_ ?_
  rotate_left
  · rintro w' ⟨s7000, s7001⟩
    go_simp
    with_reducible rfl
  rotate_left
  · simp only [Act.put, List.setIfInBounds_toArray, List.set_cons_zero, List.set_cons_succ, i64_w, i32_w]
    rfl
  refine one_ (i := 3) (N := some 9) #[true, true, true, true, false, true, true, false, false, false, false, false, false, false] rfl rfl (one_of HT_.out (by kernel_rfl)) (by decide) (fun K hK => ?_)
  refine goes_ Try.func77 (by kernel_rfl) rfl #[.int .i64 a1] (by rfl) rfl rfl (by (try simp only [List.map_toArray, List.map_cons, List.map_nil]); first | done | rfl | (simp only [List.length_drop, List.length_take]; rfl)) ?_
  with_reducible refine (journal_four.calls a1 t187 _ A3.out).mono ?_
  rintro e w7002 ⟨rfl, hb⟩
  refine ⟨_, rfl, ?_⟩
  have n7000_ := Aside0.mk (blk_below (bo_ BK7000) hb)
  have n7001_ := Aside0.mk (below_step bl_ hb)
  clear BK7000
  clear HB
  have BK7000 := n7000_
  have HB := n7001_
  clear n7000_ n7001_
  (try clear hb)
  (try clear hb2)
  (try clear hk)
  (try clear hi)
  refine hK.out _ _ ⟨(blk_cell BK7000.out 0).trans rfl, (blk_cell BK7000.out 1).trans rfl⟩ (fun hHeld => ?_)
  clear hK K
  refine norm_ (a' := ?_) ?_ ?_
  rotate_left
  · show Act.put _ (some 9) _ = _
    simp only [Act.put, List.setIfInBounds_toArray, List.set_cons_zero, List.set_cons_succ, i64_w, i32_w]
    rfl
  refine one_ (i := 4) (N := some 10) #[true, true, true, true, true, true, true, false, false, false, false, false, false, false] rfl rfl (one_of HT_.out (by kernel_rfl)) (by decide) (fun K hK => ?_)
  refine Kd.R_lit_step Kd.string _ 9 ?hg (N := 10) ?hd (xs := ([t187] : List ByteArray)) (inner := [.string t187]) (ok := fun _ => True) (okp := fun _ => True) ?hr ?hp (fun _ hk => hk) trivial (Below.refl _ _) (Nat.le_refl _) (by simp) ?_; (case hd => rfl); (case hg => rfl); (case hr => first | (go_simp; done) | (go_simp; rfl)); (case hp => exact (Reps.one (show Kd.M Kd.string _ _ _ t187 [.string t187] from rfl) (Reps.none _ _)))
  intro v7000 w7003 ho7000 hb hg_ hnew_
  clear hg_ hnew_
  (first | rw [← Ny188.out] at ho7000 | (simp only [Int.reduceToNat] at ho7000; rw [← Ny188.out] at ho7000))
  have n7000_ := Aside0.mk (Kd.R_lower ho7000 (below_size bl_))
  have n7001_ := Aside0.mk (blk_below (bo_ BK7000) hb)
  have n7002_ := Aside0.mk (below_step bl_ hb)
  clear BK7000
  clear HB
  have HO7000 := n7000_
  have BK7000 := n7001_
  have HB := n7002_
  clear n7000_ n7001_ n7002_
  clear hb ho7000
  refine hK.out _ _ ⟨(blk_cell BK7000.out 0).trans rfl, (blk_cell BK7000.out 1).trans rfl⟩ (fun hHeld => ?_)
  clear hK K
  refine norm_ (a' := ?_) ?_ ?_
  rotate_left
  · show Act.put _ (some 10) _ = _
    simp only [Act.put, List.setIfInBounds_toArray, List.set_cons_zero, List.set_cons_succ, i64_w, i32_w]
    rfl
  refine one_ (i := 7) (N := some 13) #[true, true, true, true, true, true, true, true, false, false, false, false, false, false] rfl rfl (one_of HT_.out (by kernel_rfl)) (by decide) (fun K hK => ?_)
  refine Kd.R_append_rows_step Kd.string (w0 := w) w.heap.size (by rfl) (.tmp 10) (.tmp 12) 46 9 (.string ⟨#[]⟩) 16 rfl Try.underlying46 info9 rfl (by decide) (by omega) v7000 y188 l0_1 _ _ _ (fun _ => True) (fun _ => False) rfl rfl ?aO ?aR (fun _ _ h => h) (fun _ h => h.elim) ?aF ?aB ?aS ?aL ?_
  (case aR => exact cb_ HR0_1)
  (case aB => exact bl_)
  (case aF => exact (fun _ _ => trivial))
  (case aO => exact (ro_ HO7000))
  (case aS => exact (below_size bl_))
  (case aL => have := LMc4.out; omega)
  intro v7001 w7004 ho hb hg hat
  rw [← Ny191.out] at ho
  have n7000_ := Aside0.mk (blk_grown (bo_ BK7000) hg (Kd.R_ne HO7000.out BK7000.out (by decide)))
  have n7001_ := Aside0.mk (hb)
  have n7002_ := Aside0.mk (ho)
  clear BK7000
  clear HB
  clear HO7000
  have BK7000 := n7000_
  have HB := n7001_
  have HO7001 := n7002_
  clear n7000_ n7001_ n7002_
  clear ho hb hg hat
  obtain ⟨Ao7000, co7000, eo7000⟩ := Kd.R_slice HO7001.out
  (first | subst eo7000 | (injection eo7000 with f1_ f2_ f3_; have f7000_ := f1_.symm; have f7001_ := f3_.symm; clear f1_ f2_ f3_; subst f7000_; subst f7001_))
  refine hK.out _ _ ⟨(blk_cell BK7000.out 0).trans rfl, (blk_cell BK7000.out 1).trans rfl⟩ (fun hHeld => ?_)
  clear hK K
  refine norm_ (a' := ?_) ?_ ?_
  rotate_left
  · show Act.put _ (some 13) _ = _
    simp only [Act.put, List.setIfInBounds_toArray, List.set_cons_zero, List.set_cons_succ, i64_w, i32_w]
    rfl
  refine pure_ (i := 8) (N := some 14) (v := ?_) (a' := ?_) #[true, true, true, true, true, true, true, true, true, false, false, false, false, false] rfl rfl (any_of HT_.out (by kernel_rfl)) (fun _ _ _ h => h) (Or.inl ⟨by rfl, ?_⟩) ?_ ?_
  rotate_left
  · intro w'
    go_simp
    with_reducible rfl
  rotate_left
  · simp only [Act.put, List.setIfInBounds_toArray, List.set_cons_zero, List.set_cons_succ, i64_w, i32_w]
    rfl
  refine one_ (i := 9) (N := some 15) #[true, true, true, true, true, true, true, true, true, true, false, false, false, false] rfl rfl (one_of HT_.out (by kernel_rfl)) (by decide) (fun K hK => ?_)
  refine goes_ Try.func73 (by kernel_rfl) rfl #[.agg #[.slice A0_0 l0_0.length c0_0, .slice Ao7000 y191.length co7000]] (by rfl) rfl rfl (by (try simp only [List.map_toArray, List.map_cons, List.map_nil]); first | done | rfl | (simp only [List.length_drop, List.length_take]; rfl)) ?_
  with_reducible refine (frame_Frame.calls k _ _ l0_0 _ _ y191 t194 t197 _ ?side1 ?side2 ?side3 ?side4 A5.out).mono ?_
  (case side1 => exact cb_ HR0_0)
  (case side2 => exact HC0_0.out)
  (case side3 => exact cr_ HO7001)
  (case side4 => exact (Kd.R_reads' HO7001.out).2.1)
  rintro e w7005 ⟨v7002, rfl, ho7001, hb⟩
  refine ⟨_, rfl, ?_⟩
  have n7000_ := Aside0.mk (Kd.R_below (ro_ HO7001) hb)
  have n7001_ := Aside0.mk (Kd.R_lower ho7001 (below_size bl_))
  have n7002_ := Aside0.mk (blk_below (bo_ BK7000) hb)
  have n7003_ := Aside0.mk (below_step bl_ hb)
  clear HO7001
  clear BK7000
  clear HB
  have HO7001 := n7000_
  have HO7002 := n7001_
  have BK7000 := n7002_
  have HB := n7003_
  clear n7000_ n7001_ n7002_ n7003_
  (try clear hb)
  (try clear hb2)
  (try clear hk)
  (try clear hi)
  (try clear ho7001)
  refine hK.out _ _ ⟨(blk_cell BK7000.out 0).trans rfl, (blk_cell BK7000.out 1).trans rfl⟩ (fun hHeld => ?_)
  clear hK K
  refine norm_ (a' := ?_) ?_ ?_
  rotate_left
  · show Act.put _ (some 15) _ = _
    simp only [Act.put, List.setIfInBounds_toArray, List.set_cons_zero, List.set_cons_succ, i64_w, i32_w]
    rfl
  refine pure_ (i := 10) (N := some 16) (v := ?_) (a' := ?_) #[true, true, true, true, true, true, true, true, true, true, true, false, false, false] rfl rfl (any_of HT_.out (by kernel_rfl)) (fun _ _ _ h => h) (Or.inl ⟨by rfl, ?_⟩) ?_ ?_
  rotate_left
  · intro w'
    go_simp
    with_reducible rfl
  rotate_left
  · simp only [Act.put, List.setIfInBounds_toArray, List.set_cons_zero, List.set_cons_succ, i64_w, i32_w]
    rfl
  refine pure_ (i := 11) (N := some 17) (v := ?_) (a' := ?_) #[true, true, true, true, true, true, true, true, true, true, true, true, false, false] rfl rfl (any_of HT_.out (by kernel_rfl)) (fun _ _ _ h => h) (Or.inl ⟨by rfl, ?_⟩) ?_ ?_
  rotate_left
  · intro w'
    go_simp
    with_reducible rfl
  rotate_left
  · simp only [Act.put, List.setIfInBounds_toArray, List.set_cons_zero, List.set_cons_succ, i64_w, i32_w]
    rfl
  refine pure_ (i := 12) (N := some 4) (v := ?_) (a' := ?_) #[true, true, true, true, true, true, true, true, true, true, true, true, true, false] rfl rfl (any_of HT_.out (by kernel_rfl)) (fun _ _ _ h => h) (Or.inl ⟨by rfl, ?_⟩) ?_ ?_
  rotate_left
  · intro w'
    go_simp
    with_reducible rfl
  rotate_left
  · simp only [Act.put, List.setIfInBounds_toArray, List.set_cons_zero, List.set_cons_succ, i64_w, i32_w]
    rfl
  refine pure_ (i := 13) (N := some 5) (v := ?_) (a' := ?_) #[true, true, true, true, true, true, true, true, true, true, true, true, true, true] rfl rfl (any_of HT_.out (by kernel_rfl)) (fun _ _ _ h => h) (Or.inl ⟨by rfl, ?_⟩) ?_ ?_
  rotate_left
  · intro w'
    go_simp
    with_reducible rfl
  rotate_left
  · simp only [Act.put, List.setIfInBounds_toArray, List.set_cons_zero, List.set_cons_succ, i64_w, i32_w]
    rfl
  refine done_ (done_of HT_.out (by kernel_rfl)) ?_
  try go_wp2
  go_ret2
  exact ⟨_, rf_, (ro_ HO7002), bl_⟩
def frame_take.l0 : Nat → List Int → Int → Int → Int → Option (Int × List Int × Bool)
  | 0, _, _, _, _ => none
  | k + 1, x0, x5, x11, x12 => if x12 < x11 then (if 0 ≤ x12 then (if x12 < (x0.length : Int) then (if 0 ≤ (wrap64 (7 * x12)) then (if (IntKind.u64.wrap (rd x0 x12)) < 128 then (if x12 = 9 then (if 0 ≤ (wrap64 (x12 + 1)) then (if (wrap64 (x12 + 1)) ≤ (x0.length : Int) then ((some (x0.drop ((wrap64 (x12 + 1)) : Int).toNat : List Int)).bind fun y199 => (if ((IntKind.u64.wrap (rd x0 x12)) > 1) then (some (Go.bits .or .u64 x5 (shl .u64 (Go.bits .and .u64 (IntKind.u64.wrap (rd x0 x12)) 127) (wrap64 (7 * x12))), y199, false)) else (if (IntKind.u64.wrap (rd x0 x12)) > 0 then (some (Go.bits .or .u64 x5 (shl .u64 (Go.bits .and .u64 (IntKind.u64.wrap (rd x0 x12)) 127) (wrap64 (7 * x12))), y199, true)) else (some (Go.bits .or .u64 x5 (shl .u64 (Go.bits .and .u64 (IntKind.u64.wrap (rd x0 x12)) 127) (wrap64 (7 * x12))), y199, (x12 == 0)))))) else (none)) else (none)) else (if 0 ≤ (wrap64 (x12 + 1)) then (if (wrap64 (x12 + 1)) ≤ (x0.length : Int) then ((some (x0.drop ((wrap64 (x12 + 1)) : Int).toNat : List Int)).bind fun y204 => (if (IntKind.u64.wrap (rd x0 x12)) > 0 then (some (Go.bits .or .u64 x5 (shl .u64 (Go.bits .and .u64 (IntKind.u64.wrap (rd x0 x12)) 127) (wrap64 (7 * x12))), y204, true)) else (some (Go.bits .or .u64 x5 (shl .u64 (Go.bits .and .u64 (IntKind.u64.wrap (rd x0 x12)) 127) (wrap64 (7 * x12))), y204, (x12 == 0))))) else (none)) else (none))) else (frame_take.l0 k x0 (Go.bits .or .u64 x5 (shl .u64 (Go.bits .and .u64 (IntKind.u64.wrap (rd x0 x12)) 127) (wrap64 (7 * x12)))) x11 (wrap64 (x12 + 1)))) else (none)) else (none)) else (none)) else (some (0, ([] : List Int), false))
def frame_take.f (k : Nat) (l0 : List Int) : Option (Int × List Int × Bool) := frame_take.l0 k l0 0 (mn 10 (l0.length : Int)) 0
theorem frame_take.mono_l : ∀ k, (∀ y0 y1 y2 y3, LeO (frame_take.l0 k y0 y1 y2 y3) (frame_take.l0 (k + 1) y0 y1 y2 y3))
  | 0 => fun _ _ _ _ r h => by simp [frame_take.l0] at h
  | k + 1 => by
    have ih0 := frame_take.mono_l k
    · intro y0 y1 y2 y3
      unfold frame_take.l0
      repeat' first
      | (with_reducible exact ih0 _ _ _ _)
      | (with_reducible exact LeO.refl _)
      | (with_reducible exact LeO.none _)
      | (with_reducible refine LeO.ite ?_ ?_)
      | (with_reducible refine LeO.bind ?_ (fun _ => ?_))
      | exact ih0 _ _ _ _
      | exact LeO.none _
      | refine LeO.ite ?_ ?_
      | refine LeO.bind ?_ (fun _ => ?_)
theorem frame_take.mono : ∀ a0 k, LeO (frame_take.f k a0) (frame_take.f (k + 1) a0) := by
  intro a0 k
  have ih0 := frame_take.mono_l k
  unfold frame_take.f
  repeat' first
      | (with_reducible exact ih0 _ _ _ _)
      | (with_reducible exact LeO.refl _)
      | (with_reducible exact LeO.none _)
      | (with_reducible refine LeO.ite ?_ ?_)
      | (with_reducible refine LeO.bind ?_ (fun _ => ?_))
      | exact ih0 _ _ _ _
      | exact LeO.none _
      | refine LeO.ite ?_ ?_
      | refine LeO.bind ?_ (fun _ => ?_)
set_option maxHeartbeats 8000000 in
set_option maxRecDepth 100000 in
theorem frame_take.calls (k : Nat) (P0_ : Nat → Prop) (A0 : Option Addr) (c0 : Nat) (l0 : List Int) (r1 : Int) (r2 : List Int) (r3 : Bool) (w : World) (hs0 : Kd.V (Kd.int .u8) 5 w w.heap.size (fun k_ => P0_ k_) (.slice A0 l0.length c0) l0) (h : frame_take.f k l0 = some (r1, r2, r3)) :
    Calls Try.prog 94 #[.slice A0 l0.length c0] w fun e w' => ∃ v1_ : Value, e = .returned (.tuple #[.int .u64 r1, v1_, .bool r3]) ∧ Kd.V (Kd.int .u8) 5 w' w.heap.size (fun k_ => (P0_ k_ ∨ w.heap.size ≤ k_)) v1_ r2 ∧ Below w.heap.size w w' := by
  have HO0 := Aside0.mk (show Kd.V (Kd.int .u8) 5 w w.heap.size (fun k_ => (P0_ k_ ∨ w.heap.size ≤ k_)) (.slice A0 l0.length c0) l0 from Kd.V_mono hs0 (fun k_ hk => .inl hk))
  have HB := Aside0.mk (Below.refl w.heap.size w)
  have H : (frame_take.l0 k l0 0 (mn 10 (l0.length : Int)) 0) = some (r1, r2, r3) := h
  clear h
  obtain ⟨ji2, hji2⟩ : ∃ j_ : Int, (mn 10 (l0.length : Int)) = j_ := ⟨_, rfl⟩
  replace H : (frame_take.l0 k l0 0 ji2 0) = some (r1, r2, r3) := by first | (rw [hji2] at H; exact H) | (simp only [hji2] at H ⊢; exact H)
  (try (have hji2h : ji2 ≤ 10 := by (rw [← hji2]; unfold mn; (repeat' split) <;> omega)))
  (try (have hji2g : ji2 ≤ 64 := by omega))
  (try (have hji2l : 0 ≤ ji2 := by (rw [← hji2]; unfold mn; (repeat' split) <;> omega)))
  (try (have hji2m : 0 ≤ ji2 := by omega))
  have hji2_ : (if (l0.length : Int) < 10 then (l0.length : Int) else 10) = ji2 := hji2
  have H' := Aside0.mk H
  clear H
  go_enter Try.func94, Try.ntmps94
  go_wp2
  repeat (go_quiet (fail); try go_wp2)
  go_loopg [5, 12] k (fun kq v5 v12 w' => ∃ (x5_1 : Int) (x12_1 : Int), v5 = .int .u64 x5_1 ∧ v12 = .int .i64 x12_1 ∧ Aside0 (frame_take.l0 kq l0 x5_1 ji2 x12_1 = some (r1, r2, r3)) ∧ Aside0 (kq ≤ k) ∧ Aside0 (Kd.V (Kd.int .u8) 5 w' w.heap.size (fun k_ => (P0_ k_ ∨ w.heap.size ≤ k_)) (.slice A0 l0.length c0) l0) ∧ Aside0 (Below w.heap.size w w'))
  case atStart => exact ⟨(0), (0), sm_, sm_, H', ⟨Nat.le_refl _⟩, ⟨(vo_ HO0)⟩, ⟨bl_⟩⟩
  case round =>
    clear H'
    obtain ⟨x5_1, x12_1, rfl, rfl, HA, HK1, HO_0, HB⟩ := hrel
    cases gk with
    | zero => exact absurd HA.out (by simp [frame_take.l0])
    | succ k1 =>
      have H := HA.out
      clear HA
      simp only [frame_take.l0] at H
      replace H := dle H
      rcases H with ⟨c3b0, H⟩ | ⟨c3b0, H⟩
      focus
        replace H := dle H
        rcases H with ⟨c4b0, H⟩ | ⟨c4b0, H⟩
        rotate_left
        · exact absurd H (by simp)
        replace H := dle H
        rcases H with ⟨c5b0, H⟩ | ⟨c5b0, H⟩
        rotate_left
        · exact absurd H (by simp)
        obtain ⟨ji6, hji6⟩ : ∃ j_ : Int, (wrap64 (7 * x12_1)) = j_ := ⟨_, rfl⟩
        replace H : (if 0 ≤ (ji6) then (if (IntKind.u64.wrap (rd l0 x12_1)) < 128 then (if x12_1 = 9 then (if 0 ≤ (wrap64 (x12_1 + 1)) then (if (wrap64 (x12_1 + 1)) ≤ (l0.length : Int) then ((some (l0.drop ((wrap64 (x12_1 + 1)) : Int).toNat : List Int)).bind fun y199 => (if ((IntKind.u64.wrap (rd l0 x12_1)) > 1) then (some (Go.bits .or .u64 x5_1 (shl .u64 (Go.bits .and .u64 (IntKind.u64.wrap (rd l0 x12_1)) 127) (ji6)), y199, false)) else (if (IntKind.u64.wrap (rd l0 x12_1)) > 0 then (some (Go.bits .or .u64 x5_1 (shl .u64 (Go.bits .and .u64 (IntKind.u64.wrap (rd l0 x12_1)) 127) (ji6)), y199, true)) else (some (Go.bits .or .u64 x5_1 (shl .u64 (Go.bits .and .u64 (IntKind.u64.wrap (rd l0 x12_1)) 127) (ji6)), y199, (x12_1 == 0)))))) else (none)) else (none)) else (if 0 ≤ (wrap64 (x12_1 + 1)) then (if (wrap64 (x12_1 + 1)) ≤ (l0.length : Int) then ((some (l0.drop ((wrap64 (x12_1 + 1)) : Int).toNat : List Int)).bind fun y204 => (if (IntKind.u64.wrap (rd l0 x12_1)) > 0 then (some (Go.bits .or .u64 x5_1 (shl .u64 (Go.bits .and .u64 (IntKind.u64.wrap (rd l0 x12_1)) 127) (ji6)), y204, true)) else (some (Go.bits .or .u64 x5_1 (shl .u64 (Go.bits .and .u64 (IntKind.u64.wrap (rd l0 x12_1)) 127) (ji6)), y204, (x12_1 == 0))))) else (none)) else (none))) else (frame_take.l0 k1 l0 (Go.bits .or .u64 x5_1 (shl .u64 (Go.bits .and .u64 (IntKind.u64.wrap (rd l0 x12_1)) 127) (ji6))) ji2 (wrap64 (x12_1 + 1)))) else (none)) = some (r1, r2, r3) := by first | (rw [hji6] at H; exact H) | (simp only [hji6] at H ⊢; exact H)
        have hji6w : (IntKind.i64.wrap (7 * x12_1)) = ji6 := (i64_w _).trans hji6
        by_cases c7 : 0 ≤ (ji6)
        rotate_left
        · rw [if_neg c7] at H
          exact absurd H (by simp)
        rw [if_pos c7] at H
        have c7b0 := eq_true c7
        have c7b1 : decide (0 ≤ (ji6)) = true := decide_eq_true c7
        clear c7
        obtain ⟨ji8, hji8⟩ : ∃ j_ : Int, (shl .u64 (Go.bits .and .u64 (IntKind.u64.wrap (rd l0 x12_1)) 127) (ji6)) = j_ := ⟨_, rfl⟩
        replace H : (if (IntKind.u64.wrap (rd l0 x12_1)) < 128 then (if x12_1 = 9 then (if 0 ≤ (wrap64 (x12_1 + 1)) then (if (wrap64 (x12_1 + 1)) ≤ (l0.length : Int) then ((some (l0.drop ((wrap64 (x12_1 + 1)) : Int).toNat : List Int)).bind fun y199 => (if ((IntKind.u64.wrap (rd l0 x12_1)) > 1) then (some (Go.bits .or .u64 x5_1 (ji8), y199, false)) else (if (IntKind.u64.wrap (rd l0 x12_1)) > 0 then (some (Go.bits .or .u64 x5_1 (ji8), y199, true)) else (some (Go.bits .or .u64 x5_1 (ji8), y199, (x12_1 == 0)))))) else (none)) else (none)) else (if 0 ≤ (wrap64 (x12_1 + 1)) then (if (wrap64 (x12_1 + 1)) ≤ (l0.length : Int) then ((some (l0.drop ((wrap64 (x12_1 + 1)) : Int).toNat : List Int)).bind fun y204 => (if (IntKind.u64.wrap (rd l0 x12_1)) > 0 then (some (Go.bits .or .u64 x5_1 (ji8), y204, true)) else (some (Go.bits .or .u64 x5_1 (ji8), y204, (x12_1 == 0))))) else (none)) else (none))) else (frame_take.l0 k1 l0 (Go.bits .or .u64 x5_1 (ji8)) ji2 (wrap64 (x12_1 + 1)))) = some (r1, r2, r3) := by first | (rw [hji8] at H; exact H) | (simp only [hji8] at H ⊢; exact H)
        have hji8_ : (IntKind.u64.wrap ((Go.bits .and .u64 (IntKind.u64.wrap (rd l0 x12_1)) 127) * 2 ^ min (ji6).toNat 64)) = ji8 := hji8
        have hji8z : (ji6) ≤ 64 → (IntKind.u64.wrap ((Go.bits .and .u64 (IntKind.u64.wrap (rd l0 x12_1)) 127) * 2 ^ (ji6).toNat)) = ji8 := shl_small hji8
        replace H := dle H
        rcases H with ⟨c9b0, H⟩ | ⟨c9b0, H⟩
        focus
          replace H := deqn H
          rcases H with ⟨c10b0, c10b1, H⟩ | ⟨c10b0, c10b1, c10, H⟩
          focus
            obtain ⟨ji11, hji11⟩ : ∃ j_ : Int, (wrap64 (x12_1 + 1)) = j_ := ⟨_, rfl⟩
            replace H : (if 0 ≤ (ji11) then (if (ji11) ≤ (l0.length : Int) then ((some (l0.drop ((ji11) : Int).toNat : List Int)).bind fun y199 => (if ((IntKind.u64.wrap (rd l0 x12_1)) > 1) then (some (Go.bits .or .u64 x5_1 (ji8), y199, false)) else (if (IntKind.u64.wrap (rd l0 x12_1)) > 0 then (some (Go.bits .or .u64 x5_1 (ji8), y199, true)) else (some (Go.bits .or .u64 x5_1 (ji8), y199, (x12_1 == 0)))))) else (none)) else (none)) = some (r1, r2, r3) := by first | (rw [hji11] at H; exact H) | (simp only [hji11] at H ⊢; exact H)
            have hji11w : (IntKind.i64.wrap (x12_1 + 1)) = ji11 := (i64_w _).trans hji11
            by_cases c12 : 0 ≤ (ji11)
            rotate_left
            · rw [if_neg c12] at H
              exact absurd H (by simp)
            rw [if_pos c12] at H
            have c12b0 := eq_true c12
            have c12b1 : decide (0 ≤ (ji11)) = true := decide_eq_true c12
            clear c12
            by_cases c13 : (ji11) ≤ (l0.length : Int)
            rotate_left
            · rw [if_neg c13] at H
              exact absurd H (by simp)
            rw [if_pos c13] at H
            have c13b0 := eq_true c13
            have c13b1 : decide ((ji11) ≤ (l0.length : Int)) = true := decide_eq_true c13
            clear c13
            obtain ⟨y199, hy199⟩ : ∃ y_ : List Int, y_ = (l0.drop ((ji11) : Int).toNat) := ⟨_, rfl⟩
            replace H : (if ((IntKind.u64.wrap (rd l0 x12_1)) > 1) then (some (Go.bits .or .u64 x5_1 (ji8), y199, false)) else (if (IntKind.u64.wrap (rd l0 x12_1)) > 0 then (some (Go.bits .or .u64 x5_1 (ji8), y199, true)) else (some (Go.bits .or .u64 x5_1 (ji8), y199, (x12_1 == 0))))) = some (r1, r2, r3) := by first | (rw [hy199]; with_reducible exact H) | (have H2_ := (Option.bind_some _ _).symm.trans H; rw [hy199]; with_reducible exact H2_) | (have H2_ := (Option.bind_some _ _).symm.trans H; with_reducible exact H2_) | with_reducible exact H | (rw [hy199]; exact H) | exact H
            have Ny199 := Aside0.mk hy199
            clear hy199
            replace H := dgt H
            rcases H with ⟨c14b0, H⟩ | ⟨c14b0, H⟩
            focus
              simp only [Option.some.injEq, Prod.mk.injEq] at H
              obtain ⟨rfl, rfl, rfl⟩ := H
              have p198 : 0 ≤ (x12_1 : Int) := dc_
              have q198 : x12_1 < (l0.length : Int) := dc_
              obtain ⟨ad198, e198, hx198_0⟩ := Kd.at_int (Kd.V_reads' HO_0.out).2.2 x12_1 p198 q198
              cases e198
              replace p198 := eq_true p198
              replace q198 := eq_true q198
              have q15 : ((ji11) : Int) ≤ ((l0.length : Int) : Int) := dc_
              obtain ⟨i015, hi015, _, hsz15, _⟩ := info_parts info5
              have hroom15 : l0.length ≤ c0 := (Kd.V_reads' HO_0.out).2.1
              have hC15 : Kd.F (Kd.int .u8) _ _ (some ad198) l0.length l0 := (Kd.V_at (base := w.heap.size) HO_0.out).2.2
              have q015 : (0 : Int) ≤ ((ji11) : Int) := dc_
              have hcut15 := cut_from (P := Try.prog) 30 5 .i64 Try.underlying30 hi015 1 hsz15 (some ad198) l0.length c0 (ji11) q015 q15
              have hr15 := Kd.F_cut (m := ((ji11) : Int).toNat) (c := c0) hC15 (by omega) hroom15
              obtain ⟨A15, hA15⟩ : ∃ A1, A1 = (if c0 = ((ji11) : Int).toNat then (some ad198) else ((some ad198) : Option Addr).map (·.add (((ji11) : Int).toNat * 1))) := ⟨_, rfl⟩
              obtain ⟨c15, hc15⟩ : ∃ c1, c1 = c0 - ((ji11) : Int).toNat := ⟨_, rfl⟩
              have hy15 : y199.length = l0.length - ((ji11) : Int).toNat := (by rw [Ny199.out, List.length_drop] <;> omega)
            rotate_left
            focus
              replace H := dgt H
              rcases H with ⟨c16b0, H⟩ | ⟨c16b0, H⟩
              focus
                simp only [Option.some.injEq, Prod.mk.injEq] at H
                obtain ⟨rfl, rfl, rfl⟩ := H
                have p198 : 0 ≤ (x12_1 : Int) := dc_
                have q198 : x12_1 < (l0.length : Int) := dc_
                obtain ⟨ad198, e198, hx198_0⟩ := Kd.at_int (Kd.V_reads' HO_0.out).2.2 x12_1 p198 q198
                cases e198
                replace p198 := eq_true p198
                replace q198 := eq_true q198
                have q17 : ((ji11) : Int) ≤ ((l0.length : Int) : Int) := dc_
                obtain ⟨i017, hi017, _, hsz17, _⟩ := info_parts info5
                have hroom17 : l0.length ≤ c0 := (Kd.V_reads' HO_0.out).2.1
                have hC17 : Kd.F (Kd.int .u8) _ _ (some ad198) l0.length l0 := (Kd.V_at (base := w.heap.size) HO_0.out).2.2
                have q017 : (0 : Int) ≤ ((ji11) : Int) := dc_
                have hcut17 := cut_from (P := Try.prog) 30 5 .i64 Try.underlying30 hi017 1 hsz17 (some ad198) l0.length c0 (ji11) q017 q17
                have hr17 := Kd.F_cut (m := ((ji11) : Int).toNat) (c := c0) hC17 (by omega) hroom17
                obtain ⟨A17, hA17⟩ : ∃ A1, A1 = (if c0 = ((ji11) : Int).toNat then (some ad198) else ((some ad198) : Option Addr).map (·.add (((ji11) : Int).toNat * 1))) := ⟨_, rfl⟩
                obtain ⟨c17, hc17⟩ : ∃ c1, c1 = c0 - ((ji11) : Int).toNat := ⟨_, rfl⟩
                have hy17 : y199.length = l0.length - ((ji11) : Int).toNat := (by rw [Ny199.out, List.length_drop] <;> omega)
              rotate_left
              focus
                simp only [Option.some.injEq, Prod.mk.injEq] at H
                obtain ⟨rfl, rfl, rfl⟩ := H
                have p198 : 0 ≤ (x12_1 : Int) := dc_
                have q198 : x12_1 < (l0.length : Int) := dc_
                obtain ⟨ad198, e198, hx198_0⟩ := Kd.at_int (Kd.V_reads' HO_0.out).2.2 x12_1 p198 q198
                cases e198
                replace p198 := eq_true p198
                replace q198 := eq_true q198
                have q18 : ((ji11) : Int) ≤ ((l0.length : Int) : Int) := dc_
                obtain ⟨i018, hi018, _, hsz18, _⟩ := info_parts info5
                have hroom18 : l0.length ≤ c0 := (Kd.V_reads' HO_0.out).2.1
                have hC18 : Kd.F (Kd.int .u8) _ _ (some ad198) l0.length l0 := (Kd.V_at (base := w.heap.size) HO_0.out).2.2
                have q018 : (0 : Int) ≤ ((ji11) : Int) := dc_
                have hcut18 := cut_from (P := Try.prog) 30 5 .i64 Try.underlying30 hi018 1 hsz18 (some ad198) l0.length c0 (ji11) q018 q18
                have hr18 := Kd.F_cut (m := ((ji11) : Int).toNat) (c := c0) hC18 (by omega) hroom18
                obtain ⟨A18, hA18⟩ : ∃ A1, A1 = (if c0 = ((ji11) : Int).toNat then (some ad198) else ((some ad198) : Option Addr).map (·.add (((ji11) : Int).toNat * 1))) := ⟨_, rfl⟩
                obtain ⟨c18, hc18⟩ : ∃ c1, c1 = c0 - ((ji11) : Int).toNat := ⟨_, rfl⟩
                have hy18 : y199.length = l0.length - ((ji11) : Int).toNat := (by rw [Ny199.out, List.length_drop] <;> omega)
          rotate_left 3
          focus
            obtain ⟨ji19, hji19⟩ : ∃ j_ : Int, (wrap64 (x12_1 + 1)) = j_ := ⟨_, rfl⟩
            replace H : (if 0 ≤ (ji19) then (if (ji19) ≤ (l0.length : Int) then ((some (l0.drop ((ji19) : Int).toNat : List Int)).bind fun y204 => (if (IntKind.u64.wrap (rd l0 x12_1)) > 0 then (some (Go.bits .or .u64 x5_1 (ji8), y204, true)) else (some (Go.bits .or .u64 x5_1 (ji8), y204, (x12_1 == 0))))) else (none)) else (none)) = some (r1, r2, r3) := by first | (rw [hji19] at H; exact H) | (simp only [hji19] at H ⊢; exact H)
            have hji19w : (IntKind.i64.wrap (x12_1 + 1)) = ji19 := (i64_w _).trans hji19
            by_cases c20 : 0 ≤ (ji19)
            rotate_left
            · rw [if_neg c20] at H
              exact absurd H (by simp)
            rw [if_pos c20] at H
            have c20b0 := eq_true c20
            have c20b1 : decide (0 ≤ (ji19)) = true := decide_eq_true c20
            clear c20
            by_cases c21 : (ji19) ≤ (l0.length : Int)
            rotate_left
            · rw [if_neg c21] at H
              exact absurd H (by simp)
            rw [if_pos c21] at H
            have c21b0 := eq_true c21
            have c21b1 : decide ((ji19) ≤ (l0.length : Int)) = true := decide_eq_true c21
            clear c21
            obtain ⟨y204, hy204⟩ : ∃ y_ : List Int, y_ = (l0.drop ((ji19) : Int).toNat) := ⟨_, rfl⟩
            replace H : (if (IntKind.u64.wrap (rd l0 x12_1)) > 0 then (some (Go.bits .or .u64 x5_1 (ji8), y204, true)) else (some (Go.bits .or .u64 x5_1 (ji8), y204, (x12_1 == 0)))) = some (r1, r2, r3) := by first | (rw [hy204]; with_reducible exact H) | (have H2_ := (Option.bind_some _ _).symm.trans H; rw [hy204]; with_reducible exact H2_) | (have H2_ := (Option.bind_some _ _).symm.trans H; with_reducible exact H2_) | with_reducible exact H | (rw [hy204]; exact H) | exact H
            have Ny204 := Aside0.mk hy204
            clear hy204
            replace H := dgt H
            rcases H with ⟨c22b0, H⟩ | ⟨c22b0, H⟩
            focus
              simp only [Option.some.injEq, Prod.mk.injEq] at H
              obtain ⟨rfl, rfl, rfl⟩ := H
              have p198 : 0 ≤ (x12_1 : Int) := dc_
              have q198 : x12_1 < (l0.length : Int) := dc_
              obtain ⟨ad198, e198, hx198_0⟩ := Kd.at_int (Kd.V_reads' HO_0.out).2.2 x12_1 p198 q198
              cases e198
              replace p198 := eq_true p198
              replace q198 := eq_true q198
              have q23 : ((ji19) : Int) ≤ ((l0.length : Int) : Int) := dc_
              obtain ⟨i023, hi023, _, hsz23, _⟩ := info_parts info5
              have hroom23 : l0.length ≤ c0 := (Kd.V_reads' HO_0.out).2.1
              have hC23 : Kd.F (Kd.int .u8) _ _ (some ad198) l0.length l0 := (Kd.V_at (base := w.heap.size) HO_0.out).2.2
              have q023 : (0 : Int) ≤ ((ji19) : Int) := dc_
              have hcut23 := cut_from (P := Try.prog) 30 5 .i64 Try.underlying30 hi023 1 hsz23 (some ad198) l0.length c0 (ji19) q023 q23
              have hr23 := Kd.F_cut (m := ((ji19) : Int).toNat) (c := c0) hC23 (by omega) hroom23
              obtain ⟨A23, hA23⟩ : ∃ A1, A1 = (if c0 = ((ji19) : Int).toNat then (some ad198) else ((some ad198) : Option Addr).map (·.add (((ji19) : Int).toNat * 1))) := ⟨_, rfl⟩
              obtain ⟨c23, hc23⟩ : ∃ c1, c1 = c0 - ((ji19) : Int).toNat := ⟨_, rfl⟩
              have hy23 : y204.length = l0.length - ((ji19) : Int).toNat := (by rw [Ny204.out, List.length_drop] <;> omega)
            rotate_left
            focus
              simp only [Option.some.injEq, Prod.mk.injEq] at H
              obtain ⟨rfl, rfl, rfl⟩ := H
              have p198 : 0 ≤ (x12_1 : Int) := dc_
              have q198 : x12_1 < (l0.length : Int) := dc_
              obtain ⟨ad198, e198, hx198_0⟩ := Kd.at_int (Kd.V_reads' HO_0.out).2.2 x12_1 p198 q198
              cases e198
              replace p198 := eq_true p198
              replace q198 := eq_true q198
              have q24 : ((ji19) : Int) ≤ ((l0.length : Int) : Int) := dc_
              obtain ⟨i024, hi024, _, hsz24, _⟩ := info_parts info5
              have hroom24 : l0.length ≤ c0 := (Kd.V_reads' HO_0.out).2.1
              have hC24 : Kd.F (Kd.int .u8) _ _ (some ad198) l0.length l0 := (Kd.V_at (base := w.heap.size) HO_0.out).2.2
              have q024 : (0 : Int) ≤ ((ji19) : Int) := dc_
              have hcut24 := cut_from (P := Try.prog) 30 5 .i64 Try.underlying30 hi024 1 hsz24 (some ad198) l0.length c0 (ji19) q024 q24
              have hr24 := Kd.F_cut (m := ((ji19) : Int).toNat) (c := c0) hC24 (by omega) hroom24
              obtain ⟨A24, hA24⟩ : ∃ A1, A1 = (if c0 = ((ji19) : Int).toNat then (some ad198) else ((some ad198) : Option Addr).map (·.add (((ji19) : Int).toNat * 1))) := ⟨_, rfl⟩
              obtain ⟨c24, hc24⟩ : ∃ c1, c1 = c0 - ((ji19) : Int).toNat := ⟨_, rfl⟩
              have hy24 : y204.length = l0.length - ((ji19) : Int).toNat := (by rw [Ny204.out, List.length_drop] <;> omega)
        rotate_left 5
        focus
          have H' := Aside0.mk H
          clear H
          have p198 : 0 ≤ (x12_1 : Int) := dc_
          have q198 : x12_1 < (l0.length : Int) := dc_
          obtain ⟨ad198, e198, hx198_0⟩ := Kd.at_int (Kd.V_reads' HO_0.out).2.2 x12_1 p198 q198
          cases e198
          replace p198 := eq_true p198
          replace q198 := eq_true q198
      rotate_left 6
      focus
        simp only [Option.some.injEq, Prod.mk.injEq] at H
        obtain ⟨rfl, rfl, rfl⟩ := H
      all_goals
        first
          | rw [show (l0).drop ((ji11) : Int).toNat = y199 from Ny199.out.symm] at hr15
            replace hr15 : Kd.F (Kd.int .u8) _ _ A15 y199.length y199 := (by rw [hA15]; exact hr15)
            rw [← hy15, ← hA15, ← hc15] at hcut15
            have HO7000 := Aside0.mk (show Kd.V (Kd.int .u8) 5 _ w.heap.size _ (.slice A15 y199.length c15) y199 from Kd.V_mk (by rw [hy15, hc15]; exact Nat.sub_le_sub_right hroom15 _) hr15)
            have HC7000 := Aside0.mk (show y199.length ≤ c15 from by rw [hy15, hc15]; exact Nat.sub_le_sub_right hroom15 _)
            clear hr15 hC15 hroom15 hi015 hsz15 hc15
            have KY7000 := Aside0.mk hy15
            have KA7000 := Aside0.mk hA15
            clear hy15 hA15
            replace q15 := eq_true q15
            go_wp2
            repeat (go_quiet (fail); try go_wp2)
            go_ret3
            exact ⟨_, by first | rfl | (simp [errW_none, errW_some] <;> rfl) | (simp only [← hji2, ← hji6, ← hji8, ← hji11]; first | rfl | (simp [errW_none, errW_some] <;> rfl)) | (simp [*, errW_none, errW_some] <;> rfl), (vo_ HO7000), bl_⟩
          | rw [show (l0).drop ((ji11) : Int).toNat = y199 from Ny199.out.symm] at hr17
            replace hr17 : Kd.F (Kd.int .u8) _ _ A17 y199.length y199 := (by rw [hA17]; exact hr17)
            rw [← hy17, ← hA17, ← hc17] at hcut17
            have HO7000 := Aside0.mk (show Kd.V (Kd.int .u8) 5 _ w.heap.size _ (.slice A17 y199.length c17) y199 from Kd.V_mk (by rw [hy17, hc17]; exact Nat.sub_le_sub_right hroom17 _) hr17)
            have HC7000 := Aside0.mk (show y199.length ≤ c17 from by rw [hy17, hc17]; exact Nat.sub_le_sub_right hroom17 _)
            clear hr17 hC17 hroom17 hi017 hsz17 hc17
            have KY7000 := Aside0.mk hy17
            have KA7000 := Aside0.mk hA17
            clear hy17 hA17
            replace q17 := eq_true q17
            go_wp2
            repeat (go_quiet (fail); try go_wp2)
            go_ret3
            exact ⟨_, by first | rfl | (simp [errW_none, errW_some] <;> rfl) | (simp only [← hji2, ← hji6, ← hji8, ← hji11]; first | rfl | (simp [errW_none, errW_some] <;> rfl)) | (simp [*, errW_none, errW_some] <;> rfl), (vo_ HO7000), bl_⟩
          | rw [show (l0).drop ((ji11) : Int).toNat = y199 from Ny199.out.symm] at hr18
            replace hr18 : Kd.F (Kd.int .u8) _ _ A18 y199.length y199 := (by rw [hA18]; exact hr18)
            rw [← hy18, ← hA18, ← hc18] at hcut18
            have HO7000 := Aside0.mk (show Kd.V (Kd.int .u8) 5 _ w.heap.size _ (.slice A18 y199.length c18) y199 from Kd.V_mk (by rw [hy18, hc18]; exact Nat.sub_le_sub_right hroom18 _) hr18)
            have HC7000 := Aside0.mk (show y199.length ≤ c18 from by rw [hy18, hc18]; exact Nat.sub_le_sub_right hroom18 _)
            clear hr18 hC18 hroom18 hi018 hsz18 hc18
            have KY7000 := Aside0.mk hy18
            have KA7000 := Aside0.mk hA18
            clear hy18 hA18
            replace q18 := eq_true q18
            go_wp2
            repeat (go_quiet (fail); try go_wp2)
            go_ret3
            exact ⟨_, by first | rfl | (simp [errW_none, errW_some] <;> rfl) | (simp only [← hji2, ← hji6, ← hji8, ← hji11]; first | rfl | (simp [errW_none, errW_some] <;> rfl)) | (simp [*, errW_none, errW_some] <;> rfl), (vo_ HO7000), bl_⟩
          | rw [show (l0).drop ((ji19) : Int).toNat = y204 from Ny204.out.symm] at hr23
            replace hr23 : Kd.F (Kd.int .u8) _ _ A23 y204.length y204 := (by rw [hA23]; exact hr23)
            rw [← hy23, ← hA23, ← hc23] at hcut23
            have HO7000 := Aside0.mk (show Kd.V (Kd.int .u8) 5 _ w.heap.size _ (.slice A23 y204.length c23) y204 from Kd.V_mk (by rw [hy23, hc23]; exact Nat.sub_le_sub_right hroom23 _) hr23)
            have HC7000 := Aside0.mk (show y204.length ≤ c23 from by rw [hy23, hc23]; exact Nat.sub_le_sub_right hroom23 _)
            clear hr23 hC23 hroom23 hi023 hsz23 hc23
            have KY7000 := Aside0.mk hy23
            have KA7000 := Aside0.mk hA23
            clear hy23 hA23
            replace q23 := eq_true q23
            go_wp2
            repeat (go_quiet (fail); try go_wp2)
            go_ret3
            exact ⟨_, by first | rfl | (simp [errW_none, errW_some] <;> rfl) | (simp only [← hji2, ← hji6, ← hji8, ← hji19]; first | rfl | (simp [errW_none, errW_some] <;> rfl)) | (simp [*, errW_none, errW_some] <;> rfl), (vo_ HO7000), bl_⟩
          | rw [show (l0).drop ((ji19) : Int).toNat = y204 from Ny204.out.symm] at hr24
            replace hr24 : Kd.F (Kd.int .u8) _ _ A24 y204.length y204 := (by rw [hA24]; exact hr24)
            rw [← hy24, ← hA24, ← hc24] at hcut24
            have HO7000 := Aside0.mk (show Kd.V (Kd.int .u8) 5 _ w.heap.size _ (.slice A24 y204.length c24) y204 from Kd.V_mk (by rw [hy24, hc24]; exact Nat.sub_le_sub_right hroom24 _) hr24)
            have HC7000 := Aside0.mk (show y204.length ≤ c24 from by rw [hy24, hc24]; exact Nat.sub_le_sub_right hroom24 _)
            clear hr24 hC24 hroom24 hi024 hsz24 hc24
            have KY7000 := Aside0.mk hy24
            have KA7000 := Aside0.mk hA24
            clear hy24 hA24
            replace q24 := eq_true q24
            go_wp2
            repeat (go_quiet (fail); try go_wp2)
            go_ret3
            exact ⟨_, by first | rfl | (simp [errW_none, errW_some] <;> rfl) | (simp only [← hji2, ← hji6, ← hji8, ← hji19]; first | rfl | (simp [errW_none, errW_some] <;> rfl)) | (simp [*, errW_none, errW_some] <;> rfl), (vo_ HO7000), bl_⟩
          | go_wp2
            repeat (go_quiet (fail); try go_wp2)
            first
              | go_roundg k1
                case measure => have := HK1.out; omega
                case rel => exact ⟨(Go.bits .or .u64 x5_1 (ji8)), (wrap64 (x12_1 + 1)), (by first | rfl | (simp; done) | (simp only [← hji8] <;> (first | rfl | simp)) | (simp [*]; done)), sm_, H', ⟨by have := HK1.out; omega⟩, ⟨(vo_ HO_0)⟩, ⟨bl_⟩⟩
              | go_ret3
                exact ⟨_, by first | rfl | (simp [errW_none, errW_some] <;> rfl) | (simp only [← hji2]; first | rfl | (simp [errW_none, errW_some] <;> rfl)) | (simp [*, errW_none, errW_some] <;> rfl), Kd.V_mono (ok := fun _ => False) (Kd.R_V (Kd.R_nil _ _ _ 0 (fun _ => False))) (fun k_ hk => hk.elim), bl_⟩
end Go.Proofs.Ytfmdllbkfpbdcaa.G
end
section
namespace Go.Proofs.Ytfmdllbkfpbdcaa.G
open Go.RowKit Go.Proofs.YtfmdllbkfpbdcaaX Go.Proofs.YtfmdllbkfpbdcaaW.PrintWords Go.Proofs.YtfmdllbkfpbdcaaW.PrintLast Go.Proofs.YtfmdllbkfpbdcaaW.PrintMore
attribute [local go_sem] max2_int min2_int max_two min_two max_three min_three max_four min_four
mutual
def frame_Decode.l0 : Nat → List Int → Int → Bool → List Int → Option (List Int × List ByteArray × Int)
  | 0, _, _, _, _ => none
  | k + 1, x0, x5, x6, x211000 => if x6 = true then (frame_Decode.j1 k x0 x5 x6 (decide (x5 > 0)) x211000) else (frame_Decode.j1 k x0 x5 x6 false x211000)
def frame_Decode.j1 : Nat → List Int → Int → Bool → Bool → List Int → Option (List Int × List ByteArray × Int)
  | 0, _, _, _, _, _ => none
  | k + 1, x0, x5, x6, x23, x211000 => if x23 = true then ((frame_take.f k x0).bind fun bt216 => (if bt216.2.2 = true then (if x211000.length < 17592186044416 then (frame_Decode.l0 k bt216.2.1 (IntKind.u64.wrap (x5 - 1)) bt216.2.2 (x211000 ++ [wrap64 (Go.bits .xor .u64 (bt216.1 / 2) (IntKind.u64.wrap (-(Go.bits .and .u64 bt216.1 1))))])) else (none)) else (frame_Decode.l0 k bt216.2.1 (IntKind.u64.wrap (x5 - 1)) bt216.2.2 x211000))) else (if x6 = true then ((frame_take.f k x0).bind fun bt224 => (frame_Decode.j2 k bt224.2.1 bt224.1 bt224.2.2 x211000)) else (frame_Decode.j2 k x0 x5 x6 x211000))
def frame_Decode.j2 : Nat → List Int → Int → Bool → List Int → Option (List Int × List ByteArray × Int)
  | 0, _, _, _, _ => none
  | k + 1, x0, x5, x6, x211000 => frame_Decode.l1 k x0 x5 x6 x211000 ([] : List ByteArray)
def frame_Decode.l1 : Nat → List Int → Int → Bool → List Int → List ByteArray → Option (List Int × List ByteArray × Int)
  | 0, _, _, _, _, _ => none
  | k + 1, x0, x5, x6, x211000, x211001 => if x6 = true then (frame_Decode.j4 k x0 x5 x6 (decide (x5 > 0)) x211000 x211001) else (frame_Decode.j4 k x0 x5 x6 false x211000 x211001)
def frame_Decode.j4 : Nat → List Int → Int → Bool → Bool → List Int → List ByteArray → Option (List Int × List ByteArray × Int)
  | 0, _, _, _, _, _, _ => none
  | k + 1, x0, x5, x6, x56, x211000, x211001 => if x56 = true then ((frame_take.f k x0).bind fun bt229 => (if bt229.2.2 = true then (if bt229.1 ≤ (IntKind.u64.wrap ((bt229.2.1.length : Int))) then (if 0 ≤ bt229.1 then (if bt229.1 ≤ (bt229.2.1.length : Int) then (if x211001.length < 8796093022208 then (frame_Decode.l1 k (bt229.2.1.drop (bt229.1 : Int).toNat) (IntKind.u64.wrap (x5 - 1)) bt229.2.2 x211000 (x211001 ++ [strOfNums (bt229.2.1.take (bt229.1 : Int).toNat)])) else (none)) else (none)) else (none)) else (frame_Decode.l1 k bt229.2.1 (IntKind.u64.wrap (x5 - 1)) false x211000 x211001)) else (frame_Decode.l1 k bt229.2.1 (IntKind.u64.wrap (x5 - 1)) false x211000 x211001))) else (if x6 = true then (if (x0.length : Int) > 0 then (some (([] : List Int), ([] : List ByteArray), 2)) else (some (x211000, x211001, 0))) else (some (([] : List Int), ([] : List ByteArray), 2)))
end
def frame_Decode.f (k : Nat) (l0 : List Int) : Option (List Int × List ByteArray × Int) := if (l0.length : Int) > 4096 then (some (([] : List Int), ([] : List ByteArray), 4)) else ((frame_take.f k l0).bind fun bt211 => (frame_Decode.l0 k bt211.2.1 bt211.1 bt211.2.2 ([] : List Int)))
theorem frame_Decode.mono_l : ∀ k, (∀ y0 y1 y2 y3, LeO (frame_Decode.l0 k y0 y1 y2 y3) (frame_Decode.l0 (k + 1) y0 y1 y2 y3)) ∧ (∀ y0 y1 y2 y3 y4, LeO (frame_Decode.j1 k y0 y1 y2 y3 y4) (frame_Decode.j1 (k + 1) y0 y1 y2 y3 y4)) ∧ (∀ y0 y1 y2 y3, LeO (frame_Decode.j2 k y0 y1 y2 y3) (frame_Decode.j2 (k + 1) y0 y1 y2 y3)) ∧ (∀ y0 y1 y2 y3 y4, LeO (frame_Decode.l1 k y0 y1 y2 y3 y4) (frame_Decode.l1 (k + 1) y0 y1 y2 y3 y4)) ∧ (∀ y0 y1 y2 y3 y4 y5, LeO (frame_Decode.j4 k y0 y1 y2 y3 y4 y5) (frame_Decode.j4 (k + 1) y0 y1 y2 y3 y4 y5))
  | 0 => ⟨fun _ _ _ _ r h => by simp [frame_Decode.l0] at h, fun _ _ _ _ _ r h => by simp [frame_Decode.j1] at h, fun _ _ _ _ r h => by simp [frame_Decode.j2] at h, fun _ _ _ _ _ r h => by simp [frame_Decode.l1] at h, fun _ _ _ _ _ _ r h => by simp [frame_Decode.j4] at h⟩
  | k + 1 => by
    obtain ⟨ih0, ih1, ih2, ih3, ih4⟩ := frame_Decode.mono_l k
    refine ⟨?_, ?_, ?_, ?_, ?_⟩
    · intro y0 y1 y2 y3
      unfold frame_Decode.l0
      repeat' first
      | (with_reducible exact ih0 _ _ _ _)
      | (with_reducible exact ih1 _ _ _ _ _)
      | (with_reducible exact ih2 _ _ _ _)
      | (with_reducible exact ih3 _ _ _ _ _)
      | (with_reducible exact ih4 _ _ _ _ _ _)
      | (with_reducible exact frame_take.mono _ _)
      | (with_reducible exact LeO.refl _)
      | (with_reducible exact LeO.none _)
      | (with_reducible refine LeO.ite ?_ ?_)
      | (with_reducible refine LeO.bind ?_ (fun _ => ?_))
      | exact ih0 _ _ _ _
      | exact ih1 _ _ _ _ _
      | exact ih2 _ _ _ _
      | exact ih3 _ _ _ _ _
      | exact ih4 _ _ _ _ _ _
      | exact frame_take.mono _ _
      | exact LeO.none _
      | refine LeO.ite ?_ ?_
      | refine LeO.bind ?_ (fun _ => ?_)
    · intro y0 y1 y2 y3 y4
      unfold frame_Decode.j1
      repeat' first
      | (with_reducible exact ih0 _ _ _ _)
      | (with_reducible exact ih1 _ _ _ _ _)
      | (with_reducible exact ih2 _ _ _ _)
      | (with_reducible exact ih3 _ _ _ _ _)
      | (with_reducible exact ih4 _ _ _ _ _ _)
      | (with_reducible exact frame_take.mono _ _)
      | (with_reducible exact LeO.refl _)
      | (with_reducible exact LeO.none _)
      | (with_reducible refine LeO.ite ?_ ?_)
      | (with_reducible refine LeO.bind ?_ (fun _ => ?_))
      | exact ih0 _ _ _ _
      | exact ih1 _ _ _ _ _
      | exact ih2 _ _ _ _
      | exact ih3 _ _ _ _ _
      | exact ih4 _ _ _ _ _ _
      | exact frame_take.mono _ _
      | exact LeO.none _
      | refine LeO.ite ?_ ?_
      | refine LeO.bind ?_ (fun _ => ?_)
    · intro y0 y1 y2 y3
      unfold frame_Decode.j2
      repeat' first
      | (with_reducible exact ih0 _ _ _ _)
      | (with_reducible exact ih1 _ _ _ _ _)
      | (with_reducible exact ih2 _ _ _ _)
      | (with_reducible exact ih3 _ _ _ _ _)
      | (with_reducible exact ih4 _ _ _ _ _ _)
      | (with_reducible exact frame_take.mono _ _)
      | (with_reducible exact LeO.refl _)
      | (with_reducible exact LeO.none _)
      | (with_reducible refine LeO.ite ?_ ?_)
      | (with_reducible refine LeO.bind ?_ (fun _ => ?_))
      | exact ih0 _ _ _ _
      | exact ih1 _ _ _ _ _
      | exact ih2 _ _ _ _
      | exact ih3 _ _ _ _ _
      | exact ih4 _ _ _ _ _ _
      | exact frame_take.mono _ _
      | exact LeO.none _
      | refine LeO.ite ?_ ?_
      | refine LeO.bind ?_ (fun _ => ?_)
    · intro y0 y1 y2 y3 y4
      unfold frame_Decode.l1
      repeat' first
      | (with_reducible exact ih0 _ _ _ _)
      | (with_reducible exact ih1 _ _ _ _ _)
      | (with_reducible exact ih2 _ _ _ _)
      | (with_reducible exact ih3 _ _ _ _ _)
      | (with_reducible exact ih4 _ _ _ _ _ _)
      | (with_reducible exact frame_take.mono _ _)
      | (with_reducible exact LeO.refl _)
      | (with_reducible exact LeO.none _)
      | (with_reducible refine LeO.ite ?_ ?_)
      | (with_reducible refine LeO.bind ?_ (fun _ => ?_))
      | exact ih0 _ _ _ _
      | exact ih1 _ _ _ _ _
      | exact ih2 _ _ _ _
      | exact ih3 _ _ _ _ _
      | exact ih4 _ _ _ _ _ _
      | exact frame_take.mono _ _
      | exact LeO.none _
      | refine LeO.ite ?_ ?_
      | refine LeO.bind ?_ (fun _ => ?_)
    · intro y0 y1 y2 y3 y4 y5
      unfold frame_Decode.j4
      repeat' first
      | (with_reducible exact ih0 _ _ _ _)
      | (with_reducible exact ih1 _ _ _ _ _)
      | (with_reducible exact ih2 _ _ _ _)
      | (with_reducible exact ih3 _ _ _ _ _)
      | (with_reducible exact ih4 _ _ _ _ _ _)
      | (with_reducible exact frame_take.mono _ _)
      | (with_reducible exact LeO.refl _)
      | (with_reducible exact LeO.none _)
      | (with_reducible refine LeO.ite ?_ ?_)
      | (with_reducible refine LeO.bind ?_ (fun _ => ?_))
      | exact ih0 _ _ _ _
      | exact ih1 _ _ _ _ _
      | exact ih2 _ _ _ _
      | exact ih3 _ _ _ _ _
      | exact ih4 _ _ _ _ _ _
      | exact frame_take.mono _ _
      | exact LeO.none _
      | refine LeO.ite ?_ ?_
      | refine LeO.bind ?_ (fun _ => ?_)
theorem frame_Decode.mono : ∀ a0 k, LeO (frame_Decode.f k a0) (frame_Decode.f (k + 1) a0) := by
  intro a0 k
  obtain ⟨ih0, ih1, ih2, ih3, ih4⟩ := frame_Decode.mono_l k
  unfold frame_Decode.f
  repeat' first
      | (with_reducible exact ih0 _ _ _ _)
      | (with_reducible exact ih1 _ _ _ _ _)
      | (with_reducible exact ih2 _ _ _ _)
      | (with_reducible exact ih3 _ _ _ _ _)
      | (with_reducible exact ih4 _ _ _ _ _ _)
      | (with_reducible exact frame_take.mono _ _)
      | (with_reducible exact LeO.refl _)
      | (with_reducible exact LeO.none _)
      | (with_reducible refine LeO.ite ?_ ?_)
      | (with_reducible refine LeO.bind ?_ (fun _ => ?_))
      | exact ih0 _ _ _ _
      | exact ih1 _ _ _ _ _
      | exact ih2 _ _ _ _
      | exact ih3 _ _ _ _ _
      | exact ih4 _ _ _ _ _ _
      | exact frame_take.mono _ _
      | exact LeO.none _
      | refine LeO.ite ?_ ?_
      | refine LeO.bind ?_ (fun _ => ?_)
def frame_Decode.T18 : Bool × List (List Nat × List Nat) := (true, [([], []), ([0], [0]), ([], []), ([], []), ([2, 3], [2, 3]), ([4], [4]), ([5], [5]), ([1, 6], [1, 6]), ([], []), ([], []), ([8, 9], [8, 9]), ([0, 1, 2, 3, 4, 5, 6, 7], []), ([11, 7, 7, 0, 1, 2, 3, 4, 5, 6, 7], [7, 11]), ([10, 12, 0, 1, 2, 3, 4, 5, 6, 7, 8, 9, 10, 11, 12], [2, 8, 10])])
def frame_Decode.B18 : List Nat := [0, 1, 0, 0, 12, 28, 60, 127, 0, 0, 768, 255, 2303, 8191]
theorem frame_Decode.tab18 : rtab .any (opsOf Try.f95 18) = frame_Decode.T18 := by kernel_rfl
theorem frame_Decode.bits18 : waitsOk frame_Decode.T18.2 frame_Decode.B18 = true := by kernel_rfl
set_option maxHeartbeats 8000000 in
set_option maxRecDepth 100000 in
theorem frame_Decode.calls (k : Nat) (A0 : Option Addr) (c0 : Nat) (l0 : List Int) (r1 : List Int) (r2 : List ByteArray) (r3 : Int) (w : World) (hr0 : Kd.C (Kd.int .u8) w A0 l0.length l0) (hc0 : l0.length ≤ c0) (h : frame_Decode.f k l0 = some (r1, r2, r3)) :
    Calls Try.prog 95 #[.slice A0 l0.length c0] w fun e w' => ∃ v0_ v1_ : Value, e = .returned (.tuple #[.agg #[v0_, v1_], .int .i64 r3]) ∧ Kd.R (Kd.int .i64) 3 w' w.heap.size (fun _ => True) v0_ r1 ∧ Kd.R Kd.string 9 w' w.heap.size (fun _ => True) v1_ r2 ∧ Below w.heap.size w w' := by
  have hu48 := Try.underlying48
  have HR0 := Aside0.mk hr0
  have HC0 := Aside0.mk hc0
  clear hr0 hc0
  have HB := Aside0.mk (Below.refl w.heap.size w)
  have H : (if (l0.length : Int) > 4096 then (some (([] : List Int), ([] : List ByteArray), 4)) else ((frame_take.f k l0).bind fun bt211 => (frame_Decode.l0 k bt211.2.1 bt211.1 bt211.2.2 ([] : List Int)))) = some (r1, r2, r3) := h
  clear h
  by_cases c2 : (l0.length : Int) > 4096
  rotate_left
  · rw [if_neg c2] at H
    have c2b0 : decide (4096 < (l0.length : Int)) = false := decide_eq_false c2
    have c2b1 : decide (4096 < l0.length) = false := decide_eq_false (by omega)
    clear c2
    replace H := bindA H
    obtain ⟨⟨t211, t212, t215⟩, A5, H⟩ := H
    try dsimp only at H
    have H' := Aside0.mk H
    clear H
    go_enter Try.func95, Try.ntmps95
    go_wp2_with (first | ((with_reducible refine gate_dst (N := 2) rfl ?_); (try (refine gate_guard (by rfl) ?_; dsimp only)); refine box_ev 2 #[.slice none 0 0, .slice none 0 0] 48 ?_; intro gb209 hg w6 hbox hb; have n_ := pk4 (below_step bl_ hb) (hbox) ((ge_ hg bl_ : w.heap.size ≤ gb209)) ((ge_ hg bl_ : w.heap.size ≤ gb209)); clear HB; obtain ⟨HB, BK209, GW209, GE209⟩ := n_; clear hb hbox hg) | ((with_reducible refine gate_dst (N := 4) rfl ?_); (try (refine gate_guard (by rfl) ?_; dsimp only)); refine box_ev 4 #[.slice none 0 0, .slice none 0 0] 48 ?_; intro gb210 hg w7 hbox hb; have n_ := pk7 (blk_below (bo_ BK209) hb) (below_step bl_ hb) (hbox) ((ge_ hg bl_ : w.heap.size ≤ gb210)) ((ge_ hg bl_ : w.heap.size ≤ gb210)) ((nb_ hg (bo_ BK209) : gb209 ≠ gb210)) ((nc_ hg (bo_ BK209) : gb210 ≠ gb209)); clear BK209 HB; obtain ⟨BK209, HB, BK210, GW210, GE210, NB209_210, NB210_209⟩ := n_; clear hb hbox hg) | ((with_reducible refine gate_callee (f := 94) rfl ?_); refine goL_ (some 15) Try.func94 #[.slice A0 l0.length c0] ?_; (with_reducible refine (frame_take.calls k (fun k_ => k_ < w.heap.size) _ _ l0 t211 t212 t215 _ ?side1 A5.out).mono ?_); (case side1 => exact Kd.V_mk HC0.out (Kd.F_below (Kd.C_F (Kd.heap_int .u8) HR0.out) bl_)); rintro e w8 ⟨v213, rfl, ho0, hb⟩; refine ⟨_, rfl, ?_⟩; have n_ := pk4 (Kd.V_lower (Kd.V_mono (ok' := fun k_ => k_ ≠ gb209 ∧ k_ ≠ gb210) ho0 (fun k_ hk_ => ⟨Or.elim hk_ (fun hs_ => fun e_ => Nat.not_le.2 hs_ (by rw [e_]; exact GW209.out)) (fun hn_ => (Kd.freshB (g := gb209) (o := .cells #[.slice none 0 0, .slice none 0 0] 48 (0, 0)) (bo_ BK209) k_ hn_)), Or.elim hk_ (fun hs_ => fun e_ => Nat.not_le.2 hs_ (by rw [e_]; exact GW210.out)) (fun hn_ => (Kd.freshB (g := gb210) (o := .cells #[.slice none 0 0, .slice none 0 0] 48 (0, 0)) (bo_ BK210) k_ hn_))⟩)) (below_size bl_)) (blk_below (bo_ BK209) hb) (blk_below (bo_ BK210) hb) (below_step bl_ hb); clear BK209 BK210 HB; obtain ⟨HO214, BK209, BK210, HB⟩ := n_; (try clear hb ho0)))
    go_loopg [0, 5, 6] k (fun kq v0 v5 v6 w' => ∃ (x0_1 : List Int) (x5_1 : Int) (x6_1 : Bool) (x211000_1 : List Int) (u211000 : Value), v5 = .int .u64 x5_1 ∧ v6 = .bool x6_1 ∧ Aside0 (frame_Decode.l0 kq x0_1 x5_1 x6_1 x211000_1 = some (r1, r2, r3)) ∧ Aside0 (kq ≤ k) ∧ Aside0 (Kd.V (Kd.int .u8) 5 w' w.heap.size (fun k_ => some k_ ≠ (u211000 : Value).ownBlock ∧ k_ ≠ gb209 ∧ k_ ≠ gb210) v0 x0_1) ∧ Aside0 (Kd.R (Kd.int .i64) 3 w' w.heap.size (fun _ => True) u211000 x211000_1) ∧ Aside0 (w'.heap[gb209]? = some (.cells #[(.slice none 0 0), (.slice none 0 0)] 48 (0, 0))) ∧ Aside0 (w'.heap[gb210]? = some (.cells #[u211000, (.slice none 0 0)] 48 (0, 0))) ∧ Aside0 (Below w.heap.size w w'))
    case atStart => exact ⟨(t212), (t211), (t215), (([] : List Int)), (.slice none 0 0), sm_, sm_, H', ⟨Nat.le_refl _⟩, ⟨(vt_ (Kd.V_mono HO214.out (fun _ hk => ⟨(by simp [Value.ownBlock]), ⟨hk.1, hk.2⟩⟩)))⟩, ⟨nl_⟩, ⟨(bo_ BK209)⟩, ⟨(bo_ BK210)⟩, ⟨bl_⟩⟩
    case round =>
      clear H'
      try clear c2
      try clear c2b0
      try clear c2b1
      obtain ⟨x0_1, x5_1, x6_1, x211000_1, u211000, rfl, rfl, HA, HK1, HO_0, HO_211000, BK209, BK210, HB⟩ := hrel
      cases gk with
      | zero => exact absurd HA.out (by simp [frame_Decode.l0])
      | succ k1 =>
        have H := HA.out
        clear HA
        simp only [frame_Decode.l0] at H
        have HC9 := Aside0.mk H
        clear H
        go_upto_region 5 with (fail)
        go_cut [23] (fun v23 wc => ∃ (kq : Nat) (x23_8 : Bool), v23 = .bool x23_8 ∧ Aside0 (frame_Decode.j1 kq x0_1 x5_1 x6_1 x23_8 x211000_1 = some (r1, r2, r3)) ∧ Aside0 (kq ≤ k1) ∧ Aside0 (Kd.V (Kd.int .u8) 5 wc w.heap.size (fun k_ => some k_ ≠ (u211000 : Value).ownBlock ∧ k_ ≠ gb209 ∧ k_ ≠ gb210) u0 x0_1) ∧ Aside0 (Kd.R (Kd.int .i64) 3 wc w.heap.size (fun _ => True) u211000 x211000_1) ∧ Aside0 (wc.heap[gb209]? = some (.cells #[(.slice none 0 0), (.slice none 0 0)] 48 (0, 0))) ∧ Aside0 (wc.heap[gb210]? = some (.cells #[u211000, (.slice none 0 0)] 48 (0, 0))) ∧ Aside0 (Below w.heap.size w wc))
        case first =>
          have H := HC9.out
          clear HC9
          replace H := dbool H
          rcases H with ⟨rfl, H⟩ | ⟨rfl, H⟩
          focus
            have H' := Aside0.mk H
            clear H
          rotate_left
          focus
            have H' := Aside0.mk H
            clear H
          all_goals
            go_wp2
            go_meet
            first
              | case rel => exact ⟨_, (decide (x5_1 > 0)), sm_, H', ⟨by have := HK1.out; first | omega | exact Nat.le_refl _⟩, ⟨(vo_ HO_0)⟩, ⟨(ro_ HO_211000)⟩, ⟨(bo_ BK209)⟩, ⟨(bo_ BK210)⟩, ⟨bl_⟩⟩
              | case rel => exact ⟨_, (false), sm_, H', ⟨by have := HK1.out; first | omega | exact Nat.le_refl _⟩, ⟨(vo_ HO_0)⟩, ⟨(ro_ HO_211000)⟩, ⟨(bo_ BK209)⟩, ⟨(bo_ BK210)⟩, ⟨bl_⟩⟩
        case rest =>
          clear HC9
          try clear c2
          try clear c2b0
          try clear c2b1
          obtain ⟨kq, x23_8, rfl, HA, HJ8, HO_0, HO_211000, BK209, BK210, HB⟩ := hcut
          cases kq with
          | zero => exact absurd HA.out (by simp [frame_Decode.j1])
          | succ kj8 =>
            have H := HA.out
            clear HA
            simp only [frame_Decode.j1] at H
            replace H := dbool H
            rcases H with ⟨rfl, H⟩ | ⟨rfl, H⟩
            rotate_left
            · have HC24 := Aside0.mk H
              clear H
              go_upto_if 45 with (fail)
              go_cut [0, 5, 6] (fun v0 v5 v6 wc => ∃ (kq : Nat) (x0_23 : List Int) (x5_23 : Int) (x6_23 : Bool), v5 = .int .u64 x5_23 ∧ v6 = .bool x6_23 ∧ Aside0 (frame_Decode.j2 kq x0_23 x5_23 x6_23 x211000_1 = some (r1, r2, r3)) ∧ Aside0 (kq ≤ kj8) ∧ Aside0 (Kd.V (Kd.int .u8) 5 wc w.heap.size (fun k_ => some k_ ≠ (u211000 : Value).ownBlock ∧ k_ ≠ gb209 ∧ k_ ≠ gb210) v0 x0_23) ∧ Aside0 (Kd.R (Kd.int .i64) 3 wc w.heap.size (fun _ => True) u211000 x211000_1) ∧ Aside0 (wc.heap[gb209]? = some (.cells #[(.slice none 0 0), (.slice none 0 0)] 48 (0, 0))) ∧ Aside0 (wc.heap[gb210]? = some (.cells #[u211000, (.slice none 0 0)] 48 (0, 0))) ∧ Aside0 (Below w.heap.size w wc))
              case first =>
                have H := HC24.out
                clear HC24
                replace H := dbool H
                rcases H with ⟨rfl, H⟩ | ⟨rfl, H⟩
                focus
                  replace H := bindA H
                  obtain ⟨⟨t224, t225, t228⟩, A26, H⟩ := H
                  try dsimp only at H
                  have H' := Aside0.mk H
                  clear H
                  obtain ⟨Ao27, co27, eo27⟩ := Kd.V_slice HO_0.out
                  subst eo27
                rotate_left
                focus
                  have H' := Aside0.mk H
                  clear H
                all_goals
                  go_wp2_with (first | ((with_reducible refine gate_callee (f := 94) rfl ?_); refine goL_ (some 48) Try.func94 #[.slice Ao27 x0_1.length co27] ?_; (with_reducible refine (frame_take.calls kj8 (fun k_ => (some k_ ≠ (u211000 : Value).ownBlock ∧ (k_ ≠ gb209 ∧ k_ ≠ gb210))) _ _ x0_1 t224 t225 t228 _ ?side1 A26.out).mono ?_); (case side1 => exact HO_0.out); rintro e w7000 ⟨v7000, rfl, ho0, hb⟩; refine ⟨_, rfl, ?_⟩; have n_ := pk6 (Kd.V_below (vo_ HO_0) hb) (Kd.R_below (ro_ HO_211000) hb) (Kd.V_lower (Kd.V_mono (ok' := fun k_ => some k_ ≠ (u211000 : Value).ownBlock ∧ k_ ≠ gb209 ∧ k_ ≠ gb210) ho0 (fun k_ hk_ => ⟨Or.elim hk_ (fun hs_ => hs_.1) (fun hn_ => (Kd.fresh' (Kd.R_lt (ro_ HO_211000)) k_ hn_)), Or.elim hk_ (fun hs_ => hs_.2.1) (fun hn_ => (Kd.freshB (g := gb209) (o := .cells #[.slice none 0 0, .slice none 0 0] 48 (0, 0)) (bo_ BK209) k_ hn_)), Or.elim hk_ (fun hs_ => hs_.2.2) (fun hn_ => (Kd.freshB (g := gb210) (o := .cells #[u211000, .slice none 0 0] 48 (0, 0)) (bo_ BK210) k_ hn_))⟩)) (below_size bl_)) (blk_below (bo_ BK209) hb) (blk_below (bo_ BK210) hb) (below_step bl_ hb); clear HO_0 HO_211000 BK209 BK210 HB; obtain ⟨HO_0, HO_211000, HO7000, BK209, BK210, HB⟩ := n_; (try clear hb ho0)))
                  go_meet
                  first
                    | case rel => exact ⟨_, (t225), (t224), (t228), sm_, sm_, H', ⟨by have := HK1.out; have := HJ8.out; first | omega | exact Nat.le_refl _⟩, ⟨(vo_ HO7000)⟩, ⟨(ro_ HO_211000)⟩, ⟨(bo_ BK209)⟩, ⟨(bo_ BK210)⟩, ⟨bl_⟩⟩
                    | case rel => exact ⟨_, (x0_1), (x5_1), (false), sm_, sm_, H', ⟨by have := HK1.out; have := HJ8.out; first | omega | exact Nat.le_refl _⟩, ⟨(vo_ HO_0)⟩, ⟨(ro_ HO_211000)⟩, ⟨(bo_ BK209)⟩, ⟨(bo_ BK210)⟩, ⟨bl_⟩⟩
              case rest =>
                clear HC24
                try clear c2
                try clear c2b0
                try clear c2b1
                try clear c11
                obtain ⟨kq, x0_23, x5_23, x6_23, rfl, rfl, HA, HJ23, HO_0, HO_211000, BK209, BK210, HB⟩ := hcut
                cases kq with
                | zero => exact absurd HA.out (by simp [frame_Decode.j2])
                | succ kj23 =>
                  have H := HA.out
                  clear HA
                  simp only [frame_Decode.j2] at H
                  have H' := Aside0.mk H
                  clear H
                  go_wp2
                  go_loopg [0, 5, 6] kj23 (fun kq v0 v5 v6 w' => ∃ (x0_4 : List Int) (x5_4 : Int) (x6_4 : Bool) (x211001_4 : List ByteArray) (u211001 : Value), v5 = .int .u64 x5_4 ∧ v6 = .bool x6_4 ∧ Aside0 (frame_Decode.l1 kq x0_4 x5_4 x6_4 x211000_1 x211001_4 = some (r1, r2, r3)) ∧ Aside0 (kq ≤ kj23) ∧ Aside0 (Kd.V (Kd.int .u8) 5 w' w.heap.size (fun k_ => some k_ ≠ (u211000 : Value).ownBlock ∧ some k_ ≠ (u211001 : Value).ownBlock ∧ k_ ≠ gb209 ∧ k_ ≠ gb210) v0 x0_4) ∧ Aside0 (Kd.R (Kd.int .i64) 3 w' w.heap.size (fun _ => True) u211000 x211000_1) ∧ Aside0 (Kd.R Kd.string 9 w' w.heap.size (fun _ => True) u211001 x211001_4) ∧ Aside0 (w'.heap[gb209]? = some (.cells #[(.slice none 0 0), (.slice none 0 0)] 48 (0, 0))) ∧ Aside0 (w'.heap[gb210]? = some (.cells #[u211000, u211001] 48 (0, 0))) ∧ Aside0 (Below w.heap.size w w'))
                  case atStart => exact ⟨(x0_23), (x5_23), (x6_23), (([] : List ByteArray)), (.slice none 0 0), sm_, sm_, H', ⟨Nat.le_refl _⟩, ⟨(vt_ (Kd.V_mono HO_0.out (fun _ hk => ⟨hk.1, ⟨(by simp [Value.ownBlock]), ⟨hk.2.1, hk.2.2⟩⟩⟩)))⟩, ⟨(ro_ HO_211000)⟩, ⟨nl_⟩, ⟨(bo_ BK209)⟩, ⟨(bo_ BK210)⟩, ⟨bl_⟩⟩
                  case round =>
                    clear H'
                    try clear c2
                    try clear c2b0
                    try clear c2b1
                    try clear c11
                    obtain ⟨x0_4, x5_4, x6_4, x211001_4, u211001, rfl, rfl, HA, HK4, HO_0, HO_211000, HO_211001, BK209, BK210, HB⟩ := hrel
                    cases gk with
                    | zero => exact absurd HA.out (by simp [frame_Decode.l1])
                    | succ k4 =>
                      have H := HA.out
                      clear HA
                      simp only [frame_Decode.l1] at H
                      have HC29 := Aside0.mk H
                      clear H
                      go_upto_region 13 with (fail)
                      go_cut [56] (fun v56 wc => ∃ (kq : Nat) (x56_28 : Bool), v56 = .bool x56_28 ∧ Aside0 (frame_Decode.j4 kq x0_4 x5_4 x6_4 x56_28 x211000_1 x211001_4 = some (r1, r2, r3)) ∧ Aside0 (kq ≤ k4) ∧ Aside0 (Kd.V (Kd.int .u8) 5 wc w.heap.size (fun k_ => some k_ ≠ (u211000 : Value).ownBlock ∧ some k_ ≠ (u211001 : Value).ownBlock ∧ k_ ≠ gb209 ∧ k_ ≠ gb210) u0 x0_4) ∧ Aside0 (Kd.R (Kd.int .i64) 3 wc w.heap.size (fun _ => True) u211000 x211000_1) ∧ Aside0 (Kd.R Kd.string 9 wc w.heap.size (fun _ => True) u211001 x211001_4) ∧ Aside0 (wc.heap[gb209]? = some (.cells #[(.slice none 0 0), (.slice none 0 0)] 48 (0, 0))) ∧ Aside0 (wc.heap[gb210]? = some (.cells #[u211000, u211001] 48 (0, 0))) ∧ Aside0 (Below w.heap.size w wc))
                      case first =>
                        have H := HC29.out
                        clear HC29
                        replace H := dbool H
                        rcases H with ⟨rfl, H⟩ | ⟨rfl, H⟩
                        focus
                          have H' := Aside0.mk H
                          clear H
                        rotate_left
                        focus
                          have H' := Aside0.mk H
                          clear H
                        all_goals
                          go_wp2
                          go_meet
                          first
                            | case rel => exact ⟨_, (decide (x5_4 > 0)), sm_, H', ⟨by have := HK1.out; have := HJ8.out; have := HJ23.out; have := HK4.out; first | omega | exact Nat.le_refl _⟩, ⟨(vo_ HO_0)⟩, ⟨(ro_ HO_211000)⟩, ⟨(ro_ HO_211001)⟩, ⟨(bo_ BK209)⟩, ⟨(bo_ BK210)⟩, ⟨bl_⟩⟩
                            | case rel => exact ⟨_, (false), sm_, H', ⟨by have := HK1.out; have := HJ8.out; have := HJ23.out; have := HK4.out; first | omega | exact Nat.le_refl _⟩, ⟨(vo_ HO_0)⟩, ⟨(ro_ HO_211000)⟩, ⟨(ro_ HO_211001)⟩, ⟨(bo_ BK209)⟩, ⟨(bo_ BK210)⟩, ⟨bl_⟩⟩
                      case rest =>
                        clear HC29
                        try clear c2
                        try clear c2b0
                        try clear c2b1
                        try clear c11
                        obtain ⟨kq, x56_28, rfl, HA, HJ28, HO_0, HO_211000, HO_211001, BK209, BK210, HB⟩ := hcut
                        cases kq with
                        | zero => exact absurd HA.out (by simp [frame_Decode.j4])
                        | succ kj28 =>
                          have H := HA.out
                          clear HA
                          simp only [frame_Decode.j4] at H
                          replace H := dbool H
                          rcases H with ⟨rfl, H⟩ | ⟨rfl, H⟩
                          focus
                            replace H := bindA H
                            obtain ⟨⟨t229, t230, t233⟩, A32, H⟩ := H
                            try dsimp only at H
                            replace H := dbool H
                            rcases H with ⟨rfl, H⟩ | ⟨rfl, H⟩
                            focus
                              replace H := dle H
                              rcases H with ⟨c34b0, H⟩ | ⟨c34b0, H⟩
                              focus
                                by_cases c35 : 0 ≤ t229
                                rotate_left
                                · rw [if_neg c35] at H
                                  exact absurd H (by simp)
                                rw [if_pos c35] at H
                                have c35b0 := eq_true c35
                                have c35b1 : decide (0 ≤ t229) = true := decide_eq_true c35
                                clear c35
                                by_cases c36 : t229 ≤ (t230.length : Int)
                                rotate_left
                                · rw [if_neg c36] at H
                                  exact absurd H (by simp)
                                rw [if_pos c36] at H
                                have c36b0 := eq_true c36
                                have c36b1 : decide (t229 ≤ (t230.length : Int)) = true := decide_eq_true c36
                                clear c36
                                obtain ⟨y234, hy234⟩ : ∃ y_ : List Int, y_ = (t230.take (t229 : Int).toNat) := ⟨_, rfl⟩
                                replace H : (if x211001_4.length < 8796093022208 then (frame_Decode.l1 kj28 (t230.drop (t229 : Int).toNat) (IntKind.u64.wrap (x5_4 - 1)) true x211000_1 (x211001_4 ++ [strOfNums y234])) else (none)) = some (r1, r2, r3) := by first | (rw [hy234]; with_reducible exact H) | (have H2_ := (Option.bind_some _ _).symm.trans H; rw [hy234]; with_reducible exact H2_) | (have H2_ := (Option.bind_some _ _).symm.trans H; with_reducible exact H2_) | with_reducible exact H | (rw [hy234]; exact H) | exact H
                                have Ny234 := Aside0.mk hy234
                                clear hy234
                                by_cases c37 : x211001_4.length < 8796093022208
                                rotate_left
                                · rw [if_neg c37] at H
                                  exact absurd H (by simp)
                                rw [if_pos c37] at H
                                have LMc37 := Aside0.mk c37
                                clear c37
                                obtain ⟨y239, hy239⟩ : ∃ y_ : List ByteArray, y_ = (x211001_4 ++ [strOfNums y234]) := ⟨_, rfl⟩
                                replace H : (frame_Decode.l1 kj28 (t230.drop (t229 : Int).toNat) (IntKind.u64.wrap (x5_4 - 1)) true x211000_1 y239) = some (r1, r2, r3) := by first | (rw [hy239]; with_reducible exact H) | (have H2_ := (Option.bind_some _ _).symm.trans H; rw [hy239]; with_reducible exact H2_) | (have H2_ := (Option.bind_some _ _).symm.trans H; with_reducible exact H2_) | with_reducible exact H | (rw [hy239]; exact H) | exact H
                                have Ny239 := Aside0.mk hy239
                                clear hy239
                                have c38b0 := eq_true (dc_ : 0 ≤ t229)
                                have c39b0 := eq_true (dc_ : t229 ≤ (t230.length : Int))
                                obtain ⟨y242, hy242⟩ : ∃ y_ : List Int, y_ = (t230.drop (t229 : Int).toNat) := ⟨_, rfl⟩
                                replace H : (frame_Decode.l1 kj28 y242 (IntKind.u64.wrap (x5_4 - 1)) true x211000_1 y239) = some (r1, r2, r3) := by first | (rw [hy242]; with_reducible exact H) | (have H2_ := (Option.bind_some _ _).symm.trans H; rw [hy242]; with_reducible exact H2_) | (have H2_ := (Option.bind_some _ _).symm.trans H; with_reducible exact H2_) | with_reducible exact H | (rw [hy242]; exact H) | exact H
                                have Ny242 := Aside0.mk hy242
                                clear hy242
                                have H' := Aside0.mk H
                                clear H
                                obtain ⟨Ao40, co40, eo40⟩ := Kd.V_slice HO_0.out
                                subst eo40
                              rotate_left
                              focus
                                have H' := Aside0.mk H
                                clear H
                                obtain ⟨Ao50, co50, eo50⟩ := Kd.V_slice HO_0.out
                                subst eo50
                            rotate_left 2
                            focus
                              have H' := Aside0.mk H
                              clear H
                              obtain ⟨Ao53, co53, eo53⟩ := Kd.V_slice HO_0.out
                              subst eo53
                          rotate_left 3
                          focus
                            replace H := dbool H
                            rcases H with ⟨rfl, H⟩ | ⟨rfl, H⟩
                            focus
                              by_cases c56 : (x0_4.length : Int) > 0
                              focus
                                rw [if_pos c56] at H
                                have c56b0 : decide (0 < (x0_4.length : Int)) = true := decide_eq_true c56
                                have c56b1 : decide (0 < x0_4.length) = true := decide_eq_true (by omega)
                                clear c56
                                simp only [Option.some.injEq, Prod.mk.injEq] at H
                                obtain ⟨rfl, rfl, rfl⟩ := H
                                obtain ⟨Ao57, co57, eo57⟩ := Kd.V_slice HO_0.out
                                subst eo57
                                have hnb58 := NB209_210.out
                                have hnc58 := NB210_209.out
                                obtain ⟨hcz59_0, hcz59_1, hfz59_0, hfz59_1⟩ := blk_at2 BK209.out
                              rotate_left
                              focus
                                rw [if_neg c56] at H
                                have c56b0 : decide (0 < (x0_4.length : Int)) = false := decide_eq_false c56
                                have c56b1 : decide (0 < x0_4.length) = false := decide_eq_false (by omega)
                                clear c56
                                simp only [Option.some.injEq, Prod.mk.injEq] at H
                                obtain ⟨rfl, rfl, rfl⟩ := H
                                obtain ⟨Ao60, co60, eo60⟩ := Kd.V_slice HO_0.out
                                subst eo60
                                have hnb61 := NB210_209.out
                                have hnc61 := NB209_210.out
                                obtain ⟨hcz62_0, hcz62_1, hfz62_0, hfz62_1⟩ := blk_at2 BK210.out
                                obtain ⟨Ao63, co63, eo63⟩ := Kd.R_slice HO_211000.out
                                subst eo63
                                obtain ⟨hcz64_0, hcz64_1, hfz64_0, hfz64_1⟩ := blk_at2 BK209.out
                                obtain ⟨Ao65, co65, eo65⟩ := Kd.R_slice HO_211001.out
                                subst eo65
                            rotate_left 2
                            focus
                              simp only [Option.some.injEq, Prod.mk.injEq] at H
                              obtain ⟨rfl, rfl, rfl⟩ := H
                              have hnb66 := NB209_210.out
                              have hnc66 := NB210_209.out
                              obtain ⟨hcz67_0, hcz67_1, hfz67_0, hfz67_1⟩ := blk_at2 BK209.out
                          all_goals
                            first
                              | try go_wp2_with (first | ((with_reducible refine gate_callee (f := 94) rfl ?_); refine goL_ (some 61) Try.func94 #[.slice Ao40 x0_4.length co40] ?_; (with_reducible refine (frame_take.calls kj28 (fun k_ => (some k_ ≠ (u211000 : Value).ownBlock ∧ (some k_ ≠ (u211001 : Value).ownBlock ∧ (k_ ≠ gb209 ∧ k_ ≠ gb210)))) _ _ x0_4 t229 t230 true _ ?side1 A32.out).mono ?_); (case side1 => exact HO_0.out); rintro e w7000 ⟨v7000, rfl, ho0, hb⟩; refine ⟨_, rfl, ?_⟩; have n_ := pk7 (Kd.V_below (vo_ HO_0) hb) (Kd.R_below (ro_ HO_211000) hb) (Kd.R_below (ro_ HO_211001) hb) (Kd.V_lower (Kd.V_mono (ok' := fun k_ => some k_ ≠ (u211000 : Value).ownBlock ∧ some k_ ≠ (u211001 : Value).ownBlock ∧ k_ ≠ gb209 ∧ k_ ≠ gb210) ho0 (fun k_ hk_ => ⟨Or.elim hk_ (fun hs_ => hs_.1) (fun hn_ => (Kd.fresh' (Kd.R_lt (ro_ HO_211000)) k_ hn_)), Or.elim hk_ (fun hs_ => hs_.2.1) (fun hn_ => (Kd.fresh' (Kd.R_lt (ro_ HO_211001)) k_ hn_)), Or.elim hk_ (fun hs_ => hs_.2.2.1) (fun hn_ => (Kd.freshB (g := gb209) (o := .cells #[.slice none 0 0, .slice none 0 0] 48 (0, 0)) (bo_ BK209) k_ hn_)), Or.elim hk_ (fun hs_ => hs_.2.2.2) (fun hn_ => (Kd.freshB (g := gb210) (o := .cells #[u211000, u211001] 48 (0, 0)) (bo_ BK210) k_ hn_))⟩)) (below_size bl_)) (blk_below (bo_ BK209) hb) (blk_below (bo_ BK210) hb) (below_step bl_ hb); clear HO_0 HO_211000 HO_211001 BK209 BK210 HB; obtain ⟨HO_0, HO_211000, HO_211001, HO7000, BK209, BK210, HB⟩ := n_; (try clear hb ho0); obtain ⟨Ao7000, co7000, eo7000⟩ := Kd.V_slice HO7000.out; subst eo7000))
                                have n7000_ := Aside0.mk (Kd.V_drew HO_0.out)
                                have n7001_ := Aside0.mk (Kd.R_drew HO_211000.out)
                                have n7002_ := Aside0.mk (Kd.R_drew HO_211001.out)
                                have n7003_ := Aside0.mk (Kd.V_drew HO7000.out)
                                have n7004_ := Aside0.mk (blk_drew BK209.out)
                                have n7005_ := Aside0.mk (blk_drew BK210.out)
                                have n7006_ := Aside0.mk (below_drew1 HB.out)
                                clear HO_0
                                clear HO_211000
                                clear HO_211001
                                clear HO7000
                                clear BK209
                                clear BK210
                                clear HB
                                have HO_0 := n7000_
                                have HO_211000 := n7001_
                                have HO_211001 := n7002_
                                have HO7000 := n7003_
                                have BK209 := n7004_
                                have BK210 := n7005_
                                have HB := n7006_
                                clear n7000_ n7001_ n7002_ n7003_ n7004_ n7005_ n7006_
                                have q7000 : (t229 : Int) ≤ ((t230.length : Int) : Int) := dc_
                                obtain ⟨i7000, hi7000, _, hsz7000, _⟩ := info_parts info5
                                have hroom7000 : t230.length ≤ co7000 := (Kd.V_reads' HO7000.out).2.1
                                have hC7000 : Kd.F (Kd.int .u8) _ _ Ao7000 t230.length t230 := (Kd.V_at (base := w.heap.size) HO7000.out).2.2
                                have hcut7000 := fun (kh_ : IntKind) => cut_to (P := Try.prog) 30 5 kh_ Try.underlying30 hi7000 Ao7000 t230.length co7000 t229 dc_ q7000 hroom7000
                                have hr7000 := Kd.F_take (m := (t229 : Int).toNat) hC7000 (by omega)
                                have hy7000 : y234.length = (t229 : Int).toNat := (by rw [Ny234.out, List.length_take]; omega)
                                rw [← Ny234.out] at hr7000
                                rw [← hy7000] at hcut7000
                                have HO7001 := Aside0.mk (show Kd.V (Kd.int .u8) 5 _ w.heap.size _ (.slice Ao7000 y234.length co7000) y234 from Kd.V_mk (by omega) hr7000)
                                have HC7000 := Aside0.mk (show y234.length ≤ co7000 from by omega)
                                clear hr7000 hC7000 hroom7000 hi7000 hsz7000
                                have KY7000 := Aside0.mk hy7000
                                clear hy7000
                                replace q7000 := eq_true q7000
                                have q7001 : (t229 : Int) ≤ ((t230.length : Int) : Int) := dc_
                                obtain ⟨i7001, hi7001, _, hsz7001, _⟩ := info_parts info5
                                have hroom7001 : t230.length ≤ co7000 := (Kd.V_reads' HO7000.out).2.1
                                have hC7001 : Kd.F (Kd.int .u8) _ _ Ao7000 t230.length t230 := (Kd.V_at (base := w.heap.size) HO7000.out).2.2
                                have q7002 : (0 : Int) ≤ (t229 : Int) := dc_
                                have hcut7001 := fun (kh_ : IntKind) => cut_from (P := Try.prog) 30 5 kh_ Try.underlying30 hi7001 1 hsz7001 Ao7000 t230.length co7000 t229 q7002 q7001
                                have hr7001 := Kd.F_cut (m := (t229 : Int).toNat) (c := co7000) hC7001 (by omega) hroom7001
                                obtain ⟨A7000, hA7000⟩ : ∃ A1, A1 = (if co7000 = (t229 : Int).toNat then Ao7000 else (Ao7000 : Option Addr).map (·.add ((t229 : Int).toNat * 1))) := ⟨_, rfl⟩
                                obtain ⟨c7000, hc7000⟩ : ∃ c1, c1 = co7000 - (t229 : Int).toNat := ⟨_, rfl⟩
                                have hy7001 : y242.length = t230.length - (t229 : Int).toNat := (by rw [Ny242.out, List.length_drop] <;> omega)
                                rw [show (t230).drop (t229 : Int).toNat = y242 from Ny242.out.symm] at hr7001
                                replace hr7001 : Kd.F (Kd.int .u8) _ _ A7000 y242.length y242 := (by rw [hA7000]; exact hr7001)
                                rw [← hy7001, ← hA7000, ← hc7000] at hcut7001
                                have HO7002 := Aside0.mk (show Kd.V (Kd.int .u8) 5 _ w.heap.size _ (.slice A7000 y242.length c7000) y242 from Kd.V_mk (by rw [hy7001, hc7000]; exact Nat.sub_le_sub_right hroom7001 _) hr7001)
                                have HC7001 := Aside0.mk (show y242.length ≤ c7000 from by rw [hy7001, hc7000]; exact Nat.sub_le_sub_right hroom7001 _)
                                clear hr7001 hC7001 hroom7001 hi7001 hsz7001 hc7000
                                have KY7001 := Aside0.mk hy7001
                                have KA7000 := Aside0.mk hA7000
                                clear hy7001 hA7000
                                replace q7001 := eq_true q7001
                                refine start_ (n := 14) (S := fun w' => w'.cell? ⟨gb210, 0, none⟩ = some (u211000) ∧ w'.cell? ⟨gb210, 1, none⟩ = some (u211001)) (ds := [12]) #[false, false, false, false, false, false, false, false, false, false, false, false, false, false] (by kernel_rfl) rfl rfl ⟨(blk_cell BK210.out 0).trans rfl, (blk_cell BK210.out 1).trans rfl⟩ (fun hHeld => ?_); refine with_tabW frame_Decode.tab18 frame_Decode.bits18 (fun HT_ HW_ => ?_)
                                generalize w7000.drew = w7001 at HO_0 HO_211000 HO_211001 HO7000 BK209 BK210 HB HO7001 HO7002 hHeld ⊢
                                refine pure_ (i := 0) (N := some 73) (v := ?_) (a' := ?_) #[true, false, false, false, false, false, false, false, false, false, false, false, false, false] rfl rfl (any_of HT_.out (by kernel_rfl)) (fun _ _ _ h => h) (Or.inl ⟨by rfl, ?_⟩) ?_ ?_
                                rotate_left
                                · intro w'
                                  go_simp
                                  with_reducible rfl
                                rotate_left
                                · simp only [Act.put, List.setIfInBounds_toArray, List.set_cons_zero, List.set_cons_succ, i64_w, i32_w]
                                  rfl
                                refine pure_ (i := 2) (N := some 75) (v := ?_) (a' := ?_) #[true, false, true, false, false, false, false, false, false, false, false, false, false, false] rfl rfl (any_of HT_.out (by kernel_rfl)) (fun _ _ _ h => h) (Or.inl ⟨by rfl, ?_⟩) ?_ ?_
                                rotate_left
                                · intro w'
                                  go_simp
                                  with_reducible rfl
                                rotate_left
                                · simp only [Act.put, List.setIfInBounds_toArray, List.set_cons_zero, List.set_cons_succ, i64_w, i32_w]
                                  rfl
                                refine pure_ (i := 3) (N := some 76) (v := ?_) (a' := ?_) #[true, false, true, true, false, false, false, false, false, false, false, false, false, false] rfl rfl (any_of HT_.out (by kernel_rfl)) (fun _ _ _ h => h) (Or.inl ⟨by rfl, ?_⟩) ?_ ?_
                                rotate_left
                                · intro w'
                                  go_simp
                                  with_reducible rfl
                                rotate_left
                                · simp only [Act.put, List.setIfInBounds_toArray, List.set_cons_zero, List.set_cons_succ, i64_w, i32_w]
                                  rfl
                                refine pure_ (i := 4) (N := some 77) (v := ?_) (a' := ?_) #[true, false, true, true, true, false, false, false, false, false, false, false, false, false] rfl rfl (any_of HT_.out (by kernel_rfl)) (fun _ _ _ h => h) (Or.inl ⟨by rfl, ?_⟩) ?_ ?_
                                rotate_left
                                · intro w'
                                  go_simp
                                  with_reducible rfl
                                rotate_left
                                · simp only [Act.put, List.setIfInBounds_toArray, List.set_cons_zero, List.set_cons_succ, i64_w, i32_w]
                                  rfl
                                refine pure_ (i := 8) (N := some 81) (v := ?_) (a' := ?_) #[true, false, true, true, true, false, false, false, true, false, false, false, false, false] rfl rfl (any_of HT_.out (by kernel_rfl)) (fun _ _ _ h => h) (Or.inl ⟨by rfl, ?_⟩) ?_ ?_
                                rotate_left
                                · intro w'
                                  go_simp
                                  with_reducible rfl
                                rotate_left
                                · simp only [Act.put, List.setIfInBounds_toArray, List.set_cons_zero, List.set_cons_succ, i64_w, i32_w]
                                  rfl
                                refine pure_ (i := 9) (N := some 82) (v := ?_) (a' := ?_) #[true, false, true, true, true, false, false, false, true, true, false, false, false, false] rfl rfl (any_of HT_.out (by kernel_rfl)) (fun _ _ _ h => h) (Or.inl ⟨by rfl, ?_⟩) ?_ ?_
                                rotate_left
                                · intro w'
                                  go_simp
                                  with_reducible rfl
                                rotate_left
                                · simp only [Act.put, List.setIfInBounds_toArray, List.set_cons_zero, List.set_cons_succ, i64_w, i32_w]
                                  rfl
                                refine pure_ (i := 10) (N := some 83) (v := ?_) (a' := ?_) #[true, false, true, true, true, false, false, false, true, true, true, false, false, false] rfl rfl (any_of HT_.out (by kernel_rfl)) (fun _ _ _ h => h) (Or.inl ⟨by rfl, ?_⟩) ?_ ?_
                                rotate_left
                                · intro w'
                                  go_simp
                                  with_reducible rfl
                                rotate_left
                                · simp only [Act.put, List.setIfInBounds_toArray, List.set_cons_zero, List.set_cons_succ, i64_w, i32_w]
                                  rfl
                                refine take_ (i := 1) (N := some 74) (v := ?_) (a' := ?_) #[true, true, true, true, true, false, false, false, true, true, true, false, false, false] rfl rfl (take_ofW HT_.out HW_.out (by kernel_rfl)) (fun _ _ _ h => h) (Or.inl ⟨by rfl, ?_⟩) hHeld ?_ ?_
                                rotate_left
                                · rintro w' ⟨s7000, s7001⟩
                                  go_simp
                                  with_reducible rfl
                                rotate_left
                                · simp only [Act.put, List.setIfInBounds_toArray, List.set_cons_zero, List.set_cons_succ, i64_w, i32_w]
                                  rfl
                                refine one_ (i := 5) (N := some 78) #[true, true, true, true, true, true, false, false, true, true, true, false, false, false] rfl rfl (one_of HT_.out (by kernel_rfl)) (by decide) (fun K hK => ?_)
                                have hcv7000 := Kd.C_string (P := Try.prog) (A := Ao7000) (c := co7000) Try.underlying30 Try.underlying5 Try.underlying9 (Kd.V_reads' HO7001.out).2.2
                                refine value_ (w1 := ?_) (v := ?_) (by rfl) rfl ?_ ?_
                                rotate_left 2
                                · go_simp
                                  constructor
                                  · rfl
                                  · rfl
                                clear hcv7000
                                refine hK.out _ _ ⟨(blk_cell BK210.out 0).trans rfl, (blk_cell BK210.out 1).trans rfl⟩ (fun hHeld => ?_)
                                clear hK K
                                refine norm_ (a' := ?_) ?_ ?_
                                rotate_left
                                · show Act.put _ (some 78) _ = _
                                  simp only [Act.put, List.setIfInBounds_toArray, List.set_cons_zero, List.set_cons_succ, i64_w, i32_w]
                                  rfl
                                refine one_ (i := 6) (N := some 79) #[true, true, true, true, true, true, true, false, true, true, true, false, false, false] rfl rfl (one_of HT_.out (by kernel_rfl)) (by decide) (fun K hK => ?_)
                                refine value_ (w1 := ?_) (v := ?_) (by rfl) rfl ?_ ?_
                                rotate_left 2
                                · go_simp
                                  constructor
                                  · rfl
                                  · rfl
                                refine hK.out _ _ ⟨(blk_cell (blk_alloc BK210.out _) 0).trans rfl, (blk_cell (blk_alloc BK210.out _) 1).trans rfl⟩ (fun hHeld => ?_)
                                clear hK K
                                refine norm_ (a' := ?_) ?_ ?_
                                rotate_left
                                · show Act.put _ (some 79) _ = _
                                  simp only [Act.put, List.setIfInBounds_toArray, List.set_cons_zero, List.set_cons_succ, i64_w, i32_w]
                                  rfl
                                refine one_ (i := 7) (N := some 80) #[true, true, true, true, true, true, true, true, true, true, true, false, false, false] rfl rfl (one_of HT_.out (by kernel_rfl)) (by decide) (fun K hK => ?_)
                                refine Kd.R_append_step Kd.string (w0 := w) w.heap.size (by rfl) (.tmp 74) (.tmp 79) 46 9 (.string ⟨#[]⟩) 16 rfl Try.underlying46 info9 rfl (by decide) (by omega) u211001 x211001_4 (strOfNums y234) [.string (strOfNums y234)] (fun _ => True) (fun _ => False) rfl rfl ?aP (fun _ hk => hk.elim) ?aF ?aO ?aB ?aS ?aL ?_
                                (case aP => exact rfl)
                                (case aB => exact bl_)
                                (case aF => exact (fun _ _ => trivial))
                                (case aO => exact (ro_ HO_211001))
                                (case aS => exact (below_size bl_))
                                (case aL => have := LMc37.out; omega)
                                intro v7001 w7002 ho hb hg hat
                                rw [← Ny239.out] at ho
                                have n7000_ := Aside0.mk (Kd.V_afterv (ok := (fun k_ => some k_ ≠ (u211000 : Value).ownBlock ∧ k_ ≠ gb209 ∧ k_ ≠ gb210)) (vt_ (Kd.V_mono HO_0.out (fun _ hk => ⟨⟨hk.1, ⟨hk.2.2.1, hk.2.2.2⟩⟩, hk.2.1⟩))) hg hat)
                                have n7001_ := Aside0.mk (Kd.R_over' (ro_ HO_211000) (Kd.R_typed (ro_ HO_211001)) (by decide) hg)
                                have n7002_ := Aside0.mk (blk_grown (bo_ BK209) hg (Kd.R_ne HO_211001.out BK209.out (by decide)))
                                have n7003_ := Aside0.mk (blk_grown (bo_ BK210) hg (Kd.R_ne HO_211001.out BK210.out (by decide)))
                                have n7004_ := Aside0.mk (Kd.V_afterv (ok := (fun k_ => some k_ ≠ (u211000 : Value).ownBlock ∧ k_ ≠ gb209 ∧ k_ ≠ gb210)) (vt_ (Kd.V_mono HO7000.out (fun _ hk => ⟨⟨hk.1, ⟨hk.2.2.1, hk.2.2.2⟩⟩, hk.2.1⟩))) hg hat)
                                have n7005_ := Aside0.mk (Kd.V_afterv (ok := (fun k_ => some k_ ≠ (u211000 : Value).ownBlock ∧ k_ ≠ gb209 ∧ k_ ≠ gb210)) (vt_ (Kd.V_mono HO7001.out (fun _ hk => ⟨⟨hk.1, ⟨hk.2.2.1, hk.2.2.2⟩⟩, hk.2.1⟩))) hg hat)
                                have n7006_ := Aside0.mk (Kd.V_afterv (ok := (fun k_ => some k_ ≠ (u211000 : Value).ownBlock ∧ k_ ≠ gb209 ∧ k_ ≠ gb210)) (vt_ (Kd.V_mono HO7002.out (fun _ hk => ⟨⟨hk.1, ⟨hk.2.2.1, hk.2.2.2⟩⟩, hk.2.1⟩))) hg hat)
                                have n7007_ := Aside0.mk (hb)
                                have n7008_ := Aside0.mk (ho)
                                clear HO_0
                                clear HO_211000
                                clear BK209
                                clear BK210
                                clear HO7000
                                clear HO7001
                                clear HO7002
                                clear HB
                                clear HO_211001
                                have HO_0 := n7000_
                                have HO_211000 := n7001_
                                have BK209 := n7002_
                                have BK210 := n7003_
                                have HO7000 := n7004_
                                have HO7001 := n7005_
                                have HO7002 := n7006_
                                have HB := n7007_
                                have HO7003 := n7008_
                                clear n7000_ n7001_ n7002_ n7003_ n7004_ n7005_ n7006_ n7007_ n7008_
                                clear ho hb hg hat
                                obtain ⟨Ao7001, co7001, eo7001⟩ := Kd.R_slice HO7003.out
                                (first | subst eo7001 | (injection eo7001 with f1_ f2_ f3_; have f7000_ := f1_.symm; have f7001_ := f3_.symm; clear f1_ f2_ f3_; subst f7000_; subst f7001_))
                                refine hK.out _ _ ⟨(blk_cell BK210.out 0).trans rfl, (blk_cell BK210.out 1).trans rfl⟩ (fun hHeld => ?_)
                                clear hK K
                                refine norm_ (a' := ?_) ?_ ?_
                                rotate_left
                                · show Act.put _ (some 80) _ = _
                                  simp only [Act.put, List.setIfInBounds_toArray, List.set_cons_zero, List.set_cons_succ, i64_w, i32_w]
                                  rfl
                                refine pure_ (i := 11) (N := some 84) (v := ?_) (a' := ?_) #[true, true, true, true, true, true, true, true, true, true, true, true, false, false] rfl rfl (any_of HT_.out (by kernel_rfl)) (fun _ _ _ h => h) (Or.inl ⟨by rfl, ?_⟩) ?_ ?_
                                rotate_left
                                · intro w'
                                  go_simp
                                  with_reducible rfl
                                rotate_left
                                · simp only [Act.put, List.setIfInBounds_toArray, List.set_cons_zero, List.set_cons_succ, i64_w, i32_w]
                                  rfl
                                refine last_ (i := 12) (N := none) #[true, true, true, true, true, true, true, true, true, true, true, true, true, false] rfl rfl (one_of HT_.out (by kernel_rfl)) (by decide) (fun K hK => ?_)
                                have hs7000 : w7002.cell? ⟨gb210, 1, none⟩ = some (u211001) := (blk_cell BK210.out 1).trans rfl
                                have hfs7000 := blk_frozen BK210.out 1
                                have hns7000_0 := NB209_210.out
                                have hms7000_0 := NB210_209.out
                                refine skip_ (w1 := ?_) (by rfl) rfl ?_ ?_
                                rotate_left
                                · go_simp
                                  rfl
                                refine hK.out _ _ ?_
                                clear hK K
                                refine pure_ (i := 13) (N := some 0) (v := ?_) (a' := ?_) #[true, true, true, true, true, true, true, true, true, true, true, true, true, true] rfl rfl (any_of HT_.out (by kernel_rfl)) (fun _ _ _ h => h) (Or.inl ⟨by rfl, ?_⟩) ?_ ?_
                                rotate_left
                                · intro w'
                                  go_simp
                                  with_reducible rfl
                                rotate_left
                                · simp only [Act.put, List.setIfInBounds_toArray, List.set_cons_zero, List.set_cons_succ, i64_w, i32_w]
                                  rfl
                                refine done_ (done_of HT_.out (by kernel_rfl)) ?_
                                try go_wp2
                                go_roundg kj28
                                case measure => have := HK1.out; have := HJ8.out; have := HJ23.out; have := HK4.out; have := HJ28.out; omega
                                case rel => exact ⟨(y242), (IntKind.u64.wrap (x5_4 - 1)), (true), (y239), (.slice Ao7001 y239.length co7001), sm_, sm_, H', ⟨by have := HK1.out; have := HJ8.out; have := HJ23.out; have := HK4.out; have := HJ28.out; omega⟩, ⟨(vt_ (Kd.V_mono (Kd.V_far (p := ⟨gb210, 1, none⟩) (Kd.V_mono HO7002.out (fun k_ hk => (⟨hk, hk.1.2.2⟩ : _ ∧ k_ ≠ gb210))) (fun _ hk => hk.2) (.slice Ao7001 y239.length co7001)) (fun _ hk => ⟨hk.1.1.1, ⟨hk.1.2, ⟨hk.1.1.2.1, hk.1.1.2.2⟩⟩⟩)))⟩, ⟨(rt_ (Kd.R_mono (Kd.R_far (p := ⟨gb210, 1, none⟩) (Kd.R_types HO_211000.out BK210.out (by decide)) (fun _ hk => hk.2) (.slice Ao7001 y239.length co7001)) (fun _ hk => trivial)))⟩, ⟨(rt_ (Kd.R_mono (Kd.R_far (p := ⟨gb210, 1, none⟩) (Kd.R_types HO7003.out BK210.out (by decide)) (fun _ hk => hk.2) (.slice Ao7001 y239.length co7001)) (fun _ hk => trivial)))⟩, ⟨by (with_reducible repeat (first | refine blk_drewN ?_ _ | refine blk_drew ?_ | refine blk_alloc ?_ _)); refine blk_far ?_ NB209_210.out _; exact (bo_ BK209)⟩, ⟨by (with_reducible repeat (first | refine blk_drewN ?_ _ | refine blk_drew ?_ | refine blk_alloc ?_ _)); refine blk_put (cs := #[u211000, u211001]) ?_ 1 _ rfl; exact (bo_ BK210)⟩, ⟨bl_⟩⟩
                              | go_wp2_with (first | ((with_reducible refine gate_callee (f := 94) rfl ?_); refine goL_ (some 61) Try.func94 #[.slice Ao50 x0_4.length co50] ?_; (with_reducible refine (frame_take.calls kj28 (fun k_ => (some k_ ≠ (u211000 : Value).ownBlock ∧ (some k_ ≠ (u211001 : Value).ownBlock ∧ (k_ ≠ gb209 ∧ k_ ≠ gb210)))) _ _ x0_4 t229 t230 true _ ?side1 A32.out).mono ?_); (case side1 => exact HO_0.out); rintro e w7000 ⟨v7000, rfl, ho0, hb⟩; refine ⟨_, rfl, ?_⟩; have n_ := pk7 (Kd.V_below (vo_ HO_0) hb) (Kd.R_below (ro_ HO_211000) hb) (Kd.R_below (ro_ HO_211001) hb) (Kd.V_lower (Kd.V_mono (ok' := fun k_ => some k_ ≠ (u211000 : Value).ownBlock ∧ some k_ ≠ (u211001 : Value).ownBlock ∧ k_ ≠ gb209 ∧ k_ ≠ gb210) ho0 (fun k_ hk_ => ⟨Or.elim hk_ (fun hs_ => hs_.1) (fun hn_ => (Kd.fresh' (Kd.R_lt (ro_ HO_211000)) k_ hn_)), Or.elim hk_ (fun hs_ => hs_.2.1) (fun hn_ => (Kd.fresh' (Kd.R_lt (ro_ HO_211001)) k_ hn_)), Or.elim hk_ (fun hs_ => hs_.2.2.1) (fun hn_ => (Kd.freshB (g := gb209) (o := .cells #[.slice none 0 0, .slice none 0 0] 48 (0, 0)) (bo_ BK209) k_ hn_)), Or.elim hk_ (fun hs_ => hs_.2.2.2) (fun hn_ => (Kd.freshB (g := gb210) (o := .cells #[u211000, u211001] 48 (0, 0)) (bo_ BK210) k_ hn_))⟩)) (below_size bl_)) (blk_below (bo_ BK209) hb) (blk_below (bo_ BK210) hb) (below_step bl_ hb); clear HO_0 HO_211000 HO_211001 BK209 BK210 HB; obtain ⟨HO_0, HO_211000, HO_211001, HO7000, BK209, BK210, HB⟩ := n_; (try clear hb ho0); obtain ⟨Ao7000, co7000, eo7000⟩ := Kd.V_slice HO7000.out; subst eo7000) | ((with_reducible refine gate_callee (f := 94) rfl ?_); refine goL_ (some 61) Try.func94 #[.slice Ao53 x0_4.length co53] ?_; (with_reducible refine (frame_take.calls kj28 (fun k_ => (some k_ ≠ (u211000 : Value).ownBlock ∧ (some k_ ≠ (u211001 : Value).ownBlock ∧ (k_ ≠ gb209 ∧ k_ ≠ gb210)))) _ _ x0_4 t229 t230 false _ ?side1 A32.out).mono ?_); (case side1 => exact HO_0.out); rintro e w7000 ⟨v7000, rfl, ho0, hb⟩; refine ⟨_, rfl, ?_⟩; have n_ := pk7 (Kd.V_below (vo_ HO_0) hb) (Kd.R_below (ro_ HO_211000) hb) (Kd.R_below (ro_ HO_211001) hb) (Kd.V_lower (Kd.V_mono (ok' := fun k_ => some k_ ≠ (u211000 : Value).ownBlock ∧ some k_ ≠ (u211001 : Value).ownBlock ∧ k_ ≠ gb209 ∧ k_ ≠ gb210) ho0 (fun k_ hk_ => ⟨Or.elim hk_ (fun hs_ => hs_.1) (fun hn_ => (Kd.fresh' (Kd.R_lt (ro_ HO_211000)) k_ hn_)), Or.elim hk_ (fun hs_ => hs_.2.1) (fun hn_ => (Kd.fresh' (Kd.R_lt (ro_ HO_211001)) k_ hn_)), Or.elim hk_ (fun hs_ => hs_.2.2.1) (fun hn_ => (Kd.freshB (g := gb209) (o := .cells #[.slice none 0 0, .slice none 0 0] 48 (0, 0)) (bo_ BK209) k_ hn_)), Or.elim hk_ (fun hs_ => hs_.2.2.2) (fun hn_ => (Kd.freshB (g := gb210) (o := .cells #[u211000, u211001] 48 (0, 0)) (bo_ BK210) k_ hn_))⟩)) (below_size bl_)) (blk_below (bo_ BK209) hb) (blk_below (bo_ BK210) hb) (below_step bl_ hb); clear HO_0 HO_211000 HO_211001 BK209 BK210 HB; obtain ⟨HO_0, HO_211000, HO_211001, HO7000, BK209, BK210, HB⟩ := n_; (try clear hb ho0)))
                                first
                                  | go_roundg kj28
                                    case measure => have := HK1.out; have := HJ8.out; have := HJ23.out; have := HK4.out; have := HJ28.out; omega
                                    case rel => exact ⟨(t230), (IntKind.u64.wrap (x5_4 - 1)), (false), (x211001_4), (u211001), sm_, sm_, H', ⟨by have := HK1.out; have := HJ8.out; have := HJ23.out; have := HK4.out; have := HJ28.out; omega⟩, ⟨(vo_ HO7000)⟩, ⟨(ro_ HO_211000)⟩, ⟨(ro_ HO_211001)⟩, ⟨(bo_ BK209)⟩, ⟨(bo_ BK210)⟩, ⟨bl_⟩⟩
                                  | refine bodyPost_ret (results_ct rfl _ _ gb209 48 #[.slice none 0 0, .slice none 0 0] (0, 0) _ rfl (by (with_reducible repeat (first | refine blk_drewN ?_ _ | refine blk_drew ?_ | refine blk_alloc ?_ _)); refine blk_put (cs := #[.slice none 0 0, .slice none 0 0]) ?_ 1 _ rfl; (with_reducible repeat (first | refine blk_drewN ?_ _ | refine blk_drew ?_ | refine blk_alloc ?_ _)); refine blk_put (cs := #[.slice none 0 0, .slice none 0 0]) ?_ 0 _ rfl; exact (bo_ BK209)) Try.underlying48 rfl (by kernel_rfl)) rfl ?_
                                    exact ⟨_, _, rf_, nl_, nl_, bl_⟩
                                  | refine bodyPost_ret (results_ct rfl _ _ gb209 48 #[.slice Ao63 x211000_1.length co63, .slice Ao65 x211001_4.length co65] (0, 0) _ rfl (by (with_reducible repeat (first | refine blk_drewN ?_ _ | refine blk_drew ?_ | refine blk_alloc ?_ _)); refine blk_put (cs := #[.slice Ao63 x211000_1.length co63, .slice none 0 0]) ?_ 1 _ rfl; (with_reducible repeat (first | refine blk_drewN ?_ _ | refine blk_drew ?_ | refine blk_alloc ?_ _)); refine blk_put (cs := #[.slice none 0 0, .slice none 0 0]) ?_ 0 _ rfl; exact (bo_ BK209)) Try.underlying48 rfl (by kernel_rfl)) rfl ?_
                                    exact ⟨_, _, rf_, (rt_ (Kd.R_mono (Kd.R_far (p := ⟨gb209, 1, none⟩) (Kd.R_far (p := ⟨gb209, 0, none⟩) (Kd.R_types HO_211000.out BK209.out (by decide)) (fun _ hk => hk.2) (.slice Ao63 x211000_1.length co63)) (fun _ hk => hk.2) (.slice Ao65 x211001_4.length co65)) (fun _ hk => trivial))), (rt_ (Kd.R_mono (Kd.R_far (p := ⟨gb209, 1, none⟩) (Kd.R_far (p := ⟨gb209, 0, none⟩) (Kd.R_types HO_211001.out BK209.out (by decide)) (fun _ hk => hk.2) (.slice Ao63 x211000_1.length co63)) (fun _ hk => hk.2) (.slice Ao65 x211001_4.length co65)) (fun _ hk => trivial))), bl_⟩
            replace H := bindA H
            obtain ⟨⟨t216, t217, t220⟩, A12, H⟩ := H
            try dsimp only at H
            replace H := dbool H
            rcases H with ⟨rfl, H⟩ | ⟨rfl, H⟩
            focus
              by_cases c14 : x211000_1.length < 17592186044416
              rotate_left
              · rw [if_neg c14] at H
                exact absurd H (by simp)
              rw [if_pos c14] at H
              have LMc14 := Aside0.mk c14
              clear c14
              obtain ⟨y221, hy221⟩ : ∃ y_ : List Int, y_ = (x211000_1 ++ [wrap64 (Go.bits .xor .u64 (t216 / 2) (IntKind.u64.wrap (-(Go.bits .and .u64 t216 1))))]) := ⟨_, rfl⟩
              replace H : (frame_Decode.l0 kj8 t217 (IntKind.u64.wrap (x5_1 - 1)) true y221) = some (r1, r2, r3) := by first | (rw [hy221]; with_reducible exact H) | (have H2_ := (Option.bind_some _ _).symm.trans H; rw [hy221]; with_reducible exact H2_) | (have H2_ := (Option.bind_some _ _).symm.trans H; with_reducible exact H2_) | with_reducible exact H | (rw [hy221]; exact H) | exact H
              have Ny221 := Aside0.mk hy221
              clear hy221
              have H' := Aside0.mk H
              clear H
              obtain ⟨Ao15, co15, eo15⟩ := Kd.V_slice HO_0.out
              subst eo15
            rotate_left
            focus
              have H' := Aside0.mk H
              clear H
              obtain ⟨Ao22, co22, eo22⟩ := Kd.V_slice HO_0.out
              subst eo22
            all_goals
              go_wp2_with (first | ((with_reducible refine gate_callee (f := 94) rfl ?_); refine goL_ (some 28) Try.func94 #[.slice Ao15 x0_1.length co15] ?_; (with_reducible refine (frame_take.calls kj8 (fun k_ => (some k_ ≠ (u211000 : Value).ownBlock ∧ (k_ ≠ gb209 ∧ k_ ≠ gb210))) _ _ x0_1 t216 t217 true _ ?side1 A12.out).mono ?_); (case side1 => exact HO_0.out); rintro e w16 ⟨v218, rfl, ho0, hb⟩; refine ⟨_, rfl, ?_⟩; have n_ := pk6 (Kd.V_below (vo_ HO_0) hb) (Kd.R_below (ro_ HO_211000) hb) (Kd.V_lower (Kd.V_mono (ok' := fun k_ => some k_ ≠ (u211000 : Value).ownBlock ∧ k_ ≠ gb209 ∧ k_ ≠ gb210) ho0 (fun k_ hk_ => ⟨Or.elim hk_ (fun hs_ => hs_.1) (fun hn_ => (Kd.fresh' (Kd.R_lt (ro_ HO_211000)) k_ hn_)), Or.elim hk_ (fun hs_ => hs_.2.1) (fun hn_ => (Kd.freshB (g := gb209) (o := .cells #[.slice none 0 0, .slice none 0 0] 48 (0, 0)) (bo_ BK209) k_ hn_)), Or.elim hk_ (fun hs_ => hs_.2.2) (fun hn_ => (Kd.freshB (g := gb210) (o := .cells #[u211000, .slice none 0 0] 48 (0, 0)) (bo_ BK210) k_ hn_))⟩)) (below_size bl_)) (blk_below (bo_ BK209) hb) (blk_below (bo_ BK210) hb) (below_step bl_ hb); clear HO_0 HO_211000 BK209 BK210 HB; obtain ⟨HO_0, HO_211000, HO219, BK209, BK210, HB⟩ := n_; (try clear hb ho0); have hnb17 := NB210_209.out; have hnc17 := NB209_210.out; have hcz18_0 : w16.cell? ⟨gb210, 0, none⟩ = some (u211000) := (blk_cell BK210.out 0).trans rfl; have hcz18_1 : w16.cell? ⟨gb210, 1, none⟩ = some (.slice none 0 0) := (blk_cell BK210.out 1).trans rfl; have hfz18_0 := blk_frozen BK210.out 0; have hfz18_1 := blk_frozen BK210.out 1) | ((with_reducible refine gate_callee (f := 94) rfl ?_); refine goL_ (some 28) Try.func94 #[.slice Ao22 x0_1.length co22] ?_; (with_reducible refine (frame_take.calls kj8 (fun k_ => (some k_ ≠ (u211000 : Value).ownBlock ∧ (k_ ≠ gb209 ∧ k_ ≠ gb210))) _ _ x0_1 t216 t217 false _ ?side1 A12.out).mono ?_); (case side1 => exact HO_0.out); rintro e w23 ⟨v218, rfl, ho0, hb⟩; refine ⟨_, rfl, ?_⟩; have n_ := pk6 (Kd.V_below (vo_ HO_0) hb) (Kd.R_below (ro_ HO_211000) hb) (Kd.V_lower (Kd.V_mono (ok' := fun k_ => some k_ ≠ (u211000 : Value).ownBlock ∧ k_ ≠ gb209 ∧ k_ ≠ gb210) ho0 (fun k_ hk_ => ⟨Or.elim hk_ (fun hs_ => hs_.1) (fun hn_ => (Kd.fresh' (Kd.R_lt (ro_ HO_211000)) k_ hn_)), Or.elim hk_ (fun hs_ => hs_.2.1) (fun hn_ => (Kd.freshB (g := gb209) (o := .cells #[.slice none 0 0, .slice none 0 0] 48 (0, 0)) (bo_ BK209) k_ hn_)), Or.elim hk_ (fun hs_ => hs_.2.2) (fun hn_ => (Kd.freshB (g := gb210) (o := .cells #[u211000, .slice none 0 0] 48 (0, 0)) (bo_ BK210) k_ hn_))⟩)) (below_size bl_)) (blk_below (bo_ BK209) hb) (blk_below (bo_ BK210) hb) (below_step bl_ hb); clear HO_0 HO_211000 BK209 BK210 HB; obtain ⟨HO_0, HO_211000, HO219, BK209, BK210, HB⟩ := n_; (try clear hb ho0)) | ((with_reducible refine gate_builtin (b := .append) (xs := #[.tmp 34, .tmp 42]) rfl ?_); (try (refine gate_guard (by rfl) ?_; dsimp only)); at_builtin; refine Kd.R_append (Kd.int .i64) (w0 := w) w.heap.size rfl (.tmp 34) (.tmp 42) 45 3 (.int .i64 0) 8 rfl Try.underlying45 info3 rfl (by decide) (by omega) u211000 x211000_1 (wrap64 (Go.bits .xor .u64 (t216 / 2) (IntKind.u64.wrap (-(Go.bits .and .u64 t216 1))))) [.int .i64 (wrap64 (Go.bits .xor .u64 (t216 / 2) (IntKind.u64.wrap (-(Go.bits .and .u64 t216 1)))))] (fun _ => True) (fun _ => False) rfl rfl ?aP (fun _ hk => hk.elim) ?aF ?aO ?aB ?aS ?aL ?_; (case aP => exact rfl); (case aB => exact bl_); (case aF => exact (fun _ _ => trivial)); (case aO => exact (ro_ HO_211000)); (case aS => exact (below_size bl_)); (case aL => have := LMc14.out; omega); intro v222 w19 ho hb hg hat; rw [← Ny221.out] at ho; have n_ := pk6 (Kd.V_afterv (ok := (fun k_ => k_ ≠ gb209 ∧ k_ ≠ gb210)) (vt_ (Kd.V_mono HO_0.out (fun _ hk => ⟨⟨hk.2.1, hk.2.2⟩, hk.1⟩))) hg hat) (blk_grown (bo_ BK209) hg (Kd.R_ne HO_211000.out BK209.out (by decide))) (blk_grown (bo_ BK210) hg (Kd.R_ne HO_211000.out BK210.out (by decide))) (Kd.V_afterv (ok := (fun k_ => k_ ≠ gb209 ∧ k_ ≠ gb210)) (vt_ (Kd.V_mono HO219.out (fun _ hk => ⟨⟨hk.2.1, hk.2.2⟩, hk.1⟩))) hg hat) (hb) (ho); clear HO_0 BK209 BK210 HO219 HB HO_211000; obtain ⟨HO_0, BK209, BK210, HO219, HB, HO223⟩ := n_; clear ho hb hg hat; obtain ⟨Ao20, co20, eo20⟩ := Kd.R_slice HO223.out; subst eo20; have hcz21_0 : w19.cell? ⟨gb210, 0, none⟩ = some (u211000) := (blk_cell BK210.out 0).trans rfl; have hcz21_1 : w19.cell? ⟨gb210, 1, none⟩ = some (.slice none 0 0) := (blk_cell BK210.out 1).trans rfl; have hfz21_0 := blk_frozen BK210.out 0; have hfz21_1 := blk_frozen BK210.out 1))
              go_roundg kj8
              case measure => have := HK1.out; have := HJ8.out; omega
              first
                | case rel => exact ⟨(t217), (IntKind.u64.wrap (x5_1 - 1)), (true), (y221), (.slice Ao20 y221.length co20), sm_, sm_, H', ⟨by have := HK1.out; have := HJ8.out; omega⟩, ⟨(vt_ (Kd.V_mono (Kd.V_far (p := ⟨gb210, 0, none⟩) (Kd.V_mono HO219.out (fun k_ hk => (⟨hk, hk.1.2⟩ : _ ∧ k_ ≠ gb210))) (fun _ hk => hk.2) (.slice Ao20 y221.length co20)) (fun _ hk => ⟨hk.1.2, ⟨hk.1.1.1, hk.1.1.2⟩⟩)))⟩, ⟨(rt_ (Kd.R_mono (Kd.R_far (p := ⟨gb210, 0, none⟩) (Kd.R_types HO223.out BK210.out (by decide)) (fun _ hk => hk.2) (.slice Ao20 y221.length co20)) (fun _ hk => trivial)))⟩, ⟨by (with_reducible repeat (first | refine blk_drewN ?_ _ | refine blk_drew ?_ | refine blk_alloc ?_ _)); refine blk_far ?_ NB209_210.out _; exact (bo_ BK209)⟩, ⟨by (with_reducible repeat (first | refine blk_drewN ?_ _ | refine blk_drew ?_ | refine blk_alloc ?_ _)); refine blk_put (cs := #[u211000, .slice none 0 0]) ?_ 0 _ rfl; exact (bo_ BK210)⟩, ⟨bl_⟩⟩
                | case rel => exact ⟨(t217), (IntKind.u64.wrap (x5_1 - 1)), (false), (x211000_1), (u211000), sm_, sm_, H', ⟨by have := HK1.out; have := HJ8.out; omega⟩, ⟨(vo_ HO219)⟩, ⟨(ro_ HO_211000)⟩, ⟨(bo_ BK209)⟩, ⟨(bo_ BK210)⟩, ⟨bl_⟩⟩
  rw [if_pos c2] at H
  have c2b0 : decide (4096 < (l0.length : Int)) = true := decide_eq_true c2
  have c2b1 : decide (4096 < l0.length) = true := decide_eq_true (by omega)
  clear c2
  simp only [Option.some.injEq, Prod.mk.injEq] at H
  obtain ⟨rfl, rfl, rfl⟩ := H
  go_enter Try.func95, Try.ntmps95
  go_wp2_with (first | ((with_reducible refine gate_dst (N := 2) rfl ?_); (try (refine gate_guard (by rfl) ?_; dsimp only)); refine box_ev 2 #[.slice none 0 0, .slice none 0 0] 48 ?_; intro gb209 hg w3 hbox hb; have n_ := pk4 (below_step bl_ hb) (hbox) ((ge_ hg bl_ : w.heap.size ≤ gb209)) ((ge_ hg bl_ : w.heap.size ≤ gb209)); clear HB; obtain ⟨HB, BK209, GW209, GE209⟩ := n_; clear hb hbox hg; have hcz4_0 : w3.cell? ⟨gb209, 0, none⟩ = some (.slice none 0 0) := (blk_cell BK209.out 0).trans rfl; have hcz4_1 : w3.cell? ⟨gb209, 1, none⟩ = some (.slice none 0 0) := (blk_cell BK209.out 1).trans rfl; have hfz4_0 := blk_frozen BK209.out 0; have hfz4_1 := blk_frozen BK209.out 1))
  refine bodyPost_ret (results_ct rfl _ _ gb209 48 #[.slice none 0 0, .slice none 0 0] (0, 0) _ rfl (by (with_reducible repeat (first | refine blk_drewN ?_ _ | refine blk_drew ?_ | refine blk_alloc ?_ _)); refine blk_put (cs := #[.slice none 0 0, .slice none 0 0]) ?_ 1 _ rfl; (with_reducible repeat (first | refine blk_drewN ?_ _ | refine blk_drew ?_ | refine blk_alloc ?_ _)); refine blk_put (cs := #[.slice none 0 0, .slice none 0 0]) ?_ 0 _ rfl; exact (bo_ BK209)) Try.underlying48 rfl (by kernel_rfl)) rfl ?_
  exact ⟨_, _, rf_, nl_, nl_, bl_⟩
end Go.Proofs.Ytfmdllbkfpbdcaa.G
end
section
namespace Go.Proofs.Ytfmdllbkfpbdcaa.G
open Go.RowKit Go.Proofs.YtfmdllbkfpbdcaaX Go.Proofs.YtfmdllbkfpbdcaaW.PrintWords Go.Proofs.YtfmdllbkfpbdcaaW.PrintLast Go.Proofs.YtfmdllbkfpbdcaaW.PrintMore
attribute [local go_sem] max2_int min2_int max_two min_two max_three min_three max_four min_four
mutual
def frame_First.j0 : Nat → List Int → Int → List Int → Bool → Option (List Int × List ByteArray × Int × Int)
  | 0, _, _, _, _ => none
  | k + 1, x0, x5, x6, x32 => if x32 = true then (some (([] : List Int), ([] : List ByteArray), 0, 2)) else (if 0 ≤ x5 then (if x5 ≤ (x6.length : Int) then ((frame_Sum.f k (x6.take (x5 : Int).toNat)).bind fun t263 => (frame_First.l0 k x0 x5 x6 (x6.take (x5 : Int).toNat) t263 0)) else (none)) else (none))
def frame_First.l0 : Nat → List Int → Int → List Int → List Int → Int → Int → Option (List Int × List ByteArray × Int × Int)
  | 0, _, _, _, _, _, _ => none
  | k + 1, x0, x5, x6, x8, x9, x41 => if x41 < 4 then (if 0 ≤ (wrap64 ((wrap64 (x5)) + x41)) then (if (wrap64 ((wrap64 (x5)) + x41)) < (x6.length : Int) then (if 0 ≤ (wrap64 (24 - (wrap64 (8 * x41)))) then (if (rd x6 (wrap64 ((wrap64 (x5)) + x41))) = ((shr .u32 x9 (wrap64 (24 - (wrap64 (8 * x41))))) % 256) then (frame_First.l0 k x0 x5 x6 x8 x9 (wrap64 (x41 + 1))) else (some (([] : List Int), ([] : List ByteArray), 0, 3))) else (none)) else (none)) else (none)) else ((frame_Decode.f k x8).bind fun bt265 => (if bt265.2.2 = 0 then (some (bt265.1, bt265.2.1, wrap64 ((wrap64 ((wrap64 ((x0.length : Int) - (x6.length : Int))) + (wrap64 (x5)))) + 4), 0)) else (some (([] : List Int), ([] : List ByteArray), 0, bt265.2.2))))
end
def frame_First.f (k : Nat) (l0 : List Int) : Option (List Int × List ByteArray × Int × Int) := (frame_take.f k l0).bind fun bt248 => (if bt248.2.2 = true then (if bt248.1 > 4096 then (frame_First.j0 k l0 bt248.1 bt248.2.1 true) else (frame_First.j0 k l0 bt248.1 bt248.2.1 (decide ((bt248.2.1.length : Int) < (wrap64 ((wrap64 (bt248.1)) + 4)))))) else (frame_First.j0 k l0 bt248.1 bt248.2.1 true))
theorem frame_First.mono_l : ∀ k, (∀ y0 y1 y2 y3, LeO (frame_First.j0 k y0 y1 y2 y3) (frame_First.j0 (k + 1) y0 y1 y2 y3)) ∧ (∀ y0 y1 y2 y3 y4 y5, LeO (frame_First.l0 k y0 y1 y2 y3 y4 y5) (frame_First.l0 (k + 1) y0 y1 y2 y3 y4 y5))
  | 0 => ⟨fun _ _ _ _ r h => by simp [frame_First.j0] at h, fun _ _ _ _ _ _ r h => by simp [frame_First.l0] at h⟩
  | k + 1 => by
    obtain ⟨ih0, ih1⟩ := frame_First.mono_l k
    refine ⟨?_, ?_⟩
    · intro y0 y1 y2 y3
      unfold frame_First.j0
      repeat' first
      | (with_reducible exact ih0 _ _ _ _)
      | (with_reducible exact ih1 _ _ _ _ _ _)
      | (with_reducible exact frame_Decode.mono _ _)
      | (with_reducible exact frame_Sum.mono _ _)
      | (with_reducible exact frame_take.mono _ _)
      | (with_reducible exact LeO.refl _)
      | (with_reducible exact LeO.none _)
      | (with_reducible refine LeO.ite ?_ ?_)
      | (with_reducible refine LeO.bind ?_ (fun _ => ?_))
      | exact ih0 _ _ _ _
      | exact ih1 _ _ _ _ _ _
      | exact frame_Decode.mono _ _
      | exact frame_Sum.mono _ _
      | exact frame_take.mono _ _
      | exact LeO.none _
      | refine LeO.ite ?_ ?_
      | refine LeO.bind ?_ (fun _ => ?_)
    · intro y0 y1 y2 y3 y4 y5
      unfold frame_First.l0
      repeat' first
      | (with_reducible exact ih0 _ _ _ _)
      | (with_reducible exact ih1 _ _ _ _ _ _)
      | (with_reducible exact frame_Decode.mono _ _)
      | (with_reducible exact frame_Sum.mono _ _)
      | (with_reducible exact frame_take.mono _ _)
      | (with_reducible exact LeO.refl _)
      | (with_reducible exact LeO.none _)
      | (with_reducible refine LeO.ite ?_ ?_)
      | (with_reducible refine LeO.bind ?_ (fun _ => ?_))
      | exact ih0 _ _ _ _
      | exact ih1 _ _ _ _ _ _
      | exact frame_Decode.mono _ _
      | exact frame_Sum.mono _ _
      | exact frame_take.mono _ _
      | exact LeO.none _
      | refine LeO.ite ?_ ?_
      | refine LeO.bind ?_ (fun _ => ?_)
theorem frame_First.mono : ∀ a0 k, LeO (frame_First.f k a0) (frame_First.f (k + 1) a0) := by
  intro a0 k
  obtain ⟨ih0, ih1⟩ := frame_First.mono_l k
  unfold frame_First.f
  repeat' first
      | (with_reducible exact ih0 _ _ _ _)
      | (with_reducible exact ih1 _ _ _ _ _ _)
      | (with_reducible exact frame_Decode.mono _ _)
      | (with_reducible exact frame_Sum.mono _ _)
      | (with_reducible exact frame_take.mono _ _)
      | (with_reducible exact LeO.refl _)
      | (with_reducible exact LeO.none _)
      | (with_reducible refine LeO.ite ?_ ?_)
      | (with_reducible refine LeO.bind ?_ (fun _ => ?_))
      | exact ih0 _ _ _ _
      | exact ih1 _ _ _ _ _ _
      | exact frame_Decode.mono _ _
      | exact frame_Sum.mono _ _
      | exact frame_take.mono _ _
      | exact LeO.none _
      | refine LeO.ite ?_ ?_
      | refine LeO.bind ?_ (fun _ => ?_)
set_option maxHeartbeats 8000000 in
set_option maxRecDepth 100000 in
theorem frame_First.calls (k : Nat) (A0 : Option Addr) (c0 : Nat) (l0 : List Int) (r1 : List Int) (r2 : List ByteArray) (r3 : Int) (r4 : Int) (w : World) (hr0 : Kd.C (Kd.int .u8) w A0 l0.length l0) (hc0 : l0.length ≤ c0) (h : frame_First.f k l0 = some (r1, r2, r3, r4)) :
    Calls Try.prog 80 #[.slice A0 l0.length c0] w fun e w' => ∃ v0_ v1_ : Value, e = .returned (.tuple #[.agg #[v0_, v1_], .int .i64 r3, .int .i64 r4]) ∧ Kd.R (Kd.int .i64) 3 w' w.heap.size (fun _ => True) v0_ r1 ∧ Kd.R Kd.string 9 w' w.heap.size (fun _ => True) v1_ r2 ∧ Below w.heap.size w w' := by
  have hu48 := Try.underlying48
  have HR0 := Aside0.mk hr0
  have HC0 := Aside0.mk hc0
  clear hr0 hc0
  have HB := Aside0.mk (Below.refl w.heap.size w)
  have H : ((frame_take.f k l0).bind fun bt248 => (if bt248.2.2 = true then (if bt248.1 > 4096 then (frame_First.j0 k l0 bt248.1 bt248.2.1 true) else (frame_First.j0 k l0 bt248.1 bt248.2.1 (decide ((bt248.2.1.length : Int) < (wrap64 ((wrap64 (bt248.1)) + 4)))))) else (frame_First.j0 k l0 bt248.1 bt248.2.1 true))) = some (r1, r2, r3, r4) := h
  clear h
  replace H := bindA H
  obtain ⟨⟨t248, t249, t252⟩, A2, H⟩ := H
  try dsimp only at H
  have HC3 := Aside0.mk H
  clear H
  go_enter Try.func80, Try.ntmps80
  go_upto_region 2 with (first | ((with_reducible refine gate_dst (N := 2) rfl ?_); (try (refine gate_guard (by rfl) ?_; dsimp only)); refine box_ev 2 #[.slice none 0 0, .slice none 0 0] 48 ?_; intro gb247 hg w4 hbox hb; have n_ := pk4 (below_step bl_ hb) (hbox) ((ge_ hg bl_ : w.heap.size ≤ gb247)) ((ge_ hg bl_ : w.heap.size ≤ gb247)); clear HB; obtain ⟨HB, BK247, GW247, GE247⟩ := n_; clear hb hbox hg) | (go_at_call 94; (with_reducible refine (frame_take.calls k (fun k_ => k_ < w.heap.size) _ _ l0 t248 t249 t252 _ ?side1 A2.out).mono ?_); (case side1 => exact Kd.V_mk HC0.out (Kd.F_below (Kd.C_F (Kd.heap_int .u8) HR0.out) bl_)); rintro e w5 ⟨v250, rfl, ho0, hb⟩; have n_ := pk3 (Kd.V_lower (Kd.V_mono (ok' := fun k_ => k_ ≠ gb247) ho0 (fun k_ hk_ => Or.elim hk_ (fun hs_ => fun e_ => Nat.not_le.2 hs_ (by rw [e_]; exact GW247.out)) (fun hn_ => (Kd.freshB (g := gb247) (o := .cells #[.slice none 0 0, .slice none 0 0] 48 (0, 0)) (bo_ BK247) k_ hn_)))) (below_size bl_)) (blk_below (bo_ BK247) hb) (below_step bl_ hb); clear BK247 HB; obtain ⟨HO251, BK247, HB⟩ := n_; (try clear hb ho0)))
  repeat (go_quiet (first | ((with_reducible refine gate_dst (N := 2) rfl ?_); (try (refine gate_guard (by rfl) ?_; dsimp only)); refine box_ev 2 #[.slice none 0 0, .slice none 0 0] 48 ?_; intro gb247 hg w4 hbox hb; have n_ := pk4 (below_step bl_ hb) (hbox) ((ge_ hg bl_ : w.heap.size ≤ gb247)) ((ge_ hg bl_ : w.heap.size ≤ gb247)); clear HB; obtain ⟨HB, BK247, GW247, GE247⟩ := n_; clear hb hbox hg) | (go_at_call 94; (with_reducible refine (frame_take.calls k (fun k_ => k_ < w.heap.size) _ _ l0 t248 t249 t252 _ ?side1 A2.out).mono ?_); (case side1 => exact Kd.V_mk HC0.out (Kd.F_below (Kd.C_F (Kd.heap_int .u8) HR0.out) bl_)); rintro e w5 ⟨v250, rfl, ho0, hb⟩; have n_ := pk3 (Kd.V_lower (Kd.V_mono (ok' := fun k_ => k_ ≠ gb247) ho0 (fun k_ hk_ => Or.elim hk_ (fun hs_ => fun e_ => Nat.not_le.2 hs_ (by rw [e_]; exact GW247.out)) (fun hn_ => (Kd.freshB (g := gb247) (o := .cells #[.slice none 0 0, .slice none 0 0] 48 (0, 0)) (bo_ BK247) k_ hn_)))) (below_size bl_)) (blk_below (bo_ BK247) hb) (below_step bl_ hb); clear BK247 HB; obtain ⟨HO251, BK247, HB⟩ := n_; (try clear hb ho0))); go_upto_region 2 with (first | ((with_reducible refine gate_dst (N := 2) rfl ?_); (try (refine gate_guard (by rfl) ?_; dsimp only)); refine box_ev 2 #[.slice none 0 0, .slice none 0 0] 48 ?_; intro gb247 hg w4 hbox hb; have n_ := pk4 (below_step bl_ hb) (hbox) ((ge_ hg bl_ : w.heap.size ≤ gb247)) ((ge_ hg bl_ : w.heap.size ≤ gb247)); clear HB; obtain ⟨HB, BK247, GW247, GE247⟩ := n_; clear hb hbox hg) | (go_at_call 94; (with_reducible refine (frame_take.calls k (fun k_ => k_ < w.heap.size) _ _ l0 t248 t249 t252 _ ?side1 A2.out).mono ?_); (case side1 => exact Kd.V_mk HC0.out (Kd.F_below (Kd.C_F (Kd.heap_int .u8) HR0.out) bl_)); rintro e w5 ⟨v250, rfl, ho0, hb⟩; have n_ := pk3 (Kd.V_lower (Kd.V_mono (ok' := fun k_ => k_ ≠ gb247) ho0 (fun k_ hk_ => Or.elim hk_ (fun hs_ => fun e_ => Nat.not_le.2 hs_ (by rw [e_]; exact GW247.out)) (fun hn_ => (Kd.freshB (g := gb247) (o := .cells #[.slice none 0 0, .slice none 0 0] 48 (0, 0)) (bo_ BK247) k_ hn_)))) (below_size bl_)) (blk_below (bo_ BK247) hb) (below_step bl_ hb); clear BK247 HB; obtain ⟨HO251, BK247, HB⟩ := n_; (try clear hb ho0))))
  (try simp only [Act.put, List.setIfInBounds_toArray, List.set_cons_zero, List.set_cons_succ])
  go_cut [32] (fun v32 wc => ∃ (kq : Nat) (x32_2 : Bool), v32 = .bool x32_2 ∧ Aside0 (frame_First.j0 kq l0 t248 t249 x32_2 = some (r1, r2, r3, r4)) ∧ Aside0 (kq ≤ k) ∧ Aside0 (Kd.V (Kd.int .u8) 5 wc w.heap.size (fun k_ => k_ ≠ gb247) v250 t249) ∧ Aside0 (wc.heap[gb247]? = some (.cells #[(.slice none 0 0), (.slice none 0 0)] 48 (0, 0))) ∧ Aside0 (Below w.heap.size w wc))
  case first =>
    have H := HC3.out
    clear HC3
    replace H := dbool H
    rcases H with ⟨rfl, H⟩ | ⟨rfl, H⟩
    focus
      replace H := dgt H
      rcases H with ⟨c7b0, H⟩ | ⟨c7b0, H⟩
      focus
        (first | rw [c7b0] | (simp only [i64_w, i32_w]; rw [c7b0]) | skip)
        have H' := Aside0.mk H
        clear H
      rotate_left
      focus
        (first | rw [c7b0] | (simp only [i64_w, i32_w]; rw [c7b0]) | skip)
        have H' := Aside0.mk H
        clear H
        obtain ⟨Ao8, co8, eo8⟩ := Kd.V_slice HO251.out
        subst eo8
    rotate_left 2
    focus
      have H' := Aside0.mk H
      clear H
    all_goals
      go_wp2
      repeat (go_quiet (fail); try go_wp2)
      go_meet
      first
        | case rel => exact ⟨_, (true), sm_, H', ⟨om_⟩, ⟨(vo_ HO251)⟩, ⟨(bo_ BK247)⟩, ⟨bl_⟩⟩
        | case rel => exact ⟨_, (decide ((t249.length : Int) < (wrap64 ((wrap64 (t248)) + 4)))), sm_, H', ⟨om_⟩, ⟨(vo_ HO251)⟩, ⟨(bo_ BK247)⟩, ⟨bl_⟩⟩
  case rest =>
    clear HC3
    obtain ⟨kq, x32_2, rfl, HA, HJ2, HO_6, BK247, HB⟩ := hcut
    cases kq with
    | zero => exact absurd HA.out (by simp [frame_First.j0])
    | succ kj2 =>
      have H := HA.out
      clear HA
      simp only [frame_First.j0] at H
      replace H := dbool H
      rcases H with ⟨rfl, H⟩ | ⟨rfl, H⟩
      rotate_left
      · by_cases c11 : 0 ≤ t248
        · rw [if_pos c11] at H
          have c11b0 := eq_true c11
          have c11b1 : decide (0 ≤ t248) = true := decide_eq_true c11
          clear c11
          by_cases c12 : t248 ≤ (t249.length : Int)
          · rw [if_pos c12] at H
            have c12b0 := eq_true c12
            have c12b1 : decide (t248 ≤ (t249.length : Int)) = true := decide_eq_true c12
            clear c12
            obtain ⟨y253, hy253⟩ : ∃ y_ : List Int, y_ = (t249.take (t248 : Int).toNat) := ⟨_, rfl⟩
            replace H : ((frame_Sum.f kj2 (t249.take (t248 : Int).toNat)).bind fun t263 => (frame_First.l0 kj2 l0 t248 t249 y253 t263 0)) = some (r1, r2, r3, r4) := by first | (rw [hy253]; with_reducible exact H) | (have H2_ := (Option.bind_some _ _).symm.trans H; rw [hy253]; with_reducible exact H2_) | (have H2_ := (Option.bind_some _ _).symm.trans H; with_reducible exact H2_) | with_reducible exact H | (rw [hy253]; exact H) | exact H
            have Ny253 := Aside0.mk hy253
            clear hy253
            have c13b0 := eq_true (dc_ : 0 ≤ t248)
            have c14b0 := eq_true (dc_ : t248 ≤ (t249.length : Int))
            have hy258 : y253 = (t249.take (t248 : Int).toNat) := Ny253.out
            rw [← hy258] at H
            replace H : ((frame_Sum.f kj2 y253).bind fun t263 => (frame_First.l0 kj2 l0 t248 t249 y253 t263 0)) = some (r1, r2, r3, r4) := by first | (rw [hy258]; with_reducible exact H) | (have H2_ := (Option.bind_some _ _).symm.trans H; rw [hy258]; with_reducible exact H2_) | (have H2_ := (Option.bind_some _ _).symm.trans H; with_reducible exact H2_) | with_reducible exact H | (rw [hy258]; exact H) | exact H
            have Ny258 := Aside0.mk hy258
            clear hy258
            replace H := bindA H
            obtain ⟨t263, A15, H⟩ := H
            try dsimp only at H
            have H' := Aside0.mk H
            clear H
            obtain ⟨Ao17, co17, eo17⟩ := Kd.V_slice HO_6.out
            subst eo17
            have q16 : (t248 : Int) ≤ ((t249.length : Int) : Int) := dc_
            obtain ⟨i016, hi016, _, hsz16, _⟩ := info_parts info5
            have hroom16 : t249.length ≤ co17 := (Kd.V_reads' HO_6.out).2.1
            have hC16 : Kd.F (Kd.int .u8) _ _ Ao17 t249.length t249 := (Kd.V_at (base := w.heap.size) HO_6.out).2.2
            have hcut16 := fun (kh_ : IntKind) => cut_to (P := Try.prog) 30 5 kh_ Try.underlying30 hi016 Ao17 t249.length co17 t248 dc_ q16 hroom16
            have hr16 := Kd.F_take (m := (t248 : Int).toNat) hC16 (by omega)
            have hy16 : y253.length = (t248 : Int).toNat := (by rw [Ny253.out, List.length_take]; omega)
            rw [← Ny253.out] at hr16
            rw [← hy16] at hcut16
            have HO257 := Aside0.mk (show Kd.V (Kd.int .u8) 5 _ w.heap.size _ (.slice Ao17 y253.length co17) y253 from Kd.V_mk (by omega) hr16)
            have HC257 := Aside0.mk (show y253.length ≤ co17 from by omega)
            clear hr16 hC16 hroom16 hi016 hsz16
            have KY16 := Aside0.mk hy16
            clear hy16
            replace q16 := eq_true q16
            have q18 : (t248 : Int) ≤ ((t249.length : Int) : Int) := dc_
            obtain ⟨i018, hi018, _, hsz18, _⟩ := info_parts info5
            have hroom18 : t249.length ≤ co17 := (Kd.V_reads' HO_6.out).2.1
            have hC18 : Kd.F (Kd.int .u8) _ _ Ao17 t249.length t249 := (Kd.V_at (base := w.heap.size) HO_6.out).2.2
            have hcut18 := fun (kh_ : IntKind) => cut_to (P := Try.prog) 30 5 kh_ Try.underlying30 hi018 Ao17 t249.length co17 t248 dc_ q18 hroom18
            have hr18 := Kd.F_take (m := (t248 : Int).toNat) hC18 (by omega)
            have hy18 : y253.length = (t248 : Int).toNat := (by rw [Ny258.out, List.length_take]; omega)
            rw [← Ny258.out] at hr18
            rw [← hy18] at hcut18
            have HO262 := Aside0.mk (show Kd.V (Kd.int .u8) 5 _ w.heap.size _ (.slice Ao17 y253.length co17) y253 from Kd.V_mk (by omega) hr18)
            have HC262 := Aside0.mk (show y253.length ≤ co17 from by omega)
            clear hr18 hC18 hroom18 hi018 hsz18
            have KY18 := Aside0.mk hy18
            clear hy18
            replace q18 := eq_true q18
            go_wp2_with (first | (go_at_call 90; (with_reducible refine (frame_Sum.calls kj2 _ _ y253 t263 _ ?side1 ?side2 A15.out).mono ?_); (case side1 => exact cv_ HO262); (case side2 => exact (Kd.V_reads' HO262.out).2.1); rintro e w' ⟨rfl, ⟨nd, rfl⟩⟩; (try first | exact ⟨rfl, _, World.drewN_drewN _ _ _⟩ | exact ⟨rfl, _, Eq.trans (World.drewN_drewN _ _ _) (congrArg (World.drewN _) (Nat.add_assoc _ _ _))⟩)))
            repeat (go_quiet (first | (go_at_call 90; (with_reducible refine (frame_Sum.calls kj2 _ _ y253 t263 _ ?side1 ?side2 A15.out).mono ?_); (case side1 => exact cv_ HO262); (case side2 => exact (Kd.V_reads' HO262.out).2.1); rintro e w' ⟨rfl, ⟨nd, rfl⟩⟩; (try first | exact ⟨rfl, _, World.drewN_drewN _ _ _⟩ | exact ⟨rfl, _, Eq.trans (World.drewN_drewN _ _ _) (congrArg (World.drewN _) (Nat.add_assoc _ _ _))⟩))); try go_wp2_with (first | (go_at_call 90; (with_reducible refine (frame_Sum.calls kj2 _ _ y253 t263 _ ?side1 ?side2 A15.out).mono ?_); (case side1 => exact cv_ HO262); (case side2 => exact (Kd.V_reads' HO262.out).2.1); rintro e w' ⟨rfl, ⟨nd, rfl⟩⟩; (try first | exact ⟨rfl, _, World.drewN_drewN _ _ _⟩ | exact ⟨rfl, _, Eq.trans (World.drewN_drewN _ _ _) (congrArg (World.drewN _) (Nat.add_assoc _ _ _))⟩))))
            go_loopg [41] kj2 (fun kq v41 w' => ∃ (x41_2 : Int), v41 = .int .i64 x41_2 ∧ Aside0 (frame_First.l0 kq l0 t248 t249 y253 t263 x41_2 = some (r1, r2, r3, r4)) ∧ Aside0 (kq ≤ kj2) ∧ Aside0 (Kd.V (Kd.int .u8) 5 w' w.heap.size (fun k_ => k_ ≠ gb247) (.slice Ao17 t249.length co17) t249) ∧ Aside0 (Kd.V (Kd.int .u8) 5 w' w.heap.size (fun k_ => k_ ≠ gb247) (.slice Ao17 y253.length co17) y253) ∧ Aside0 (w'.heap[gb247]? = some (.cells #[(.slice none 0 0), (.slice none 0 0)] 48 (0, 0))) ∧ Aside0 (Below w.heap.size w w'))
            case atStart => exact ⟨(0), sm_, H', ⟨Nat.le_refl _⟩, ⟨(vo_ HO_6)⟩, ⟨(vo_ HO257)⟩, ⟨(bo_ BK247)⟩, ⟨bl_⟩⟩
            case round =>
              clear H'
              try clear c9
              try clear c11
              try clear c11b0
              try clear c11b1
              try clear c12
              try clear c12b0
              try clear c12b1
              try clear c13b0
              try clear c14b0
              try clear q16
              try clear q18
              try clear q16
              try clear q18
              obtain ⟨x41_2, rfl, HA, HK2, HO_6, HO_8, BK247, HB⟩ := hrel
              cases gk with
              | zero => exact absurd HA.out (by simp [frame_First.l0])
              | succ k2 =>
                have H := HA.out
                clear HA
                simp only [frame_First.l0] at H
                replace H := dle H
                rcases H with ⟨c19b0, H⟩ | ⟨c19b0, H⟩
                focus
                  obtain ⟨ji20, hji20⟩ : ∃ j_ : Int, (wrap64 ((wrap64 (t248)) + x41_2)) = j_ := ⟨_, rfl⟩
                  replace H : (if 0 ≤ (ji20) then (if (ji20) < (t249.length : Int) then (if 0 ≤ (wrap64 (24 - (wrap64 (8 * x41_2)))) then (if (rd t249 (ji20)) = ((shr .u32 t263 (wrap64 (24 - (wrap64 (8 * x41_2))))) % 256) then (frame_First.l0 k2 l0 t248 t249 y253 t263 (wrap64 (x41_2 + 1))) else (some (([] : List Int), ([] : List ByteArray), 0, 3))) else (none)) else (none)) else (none)) = some (r1, r2, r3, r4) := by first | (rw [hji20] at H; exact H) | (simp only [hji20] at H ⊢; exact H)
                  have hji20w : (IntKind.i64.wrap ((wrap64 (t248)) + x41_2)) = ji20 := (i64_w _).trans hji20
                  replace H := dle H
                  rcases H with ⟨c21b0, H⟩ | ⟨c21b0, H⟩
                  rotate_left
                  · exact absurd H (by simp)
                  replace H := dle H
                  rcases H with ⟨c22b0, H⟩ | ⟨c22b0, H⟩
                  rotate_left
                  · exact absurd H (by simp)
                  obtain ⟨ji23, hji23⟩ : ∃ j_ : Int, (wrap64 (24 - (wrap64 (8 * x41_2)))) = j_ := ⟨_, rfl⟩
                  replace H : (if 0 ≤ (ji23) then (if (rd t249 (ji20)) = ((shr .u32 t263 (ji23)) % 256) then (frame_First.l0 k2 l0 t248 t249 y253 t263 (wrap64 (x41_2 + 1))) else (some (([] : List Int), ([] : List ByteArray), 0, 3))) else (none)) = some (r1, r2, r3, r4) := by first | (rw [hji23] at H; exact H) | (simp only [hji23] at H ⊢; exact H)
                  have hji23w : (IntKind.i64.wrap (24 - (wrap64 (8 * x41_2)))) = ji23 := (i64_w _).trans hji23
                  by_cases c24 : 0 ≤ (ji23)
                  rotate_left
                  · rw [if_neg c24] at H
                    exact absurd H (by simp)
                  rw [if_pos c24] at H
                  have c24b0 := eq_true c24
                  have c24b1 : decide (0 ≤ (ji23)) = true := decide_eq_true c24
                  clear c24
                  obtain ⟨ji25, hji25⟩ : ∃ j_ : Int, (shr .u32 t263 (ji23)) = j_ := ⟨_, rfl⟩
                  replace H : (if (rd t249 (ji20)) = ((ji25) % 256) then (frame_First.l0 k2 l0 t248 t249 y253 t263 (wrap64 (x41_2 + 1))) else (some (([] : List Int), ([] : List ByteArray), 0, 3))) = some (r1, r2, r3, r4) := by first | (rw [hji25] at H; exact H) | (simp only [hji25] at H ⊢; exact H)
                  have hji25_ : (t263 / 2 ^ min (ji23).toNat 32) = ji25 := hji25
                  have hji25z : (ji23) ≤ 32 → (t263 / 2 ^ (ji23).toNat) = ji25 := shr_small hji25
                  replace H := deqn H
                  rcases H with ⟨c26b0, c26b1, H⟩ | ⟨c26b0, c26b1, c26, H⟩
                  focus
                    have H' := Aside0.mk H
                    clear H
                    have p264 : 0 ≤ ((ji20) : Int) := dc_
                    have q264 : (ji20) < (t249.length : Int) := dc_
                    obtain ⟨ad264, e264, hx264_0⟩ := Kd.at_int (Kd.V_reads' HO_6.out).2.2 (ji20) p264 q264
                    cases e264
                    replace p264 := eq_true p264
                    replace q264 := eq_true q264
                  rotate_left
                  focus
                    simp only [Option.some.injEq, Prod.mk.injEq] at H
                    obtain ⟨rfl, rfl, rfl, rfl⟩ := H
                    have p264 : 0 ≤ ((ji20) : Int) := dc_
                    have q264 : (ji20) < (t249.length : Int) := dc_
                    obtain ⟨ad264, e264, hx264_0⟩ := Kd.at_int (Kd.V_reads' HO_6.out).2.2 (ji20) p264 q264
                    cases e264
                    replace p264 := eq_true p264
                    replace q264 := eq_true q264
                    obtain ⟨hcz27_0, hcz27_1, hfz27_0, hfz27_1⟩ := blk_at2 BK247.out
                rotate_left 2
                focus
                  replace H := bindA H
                  obtain ⟨⟨t265, t268, t271⟩, A28, H⟩ := H
                  try dsimp only at H
                  replace H := deqn H
                  rcases H with ⟨c29b0, c29b1, H⟩ | ⟨c29b0, c29b1, c29, H⟩
                  focus
                    simp only [Option.some.injEq, Prod.mk.injEq] at H
                    obtain ⟨rfl, rfl, rfl, rfl⟩ := H
                  rotate_left
                  focus
                    simp only [Option.some.injEq, Prod.mk.injEq] at H
                    obtain ⟨rfl, rfl, rfl, rfl⟩ := H
                all_goals
                  go_wp2_with (first | (go_at_call 95; (with_reducible refine (frame_Decode.calls k2 _ _ y253 t265 t268 t271 _ ?side1 ?side2 A28.out).mono ?_); (case side1 => exact cv_ HO_8); (case side2 => exact (Kd.V_reads' HO_8.out).2.1); rintro e w7000 ⟨v7000, v7001, rfl, ho0, ho7000, hb⟩; have n_ := pk6 (Kd.V_mono (Kd.V_told (Kd.V_told (Kd.V_old (vo_ HO_6) hb) (Kd.R_base ho0)) (Kd.R_base ho7000)) (fun _ h_ => h_.1)) (Kd.V_mono (Kd.V_told (Kd.V_told (Kd.V_old (vo_ HO_8) hb) (Kd.R_base ho0)) (Kd.R_base ho7000)) (fun _ h_ => h_.1)) (Kd.R_lower ho0 (below_size bl_)) (Kd.R_lower ho7000 (below_size bl_)) (blk_below (bo_ BK247) hb) (below_step bl_ hb); clear HO_6 HO_8 BK247 HB; obtain ⟨HO_6, HO_8, HO7000, HO7001, BK247, HB⟩ := n_; (try clear hb ho0 ho7000)) | ((with_reducible refine gate_dst (N := 11) rfl ?_); (try (refine gate_guard (by rfl) ?_; dsimp only)); refine box_ev 11 #[.slice none 0 0, .slice none 0 0] 48 ?_; intro gb7000 hg w7001 hbox hb; have n_ := pk11 (Kd.V_below (Kd.V_elderB (vo_ HO_6) gb7000 (Nat.le_of_eq hg.symm)) hb) (Kd.V_below (Kd.V_elderB (vo_ HO_8) gb7000 (Nat.le_of_eq hg.symm)) hb) (Kd.R_below (ro_ HO7000) hb) (Kd.R_below (ro_ HO7001) hb) (blk_below (bo_ BK247) hb) (below_step bl_ hb) (hbox) ((ge_ hg bl_ : w.heap.size ≤ gb7000)) ((ge_ hg bl_ : w.heap.size ≤ gb7000)) ((nb_ hg (bo_ BK247) : gb247 ≠ gb7000)) ((nc_ hg (bo_ BK247) : gb7000 ≠ gb247)); clear HO_6 HO_8 HO7000 HO7001 BK247 HB; obtain ⟨HO_6, HO_8, HO7000, HO7001, BK247, HB, BK7000, GW7000, GE7000, NB247_7000, NB7000_247⟩ := n_; clear hb hbox hg; obtain ⟨Ao7000, co7000, eo7000⟩ := Kd.R_slice HO7000.out; subst eo7000; have hnb7000 := NB7000_247.out; have hnc7000 := NB247_7000.out; have hcz7000_0 : w7001.cell? ⟨gb7000, 0, none⟩ = some (.slice none 0 0) := (blk_cell BK7000.out 0).trans rfl; have hcz7000_1 : w7001.cell? ⟨gb7000, 1, none⟩ = some (.slice none 0 0) := (blk_cell BK7000.out 1).trans rfl; have hfz7000_0 := blk_frozen BK7000.out 0; have hfz7000_1 := blk_frozen BK7000.out 1; obtain ⟨Ao7001, co7001, eo7001⟩ := Kd.R_slice HO7001.out; subst eo7001; have hcz7001_0 : w7001.cell? ⟨gb247, 0, none⟩ = some (.slice none 0 0) := (blk_cell BK247.out 0).trans rfl; have hcz7001_1 : w7001.cell? ⟨gb247, 1, none⟩ = some (.slice none 0 0) := (blk_cell BK247.out 1).trans rfl; have hfz7001_0 := blk_frozen BK247.out 0; have hfz7001_1 := blk_frozen BK247.out 1))
                  repeat (go_quiet (first | (go_at_call 95; (with_reducible refine (frame_Decode.calls k2 _ _ y253 t265 t268 t271 _ ?side1 ?side2 A28.out).mono ?_); (case side1 => exact cv_ HO_8); (case side2 => exact (Kd.V_reads' HO_8.out).2.1); rintro e w7000 ⟨v7000, v7001, rfl, ho0, ho7000, hb⟩; have n_ := pk6 (Kd.V_mono (Kd.V_told (Kd.V_told (Kd.V_old (vo_ HO_6) hb) (Kd.R_base ho0)) (Kd.R_base ho7000)) (fun _ h_ => h_.1)) (Kd.V_mono (Kd.V_told (Kd.V_told (Kd.V_old (vo_ HO_8) hb) (Kd.R_base ho0)) (Kd.R_base ho7000)) (fun _ h_ => h_.1)) (Kd.R_lower ho0 (below_size bl_)) (Kd.R_lower ho7000 (below_size bl_)) (blk_below (bo_ BK247) hb) (below_step bl_ hb); clear HO_6 HO_8 BK247 HB; obtain ⟨HO_6, HO_8, HO7000, HO7001, BK247, HB⟩ := n_; (try clear hb ho0 ho7000)) | ((with_reducible refine gate_dst (N := 11) rfl ?_); (try (refine gate_guard (by rfl) ?_; dsimp only)); refine box_ev 11 #[.slice none 0 0, .slice none 0 0] 48 ?_; intro gb7000 hg w7001 hbox hb; have n_ := pk11 (Kd.V_below (Kd.V_elderB (vo_ HO_6) gb7000 (Nat.le_of_eq hg.symm)) hb) (Kd.V_below (Kd.V_elderB (vo_ HO_8) gb7000 (Nat.le_of_eq hg.symm)) hb) (Kd.R_below (ro_ HO7000) hb) (Kd.R_below (ro_ HO7001) hb) (blk_below (bo_ BK247) hb) (below_step bl_ hb) (hbox) ((ge_ hg bl_ : w.heap.size ≤ gb7000)) ((ge_ hg bl_ : w.heap.size ≤ gb7000)) ((nb_ hg (bo_ BK247) : gb247 ≠ gb7000)) ((nc_ hg (bo_ BK247) : gb7000 ≠ gb247)); clear HO_6 HO_8 HO7000 HO7001 BK247 HB; obtain ⟨HO_6, HO_8, HO7000, HO7001, BK247, HB, BK7000, GW7000, GE7000, NB247_7000, NB7000_247⟩ := n_; clear hb hbox hg; obtain ⟨Ao7000, co7000, eo7000⟩ := Kd.R_slice HO7000.out; subst eo7000; have hnb7000 := NB7000_247.out; have hnc7000 := NB247_7000.out; have hcz7000_0 : w7001.cell? ⟨gb7000, 0, none⟩ = some (.slice none 0 0) := (blk_cell BK7000.out 0).trans rfl; have hcz7000_1 : w7001.cell? ⟨gb7000, 1, none⟩ = some (.slice none 0 0) := (blk_cell BK7000.out 1).trans rfl; have hfz7000_0 := blk_frozen BK7000.out 0; have hfz7000_1 := blk_frozen BK7000.out 1; obtain ⟨Ao7001, co7001, eo7001⟩ := Kd.R_slice HO7001.out; subst eo7001; have hcz7001_0 : w7001.cell? ⟨gb247, 0, none⟩ = some (.slice none 0 0) := (blk_cell BK247.out 0).trans rfl; have hcz7001_1 : w7001.cell? ⟨gb247, 1, none⟩ = some (.slice none 0 0) := (blk_cell BK247.out 1).trans rfl; have hfz7001_0 := blk_frozen BK247.out 0; have hfz7001_1 := blk_frozen BK247.out 1)); try go_wp2_with (first | (go_at_call 95; (with_reducible refine (frame_Decode.calls k2 _ _ y253 t265 t268 t271 _ ?side1 ?side2 A28.out).mono ?_); (case side1 => exact cv_ HO_8); (case side2 => exact (Kd.V_reads' HO_8.out).2.1); rintro e w7000 ⟨v7000, v7001, rfl, ho0, ho7000, hb⟩; have n_ := pk6 (Kd.V_mono (Kd.V_told (Kd.V_told (Kd.V_old (vo_ HO_6) hb) (Kd.R_base ho0)) (Kd.R_base ho7000)) (fun _ h_ => h_.1)) (Kd.V_mono (Kd.V_told (Kd.V_told (Kd.V_old (vo_ HO_8) hb) (Kd.R_base ho0)) (Kd.R_base ho7000)) (fun _ h_ => h_.1)) (Kd.R_lower ho0 (below_size bl_)) (Kd.R_lower ho7000 (below_size bl_)) (blk_below (bo_ BK247) hb) (below_step bl_ hb); clear HO_6 HO_8 BK247 HB; obtain ⟨HO_6, HO_8, HO7000, HO7001, BK247, HB⟩ := n_; (try clear hb ho0 ho7000)) | ((with_reducible refine gate_dst (N := 11) rfl ?_); (try (refine gate_guard (by rfl) ?_; dsimp only)); refine box_ev 11 #[.slice none 0 0, .slice none 0 0] 48 ?_; intro gb7000 hg w7001 hbox hb; have n_ := pk11 (Kd.V_below (Kd.V_elderB (vo_ HO_6) gb7000 (Nat.le_of_eq hg.symm)) hb) (Kd.V_below (Kd.V_elderB (vo_ HO_8) gb7000 (Nat.le_of_eq hg.symm)) hb) (Kd.R_below (ro_ HO7000) hb) (Kd.R_below (ro_ HO7001) hb) (blk_below (bo_ BK247) hb) (below_step bl_ hb) (hbox) ((ge_ hg bl_ : w.heap.size ≤ gb7000)) ((ge_ hg bl_ : w.heap.size ≤ gb7000)) ((nb_ hg (bo_ BK247) : gb247 ≠ gb7000)) ((nc_ hg (bo_ BK247) : gb7000 ≠ gb247)); clear HO_6 HO_8 HO7000 HO7001 BK247 HB; obtain ⟨HO_6, HO_8, HO7000, HO7001, BK247, HB, BK7000, GW7000, GE7000, NB247_7000, NB7000_247⟩ := n_; clear hb hbox hg; obtain ⟨Ao7000, co7000, eo7000⟩ := Kd.R_slice HO7000.out; subst eo7000; have hnb7000 := NB7000_247.out; have hnc7000 := NB247_7000.out; have hcz7000_0 : w7001.cell? ⟨gb7000, 0, none⟩ = some (.slice none 0 0) := (blk_cell BK7000.out 0).trans rfl; have hcz7000_1 : w7001.cell? ⟨gb7000, 1, none⟩ = some (.slice none 0 0) := (blk_cell BK7000.out 1).trans rfl; have hfz7000_0 := blk_frozen BK7000.out 0; have hfz7000_1 := blk_frozen BK7000.out 1; obtain ⟨Ao7001, co7001, eo7001⟩ := Kd.R_slice HO7001.out; subst eo7001; have hcz7001_0 : w7001.cell? ⟨gb247, 0, none⟩ = some (.slice none 0 0) := (blk_cell BK247.out 0).trans rfl; have hcz7001_1 : w7001.cell? ⟨gb247, 1, none⟩ = some (.slice none 0 0) := (blk_cell BK247.out 1).trans rfl; have hfz7001_0 := blk_frozen BK247.out 0; have hfz7001_1 := blk_frozen BK247.out 1)))
                  first
                    | go_roundg k2
                      case measure => have := HJ2.out; have := HK2.out; omega
                      case rel => exact ⟨(wrap64 (x41_2 + 1)), sm_, H', ⟨by have := HJ2.out; have := HK2.out; omega⟩, ⟨(vo_ HO_6)⟩, ⟨(vo_ HO_8)⟩, ⟨(bo_ BK247)⟩, ⟨bl_⟩⟩
                    | refine bodyPost_ret (results_ctt rfl _ _ gb247 48 #[.slice none 0 0, .slice none 0 0] (0, 0) _ rfl (by (with_reducible repeat (first | refine blk_drewN ?_ _ | refine blk_drew ?_ | refine blk_alloc ?_ _)); refine blk_put (cs := #[.slice none 0 0, .slice none 0 0]) ?_ 1 _ rfl; (with_reducible repeat (first | refine blk_drewN ?_ _ | refine blk_drew ?_ | refine blk_alloc ?_ _)); refine blk_put (cs := #[.slice none 0 0, .slice none 0 0]) ?_ 0 _ rfl; exact (bo_ BK247)) Try.underlying48 rfl (by kernel_rfl)) rfl ?_
                      exact ⟨_, _, by first | rfl | (simp [errW_none, errW_some] <;> rfl) | (simp only [← hji20, ← hji23, ← hji25]; first | rfl | (simp [errW_none, errW_some] <;> rfl)) | (simp [*, errW_none, errW_some] <;> rfl), nl_, nl_, bl_⟩
                    | refine bodyPost_ret (results_ctt rfl _ _ gb247 48 #[.slice Ao7000 t265.length co7000, .slice Ao7001 t268.length co7001] (0, 0) _ rfl (by (with_reducible repeat (first | refine blk_drewN ?_ _ | refine blk_drew ?_ | refine blk_alloc ?_ _)); refine blk_put (cs := #[.slice Ao7000 t265.length co7000, .slice none 0 0]) ?_ 1 _ rfl; (with_reducible repeat (first | refine blk_drewN ?_ _ | refine blk_drew ?_ | refine blk_alloc ?_ _)); refine blk_put (cs := #[.slice none 0 0, .slice none 0 0]) ?_ 0 _ rfl; (with_reducible repeat (first | refine blk_drewN ?_ _ | refine blk_drew ?_ | refine blk_alloc ?_ _)); refine blk_far ?_ NB247_7000.out _; (with_reducible repeat (first | refine blk_drewN ?_ _ | refine blk_drew ?_ | refine blk_alloc ?_ _)); refine blk_far ?_ NB247_7000.out _; exact (bo_ BK247)) Try.underlying48 rfl (by kernel_rfl)) rfl ?_
                      exact ⟨_, _, rf_, (rt_ (Kd.R_mono (Kd.R_far (p := ⟨gb247, 1, none⟩) (Kd.R_far (p := ⟨gb247, 0, none⟩) (Kd.R_far (p := ⟨gb7000, 1, none⟩) (Kd.R_far (p := ⟨gb7000, 0, none⟩) (Kd.R_types (Kd.R_types HO7000.out BK7000.out (by decide)) BK247.out (by decide)) (fun _ hk => hk.1.2) (.slice Ao7000 t265.length co7000)) (fun _ hk => hk.1.2) (.slice Ao7001 t268.length co7001)) (fun _ hk => hk.2) (.slice Ao7000 t265.length co7000)) (fun _ hk => hk.2) (.slice Ao7001 t268.length co7001)) (fun _ hk => trivial))), (rt_ (Kd.R_mono (Kd.R_far (p := ⟨gb247, 1, none⟩) (Kd.R_far (p := ⟨gb247, 0, none⟩) (Kd.R_far (p := ⟨gb7000, 1, none⟩) (Kd.R_far (p := ⟨gb7000, 0, none⟩) (Kd.R_types (Kd.R_types HO7001.out BK7000.out (by decide)) BK247.out (by decide)) (fun _ hk => hk.1.2) (.slice Ao7000 t265.length co7000)) (fun _ hk => hk.1.2) (.slice Ao7001 t268.length co7001)) (fun _ hk => hk.2) (.slice Ao7000 t265.length co7000)) (fun _ hk => hk.2) (.slice Ao7001 t268.length co7001)) (fun _ hk => trivial))), bl_⟩
                    | refine bodyPost_ret (results_ctt rfl _ _ gb247 48 #[.slice none 0 0, .slice none 0 0] (0, 0) _ rfl (by (with_reducible repeat (first | refine blk_drewN ?_ _ | refine blk_drew ?_ | refine blk_alloc ?_ _)); refine blk_put (cs := #[.slice none 0 0, .slice none 0 0]) ?_ 1 _ rfl; (with_reducible repeat (first | refine blk_drewN ?_ _ | refine blk_drew ?_ | refine blk_alloc ?_ _)); refine blk_put (cs := #[.slice none 0 0, .slice none 0 0]) ?_ 0 _ rfl; (with_reducible repeat (first | refine blk_drewN ?_ _ | refine blk_drew ?_ | refine blk_alloc ?_ _)); refine blk_far ?_ NB247_7000.out _; (with_reducible repeat (first | refine blk_drewN ?_ _ | refine blk_drew ?_ | refine blk_alloc ?_ _)); refine blk_far ?_ NB247_7000.out _; exact (bo_ BK247)) Try.underlying48 rfl (by kernel_rfl)) rfl ?_
                      exact ⟨_, _, rf_, nl_, nl_, bl_⟩
          · rw [if_neg c12] at H
            exact absurd H (by simp)
        · rw [if_neg c11] at H
          exact absurd H (by simp)
      simp only [Option.some.injEq, Prod.mk.injEq] at H
      obtain ⟨rfl, rfl, rfl, rfl⟩ := H
      obtain ⟨hcz10_0, hcz10_1, hfz10_0, hfz10_1⟩ := blk_at2 BK247.out
      go_wp2
      repeat (go_quiet (fail); try go_wp2)
      refine bodyPost_ret (results_ctt rfl _ _ gb247 48 #[.slice none 0 0, .slice none 0 0] (0, 0) _ rfl (by (with_reducible repeat (first | refine blk_drewN ?_ _ | refine blk_drew ?_ | refine blk_alloc ?_ _)); refine blk_put (cs := #[.slice none 0 0, .slice none 0 0]) ?_ 1 _ rfl; (with_reducible repeat (first | refine blk_drewN ?_ _ | refine blk_drew ?_ | refine blk_alloc ?_ _)); refine blk_put (cs := #[.slice none 0 0, .slice none 0 0]) ?_ 0 _ rfl; exact (bo_ BK247)) Try.underlying48 rfl (by kernel_rfl)) rfl ?_
      exact ⟨_, _, rf_, nl_, nl_, bl_⟩
end Go.Proofs.Ytfmdllbkfpbdcaa.G
end
section
namespace Go.Proofs.Ytfmdllbkfpbdcaa.G
open Go.RowKit Go.Proofs.YtfmdllbkfpbdcaaX Go.Proofs.YtfmdllbkfpbdcaaW.PrintWords Go.Proofs.YtfmdllbkfpbdcaaW.PrintLast Go.Proofs.YtfmdllbkfpbdcaaW.PrintMore
attribute [local go_sem] max2_int min2_int max_two min_two max_three min_three max_four min_four
def windroseref02_count.f : Nat → Int → Option (List Int)
  | 0, _ => none
  | k + 1, a0 => if a0 < 128 then (some (([(a0) % 256] : List Int))) else ((some (([(IntKind.u64.wrap ((Int.tmod a0 128) + 128)) % 256] : List Int) : List Int)).bind fun y302 => ((windroseref02_count.f k (IntKind.u64.wrap (Int.tdiv a0 128))).bind fun t305 => (if y302.length + t305.length < 140737488355328 then (some (y302 ++ t305)) else (none))))
def windroseref02_Count.f (k : Nat) (a0 : Int) : Option (List Int) := (windroseref02_count.f k (IntKind.u64.wrap (a0))).bind fun t311 => (some t311)
def windroseref02_Number.f (k : Nat) (a0 : Int) : Option (List Int) := if a0 ≥ 0 then ((windroseref02_count.f k (IntKind.u64.wrap ((IntKind.u64.wrap (a0)) * 2))).bind fun t314 => (some t314)) else ((windroseref02_count.f k (IntKind.u64.wrap ((IntKind.u64.wrap ((IntKind.u64.wrap (wrap64 ((-1) - a0))) * 2)) + 1))).bind fun t317 => (some t317))
mutual
def windroseref02_Bytes.j1 : Nat → List Int → List Int → List ByteArray → Option (List Int)
  | 0, _, _, _ => none
  | k + 1, x3, x321000, x321001 => (windroseref02_Count.f k (x321001.length : Int)).bind fun t331 => (if x3.length + t331.length < 140737488355328 then (windroseref02_Bytes.l1 k (x3 ++ t331) 0 x321000 x321001) else (none))
def windroseref02_Bytes.l1 : Nat → List Int → Int → List Int → List ByteArray → Option (List Int)
  | 0, _, _, _, _ => none
  | k + 1, x3, x5, x321000, x321001 => if x5 < (x321001.length : Int) then (windroseref02_Bytes.j3 k x3 x5 (decide ((x3.length : Int) < 5000)) x321000 x321001) else (windroseref02_Bytes.j3 k x3 x5 false x321000 x321001)
def windroseref02_Bytes.j3 : Nat → List Int → Int → Bool → List Int → List ByteArray → Option (List Int)
  | 0, _, _, _, _, _ => none
  | k + 1, x3, x5, x46, x321000, x321001 => if x46 = true then (if 0 ≤ x5 then (if x5 < (x321001.length : Int) then ((windroseref02_Count.f k ((rdOf ByteArray.empty x321001 x5).size : Int)).bind fun t338 => (if x3.length + t338.length < 140737488355328 then ((some (x3 ++ t338 : List Int)).bind fun y341 => (if ((rdOf ByteArray.empty x321001 x5).size : Int) > 5000 then (if 5000 ≤ ((rdOf ByteArray.empty x321001 x5).size : Int) then (if y341.length + ((rdOf ByteArray.empty x321001 x5).extract 0 5000).size < 140737488355328 then (windroseref02_Bytes.l1 k (y341 ++ bytesOf ((rdOf ByteArray.empty x321001 x5).extract 0 5000)) (wrap64 (x5 + 1)) x321000 x321001) else (none)) else (none)) else (if y341.length + (rdOf ByteArray.empty x321001 x5).size < 140737488355328 then (windroseref02_Bytes.l1 k (y341 ++ bytesOf (rdOf ByteArray.empty x321001 x5)) (wrap64 (x5 + 1)) x321000 x321001) else (none)))) else (none))) else (none)) else (none)) else (some x3)
def windroseref02_Bytes.l0 : Nat → List Int → Int → List Int → List ByteArray → Option (List Int)
  | 0, _, _, _, _ => none
  | k + 1, x3, x4, x321000, x321001 => if x4 < (x321000.length : Int) then (if (x3.length : Int) < 5000 then (if 0 ≤ x4 then ((windroseref02_Number.f k (rd x321000 x4)).bind fun t325 => (if x3.length + t325.length < 140737488355328 then (windroseref02_Bytes.l0 k (x3 ++ t325) (wrap64 (x4 + 1)) x321000 x321001) else (none))) else (none)) else (windroseref02_Bytes.j1 k x3 x321000 x321001)) else (windroseref02_Bytes.j1 k x3 x321000 x321001)
end
def windroseref02_Bytes.f (k : Nat) (l0_0 : List Int) (l0_1 : List ByteArray) : Option (List Int) := (windroseref02_Count.f k (l0_0.length : Int)).bind fun t321 => (windroseref02_Bytes.l0 k t321 0 l0_0 l0_1)
def windroseref02_four.f (a0 : Int) : Option (List Int) := some (([((Int.tdiv a0 16777216) % 4294967296) % 256, ((Int.tdiv a0 65536) % 4294967296) % 256, ((Int.tdiv a0 256) % 4294967296) % 256, (a0) % 256] : List Int))
end Go.Proofs.Ytfmdllbkfpbdcaa.G
end
section
namespace Go.Proofs.Ytfmdllbkfpbdcaa.G
open Go.RowKit Go.Proofs.YtfmdllbkfpbdcaaX Go.Proofs.YtfmdllbkfpbdcaaW.PrintWords Go.Proofs.YtfmdllbkfpbdcaaW.PrintLast Go.Proofs.YtfmdllbkfpbdcaaW.PrintMore
attribute [local go_sem] max2_int min2_int max_two min_two max_three min_three max_four min_four
def windroseref02_Sum.l0 : Nat → List Int → Int → Int → Option (Int)
  | 0, _, _, _ => none
  | k + 1, x0, x3, x4 => if x4 < (wrap64 (8 * (x0.length : Int))) then (if 0 ≤ (wrap64 (Int.tdiv x4 8)) then (if (wrap64 (Int.tdiv x4 8)) < (x0.length : Int) then (if 0 ≤ (IntKind.u64.wrap (wrap64 (7 - (Int.tmod x4 8)))) then (if (IntKind.u64.wrap (Int.tdiv x3 2147483648)) = (Int.tmod (shr .u64 (IntKind.u64.wrap (rd x0 (wrap64 (Int.tdiv x4 8)))) (IntKind.u64.wrap (wrap64 (7 - (Int.tmod x4 8))))) 2) then (windroseref02_Sum.l0 k x0 (Int.tmod (IntKind.u64.wrap (x3 * 2)) 4294967296) (wrap64 (x4 + 1))) else (windroseref02_Sum.l0 k x0 (Go.bits .xor .u64 (Int.tmod (IntKind.u64.wrap (x3 * 2)) 4294967296) 1947962583) (wrap64 (x4 + 1)))) else (none)) else (none)) else (none)) else (some ((x3) % 4294967296))
def windroseref02_Sum.f (k : Nat) (l0 : List Int) : Option (Int) := windroseref02_Sum.l0 k l0 4294967295 0
end Go.Proofs.Ytfmdllbkfpbdcaa.G
end
section
namespace Go.Proofs.Ytfmdllbkfpbdcaa.G
open Go.RowKit Go.Proofs.YtfmdllbkfpbdcaaX Go.Proofs.YtfmdllbkfpbdcaaW.PrintWords Go.Proofs.YtfmdllbkfpbdcaaW.PrintLast Go.Proofs.YtfmdllbkfpbdcaaW.PrintMore
attribute [local go_sem] max2_int min2_int max_two min_two max_three min_three max_four min_four
mutual
def windroseref02_Lead.l0 : Nat → List Int → Int → Int → Option (Int × Int)
  | 0, _, _, _ => none
  | k + 1, x0, x4, x5 => if x5 < (x0.length : Int) then (windroseref02_Lead.j1 k x0 x4 x5 (decide (x5 < 10))) else (windroseref02_Lead.j1 k x0 x4 x5 false)
def windroseref02_Lead.j1 : Nat → List Int → Int → Int → Bool → Option (Int × Int)
  | 0, _, _, _, _ => none
  | k + 1, x0, x4, x5, x13 => if x13 = true then (if 0 ≤ x5 then (if x5 < (x0.length : Int) then (if 0 ≤ (IntKind.u64.wrap (wrap64 (7 * x5))) then (if (rd x0 x5) < 128 then (some (IntKind.u64.wrap (x4 + (shl .u64 (IntKind.u64.wrap (Int.tmod (rd x0 x5) 128)) (IntKind.u64.wrap (wrap64 (7 * x5))))), wrap64 (x5 + 1))) else (windroseref02_Lead.l0 k x0 (IntKind.u64.wrap (x4 + (shl .u64 (IntKind.u64.wrap (Int.tmod (rd x0 x5) 128)) (IntKind.u64.wrap (wrap64 (7 * x5)))))) (wrap64 (x5 + 1)))) else (none)) else (none)) else (none)) else (some (0, 0))
end
def windroseref02_Lead.f (k : Nat) (l0 : List Int) : Option (Int × Int) := windroseref02_Lead.l0 k l0 0 0
end Go.Proofs.Ytfmdllbkfpbdcaa.G
end
section
namespace Go.Proofs.Ytfmdllbkfpbdcaa.G
open Go.RowKit Go.Proofs.YtfmdllbkfpbdcaaX Go.Proofs.YtfmdllbkfpbdcaaW.PrintWords Go.Proofs.YtfmdllbkfpbdcaaW.PrintLast Go.Proofs.YtfmdllbkfpbdcaaW.PrintMore
attribute [local go_sem] max2_int min2_int max_two min_two max_three min_three max_four min_four
mutual
def windroseref02_Decode.l0 : Nat → List Int → Int → Int → Int → Int → List Int → Option (List Int × List ByteArray × Int)
  | 0, _, _, _, _, _, _ => none
  | k + 1, x0, x5, x6, x7, x8, x576000 => if x6 > 0 then (windroseref02_Decode.j1 k x0 x5 x6 x7 x8 (decide (x8 < x5)) x576000) else (windroseref02_Decode.j1 k x0 x5 x6 x7 x8 false x576000)
def windroseref02_Decode.j1 : Nat → List Int → Int → Int → Int → Int → Bool → List Int → Option (List Int × List ByteArray × Int)
  | 0, _, _, _, _, _, _, _ => none
  | k + 1, x0, x5, x6, x7, x8, x32, x576000 => if x32 = true then (if 0 ≤ x7 then (if x7 ≤ (x0.length : Int) then ((windroseref02_Lead.f k (x0.drop (x7 : Int).toNat)).bind fun bt579 => (if (Int.tmod bt579.1 2) = 1 then (if x576000.length < 17592186044416 then (windroseref02_Decode.l0 k x0 x5 bt579.2 (wrap64 (x7 + bt579.2)) (IntKind.u64.wrap (x8 + 1)) (x576000 ++ [wrap64 ((-1) - (wrap64 (IntKind.u64.wrap (Int.tdiv bt579.1 2))))])) else (none)) else (if x576000.length < 17592186044416 then (windroseref02_Decode.l0 k x0 x5 bt579.2 (wrap64 (x7 + bt579.2)) (IntKind.u64.wrap (x8 + 1)) (x576000 ++ [wrap64 (IntKind.u64.wrap (Int.tdiv bt579.1 2))])) else (none)))) else (none)) else (none)) else (if x6 > 0 then (if 0 ≤ x7 then (if x7 ≤ (x0.length : Int) then ((windroseref02_Lead.f k (x0.drop (x7 : Int).toNat)).bind fun bt588 => (windroseref02_Decode.j2 k x0 bt588.1 bt588.2 (wrap64 (x7 + bt588.2)) x576000)) else (none)) else (none)) else (windroseref02_Decode.j2 k x0 0 x6 x7 x576000))
def windroseref02_Decode.j2 : Nat → List Int → Int → Int → Int → List Int → Option (List Int × List ByteArray × Int)
  | 0, _, _, _, _, _ => none
  | k + 1, x0, x5, x6, x7, x576000 => windroseref02_Decode.l1 k x0 x5 x6 x7 0 x576000 ([] : List ByteArray)
def windroseref02_Decode.l1 : Nat → List Int → Int → Int → Int → Int → List Int → List ByteArray → Option (List Int × List ByteArray × Int)
  | 0, _, _, _, _, _, _, _ => none
  | k + 1, x0, x5, x6, x7, x12, x576000, x576001 => if x6 > 0 then (windroseref02_Decode.j4 k x0 x5 x6 x7 x12 (decide (x12 < x5)) x576000 x576001) else (windroseref02_Decode.j4 k x0 x5 x6 x7 x12 false x576000 x576001)
def windroseref02_Decode.j4 : Nat → List Int → Int → Int → Int → Int → Bool → List Int → List ByteArray → Option (List Int × List ByteArray × Int)
  | 0, _, _, _, _, _, _, _, _ => none
  | k + 1, x0, x5, x6, x7, x12, x78, x576000, x576001 => if x78 = true then (if 0 ≤ x7 then (if x7 ≤ (x0.length : Int) then ((windroseref02_Lead.f k (x0.drop (x7 : Int).toNat)).bind fun bt594 => (if bt594.2 > 0 then (windroseref02_Decode.j5 k x0 x5 bt594.2 x7 x12 bt594.1 bt594.2 (decide (bt594.1 > (IntKind.u64.wrap (wrap64 ((wrap64 ((x0.length : Int) - x7)) - bt594.2))))) x576000 x576001) else (windroseref02_Decode.j5 k x0 x5 bt594.2 x7 x12 bt594.1 bt594.2 false x576000 x576001))) else (none)) else (none)) else (if x6 = 0 then (some (([] : List Int), ([] : List ByteArray), 2)) else ((windroseref02_Bytes.f k x576000 x576001).bind fun t590 => (if (strOfNums t590).toList = (strOfNums x0).toList then (some (x576000, x576001, 0)) else (some (([] : List Int), ([] : List ByteArray), 2)))))
def windroseref02_Decode.j5 : Nat → List Int → Int → Int → Int → Int → Int → Int → Bool → List Int → List ByteArray → Option (List Int × List ByteArray × Int)
  | 0, _, _, _, _, _, _, _, _, _, _ => none
  | k + 1, x0, x5, x6, x7, x12, x13, x14, x101, x576000, x576001 => if x101 = true then (windroseref02_Decode.l1 k x0 x5 0 x7 (IntKind.u64.wrap (x12 + 1)) x576000 x576001) else (if x6 > 0 then (if 0 ≤ (wrap64 (x7 + x14)) then (if (wrap64 (x7 + x14)) ≤ (wrap64 ((wrap64 (x7 + x14)) + (wrap64 (x13)))) then (if (wrap64 ((wrap64 (x7 + x14)) + (wrap64 (x13)))) ≤ (x0.length : Int) then (if x576001.length < 8796093022208 then (windroseref02_Decode.l1 k x0 x5 x6 (wrap64 ((wrap64 (x7 + x14)) + (wrap64 (x13)))) (IntKind.u64.wrap (x12 + 1)) x576000 (x576001 ++ [strOfNums ((x0.take ((wrap64 ((wrap64 (x7 + x14)) + (wrap64 (x13)))) : Int).toNat).drop ((wrap64 (x7 + x14)) : Int).toNat)])) else (none)) else (none)) else (none)) else (none)) else (windroseref02_Decode.l1 k x0 x5 x6 x7 (IntKind.u64.wrap (x12 + 1)) x576000 x576001))
end
def windroseref02_Decode.f (k : Nat) (l0 : List Int) : Option (List Int × List ByteArray × Int) := if (l0.length : Int) > 4096 then (some (([] : List Int), ([] : List ByteArray), 4)) else ((windroseref02_Lead.f k l0).bind fun bt576 => (windroseref02_Decode.l0 k l0 bt576.1 bt576.2 bt576.2 0 ([] : List Int)))
end Go.Proofs.Ytfmdllbkfpbdcaa.G
end
section
namespace Go.Proofs.Ytfmdllbkfpbdcaa.G
open Go.RowKit Go.Proofs.YtfmdllbkfpbdcaaX Go.Proofs.YtfmdllbkfpbdcaaW.PrintWords Go.Proofs.YtfmdllbkfpbdcaaW.PrintLast Go.Proofs.YtfmdllbkfpbdcaaW.PrintMore
attribute [local go_sem] max2_int min2_int max_two min_two max_three min_three max_four min_four
def windroseref02_First.j0 : Nat → List Int → Int → Int → Bool → Option (List Int × List ByteArray × Int × Int)
  | 0, _, _, _, _ => none
  | k + 1, x0, x5, x6, x40 => if x40 = true then (some (([] : List Int), ([] : List ByteArray), 0, 2)) else (if 0 ≤ x6 then (if x6 ≤ (wrap64 (x6 + (wrap64 (x5)))) then (if (wrap64 (x6 + (wrap64 (x5)))) ≤ (x0.length : Int) then ((windroseref02_Sum.f k ((x0.take ((wrap64 (x6 + (wrap64 (x5)))) : Int).toNat).drop (x6 : Int).toNat)).bind fun t608 => ((windroseref02_four.f t608).bind fun t609 => (if 0 ≤ (wrap64 (x6 + (wrap64 (x5)))) then (if (wrap64 (x6 + (wrap64 (x5)))) ≤ (wrap64 ((wrap64 (x6 + (wrap64 (x5)))) + 4)) then (if (wrap64 ((wrap64 (x6 + (wrap64 (x5)))) + 4)) ≤ (x0.length : Int) then (if (strOfNums t609).toList = (strOfNums ((x0.take ((wrap64 ((wrap64 (x6 + (wrap64 (x5)))) + 4)) : Int).toNat).drop ((wrap64 (x6 + (wrap64 (x5)))) : Int).toNat)).toList then ((windroseref02_Decode.f k ((x0.take ((wrap64 (x6 + (wrap64 (x5)))) : Int).toNat).drop (x6 : Int).toNat)).bind fun bt613 => (if bt613.2.2 = 0 then (some (bt613.1, bt613.2.1, wrap64 ((wrap64 (x6 + (wrap64 (x5)))) + 4), 0)) else (some (([] : List Int), ([] : List ByteArray), 0, bt613.2.2)))) else (some (([] : List Int), ([] : List ByteArray), 0, 3))) else (none)) else (none)) else (none)))) else (none)) else (none)) else (none))
def windroseref02_First.f (k : Nat) (l0 : List Int) : Option (List Int × List ByteArray × Int × Int) := (windroseref02_Lead.f k l0).bind fun bt601 => (if bt601.2 = 0 then (windroseref02_First.j0 k l0 bt601.1 bt601.2 true) else (if bt601.1 > 4096 then (windroseref02_First.j0 k l0 bt601.1 bt601.2 true) else ((windroseref02_count.f k bt601.1).bind fun t603 => (if 0 ≤ bt601.2 then (if bt601.2 ≤ (l0.length : Int) then (if (strOfNums t603).toList = (strOfNums (l0.take (bt601.2 : Int).toNat)).toList then (windroseref02_First.j0 k l0 bt601.1 bt601.2 (decide ((wrap64 ((wrap64 ((l0.length : Int) - bt601.2)) - 4)) < (wrap64 (bt601.1))))) else (windroseref02_First.j0 k l0 bt601.1 bt601.2 true)) else (none)) else (none)))))
end Go.Proofs.Ytfmdllbkfpbdcaa.G
end
section
namespace Go.Proofs.Ytfmdllbkfpbdcaa.Q
open Go Go.RowKit Go.Proofs.YtfmdllbkfpbdcaaW.PrintWords
theorem w64 {x : Int} (h : -9223372036854775808 ≤ x) (h' : x ≤ 9223372036854775807) : wrap64 x = x := by unfold wrap64; omega
theorem Ev.succ {α : Type} {g : Nat → Option α} {r : α} (K : Nat) (h : ∀ k, K ≤ k → g (k + 1) = some r) : Ev g r := by
  refine ⟨K + 1, fun k hk => ?_⟩
  obtain ⟨m, rfl⟩ : ∃ m, k = m + 1 := ⟨k - 1, by omega⟩
  exact h m (by omega)
theorem Ev.mk {α : Type} {g : Nat → Option α} {r : α} (K : Nat) (h : ∀ k, K ≤ k → g k = some r) : Ev g r := ⟨K, h⟩
theorem getD_mem {α : Type} (l : List α) (i : Nat) (d : α) (h : i < l.length) : l.getD i d ∈ l := by
  rw [List.getD_eq_getElem?_getD, List.getElem?_eq_getElem h]
  exact List.getElem_mem h
theorem drop_getD {α : Type} (l : List α) (i : Nat) (d : α) (h : i < l.length) : l.drop i = l.getD i d :: l.drop (i + 1) := by
  rw [List.drop_eq_getElem_cons h, List.getD_eq_getElem?_getD, List.getElem?_eq_getElem h]
  rfl
theorem tmod_nn {a b : Int} (h : 0 ≤ a) : Int.tmod a b = a % b := Int.tmod_eq_emod_of_nonneg h
theorem tdiv_nn {a b : Int} (h : 0 ≤ a) : Int.tdiv a b = a / b := Int.tdiv_eq_ediv_of_nonneg h
end Go.Proofs.Ytfmdllbkfpbdcaa.Q
end
