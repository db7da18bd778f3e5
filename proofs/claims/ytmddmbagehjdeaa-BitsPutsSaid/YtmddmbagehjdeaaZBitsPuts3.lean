/- More lines for the row. -/
import Derived.Test.YtmddmbagehjdeaaZBitsPuts2
import Derived.Test.YtmddmbagehjdeaaProg
set_option linter.unusedVariables false
set_option linter.unusedSimpArgs false
section
namespace Go.Proofs.Ytmddmbagehjdeaa.G
open Go.RowKit Go.Proofs.YtmddmbagehjdeaaW.PrintWords Go.Proofs.YtmddmbagehjdeaaW.PrintLast Go.Proofs.YtmddmbagehjdeaaW.PrintMore
attribute [local go_sem] max2_int min2_int max_two min_two max_three min_three max_four min_four
def errW : Option Int → Value
  | none => .nilIface
  | some c => .iface 0 (.int .i64 c)
theorem errW_none : errW none = .nilIface := rfl
theorem errW_some (c : Int) : errW (some c) = .iface 0 (.int .i64 c) := rfl
theorem info4 : (Try.prog.info? 4).map (fun i => (i.zero, i.size, i.bytes)) = some (some (.bool false), 1, 1) := by kernel_rfl
theorem info5 : (Try.prog.info? 5).map (fun i => (i.zero, i.size, i.bytes)) = some (some (.int .u8 0), 1, 1) := by kernel_rfl
structure S25 where
  f0 : (List Int)
  f1 : Int
structure S42 where
  f0 : Int
  f1 : Int
structure S54 where
  f0 : Int
  f1 : Int
structure S67 where
  f0 : Int
  f1 : Int
structure S98 where
  f0 : (List Int)
  f1 : (List ByteArray)
structure S69 where
  f0 : Int
  f1 : Int
  f2 : Int
  f3 : S25
structure S94 where
  f0 : Int
  f1 : Int
end Go.Proofs.Ytmddmbagehjdeaa.G
end
section
namespace Go.Proofs.YtmddmbagehjdeaaX
open Go Go.RowKit Go.Proofs.YtmddmbagehjdeaaW.PrintWords Go.Proofs.YtmddmbagehjdeaaW.PrintLast Go.Proofs.YtmddmbagehjdeaaW.PrintMore
theorem bindA {α β : Type} {o : Option α} {f : α → Option β} {r : β} (H : o.bind f = some r) : ∃ t, Aside0 (o = some t) ∧ f t = some r := by
  obtain ⟨t, h1, h2⟩ := Option.bind_eq_some_iff.mp H
  exact ⟨t, Aside0.mk h1, h2⟩
theorem dbool {α : Type} {b : Bool} {x y r : α} (H : (if b = true then x else y) = r) : (b = true ∧ x = r) ∨ (b = false ∧ y = r) := by
  cases b
  · exact .inr ⟨rfl, by rwa [if_neg (by decide)] at H⟩
  · exact .inl ⟨rfl, by rwa [if_pos rfl] at H⟩
theorem dle {α : Type} {p : Prop} [i : Decidable p] {x y r : α} (H : (if p then x else y) = r) : (decide p = true ∧ x = r) ∨ (decide p = false ∧ y = r) := by
  by_cases h : p
  · exact .inl ⟨decide_eq_true h, by rwa [if_pos h] at H⟩
  · exact .inr ⟨decide_eq_false h, by rwa [if_neg h] at H⟩
theorem dgt {α : Type} {a b : Int} [i : Decidable (a > b)] {x y r : α} (H : (if a > b then x else y) = r) : (decide (b < a) = true ∧ x = r) ∨ (decide (b < a) = false ∧ y = r) := by
  by_cases h : a > b
  · exact .inl ⟨decide_eq_true h, by rwa [if_pos h] at H⟩
  · exact .inr ⟨decide_eq_false h, by rwa [if_neg h] at H⟩
theorem dge {α : Type} {a b : Int} [i : Decidable (a ≥ b)] {x y r : α} (H : (if a ≥ b then x else y) = r) : (decide (b ≤ a) = true ∧ x = r) ∨ (decide (b ≤ a) = false ∧ y = r) := by
  by_cases h : a ≥ b
  · exact .inl ⟨decide_eq_true h, by rwa [if_pos h] at H⟩
  · exact .inr ⟨decide_eq_false h, by rwa [if_neg h] at H⟩
theorem deq {α β : Type} [BEq β] [LawfulBEq β] {a b : β} [i : Decidable (a = b)] {x y r : α} (H : (if a = b then x else y) = r) : ((a == b) = true ∧ (a != b) = false ∧ x = r) ∨ ((a == b) = false ∧ (a != b) = true ∧ y = r) := by
  by_cases h : a = b
  · exact .inl ⟨beq_iff_eq.mpr h, bne_eq_false_iff_eq.mpr h, by rwa [if_pos h] at H⟩
  · exact .inr ⟨beq_eq_false_iff_ne.mpr h, bne_iff_ne.mpr h, by rwa [if_neg h] at H⟩
theorem deqn {α β : Type} [BEq β] [LawfulBEq β] {a b : β} [i : Decidable (a = b)] {x y r : α} (H : (if a = b then x else y) = r) : ((a == b) = true ∧ (a != b) = false ∧ x = r) ∨ ((a == b) = false ∧ (a != b) = true ∧ ¬ a = b ∧ y = r) := by
  by_cases h : a = b
  · exact .inl ⟨beq_iff_eq.mpr h, bne_eq_false_iff_eq.mpr h, by rwa [if_pos h] at H⟩
  · exact .inr ⟨beq_eq_false_iff_ne.mpr h, bne_iff_ne.mpr h, h, by rwa [if_neg h] at H⟩
theorem blk_at2 {W : World} {g T : Nat} {v0 v1 : Value} (h : W.heap[g]? = some (.cells #[v0, v1] T (0, 0))) : W.cell? ⟨g, 0, none⟩ = some v0 ∧ W.cell? ⟨g, 1, none⟩ = some v1 ∧ W.frozen? ⟨g, 0, none⟩ = false ∧ W.frozen? ⟨g, 1, none⟩ = false := ⟨(blk_cell h 0).trans rfl, (blk_cell h 1).trans rfl, blk_frozen h 0, blk_frozen h 1⟩
theorem below_set_ {w W : World} {g j : Nat} {v : Value} (h : Below w.heap.size w W) (hg : Aside0 (w.heap.size ≤ g)) : Below w.heap.size w (W.setCell ⟨g, j, none⟩ v) := below_set h hg.out
theorem bl_ {b : Nat} {w W : World} (h : Below b w W := by repeat (first | (with_reducible first | exact HB.out | apply below_alloc | apply pw_below_drewN | apply below_drew1 | refine below_set_ ?_ (by assumption)) | exact HB.out)) : Below b w W := h
theorem rf_ {p : Prop} (h : p := by first | rfl | (simp [errW_none, errW_some] <;> rfl) | (simp [*, errW_none, errW_some] <;> rfl)) : p := h
theorem nl_ {p : Prop} (h : p := by first | exact Kd.R_nil _ _ _ _ _ | exact Kd.N_nil _ _ _ _ _ | exact Kd.V_nil _ _ _ _ _ | exact Kd.Q_nil _ _ _ _ _ | exact Kd.S_nil _ _ _ _ _) : p := h
theorem sm_ {p : Prop} (h : p := by first | rfl | (simp; done) | (simp [*]; done)) : p := h
theorem om_ {a b : Nat} (h : a ≤ b := by first | omega | exact Nat.le_refl _) : a ≤ b := h
theorem dc_ {p : Prop} [i : Decidable p] (h : decide p = true := by first | (with_reducible assumption) | assumption) : p := of_decide_eq_true h
theorem ge_ {w W : World} {g : Nat} (hg : g = W.heap.size) (h : Below w.heap.size w W) : w.heap.size ≤ g := by rw [hg]; exact below_size h
theorem nb_ {W : World} {g g' : Nat} {o : Obj} (hg : g' = W.heap.size) (h : W.heap[g]? = some o) : g ≠ g' := by rw [hg]; exact Nat.ne_of_lt (blk_lt h)
theorem nc_ {W : World} {g g' : Nat} {o : Obj} (hg : g' = W.heap.size) (h : W.heap[g]? = some o) : g' ≠ g := by rw [hg]; exact Nat.ne_of_gt (blk_lt h)
theorem bo_ {W W1 : World} {g : Nat} {o : Obj} (h : Aside0 (W.heap[g]? = some o)) (k : W.heap[g]? = some o → W1.heap[g]? = some o := by intro h_; (with_reducible repeat (first | refine blk_drewN ?_ _ | refine blk_drew ?_ | refine blk_alloc ?_ _)); exact h_) : W1.heap[g]? = some o := k h.out
theorem ro_ {α : Type} {d : Kd α} {e base : Nat} {W W1 : World} {ok : Nat → Prop} {v : Value} {xs : List α} (h : Aside0 (Kd.R d e W base ok v xs)) (k : Kd.R d e W base ok v xs → Kd.R d e W1 base ok v xs := by intro h_; (with_reducible repeat (first | apply Kd.R_alloc | apply Kd.R_drewN | apply Kd.R_drew)); exact h_) : Kd.R d e W1 base ok v xs := k h.out
theorem rt_ {α : Type} {d : Kd α} {e base : Nat} {W W1 : World} {ok : Nat → Prop} {v : Value} {xs : List α} (h : Kd.R d e W base ok v xs) (k : Kd.R d e W base ok v xs → Kd.R d e W1 base ok v xs := by intro h_; (with_reducible repeat (first | apply Kd.R_alloc | apply Kd.R_drewN | apply Kd.R_drew)); exact h_) : Kd.R d e W1 base ok v xs := k h
theorem cb_ {α : Type} {d : Kd α} {W W1 : World} {A : Option Addr} {n : Nat} {xs : List α} (h : Aside0 (Kd.C d W A n xs)) (k : Kd.C d W A n xs → Kd.C d W1 A n xs := by intro h_; repeat (first | exact Kd.C_below h_ HB.out | (with_reducible refine Kd.C_alloc ?_ _) | (with_reducible refine Kd.C_drewN ?_ _) | (with_reducible refine Kd.C_drew ?_))) : Kd.C d W1 A n xs := k h.out
theorem cr_ {α : Type} {d : Kd α} {e base n c : Nat} {W W1 : World} {ok : Nat → Prop} {A : Option Addr} {xs : List α} (h : Aside0 (Kd.R d e W base ok (.slice A n c) xs)) (k : Kd.C d W A xs.length xs → Kd.C d W1 A xs.length xs := by intro h_; repeat (first | exact h_ | (with_reducible refine Kd.C_alloc ?_ _) | (with_reducible refine Kd.C_drewN ?_ _) | (with_reducible refine Kd.C_drew ?_))) : Kd.C d W1 A xs.length xs := k (Kd.R_reads' h.out).2.2
theorem pk2 {p0 p1 : Prop} (h0 : p0) (h1 : p1) : Aside0 p0 ∧ Aside0 p1 := ⟨⟨h0⟩, ⟨h1⟩⟩
theorem pk3 {p0 p1 p2 : Prop} (h0 : p0) (h1 : p1) (h2 : p2) : Aside0 p0 ∧ Aside0 p1 ∧ Aside0 p2 := ⟨⟨h0⟩, ⟨h1⟩, ⟨h2⟩⟩
theorem pk4 {p0 p1 p2 p3 : Prop} (h0 : p0) (h1 : p1) (h2 : p2) (h3 : p3) : Aside0 p0 ∧ Aside0 p1 ∧ Aside0 p2 ∧ Aside0 p3 := ⟨⟨h0⟩, ⟨h1⟩, ⟨h2⟩, ⟨h3⟩⟩
theorem pk5 {p0 p1 p2 p3 p4 : Prop} (h0 : p0) (h1 : p1) (h2 : p2) (h3 : p3) (h4 : p4) : Aside0 p0 ∧ Aside0 p1 ∧ Aside0 p2 ∧ Aside0 p3 ∧ Aside0 p4 := ⟨⟨h0⟩, ⟨h1⟩, ⟨h2⟩, ⟨h3⟩, ⟨h4⟩⟩
theorem pk6 {p0 p1 p2 p3 p4 p5 : Prop} (h0 : p0) (h1 : p1) (h2 : p2) (h3 : p3) (h4 : p4) (h5 : p5) : Aside0 p0 ∧ Aside0 p1 ∧ Aside0 p2 ∧ Aside0 p3 ∧ Aside0 p4 ∧ Aside0 p5 := ⟨⟨h0⟩, ⟨h1⟩, ⟨h2⟩, ⟨h3⟩, ⟨h4⟩, ⟨h5⟩⟩
theorem pk7 {p0 p1 p2 p3 p4 p5 p6 : Prop} (h0 : p0) (h1 : p1) (h2 : p2) (h3 : p3) (h4 : p4) (h5 : p5) (h6 : p6) : Aside0 p0 ∧ Aside0 p1 ∧ Aside0 p2 ∧ Aside0 p3 ∧ Aside0 p4 ∧ Aside0 p5 ∧ Aside0 p6 := ⟨⟨h0⟩, ⟨h1⟩, ⟨h2⟩, ⟨h3⟩, ⟨h4⟩, ⟨h5⟩, ⟨h6⟩⟩
theorem pk9 {p0 p1 p2 p3 p4 p5 p6 p7 p8 : Prop} (h0 : p0) (h1 : p1) (h2 : p2) (h3 : p3) (h4 : p4) (h5 : p5) (h6 : p6) (h7 : p7) (h8 : p8) : Aside0 p0 ∧ Aside0 p1 ∧ Aside0 p2 ∧ Aside0 p3 ∧ Aside0 p4 ∧ Aside0 p5 ∧ Aside0 p6 ∧ Aside0 p7 ∧ Aside0 p8 := ⟨⟨h0⟩, ⟨h1⟩, ⟨h2⟩, ⟨h3⟩, ⟨h4⟩, ⟨h5⟩, ⟨h6⟩, ⟨h7⟩, ⟨h8⟩⟩
theorem pk10 {p0 p1 p2 p3 p4 p5 p6 p7 p8 p9 : Prop} (h0 : p0) (h1 : p1) (h2 : p2) (h3 : p3) (h4 : p4) (h5 : p5) (h6 : p6) (h7 : p7) (h8 : p8) (h9 : p9) : Aside0 p0 ∧ Aside0 p1 ∧ Aside0 p2 ∧ Aside0 p3 ∧ Aside0 p4 ∧ Aside0 p5 ∧ Aside0 p6 ∧ Aside0 p7 ∧ Aside0 p8 ∧ Aside0 p9 := ⟨⟨h0⟩, ⟨h1⟩, ⟨h2⟩, ⟨h3⟩, ⟨h4⟩, ⟨h5⟩, ⟨h6⟩, ⟨h7⟩, ⟨h8⟩, ⟨h9⟩⟩
theorem pk11 {p0 p1 p2 p3 p4 p5 p6 p7 p8 p9 p10 : Prop} (h0 : p0) (h1 : p1) (h2 : p2) (h3 : p3) (h4 : p4) (h5 : p5) (h6 : p6) (h7 : p7) (h8 : p8) (h9 : p9) (h10 : p10) : Aside0 p0 ∧ Aside0 p1 ∧ Aside0 p2 ∧ Aside0 p3 ∧ Aside0 p4 ∧ Aside0 p5 ∧ Aside0 p6 ∧ Aside0 p7 ∧ Aside0 p8 ∧ Aside0 p9 ∧ Aside0 p10 := ⟨⟨h0⟩, ⟨h1⟩, ⟨h2⟩, ⟨h3⟩, ⟨h4⟩, ⟨h5⟩, ⟨h6⟩, ⟨h7⟩, ⟨h8⟩, ⟨h9⟩, ⟨h10⟩⟩
theorem pk12 {p0 p1 p2 p3 p4 p5 p6 p7 p8 p9 p10 p11 : Prop} (h0 : p0) (h1 : p1) (h2 : p2) (h3 : p3) (h4 : p4) (h5 : p5) (h6 : p6) (h7 : p7) (h8 : p8) (h9 : p9) (h10 : p10) (h11 : p11) : Aside0 p0 ∧ Aside0 p1 ∧ Aside0 p2 ∧ Aside0 p3 ∧ Aside0 p4 ∧ Aside0 p5 ∧ Aside0 p6 ∧ Aside0 p7 ∧ Aside0 p8 ∧ Aside0 p9 ∧ Aside0 p10 ∧ Aside0 p11 := ⟨⟨h0⟩, ⟨h1⟩, ⟨h2⟩, ⟨h3⟩, ⟨h4⟩, ⟨h5⟩, ⟨h6⟩, ⟨h7⟩, ⟨h8⟩, ⟨h9⟩, ⟨h10⟩, ⟨h11⟩⟩
section
variable {P : Program} {ops : Array Oper} {rest : List Oper} {o : Oper} {a : Act} {Q : Exit → Act → World → Prop}
theorem box_ev {W : World} (N : Tmp) (cs : Array Value) (t : TypeId)
    (h : ∀ g, g = W.heap.size → ∀ w1, w1.heap[g]? = some (.cells cs t (0, 0)) → Below W.heap.size W w1 → wpList P ops Q rest (a.put o.dst (.pointer (some ⟨g, 0, none⟩))) w1)
    (hgd : o.guard = none := by rfl) (hd : o.dst = some N := by rfl) (hrun : (execOp a.eval o).run P W = .ok (.value (.pointer (some ⟨W.heap.size, 0, none⟩))) (W.alloc (.cells cs t (0, 0))) := by first | (go_simp; done) | (go_simp; rfl)) : wpList P ops Q (o :: rest) a W :=
  box_event hgd hd hrun h
theorem goL_ {W : World} (N : Option Tmp) {f : FuncId} {fn : Func} {as_ : Array Operand} {ts : Array TypeId} (hf : P.funcs[f]? = some fn) (args : Array Value)
    (h : Calls P f args W fun e w' => ∃ v, e = .returned v ∧ wpList P ops Q rest (a.put N v) w')
    (hd : o.dst = N := by rfl) (hg : o.guard = none := by rfl) (hname : (fn.name == "runtime.NumGoroutine") = false := by kernel_rfl) (hb : fn.body.isSome = true := by rfl)
    (hop : o.op = .call { callee := .value (.func f), args := as_, argTypes := ts } := by rfl) (hargs : as_.map a.eval = args := by (try simp only [List.map_toArray, List.map_cons, List.map_nil]); first | done | rfl | (simp only [List.length_drop, List.length_take]; rfl)) : wpList P ops Q (o :: rest) a W :=
  goesL_ N hd hg hf hname hb args hop hargs h
end
end Go.Proofs.YtmddmbagehjdeaaX
end
section
namespace Go.Proofs.Ytmddmbagehjdeaa.G
open Go.RowKit Go.Proofs.YtmddmbagehjdeaaX Go.Proofs.YtmddmbagehjdeaaW.PrintWords Go.Proofs.YtmddmbagehjdeaaW.PrintLast Go.Proofs.YtmddmbagehjdeaaW.PrintMore
attribute [local go_sem] max2_int min2_int max_two min_two max_three min_three max_four min_four
def windroselaw17_light.f (l0_0 : List Int) (a0_1 : Int) : Option (Bool) := if (l0_0.length : Int) ≤ 300 then (if a0_1 ≤ 2400 then (some (decide (a0_1 ≥ (-10)))) else (some false)) else (some false)
set_option maxHeartbeats 8000000 in
set_option maxRecDepth 100000 in
theorem windroselaw17_light.calls (A0_0 : Option Addr) (c0_0 : Nat) (l0_0 : List Int) (a0_1 : Int) (r : Bool) (w : World) (hr0_0 : Kd.C (Kd.int .u8) w A0_0 l0_0.length l0_0) (hc0_0 : l0_0.length ≤ c0_0) (h : windroselaw17_light.f l0_0 a0_1 = some r) :
    Calls Try.prog 21 #[.agg #[.slice A0_0 l0_0.length c0_0, .int .i64 a0_1]] w fun e w' => e = .returned (.bool r) ∧ Below w.heap.size w w' := by
  have hu25 := Try.underlying25
  have HR0_0 := Aside0.mk hr0_0
  have HC0_0 := Aside0.mk hc0_0
  clear hr0_0 hc0_0
  have HB := Aside0.mk (Below.refl w.heap.size w)
  have H : (if (l0_0.length : Int) ≤ 300 then (if a0_1 ≤ 2400 then (some (decide (a0_1 ≥ (-10)))) else (some false)) else (some false)) = some r := h
  clear h
  by_cases c2 : (l0_0.length : Int) ≤ 300
  focus
    rw [if_pos c2] at H
    have c2b0 : decide ((l0_0.length : Int) ≤ 300) = true := decide_eq_true c2
    have c2b1 : decide (l0_0.length ≤ 300) = true := decide_eq_true (by omega)
    clear c2
    replace H := dle H
    rcases H with ⟨c3b0, H⟩ | ⟨c3b0, H⟩
    focus
      obtain rfl := Option.some.inj H
    rotate_left
    focus
      obtain rfl := Option.some.inj H
  rotate_left 2
  focus
    rw [if_neg c2] at H
    have c2b0 : decide ((l0_0.length : Int) ≤ 300) = false := decide_eq_false c2
    have c2b1 : decide (l0_0.length ≤ 300) = false := decide_eq_false (by omega)
    clear c2
    obtain rfl := Option.some.inj H
  all_goals
    go_enter Try.func21, Try.ntmps21
    go_wp2_with (first | ((with_reducible refine gate_dst (N := 1) rfl ?_); refine box_ev 1 #[.slice A0_0 l0_0.length c0_0, .int .i64 a0_1] 25 ?_; intro gb7000 hg w7000 hbox hb; have n_ := pk4 (below_step bl_ hb) (hbox) ((ge_ hg bl_ : w.heap.size ≤ gb7000)) ((ge_ hg bl_ : w.heap.size ≤ gb7000)); clear HB; obtain ⟨HB, BK7000, GW7000, GE7000⟩ := n_; clear hb hbox hg; have hcz7000_0 : w7000.cell? ⟨gb7000, 0, none⟩ = some (.slice A0_0 l0_0.length c0_0) := (blk_cell BK7000.out 0).trans rfl; have hcz7000_1 : w7000.cell? ⟨gb7000, 1, none⟩ = some (.int .i64 a0_1) := (blk_cell BK7000.out 1).trans rfl; have hfz7000_0 := blk_frozen BK7000.out 0; have hfz7000_1 := blk_frozen BK7000.out 1))
    go_ret
    exact ⟨rf_, bl_⟩
def windroseref17_May.f (l0_0 : List Int) (a0_1 : Int) : Option (Bool) := if a0_1 < 0 then (some false) else (if a0_1 > 131072 then (some false) else (if (l0_0.length : Int) = (wrap64 (Int.tdiv (wrap64 (a0_1 + 7)) 8)) then (if (Int.tmod a0_1 8) = 0 then (some true) else (if 0 ≤ (wrap64 ((l0_0.length : Int) - 1)) then (if (wrap64 ((l0_0.length : Int) - 1)) < (l0_0.length : Int) then (if 0 ≤ (IntKind.u64.wrap (wrap64 (8 - (Int.tmod a0_1 8)))) then (if (shl .i64 1 (IntKind.u64.wrap (wrap64 (8 - (Int.tmod a0_1 8))))) = 0 then (none) else (some ((Int.tmod (wrap64 (rd l0_0 (wrap64 ((l0_0.length : Int) - 1)))) (shl .i64 1 (IntKind.u64.wrap (wrap64 (8 - (Int.tmod a0_1 8)))))) == 0))) else (none)) else (none)) else (none))) else (some false)))
set_option maxHeartbeats 8000000 in
set_option maxRecDepth 100000 in
theorem windroseref17_May.calls (A0_0 : Option Addr) (c0_0 : Nat) (l0_0 : List Int) (a0_1 : Int) (r : Bool) (w : World) (hr0_0 : Kd.C (Kd.int .u8) w A0_0 l0_0.length l0_0) (hc0_0 : l0_0.length ≤ c0_0) (h : windroseref17_May.f l0_0 a0_1 = some r) :
    Calls Try.prog 22 #[.agg #[.slice A0_0 l0_0.length c0_0, .int .i64 a0_1]] w fun e w' => e = .returned (.bool r) ∧ Below w.heap.size w w' := by
  have hu25 := Try.underlying25
  have HR0_0 := Aside0.mk hr0_0
  have HC0_0 := Aside0.mk hc0_0
  clear hr0_0 hc0_0
  have HB := Aside0.mk (Below.refl w.heap.size w)
  have H : (if a0_1 < 0 then (some false) else (if a0_1 > 131072 then (some false) else (if (l0_0.length : Int) = (wrap64 (Int.tdiv (wrap64 (a0_1 + 7)) 8)) then (if (Int.tmod a0_1 8) = 0 then (some true) else (if 0 ≤ (wrap64 ((l0_0.length : Int) - 1)) then (if (wrap64 ((l0_0.length : Int) - 1)) < (l0_0.length : Int) then (if 0 ≤ (IntKind.u64.wrap (wrap64 (8 - (Int.tmod a0_1 8)))) then (if (shl .i64 1 (IntKind.u64.wrap (wrap64 (8 - (Int.tmod a0_1 8))))) = 0 then (none) else (some ((Int.tmod (wrap64 (rd l0_0 (wrap64 ((l0_0.length : Int) - 1)))) (shl .i64 1 (IntKind.u64.wrap (wrap64 (8 - (Int.tmod a0_1 8)))))) == 0))) else (none)) else (none)) else (none))) else (some false)))) = some r := h
  clear h
  replace H := dle H
  rcases H with ⟨c2b0, H⟩ | ⟨c2b0, H⟩
  focus
    obtain rfl := Option.some.inj H
  rotate_left
  focus
    replace H := dgt H
    rcases H with ⟨c5b0, H⟩ | ⟨c5b0, H⟩
    focus
      obtain rfl := Option.some.inj H
    rotate_left
    focus
      replace H := deqn H
      rcases H with ⟨c8b0, c8b1, H⟩ | ⟨c8b0, c8b1, c8, H⟩
      focus
        replace H := deqn H
        rcases H with ⟨c9b0, c9b1, H⟩ | ⟨c9b0, c9b1, c9, H⟩
        focus
          obtain rfl := Option.some.inj H
        rotate_left
        focus
          obtain ⟨ji12, hji12⟩ : ∃ j_ : Int, (wrap64 ((l0_0.length : Int) - 1)) = j_ := ⟨_, rfl⟩
          replace H : (if 0 ≤ (ji12) then (if (ji12) < (l0_0.length : Int) then (if 0 ≤ (IntKind.u64.wrap (wrap64 (8 - (Int.tmod a0_1 8)))) then (if (shl .i64 1 (IntKind.u64.wrap (wrap64 (8 - (Int.tmod a0_1 8))))) = 0 then (none) else (some ((Int.tmod (wrap64 (rd l0_0 (ji12))) (shl .i64 1 (IntKind.u64.wrap (wrap64 (8 - (Int.tmod a0_1 8)))))) == 0))) else (none)) else (none)) else (none)) = some r := by first | (rw [hji12] at H; exact H) | (simp only [hji12] at H ⊢; exact H)
          have hji12w : (IntKind.i64.wrap ((l0_0.length : Int) - 1)) = ji12 := (i64_w _).trans hji12
          replace H := dle H
          rcases H with ⟨c13b0, H⟩ | ⟨c13b0, H⟩
          rotate_left
          · exact absurd H (by simp)
          replace H := dle H
          rcases H with ⟨c14b0, H⟩ | ⟨c14b0, H⟩
          rotate_left
          · exact absurd H (by simp)
          obtain ⟨ji15, hji15⟩ : ∃ j_ : Int, (IntKind.u64.wrap (wrap64 (8 - (Int.tmod a0_1 8)))) = j_ := ⟨_, rfl⟩
          replace H : (if 0 ≤ (ji15) then (if (shl .i64 1 (ji15)) = 0 then (none) else (some ((Int.tmod (wrap64 (rd l0_0 (ji12))) (shl .i64 1 (ji15))) == 0))) else (none)) = some r := by first | (rw [hji15] at H; exact H) | (simp only [hji15] at H ⊢; exact H)
          by_cases c16 : 0 ≤ (ji15)
          rotate_left
          · rw [if_neg c16] at H
            exact absurd H (by simp)
          rw [if_pos c16] at H
          have c16b0 := eq_true c16
          have c16b1 : decide (0 ≤ (ji15)) = true := decide_eq_true c16
          clear c16
          obtain ⟨ji17, hji17⟩ : ∃ j_ : Int, (shl .i64 1 (ji15)) = j_ := ⟨_, rfl⟩
          replace H : (if (ji17) = 0 then (none) else (some ((Int.tmod (wrap64 (rd l0_0 (ji12))) (ji17)) == 0))) = some r := by first | (rw [hji17] at H; exact H) | (simp only [hji17] at H ⊢; exact H)
          have hji17_ : (IntKind.i64.wrap (1 * 2 ^ min (ji15).toNat 64)) = ji17 := hji17
          have hji17z : (ji15) ≤ 64 → (IntKind.i64.wrap (1 * 2 ^ (ji15).toNat)) = ji17 := shl_small hji17
          have hji17u : (IntKind.i64.wrap (2 ^ min (ji15).toNat 64)) = ji17 := by have h_ := hji17_; rw [Int.one_mul] at h_; exact h_
          have hji17v : (ji15) ≤ 64 → (IntKind.i64.wrap (2 ^ (ji15).toNat)) = ji17 := fun hle_ => by have h_ := hji17z hle_; rw [Int.one_mul] at h_; exact h_
          have hji17y : (wrap64 (1 * 2 ^ min (ji15).toNat 64)) = ji17 := (i64_w _).symm.trans hji17_
          have hji17x : (ji15) ≤ 64 → (wrap64 (1 * 2 ^ (ji15).toNat)) = ji17 := fun h_ => (i64_w _).symm.trans (hji17z h_)
          replace H := deqn H
          rcases H with ⟨c18b0, c18b1, H⟩ | ⟨c18b0, c18b1, c18, H⟩
          · exact absurd H (by simp)
          obtain rfl := Option.some.inj H
      rotate_left 2
      focus
        obtain rfl := Option.some.inj H
  all_goals
    go_enter Try.func22, Try.ntmps22
    go_wp2_with (first | ((with_reducible refine gate_dst (N := 1) rfl ?_); (try (refine gate_guard (by rfl) ?_; dsimp only)); refine box_ev 1 #[.slice A0_0 l0_0.length c0_0, .int .i64 a0_1] 25 ?_; intro gb7000 hg w7000 hbox hb; have n_ := pk4 (below_step bl_ hb) (hbox) ((ge_ hg bl_ : w.heap.size ≤ gb7000)) ((ge_ hg bl_ : w.heap.size ≤ gb7000)); clear HB; obtain ⟨HB, BK7000, GW7000, GE7000⟩ := n_; clear hb hbox hg; have hcz7000_0 : w7000.cell? ⟨gb7000, 0, none⟩ = some (.slice A0_0 l0_0.length c0_0) := (blk_cell BK7000.out 0).trans rfl; have hcz7000_1 : w7000.cell? ⟨gb7000, 1, none⟩ = some (.int .i64 a0_1) := (blk_cell BK7000.out 1).trans rfl; have hfz7000_0 := blk_frozen BK7000.out 0; have hfz7000_1 := blk_frozen BK7000.out 1; (try (have p7000 : 0 ≤ ((ji12) : Int) := dc_; have q7000 : (ji12) < (l0_0.length : Int) := dc_; obtain ⟨ad7000, e7000, hx7000_0⟩ := Kd.at_int HR0_0.out (ji12) p7000 q7000; cases e7000; replace hx7000_0 := (HB.out.cell (World.block_lt_of_cell? w _ hx7000_0)).trans hx7000_0; replace p7000 := eq_true p7000; replace q7000 := eq_true q7000))))
    repeat (go_quiet (first | ((with_reducible refine gate_dst (N := 1) rfl ?_); (try (refine gate_guard (by rfl) ?_; dsimp only)); refine box_ev 1 #[.slice A0_0 l0_0.length c0_0, .int .i64 a0_1] 25 ?_; intro gb7000 hg w7000 hbox hb; have n_ := pk4 (below_step bl_ hb) (hbox) ((ge_ hg bl_ : w.heap.size ≤ gb7000)) ((ge_ hg bl_ : w.heap.size ≤ gb7000)); clear HB; obtain ⟨HB, BK7000, GW7000, GE7000⟩ := n_; clear hb hbox hg; have hcz7000_0 : w7000.cell? ⟨gb7000, 0, none⟩ = some (.slice A0_0 l0_0.length c0_0) := (blk_cell BK7000.out 0).trans rfl; have hcz7000_1 : w7000.cell? ⟨gb7000, 1, none⟩ = some (.int .i64 a0_1) := (blk_cell BK7000.out 1).trans rfl; have hfz7000_0 := blk_frozen BK7000.out 0; have hfz7000_1 := blk_frozen BK7000.out 1; (try (have p7000 : 0 ≤ ((ji12) : Int) := dc_; have q7000 : (ji12) < (l0_0.length : Int) := dc_; obtain ⟨ad7000, e7000, hx7000_0⟩ := Kd.at_int HR0_0.out (ji12) p7000 q7000; cases e7000; replace hx7000_0 := (HB.out.cell (World.block_lt_of_cell? w _ hx7000_0)).trans hx7000_0; replace p7000 := eq_true p7000; replace q7000 := eq_true q7000)))); try go_wp2_with (first | ((with_reducible refine gate_dst (N := 1) rfl ?_); (try (refine gate_guard (by rfl) ?_; dsimp only)); refine box_ev 1 #[.slice A0_0 l0_0.length c0_0, .int .i64 a0_1] 25 ?_; intro gb7000 hg w7000 hbox hb; have n_ := pk4 (below_step bl_ hb) (hbox) ((ge_ hg bl_ : w.heap.size ≤ gb7000)) ((ge_ hg bl_ : w.heap.size ≤ gb7000)); clear HB; obtain ⟨HB, BK7000, GW7000, GE7000⟩ := n_; clear hb hbox hg; have hcz7000_0 : w7000.cell? ⟨gb7000, 0, none⟩ = some (.slice A0_0 l0_0.length c0_0) := (blk_cell BK7000.out 0).trans rfl; have hcz7000_1 : w7000.cell? ⟨gb7000, 1, none⟩ = some (.int .i64 a0_1) := (blk_cell BK7000.out 1).trans rfl; have hfz7000_0 := blk_frozen BK7000.out 0; have hfz7000_1 := blk_frozen BK7000.out 1; (try (have p7000 : 0 ≤ ((ji12) : Int) := dc_; have q7000 : (ji12) < (l0_0.length : Int) := dc_; obtain ⟨ad7000, e7000, hx7000_0⟩ := Kd.at_int HR0_0.out (ji12) p7000 q7000; cases e7000; replace hx7000_0 := (HB.out.cell (World.block_lt_of_cell? w _ hx7000_0)).trans hx7000_0; replace p7000 := eq_true p7000; replace q7000 := eq_true q7000)))))
    go_ret
    first
      | exact ⟨rf_, bl_⟩
      | exact ⟨by first | rfl | (simp [errW_none, errW_some] <;> rfl) | (simp only [← hji12, ← hji15, ← hji17]; first | rfl | (simp [errW_none, errW_some] <;> rfl)) | (simp [*, errW_none, errW_some] <;> rfl), bl_⟩
def windroseref17_List.l0 : Nat → List Bool → Int → List Int → Int → Option (List Bool)
  | 0, _, _, _, _ => none
  | k + 1, x3, x4, x221000, x221001 => if x4 < x221001 then (if 0 ≤ (wrap64 (Int.tdiv x4 8)) then (if (wrap64 (Int.tdiv x4 8)) < (x221000.length : Int) then (if 0 ≤ (IntKind.u64.wrap (wrap64 (7 - (Int.tmod x4 8)))) then (if x3.length < 140737488355328 then (windroseref17_List.l0 k (x3 ++ [((Int.tmod (shr .u8 (rd x221000 (wrap64 (Int.tdiv x4 8))) (IntKind.u64.wrap (wrap64 (7 - (Int.tmod x4 8))))) 2) == 1)]) (wrap64 (x4 + 1)) x221000 x221001) else (none)) else (none)) else (none)) else (none)) else (some x3)
def windroseref17_List.f (k : Nat) (l0_0 : List Int) (a0_1 : Int) : Option (List Bool) := windroseref17_List.l0 k (([] : List Bool)) 0 l0_0 a0_1
set_option maxHeartbeats 8000000 in
set_option maxRecDepth 100000 in
theorem windroseref17_List.calls (k : Nat) (A0_0 : Option Addr) (c0_0 : Nat) (l0_0 : List Int) (a0_1 : Int) (r : List Bool) (w : World) (hr0_0 : Kd.C (Kd.int .u8) w A0_0 l0_0.length l0_0) (hc0_0 : l0_0.length ≤ c0_0) (h : windroseref17_List.f k l0_0 a0_1 = some r) :
    Calls Try.prog 23 #[.agg #[.slice A0_0 l0_0.length c0_0, .int .i64 a0_1]] w fun e w' => ∃ v0_ : Value, e = .returned (v0_) ∧ Kd.R Kd.bool 4 w' w.heap.size (fun _ => True) v0_ r ∧ Below w.heap.size w w' := by
  have hu25 := Try.underlying25
  have HR0_0 := Aside0.mk hr0_0
  have HC0_0 := Aside0.mk hc0_0
  clear hr0_0 hc0_0
  have HB := Aside0.mk (Below.refl w.heap.size w)
  have H : (windroseref17_List.l0 k (([] : List Bool)) 0 l0_0 a0_1) = some r := h
  clear h
  obtain ⟨y221, hy221⟩ : ∃ y_ : List Bool, y_ = (([] : List Bool)) := ⟨_, rfl⟩
  replace H : (windroseref17_List.l0 k y221 0 l0_0 a0_1) = some r := by first | (rw [hy221]; with_reducible exact H) | (have H2_ := (Option.bind_some _ _).symm.trans H; rw [hy221]; with_reducible exact H2_) | (have H2_ := (Option.bind_some _ _).symm.trans H; with_reducible exact H2_) | with_reducible exact H | (rw [hy221]; exact H) | exact H
  have Ny221 := Aside0.mk hy221
  clear hy221
  have H' := Aside0.mk H
  clear H
  go_enter Try.func23, Try.ntmps23
  go_wp2_with (first | ((with_reducible refine gate_dst (N := 1) rfl ?_); refine box_ev 1 #[.slice A0_0 l0_0.length c0_0, .int .i64 a0_1] 25 ?_; intro gb220 hg w2 hbox hb; have n_ := pk4 (below_step bl_ hb) (hbox) ((ge_ hg bl_ : w.heap.size ≤ gb220)) ((ge_ hg bl_ : w.heap.size ≤ gb220)); clear HB; obtain ⟨HB, BK220, GW220, GE220⟩ := n_; clear hb hbox hg) | ((with_reducible refine gate_dst (N := 5) rfl ?_); refine Kd.R_lit Kd.bool _ 4 ?hg (N := 5) ?hd (xs := ([] : List Bool)) (inner := []) (ok := fun _ => True) (okp := fun _ => True) ?hr ?hp (fun _ hk => hk) trivial (Below.refl _ _) (Nat.le_refl _) (by simp) ?_; (case hd => rfl); (case hg => rfl); (case hr => first | (go_simp; done) | (go_simp; rfl)); (case hp => exact (Reps.none _ _)); intro v222 w3 ho4 hb hg_ hnew_; clear hg_ hnew_; (first | rw [← Ny221.out] at ho4 | (simp only [Int.reduceToNat] at ho4; rw [← Ny221.out] at ho4)); have n_ := pk3 (Kd.R_lower ho4 (below_size bl_)) (blk_below (bo_ BK220) hb) (below_step bl_ hb); clear BK220 HB; obtain ⟨HO223, BK220, HB⟩ := n_; clear hb ho4))
  go_loopg [3, 4] k (fun kq v3 v4 w' => ∃ (x3_1 : List Bool) (x4_1 : Int), v4 = .int .i64 x4_1 ∧ Aside0 (windroseref17_List.l0 kq x3_1 x4_1 l0_0 a0_1 = some r) ∧ Aside0 (kq ≤ k) ∧ Aside0 (Kd.R Kd.bool 4 w' w.heap.size (fun _ => True) v3 x3_1) ∧ Aside0 (w'.heap[gb220]? = some (.cells #[(.slice A0_0 l0_0.length c0_0), .int .i64 a0_1] 25 (0, 0))) ∧ Aside0 (Below w.heap.size w w'))
  case atStart => exact ⟨(y221), (0), sm_, H', ⟨Nat.le_refl _⟩, ⟨(ro_ HO223)⟩, ⟨(bo_ BK220)⟩, ⟨bl_⟩⟩
  case round =>
    clear H'
    obtain ⟨x3_1, x4_1, rfl, HA, HK1, HO_3, BK220, HB⟩ := hrel
    cases gk with
    | zero => exact absurd HA.out (by simp [windroseref17_List.l0])
    | succ k1 =>
      have H := HA.out
      clear HA
      simp only [windroseref17_List.l0] at H
      replace H := dle H
      rcases H with ⟨c5b0, H⟩ | ⟨c5b0, H⟩
      focus
        obtain ⟨ji6, hji6⟩ : ∃ j_ : Int, (wrap64 (Int.tdiv x4_1 8)) = j_ := ⟨_, rfl⟩
        replace H : (if 0 ≤ (ji6) then (if (ji6) < (l0_0.length : Int) then (if 0 ≤ (IntKind.u64.wrap (wrap64 (7 - (Int.tmod x4_1 8)))) then (if x3_1.length < 140737488355328 then (windroseref17_List.l0 k1 (x3_1 ++ [((Int.tmod (shr .u8 (rd l0_0 (ji6)) (IntKind.u64.wrap (wrap64 (7 - (Int.tmod x4_1 8))))) 2) == 1)]) (wrap64 (x4_1 + 1)) l0_0 a0_1) else (none)) else (none)) else (none)) else (none)) = some r := by first | (rw [hji6] at H; exact H) | (simp only [hji6] at H ⊢; exact H)
        have hji6w : (IntKind.i64.wrap (Int.tdiv x4_1 8)) = ji6 := (i64_w _).trans hji6
        replace H := dle H
        rcases H with ⟨c7b0, H⟩ | ⟨c7b0, H⟩
        rotate_left
        · exact absurd H (by simp)
        replace H := dle H
        rcases H with ⟨c8b0, H⟩ | ⟨c8b0, H⟩
        rotate_left
        · exact absurd H (by simp)
        obtain ⟨ji9, hji9⟩ : ∃ j_ : Int, (IntKind.u64.wrap (wrap64 (7 - (Int.tmod x4_1 8)))) = j_ := ⟨_, rfl⟩
        replace H : (if 0 ≤ (ji9) then (if x3_1.length < 140737488355328 then (windroseref17_List.l0 k1 (x3_1 ++ [((Int.tmod (shr .u8 (rd l0_0 (ji6)) (ji9)) 2) == 1)]) (wrap64 (x4_1 + 1)) l0_0 a0_1) else (none)) else (none)) = some r := by first | (rw [hji9] at H; exact H) | (simp only [hji9] at H ⊢; exact H)
        by_cases c10 : 0 ≤ (ji9)
        rotate_left
        · rw [if_neg c10] at H
          exact absurd H (by simp)
        rw [if_pos c10] at H
        have c10b0 := eq_true c10
        have c10b1 : decide (0 ≤ (ji9)) = true := decide_eq_true c10
        clear c10
        obtain ⟨ji11, hji11⟩ : ∃ j_ : Int, (shr .u8 (rd l0_0 (ji6)) (ji9)) = j_ := ⟨_, rfl⟩
        replace H : (if x3_1.length < 140737488355328 then (windroseref17_List.l0 k1 (x3_1 ++ [((Int.tmod (ji11) 2) == 1)]) (wrap64 (x4_1 + 1)) l0_0 a0_1) else (none)) = some r := by first | (rw [hji11] at H; exact H) | (simp only [hji11] at H ⊢; exact H)
        have hji11_ : ((rd l0_0 (ji6)) / 2 ^ min (ji9).toNat 8) = ji11 := hji11
        have hji11z : (ji9) ≤ 8 → ((rd l0_0 (ji6)) / 2 ^ (ji9).toNat) = ji11 := shr_small hji11
        by_cases c12 : x3_1.length < 140737488355328
        rotate_left
        · rw [if_neg c12] at H
          exact absurd H (by simp)
        rw [if_pos c12] at H
        have LMc12 := Aside0.mk c12
        clear c12
        obtain ⟨y225, hy225⟩ : ∃ y_ : List Bool, y_ = (x3_1 ++ [((Int.tmod (ji11) 2) == 1)]) := ⟨_, rfl⟩
        replace H : (windroseref17_List.l0 k1 y225 (wrap64 (x4_1 + 1)) l0_0 a0_1) = some r := by first | (rw [hy225]; with_reducible exact H) | (have H2_ := (Option.bind_some _ _).symm.trans H; rw [hy225]; with_reducible exact H2_) | (have H2_ := (Option.bind_some _ _).symm.trans H; with_reducible exact H2_) | with_reducible exact H | (rw [hy225]; exact H) | exact H
        have Ny225 := Aside0.mk hy225
        clear hy225
        have H' := Aside0.mk H
        clear H
        obtain ⟨hcz13_0, hcz13_1, hfz13_0, hfz13_1⟩ := blk_at2 BK220.out
        have p224 : 0 ≤ ((ji6) : Int) := dc_
        have q224 : (ji6) < (l0_0.length : Int) := dc_
        obtain ⟨ad224, e224, hx224_0⟩ := Kd.at_int HR0_0.out (ji6) p224 q224
        cases e224
        replace hx224_0 := (HB.out.cell (World.block_lt_of_cell? w _ hx224_0)).trans hx224_0
        replace p224 := eq_true p224
        replace q224 := eq_true q224
      rotate_left
      focus
        obtain rfl := Option.some.inj H
        obtain ⟨hcz15_0, hcz15_1, hfz15_0, hfz15_1⟩ := blk_at2 BK220.out
      all_goals
        go_wp2_with (first | ((with_reducible refine gate_builtin (b := .append) (xs := #[.tmp 12, .tmp 26]) rfl ?_); at_builtin; refine Kd.R_append Kd.bool (w0 := w) w.heap.size rfl (.tmp 12) (.tmp 26) 39 4 (.bool false) 1 rfl Try.underlying39 info4 rfl (by decide) (by omega) u3 x3_1 ((Int.tmod (ji11) 2) == 1) [.bool ((Int.tmod (ji11) 2) == 1)] (fun _ => True) (fun _ => False) rfl rfl ?aP (fun _ hk => hk.elim) ?aF ?aO ?aB ?aS ?aL ?_; (case aP => exact rfl); (case aB => exact bl_); (case aF => exact (fun _ _ => trivial)); (case aO => exact (ro_ HO_3)); (case aS => exact (below_size bl_)); (case aL => have := LMc12.out; omega); intro v7000 w7000 ho hb hg hat; rw [← Ny225.out] at ho; have n_ := pk3 (blk_grown (bo_ BK220) hg (Kd.R_ne HO_3.out BK220.out (by decide))) (hb) (ho); clear BK220 HB HO_3; obtain ⟨BK220, HB, HO7000⟩ := n_; clear ho hb hg hat))
        first
          | go_roundg k1
            case measure => have := HK1.out; omega
            case rel => exact ⟨(y225), (wrap64 (x4_1 + 1)), sm_, H', ⟨by have := HK1.out; omega⟩, ⟨(ro_ HO7000)⟩, ⟨(bo_ BK220)⟩, ⟨bl_⟩⟩
          | go_ret
            exact ⟨_, rf_, (ro_ HO_3), bl_⟩
def windroseref17_fold.f (a0 : Int) : Option (Int) := if a0 ≥ 0 then (some (IntKind.u64.wrap ((IntKind.u64.wrap (a0)) * 2))) else (some (IntKind.u64.wrap ((IntKind.u64.wrap ((IntKind.u64.wrap (wrap64 ((-1) - a0))) * 2)) + 1)))
set_option maxHeartbeats 8000000 in
set_option maxRecDepth 100000 in
theorem windroseref17_fold.calls (a0 : Int) (r : Int) (w : World) (h : windroseref17_fold.f a0 = some r) :
    Calls Try.prog 68 #[.int .i64 a0] w fun e w' => e = .returned (.int .u64 r) ∧ Drawn0 w w' := by
  have H : (if a0 ≥ 0 then (some (IntKind.u64.wrap ((IntKind.u64.wrap (a0)) * 2))) else (some (IntKind.u64.wrap ((IntKind.u64.wrap ((IntKind.u64.wrap (wrap64 ((-1) - a0))) * 2)) + 1)))) = some r := h
  clear h
  replace H := dge H
  rcases H with ⟨c2b0, H⟩ | ⟨c2b0, H⟩
  focus
    obtain rfl := Option.some.inj H
  rotate_left
  focus
    obtain rfl := Option.some.inj H
  all_goals
    go_enter Try.func68, Try.ntmps68
    go_wp2
    go_ret
    exact ⟨by first | rfl | (simp; done) | (simp [*]; done), by repeat (first | exact Drawn0.refl _ | apply Drawn0.step)⟩
def windroseref17_Class.f (a0 : Int) : Option (Int) := (windroseref17_fold.f a0).bind fun t229 => (if t229 = 0 then (some 0) else (if t229 < 128 then (some 1) else (if t229 < 4096 then (some 2) else (if t229 < 1048576 then (some 3) else (some 4)))))
set_option maxHeartbeats 8000000 in
set_option maxRecDepth 100000 in
theorem windroseref17_Class.calls (a0 : Int) (r : Int) (w : World) (h : windroseref17_Class.f a0 = some r) :
    Calls Try.prog 34 #[.int .i64 a0] w fun e w' => e = .returned (.int .i64 r) ∧ Drawn0 w w' := by
  have H : ((windroseref17_fold.f a0).bind fun t229 => (if t229 = 0 then (some 0) else (if t229 < 128 then (some 1) else (if t229 < 4096 then (some 2) else (if t229 < 1048576 then (some 3) else (some 4)))))) = some r := h
  clear h
  replace H := bindA H
  obtain ⟨t229, A2, H⟩ := H
  try dsimp only at H
  replace H := deqn H
  rcases H with ⟨c3b0, c3b1, H⟩ | ⟨c3b0, c3b1, c3, H⟩
  focus
    obtain rfl := Option.some.inj H
  rotate_left
  focus
    replace H := dle H
    rcases H with ⟨c4b0, H⟩ | ⟨c4b0, H⟩
    focus
      obtain rfl := Option.some.inj H
    rotate_left
    focus
      replace H := dle H
      rcases H with ⟨c5b0, H⟩ | ⟨c5b0, H⟩
      focus
        obtain rfl := Option.some.inj H
      rotate_left
      focus
        replace H := dle H
        rcases H with ⟨c6b0, H⟩ | ⟨c6b0, H⟩
        focus
          obtain rfl := Option.some.inj H
        rotate_left
        focus
          obtain rfl := Option.some.inj H
  all_goals
    go_enter Try.func34, Try.ntmps34
    go_wp2_with (first | ((with_reducible refine gate_callee (f := 68) rfl ?_); refine goL_ (some 5) Try.func68 #[.int .i64 a0] ?_; (with_reducible refine (windroseref17_fold.calls a0 t229 _ A2.out).mono ?_); rintro e w' ⟨rfl, ⟨nd, rfl⟩⟩; refine ⟨_, rfl, ?_⟩))
    go_ret
    exact ⟨by first | rfl | (simp; done) | (simp [*]; done), by repeat (first | exact Drawn0.refl _ | apply Drawn0.step)⟩
end Go.Proofs.Ytmddmbagehjdeaa.G
end
section
namespace Go.Proofs.Ytmddmbagehjdeaa.G
open Go.RowKit Go.Proofs.YtmddmbagehjdeaaX Go.Proofs.YtmddmbagehjdeaaW.PrintWords Go.Proofs.YtmddmbagehjdeaaW.PrintLast Go.Proofs.YtmddmbagehjdeaaW.PrintMore
attribute [local go_sem] max2_int min2_int max_two min_two max_three min_three max_four min_four
def bits_fold.f (a0 : Int) : Option (Int) := some (Go.bits .xor .u64 (IntKind.u64.wrap ((IntKind.u64.wrap (a0)) * 2)) (IntKind.u64.wrap (a0 / 9223372036854775808)))
set_option maxHeartbeats 8000000 in
set_option maxRecDepth 100000 in
theorem bits_fold.calls (a0 : Int) (r : Int) (w : World) (h : bits_fold.f a0 = some r) :
    Calls Try.prog 62 #[.int .i64 a0] w fun e w' => e = .returned (.int .u64 r) ∧ Drawn0 w w' := by
  have H : (some (Go.bits .xor .u64 (IntKind.u64.wrap ((IntKind.u64.wrap (a0)) * 2)) (IntKind.u64.wrap (a0 / 9223372036854775808)))) = some r := h
  clear h
  obtain rfl := Option.some.inj H
  go_enter Try.func62, Try.ntmps62
  go_wp2
  go_ret
  exact ⟨by first | rfl | (simp; done) | (simp [*]; done), by repeat (first | exact Drawn0.refl _ | apply Drawn0.step)⟩
def bits_width.f (a0 : Int) : Option (Int) := if a0 = 0 then (some 0) else (if a0 = 1 then (some 7) else (if a0 = 2 then (some 12) else (if a0 = 3 then (some 20) else (some 64))))
set_option maxHeartbeats 8000000 in
set_option maxRecDepth 100000 in
theorem bits_width.calls (a0 : Int) (r : Int) (w : World) (h : bits_width.f a0 = some r) :
    Calls Try.prog 63 #[.int .i64 a0] w fun e w' => e = .returned (.int .i64 r) ∧ Drawn0 w w' := by
  have H : (if a0 = 0 then (some 0) else (if a0 = 1 then (some 7) else (if a0 = 2 then (some 12) else (if a0 = 3 then (some 20) else (some 64))))) = some r := h
  clear h
  replace H := deqn H
  rcases H with ⟨c2b0, c2b1, H⟩ | ⟨c2b0, c2b1, c2, H⟩
  focus
    obtain rfl := Option.some.inj H
  rotate_left
  focus
    replace H := deqn H
    rcases H with ⟨c3b0, c3b1, H⟩ | ⟨c3b0, c3b1, c3, H⟩
    focus
      obtain rfl := Option.some.inj H
    rotate_left
    focus
      replace H := deqn H
      rcases H with ⟨c4b0, c4b1, H⟩ | ⟨c4b0, c4b1, c4, H⟩
      focus
        obtain rfl := Option.some.inj H
      rotate_left
      focus
        replace H := deqn H
        rcases H with ⟨c5b0, c5b1, H⟩ | ⟨c5b0, c5b1, c5, H⟩
        focus
          obtain rfl := Option.some.inj H
        rotate_left
        focus
          obtain rfl := Option.some.inj H
  all_goals
    go_enter Try.func63, Try.ntmps63
    go_wp2
    go_ret
    exact ⟨by first | rfl | (simp; done) | (simp [*]; done), by repeat (first | exact Drawn0.refl _ | apply Drawn0.step)⟩
end Go.Proofs.Ytmddmbagehjdeaa.G
end
