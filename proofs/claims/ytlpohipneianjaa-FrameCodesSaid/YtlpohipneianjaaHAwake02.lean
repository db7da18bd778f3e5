/- windroselaw02.awake: it answers true, where Encode and Sum answer what they must of the small example. No condition. -/
import Derived.Test.YtlpohipneianjaaG2
import Derived.Lib.SlBytesConst
set_option linter.unusedVariables false
set_option linter.unusedSimpArgs false
namespace Go.Proofs.Ytlpohipneianjaa.G
open Go Go.RowKit Go.Proofs.YtlpohipneianjaaW.PrintWords Go.Proofs.YtlpohipneianjaaW.PrintLast Go.Proofs.YtlpohipneianjaaW.PrintMore

theorem C_new_bytes (W : World) (e : TypeId) (fr : Nat × Nat) (xs : List Int) (h : xs.length ≤ 9223372036854775807) :
    Kd.C (Kd.int .u8) (W.alloc (.cells (xs.map (Value.int .u8)).toArray e fr)) (some ⟨W.heap.size, 0, none⟩) xs.length xs := by
  refine ⟨rfl, h, fun _ => ⟨_, rfl, fun j p hj => ⟨[.int .u8 p], rfl, rfl, fun i u hu => ?_⟩⟩⟩
  have hi : i = 0 := by
    rcases Nat.eq_zero_or_pos i with h | h
    · exact h
    · rw [List.getElem?_eq_none (by simp; omega)] at hu; cases hu
  subst hi
  simp at hu
  subst hu
  show (W.alloc _).cell? ((⟨W.heap.size, 0, none⟩ : Addr).add (j * 1 + 0)) = _
  rw [add_plain]
  have hb : (W.alloc (.cells (xs.map (Value.int .u8)).toArray e fr)).heap[W.heap.size]? = some (.cells (xs.map (Value.int .u8)).toArray e fr) := by
    show (W.heap.push _)[W.heap.size]? = _
    simp
  unfold World.cell?
  rw [hb]
  simp [hj]

def windroselaw02_awake.f (k : Nat) : Option Bool :=
  if frame_Encode.f k [5] [(⟨#[97]⟩ : ByteArray)] = some ([1, 10, 1, 1, 97], 0) ∧ frame_Sum.f k [49, 50, 51, 52, 53, 54, 55, 56, 57] = some 783370361 then some true else none
theorem windroselaw02_awake.mono : ∀ k, LeO (windroselaw02_awake.f k) (windroselaw02_awake.f (k + 1)) := by
  intro k r h
  unfold windroselaw02_awake.f at h ⊢
  split at h
  · rename_i hc
    rw [if_pos ⟨frame_Encode.mono _ _ _ _ hc.1, frame_Sum.mono _ _ _ hc.2⟩]
    exact h
  · cases h

set_option maxHeartbeats 8000000 in
set_option maxRecDepth 100000 in
theorem windroselaw02_awake.calls (k : Nat) (r : Bool) (w : World) (h : windroselaw02_awake.f k = some r) :
    Calls Try.prog 15 #[] w fun e w' => e = .returned (.bool r) ∧ Below w.heap.size w w' := by
  unfold windroselaw02_awake.f at h
  split at h
  case isFalse => cases h
  case isTrue hc =>
  obtain rfl := Option.some.inj h
  obtain ⟨y159, hy159⟩ : ∃ y_ : List Int, y_ = ([5] : List Int) := ⟨_, rfl⟩
  obtain ⟨y162, hy162⟩ : ∃ y_ : List ByteArray, y_ = ([(⟨#[97]⟩ : ByteArray)] : List ByteArray) := ⟨_, rfl⟩
  obtain ⟨y169, hy169⟩ : ∃ y_ : List Int, y_ = ([49, 50, 51, 52, 53, 54, 55, 56, 57] : List Int) := ⟨_, rfl⟩
  obtain ⟨t165, ht165⟩ : ∃ y_ : List Int, y_ = ([1, 10, 1, 1, 97] : List Int) := ⟨_, rfl⟩
  rw [← hy159, ← hy162, ← hy169, ← ht165] at hc
  have A1 := Aside0.mk hc.1
  have A2 := Aside0.mk hc.2
  have Ny159 := Aside0.mk hy159
  have Ny162 := Aside0.mk hy162
  have Ny169 := Aside0.mk hy169
  have Nt165 := Aside0.mk ht165
  have n169 : y169.length = 9 := by rw [hy169]; rfl
  have hstr : (strOfNums t165).toList = ([1, 10, 1, 1, 97] : List UInt8) := by rw [ht165]; decide +kernel
  have N169 := Aside0.mk n169
  clear hy159 hy162 hy169 ht165 n169
  clear hc h
  have HB := Aside0.mk (Below.refl w.heap.size w)
  have kc := fun (w : World) (C : Array Value) (n c : Nat) => Lib.run_convert_bytes_const (P := Try.prog) w 22 5 C n c Try.underlying22 Try.underlying5
  go_enter Try.func15, Try.ntmps15
  go_wp2_with (first
    | ((with_reducible refine gate_dst (N := 4) rfl ?_); refine Kd.R_lit (Kd.int .i64) _ 3 ?hg (N := 4) ?hd (xs := ([5] : List Int)) (inner := [.int .i64 5]) (ok := fun _ => True) (okp := fun _ => True) ?hr ?hp (fun _ hk => hk) trivial (Below.refl _ _) (Nat.le_refl _) (by simp) ?_; (case hd => rfl); (case hg => rfl); (case hr => first | (go_simp; done) | (go_simp; rfl)); (case hp => exact (Reps.one (show Kd.M (Kd.int .i64) _ _ _ 5 [.int .i64 5] from rfl) (Reps.none _ _))); intro v160 w5 ho6 hb hg_ hnew_; clear hg_ hnew_; rw [← Ny159.out] at ho6; have n0_ := Aside0.mk (Kd.R_lower ho6 HB.out.size); have n1_ := Aside0.mk (below_step HB.out hb); clear HB; have HO161 := n0_; have HB := n1_; clear n0_ n1_; clear hb ho6)
    | ((with_reducible refine gate_dst (N := 5) rfl ?_); refine Kd.R_lit Kd.string _ 9 ?hg (N := 5) ?hd (xs := ([(⟨#[97]⟩ : ByteArray)] : List ByteArray)) (inner := [.string (⟨#[97]⟩ : ByteArray)]) (ok := fun _ => True) (okp := fun _ => True) ?hr ?hp (fun _ hk => hk) trivial (Below.refl _ _) (Nat.le_refl _) (by simp) ?_; (case hd => rfl); (case hg => rfl); (case hr => first | (go_simp; done) | (go_simp; rfl)); (case hp => exact (Reps.one (show Kd.M Kd.string _ _ _ (⟨#[97]⟩ : ByteArray) [.string (⟨#[97]⟩ : ByteArray)] from rfl) (Reps.none _ _))); intro v163 w7 ho8 hb hg_ hnew_; clear hg_ hnew_; rw [← Ny162.out] at ho8; have n0_ := Aside0.mk (Kd.R_below HO161.out hb); have n1_ := Aside0.mk (Kd.R_lower ho8 HB.out.size); have n2_ := Aside0.mk (below_step HB.out hb); clear HO161; clear HB; have HO161 := n0_; have HO164 := n1_; have HB := n2_; clear n0_ n1_ n2_; clear hb ho8; obtain ⟨Ao9, co9, eo9⟩ := Kd.R_slice HO164.out; subst eo9; obtain ⟨Ao10, co10, eo10⟩ := Kd.R_slice HO161.out; subst eo10)
    | ((with_reducible refine gate_callee (f := 24) rfl ?_); refine goesL_ (some 7) rfl rfl Try.func24 (by kernel_rfl) rfl #[.agg #[.slice Ao10 y159.length co10, .slice Ao9 y162.length co9]] rfl (by (try simp only [List.map_toArray, List.map_cons, List.map_nil]); first | done | rfl) ?_; (with_reducible refine (frame_Encode.calls k _ _ y159 _ _ y162 t165 0 _ ?side1 ?side2 ?side3 ?side4 A1.out).mono ?_); (case side1 => exact (Kd.R_reads' HO161.out).2.2); (case side2 => exact (Kd.R_reads' HO161.out).2.1); (case side3 => exact (Kd.R_reads' HO164.out).2.2); (case side4 => exact (Kd.R_reads' HO164.out).2.1); rintro e w11 ⟨v166, rfl, ho0, hb⟩; refine ⟨_, rfl, ?_⟩; have n2_ := Aside0.mk (Kd.R_lower ho0 HB.out.size); have n3_ := Aside0.mk (below_step HB.out hb); clear HO161; clear HO164; clear HB; have HO167 := n2_; have HB := n3_; clear n2_ n3_; clear hb ho0)
    | ((with_reducible refine gate_callee (f := 25) rfl ?_); refine goesL_ (some 12) rfl rfl Try.func25 (by kernel_rfl) rfl #[.slice (some ⟨w11.heap.size, 0, none⟩) y169.length 9] rfl (by (try simp only [List.map_toArray, List.map_cons, List.map_nil]); rw [N169.out]; first | done | rfl) ?_; (with_reducible refine (frame_Sum.calls k _ 9 y169 783370361 _ ?side1 ?side2 A2.out).mono ?_); (case side1 => rw [Ny169.out]; exact C_new_bytes _ _ _ [49, 50, 51, 52, 53, 54, 55, 56, 57] (by decide)); (case side2 => rw [N169.out]; exact Nat.le_refl _); rintro e w' ⟨rfl, hdr⟩; refine ⟨_, rfl, ?_⟩; have hO2 := Kd.R_below (Kd.R_alloc HO167.out _) hdr.below; have hcv := own_string (P := Try.prog) Try.underlying22 Try.underlying5 Try.underlying9 (Kd.own_of_R hO2); have n1_ := Aside0.mk (below_step (below_alloc HB.out _) hdr.below); clear HB; have HB := n1_; clear n1_ hO2 hdr))
  go_ret
  exact ⟨rfl, HB.out⟩

end Go.Proofs.Ytlpohipneianjaa.G
