/- More lines for the row. -/
import Derived.Test.YtmddmbagehjdeaaZGorillaDatas4
import Derived.WalkSpells
set_option linter.unusedVariables false
set_option linter.unusedSimpArgs false
set_option maxRecDepth 100000
set_option maxHeartbeats 8000000
namespace Go.Proofs.Ytmddmbagehjdeaa
abbrev bE3:Array Bool:=#[false,false,false,false,false,false,false,false,false,false,false,false,false,false,false,false,false]
abbrev bx8:Array Bool:=#[true,false,false,false,false,false,false,false,false,false,false,false,false,false,false,false,false]
abbrev aD6:Array Bool:=#[true,true,true,true,true,true,true,true,true,true,true,true,true,true,true,true,true]
abbrev aM4:Array Bool:=#[true,false,true,false,false,false,false,false,true,true,true,true,true,true,false,false,false]
abbrev aI9:Array Bool:=#[true,true,true,false,false,false,false,false,true,true,true,true,true,true,false,false,false]
abbrev aJ3:Array Bool:=#[true,true,true,true,false,false,false,false,true,true,true,true,true,true,false,false,false]
abbrev aK0:Array Bool:=#[true,true,true,true,true,false,false,false,true,true,true,true,true,true,false,false,false]
abbrev aM5:Array Bool:=#[true,true,true,true,true,true,false,false,true,true,true,true,true,true,false,false,false]
abbrev aI5:Array Bool:=#[true,true,true,true,true,true,true,false,true,true,true,true,true,true,false,false,false]
abbrev aJ6:Array Bool:=#[true,true,true,true,true,true,true,true,true,true,true,true,true,true,false,false,false]
abbrev aP6:Array Bool:=#[true,false,true,false,false,false,false,false,true,true,true,false,false,false,false,false,false]
abbrev aW6:Array Bool:=#[true,false,true,false,false,false,false,false,true,false,false,false,false,false,false,false,false]
abbrev aJ0:Array Bool:=#[true,true,true,true,true,true,true,true,true,true,true,true,true,true,true,false,false]
abbrev aR8:Array Bool:=#[true,false,true,false,false,false,false,false,true,true,true,true,false,false,false,false,false]
abbrev bt4:Array Bool:=#[true,false,true,false,false,false,false,false,false,false,false,false,false,false,false,false,false]
abbrev aL0:Array Bool:=#[true,true,true,true,true,true,true,true,true,true,true,true,true,true,true,true,false]
abbrev aV9:Array Bool:=#[true,false,true,false,false,false,false,false,true,true,false,false,false,false,false,false,false]
abbrev aQ5:Array Bool:=#[true,false,true,false,false,false,false,false,true,true,true,true,true,false,false,false,false]
abbrev cn2:Array Bool:=#[false,false,false,false,false,false,false,false,false,false,false,false,false,false,false,false,false,false,false]
abbrev cn1:Array Bool:=#[true,false,false,false,false,false,false,false,false,false,false,false,false,false,false,false,false,false,false]
abbrev bp8:Array Bool:=#[true,true,true,true,true,false,true,true,true,true,true,true,false,true,false,false,false,false,false]
abbrev bo1:Array Bool:=#[true,true,true,true,true,true,true,true,true,true,true,true,false,true,false,false,false,false,false]
abbrev bd4:Array Bool:=#[true,true,true,true,true,true,true,true,true,true,true,true,true,true,true,true,true,false,false]
abbrev ca5:Array Bool:=#[true,true,true,true,false,false,false,false,false,false,false,false,false,false,false,false,false,false,false]
abbrev bk3:Array Bool:=#[true,true,true,true,true,true,true,true,true,true,true,true,true,true,false,false,false,false,false]
abbrev bB4:Array Bool:=#[true,true,true,true,true,false,true,true,true,true,true,false,false,false,false,false,false,false,false]
abbrev bH9:Array Bool:=#[true,true,true,true,true,false,true,true,false,false,false,false,false,false,false,false,false,false,false]
abbrev bd0:Array Bool:=#[true,true,true,true,true,true,true,true,true,true,true,true,true,true,true,true,true,true,false]
abbrev cp2:Array Bool:=#[true,true,false,false,false,false,false,false,false,false,false,false,false,false,false,false,false,false,false]
abbrev bZ2:Array Bool:=#[true,true,true,true,true,false,false,false,false,false,false,false,false,false,false,false,false,false,false]
abbrev bo9:Array Bool:=#[true,true,true,true,true,true,true,true,true,true,true,true,true,true,true,false,false,false,false]
abbrev bs9:Array Bool:=#[true,true,true,true,true,false,true,true,true,true,true,true,false,false,false,false,false,false,false]
abbrev bL4:Array Bool:=#[true,true,true,true,true,false,true,true,true,false,false,false,false,false,false,false,false,false,false]
abbrev bb5:Array Bool:=#[true,true,true,true,true,true,true,true,true,true,true,true,true,true,true,true,true,true,true]
abbrev br9:Array Bool:=#[true,true,true,true,true,true,true,true,true,true,true,true,true,true,true,true,false,false,false]
abbrev cj5:Array Bool:=#[true,true,true,false,false,false,false,false,false,false,false,false,false,false,false,false,false,false,false]
abbrev bY9:Array Bool:=#[true,true,true,true,true,false,true,false,false,false,false,false,false,false,false,false,false,false,false]
abbrev bO1:Array Bool:=#[true,true,true,true,true,false,true,true,true,true,false,false,false,false,false,false,false,false,false]
end Go.Proofs.Ytmddmbagehjdeaa
section
namespace Go.Proofs.Ytmddmbagehjdeaa.G
open Go Go.RowKit Go.Proofs.YtmddmbagehjdeaaW.PrintWords Go.Proofs.YtmddmbagehjdeaaW.PrintLast Go.Proofs.YtmddmbagehjdeaaW.PrintMore
def q59.f (l0:List Int):Option (List Int):=if l0.length<140737488355328 then some l0 else none
theorem q59.calls (A0:Option Addr) (c0:Nat) (l0:List Int) (r:List Int) (w:World) (hr0:Kd.C (Kd.int .u8) w A0 l0.length l0) (hc0:l0.length≤c0) (h:q59.f l0=some r) :
  Calls Try.prog 83 #[.slice A0 l0.length c0] w fun e w'=>∃ v0_:Value,e=.returned (v0_)∧Kd.R (Kd.int .u8) 5 w' w.heap.size (fun _=>True) v0_ r∧Below w.heap.size w w':=by
 unfold q59.f at h
 by_cases hl:l0.length<140737488355328
 ·rw [if_pos hl] at h
  obtain rfl:=Option.some.inj h
  have HL:=q5.mk hl
  have HR:=q5.mk hr0
  have HC:=q5.mk hc0
  have HB:=q5.mk (Below.refl w.heap.size w)
  have hnil:=fun(W:World)=>Lib.run_eql_slice_nil (P:=Try.prog) W 23 5 A0 l0.length c0 0 0 Try.underlying23
  clear h hl hc0
  rcases A0 with _|ad
  ·have h0:l0=[]:=by
    rcases Nat.eq_zero_or_pos l0.length with h0|h0
    ·exact List.eq_nil_of_length_eq_zero h0
    ·obtain⟨ad,e,_⟩:=hr0.2.2 h0
     cases e
   clear hr0
   have H0:=q5.mk h0
   clear h0
   go_enter Try.func83,Try.ntmps83
   go_wp2
   go_ret
   exact⟨_,rfl,by rw [H0.out];exact Kd.R_nil _ _ _ _ _,Below.refl _ _⟩
  ·clear hr0
   go_enter Try.func83,Try.ntmps83
   go_wp2_with (first
    |((with_reducible refine X0 (N:=5) rfl ?_);refine Kd.R_lit (Kd.int .u8) _ 5 ?hg (N:=5) ?hd (xs:=([]:List Int)) (inner:=[]) (ok:=fun _=>True) (okp:=fun _=>True) ?hr ?hp (fun _ hk=>hk) trivial (Below.refl _ _) (Nat.le_refl _) (by simp) ?_;(case hd=>rfl);(case hg=>rfl);(case hr=>first|(go_simp;done)|(go_simp;rfl));(case hp=>exact(Reps.none _ _));intro v5 w5 ho5 hb5 hg_ hnew_;clear hg_ hnew_;have HO5:=q5.mk ho5;have HB5:=q5.mk hb5;clear ho5 hb5)
    |((with_reducible refine G1 (b:=.append) (xs:=#[.tmp 5,.tmp 6]) rfl ?_);at_builtin;refine Kd.R_append_rows (Kd.int .u8) (w0:=w) w.heap.size rfl (.tmp 5) (.tmp 6) 23 5 (.int .u8 0) 1 rfl Try.underlying23 cs3 rfl (by decide) (by omega) v5 [] l0 _ _ _ (fun _=>True) (fun _=>False) rfl rfl ?aO ?aR (fun _ _ h=>h) (fun _ h=>h.elim) ?aF ?aB ?aS ?aL ?_;(case aR=>exact Kd.C_below HR.out (at6 (Below.refl _ _) (Nat.le_refl _) HB5.out));(case aF=>exact(fun _ _=>trivial));(case aB=>exact HB5.out);(case aO=>exact HO5.out);(case aS=>exact HB5.out.size);(case aL=>have:=HL.out;simp;omega);intro v7 w7 ho hb hg hat;rw [List.nil_append] at ho;have HO7:=q5.mk ho;have HB7:=q5.mk hb;clear ho hb hg hat))
   go_ret
   exact⟨_,rfl,HO7.out,HB7.out⟩
 ·rw [if_neg hl] at h
  cases h
end Go.Proofs.Ytmddmbagehjdeaa.G
end
section
namespace Go.Proofs.Ytmddmbagehjdeaa.G
open Go.RowKit Go.Proofs.YtmddmbagehjdeaaX Go.Proofs.YtmddmbagehjdeaaW.PrintWords Go.Proofs.YtmddmbagehjdeaaW.PrintLast Go.Proofs.YtmddmbagehjdeaaW.PrintMore
attribute [local go_sem] S3 R3 R4 S4 P3 N3 D4 Y3
def q64.f (l0_0:List Int) (a0_1:Int):Option (List Int×Int):=(q59.f l0_0).bind fun bk0=>(some (bk0,a0_1))
theorem q64.calls (A0_0:Option Addr) (c0_0:Nat) (l0_0:List Int) (a0_1:Int) (r1:List Int) (r2:Int) (w:World) (hr0_0:Kd.C (Kd.int .u8) w A0_0 l0_0.length l0_0) (hc0_0:l0_0.length≤c0_0) (h:q64.f l0_0 a0_1=some (r1,r2)) :
  Calls Try.prog 59 #[.agg #[.slice A0_0 l0_0.length c0_0,.int .i64 a0_1]] w fun e w'=>∃ v0_:Value,e=.returned (.agg #[v0_,.int .i64 r2])∧Kd.R (Kd.int .u8) 5 w' w.heap.size (fun _=>True) v0_ r1∧Below w.heap.size w w':=by
 have hu25:=Try.underlying25
 have HR0_0:=q5.mk hr0_0
 have HC0_0:=q5.mk hc0_0
 clear hr0_0 hc0_0
 have HB:=q5.mk (Below.refl w.heap.size w)
 have H:((q59.f l0_0).bind fun bk0=>(some (bk0,a0_1)))=some (r1,r2):=h
 clear h
 replace H:=N2 H
 obtain⟨bk0,A2,H⟩:=H
 try dsimp only at H
 simp only [Option.some.injEq,Prod.mk.injEq] at H
 obtain⟨rfl,rfl⟩:=H
 go_enter Try.func59,Try.ntmps59
 go_wp2_with (first|((with_reducible refine X0 (N:=1) rfl ?_);refine L2 1 #[.slice A0_0 l0_0.length c0_0,.int .i64 a0_1] 25 ?_;intro B0 hg U1 hbox hb;have n_:=pk4 (E0 bl_ hb) (hbox) ((ge_ hg bl_:w.heap.size≤B0)) ((ge_ hg bl_:w.heap.size≤B0));clear HB;obtain⟨HB,o0,C2,F5⟩:=n_;clear hb hbox hg)|((with_reducible refine X0 (N:=2) rfl ?_);refine L2 2 #[.slice none 0 0,.int .i64 0] 25 ?_;intro S0 hg Z1 hbox hb;have n_:=pk7 (F0 (bo_ o0) hb) (E0 bl_ hb) (hbox) ((ge_ hg bl_:w.heap.size≤S0)) ((ge_ hg bl_:w.heap.size≤S0)) ((nb_ hg (bo_ o0):B0≠S0)) ((nc_ hg (bo_ o0):S0≠B0));clear o0 HB;obtain⟨o0,HB,O0,V9,W9,Q1,F1⟩:=n_;clear hb hbox hg;have V6:=Q1.out;have Z6:=F1.out;have Y2:Z1.cell? ⟨B0,0,none⟩=some (.slice A0_0 l0_0.length c0_0):=(m0 o0.out 0).trans rfl;have z3:Z1.cell? ⟨B0,1,none⟩=some (.int .i64 a0_1):=(m0 o0.out 1).trans rfl;have D3:=t0 o0.out 0;have Z2:=t0 o0.out 1)|((with_reducible refine C1 (f:=83) rfl ?_);refine goL_ (some 5) Try.func83 #[.slice A0_0 l0_0.length c0_0] ?_;(with_reducible refine(q59.calls _ _ l0_0 bk0 _ ?side1 ?side2 A2.out).mono ?_);(case side1=>exact cb_ HR0_0);(case side2=>exact HC0_0.out);rintro e F2 ⟨M4,rfl,M0,hb⟩;refine⟨_,rfl,?_⟩;have n_:=pk4 (Kd.R_lower M0 (L0 bl_)) (F0 (bo_ o0) hb) (F0 (bo_ O0) hb) (E0 bl_ hb);clear o0 O0 HB;obtain⟨C0,o0,O0,HB⟩:=n_;(try clear hb M0);obtain⟨T0,R0,S1⟩:=Kd.R_slice C0.out;subst S1;have z4:F2.cell? ⟨B0,0,none⟩=some (.slice A0_0 l0_0.length c0_0):=(m0 o0.out 0).trans rfl;have C4:F2.cell? ⟨B0,1,none⟩=some (.int .i64 a0_1):=(m0 o0.out 1).trans rfl;have j4:=t0 o0.out 0;have Z3:=t0 o0.out 1;have W8:F2.cell? ⟨S0,0,none⟩=some (.slice none 0 0):=(m0 O0.out 0).trans rfl;have j9:F2.cell? ⟨S0,1,none⟩=some (.int .i64 0):=(m0 O0.out 1).trans rfl;have d9:=t0 O0.out 0;have Y8:=t0 O0.out 1))
 refine bodyPost_ret (results_cell_row rfl _ _ S0 25 #[.slice T0 bk0.length R0,.int .i64 a0_1] (0,0) _ rfl (by(with_reducible repeat(first|refine G0 ?_ _|refine J0 ?_|refine I0 ?_ _));refine D1 (cs:=#[.slice T0 bk0.length R0,.int .i64 0]) ?_ 1 _ rfl;(with_reducible repeat(first|refine G0 ?_ _|refine J0 ?_|refine I0 ?_ _));refine D1 (cs:=#[.slice none 0 0,.int .i64 0]) ?_ 0 _ rfl;(with_reducible repeat(first|refine G0 ?_ _|refine J0 ?_|refine I0 ?_ _));refine Y0 ?_ F1.out _;exact(bo_ O0)) Try.underlying25 rfl (by kernel_rfl)) rfl ?_
 exact⟨_,rf_,(rt_ (Kd.R_mono (Kd.R_far (p:=⟨S0,1,none⟩) (Kd.R_far (p:=⟨S0,0,none⟩) (Kd.R_far (p:=⟨B0,0,none⟩) (Kd.R_types (Kd.R_types C0.out o0.out (by decide)) O0.out (by decide)) (fun _ hk=>hk.1.2) (.slice T0 bk0.length R0)) (fun _ hk=>hk.2) (.slice T0 bk0.length R0)) (fun _ hk=>hk.2) (.int .i64 a0_1)) (fun _ hk=>trivial))),bl_⟩
def q26.l0:Nat→Int→Int→List Int→Int→Option (List Int×Int)
 |0,_,_,_,_=>none
 |k+1,x1,x2,ag9,I7=>if x2>0 then(if(Int.tmod I7 8)=0 then(if ag9.length<140737488355328 then((some (ag9++[0]:List Int)).bind fun I5=>(if 0≤(wrap64 (x2 - (mn x2 (wrap64 (8 - (Int.tmod I7 8))))))then(if 0≤(wrap64 ((I5.length:Int) - 1))then(if(wrap64 ((I5.length:Int) - 1))<(I5.length:Int)then(if 0≤(wrap64 (8 - (mn x2 (wrap64 (8 - (Int.tmod I7 8))))))then(if 0≤(Int.tmod I7 8)then(q26.l0 k x1 (wrap64 (x2 - (mn x2 (wrap64 (8 - (Int.tmod I7 8)))))) (I5.set ((wrap64 ((I5.length:Int) - 1)):Int).toNat (Go.bits .or .u8 (rd I5 (wrap64 ((I5.length:Int) - 1))) (shr .u8 (shl .u8 ((shr .u64 x1 (wrap64 (x2 - (mn x2 (wrap64 (8 - (Int.tmod I7 8))))))) % 256) (wrap64 (8 - (mn x2 (wrap64 (8 - (Int.tmod I7 8))))))) (Int.tmod I7 8)))) (wrap64 (I7+(mn x2 (wrap64 (8 - (Int.tmod I7 8)))))))else(none))else(none))else(none))else(none))else(none)))else(none))else(if 0≤(wrap64 (x2 - (mn x2 (wrap64 (8 - (Int.tmod I7 8))))))then(if 0≤(wrap64 ((ag9.length:Int) - 1))then(if(wrap64 ((ag9.length:Int) - 1))<(ag9.length:Int)then(if 0≤(wrap64 (8 - (mn x2 (wrap64 (8 - (Int.tmod I7 8))))))then(if 0≤(Int.tmod I7 8)then(q26.l0 k x1 (wrap64 (x2 - (mn x2 (wrap64 (8 - (Int.tmod I7 8)))))) (ag9.set ((wrap64 ((ag9.length:Int) - 1)):Int).toNat (Go.bits .or .u8 (rd ag9 (wrap64 ((ag9.length:Int) - 1))) (shr .u8 (shl .u8 ((shr .u64 x1 (wrap64 (x2 - (mn x2 (wrap64 (8 - (Int.tmod I7 8))))))) % 256) (wrap64 (8 - (mn x2 (wrap64 (8 - (Int.tmod I7 8))))))) (Int.tmod I7 8)))) (wrap64 (I7+(mn x2 (wrap64 (8 - (Int.tmod I7 8)))))))else(none))else(none))else(none))else(none))else(none)))else(some (ag9,I7))
def q26.f (k:Nat) (l0_0:List Int) (a0_1:Int) (a1:Int) (a2:Int):Option (List Int×Int):=q26.l0 k a1 a2 l0_0 a0_1
theorem q26.mono_l:∀ k,(∀ y0 y1 y2 y3,LeO (q26.l0 k y0 y1 y2 y3) (q26.l0 (k+1) y0 y1 y2 y3))
 |0=>fun _ _ _ _ r h=>by simp [q26.l0] at h
 |k+1=>by
  have ih0:=q26.mono_l k
  ·intro y0 y1 y2 y3
   unfold q26.l0
   repeat' first
   |(with_reducible exact ih0 _ _ _ _)
   |(with_reducible exact LeO.refl _)
   |(with_reducible exact LeO.none _)
   |(with_reducible refine LeO.ite ?_ ?_)
   |(with_reducible refine LeO.bind ?_ (fun _=>?_))
   |exact ih0 _ _ _ _
   |exact LeO.none _
   |refine LeO.ite ?_ ?_
   |refine LeO.bind ?_ (fun _=>?_)
theorem q26.mono:∀ a0 a1 a2 a3 k,LeO (q26.f k a0 a1 a2 a3) (q26.f (k+1) a0 a1 a2 a3):=by
 intro a0 a1 a2 a3 k
 have ih0:=q26.mono_l k
 unfold q26.f
 repeat' first
   |(with_reducible exact ih0 _ _ _ _)
   |(with_reducible exact LeO.refl _)
   |(with_reducible exact LeO.none _)
   |(with_reducible refine LeO.ite ?_ ?_)
   |(with_reducible refine LeO.bind ?_ (fun _=>?_))
   |exact ih0 _ _ _ _
   |exact LeO.none _
   |refine LeO.ite ?_ ?_
   |refine LeO.bind ?_ (fun _=>?_)
def q26.T7:Bool×List (List Nat×List Nat):=(true,[([],[]),([0],[0]),([],[]),([2],[2]),([3],[3]),([4],[4]),([1,5],[1,5]),([6],[6]),([],[]),([],[]),([9],[9]),([8,10],[8,10]),([],[]),([11,12],[11,12]),([7,13],[7,13]),([1,5,0,1,2,3,4,5,6,7,8,9,10,11,12,13,14],[1,5]),([15,14,0,1,2,3,4,5,6,7,8,9,10,11,12,13,14],[14,15])])
def q26.B7:List Nat:=[0,1,0,4,12,28,63,127,0,0,512,1792,0,7936,16383,32767,65535]
theorem q26.tab7:rtab .any (ap1 Try.f61 7)=q26.T7:=by kernel_rfl
theorem q26.bits7:b8 q26.T7.2 q26.B7=true:=by kernel_rfl
theorem q26.calls (k:Nat) (P0_0_:Nat→Prop) (u9000_:Value) (l0_0:List Int) (a0_1:Int) (a1:Int) (a2:Int) (r1:List Int) (r2:Int) (w0 w:World) (hB:Below w0.heap.size w0 w) (ho0_0:Kd.R (Kd.int .u8) 5 w w0.heap.size P0_0_ u9000_ l0_0) (h:q26.f k l0_0 a0_1 a1 a2=some (r1,r2)) :
  Calls Try.prog 61 #[.agg #[u9000_,.int .i64 a0_1],.int .u64 a1,.int .i64 a2] w fun e w'=>∃ v0_:Value,e=.returned (.agg #[v0_,.int .i64 r2])∧Kd.R (Kd.int .u8) 5 w' w0.heap.size (fun k_=>(P0_0_ k_∨w.heap.size≤k_)) v0_ r1∧Below w0.heap.size w0 w'∧Kept w w' (fun k_=>P0_0_ k_):=by
 have hu25:=Try.underlying25
 have HO0_0:=q5.mk (show Kd.R (Kd.int .u8) 5 w w0.heap.size (fun k_=>(P0_0_ k_∨w.heap.size≤k_)) u9000_ l0_0 from Kd.R_mono ho0_0 (fun k_ hk=>(.inl hk)))
 have HK:=q5.mk (Kept.refl w (fun k_=>P0_0_ k_))
 have HW0:=q5.mk hB.size
 have HB:=q5.mk hB
 clear hB
 have H:(q26.l0 k a1 a2 l0_0 a0_1)=some (r1,r2):=h
 clear h
 have H':=q5.mk H
 clear H
 obtain⟨Ao4,co4,eo4⟩:=Kd.R_slice HO0_0.out
 subst eo4
 go_enter Try.func61,Try.ntmps61
 go_wp2_with (first|((with_reducible refine X0 (N:=3) rfl ?_);refine L2 3 #[.slice Ao4 l0_0.length co4,.int .i64 a0_1] 25 ?_;intro aa1 hg w5 hbox hb;have n_:=pk6 (Kd.R_below (ro_ HO0_0) hb) (Kept.below (S:=(fun k_=>P0_0_ k_)) (by repeat(first|(with_reducible first|exact HK.out|apply Kept.alloc|apply Kept.drewN|apply Kept.drew)|exact HK.out)) hb) (E0 bl_ hb) (hbox) ((by rw [hg];exact(by first|exact HK.out.1|exact(show Kept w _ (fun k_=>P0_0_ k_) from by repeat(first|(with_reducible first|exact HK.out|apply Kept.alloc|apply Kept.drewN|apply Kept.drew)|exact HK.out)).1):w.heap.size≤aa1)) ((ge_ hg bl_:w0.heap.size≤aa1));clear HO0_0 HK HB;obtain⟨HO0_0,HK,HB,P5,ay8,cE2⟩:=n_;clear hb hbox hg)|((with_reducible refine X0 (N:=6) rfl ?_);refine L2 6 #[.slice none 0 0,.int .i64 0] 25 ?_;intro az3 hg w6 hbox hb;have n_:=pk9 (Kd.R_below (ro_ HO0_0) hb) (F0 (bo_ P5) hb) (Kept.below (S:=(fun k_=>P0_0_ k_)) (by repeat(first|(with_reducible first|exact HK.out|apply Kept.alloc|apply Kept.drewN|apply Kept.drew|refine Kept.setCell ?_ (.inr ay8.out) _)|exact HK.out)) hb) (E0 bl_ hb) (hbox) ((by rw [hg];exact(by first|exact HK.out.1|exact(show Kept w _ (fun k_=>P0_0_ k_) from by repeat(first|(with_reducible first|exact HK.out|apply Kept.alloc|apply Kept.drewN|apply Kept.drew|refine Kept.setCell ?_ (.inr ay8.out) _)|exact HK.out)).1):w.heap.size≤az3)) ((ge_ hg bl_:w0.heap.size≤az3)) ((nb_ hg (bo_ P5):aa1≠az3)) ((nc_ hg (bo_ P5):az3≠aa1));clear HO0_0 P5 HK HB;obtain⟨HO0_0,P5,HK,HB,g8,aL2,cD0,aN6,al3⟩:=n_;clear hb hbox hg))
 go_frame
 go_loopg [2] k (fun kq v2 w'=>∃ (x2_1:Int) (Y1:List Int) (I1:Int) (u117000:Value),v2=.int .i64 x2_1∧q5 (q26.l0 kq a1 x2_1 Y1 I1=some (r1,r2))∧q5 (kq≤k)∧q5 (Kd.R (Kd.int .u8) 5 w' w0.heap.size (fun k_=>(P0_0_ k_∨w.heap.size≤k_)) u117000 Y1)∧q5 (w'.heap[aa1]?=some (.cells #[u117000,.int .i64 I1] 25 (0,0)))∧q5 (w'.heap[az3]?=some (.cells #[(.slice none 0 0),.int .i64 0] 25 (0,0)))∧q5 (Kept w w' (fun k_=>P0_0_ k_))∧q5 (Below w0.heap.size w0 w'))
 case atStart=>exact⟨(a2),(l0_0),(a0_1),(.slice Ao4 l0_0.length co4),sm_,H',⟨Nat.le_refl _⟩,⟨(ro_ HO0_0)⟩,⟨(bo_ P5)⟩,⟨(bo_ g8)⟩,⟨by repeat(first|(with_reducible first|exact HK.out|apply Kept.alloc|apply Kept.drewN|apply Kept.drew|refine Kept.setCell ?_ (.inr ay8.out) _|refine Kept.setCell ?_ (.inr aL2.out) _)|exact HK.out)⟩,⟨bl_⟩⟩
 case round =>
  clear H'
  obtain⟨x2_1,Y1,I1,u117000,rfl,HA,HK1,HO_117000,P5,g8,HK,HB⟩:=hrel
  cases gk with
  |zero=>exact absurd HA.out (by simp [q26.l0])
  |succ k1 =>
   have H:=HA.out
   clear HA
   simp only [q26.l0] at H
   replace H:=dgt H
   rcases H with⟨c7b0,H⟩|⟨c7b0,H⟩
   focus
    replace H:=deqn H
    rcases H with⟨c8b0,c8b1,H⟩|⟨c8b0,c8b1,c8,H⟩
    focus
     by_cases c9:Y1.length<140737488355328
     rotate_left
     ·rw [if_neg c9] at H
      exact absurd H (by simp)
     rw [if_pos c9] at H
     have LMc9:=q5.mk c9
     clear c9
     obtain⟨I5,bz0⟩:∃ y_:List Int,y_=(Y1++[0]):=⟨_,rfl⟩
     replace H:(if 0≤(wrap64 (x2_1 - (mn x2_1 (wrap64 (8 - (Int.tmod I1 8))))))then(if 0≤(wrap64 ((I5.length:Int) - 1))then(if(wrap64 ((I5.length:Int) - 1))<(I5.length:Int)then(if 0≤(wrap64 (8 - (mn x2_1 (wrap64 (8 - (Int.tmod I1 8))))))then(if 0≤(Int.tmod I1 8)then(q26.l0 k1 a1 (wrap64 (x2_1 - (mn x2_1 (wrap64 (8 - (Int.tmod I1 8)))))) (I5.set ((wrap64 ((I5.length:Int) - 1)):Int).toNat (Go.bits .or .u8 (rd I5 (wrap64 ((I5.length:Int) - 1))) (shr .u8 (shl .u8 ((shr .u64 a1 (wrap64 (x2_1 - (mn x2_1 (wrap64 (8 - (Int.tmod I1 8))))))) % 256) (wrap64 (8 - (mn x2_1 (wrap64 (8 - (Int.tmod I1 8))))))) (Int.tmod I1 8)))) (wrap64 (I1+(mn x2_1 (wrap64 (8 - (Int.tmod I1 8)))))))else(none))else(none))else(none))else(none))else(none))=some (r1,r2):=by first|(rw [bz0];with_reducible exact H)|(have H2_:=(Option.bind_some _ _).symm.trans H;rw [bz0];with_reducible exact H2_)|(have H2_:=(Option.bind_some _ _).symm.trans H;with_reducible exact H2_)|with_reducible exact H|(rw [bz0];exact H)|exact H
     have cW3:=q5.mk bz0
     clear bz0
     obtain⟨ji10,hji10⟩:∃ j_:Int,(mn x2_1 (wrap64 (8 - (Int.tmod I1 8))))=j_:=⟨_,rfl⟩
     replace H:(if 0≤(wrap64 (x2_1 - (ji10)))then(if 0≤(wrap64 ((I5.length:Int) - 1))then(if(wrap64 ((I5.length:Int) - 1))<(I5.length:Int)then(if 0≤(wrap64 (8 - (ji10)))then(if 0≤(Int.tmod I1 8)then(q26.l0 k1 a1 (wrap64 (x2_1 - (ji10))) (I5.set ((wrap64 ((I5.length:Int) - 1)):Int).toNat (Go.bits .or .u8 (rd I5 (wrap64 ((I5.length:Int) - 1))) (shr .u8 (shl .u8 ((shr .u64 a1 (wrap64 (x2_1 - (ji10)))) % 256) (wrap64 (8 - (ji10)))) (Int.tmod I1 8)))) (wrap64 (I1+(ji10))))else(none))else(none))else(none))else(none))else(none))=some (r1,r2):=by first|(rw [hji10] at H;exact H)|(simp only [hji10] at H ⊢;exact H)
     have hji10_:(if(wrap64 (8 - (Int.tmod I1 8)))<x2_1 then(wrap64 (8 - (Int.tmod I1 8)))else x2_1)=ji10:=hji10
     obtain⟨ji11,hji11⟩:∃ j_:Int,(wrap64 (x2_1 - (ji10)))=j_:=⟨_,rfl⟩
     replace H:(if 0≤(ji11)then(if 0≤(wrap64 ((I5.length:Int) - 1))then(if(wrap64 ((I5.length:Int) - 1))<(I5.length:Int)then(if 0≤(wrap64 (8 - (ji10)))then(if 0≤(Int.tmod I1 8)then(q26.l0 k1 a1 ji11 (I5.set ((wrap64 ((I5.length:Int) - 1)):Int).toNat (Go.bits .or .u8 (rd I5 (wrap64 ((I5.length:Int) - 1))) (shr .u8 (shl .u8 ((shr .u64 a1 (ji11)) % 256) (wrap64 (8 - (ji10)))) (Int.tmod I1 8)))) (wrap64 (I1+(ji10))))else(none))else(none))else(none))else(none))else(none))=some (r1,r2):=by first|(rw [hji11] at H;exact H)|(simp only [hji11] at H ⊢;exact H)
     have hji11w:(IntKind.i64.wrap (x2_1 - (ji10)))=ji11:=(N0 _).trans hji11
     by_cases c12:0≤(ji11)
     rotate_left
     ·rw [if_neg c12] at H
      exact absurd H (by simp)
     rw [if_pos c12] at H
     have c12b0:=eq_true c12
     have c12b1:decide (0≤(ji11))=true:=decide_eq_true c12
     clear c12
     obtain⟨ji13,hji13⟩:∃ j_:Int,(shr .u64 a1 (ji11))=j_:=⟨_,rfl⟩
     replace H:(if 0≤(wrap64 ((I5.length:Int) - 1))then(if(wrap64 ((I5.length:Int) - 1))<(I5.length:Int)then(if 0≤(wrap64 (8 - (ji10)))then(if 0≤(Int.tmod I1 8)then(q26.l0 k1 a1 ji11 (I5.set ((wrap64 ((I5.length:Int) - 1)):Int).toNat (Go.bits .or .u8 (rd I5 (wrap64 ((I5.length:Int) - 1))) (shr .u8 (shl .u8 ((ji13) % 256) (wrap64 (8 - (ji10)))) (Int.tmod I1 8)))) (wrap64 (I1+(ji10))))else(none))else(none))else(none))else(none))=some (r1,r2):=by first|(rw [hji13] at H;exact H)|(simp only [hji13] at H ⊢;exact H)
     have hji13_:(a1 / 2 ^ min (ji11).toNat 64)=ji13:=hji13
     have hji13z:(ji11)≤64→(a1 / 2 ^ (ji11).toNat)=ji13:=af8 hji13
     obtain⟨ji14,hji14⟩:∃ j_:Int,(wrap64 ((I5.length:Int) - 1))=j_:=⟨_,rfl⟩
     replace H:(if 0≤(ji14)then(if(ji14)<(I5.length:Int)then(if 0≤(wrap64 (8 - (ji10)))then(if 0≤(Int.tmod I1 8)then(q26.l0 k1 a1 ji11 (I5.set ((ji14):Int).toNat (Go.bits .or .u8 (rd I5 (ji14)) (shr .u8 (shl .u8 ((ji13) % 256) (wrap64 (8 - (ji10)))) (Int.tmod I1 8)))) (wrap64 (I1+(ji10))))else(none))else(none))else(none))else(none))=some (r1,r2):=by first|(rw [hji14] at H;exact H)|(simp only [hji14] at H ⊢;exact H)
     have hji14w:(IntKind.i64.wrap ((I5.length:Int) - 1))=ji14:=(N0 _).trans hji14
     replace H:=dle H
     rcases H with⟨c15b0,H⟩|⟨c15b0,H⟩
     rotate_left
     ·exact absurd H (by simp)
     replace H:=dle H
     rcases H with⟨c16b0,H⟩|⟨c16b0,H⟩
     rotate_left
     ·exact absurd H (by simp)
     obtain⟨ji17,hji17⟩:∃ j_:Int,(wrap64 (8 - (ji10)))=j_:=⟨_,rfl⟩
     replace H:(if 0≤(ji17)then(if 0≤(Int.tmod I1 8)then(q26.l0 k1 a1 ji11 (I5.set ((ji14):Int).toNat (Go.bits .or .u8 (rd I5 (ji14)) (shr .u8 (shl .u8 ((ji13) % 256) (ji17)) (Int.tmod I1 8)))) (wrap64 (I1+(ji10))))else(none))else(none))=some (r1,r2):=by first|(rw [hji17] at H;exact H)|(simp only [hji17] at H ⊢;exact H)
     have hji17w:(IntKind.i64.wrap (8 - (ji10)))=ji17:=(N0 _).trans hji17
     by_cases c18:0≤(ji17)
     rotate_left
     ·rw [if_neg c18] at H
      exact absurd H (by simp)
     rw [if_pos c18] at H
     have c18b0:=eq_true c18
     have c18b1:decide (0≤(ji17))=true:=decide_eq_true c18
     clear c18
     obtain⟨ji19,hji19⟩:∃ j_:Int,(shl .u8 ((ji13) % 256) (ji17))=j_:=⟨_,rfl⟩
     replace H:(if 0≤(Int.tmod I1 8)then(q26.l0 k1 a1 ji11 (I5.set ((ji14):Int).toNat (Go.bits .or .u8 (rd I5 (ji14)) (shr .u8 (ji19) (Int.tmod I1 8)))) (wrap64 (I1+(ji10))))else(none))=some (r1,r2):=by first|(rw [hji19] at H;exact H)|(simp only [hji19] at H ⊢;exact H)
     have hji19_:(IntKind.u8.wrap (((ji13) % 256)*2 ^ min (ji17).toNat 8))=ji19:=hji19
     have hji19z:(ji17)≤8→(IntKind.u8.wrap (((ji13) % 256)*2 ^ (ji17).toNat))=ji19:=ad0 hji19
     obtain⟨ji20,hji20⟩:∃ j_:Int,(Int.tmod I1 8)=j_:=⟨_,rfl⟩
     (try rw [hji20] at hji10_)
     replace H:(if 0≤(ji20)then(q26.l0 k1 a1 ji11 (I5.set ((ji14):Int).toNat (Go.bits .or .u8 (rd I5 (ji14)) (shr .u8 (ji19) (ji20)))) (wrap64 (I1+(ji10))))else(none))=some (r1,r2):=by first|(rw [hji20] at H;exact H)|(simp only [hji20] at H ⊢;exact H)
     (try rw [hji20] at c8b0)
     (try rw [hji20] at c8b1)
     by_cases c21:0≤(ji20)
     rotate_left
     ·rw [if_neg c21] at H
      exact absurd H (by simp)
     rw [if_pos c21] at H
     have c21b0:=eq_true c21
     have c21b1:decide (0≤(ji20))=true:=decide_eq_true c21
     clear c21
     obtain⟨ji22,hji22⟩:∃ j_:Int,(shr .u8 (ji19) (ji20))=j_:=⟨_,rfl⟩
     replace H:(q26.l0 k1 a1 ji11 (I5.set ((ji14):Int).toNat (Go.bits .or .u8 (rd I5 (ji14)) (ji22))) (wrap64 (I1+(ji10))))=some (r1,r2):=by first|(rw [hji22] at H;exact H)|(simp only [hji22] at H ⊢;exact H)
     have hji22_:((ji19) / 2 ^ min (ji20).toNat 8)=ji22:=hji22
     have hji22z:(ji20)≤8→((ji19) / 2 ^ (ji20).toNat)=ji22:=af8 hji22
     obtain⟨cI5,bC6⟩:∃ y_:List Int,y_=(I5.set ((ji14):Int).toNat (Go.bits .or .u8 (rd I5 (ji14)) (ji22))):=⟨_,rfl⟩
     replace H:(q26.l0 k1 a1 ji11 cI5 (wrap64 (I1+(ji10))))=some (r1,r2):=by first|(rw [bC6];with_reducible exact H)|(have H2_:=(Option.bind_some _ _).symm.trans H;rw [bC6];with_reducible exact H2_)|(have H2_:=(Option.bind_some _ _).symm.trans H;with_reducible exact H2_)|with_reducible exact H|(rw [bC6];exact H)|exact H
     have de8:=q5.mk bC6
     clear bC6
     have H':=q5.mk H
     clear H
     have hnb24:=aN6.out
     have hnc24:=al3.out
     obtain⟨hcz25_0,hcz25_1,hfz25_0,hfz25_1⟩:=N4 P5.out
    rotate_left
    focus
     obtain⟨ji34,hji34⟩:∃ j_:Int,(mn x2_1 (wrap64 (8 - (Int.tmod I1 8))))=j_:=⟨_,rfl⟩
     replace H:(if 0≤(wrap64 (x2_1 - (ji34)))then(if 0≤(wrap64 ((Y1.length:Int) - 1))then(if(wrap64 ((Y1.length:Int) - 1))<(Y1.length:Int)then(if 0≤(wrap64 (8 - (ji34)))then(if 0≤(Int.tmod I1 8)then(q26.l0 k1 a1 (wrap64 (x2_1 - (ji34))) (Y1.set ((wrap64 ((Y1.length:Int) - 1)):Int).toNat (Go.bits .or .u8 (rd Y1 (wrap64 ((Y1.length:Int) - 1))) (shr .u8 (shl .u8 ((shr .u64 a1 (wrap64 (x2_1 - (ji34)))) % 256) (wrap64 (8 - (ji34)))) (Int.tmod I1 8)))) (wrap64 (I1+(ji34))))else(none))else(none))else(none))else(none))else(none))=some (r1,r2):=by first|(rw [hji34] at H;exact H)|(simp only [hji34] at H ⊢;exact H)
     have hji34_:(if(wrap64 (8 - (Int.tmod I1 8)))<x2_1 then(wrap64 (8 - (Int.tmod I1 8)))else x2_1)=ji34:=hji34
     obtain⟨ji35,hji35⟩:∃ j_:Int,(wrap64 (x2_1 - (ji34)))=j_:=⟨_,rfl⟩
     replace H:(if 0≤(ji35)then(if 0≤(wrap64 ((Y1.length:Int) - 1))then(if(wrap64 ((Y1.length:Int) - 1))<(Y1.length:Int)then(if 0≤(wrap64 (8 - (ji34)))then(if 0≤(Int.tmod I1 8)then(q26.l0 k1 a1 ji35 (Y1.set ((wrap64 ((Y1.length:Int) - 1)):Int).toNat (Go.bits .or .u8 (rd Y1 (wrap64 ((Y1.length:Int) - 1))) (shr .u8 (shl .u8 ((shr .u64 a1 (ji35)) % 256) (wrap64 (8 - (ji34)))) (Int.tmod I1 8)))) (wrap64 (I1+(ji34))))else(none))else(none))else(none))else(none))else(none))=some (r1,r2):=by first|(rw [hji35] at H;exact H)|(simp only [hji35] at H ⊢;exact H)
     have hji35w:(IntKind.i64.wrap (x2_1 - (ji34)))=ji35:=(N0 _).trans hji35
     by_cases c36:0≤(ji35)
     rotate_left
     ·rw [if_neg c36] at H
      exact absurd H (by simp)
     rw [if_pos c36] at H
     have c36b0:=eq_true c36
     have c36b1:decide (0≤(ji35))=true:=decide_eq_true c36
     clear c36
     obtain⟨ji37,hji37⟩:∃ j_:Int,(shr .u64 a1 (ji35))=j_:=⟨_,rfl⟩
     replace H:(if 0≤(wrap64 ((Y1.length:Int) - 1))then(if(wrap64 ((Y1.length:Int) - 1))<(Y1.length:Int)then(if 0≤(wrap64 (8 - (ji34)))then(if 0≤(Int.tmod I1 8)then(q26.l0 k1 a1 ji35 (Y1.set ((wrap64 ((Y1.length:Int) - 1)):Int).toNat (Go.bits .or .u8 (rd Y1 (wrap64 ((Y1.length:Int) - 1))) (shr .u8 (shl .u8 ((ji37) % 256) (wrap64 (8 - (ji34)))) (Int.tmod I1 8)))) (wrap64 (I1+(ji34))))else(none))else(none))else(none))else(none))=some (r1,r2):=by first|(rw [hji37] at H;exact H)|(simp only [hji37] at H ⊢;exact H)
     have hji37_:(a1 / 2 ^ min (ji35).toNat 64)=ji37:=hji37
     have hji37z:(ji35)≤64→(a1 / 2 ^ (ji35).toNat)=ji37:=af8 hji37
     obtain⟨ji38,hji38⟩:∃ j_:Int,(wrap64 ((Y1.length:Int) - 1))=j_:=⟨_,rfl⟩
     replace H:(if 0≤(ji38)then(if(ji38)<(Y1.length:Int)then(if 0≤(wrap64 (8 - (ji34)))then(if 0≤(Int.tmod I1 8)then(q26.l0 k1 a1 ji35 (Y1.set ((ji38):Int).toNat (Go.bits .or .u8 (rd Y1 (ji38)) (shr .u8 (shl .u8 ((ji37) % 256) (wrap64 (8 - (ji34)))) (Int.tmod I1 8)))) (wrap64 (I1+(ji34))))else(none))else(none))else(none))else(none))=some (r1,r2):=by first|(rw [hji38] at H;exact H)|(simp only [hji38] at H ⊢;exact H)
     have hji38w:(IntKind.i64.wrap ((Y1.length:Int) - 1))=ji38:=(N0 _).trans hji38
     replace H:=dle H
     rcases H with⟨c39b0,H⟩|⟨c39b0,H⟩
     rotate_left
     ·exact absurd H (by simp)
     replace H:=dle H
     rcases H with⟨c40b0,H⟩|⟨c40b0,H⟩
     rotate_left
     ·exact absurd H (by simp)
     obtain⟨ji41,hji41⟩:∃ j_:Int,(wrap64 (8 - (ji34)))=j_:=⟨_,rfl⟩
     replace H:(if 0≤(ji41)then(if 0≤(Int.tmod I1 8)then(q26.l0 k1 a1 ji35 (Y1.set ((ji38):Int).toNat (Go.bits .or .u8 (rd Y1 (ji38)) (shr .u8 (shl .u8 ((ji37) % 256) (ji41)) (Int.tmod I1 8)))) (wrap64 (I1+(ji34))))else(none))else(none))=some (r1,r2):=by first|(rw [hji41] at H;exact H)|(simp only [hji41] at H ⊢;exact H)
     have hji41w:(IntKind.i64.wrap (8 - (ji34)))=ji41:=(N0 _).trans hji41
     by_cases c42:0≤(ji41)
     rotate_left
     ·rw [if_neg c42] at H
      exact absurd H (by simp)
     rw [if_pos c42] at H
     have c42b0:=eq_true c42
     have c42b1:decide (0≤(ji41))=true:=decide_eq_true c42
     clear c42
     obtain⟨ji43,hji43⟩:∃ j_:Int,(shl .u8 ((ji37) % 256) (ji41))=j_:=⟨_,rfl⟩
     replace H:(if 0≤(Int.tmod I1 8)then(q26.l0 k1 a1 ji35 (Y1.set ((ji38):Int).toNat (Go.bits .or .u8 (rd Y1 (ji38)) (shr .u8 (ji43) (Int.tmod I1 8)))) (wrap64 (I1+(ji34))))else(none))=some (r1,r2):=by first|(rw [hji43] at H;exact H)|(simp only [hji43] at H ⊢;exact H)
     have hji43_:(IntKind.u8.wrap (((ji37) % 256)*2 ^ min (ji41).toNat 8))=ji43:=hji43
     have hji43z:(ji41)≤8→(IntKind.u8.wrap (((ji37) % 256)*2 ^ (ji41).toNat))=ji43:=ad0 hji43
     obtain⟨ji44,hji44⟩:∃ j_:Int,(Int.tmod I1 8)=j_:=⟨_,rfl⟩
     (try rw [hji44] at hji34_)
     replace H:(if 0≤(ji44)then(q26.l0 k1 a1 ji35 (Y1.set ((ji38):Int).toNat (Go.bits .or .u8 (rd Y1 (ji38)) (shr .u8 (ji43) (ji44)))) (wrap64 (I1+(ji34))))else(none))=some (r1,r2):=by first|(rw [hji44] at H;exact H)|(simp only [hji44] at H ⊢;exact H)
     (try rw [hji44] at c8b0)
     (try rw [hji44] at c8b1)
     by_cases c45:0≤(ji44)
     rotate_left
     ·rw [if_neg c45] at H
      exact absurd H (by simp)
     rw [if_pos c45] at H
     have c45b0:=eq_true c45
     have c45b1:decide (0≤(ji44))=true:=decide_eq_true c45
     clear c45
     obtain⟨ji46,hji46⟩:∃ j_:Int,(shr .u8 (ji43) (ji44))=j_:=⟨_,rfl⟩
     replace H:(q26.l0 k1 a1 ji35 (Y1.set ((ji38):Int).toNat (Go.bits .or .u8 (rd Y1 (ji38)) (ji46))) (wrap64 (I1+(ji34))))=some (r1,r2):=by first|(rw [hji46] at H;exact H)|(simp only [hji46] at H ⊢;exact H)
     have hji46_:((ji43) / 2 ^ min (ji44).toNat 8)=ji46:=hji46
     have hji46z:(ji44)≤8→((ji43) / 2 ^ (ji44).toNat)=ji46:=af8 hji46
     obtain⟨cM3,bE7⟩:∃ y_:List Int,y_=(Y1.set ((ji38):Int).toNat (Go.bits .or .u8 (rd Y1 (ji38)) (ji46))):=⟨_,rfl⟩
     replace H:(q26.l0 k1 a1 ji35 cM3 (wrap64 (I1+(ji34))))=some (r1,r2):=by first|(rw [bE7];with_reducible exact H)|(have H2_:=(Option.bind_some _ _).symm.trans H;rw [bE7];with_reducible exact H2_)|(have H2_:=(Option.bind_some _ _).symm.trans H;with_reducible exact H2_)|with_reducible exact H|(rw [bE7];exact H)|exact H
     have da7:=q5.mk bE7
     clear bE7
     have H':=q5.mk H
     clear H
     have hnb48:=aN6.out
     have hnc48:=al3.out
     obtain⟨hcz49_0,hcz49_1,hfz49_0,hfz49_1⟩:=N4 P5.out
   rotate_left 2
   focus
    simp only [Option.some.injEq,Prod.mk.injEq] at H
    obtain⟨rfl,rfl⟩:=H
    have hnb55:=aN6.out
    have hnc55:=al3.out
    obtain⟨hcz56_0,hcz56_1,hfz56_0,hfz56_1⟩:=N4 P5.out
    obtain⟨Ao57,co57,eo57⟩:=Kd.R_slice HO_117000.out
    subst eo57
    obtain⟨hcz58_0,hcz58_1,hfz58_0,hfz58_1⟩:=N4 g8.out
   all_goals
    first
     |try go_wp2_with (first|((with_reducible refine G1 (b:=.append) (xs:=#[.tmp 18,.tmp 19]) rfl ?_);at_builtin;refine Kd.R_append (Kd.int .u8) (w0:=w0) w0.heap.size rfl (.tmp 18) (.tmp 19) 23 5 (.int .u8 0) 1 rfl Try.underlying23 cs3 rfl (by decide) (by omega) u117000 Y1 0 [.int .u8 0] (fun k_=>(P0_0_ k_∨w.heap.size≤k_)) (fun _=>False) rfl rfl ?aP (fun _ hk=>hk.elim) ?aF ?aO ?aB ?aS ?aL ?_;(case aP=>exact rfl);(case aB=>exact bl_);(case aF=>exact(fun k_ hk=>(.inr (Nat.le_trans (by first|exact HK.out.1|exact(show Kept w _ (fun k_=>P0_0_ k_) from by repeat(first|(with_reducible first|exact HK.out|apply Kept.alloc|apply Kept.drewN|apply Kept.drew|refine Kept.setCell ?_ (.inr ay8.out) _|refine Kept.setCell ?_ (.inr aL2.out) _)|exact HK.out)).1) hk))));(case aO=>exact(ro_ HO_117000));(case aS=>exact(L0 bl_));(case aL=>have:=LMc9.out;omega);intro M4 U1 ho hb hg hat;rw [←cW3.out] at ho;have n_:=pk5 (D5 (bo_ P5) hg (Kd.R_ne HO_117000.out P5.out (by decide))) (D5 (bo_ g8) hg (Kd.R_ne HO_117000.out g8.out (by decide))) (hb) (Kept.of_grown (S:=(fun k_=>P0_0_ k_)) hg (by repeat(first|(with_reducible first|exact HK.out|apply Kept.alloc|apply Kept.drewN|apply Kept.drew|refine Kept.setCell ?_ (.inr ay8.out) _|refine Kept.setCell ?_ (.inr aL2.out) _)|exact HK.out)) (fun k_ e_=>(HO_117000.out.1 k_ e_))) (ho);clear P5 g8 HB HK HO_117000;obtain⟨P5,g8,HB,HK,C0⟩:=n_;clear ho hb hg hat;obtain⟨T0,R0,S1⟩:=Kd.R_slice C0.out;subst S1;have Y2:U1.cell? ⟨aa1,0,none⟩=some (u117000):=(m0 P5.out 0).trans rfl;have z3:U1.cell? ⟨aa1,1,none⟩=some (.int .i64 I1):=(m0 P5.out 1).trans rfl;have D3:=t0 P5.out 0;have Z2:=t0 P5.out 1))
      first
       |have n7000_:q5 (Kd.R (Kd.int .u8) 5 (U1.setCell ⟨aa1,0,none⟩ (.slice T0 I5.length R0)) w0.heap.size (fun k_=>(P0_0_ k_∨w.heap.size≤k_)) (.slice T0 I5.length R0) I5):=⟨(rt_ (Kd.R_mono (Kd.R_far (p:=⟨aa1,0,none⟩) (Kd.R_types C0.out P5.out (by decide)) (fun _ hk=>hk.2) (.slice T0 I5.length R0)) (fun _ hk=>hk.1)))⟩
        have n7001_:q5 ((U1.setCell ⟨aa1,0,none⟩ (.slice T0 I5.length R0)).heap[aa1]?=some (.cells #[.slice T0 I5.length R0,.int .i64 I1] 25 (0,0))):=⟨by(with_reducible repeat(first|refine G0 ?_ _|refine J0 ?_|refine I0 ?_ _));refine D1 (cs:=#[u117000,.int .i64 I1]) ?_ 0 _ rfl;exact(bo_ P5)⟩
        have n7002_:q5 ((U1.setCell ⟨aa1,0,none⟩ (.slice T0 I5.length R0)).heap[az3]?=some (.cells #[.slice none 0 0,.int .i64 0] 25 (0,0))):=⟨by(with_reducible repeat(first|refine G0 ?_ _|refine J0 ?_|refine I0 ?_ _));refine Y0 ?_ al3.out _;exact(bo_ g8)⟩
        have n7003_:q5 (Kept w (U1.setCell ⟨aa1,0,none⟩ (.slice T0 I5.length R0)) (fun k_=>P0_0_ k_)):=⟨by repeat(first|(with_reducible first|exact HK.out|apply Kept.alloc|apply Kept.drewN|apply Kept.drew|refine Kept.setCell ?_ (.inr ay8.out) _|refine Kept.setCell ?_ (.inr aL2.out) _)|exact HK.out)⟩
        have n7004_:q5 (Below w0.heap.size w0 (U1.setCell ⟨aa1,0,none⟩ (.slice T0 I5.length R0))):=⟨bl_⟩
        (try clear C0)
        (try clear P5)
        (try clear g8)
        (try clear HK)
        (try clear HB)
        generalize (U1.setCell ⟨aa1,0,none⟩ (.slice T0 I5.length R0))=Z1 at n7000_ n7001_ n7002_ n7003_ n7004_ ⊢
        have C0:=n7000_
        have P5:=n7001_
        have g8:=n7002_
        have HK:=n7003_
        have HB:=n7004_
        clear n7000_ n7001_ n7002_ n7003_ n7004_
        have n_:=pk5 (Kd.R_drew C0.out) (J0 P5.out) (J0 g8.out) (Kept.drew HK.out) (N1 HB.out)
        clear C0 P5 g8 HK HB
        obtain⟨C0,P5,g8,HK,HB⟩:=n_
        have F3:0≤((ji14):Int):=dc_
        have I3:(ji14)<(I5.length:Int):=dc_
        obtain⟨J1,E6,Z0⟩:=Kd.at_int (Kd.R_reads' C0.out).2.2 (ji14) F3 I3
        cases E6
        replace F3:=eq_true F3
        replace I3:=eq_true I3
        have V7:0≤((ji14):Int):=dc_
        have U7:((ji14):Int)<((I5.length:Int):Int):=dc_
        obtain⟨b7,V1,U2,B0,bH5,cO9,bb4⟩:=Kd.R_form C0.out (by omega)
        (first|cases U2|(injection U2 with ea_ en_ ec_;(first|subst ea_|(injection ea_ with ea_;subst ea_));subst ec_;clear en_))
        have aH8:=q5.mk B0
        have aZ8:=q5.mk bb4
        clear B0 bH5 bb4
        have HMgo7000:=q5.mk (show(P0_0_ b7∨w.heap.size≤b7) from (C0.out.1 _ rfl))
        (first|simp only [ag0] at Z0|skip)
        obtain⟨M3,aw3⟩:=Kd.R_celln 0 C0.out ((ji14):Int) V7 U7
        replace V7:=eq_true V7
        replace U7:=eq_true U7
        have ac4:=Kd.R_putn C0.out ((ji14):Int) (Go.bits .or .u8 (rd I5 (ji14)) (ji22))
        rw [←de8.out] at ac4
        have aU8:=q5.mk ac4
        clear ac4
        refine b9 (n:=17) (S:=fun w'=>w'.cell? ⟨aa1,0,none⟩=some (.slice (some ⟨b7,0,none⟩) I5.length R0)∧w'.cell? ⟨aa1,1,none⟩=some (.int .i64 I1)∧w'.cell? ⟨b7,((ji14)).toNat,none⟩=some (.int .u8 (rd I5 (ji14)))) (ds:=[16]) bE3 (by kernel_rfl) rfl rfl ⟨(m0 P5.out 0).trans rfl,(m0 P5.out 1).trans rfl,Z0⟩ (fun hHeld=>?_);refine b6 q26.tab7 q26.bits7 (fun HT_ HW_=>?_)
        generalize Z1.drew=F2 at C0 P5 g8 HK HB aZ8 aU8 aw3 Z0 M3 hHeld ⊢
        refine z1 (i:=0) (N:=some 32) (v:=?_) (a':=?_) bx8 rfl rfl (V0 HT_.out (by kernel_rfl)) (fun _ _ _ h=>h) (Or.inl ⟨by rfl,?_⟩) ?_ ?_
        rotate_left
        ·intro w'
         go_simp
         with_reducible rfl
        rotate_left
        ·simp only [ap_,sb_,s0_,s1_,N0,P0]
         rfl
        refine z1 (i:=2) (N:=some 34) (v:=?_) (a':=?_) bt4 rfl rfl (V0 HT_.out (by kernel_rfl)) (fun _ _ _ h=>h) (Or.inl ⟨by rfl,?_⟩) ?_ ?_
        rotate_left
        ·intro w'
         go_simp
         with_reducible rfl
        rotate_left
        ·simp only [ap_,sb_,s0_,s1_,N0,P0]
         rfl
        refine z1 (i:=8) (N:=some 40) (v:=?_) (a':=?_) aW6 rfl rfl (V0 HT_.out (by kernel_rfl)) (fun _ _ _ h=>h) (Or.inl ⟨by rfl,?_⟩) ?_ ?_
        rotate_left
        ·intro w'
         go_simp
         with_reducible rfl
        rotate_left
        ·simp only [ap_,sb_,s0_,s1_,N0,P0]
         rfl
        refine z1 (i:=9) (N:=some 41) (v:=?_) (a':=?_) aV9 rfl rfl (V0 HT_.out (by kernel_rfl)) (fun _ _ _ h=>h) (Or.inl ⟨by rfl,?_⟩) ?_ ?_
        rotate_left
        ·intro w'
         go_simp
         with_reducible rfl
        rotate_left
        ·simp only [ap_,sb_,s0_,s1_,N0,P0]
         rfl
        refine z1 (i:=10) (N:=some 42) (v:=?_) (a':=?_) aP6 rfl rfl (V0 HT_.out (by kernel_rfl)) (fun _ _ _ h=>h) (Or.inl ⟨by rfl,?_⟩) ?_ ?_
        rotate_left
        ·intro w'
         go_simp
         with_reducible rfl
        rotate_left
        ·simp only [ap_,sb_,s0_,s1_,N0,P0]
         rfl
        refine z1 (i:=11) (N:=some 43) (v:=?_) (a':=?_) aR8 rfl rfl (V0 HT_.out (by kernel_rfl)) (fun _ _ _ h=>h) (Or.inl ⟨by rfl,?_⟩) ?_ ?_
        rotate_left
        ·intro w'
         go_simp
         with_reducible rfl
        rotate_left
        ·simp only [ap_,sb_,s0_,s1_,N0,P0]
         rfl
        refine z1 (i:=12) (N:=some 44) (v:=?_) (a':=?_) aQ5 rfl rfl (V0 HT_.out (by kernel_rfl)) (fun _ _ _ h=>h) (Or.inl ⟨by rfl,?_⟩) ?_ ?_
        rotate_left
        ·intro w'
         go_simp
         with_reducible rfl
        rotate_left
        ·simp only [ap_,sb_,s0_,s1_,N0,P0]
         rfl
        refine z1 (i:=13) (N:=some 45) (v:=?_) (a':=?_) aM4 rfl rfl (V0 HT_.out (by kernel_rfl)) (fun _ _ _ h=>h) (Or.inl ⟨by rfl,?_⟩) ?_ ?_
        rotate_left
        ·intro w'
         go_simp
         with_reducible rfl
        rotate_left
        ·simp only [ap_,sb_,s0_,s1_,N0,P0]
         rfl
        refine take_ (i:=1) (N:=some 33) (v:=?_) (a':=?_) aI9 rfl rfl (M2 HT_.out HW_.out (by kernel_rfl)) (fun _ _ _ h=>h) (Or.inl ⟨by rfl,?_⟩) hHeld ?_ ?_
        rotate_left
        ·rintro w' ⟨G6,S6,T6⟩
         go_simp
         with_reducible rfl
        rotate_left
        ·simp only [ap_,sb_,s0_,s1_,N0,P0]
         rfl
        refine take_ (i:=3) (N:=some 35) (v:=?_) (a':=?_) aJ3 rfl rfl (M2 HT_.out HW_.out (by kernel_rfl)) (fun _ _ _ h=>h) (Or.inl ⟨by rfl,?_⟩) hHeld ?_ ?_
        rotate_left
        ·rintro w' ⟨G6,S6,T6⟩
         go_simp
         with_reducible rfl
        rotate_left
        ·simp only [ap_,sb_,s0_,s1_,N0,P0]
         rfl
        refine z1 (i:=4) (N:=some 36) (v:=?_) (a':=?_) aK0 rfl rfl (V0 HT_.out (by kernel_rfl)) (fun _ _ _ h=>h) (Or.inl ⟨by rfl,?_⟩) ?_ ?_
        rotate_left
        ·intro w'
         go_simp
         with_reducible rfl
        rotate_left
        ·simp only [ap_,sb_,s0_,s1_,N0,P0]
         rfl
        refine z1 (i:=5) (N:=some 37) (v:=?_) (a':=?_) aM5 rfl rfl (V0 HT_.out (by kernel_rfl)) (fun _ _ _ h=>h) (Or.inl ⟨by rfl,?_⟩) ?_ ?_
        rotate_left
        ·intro w'
         go_simp
         with_reducible rfl
        rotate_left
        ·simp only [ap_,sb_,s0_,s1_,N0,P0]
         rfl
        refine z1 (i:=6) (N:=some 38) (v:=?_) (a':=?_) aI5 rfl rfl (V0 HT_.out (by kernel_rfl)) (fun _ _ _ h=>h) (Or.inl ⟨by rfl,?_⟩) ?_ ?_
        rotate_left
        ·intro w'
         go_simp
         with_reducible rfl
        rotate_left
        ·simp only [ap_,sb_,s0_,s1_,N0,P0]
         rfl
        refine take_ (i:=7) (N:=some 39) (v:=?_) (a':=?_) aJ6 rfl rfl (M2 HT_.out HW_.out (by kernel_rfl)) (fun _ _ _ h=>h) (Or.inl ⟨by rfl,?_⟩) hHeld ?_ ?_
        rotate_left
        ·rintro w' ⟨G6,S6,T6⟩
         go_simp
         with_reducible rfl
        rotate_left
        ·simp only [ap_,sb_,s0_,s1_,N0,P0]
         rfl
        refine z1 (i:=14) (N:=some 46) (v:=?_) (a':=?_) aJ0 rfl rfl (V0 HT_.out (by kernel_rfl)) (fun _ _ _ h=>h) (Or.inl ⟨by rfl,?_⟩) ?_ ?_
        rotate_left
        ·intro w'
         go_simp
         with_reducible rfl
        rotate_left
        ·simp only [ap_,sb_,s0_,s1_,N0,P0]
         rfl
        refine z1 (i:=15) (N:=some 47) (v:=?_) (a':=?_) aL0 rfl rfl (V0 HT_.out (by kernel_rfl)) (fun _ _ _ h=>h) (Or.inl ⟨by rfl,?_⟩) ?_ ?_
        rotate_left
        ·intro w'
         go_simp
         with_reducible rfl
        rotate_left
        ·simp only [ap_,sb_,s0_,s1_,N0,P0]
         rfl
        refine bj0 (i:=16) (N:=none) aD6 rfl rfl (M6 HT_.out (by kernel_rfl)) (by decide) (fun K hK=>?_)
        refine aR2 (w1:=?_) (by rfl) rfl ?_ ?_
        rotate_left
        ·go_simp
         rfl
        refine hK.out _ _ ?_
        clear hK K
        refine ab2 (K7 HT_.out (by kernel_rfl)) ?_
        (try rw [hji19z (by rw [←hji17];exact Int.le_of_lt (Int.tmod_lt_of_pos _ (by decide)))])
        (try rw [hji22z (by rw [←hji20];exact Int.le_of_lt (Int.tmod_lt_of_pos _ (by decide)))])
        have n7000_:q5 (Kd.R (Kd.int .u8) 5 (F2.setCell ⟨b7,((ji14):Int).toNat,none⟩ (.int .u8 (Go.bits .or .u8 (rd I5 (ji14)) (ji22)))) w0.heap.size (fun k_=>(P0_0_ k_∨w.heap.size≤k_)) (.slice (some ⟨b7,0,none⟩) I5.length R0) cI5):=⟨(rt_ aU8.out)⟩
        have n7001_:q5 ((F2.setCell ⟨b7,((ji14):Int).toNat,none⟩ (.int .u8 (Go.bits .or .u8 (rd I5 (ji14)) (ji22)))).heap[aa1]?=some (.cells #[.slice (some ⟨b7,0,none⟩) I5.length R0,.int .i64 I1] 25 (0,0))):=⟨by(with_reducible repeat(first|refine G0 ?_ _|refine J0 ?_|refine I0 ?_ _));refine Y0 ?_ (by have h_:=Kd.R_ne C0.out P5.out (by decide);intro e_;exact h_ (by rw [e_];rfl)) _;exact(bo_ P5)⟩
        have n7002_:q5 ((F2.setCell ⟨b7,((ji14):Int).toNat,none⟩ (.int .u8 (Go.bits .or .u8 (rd I5 (ji14)) (ji22)))).heap[az3]?=some (.cells #[.slice none 0 0,.int .i64 0] 25 (0,0))):=⟨by(with_reducible repeat(first|refine G0 ?_ _|refine J0 ?_|refine I0 ?_ _));refine Y0 ?_ (by have h_:=Kd.R_ne C0.out g8.out (by decide);intro e_;exact h_ (by rw [e_];rfl)) _;exact(bo_ g8)⟩
        have n7003_:q5 (Kept w (F2.setCell ⟨b7,((ji14):Int).toNat,none⟩ (.int .u8 (Go.bits .or .u8 (rd I5 (ji14)) (ji22)))) (fun k_=>P0_0_ k_)):=⟨by repeat(first|(with_reducible first|exact HK.out|apply Kept.alloc|apply Kept.drewN|apply Kept.drew|refine Kept.setCell ?_ HMgo7000.out _|refine Kept.setCell ?_ (.inr ay8.out) _|refine Kept.setCell ?_ (.inr aL2.out) _)|exact HK.out)⟩
        have n7004_:q5 (Below w0.heap.size w0 (F2.setCell ⟨b7,((ji14):Int).toNat,none⟩ (.int .u8 (Go.bits .or .u8 (rd I5 (ji14)) (ji22))))):=⟨by repeat(first|(with_reducible first|exact HB.out|apply R1|apply M1|apply N1|refine P1 ?_ aH8.out|refine P1 ?_ cE2.out|refine P1 ?_ cD0.out)|exact HB.out)⟩
        (try clear C0)
        (try clear P5)
        (try clear g8)
        (try clear HK)
        (try clear HB)
        generalize (F2.setCell ⟨b7,((ji14):Int).toNat,none⟩ (.int .u8 (Go.bits .or .u8 (rd I5 (ji14)) (ji22))))=X2 at n7000_ n7001_ n7002_ n7003_ n7004_ ⊢
        have C0:=n7000_
        have P5:=n7001_
        have g8:=n7002_
        have HK:=n7003_
        have HB:=n7004_
        clear n7000_ n7001_ n7002_ n7003_ n7004_
        obtain⟨z4,C4,j4,Z3⟩:=N4 P5.out
        try go_wp2
        go_roundg k1
        case measure=>have:=HK1.out;omega
        case rel=>exact⟨(ji11),(cI5),(wrap64 (I1+(ji10))),(.slice (some ⟨b7,0,none⟩) I5.length R0),(by first|rfl|(simp;done)|(simp only [←hji11]<;>(first|rfl|simp))|(simp [*];done)),H',⟨by have:=HK1.out;omega⟩,⟨(rt_ (Kd.R_mono (Kd.R_far (p:=⟨aa1,1,none⟩) (Kd.R_types C0.out P5.out (by decide)) (fun _ hk=>hk.2) (.int .i64 (wrap64 (I1+(ji10))))) (fun _ hk=>hk.1)))⟩,⟨by(with_reducible repeat(first|refine G0 ?_ _|refine J0 ?_|refine I0 ?_ _));refine D1 (cs:=#[.slice (some ⟨b7,0,none⟩) I5.length R0,.int .i64 I1]) ?_ 1 _ rfl;exact(bo_ P5)⟩,⟨by(with_reducible repeat(first|refine G0 ?_ _|refine J0 ?_|refine I0 ?_ _));refine Y0 ?_ al3.out _;exact(bo_ g8)⟩,⟨by repeat(first|(with_reducible first|exact HK.out|apply Kept.alloc|apply Kept.drewN|apply Kept.drew|refine Kept.setCell ?_ (.inr ay8.out) _|refine Kept.setCell ?_ (.inr aL2.out) _)|exact HK.out)⟩,⟨bl_⟩⟩
       |have n_:=pk5 (Kd.R_drew HO_117000.out) (J0 P5.out) (J0 g8.out) (Kept.drew HK.out) (N1 HB.out)
        clear HO_117000 P5 g8 HK HB
        obtain⟨HO_117000,P5,g8,HK,HB⟩:=n_
        obtain⟨T0,R0,S1⟩:=Kd.R_slice HO_117000.out
        (first|subst S1|(injection S1 with f1_ f2_ f3_;have f7000_:=f1_.symm;have f7001_:=f3_.symm;clear f1_ f2_ f3_;subst f7000_;subst f7001_))
        have F3:0≤((ji38):Int):=dc_
        have I3:(ji38)<(Y1.length:Int):=dc_
        obtain⟨J1,E6,Z0⟩:=Kd.at_int (Kd.R_reads' HO_117000.out).2.2 (ji38) F3 I3
        cases E6
        replace F3:=eq_true F3
        replace I3:=eq_true I3
        have V7:0≤((ji38):Int):=dc_
        have U7:((ji38):Int)<((Y1.length:Int):Int):=dc_
        obtain⟨b7,V1,U2,B0,bH5,cO9,bb4⟩:=Kd.R_form HO_117000.out (by omega)
        (first|cases U2|(injection U2 with ea_ en_ ec_;(first|subst ea_|(injection ea_ with ea_;subst ea_));subst ec_;clear en_))
        have aH8:=q5.mk B0
        have aZ8:=q5.mk bb4
        clear B0 bH5 bb4
        have HMgo7000:=q5.mk (show(P0_0_ b7∨w.heap.size≤b7) from (HO_117000.out.1 _ rfl))
        (first|simp only [ag0] at Z0|skip)
        obtain⟨M3,aw3⟩:=Kd.R_celln 0 HO_117000.out ((ji38):Int) V7 U7
        replace V7:=eq_true V7
        replace U7:=eq_true U7
        have ac4:=Kd.R_putn HO_117000.out ((ji38):Int) (Go.bits .or .u8 (rd Y1 (ji38)) (ji46))
        rw [←da7.out] at ac4
        have aU8:=q5.mk ac4
        clear ac4
        refine b9 (n:=17) (S:=fun w'=>w'.cell? ⟨aa1,0,none⟩=some (.slice (some ⟨b7,0,none⟩) Y1.length R0)∧w'.cell? ⟨aa1,1,none⟩=some (.int .i64 I1)∧w'.cell? ⟨b7,((ji38)).toNat,none⟩=some (.int .u8 (rd Y1 (ji38)))) (ds:=[16]) bE3 (by kernel_rfl) rfl rfl ⟨(m0 P5.out 0).trans rfl,(m0 P5.out 1).trans rfl,Z0⟩ (fun hHeld=>?_);refine b6 q26.tab7 q26.bits7 (fun HT_ HW_=>?_)
        generalize wr.drew=U1 at HO_117000 P5 g8 HK HB aZ8 aU8 aw3 Z0 M3 hHeld ⊢
        refine z1 (i:=0) (N:=some 32) (v:=?_) (a':=?_) bx8 rfl rfl (V0 HT_.out (by kernel_rfl)) (fun _ _ _ h=>h) (Or.inl ⟨by rfl,?_⟩) ?_ ?_
        rotate_left
        ·intro w'
         go_simp
         with_reducible rfl
        rotate_left
        ·simp only [ap_,sb_,s0_,s1_,N0,P0]
         rfl
        refine z1 (i:=2) (N:=some 34) (v:=?_) (a':=?_) bt4 rfl rfl (V0 HT_.out (by kernel_rfl)) (fun _ _ _ h=>h) (Or.inl ⟨by rfl,?_⟩) ?_ ?_
        rotate_left
        ·intro w'
         go_simp
         with_reducible rfl
        rotate_left
        ·simp only [ap_,sb_,s0_,s1_,N0,P0]
         rfl
        refine z1 (i:=8) (N:=some 40) (v:=?_) (a':=?_) aW6 rfl rfl (V0 HT_.out (by kernel_rfl)) (fun _ _ _ h=>h) (Or.inl ⟨by rfl,?_⟩) ?_ ?_
        rotate_left
        ·intro w'
         go_simp
         with_reducible rfl
        rotate_left
        ·simp only [ap_,sb_,s0_,s1_,N0,P0]
         rfl
        refine z1 (i:=9) (N:=some 41) (v:=?_) (a':=?_) aV9 rfl rfl (V0 HT_.out (by kernel_rfl)) (fun _ _ _ h=>h) (Or.inl ⟨by rfl,?_⟩) ?_ ?_
        rotate_left
        ·intro w'
         go_simp
         with_reducible rfl
        rotate_left
        ·simp only [ap_,sb_,s0_,s1_,N0,P0]
         rfl
        refine z1 (i:=10) (N:=some 42) (v:=?_) (a':=?_) aP6 rfl rfl (V0 HT_.out (by kernel_rfl)) (fun _ _ _ h=>h) (Or.inl ⟨by rfl,?_⟩) ?_ ?_
        rotate_left
        ·intro w'
         go_simp
         with_reducible rfl
        rotate_left
        ·simp only [ap_,sb_,s0_,s1_,N0,P0]
         rfl
        refine z1 (i:=11) (N:=some 43) (v:=?_) (a':=?_) aR8 rfl rfl (V0 HT_.out (by kernel_rfl)) (fun _ _ _ h=>h) (Or.inl ⟨by rfl,?_⟩) ?_ ?_
        rotate_left
        ·intro w'
         go_simp
         with_reducible rfl
        rotate_left
        ·simp only [ap_,sb_,s0_,s1_,N0,P0]
         rfl
        refine z1 (i:=12) (N:=some 44) (v:=?_) (a':=?_) aQ5 rfl rfl (V0 HT_.out (by kernel_rfl)) (fun _ _ _ h=>h) (Or.inl ⟨by rfl,?_⟩) ?_ ?_
        rotate_left
        ·intro w'
         go_simp
         with_reducible rfl
        rotate_left
        ·simp only [ap_,sb_,s0_,s1_,N0,P0]
         rfl
        refine z1 (i:=13) (N:=some 45) (v:=?_) (a':=?_) aM4 rfl rfl (V0 HT_.out (by kernel_rfl)) (fun _ _ _ h=>h) (Or.inl ⟨by rfl,?_⟩) ?_ ?_
        rotate_left
        ·intro w'
         go_simp
         with_reducible rfl
        rotate_left
        ·simp only [ap_,sb_,s0_,s1_,N0,P0]
         rfl
        refine take_ (i:=1) (N:=some 33) (v:=?_) (a':=?_) aI9 rfl rfl (M2 HT_.out HW_.out (by kernel_rfl)) (fun _ _ _ h=>h) (Or.inl ⟨by rfl,?_⟩) hHeld ?_ ?_
        rotate_left
        ·rintro w' ⟨G6,S6,T6⟩
         go_simp
         with_reducible rfl
        rotate_left
        ·simp only [ap_,sb_,s0_,s1_,N0,P0]
         rfl
        refine take_ (i:=3) (N:=some 35) (v:=?_) (a':=?_) aJ3 rfl rfl (M2 HT_.out HW_.out (by kernel_rfl)) (fun _ _ _ h=>h) (Or.inl ⟨by rfl,?_⟩) hHeld ?_ ?_
        rotate_left
        ·rintro w' ⟨G6,S6,T6⟩
         go_simp
         with_reducible rfl
        rotate_left
        ·simp only [ap_,sb_,s0_,s1_,N0,P0]
         rfl
        refine z1 (i:=4) (N:=some 36) (v:=?_) (a':=?_) aK0 rfl rfl (V0 HT_.out (by kernel_rfl)) (fun _ _ _ h=>h) (Or.inl ⟨by rfl,?_⟩) ?_ ?_
        rotate_left
        ·intro w'
         go_simp
         with_reducible rfl
        rotate_left
        ·simp only [ap_,sb_,s0_,s1_,N0,P0]
         rfl
        refine z1 (i:=5) (N:=some 37) (v:=?_) (a':=?_) aM5 rfl rfl (V0 HT_.out (by kernel_rfl)) (fun _ _ _ h=>h) (Or.inl ⟨by rfl,?_⟩) ?_ ?_
        rotate_left
        ·intro w'
         go_simp
         with_reducible rfl
        rotate_left
        ·simp only [ap_,sb_,s0_,s1_,N0,P0]
         rfl
        refine z1 (i:=6) (N:=some 38) (v:=?_) (a':=?_) aI5 rfl rfl (V0 HT_.out (by kernel_rfl)) (fun _ _ _ h=>h) (Or.inl ⟨by rfl,?_⟩) ?_ ?_
        rotate_left
        ·intro w'
         go_simp
         with_reducible rfl
        rotate_left
        ·simp only [ap_,sb_,s0_,s1_,N0,P0]
         rfl
        refine take_ (i:=7) (N:=some 39) (v:=?_) (a':=?_) aJ6 rfl rfl (M2 HT_.out HW_.out (by kernel_rfl)) (fun _ _ _ h=>h) (Or.inl ⟨by rfl,?_⟩) hHeld ?_ ?_
        rotate_left
        ·rintro w' ⟨G6,S6,T6⟩
         go_simp
         with_reducible rfl
        rotate_left
        ·simp only [ap_,sb_,s0_,s1_,N0,P0]
         rfl
        refine z1 (i:=14) (N:=some 46) (v:=?_) (a':=?_) aJ0 rfl rfl (V0 HT_.out (by kernel_rfl)) (fun _ _ _ h=>h) (Or.inl ⟨by rfl,?_⟩) ?_ ?_
        rotate_left
        ·intro w'
         go_simp
         with_reducible rfl
        rotate_left
        ·simp only [ap_,sb_,s0_,s1_,N0,P0]
         rfl
        refine z1 (i:=15) (N:=some 47) (v:=?_) (a':=?_) aL0 rfl rfl (V0 HT_.out (by kernel_rfl)) (fun _ _ _ h=>h) (Or.inl ⟨by rfl,?_⟩) ?_ ?_
        rotate_left
        ·intro w'
         go_simp
         with_reducible rfl
        rotate_left
        ·simp only [ap_,sb_,s0_,s1_,N0,P0]
         rfl
        refine bj0 (i:=16) (N:=none) aD6 rfl rfl (M6 HT_.out (by kernel_rfl)) (by decide) (fun K hK=>?_)
        refine aR2 (w1:=?_) (by rfl) rfl ?_ ?_
        rotate_left
        ·go_simp
         rfl
        refine hK.out _ _ ?_
        clear hK K
        refine ab2 (K7 HT_.out (by kernel_rfl)) ?_
        (try rw [hji43z (by rw [←hji41];exact Int.le_of_lt (Int.tmod_lt_of_pos _ (by decide)))])
        (try rw [hji46z (by rw [←hji44];exact Int.le_of_lt (Int.tmod_lt_of_pos _ (by decide)))])
        have n7000_:q5 (Kd.R (Kd.int .u8) 5 (U1.setCell ⟨b7,((ji38):Int).toNat,none⟩ (.int .u8 (Go.bits .or .u8 (rd Y1 (ji38)) (ji46)))) w0.heap.size (fun k_=>(P0_0_ k_∨w.heap.size≤k_)) (.slice (some ⟨b7,0,none⟩) Y1.length R0) cM3):=⟨(rt_ aU8.out)⟩
        have n7001_:q5 ((U1.setCell ⟨b7,((ji38):Int).toNat,none⟩ (.int .u8 (Go.bits .or .u8 (rd Y1 (ji38)) (ji46)))).heap[aa1]?=some (.cells #[.slice (some ⟨b7,0,none⟩) Y1.length R0,.int .i64 I1] 25 (0,0))):=⟨by(with_reducible repeat(first|refine G0 ?_ _|refine J0 ?_|refine I0 ?_ _));refine Y0 ?_ (by have h_:=Kd.R_ne HO_117000.out P5.out (by decide);intro e_;exact h_ (by rw [e_];rfl)) _;exact(bo_ P5)⟩
        have n7002_:q5 ((U1.setCell ⟨b7,((ji38):Int).toNat,none⟩ (.int .u8 (Go.bits .or .u8 (rd Y1 (ji38)) (ji46)))).heap[az3]?=some (.cells #[.slice none 0 0,.int .i64 0] 25 (0,0))):=⟨by(with_reducible repeat(first|refine G0 ?_ _|refine J0 ?_|refine I0 ?_ _));refine Y0 ?_ (by have h_:=Kd.R_ne HO_117000.out g8.out (by decide);intro e_;exact h_ (by rw [e_];rfl)) _;exact(bo_ g8)⟩
        have n7003_:q5 (Kept w (U1.setCell ⟨b7,((ji38):Int).toNat,none⟩ (.int .u8 (Go.bits .or .u8 (rd Y1 (ji38)) (ji46)))) (fun k_=>P0_0_ k_)):=⟨by repeat(first|(with_reducible first|exact HK.out|apply Kept.alloc|apply Kept.drewN|apply Kept.drew|refine Kept.setCell ?_ HMgo7000.out _|refine Kept.setCell ?_ (.inr ay8.out) _|refine Kept.setCell ?_ (.inr aL2.out) _)|exact HK.out)⟩
        have n7004_:q5 (Below w0.heap.size w0 (U1.setCell ⟨b7,((ji38):Int).toNat,none⟩ (.int .u8 (Go.bits .or .u8 (rd Y1 (ji38)) (ji46))))):=⟨by repeat(first|(with_reducible first|exact HB.out|apply R1|apply M1|apply N1|refine P1 ?_ aH8.out|refine P1 ?_ cE2.out|refine P1 ?_ cD0.out)|exact HB.out)⟩
        (try clear HO_117000)
        (try clear P5)
        (try clear g8)
        (try clear HK)
        (try clear HB)
        generalize (U1.setCell ⟨b7,((ji38):Int).toNat,none⟩ (.int .u8 (Go.bits .or .u8 (rd Y1 (ji38)) (ji46))))=Z1 at n7000_ n7001_ n7002_ n7003_ n7004_ ⊢
        have HO_117000:=n7000_
        have P5:=n7001_
        have g8:=n7002_
        have HK:=n7003_
        have HB:=n7004_
        clear n7000_ n7001_ n7002_ n7003_ n7004_
        obtain⟨Y2,z3,D3,Z2⟩:=N4 P5.out
        try go_wp2
        go_roundg k1
        case measure=>have:=HK1.out;omega
        case rel=>exact⟨(ji35),(cM3),(wrap64 (I1+(ji34))),(.slice (some ⟨b7,0,none⟩) Y1.length R0),(by first|rfl|(simp;done)|(simp only [←hji35]<;>(first|rfl|simp))|(simp [*];done)),H',⟨by have:=HK1.out;omega⟩,⟨(rt_ (Kd.R_mono (Kd.R_far (p:=⟨aa1,1,none⟩) (Kd.R_types HO_117000.out P5.out (by decide)) (fun _ hk=>hk.2) (.int .i64 (wrap64 (I1+(ji34))))) (fun _ hk=>hk.1)))⟩,⟨by(with_reducible repeat(first|refine G0 ?_ _|refine J0 ?_|refine I0 ?_ _));refine D1 (cs:=#[.slice (some ⟨b7,0,none⟩) Y1.length R0,.int .i64 I1]) ?_ 1 _ rfl;exact(bo_ P5)⟩,⟨by(with_reducible repeat(first|refine G0 ?_ _|refine J0 ?_|refine I0 ?_ _));refine Y0 ?_ al3.out _;exact(bo_ g8)⟩,⟨by repeat(first|(with_reducible first|exact HK.out|apply Kept.alloc|apply Kept.drewN|apply Kept.drew|refine Kept.setCell ?_ (.inr ay8.out) _|refine Kept.setCell ?_ (.inr aL2.out) _)|exact HK.out)⟩,⟨bl_⟩⟩
     |go_wp2
      refine bodyPost_ret (results_cell_row rfl _ _ az3 25 #[.slice Ao57 Y1.length co57,.int .i64 I1] (0,0) _ rfl (by(with_reducible repeat(first|refine G0 ?_ _|refine J0 ?_|refine I0 ?_ _));refine D1 (cs:=#[.slice Ao57 Y1.length co57,.int .i64 0]) ?_ 1 _ rfl;(with_reducible repeat(first|refine G0 ?_ _|refine J0 ?_|refine I0 ?_ _));refine D1 (cs:=#[.slice none 0 0,.int .i64 0]) ?_ 0 _ rfl;exact(bo_ g8)) Try.underlying25 rfl (by kernel_rfl)) rfl ?_
      exact⟨_,rf_,(rt_ (Kd.R_mono (Kd.R_far (p:=⟨az3,1,none⟩) (Kd.R_far (p:=⟨az3,0,none⟩) (Kd.R_types HO_117000.out g8.out (by decide)) (fun _ hk=>hk.2) (.slice Ao57 Y1.length co57)) (fun _ hk=>hk.2) (.int .i64 I1)) (fun _ hk=>hk.1))),bl_,by repeat(first|(with_reducible first|exact HK.out|apply Kept.alloc|apply Kept.drewN|apply Kept.drew|refine Kept.setCell ?_ (.inr ay8.out) _|refine Kept.setCell ?_ (.inr aL2.out) _)|exact HK.out)⟩
end Go.Proofs.Ytmddmbagehjdeaa.G
end
section
namespace Go.Proofs.Ytmddmbagehjdeaa.G
open Go.RowKit Go.Proofs.YtmddmbagehjdeaaX Go.Proofs.YtmddmbagehjdeaaW.PrintWords Go.Proofs.YtmddmbagehjdeaaW.PrintLast Go.Proofs.YtmddmbagehjdeaaW.PrintMore
attribute [local go_sem] S3 R3 R4 S4 P3 N3 D4 Y3
def q53.f (k:Nat) (l0_0:List Int) (a0_1:Int) (a1:Int):Option (List Int×Int×Int):=(q25.f k l0_0 a0_1).bind fun aS3=>(if aS3=0 then((q64.f l0_0 a0_1).bind fun aA6=>((q60.f k a1).bind fun aF5=>(if aF5>(wrap64 (131072 - aA6.2))then(some (aA6.1,aA6.2,6))else((q38.f k a1).bind fun aH3=>((q69.f aH3).bind fun bs7=>((q26.f k aA6.1 aA6.2 bs7.1 bs7.2).bind fun bG9=>((q70.f a1).bind fun bb8=>((q61.f aH3).bind fun bc8=>((q26.f k bG9.1 bG9.2 bb8 bc8).bind fun by8=>(some (by8.1,by8.2,0)))))))))))else(some (([]:List Int),0,aS3)))
theorem q53.mono:∀ a0 a1 a2 k,LeO (q53.f k a0 a1 a2) (q53.f (k+1) a0 a1 a2):=by
 intro a0 a1 a2 k
 unfold q53.f
 repeat' first
   |(with_reducible exact q25.mono _ _ _)
   |(with_reducible exact q38.mono _ _)
   |(with_reducible exact q60.mono _ _)
   |(with_reducible exact q26.mono _ _ _ _ _)
   |(with_reducible exact LeO.refl _)
   |(with_reducible exact LeO.none _)
   |(with_reducible refine LeO.ite ?_ ?_)
   |(with_reducible refine LeO.bind ?_ (fun _=>?_))
   |exact q25.mono _ _ _
   |exact q38.mono _ _
   |exact q60.mono _ _
   |exact q26.mono _ _ _ _ _
   |exact LeO.none _
   |refine LeO.ite ?_ ?_
   |refine LeO.bind ?_ (fun _=>?_)
theorem q53.calls (k:Nat) (A0_0:Option Addr) (c0_0:Nat) (l0_0:List Int) (a0_1:Int) (a1:Int) (r1:List Int) (r2:Int) (r3:Int) (w:World) (hr0_0:Kd.C (Kd.int .u8) w A0_0 l0_0.length l0_0) (hc0_0:l0_0.length≤c0_0) (h:q53.f k l0_0 a0_1 a1=some (r1,r2,r3)) :
  Calls Try.prog 15 #[.agg #[.slice A0_0 l0_0.length c0_0,.int .i64 a0_1],.int .i64 a1] w fun e w'=>∃ v0_:Value,e=.returned (.tuple #[.agg #[v0_,.int .i64 r2],.int .i64 r3])∧Kd.R (Kd.int .u8) 5 w' w.heap.size (fun _=>True) v0_ r1∧Below w.heap.size w w':=by
 have hu25:=Try.underlying25
 have HR0_0:=q5.mk hr0_0
 have HC0_0:=q5.mk hc0_0
 clear hr0_0 hc0_0
 have HB:=q5.mk (Below.refl w.heap.size w)
 have H:((q25.f k l0_0 a0_1).bind fun aS3=>(if aS3=0 then((q64.f l0_0 a0_1).bind fun aA6=>((q60.f k a1).bind fun aF5=>(if aF5>(wrap64 (131072 - aA6.2))then(some (aA6.1,aA6.2,6))else((q38.f k a1).bind fun aH3=>((q69.f aH3).bind fun bs7=>((q26.f k aA6.1 aA6.2 bs7.1 bs7.2).bind fun bG9=>((q70.f a1).bind fun bb8=>((q61.f aH3).bind fun bc8=>((q26.f k bG9.1 bG9.2 bb8 bc8).bind fun by8=>(some (by8.1,by8.2,0)))))))))))else(some (([]:List Int),0,aS3))))=some (r1,r2,r3):=h
 clear h
 replace H:=N2 H
 obtain⟨aS3,A3,H⟩:=H
 try dsimp only at H
 replace H:=deqn H
 rcases H with⟨c4b0,c4b1,H⟩|⟨c4b0,c4b1,c4,H⟩
 focus
  replace H:=N2 H
  obtain⟨⟨o9,ae9⟩,A5,H⟩:=H
  try dsimp only at H
  replace H:=N2 H
  obtain⟨aF5,A6,H⟩:=H
  try dsimp only at H
  by_cases c7:aF5>(wrap64 (131072 - ae9))
  focus
   rw [if_pos c7] at H
   have c7b0:decide ((wrap64 (131072 - ae9))<aF5)=true:=decide_eq_true c7
   have c7b0w:decide ((IntKind.i64.wrap (131072 - ae9))<aF5)=true:=by simpa only [N0] using c7b0
   clear c7
   simp only [Option.some.injEq,Prod.mk.injEq] at H
   obtain⟨rfl,rfl,rfl⟩:=H
  rotate_left
  focus
   rw [if_neg c7] at H
   have c7b0:decide ((wrap64 (131072 - ae9))<aF5)=false:=decide_eq_false c7
   have c7b0w:decide ((IntKind.i64.wrap (131072 - ae9))<aF5)=false:=by simpa only [N0] using c7b0
   clear c7
   replace H:=N2 H
   obtain⟨aH3,A18,H⟩:=H
   try dsimp only at H
   replace H:=N2 H
   obtain⟨⟨ce2,ce0⟩,A19,H⟩:=H
   try dsimp only at H
   replace H:=N2 H
   obtain⟨⟨aS2,cd0⟩,A20,H⟩:=H
   try dsimp only at H
   replace H:=N2 H
   obtain⟨bb8,A21,H⟩:=H
   try dsimp only at H
   replace H:=N2 H
   obtain⟨bc8,A22,H⟩:=H
   try dsimp only at H
   replace H:=N2 H
   obtain⟨⟨cd9,cl0⟩,A23,H⟩:=H
   try dsimp only at H
   simp only [Option.some.injEq,Prod.mk.injEq] at H
   obtain⟨rfl,rfl,rfl⟩:=H
 rotate_left 2
 focus
  simp only [Option.some.injEq,Prod.mk.injEq] at H
  obtain⟨rfl,rfl,rfl⟩:=H
 all_goals
  first
   |go_enter Try.func15,Try.ntmps15
    go_wp2_with (first|((with_reducible refine X0 (N:=2) rfl ?_);refine L2 2 #[.slice A0_0 l0_0.length c0_0,.int .i64 a0_1] 25 ?_;intro B0 hg U1 hbox hb;have n_:=pk4 (E0 bl_ hb) (hbox) ((ge_ hg bl_:w.heap.size≤B0)) ((ge_ hg bl_:w.heap.size≤B0));clear HB;obtain⟨HB,o0,C2,F5⟩:=n_;clear hb hbox hg)|((with_reducible refine X0 (N:=4) rfl ?_);refine L2 4 #[.slice none 0 0,.int .i64 0] 25 ?_;intro S0 hg Z1 hbox hb;have n_:=pk7 (F0 (bo_ o0) hb) (E0 bl_ hb) (hbox) ((ge_ hg bl_:w.heap.size≤S0)) ((ge_ hg bl_:w.heap.size≤S0)) ((nb_ hg (bo_ o0):B0≠S0)) ((nc_ hg (bo_ o0):S0≠B0));clear o0 HB;obtain⟨o0,HB,O0,V9,W9,Q1,F1⟩:=n_;clear hb hbox hg;have V6:=Q1.out;have Z6:=F1.out;have Y2:Z1.cell? ⟨B0,0,none⟩=some (.slice A0_0 l0_0.length c0_0):=(m0 o0.out 0).trans rfl;have z3:Z1.cell? ⟨B0,1,none⟩=some (.int .i64 a0_1):=(m0 o0.out 1).trans rfl;have D3:=t0 o0.out 0;have Z2:=t0 o0.out 1)|(go_at_call 58;(with_reducible refine(q25.calls k _ _ l0_0 a0_1 aS3 _ ?side1 ?side2 A3.out).mono ?_);(case side1=>exact cb_ HR0_0);(case side2=>exact HC0_0.out);rintro e F2 ⟨rfl,hb⟩;have n_:=pk3 (F0 (bo_ o0) hb) (F0 (bo_ O0) hb) (E0 bl_ hb);clear o0 O0 HB;obtain⟨o0,O0,HB⟩:=n_;(try clear hb);(try(have z4:F2.cell? ⟨B0,0,none⟩=some (.slice A0_0 l0_0.length c0_0):=(m0 o0.out 0).trans rfl;have C4:F2.cell? ⟨B0,1,none⟩=some (.int .i64 a0_1):=(m0 o0.out 1).trans rfl;have j4:=t0 o0.out 0;have Z3:=t0 o0.out 1));(try(have z4:F2.cell? ⟨S0,0,none⟩=some (.slice none 0 0):=(m0 O0.out 0).trans rfl;have C4:F2.cell? ⟨S0,1,none⟩=some (.int .i64 0):=(m0 O0.out 1).trans rfl;have j4:=t0 O0.out 0;have Z3:=t0 O0.out 1)))|(go_at_call 59;(with_reducible refine(q64.calls _ _ l0_0 a0_1 o9 ae9 _ ?side1 ?side2 A5.out).mono ?_);(case side1=>exact cb_ HR0_0);(case side2=>exact HC0_0.out);rintro e X2 ⟨M4,rfl,M0,hb⟩;have n_:=pk4 (Kd.R_lower M0 (L0 bl_)) (F0 (bo_ o0) hb) (F0 (bo_ O0) hb) (E0 bl_ hb);clear o0 O0 HB;obtain⟨C0,o0,O0,HB⟩:=n_;(try clear hb M0);obtain⟨T0,R0,S1⟩:=Kd.R_slice C0.out;subst S1;have W8:X2.cell? ⟨B0,0,none⟩=some (.slice A0_0 l0_0.length c0_0):=(m0 o0.out 0).trans rfl;have j9:X2.cell? ⟨B0,1,none⟩=some (.int .i64 a0_1):=(m0 o0.out 1).trans rfl;have d9:=t0 o0.out 0;have Y8:=t0 o0.out 1)|(go_at_call 16;(with_reducible refine(q60.calls k a1 aF5 _ A6.out).mono ?_);rintro e w' ⟨rfl,⟨nd,rfl⟩⟩;(try first|exact⟨rfl,_,World.drewN_drewN _ _ _⟩|exact⟨rfl,_,Eq.trans (World.drewN_drewN _ _ _) (congrArg (World.drewN _) (Nat.add_assoc _ _ _))⟩);have ad9:X2.cell? ⟨S0,0,none⟩=some (.slice none 0 0):=(m0 O0.out 0).trans rfl;have ac9:X2.cell? ⟨S0,1,none⟩=some (.int .i64 0):=(m0 O0.out 1).trans rfl;have ad5:=t0 O0.out 0;have ad3:=t0 O0.out 1))
    repeat(go_quiet (first|((with_reducible refine X0 (N:=2) rfl ?_);refine L2 2 #[.slice A0_0 l0_0.length c0_0,.int .i64 a0_1] 25 ?_;intro B0 hg U1 hbox hb;have n_:=pk4 (E0 bl_ hb) (hbox) ((ge_ hg bl_:w.heap.size≤B0)) ((ge_ hg bl_:w.heap.size≤B0));clear HB;obtain⟨HB,o0,C2,F5⟩:=n_;clear hb hbox hg)|((with_reducible refine X0 (N:=4) rfl ?_);refine L2 4 #[.slice none 0 0,.int .i64 0] 25 ?_;intro S0 hg Z1 hbox hb;have n_:=pk7 (F0 (bo_ o0) hb) (E0 bl_ hb) (hbox) ((ge_ hg bl_:w.heap.size≤S0)) ((ge_ hg bl_:w.heap.size≤S0)) ((nb_ hg (bo_ o0):B0≠S0)) ((nc_ hg (bo_ o0):S0≠B0));clear o0 HB;obtain⟨o0,HB,O0,V9,W9,Q1,F1⟩:=n_;clear hb hbox hg;have V6:=Q1.out;have Z6:=F1.out;have Y2:Z1.cell? ⟨B0,0,none⟩=some (.slice A0_0 l0_0.length c0_0):=(m0 o0.out 0).trans rfl;have z3:Z1.cell? ⟨B0,1,none⟩=some (.int .i64 a0_1):=(m0 o0.out 1).trans rfl;have D3:=t0 o0.out 0;have Z2:=t0 o0.out 1)|(go_at_call 58;(with_reducible refine(q25.calls k _ _ l0_0 a0_1 aS3 _ ?side1 ?side2 A3.out).mono ?_);(case side1=>exact cb_ HR0_0);(case side2=>exact HC0_0.out);rintro e F2 ⟨rfl,hb⟩;have n_:=pk3 (F0 (bo_ o0) hb) (F0 (bo_ O0) hb) (E0 bl_ hb);clear o0 O0 HB;obtain⟨o0,O0,HB⟩:=n_;(try clear hb);(try(have z4:F2.cell? ⟨B0,0,none⟩=some (.slice A0_0 l0_0.length c0_0):=(m0 o0.out 0).trans rfl;have C4:F2.cell? ⟨B0,1,none⟩=some (.int .i64 a0_1):=(m0 o0.out 1).trans rfl;have j4:=t0 o0.out 0;have Z3:=t0 o0.out 1));(try(have z4:F2.cell? ⟨S0,0,none⟩=some (.slice none 0 0):=(m0 O0.out 0).trans rfl;have C4:F2.cell? ⟨S0,1,none⟩=some (.int .i64 0):=(m0 O0.out 1).trans rfl;have j4:=t0 O0.out 0;have Z3:=t0 O0.out 1)))|(go_at_call 59;(with_reducible refine(q64.calls _ _ l0_0 a0_1 o9 ae9 _ ?side1 ?side2 A5.out).mono ?_);(case side1=>exact cb_ HR0_0);(case side2=>exact HC0_0.out);rintro e X2 ⟨M4,rfl,M0,hb⟩;have n_:=pk4 (Kd.R_lower M0 (L0 bl_)) (F0 (bo_ o0) hb) (F0 (bo_ O0) hb) (E0 bl_ hb);clear o0 O0 HB;obtain⟨C0,o0,O0,HB⟩:=n_;(try clear hb M0);obtain⟨T0,R0,S1⟩:=Kd.R_slice C0.out;subst S1;have W8:X2.cell? ⟨B0,0,none⟩=some (.slice A0_0 l0_0.length c0_0):=(m0 o0.out 0).trans rfl;have j9:X2.cell? ⟨B0,1,none⟩=some (.int .i64 a0_1):=(m0 o0.out 1).trans rfl;have d9:=t0 o0.out 0;have Y8:=t0 o0.out 1)|(go_at_call 16;(with_reducible refine(q60.calls k a1 aF5 _ A6.out).mono ?_);rintro e w' ⟨rfl,⟨nd,rfl⟩⟩;(try first|exact⟨rfl,_,World.drewN_drewN _ _ _⟩|exact⟨rfl,_,Eq.trans (World.drewN_drewN _ _ _) (congrArg (World.drewN _) (Nat.add_assoc _ _ _))⟩);have ad9:X2.cell? ⟨S0,0,none⟩=some (.slice none 0 0):=(m0 O0.out 0).trans rfl;have ac9:X2.cell? ⟨S0,1,none⟩=some (.int .i64 0):=(m0 O0.out 1).trans rfl;have ad5:=t0 O0.out 0;have ad3:=t0 O0.out 1));try go_wp2_with (first|((with_reducible refine X0 (N:=2) rfl ?_);refine L2 2 #[.slice A0_0 l0_0.length c0_0,.int .i64 a0_1] 25 ?_;intro B0 hg U1 hbox hb;have n_:=pk4 (E0 bl_ hb) (hbox) ((ge_ hg bl_:w.heap.size≤B0)) ((ge_ hg bl_:w.heap.size≤B0));clear HB;obtain⟨HB,o0,C2,F5⟩:=n_;clear hb hbox hg)|((with_reducible refine X0 (N:=4) rfl ?_);refine L2 4 #[.slice none 0 0,.int .i64 0] 25 ?_;intro S0 hg Z1 hbox hb;have n_:=pk7 (F0 (bo_ o0) hb) (E0 bl_ hb) (hbox) ((ge_ hg bl_:w.heap.size≤S0)) ((ge_ hg bl_:w.heap.size≤S0)) ((nb_ hg (bo_ o0):B0≠S0)) ((nc_ hg (bo_ o0):S0≠B0));clear o0 HB;obtain⟨o0,HB,O0,V9,W9,Q1,F1⟩:=n_;clear hb hbox hg;have V6:=Q1.out;have Z6:=F1.out;have Y2:Z1.cell? ⟨B0,0,none⟩=some (.slice A0_0 l0_0.length c0_0):=(m0 o0.out 0).trans rfl;have z3:Z1.cell? ⟨B0,1,none⟩=some (.int .i64 a0_1):=(m0 o0.out 1).trans rfl;have D3:=t0 o0.out 0;have Z2:=t0 o0.out 1)|(go_at_call 58;(with_reducible refine(q25.calls k _ _ l0_0 a0_1 aS3 _ ?side1 ?side2 A3.out).mono ?_);(case side1=>exact cb_ HR0_0);(case side2=>exact HC0_0.out);rintro e F2 ⟨rfl,hb⟩;have n_:=pk3 (F0 (bo_ o0) hb) (F0 (bo_ O0) hb) (E0 bl_ hb);clear o0 O0 HB;obtain⟨o0,O0,HB⟩:=n_;(try clear hb);(try(have z4:F2.cell? ⟨B0,0,none⟩=some (.slice A0_0 l0_0.length c0_0):=(m0 o0.out 0).trans rfl;have C4:F2.cell? ⟨B0,1,none⟩=some (.int .i64 a0_1):=(m0 o0.out 1).trans rfl;have j4:=t0 o0.out 0;have Z3:=t0 o0.out 1));(try(have z4:F2.cell? ⟨S0,0,none⟩=some (.slice none 0 0):=(m0 O0.out 0).trans rfl;have C4:F2.cell? ⟨S0,1,none⟩=some (.int .i64 0):=(m0 O0.out 1).trans rfl;have j4:=t0 O0.out 0;have Z3:=t0 O0.out 1)))|(go_at_call 59;(with_reducible refine(q64.calls _ _ l0_0 a0_1 o9 ae9 _ ?side1 ?side2 A5.out).mono ?_);(case side1=>exact cb_ HR0_0);(case side2=>exact HC0_0.out);rintro e X2 ⟨M4,rfl,M0,hb⟩;have n_:=pk4 (Kd.R_lower M0 (L0 bl_)) (F0 (bo_ o0) hb) (F0 (bo_ O0) hb) (E0 bl_ hb);clear o0 O0 HB;obtain⟨C0,o0,O0,HB⟩:=n_;(try clear hb M0);obtain⟨T0,R0,S1⟩:=Kd.R_slice C0.out;subst S1;have W8:X2.cell? ⟨B0,0,none⟩=some (.slice A0_0 l0_0.length c0_0):=(m0 o0.out 0).trans rfl;have j9:X2.cell? ⟨B0,1,none⟩=some (.int .i64 a0_1):=(m0 o0.out 1).trans rfl;have d9:=t0 o0.out 0;have Y8:=t0 o0.out 1)|(go_at_call 16;(with_reducible refine(q60.calls k a1 aF5 _ A6.out).mono ?_);rintro e w' ⟨rfl,⟨nd,rfl⟩⟩;(try first|exact⟨rfl,_,World.drewN_drewN _ _ _⟩|exact⟨rfl,_,Eq.trans (World.drewN_drewN _ _ _) (congrArg (World.drewN _) (Nat.add_assoc _ _ _))⟩);have ad9:X2.cell? ⟨S0,0,none⟩=some (.slice none 0 0):=(m0 O0.out 0).trans rfl;have ac9:X2.cell? ⟨S0,1,none⟩=some (.int .i64 0):=(m0 O0.out 1).trans rfl;have ad5:=t0 O0.out 0;have ad3:=t0 O0.out 1)))
    first
     |refine bodyPost_ret (N5 rfl _ _ S0 25 #[.slice T0 o9.length R0,.int .i64 ae9] (0,0) _ rfl (by(with_reducible repeat(first|refine G0 ?_ _|refine J0 ?_|refine I0 ?_ _));refine D1 (cs:=#[.slice T0 o9.length R0,.int .i64 0]) ?_ 1 _ rfl;(with_reducible repeat(first|refine G0 ?_ _|refine J0 ?_|refine I0 ?_ _));refine D1 (cs:=#[.slice none 0 0,.int .i64 0]) ?_ 0 _ rfl;(with_reducible repeat(first|refine G0 ?_ _|refine J0 ?_|refine I0 ?_ _));refine Y0 ?_ F1.out _;(with_reducible repeat(first|refine G0 ?_ _|refine J0 ?_|refine I0 ?_ _));refine Y0 ?_ F1.out _;exact(bo_ O0)) Try.underlying25 rfl (by kernel_rfl)) rfl ?_
      exact⟨_,rf_,(rt_ (Kd.R_mono (Kd.R_far (p:=⟨S0,1,none⟩) (Kd.R_far (p:=⟨S0,0,none⟩) (Kd.R_far (p:=⟨B0,1,none⟩) (Kd.R_far (p:=⟨B0,0,none⟩) (Kd.R_types (Kd.R_types C0.out o0.out (by decide)) O0.out (by decide)) (fun _ hk=>hk.1.2) (.slice T0 o9.length R0)) (fun _ hk=>hk.1.2) (.int .i64 ae9)) (fun _ hk=>hk.2) (.slice T0 o9.length R0)) (fun _ hk=>hk.2) (.int .i64 ae9)) (fun _ hk=>trivial))),bl_⟩
     |refine bodyPost_ret (N5 rfl _ _ S0 25 #[.slice none 0 0,.int .i64 0] (0,0) _ rfl (by(with_reducible repeat(first|refine G0 ?_ _|refine J0 ?_|refine I0 ?_ _));refine D1 (cs:=#[.slice none 0 0,.int .i64 0]) ?_ 1 _ rfl;(with_reducible repeat(first|refine G0 ?_ _|refine J0 ?_|refine I0 ?_ _));refine D1 (cs:=#[.slice none 0 0,.int .i64 0]) ?_ 0 _ rfl;exact(bo_ O0)) Try.underlying25 rfl (by kernel_rfl)) rfl ?_
      exact⟨_,rf_,nl_,bl_⟩
   |go_enter Try.func15,Try.ntmps15
    go_wp2_with (first|((with_reducible refine X0 (N:=2) rfl ?_);refine L2 2 #[.slice A0_0 l0_0.length c0_0,.int .i64 a0_1] 25 ?_;intro B0 hg U1 hbox hb;have n_:=pk4 (E0 bl_ hb) (hbox) ((ge_ hg bl_:w.heap.size≤B0)) ((ge_ hg bl_:w.heap.size≤B0));clear HB;obtain⟨HB,o0,C2,F5⟩:=n_;clear hb hbox hg)|((with_reducible refine X0 (N:=4) rfl ?_);refine L2 4 #[.slice none 0 0,.int .i64 0] 25 ?_;intro S0 hg Z1 hbox hb;have n_:=pk7 (F0 (bo_ o0) hb) (E0 bl_ hb) (hbox) ((ge_ hg bl_:w.heap.size≤S0)) ((ge_ hg bl_:w.heap.size≤S0)) ((nb_ hg (bo_ o0):B0≠S0)) ((nc_ hg (bo_ o0):S0≠B0));clear o0 HB;obtain⟨o0,HB,O0,V9,W9,Q1,F1⟩:=n_;clear hb hbox hg;have V6:=Q1.out;have Z6:=F1.out;have Y2:Z1.cell? ⟨B0,0,none⟩=some (.slice A0_0 l0_0.length c0_0):=(m0 o0.out 0).trans rfl;have z3:Z1.cell? ⟨B0,1,none⟩=some (.int .i64 a0_1):=(m0 o0.out 1).trans rfl;have D3:=t0 o0.out 0;have Z2:=t0 o0.out 1)|(go_at_call 58;(with_reducible refine(q25.calls k _ _ l0_0 a0_1 aS3 _ ?side1 ?side2 A3.out).mono ?_);(case side1=>exact cb_ HR0_0);(case side2=>exact HC0_0.out);rintro e F2 ⟨rfl,hb⟩;have n_:=pk3 (F0 (bo_ o0) hb) (F0 (bo_ O0) hb) (E0 bl_ hb);clear o0 O0 HB;obtain⟨o0,O0,HB⟩:=n_;(try clear hb);have z4:F2.cell? ⟨B0,0,none⟩=some (.slice A0_0 l0_0.length c0_0):=(m0 o0.out 0).trans rfl;have C4:F2.cell? ⟨B0,1,none⟩=some (.int .i64 a0_1):=(m0 o0.out 1).trans rfl;have j4:=t0 o0.out 0;have Z3:=t0 o0.out 1)|(go_at_call 59;(with_reducible refine(q64.calls _ _ l0_0 a0_1 o9 ae9 _ ?side1 ?side2 A5.out).mono ?_);(case side1=>exact cb_ HR0_0);(case side2=>exact HC0_0.out);rintro e X2 ⟨M4,rfl,M0,hb⟩;have n_:=pk4 (Kd.R_lower M0 (L0 bl_)) (F0 (bo_ o0) hb) (F0 (bo_ O0) hb) (E0 bl_ hb);clear o0 O0 HB;obtain⟨C0,o0,O0,HB⟩:=n_;(try clear hb M0);obtain⟨T0,R0,S1⟩:=Kd.R_slice C0.out;subst S1;have W8:X2.cell? ⟨B0,0,none⟩=some (.slice A0_0 l0_0.length c0_0):=(m0 o0.out 0).trans rfl;have j9:X2.cell? ⟨B0,1,none⟩=some (.int .i64 a0_1):=(m0 o0.out 1).trans rfl;have d9:=t0 o0.out 0;have Y8:=t0 o0.out 1)|((with_reducible refine an3 (t:=25) (p:=2) rfl ?_);(try(rw [aF9 X2];generalize hq_:World.drewN X2 _=X2;have n7000_:=q5.mk (Kd.R_at hq_ C0.out);have n7001_:=q5.mk (aO4 hq_ o0.out);have n7002_:=q5.mk (aO4 hq_ O0.out);have n7003_:=q5.mk (aY0 hq_ HB.out);clear hq_ C0 o0 O0 HB;have C0:=n7000_;have o0:=n7001_;have O0:=n7002_;have HB:=n7003_;clear n7000_ n7001_ n7002_ n7003_));refine ai1 (t:=25) (p:=2) (v:=?vo_w33) (w1:=((X2.setCell ⟨B0,0,none⟩ (.slice T0 o9.length R0)).setCell ⟨B0,1,none⟩ (.int .i64 ae9))) ?hg ?ho ?hn ?hr ?_;(case ho=>rfl);(case hg=>rfl);(case hn=>rfl);(case hr=>first|(go_simp;done)|(go_simp;rfl));intro G4 hw;have n7000_:q5 (Kd.R (Kd.int .u8) 5 G4 w.heap.size (fun _=>True) (.slice T0 o9.length R0) o9):=⟨(by rw [hw];exact(rt_ (Kd.R_mono (Kd.R_far (p:=⟨B0,1,none⟩) (Kd.R_far (p:=⟨B0,0,none⟩) (Kd.R_types C0.out o0.out (by decide)) (fun _ hk=>hk.2) (.slice T0 o9.length R0)) (fun _ hk=>hk.2) (.int .i64 ae9)) (fun _ hk=>trivial))))⟩;have n7001_:q5 (G4.heap[B0]?=some (.cells #[.slice T0 o9.length R0,.int .i64 ae9] 25 (0,0))):=⟨(by rw [hw];exact(by(with_reducible repeat(first|refine G0 ?_ _|refine J0 ?_|refine I0 ?_ _));refine D1 (cs:=#[.slice T0 o9.length R0,.int .i64 a0_1]) ?_ 1 _ rfl;(with_reducible repeat(first|refine G0 ?_ _|refine J0 ?_|refine I0 ?_ _));refine D1 (cs:=#[.slice A0_0 l0_0.length c0_0,.int .i64 a0_1]) ?_ 0 _ rfl;exact(bo_ o0)))⟩;have n7002_:q5 (G4.heap[S0]?=some (.cells #[.slice none 0 0,.int .i64 0] 25 (0,0))):=⟨(by rw [hw];exact(by(with_reducible repeat(first|refine G0 ?_ _|refine J0 ?_|refine I0 ?_ _));refine Y0 ?_ F1.out _;(with_reducible repeat(first|refine G0 ?_ _|refine J0 ?_|refine I0 ?_ _));refine Y0 ?_ F1.out _;exact(bo_ O0)))⟩;have n7003_:q5 (Below w.heap.size w G4):=⟨(by rw [hw];exact bl_)⟩;clear hw;clear C0;clear o0;clear O0;clear HB;have C0:=n7000_;have o0:=n7001_;have O0:=n7002_;have HB:=n7003_;clear n7000_ n7001_ n7002_ n7003_)|(go_at_call 16;(with_reducible refine(q60.calls k a1 aF5 _ A6.out).mono ?_);rintro e w' ⟨rfl,⟨nd,rfl⟩⟩;(try first|exact⟨rfl,_,World.drewN_drewN _ _ _⟩|exact⟨rfl,_,Eq.trans (World.drewN_drewN _ _ _) (congrArg (World.drewN _) (Nat.add_assoc _ _ _))⟩);have ad9:G4.cell? ⟨B0,0,none⟩=some (.slice T0 o9.length R0):=(m0 o0.out 0).trans rfl;have ac9:G4.cell? ⟨B0,1,none⟩=some (.int .i64 ae9):=(m0 o0.out 1).trans rfl;have ad5:=t0 o0.out 0;have ad3:=t0 o0.out 1)|(go_at_call 33;(with_reducible refine(q38.calls k a1 aH3 _ A18.out).mono ?_);rintro e w' ⟨rfl,⟨nd,rfl⟩⟩;(try first|exact⟨rfl,_,World.drewN_drewN _ _ _⟩|exact⟨rfl,_,Eq.trans (World.drewN_drewN _ _ _) (congrArg (World.drewN _) (Nat.add_assoc _ _ _))⟩))|(go_at_call 60;(with_reducible refine(q69.calls aH3 ce2 ce0 _ A19.out).mono ?_);rintro e w' ⟨rfl,⟨nd,rfl⟩⟩;(try first|exact⟨rfl,_,World.drewN_drewN _ _ _⟩|exact⟨rfl,_,Eq.trans (World.drewN_drewN _ _ _) (congrArg (World.drewN _) (Nat.add_assoc _ _ _))⟩))|(go_at_call 61;(with_reducible refine(q26.calls k (fun k_=>some k_=(.slice T0 o9.length R0:Value).ownBlock) (.slice T0 o9.length R0) o9 ae9 ce2 ce0 aS2 cd0 w _ ?side1 ?side2 A20.out).mono ?_);(case side1=>exact bl_);(case side2=>exact Kd.R_tight rfl C0.out);rintro e Z9 ⟨z5,rfl,M0,hb,hkp⟩;have n_:=pk4 (Y7 (bo_ o0) hkp (fun hs_=>(fun e_=>(Kd.R_ne C0.out o0.out (by decide)) e_) hs_)) (Y7 (bo_ O0) hkp (fun hs_=>(fun e_=>(Kd.R_ne C0.out O0.out (by decide)) e_) hs_)) (Kd.R_mono (ok':=fun k_=>True) M0 (fun k_ hk_=>trivial)) (hb);clear o0 O0 HB C0;obtain⟨o0,O0,Q0,HB⟩:=n_;(try clear hb hkp M0))|(go_at_call 62;(with_reducible refine(q70.calls a1 bb8 _ A21.out).mono ?_);rintro e w' ⟨rfl,⟨nd,rfl⟩⟩;(try first|exact⟨rfl,_,World.drewN_drewN _ _ _⟩|exact⟨rfl,_,Eq.trans (World.drewN_drewN _ _ _) (congrArg (World.drewN _) (Nat.add_assoc _ _ _))⟩))|(go_at_call 63;(with_reducible refine(q61.calls aH3 bc8 _ A22.out).mono ?_);rintro e w' ⟨rfl,⟨nd,rfl⟩⟩;(try first|exact⟨rfl,_,World.drewN_drewN _ _ _⟩|exact⟨rfl,_,Eq.trans (World.drewN_drewN _ _ _) (congrArg (World.drewN _) (Nat.add_assoc _ _ _))⟩);obtain⟨X1,V1,U2⟩:=Kd.R_slice Q0.out;subst U2)|(go_at_call 61;(with_reducible refine(q26.calls k (fun k_=>some k_=(.slice X1 aS2.length V1:Value).ownBlock) (.slice X1 aS2.length V1) aS2 cd0 bb8 bc8 cd9 cl0 w _ ?side1 ?side2 A23.out).mono ?_);(case side1=>exact bl_);(case side2=>exact Kd.R_tight rfl Q0.out);rintro e au8 ⟨ae1,rfl,M0,hb,hkp⟩;have n_:=pk4 (Y7 (bo_ o0) hkp (fun hs_=>(fun e_=>(Kd.R_ne Q0.out o0.out (by decide)) e_) hs_)) (Y7 (bo_ O0) hkp (fun hs_=>(fun e_=>(Kd.R_ne Q0.out O0.out (by decide)) e_) hs_)) (Kd.R_mono (ok':=fun k_=>True) M0 (fun k_ hk_=>trivial)) (hb);clear o0 O0 HB Q0;obtain⟨o0,O0,E1,HB⟩:=n_;(try clear hb hkp M0);obtain⟨F4,V3,n8⟩:=Kd.R_slice E1.out;subst n8;have aC0:au8.cell? ⟨S0,0,none⟩=some (.slice none 0 0):=(m0 O0.out 0).trans rfl;have aB9:au8.cell? ⟨S0,1,none⟩=some (.int .i64 0):=(m0 O0.out 1).trans rfl;have aB5:=t0 O0.out 0;have aC2:=t0 O0.out 1))
    repeat(go_quiet (first|((with_reducible refine X0 (N:=2) rfl ?_);refine L2 2 #[.slice A0_0 l0_0.length c0_0,.int .i64 a0_1] 25 ?_;intro B0 hg U1 hbox hb;have n_:=pk4 (E0 bl_ hb) (hbox) ((ge_ hg bl_:w.heap.size≤B0)) ((ge_ hg bl_:w.heap.size≤B0));clear HB;obtain⟨HB,o0,C2,F5⟩:=n_;clear hb hbox hg)|((with_reducible refine X0 (N:=4) rfl ?_);refine L2 4 #[.slice none 0 0,.int .i64 0] 25 ?_;intro S0 hg Z1 hbox hb;have n_:=pk7 (F0 (bo_ o0) hb) (E0 bl_ hb) (hbox) ((ge_ hg bl_:w.heap.size≤S0)) ((ge_ hg bl_:w.heap.size≤S0)) ((nb_ hg (bo_ o0):B0≠S0)) ((nc_ hg (bo_ o0):S0≠B0));clear o0 HB;obtain⟨o0,HB,O0,V9,W9,Q1,F1⟩:=n_;clear hb hbox hg;have V6:=Q1.out;have Z6:=F1.out;have Y2:Z1.cell? ⟨B0,0,none⟩=some (.slice A0_0 l0_0.length c0_0):=(m0 o0.out 0).trans rfl;have z3:Z1.cell? ⟨B0,1,none⟩=some (.int .i64 a0_1):=(m0 o0.out 1).trans rfl;have D3:=t0 o0.out 0;have Z2:=t0 o0.out 1)|(go_at_call 58;(with_reducible refine(q25.calls k _ _ l0_0 a0_1 aS3 _ ?side1 ?side2 A3.out).mono ?_);(case side1=>exact cb_ HR0_0);(case side2=>exact HC0_0.out);rintro e F2 ⟨rfl,hb⟩;have n_:=pk3 (F0 (bo_ o0) hb) (F0 (bo_ O0) hb) (E0 bl_ hb);clear o0 O0 HB;obtain⟨o0,O0,HB⟩:=n_;(try clear hb);have z4:F2.cell? ⟨B0,0,none⟩=some (.slice A0_0 l0_0.length c0_0):=(m0 o0.out 0).trans rfl;have C4:F2.cell? ⟨B0,1,none⟩=some (.int .i64 a0_1):=(m0 o0.out 1).trans rfl;have j4:=t0 o0.out 0;have Z3:=t0 o0.out 1)|(go_at_call 59;(with_reducible refine(q64.calls _ _ l0_0 a0_1 o9 ae9 _ ?side1 ?side2 A5.out).mono ?_);(case side1=>exact cb_ HR0_0);(case side2=>exact HC0_0.out);rintro e X2 ⟨M4,rfl,M0,hb⟩;have n_:=pk4 (Kd.R_lower M0 (L0 bl_)) (F0 (bo_ o0) hb) (F0 (bo_ O0) hb) (E0 bl_ hb);clear o0 O0 HB;obtain⟨C0,o0,O0,HB⟩:=n_;(try clear hb M0);obtain⟨T0,R0,S1⟩:=Kd.R_slice C0.out;subst S1;have W8:X2.cell? ⟨B0,0,none⟩=some (.slice A0_0 l0_0.length c0_0):=(m0 o0.out 0).trans rfl;have j9:X2.cell? ⟨B0,1,none⟩=some (.int .i64 a0_1):=(m0 o0.out 1).trans rfl;have d9:=t0 o0.out 0;have Y8:=t0 o0.out 1)|((with_reducible refine an3 (t:=25) (p:=2) rfl ?_);(try(rw [aF9 X2];generalize hq_:World.drewN X2 _=X2;have n7000_:=q5.mk (Kd.R_at hq_ C0.out);have n7001_:=q5.mk (aO4 hq_ o0.out);have n7002_:=q5.mk (aO4 hq_ O0.out);have n7003_:=q5.mk (aY0 hq_ HB.out);clear hq_ C0 o0 O0 HB;have C0:=n7000_;have o0:=n7001_;have O0:=n7002_;have HB:=n7003_;clear n7000_ n7001_ n7002_ n7003_));refine ai1 (t:=25) (p:=2) (v:=?vo_w33) (w1:=((X2.setCell ⟨B0,0,none⟩ (.slice T0 o9.length R0)).setCell ⟨B0,1,none⟩ (.int .i64 ae9))) ?hg ?ho ?hn ?hr ?_;(case ho=>rfl);(case hg=>rfl);(case hn=>rfl);(case hr=>first|(go_simp;done)|(go_simp;rfl));intro G4 hw;have n7000_:q5 (Kd.R (Kd.int .u8) 5 G4 w.heap.size (fun _=>True) (.slice T0 o9.length R0) o9):=⟨(by rw [hw];exact(rt_ (Kd.R_mono (Kd.R_far (p:=⟨B0,1,none⟩) (Kd.R_far (p:=⟨B0,0,none⟩) (Kd.R_types C0.out o0.out (by decide)) (fun _ hk=>hk.2) (.slice T0 o9.length R0)) (fun _ hk=>hk.2) (.int .i64 ae9)) (fun _ hk=>trivial))))⟩;have n7001_:q5 (G4.heap[B0]?=some (.cells #[.slice T0 o9.length R0,.int .i64 ae9] 25 (0,0))):=⟨(by rw [hw];exact(by(with_reducible repeat(first|refine G0 ?_ _|refine J0 ?_|refine I0 ?_ _));refine D1 (cs:=#[.slice T0 o9.length R0,.int .i64 a0_1]) ?_ 1 _ rfl;(with_reducible repeat(first|refine G0 ?_ _|refine J0 ?_|refine I0 ?_ _));refine D1 (cs:=#[.slice A0_0 l0_0.length c0_0,.int .i64 a0_1]) ?_ 0 _ rfl;exact(bo_ o0)))⟩;have n7002_:q5 (G4.heap[S0]?=some (.cells #[.slice none 0 0,.int .i64 0] 25 (0,0))):=⟨(by rw [hw];exact(by(with_reducible repeat(first|refine G0 ?_ _|refine J0 ?_|refine I0 ?_ _));refine Y0 ?_ F1.out _;(with_reducible repeat(first|refine G0 ?_ _|refine J0 ?_|refine I0 ?_ _));refine Y0 ?_ F1.out _;exact(bo_ O0)))⟩;have n7003_:q5 (Below w.heap.size w G4):=⟨(by rw [hw];exact bl_)⟩;clear hw;clear C0;clear o0;clear O0;clear HB;have C0:=n7000_;have o0:=n7001_;have O0:=n7002_;have HB:=n7003_;clear n7000_ n7001_ n7002_ n7003_)|(go_at_call 16;(with_reducible refine(q60.calls k a1 aF5 _ A6.out).mono ?_);rintro e w' ⟨rfl,⟨nd,rfl⟩⟩;(try first|exact⟨rfl,_,World.drewN_drewN _ _ _⟩|exact⟨rfl,_,Eq.trans (World.drewN_drewN _ _ _) (congrArg (World.drewN _) (Nat.add_assoc _ _ _))⟩);have ad9:G4.cell? ⟨B0,0,none⟩=some (.slice T0 o9.length R0):=(m0 o0.out 0).trans rfl;have ac9:G4.cell? ⟨B0,1,none⟩=some (.int .i64 ae9):=(m0 o0.out 1).trans rfl;have ad5:=t0 o0.out 0;have ad3:=t0 o0.out 1)|(go_at_call 33;(with_reducible refine(q38.calls k a1 aH3 _ A18.out).mono ?_);rintro e w' ⟨rfl,⟨nd,rfl⟩⟩;(try first|exact⟨rfl,_,World.drewN_drewN _ _ _⟩|exact⟨rfl,_,Eq.trans (World.drewN_drewN _ _ _) (congrArg (World.drewN _) (Nat.add_assoc _ _ _))⟩))|(go_at_call 60;(with_reducible refine(q69.calls aH3 ce2 ce0 _ A19.out).mono ?_);rintro e w' ⟨rfl,⟨nd,rfl⟩⟩;(try first|exact⟨rfl,_,World.drewN_drewN _ _ _⟩|exact⟨rfl,_,Eq.trans (World.drewN_drewN _ _ _) (congrArg (World.drewN _) (Nat.add_assoc _ _ _))⟩))|(go_at_call 61;(with_reducible refine(q26.calls k (fun k_=>some k_=(.slice T0 o9.length R0:Value).ownBlock) (.slice T0 o9.length R0) o9 ae9 ce2 ce0 aS2 cd0 w _ ?side1 ?side2 A20.out).mono ?_);(case side1=>exact bl_);(case side2=>exact Kd.R_tight rfl C0.out);rintro e Z9 ⟨z5,rfl,M0,hb,hkp⟩;have n_:=pk4 (Y7 (bo_ o0) hkp (fun hs_=>(fun e_=>(Kd.R_ne C0.out o0.out (by decide)) e_) hs_)) (Y7 (bo_ O0) hkp (fun hs_=>(fun e_=>(Kd.R_ne C0.out O0.out (by decide)) e_) hs_)) (Kd.R_mono (ok':=fun k_=>True) M0 (fun k_ hk_=>trivial)) (hb);clear o0 O0 HB C0;obtain⟨o0,O0,Q0,HB⟩:=n_;(try clear hb hkp M0))|(go_at_call 62;(with_reducible refine(q70.calls a1 bb8 _ A21.out).mono ?_);rintro e w' ⟨rfl,⟨nd,rfl⟩⟩;(try first|exact⟨rfl,_,World.drewN_drewN _ _ _⟩|exact⟨rfl,_,Eq.trans (World.drewN_drewN _ _ _) (congrArg (World.drewN _) (Nat.add_assoc _ _ _))⟩))|(go_at_call 63;(with_reducible refine(q61.calls aH3 bc8 _ A22.out).mono ?_);rintro e w' ⟨rfl,⟨nd,rfl⟩⟩;(try first|exact⟨rfl,_,World.drewN_drewN _ _ _⟩|exact⟨rfl,_,Eq.trans (World.drewN_drewN _ _ _) (congrArg (World.drewN _) (Nat.add_assoc _ _ _))⟩);obtain⟨X1,V1,U2⟩:=Kd.R_slice Q0.out;subst U2)|(go_at_call 61;(with_reducible refine(q26.calls k (fun k_=>some k_=(.slice X1 aS2.length V1:Value).ownBlock) (.slice X1 aS2.length V1) aS2 cd0 bb8 bc8 cd9 cl0 w _ ?side1 ?side2 A23.out).mono ?_);(case side1=>exact bl_);(case side2=>exact Kd.R_tight rfl Q0.out);rintro e au8 ⟨ae1,rfl,M0,hb,hkp⟩;have n_:=pk4 (Y7 (bo_ o0) hkp (fun hs_=>(fun e_=>(Kd.R_ne Q0.out o0.out (by decide)) e_) hs_)) (Y7 (bo_ O0) hkp (fun hs_=>(fun e_=>(Kd.R_ne Q0.out O0.out (by decide)) e_) hs_)) (Kd.R_mono (ok':=fun k_=>True) M0 (fun k_ hk_=>trivial)) (hb);clear o0 O0 HB Q0;obtain⟨o0,O0,E1,HB⟩:=n_;(try clear hb hkp M0);obtain⟨F4,V3,n8⟩:=Kd.R_slice E1.out;subst n8;have aC0:au8.cell? ⟨S0,0,none⟩=some (.slice none 0 0):=(m0 O0.out 0).trans rfl;have aB9:au8.cell? ⟨S0,1,none⟩=some (.int .i64 0):=(m0 O0.out 1).trans rfl;have aB5:=t0 O0.out 0;have aC2:=t0 O0.out 1));try go_wp2_with (first|((with_reducible refine X0 (N:=2) rfl ?_);refine L2 2 #[.slice A0_0 l0_0.length c0_0,.int .i64 a0_1] 25 ?_;intro B0 hg U1 hbox hb;have n_:=pk4 (E0 bl_ hb) (hbox) ((ge_ hg bl_:w.heap.size≤B0)) ((ge_ hg bl_:w.heap.size≤B0));clear HB;obtain⟨HB,o0,C2,F5⟩:=n_;clear hb hbox hg)|((with_reducible refine X0 (N:=4) rfl ?_);refine L2 4 #[.slice none 0 0,.int .i64 0] 25 ?_;intro S0 hg Z1 hbox hb;have n_:=pk7 (F0 (bo_ o0) hb) (E0 bl_ hb) (hbox) ((ge_ hg bl_:w.heap.size≤S0)) ((ge_ hg bl_:w.heap.size≤S0)) ((nb_ hg (bo_ o0):B0≠S0)) ((nc_ hg (bo_ o0):S0≠B0));clear o0 HB;obtain⟨o0,HB,O0,V9,W9,Q1,F1⟩:=n_;clear hb hbox hg;have V6:=Q1.out;have Z6:=F1.out;have Y2:Z1.cell? ⟨B0,0,none⟩=some (.slice A0_0 l0_0.length c0_0):=(m0 o0.out 0).trans rfl;have z3:Z1.cell? ⟨B0,1,none⟩=some (.int .i64 a0_1):=(m0 o0.out 1).trans rfl;have D3:=t0 o0.out 0;have Z2:=t0 o0.out 1)|(go_at_call 58;(with_reducible refine(q25.calls k _ _ l0_0 a0_1 aS3 _ ?side1 ?side2 A3.out).mono ?_);(case side1=>exact cb_ HR0_0);(case side2=>exact HC0_0.out);rintro e F2 ⟨rfl,hb⟩;have n_:=pk3 (F0 (bo_ o0) hb) (F0 (bo_ O0) hb) (E0 bl_ hb);clear o0 O0 HB;obtain⟨o0,O0,HB⟩:=n_;(try clear hb);have z4:F2.cell? ⟨B0,0,none⟩=some (.slice A0_0 l0_0.length c0_0):=(m0 o0.out 0).trans rfl;have C4:F2.cell? ⟨B0,1,none⟩=some (.int .i64 a0_1):=(m0 o0.out 1).trans rfl;have j4:=t0 o0.out 0;have Z3:=t0 o0.out 1)|(go_at_call 59;(with_reducible refine(q64.calls _ _ l0_0 a0_1 o9 ae9 _ ?side1 ?side2 A5.out).mono ?_);(case side1=>exact cb_ HR0_0);(case side2=>exact HC0_0.out);rintro e X2 ⟨M4,rfl,M0,hb⟩;have n_:=pk4 (Kd.R_lower M0 (L0 bl_)) (F0 (bo_ o0) hb) (F0 (bo_ O0) hb) (E0 bl_ hb);clear o0 O0 HB;obtain⟨C0,o0,O0,HB⟩:=n_;(try clear hb M0);obtain⟨T0,R0,S1⟩:=Kd.R_slice C0.out;subst S1;have W8:X2.cell? ⟨B0,0,none⟩=some (.slice A0_0 l0_0.length c0_0):=(m0 o0.out 0).trans rfl;have j9:X2.cell? ⟨B0,1,none⟩=some (.int .i64 a0_1):=(m0 o0.out 1).trans rfl;have d9:=t0 o0.out 0;have Y8:=t0 o0.out 1)|((with_reducible refine an3 (t:=25) (p:=2) rfl ?_);(try(rw [aF9 X2];generalize hq_:World.drewN X2 _=X2;have n7000_:=q5.mk (Kd.R_at hq_ C0.out);have n7001_:=q5.mk (aO4 hq_ o0.out);have n7002_:=q5.mk (aO4 hq_ O0.out);have n7003_:=q5.mk (aY0 hq_ HB.out);clear hq_ C0 o0 O0 HB;have C0:=n7000_;have o0:=n7001_;have O0:=n7002_;have HB:=n7003_;clear n7000_ n7001_ n7002_ n7003_));refine ai1 (t:=25) (p:=2) (v:=?vo_w33) (w1:=((X2.setCell ⟨B0,0,none⟩ (.slice T0 o9.length R0)).setCell ⟨B0,1,none⟩ (.int .i64 ae9))) ?hg ?ho ?hn ?hr ?_;(case ho=>rfl);(case hg=>rfl);(case hn=>rfl);(case hr=>first|(go_simp;done)|(go_simp;rfl));intro G4 hw;have n7000_:q5 (Kd.R (Kd.int .u8) 5 G4 w.heap.size (fun _=>True) (.slice T0 o9.length R0) o9):=⟨(by rw [hw];exact(rt_ (Kd.R_mono (Kd.R_far (p:=⟨B0,1,none⟩) (Kd.R_far (p:=⟨B0,0,none⟩) (Kd.R_types C0.out o0.out (by decide)) (fun _ hk=>hk.2) (.slice T0 o9.length R0)) (fun _ hk=>hk.2) (.int .i64 ae9)) (fun _ hk=>trivial))))⟩;have n7001_:q5 (G4.heap[B0]?=some (.cells #[.slice T0 o9.length R0,.int .i64 ae9] 25 (0,0))):=⟨(by rw [hw];exact(by(with_reducible repeat(first|refine G0 ?_ _|refine J0 ?_|refine I0 ?_ _));refine D1 (cs:=#[.slice T0 o9.length R0,.int .i64 a0_1]) ?_ 1 _ rfl;(with_reducible repeat(first|refine G0 ?_ _|refine J0 ?_|refine I0 ?_ _));refine D1 (cs:=#[.slice A0_0 l0_0.length c0_0,.int .i64 a0_1]) ?_ 0 _ rfl;exact(bo_ o0)))⟩;have n7002_:q5 (G4.heap[S0]?=some (.cells #[.slice none 0 0,.int .i64 0] 25 (0,0))):=⟨(by rw [hw];exact(by(with_reducible repeat(first|refine G0 ?_ _|refine J0 ?_|refine I0 ?_ _));refine Y0 ?_ F1.out _;(with_reducible repeat(first|refine G0 ?_ _|refine J0 ?_|refine I0 ?_ _));refine Y0 ?_ F1.out _;exact(bo_ O0)))⟩;have n7003_:q5 (Below w.heap.size w G4):=⟨(by rw [hw];exact bl_)⟩;clear hw;clear C0;clear o0;clear O0;clear HB;have C0:=n7000_;have o0:=n7001_;have O0:=n7002_;have HB:=n7003_;clear n7000_ n7001_ n7002_ n7003_)|(go_at_call 16;(with_reducible refine(q60.calls k a1 aF5 _ A6.out).mono ?_);rintro e w' ⟨rfl,⟨nd,rfl⟩⟩;(try first|exact⟨rfl,_,World.drewN_drewN _ _ _⟩|exact⟨rfl,_,Eq.trans (World.drewN_drewN _ _ _) (congrArg (World.drewN _) (Nat.add_assoc _ _ _))⟩);have ad9:G4.cell? ⟨B0,0,none⟩=some (.slice T0 o9.length R0):=(m0 o0.out 0).trans rfl;have ac9:G4.cell? ⟨B0,1,none⟩=some (.int .i64 ae9):=(m0 o0.out 1).trans rfl;have ad5:=t0 o0.out 0;have ad3:=t0 o0.out 1)|(go_at_call 33;(with_reducible refine(q38.calls k a1 aH3 _ A18.out).mono ?_);rintro e w' ⟨rfl,⟨nd,rfl⟩⟩;(try first|exact⟨rfl,_,World.drewN_drewN _ _ _⟩|exact⟨rfl,_,Eq.trans (World.drewN_drewN _ _ _) (congrArg (World.drewN _) (Nat.add_assoc _ _ _))⟩))|(go_at_call 60;(with_reducible refine(q69.calls aH3 ce2 ce0 _ A19.out).mono ?_);rintro e w' ⟨rfl,⟨nd,rfl⟩⟩;(try first|exact⟨rfl,_,World.drewN_drewN _ _ _⟩|exact⟨rfl,_,Eq.trans (World.drewN_drewN _ _ _) (congrArg (World.drewN _) (Nat.add_assoc _ _ _))⟩))|(go_at_call 61;(with_reducible refine(q26.calls k (fun k_=>some k_=(.slice T0 o9.length R0:Value).ownBlock) (.slice T0 o9.length R0) o9 ae9 ce2 ce0 aS2 cd0 w _ ?side1 ?side2 A20.out).mono ?_);(case side1=>exact bl_);(case side2=>exact Kd.R_tight rfl C0.out);rintro e Z9 ⟨z5,rfl,M0,hb,hkp⟩;have n_:=pk4 (Y7 (bo_ o0) hkp (fun hs_=>(fun e_=>(Kd.R_ne C0.out o0.out (by decide)) e_) hs_)) (Y7 (bo_ O0) hkp (fun hs_=>(fun e_=>(Kd.R_ne C0.out O0.out (by decide)) e_) hs_)) (Kd.R_mono (ok':=fun k_=>True) M0 (fun k_ hk_=>trivial)) (hb);clear o0 O0 HB C0;obtain⟨o0,O0,Q0,HB⟩:=n_;(try clear hb hkp M0))|(go_at_call 62;(with_reducible refine(q70.calls a1 bb8 _ A21.out).mono ?_);rintro e w' ⟨rfl,⟨nd,rfl⟩⟩;(try first|exact⟨rfl,_,World.drewN_drewN _ _ _⟩|exact⟨rfl,_,Eq.trans (World.drewN_drewN _ _ _) (congrArg (World.drewN _) (Nat.add_assoc _ _ _))⟩))|(go_at_call 63;(with_reducible refine(q61.calls aH3 bc8 _ A22.out).mono ?_);rintro e w' ⟨rfl,⟨nd,rfl⟩⟩;(try first|exact⟨rfl,_,World.drewN_drewN _ _ _⟩|exact⟨rfl,_,Eq.trans (World.drewN_drewN _ _ _) (congrArg (World.drewN _) (Nat.add_assoc _ _ _))⟩);obtain⟨X1,V1,U2⟩:=Kd.R_slice Q0.out;subst U2)|(go_at_call 61;(with_reducible refine(q26.calls k (fun k_=>some k_=(.slice X1 aS2.length V1:Value).ownBlock) (.slice X1 aS2.length V1) aS2 cd0 bb8 bc8 cd9 cl0 w _ ?side1 ?side2 A23.out).mono ?_);(case side1=>exact bl_);(case side2=>exact Kd.R_tight rfl Q0.out);rintro e au8 ⟨ae1,rfl,M0,hb,hkp⟩;have n_:=pk4 (Y7 (bo_ o0) hkp (fun hs_=>(fun e_=>(Kd.R_ne Q0.out o0.out (by decide)) e_) hs_)) (Y7 (bo_ O0) hkp (fun hs_=>(fun e_=>(Kd.R_ne Q0.out O0.out (by decide)) e_) hs_)) (Kd.R_mono (ok':=fun k_=>True) M0 (fun k_ hk_=>trivial)) (hb);clear o0 O0 HB Q0;obtain⟨o0,O0,E1,HB⟩:=n_;(try clear hb hkp M0);obtain⟨F4,V3,n8⟩:=Kd.R_slice E1.out;subst n8;have aC0:au8.cell? ⟨S0,0,none⟩=some (.slice none 0 0):=(m0 O0.out 0).trans rfl;have aB9:au8.cell? ⟨S0,1,none⟩=some (.int .i64 0):=(m0 O0.out 1).trans rfl;have aB5:=t0 O0.out 0;have aC2:=t0 O0.out 1)))
    refine bodyPost_ret (N5 rfl _ _ S0 25 #[.slice F4 cd9.length V3,.int .i64 cl0] (0,0) _ rfl (by(with_reducible repeat(first|refine G0 ?_ _|refine J0 ?_|refine I0 ?_ _));refine D1 (cs:=#[.slice F4 cd9.length V3,.int .i64 0]) ?_ 1 _ rfl;(with_reducible repeat(first|refine G0 ?_ _|refine J0 ?_|refine I0 ?_ _));refine D1 (cs:=#[.slice none 0 0,.int .i64 0]) ?_ 0 _ rfl;exact(bo_ O0)) Try.underlying25 rfl (by kernel_rfl)) rfl ?_
    exact⟨_,rf_,(rt_ (Kd.R_mono (Kd.R_far (p:=⟨S0,1,none⟩) (Kd.R_far (p:=⟨S0,0,none⟩) (Kd.R_types E1.out O0.out (by decide)) (fun _ hk=>hk.2) (.slice F4 cd9.length V3)) (fun _ hk=>hk.2) (.int .i64 cl0)) (fun _ hk=>trivial))),bl_⟩
end Go.Proofs.Ytmddmbagehjdeaa.G
end
section
namespace Go.Proofs.Ytmddmbagehjdeaa.G
open Go.RowKit Go.Proofs.YtmddmbagehjdeaaX Go.Proofs.YtmddmbagehjdeaaW.PrintWords Go.Proofs.YtmddmbagehjdeaaW.PrintLast Go.Proofs.YtmddmbagehjdeaaW.PrintMore
attribute [local go_sem] S3 R3 R4 S4 P3 N3 D4 Y3
def af5 (W:World) (A:Option Addr) (c:Nat) (f:List Int):Prop:=f.length≤c∧∀ W':World,(∀ (k:Nat) (cs:Array Value) (fr:Nat×Nat),W.heap[k]?=some (Obj.cells cs 5 fr)→W'.heap[k]?=W.heap[k]?)→Kd.C (Kd.int .u8) W' A f.length f
theorem af5.step {W W1:World} {A:Option Addr} {c:Nat} {f:List Int} (h:af5 W A c f) (hk:∀ (k:Nat) (cs:Array Value) (fr:Nat×Nat),W.heap[k]?=some (Obj.cells cs 5 fr)→W1.heap[k]?=W.heap[k]?):af5 W1 A c f:=⟨h.1,fun W' hW=>h.2 W' (fun k cs fr hc=>(hW k cs fr ((hk k cs fr hc).trans hc)).trans (hk k cs fr hc))⟩
theorem af5.now {W:World} {A:Option Addr} {c:Nat} {f:List Int} (h:af5 W A c f):Kd.C (Kd.int .u8) W A f.length f:=h.2 W (fun _ _ _ _=>rfl)
theorem af5.of_R {W:World} {base:Nat} {ok:Nat→Prop} {A:Option Addr} {n c:Nat} {f:List Int} (h:Kd.R (Kd.int .u8) 5 W base ok (.slice A n c) f):af5 W A c f:=⟨by have h1:=Kd.R_reads' h;omega,fun W' hW=>(Kd.R_reads' (Kd.R_move (Kd.R_bound h) (fun k hk=>by
 obtain⟨_,_,_,q,hq,cells,hc⟩:=hk
 have hq':q=5:=by rw [show(Kd.int .u8).E=[] from rfl] at hq;simpa using hq
 subst hq'
 exact hW k cells (0,0) hc))).2.2⟩
theorem af5.nil (W:World):af5 W none 0 []:=⟨Nat.le_refl _,fun W' _=>Kd.C_nil _ _⟩
def bi1 (W:World) (g:Nat) (row:Option Nat):Prop:=some g≠row∧∀ (r:Nat),row=some r→∀ (cs:Array Value) (fr:Nat×Nat),W.heap[r]?≠some (Obj.cells cs 5 fr)
theorem af5.grown {W W1:World} {g:Nat} {row:Option Nat} {A:Option Addr} {c:Nat} {f:List Int} (h:af5 W A c f) (hw:W.grownBy W1 row) (hne:bi1 W g row):af5 W1 A c f:=h.step (fun k cs fr hc=>hw.block k (U6 hc) (fun e=>hne.2 k e.symm cs fr hc))
theorem af5.setAt {W:World} {g:Nat} {A:Option Addr} {c:Nat} {f:List Int} (h:af5 W A c f) (p:Addr) (u:Value) (hu:∀ (cs:Array Value) (fr:Nat×Nat),W.heap[p.block]?≠some (Obj.cells cs 5 fr)):af5 (W.setCell p u) A c f:=h.step (fun k cs fr hc=>Below.heap_setCell _ _ _ _ (fun e=>hu cs fr (by rw [←e];exact hc)))
theorem bi1.of_R {α:Type} {d:Kd α} {e:Nat} {base:Nat} {ok:Nat→Prop} {v:Value} {xs:List α} {W:World} {g:Nat} (ho:d.R e W base ok v xs) (hg:some g≠v.ownBlock) (ht:e≠5):bi1 W g v.ownBlock:=⟨hg,fun r hr cs fr hc=>by
 obtain⟨inner,hown⟩:=Kd.R_own ho
 obtain⟨cells,hc'⟩:=aB6 hown r hr
 rw [hc] at hc'
 injection hc' with hc'
 injection hc' with _ ht2
 exact ht ht2.symm⟩
def U0 (w0 W:World) (g:Nat) (f0:List Int) (f1:Int) (f2:Int):Prop:=∃ A0 c0,W.heap[g]?=some (.cells #[.slice A0 f0.length c0,.int .i64 f1,.int .i64 f2] 52 (0,0))∧w0.heap.size≤g∧af5 W A0 c0 f0
theorem U0.grown {w0 W:World} {g:Nat} {f0:List Int} {f1:Int} {f2:Int} {W1:World} {row:Option Nat} (h:U0 w0 W g f0 f1 f2) (hw:W.grownBy W1 row) (hne:bi1 W g row):U0 w0 W1 g f0 f1 f2:=by
 obtain⟨A0,c0,hb,hg,hr0⟩:=h
 exact⟨A0,c0,D5 hb hw hne.1,hg,hr0.grown hw hne⟩
theorem U0.fresh {w0 W:World} {g:Nat} {f0:List Int} {f1:Int} {f2:Int} (h:U0 w0 W g f0 f1 f2):∀ k,W.heap.size≤k→k≠g:=by
 obtain⟨A0,c0,hb,hg,hr0⟩:=h
 exact Kd.freshB hb
theorem U0.kept {w0 W:World} {g:Nat} {f0:List Int} {f1:Int} {f2:Int} {W1:World} {S:Nat→Prop} (h:U0 w0 W g f0 f1 f2) (hk:Kept W W1 S) (hne:¬ S g) (hu:∀ k,S k→∀ (cs:Array Value) (fr:Nat×Nat),W.heap[k]?≠some (Obj.cells cs 5 fr)):U0 w0 W1 g f0 f1 f2:=by
 obtain⟨A0,c0,hb,hg,hr0⟩:=h
 exact⟨A0,c0,Y7 hb hk hne,hg,hr0.step (fun k cs fr hc=>hk.2 k (U6 hc) (fun hs=>hu k hs cs fr hc))⟩
theorem U0.below {w0 W:World} {g:Nat} {f0:List Int} {f1:Int} {f2:Int} {W1:World} (h:U0 w0 W g f0 f1 f2) (hw:Below W.heap.size W W1):U0 w0 W1 g f0 f1 f2:=h.grown (ax1 hw none) ⟨by simp,fun r hr=>by cases hr⟩
theorem U0.alloc {w0 W:World} {g:Nat} {f0:List Int} {f1:Int} {f2:Int} (h:U0 w0 W g f0 f1 f2) (o:Obj):U0 w0 (W.alloc o) g f0 f1 f2:=h.below (R1 (Below.refl _ _) o)
theorem U0.drewN {w0 W:World} {g:Nat} {f0:List Int} {f1:Int} {f2:Int} (h:U0 w0 W g f0 f1 f2) (m:Nat):U0 w0 (W.drewN m) g f0 f1 f2:=h
theorem U0.drew {w0 W:World} {g:Nat} {f0:List Int} {f1:Int} {f2:Int} (h:U0 w0 W g f0 f1 f2):U0 w0 W.drew g f0 f1 f2:=h
theorem U0.at_ {w0 W:World} {g:Nat} {f0:List Int} {f1:Int} {f2:Int} {w':World} {m:Nat} (hq:W.drewN m=w') (h:U0 w0 W g f0 f1 f2):U0 w0 w' g f0 f1 f2:=by subst hq;exact U0.drewN h m
theorem U0.apart {w0 W:World} {g:Nat} {f0:List Int} {f1:Int} {f2:Int} {α:Type} {d:Kd α} {e:Nat} {base:Nat} {ok:Nat→Prop} {v:Value} {xs:List α} (h:U0 w0 W g f0 f1 f2) (ho:d.R e W base ok v xs) (ht:∀ q,q ∈ e::d.E→q≠52):d.R e W base (fun k=>ok k∧k≠g) v xs:=by
 obtain⟨A0,c0,hb,hg,hr0⟩:=h
 exact Kd.R_types ho hb ht
theorem U0.own_ne {w0 W:World} {g:Nat} {f0:List Int} {f1:Int} {f2:Int} {α:Type} {d:Kd α} {e:Nat} {base:Nat} {ok:Nat→Prop} {v:Value} {xs:List α} (h:U0 w0 W g f0 f1 f2) (ho:d.R e W base ok v xs) (ht:e≠52):some g≠v.ownBlock:=by
 obtain⟨A0,c0,hb,hg,hr0⟩:=h
 exact Kd.R_ne ho hb ht
theorem U0.lt {w0 W:World} {g:Nat} {f0:List Int} {f1:Int} {f2:Int} (h:U0 w0 W g f0 f1 f2):g<W.heap.size:=by
 obtain⟨A0,c0,hb,hg,hr0⟩:=h
 exact U6 hb
theorem U0.ge {w0 W:World} {g:Nat} {f0:List Int} {f1:Int} {f2:Int} (h:U0 w0 W g f0 f1 f2):w0.heap.size≤g:=by
 obtain⟨A0,c0,hb,hg,hr0⟩:=h
 exact hg
theorem U0.ne_blk {w0 W:World} {g:Nat} {f0:List Int} {f1:Int} {f2:Int} {a:Nat} {cs:Array Value} {t:TypeId} {fr:Nat×Nat} (h:U0 w0 W g f0 f1 f2) (hb2:W.heap[a]?=some (.cells cs t fr)) (ht:t≠52):g≠a:=by
 obtain⟨A0,c0,hb,hg,hr0⟩:=h
 rintro rfl
 rw [hb] at hb2
 injection hb2 with hb2
 injection hb2 with _ ht2
 exact ht ht2.symm
theorem U0.far {w0 W:World} {g:Nat} {f0:List Int} {f1:Int} {f2:Int} {p:Addr} (h:U0 w0 W g f0 f1 f2) (hne:g≠p.block) (hu:∀ (cs:Array Value) (fr:Nat×Nat),W.heap[p.block]?≠some (Obj.cells cs 5 fr)) (u:Value):U0 w0 (W.setCell p u) g f0 f1 f2:=by
 obtain⟨A0,c0,hb,hg,hr0⟩:=h
 exact⟨A0,c0,Y0 hb hne u,hg,hr0.setAt (g:=g) p u hu⟩
theorem ak2 {W:World} {g:Nat} {A0:Option Addr} {c0:Nat} {f0:List Int} {f1:Int} {f2:Int} (h:W.heap[g]?=some (.cells #[.slice A0 f0.length c0,.int .i64 f1,.int .i64 f2] 52 (0,0))):W.cell? ⟨g,0,none⟩=some (.slice A0 f0.length c0):=(m0 h 0).trans rfl
theorem ak6 {W:World} {g:Nat} {A0:Option Addr} {c0:Nat} {f0:List Int} {f1:Int} {f2:Int} (h:W.heap[g]?=some (.cells #[.slice A0 f0.length c0,.int .i64 f1,.int .i64 f2] 52 (0,0))):W.cell? ⟨g,1,none⟩=some (.int .i64 f1):=(m0 h 1).trans rfl
theorem U0.set_1 {w0 W:World} {g:Nat} {f0:List Int} {f1:Int} {f2:Int} (h:U0 w0 W g f0 f1 f2) (x:Int):U0 w0 (W.setCell ⟨g,1,none⟩ (.int .i64 x)) g f0 x f2:=by
 obtain⟨A0,c0,hb,hg,hr0⟩:=h
 exact⟨A0,c0,by simpa using S8 hb 1 (.int .i64 x),hg,hr0.setAt (g:=g) _ _ (fun cs fr hc=>by rw [hb] at hc;injection hc with hc;injection hc with _ ht2;exact absurd ht2 (by decide))⟩
theorem al0 {W:World} {g:Nat} {A0:Option Addr} {c0:Nat} {f0:List Int} {f1:Int} {f2:Int} (h:W.heap[g]?=some (.cells #[.slice A0 f0.length c0,.int .i64 f1,.int .i64 f2] 52 (0,0))):W.cell? ⟨g,2,none⟩=some (.int .i64 f2):=(m0 h 2).trans rfl
theorem U0.set_2 {w0 W:World} {g:Nat} {f0:List Int} {f1:Int} {f2:Int} (h:U0 w0 W g f0 f1 f2) (x:Int):U0 w0 (W.setCell ⟨g,2,none⟩ (.int .i64 x)) g f0 f1 x:=by
 obtain⟨A0,c0,hb,hg,hr0⟩:=h
 exact⟨A0,c0,by simpa using S8 hb 2 (.int .i64 x),hg,hr0.setAt (g:=g) _ _ (fun cs fr hc=>by rw [hb] at hc;injection hc with hc;injection hc with _ ht2;exact absurd ht2 (by decide))⟩
def q63.f (s0_0:List Int) (s0_1:Int) (s0_2:Int):Option (Int×Int×Int):=some (wrap64 (s0_1 - s0_2),s0_1,s0_2)
theorem q63.calls (g:Nat) (s0_0:List Int) (s0_1:Int) (s0_2:Int) (r1:Int) (r2:Int) (r3:Int) (w0 w:World) (hI:U0 w0 w g s0_0 s0_1 s0_2) (hB:Below w0.heap.size w0 w) (h:q63.f s0_0 s0_1 s0_2=some (r1,r2,r3)) :
  Calls Try.prog 19 #[.pointer (some ⟨g,0,none⟩)] w fun e w'=>e=.returned (.int .i64 r1)∧U0 w0 w' g s0_0 r2 r3∧Below w0.heap.size w0 w'∧G2 w w' g none:=by
 have HI0:=q5.mk hI
 have HK:=q5.mk (G2.refl w g none)
 have HL:=q5.mk hB.size
 clear hI
 have HW0:=q5.mk hB.size
 have HB:=q5.mk hB
 clear hB
 have H:(some (wrap64 (s0_1 - s0_2),s0_1,s0_2))=some (r1,r2,r3):=h
 clear h
 simp only [Option.some.injEq,Prod.mk.injEq] at H
 obtain⟨rfl,rfl,rfl⟩:=H
 obtain⟨ASz2_0,cSz2_0,HGz2,hgz2,HSz2_0⟩:=HI0.out
 have hcz2_0:=ak2 HGz2
 have hcz2_1:=ak6 HGz2
 have hcz2_2:=al0 HGz2
 have hfz2_1:=t0 HGz2 1
 have hfz2_2:=t0 HGz2 2
 clear HGz2 hgz2
 go_enter Try.func19,Try.ntmps19
 go_wp2
 repeat(go_quiet (fail);try go_wp2)
 go_ret
 exact⟨rf_,by repeat(first|(with_reducible first|exact HI0.out|apply U0.alloc|apply U0.drewN|apply U0.drew|apply U0.set_1|apply U0.set_2)|exact HI0.out),by repeat(first|(with_reducible first|exact HB.out|apply R1|apply M1|apply N1|refine P1 ?_ (U0.ge HI0.out))|exact HB.out),by repeat(first|(with_reducible first|exact HK.out|apply G2.set_|apply O6|apply r7|apply N6)|exact HK.out)⟩
def q48.l0:Nat→Int→Int→Int→List Int→Int→Option (Int)
 |0,_,_,_,_,_=>none
 |k+1,x1,x2,x7,bk4,cx4=>if x2>0 then(if 0≤(wrap64 (Int.tdiv x1 8))then(if(wrap64 (Int.tdiv x1 8))<(bk4.length:Int)then(if 0≤(Int.tmod x1 8)then(if 0≤(wrap64 (8 - (mn x2 (wrap64 (8 - (Int.tmod x1 8))))))then(if 0≤(mn x2 (wrap64 (8 - (Int.tmod x1 8))))then(q48.l0 k (wrap64 (x1+(mn x2 (wrap64 (8 - (Int.tmod x1 8)))))) (wrap64 (x2 - (mn x2 (wrap64 (8 - (Int.tmod x1 8)))))) (Go.bits .or .u64 (shl .u64 x7 (mn x2 (wrap64 (8 - (Int.tmod x1 8))))) (IntKind.u64.wrap (shr .u8 (shl .u8 (rd bk4 (wrap64 (Int.tdiv x1 8))) (Int.tmod x1 8)) (wrap64 (8 - (mn x2 (wrap64 (8 - (Int.tmod x1 8))))))))) bk4 cx4)else(none))else(none))else(none))else(none))else(none))else(some x7)
def q48.f (k:Nat) (l0_0:List Int) (a0_1:Int) (a1:Int) (a2:Int):Option (Int):=q48.l0 k a1 a2 0 l0_0 a0_1
theorem q48.mono_l:∀ k,(∀ y0 y1 y2 y3 y4,LeO (q48.l0 k y0 y1 y2 y3 y4) (q48.l0 (k+1) y0 y1 y2 y3 y4))
 |0=>fun _ _ _ _ _ r h=>by simp [q48.l0] at h
 |k+1=>by
  have ih0:=q48.mono_l k
  ·intro y0 y1 y2 y3 y4
   unfold q48.l0
   repeat' first
   |(with_reducible exact ih0 _ _ _ _ _)
   |(with_reducible exact LeO.refl _)
   |(with_reducible exact LeO.none _)
   |(with_reducible refine LeO.ite ?_ ?_)
   |(with_reducible refine LeO.bind ?_ (fun _=>?_))
   |exact ih0 _ _ _ _ _
   |exact LeO.none _
   |refine LeO.ite ?_ ?_
   |refine LeO.bind ?_ (fun _=>?_)
theorem q48.mono:∀ a0 a1 a2 a3 k,LeO (q48.f k a0 a1 a2 a3) (q48.f (k+1) a0 a1 a2 a3):=by
 intro a0 a1 a2 a3 k
 have ih0:=q48.mono_l k
 unfold q48.f
 repeat' first
   |(with_reducible exact ih0 _ _ _ _ _)
   |(with_reducible exact LeO.refl _)
   |(with_reducible exact LeO.none _)
   |(with_reducible refine LeO.ite ?_ ?_)
   |(with_reducible refine LeO.bind ?_ (fun _=>?_))
   |exact ih0 _ _ _ _ _
   |exact LeO.none _
   |refine LeO.ite ?_ ?_
   |refine LeO.bind ?_ (fun _=>?_)
theorem q48.calls (k:Nat) (A0_0:Option Addr) (c0_0:Nat) (l0_0:List Int) (a0_1:Int) (a1:Int) (a2:Int) (r:Int) (w:World) (hr0_0:Kd.C (Kd.int .u8) w A0_0 l0_0.length l0_0) (hc0_0:l0_0.length≤c0_0) (h:q48.f k l0_0 a0_1 a1 a2=some r) :
  Calls Try.prog 65 #[.agg #[.slice A0_0 l0_0.length c0_0,.int .i64 a0_1],.int .i64 a1,.int .i64 a2] w fun e w'=>e=.returned (.int .u64 r)∧Below w.heap.size w w':=by
 have hu25:=Try.underlying25
 have HR0_0:=q5.mk hr0_0
 have HC0_0:=q5.mk hc0_0
 clear hr0_0 hc0_0
 have HB:=q5.mk (Below.refl w.heap.size w)
 have H:(q48.l0 k a1 a2 0 l0_0 a0_1)=some r:=h
 clear h
 have H':=q5.mk H
 clear H
 go_enter Try.func65,Try.ntmps65
 go_wp2_with (first|((with_reducible refine X0 (N:=3) rfl ?_);refine L2 3 #[.slice A0_0 l0_0.length c0_0,.int .i64 a0_1] 25 ?_;intro cr8 hg w4 hbox hb;have n_:=pk4 (E0 bl_ hb) (hbox) ((ge_ hg bl_:w.heap.size≤cr8)) ((ge_ hg bl_:w.heap.size≤cr8));clear HB;obtain⟨HB,bV0,dp2,dr9⟩:=n_;clear hb hbox hg))
 go_loopg [1,2,7] k (fun kq v1 v2 v7 w'=>∃ (x1_1:Int) (x2_1:Int) (x7_1:Int),v1=.int .i64 x1_1∧v2=.int .i64 x2_1∧v7=.int .u64 x7_1∧q5 (q48.l0 kq x1_1 x2_1 x7_1 l0_0 a0_1=some r)∧q5 (kq≤k)∧q5 (w'.heap[cr8]?=some (.cells #[(.slice A0_0 l0_0.length c0_0),.int .i64 a0_1] 25 (0,0)))∧q5 (Below w.heap.size w w'))
 case atStart=>exact⟨(a1),(a2),(0),sm_,sm_,sm_,H',⟨Nat.le_refl _⟩,⟨(bo_ bV0)⟩,⟨bl_⟩⟩
 case round =>
  clear H'
  obtain⟨x1_1,x2_1,x7_1,rfl,rfl,rfl,HA,HK1,bV0,HB⟩:=hrel
  cases gk with
  |zero=>exact absurd HA.out (by simp [q48.l0])
  |succ k1 =>
   have H:=HA.out
   clear HA
   simp only [q48.l0] at H
   replace H:=dgt H
   rcases H with⟨c5b0,H⟩|⟨c5b0,H⟩
   focus
    obtain⟨ji6,hji6⟩:∃ j_:Int,(mn x2_1 (wrap64 (8 - (Int.tmod x1_1 8))))=j_:=⟨_,rfl⟩
    replace H:(if 0≤(wrap64 (Int.tdiv x1_1 8))then(if(wrap64 (Int.tdiv x1_1 8))<(l0_0.length:Int)then(if 0≤(Int.tmod x1_1 8)then(if 0≤(wrap64 (8 - (ji6)))then(if 0≤(ji6)then(q48.l0 k1 (wrap64 (x1_1+(ji6))) (wrap64 (x2_1 - (ji6))) (Go.bits .or .u64 (shl .u64 x7_1 (ji6)) (IntKind.u64.wrap (shr .u8 (shl .u8 (rd l0_0 (wrap64 (Int.tdiv x1_1 8))) (Int.tmod x1_1 8)) (wrap64 (8 - (ji6)))))) l0_0 a0_1)else(none))else(none))else(none))else(none))else(none))=some r:=by first|(rw [hji6] at H;exact H)|(simp only [hji6] at H ⊢;exact H)
    have hji6_:(if(wrap64 (8 - (Int.tmod x1_1 8)))<x2_1 then(wrap64 (8 - (Int.tmod x1_1 8)))else x2_1)=ji6:=hji6
    obtain⟨ji7,hji7⟩:∃ j_:Int,(wrap64 (Int.tdiv x1_1 8))=j_:=⟨_,rfl⟩
    replace H:(if 0≤(ji7)then(if(ji7)<(l0_0.length:Int)then(if 0≤(Int.tmod x1_1 8)then(if 0≤(wrap64 (8 - (ji6)))then(if 0≤(ji6)then(q48.l0 k1 (wrap64 (x1_1+(ji6))) (wrap64 (x2_1 - (ji6))) (Go.bits .or .u64 (shl .u64 x7_1 (ji6)) (IntKind.u64.wrap (shr .u8 (shl .u8 (rd l0_0 (ji7)) (Int.tmod x1_1 8)) (wrap64 (8 - (ji6)))))) l0_0 a0_1)else(none))else(none))else(none))else(none))else(none))=some r:=by first|(rw [hji7] at H;exact H)|(simp only [hji7] at H ⊢;exact H)
    have hji7w:(IntKind.i64.wrap (Int.tdiv x1_1 8))=ji7:=(N0 _).trans hji7
    replace H:=dle H
    rcases H with⟨c8b0,H⟩|⟨c8b0,H⟩
    rotate_left
    ·exact absurd H (by simp)
    replace H:=dle H
    rcases H with⟨c9b0,H⟩|⟨c9b0,H⟩
    rotate_left
    ·exact absurd H (by simp)
    obtain⟨ji10,hji10⟩:∃ j_:Int,(Int.tmod x1_1 8)=j_:=⟨_,rfl⟩
    (try rw [hji10] at hji6_)
    replace H:(if 0≤(ji10)then(if 0≤(wrap64 (8 - (ji6)))then(if 0≤(ji6)then(q48.l0 k1 (wrap64 (x1_1+(ji6))) (wrap64 (x2_1 - (ji6))) (Go.bits .or .u64 (shl .u64 x7_1 (ji6)) (IntKind.u64.wrap (shr .u8 (shl .u8 (rd l0_0 (ji7)) (ji10)) (wrap64 (8 - (ji6)))))) l0_0 a0_1)else(none))else(none))else(none))=some r:=by first|(rw [hji10] at H;exact H)|(simp only [hji10] at H ⊢;exact H)
    by_cases c11:0≤(ji10)
    rotate_left
    ·rw [if_neg c11] at H
     exact absurd H (by simp)
    rw [if_pos c11] at H
    have c11b0:=eq_true c11
    have c11b1:decide (0≤(ji10))=true:=decide_eq_true c11
    clear c11
    obtain⟨ji12,hji12⟩:∃ j_:Int,(shl .u8 (rd l0_0 (ji7)) (ji10))=j_:=⟨_,rfl⟩
    replace H:(if 0≤(wrap64 (8 - (ji6)))then(if 0≤(ji6)then(q48.l0 k1 (wrap64 (x1_1+(ji6))) (wrap64 (x2_1 - (ji6))) (Go.bits .or .u64 (shl .u64 x7_1 (ji6)) (IntKind.u64.wrap (shr .u8 (ji12) (wrap64 (8 - (ji6)))))) l0_0 a0_1)else(none))else(none))=some r:=by first|(rw [hji12] at H;exact H)|(simp only [hji12] at H ⊢;exact H)
    have hji12_:(IntKind.u8.wrap ((rd l0_0 (ji7))*2 ^ min (ji10).toNat 8))=ji12:=hji12
    have hji12z:(ji10)≤8→(IntKind.u8.wrap ((rd l0_0 (ji7))*2 ^ (ji10).toNat))=ji12:=ad0 hji12
    obtain⟨ji13,hji13⟩:∃ j_:Int,(wrap64 (8 - (ji6)))=j_:=⟨_,rfl⟩
    replace H:(if 0≤(ji13)then(if 0≤(ji6)then(q48.l0 k1 (wrap64 (x1_1+(ji6))) (wrap64 (x2_1 - (ji6))) (Go.bits .or .u64 (shl .u64 x7_1 (ji6)) (IntKind.u64.wrap (shr .u8 (ji12) (ji13)))) l0_0 a0_1)else(none))else(none))=some r:=by first|(rw [hji13] at H;exact H)|(simp only [hji13] at H ⊢;exact H)
    have hji13w:(IntKind.i64.wrap (8 - (ji6)))=ji13:=(N0 _).trans hji13
    by_cases c14:0≤(ji13)
    rotate_left
    ·rw [if_neg c14] at H
     exact absurd H (by simp)
    rw [if_pos c14] at H
    have c14b0:=eq_true c14
    have c14b1:decide (0≤(ji13))=true:=decide_eq_true c14
    clear c14
    obtain⟨ji15,hji15⟩:∃ j_:Int,(shr .u8 (ji12) (ji13))=j_:=⟨_,rfl⟩
    replace H:(if 0≤(ji6)then(q48.l0 k1 (wrap64 (x1_1+(ji6))) (wrap64 (x2_1 - (ji6))) (Go.bits .or .u64 (shl .u64 x7_1 (ji6)) (IntKind.u64.wrap (ji15))) l0_0 a0_1)else(none))=some r:=by first|(rw [hji15] at H;exact H)|(simp only [hji15] at H ⊢;exact H)
    have hji15_:((ji12) / 2 ^ min (ji13).toNat 8)=ji15:=hji15
    have hji15z:(ji13)≤8→((ji12) / 2 ^ (ji13).toNat)=ji15:=af8 hji15
    by_cases c16:0≤(ji6)
    rotate_left
    ·rw [if_neg c16] at H
     exact absurd H (by simp)
    rw [if_pos c16] at H
    have c16b0:=eq_true c16
    have c16b1:decide (0≤(ji6))=true:=decide_eq_true c16
    clear c16
    obtain⟨ji17,hji17⟩:∃ j_:Int,(shl .u64 x7_1 (ji6))=j_:=⟨_,rfl⟩
    replace H:(q48.l0 k1 (wrap64 (x1_1+(ji6))) (wrap64 (x2_1 - (ji6))) (Go.bits .or .u64 (ji17) (IntKind.u64.wrap (ji15))) l0_0 a0_1)=some r:=by first|(rw [hji17] at H;exact H)|(simp only [hji17] at H ⊢;exact H)
    have hji17_:(IntKind.u64.wrap (x7_1*2 ^ min (ji6).toNat 64))=ji17:=hji17
    have hji17z:(ji6)≤64→(IntKind.u64.wrap (x7_1*2 ^ (ji6).toNat))=ji17:=ad0 hji17
    have H':=q5.mk H
    clear H
    obtain⟨hcz18_0,hcz18_1,hfz18_0,hfz18_1⟩:=N4 bV0.out
    have cF2:0≤((ji7):Int):=dc_
    have cJ7:(ji7)<(l0_0.length:Int):=dc_
    obtain⟨dq5,dm7,bp1⟩:=Kd.at_int HR0_0.out (ji7) cF2 cJ7
    cases dm7
    replace bp1:=(HB.out.cell (World.block_lt_of_cell? w _ bp1)).trans bp1
    replace cF2:=eq_true cF2
    replace cJ7:=eq_true cJ7
   rotate_left
   focus
    obtain rfl:=Option.some.inj H
   all_goals
    go_wp2
    first
     |go_roundg k1
      case measure=>have:=HK1.out;omega
      case rel=>exact⟨(wrap64 (x1_1+(ji6))),(wrap64 (x2_1 - (ji6))),(Go.bits .or .u64 (ji17) (IntKind.u64.wrap (ji15))),(by first|rfl|(simp;done)|(simp only [←hji6]<;>(first|rfl|simp))|(simp [*];done)),(by first|rfl|(simp;done)|(simp only [←hji6]<;>(first|rfl|simp))|(simp [*];done)),(by first|rfl|(simp;done)|(simp only [←hji15,←hji17]<;>(first|rfl|simp))|(simp [*];done)),H',⟨by have:=HK1.out;omega⟩,⟨(bo_ bV0)⟩,⟨bl_⟩⟩
     |go_ret
      exact⟨rf_,bl_⟩
end Go.Proofs.Ytmddmbagehjdeaa.G
end
section
namespace Go.Proofs.Ytmddmbagehjdeaa.G
open Go.RowKit Go.Proofs.YtmddmbagehjdeaaX Go.Proofs.YtmddmbagehjdeaaW.PrintWords Go.Proofs.YtmddmbagehjdeaaW.PrintLast Go.Proofs.YtmddmbagehjdeaaW.PrintMore
attribute [local go_sem] S3 R3 R4 S4 P3 N3 D4 Y3
def q45.j0:Nat→Int→Int→Bool→List Int→Int→Option (List Int×Int×Int)
 |0,_,_,_,_,_=>none
 |k+1,x1,x2,x17,bm8,aT2=>if x17=true then(some (bm8,aT2,1))else(if x2>(wrap64 (131072 - aT2))then(some (bm8,aT2,6))else((q26.f k bm8 aT2 x1 x2).bind fun cE5=>(some (cE5.1,cE5.2,0))))
def q45.f (k:Nat) (l0_0:List Int) (a0_1:Int) (a1:Int) (a2:Int):Option (List Int×Int×Int):=(q25.f k l0_0 a0_1).bind fun bx1=>(if bx1=0 then((q64.f l0_0 a0_1).bind fun ah2=>(if a2<0 then(q45.j0 k a1 a2 true ah2.1 ah2.2)else(if a2>64 then(q45.j0 k a1 a2 true ah2.1 ah2.2)else(if a2<64 then(if 0≤a2 then(q45.j0 k a1 a2 ((shr .u64 a1 a2) != 0) ah2.1 ah2.2)else(none))else(q45.j0 k a1 a2 false ah2.1 ah2.2)))))else(some (([]:List Int),0,bx1)))
theorem q45.mono_l:∀ k,(∀ y0 y1 y2 y3 y4,LeO (q45.j0 k y0 y1 y2 y3 y4) (q45.j0 (k+1) y0 y1 y2 y3 y4))
 |0=>fun _ _ _ _ _ r h=>by simp [q45.j0] at h
 |k+1=>by
  have ih0:=q45.mono_l k
  ·intro y0 y1 y2 y3 y4
   unfold q45.j0
   repeat' first
   |(with_reducible exact ih0 _ _ _ _ _)
   |(with_reducible exact q25.mono _ _ _)
   |(with_reducible exact q26.mono _ _ _ _ _)
   |(with_reducible exact LeO.refl _)
   |(with_reducible exact LeO.none _)
   |(with_reducible refine LeO.ite ?_ ?_)
   |(with_reducible refine LeO.bind ?_ (fun _=>?_))
   |exact ih0 _ _ _ _ _
   |exact q25.mono _ _ _
   |exact q26.mono _ _ _ _ _
   |exact LeO.none _
   |refine LeO.ite ?_ ?_
   |refine LeO.bind ?_ (fun _=>?_)
theorem q45.mono:∀ a0 a1 a2 a3 k,LeO (q45.f k a0 a1 a2 a3) (q45.f (k+1) a0 a1 a2 a3):=by
 intro a0 a1 a2 a3 k
 have ih0:=q45.mono_l k
 unfold q45.f
 repeat' first
   |(with_reducible exact ih0 _ _ _ _ _)
   |(with_reducible exact q25.mono _ _ _)
   |(with_reducible exact q26.mono _ _ _ _ _)
   |(with_reducible exact LeO.refl _)
   |(with_reducible exact LeO.none _)
   |(with_reducible refine LeO.ite ?_ ?_)
   |(with_reducible refine LeO.bind ?_ (fun _=>?_))
   |exact ih0 _ _ _ _ _
   |exact q25.mono _ _ _
   |exact q26.mono _ _ _ _ _
   |exact LeO.none _
   |refine LeO.ite ?_ ?_
   |refine LeO.bind ?_ (fun _=>?_)
theorem q45.calls (k:Nat) (A0_0:Option Addr) (c0_0:Nat) (l0_0:List Int) (a0_1:Int) (a1:Int) (a2:Int) (r1:List Int) (r2:Int) (r3:Int) (w:World) (hr0_0:Kd.C (Kd.int .u8) w A0_0 l0_0.length l0_0) (hc0_0:l0_0.length≤c0_0) (h:q45.f k l0_0 a0_1 a1 a2=some (r1,r2,r3)) :
  Calls Try.prog 29 #[.agg #[.slice A0_0 l0_0.length c0_0,.int .i64 a0_1],.int .u64 a1,.int .i64 a2] w fun e w'=>∃ v0_:Value,e=.returned (.tuple #[.agg #[v0_,.int .i64 r2],.int .i64 r3])∧Kd.R (Kd.int .u8) 5 w' w.heap.size (fun _=>True) v0_ r1∧Below w.heap.size w w':=by
 have hu25:=Try.underlying25
 have HR0_0:=q5.mk hr0_0
 have HC0_0:=q5.mk hc0_0
 clear hr0_0 hc0_0
 have HB:=q5.mk (Below.refl w.heap.size w)
 have H:((q25.f k l0_0 a0_1).bind fun bx1=>(if bx1=0 then((q64.f l0_0 a0_1).bind fun ah2=>(if a2<0 then(q45.j0 k a1 a2 true ah2.1 ah2.2)else(if a2>64 then(q45.j0 k a1 a2 true ah2.1 ah2.2)else(if a2<64 then(if 0≤a2 then(q45.j0 k a1 a2 ((shr .u64 a1 a2) != 0) ah2.1 ah2.2)else(none))else(q45.j0 k a1 a2 false ah2.1 ah2.2)))))else(some (([]:List Int),0,bx1))))=some (r1,r2,r3):=h
 clear h
 replace H:=N2 H
 obtain⟨bx1,A4,H⟩:=H
 try dsimp only at H
 replace H:=deqn H
 rcases H with⟨c5b0,c5b1,H⟩|⟨c5b0,c5b1,c5,H⟩
 ·replace H:=N2 H
  obtain⟨⟨as5,aD2⟩,A6,H⟩:=H
  try dsimp only at H
  have HC7:=q5.mk H
  clear H
  go_enter Try.func29,Try.ntmps29
  go_upto_region 5 with(first|((with_reducible refine X0 (N:=3) rfl ?_);refine L2 3 #[.slice A0_0 l0_0.length c0_0,.int .i64 a0_1] 25 ?_;intro X9 hg w8 hbox hb;have n_:=pk4 (E0 bl_ hb) (hbox) ((ge_ hg bl_:w.heap.size≤X9)) ((ge_ hg bl_:w.heap.size≤X9));clear HB;obtain⟨HB,L5,df0,cX4⟩:=n_;clear hb hbox hg)|((with_reducible refine X0 (N:=6) rfl ?_);refine L2 6 #[.slice none 0 0,.int .i64 0] 25 ?_;intro ab5 hg w9 hbox hb;have n_:=pk7 (F0 (bo_ L5) hb) (E0 bl_ hb) (hbox) ((ge_ hg bl_:w.heap.size≤ab5)) ((ge_ hg bl_:w.heap.size≤ab5)) ((nb_ hg (bo_ L5):X9≠ab5)) ((nc_ hg (bo_ L5):ab5≠X9));clear L5 HB;obtain⟨L5,HB,N7,cW4,da5,al4,C8⟩:=n_;clear hb hbox hg;have hnb10:=al4.out;have hnc10:=C8.out;have hcz11_0:w9.cell? ⟨X9,0,none⟩=some (.slice A0_0 l0_0.length c0_0):=(m0 L5.out 0).trans rfl;have hcz11_1:w9.cell? ⟨X9,1,none⟩=some (.int .i64 a0_1):=(m0 L5.out 1).trans rfl;have hfz11_0:=t0 L5.out 0;have hfz11_1:=t0 L5.out 1)|((with_reducible refine C1 (f:=58) rfl ?_);refine goL_ (some 10) Try.func58 #[.agg #[.slice A0_0 l0_0.length c0_0,.int .i64 a0_1]] ?_;(with_reducible refine(q25.calls k _ _ l0_0 a0_1 bx1 _ ?side1 ?side2 A4.out).mono ?_);(case side1=>exact cb_ HR0_0);(case side2=>exact HC0_0.out);rintro e w12 ⟨rfl,hb⟩;refine⟨_,rfl,?_⟩;have n_:=pk3 (F0 (bo_ L5) hb) (F0 (bo_ N7) hb) (E0 bl_ hb);clear L5 N7 HB;obtain⟨L5,N7,HB⟩:=n_;(try clear hb);have hcz13_0:w12.cell? ⟨X9,0,none⟩=some (.slice A0_0 l0_0.length c0_0):=(m0 L5.out 0).trans rfl;have hcz13_1:w12.cell? ⟨X9,1,none⟩=some (.int .i64 a0_1):=(m0 L5.out 1).trans rfl;have hfz13_0:=t0 L5.out 0;have hfz13_1:=t0 L5.out 1)|((with_reducible refine C1 (f:=59) rfl ?_);refine goL_ (some 16) Try.func59 #[.agg #[.slice A0_0 l0_0.length c0_0,.int .i64 a0_1]] ?_;(with_reducible refine(q64.calls _ _ l0_0 a0_1 as5 aD2 _ ?side1 ?side2 A6.out).mono ?_);(case side1=>exact cb_ HR0_0);(case side2=>exact HC0_0.out);rintro e w14 ⟨du4,rfl,ho0,hb⟩;refine⟨_,rfl,?_⟩;have n_:=pk4 (Kd.R_lower ho0 (L0 bl_)) (F0 (bo_ L5) hb) (F0 (bo_ N7) hb) (E0 bl_ hb);clear L5 N7 HB;obtain⟨bV4,L5,N7,HB⟩:=n_;(try clear hb ho0);obtain⟨Ao15,co15,eo15⟩:=Kd.R_slice bV4.out;subst eo15;have hcz16_0:w14.cell? ⟨X9,0,none⟩=some (.slice A0_0 l0_0.length c0_0):=(m0 L5.out 0).trans rfl;have hcz16_1:w14.cell? ⟨X9,1,none⟩=some (.int .i64 a0_1):=(m0 L5.out 1).trans rfl;have hfz16_0:=t0 L5.out 0;have hfz16_1:=t0 L5.out 1))
  (try simp only [ap_,sb_,s0_,s1_])
  go_cut [17] (fun v17 wc=>∃ (kq:Nat) (x17_6:Bool),v17=.bool x17_6∧q5 (q45.j0 kq a1 a2 x17_6 as5 aD2=some (r1,r2,r3))∧q5 (kq≤k)∧q5 (Kd.R (Kd.int .u8) 5 wc w.heap.size (fun _=>True) (.slice Ao15 as5.length co15) as5)∧q5 (wc.heap[X9]?=some (.cells #[(.slice Ao15 as5.length co15),.int .i64 aD2] 25 (0,0)))∧q5 (wc.heap[ab5]?=some (.cells #[(.slice none 0 0),.int .i64 0] 25 (0,0)))∧q5 (Below w.heap.size w wc))
  case first =>
   have H:=HC7.out
   clear HC7
   replace H:=dle H
   rcases H with⟨c17b0,H⟩|⟨c17b0,H⟩
   focus
    (first|rw [c17b0]|(simp only [N0,P0];rw [c17b0])|skip)
    have H':=q5.mk H
    clear H
   rotate_left
   focus
    (first|rw [c17b0]|(simp only [N0,P0];rw [c17b0])|skip)
    replace H:=dgt H
    rcases H with⟨c18b0,H⟩|⟨c18b0,H⟩
    focus
     have H':=q5.mk H
     clear H
    rotate_left
    focus
     replace H:=dle H
     rcases H with⟨c19b0,H⟩|⟨c19b0,H⟩
     focus
      by_cases c20:0≤a2
      rotate_left
      ·rw [if_neg c20] at H
       exact absurd H (by simp)
      rw [if_pos c20] at H
      have c20b0:=eq_true c20
      have c20b1:decide (0≤a2)=true:=decide_eq_true c20
      clear c20
      obtain⟨ji21,hji21⟩:∃ j_:Int,(shr .u64 a1 a2)=j_:=⟨_,rfl⟩
      replace H:(q45.j0 k a1 a2 ((ji21) != 0) as5 aD2)=some (r1,r2,r3):=by first|(rw [hji21] at H;exact H)|(simp only [hji21] at H ⊢;exact H)
      have hji21_:(a1 / 2 ^ min a2.toNat 64)=ji21:=hji21
      have hji21z:a2≤64→(a1 / 2 ^ a2.toNat)=ji21:=af8 hji21
      have H':=q5.mk H
      clear H
     rotate_left
     focus
      have H':=q5.mk H
      clear H
   all_goals
    go_wp2
    go_meet
    first
     |case rel=>exact⟨_,(true),sm_,H',⟨om_⟩,⟨(rt_ (Kd.R_mono (Kd.R_far (p:=⟨X9,1,none⟩) (Kd.R_far (p:=⟨X9,0,none⟩) (Kd.R_types bV4.out L5.out (by decide)) (fun _ hk=>hk.2) (.slice Ao15 as5.length co15)) (fun _ hk=>hk.2) (.int .i64 aD2)) (fun _ hk=>trivial)))⟩,⟨by(with_reducible repeat(first|refine G0 ?_ _|refine J0 ?_|refine I0 ?_ _));refine D1 (cs:=#[.slice Ao15 as5.length co15,.int .i64 a0_1]) ?_ 1 _ rfl;(with_reducible repeat(first|refine G0 ?_ _|refine J0 ?_|refine I0 ?_ _));refine D1 (cs:=#[.slice A0_0 l0_0.length c0_0,.int .i64 a0_1]) ?_ 0 _ rfl;exact(bo_ L5)⟩,⟨by(with_reducible repeat(first|refine G0 ?_ _|refine J0 ?_|refine I0 ?_ _));refine Y0 ?_ C8.out _;(with_reducible repeat(first|refine G0 ?_ _|refine J0 ?_|refine I0 ?_ _));refine Y0 ?_ C8.out _;exact(bo_ N7)⟩,⟨bl_⟩⟩
     |case rel=>exact⟨_,(((ji21) != 0)),(by first|rfl|(simp;done)|(simp only [←hji21]<;>(first|rfl|simp))|(simp [*];done)),H',⟨om_⟩,⟨(rt_ (Kd.R_mono (Kd.R_far (p:=⟨X9,1,none⟩) (Kd.R_far (p:=⟨X9,0,none⟩) (Kd.R_types bV4.out L5.out (by decide)) (fun _ hk=>hk.2) (.slice Ao15 as5.length co15)) (fun _ hk=>hk.2) (.int .i64 aD2)) (fun _ hk=>trivial)))⟩,⟨by(with_reducible repeat(first|refine G0 ?_ _|refine J0 ?_|refine I0 ?_ _));refine D1 (cs:=#[.slice Ao15 as5.length co15,.int .i64 a0_1]) ?_ 1 _ rfl;(with_reducible repeat(first|refine G0 ?_ _|refine J0 ?_|refine I0 ?_ _));refine D1 (cs:=#[.slice A0_0 l0_0.length c0_0,.int .i64 a0_1]) ?_ 0 _ rfl;exact(bo_ L5)⟩,⟨by(with_reducible repeat(first|refine G0 ?_ _|refine J0 ?_|refine I0 ?_ _));refine Y0 ?_ C8.out _;(with_reducible repeat(first|refine G0 ?_ _|refine J0 ?_|refine I0 ?_ _));refine Y0 ?_ C8.out _;exact(bo_ N7)⟩,⟨bl_⟩⟩
     |case rel=>exact⟨_,(false),sm_,H',⟨om_⟩,⟨(rt_ (Kd.R_mono (Kd.R_far (p:=⟨X9,1,none⟩) (Kd.R_far (p:=⟨X9,0,none⟩) (Kd.R_types bV4.out L5.out (by decide)) (fun _ hk=>hk.2) (.slice Ao15 as5.length co15)) (fun _ hk=>hk.2) (.int .i64 aD2)) (fun _ hk=>trivial)))⟩,⟨by(with_reducible repeat(first|refine G0 ?_ _|refine J0 ?_|refine I0 ?_ _));refine D1 (cs:=#[.slice Ao15 as5.length co15,.int .i64 a0_1]) ?_ 1 _ rfl;(with_reducible repeat(first|refine G0 ?_ _|refine J0 ?_|refine I0 ?_ _));refine D1 (cs:=#[.slice A0_0 l0_0.length c0_0,.int .i64 a0_1]) ?_ 0 _ rfl;exact(bo_ L5)⟩,⟨by(with_reducible repeat(first|refine G0 ?_ _|refine J0 ?_|refine I0 ?_ _));refine Y0 ?_ C8.out _;(with_reducible repeat(first|refine G0 ?_ _|refine J0 ?_|refine I0 ?_ _));refine Y0 ?_ C8.out _;exact(bo_ N7)⟩,⟨bl_⟩⟩
  case rest =>
   clear HC7
   try clear c5
   try clear c5b0
   try clear c5b1
   obtain⟨kq,x17_6,rfl,HA,HJ6,HO_288000,L5,N7,HB⟩:=hcut
   cases kq with
   |zero=>exact absurd HA.out (by simp [q45.j0])
   |succ kj6 =>
    have H:=HA.out
    clear HA
    simp only [q45.j0] at H
    replace H:=Q7 H
    rcases H with⟨rfl,H⟩|⟨rfl,H⟩
    focus
     simp only [Option.some.injEq,Prod.mk.injEq] at H
     obtain⟨rfl,rfl,rfl⟩:=H
     have hnb23:=al4.out
     have hnc23:=C8.out
     obtain⟨hcz24_0,hcz24_1,hfz24_0,hfz24_1⟩:=N4 L5.out
     obtain⟨hcz25_0,hcz25_1,hfz25_0,hfz25_1⟩:=N4 N7.out
    rotate_left
    focus
     by_cases c26:a2>(wrap64 (131072 - aD2))
     focus
      rw [if_pos c26] at H
      have c26b0:decide ((wrap64 (131072 - aD2))<a2)=true:=decide_eq_true c26
      have c26b0w:decide ((IntKind.i64.wrap (131072 - aD2))<a2)=true:=by simpa only [N0] using c26b0
      clear c26
      simp only [Option.some.injEq,Prod.mk.injEq] at H
      obtain⟨rfl,rfl,rfl⟩:=H
      have hnb27:=al4.out
      have hnc27:=C8.out
      obtain⟨hcz28_0,hcz28_1,hfz28_0,hfz28_1⟩:=N4 L5.out
      obtain⟨hcz29_0,hcz29_1,hfz29_0,hfz29_1⟩:=N4 N7.out
     rotate_left
     focus
      rw [if_neg c26] at H
      have c26b0:decide ((wrap64 (131072 - aD2))<a2)=false:=decide_eq_false c26
      have c26b0w:decide ((IntKind.i64.wrap (131072 - aD2))<a2)=false:=by simpa only [N0] using c26b0
      clear c26
      replace H:=N2 H
      obtain⟨⟨cv9,cJ4⟩,A30,H⟩:=H
      try dsimp only at H
      simp only [Option.some.injEq,Prod.mk.injEq] at H
      obtain⟨rfl,rfl,rfl⟩:=H
      have hnb31:=al4.out
      have hnc31:=C8.out
      obtain⟨hcz32_0,hcz32_1,hfz32_0,hfz32_1⟩:=N4 L5.out
    all_goals
     go_wp2_with (first|((with_reducible refine C1 (f:=61) rfl ?_);refine goL_ (some 45) Try.func61 #[.agg #[.slice Ao15 as5.length co15,.int .i64 aD2],.int .u64 a1,.int .i64 a2] ?_;(with_reducible refine(q26.calls kj6 (fun k_=>some k_=(.slice Ao15 as5.length co15:Value).ownBlock) (.slice Ao15 as5.length co15) as5 aD2 a1 a2 cv9 cJ4 w _ ?side1 ?side2 A30.out).mono ?_);(case side1=>exact bl_);(case side2=>exact Kd.R_tight rfl HO_288000.out);rintro e U1 ⟨M4,rfl,ho0,hb,hkp⟩;refine⟨_,rfl,?_⟩;have n_:=pk4 (Y7 (bo_ L5) hkp (fun hs_=>(fun e_=>(Kd.R_ne HO_288000.out L5.out (by decide)) e_) hs_)) (Y7 (bo_ N7) hkp (fun hs_=>(fun e_=>(Kd.R_ne HO_288000.out N7.out (by decide)) e_) hs_)) (Kd.R_mono (ok':=fun k_=>True) ho0 (fun k_ hk_=>trivial)) (hb);clear L5 N7 HB HO_288000;obtain⟨L5,N7,C0,HB⟩:=n_;(try clear hb hkp ho0);obtain⟨T0,R0,S1⟩:=Kd.R_slice C0.out;subst S1;have Y2:U1.cell? ⟨ab5,0,none⟩=some (.slice none 0 0):=(m0 N7.out 0).trans rfl;have z3:U1.cell? ⟨ab5,1,none⟩=some (.int .i64 0):=(m0 N7.out 1).trans rfl;have D3:=t0 N7.out 0;have Z2:=t0 N7.out 1))
     first
      |refine bodyPost_ret (N5 rfl _ _ ab5 25 #[.slice Ao15 as5.length co15,.int .i64 aD2] (0,0) _ rfl (by(with_reducible repeat(first|refine G0 ?_ _|refine J0 ?_|refine I0 ?_ _));refine D1 (cs:=#[.slice Ao15 as5.length co15,.int .i64 0]) ?_ 1 _ rfl;(with_reducible repeat(first|refine G0 ?_ _|refine J0 ?_|refine I0 ?_ _));refine D1 (cs:=#[.slice none 0 0,.int .i64 0]) ?_ 0 _ rfl;exact(bo_ N7)) Try.underlying25 rfl (by kernel_rfl)) rfl ?_
       exact⟨_,rf_,(rt_ (Kd.R_mono (Kd.R_far (p:=⟨ab5,1,none⟩) (Kd.R_far (p:=⟨ab5,0,none⟩) (Kd.R_types HO_288000.out N7.out (by decide)) (fun _ hk=>hk.2) (.slice Ao15 as5.length co15)) (fun _ hk=>hk.2) (.int .i64 aD2)) (fun _ hk=>trivial))),bl_⟩
      |refine bodyPost_ret (N5 rfl _ _ ab5 25 #[.slice T0 cv9.length R0,.int .i64 cJ4] (0,0) _ rfl (by(with_reducible repeat(first|refine G0 ?_ _|refine J0 ?_|refine I0 ?_ _));refine D1 (cs:=#[.slice T0 cv9.length R0,.int .i64 0]) ?_ 1 _ rfl;(with_reducible repeat(first|refine G0 ?_ _|refine J0 ?_|refine I0 ?_ _));refine D1 (cs:=#[.slice none 0 0,.int .i64 0]) ?_ 0 _ rfl;exact(bo_ N7)) Try.underlying25 rfl (by kernel_rfl)) rfl ?_
       exact⟨_,rf_,(rt_ (Kd.R_mono (Kd.R_far (p:=⟨ab5,1,none⟩) (Kd.R_far (p:=⟨ab5,0,none⟩) (Kd.R_types C0.out N7.out (by decide)) (fun _ hk=>hk.2) (.slice T0 cv9.length R0)) (fun _ hk=>hk.2) (.int .i64 cJ4)) (fun _ hk=>trivial))),bl_⟩
 simp only [Option.some.injEq,Prod.mk.injEq] at H
 obtain⟨rfl,rfl,rfl⟩:=H
 go_enter Try.func29,Try.ntmps29
 go_wp2_with (first|((with_reducible refine X0 (N:=3) rfl ?_);refine L2 3 #[.slice A0_0 l0_0.length c0_0,.int .i64 a0_1] 25 ?_;intro X9 hg ap8 hbox hb;have n_:=pk4 (E0 bl_ hb) (hbox) ((ge_ hg bl_:w.heap.size≤X9)) ((ge_ hg bl_:w.heap.size≤X9));clear HB;obtain⟨HB,L5,df0,cX4⟩:=n_;clear hb hbox hg)|((with_reducible refine X0 (N:=6) rfl ?_);refine L2 6 #[.slice none 0 0,.int .i64 0] 25 ?_;intro ab5 hg av3 hbox hb;have n_:=pk7 (F0 (bo_ L5) hb) (E0 bl_ hb) (hbox) ((ge_ hg bl_:w.heap.size≤ab5)) ((ge_ hg bl_:w.heap.size≤ab5)) ((nb_ hg (bo_ L5):X9≠ab5)) ((nc_ hg (bo_ L5):ab5≠X9));clear L5 HB;obtain⟨L5,HB,N7,cW4,da5,al4,C8⟩:=n_;clear hb hbox hg;have dh7:=al4.out;have dg5:=C8.out;have cb6:av3.cell? ⟨X9,0,none⟩=some (.slice A0_0 l0_0.length c0_0):=(m0 L5.out 0).trans rfl;have cc2:av3.cell? ⟨X9,1,none⟩=some (.int .i64 a0_1):=(m0 L5.out 1).trans rfl;have ce9:=t0 L5.out 0;have cd4:=t0 L5.out 1)|((with_reducible refine C1 (f:=58) rfl ?_);refine goL_ (some 10) Try.func58 #[.agg #[.slice A0_0 l0_0.length c0_0,.int .i64 a0_1]] ?_;(with_reducible refine(q25.calls k _ _ l0_0 a0_1 bx1 _ ?side1 ?side2 A4.out).mono ?_);(case side1=>exact cb_ HR0_0);(case side2=>exact HC0_0.out);rintro e bg6 ⟨rfl,hb⟩;refine⟨_,rfl,?_⟩;have n_:=pk3 (F0 (bo_ L5) hb) (F0 (bo_ N7) hb) (E0 bl_ hb);clear L5 N7 HB;obtain⟨L5,N7,HB⟩:=n_;(try clear hb);have cQ1:bg6.cell? ⟨ab5,0,none⟩=some (.slice none 0 0):=(m0 N7.out 0).trans rfl;have cS9:bg6.cell? ⟨ab5,1,none⟩=some (.int .i64 0):=(m0 N7.out 1).trans rfl;have cP7:=t0 N7.out 0;have cR7:=t0 N7.out 1))
 refine bodyPost_ret (N5 rfl _ _ ab5 25 #[.slice none 0 0,.int .i64 0] (0,0) _ rfl (by(with_reducible repeat(first|refine G0 ?_ _|refine J0 ?_|refine I0 ?_ _));refine D1 (cs:=#[.slice none 0 0,.int .i64 0]) ?_ 1 _ rfl;(with_reducible repeat(first|refine G0 ?_ _|refine J0 ?_|refine I0 ?_ _));refine D1 (cs:=#[.slice none 0 0,.int .i64 0]) ?_ 0 _ rfl;exact(bo_ N7)) Try.underlying25 rfl (by kernel_rfl)) rfl ?_
 exact⟨_,rf_,nl_,bl_⟩
def q67.f (l0_0:List Int) (a0_1:Int) (l1_0:List Int) (a1_1:Int):Option (Bool):=if a0_1=a1_1 then(some ((strOfNums l0_0).toList == (strOfNums l1_0).toList))else(some false)
theorem q67.calls (A0_0:Option Addr) (c0_0:Nat) (l0_0:List Int) (a0_1:Int) (A1_0:Option Addr) (c1_0:Nat) (l1_0:List Int) (a1_1:Int) (r:Bool) (w:World) (hr0_0:Kd.C (Kd.int .u8) w A0_0 l0_0.length l0_0) (hc0_0:l0_0.length≤c0_0) (hr1_0:Kd.C (Kd.int .u8) w A1_0 l1_0.length l1_0) (hc1_0:l1_0.length≤c1_0) (h:q67.f l0_0 a0_1 l1_0 a1_1=some r) :
  Calls Try.prog 66 #[.agg #[.slice A0_0 l0_0.length c0_0,.int .i64 a0_1],.agg #[.slice A1_0 l1_0.length c1_0,.int .i64 a1_1]] w fun e w'=>e=.returned (.bool r)∧Below w.heap.size w w':=by
 have hu25:=Try.underlying25
 have HR0_0:=q5.mk hr0_0
 have HC0_0:=q5.mk hc0_0
 clear hr0_0 hc0_0
 have HR1_0:=q5.mk hr1_0
 have HC1_0:=q5.mk hc1_0
 clear hr1_0 hc1_0
 have HB:=q5.mk (Below.refl w.heap.size w)
 have H:(if a0_1=a1_1 then(some ((strOfNums l0_0).toList == (strOfNums l1_0).toList))else(some false))=some r:=h
 clear h
 replace H:=deqn H
 rcases H with⟨c3b0,c3b1,H⟩|⟨c3b0,c3b1,c3,H⟩
 focus
  obtain rfl:=Option.some.inj H
 rotate_left
 focus
  obtain rfl:=Option.some.inj H
 all_goals
  go_enter Try.func66,Try.ntmps66
  go_wp2_with (first|((with_reducible refine X0 (N:=2) rfl ?_);refine L2 2 #[.slice A0_0 l0_0.length c0_0,.int .i64 a0_1] 25 ?_;intro B0 hg U1 hbox hb;have n_:=pk4 (E0 bl_ hb) (hbox) ((ge_ hg bl_:w.heap.size≤B0)) ((ge_ hg bl_:w.heap.size≤B0));clear HB;obtain⟨HB,o0,C2,F5⟩:=n_;clear hb hbox hg)|((with_reducible refine X0 (N:=3) rfl ?_);refine L2 3 #[.slice A1_0 l1_0.length c1_0,.int .i64 a1_1] 25 ?_;intro S0 hg Z1 hbox hb;have n_:=pk7 (F0 (bo_ o0) hb) (E0 bl_ hb) (hbox) ((ge_ hg bl_:w.heap.size≤S0)) ((ge_ hg bl_:w.heap.size≤S0)) ((nb_ hg (bo_ o0):B0≠S0)) ((nc_ hg (bo_ o0):S0≠B0));clear o0 HB;obtain⟨o0,HB,O0,V9,W9,Q1,F1⟩:=n_;clear hb hbox hg;have V6:=Q1.out;have Z6:=F1.out;have Y2:Z1.cell? ⟨B0,0,none⟩=some (.slice A0_0 l0_0.length c0_0):=(m0 o0.out 0).trans rfl;have z3:Z1.cell? ⟨B0,1,none⟩=some (.int .i64 a0_1):=(m0 o0.out 1).trans rfl;have D3:=t0 o0.out 0;have Z2:=t0 o0.out 1;have z4:Z1.cell? ⟨S0,0,none⟩=some (.slice A1_0 l1_0.length c1_0):=(m0 O0.out 0).trans rfl;have C4:Z1.cell? ⟨S0,1,none⟩=some (.int .i64 a1_1):=(m0 O0.out 1).trans rfl;have j4:=t0 O0.out 0;have Z3:=t0 O0.out 1;(try(have bX3:=Kd.C_string (P:=Try.prog) (A:=A0_0) (c:=c0_0) Try.underlying23 Try.underlying5 Try.underlying9 (Kd.C_below HR0_0.out HB.out);have dh2:=Kd.C_string (P:=Try.prog) (A:=A1_0) (c:=c1_0) Try.underlying23 Try.underlying5 Try.underlying9 (Kd.C_below HR1_0.out HB.out)))))
  go_ret
  exact⟨rf_,bl_⟩
end Go.Proofs.Ytmddmbagehjdeaa.G
end
section
namespace Go.Proofs.Ytmddmbagehjdeaa.G
open Go.RowKit Go.Proofs.YtmddmbagehjdeaaX Go.Proofs.YtmddmbagehjdeaaW.PrintWords Go.Proofs.YtmddmbagehjdeaaW.PrintLast Go.Proofs.YtmddmbagehjdeaaW.PrintMore
attribute [local go_sem] S3 R3 R4 S4 P3 N3 D4 Y3
mutual
def q15.l0:Nat→List Int→Int→List Int→Int→Option (List Int×Int)
 |0,_,_,_,_=>none
 |k+1,x0,x4,aB0,aC6=>if x4<(x0.length:Int)then((q31.f k x0 x4).bind fun bc2=>(if x4>4 then(q15.j1 k x0 x4 bc2 (decide (bc2>0)) aB0 aC6)else(q15.j1 k x0 x4 bc2 false aB0 aC6)))else(some (aB0,aC6))
def q15.j1:Nat→List Int→Int→Int→Bool→List Int→Int→Option (List Int×Int)
 |0,_,_,_,_,_,_=>none
 |k+1,x0,x4,x5,x18,aB0,aC6=>if x18=true then((q45.f k aB0 aC6 (IntKind.u64.wrap (wrap64 (x5 - 1))) 6).bind fun cD1=>(q15.l0 k x0 (wrap64 (x4+(wrap64 (2*x5)))) cD1.1 cD1.2.1))else(if 0≤x4 then(if x4<(x0.length:Int)then((q53.f k aB0 aC6 (rd x0 x4)).bind fun cB7=>(if 0≤(wrap64 (x4+1))then(if(wrap64 (x4+1))<(x0.length:Int)then((q53.f k cB7.1 cB7.2.1 (rd x0 (wrap64 (x4+1)))).bind fun bz7=>(q15.l0 k x0 (wrap64 (x4+2)) bz7.1 bz7.2.1))else(none))else(none)))else(none))else(none))
end
def q15.f (k:Nat) (l0:List Int):Option (List Int×Int):=q15.l0 k l0 1 ([]:List Int) 0
theorem q15.mono_l:∀ k,(∀ y0 y1 y2 y3,LeO (q15.l0 k y0 y1 y2 y3) (q15.l0 (k+1) y0 y1 y2 y3))∧(∀ y0 y1 y2 y3 y4 y5,LeO (q15.j1 k y0 y1 y2 y3 y4 y5) (q15.j1 (k+1) y0 y1 y2 y3 y4 y5))
 |0=>⟨fun _ _ _ _ r h=>by simp [q15.l0] at h,fun _ _ _ _ _ _ r h=>by simp [q15.j1] at h⟩
 |k+1=>by
  obtain⟨ih0,ih1⟩:=q15.mono_l k
  refine⟨?_,?_⟩
  ·intro y0 y1 y2 y3
   unfold q15.l0
   repeat' first
   |(with_reducible exact ih0 _ _ _ _)
   |(with_reducible exact ih1 _ _ _ _ _ _)
   |(with_reducible exact q53.mono _ _ _ _)
   |(with_reducible exact q45.mono _ _ _ _ _)
   |(with_reducible exact q31.mono _ _ _)
   |(with_reducible exact LeO.refl _)
   |(with_reducible exact LeO.none _)
   |(with_reducible refine LeO.ite ?_ ?_)
   |(with_reducible refine LeO.bind ?_ (fun _=>?_))
   |exact ih0 _ _ _ _
   |exact ih1 _ _ _ _ _ _
   |exact q53.mono _ _ _ _
   |exact q45.mono _ _ _ _ _
   |exact q31.mono _ _ _
   |exact LeO.none _
   |refine LeO.ite ?_ ?_
   |refine LeO.bind ?_ (fun _=>?_)
  ·intro y0 y1 y2 y3 y4 y5
   unfold q15.j1
   repeat' first
   |(with_reducible exact ih0 _ _ _ _)
   |(with_reducible exact ih1 _ _ _ _ _ _)
   |(with_reducible exact q53.mono _ _ _ _)
   |(with_reducible exact q45.mono _ _ _ _ _)
   |(with_reducible exact q31.mono _ _ _)
   |(with_reducible exact LeO.refl _)
   |(with_reducible exact LeO.none _)
   |(with_reducible refine LeO.ite ?_ ?_)
   |(with_reducible refine LeO.bind ?_ (fun _=>?_))
   |exact ih0 _ _ _ _
   |exact ih1 _ _ _ _ _ _
   |exact q53.mono _ _ _ _
   |exact q45.mono _ _ _ _ _
   |exact q31.mono _ _ _
   |exact LeO.none _
   |refine LeO.ite ?_ ?_
   |refine LeO.bind ?_ (fun _=>?_)
theorem q15.mono:∀ a0 k,LeO (q15.f k a0) (q15.f (k+1) a0):=by
 intro a0 k
 obtain⟨ih0,ih1⟩:=q15.mono_l k
 unfold q15.f
 repeat' first
   |(with_reducible exact ih0 _ _ _ _)
   |(with_reducible exact ih1 _ _ _ _ _ _)
   |(with_reducible exact q53.mono _ _ _ _)
   |(with_reducible exact q45.mono _ _ _ _ _)
   |(with_reducible exact q31.mono _ _ _)
   |(with_reducible exact LeO.refl _)
   |(with_reducible exact LeO.none _)
   |(with_reducible refine LeO.ite ?_ ?_)
   |(with_reducible refine LeO.bind ?_ (fun _=>?_))
   |exact ih0 _ _ _ _
   |exact ih1 _ _ _ _ _ _
   |exact q53.mono _ _ _ _
   |exact q45.mono _ _ _ _ _
   |exact q31.mono _ _ _
   |exact LeO.none _
   |refine LeO.ite ?_ ?_
   |refine LeO.bind ?_ (fun _=>?_)
def q15.T8:Bool×List (List Nat×List Nat):=(true,[([],[]),([],[]),([],[]),([1,2],[1,2]),([3],[3]),([0,4],[0,4]),([5],[5]),([6],[6]),([6],[6]),([7,5,0,1,2,3,4,5,6,7],[7])])
def q15.B8:List Nat:=[0,0,0,6,14,31,63,127,127,255]
theorem q15.tab8:rtab .any (ap1 Try.f71 8)=q15.T8:=by kernel_rfl
theorem q15.bits8:b8 q15.T8.2 q15.B8=true:=by kernel_rfl
def q15.T9:Bool×List (List Nat×List Nat):=(true,[([],[]),([],[]),([],[]),([2],[2]),([1,3],[1,3]),([4],[4]),([0,5],[0,5]),([6],[6]),([7],[7]),([7],[7]),([8,6,0,1,2,3,4,5,6,7,8],[8])])
def q15.B9:List Nat:=[0,0,0,4,14,30,63,127,255,255,511]
theorem q15.tab9:rtab .any (ap1 Try.f71 9)=q15.T9:=by kernel_rfl
theorem q15.bits9:b8 q15.T9.2 q15.B9=true:=by kernel_rfl
theorem q15.calls (k:Nat) (A0:Option Addr) (c0:Nat) (l0:List Int) (r1:List Int) (r2:Int) (w:World) (hr0:Kd.C (Kd.int .i64) w A0 l0.length l0) (hc0:l0.length≤c0) (h:q15.f k l0=some (r1,r2)) :
  Calls Try.prog 71 #[.slice A0 l0.length c0] w fun e w'=>∃ v0_:Value,e=.returned (.agg #[v0_,.int .i64 r2])∧Kd.R (Kd.int .u8) 5 w' w.heap.size (fun _=>True) v0_ r1∧Below w.heap.size w w':=by
 have hu25:=Try.underlying25
 have HR0:=q5.mk hr0
 have HC0:=q5.mk hc0
 clear hr0 hc0
 have HB:=q5.mk (Below.refl w.heap.size w)
 have H:(q15.l0 k l0 1 ([]:List Int) 0)=some (r1,r2):=h
 clear h
 have H':=q5.mk H
 clear H
 go_enter Try.func71,Try.ntmps71
 go_wp2_with (first|((with_reducible refine X0 (N:=2) rfl ?_);refine L2 2 #[.slice none 0 0,.int .i64 0] 25 ?_;intro aE5 hg w2 hbox hb;have n_:=pk4 (E0 bl_ hb) (hbox) ((ge_ hg bl_:w.heap.size≤aE5)) ((ge_ hg bl_:w.heap.size≤aE5));clear HB;obtain⟨HB,E7,dp9,dr2⟩:=n_;clear hb hbox hg)|((with_reducible refine X0 (N:=3) rfl ?_);refine L2 3 #[.slice none 0 0,.int .i64 0] 25 ?_;intro n7 hg w3 hbox hb;have n_:=pk7 (F0 (bo_ E7) hb) (E0 bl_ hb) (hbox) ((ge_ hg bl_:w.heap.size≤n7)) ((ge_ hg bl_:w.heap.size≤n7)) ((nb_ hg (bo_ E7):aE5≠n7)) ((nc_ hg (bo_ E7):n7≠aE5));clear E7 HB;obtain⟨E7,HB,C5,dt1,dr8,D8,ak9⟩:=n_;clear hb hbox hg))
 go_loopg [4] k (fun kq v4 w'=>∃ (x4_1:Int) (O5:List Int) (B6:Int) (u411000:Value),v4=.int .i64 x4_1∧q5 (q15.l0 kq l0 x4_1 O5 B6=some (r1,r2))∧q5 (kq≤k)∧q5 (Kd.R (Kd.int .u8) 5 w' w.heap.size (fun _=>True) u411000 O5)∧q5 (w'.heap[aE5]?=some (.cells #[(.slice none 0 0),.int .i64 0] 25 (0,0)))∧q5 (w'.heap[n7]?=some (.cells #[u411000,.int .i64 B6] 25 (0,0)))∧q5 (Below w.heap.size w w'))
 case atStart=>exact⟨(1),(([]:List Int)),(0),(.slice none 0 0),sm_,H',⟨Nat.le_refl _⟩,⟨nl_⟩,⟨(bo_ E7)⟩,⟨(bo_ C5)⟩,⟨bl_⟩⟩
 case round =>
  clear H'
  obtain⟨x4_1,O5,B6,u411000,rfl,HA,HK1,HO_411000,E7,C5,HB⟩:=hrel
  cases gk with
  |zero=>exact absurd HA.out (by simp [q15.l0])
  |succ k1 =>
   have H:=HA.out
   clear HA
   simp only [q15.l0] at H
   replace H:=dle H
   rcases H with⟨c4b0,H⟩|⟨c4b0,H⟩
   ·replace H:=N2 H
    obtain⟨bc2,A5,H⟩:=H
    try dsimp only at H
    have HC6:=q5.mk H
    clear H
    go_upto_region 5 with(first|((with_reducible refine C1 (f:=84) rfl ?_);refine goL_ (some 12) Try.func84 #[.slice A0 l0.length c0,.int .i64 x4_1] ?_;(with_reducible refine(q31.calls k1 _ _ l0 x4_1 bc2 _ ?side1 ?side2 A5.out).mono ?_);(case side1=>exact cb_ HR0);(case side2=>exact HC0.out);rintro e w' ⟨rfl,⟨nd,rfl⟩⟩;refine⟨_,rfl,?_⟩))
    (try simp only [ap_,sb_,s0_,s1_])
    go_cut [18] (fun v18 wc=>∃ (kq:Nat) (x18_5:Bool),v18=.bool x18_5∧q5 (q15.j1 kq l0 x4_1 bc2 x18_5 O5 B6=some (r1,r2))∧q5 (kq≤k1)∧q5 (Kd.R (Kd.int .u8) 5 wc w.heap.size (fun _=>True) u411000 O5)∧q5 (wc.heap[aE5]?=some (.cells #[(.slice none 0 0),.int .i64 0] 25 (0,0)))∧q5 (wc.heap[n7]?=some (.cells #[u411000,.int .i64 B6] 25 (0,0)))∧q5 (Below w.heap.size w wc))
    case first =>
     have H:=HC6.out
     clear HC6
     replace H:=dgt H
     rcases H with⟨c7b0,H⟩|⟨c7b0,H⟩
     focus
      (first|rw [c7b0]|(simp only [N0,P0];rw [c7b0])|skip)
      have H':=q5.mk H
      clear H
     rotate_left
     focus
      (first|rw [c7b0]|(simp only [N0,P0];rw [c7b0])|skip)
      have H':=q5.mk H
      clear H
     all_goals
      go_wp2
      go_meet
      first
       |case rel=>exact⟨_,(decide (bc2>0)),sm_,H',⟨by have:=HK1.out;first|omega|exact Nat.le_refl _⟩,⟨(ro_ HO_411000)⟩,⟨(bo_ E7)⟩,⟨(bo_ C5)⟩,⟨bl_⟩⟩
       |case rel=>exact⟨_,(false),sm_,H',⟨by have:=HK1.out;first|omega|exact Nat.le_refl _⟩,⟨(ro_ HO_411000)⟩,⟨(bo_ E7)⟩,⟨(bo_ C5)⟩,⟨bl_⟩⟩
    case rest =>
     clear HC6
     try clear c4
     try clear c4b0
     obtain⟨kq,x18_5,rfl,HA,HJ5,HO_411000,E7,C5,HB⟩:=hcut
     cases kq with
     |zero=>exact absurd HA.out (by simp [q15.j1])
     |succ kj5 =>
      have H:=HA.out
      clear HA
      simp only [q15.j1] at H
      replace H:=Q7 H
      rcases H with⟨rfl,H⟩|⟨rfl,H⟩
      focus
       replace H:=N2 H
       obtain⟨⟨ci3,cM1,dn0⟩,A9,H⟩:=H
       try dsimp only at H
       have H':=q5.mk H
       clear H
       have hnb10:=ak9.out
       have hnc10:=D8.out
       obtain⟨hcz11_0,hcz11_1,hfz11_0,hfz11_1⟩:=N4 C5.out
       obtain⟨Ao12,co12,eo12⟩:=Kd.R_slice HO_411000.out
       subst eo12
      rotate_left
      focus
       replace H:=dle H
       rcases H with⟨c16b0,H⟩|⟨c16b0,H⟩
       rotate_left
       ·exact absurd H (by simp)
       replace H:=dle H
       rcases H with⟨c17b0,H⟩|⟨c17b0,H⟩
       rotate_left
       ·exact absurd H (by simp)
       replace H:=N2 H
       obtain⟨⟨aq5,ax7,dl1⟩,A18,H⟩:=H
       try dsimp only at H
       obtain⟨ji19,hji19⟩:∃ j_:Int,(wrap64 (x4_1+1))=j_:=⟨_,rfl⟩
       replace H:(if 0≤(ji19)then(if(ji19)<(l0.length:Int)then((q53.f kj5 aq5 ax7 (rd l0 (ji19))).bind fun bz7=>(q15.l0 kj5 l0 (wrap64 (x4_1+2)) bz7.1 bz7.2.1))else(none))else(none))=some (r1,r2):=by first|(rw [hji19] at H;exact H)|(simp only [hji19] at H ⊢;exact H)
       (try rw [hji19] at A18)
       have hji19w:(IntKind.i64.wrap (x4_1+1))=ji19:=(N0 _).trans hji19
       replace H:=dle H
       rcases H with⟨c20b0,H⟩|⟨c20b0,H⟩
       rotate_left
       ·exact absurd H (by simp)
       replace H:=dle H
       rcases H with⟨c21b0,H⟩|⟨c21b0,H⟩
       rotate_left
       ·exact absurd H (by simp)
       replace H:=N2 H
       obtain⟨⟨cq5,cH2,dj3⟩,A22,H⟩:=H
       try dsimp only at H
       have H':=q5.mk H
       clear H
      all_goals
       first
        |go_wp2_with (first|((with_reducible refine C1 (f:=29) rfl ?_);refine goL_ (some 24) Try.func29 #[.agg #[.slice Ao12 O5.length co12,.int .i64 B6],.int .u64 (IntKind.u64.wrap (wrap64 (bc2 - 1))),.int .i64 6] ?_;(with_reducible refine(q45.calls kj5 _ _ O5 B6 (IntKind.u64.wrap (wrap64 (bc2 - 1))) 6 ci3 cM1 dn0 _ ?side1 ?side2 A9.out).mono ?_);(case side1=>exact cr_ HO_411000);(case side2=>exact(Kd.R_reads' HO_411000.out).2.1);rintro e U1 ⟨M4,rfl,M0,hb⟩;refine⟨_,rfl,?_⟩;have n_:=pk5 (Kd.R_elder' (ro_ HO_411000) (Kd.R_base M0) hb) (Kd.R_lower (Kd.R_new' M0 (Kd.R_lt (ro_ HO_411000))) (L0 bl_)) (F0 (bo_ E7) hb) (F0 (bo_ C5) hb) (E0 bl_ hb);clear HO_411000 E7 C5 HB;obtain⟨HO_411000,C0,E7,C5,HB⟩:=n_;(try clear hb M0);obtain⟨T0,R0,S1⟩:=Kd.R_slice C0.out;subst S1;have Y2:U1.cell? ⟨n7,0,none⟩=some (.slice Ao12 O5.length co12):=(m0 C5.out 0).trans rfl;have z3:U1.cell? ⟨n7,1,none⟩=some (.int .i64 B6):=(m0 C5.out 1).trans rfl;have D3:=t0 C5.out 0;have Z2:=t0 C5.out 1))
         go_roundg kj5
         case measure=>have:=HK1.out;have:=HJ5.out;omega
         case rel=>exact⟨(wrap64 (x4_1+(wrap64 (2*bc2)))),(ci3),(cM1),(.slice T0 ci3.length R0),sm_,H',⟨by have:=HK1.out;have:=HJ5.out;omega⟩,⟨(rt_ (Kd.R_mono (Kd.R_far (p:=⟨n7,1,none⟩) (Kd.R_far (p:=⟨n7,0,none⟩) (Kd.R_types C0.out C5.out (by decide)) (fun _ hk=>hk.2) (.slice T0 ci3.length R0)) (fun _ hk=>hk.2) (.int .i64 cM1)) (fun _ hk=>trivial)))⟩,⟨by(with_reducible repeat(first|refine G0 ?_ _|refine J0 ?_|refine I0 ?_ _));refine Y0 ?_ D8.out _;(with_reducible repeat(first|refine G0 ?_ _|refine J0 ?_|refine I0 ?_ _));refine Y0 ?_ D8.out _;exact(bo_ E7)⟩,⟨by(with_reducible repeat(first|refine G0 ?_ _|refine J0 ?_|refine I0 ?_ _));refine D1 (cs:=#[.slice T0 ci3.length R0,.int .i64 B6]) ?_ 1 _ rfl;(with_reducible repeat(first|refine G0 ?_ _|refine J0 ?_|refine I0 ?_ _));refine D1 (cs:=#[.slice Ao12 O5.length co12,.int .i64 B6]) ?_ 0 _ rfl;exact(bo_ C5)⟩,⟨bl_⟩⟩
        |try go_wp2
         have n_:=pk4 (Kd.R_drew HO_411000.out) (J0 E7.out) (J0 C5.out) (N1 HB.out)
         clear HO_411000 E7 C5 HB
         obtain⟨HO_411000,E7,C5,HB⟩:=n_
         have F3:0≤(x4_1:Int):=dc_
         have I3:x4_1<(l0.length:Int):=dc_
         obtain⟨J1,E6,Z0⟩:=Kd.at_int HR0.out x4_1 F3 I3
         have D2:=Z0
         cases E6
         replace Z0:=(HB.out.cell (World.block_lt_of_cell? w _ Z0)).trans Z0
         replace F3:=eq_true F3
         replace I3:=eq_true I3
         obtain⟨T0,R0,S1⟩:=Kd.R_slice HO_411000.out
         (first|subst S1|(injection S1 with f1_ f2_ f3_;have f7000_:=f1_.symm;have f7001_:=f3_.symm;clear f1_ f2_ f3_;subst f7000_;subst f7001_))
         refine b9 (n:=10) (S:=fun w'=>w'.cell? ⟨n7,0,none⟩=some (.slice T0 O5.length R0)∧w'.cell? ⟨n7,1,none⟩=some (.int .i64 B6)∧w'.cell? (J1.add (x4_1).toNat)=some (.int .i64 (rd l0 x4_1))) (ds:=[9]) #[false,false,false,false,false,false,false,false,false,false] (by kernel_rfl) rfl rfl ⟨(m0 C5.out 0).trans rfl,(m0 C5.out 1).trans rfl,((HB.out.cell (World.block_lt_of_cell? w _ D2)).trans D2)⟩ (fun hHeld=>?_);refine b6 q15.tab8 q15.bits8 (fun HT_ HW_=>?_)
         generalize wc.drew=U1 at HO_411000 E7 C5 HB Z0 hHeld ⊢
         refine z1 (i:=1) (N:=some 33) (v:=?_) (a':=?_) #[false,true,false,false,false,false,false,false,false,false] rfl rfl (V0 HT_.out (by kernel_rfl)) (fun _ _ _ h=>h) (Or.inl ⟨by rfl,?_⟩) ?_ ?_
         rotate_left
         ·intro w'
          go_simp
          with_reducible rfl
         rotate_left
         ·simp only [ap_,sb_,s0_,s1_,N0,P0]
          rfl
         refine z1 (i:=2) (N:=some 34) (v:=?_) (a':=?_) #[false,true,true,false,false,false,false,false,false,false] rfl rfl (V0 HT_.out (by kernel_rfl)) (fun _ _ _ h=>h) (Or.inl ⟨by rfl,?_⟩) ?_ ?_
         rotate_left
         ·intro w'
          go_simp
          with_reducible rfl
         rotate_left
         ·simp only [ap_,sb_,s0_,s1_,N0,P0]
          rfl
         refine z1 (i:=3) (N:=some 35) (v:=?_) (a':=?_) #[false,true,true,true,false,false,false,false,false,false] rfl rfl (V0 HT_.out (by kernel_rfl)) (fun _ _ _ h=>h) (Or.inl ⟨by rfl,?_⟩) ?_ ?_
         rotate_left
         ·intro w'
          go_simp
          with_reducible rfl
         rotate_left
         ·simp only [ap_,sb_,s0_,s1_,N0,P0]
          rfl
         refine take_ (i:=0) (N:=some 32) (v:=?_) (a':=?_) #[true,true,true,true,false,false,false,false,false,false] rfl rfl (M2 HT_.out HW_.out (by kernel_rfl)) (fun _ _ _ h=>h) (Or.inl ⟨by rfl,?_⟩) hHeld ?_ ?_
         rotate_left
         ·rintro w' ⟨G6,S6,T6⟩
          go_simp
          with_reducible rfl
         rotate_left
         ·simp only [ap_,sb_,s0_,s1_,N0,P0]
          rfl
         refine take_ (i:=4) (N:=some 36) (v:=?_) (a':=?_) #[true,true,true,true,true,false,false,false,false,false] rfl rfl (M2 HT_.out HW_.out (by kernel_rfl)) (fun _ _ _ h=>h) (Or.inl ⟨by rfl,?_⟩) hHeld ?_ ?_
         rotate_left
         ·rintro w' ⟨G6,S6,T6⟩
          go_simp
          with_reducible rfl
         rotate_left
         ·simp only [ap_,sb_,s0_,s1_,N0,P0]
          rfl
         refine one_ (i:=5) (N:=some 37) #[true,true,true,true,true,true,false,false,false,false] rfl rfl (M6 HT_.out (by kernel_rfl)) (by decide) (fun K hK=>?_)
         refine ae6 Try.func15 (by kernel_rfl) rfl #[.agg #[.slice T0 O5.length R0,.int .i64 B6],.int .i64 (rd l0 x4_1)] (by rfl) rfl rfl (by(try simp only [List.map_toArray,List.map_cons,List.map_nil]);first|done|rfl|(simp only [List.length_drop,List.length_take];rfl)) ?_
         with_reducible refine(q53.calls kj5 _ _ O5 B6 (rd l0 x4_1) aq5 ax7 dl1 _ ?side1 ?side2 A18.out).mono ?_
         (case side1=>exact cr_ HO_411000)
         (case side2=>exact(Kd.R_reads' HO_411000.out).2.1)
         rintro e Z1 ⟨M4,rfl,M0,hb⟩
         refine⟨_,rfl,?_⟩
         have n_:=pk5 (Kd.R_elder' (ro_ HO_411000) (Kd.R_base M0) hb) (Kd.R_lower (Kd.R_new' M0 (Kd.R_lt (ro_ HO_411000))) (L0 bl_)) (F0 (bo_ E7) hb) (F0 (bo_ C5) hb) (E0 bl_ hb)
         clear HO_411000 E7 C5 HB
         obtain⟨HO_411000,C0,E7,C5,HB⟩:=n_
         (try clear hb)
         (try clear hb2)
         (try clear hk)
         (try clear hi)
         (try clear M0)
         obtain⟨X1,V1,U2⟩:=Kd.R_slice C0.out
         (first|subst U2|(injection U2 with f1_ f2_ f3_;have f7000_:=f1_.symm;have f7001_:=f3_.symm;clear f1_ f2_ f3_;subst f7000_;subst f7001_))
         refine hK.out _ _ ⟨(m0 C5.out 0).trans rfl,(m0 C5.out 1).trans rfl,((HB.out.cell (World.block_lt_of_cell? w _ D2)).trans D2)⟩ (fun hHeld=>?_)
         clear hK K
         refine o7 (a':=?_) ?_ ?_
         rotate_left
         ·show Act.put _ (some 37) _=_
          simp only [ap_,sb_,s0_,s1_,N0,P0]
          rfl
         refine z1 (i:=6) (N:=some 31) (v:=?_) (a':=?_) #[true,true,true,true,true,true,true,false,false,false] rfl rfl (V0 HT_.out (by kernel_rfl)) (fun _ _ _ h=>h) (Or.inl ⟨by rfl,?_⟩) ?_ ?_
         rotate_left
         ·intro w'
          go_simp
          with_reducible rfl
         rotate_left
         ·simp only [ap_,sb_,s0_,s1_,N0,P0]
          rfl
         refine z1 (i:=7) (N:=some 38) (v:=?_) (a':=?_) #[true,true,true,true,true,true,true,true,false,false] rfl rfl (V0 HT_.out (by kernel_rfl)) (fun _ _ _ h=>h) (Or.inl ⟨by rfl,?_⟩) ?_ ?_
         rotate_left
         ·intro w'
          go_simp
          with_reducible rfl
         rotate_left
         ·simp only [ap_,sb_,s0_,s1_,N0,P0]
          rfl
         refine z1 (i:=8) (N:=some 39) (v:=?_) (a':=?_) #[true,true,true,true,true,true,true,true,true,false] rfl rfl (V0 HT_.out (by kernel_rfl)) (fun _ _ _ h=>h) (Or.inl ⟨by rfl,?_⟩) ?_ ?_
         rotate_left
         ·intro w'
          go_simp
          with_reducible rfl
         rotate_left
         ·simp only [ap_,sb_,s0_,s1_,N0,P0]
          rfl
         refine bj0 (i:=9) (N:=none) #[true,true,true,true,true,true,true,true,true,true] rfl rfl (M6 HT_.out (by kernel_rfl)) (by decide) (fun K hK=>?_)
         have bk1:Z1.cell? ⟨n7,0,none⟩=some (.slice T0 O5.length R0):=(m0 C5.out 0).trans rfl
         have aT1:=t0 C5.out 0
         have bf2:=D8.out
         have bf3:=ak9.out
         have bl1:Z1.cell? ⟨n7,1,none⟩=some (.int .i64 B6):=(m0 C5.out 1).trans rfl
         have aU5:=t0 C5.out 1
         have bj8:=D8.out
         have bi6:=ak9.out
         refine aR2 (w1:=?_) (by rfl) rfl ?_ ?_
         rotate_left
         ·go_simp
          rfl
         refine hK.out _ _ ?_
         clear hK K
         refine ab2 (K7 HT_.out (by kernel_rfl)) ?_
         try go_wp2
         have n7000_:q5 (Kd.R (Kd.int .u8) 5 ((Z1.setCell ⟨n7,0,none⟩ (.slice X1 aq5.length V1)).setCell ⟨n7,1,none⟩ (.int .i64 ax7)) w.heap.size (fun k_=>some k_≠(.slice X1 aq5.length V1:Value).ownBlock) (.slice T0 O5.length R0) O5):=⟨(rt_ (Kd.R_mono (Kd.R_far (p:=⟨n7,1,none⟩) (Kd.R_far (p:=⟨n7,0,none⟩) (Kd.R_types HO_411000.out C5.out (by decide)) (fun _ hk=>hk.2) (.slice X1 aq5.length V1)) (fun _ hk=>hk.2) (.int .i64 ax7)) (fun _ hk=>hk.1.2)))⟩
         have n7001_:q5 (Kd.R (Kd.int .u8) 5 ((Z1.setCell ⟨n7,0,none⟩ (.slice X1 aq5.length V1)).setCell ⟨n7,1,none⟩ (.int .i64 ax7)) w.heap.size (fun k_=>some k_≠(.slice T0 O5.length R0:Value).ownBlock) (.slice X1 aq5.length V1) aq5):=⟨(rt_ (Kd.R_mono (Kd.R_far (p:=⟨n7,1,none⟩) (Kd.R_far (p:=⟨n7,0,none⟩) (Kd.R_types C0.out C5.out (by decide)) (fun _ hk=>hk.2) (.slice X1 aq5.length V1)) (fun _ hk=>hk.2) (.int .i64 ax7)) (fun _ hk=>hk.1.2)))⟩
         have n7002_:q5 (((Z1.setCell ⟨n7,0,none⟩ (.slice X1 aq5.length V1)).setCell ⟨n7,1,none⟩ (.int .i64 ax7)).heap[aE5]?=some (.cells #[.slice none 0 0,.int .i64 0] 25 (0,0))):=⟨by(with_reducible repeat(first|refine G0 ?_ _|refine J0 ?_|refine I0 ?_ _));refine Y0 ?_ D8.out _;(with_reducible repeat(first|refine G0 ?_ _|refine J0 ?_|refine I0 ?_ _));refine Y0 ?_ D8.out _;exact(bo_ E7)⟩
         have n7003_:q5 (((Z1.setCell ⟨n7,0,none⟩ (.slice X1 aq5.length V1)).setCell ⟨n7,1,none⟩ (.int .i64 ax7)).heap[n7]?=some (.cells #[.slice X1 aq5.length V1,.int .i64 ax7] 25 (0,0))):=⟨by(with_reducible repeat(first|refine G0 ?_ _|refine J0 ?_|refine I0 ?_ _));refine D1 (cs:=#[.slice X1 aq5.length V1,.int .i64 B6]) ?_ 1 _ rfl;(with_reducible repeat(first|refine G0 ?_ _|refine J0 ?_|refine I0 ?_ _));refine D1 (cs:=#[.slice T0 O5.length R0,.int .i64 B6]) ?_ 0 _ rfl;exact(bo_ C5)⟩
         have n7004_:q5 (Below w.heap.size w ((Z1.setCell ⟨n7,0,none⟩ (.slice X1 aq5.length V1)).setCell ⟨n7,1,none⟩ (.int .i64 ax7))):=⟨bl_⟩
         (try clear HO_411000)
         (try clear C0)
         (try clear E7)
         (try clear C5)
         (try clear HB)
         generalize ((Z1.setCell ⟨n7,0,none⟩ (.slice X1 aq5.length V1)).setCell ⟨n7,1,none⟩ (.int .i64 ax7))=F2 at n7000_ n7001_ n7002_ n7003_ n7004_ ⊢
         have HO_411000:=n7000_
         have C0:=n7001_
         have E7:=n7002_
         have C5:=n7003_
         have HB:=n7004_
         clear n7000_ n7001_ n7002_ n7003_ n7004_
         have n_:=pk5 (Kd.R_drew HO_411000.out) (Kd.R_drew C0.out) (J0 E7.out) (J0 C5.out) (N1 HB.out)
         clear HO_411000 C0 E7 C5 HB
         obtain⟨HO_411000,C0,E7,C5,HB⟩:=n_
         have V7:0≤((ji19):Int):=dc_
         have U7:(ji19)<(l0.length:Int):=dc_
         obtain⟨am4,aA9,M3⟩:=Kd.at_int HR0.out (ji19) V7 U7
         have I2:=M3
         obtain rfl:J1=am4:=(by injection aA9)
         replace M3:=(HB.out.cell (World.block_lt_of_cell? w _ M3)).trans M3
         replace V7:=eq_true V7
         replace U7:=eq_true U7
         refine b9 (n:=11) (S:=fun w'=>w'.cell? ⟨n7,0,none⟩=some (.slice X1 aq5.length V1)∧w'.cell? ⟨n7,1,none⟩=some (.int .i64 ax7)∧w'.cell? (J1.add ((ji19)).toNat)=some (.int .i64 (rd l0 (ji19)))) (ds:=[10]) #[false,false,false,false,false,false,false,false,false,false,false] (by kernel_rfl) rfl rfl ⟨(m0 C5.out 0).trans rfl,(m0 C5.out 1).trans rfl,((HB.out.cell (World.block_lt_of_cell? w _ I2)).trans I2)⟩ (fun hHeld=>?_);refine b6 q15.tab9 q15.bits9 (fun HT_ HW_=>?_)
         generalize F2.drew=X2 at HO_411000 C0 E7 C5 HB M3 hHeld ⊢
         refine z1 (i:=1) (N:=some 42) (v:=?_) (a':=?_) #[false,true,false,false,false,false,false,false,false,false,false] rfl rfl (V0 HT_.out (by kernel_rfl)) (fun _ _ _ h=>h) (Or.inl ⟨by rfl,?_⟩) ?_ ?_
         rotate_left
         ·intro w'
          go_simp
          with_reducible rfl
         rotate_left
         ·simp only [ap_,sb_,s0_,s1_,N0,P0]
          rfl
         refine z1 (i:=2) (N:=some 43) (v:=?_) (a':=?_) #[false,true,true,false,false,false,false,false,false,false,false] rfl rfl (V0 HT_.out (by kernel_rfl)) (fun _ _ _ h=>h) (Or.inl ⟨by rfl,?_⟩) ?_ ?_
         rotate_left
         ·intro w'
          go_simp
          with_reducible rfl
         rotate_left
         ·simp only [ap_,sb_,s0_,s1_,N0,P0]
          rfl
         refine z1 (i:=3) (N:=some 44) (v:=?_) (a':=?_) #[false,true,true,true,false,false,false,false,false,false,false] rfl rfl (V0 HT_.out (by kernel_rfl)) (fun _ _ _ h=>h) (Or.inl ⟨by rfl,?_⟩) ?_ ?_
         rotate_left
         ·intro w'
          go_simp
          with_reducible rfl
         rotate_left
         ·simp only [ap_,sb_,s0_,s1_,N0,P0]
          rfl
         refine z1 (i:=4) (N:=some 45) (v:=?_) (a':=?_) #[false,true,true,true,true,false,false,false,false,false,false] rfl rfl (V0 HT_.out (by kernel_rfl)) (fun _ _ _ h=>h) (Or.inl ⟨by rfl,?_⟩) ?_ ?_
         rotate_left
         ·intro w'
          go_simp
          with_reducible rfl
         rotate_left
         ·simp only [ap_,sb_,s0_,s1_,N0,P0]
          rfl
         refine take_ (i:=0) (N:=some 41) (v:=?_) (a':=?_) #[true,true,true,true,true,false,false,false,false,false,false] rfl rfl (M2 HT_.out HW_.out (by kernel_rfl)) (fun _ _ _ h=>h) (Or.inl ⟨by rfl,?_⟩) hHeld ?_ ?_
         rotate_left
         ·rintro w' ⟨G6,S6,T6⟩
          go_simp
          with_reducible rfl
         rotate_left
         ·simp only [ap_,sb_,s0_,s1_,N0,P0]
          rfl
         refine take_ (i:=5) (N:=some 46) (v:=?_) (a':=?_) #[true,true,true,true,true,true,false,false,false,false,false] rfl rfl (M2 HT_.out HW_.out (by kernel_rfl)) (fun _ _ _ h=>h) (Or.inl ⟨by rfl,?_⟩) hHeld ?_ ?_
         rotate_left
         ·rintro w' ⟨G6,S6,T6⟩
          go_simp
          with_reducible rfl
         rotate_left
         ·simp only [ap_,sb_,s0_,s1_,N0,P0]
          rfl
         refine one_ (i:=6) (N:=some 47) #[true,true,true,true,true,true,true,false,false,false,false] rfl rfl (M6 HT_.out (by kernel_rfl)) (by decide) (fun K hK=>?_)
         refine ae6 Try.func15 (by kernel_rfl) rfl #[.agg #[.slice X1 aq5.length V1,.int .i64 ax7],.int .i64 (rd l0 (ji19))] (by rfl) rfl rfl (by(try simp only [List.map_toArray,List.map_cons,List.map_nil]);first|done|(simp only [hji19];rfl)|rfl|(simp only [List.length_drop,List.length_take];rfl)) ?_
         with_reducible refine(q53.calls kj5 _ _ aq5 ax7 (rd l0 (ji19)) cq5 cH2 dj3 _ ?side1 ?side2 A22.out).mono ?_
         (case side1=>exact cr_ C0)
         (case side2=>exact(Kd.R_reads' C0.out).2.1)
         rintro e G4 ⟨z5,rfl,M0,hb⟩
         refine⟨_,rfl,?_⟩
         have n_:=pk6 (Kd.R_elder' (ro_ HO_411000) (Kd.R_base M0) hb) (Kd.R_elder' (ro_ C0) (Kd.R_base M0) hb) (Kd.R_lower (Kd.R_new' (Kd.R_new' M0 (Kd.R_lt (ro_ HO_411000))) (Kd.R_lt (ro_ C0))) (L0 bl_)) (F0 (bo_ E7) hb) (F0 (bo_ C5) hb) (E0 bl_ hb)
         clear HO_411000 C0 E7 C5 HB
         obtain⟨HO_411000,C0,Q0,E7,C5,HB⟩:=n_
         (try clear hb)
         (try clear hb2)
         (try clear hk)
         (try clear hi)
         (try clear M0)
         obtain⟨F4,V3,n8⟩:=Kd.R_slice Q0.out
         (first|subst n8|(injection n8 with f1_ f2_ f3_;have f7000_:=f1_.symm;have f7001_:=f3_.symm;clear f1_ f2_ f3_;subst f7000_;subst f7001_))
         refine hK.out _ _ ⟨(m0 C5.out 0).trans rfl,(m0 C5.out 1).trans rfl,((HB.out.cell (World.block_lt_of_cell? w _ I2)).trans I2)⟩ (fun hHeld=>?_)
         clear hK K
         refine o7 (a':=?_) ?_ ?_
         rotate_left
         ·show Act.put _ (some 47) _=_
          simp only [ap_,sb_,s0_,s1_,N0,P0]
          rfl
         refine z1 (i:=7) (N:=some 40) (v:=?_) (a':=?_) #[true,true,true,true,true,true,true,true,false,false,false] rfl rfl (V0 HT_.out (by kernel_rfl)) (fun _ _ _ h=>h) (Or.inl ⟨by rfl,?_⟩) ?_ ?_
         rotate_left
         ·intro w'
          go_simp
          with_reducible rfl
         rotate_left
         ·simp only [ap_,sb_,s0_,s1_,N0,P0]
          rfl
         refine z1 (i:=8) (N:=some 48) (v:=?_) (a':=?_) #[true,true,true,true,true,true,true,true,true,false,false] rfl rfl (V0 HT_.out (by kernel_rfl)) (fun _ _ _ h=>h) (Or.inl ⟨by rfl,?_⟩) ?_ ?_
         rotate_left
         ·intro w'
          go_simp
          with_reducible rfl
         rotate_left
         ·simp only [ap_,sb_,s0_,s1_,N0,P0]
          rfl
         refine z1 (i:=9) (N:=some 49) (v:=?_) (a':=?_) #[true,true,true,true,true,true,true,true,true,true,false] rfl rfl (V0 HT_.out (by kernel_rfl)) (fun _ _ _ h=>h) (Or.inl ⟨by rfl,?_⟩) ?_ ?_
         rotate_left
         ·intro w'
          go_simp
          with_reducible rfl
         rotate_left
         ·simp only [ap_,sb_,s0_,s1_,N0,P0]
          rfl
         refine bj0 (i:=10) (N:=none) #[true,true,true,true,true,true,true,true,true,true,true] rfl rfl (M6 HT_.out (by kernel_rfl)) (by decide) (fun K hK=>?_)
         have bl4:G4.cell? ⟨n7,0,none⟩=some (.slice X1 aq5.length V1):=(m0 C5.out 0).trans rfl
         have aU3:=t0 C5.out 0
         have bf9:=D8.out
         have bi3:=ak9.out
         have bn8:G4.cell? ⟨n7,1,none⟩=some (.int .i64 ax7):=(m0 C5.out 1).trans rfl
         have aS8:=t0 C5.out 1
         have bj3:=D8.out
         have bf5:=ak9.out
         refine aR2 (w1:=?_) (by rfl) rfl ?_ ?_
         rotate_left
         ·go_simp
          rfl
         refine hK.out _ _ ?_
         clear hK K
         refine ab2 (K7 HT_.out (by kernel_rfl)) ?_
         try go_wp2
         go_roundg kj5
         case measure=>have:=HK1.out;have:=HJ5.out;omega
         case rel=>exact⟨(wrap64 (x4_1+2)),(cq5),(cH2),(.slice F4 cq5.length V3),sm_,H',⟨by have:=HK1.out;have:=HJ5.out;omega⟩,⟨(rt_ (Kd.R_mono (Kd.R_far (p:=⟨n7,1,none⟩) (Kd.R_far (p:=⟨n7,0,none⟩) (Kd.R_types Q0.out C5.out (by decide)) (fun _ hk=>hk.2) (.slice F4 cq5.length V3)) (fun _ hk=>hk.2) (.int .i64 cH2)) (fun _ hk=>trivial)))⟩,⟨by(with_reducible repeat(first|refine G0 ?_ _|refine J0 ?_|refine I0 ?_ _));refine Y0 ?_ D8.out _;(with_reducible repeat(first|refine G0 ?_ _|refine J0 ?_|refine I0 ?_ _));refine Y0 ?_ D8.out _;exact(bo_ E7)⟩,⟨by(with_reducible repeat(first|refine G0 ?_ _|refine J0 ?_|refine I0 ?_ _));refine D1 (cs:=#[.slice F4 cq5.length V3,.int .i64 ax7]) ?_ 1 _ rfl;(with_reducible repeat(first|refine G0 ?_ _|refine J0 ?_|refine I0 ?_ _));refine D1 (cs:=#[.slice X1 aq5.length V1,.int .i64 ax7]) ?_ 0 _ rfl;exact(bo_ C5)⟩,⟨bl_⟩⟩
   simp only [Option.some.injEq,Prod.mk.injEq] at H
   obtain⟨rfl,rfl⟩:=H
   have hnb35:=ak9.out
   have hnc35:=D8.out
   obtain⟨hcz36_0,hcz36_1,hfz36_0,hfz36_1⟩:=N4 C5.out
   obtain⟨Ao37,co37,eo37⟩:=Kd.R_slice HO_411000.out
   subst eo37
   obtain⟨hcz38_0,hcz38_1,hfz38_0,hfz38_1⟩:=N4 E7.out
   go_wp2
   refine bodyPost_ret (results_cell_row rfl _ _ aE5 25 #[.slice Ao37 O5.length co37,.int .i64 B6] (0,0) _ rfl (by(with_reducible repeat(first|refine G0 ?_ _|refine J0 ?_|refine I0 ?_ _));refine D1 (cs:=#[.slice Ao37 O5.length co37,.int .i64 0]) ?_ 1 _ rfl;(with_reducible repeat(first|refine G0 ?_ _|refine J0 ?_|refine I0 ?_ _));refine D1 (cs:=#[.slice none 0 0,.int .i64 0]) ?_ 0 _ rfl;exact(bo_ E7)) Try.underlying25 rfl (by kernel_rfl)) rfl ?_
   exact⟨_,rf_,(rt_ (Kd.R_mono (Kd.R_far (p:=⟨aE5,1,none⟩) (Kd.R_far (p:=⟨aE5,0,none⟩) (Kd.R_types HO_411000.out E7.out (by decide)) (fun _ hk=>hk.2) (.slice Ao37 O5.length co37)) (fun _ hk=>hk.2) (.int .i64 B6)) (fun _ hk=>trivial))),bl_⟩
end Go.Proofs.Ytmddmbagehjdeaa.G
end
section
namespace Go.Proofs.Ytmddmbagehjdeaa.G
open Go.RowKit Go.Proofs.YtmddmbagehjdeaaX Go.Proofs.YtmddmbagehjdeaaW.PrintWords Go.Proofs.YtmddmbagehjdeaaW.PrintLast Go.Proofs.YtmddmbagehjdeaaW.PrintMore
attribute [local go_sem] S3 R3 R4 S4 P3 N3 D4 Y3
def q35.f (k:Nat) (l0:List (S67)):Option (Int×Int×Int×List Int×Int×Int):=(q41.f k l0).bind fun bA4=>(if bA4.2.2=0 then(if(l0.length:Int)=0 then(some (0,0,0,([]:List Int),0,1))else(if 0<(l0.length:Int)then(if 0≤(wrap64 ((l0.length:Int) - 1))then(if(wrap64 ((l0.length:Int) - 1))<(l0.length:Int)then((q15.f k bA4.1).bind fun aQ9=>(some ((l0.length:Int),(D0 l0 0).f0,(D0 l0 (wrap64 ((l0.length:Int) - 1))).f0,aQ9.1,aQ9.2,0)))else(none))else(none))else(none)))else(some (0,0,0,([]:List Int),0,1)))
theorem q35.mono:∀ a0 k,LeO (q35.f k a0) (q35.f (k+1) a0):=by
 intro a0 k
 unfold q35.f
 repeat' first
   |(with_reducible exact q41.mono _ _)
   |(with_reducible exact q15.mono _ _)
   |(with_reducible exact LeO.refl _)
   |(with_reducible exact LeO.none _)
   |(with_reducible refine LeO.ite ?_ ?_)
   |(with_reducible refine LeO.bind ?_ (fun _=>?_))
   |exact q41.mono _ _
   |exact q15.mono _ _
   |exact LeO.none _
   |refine LeO.ite ?_ ?_
   |refine LeO.bind ?_ (fun _=>?_)
def q35.T4:Bool×List (List Nat×List Nat):=(true,[([],[]),([0],[0]),([],[]),([2],[2]),([3],[3]),([4],[4]),([],[]),([],[]),([7],[7]),([8],[8]),([6,9],[6,9]),([10],[10]),([11],[11]),([],[]),([13],[13]),([14],[14]),([1,5,12,15],[1,5,12,15]),([16,15,0,1,2,3,4,5,6,7,8,9,10,11,12,13,14,15,16],[16]),([17,0,1,2,3,4,5,6,7,8,9,10,11,12,13,14,15,16,17],[])])
def q35.B4:List Nat:=[0,1,0,4,12,28,0,0,128,384,960,1984,4032,0,8192,24576,65535,131071,262143]
theorem q35.tab4:rtab .any (ap1 Try.f37 4)=q35.T4:=by kernel_rfl
theorem q35.bits4:b8 q35.T4.2 q35.B4=true:=by kernel_rfl
theorem q35.calls (k:Nat) (A0:Option Addr) (c0:Nat) (l0:List (S67)) (r1:Int) (r2:Int) (r3:Int) (r4:List Int) (r5:Int) (r6:Int) (w:World) (hr0:Kd.C k67 w A0 l0.length l0) (hc0:l0.length≤c0) (h:q35.f k l0=some (r1,r2,r3,r4,r5,r6)) :
  Calls Try.prog 37 #[.slice A0 l0.length c0] w fun e w'=>∃ v3_:Value,e=.returned (.tuple #[.agg #[.int .i64 r1,.int .i64 r2,.int .i64 r3,v3_,.int .i64 r5],.int .i64 r6])∧Kd.R (Kd.int .u8) 5 w' w.heap.size (fun _=>True) v3_ r4∧Below w.heap.size w w':=by
 have hu69:=Try.underlying69
 have hu98:=Try.underlying98
 have HR0:=q5.mk hr0
 have HC0:=q5.mk hc0
 clear hr0 hc0
 have HB:=q5.mk (Below.refl w.heap.size w)
 have H:((q41.f k l0).bind fun bA4=>(if bA4.2.2=0 then(if(l0.length:Int)=0 then(some (0,0,0,([]:List Int),0,1))else(if 0<(l0.length:Int)then(if 0≤(wrap64 ((l0.length:Int) - 1))then(if(wrap64 ((l0.length:Int) - 1))<(l0.length:Int)then((q15.f k bA4.1).bind fun aQ9=>(some ((l0.length:Int),(D0 l0 0).f0,(D0 l0 (wrap64 ((l0.length:Int) - 1))).f0,aQ9.1,aQ9.2,0)))else(none))else(none))else(none)))else(some (0,0,0,([]:List Int),0,1))))=some (r1,r2,r3,r4,r5,r6):=h
 clear h
 replace H:=N2 H
 obtain⟨⟨av7,aI8,cV6⟩,A2,H⟩:=H
 try dsimp only at H
 replace H:=deqn H
 rcases H with⟨c3b0,c3b1,H⟩|⟨c3b0,c3b1,c3,H⟩
 focus
  by_cases c4:(l0.length:Int)=0
  focus
   rw [if_pos c4] at H
   have c4b0:((l0.length:Int) == 0)=true:=beq_iff_eq.mpr c4
   have c4b1:((l0.length:Int) != 0)=false:=bne_eq_false_iff_eq.mpr c4
   clear c4
   simp only [Option.some.injEq,Prod.mk.injEq] at H
   obtain⟨rfl,rfl,rfl,rfl,rfl,rfl⟩:=H
  rotate_left
  focus
   rw [if_neg c4] at H
   have c4b0:((l0.length:Int) == 0)=false:=beq_eq_false_iff_ne.mpr c4
   have c4b1:((l0.length:Int) != 0)=true:=bne_iff_ne.mpr c4
   have c4b2:¬(l0=[]):=fun h_=>c4 (by rw [h_];rfl)
   by_cases c13:0<(l0.length:Int)
   rotate_left
   ·rw [if_neg c13] at H
    exact absurd H (by simp)
   rw [if_pos c13] at H
   have c13b0:decide (0<(l0.length:Int))=true:=decide_eq_true c13
   have c13b1:decide (0<l0.length)=true:=decide_eq_true (by omega)
   clear c13
   obtain⟨ji14,hji14⟩:∃ j_:Int,(wrap64 ((l0.length:Int) - 1))=j_:=⟨_,rfl⟩
   replace H:(if 0≤(ji14)then(if(ji14)<(l0.length:Int)then((q15.f k av7).bind fun aQ9=>(some ((l0.length:Int),(D0 l0 0).f0,(D0 l0 (ji14)).f0,aQ9.1,aQ9.2,0)))else(none))else(none))=some (r1,r2,r3,r4,r5,r6):=by first|(rw [hji14] at H;exact H)|(simp only [hji14] at H ⊢;exact H)
   (try rw [hji14] at A2)
   have hji14w:(IntKind.i64.wrap ((l0.length:Int) - 1))=ji14:=(N0 _).trans hji14
   replace H:=dle H
   rcases H with⟨c15b0,H⟩|⟨c15b0,H⟩
   rotate_left
   ·exact absurd H (by simp)
   replace H:=dle H
   rcases H with⟨c16b0,H⟩|⟨c16b0,H⟩
   rotate_left
   ·exact absurd H (by simp)
   replace H:=N2 H
   obtain⟨⟨cx8,cG1⟩,A17,H⟩:=H
   try dsimp only at H
   simp only [Option.some.injEq,Prod.mk.injEq] at H
   obtain⟨rfl,rfl,rfl,rfl,rfl,rfl⟩:=H
 rotate_left 2
 focus
  simp only [Option.some.injEq,Prod.mk.injEq] at H
  obtain⟨rfl,rfl,rfl,rfl,rfl,rfl⟩:=H
 all_goals
  go_enter Try.func37,Try.ntmps37
  first
   |go_wp2_with (first|((with_reducible refine X0 (N:=2) rfl ?_);(try(refine O2 (by rfl) ?_;dsimp only));refine L2 2 #[.int .i64 0,.int .i64 0,.int .i64 0,.slice none 0 0,.int .i64 0] 69 ?_;intro B0 hg U1 hbox hb;have n_:=pk4 (E0 bl_ hb) (hbox) ((ge_ hg bl_:w.heap.size≤B0)) ((ge_ hg bl_:w.heap.size≤B0));clear HB;obtain⟨HB,o0,C2,F5⟩:=n_;clear hb hbox hg)|((with_reducible refine C1 (f:=70) rfl ?_);refine goL_ (some 8) Try.func70 #[.slice A0 l0.length c0] ?_;(with_reducible refine(q41.calls k _ _ l0 av7 aI8 cV6 _ ?side1 ?side2 A2.out).mono ?_);(case side1=>exact cb_ HR0);(case side2=>exact HC0.out);rintro e Z1 ⟨M4,z5,rfl,M0,X6,hb⟩;refine⟨_,rfl,?_⟩;have n_:=pk4 (Kd.R_lower M0 (L0 bl_)) (Kd.R_lower X6 (L0 bl_)) (F0 (bo_ o0) hb) (E0 bl_ hb);clear o0 HB;obtain⟨C0,Q0,o0,HB⟩:=n_;(try clear hb M0 X6))|((with_reducible refine X0 (N:=4) rfl ?_);(try(refine O2 (by rfl) ?_;dsimp only));refine L2 4 #[.slice none 0 0,.slice none 0 0] 98 ?_;intro S0 hg F2 hbox hb;have n_:=pk9 (Kd.R_below (ro_ C0) hb) (Kd.R_below (ro_ Q0) hb) (F0 (bo_ o0) hb) (E0 bl_ hb) (hbox) ((ge_ hg bl_:w.heap.size≤S0)) ((ge_ hg bl_:w.heap.size≤S0)) ((nb_ hg (bo_ o0):B0≠S0)) ((nc_ hg (bo_ o0):S0≠B0));clear C0 Q0 o0 HB;obtain⟨C0,Q0,o0,HB,O0,V9,W9,Q1,F1⟩:=n_;clear hb hbox hg;obtain⟨T0,R0,S1⟩:=Kd.R_slice C0.out;subst S1;have V6:=F1.out;have Z6:=Q1.out;have Y2:F2.cell? ⟨S0,0,none⟩=some (.slice none 0 0):=(m0 O0.out 0).trans rfl;have z3:F2.cell? ⟨S0,1,none⟩=some (.slice none 0 0):=(m0 O0.out 1).trans rfl;have D3:=t0 O0.out 0;have Z2:=t0 O0.out 1;obtain⟨X1,V1,U2⟩:=Kd.R_slice Q0.out;subst U2;have z4:F2.cell? ⟨B0,0,none⟩=some (.int .i64 0):=(m0 o0.out 0).trans rfl;have C4:F2.cell? ⟨B0,1,none⟩=some (.int .i64 0):=(m0 o0.out 1).trans rfl;have E8:F2.cell? ⟨B0,2,none⟩=some (.int .i64 0):=(m0 o0.out 2).trans rfl;have s8:F2.cell? ⟨B0,3,none⟩=some (.slice none 0 0):=(m0 o0.out 3).trans rfl;have r8:F2.cell? ⟨B0,4,none⟩=some (.int .i64 0):=(m0 o0.out 4).trans rfl;have j4:=t0 o0.out 0;have Z3:=t0 o0.out 1;have v8:=t0 o0.out 2;have z8:=t0 o0.out 3;have t8:=t0 o0.out 4))
    refine bodyPost_ret (N5 rfl _ _ B0 69 #[.int .i64 0,.int .i64 0,.int .i64 0,.slice none 0 0,.int .i64 0] (0,0) _ rfl (by(with_reducible repeat(first|refine G0 ?_ _|refine J0 ?_|refine I0 ?_ _));refine D1 (cs:=#[.int .i64 0,.int .i64 0,.int .i64 0,.slice none 0 0,.int .i64 0]) ?_ 4 _ rfl;(with_reducible repeat(first|refine G0 ?_ _|refine J0 ?_|refine I0 ?_ _));refine D1 (cs:=#[.int .i64 0,.int .i64 0,.int .i64 0,.slice none 0 0,.int .i64 0]) ?_ 3 _ rfl;(with_reducible repeat(first|refine G0 ?_ _|refine J0 ?_|refine I0 ?_ _));refine D1 (cs:=#[.int .i64 0,.int .i64 0,.int .i64 0,.slice none 0 0,.int .i64 0]) ?_ 2 _ rfl;(with_reducible repeat(first|refine G0 ?_ _|refine J0 ?_|refine I0 ?_ _));refine D1 (cs:=#[.int .i64 0,.int .i64 0,.int .i64 0,.slice none 0 0,.int .i64 0]) ?_ 1 _ rfl;(with_reducible repeat(first|refine G0 ?_ _|refine J0 ?_|refine I0 ?_ _));refine D1 (cs:=#[.int .i64 0,.int .i64 0,.int .i64 0,.slice none 0 0,.int .i64 0]) ?_ 0 _ rfl;(with_reducible repeat(first|refine G0 ?_ _|refine J0 ?_|refine I0 ?_ _));refine Y0 ?_ Q1.out _;(with_reducible repeat(first|refine G0 ?_ _|refine J0 ?_|refine I0 ?_ _));refine Y0 ?_ Q1.out _;exact(bo_ o0)) Try.underlying69 rfl (by kernel_rfl)) rfl ?_
    exact⟨_,rf_,nl_,bl_⟩
   |try go_wp2_with (first|((with_reducible refine X0 (N:=2) rfl ?_);(try(refine O2 (by rfl) ?_;dsimp only));refine L2 2 #[.int .i64 0,.int .i64 0,.int .i64 0,.slice none 0 0,.int .i64 0] 69 ?_;intro B0 hg U1 hbox hb;have n_:=pk4 (E0 bl_ hb) (hbox) ((ge_ hg bl_:w.heap.size≤B0)) ((ge_ hg bl_:w.heap.size≤B0));clear HB;obtain⟨HB,o0,C2,F5⟩:=n_;clear hb hbox hg)|((with_reducible refine C1 (f:=70) rfl ?_);refine goL_ (some 8) Try.func70 #[.slice A0 l0.length c0] ?_;(with_reducible refine(q41.calls k _ _ l0 av7 aI8 cV6 _ ?side1 ?side2 A2.out).mono ?_);(case side1=>exact cb_ HR0);(case side2=>exact HC0.out);rintro e Z1 ⟨M4,z5,rfl,M0,X6,hb⟩;refine⟨_,rfl,?_⟩;have n_:=pk4 (Kd.R_lower M0 (L0 bl_)) (Kd.R_lower X6 (L0 bl_)) (F0 (bo_ o0) hb) (E0 bl_ hb);clear o0 HB;obtain⟨C0,Q0,o0,HB⟩:=n_;(try clear hb M0 X6))|((with_reducible refine X0 (N:=4) rfl ?_);(try(refine O2 (by rfl) ?_;dsimp only));refine L2 4 #[.slice none 0 0,.slice none 0 0] 98 ?_;intro S0 hg F2 hbox hb;have n_:=pk9 (Kd.R_below (ro_ C0) hb) (Kd.R_below (ro_ Q0) hb) (F0 (bo_ o0) hb) (E0 bl_ hb) (hbox) ((ge_ hg bl_:w.heap.size≤S0)) ((ge_ hg bl_:w.heap.size≤S0)) ((nb_ hg (bo_ o0):B0≠S0)) ((nc_ hg (bo_ o0):S0≠B0));clear C0 Q0 o0 HB;obtain⟨C0,Q0,o0,HB,O0,V9,W9,Q1,F1⟩:=n_;clear hb hbox hg;obtain⟨T0,R0,S1⟩:=Kd.R_slice C0.out;subst S1;have V6:=F1.out;have Z6:=Q1.out;have Y2:F2.cell? ⟨S0,0,none⟩=some (.slice none 0 0):=(m0 O0.out 0).trans rfl;have z3:F2.cell? ⟨S0,1,none⟩=some (.slice none 0 0):=(m0 O0.out 1).trans rfl;have D3:=t0 O0.out 0;have Z2:=t0 O0.out 1;obtain⟨X1,V1,U2⟩:=Kd.R_slice Q0.out;subst U2))
    have n7000_:q5 (Kd.R (Kd.int .i64) 3 ((F2.setCell ⟨S0,0,none⟩ (.slice T0 av7.length R0)).setCell ⟨S0,1,none⟩ (.slice X1 aI8.length V1)) w.heap.size (fun _=>True) (.slice T0 av7.length R0) av7):=⟨(rt_ (Kd.R_mono (Kd.R_far (p:=⟨S0,1,none⟩) (Kd.R_far (p:=⟨S0,0,none⟩) (Kd.R_types C0.out O0.out (by decide)) (fun _ hk=>hk.2) (.slice T0 av7.length R0)) (fun _ hk=>hk.2) (.slice X1 aI8.length V1)) (fun _ hk=>trivial)))⟩
    have n7001_:q5 (Kd.R Kd.string 9 ((F2.setCell ⟨S0,0,none⟩ (.slice T0 av7.length R0)).setCell ⟨S0,1,none⟩ (.slice X1 aI8.length V1)) w.heap.size (fun _=>True) (.slice X1 aI8.length V1) aI8):=⟨(rt_ (Kd.R_mono (Kd.R_far (p:=⟨S0,1,none⟩) (Kd.R_far (p:=⟨S0,0,none⟩) (Kd.R_types Q0.out O0.out (by decide)) (fun _ hk=>hk.2) (.slice T0 av7.length R0)) (fun _ hk=>hk.2) (.slice X1 aI8.length V1)) (fun _ hk=>trivial)))⟩
    have n7002_:q5 (((F2.setCell ⟨S0,0,none⟩ (.slice T0 av7.length R0)).setCell ⟨S0,1,none⟩ (.slice X1 aI8.length V1)).heap[B0]?=some (.cells #[.int .i64 0,.int .i64 0,.int .i64 0,.slice none 0 0,.int .i64 0] 69 (0,0))):=⟨by(with_reducible repeat(first|refine G0 ?_ _|refine J0 ?_|refine I0 ?_ _));refine Y0 ?_ Q1.out _;(with_reducible repeat(first|refine G0 ?_ _|refine J0 ?_|refine I0 ?_ _));refine Y0 ?_ Q1.out _;exact(bo_ o0)⟩
    have n7003_:q5 (((F2.setCell ⟨S0,0,none⟩ (.slice T0 av7.length R0)).setCell ⟨S0,1,none⟩ (.slice X1 aI8.length V1)).heap[S0]?=some (.cells #[.slice T0 av7.length R0,.slice X1 aI8.length V1] 98 (0,0))):=⟨by(with_reducible repeat(first|refine G0 ?_ _|refine J0 ?_|refine I0 ?_ _));refine D1 (cs:=#[.slice T0 av7.length R0,.slice none 0 0]) ?_ 1 _ rfl;(with_reducible repeat(first|refine G0 ?_ _|refine J0 ?_|refine I0 ?_ _));refine D1 (cs:=#[.slice none 0 0,.slice none 0 0]) ?_ 0 _ rfl;exact(bo_ O0)⟩
    have n7004_:q5 (Below w.heap.size w ((F2.setCell ⟨S0,0,none⟩ (.slice T0 av7.length R0)).setCell ⟨S0,1,none⟩ (.slice X1 aI8.length V1))):=⟨bl_⟩
    (try clear C0)
    (try clear Q0)
    (try clear o0)
    (try clear O0)
    (try clear HB)
    generalize ((F2.setCell ⟨S0,0,none⟩ (.slice T0 av7.length R0)).setCell ⟨S0,1,none⟩ (.slice X1 aI8.length V1))=X2 at n7000_ n7001_ n7002_ n7003_ n7004_ ⊢
    have C0:=n7000_
    have Q0:=n7001_
    have o0:=n7002_
    have O0:=n7003_
    have HB:=n7004_
    clear n7000_ n7001_ n7002_ n7003_ n7004_
    have n_:=pk5 (Kd.R_drew C0.out) (Kd.R_drew Q0.out) (J0 o0.out) (J0 O0.out) (N1 HB.out)
    clear C0 Q0 o0 O0 HB
    obtain⟨C0,Q0,o0,O0,HB⟩:=n_
    have F3:0≤(0:Int):=(by omega)
    have I3:0<(l0.length:Int):=dc_
    obtain⟨J1,E6,Z0,T2⟩:=R2 HR0.out 0 F3 I3
    have o5:=T2
    (try rw [show((0:Int)).toNat=0 from rfl] at o5)
    (try rw [show 0*2=0 from rfl] at o5)
    (try rw [Addr.add_zero'] at o5)
    have D2:=Z0
    (try rw [show((0:Int)).toNat=0 from rfl] at D2)
    (try rw [show 0*2=0 from rfl] at D2)
    (try rw [Addr.add_zero'] at D2)
    cases E6
    have bQ5:(0<l0.length)=True:=eq_true (by omega)
    (try rw [show((0:Int)).toNat=0 from rfl] at Z0)
    (try rw [show 0*2=0 from rfl] at Z0)
    (try rw [Addr.add_zero'] at Z0)
    (try rw [show((0:Int)).toNat=0 from rfl] at T2)
    (try rw [show 0*2=0 from rfl] at T2)
    (try rw [Addr.add_zero'] at T2)
    replace Z0:=(HB.out.cell (World.block_lt_of_cell? w _ Z0)).trans Z0
    replace T2:=(HB.out.cell (World.block_lt_of_cell? w _ T2)).trans T2
    replace F3:=eq_true F3
    replace I3:=eq_true I3
    have V7:0≤((ji14):Int):=dc_
    have U7:(ji14)<(l0.length:Int):=dc_
    obtain⟨am4,aA9,M3,F8⟩:=R2 HR0.out (ji14) V7 U7
    have F6:=F8
    have I2:=M3
    obtain rfl:J1=am4:=(by injection aA9)
    replace M3:=(HB.out.cell (World.block_lt_of_cell? w _ M3)).trans M3
    replace F8:=(HB.out.cell (World.block_lt_of_cell? w _ F8)).trans F8
    replace V7:=eq_true V7
    replace U7:=eq_true U7
    refine b9 (n:=19) (S:=fun w'=>w'.cell? ⟨S0,0,none⟩=some (.slice T0 av7.length R0)∧w'.cell? ⟨S0,1,none⟩=some (.slice X1 aI8.length V1)∧w'.cell? J1=some (.int .i64 ((D0 l0 0).f0))∧w'.cell? ⟨J1.block,J1.off+1,none⟩=some (.int .i64 ((D0 l0 0).f1))∧w'.cell? (J1.add (((ji14)).toNat*2))=some (.int .i64 ((D0 l0 (ji14)).f0))∧w'.cell? ⟨(J1.add (((ji14)).toNat*2)).block,(J1.add (((ji14)).toNat*2)).off+1,none⟩=some (.int .i64 ((D0 l0 (ji14)).f1))) (ds:=[]) cn2 (by kernel_rfl) rfl rfl ⟨(m0 O0.out 0).trans rfl,(m0 O0.out 1).trans rfl,((HB.out.cell (World.block_lt_of_cell? w _ D2)).trans D2),((HB.out.cell (World.block_lt_of_cell? w _ o5)).trans o5),((HB.out.cell (World.block_lt_of_cell? w _ I2)).trans I2),((HB.out.cell (World.block_lt_of_cell? w _ F6)).trans F6)⟩ (fun hHeld=>?_);refine b6 q35.tab4 q35.bits4 (fun HT_ HW_=>?_)
    generalize X2.drew=G4 at C0 Q0 o0 O0 HB Z0 T2 M3 F8 hHeld ⊢
    refine z1 (i:=0) (N:=some 19) (v:=?_) (a':=?_) cn1 rfl rfl (V0 HT_.out (by kernel_rfl)) (fun _ _ _ h=>h) (Or.inl ⟨by rfl,?_⟩) ?_ ?_
    rotate_left
    ·intro w'
     go_simp
     with_reducible rfl
    rotate_left
    ·simp only [ap_,sb_,s0_,s1_,N0,P0]
     rfl
    refine z1 (i:=1) (N:=some 20) (v:=?_) (a':=?_) cp2 rfl rfl (V0 HT_.out (by kernel_rfl)) (fun _ _ _ h=>h) (Or.inl ⟨by rfl,?_⟩) ?_ ?_
    rotate_left
    ·intro w'
     go_simp
     with_reducible rfl
    rotate_left
    ·simp only [ap_,sb_,s0_,s1_,N0,P0]
     rfl
    refine z1 (i:=2) (N:=some 21) (v:=?_) (a':=?_) cj5 rfl rfl (V0 HT_.out (by kernel_rfl)) (fun _ _ _ h=>h) (Or.inl ⟨by rfl,?_⟩) ?_ ?_
    rotate_left
    ·intro w'
     go_simp
     with_reducible rfl
    rotate_left
    ·simp only [ap_,sb_,s0_,s1_,N0,P0]
     rfl
    refine z1 (i:=3) (N:=some 22) (v:=?_) (a':=?_) ca5 rfl rfl (V0 HT_.out (by kernel_rfl)) (fun _ _ _ h=>h) (Or.inl ⟨by rfl,?_⟩) ?_ ?_
    rotate_left
    ·intro w'
     go_simp
     with_reducible rfl
    rotate_left
    ·simp only [ap_,sb_,s0_,s1_,N0,P0]
     rfl
    refine z1 (i:=4) (N:=some 23) (v:=?_) (a':=?_) bZ2 rfl rfl (V0 HT_.out (by kernel_rfl)) (fun _ _ _ h=>h) (Or.inl ⟨by rfl,?_⟩) ?_ ?_
    rotate_left
    ·intro w'
     go_simp
     with_reducible rfl
    rotate_left
    ·simp only [ap_,sb_,s0_,s1_,N0,P0]
     rfl
    refine z1 (i:=6) (N:=some 25) (v:=?_) (a':=?_) bY9 rfl rfl (V0 HT_.out (by kernel_rfl)) (fun _ _ _ h=>h) (Or.inl ⟨by rfl,?_⟩) ?_ ?_
    rotate_left
    ·intro w'
     go_simp
     with_reducible rfl
    rotate_left
    ·simp only [ap_,sb_,s0_,s1_,N0,P0]
     rfl
    refine z1 (i:=7) (N:=some 26) (v:=?_) (a':=?_) bH9 rfl rfl (V0 HT_.out (by kernel_rfl)) (fun _ _ _ h=>h) (Or.inl ⟨by rfl,?_⟩) ?_ ?_
    rotate_left
    ·intro w'
     go_simp
     with_reducible rfl
    rotate_left
    ·simp only [ap_,sb_,s0_,s1_,N0,P0]
     rfl
    refine z1 (i:=8) (N:=some 27) (v:=?_) (a':=?_) bL4 rfl rfl (V0 HT_.out (by kernel_rfl)) (fun _ _ _ h=>h) (Or.inl ⟨by rfl,?_⟩) ?_ ?_
    rotate_left
    ·intro w'
     go_simp
     with_reducible rfl
    rotate_left
    ·simp only [ap_,sb_,s0_,s1_,N0,P0]
     rfl
    refine z1 (i:=9) (N:=some 28) (v:=?_) (a':=?_) bO1 rfl rfl (V0 HT_.out (by kernel_rfl)) (fun _ _ _ h=>h) (Or.inl ⟨by rfl,?_⟩) ?_ ?_
    rotate_left
    ·intro w'
     go_simp
     with_reducible rfl
    rotate_left
    ·simp only [ap_,sb_,s0_,s1_,N0,P0]
     rfl
    refine z1 (i:=10) (N:=some 29) (v:=?_) (a':=?_) bB4 rfl rfl (V0 HT_.out (by kernel_rfl)) (fun _ _ _ h=>h) (Or.inl ⟨by rfl,?_⟩) ?_ ?_
    rotate_left
    ·intro w'
     go_simp
     with_reducible rfl
    rotate_left
    ·simp only [ap_,sb_,s0_,s1_,N0,P0]
     rfl
    refine z1 (i:=11) (N:=some 30) (v:=?_) (a':=?_) bs9 rfl rfl (V0 HT_.out (by kernel_rfl)) (fun _ _ _ h=>h) (Or.inl ⟨by rfl,?_⟩) ?_ ?_
    rotate_left
    ·intro w'
     go_simp
     with_reducible rfl
    rotate_left
    ·simp only [ap_,sb_,s0_,s1_,N0,P0]
     rfl
    refine z1 (i:=13) (N:=some 32) (v:=?_) (a':=?_) bp8 rfl rfl (V0 HT_.out (by kernel_rfl)) (fun _ _ _ h=>h) (Or.inl ⟨by rfl,?_⟩) ?_ ?_
    rotate_left
    ·intro w'
     go_simp
     with_reducible rfl
    rotate_left
    ·simp only [ap_,sb_,s0_,s1_,N0,P0]
     rfl
    refine take_ (i:=5) (N:=some 24) (v:=?_) (a':=?_) bo1 rfl rfl (M2 HT_.out HW_.out (by kernel_rfl)) (fun _ _ _ h=>h) (Or.inl ⟨by rfl,?_⟩) hHeld ?_ ?_
    rotate_left
    ·rintro w' ⟨G6,S6,T6,m8,O8,N8⟩
     go_simp
     with_reducible rfl
    rotate_left
    ·simp only [ap_,sb_,s0_,s1_,N0,P0]
     rfl
    refine take_ (i:=12) (N:=some 31) (v:=?_) (a':=?_) bk3 rfl rfl (M2 HT_.out HW_.out (by kernel_rfl)) (fun _ _ _ h=>h) (Or.inl ⟨by rfl,?_⟩) hHeld ?_ ?_
    rotate_left
    ·rintro w' ⟨G6,S6,T6,m8,O8,N8⟩
     go_simp
     with_reducible rfl
    rotate_left
    ·simp only [ap_,sb_,s0_,s1_,N0,P0]
     rfl
    refine take_ (i:=14) (N:=some 33) (v:=?_) (a':=?_) bo9 rfl rfl (M2 HT_.out HW_.out (by kernel_rfl)) (fun _ _ _ h=>h) (Or.inl ⟨by rfl,?_⟩) hHeld ?_ ?_
    rotate_left
    ·rintro w' ⟨G6,S6,T6,m8,O8,N8⟩
     go_simp
     with_reducible rfl
    rotate_left
    ·simp only [ap_,sb_,s0_,s1_,N0,P0]
     rfl
    refine one_ (i:=15) (N:=some 34) br9 rfl rfl (M6 HT_.out (by kernel_rfl)) (by decide) (fun K hK=>?_)
    refine ae6 Try.func71 (by kernel_rfl) rfl #[.slice T0 av7.length R0] (by rfl) rfl rfl (by(try simp only [List.map_toArray,List.map_cons,List.map_nil]);first|done|rfl|(simp only [List.length_drop,List.length_take];rfl)) ?_
    with_reducible refine(q15.calls k _ _ av7 cx8 cG1 _ ?side1 ?side2 A17.out).mono ?_
    (case side1=>exact cr_ C0)
    (case side2=>exact(Kd.R_reads' C0.out).2.1)
    rintro e Z9 ⟨ae1,rfl,M0,hb⟩
    refine⟨_,rfl,?_⟩
    have n_:=pk6 (Kd.R_below (ro_ C0) hb) (Kd.R_below (ro_ Q0) hb) (Kd.R_lower M0 (L0 bl_)) (F0 (bo_ o0) hb) (F0 (bo_ O0) hb) (E0 bl_ hb)
    clear C0 Q0 o0 O0 HB
    obtain⟨C0,Q0,E1,o0,O0,HB⟩:=n_
    (try clear hb)
    (try clear hb2)
    (try clear hk)
    (try clear hi)
    (try clear M0)
    obtain⟨F4,V3,n8⟩:=Kd.R_slice E1.out
    (first|subst n8|(injection n8 with f1_ f2_ f3_;have f7000_:=f1_.symm;have f7001_:=f3_.symm;clear f1_ f2_ f3_;subst f7000_;subst f7001_))
    refine hK.out _ _ ⟨(m0 O0.out 0).trans rfl,(m0 O0.out 1).trans rfl,((HB.out.cell (World.block_lt_of_cell? w _ D2)).trans D2),((HB.out.cell (World.block_lt_of_cell? w _ o5)).trans o5),((HB.out.cell (World.block_lt_of_cell? w _ I2)).trans I2),((HB.out.cell (World.block_lt_of_cell? w _ F6)).trans F6)⟩ (fun hHeld=>?_)
    clear hK K
    refine o7 (a':=?_) ?_ ?_
    rotate_left
    ·show Act.put _ (some 34) _=_
     simp only [ap_,sb_,s0_,s1_,N0,P0]
     rfl
    refine z1 (i:=16) (N:=some 35) (v:=?_) (a':=?_) bd4 rfl rfl (V0 HT_.out (by kernel_rfl)) (fun _ _ _ h=>h) (Or.inl ⟨by rfl,?_⟩) ?_ ?_
    rotate_left
    ·intro w'
     go_simp
     with_reducible rfl
    rotate_left
    ·simp only [ap_,sb_,s0_,s1_,N0,P0]
     rfl
    refine one_ (i:=17) (N:=none) bd0 rfl rfl (M6 HT_.out (by kernel_rfl)) (by decide) (fun K hK=>?_)
    have bk1:Z9.cell? ⟨B0,0,none⟩=some (.int .i64 0):=(m0 o0.out 0).trans rfl
    have aT1:=t0 o0.out 0
    have bf8:=F1.out
    have bh7:=Q1.out
    have bl1:Z9.cell? ⟨B0,1,none⟩=some (.int .i64 0):=(m0 o0.out 1).trans rfl
    have aU5:=t0 o0.out 1
    have bj5:=F1.out
    have be5:=Q1.out
    have bl4:Z9.cell? ⟨B0,2,none⟩=some (.int .i64 0):=(m0 o0.out 2).trans rfl
    have aU3:=t0 o0.out 2
    have bj1:=F1.out
    have bh9:=Q1.out
    have bn8:Z9.cell? ⟨B0,3,none⟩=some (.slice none 0 0):=(m0 o0.out 3).trans rfl
    have aS8:=t0 o0.out 3
    have bg4:=F1.out
    have bj2:=Q1.out
    have bI5:Z9.cell? ⟨B0,4,none⟩=some (.int .i64 0):=(m0 o0.out 4).trans rfl
    have bp0:=t0 o0.out 4
    have bi0:=F1.out
    have bh1:=Q1.out
    refine aR2 (w1:=?_) (by rfl) rfl ?_ ?_
    rotate_left
    ·go_simp
     rfl
    refine hK.out _ _ ⟨((m2 (p:=⟨B0,_,none⟩) F1.out _).trans (((m2 (p:=⟨B0,_,none⟩) F1.out _).trans (((m2 (p:=⟨B0,_,none⟩) F1.out _).trans (((m2 (p:=⟨B0,_,none⟩) F1.out _).trans (((m2 (p:=⟨B0,_,none⟩) F1.out _).trans (hHeld.1)))))))))),((m2 (p:=⟨B0,_,none⟩) F1.out _).trans (((m2 (p:=⟨B0,_,none⟩) F1.out _).trans (((m2 (p:=⟨B0,_,none⟩) F1.out _).trans (((m2 (p:=⟨B0,_,none⟩) F1.out _).trans (((m2 (p:=⟨B0,_,none⟩) F1.out _).trans (hHeld.2.1)))))))))),((m2 (p:=⟨B0,_,none⟩) (nq_ D2 C2.out) _).trans (((m2 (p:=⟨B0,_,none⟩) (nq_ D2 C2.out) _).trans (((m2 (p:=⟨B0,_,none⟩) (nq_ D2 C2.out) _).trans (((m2 (p:=⟨B0,_,none⟩) (nq_ D2 C2.out) _).trans (((m2 (p:=⟨B0,_,none⟩) (nq_ D2 C2.out) _).trans (hHeld.2.2.1)))))))))),((m2 (p:=⟨B0,_,none⟩) (nq_ o5 C2.out) _).trans (((m2 (p:=⟨B0,_,none⟩) (nq_ o5 C2.out) _).trans (((m2 (p:=⟨B0,_,none⟩) (nq_ o5 C2.out) _).trans (((m2 (p:=⟨B0,_,none⟩) (nq_ o5 C2.out) _).trans (((m2 (p:=⟨B0,_,none⟩) (nq_ o5 C2.out) _).trans (hHeld.2.2.2.1)))))))))),((m2 (p:=⟨B0,_,none⟩) (nq_ I2 C2.out) _).trans (((m2 (p:=⟨B0,_,none⟩) (nq_ I2 C2.out) _).trans (((m2 (p:=⟨B0,_,none⟩) (nq_ I2 C2.out) _).trans (((m2 (p:=⟨B0,_,none⟩) (nq_ I2 C2.out) _).trans (((m2 (p:=⟨B0,_,none⟩) (nq_ I2 C2.out) _).trans (hHeld.2.2.2.2.1)))))))))),((m2 (p:=⟨B0,_,none⟩) (nq_ F6 C2.out) _).trans (((m2 (p:=⟨B0,_,none⟩) (nq_ F6 C2.out) _).trans (((m2 (p:=⟨B0,_,none⟩) (nq_ F6 C2.out) _).trans (((m2 (p:=⟨B0,_,none⟩) (nq_ F6 C2.out) _).trans (((m2 (p:=⟨B0,_,none⟩) (nq_ F6 C2.out) _).trans (hHeld.2.2.2.2.2))))))))))⟩ (fun hHeld=>?_)
    clear hK K
    refine z1 (i:=18) (N:=some 3) (v:=?_) (a':=?_) bb5 rfl rfl (V0 HT_.out (by kernel_rfl)) (fun _ _ _ h=>h) (Or.inl ⟨by rfl,?_⟩) ?_ ?_
    rotate_left
    ·intro w'
     go_simp
     with_reducible rfl
    rotate_left
    ·simp only [ap_,sb_,s0_,s1_,N0,P0]
     rfl
    refine ab2 (K7 HT_.out (by kernel_rfl)) ?_
    try go_wp2
    refine bodyPost_ret (N5 rfl _ _ B0 69 #[.int .i64 (l0.length:Int),.int .i64 ((D0 l0 0).f0),.int .i64 ((D0 l0 (ji14)).f0),.slice F4 cx8.length V3,.int .i64 cG1] (0,0) _ rfl (by(with_reducible repeat(first|refine G0 ?_ _|refine J0 ?_|refine I0 ?_ _));refine D1 (cs:=#[.int .i64 (l0.length:Int),.int .i64 ((D0 l0 0).f0),.int .i64 ((D0 l0 (ji14)).f0),.slice F4 cx8.length V3,.int .i64 0]) ?_ 4 _ rfl;(with_reducible repeat(first|refine G0 ?_ _|refine J0 ?_|refine I0 ?_ _));refine D1 (cs:=#[.int .i64 (l0.length:Int),.int .i64 ((D0 l0 0).f0),.int .i64 ((D0 l0 (ji14)).f0),.slice none 0 0,.int .i64 0]) ?_ 3 _ rfl;(with_reducible repeat(first|refine G0 ?_ _|refine J0 ?_|refine I0 ?_ _));refine D1 (cs:=#[.int .i64 (l0.length:Int),.int .i64 ((D0 l0 0).f0),.int .i64 0,.slice none 0 0,.int .i64 0]) ?_ 2 _ rfl;(with_reducible repeat(first|refine G0 ?_ _|refine J0 ?_|refine I0 ?_ _));refine D1 (cs:=#[.int .i64 (l0.length:Int),.int .i64 0,.int .i64 0,.slice none 0 0,.int .i64 0]) ?_ 1 _ rfl;(with_reducible repeat(first|refine G0 ?_ _|refine J0 ?_|refine I0 ?_ _));refine D1 (cs:=#[.int .i64 0,.int .i64 0,.int .i64 0,.slice none 0 0,.int .i64 0]) ?_ 0 _ rfl;exact(bo_ o0)) Try.underlying69 rfl (by kernel_rfl)) rfl ?_
    exact⟨_,by first|rfl|(simp [J3,L3]<;>rfl)|(simp only [←hji14];first|rfl|(simp [J3,L3]<;>rfl))|(simp [*,J3,L3]<;>rfl),(rt_ (Kd.R_mono (Kd.R_far (p:=⟨B0,4,none⟩) (Kd.R_far (p:=⟨B0,3,none⟩) (Kd.R_far (p:=⟨B0,2,none⟩) (Kd.R_far (p:=⟨B0,1,none⟩) (Kd.R_far (p:=⟨B0,0,none⟩) (Kd.R_types E1.out o0.out (by decide)) (fun _ hk=>hk.2) (.int .i64 (l0.length:Int))) (fun _ hk=>hk.2) (.int .i64 ((D0 l0 0).f0))) (fun _ hk=>hk.2) (.int .i64 ((D0 l0 (ji14)).f0))) (fun _ hk=>hk.2) (.slice F4 cx8.length V3)) (fun _ hk=>hk.2) (.int .i64 cG1)) (fun _ hk=>trivial))),bl_⟩
def q20.l0:Nat→List Int→List Int→Int→Int→Option (Bool)
 |0,_,_,_,_=>none
 |k+1,x0,x1,x12,x13=>if x13<x12 then(if 0≤x13 then(if x13<(x0.length:Int)then(if x13<(x1.length:Int)then(if(rd x0 x13)=(rd x1 x13)then(q20.l0 k x0 x1 x12 (wrap64 (x13+1)))else(some false))else(none))else(none))else(none))else(some true)
def q20.f (k:Nat) (l0:List Int) (l1:List Int):Option (Bool):=if(l0.length:Int)=(l1.length:Int)then(q20.l0 k l0 l1 (l0.length:Int) 0)else(some false)
theorem q20.mono_l:∀ k,(∀ y0 y1 y2 y3,LeO (q20.l0 k y0 y1 y2 y3) (q20.l0 (k+1) y0 y1 y2 y3))
 |0=>fun _ _ _ _ r h=>by simp [q20.l0] at h
 |k+1=>by
  have ih0:=q20.mono_l k
  ·intro y0 y1 y2 y3
   unfold q20.l0
   repeat' first
   |(with_reducible exact ih0 _ _ _ _)
   |(with_reducible exact LeO.refl _)
   |(with_reducible exact LeO.none _)
   |(with_reducible refine LeO.ite ?_ ?_)
   |(with_reducible refine LeO.bind ?_ (fun _=>?_))
   |exact ih0 _ _ _ _
   |exact LeO.none _
   |refine LeO.ite ?_ ?_
   |refine LeO.bind ?_ (fun _=>?_)
theorem q20.mono:∀ a0 a1 k,LeO (q20.f k a0 a1) (q20.f (k+1) a0 a1):=by
 intro a0 a1 k
 have ih0:=q20.mono_l k
 unfold q20.f
 repeat' first
   |(with_reducible exact ih0 _ _ _ _)
   |(with_reducible exact LeO.refl _)
   |(with_reducible exact LeO.none _)
   |(with_reducible refine LeO.ite ?_ ?_)
   |(with_reducible refine LeO.bind ?_ (fun _=>?_))
   |exact ih0 _ _ _ _
   |exact LeO.none _
   |refine LeO.ite ?_ ?_
   |refine LeO.bind ?_ (fun _=>?_)
theorem q20.calls (k:Nat) (A0:Option Addr) (c0:Nat) (l0:List Int) (A1:Option Addr) (c1:Nat) (l1:List Int) (r:Bool) (w:World) (hr0:Kd.C (Kd.int .u8) w A0 l0.length l0) (hc0:l0.length≤c0) (hr1:Kd.C (Kd.int .u8) w A1 l1.length l1) (hc1:l1.length≤c1) (h:q20.f k l0 l1=some r) :
  Calls Try.prog 90 #[.slice A0 l0.length c0,.slice A1 l1.length c1] w fun e w'=>e=.returned (.bool r)∧L1 w w':=by
 have HR0:=q5.mk hr0
 have HC0:=q5.mk hc0
 clear hr0 hc0
 have HR1:=q5.mk hr1
 have HC1:=q5.mk hc1
 clear hr1 hc1
 have H:(if(l0.length:Int)=(l1.length:Int)then(q20.l0 k l0 l1 (l0.length:Int) 0)else(some false))=some r:=h
 clear h
 by_cases c3:(l0.length:Int)=(l1.length:Int)
 ·rw [if_pos c3] at H
  have c3b0:((l0.length:Int) == (l1.length:Int))=true:=beq_iff_eq.mpr c3
  have c3b1:((l0.length:Int) != (l1.length:Int))=false:=bne_eq_false_iff_eq.mpr c3
  have c3b2:(l0.length == l1.length)=true:=by first|simpa using c3|(simp at c3 ⊢;omega)
  clear c3
  have H':=q5.mk H
  clear H
  go_enter Try.func90,Try.ntmps90
  go_wp2
  repeat(go_quiet (fail);try go_wp2)
  go_loopg [13] k (fun kq v13 w'=>∃ (x13_1:Int),v13=.int .i64 x13_1∧q5 (q20.l0 kq l0 l1 (l0.length:Int) x13_1=some r)∧q5 (kq≤k)∧L1 w w')
  case atStart=>exact⟨(0),sm_,H',⟨Nat.le_refl _⟩,by repeat(first|exact L1.refl _|apply L1.step)⟩
  case round =>
   clear H'
   try clear c3
   try clear c3b0
   try clear c3b1
   try clear c3b2
   obtain⟨x13_1,rfl,HA,HK1,⟨m1,rfl⟩⟩:=hrel
   cases gk with
   |zero=>exact absurd HA.out (by simp [q20.l0])
   |succ k1 =>
    have H:=HA.out
    clear HA
    simp only [q20.l0] at H
    replace H:=dle H
    rcases H with⟨c4b0,H⟩|⟨c4b0,H⟩
    focus
     replace H:=dle H
     rcases H with⟨c5b0,H⟩|⟨c5b0,H⟩
     rotate_left
     ·exact absurd H (by simp)
     replace H:=dle H
     rcases H with⟨c6b0,H⟩|⟨c6b0,H⟩
     rotate_left
     ·exact absurd H (by simp)
     replace H:=dle H
     rcases H with⟨c7b0,H⟩|⟨c7b0,H⟩
     rotate_left
     ·exact absurd H (by simp)
     replace H:=deqn H
     rcases H with⟨c8b0,c8b1,H⟩|⟨c8b0,c8b1,c8,H⟩
     focus
      have H':=q5.mk H
      clear H
      have bS3:0≤(x13_1:Int):=dc_
      have bI0:x13_1<(l0.length:Int):=dc_
      obtain⟨dd2,cK6,cw9⟩:=Kd.at_int HR0.out x13_1 bS3 bI0
      cases cK6
      replace bS3:=eq_true bS3
      replace bI0:=eq_true bI0
      have bM4:0≤(x13_1:Int):=dc_
      have bJ6:x13_1<(l1.length:Int):=dc_
      obtain⟨cZ1,cN3,cx7⟩:=Kd.at_int HR1.out x13_1 bM4 bJ6
      cases cN3
      replace bM4:=eq_true bM4
      replace bJ6:=eq_true bJ6
     rotate_left
     focus
      obtain rfl:=Option.some.inj H
      have bS3:0≤(x13_1:Int):=dc_
      have bI0:x13_1<(l0.length:Int):=dc_
      obtain⟨dd2,cK6,cw9⟩:=Kd.at_int HR0.out x13_1 bS3 bI0
      cases cK6
      replace bS3:=eq_true bS3
      replace bI0:=eq_true bI0
      have bM4:0≤(x13_1:Int):=dc_
      have bJ6:x13_1<(l1.length:Int):=dc_
      obtain⟨cZ1,cN3,cx7⟩:=Kd.at_int HR1.out x13_1 bM4 bJ6
      cases cN3
      replace bM4:=eq_true bM4
      replace bJ6:=eq_true bJ6
    rotate_left 2
    focus
     obtain rfl:=Option.some.inj H
    all_goals
     go_wp2
     repeat(go_quiet (fail);try go_wp2)
     first
      |go_roundg k1
       case measure=>have:=HK1.out;omega
       case rel=>exact⟨(wrap64 (x13_1+1)),sm_,H',⟨by have:=HK1.out;omega⟩,by repeat(first|exact L1.refl _|apply L1.step)⟩
      |go_ret
       exact⟨by first|rfl|(simp;done)|(simp [*];done),by repeat(first|exact L1.refl _|apply L1.step)⟩
 rw [if_neg c3] at H
 have c3b0:((l0.length:Int) == (l1.length:Int))=false:=beq_eq_false_iff_ne.mpr c3
 have c3b1:((l0.length:Int) != (l1.length:Int))=true:=bne_iff_ne.mpr c3
 have c3b2:(l0.length == l1.length)=false:=by first|simpa using c3|(simp at c3 ⊢;omega)
 obtain rfl:=Option.some.inj H
 go_enter Try.func90,Try.ntmps90
 go_wp2
 repeat(go_quiet (fail);try go_wp2)
 go_ret
 exact⟨by first|rfl|(simp;done)|(simp [*];done),by repeat(first|exact L1.refl _|apply L1.step)⟩
def q68.f (k:Nat) (l0_0:List Int) (a0_1:Int) (l1_0:List Int) (a1_1:Int):Option (Bool):=if a0_1=a1_1 then((q20.f k l0_0 l1_0).bind fun cj7=>(some cj7))else(some false)
theorem q68.mono:∀ a0 a1 a2 a3 k,LeO (q68.f k a0 a1 a2 a3) (q68.f (k+1) a0 a1 a2 a3):=by
 intro a0 a1 a2 a3 k
 unfold q68.f
 repeat' first
   |(with_reducible exact q20.mono _ _ _)
   |(with_reducible exact LeO.refl _)
   |(with_reducible exact LeO.none _)
   |(with_reducible refine LeO.ite ?_ ?_)
   |(with_reducible refine LeO.bind ?_ (fun _=>?_))
   |exact q20.mono _ _ _
   |exact LeO.none _
   |refine LeO.ite ?_ ?_
   |refine LeO.bind ?_ (fun _=>?_)
theorem q68.calls (k:Nat) (A0_0:Option Addr) (c0_0:Nat) (l0_0:List Int) (a0_1:Int) (A1_0:Option Addr) (c1_0:Nat) (l1_0:List Int) (a1_1:Int) (r:Bool) (w:World) (hr0_0:Kd.C (Kd.int .u8) w A0_0 l0_0.length l0_0) (hc0_0:l0_0.length≤c0_0) (hr1_0:Kd.C (Kd.int .u8) w A1_0 l1_0.length l1_0) (hc1_0:l1_0.length≤c1_0) (h:q68.f k l0_0 a0_1 l1_0 a1_1=some r) :
  Calls Try.prog 81 #[.agg #[.slice A0_0 l0_0.length c0_0,.int .i64 a0_1],.agg #[.slice A1_0 l1_0.length c1_0,.int .i64 a1_1]] w fun e w'=>e=.returned (.bool r)∧Below w.heap.size w w':=by
 have hu25:=Try.underlying25
 have HR0_0:=q5.mk hr0_0
 have HC0_0:=q5.mk hc0_0
 clear hr0_0 hc0_0
 have HR1_0:=q5.mk hr1_0
 have HC1_0:=q5.mk hc1_0
 clear hr1_0 hc1_0
 have HB:=q5.mk (Below.refl w.heap.size w)
 have H:(if a0_1=a1_1 then((q20.f k l0_0 l1_0).bind fun cj7=>(some cj7))else(some false))=some r:=h
 clear h
 replace H:=deqn H
 rcases H with⟨c3b0,c3b1,H⟩|⟨c3b0,c3b1,c3,H⟩
 focus
  replace H:=N2 H
  obtain⟨cj7,A4,H⟩:=H
  try dsimp only at H
  obtain rfl:=Option.some.inj H
 rotate_left
 focus
  obtain rfl:=Option.some.inj H
 all_goals
  go_enter Try.func81,Try.ntmps81
  go_wp2_with (first|((with_reducible refine X0 (N:=2) rfl ?_);refine L2 2 #[.slice A0_0 l0_0.length c0_0,.int .i64 a0_1] 25 ?_;intro B0 hg U1 hbox hb;have n_:=pk4 (E0 bl_ hb) (hbox) ((ge_ hg bl_:w.heap.size≤B0)) ((ge_ hg bl_:w.heap.size≤B0));clear HB;obtain⟨HB,o0,C2,F5⟩:=n_;clear hb hbox hg)|((with_reducible refine X0 (N:=3) rfl ?_);refine L2 3 #[.slice A1_0 l1_0.length c1_0,.int .i64 a1_1] 25 ?_;intro S0 hg Z1 hbox hb;have n_:=pk7 (F0 (bo_ o0) hb) (E0 bl_ hb) (hbox) ((ge_ hg bl_:w.heap.size≤S0)) ((ge_ hg bl_:w.heap.size≤S0)) ((nb_ hg (bo_ o0):B0≠S0)) ((nc_ hg (bo_ o0):S0≠B0));clear o0 HB;obtain⟨o0,HB,O0,V9,W9,Q1,F1⟩:=n_;clear hb hbox hg;have V6:=Q1.out;have Z6:=F1.out;have Y2:Z1.cell? ⟨B0,0,none⟩=some (.slice A0_0 l0_0.length c0_0):=(m0 o0.out 0).trans rfl;have z3:Z1.cell? ⟨B0,1,none⟩=some (.int .i64 a0_1):=(m0 o0.out 1).trans rfl;have D3:=t0 o0.out 0;have Z2:=t0 o0.out 1;have z4:Z1.cell? ⟨S0,0,none⟩=some (.slice A1_0 l1_0.length c1_0):=(m0 O0.out 0).trans rfl;have C4:Z1.cell? ⟨S0,1,none⟩=some (.int .i64 a1_1):=(m0 O0.out 1).trans rfl;have j4:=t0 O0.out 0;have Z3:=t0 O0.out 1)|(go_at_call 90;(with_reducible refine(q20.calls k _ _ l0_0 _ _ l1_0 cj7 _ ?side1 ?side2 ?side3 ?side4 A4.out).mono ?_);(case side1=>exact cb_ HR0_0);(case side2=>exact HC0_0.out);(case side3=>exact cb_ HR1_0);(case side4=>exact HC1_0.out);rintro e w' ⟨rfl,⟨nd,rfl⟩⟩))
  go_ret
  exact⟨rf_,bl_⟩
def q57.f (k:Nat) (a0_0:Int) (a0_1:Int) (a0_2:Int) (l0_3:List Int) (a0_4:Int) (a1_0:Int) (a1_1:Int) (a1_2:Int) (l1_3:List Int) (a1_4:Int):Option (Bool):=if a0_0=a1_0 then(if a0_1=a1_1 then(if a0_2=a1_2 then((q68.f k l0_3 a0_4 l1_3 a1_4).bind fun cr4=>(some cr4))else(some false))else(some false))else(some false)
theorem q57.mono:∀ a0 a1 a2 a3 a4 a5 a6 a7 a8 a9 k,LeO (q57.f k a0 a1 a2 a3 a4 a5 a6 a7 a8 a9) (q57.f (k+1) a0 a1 a2 a3 a4 a5 a6 a7 a8 a9):=by
 intro a0 a1 a2 a3 a4 a5 a6 a7 a8 a9 k
 unfold q57.f
 repeat' first
   |(with_reducible exact q68.mono _ _ _ _ _)
   |(with_reducible exact LeO.refl _)
   |(with_reducible exact LeO.none _)
   |(with_reducible refine LeO.ite ?_ ?_)
   |(with_reducible refine LeO.bind ?_ (fun _=>?_))
   |exact q68.mono _ _ _ _ _
   |exact LeO.none _
   |refine LeO.ite ?_ ?_
   |refine LeO.bind ?_ (fun _=>?_)
theorem q57.calls (k:Nat) (a0_0:Int) (a0_1:Int) (a0_2:Int) (A0_3:Option Addr) (c0_3:Nat) (l0_3:List Int) (a0_4:Int) (a1_0:Int) (a1_1:Int) (a1_2:Int) (A1_3:Option Addr) (c1_3:Nat) (l1_3:List Int) (a1_4:Int) (r:Bool) (w:World) (hr0_3:Kd.C (Kd.int .u8) w A0_3 l0_3.length l0_3) (hc0_3:l0_3.length≤c0_3) (hr1_3:Kd.C (Kd.int .u8) w A1_3 l1_3.length l1_3) (hc1_3:l1_3.length≤c1_3) (h:q57.f k a0_0 a0_1 a0_2 l0_3 a0_4 a1_0 a1_1 a1_2 l1_3 a1_4=some r) :
  Calls Try.prog 57 #[.agg #[.int .i64 a0_0,.int .i64 a0_1,.int .i64 a0_2,.slice A0_3 l0_3.length c0_3,.int .i64 a0_4],.agg #[.int .i64 a1_0,.int .i64 a1_1,.int .i64 a1_2,.slice A1_3 l1_3.length c1_3,.int .i64 a1_4]] w fun e w'=>e=.returned (.bool r)∧Below w.heap.size w w':=by
 have hu69:=Try.underlying69
 have hu25:=Try.underlying25
 have HR0_3:=q5.mk hr0_3
 have HC0_3:=q5.mk hc0_3
 clear hr0_3 hc0_3
 have HR1_3:=q5.mk hr1_3
 have HC1_3:=q5.mk hc1_3
 clear hr1_3 hc1_3
 have HB:=q5.mk (Below.refl w.heap.size w)
 have H:(if a0_0=a1_0 then(if a0_1=a1_1 then(if a0_2=a1_2 then((q68.f k l0_3 a0_4 l1_3 a1_4).bind fun cr4=>(some cr4))else(some false))else(some false))else(some false))=some r:=h
 clear h
 replace H:=deqn H
 rcases H with⟨c3b0,c3b1,H⟩|⟨c3b0,c3b1,c3,H⟩
 focus
  replace H:=deqn H
  rcases H with⟨c4b0,c4b1,H⟩|⟨c4b0,c4b1,c4,H⟩
  focus
   replace H:=deqn H
   rcases H with⟨c5b0,c5b1,H⟩|⟨c5b0,c5b1,c5,H⟩
   focus
    replace H:=N2 H
    obtain⟨cr4,A6,H⟩:=H
    try dsimp only at H
    obtain rfl:=Option.some.inj H
   rotate_left
   focus
    obtain rfl:=Option.some.inj H
  rotate_left 2
  focus
   obtain rfl:=Option.some.inj H
 rotate_left 3
 focus
  obtain rfl:=Option.some.inj H
 all_goals
  go_enter Try.func57,Try.ntmps57
  go_wp2_with (first|((with_reducible refine X0 (N:=2) rfl ?_);refine L2 2 #[.int .i64 a0_0,.int .i64 a0_1,.int .i64 a0_2,.slice A0_3 l0_3.length c0_3,.int .i64 a0_4] 69 ?_;intro B0 hg U1 hbox hb;have n_:=pk4 (E0 bl_ hb) (hbox) ((ge_ hg bl_:w.heap.size≤B0)) ((ge_ hg bl_:w.heap.size≤B0));clear HB;obtain⟨HB,o0,C2,F5⟩:=n_;clear hb hbox hg)|((with_reducible refine X0 (N:=3) rfl ?_);refine L2 3 #[.int .i64 a1_0,.int .i64 a1_1,.int .i64 a1_2,.slice A1_3 l1_3.length c1_3,.int .i64 a1_4] 69 ?_;intro S0 hg Z1 hbox hb;have n_:=pk7 (F0 (bo_ o0) hb) (E0 bl_ hb) (hbox) ((ge_ hg bl_:w.heap.size≤S0)) ((ge_ hg bl_:w.heap.size≤S0)) ((nb_ hg (bo_ o0):B0≠S0)) ((nc_ hg (bo_ o0):S0≠B0));clear o0 HB;obtain⟨o0,HB,O0,V9,W9,Q1,F1⟩:=n_;clear hb hbox hg;have V6:=Q1.out;have Z6:=F1.out;have Y2:Z1.cell? ⟨B0,0,none⟩=some (.int .i64 a0_0):=(m0 o0.out 0).trans rfl;have z3:Z1.cell? ⟨B0,1,none⟩=some (.int .i64 a0_1):=(m0 o0.out 1).trans rfl;have V8:Z1.cell? ⟨B0,2,none⟩=some (.int .i64 a0_2):=(m0 o0.out 2).trans rfl;have P9:Z1.cell? ⟨B0,3,none⟩=some (.slice A0_3 l0_3.length c0_3):=(m0 o0.out 3).trans rfl;have O9:Z1.cell? ⟨B0,4,none⟩=some (.int .i64 a0_4):=(m0 o0.out 4).trans rfl;have D3:=t0 o0.out 0;have Z2:=t0 o0.out 1;have l9:=t0 o0.out 2;have S9:=t0 o0.out 3;have R9:=t0 o0.out 4;have z4:Z1.cell? ⟨S0,0,none⟩=some (.int .i64 a1_0):=(m0 O0.out 0).trans rfl;have C4:Z1.cell? ⟨S0,1,none⟩=some (.int .i64 a1_1):=(m0 O0.out 1).trans rfl;have E8:Z1.cell? ⟨S0,2,none⟩=some (.int .i64 a1_2):=(m0 O0.out 2).trans rfl;have s8:Z1.cell? ⟨S0,3,none⟩=some (.slice A1_3 l1_3.length c1_3):=(m0 O0.out 3).trans rfl;have r8:Z1.cell? ⟨S0,4,none⟩=some (.int .i64 a1_4):=(m0 O0.out 4).trans rfl;have j4:=t0 O0.out 0;have Z3:=t0 O0.out 1;have v8:=t0 O0.out 2;have z8:=t0 O0.out 3;have t8:=t0 O0.out 4)|(go_at_call 81;(with_reducible refine(q68.calls k _ _ l0_3 a0_4 _ _ l1_3 a1_4 cr4 _ ?side1 ?side2 ?side3 ?side4 A6.out).mono ?_);(case side1=>exact cb_ HR0_3);(case side2=>exact HC0_3.out);(case side3=>exact cb_ HR1_3);(case side4=>exact HC1_3.out);rintro e F2 ⟨rfl,hb⟩;have n_:=pk3 (F0 (bo_ o0) hb) (F0 (bo_ O0) hb) (E0 bl_ hb);clear o0 O0 HB;obtain⟨o0,O0,HB⟩:=n_;(try clear hb)))
  go_ret
  exact⟨rf_,bl_⟩
end Go.Proofs.Ytmddmbagehjdeaa.G
end
section
namespace Go.Proofs.Ytmddmbagehjdeaa.G
open Go Go.RowKit Go.Proofs.YtmddmbagehjdeaaW.PrintWords Go.Proofs.YtmddmbagehjdeaaW.PrintLast Go.Proofs.YtmddmbagehjdeaaW.PrintMore
def q27.f (k:Nat) (s0_0:List Int) (s0_1:Int) (s0_2:Int) (a1:Int):Option (Int×Int×Int×Int) :=
 if a1<0 then some (0,1,s0_1,s0_2)else if 64<a1 then some (0,1,s0_1,s0_2)else
 (q63.f s0_0 s0_1 s0_2).bind fun t=>if t.1<a1 then some (0,2,t.2.1,t.2.2)else if a1=0 then some (0,0,t.2.1,t.2.2)else
 (q48.f k s0_0 t.2.1 t.2.2 a1).bind fun u=>some (u,0,t.2.1,wrap64 (t.2.2+a1))
theorem q27.mono:∀ a0 a1 a2 a3 k,LeO (q27.f k a0 a1 a2 a3) (q27.f (k+1) a0 a1 a2 a3):=by
 intro a0 a1 a2 a3 k
 unfold q27.f
 refine LeO.ite (LeO.refl _) (LeO.ite (LeO.refl _) (LeO.bind (LeO.refl _) (fun _=>LeO.ite (LeO.refl _) (LeO.ite (LeO.refl _) (LeO.bind (q48.mono _ _ _ _ _) (fun _=>LeO.refl _))))))
set_option maxHeartbeats 2000000 in
theorem q27.calls (k:Nat) (g:Nat) (s0_0:List Int) (s0_1:Int) (s0_2:Int) (a1:Int) (r1 r2 r3 r4:Int) (w0 w:World) (hI:U0 w0 w g s0_0 s0_1 s0_2) (hB:Below w0.heap.size w0 w) (h:q27.f k s0_0 s0_1 s0_2 a1=some (r1,r2,r3,r4)) :
  Calls Try.prog 24 #[.pointer (some ⟨g,0,none⟩),.int .i64 a1] w fun e w'=>e=.returned (.tuple #[.int .u64 r1,.int .i64 r2])∧U0 w0 w' g s0_0 r3 r4∧Below w0.heap.size w0 w'∧G2 w w' g none:=by
 have hu25:=Try.underlying25
 unfold q27.f at h
 have HI:=q5.mk hI
 have HB:=q5.mk hB
 clear hI hB
 by_cases h1:a1<0
 ·rw [if_pos h1] at h
  simp only [Option.some.injEq,Prod.mk.injEq] at h
  obtain⟨rfl,rfl,rfl,rfl⟩:=h
  have c1:decide (a1<0)=true:=decide_eq_true h1
  clear h1
  go_enter Try.func24,Try.ntmps24
  go_wp2
  go_ret2
  exact⟨rfl,HI.out,HB.out,G2.refl _ _ _⟩
 rw [if_neg h1] at h
 have c1:decide (a1<0)=false:=decide_eq_false h1
 by_cases h2:64<a1
 ·rw [if_pos h2] at h
  simp only [Option.some.injEq,Prod.mk.injEq] at h
  obtain⟨rfl,rfl,rfl,rfl⟩:=h
  have c2:decide (64<a1)=true:=decide_eq_true h2
  clear h1 h2
  go_enter Try.func24,Try.ntmps24
  go_wp2
  go_ret2
  exact⟨rfl,HI.out,HB.out,G2.refl _ _ _⟩
 rw [if_neg h2] at h
 have c2:decide (64<a1)=false:=decide_eq_false h2
 have hnn:0≤a1:=by omega
 have hle:a1≤64:=by omega
 clear h1 h2
 obtain⟨⟨t1,t2,t3⟩,hL,h⟩:=Option.bind_eq_some_iff.1 h
 simp only at h
 have HL:=q5.mk hL
 clear hL
 by_cases h3:t1<a1
 ·rw [if_pos h3] at h
  simp only [Option.some.injEq,Prod.mk.injEq] at h
  obtain⟨rfl,rfl,rfl,rfl⟩:=h
  have c3:decide (t1<a1)=true:=decide_eq_true h3
  clear h3
  go_enter Try.func24,Try.ntmps24
  go_wp2_with (go_at_call 19;(with_reducible refine(q63.calls g s0_0 s0_1 s0_2 t1 t2 t3 w0 _ HI.out HB.out HL.out).mono ?_);rintro e w3 ⟨rfl,hi,hb,hk⟩;have HI3:=q5.mk hi;have HB3:=q5.mk hb;have HK3:=q5.mk hk;clear hi hb hk)
  go_ret2
  exact⟨rfl,HI3.out,HB3.out,HK3.out⟩
 rw [if_neg h3] at h
 have c3:decide (t1<a1)=false:=decide_eq_false h3
 clear h3
 by_cases h4:a1=0
 ·subst h4
  rw [if_pos rfl] at h
  simp only [Option.some.injEq,Prod.mk.injEq] at h
  obtain⟨rfl,rfl,rfl,rfl⟩:=h
  go_enter Try.func24,Try.ntmps24
  go_wp2_with (go_at_call 19;(with_reducible refine(q63.calls g s0_0 s0_1 s0_2 t1 t2 t3 w0 _ HI.out HB.out HL.out).mono ?_);rintro e w3 ⟨rfl,hi,hb,hk⟩;have HI3:=q5.mk hi;have HB3:=q5.mk hb;have HK3:=q5.mk hk;clear hi hb hk)
  go_ret2
  exact⟨rfl,HI3.out,HB3.out,HK3.out⟩
 rw [if_neg h4] at h
 have c4:(a1 == 0)=false:=by simpa using h4
 clear h4
 obtain⟨u,hG,h⟩:=Option.bind_eq_some_iff.1 h
 simp only [Option.some.injEq,Prod.mk.injEq] at h
 obtain⟨rfl,rfl,rfl,rfl⟩:=h
 have HG:=q5.mk hG
 clear hG
 go_enter Try.func24,Try.ntmps24
 go_wp2_with (go_at_call 19;(with_reducible refine(q63.calls g s0_0 s0_1 s0_2 t1 t2 t3 w0 _ HI.out HB.out HL.out).mono ?_);rintro e w3 ⟨rfl,hi,hb,hk⟩;obtain⟨A0,c0,hb0,hg0,hh0⟩:=hi;have HH:=q5.mk hh0;have HG0:=q5.mk hg0;have BK:=q5.mk hb0;have HB3:=q5.mk hb;have HK3:=q5.mk hk;have q0:=ak2 hb0;have q1:=ak6 hb0;have q2:=al0 hb0;have f0:=t0 hb0 0;have f1:=t0 hb0 1;have f2:=t0 hb0 2;clear hb0 hg0 hh0 hb hk)
 go_region_held3 (fun w'=>w'.cell? ⟨g,0,none⟩=some (.slice A0 s0_0.length c0)∧w'.cell? ⟨g,1,none⟩=some (.int .i64 t2)∧w'.cell? ⟨g,2,none⟩=some (.int .i64 t3)) (go_keep) ((go_at_call 65;(with_reducible refine(q48.calls k A0 c0 s0_0 t2 t3 a1 u _ ?side1 ?side2 HG.out).mono ?_);(case side1=>(with_reducible repeat(first|apply Kd.C_drewN|apply Kd.C_drew|apply Kd.C_alloc));exact HH.out.now);(case side2=>exact HH.out.1);rintro e w4 ⟨rfl,hb4⟩;(have hb5:Below w3.heap.size w3 w4:=⟨hb4.os,hb4.tape,hb4.output,hb4.size,hb4.block⟩;clear hb4;have bk:=(hb5.block g (U6 BK.out)).trans BK.out;have q0:=ak2 bk;have q1:=ak6 bk;have q2:=al0 bk;have f0:=t0 bk 0;have f1:=t0 bk 1;have f2:=t0 bk 2;have BK4:=q5.mk bk;have HH4:=q5.mk (HH.out.step (W1:=w4) (fun k cs fr hc=>hb5.block k (U6 hc)));have HB4:=q5.mk (at6 HB3.out HB3.out.size hb5);have HK4:=q5.mk (G2.trans HK3.out (G2.of_below hb5 g none) (.inl rfl));clear bk hb5)))
 go_wp2
 go_ret2
 exact⟨rfl,U0.set_2 (show U0 w0 w4 g s0_0 t2 t3 from ⟨A0,c0,BK4.out,HG0.out,HH4.out⟩) _,HB4.out.setCell HG0.out _,G2.set_ HK4.out _ _⟩
end Go.Proofs.Ytmddmbagehjdeaa.G
end
section
namespace Go.Proofs.Ytmddmbagehjdeaa.G
open Go.RowKit Go.Proofs.YtmddmbagehjdeaaX Go.Proofs.YtmddmbagehjdeaaW.PrintWords Go.Proofs.YtmddmbagehjdeaaW.PrintLast Go.Proofs.YtmddmbagehjdeaaW.PrintMore
attribute [local go_sem] S3 R3 R4 S4 P3 N3 D4 Y3
def q65.f (s0_0:List Int) (s0_1:Int) (s0_2:Int):Option (Int×Int×Int):=some (s0_2,s0_1,s0_2)
theorem q65.calls (g:Nat) (s0_0:List Int) (s0_1:Int) (s0_2:Int) (r1:Int) (r2:Int) (r3:Int) (w0 w:World) (hI:U0 w0 w g s0_0 s0_1 s0_2) (hB:Below w0.heap.size w0 w) (h:q65.f s0_0 s0_1 s0_2=some (r1,r2,r3)) :
  Calls Try.prog 28 #[.pointer (some ⟨g,0,none⟩)] w fun e w'=>e=.returned (.int .i64 r1)∧U0 w0 w' g s0_0 r2 r3∧Below w0.heap.size w0 w'∧G2 w w' g none:=by
 have HI0:=q5.mk hI
 have HK:=q5.mk (G2.refl w g none)
 have HL:=q5.mk hB.size
 clear hI
 have HW0:=q5.mk hB.size
 have HB:=q5.mk hB
 clear hB
 have H:(some (s0_2,s0_1,s0_2))=some (r1,r2,r3):=h
 clear h
 simp only [Option.some.injEq,Prod.mk.injEq] at H
 obtain⟨rfl,rfl,rfl⟩:=H
 obtain⟨ASz2_0,cSz2_0,HGz2,hgz2,HSz2_0⟩:=HI0.out
 have hcz2_0:=ak2 HGz2
 have hcz2_1:=ak6 HGz2
 have hcz2_2:=al0 HGz2
 have hfz2_1:=t0 HGz2 1
 have hfz2_2:=t0 HGz2 2
 clear HGz2 hgz2
 go_enter Try.func28,Try.ntmps28
 go_wp2
 go_ret
 exact⟨rf_,by repeat(first|(with_reducible first|exact HI0.out|apply U0.alloc|apply U0.drewN|apply U0.drew|apply U0.set_1|apply U0.set_2)|exact HI0.out),by repeat(first|(with_reducible first|exact HB.out|apply R1|apply M1|apply N1|refine P1 ?_ (U0.ge HI0.out))|exact HB.out),by repeat(first|(with_reducible first|exact HK.out|apply G2.set_|apply O6|apply r7|apply N6)|exact HK.out)⟩
def q23.l0:Nat→Int→List Int→Int→Int→Option (Int×Int×Int×Int)
 |0,_,_,_,_=>none
 |k+1,x7,cp4,bs5,bV2=>if x7<4 then((q27.f k cp4 bs5 bV2 1).bind fun aD9=>(if aD9.2.1=0 then(if aD9.1=0 then(some (x7,aD9.2.1,aD9.2.2.1,aD9.2.2.2))else(q23.l0 k (wrap64 (x7+1)) cp4 aD9.2.2.1 aD9.2.2.2))else(some (x7,aD9.2.1,aD9.2.2.1,aD9.2.2.2))))else(some (4,0,bs5,bV2))
def q23.f (k:Nat) (s0_0:List Int) (s0_1:Int) (s0_2:Int):Option (Int×Int×Int×Int):=q23.l0 k 0 s0_0 s0_1 s0_2
theorem q23.mono_l:∀ k,(∀ y0 y1 y2 y3,LeO (q23.l0 k y0 y1 y2 y3) (q23.l0 (k+1) y0 y1 y2 y3))
 |0=>fun _ _ _ _ r h=>by simp [q23.l0] at h
 |k+1=>by
  have ih0:=q23.mono_l k
  ·intro y0 y1 y2 y3
   unfold q23.l0
   repeat' first
   |(with_reducible exact ih0 _ _ _ _)
   |(with_reducible exact q27.mono _ _ _ _ _)
   |(with_reducible exact LeO.refl _)
   |(with_reducible exact LeO.none _)
   |(with_reducible refine LeO.ite ?_ ?_)
   |(with_reducible refine LeO.bind ?_ (fun _=>?_))
   |exact ih0 _ _ _ _
   |exact q27.mono _ _ _ _ _
   |exact LeO.none _
   |refine LeO.ite ?_ ?_
   |refine LeO.bind ?_ (fun _=>?_)
theorem q23.mono:∀ a0 a1 a2 k,LeO (q23.f k a0 a1 a2) (q23.f (k+1) a0 a1 a2):=by
 intro a0 a1 a2 k
 have ih0:=q23.mono_l k
 unfold q23.f
 repeat' first
   |(with_reducible exact ih0 _ _ _ _)
   |(with_reducible exact q27.mono _ _ _ _ _)
   |(with_reducible exact LeO.refl _)
   |(with_reducible exact LeO.none _)
   |(with_reducible refine LeO.ite ?_ ?_)
   |(with_reducible refine LeO.bind ?_ (fun _=>?_))
   |exact ih0 _ _ _ _
   |exact q27.mono _ _ _ _ _
   |exact LeO.none _
   |refine LeO.ite ?_ ?_
   |refine LeO.bind ?_ (fun _=>?_)
theorem q23.calls (k:Nat) (g:Nat) (s0_0:List Int) (s0_1:Int) (s0_2:Int) (r1:Int) (r2:Int) (r3:Int) (r4:Int) (w0 w:World) (hI:U0 w0 w g s0_0 s0_1 s0_2) (hB:Below w0.heap.size w0 w) (h:q23.f k s0_0 s0_1 s0_2=some (r1,r2,r3,r4)) :
  Calls Try.prog 64 #[.pointer (some ⟨g,0,none⟩)] w fun e w'=>e=.returned (.tuple #[.int .i64 r1,.int .i64 r2])∧U0 w0 w' g s0_0 r3 r4∧Below w0.heap.size w0 w'∧G2 w w' g none:=by
 have HI0:=q5.mk hI
 have HK:=q5.mk (G2.refl w g none)
 have HL:=q5.mk hB.size
 clear hI
 have HW0:=q5.mk hB.size
 have HB:=q5.mk hB
 clear hB
 have H:(q23.l0 k 0 s0_0 s0_1 s0_2)=some (r1,r2,r3,r4):=h
 clear h
 have H':=q5.mk H
 clear H
 go_enter Try.func64,Try.ntmps64
 go_wp2
 go_loopg [7] k (fun kq v7 w'=>∃ (x7_1:Int) (aU4:Int) (aU1:Int),v7=.int .i64 x7_1∧q5 (q23.l0 kq x7_1 s0_0 aU4 aU1=some (r1,r2,r3,r4))∧q5 (kq≤k)∧q5 (U0 w0 w' g s0_0 aU4 aU1)∧q5 (G2 w w' g none)∧q5 (Below w0.heap.size w0 w'))
 case atStart=>exact⟨(0),(s0_1),(s0_2),sm_,H',⟨Nat.le_refl _⟩,⟨by repeat(first|(with_reducible first|exact HI0.out|apply U0.alloc|apply U0.drewN|apply U0.drew|apply U0.set_1|apply U0.set_2)|exact HI0.out)⟩,⟨by repeat(first|(with_reducible first|exact HK.out|apply G2.set_|apply O6|apply r7|apply N6)|exact HK.out)⟩,⟨by repeat(first|(with_reducible first|exact HB.out|apply R1|apply M1|apply N1|refine P1 ?_ (U0.ge HI0.out))|exact HB.out)⟩⟩
 case round =>
  clear H'
  obtain⟨x7_1,aU4,aU1,rfl,HA,HK1,HI0,HK,HB⟩:=hrel
  cases gk with
  |zero=>exact absurd HA.out (by simp [q23.l0])
  |succ k1 =>
   have H:=HA.out
   clear HA
   simp only [q23.l0] at H
   replace H:=dle H
   rcases H with⟨c2b0,H⟩|⟨c2b0,H⟩
   focus
    replace H:=N2 H
    obtain⟨⟨dj7,dm1,cY8,cX2⟩,A3,H⟩:=H
    try dsimp only at H
    replace H:=deqn H
    rcases H with⟨c4b0,c4b1,H⟩|⟨c4b0,c4b1,c4,H⟩
    focus
     replace H:=deqn H
     rcases H with⟨c5b0,c5b1,H⟩|⟨c5b0,c5b1,c5,H⟩
     focus
      simp only [Option.some.injEq,Prod.mk.injEq] at H
      obtain⟨rfl,rfl,rfl,rfl⟩:=H
     rotate_left
     focus
      have H':=q5.mk H
      clear H
    rotate_left 2
    focus
     simp only [Option.some.injEq,Prod.mk.injEq] at H
     obtain⟨rfl,rfl,rfl,rfl⟩:=H
   rotate_left 3
   focus
    simp only [Option.some.injEq,Prod.mk.injEq] at H
    obtain⟨rfl,rfl,rfl,rfl⟩:=H
   all_goals
    go_wp2_with (first|((with_reducible refine C1 (f:=24) rfl ?_);refine goL_ (some 12) Try.func24 #[.pointer (some ⟨g,0,none⟩),.int .i64 1] ?_;(with_reducible refine(q27.calls k1 g s0_0 aU4 aU1 1 dj7 dm1 cY8 cX2 w0 _ ?side1 ?side2 A3.out).mono ?_);(case side1=>repeat(first|(with_reducible first|exact HI0.out|apply U0.alloc|apply U0.drewN|apply U0.drew|apply U0.set_1|apply U0.set_2)|exact HI0.out));(case side2=>repeat(first|(with_reducible first|exact HB.out|apply R1|apply M1|apply N1|refine P1 ?_ (U0.ge HI0.out))|exact HB.out));rintro e U1 ⟨rfl,hi,hb,hk⟩;refine⟨_,rfl,?_⟩;have n_:=pk3 (G2.trans (by repeat(first|(with_reducible first|exact HK.out|apply G2.set_|apply O6|apply r7|apply N6)|exact HK.out)) hk (.inl rfl)) (hb) (hi);clear HK HB HI0;obtain⟨HK,HB,HI0⟩:=n_;(try clear hb hk hi)))
    first
     |go_ret2
      exact⟨rf_,by repeat(first|(with_reducible first|exact HI0.out|apply U0.alloc|apply U0.drewN|apply U0.drew|apply U0.set_1|apply U0.set_2)|exact HI0.out),by repeat(first|(with_reducible first|exact HB.out|apply R1|apply M1|apply N1|refine P1 ?_ (U0.ge HI0.out))|exact HB.out),by repeat(first|(with_reducible first|exact HK.out|apply G2.set_|apply O6|apply r7|apply N6)|exact HK.out)⟩
     |go_roundg k1
      case measure=>have:=HK1.out;omega
      case rel=>exact⟨(wrap64 (x7_1+1)),(cY8),(cX2),sm_,H',⟨by have:=HK1.out;omega⟩,⟨by repeat(first|(with_reducible first|exact HI0.out|apply U0.alloc|apply U0.drewN|apply U0.drew|apply U0.set_1|apply U0.set_2)|exact HI0.out)⟩,⟨by repeat(first|(with_reducible first|exact HK.out|apply G2.set_|apply O6|apply r7|apply N6)|exact HK.out)⟩,⟨by repeat(first|(with_reducible first|exact HB.out|apply R1|apply M1|apply N1|refine P1 ?_ (U0.ge HI0.out))|exact HB.out)⟩⟩
def q19.j0:Nat→Int→Int→Bool→List Int→Int→Int→Option (Int×Int×Int×Int)
 |0,_,_,_,_,_,_=>none
 |k+1,x4,x9,x40,cp4,bs5,bV2=>if x40=true then(some (x9,0,bs5,bV2))else(some (0,2,bs5,x4))
def q19.f (k:Nat) (s0_0:List Int) (s0_1:Int) (s0_2:Int):Option (Int×Int×Int×Int):=(q65.f s0_0 s0_1 s0_2).bind fun ax8=>((q23.f k s0_0 ax8.2.1 ax8.2.2).bind fun ap4=>(if ap4.2.1=0 then((q61.f ap4.1).bind fun bM8=>((q27.f k s0_0 ap4.2.2.1 ap4.2.2.2 bM8).bind fun aa5=>(if aa5.2.1=0 then((q38.f k (wrap64 (Go.bits .xor .u64 (aa5.1 / 2) (IntKind.u64.wrap (-(Go.bits .and .u64 aa5.1 1)))))).bind fun bY2=>(q19.j0 k ax8.1 (wrap64 (Go.bits .xor .u64 (aa5.1 / 2) (IntKind.u64.wrap (-(Go.bits .and .u64 aa5.1 1))))) (bY2 == ap4.1) s0_0 aa5.2.2.1 aa5.2.2.2))else(q19.j0 k ax8.1 (wrap64 (Go.bits .xor .u64 (aa5.1 / 2) (IntKind.u64.wrap (-(Go.bits .and .u64 aa5.1 1))))) false s0_0 aa5.2.2.1 aa5.2.2.2))))else(some (0,2,ap4.2.2.1,ax8.1))))
theorem q19.mono_l:∀ k,(∀ y0 y1 y2 y3 y4 y5,LeO (q19.j0 k y0 y1 y2 y3 y4 y5) (q19.j0 (k+1) y0 y1 y2 y3 y4 y5))
 |0=>fun _ _ _ _ _ _ r h=>by simp [q19.j0] at h
 |k+1=>by
  have ih0:=q19.mono_l k
  ·intro y0 y1 y2 y3 y4 y5
   unfold q19.j0
   repeat' first
   |(with_reducible exact ih0 _ _ _ _ _ _)
   |(with_reducible exact q38.mono _ _)
   |(with_reducible exact q27.mono _ _ _ _ _)
   |(with_reducible exact q23.mono _ _ _ _)
   |(with_reducible exact LeO.refl _)
   |(with_reducible exact LeO.none _)
   |(with_reducible refine LeO.ite ?_ ?_)
   |(with_reducible refine LeO.bind ?_ (fun _=>?_))
   |exact ih0 _ _ _ _ _ _
   |exact q38.mono _ _
   |exact q27.mono _ _ _ _ _
   |exact q23.mono _ _ _ _
   |exact LeO.none _
   |refine LeO.ite ?_ ?_
   |refine LeO.bind ?_ (fun _=>?_)
theorem q19.mono:∀ a0 a1 a2 k,LeO (q19.f k a0 a1 a2) (q19.f (k+1) a0 a1 a2):=by
 intro a0 a1 a2 k
 have ih0:=q19.mono_l k
 unfold q19.f
 repeat' first
   |(with_reducible exact ih0 _ _ _ _ _ _)
   |(with_reducible exact q38.mono _ _)
   |(with_reducible exact q27.mono _ _ _ _ _)
   |(with_reducible exact q23.mono _ _ _ _)
   |(with_reducible exact LeO.refl _)
   |(with_reducible exact LeO.none _)
   |(with_reducible refine LeO.ite ?_ ?_)
   |(with_reducible refine LeO.bind ?_ (fun _=>?_))
   |exact ih0 _ _ _ _ _ _
   |exact q38.mono _ _
   |exact q27.mono _ _ _ _ _
   |exact q23.mono _ _ _ _
   |exact LeO.none _
   |refine LeO.ite ?_ ?_
   |refine LeO.bind ?_ (fun _=>?_)
theorem q19.calls (k:Nat) (g:Nat) (s0_0:List Int) (s0_1:Int) (s0_2:Int) (r1:Int) (r2:Int) (r3:Int) (r4:Int) (w0 w:World) (hI:U0 w0 w g s0_0 s0_1 s0_2) (hB:Below w0.heap.size w0 w) (h:q19.f k s0_0 s0_1 s0_2=some (r1,r2,r3,r4)) :
  Calls Try.prog 18 #[.pointer (some ⟨g,0,none⟩)] w fun e w'=>e=.returned (.tuple #[.int .i64 r1,.int .i64 r2])∧U0 w0 w' g s0_0 r3 r4∧Below w0.heap.size w0 w'∧G2 w w' g none:=by
 have HI0:=q5.mk hI
 have HK:=q5.mk (G2.refl w g none)
 have HL:=q5.mk hB.size
 clear hI
 have HW0:=q5.mk hB.size
 have HB:=q5.mk hB
 clear hB
 have H:((q65.f s0_0 s0_1 s0_2).bind fun ax8=>((q23.f k s0_0 ax8.2.1 ax8.2.2).bind fun ap4=>(if ap4.2.1=0 then((q61.f ap4.1).bind fun bM8=>((q27.f k s0_0 ap4.2.2.1 ap4.2.2.2 bM8).bind fun aa5=>(if aa5.2.1=0 then((q38.f k (wrap64 (Go.bits .xor .u64 (aa5.1 / 2) (IntKind.u64.wrap (-(Go.bits .and .u64 aa5.1 1)))))).bind fun bY2=>(q19.j0 k ax8.1 (wrap64 (Go.bits .xor .u64 (aa5.1 / 2) (IntKind.u64.wrap (-(Go.bits .and .u64 aa5.1 1))))) (bY2 == ap4.1) s0_0 aa5.2.2.1 aa5.2.2.2))else(q19.j0 k ax8.1 (wrap64 (Go.bits .xor .u64 (aa5.1 / 2) (IntKind.u64.wrap (-(Go.bits .and .u64 aa5.1 1))))) false s0_0 aa5.2.2.1 aa5.2.2.2))))else(some (0,2,ap4.2.2.1,ax8.1)))))=some (r1,r2,r3,r4):=h
 clear h
 replace H:=N2 H
 obtain⟨⟨cP3,cy6,ct0⟩,A2,H⟩:=H
 try dsimp only at H
 replace H:=N2 H
 obtain⟨⟨cj0,dc4,cO1,cF8⟩,A3,H⟩:=H
 try dsimp only at H
 replace H:=deqn H
 rcases H with⟨c4b0,c4b1,H⟩|⟨c4b0,c4b1,c4,H⟩
 ·replace H:=N2 H
  obtain⟨bM8,A5,H⟩:=H
  try dsimp only at H
  replace H:=N2 H
  obtain⟨⟨cj3,dl0,cF0,cF3⟩,A6,H⟩:=H
  try dsimp only at H
  have HC7:=q5.mk H
  clear H
  go_enter Try.func18,Try.ntmps18
  go_upto_region 6 with(first|((with_reducible refine C1 (f:=28) rfl ?_);refine goL_ (some 11) Try.func28 #[.pointer (some ⟨g,0,none⟩)] ?_;(with_reducible refine(q65.calls g s0_0 s0_1 s0_2 cP3 cy6 ct0 w0 _ ?side1 ?side2 A2.out).mono ?_);(case side1=>repeat(first|(with_reducible first|exact HI0.out|apply U0.alloc|apply U0.drewN|apply U0.drew|apply U0.set_1|apply U0.set_2)|exact HI0.out));(case side2=>repeat(first|(with_reducible first|exact HB.out|apply R1|apply M1|apply N1|refine P1 ?_ (U0.ge HI0.out))|exact HB.out));rintro e w8 ⟨rfl,hi,hb,hk⟩;refine⟨_,rfl,?_⟩;have n_:=pk3 (G2.trans (by repeat(first|(with_reducible first|exact HK.out|apply G2.set_|apply O6|apply r7|apply N6)|exact HK.out)) hk (.inl rfl)) (hb) (hi);clear HK HB HI0;obtain⟨HK,HB,HI0⟩:=n_;(try clear hb hk hi))|((with_reducible refine C1 (f:=64) rfl ?_);refine goL_ (some 14) Try.func64 #[.pointer (some ⟨g,0,none⟩)] ?_;(with_reducible refine(q23.calls k g s0_0 cy6 ct0 cj0 dc4 cO1 cF8 w0 _ ?side1 ?side2 A3.out).mono ?_);(case side1=>repeat(first|(with_reducible first|exact HI0.out|apply U0.alloc|apply U0.drewN|apply U0.drew|apply U0.set_1|apply U0.set_2)|exact HI0.out));(case side2=>repeat(first|(with_reducible first|exact HB.out|apply R1|apply M1|apply N1|refine P1 ?_ (U0.ge HI0.out))|exact HB.out));rintro e w9 ⟨rfl,hi,hb,hk⟩;refine⟨_,rfl,?_⟩;have n_:=pk3 (G2.trans (by repeat(first|(with_reducible first|exact HK.out|apply G2.set_|apply O6|apply r7|apply N6)|exact HK.out)) hk (.inl rfl)) (hb) (hi);clear HK HB HI0;obtain⟨HK,HB,HI0⟩:=n_;(try clear hb hk hi))|((with_reducible refine C1 (f:=63) rfl ?_);refine goL_ (some 22) Try.func63 #[.int .i64 cj0] ?_;(with_reducible refine(q61.calls cj0 bM8 _ A5.out).mono ?_);rintro e w' ⟨rfl,⟨nd,rfl⟩⟩;refine⟨_,rfl,?_⟩)|((with_reducible refine C1 (f:=24) rfl ?_);refine goL_ (some 23) Try.func24 #[.pointer (some ⟨g,0,none⟩),.int .i64 bM8] ?_;(with_reducible refine(q27.calls k g s0_0 cO1 cF8 bM8 cj3 dl0 cF0 cF3 w0 _ ?side1 ?side2 A6.out).mono ?_);(case side1=>repeat(first|(with_reducible first|exact HI0.out|apply U0.alloc|apply U0.drewN|apply U0.drew|apply U0.set_1|apply U0.set_2)|exact HI0.out));(case side2=>repeat(first|(with_reducible first|exact HB.out|apply R1|apply M1|apply N1|refine P1 ?_ (U0.ge HI0.out))|exact HB.out));rintro e w10 ⟨rfl,hi,hb,hk⟩;refine⟨_,rfl,?_⟩;have n_:=pk3 (G2.trans (by repeat(first|(with_reducible first|exact HK.out|apply G2.set_|apply O6|apply r7|apply N6)|exact HK.out)) hk (.inl rfl)) (hb) (hi);clear HK HB HI0;obtain⟨HK,HB,HI0⟩:=n_;(try clear hb hk hi)))
  (try simp only [ap_,sb_,s0_,s1_])
  go_cut [40] (fun v40 wc=>∃ (kq:Nat) (x40_6:Bool),v40=.bool x40_6∧q5 (q19.j0 kq cP3 (wrap64 (Go.bits .xor .u64 (cj3 / 2) (IntKind.u64.wrap (-(Go.bits .and .u64 cj3 1))))) x40_6 s0_0 cF0 cF3=some (r1,r2,r3,r4))∧q5 (kq≤k)∧q5 (U0 w0 wc g s0_0 cF0 cF3)∧q5 (G2 w wc g none)∧q5 (Below w0.heap.size w0 wc))
  case first =>
   have H:=HC7.out
   clear HC7
   replace H:=deqn H
   rcases H with⟨c11b0,c11b1,H⟩|⟨c11b0,c11b1,c11,H⟩
   focus
    (first|rw [c11b0]|(simp only [N0,P0];rw [c11b0])|skip)
    replace H:=N2 H
    obtain⟨bY2,A12,H⟩:=H
    try dsimp only at H
    have H':=q5.mk H
    clear H
   rotate_left
   focus
    (first|rw [c11b0]|(simp only [N0,P0];rw [c11b0])|skip)
    have H':=q5.mk H
    clear H
   all_goals
    go_wp2_with (first|(go_at_call 33;(with_reducible refine(q38.calls k (wrap64 (Go.bits .xor .u64 (cj3 / 2) (IntKind.u64.wrap (-(Go.bits .and .u64 cj3 1))))) bY2 _ A12.out).mono ?_);rintro e w' ⟨rfl,⟨nd,rfl⟩⟩))
    go_meet
    first
     |case rel=>exact⟨_,((bY2 == cj0)),sm_,H',⟨om_⟩,⟨by repeat(first|(with_reducible first|exact HI0.out|apply U0.alloc|apply U0.drewN|apply U0.drew|apply U0.set_1|apply U0.set_2)|exact HI0.out)⟩,⟨by repeat(first|(with_reducible first|exact HK.out|apply G2.set_|apply O6|apply r7|apply N6)|exact HK.out)⟩,⟨by repeat(first|(with_reducible first|exact HB.out|apply R1|apply M1|apply N1|refine P1 ?_ (U0.ge HI0.out))|exact HB.out)⟩⟩
     |case rel=>exact⟨_,(false),sm_,H',⟨om_⟩,⟨by repeat(first|(with_reducible first|exact HI0.out|apply U0.alloc|apply U0.drewN|apply U0.drew|apply U0.set_1|apply U0.set_2)|exact HI0.out)⟩,⟨by repeat(first|(with_reducible first|exact HK.out|apply G2.set_|apply O6|apply r7|apply N6)|exact HK.out)⟩,⟨by repeat(first|(with_reducible first|exact HB.out|apply R1|apply M1|apply N1|refine P1 ?_ (U0.ge HI0.out))|exact HB.out)⟩⟩
  case rest =>
   clear HC7
   try clear c4
   try clear c4b0
   try clear c4b1
   obtain⟨kq,x40_6,rfl,HA,HJ6,HI0,HK,HB⟩:=hcut
   cases kq with
   |zero=>exact absurd HA.out (by simp [q19.j0])
   |succ kj6 =>
    have H:=HA.out
    clear HA
    simp only [q19.j0] at H
    replace H:=Q7 H
    rcases H with⟨rfl,H⟩|⟨rfl,H⟩
    focus
     simp only [Option.some.injEq,Prod.mk.injEq] at H
     obtain⟨rfl,rfl,rfl,rfl⟩:=H
    rotate_left
    focus
     simp only [Option.some.injEq,Prod.mk.injEq] at H
     obtain⟨rfl,rfl,rfl,rfl⟩:=H
     obtain⟨ASz14_0,cSz14_0,HGz14,hgz14,HSz14_0⟩:=HI0.out
     have hcz14_0:=ak2 HGz14
     have hcz14_1:=ak6 HGz14
     have hcz14_2:=al0 HGz14
     have hfz14_1:=t0 HGz14 1
     have hfz14_2:=t0 HGz14 2
     clear HGz14 hgz14
    all_goals
     go_wp2
     go_ret2
     exact⟨rf_,by repeat(first|(with_reducible first|exact HI0.out|apply U0.alloc|apply U0.drewN|apply U0.drew|apply U0.set_1|apply U0.set_2)|exact HI0.out),by repeat(first|(with_reducible first|exact HB.out|apply R1|apply M1|apply N1|refine P1 ?_ (U0.ge HI0.out))|exact HB.out),by repeat(first|(with_reducible first|exact HK.out|apply G2.set_|apply O6|apply r7|apply N6)|exact HK.out)⟩
 simp only [Option.some.injEq,Prod.mk.injEq] at H
 obtain⟨rfl,rfl,rfl,rfl⟩:=H
 go_enter Try.func18,Try.ntmps18
 go_wp2_with (first|((with_reducible refine C1 (f:=28) rfl ?_);refine goL_ (some 11) Try.func28 #[.pointer (some ⟨g,0,none⟩)] ?_;(with_reducible refine(q65.calls g s0_0 s0_1 s0_2 cP3 cy6 ct0 w0 _ ?side1 ?side2 A2.out).mono ?_);(case side1=>repeat(first|(with_reducible first|exact HI0.out|apply U0.alloc|apply U0.drewN|apply U0.drew|apply U0.set_1|apply U0.set_2)|exact HI0.out));(case side2=>repeat(first|(with_reducible first|exact HB.out|apply R1|apply M1|apply N1|refine P1 ?_ (U0.ge HI0.out))|exact HB.out));rintro e U1 ⟨rfl,hi,hb,hk⟩;refine⟨_,rfl,?_⟩;have n_:=pk3 (G2.trans (by repeat(first|(with_reducible first|exact HK.out|apply G2.set_|apply O6|apply r7|apply N6)|exact HK.out)) hk (.inl rfl)) (hb) (hi);clear HK HB HI0;obtain⟨HK,HB,HI0⟩:=n_;(try clear hb hk hi))|((with_reducible refine C1 (f:=64) rfl ?_);refine goL_ (some 14) Try.func64 #[.pointer (some ⟨g,0,none⟩)] ?_;(with_reducible refine(q23.calls k g s0_0 cy6 ct0 cj0 dc4 cO1 cF8 w0 _ ?side1 ?side2 A3.out).mono ?_);(case side1=>repeat(first|(with_reducible first|exact HI0.out|apply U0.alloc|apply U0.drewN|apply U0.drew|apply U0.set_1|apply U0.set_2)|exact HI0.out));(case side2=>repeat(first|(with_reducible first|exact HB.out|apply R1|apply M1|apply N1|refine P1 ?_ (U0.ge HI0.out))|exact HB.out));rintro e Z1 ⟨rfl,hi,hb,hk⟩;refine⟨_,rfl,?_⟩;have n_:=pk3 (G2.trans (by repeat(first|(with_reducible first|exact HK.out|apply G2.set_|apply O6|apply r7|apply N6)|exact HK.out)) hk (.inl rfl)) (hb) (hi);clear HK HB HI0;obtain⟨HK,HB,HI0⟩:=n_;(try clear hb hk hi);obtain⟨cR2,cS7,aB2,cw8,cS5⟩:=HI0.out;have Y2:=ak2 aB2;have z3:=ak6 aB2;have V8:=al0 aB2;have Z2:=t0 aB2 1;have l9:=t0 aB2 2;clear aB2 cw8))
 go_ret2
 exact⟨rf_,by repeat(first|(with_reducible first|exact HI0.out|apply U0.alloc|apply U0.drewN|apply U0.drew|apply U0.set_1|apply U0.set_2)|exact HI0.out),by repeat(first|(with_reducible first|exact HB.out|apply R1|apply M1|apply N1|refine P1 ?_ (U0.ge HI0.out))|exact HB.out),by repeat(first|(with_reducible first|exact HK.out|apply G2.set_|apply O6|apply r7|apply N6)|exact HK.out)⟩
end Go.Proofs.Ytmddmbagehjdeaa.G
end
section
namespace Go.Proofs.Ytmddmbagehjdeaa.G
open Go Go.RowKit Go.Proofs.YtmddmbagehjdeaaW.PrintWords Go.Proofs.YtmddmbagehjdeaaW.PrintLast Go.Proofs.YtmddmbagehjdeaaW.PrintMore
def q58.f (k:Nat) (l0_0:List Int) (a0_1:Int):Option (List Int×Int×Int):=(q25.f k l0_0 a0_1).bind fun e0=>if e0=0 then(q64.f l0_0 a0_1).bind fun t=>some (t.1,t.2,0)else some ([],0,0)
theorem q58.mono:∀ a0 a1 k,LeO (q58.f k a0 a1) (q58.f (k+1) a0 a1):=by
 intro a0 a1 k
 unfold q58.f
 exact LeO.bind (q25.mono _ _ _) (fun _=>LeO.refl _)
end Go.Proofs.Ytmddmbagehjdeaa.G
end
