/- More lines for the row. -/
import Derived.Test.YtmddmbagehjdeaaZGorillaDatas5
set_option linter.unusedVariables false
set_option linter.unusedSimpArgs false
set_option maxRecDepth 100000
set_option maxHeartbeats 8000000
section
namespace Go.Proofs.Ytmddmbagehjdeaa.G
open Go Go.RowKit Go.Proofs.YtmddmbagehjdeaaW.PrintWords Go.Proofs.YtmddmbagehjdeaaW.PrintLast Go.Proofs.YtmddmbagehjdeaaW.PrintMore
set_option maxHeartbeats 2000000 in
theorem q58.calls (k:Nat) (A0_0:Option Addr) (c0_0:Nat) (l0_0:List Int) (a0_1:Int) (r1:List Int) (r2 r3:Int) (w0 w:World) (hB:Below w0.heap.size w0 w) (hr0_0:Kd.C (Kd.int .u8) w A0_0 l0_0.length l0_0) (hc0_0:l0_0.length≤c0_0) (h:q58.f k l0_0 a0_1=some (r1,r2,r3)) :
  Calls Try.prog 17 #[.agg #[.slice A0_0 l0_0.length c0_0,.int .i64 a0_1]] w fun e w'=>∃ g_,e=.returned (.pointer (some ⟨g_,0,none⟩))∧U0 w0 w' g_ r1 r2 r3∧Below w0.heap.size w0 w'∧Below w.heap.size w w':=by
 have hu25:=Try.underlying25
 have hu52:=Try.underlying52
 unfold q58.f at h
 obtain⟨e0,hA,h⟩:=Option.bind_eq_some_iff.1 h
 have HR:=q5.mk hr0_0
 have HC:=q5.mk hc0_0
 have HB:=q5.mk hB
 have HA:=q5.mk hA
 have GE:=q5.mk hB.size
 clear hr0_0 hc0_0 hB hA
 have fin:∀ (W:World) (cs:Array Value),Below w.heap.size w W→Below w0.heap.size w0 (W.alloc (.cells cs 52))∧Below w.heap.size w (W.alloc (.cells cs 52)):=fun W cs hb=>⟨(at6 HB.out GE.out hb).alloc (Nat.le_trans GE.out hb.size) _,R1 hb _⟩
 have FIN:=q5.mk fin
 clear fin
 by_cases he:e0=0
 ·rw [if_pos he] at h
  obtain⟨⟨t1,t2⟩,hO,h⟩:=Option.bind_eq_some_iff.1 h
  simp only [Option.some.injEq,Prod.mk.injEq] at h
  obtain⟨rfl,rfl,rfl⟩:=h
  have HO:=q5.mk hO
  clear hO
  subst he
  go_enter Try.func17,Try.ntmps17
  go_wp2_with (first
   |(go_at_call 58;(with_reducible refine(q25.calls k A0_0 c0_0 l0_0 a0_1 0 _ ?side1 HC.out HA.out).mono ?_);(case side1=>exact Kd.C_alloc HR.out _);rintro e w3 ⟨rfl,hb3⟩;have hblk:=(hb3.block w.heap.size (by simp)).trans (heap_alloc_new w (.cells #[.slice A0_0 l0_0.length c0_0,.int .i64 a0_1] 25));have hc0:w3.cell? ⟨w.heap.size,0,none⟩=some (.slice A0_0 l0_0.length c0_0):=(m0 hblk 0).trans rfl;have hc1:w3.cell? ⟨w.heap.size,1,none⟩=some (.int .i64 a0_1):=(m0 hblk 1).trans rfl;have HB3:=q5.mk (E0 (R1 (Below.refl _ w) _) hb3);clear hb3 hblk)
   |(go_at_call 59;(with_reducible refine(q64.calls A0_0 c0_0 l0_0 a0_1 t1 t2 _ ?side1 HC.out HO.out).mono ?_);(case side1=>exact Kd.C_below HR.out HB3.out);rintro e w4 ⟨v,rfl,ho,hb4⟩;have HB4:=q5.mk (E0 HB3.out hb4);clear hb4;obtain⟨A1,c1,hv⟩:=Kd.R_slice ho;subst hv;have HH:=q5.mk (af5.of_R ho);clear ho))
  go_ret
  have hf:=FIN.out _ #[.slice A1 t1.length c1,.int .i64 t2,.int .i64 0] HB4.out
  refine⟨_,rfl,⟨A1,c1,by simpa using heap_alloc_new w4 _,Nat.le_trans GE.out HB4.out.size,HH.out.step (fun k cs fr hc=>(Below.heap_alloc _ _ k (U6 hc)))⟩,hf.1,hf.2⟩
 ·rw [if_neg he] at h
  simp only [Option.some.injEq,Prod.mk.injEq] at h
  obtain⟨rfl,rfl,rfl⟩:=h
  have hne:(e0 != 0)=true:=by simpa using he
  clear he
  go_enter Try.func17,Try.ntmps17
  go_wp2_with (go_at_call 58;(with_reducible refine(q25.calls k A0_0 c0_0 l0_0 a0_1 e0 _ ?side1 HC.out HA.out).mono ?_);(case side1=>exact Kd.C_alloc HR.out _);rintro e w3 ⟨rfl,hb3⟩;have HB3:=q5.mk (E0 (R1 (Below.refl _ w) _) hb3);clear hb3)
  go_ret
  have hf:=FIN.out _ #[.slice none 0 0,.int .i64 0,.int .i64 0] HB3.out
  exact⟨_,rfl,⟨none,0,by simpa using heap_alloc_new w3 _,Nat.le_trans GE.out HB3.out.size,af5.nil _⟩,hf.1,hf.2⟩
end Go.Proofs.Ytmddmbagehjdeaa.G
end
section
namespace Go.Proofs.Ytmddmbagehjdeaa.G
open Go.RowKit Go.Proofs.YtmddmbagehjdeaaX Go.Proofs.YtmddmbagehjdeaaW.PrintWords Go.Proofs.YtmddmbagehjdeaaW.PrintLast Go.Proofs.YtmddmbagehjdeaaW.PrintMore
attribute [local go_sem] S3 R3 R4 S4 P3 N3 D4 Y3
mutual
def q9.l0:Nat→List Int→Int→Int→Int→List Int→Int→List Int→Int→Int→Option (List Int×Bool)
 |0,_,_,_,_,_,_,_,_,_=>none
 |k+1,x5,af2,aj9,aj2,ak0,aj8,ab9,ao2,ap0=>if(x5.length:Int)<(wrap64 (1+(wrap64 (2*af2))))then((q19.f k ab9 ao2 ap0).bind fun bw7=>((q19.f k ab9 bw7.2.2.1 bw7.2.2.2).bind fun aZ9=>(if bw7.2.1=0 then(q9.j1 k x5 bw7.1 aZ9.1 (aZ9.2.1 != 0) af2 aj9 aj2 ak0 aj8 ab9 aZ9.2.2.1 aZ9.2.2.2)else(q9.j1 k x5 bw7.1 aZ9.1 true af2 aj9 aj2 ak0 aj8 ab9 aZ9.2.2.1 aZ9.2.2.2))))else(some (x5,true))
def q9.j1:Nat→List Int→Int→Int→Bool→Int→Int→Int→List Int→Int→List Int→Int→Int→Option (List Int×Bool)
 |0,_,_,_,_,_,_,_,_,_,_,_,_=>none
 |k+1,x5,x6,x8,x39,af2,aj9,aj2,ak0,aj8,ab9,ao2,ap0=>if x39=true then(some (([]:List Int),false))else((some (([x6,x8]:List Int):List Int)).bind fun br8=>(if x5.length+br8.length<17592186044416 then((some (x5++br8:List Int)).bind fun af4=>(if(af4.length:Int)≤5 then(q9.j2 k af4 true af2 aj9 aj2 ak0 aj8 ab9 ao2 ap0)else(if x6=0 then(q9.j2 k af4 (x8 != 0) af2 aj9 aj2 ak0 aj8 ab9 ao2 ap0)else(q9.j2 k af4 true af2 aj9 aj2 ak0 aj8 ab9 ao2 ap0))))else(none)))
def q9.j2:Nat→List Int→Bool→Int→Int→Int→List Int→Int→List Int→Int→Int→Option (List Int×Bool)
 |0,_,_,_,_,_,_,_,_,_,_=>none
 |k+1,x5,x55,af2,aj9,aj2,ak0,aj8,ab9,ao2,ap0=>if x55=true then(q9.l0 k x5 af2 aj9 aj2 ak0 aj8 ab9 ao2 ap0)else((q27.f k ab9 ao2 ap0 4).bind fun aX8=>(if aX8.2.1=0 then(if(wrap64 (aX8.1))>(wrap64 (af2 - (wrap64 (Int.tdiv (wrap64 ((x5.length:Int) - 1)) 2))))then(some (([]:List Int),false))else(if 0≤(IntKind.u64.wrap (2*aX8.1))then(if x5.length+(IntKind.u64.wrap (2*aX8.1):Int).toNat<17592186044416 then(q9.l0 k (x5++List.replicate (IntKind.u64.wrap (2*aX8.1):Int).toNat 0) af2 aj9 aj2 ak0 aj8 ab9 aX8.2.2.1 aX8.2.2.2)else(none))else(none)))else(some (([]:List Int),false))))
end
def q9.f (k:Nat) (a0_0:Int) (a0_1:Int) (a0_2:Int) (l0_3:List Int) (a0_4:Int):Option (List Int×Bool):=(q58.f k l0_3 a0_4).bind fun aY2=>(q9.l0 k (([a0_0]:List Int)) a0_0 a0_1 a0_2 l0_3 a0_4 aY2.1 aY2.2.1 aY2.2.2)
theorem q9.mono_l:∀ k,(∀ y0 y1 y2 y3 y4 y5 y6 y7 y8,LeO (q9.l0 k y0 y1 y2 y3 y4 y5 y6 y7 y8) (q9.l0 (k+1) y0 y1 y2 y3 y4 y5 y6 y7 y8))∧(∀ y0 y1 y2 y3 y4 y5 y6 y7 y8 y9 y10 y11,LeO (q9.j1 k y0 y1 y2 y3 y4 y5 y6 y7 y8 y9 y10 y11) (q9.j1 (k+1) y0 y1 y2 y3 y4 y5 y6 y7 y8 y9 y10 y11))∧(∀ y0 y1 y2 y3 y4 y5 y6 y7 y8 y9,LeO (q9.j2 k y0 y1 y2 y3 y4 y5 y6 y7 y8 y9) (q9.j2 (k+1) y0 y1 y2 y3 y4 y5 y6 y7 y8 y9))
 |0=>⟨fun _ _ _ _ _ _ _ _ _ r h=>by simp [q9.l0] at h,fun _ _ _ _ _ _ _ _ _ _ _ _ r h=>by simp [q9.j1] at h,fun _ _ _ _ _ _ _ _ _ _ r h=>by simp [q9.j2] at h⟩
 |k+1=>by
  obtain⟨ih0,ih1,ih2⟩:=q9.mono_l k
  refine⟨?_,?_,?_⟩
  ·intro y0 y1 y2 y3 y4 y5 y6 y7 y8
   unfold q9.l0
   repeat' first
   |(with_reducible exact ih0 _ _ _ _ _ _ _ _ _)
   |(with_reducible exact ih1 _ _ _ _ _ _ _ _ _ _ _ _)
   |(with_reducible exact ih2 _ _ _ _ _ _ _ _ _ _)
   |(with_reducible exact q58.mono _ _ _)
   |(with_reducible exact q19.mono _ _ _ _)
   |(with_reducible exact q27.mono _ _ _ _ _)
   |(with_reducible exact LeO.refl _)
   |(with_reducible exact LeO.none _)
   |(with_reducible refine LeO.ite ?_ ?_)
   |(with_reducible refine LeO.bind ?_ (fun _=>?_))
   |exact ih0 _ _ _ _ _ _ _ _ _
   |exact ih1 _ _ _ _ _ _ _ _ _ _ _ _
   |exact ih2 _ _ _ _ _ _ _ _ _ _
   |exact q58.mono _ _ _
   |exact q19.mono _ _ _ _
   |exact q27.mono _ _ _ _ _
   |exact LeO.none _
   |refine LeO.ite ?_ ?_
   |refine LeO.bind ?_ (fun _=>?_)
  ·intro y0 y1 y2 y3 y4 y5 y6 y7 y8 y9 y10 y11
   unfold q9.j1
   repeat' first
   |(with_reducible exact ih0 _ _ _ _ _ _ _ _ _)
   |(with_reducible exact ih1 _ _ _ _ _ _ _ _ _ _ _ _)
   |(with_reducible exact ih2 _ _ _ _ _ _ _ _ _ _)
   |(with_reducible exact q58.mono _ _ _)
   |(with_reducible exact q19.mono _ _ _ _)
   |(with_reducible exact q27.mono _ _ _ _ _)
   |(with_reducible exact LeO.refl _)
   |(with_reducible exact LeO.none _)
   |(with_reducible refine LeO.ite ?_ ?_)
   |(with_reducible refine LeO.bind ?_ (fun _=>?_))
   |exact ih0 _ _ _ _ _ _ _ _ _
   |exact ih1 _ _ _ _ _ _ _ _ _ _ _ _
   |exact ih2 _ _ _ _ _ _ _ _ _ _
   |exact q58.mono _ _ _
   |exact q19.mono _ _ _ _
   |exact q27.mono _ _ _ _ _
   |exact LeO.none _
   |refine LeO.ite ?_ ?_
   |refine LeO.bind ?_ (fun _=>?_)
  ·intro y0 y1 y2 y3 y4 y5 y6 y7 y8 y9
   unfold q9.j2
   repeat' first
   |(with_reducible exact ih0 _ _ _ _ _ _ _ _ _)
   |(with_reducible exact ih1 _ _ _ _ _ _ _ _ _ _ _ _)
   |(with_reducible exact ih2 _ _ _ _ _ _ _ _ _ _)
   |(with_reducible exact q58.mono _ _ _)
   |(with_reducible exact q19.mono _ _ _ _)
   |(with_reducible exact q27.mono _ _ _ _ _)
   |(with_reducible exact LeO.refl _)
   |(with_reducible exact LeO.none _)
   |(with_reducible refine LeO.ite ?_ ?_)
   |(with_reducible refine LeO.bind ?_ (fun _=>?_))
   |exact ih0 _ _ _ _ _ _ _ _ _
   |exact ih1 _ _ _ _ _ _ _ _ _ _ _ _
   |exact ih2 _ _ _ _ _ _ _ _ _ _
   |exact q58.mono _ _ _
   |exact q19.mono _ _ _ _
   |exact q27.mono _ _ _ _ _
   |exact LeO.none _
   |refine LeO.ite ?_ ?_
   |refine LeO.bind ?_ (fun _=>?_)
theorem q9.mono:∀ a0 a1 a2 a3 a4 k,LeO (q9.f k a0 a1 a2 a3 a4) (q9.f (k+1) a0 a1 a2 a3 a4):=by
 intro a0 a1 a2 a3 a4 k
 obtain⟨ih0,ih1,ih2⟩:=q9.mono_l k
 unfold q9.f
 repeat' first
   |(with_reducible exact ih0 _ _ _ _ _ _ _ _ _)
   |(with_reducible exact ih1 _ _ _ _ _ _ _ _ _ _ _ _)
   |(with_reducible exact ih2 _ _ _ _ _ _ _ _ _ _)
   |(with_reducible exact q58.mono _ _ _)
   |(with_reducible exact q19.mono _ _ _ _)
   |(with_reducible exact q27.mono _ _ _ _ _)
   |(with_reducible exact LeO.refl _)
   |(with_reducible exact LeO.none _)
   |(with_reducible refine LeO.ite ?_ ?_)
   |(with_reducible refine LeO.bind ?_ (fun _=>?_))
   |exact ih0 _ _ _ _ _ _ _ _ _
   |exact ih1 _ _ _ _ _ _ _ _ _ _ _ _
   |exact ih2 _ _ _ _ _ _ _ _ _ _
   |exact q58.mono _ _ _
   |exact q19.mono _ _ _ _
   |exact q27.mono _ _ _ _ _
   |exact LeO.none _
   |refine LeO.ite ?_ ?_
   |refine LeO.bind ?_ (fun _=>?_)
theorem q9.calls (k:Nat) (a0_0:Int) (a0_1:Int) (a0_2:Int) (A0_3:Option Addr) (c0_3:Nat) (l0_3:List Int) (a0_4:Int) (r1:List Int) (r2:Bool) (w:World) (hr0_3:Kd.C (Kd.int .u8) w A0_3 l0_3.length l0_3) (hc0_3:l0_3.length≤c0_3) (h:q9.f k a0_0 a0_1 a0_2 l0_3 a0_4=some (r1,r2)) :
  Calls Try.prog 72 #[.agg #[.int .i64 a0_0,.int .i64 a0_1,.int .i64 a0_2,.slice A0_3 l0_3.length c0_3,.int .i64 a0_4]] w fun e w'=>∃ v0_:Value,e=.returned (.tuple #[v0_,.bool r2])∧Kd.R (Kd.int .i64) 3 w' w.heap.size (fun _=>True) v0_ r1∧Below w.heap.size w w':=by
 have hu69:=Try.underlying69
 have hu25:=Try.underlying25
 have HR0_3:=q5.mk hr0_3
 have HC0_3:=q5.mk hc0_3
 clear hr0_3 hc0_3
 have HB:=q5.mk (Below.refl w.heap.size w)
 have H:((q58.f k l0_3 a0_4).bind fun aY2=>(q9.l0 k (([a0_0]:List Int)) a0_0 a0_1 a0_2 l0_3 a0_4 aY2.1 aY2.2.1 aY2.2.2))=some (r1,r2):=h
 clear h
 replace H:=N2 H
 obtain⟨⟨an9,cN6,cL0⟩,A2,H⟩:=H
 try dsimp only at H
 obtain⟨cW0,bH0⟩:∃ y_:List Int,y_=(([a0_0]:List Int)):=⟨_,rfl⟩
 replace H:(q9.l0 k cW0 a0_0 a0_1 a0_2 l0_3 a0_4 an9 cN6 cL0)=some (r1,r2):=by first|(rw [bH0];with_reducible exact H)|(have H2_:=(Option.bind_some _ _).symm.trans H;rw [bH0];with_reducible exact H2_)|(have H2_:=(Option.bind_some _ _).symm.trans H;with_reducible exact H2_)|with_reducible exact H|(rw [bH0];exact H)|exact H
 have cC9:=q5.mk bH0
 clear bH0
 have H':=q5.mk H
 clear H
 go_enter Try.func72,Try.ntmps72
 go_wp2_with (first|((with_reducible refine X0 (N:=1) rfl ?_);(try(refine O2 (by rfl) ?_;dsimp only));refine L2 1 #[.int .i64 a0_0,.int .i64 a0_1,.int .i64 a0_2,.slice A0_3 l0_3.length c0_3,.int .i64 a0_4] 69 ?_;intro aa3 hg w3 hbox hb;have n_:=pk4 (E0 bl_ hb) (hbox) ((ge_ hg bl_:w.heap.size≤aa3)) ((ge_ hg bl_:w.heap.size≤aa3));clear HB;obtain⟨HB,X3,dt3,ab8⟩:=n_;clear hb hbox hg;have hcz4_0:w3.cell? ⟨aa3,0,none⟩=some (.int .i64 a0_0):=(m0 X3.out 0).trans rfl;have hcz4_1:w3.cell? ⟨aa3,1,none⟩=some (.int .i64 a0_1):=(m0 X3.out 1).trans rfl;have hcz4_2:w3.cell? ⟨aa3,2,none⟩=some (.int .i64 a0_2):=(m0 X3.out 2).trans rfl;have hcz4_3:w3.cell? ⟨aa3,3,none⟩=some (.slice A0_3 l0_3.length c0_3):=(m0 X3.out 3).trans rfl;have hcz4_4:w3.cell? ⟨aa3,4,none⟩=some (.int .i64 a0_4):=(m0 X3.out 4).trans rfl;have hfz4_0:=t0 X3.out 0;have hfz4_1:=t0 X3.out 1;have hfz4_2:=t0 X3.out 2;have hfz4_3:=t0 X3.out 3;have hfz4_4:=t0 X3.out 4)|((with_reducible refine C1 (f:=17) rfl ?_);refine goL_ (some 13) Try.func17 #[.agg #[.slice A0_3 l0_3.length c0_3,.int .i64 a0_4]] ?_;(with_reducible refine(q58.calls k _ _ l0_3 a0_4 an9 cN6 cL0 w _ ?side1 ?side2 ?side3 A2.out).mono ?_);(case side1=>exact bl_);(case side2=>exact cb_ HR0_3);(case side3=>exact HC0_3.out);rintro e w5 ⟨aS7,rfl,hi,hb,hb2⟩;refine⟨_,rfl,?_⟩;have n_:=pk5 (F0 (bo_ X3) hb2) (hb) (hi) (U0.ne_blk hi (F0 (bo_ X3) hb2) (by decide)) (Ne.symm (U0.ne_blk hi (F0 (bo_ X3) hb2) (by decide)));clear X3 HB;obtain⟨X3,HB,Q3,J5,ag5⟩:=n_;(try clear hb hb2 hi);have hnb6:=ag5.out;have hnc6:=J5.out;have hcz7_0:w5.cell? ⟨aa3,0,none⟩=some (.int .i64 a0_0):=(m0 X3.out 0).trans rfl;have hcz7_1:w5.cell? ⟨aa3,1,none⟩=some (.int .i64 a0_1):=(m0 X3.out 1).trans rfl;have hcz7_2:w5.cell? ⟨aa3,2,none⟩=some (.int .i64 a0_2):=(m0 X3.out 2).trans rfl;have hcz7_3:w5.cell? ⟨aa3,3,none⟩=some (.slice A0_3 l0_3.length c0_3):=(m0 X3.out 3).trans rfl;have hcz7_4:w5.cell? ⟨aa3,4,none⟩=some (.int .i64 a0_4):=(m0 X3.out 4).trans rfl;have hfz7_0:=t0 X3.out 0;have hfz7_1:=t0 X3.out 1;have hfz7_2:=t0 X3.out 2;have hfz7_3:=t0 X3.out 3;have hfz7_4:=t0 X3.out 4)|((with_reducible refine X0 (N:=16) rfl ?_);(try(refine O2 (by rfl) ?_;dsimp only));refine Kd.R_lit (Kd.int .i64) _ 3 ?hg (N:=16) ?hd (xs:=([a0_0]:List Int)) (inner:=[.int .i64 a0_0]) (ok:=fun _=>True) (okp:=fun _=>True) ?hr ?hp (fun _ hk=>hk) trivial (Below.refl _ _) (Nat.le_refl _) (by simp) ?_;(case hd=>rfl);(case hg=>rfl);(case hr=>first|(go_simp;done)|(go_simp;rfl));(case hp=>exact(Reps.one (show Kd.M (Kd.int .i64) _ _ _ a0_0 [.int .i64 a0_0] from rfl) (Reps.none _ _)));intro dt5 w8 ho9 hb hg_ hnew_;clear hg_ hnew_;(first|rw [←cC9.out] at ho9|(simp only [Int.reduceToNat] at ho9;rw [←cC9.out] at ho9));have n_:=pk4 (Kd.R_lower ho9 (L0 (by repeat(first|(with_reducible first|exact HB.out|apply R1|apply M1|apply N1|refine P1 ?_ (U0.ge Q3.out)|refine P1 ?_ ab8.out)|exact HB.out)))) (F0 (bo_ X3) hb) (U0.below (by repeat(first|(with_reducible first|exact Q3.out|apply U0.alloc|apply U0.drewN|apply U0.drew|apply U0.set_1|apply U0.set_2|refine U0.far ?_ J5.out _)|exact Q3.out)) hb) (E0 (by repeat(first|(with_reducible first|exact HB.out|apply R1|apply M1|apply N1|refine P1 ?_ (U0.ge Q3.out)|refine P1 ?_ ab8.out)|exact HB.out)) hb);clear X3 Q3 HB;obtain⟨dd7,X3,Q3,HB⟩:=n_;clear hb ho9))
 go_loopg [5] k (fun kq v5 w'=>∃ (x5_1:List Int) (aq0:Int) (aq6:Int),q5 (q9.l0 kq x5_1 a0_0 a0_1 a0_2 l0_3 a0_4 an9 aq0 aq6=some (r1,r2))∧q5 (kq≤k)∧q5 (Kd.R (Kd.int .i64) 3 w' w.heap.size (fun _=>True) v5 x5_1)∧q5 (w'.heap[aa3]?=some (.cells #[.int .i64 a0_0,.int .i64 a0_1,.int .i64 a0_2,(.slice A0_3 l0_3.length c0_3),.int .i64 a0_4] 69 (0,0)))∧q5 (U0 w w' aS7 an9 aq0 aq6)∧q5 (Below w.heap.size w w'))
 case atStart=>exact⟨(cW0),(cN6),(cL0),H',⟨Nat.le_refl _⟩,⟨(ro_ dd7)⟩,⟨(bo_ X3)⟩,⟨by repeat(first|(with_reducible first|exact Q3.out|apply U0.alloc|apply U0.drewN|apply U0.drew|apply U0.set_1|apply U0.set_2|refine U0.far ?_ J5.out _)|exact Q3.out)⟩,⟨by repeat(first|(with_reducible first|exact HB.out|apply R1|apply M1|apply N1|refine P1 ?_ (U0.ge Q3.out)|refine P1 ?_ ab8.out)|exact HB.out)⟩⟩
 case round =>
  clear H'
  obtain⟨x5_1,aq0,aq6,HA,HK1,HO_5,X3,Q3,HB⟩:=hrel
  cases gk with
  |zero=>exact absurd HA.out (by simp [q9.l0])
  |succ k1 =>
   have H:=HA.out
   clear HA
   simp only [q9.l0] at H
   replace H:=dle H
   rcases H with⟨c10b0,H⟩|⟨c10b0,H⟩
   ·replace H:=N2 H
    obtain⟨⟨bm0,do2,cG5,cH4⟩,A11,H⟩:=H
    try dsimp only at H
    replace H:=N2 H
    obtain⟨⟨bd9,cT7,aJ5,aL1⟩,A12,H⟩:=H
    try dsimp only at H
    have HC13:=q5.mk H
    clear H
    obtain⟨Ao14,co14,eo14⟩:=Kd.R_slice HO_5.out
    subst eo14
    have hnb15:=ag5.out
    have hnc15:=J5.out
    obtain⟨hcz16_0,hcz16_1,hcz16_2,hcz16_3,hcz16_4,hfz16_0,hfz16_1,hfz16_2,hfz16_3,hfz16_4⟩:=X4 X3.out
    go_upto_region 6 with(first|((with_reducible refine C1 (f:=18) rfl ?_);refine goL_ (some 26) Try.func18 #[.pointer (some ⟨aS7,0,none⟩)] ?_;(with_reducible refine(q19.calls k1 aS7 an9 aq0 aq6 bm0 do2 cG5 cH4 w _ ?side1 ?side2 A11.out).mono ?_);(case side1=>repeat(first|(with_reducible first|exact Q3.out|apply U0.alloc|apply U0.drewN|apply U0.drew|apply U0.set_1|apply U0.set_2|refine U0.far ?_ J5.out _)|exact Q3.out));(case side2=>repeat(first|(with_reducible first|exact HB.out|apply R1|apply M1|apply N1|refine P1 ?_ (U0.ge Q3.out)|refine P1 ?_ ab8.out)|exact HB.out));rintro e w17 ⟨rfl,hi,hb,hk⟩;refine⟨_,rfl,?_⟩;have n_:=pk4 (Kd.R_mono (Kd.R_keep (U0.apart (show U0 w _ aS7 an9 aq0 aq6 from by repeat(first|(with_reducible first|exact Q3.out|apply U0.alloc|apply U0.drewN|apply U0.drew|apply U0.set_1|apply U0.set_2|refine U0.far ?_ J5.out _)|exact Q3.out)) (ro_ HO_5) (by decide)) hk (fun _ h=>h.2)) (fun _ h=>h.1)) (G2.blk hk (g':=aa3) (o:=.cells #[.int .i64 a0_0,.int .i64 a0_1,.int .i64 a0_2,.slice A0_3 l0_3.length c0_3,.int .i64 a0_4] 69 (0,0)) (bo_ X3) ag5.out (by simp)) (hb) (hi);clear HO_5 X3 HB Q3;obtain⟨HO_5,X3,HB,Q3⟩:=n_;(try clear hb hk hi))|((with_reducible refine C1 (f:=18) rfl ?_);refine goL_ (some 31) Try.func18 #[.pointer (some ⟨aS7,0,none⟩)] ?_;(with_reducible refine(q19.calls k1 aS7 an9 cG5 cH4 bd9 cT7 aJ5 aL1 w _ ?side1 ?side2 A12.out).mono ?_);(case side1=>repeat(first|(with_reducible first|exact Q3.out|apply U0.alloc|apply U0.drewN|apply U0.drew|apply U0.set_1|apply U0.set_2|refine U0.far ?_ J5.out _)|exact Q3.out));(case side2=>repeat(first|(with_reducible first|exact HB.out|apply R1|apply M1|apply N1|refine P1 ?_ (U0.ge Q3.out)|refine P1 ?_ ab8.out)|exact HB.out));rintro e w18 ⟨rfl,hi,hb,hk⟩;refine⟨_,rfl,?_⟩;have n_:=pk4 (Kd.R_mono (Kd.R_keep (U0.apart (show U0 w _ aS7 an9 cG5 cH4 from by repeat(first|(with_reducible first|exact Q3.out|apply U0.alloc|apply U0.drewN|apply U0.drew|apply U0.set_1|apply U0.set_2|refine U0.far ?_ J5.out _)|exact Q3.out)) (ro_ HO_5) (by decide)) hk (fun _ h=>h.2)) (fun _ h=>h.1)) (G2.blk hk (g':=aa3) (o:=.cells #[.int .i64 a0_0,.int .i64 a0_1,.int .i64 a0_2,.slice A0_3 l0_3.length c0_3,.int .i64 a0_4] 69 (0,0)) (bo_ X3) ag5.out (by simp)) (hb) (hi);clear HO_5 X3 HB Q3;obtain⟨HO_5,X3,HB,Q3⟩:=n_;(try clear hb hk hi)))
    (try simp only [ap_,sb_,s0_,s1_])
    go_cut [39] (fun v39 wc=>∃ (kq:Nat) (x39_12:Bool),v39=.bool x39_12∧q5 (q9.j1 kq x5_1 bm0 bd9 x39_12 a0_0 a0_1 a0_2 l0_3 a0_4 an9 aJ5 aL1=some (r1,r2))∧q5 (kq≤k1)∧q5 (Kd.R (Kd.int .i64) 3 wc w.heap.size (fun _=>True) (.slice Ao14 x5_1.length co14) x5_1)∧q5 (wc.heap[aa3]?=some (.cells #[.int .i64 a0_0,.int .i64 a0_1,.int .i64 a0_2,(.slice A0_3 l0_3.length c0_3),.int .i64 a0_4] 69 (0,0)))∧q5 (U0 w wc aS7 an9 aJ5 aL1)∧q5 (Below w.heap.size w wc))
    case first =>
     have H:=HC13.out
     clear HC13
     replace H:=deqn H
     rcases H with⟨c19b0,c19b1,H⟩|⟨c19b0,c19b1,c19,H⟩
     focus
      (first|rw [c19b0]|(simp only [N0,P0];rw [c19b0])|skip)
      have H':=q5.mk H
      clear H
     rotate_left
     focus
      (first|rw [c19b0]|(simp only [N0,P0];rw [c19b0])|skip)
      have H':=q5.mk H
      clear H
     all_goals
      go_wp2
      go_meet
      first
       |case rel=>exact⟨_,((cT7 != 0)),sm_,H',⟨by have:=HK1.out;first|omega|exact Nat.le_refl _⟩,⟨(ro_ HO_5)⟩,⟨(bo_ X3)⟩,⟨by repeat(first|(with_reducible first|exact Q3.out|apply U0.alloc|apply U0.drewN|apply U0.drew|apply U0.set_1|apply U0.set_2|refine U0.far ?_ J5.out _)|exact Q3.out)⟩,⟨by repeat(first|(with_reducible first|exact HB.out|apply R1|apply M1|apply N1|refine P1 ?_ (U0.ge Q3.out)|refine P1 ?_ ab8.out)|exact HB.out)⟩⟩
       |case rel=>exact⟨_,(true),sm_,H',⟨by have:=HK1.out;first|omega|exact Nat.le_refl _⟩,⟨(ro_ HO_5)⟩,⟨(bo_ X3)⟩,⟨by repeat(first|(with_reducible first|exact Q3.out|apply U0.alloc|apply U0.drewN|apply U0.drew|apply U0.set_1|apply U0.set_2|refine U0.far ?_ J5.out _)|exact Q3.out)⟩,⟨by repeat(first|(with_reducible first|exact HB.out|apply R1|apply M1|apply N1|refine P1 ?_ (U0.ge Q3.out)|refine P1 ?_ ab8.out)|exact HB.out)⟩⟩
    case rest =>
     clear HC13
     try clear c10
     try clear c10b0
     try clear hcz16_0
     try clear hcz16_1
     try clear hcz16_2
     try clear hcz16_3
     try clear hcz16_4
     try clear hfz16_0
     try clear hfz16_1
     try clear hfz16_2
     try clear hfz16_3
     try clear hfz16_4
     obtain⟨kq,x39_12,rfl,HA,HJ12,HO_5,X3,Q3,HB⟩:=hcut
     cases kq with
     |zero=>exact absurd HA.out (by simp [q9.j1])
     |succ kj12 =>
      have H:=HA.out
      clear HA
      simp only [q9.j1] at H
      replace H:=Q7 H
      rcases H with⟨rfl,H⟩|⟨rfl,H⟩
      rotate_left
      ·obtain⟨br8,bF2⟩:∃ y_:List Int,y_=(([bm0,bd9]:List Int)):=⟨_,rfl⟩
       replace H:(if x5_1.length+br8.length<17592186044416 then((some (x5_1++br8:List Int)).bind fun af4=>(if(af4.length:Int)≤5 then(q9.j2 kj12 af4 true a0_0 a0_1 a0_2 l0_3 a0_4 an9 aJ5 aL1)else(if bm0=0 then(q9.j2 kj12 af4 (bd9 != 0) a0_0 a0_1 a0_2 l0_3 a0_4 an9 aJ5 aL1)else(q9.j2 kj12 af4 true a0_0 a0_1 a0_2 l0_3 a0_4 an9 aJ5 aL1))))else(none))=some (r1,r2):=by first|(rw [bF2];with_reducible exact H)|(have H2_:=(Option.bind_some _ _).symm.trans H;rw [bF2];with_reducible exact H2_)|(have H2_:=(Option.bind_some _ _).symm.trans H;with_reducible exact H2_)|with_reducible exact H|(rw [bF2];exact H)|exact H
       have cB6:=q5.mk bF2
       clear bF2
       by_cases c21:x5_1.length+br8.length<17592186044416
       ·rw [if_pos c21] at H
        have LMc21:=q5.mk c21
        clear c21
        obtain⟨af4,bB2⟩:∃ y_:List Int,y_=(x5_1++br8):=⟨_,rfl⟩
        replace H:(if(af4.length:Int)≤5 then(q9.j2 kj12 af4 true a0_0 a0_1 a0_2 l0_3 a0_4 an9 aJ5 aL1)else(if bm0=0 then(q9.j2 kj12 af4 (bd9 != 0) a0_0 a0_1 a0_2 l0_3 a0_4 an9 aJ5 aL1)else(q9.j2 kj12 af4 true a0_0 a0_1 a0_2 l0_3 a0_4 an9 aJ5 aL1)))=some (r1,r2):=by first|(rw [bB2];with_reducible exact H)|(have H2_:=(Option.bind_some _ _).symm.trans H;rw [bB2];with_reducible exact H2_)|(have H2_:=(Option.bind_some _ _).symm.trans H;with_reducible exact H2_)|with_reducible exact H|(rw [bB2];exact H)|exact H
        have dd3:=q5.mk bB2
        clear bB2
        have HC22:=q5.mk H
        clear H
        go_upto_region 9 with(first|((with_reducible refine X0 (N:=43) rfl ?_);(try(refine O2 (by rfl) ?_;dsimp only));refine Kd.R_lit (Kd.int .i64) _ 3 ?hg (N:=43) ?hd (xs:=([bm0,bd9]:List Int)) (inner:=[.int .i64 bm0,.int .i64 bd9]) (ok:=fun _=>True) (okp:=fun _=>True) ?hr ?hp (fun _ hk=>hk) trivial (Below.refl _ _) (Nat.le_refl _) (by simp) ?_;(case hd=>rfl);(case hg=>rfl);(case hr=>first|(go_simp;done)|(go_simp;rfl));(case hp=>exact(Reps.one (show Kd.M (Kd.int .i64) _ _ _ bm0 [.int .i64 bm0] from rfl) (Reps.one (show Kd.M (Kd.int .i64) _ _ _ bd9 [.int .i64 bd9] from rfl) (Reps.none _ _))));intro du7 w23 ho24 hb hg_ hnew_;clear hg_ hnew_;(first|rw [←cB6.out] at ho24|(simp only [Int.reduceToNat] at ho24;rw [←cB6.out] at ho24));have n_:=pk5 (Kd.R_elder' (ro_ HO_5) (Kd.R_base ho24) hb) (Kd.R_lower (Kd.R_new' ho24 (Kd.R_lt (ro_ HO_5))) (L0 (by repeat(first|(with_reducible first|exact HB.out|apply R1|apply M1|apply N1|refine P1 ?_ (U0.ge Q3.out)|refine P1 ?_ ab8.out)|exact HB.out)))) (F0 (bo_ X3) hb) (U0.below (by repeat(first|(with_reducible first|exact Q3.out|apply U0.alloc|apply U0.drewN|apply U0.drew|apply U0.set_1|apply U0.set_2|refine U0.far ?_ J5.out _)|exact Q3.out)) hb) (E0 (by repeat(first|(with_reducible first|exact HB.out|apply R1|apply M1|apply N1|refine P1 ?_ (U0.ge Q3.out)|refine P1 ?_ ab8.out)|exact HB.out)) hb);clear HO_5 X3 Q3 HB;obtain⟨HO_5,bf0,X3,Q3,HB⟩:=n_;clear hb ho24;obtain⟨Ao26,co26,eo26⟩:=Kd.R_slice bf0.out;subst eo26)|((with_reducible refine G1 (b:=.append) (xs:=#[.tmp 40,.tmp 43]) rfl ?_);(try(refine O2 (by rfl) ?_;dsimp only));at_builtin;refine Kd.R_append_rows (Kd.int .i64) (w0:=w) w.heap.size rfl (.tmp 40) (.tmp 43) 22 3 (.int .i64 0) 8 rfl Try.underlying22 ae7 rfl (by decide) (by omega) (.slice Ao14 x5_1.length co14) x5_1 br8 _ _ _ (fun k_=>some k_≠(.slice Ao26 br8.length co26:Value).ownBlock) (fun _=>False) rfl rfl ?aO ?aR (fun _ _ h=>h) (fun _ h=>h.elim) ?aF ?aB ?aS ?aL ?_;(case aR=>exact cr_ bf0);(case aB=>exact(by repeat(first|(with_reducible first|exact HB.out|apply R1|apply M1|apply N1|refine P1 ?_ (U0.ge Q3.out)|refine P1 ?_ ab8.out)|exact HB.out)));(case aF=>exact(fun k_ hk=>Kd.fresh' (Kd.R_lt (ro_ bf0)) k_ hk));(case aO=>exact(rt_ (Kd.R_mono HO_5.out (fun _ hk=>hk.2))));(case aS=>exact(L0 (by repeat(first|(with_reducible first|exact HB.out|apply R1|apply M1|apply N1|refine P1 ?_ (U0.ge Q3.out)|refine P1 ?_ ab8.out)|exact HB.out))));(case aL=>have:=LMc21.out;omega);intro dk7 w25 ho hb hg hat;rw [←dd3.out] at ho;have n_:=pk5 (D5 (bo_ X3) hg (Kd.R_ne HO_5.out X3.out (by decide))) (U0.grown (by repeat(first|(with_reducible first|exact Q3.out|apply U0.alloc|apply U0.drewN|apply U0.drew|apply U0.set_1|apply U0.set_2|refine U0.far ?_ J5.out _)|exact Q3.out)) hg (bi1.of_R HO_5.out (U0.own_ne Q3.out HO_5.out (by decide)) (by decide))) (Kd.R_after (ok:=(fun _=>True)) (ro_ bf0) hg hat) (hb) (ho);clear X3 Q3 bf0 HB HO_5;obtain⟨X3,Q3,bf0,HB,bD7⟩:=n_;clear ho hb hg hat))
        (try simp only [ap_,sb_,s0_,s1_])
        go_cut [55] (fun v55 wc=>∃ (kq:Nat) (x55_21:Bool),v55=.bool x55_21∧q5 (q9.j2 kq af4 x55_21 a0_0 a0_1 a0_2 l0_3 a0_4 an9 aJ5 aL1=some (r1,r2))∧q5 (kq≤kj12)∧q5 (Kd.R (Kd.int .i64) 3 wc w.heap.size (fun _=>True) dk7 af4)∧q5 (wc.heap[aa3]?=some (.cells #[.int .i64 a0_0,.int .i64 a0_1,.int .i64 a0_2,(.slice A0_3 l0_3.length c0_3),.int .i64 a0_4] 69 (0,0)))∧q5 (U0 w wc aS7 an9 aJ5 aL1)∧q5 (Below w.heap.size w wc))
        case first =>
         have H:=HC22.out
         clear HC22
         by_cases c27:(af4.length:Int)≤5
         focus
          rw [if_pos c27] at H
          have c27b0:decide ((af4.length:Int)≤5)=true:=decide_eq_true c27
          have c27b1:decide (af4.length≤5)=true:=decide_eq_true (by omega)
          clear c27
          (first|rw [c27b0]|(simp only [N0,P0];rw [c27b0])|skip)
          have H':=q5.mk H
          clear H
          obtain⟨Ao28,co28,eo28⟩:=Kd.R_slice bD7.out
          subst eo28
         rotate_left
         focus
          rw [if_neg c27] at H
          have c27b0:decide ((af4.length:Int)≤5)=false:=decide_eq_false c27
          have c27b1:decide (af4.length≤5)=false:=decide_eq_false (by omega)
          clear c27
          (first|rw [c27b0]|(simp only [N0,P0];rw [c27b0])|skip)
          replace H:=deqn H
          rcases H with⟨c29b0,c29b1,H⟩|⟨c29b0,c29b1,c29,H⟩
          focus
           have H':=q5.mk H
           clear H
           obtain⟨Ao30,co30,eo30⟩:=Kd.R_slice bD7.out
           subst eo30
          rotate_left
          focus
           have H':=q5.mk H
           clear H
           obtain⟨Ao31,co31,eo31⟩:=Kd.R_slice bD7.out
           subst eo31
         all_goals
          go_wp2
          go_meet
          first
           |case rel=>exact⟨_,(true),sm_,H',⟨by have:=HK1.out;have:=HJ12.out;first|omega|exact Nat.le_refl _⟩,⟨(rt_ (Kd.R_mono bD7.out (fun _ hk=>trivial)))⟩,⟨(bo_ X3)⟩,⟨by repeat(first|(with_reducible first|exact Q3.out|apply U0.alloc|apply U0.drewN|apply U0.drew|apply U0.set_1|apply U0.set_2|refine U0.far ?_ J5.out _)|exact Q3.out)⟩,⟨by repeat(first|(with_reducible first|exact HB.out|apply R1|apply M1|apply N1|refine P1 ?_ (U0.ge Q3.out)|refine P1 ?_ ab8.out)|exact HB.out)⟩⟩
           |case rel=>exact⟨_,((bd9 != 0)),sm_,H',⟨by have:=HK1.out;have:=HJ12.out;first|omega|exact Nat.le_refl _⟩,⟨(rt_ (Kd.R_mono bD7.out (fun _ hk=>trivial)))⟩,⟨(bo_ X3)⟩,⟨by repeat(first|(with_reducible first|exact Q3.out|apply U0.alloc|apply U0.drewN|apply U0.drew|apply U0.set_1|apply U0.set_2|refine U0.far ?_ J5.out _)|exact Q3.out)⟩,⟨by repeat(first|(with_reducible first|exact HB.out|apply R1|apply M1|apply N1|refine P1 ?_ (U0.ge Q3.out)|refine P1 ?_ ab8.out)|exact HB.out)⟩⟩
        case rest =>
         clear HC22
         try clear c10
         try clear c10b0
         try clear c20
         try clear c21
         try clear hcz16_0
         try clear hcz16_1
         try clear hcz16_2
         try clear hcz16_3
         try clear hcz16_4
         try clear hfz16_0
         try clear hfz16_1
         try clear hfz16_2
         try clear hfz16_3
         try clear hfz16_4
         obtain⟨kq,x55_21,rfl,HA,HJ21,HO_5,X3,Q3,HB⟩:=hcut
         cases kq with
         |zero=>exact absurd HA.out (by simp [q9.j2])
         |succ kj21 =>
          have H:=HA.out
          clear HA
          simp only [q9.j2] at H
          replace H:=Q7 H
          rcases H with⟨rfl,H⟩|⟨rfl,H⟩
          focus
           have H':=q5.mk H
           clear H
          rotate_left
          focus
           replace H:=N2 H
           obtain⟨⟨cT0,dk1,cA0,cz4⟩,A33,H⟩:=H
           try dsimp only at H
           replace H:=deqn H
           rcases H with⟨c34b0,c34b1,H⟩|⟨c34b0,c34b1,c34,H⟩
           focus
            replace H:=dgt H
            rcases H with⟨c35b0,H⟩|⟨c35b0,H⟩
            focus
             simp only [Option.some.injEq,Prod.mk.injEq] at H
             obtain⟨rfl,rfl⟩:=H
            rotate_left
            focus
             obtain⟨ji40,hji40⟩:∃ j_:Int,(IntKind.u64.wrap (2*cT0))=j_:=⟨_,rfl⟩
             replace H:(if 0≤(ji40)then(if af4.length+(ji40:Int).toNat<17592186044416 then(q9.l0 kj21 (af4++List.replicate (ji40:Int).toNat 0) a0_0 a0_1 a0_2 l0_3 a0_4 an9 cA0 cz4)else(none))else(none))=some (r1,r2):=by first|(rw [hji40] at H;exact H)|(simp only [hji40] at H ⊢;exact H)
             (try rw [hji40] at A33)
             by_cases c41:0≤(ji40)
             rotate_left
             ·rw [if_neg c41] at H
              exact absurd H (by simp)
             rw [if_pos c41] at H
             have c41b0:=eq_true c41
             have c41b1:decide (0≤(ji40))=true:=decide_eq_true c41
             clear c41
             by_cases c42:af4.length+(ji40:Int).toNat<17592186044416
             rotate_left
             ·rw [if_neg c42] at H
              exact absurd H (by simp)
             rw [if_pos c42] at H
             have LMc42:=q5.mk c42
             clear c42
             obtain⟨cX5,bv8⟩:∃ y_:List Int,y_=(af4++List.replicate (ji40:Int).toNat 0):=⟨_,rfl⟩
             replace H:(q9.l0 kj21 cX5 a0_0 a0_1 a0_2 l0_3 a0_4 an9 cA0 cz4)=some (r1,r2):=by first|(rw [bv8];with_reducible exact H)|(have H2_:=(Option.bind_some _ _).symm.trans H;rw [bv8];with_reducible exact H2_)|(have H2_:=(Option.bind_some _ _).symm.trans H;with_reducible exact H2_)|with_reducible exact H|(rw [bv8];exact H)|exact H
             have da2:=q5.mk bv8
             clear bv8
             have H':=q5.mk H
             clear H
           rotate_left 2
           focus
            simp only [Option.some.injEq,Prod.mk.injEq] at H
            obtain⟨rfl,rfl⟩:=H
          all_goals
           go_wp2_with (first|((with_reducible refine C1 (f:=24) rfl ?_);refine goL_ (some 58) Try.func24 #[.pointer (some ⟨aS7,0,none⟩),.int .i64 4] ?_;(with_reducible refine(q27.calls kj21 aS7 an9 aJ5 aL1 4 cT0 dk1 cA0 cz4 w _ ?side1 ?side2 A33.out).mono ?_);(case side1=>repeat(first|(with_reducible first|exact Q3.out|apply U0.alloc|apply U0.drewN|apply U0.drew|apply U0.set_1|apply U0.set_2|refine U0.far ?_ J5.out _)|exact Q3.out));(case side2=>repeat(first|(with_reducible first|exact HB.out|apply R1|apply M1|apply N1|refine P1 ?_ (U0.ge Q3.out)|refine P1 ?_ ab8.out)|exact HB.out));rintro e U1 ⟨rfl,hi,hb,hk⟩;refine⟨_,rfl,?_⟩;have n_:=pk4 (Kd.R_mono (Kd.R_keep (U0.apart (show U0 w _ aS7 an9 aJ5 aL1 from by repeat(first|(with_reducible first|exact Q3.out|apply U0.alloc|apply U0.drewN|apply U0.drew|apply U0.set_1|apply U0.set_2|refine U0.far ?_ J5.out _)|exact Q3.out)) (ro_ HO_5) (by decide)) hk (fun _ h=>h.2)) (fun _ h=>h.1)) (G2.blk hk (g':=aa3) (o:=.cells #[.int .i64 a0_0,.int .i64 a0_1,.int .i64 a0_2,.slice A0_3 l0_3.length c0_3,.int .i64 a0_4] 69 (0,0)) (bo_ X3) ag5.out (by simp)) (hb) (hi);clear HO_5 X3 HB Q3;obtain⟨HO_5,X3,HB,Q3⟩:=n_;(try clear hb hk hi);(try(have V6:=ag5.out;have Z6:=J5.out;have Y2:U1.cell? ⟨aa3,0,none⟩=some (.int .i64 a0_0):=(m0 X3.out 0).trans rfl;have z3:U1.cell? ⟨aa3,1,none⟩=some (.int .i64 a0_1):=(m0 X3.out 1).trans rfl;have V8:U1.cell? ⟨aa3,2,none⟩=some (.int .i64 a0_2):=(m0 X3.out 2).trans rfl;have P9:U1.cell? ⟨aa3,3,none⟩=some (.slice A0_3 l0_3.length c0_3):=(m0 X3.out 3).trans rfl;have O9:U1.cell? ⟨aa3,4,none⟩=some (.int .i64 a0_4):=(m0 X3.out 4).trans rfl;have D3:=t0 X3.out 0;have Z2:=t0 X3.out 1;have l9:=t0 X3.out 2;have S9:=t0 X3.out 3;have R9:=t0 X3.out 4;obtain⟨T0,R0,S1⟩:=Kd.R_slice HO_5.out;subst S1)))|(at_builtin;refine Kd.R_append_zeros (Kd.int .i64) (w0:=w) w.heap.size rfl (.tmp 75) (.tmp 77) 22 43 3 (.int .i64 0) 8 rfl Try.underlying22 Try.underlying43 ae7 rfl (by decide) (by omega) (.slice T0 af4.length R0) af4 0 (ji40:Int) (fun _=>True) rfl rfl rfl ?aF ?aO dc_ ?aB ?aS ?aL ?_;(case aB=>exact(by repeat(first|(with_reducible first|exact HB.out|apply R1|apply M1|apply N1|refine P1 ?_ (U0.ge Q3.out)|refine P1 ?_ ab8.out)|exact HB.out)));(case aF=>exact(fun _ _=>trivial));(case aO=>exact(ro_ HO_5));(case aS=>exact(L0 (by repeat(first|(with_reducible first|exact HB.out|apply R1|apply M1|apply N1|refine P1 ?_ (U0.ge Q3.out)|refine P1 ?_ ab8.out)|exact HB.out))));(case aL=>have:=LMc42.out;omega);intro M4 Z1 ho hb hg hat;rw [←da2.out] at ho;have n_:=pk4 (D5 (bo_ X3) hg (Kd.R_ne HO_5.out X3.out (by decide))) (U0.grown (by repeat(first|(with_reducible first|exact Q3.out|apply U0.alloc|apply U0.drewN|apply U0.drew|apply U0.set_1|apply U0.set_2|refine U0.far ?_ J5.out _)|exact Q3.out)) hg (bi1.of_R HO_5.out (U0.own_ne Q3.out HO_5.out (by decide)) (by decide))) (hb) (ho);clear X3 Q3 HB HO_5;obtain⟨X3,Q3,HB,C0⟩:=n_;clear ho hb hg hat))
           first
            |go_roundg kj21
             case measure=>have:=HK1.out;have:=HJ12.out;have:=HJ21.out;omega
             first
              |case rel=>exact⟨(af4),(aJ5),(aL1),H',⟨by have:=HK1.out;have:=HJ12.out;have:=HJ21.out;omega⟩,⟨(ro_ HO_5)⟩,⟨(bo_ X3)⟩,⟨by repeat(first|(with_reducible first|exact Q3.out|apply U0.alloc|apply U0.drewN|apply U0.drew|apply U0.set_1|apply U0.set_2|refine U0.far ?_ J5.out _)|exact Q3.out)⟩,⟨by repeat(first|(with_reducible first|exact HB.out|apply R1|apply M1|apply N1|refine P1 ?_ (U0.ge Q3.out)|refine P1 ?_ ab8.out)|exact HB.out)⟩⟩
              |case rel=>exact⟨(cX5),(cA0),(cz4),H',⟨by have:=HK1.out;have:=HJ12.out;have:=HJ21.out;omega⟩,⟨(ro_ C0)⟩,⟨(bo_ X3)⟩,⟨by repeat(first|(with_reducible first|exact Q3.out|apply U0.alloc|apply U0.drewN|apply U0.drew|apply U0.set_1|apply U0.set_2|refine U0.far ?_ J5.out _)|exact Q3.out)⟩,⟨by repeat(first|(with_reducible first|exact HB.out|apply R1|apply M1|apply N1|refine P1 ?_ (U0.ge Q3.out)|refine P1 ?_ ab8.out)|exact HB.out)⟩⟩
            |go_ret2
             exact⟨_,rf_,nl_,by repeat(first|(with_reducible first|exact HB.out|apply R1|apply M1|apply N1|refine P1 ?_ (U0.ge Q3.out)|refine P1 ?_ ab8.out)|exact HB.out)⟩
       ·rw [if_neg c21] at H
        exact absurd H (by simp)
      simp only [Option.some.injEq,Prod.mk.injEq] at H
      obtain⟨rfl,rfl⟩:=H
      go_wp2
      go_ret2
      exact⟨_,rf_,nl_,by repeat(first|(with_reducible first|exact HB.out|apply R1|apply M1|apply N1|refine P1 ?_ (U0.ge Q3.out)|refine P1 ?_ ab8.out)|exact HB.out)⟩
   simp only [Option.some.injEq,Prod.mk.injEq] at H
   obtain⟨rfl,rfl⟩:=H
   obtain⟨Ao49,co49,eo49⟩:=Kd.R_slice HO_5.out
   subst eo49
   have hnb50:=ag5.out
   have hnc50:=J5.out
   obtain⟨hcz51_0,hcz51_1,hcz51_2,hcz51_3,hcz51_4,hfz51_0,hfz51_1,hfz51_2,hfz51_3,hfz51_4⟩:=X4 X3.out
   go_wp2
   go_ret2
   exact⟨_,rf_,(ro_ HO_5),by repeat(first|(with_reducible first|exact HB.out|apply R1|apply M1|apply N1|refine P1 ?_ (U0.ge Q3.out)|refine P1 ?_ ab8.out)|exact HB.out)⟩
end Go.Proofs.Ytmddmbagehjdeaa.G
end
