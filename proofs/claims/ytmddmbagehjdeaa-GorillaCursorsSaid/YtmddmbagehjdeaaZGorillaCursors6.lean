/- More lines for the row. -/
import Derived.Test.YtmddmbagehjdeaaZGorillaCursors5
set_option linter.unusedVariables false
set_option linter.unusedSimpArgs false
set_option maxRecDepth 100000
set_option maxHeartbeats 8000000
section
namespace Go.Proofs.Ytmddmbagehjdeaa.G
open Go Go.RowKit Go.Proofs.YtmddmbagehjdeaaW.PrintWords Go.Proofs.YtmddmbagehjdeaaW.PrintLast Go.Proofs.YtmddmbagehjdeaaW.PrintMore
set_option maxHeartbeats 2000000 in
theorem bits_Read.calls (k:Nat) (A0_0:Option Addr) (c0_0:Nat) (l0_0:List Int) (a0_1:Int) (r1:List Int) (r2 r3:Int) (w0 w:World) (hB:Below w0.heap.size w0 w) (hr0_0:Kd.C (Kd.int .u8) w A0_0 l0_0.length l0_0) (hc0_0:l0_0.length≤c0_0) (h:bits_Read.f k l0_0 a0_1=some (r1,r2,r3)) :
  Calls Try.prog 17 #[.agg #[.slice A0_0 l0_0.length c0_0,.int .i64 a0_1]] w fun e w'=>∃ g_,e=.returned (.pointer (some ⟨g_,0,none⟩))∧IsS52 w0 w' g_ r1 r2 r3∧Below w0.heap.size w0 w'∧Below w.heap.size w w':=by
 have hu25:=Try.underlying25
 have hu52:=Try.underlying52
 unfold bits_Read.f at h
 obtain⟨e0,hA,h⟩:=Option.bind_eq_some_iff.1 h
 have HR:=Aside0.mk hr0_0
 have HC:=Aside0.mk hc0_0
 have HB:=Aside0.mk hB
 have HA:=Aside0.mk hA
 have GE:=Aside0.mk hB.size
 clear hr0_0 hc0_0 hB hA
 have fin:∀ (W:World) (cs:Array Value),Below w.heap.size w W→Below w0.heap.size w0 (W.alloc (.cells cs 52))∧Below w.heap.size w (W.alloc (.cells cs 52)):=fun W cs hb=>⟨(below_then HB.out GE.out hb).alloc (Nat.le_trans GE.out hb.size) _,below_alloc hb _⟩
 have FIN:=Aside0.mk fin
 clear fin
 by_cases he:e0=0
 ·rw [if_pos he] at h
  obtain⟨⟨t1,t2⟩,hO,h⟩:=Option.bind_eq_some_iff.1 h
  simp only [Option.some.injEq,Prod.mk.injEq] at h
  obtain⟨rfl,rfl,rfl⟩:=h
  have HO:=Aside0.mk hO
  clear hO
  subst he
  go_enter Try.func17,Try.ntmps17
  go_wp2_with (first
   |(go_at_call 58;(with_reducible refine(bits_Check.calls k A0_0 c0_0 l0_0 a0_1 0 _ ?side1 HC.out HA.out).mono ?_);(case side1=>exact Kd.C_alloc HR.out _);rintro e w3 ⟨rfl,hb3⟩;have hblk:=(hb3.block w.heap.size (by simp)).trans (heap_alloc_new w (.cells #[.slice A0_0 l0_0.length c0_0,.int .i64 a0_1] 25));have hc0:w3.cell? ⟨w.heap.size,0,none⟩=some (.slice A0_0 l0_0.length c0_0):=(blk_cell hblk 0).trans rfl;have hc1:w3.cell? ⟨w.heap.size,1,none⟩=some (.int .i64 a0_1):=(blk_cell hblk 1).trans rfl;have HB3:=Aside0.mk (below_step (below_alloc (Below.refl _ w) _) hb3);clear hb3 hblk)
   |(go_at_call 59;(with_reducible refine(bits_own.calls A0_0 c0_0 l0_0 a0_1 t1 t2 _ ?side1 HC.out HO.out).mono ?_);(case side1=>exact Kd.C_below HR.out HB3.out);rintro e w4 ⟨v,rfl,ho,hb4⟩;have HB4:=Aside0.mk (below_step HB3.out hb4);clear hb4;obtain⟨A1,c1,hv⟩:=Kd.R_slice ho;subst hv;have HH:=Aside0.mk (HeldB.of_R ho);clear ho))
  go_ret
  have hf:=FIN.out _ #[.slice A1 t1.length c1,.int .i64 t2,.int .i64 0] HB4.out
  refine⟨_,rfl,⟨A1,c1,by simpa using heap_alloc_new w4 _,Nat.le_trans GE.out HB4.out.size,HH.out.step (fun k cs fr hc=>(Below.heap_alloc _ _ k (blk_lt hc)))⟩,hf.1,hf.2⟩
 ·rw [if_neg he] at h
  simp only [Option.some.injEq,Prod.mk.injEq] at h
  obtain⟨rfl,rfl,rfl⟩:=h
  have hne:(e0 != 0)=true:=by simpa using he
  clear he
  go_enter Try.func17,Try.ntmps17
  go_wp2_with (go_at_call 58;(with_reducible refine(bits_Check.calls k A0_0 c0_0 l0_0 a0_1 e0 _ ?side1 HC.out HA.out).mono ?_);(case side1=>exact Kd.C_alloc HR.out _);rintro e w3 ⟨rfl,hb3⟩;have HB3:=Aside0.mk (below_step (below_alloc (Below.refl _ w) _) hb3);clear hb3)
  go_ret
  have hf:=FIN.out _ #[.slice none 0 0,.int .i64 0,.int .i64 0] HB3.out
  exact⟨_,rfl,⟨none,0,by simpa using heap_alloc_new w3 _,Nat.le_trans GE.out HB3.out.size,HeldB.nil _⟩,hf.1,hf.2⟩
end Go.Proofs.Ytmddmbagehjdeaa.G
end
section
namespace Go.Proofs.Ytmddmbagehjdeaa.G
open Go.RowKit Go.Proofs.YtmddmbagehjdeaaX Go.Proofs.YtmddmbagehjdeaaW.PrintWords Go.Proofs.YtmddmbagehjdeaaW.PrintLast Go.Proofs.YtmddmbagehjdeaaW.PrintMore
attribute [local go_sem] max2_int min2_int max_two min_two max_three min_three max_four min_four
mutual
def gorilla_numbers.l0:Nat→List Int→Int→Int→Int→List Int→Int→List Int→Int→Int→Option (List Int×Bool)
 |0,_,_,_,_,_,_,_,_,_=>none
 |k+1,x5,x532000,x532001,x532002,x532003,x532004,x536000,x536001,x536002=>if(x5.length:Int)<(wrap64 (1+(wrap64 (2*x532000))))then((bits_Reader_Number.f k x536000 x536001 x536002).bind fun bt539=>((bits_Reader_Number.f k x536000 bt539.2.2.1 bt539.2.2.2).bind fun bt543=>(if bt539.2.1=0 then(gorilla_numbers.j1 k x5 bt539.1 bt543.1 (bt543.2.1 != 0) x532000 x532001 x532002 x532003 x532004 x536000 bt543.2.2.1 bt543.2.2.2)else(gorilla_numbers.j1 k x5 bt539.1 bt543.1 true x532000 x532001 x532002 x532003 x532004 x536000 bt543.2.2.1 bt543.2.2.2))))else(some (x5,true))
def gorilla_numbers.j1:Nat→List Int→Int→Int→Bool→Int→Int→Int→List Int→Int→List Int→Int→Int→Option (List Int×Bool)
 |0,_,_,_,_,_,_,_,_,_,_,_,_=>none
 |k+1,x5,x6,x8,x39,x532000,x532001,x532002,x532003,x532004,x536000,x536001,x536002=>if x39=true then(some (([]:List Int),false))else((some (([x6,x8]:List Int):List Int)).bind fun y547=>(if x5.length+y547.length<17592186044416 then((some (x5++y547:List Int)).bind fun y550=>(if(y550.length:Int)≤5 then(gorilla_numbers.j2 k y550 true x532000 x532001 x532002 x532003 x532004 x536000 x536001 x536002)else(if x6=0 then(gorilla_numbers.j2 k y550 (x8 != 0) x532000 x532001 x532002 x532003 x532004 x536000 x536001 x536002)else(gorilla_numbers.j2 k y550 true x532000 x532001 x532002 x532003 x532004 x536000 x536001 x536002))))else(none)))
def gorilla_numbers.j2:Nat→List Int→Bool→Int→Int→Int→List Int→Int→List Int→Int→Int→Option (List Int×Bool)
 |0,_,_,_,_,_,_,_,_,_,_=>none
 |k+1,x5,x55,x532000,x532001,x532002,x532003,x532004,x536000,x536001,x536002=>if x55=true then(gorilla_numbers.l0 k x5 x532000 x532001 x532002 x532003 x532004 x536000 x536001 x536002)else((bits_Reader_Take.f k x536000 x536001 x536002 4).bind fun bt553=>(if bt553.2.1=0 then(if(wrap64 (bt553.1))>(wrap64 (x532000 - (wrap64 (Int.tdiv (wrap64 ((x5.length:Int) - 1)) 2))))then(some (([]:List Int),false))else(if 0≤(IntKind.u64.wrap (2*bt553.1))then(if x5.length+(IntKind.u64.wrap (2*bt553.1):Int).toNat<17592186044416 then(gorilla_numbers.l0 k (x5++List.replicate (IntKind.u64.wrap (2*bt553.1):Int).toNat 0) x532000 x532001 x532002 x532003 x532004 x536000 bt553.2.2.1 bt553.2.2.2)else(none))else(none)))else(some (([]:List Int),false))))
end
def gorilla_numbers.f (k:Nat) (a0_0:Int) (a0_1:Int) (a0_2:Int) (l0_3:List Int) (a0_4:Int):Option (List Int×Bool):=(bits_Read.f k l0_3 a0_4).bind fun bt532=>(gorilla_numbers.l0 k (([a0_0]:List Int)) a0_0 a0_1 a0_2 l0_3 a0_4 bt532.1 bt532.2.1 bt532.2.2)
theorem gorilla_numbers.mono_l:∀ k,(∀ y0 y1 y2 y3 y4 y5 y6 y7 y8,LeO (gorilla_numbers.l0 k y0 y1 y2 y3 y4 y5 y6 y7 y8) (gorilla_numbers.l0 (k+1) y0 y1 y2 y3 y4 y5 y6 y7 y8))∧(∀ y0 y1 y2 y3 y4 y5 y6 y7 y8 y9 y10 y11,LeO (gorilla_numbers.j1 k y0 y1 y2 y3 y4 y5 y6 y7 y8 y9 y10 y11) (gorilla_numbers.j1 (k+1) y0 y1 y2 y3 y4 y5 y6 y7 y8 y9 y10 y11))∧(∀ y0 y1 y2 y3 y4 y5 y6 y7 y8 y9,LeO (gorilla_numbers.j2 k y0 y1 y2 y3 y4 y5 y6 y7 y8 y9) (gorilla_numbers.j2 (k+1) y0 y1 y2 y3 y4 y5 y6 y7 y8 y9))
 |0=>⟨fun _ _ _ _ _ _ _ _ _ r h=>by simp [gorilla_numbers.l0] at h,fun _ _ _ _ _ _ _ _ _ _ _ _ r h=>by simp [gorilla_numbers.j1] at h,fun _ _ _ _ _ _ _ _ _ _ r h=>by simp [gorilla_numbers.j2] at h⟩
 |k+1=>by
  obtain⟨ih0,ih1,ih2⟩:=gorilla_numbers.mono_l k
  refine⟨?_,?_,?_⟩
  ·intro y0 y1 y2 y3 y4 y5 y6 y7 y8
   unfold gorilla_numbers.l0
   repeat' first
   |(with_reducible exact ih0 _ _ _ _ _ _ _ _ _)
   |(with_reducible exact ih1 _ _ _ _ _ _ _ _ _ _ _ _)
   |(with_reducible exact ih2 _ _ _ _ _ _ _ _ _ _)
   |(with_reducible exact bits_Read.mono _ _ _)
   |(with_reducible exact bits_Reader_Number.mono _ _ _ _)
   |(with_reducible exact bits_Reader_Take.mono _ _ _ _ _)
   |(with_reducible exact LeO.refl _)
   |(with_reducible exact LeO.none _)
   |(with_reducible refine LeO.ite ?_ ?_)
   |(with_reducible refine LeO.bind ?_ (fun _=>?_))
   |exact ih0 _ _ _ _ _ _ _ _ _
   |exact ih1 _ _ _ _ _ _ _ _ _ _ _ _
   |exact ih2 _ _ _ _ _ _ _ _ _ _
   |exact bits_Read.mono _ _ _
   |exact bits_Reader_Number.mono _ _ _ _
   |exact bits_Reader_Take.mono _ _ _ _ _
   |exact LeO.none _
   |refine LeO.ite ?_ ?_
   |refine LeO.bind ?_ (fun _=>?_)
  ·intro y0 y1 y2 y3 y4 y5 y6 y7 y8 y9 y10 y11
   unfold gorilla_numbers.j1
   repeat' first
   |(with_reducible exact ih0 _ _ _ _ _ _ _ _ _)
   |(with_reducible exact ih1 _ _ _ _ _ _ _ _ _ _ _ _)
   |(with_reducible exact ih2 _ _ _ _ _ _ _ _ _ _)
   |(with_reducible exact bits_Read.mono _ _ _)
   |(with_reducible exact bits_Reader_Number.mono _ _ _ _)
   |(with_reducible exact bits_Reader_Take.mono _ _ _ _ _)
   |(with_reducible exact LeO.refl _)
   |(with_reducible exact LeO.none _)
   |(with_reducible refine LeO.ite ?_ ?_)
   |(with_reducible refine LeO.bind ?_ (fun _=>?_))
   |exact ih0 _ _ _ _ _ _ _ _ _
   |exact ih1 _ _ _ _ _ _ _ _ _ _ _ _
   |exact ih2 _ _ _ _ _ _ _ _ _ _
   |exact bits_Read.mono _ _ _
   |exact bits_Reader_Number.mono _ _ _ _
   |exact bits_Reader_Take.mono _ _ _ _ _
   |exact LeO.none _
   |refine LeO.ite ?_ ?_
   |refine LeO.bind ?_ (fun _=>?_)
  ·intro y0 y1 y2 y3 y4 y5 y6 y7 y8 y9
   unfold gorilla_numbers.j2
   repeat' first
   |(with_reducible exact ih0 _ _ _ _ _ _ _ _ _)
   |(with_reducible exact ih1 _ _ _ _ _ _ _ _ _ _ _ _)
   |(with_reducible exact ih2 _ _ _ _ _ _ _ _ _ _)
   |(with_reducible exact bits_Read.mono _ _ _)
   |(with_reducible exact bits_Reader_Number.mono _ _ _ _)
   |(with_reducible exact bits_Reader_Take.mono _ _ _ _ _)
   |(with_reducible exact LeO.refl _)
   |(with_reducible exact LeO.none _)
   |(with_reducible refine LeO.ite ?_ ?_)
   |(with_reducible refine LeO.bind ?_ (fun _=>?_))
   |exact ih0 _ _ _ _ _ _ _ _ _
   |exact ih1 _ _ _ _ _ _ _ _ _ _ _ _
   |exact ih2 _ _ _ _ _ _ _ _ _ _
   |exact bits_Read.mono _ _ _
   |exact bits_Reader_Number.mono _ _ _ _
   |exact bits_Reader_Take.mono _ _ _ _ _
   |exact LeO.none _
   |refine LeO.ite ?_ ?_
   |refine LeO.bind ?_ (fun _=>?_)
theorem gorilla_numbers.mono:∀ a0 a1 a2 a3 a4 k,LeO (gorilla_numbers.f k a0 a1 a2 a3 a4) (gorilla_numbers.f (k+1) a0 a1 a2 a3 a4):=by
 intro a0 a1 a2 a3 a4 k
 obtain⟨ih0,ih1,ih2⟩:=gorilla_numbers.mono_l k
 unfold gorilla_numbers.f
 repeat' first
   |(with_reducible exact ih0 _ _ _ _ _ _ _ _ _)
   |(with_reducible exact ih1 _ _ _ _ _ _ _ _ _ _ _ _)
   |(with_reducible exact ih2 _ _ _ _ _ _ _ _ _ _)
   |(with_reducible exact bits_Read.mono _ _ _)
   |(with_reducible exact bits_Reader_Number.mono _ _ _ _)
   |(with_reducible exact bits_Reader_Take.mono _ _ _ _ _)
   |(with_reducible exact LeO.refl _)
   |(with_reducible exact LeO.none _)
   |(with_reducible refine LeO.ite ?_ ?_)
   |(with_reducible refine LeO.bind ?_ (fun _=>?_))
   |exact ih0 _ _ _ _ _ _ _ _ _
   |exact ih1 _ _ _ _ _ _ _ _ _ _ _ _
   |exact ih2 _ _ _ _ _ _ _ _ _ _
   |exact bits_Read.mono _ _ _
   |exact bits_Reader_Number.mono _ _ _ _
   |exact bits_Reader_Take.mono _ _ _ _ _
   |exact LeO.none _
   |refine LeO.ite ?_ ?_
   |refine LeO.bind ?_ (fun _=>?_)
theorem gorilla_numbers.calls (k:Nat) (a0_0:Int) (a0_1:Int) (a0_2:Int) (A0_3:Option Addr) (c0_3:Nat) (l0_3:List Int) (a0_4:Int) (r1:List Int) (r2:Bool) (w:World) (hr0_3:Kd.C (Kd.int .u8) w A0_3 l0_3.length l0_3) (hc0_3:l0_3.length≤c0_3) (h:gorilla_numbers.f k a0_0 a0_1 a0_2 l0_3 a0_4=some (r1,r2)) :
  Calls Try.prog 72 #[.agg #[.int .i64 a0_0,.int .i64 a0_1,.int .i64 a0_2,.slice A0_3 l0_3.length c0_3,.int .i64 a0_4]] w fun e w'=>∃ v0_:Value,e=.returned (.tuple #[v0_,.bool r2])∧Kd.R (Kd.int .i64) 3 w' w.heap.size (fun _=>True) v0_ r1∧Below w.heap.size w w':=by
 have hu69:=Try.underlying69
 have hu25:=Try.underlying25
 have HR0_3:=Aside0.mk hr0_3
 have HC0_3:=Aside0.mk hc0_3
 clear hr0_3 hc0_3
 have HB:=Aside0.mk (Below.refl w.heap.size w)
 have H:((bits_Read.f k l0_3 a0_4).bind fun bt532=>(gorilla_numbers.l0 k (([a0_0]:List Int)) a0_0 a0_1 a0_2 l0_3 a0_4 bt532.1 bt532.2.1 bt532.2.2))=some (r1,r2):=h
 clear h
 replace H:=bindA H
 obtain⟨⟨t532,t533,t534⟩,A2,H⟩:=H
 try dsimp only at H
 obtain⟨y536,hy536⟩:∃ y_:List Int,y_=(([a0_0]:List Int)):=⟨_,rfl⟩
 replace H:(gorilla_numbers.l0 k y536 a0_0 a0_1 a0_2 l0_3 a0_4 t532 t533 t534)=some (r1,r2):=by first|(rw [hy536];with_reducible exact H)|(have H2_:=(Option.bind_some _ _).symm.trans H;rw [hy536];with_reducible exact H2_)|(have H2_:=(Option.bind_some _ _).symm.trans H;with_reducible exact H2_)|with_reducible exact H|(rw [hy536];exact H)|exact H
 have Ny536:=Aside0.mk hy536
 clear hy536
 have H':=Aside0.mk H
 clear H
 go_enter Try.func72,Try.ntmps72
 go_wp2_with (first|((with_reducible refine gate_dst (N:=1) rfl ?_);(try(refine gate_guard (by rfl) ?_;dsimp only));refine box_ev 1 #[.int .i64 a0_0,.int .i64 a0_1,.int .i64 a0_2,.slice A0_3 l0_3.length c0_3,.int .i64 a0_4] 69 ?_;intro gb531 hg w3 hbox hb;have n_:=pk4 (below_step bl_ hb) (hbox) ((ge_ hg bl_:w.heap.size≤gb531)) ((ge_ hg bl_:w.heap.size≤gb531));clear HB;obtain⟨HB,BK531,GW531,GE531⟩:=n_;clear hb hbox hg;have hcz4_0:w3.cell? ⟨gb531,0,none⟩=some (.int .i64 a0_0):=(blk_cell BK531.out 0).trans rfl;have hcz4_1:w3.cell? ⟨gb531,1,none⟩=some (.int .i64 a0_1):=(blk_cell BK531.out 1).trans rfl;have hcz4_2:w3.cell? ⟨gb531,2,none⟩=some (.int .i64 a0_2):=(blk_cell BK531.out 2).trans rfl;have hcz4_3:w3.cell? ⟨gb531,3,none⟩=some (.slice A0_3 l0_3.length c0_3):=(blk_cell BK531.out 3).trans rfl;have hcz4_4:w3.cell? ⟨gb531,4,none⟩=some (.int .i64 a0_4):=(blk_cell BK531.out 4).trans rfl;have hfz4_0:=blk_frozen BK531.out 0;have hfz4_1:=blk_frozen BK531.out 1;have hfz4_2:=blk_frozen BK531.out 2;have hfz4_3:=blk_frozen BK531.out 3;have hfz4_4:=blk_frozen BK531.out 4)|((with_reducible refine gate_callee (f:=17) rfl ?_);refine goL_ (some 13) Try.func17 #[.agg #[.slice A0_3 l0_3.length c0_3,.int .i64 a0_4]] ?_;(with_reducible refine(bits_Read.calls k _ _ l0_3 a0_4 t532 t533 t534 w _ ?side1 ?side2 ?side3 A2.out).mono ?_);(case side1=>exact bl_);(case side2=>exact cb_ HR0_3);(case side3=>exact HC0_3.out);rintro e w5 ⟨g535,rfl,hi,hb,hb2⟩;refine⟨_,rfl,?_⟩;have n_:=pk5 (blk_below (bo_ BK531) hb2) (hb) (hi) (IsS52.ne_blk hi (blk_below (bo_ BK531) hb2) (by decide)) (Ne.symm (IsS52.ne_blk hi (blk_below (bo_ BK531) hb2) (by decide)));clear BK531 HB;obtain⟨BK531,HB,HI535,NB535_531,NB531_535⟩:=n_;(try clear hb hb2 hi);have hnb6:=NB531_535.out;have hnc6:=NB535_531.out;have hcz7_0:w5.cell? ⟨gb531,0,none⟩=some (.int .i64 a0_0):=(blk_cell BK531.out 0).trans rfl;have hcz7_1:w5.cell? ⟨gb531,1,none⟩=some (.int .i64 a0_1):=(blk_cell BK531.out 1).trans rfl;have hcz7_2:w5.cell? ⟨gb531,2,none⟩=some (.int .i64 a0_2):=(blk_cell BK531.out 2).trans rfl;have hcz7_3:w5.cell? ⟨gb531,3,none⟩=some (.slice A0_3 l0_3.length c0_3):=(blk_cell BK531.out 3).trans rfl;have hcz7_4:w5.cell? ⟨gb531,4,none⟩=some (.int .i64 a0_4):=(blk_cell BK531.out 4).trans rfl;have hfz7_0:=blk_frozen BK531.out 0;have hfz7_1:=blk_frozen BK531.out 1;have hfz7_2:=blk_frozen BK531.out 2;have hfz7_3:=blk_frozen BK531.out 3;have hfz7_4:=blk_frozen BK531.out 4)|((with_reducible refine gate_dst (N:=16) rfl ?_);(try(refine gate_guard (by rfl) ?_;dsimp only));refine Kd.R_lit (Kd.int .i64) _ 3 ?hg (N:=16) ?hd (xs:=([a0_0]:List Int)) (inner:=[.int .i64 a0_0]) (ok:=fun _=>True) (okp:=fun _=>True) ?hr ?hp (fun _ hk=>hk) trivial (Below.refl _ _) (Nat.le_refl _) (by simp) ?_;(case hd=>rfl);(case hg=>rfl);(case hr=>first|(go_simp;done)|(go_simp;rfl));(case hp=>exact(Reps.one (show Kd.M (Kd.int .i64) _ _ _ a0_0 [.int .i64 a0_0] from rfl) (Reps.none _ _)));intro v537 w8 ho9 hb hg_ hnew_;clear hg_ hnew_;(first|rw [←Ny536.out] at ho9|(simp only [Int.reduceToNat] at ho9;rw [←Ny536.out] at ho9));have n_:=pk4 (Kd.R_lower ho9 (below_size (by repeat(first|(with_reducible first|exact HB.out|apply below_alloc|apply pw_below_drewN|apply below_drew1|refine below_set ?_ (IsS52.ge HI535.out)|refine below_set ?_ GE531.out)|exact HB.out)))) (blk_below (bo_ BK531) hb) (IsS52.below (by repeat(first|(with_reducible first|exact HI535.out|apply IsS52.alloc|apply IsS52.drewN|apply IsS52.drew|apply IsS52.set_1|apply IsS52.set_2|refine IsS52.far ?_ NB535_531.out _)|exact HI535.out)) hb) (below_step (by repeat(first|(with_reducible first|exact HB.out|apply below_alloc|apply pw_below_drewN|apply below_drew1|refine below_set ?_ (IsS52.ge HI535.out)|refine below_set ?_ GE531.out)|exact HB.out)) hb);clear BK531 HI535 HB;obtain⟨HO538,BK531,HI535,HB⟩:=n_;clear hb ho9))
 go_loopg [5] k (fun kq v5 w'=>∃ (x5_1:List Int) (x536001_1:Int) (x536002_1:Int),Aside0 (gorilla_numbers.l0 kq x5_1 a0_0 a0_1 a0_2 l0_3 a0_4 t532 x536001_1 x536002_1=some (r1,r2))∧Aside0 (kq≤k)∧Aside0 (Kd.R (Kd.int .i64) 3 w' w.heap.size (fun _=>True) v5 x5_1)∧Aside0 (w'.heap[gb531]?=some (.cells #[.int .i64 a0_0,.int .i64 a0_1,.int .i64 a0_2,(.slice A0_3 l0_3.length c0_3),.int .i64 a0_4] 69 (0,0)))∧Aside0 (IsS52 w w' g535 t532 x536001_1 x536002_1)∧Aside0 (Below w.heap.size w w'))
 case atStart=>exact⟨(y536),(t533),(t534),H',⟨Nat.le_refl _⟩,⟨(ro_ HO538)⟩,⟨(bo_ BK531)⟩,⟨by repeat(first|(with_reducible first|exact HI535.out|apply IsS52.alloc|apply IsS52.drewN|apply IsS52.drew|apply IsS52.set_1|apply IsS52.set_2|refine IsS52.far ?_ NB535_531.out _)|exact HI535.out)⟩,⟨by repeat(first|(with_reducible first|exact HB.out|apply below_alloc|apply pw_below_drewN|apply below_drew1|refine below_set ?_ (IsS52.ge HI535.out)|refine below_set ?_ GE531.out)|exact HB.out)⟩⟩
 case round =>
  clear H'
  obtain⟨x5_1,x536001_1,x536002_1,HA,HK1,HO_5,BK531,HI535,HB⟩:=hrel
  cases gk with
  |zero=>exact absurd HA.out (by simp [gorilla_numbers.l0])
  |succ k1 =>
   have H:=HA.out
   clear HA
   simp only [gorilla_numbers.l0] at H
   replace H:=dle H
   rcases H with⟨c10b0,H⟩|⟨c10b0,H⟩
   ·replace H:=bindA H
    obtain⟨⟨t539,t540,t541,t542⟩,A11,H⟩:=H
    try dsimp only at H
    replace H:=bindA H
    obtain⟨⟨t543,t544,t545,t546⟩,A12,H⟩:=H
    try dsimp only at H
    have HC13:=Aside0.mk H
    clear H
    obtain⟨Ao14,co14,eo14⟩:=Kd.R_slice HO_5.out
    subst eo14
    have hnb15:=NB531_535.out
    have hnc15:=NB535_531.out
    obtain⟨hcz16_0,hcz16_1,hcz16_2,hcz16_3,hcz16_4,hfz16_0,hfz16_1,hfz16_2,hfz16_3,hfz16_4⟩:=blk_at5 BK531.out
    go_upto_region 6 with(first|((with_reducible refine gate_callee (f:=18) rfl ?_);refine goL_ (some 26) Try.func18 #[.pointer (some ⟨g535,0,none⟩)] ?_;(with_reducible refine(bits_Reader_Number.calls k1 g535 t532 x536001_1 x536002_1 t539 t540 t541 t542 w _ ?side1 ?side2 A11.out).mono ?_);(case side1=>repeat(first|(with_reducible first|exact HI535.out|apply IsS52.alloc|apply IsS52.drewN|apply IsS52.drew|apply IsS52.set_1|apply IsS52.set_2|refine IsS52.far ?_ NB535_531.out _)|exact HI535.out));(case side2=>repeat(first|(with_reducible first|exact HB.out|apply below_alloc|apply pw_below_drewN|apply below_drew1|refine below_set ?_ (IsS52.ge HI535.out)|refine below_set ?_ GE531.out)|exact HB.out));rintro e w17 ⟨rfl,hi,hb,hk⟩;refine⟨_,rfl,?_⟩;have n_:=pk4 (Kd.R_mono (Kd.R_keep (IsS52.apart (show IsS52 w _ g535 t532 x536001_1 x536002_1 from by repeat(first|(with_reducible first|exact HI535.out|apply IsS52.alloc|apply IsS52.drewN|apply IsS52.drew|apply IsS52.set_1|apply IsS52.set_2|refine IsS52.far ?_ NB535_531.out _)|exact HI535.out)) (ro_ HO_5) (by decide)) hk (fun _ h=>h.2)) (fun _ h=>h.1)) (KeepBut.blk hk (g':=gb531) (o:=.cells #[.int .i64 a0_0,.int .i64 a0_1,.int .i64 a0_2,.slice A0_3 l0_3.length c0_3,.int .i64 a0_4] 69 (0,0)) (bo_ BK531) NB531_535.out (by simp)) (hb) (hi);clear HO_5 BK531 HB HI535;obtain⟨HO_5,BK531,HB,HI535⟩:=n_;(try clear hb hk hi))|((with_reducible refine gate_callee (f:=18) rfl ?_);refine goL_ (some 31) Try.func18 #[.pointer (some ⟨g535,0,none⟩)] ?_;(with_reducible refine(bits_Reader_Number.calls k1 g535 t532 t541 t542 t543 t544 t545 t546 w _ ?side1 ?side2 A12.out).mono ?_);(case side1=>repeat(first|(with_reducible first|exact HI535.out|apply IsS52.alloc|apply IsS52.drewN|apply IsS52.drew|apply IsS52.set_1|apply IsS52.set_2|refine IsS52.far ?_ NB535_531.out _)|exact HI535.out));(case side2=>repeat(first|(with_reducible first|exact HB.out|apply below_alloc|apply pw_below_drewN|apply below_drew1|refine below_set ?_ (IsS52.ge HI535.out)|refine below_set ?_ GE531.out)|exact HB.out));rintro e w18 ⟨rfl,hi,hb,hk⟩;refine⟨_,rfl,?_⟩;have n_:=pk4 (Kd.R_mono (Kd.R_keep (IsS52.apart (show IsS52 w _ g535 t532 t541 t542 from by repeat(first|(with_reducible first|exact HI535.out|apply IsS52.alloc|apply IsS52.drewN|apply IsS52.drew|apply IsS52.set_1|apply IsS52.set_2|refine IsS52.far ?_ NB535_531.out _)|exact HI535.out)) (ro_ HO_5) (by decide)) hk (fun _ h=>h.2)) (fun _ h=>h.1)) (KeepBut.blk hk (g':=gb531) (o:=.cells #[.int .i64 a0_0,.int .i64 a0_1,.int .i64 a0_2,.slice A0_3 l0_3.length c0_3,.int .i64 a0_4] 69 (0,0)) (bo_ BK531) NB531_535.out (by simp)) (hb) (hi);clear HO_5 BK531 HB HI535;obtain⟨HO_5,BK531,HB,HI535⟩:=n_;(try clear hb hk hi)))
    (try simp only [ap_,sb_,s0_,s1_])
    go_cut [39] (fun v39 wc=>∃ (kq:Nat) (x39_12:Bool),v39=.bool x39_12∧Aside0 (gorilla_numbers.j1 kq x5_1 t539 t543 x39_12 a0_0 a0_1 a0_2 l0_3 a0_4 t532 t545 t546=some (r1,r2))∧Aside0 (kq≤k1)∧Aside0 (Kd.R (Kd.int .i64) 3 wc w.heap.size (fun _=>True) (.slice Ao14 x5_1.length co14) x5_1)∧Aside0 (wc.heap[gb531]?=some (.cells #[.int .i64 a0_0,.int .i64 a0_1,.int .i64 a0_2,(.slice A0_3 l0_3.length c0_3),.int .i64 a0_4] 69 (0,0)))∧Aside0 (IsS52 w wc g535 t532 t545 t546)∧Aside0 (Below w.heap.size w wc))
    case first =>
     have H:=HC13.out
     clear HC13
     replace H:=deqn H
     rcases H with⟨c19b0,c19b1,H⟩|⟨c19b0,c19b1,c19,H⟩
     focus
      (first|rw [c19b0]|(simp only [i64_w,i32_w];rw [c19b0])|skip)
      have H':=Aside0.mk H
      clear H
     rotate_left
     focus
      (first|rw [c19b0]|(simp only [i64_w,i32_w];rw [c19b0])|skip)
      have H':=Aside0.mk H
      clear H
     all_goals
      go_wp2
      go_meet
      first
       |case rel=>exact⟨_,((t544 != 0)),sm_,H',⟨by have:=HK1.out;first|omega|exact Nat.le_refl _⟩,⟨(ro_ HO_5)⟩,⟨(bo_ BK531)⟩,⟨by repeat(first|(with_reducible first|exact HI535.out|apply IsS52.alloc|apply IsS52.drewN|apply IsS52.drew|apply IsS52.set_1|apply IsS52.set_2|refine IsS52.far ?_ NB535_531.out _)|exact HI535.out)⟩,⟨by repeat(first|(with_reducible first|exact HB.out|apply below_alloc|apply pw_below_drewN|apply below_drew1|refine below_set ?_ (IsS52.ge HI535.out)|refine below_set ?_ GE531.out)|exact HB.out)⟩⟩
       |case rel=>exact⟨_,(true),sm_,H',⟨by have:=HK1.out;first|omega|exact Nat.le_refl _⟩,⟨(ro_ HO_5)⟩,⟨(bo_ BK531)⟩,⟨by repeat(first|(with_reducible first|exact HI535.out|apply IsS52.alloc|apply IsS52.drewN|apply IsS52.drew|apply IsS52.set_1|apply IsS52.set_2|refine IsS52.far ?_ NB535_531.out _)|exact HI535.out)⟩,⟨by repeat(first|(with_reducible first|exact HB.out|apply below_alloc|apply pw_below_drewN|apply below_drew1|refine below_set ?_ (IsS52.ge HI535.out)|refine below_set ?_ GE531.out)|exact HB.out)⟩⟩
    case rest =>
     clear HC13
     try clear c10
     try clear c10b0
     try clear hcz16_0
     try clear hcz16_1
     try clear hcz16_2
     try clear hcz16_3
     try clear hcz16_4
     try clear hfz16_0
     try clear hfz16_1
     try clear hfz16_2
     try clear hfz16_3
     try clear hfz16_4
     obtain⟨kq,x39_12,rfl,HA,HJ12,HO_5,BK531,HI535,HB⟩:=hcut
     cases kq with
     |zero=>exact absurd HA.out (by simp [gorilla_numbers.j1])
     |succ kj12 =>
      have H:=HA.out
      clear HA
      simp only [gorilla_numbers.j1] at H
      replace H:=dbool H
      rcases H with⟨rfl,H⟩|⟨rfl,H⟩
      rotate_left
      ·obtain⟨y547,hy547⟩:∃ y_:List Int,y_=(([t539,t543]:List Int)):=⟨_,rfl⟩
       replace H:(if x5_1.length+y547.length<17592186044416 then((some (x5_1++y547:List Int)).bind fun y550=>(if(y550.length:Int)≤5 then(gorilla_numbers.j2 kj12 y550 true a0_0 a0_1 a0_2 l0_3 a0_4 t532 t545 t546)else(if t539=0 then(gorilla_numbers.j2 kj12 y550 (t543 != 0) a0_0 a0_1 a0_2 l0_3 a0_4 t532 t545 t546)else(gorilla_numbers.j2 kj12 y550 true a0_0 a0_1 a0_2 l0_3 a0_4 t532 t545 t546))))else(none))=some (r1,r2):=by first|(rw [hy547];with_reducible exact H)|(have H2_:=(Option.bind_some _ _).symm.trans H;rw [hy547];with_reducible exact H2_)|(have H2_:=(Option.bind_some _ _).symm.trans H;with_reducible exact H2_)|with_reducible exact H|(rw [hy547];exact H)|exact H
       have Ny547:=Aside0.mk hy547
       clear hy547
       by_cases c21:x5_1.length+y547.length<17592186044416
       ·rw [if_pos c21] at H
        have LMc21:=Aside0.mk c21
        clear c21
        obtain⟨y550,hy550⟩:∃ y_:List Int,y_=(x5_1++y547):=⟨_,rfl⟩
        replace H:(if(y550.length:Int)≤5 then(gorilla_numbers.j2 kj12 y550 true a0_0 a0_1 a0_2 l0_3 a0_4 t532 t545 t546)else(if t539=0 then(gorilla_numbers.j2 kj12 y550 (t543 != 0) a0_0 a0_1 a0_2 l0_3 a0_4 t532 t545 t546)else(gorilla_numbers.j2 kj12 y550 true a0_0 a0_1 a0_2 l0_3 a0_4 t532 t545 t546)))=some (r1,r2):=by first|(rw [hy550];with_reducible exact H)|(have H2_:=(Option.bind_some _ _).symm.trans H;rw [hy550];with_reducible exact H2_)|(have H2_:=(Option.bind_some _ _).symm.trans H;with_reducible exact H2_)|with_reducible exact H|(rw [hy550];exact H)|exact H
        have Ny550:=Aside0.mk hy550
        clear hy550
        have HC22:=Aside0.mk H
        clear H
        go_upto_region 9 with(first|((with_reducible refine gate_dst (N:=43) rfl ?_);(try(refine gate_guard (by rfl) ?_;dsimp only));refine Kd.R_lit (Kd.int .i64) _ 3 ?hg (N:=43) ?hd (xs:=([t539,t543]:List Int)) (inner:=[.int .i64 t539,.int .i64 t543]) (ok:=fun _=>True) (okp:=fun _=>True) ?hr ?hp (fun _ hk=>hk) trivial (Below.refl _ _) (Nat.le_refl _) (by simp) ?_;(case hd=>rfl);(case hg=>rfl);(case hr=>first|(go_simp;done)|(go_simp;rfl));(case hp=>exact(Reps.one (show Kd.M (Kd.int .i64) _ _ _ t539 [.int .i64 t539] from rfl) (Reps.one (show Kd.M (Kd.int .i64) _ _ _ t543 [.int .i64 t543] from rfl) (Reps.none _ _))));intro v548 w23 ho24 hb hg_ hnew_;clear hg_ hnew_;(first|rw [←Ny547.out] at ho24|(simp only [Int.reduceToNat] at ho24;rw [←Ny547.out] at ho24));have n_:=pk5 (Kd.R_elder' (ro_ HO_5) (Kd.R_base ho24) hb) (Kd.R_lower (Kd.R_new' ho24 (Kd.R_lt (ro_ HO_5))) (below_size (by repeat(first|(with_reducible first|exact HB.out|apply below_alloc|apply pw_below_drewN|apply below_drew1|refine below_set ?_ (IsS52.ge HI535.out)|refine below_set ?_ GE531.out)|exact HB.out)))) (blk_below (bo_ BK531) hb) (IsS52.below (by repeat(first|(with_reducible first|exact HI535.out|apply IsS52.alloc|apply IsS52.drewN|apply IsS52.drew|apply IsS52.set_1|apply IsS52.set_2|refine IsS52.far ?_ NB535_531.out _)|exact HI535.out)) hb) (below_step (by repeat(first|(with_reducible first|exact HB.out|apply below_alloc|apply pw_below_drewN|apply below_drew1|refine below_set ?_ (IsS52.ge HI535.out)|refine below_set ?_ GE531.out)|exact HB.out)) hb);clear HO_5 BK531 HI535 HB;obtain⟨HO_5,HO549,BK531,HI535,HB⟩:=n_;clear hb ho24;obtain⟨Ao26,co26,eo26⟩:=Kd.R_slice HO549.out;subst eo26)|((with_reducible refine gate_builtin (b:=.append) (xs:=#[.tmp 40,.tmp 43]) rfl ?_);(try(refine gate_guard (by rfl) ?_;dsimp only));at_builtin;refine Kd.R_append_rows (Kd.int .i64) (w0:=w) w.heap.size rfl (.tmp 40) (.tmp 43) 22 3 (.int .i64 0) 8 rfl Try.underlying22 info3 rfl (by decide) (by omega) (.slice Ao14 x5_1.length co14) x5_1 y547 _ _ _ (fun k_=>some k_≠(.slice Ao26 y547.length co26:Value).ownBlock) (fun _=>False) rfl rfl ?aO ?aR (fun _ _ h=>h) (fun _ h=>h.elim) ?aF ?aB ?aS ?aL ?_;(case aR=>exact cr_ HO549);(case aB=>exact(by repeat(first|(with_reducible first|exact HB.out|apply below_alloc|apply pw_below_drewN|apply below_drew1|refine below_set ?_ (IsS52.ge HI535.out)|refine below_set ?_ GE531.out)|exact HB.out)));(case aF=>exact(fun k_ hk=>Kd.fresh' (Kd.R_lt (ro_ HO549)) k_ hk));(case aO=>exact(rt_ (Kd.R_mono HO_5.out (fun _ hk=>hk.2))));(case aS=>exact(below_size (by repeat(first|(with_reducible first|exact HB.out|apply below_alloc|apply pw_below_drewN|apply below_drew1|refine below_set ?_ (IsS52.ge HI535.out)|refine below_set ?_ GE531.out)|exact HB.out))));(case aL=>have:=LMc21.out;omega);intro v551 w25 ho hb hg hat;rw [←Ny550.out] at ho;have n_:=pk5 (blk_grown (bo_ BK531) hg (Kd.R_ne HO_5.out BK531.out (by decide))) (IsS52.grown (by repeat(first|(with_reducible first|exact HI535.out|apply IsS52.alloc|apply IsS52.drewN|apply IsS52.drew|apply IsS52.set_1|apply IsS52.set_2|refine IsS52.far ?_ NB535_531.out _)|exact HI535.out)) hg (AwayB.of_R HO_5.out (IsS52.own_ne HI535.out HO_5.out (by decide)) (by decide))) (Kd.R_after (ok:=(fun _=>True)) (ro_ HO549) hg hat) (hb) (ho);clear BK531 HI535 HO549 HB HO_5;obtain⟨BK531,HI535,HO549,HB,HO552⟩:=n_;clear ho hb hg hat))
        (try simp only [ap_,sb_,s0_,s1_])
        go_cut [55] (fun v55 wc=>∃ (kq:Nat) (x55_21:Bool),v55=.bool x55_21∧Aside0 (gorilla_numbers.j2 kq y550 x55_21 a0_0 a0_1 a0_2 l0_3 a0_4 t532 t545 t546=some (r1,r2))∧Aside0 (kq≤kj12)∧Aside0 (Kd.R (Kd.int .i64) 3 wc w.heap.size (fun _=>True) v551 y550)∧Aside0 (wc.heap[gb531]?=some (.cells #[.int .i64 a0_0,.int .i64 a0_1,.int .i64 a0_2,(.slice A0_3 l0_3.length c0_3),.int .i64 a0_4] 69 (0,0)))∧Aside0 (IsS52 w wc g535 t532 t545 t546)∧Aside0 (Below w.heap.size w wc))
        case first =>
         have H:=HC22.out
         clear HC22
         by_cases c27:(y550.length:Int)≤5
         focus
          rw [if_pos c27] at H
          have c27b0:decide ((y550.length:Int)≤5)=true:=decide_eq_true c27
          have c27b1:decide (y550.length≤5)=true:=decide_eq_true (by omega)
          clear c27
          (first|rw [c27b0]|(simp only [i64_w,i32_w];rw [c27b0])|skip)
          have H':=Aside0.mk H
          clear H
          obtain⟨Ao28,co28,eo28⟩:=Kd.R_slice HO552.out
          subst eo28
         rotate_left
         focus
          rw [if_neg c27] at H
          have c27b0:decide ((y550.length:Int)≤5)=false:=decide_eq_false c27
          have c27b1:decide (y550.length≤5)=false:=decide_eq_false (by omega)
          clear c27
          (first|rw [c27b0]|(simp only [i64_w,i32_w];rw [c27b0])|skip)
          replace H:=deqn H
          rcases H with⟨c29b0,c29b1,H⟩|⟨c29b0,c29b1,c29,H⟩
          focus
           have H':=Aside0.mk H
           clear H
           obtain⟨Ao30,co30,eo30⟩:=Kd.R_slice HO552.out
           subst eo30
          rotate_left
          focus
           have H':=Aside0.mk H
           clear H
           obtain⟨Ao31,co31,eo31⟩:=Kd.R_slice HO552.out
           subst eo31
         all_goals
          go_wp2
          go_meet
          first
           |case rel=>exact⟨_,(true),sm_,H',⟨by have:=HK1.out;have:=HJ12.out;first|omega|exact Nat.le_refl _⟩,⟨(rt_ (Kd.R_mono HO552.out (fun _ hk=>trivial)))⟩,⟨(bo_ BK531)⟩,⟨by repeat(first|(with_reducible first|exact HI535.out|apply IsS52.alloc|apply IsS52.drewN|apply IsS52.drew|apply IsS52.set_1|apply IsS52.set_2|refine IsS52.far ?_ NB535_531.out _)|exact HI535.out)⟩,⟨by repeat(first|(with_reducible first|exact HB.out|apply below_alloc|apply pw_below_drewN|apply below_drew1|refine below_set ?_ (IsS52.ge HI535.out)|refine below_set ?_ GE531.out)|exact HB.out)⟩⟩
           |case rel=>exact⟨_,((t543 != 0)),sm_,H',⟨by have:=HK1.out;have:=HJ12.out;first|omega|exact Nat.le_refl _⟩,⟨(rt_ (Kd.R_mono HO552.out (fun _ hk=>trivial)))⟩,⟨(bo_ BK531)⟩,⟨by repeat(first|(with_reducible first|exact HI535.out|apply IsS52.alloc|apply IsS52.drewN|apply IsS52.drew|apply IsS52.set_1|apply IsS52.set_2|refine IsS52.far ?_ NB535_531.out _)|exact HI535.out)⟩,⟨by repeat(first|(with_reducible first|exact HB.out|apply below_alloc|apply pw_below_drewN|apply below_drew1|refine below_set ?_ (IsS52.ge HI535.out)|refine below_set ?_ GE531.out)|exact HB.out)⟩⟩
        case rest =>
         clear HC22
         try clear c10
         try clear c10b0
         try clear c20
         try clear c21
         try clear hcz16_0
         try clear hcz16_1
         try clear hcz16_2
         try clear hcz16_3
         try clear hcz16_4
         try clear hfz16_0
         try clear hfz16_1
         try clear hfz16_2
         try clear hfz16_3
         try clear hfz16_4
         obtain⟨kq,x55_21,rfl,HA,HJ21,HO_5,BK531,HI535,HB⟩:=hcut
         cases kq with
         |zero=>exact absurd HA.out (by simp [gorilla_numbers.j2])
         |succ kj21 =>
          have H:=HA.out
          clear HA
          simp only [gorilla_numbers.j2] at H
          replace H:=dbool H
          rcases H with⟨rfl,H⟩|⟨rfl,H⟩
          focus
           have H':=Aside0.mk H
           clear H
          rotate_left
          focus
           replace H:=bindA H
           obtain⟨⟨t553,t554,t555,t556⟩,A33,H⟩:=H
           try dsimp only at H
           replace H:=deqn H
           rcases H with⟨c34b0,c34b1,H⟩|⟨c34b0,c34b1,c34,H⟩
           focus
            replace H:=dgt H
            rcases H with⟨c35b0,H⟩|⟨c35b0,H⟩
            focus
             simp only [Option.some.injEq,Prod.mk.injEq] at H
             obtain⟨rfl,rfl⟩:=H
            rotate_left
            focus
             obtain⟨ji40,hji40⟩:∃ j_:Int,(IntKind.u64.wrap (2*t553))=j_:=⟨_,rfl⟩
             replace H:(if 0≤(ji40)then(if y550.length+(ji40:Int).toNat<17592186044416 then(gorilla_numbers.l0 kj21 (y550++List.replicate (ji40:Int).toNat 0) a0_0 a0_1 a0_2 l0_3 a0_4 t532 t555 t556)else(none))else(none))=some (r1,r2):=by first|(rw [hji40] at H;exact H)|(simp only [hji40] at H ⊢;exact H)
             (try rw [hji40] at A33)
             by_cases c41:0≤(ji40)
             rotate_left
             ·rw [if_neg c41] at H
              exact absurd H (by simp)
             rw [if_pos c41] at H
             have c41b0:=eq_true c41
             have c41b1:decide (0≤(ji40))=true:=decide_eq_true c41
             clear c41
             by_cases c42:y550.length+(ji40:Int).toNat<17592186044416
             rotate_left
             ·rw [if_neg c42] at H
              exact absurd H (by simp)
             rw [if_pos c42] at H
             have LMc42:=Aside0.mk c42
             clear c42
             obtain⟨y557,hy557⟩:∃ y_:List Int,y_=(y550++List.replicate (ji40:Int).toNat 0):=⟨_,rfl⟩
             replace H:(gorilla_numbers.l0 kj21 y557 a0_0 a0_1 a0_2 l0_3 a0_4 t532 t555 t556)=some (r1,r2):=by first|(rw [hy557];with_reducible exact H)|(have H2_:=(Option.bind_some _ _).symm.trans H;rw [hy557];with_reducible exact H2_)|(have H2_:=(Option.bind_some _ _).symm.trans H;with_reducible exact H2_)|with_reducible exact H|(rw [hy557];exact H)|exact H
             have Ny557:=Aside0.mk hy557
             clear hy557
             have H':=Aside0.mk H
             clear H
           rotate_left 2
           focus
            simp only [Option.some.injEq,Prod.mk.injEq] at H
            obtain⟨rfl,rfl⟩:=H
          all_goals
           go_wp2_with (first|((with_reducible refine gate_callee (f:=24) rfl ?_);refine goL_ (some 58) Try.func24 #[.pointer (some ⟨g535,0,none⟩),.int .i64 4] ?_;(with_reducible refine(bits_Reader_Take.calls kj21 g535 t532 t545 t546 4 t553 t554 t555 t556 w _ ?side1 ?side2 A33.out).mono ?_);(case side1=>repeat(first|(with_reducible first|exact HI535.out|apply IsS52.alloc|apply IsS52.drewN|apply IsS52.drew|apply IsS52.set_1|apply IsS52.set_2|refine IsS52.far ?_ NB535_531.out _)|exact HI535.out));(case side2=>repeat(first|(with_reducible first|exact HB.out|apply below_alloc|apply pw_below_drewN|apply below_drew1|refine below_set ?_ (IsS52.ge HI535.out)|refine below_set ?_ GE531.out)|exact HB.out));rintro e w7000 ⟨rfl,hi,hb,hk⟩;refine⟨_,rfl,?_⟩;have n_:=pk4 (Kd.R_mono (Kd.R_keep (IsS52.apart (show IsS52 w _ g535 t532 t545 t546 from by repeat(first|(with_reducible first|exact HI535.out|apply IsS52.alloc|apply IsS52.drewN|apply IsS52.drew|apply IsS52.set_1|apply IsS52.set_2|refine IsS52.far ?_ NB535_531.out _)|exact HI535.out)) (ro_ HO_5) (by decide)) hk (fun _ h=>h.2)) (fun _ h=>h.1)) (KeepBut.blk hk (g':=gb531) (o:=.cells #[.int .i64 a0_0,.int .i64 a0_1,.int .i64 a0_2,.slice A0_3 l0_3.length c0_3,.int .i64 a0_4] 69 (0,0)) (bo_ BK531) NB531_535.out (by simp)) (hb) (hi);clear HO_5 BK531 HB HI535;obtain⟨HO_5,BK531,HB,HI535⟩:=n_;(try clear hb hk hi);(try(have hnb7000:=NB531_535.out;have hnc7000:=NB535_531.out;have hcz7000_0:w7000.cell? ⟨gb531,0,none⟩=some (.int .i64 a0_0):=(blk_cell BK531.out 0).trans rfl;have hcz7000_1:w7000.cell? ⟨gb531,1,none⟩=some (.int .i64 a0_1):=(blk_cell BK531.out 1).trans rfl;have hcz7000_2:w7000.cell? ⟨gb531,2,none⟩=some (.int .i64 a0_2):=(blk_cell BK531.out 2).trans rfl;have hcz7000_3:w7000.cell? ⟨gb531,3,none⟩=some (.slice A0_3 l0_3.length c0_3):=(blk_cell BK531.out 3).trans rfl;have hcz7000_4:w7000.cell? ⟨gb531,4,none⟩=some (.int .i64 a0_4):=(blk_cell BK531.out 4).trans rfl;have hfz7000_0:=blk_frozen BK531.out 0;have hfz7000_1:=blk_frozen BK531.out 1;have hfz7000_2:=blk_frozen BK531.out 2;have hfz7000_3:=blk_frozen BK531.out 3;have hfz7000_4:=blk_frozen BK531.out 4;obtain⟨Ao7000,co7000,eo7000⟩:=Kd.R_slice HO_5.out;subst eo7000)))|(at_builtin;refine Kd.R_append_zeros (Kd.int .i64) (w0:=w) w.heap.size rfl (.tmp 75) (.tmp 77) 22 43 3 (.int .i64 0) 8 rfl Try.underlying22 Try.underlying43 info3 rfl (by decide) (by omega) (.slice Ao7000 y550.length co7000) y550 0 (ji40:Int) (fun _=>True) rfl rfl rfl ?aF ?aO dc_ ?aB ?aS ?aL ?_;(case aB=>exact(by repeat(first|(with_reducible first|exact HB.out|apply below_alloc|apply pw_below_drewN|apply below_drew1|refine below_set ?_ (IsS52.ge HI535.out)|refine below_set ?_ GE531.out)|exact HB.out)));(case aF=>exact(fun _ _=>trivial));(case aO=>exact(ro_ HO_5));(case aS=>exact(below_size (by repeat(first|(with_reducible first|exact HB.out|apply below_alloc|apply pw_below_drewN|apply below_drew1|refine below_set ?_ (IsS52.ge HI535.out)|refine below_set ?_ GE531.out)|exact HB.out))));(case aL=>have:=LMc42.out;omega);intro v7000 w7001 ho hb hg hat;rw [←Ny557.out] at ho;have n_:=pk4 (blk_grown (bo_ BK531) hg (Kd.R_ne HO_5.out BK531.out (by decide))) (IsS52.grown (by repeat(first|(with_reducible first|exact HI535.out|apply IsS52.alloc|apply IsS52.drewN|apply IsS52.drew|apply IsS52.set_1|apply IsS52.set_2|refine IsS52.far ?_ NB535_531.out _)|exact HI535.out)) hg (AwayB.of_R HO_5.out (IsS52.own_ne HI535.out HO_5.out (by decide)) (by decide))) (hb) (ho);clear BK531 HI535 HB HO_5;obtain⟨BK531,HI535,HB,HO7000⟩:=n_;clear ho hb hg hat))
           first
            |go_roundg kj21
             case measure=>have:=HK1.out;have:=HJ12.out;have:=HJ21.out;omega
             first
              |case rel=>exact⟨(y550),(t545),(t546),H',⟨by have:=HK1.out;have:=HJ12.out;have:=HJ21.out;omega⟩,⟨(ro_ HO_5)⟩,⟨(bo_ BK531)⟩,⟨by repeat(first|(with_reducible first|exact HI535.out|apply IsS52.alloc|apply IsS52.drewN|apply IsS52.drew|apply IsS52.set_1|apply IsS52.set_2|refine IsS52.far ?_ NB535_531.out _)|exact HI535.out)⟩,⟨by repeat(first|(with_reducible first|exact HB.out|apply below_alloc|apply pw_below_drewN|apply below_drew1|refine below_set ?_ (IsS52.ge HI535.out)|refine below_set ?_ GE531.out)|exact HB.out)⟩⟩
              |case rel=>exact⟨(y557),(t555),(t556),H',⟨by have:=HK1.out;have:=HJ12.out;have:=HJ21.out;omega⟩,⟨(ro_ HO7000)⟩,⟨(bo_ BK531)⟩,⟨by repeat(first|(with_reducible first|exact HI535.out|apply IsS52.alloc|apply IsS52.drewN|apply IsS52.drew|apply IsS52.set_1|apply IsS52.set_2|refine IsS52.far ?_ NB535_531.out _)|exact HI535.out)⟩,⟨by repeat(first|(with_reducible first|exact HB.out|apply below_alloc|apply pw_below_drewN|apply below_drew1|refine below_set ?_ (IsS52.ge HI535.out)|refine below_set ?_ GE531.out)|exact HB.out)⟩⟩
            |go_ret2
             exact⟨_,rf_,nl_,by repeat(first|(with_reducible first|exact HB.out|apply below_alloc|apply pw_below_drewN|apply below_drew1|refine below_set ?_ (IsS52.ge HI535.out)|refine below_set ?_ GE531.out)|exact HB.out)⟩
       ·rw [if_neg c21] at H
        exact absurd H (by simp)
      simp only [Option.some.injEq,Prod.mk.injEq] at H
      obtain⟨rfl,rfl⟩:=H
      go_wp2
      go_ret2
      exact⟨_,rf_,nl_,by repeat(first|(with_reducible first|exact HB.out|apply below_alloc|apply pw_below_drewN|apply below_drew1|refine below_set ?_ (IsS52.ge HI535.out)|refine below_set ?_ GE531.out)|exact HB.out)⟩
   simp only [Option.some.injEq,Prod.mk.injEq] at H
   obtain⟨rfl,rfl⟩:=H
   obtain⟨Ao49,co49,eo49⟩:=Kd.R_slice HO_5.out
   subst eo49
   have hnb50:=NB531_535.out
   have hnc50:=NB535_531.out
   obtain⟨hcz51_0,hcz51_1,hcz51_2,hcz51_3,hcz51_4,hfz51_0,hfz51_1,hfz51_2,hfz51_3,hfz51_4⟩:=blk_at5 BK531.out
   go_wp2
   go_ret2
   exact⟨_,rf_,(ro_ HO_5),by repeat(first|(with_reducible first|exact HB.out|apply below_alloc|apply pw_below_drewN|apply below_drew1|refine below_set ?_ (IsS52.ge HI535.out)|refine below_set ?_ GE531.out)|exact HB.out)⟩
end Go.Proofs.Ytmddmbagehjdeaa.G
end
