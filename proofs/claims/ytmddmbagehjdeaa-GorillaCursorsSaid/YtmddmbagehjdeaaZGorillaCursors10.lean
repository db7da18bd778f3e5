/- More lines for the row. -/
import Derived.Test.YtmddmbagehjdeaaZGorillaCursors9
set_option linter.unusedVariables false
set_option linter.unusedSimpArgs false
set_option maxRecDepth 100000
set_option maxHeartbeats 8000000
namespace Go.Proofs.Ytmddmbagehjdeaa
abbrev bz10_13_0:Array Bool:=#[false,false,false,false,false,false,false,false,false,false,false,false,false]
abbrev bz10_13_1:Array Bool:=#[true,false,false,false,false,false,false,false,false,false,false,false,false]
abbrev bz10_13_165:Array Bool:=#[true,false,true,false,false,true,false,true,false,false,false,false,false]
abbrev bz10_13_2495:Array Bool:=#[true,true,true,true,true,true,false,true,true,false,false,true,false]
abbrev bz10_13_2559:Array Bool:=#[true,true,true,true,true,true,true,true,true,false,false,true,false]
abbrev bz10_13_3071:Array Bool:=#[true,true,true,true,true,true,true,true,true,true,false,true,false]
abbrev bz10_13_37:Array Bool:=#[true,false,true,false,false,true,false,false,false,false,false,false,false]
abbrev bz10_13_4095:Array Bool:=#[true,true,true,true,true,true,true,true,true,true,true,true,false]
abbrev bz10_13_421:Array Bool:=#[true,false,true,false,false,true,false,true,true,false,false,false,false]
abbrev bz10_13_423:Array Bool:=#[true,true,true,false,false,true,false,true,true,false,false,false,false]
abbrev bz10_13_431:Array Bool:=#[true,true,true,true,false,true,false,true,true,false,false,false,false]
abbrev bz10_13_447:Array Bool:=#[true,true,true,true,true,true,false,true,true,false,false,false,false]
abbrev bz10_13_5:Array Bool:=#[true,false,true,false,false,false,false,false,false,false,false,false,false]
abbrev bz10_13_8191:Array Bool:=#[true,true,true,true,true,true,true,true,true,true,true,true,true]
abbrev bz10_16_0:Array Bool:=#[false,false,false,false,false,false,false,false,false,false,false,false,false,false,false,false]
abbrev bz10_16_1:Array Bool:=#[true,false,false,false,false,false,false,false,false,false,false,false,false,false,false,false]
abbrev bz10_16_15:Array Bool:=#[true,true,true,true,false,false,false,false,false,false,false,false,false,false,false,false]
abbrev bz10_16_16383:Array Bool:=#[true,true,true,true,true,true,true,true,true,true,true,true,true,true,false,false]
abbrev bz10_16_1855:Array Bool:=#[true,true,true,true,true,true,false,false,true,true,true,false,false,false,false,false]
abbrev bz10_16_3:Array Bool:=#[true,true,false,false,false,false,false,false,false,false,false,false,false,false,false,false]
abbrev bz10_16_31:Array Bool:=#[true,true,true,true,true,false,false,false,false,false,false,false,false,false,false,false]
abbrev bz10_16_319:Array Bool:=#[true,true,true,true,true,true,false,false,true,false,false,false,false,false,false,false]
abbrev bz10_16_32767:Array Bool:=#[true,true,true,true,true,true,true,true,true,true,true,true,true,true,true,false]
abbrev bz10_16_3903:Array Bool:=#[true,true,true,true,true,true,false,false,true,true,true,true,false,false,false,false]
abbrev bz10_16_63:Array Bool:=#[true,true,true,true,true,true,false,false,false,false,false,false,false,false,false,false]
abbrev bz10_16_65535:Array Bool:=#[true,true,true,true,true,true,true,true,true,true,true,true,true,true,true,true]
abbrev bz10_16_7:Array Bool:=#[true,true,true,false,false,false,false,false,false,false,false,false,false,false,false,false]
abbrev bz10_16_7999:Array Bool:=#[true,true,true,true,true,true,false,false,true,true,true,true,true,false,false,false]
abbrev bz10_16_8063:Array Bool:=#[true,true,true,true,true,true,true,false,true,true,true,true,true,false,false,false]
abbrev bz10_16_8191:Array Bool:=#[true,true,true,true,true,true,true,true,true,true,true,true,true,false,false,false]
abbrev bz10_16_831:Array Bool:=#[true,true,true,true,true,true,false,false,true,true,false,false,false,false,false,false]
abbrev bz10_18_0:Array Bool:=#[false,false,false,false,false,false,false,false,false,false,false,false,false,false,false,false,false,false]
abbrev bz10_18_1:Array Bool:=#[true,false,false,false,false,false,false,false,false,false,false,false,false,false,false,false,false,false]
abbrev bz10_18_12255:Array Bool:=#[true,true,true,true,true,false,true,true,true,true,true,true,false,true,false,false,false,false]
abbrev bz10_18_12287:Array Bool:=#[true,true,true,true,true,true,true,true,true,true,true,true,false,true,false,false,false,false]
abbrev bz10_18_131071:Array Bool:=#[true,true,true,true,true,true,true,true,true,true,true,true,true,true,true,true,true,false]
abbrev bz10_18_15:Array Bool:=#[true,true,true,true,false,false,false,false,false,false,false,false,false,false,false,false,false,false]
abbrev bz10_18_16383:Array Bool:=#[true,true,true,true,true,true,true,true,true,true,true,true,true,true,false,false,false,false]
abbrev bz10_18_2015:Array Bool:=#[true,true,true,true,true,false,true,true,true,true,true,false,false,false,false,false,false,false]
abbrev bz10_18_223:Array Bool:=#[true,true,true,true,true,false,true,true,false,false,false,false,false,false,false,false,false,false]
abbrev bz10_18_262143:Array Bool:=#[true,true,true,true,true,true,true,true,true,true,true,true,true,true,true,true,true,true]
abbrev bz10_18_3:Array Bool:=#[true,true,false,false,false,false,false,false,false,false,false,false,false,false,false,false,false,false]
abbrev bz10_18_31:Array Bool:=#[true,true,true,true,true,false,false,false,false,false,false,false,false,false,false,false,false,false]
abbrev bz10_18_32767:Array Bool:=#[true,true,true,true,true,true,true,true,true,true,true,true,true,true,true,false,false,false]
abbrev bz10_18_4063:Array Bool:=#[true,true,true,true,true,false,true,true,true,true,true,true,false,false,false,false,false,false]
abbrev bz10_18_479:Array Bool:=#[true,true,true,true,true,false,true,true,true,false,false,false,false,false,false,false,false,false]
abbrev bz10_18_65535:Array Bool:=#[true,true,true,true,true,true,true,true,true,true,true,true,true,true,true,true,false,false]
abbrev bz10_18_7:Array Bool:=#[true,true,true,false,false,false,false,false,false,false,false,false,false,false,false,false,false,false]
abbrev bz10_18_95:Array Bool:=#[true,true,true,true,true,false,true,false,false,false,false,false,false,false,false,false,false,false]
abbrev bz10_18_991:Array Bool:=#[true,true,true,true,true,false,true,true,true,true,false,false,false,false,false,false,false,false]
end Go.Proofs.Ytmddmbagehjdeaa
section
namespace Go.Proofs.Ytmddmbagehjdeaa.G
open Go.RowKit Go.Proofs.YtmddmbagehjdeaaX Go.Proofs.YtmddmbagehjdeaaW.PrintWords Go.Proofs.YtmddmbagehjdeaaW.PrintLast Go.Proofs.YtmddmbagehjdeaaW.PrintMore
attribute [local go_sem] max2_int min2_int max_two min_two max_three min_three max_four min_four
theorem windroseref17_Coded.calls (k:Nat) (a0:Int) (r:List Bool) (w:World) (h:windroseref17_Coded.f k a0=some r) :
  Calls Try.prog 32 #[.int .i64 a0] w fun e w'=>∃ v0_:Value,e=.returned (v0_)∧Kd.R Kd.bool 4 w' w.heap.size (fun _=>True) v0_ r∧Below w.heap.size w w':=by
 have HB:=Aside0.mk (Below.refl w.heap.size w)
 have H:((windroseref17_Class.f a0).bind fun t334=>(windroseref17_Coded.l0 k a0 (([0,7,12,20,64]:List Int)) t334 (([]:List Bool)) 0))=some r:=h
 clear h
 obtain⟨y331,hy331⟩:∃ y_:List Int,y_=(([0,7,12,20,64]:List Int)):=⟨_,rfl⟩
 replace H:((windroseref17_Class.f a0).bind fun t334=>(windroseref17_Coded.l0 k a0 y331 t334 (([]:List Bool)) 0))=some r:=by first|(rw [hy331];with_reducible exact H)|(have H2_:=(Option.bind_some _ _).symm.trans H;rw [hy331];with_reducible exact H2_)|(have H2_:=(Option.bind_some _ _).symm.trans H;with_reducible exact H2_)|with_reducible exact H|(rw [hy331];exact H)|exact H
 have Ny331:=Aside0.mk hy331
 clear hy331
 replace H:=bindA H
 obtain⟨t334,A2,H⟩:=H
 try dsimp only at H
 obtain⟨y335,hy335⟩:∃ y_:List Bool,y_=(([]:List Bool)):=⟨_,rfl⟩
 replace H:(windroseref17_Coded.l0 k a0 y331 t334 y335 0)=some r:=by first|(rw [hy335];with_reducible exact H)|(have H2_:=(Option.bind_some _ _).symm.trans H;rw [hy335];with_reducible exact H2_)|(have H2_:=(Option.bind_some _ _).symm.trans H;with_reducible exact H2_)|with_reducible exact H|(rw [hy335];exact H)|exact H
 have Ny335:=Aside0.mk hy335
 clear hy335
 have H':=Aside0.mk H
 clear H
 go_enter Try.func32,Try.ntmps32
 go_wp2_with (first|((with_reducible refine gate_dst (N:=7) rfl ?_);refine Kd.R_lit (Kd.int .i64) _ 3 ?hg (N:=7) ?hd (xs:=([0,7,12,20,64]:List Int)) (inner:=[.int .i64 0,.int .i64 7,.int .i64 12,.int .i64 20,.int .i64 64]) (ok:=fun _=>True) (okp:=fun _=>True) ?hr ?hp (fun _ hk=>hk) trivial (Below.refl _ _) (Nat.le_refl _) (by simp) ?_;(case hd=>rfl);(case hg=>rfl);(case hr=>first|(go_simp;done)|(go_simp;rfl));(case hp=>exact(Reps.one (show Kd.M (Kd.int .i64) _ _ _ 0 [.int .i64 0] from rfl) (Reps.one (show Kd.M (Kd.int .i64) _ _ _ 7 [.int .i64 7] from rfl) (Reps.one (show Kd.M (Kd.int .i64) _ _ _ 12 [.int .i64 12] from rfl) (Reps.one (show Kd.M (Kd.int .i64) _ _ _ 20 [.int .i64 20] from rfl) (Reps.one (show Kd.M (Kd.int .i64) _ _ _ 64 [.int .i64 64] from rfl) (Reps.none _ _)))))));intro v332 w3 ho4 hb hg_ hnew_;clear hg_ hnew_;(first|rw [←Ny331.out] at ho4|(simp only [Int.reduceToNat] at ho4;rw [←Ny331.out] at ho4));have n_:=pk2 (Kd.R_lower ho4 (below_size bl_)) (below_step bl_ hb);clear HB;obtain⟨HO333,HB⟩:=n_;clear hb ho4)|((with_reducible refine gate_callee (f:=34) rfl ?_);refine goL_ (some 9) Try.func34 #[.int .i64 a0] ?_;(with_reducible refine(windroseref17_Class.calls a0 t334 _ A2.out).mono ?_);rintro e w' ⟨rfl,⟨nd,rfl⟩⟩;refine⟨_,rfl,?_⟩)|((with_reducible refine gate_dst (N:=10) rfl ?_);refine Kd.R_lit Kd.bool _ 4 ?hg (N:=10) ?hd (xs:=([]:List Bool)) (inner:=[]) (ok:=fun _=>True) (okp:=fun _=>True) ?hr ?hp (fun _ hk=>hk) trivial (Below.refl _ _) (Nat.le_refl _) (by simp) ?_;(case hd=>rfl);(case hg=>rfl);(case hr=>first|(go_simp;done)|(go_simp;rfl));(case hp=>exact(Reps.none _ _));intro v336 w5 ho6 hb hg_ hnew_;clear hg_ hnew_;(first|rw [←Ny335.out] at ho6|(simp only [Int.reduceToNat] at ho6;rw [←Ny335.out] at ho6));have n_:=pk3 (Kd.R_below (ro_ HO333) hb) (Kd.R_lower ho6 (below_size bl_)) (below_step bl_ hb);clear HO333 HB;obtain⟨HO333,HO337,HB⟩:=n_;clear hb ho6))
 go_loopg [5,6] k (fun kq v5 v6 w'=>∃ (x5_1:List Bool) (x6_1:Int),v6=.int .i64 x6_1∧Aside0 (windroseref17_Coded.l0 kq a0 y331 t334 x5_1 x6_1=some r)∧Aside0 (kq≤k)∧Aside0 (Kd.R (Kd.int .i64) 3 w' w.heap.size (fun _=>True) v332 y331)∧Aside0 (Kd.R Kd.bool 4 w' w.heap.size (fun _=>True) v5 x5_1)∧Aside0 (Below w.heap.size w w'))
 case atStart=>exact⟨(y335),(0),sm_,H',⟨Nat.le_refl _⟩,⟨(ro_ HO333)⟩,⟨(ro_ HO337)⟩,⟨bl_⟩⟩
 case round =>
  clear H'
  obtain⟨x5_1,x6_1,rfl,HA,HK1,HO_3,HO_5,HB⟩:=hrel
  cases gk with
  |zero=>exact absurd HA.out (by simp [windroseref17_Coded.l0])
  |succ k1 =>
   have H:=HA.out
   clear HA
   simp only [windroseref17_Coded.l0] at H
   replace H:=dle H
   rcases H with⟨c7b0,H⟩|⟨c7b0,H⟩
   focus
    by_cases c8:x5_1.length<140737488355328
    rotate_left
    ·rw [if_neg c8] at H
     exact absurd H (by simp)
    rw [if_pos c8] at H
    have LMc8:=Aside0.mk c8
    clear c8
    obtain⟨y338,hy338⟩:∃ y_:List Bool,y_=(x5_1++[true]):=⟨_,rfl⟩
    replace H:(windroseref17_Coded.l0 k1 a0 y331 t334 y338 (wrap64 (x6_1+1)))=some r:=by first|(rw [hy338];with_reducible exact H)|(have H2_:=(Option.bind_some _ _).symm.trans H;rw [hy338];with_reducible exact H2_)|(have H2_:=(Option.bind_some _ _).symm.trans H;with_reducible exact H2_)|with_reducible exact H|(rw [hy338];exact H)|exact H
    have Ny338:=Aside0.mk hy338
    clear hy338
    have H':=Aside0.mk H
    clear H
   rotate_left
   focus
    replace H:=dle H
    rcases H with⟨c10b0,H⟩|⟨c10b0,H⟩
    focus
     by_cases c11:x5_1.length<140737488355328
     rotate_left
     ·rw [if_neg c11] at H
      exact absurd H (by simp)
     rw [if_pos c11] at H
     have LMc11:=Aside0.mk c11
     clear c11
     obtain⟨y341,hy341⟩:∃ y_:List Bool,y_=(x5_1++[false]):=⟨_,rfl⟩
     replace H:((windroseref17_fold.f a0).bind fun t344=>(if 0≤t334 then(if t334<(y331.length:Int)then((windroseref17_Low.f k1 t344 (rd y331 t334)).bind fun t346=>(if y341.length+t346.length<140737488355328 then(some (y341++t346))else(none)))else(none))else(none)))=some r:=by first|(rw [hy341];with_reducible exact H)|(have H2_:=(Option.bind_some _ _).symm.trans H;rw [hy341];with_reducible exact H2_)|(have H2_:=(Option.bind_some _ _).symm.trans H;with_reducible exact H2_)|with_reducible exact H|(rw [hy341];exact H)|exact H
     have Ny341:=Aside0.mk hy341
     clear hy341
     replace H:=bindA H
     obtain⟨t344,A12,H⟩:=H
     try dsimp only at H
     replace H:=dle H
     rcases H with⟨c13b0,H⟩|⟨c13b0,H⟩
     rotate_left
     ·exact absurd H (by simp)
     replace H:=dle H
     rcases H with⟨c14b0,H⟩|⟨c14b0,H⟩
     rotate_left
     ·exact absurd H (by simp)
     replace H:=bindA H
     obtain⟨t346,A15,H⟩:=H
     try dsimp only at H
     by_cases c16:y341.length+t346.length<140737488355328
     rotate_left
     ·rw [if_neg c16] at H
      exact absurd H (by simp)
     rw [if_pos c16] at H
     have LMc16:=Aside0.mk c16
     clear c16
     obtain⟨y349,hy349⟩:∃ y_:List Bool,y_=(y341++t346):=⟨_,rfl⟩
     replace H:(some y349)=some r:=by first|(rw [hy349];with_reducible exact H)|(have H2_:=(Option.bind_some _ _).symm.trans H;rw [hy349];with_reducible exact H2_)|(have H2_:=(Option.bind_some _ _).symm.trans H;with_reducible exact H2_)|with_reducible exact H|(rw [hy349];exact H)|exact H
     have Ny349:=Aside0.mk hy349
     clear hy349
     obtain rfl:=Option.some.inj H
    rotate_left
    focus
     replace H:=bindA H
     obtain⟨t352,A23,H⟩:=H
     try dsimp only at H
     replace H:=dle H
     rcases H with⟨c24b0,H⟩|⟨c24b0,H⟩
     rotate_left
     ·exact absurd H (by simp)
     replace H:=dle H
     rcases H with⟨c25b0,H⟩|⟨c25b0,H⟩
     rotate_left
     ·exact absurd H (by simp)
     replace H:=bindA H
     obtain⟨t354,A26,H⟩:=H
     try dsimp only at H
     by_cases c27:x5_1.length+t354.length<140737488355328
     rotate_left
     ·rw [if_neg c27] at H
      exact absurd H (by simp)
     rw [if_pos c27] at H
     have LMc27:=Aside0.mk c27
     clear c27
     obtain⟨y357,hy357⟩:∃ y_:List Bool,y_=(x5_1++t354):=⟨_,rfl⟩
     replace H:(some y357)=some r:=by first|(rw [hy357];with_reducible exact H)|(have H2_:=(Option.bind_some _ _).symm.trans H;rw [hy357];with_reducible exact H2_)|(have H2_:=(Option.bind_some _ _).symm.trans H;with_reducible exact H2_)|with_reducible exact H|(rw [hy357];exact H)|exact H
     have Ny357:=Aside0.mk hy357
     clear hy357
     obtain rfl:=Option.some.inj H
   all_goals
    first
     |go_wp2_with (first|((with_reducible refine gate_builtin (b:=.append) (xs:=#[.tmp 16,.tmp 17]) rfl ?_);at_builtin;refine Kd.R_append Kd.bool (w0:=w) w.heap.size rfl (.tmp 16) (.tmp 17) 39 4 (.bool false) 1 rfl Try.underlying39 info4 rfl (by decide) (by omega) u5 x5_1 true [.bool true] (fun _=>True) (fun _=>False) rfl rfl ?aP (fun _ hk=>hk.elim) ?aF ?aO ?aB ?aS ?aL ?_;(case aP=>exact rfl);(case aB=>exact bl_);(case aF=>exact(fun _ _=>trivial));(case aO=>exact(ro_ HO_5));(case aS=>exact(below_size bl_));(case aL=>have:=LMc8.out;omega);intro v7000 w7000 ho hb hg hat;rw [←Ny338.out] at ho;have n_:=pk3 (Kd.R_over' (ro_ HO_3) (Kd.R_typed (ro_ HO_5)) (by decide) hg) (hb) (ho);clear HO_3 HB HO_5;obtain⟨HO_3,HB,HO7000⟩:=n_;clear ho hb hg hat))
      go_roundg k1
      case measure=>have:=HK1.out;omega
      case rel=>exact⟨(y338),(wrap64 (x6_1+1)),sm_,H',⟨by have:=HK1.out;omega⟩,⟨(ro_ HO_3)⟩,⟨(ro_ HO7000)⟩,⟨bl_⟩⟩
     |try go_wp2_with (first|((with_reducible refine gate_builtin (b:=.append) (xs:=#[.tmp 21,.tmp 22]) rfl ?_);at_builtin;refine Kd.R_append Kd.bool (w0:=w) w.heap.size rfl (.tmp 21) (.tmp 22) 39 4 (.bool false) 1 rfl Try.underlying39 info4 rfl (by decide) (by omega) u5 x5_1 false [.bool false] (fun _=>True) (fun _=>False) rfl rfl ?aP (fun _ hk=>hk.elim) ?aF ?aO ?aB ?aS ?aL ?_;(case aP=>exact rfl);(case aB=>exact bl_);(case aF=>exact(fun _ _=>trivial));(case aO=>exact(ro_ HO_5));(case aS=>exact(below_size bl_));(case aL=>have:=LMc11.out;omega);intro v7000 w7000 ho hb hg hat;rw [←Ny341.out] at ho;have n_:=pk3 (Kd.R_over' (ro_ HO_3) (Kd.R_typed (ro_ HO_5)) (by decide) hg) (hb) (ho);clear HO_3 HB HO_5;obtain⟨HO_3,HB,HO7000⟩:=n_;clear ho hb hg hat))
      first
       |have n_:=pk3 (Kd.R_drew HO_3.out) (Kd.R_drew HO7000.out) (below_drew1 HB.out)
        clear HO_3 HO7000 HB
        obtain⟨HO_3,HO7000,HB⟩:=n_
        obtain⟨Ao7000,co7000,eo7000⟩:=Kd.R_slice HO_3.out
        (first|subst eo7000|(injection eo7000 with f1_ f2_ f3_;have f7000_:=f1_.symm;have f7001_:=f3_.symm;clear f1_ f2_ f3_;subst f7000_;subst f7001_))
        have p7000:0≤(t334:Int):=dc_
        have q7000:t334<(y331.length:Int):=dc_
        obtain⟨ad7000,e7000,hx7000_0⟩:=Kd.at_int (Kd.R_reads' HO_3.out).2.2 t334 p7000 q7000
        cases e7000
        replace p7000:=eq_true p7000
        replace q7000:=eq_true q7000
        refine start_ (n:=10) (S:=fun w'=>w'.cell? (ad7000.add (t334).toNat)=some (.int .i64 (rd y331 t334))) (ds:=[8]) #[false,false,false,false,false,false,false,false,false,false] (by kernel_rfl) rfl rfl (hx7000_0) (fun hHeld=>?_);refine with_tabW windroseref17_Coded.tab10 windroseref17_Coded.bits10 (fun HT_ HW_=>?_)
        generalize w7000.drew=w7001 at HO_3 HO7000 HB hx7000_0 hHeld ⊢
        refine pure_ (i:=0) (N:=some 24) (v:=?_) (a':=?_) #[true,false,false,false,false,false,false,false,false,false] rfl rfl (any_of HT_.out (by kernel_rfl)) (fun _ _ _ h=>h) (Or.inl ⟨by rfl,?_⟩) ?_ ?_
        rotate_left
        ·intro w'
         go_simp
         with_reducible rfl
        rotate_left
        ·simp only [ap_,sb_,s0_,s1_,i64_w,i32_w]
         rfl
        refine pure_ (i:=1) (N:=some 25) (v:=?_) (a':=?_) #[true,true,false,false,false,false,false,false,false,false] rfl rfl (any_of HT_.out (by kernel_rfl)) (fun _ _ _ h=>h) (Or.inl ⟨by rfl,?_⟩) ?_ ?_
        rotate_left
        ·intro w'
         go_simp
         with_reducible rfl
        rotate_left
        ·simp only [ap_,sb_,s0_,s1_,i64_w,i32_w]
         rfl
        refine pure_ (i:=3) (N:=some 27) (v:=?_) (a':=?_) #[true,true,false,true,false,false,false,false,false,false] rfl rfl (any_of HT_.out (by kernel_rfl)) (fun _ _ _ h=>h) (Or.inl ⟨by rfl,?_⟩) ?_ ?_
        rotate_left
        ·intro w'
         go_simp
         with_reducible rfl
        rotate_left
        ·simp only [ap_,sb_,s0_,s1_,i64_w,i32_w]
         rfl
        refine pure_ (i:=4) (N:=some 28) (v:=?_) (a':=?_) #[true,true,false,true,true,false,false,false,false,false] rfl rfl (any_of HT_.out (by kernel_rfl)) (fun _ _ _ h=>h) (Or.inl ⟨by rfl,?_⟩) ?_ ?_
        rotate_left
        ·intro w'
         go_simp
         with_reducible rfl
        rotate_left
        ·simp only [ap_,sb_,s0_,s1_,i64_w,i32_w]
         rfl
        refine pure_ (i:=5) (N:=some 29) (v:=?_) (a':=?_) #[true,true,false,true,true,true,false,false,false,false] rfl rfl (any_of HT_.out (by kernel_rfl)) (fun _ _ _ h=>h) (Or.inl ⟨by rfl,?_⟩) ?_ ?_
        rotate_left
        ·intro w'
         go_simp
         with_reducible rfl
        rotate_left
        ·simp only [ap_,sb_,s0_,s1_,i64_w,i32_w]
         rfl
        refine take_ (i:=6) (N:=some 30) (v:=?_) (a':=?_) #[true,true,false,true,true,true,true,false,false,false] rfl rfl (take_ofW HT_.out HW_.out (by kernel_rfl)) (fun _ _ _ h=>h) (Or.inl ⟨by rfl,?_⟩) hHeld ?_ ?_
        rotate_left
        ·intro w' s7000
         go_simp
         with_reducible rfl
        rotate_left
        ·simp only [ap_,sb_,s0_,s1_,i64_w,i32_w]
         rfl
        refine one_ (i:=2) (N:=some 26) #[true,true,true,true,true,true,true,false,false,false] rfl rfl (one_of HT_.out (by kernel_rfl)) (by decide) (fun K hK=>?_)
        refine goes_ Try.func68 (by kernel_rfl) rfl #[.int .i64 a0] (by rfl) rfl rfl (by(try simp only [List.map_toArray,List.map_cons,List.map_nil]);first|done|rfl|(simp only [List.length_drop,List.length_take];rfl)) ?_
        with_reducible refine(windroseref17_fold.calls a0 t344 _ A12.out).mono ?_
        rintro e w' ⟨rfl,⟨nd,rfl⟩⟩
        refine⟨_,rfl,?_⟩
        refine hK.out _ _ (hHeld) (fun hHeld=>?_)
        clear hK K
        refine norm_ (a':=?_) ?_ ?_
        rotate_left
        ·show Act.put _ (some 26) _=_
         simp only [ap_,sb_,s0_,s1_,i64_w,i32_w]
         rfl
        refine one_ (i:=7) (N:=some 31) #[true,true,true,true,true,true,true,true,false,false] rfl rfl (one_of HT_.out (by kernel_rfl)) (by decide) (fun K hK=>?_)
        refine goes_ Try.func35 (by kernel_rfl) rfl #[.int .u64 t344,.int .i64 (rd y331 t334)] (by rfl) rfl rfl (by(try simp only [List.map_toArray,List.map_cons,List.map_nil]);first|done|rfl|(simp only [List.length_drop,List.length_take];rfl)) ?_
        with_reducible refine(windroseref17_Low.calls k1 t344 (rd y331 t334) t346 _ A15.out).mono ?_
        rintro e w7002 ⟨v7001,rfl,ho7000,hb⟩
        have HS7000_:=(hb.cell (World.block_lt_of_cell? _ _ (hHeld))).trans (hHeld)
        refine⟨_,rfl,?_⟩
        have n_:=pk4 (Kd.R_below (ro_ HO_3) hb) (Kd.R_elder' (ro_ HO7000) (Kd.R_base ho7000) hb) (Kd.R_lower (Kd.R_new' ho7000 (Kd.R_lt (ro_ HO7000))) (below_size bl_)) (below_step bl_ hb)
        clear HO_3 HO7000 HB
        obtain⟨HO_3,HO7000,HO7001,HB⟩:=n_
        (try clear hb)
        (try clear hb2)
        (try clear hk)
        (try clear hi)
        (try clear ho7000)
        obtain⟨Ao7001,co7001,eo7001⟩:=Kd.R_slice HO7001.out
        (first|subst eo7001|(injection eo7001 with f1_ f2_ f3_;have f7000_:=f1_.symm;have f7001_:=f3_.symm;clear f1_ f2_ f3_;subst f7000_;subst f7001_))
        refine hK.out _ _ (HS7000_) (fun hHeld=>?_)
        clear hK K
        refine norm_ (a':=?_) ?_ ?_
        rotate_left
        ·show Act.put _ (some 31) _=_
         simp only [ap_,sb_,s0_,s1_,i64_w,i32_w]
         rfl
        refine last_ (i:=8) (N:=some 32) #[true,true,true,true,true,true,true,true,true,false] rfl rfl (one_of HT_.out (by kernel_rfl)) (by decide) (fun K hK=>?_)
        refine Kd.R_append_rows_step Kd.bool (w0:=w) w.heap.size (by rfl) (.tmp 24) (.tmp 31) 39 4 (.bool false) 1 rfl Try.underlying39 info4 rfl (by decide) (by omega) v7000 y341 t346 _ _ _ (fun k_=>some k_≠(.slice Ao7001 t346.length co7001:Value).ownBlock) (fun _=>False) rfl rfl ?aO ?aR (fun _ _ h=>h) (fun _ h=>h.elim) ?aF ?aB ?aS ?aL ?_
        (case aR=>exact cr_ HO7001)
        (case aB=>exact bl_)
        (case aF=>exact(fun k_ hk=>Kd.fresh' (Kd.R_lt (ro_ HO7001)) k_ hk))
        (case aO=>exact(rt_ (Kd.R_mono HO7000.out (fun _ hk=>hk.2))))
        (case aS=>exact(below_size bl_))
        (case aL=>have:=LMc16.out;omega)
        intro v7002 w7003 ho hb hg hat
        rw [←Ny349.out] at ho
        have n_:=pk4 (Kd.R_over' (ro_ HO_3) (Kd.R_typed (ro_ HO7000)) (by decide) hg) (Kd.R_after (ok:=(fun _=>True)) (ro_ HO7001) hg hat) (hb) (ho)
        clear HO_3 HO7001 HB HO7000
        obtain⟨HO_3,HO7001,HB,HO7002⟩:=n_
        clear ho hb hg hat
        refine hK.out _ _ ?_
        clear hK K
        refine norm_ (a':=?_) ?_ ?_
        rotate_left
        ·show Act.put _ (some 32) _=_
         simp only [ap_,sb_,s0_,s1_,i64_w,i32_w]
         rfl
        refine pure_ (i:=9) (N:=some 2) (v:=?_) (a':=?_) #[true,true,true,true,true,true,true,true,true,true] rfl rfl (any_of HT_.out (by kernel_rfl)) (fun _ _ _ h=>h) (Or.inl ⟨by rfl,?_⟩) ?_ ?_
        rotate_left
        ·intro w'
         go_simp
         with_reducible rfl
        rotate_left
        ·simp only [ap_,sb_,s0_,s1_,i64_w,i32_w]
         rfl
        refine done_ (done_of HT_.out (by kernel_rfl)) ?_
        try go_wp2
        go_ret
        exact⟨_,rf_,(rt_ (Kd.R_mono HO7002.out (fun _ hk=>trivial))),bl_⟩
       |have n_:=pk3 (Kd.R_drew HO_3.out) (Kd.R_drew HO_5.out) (below_drew1 HB.out)
        clear HO_3 HO_5 HB
        obtain⟨HO_3,HO_5,HB⟩:=n_
        obtain⟨Ao7000,co7000,eo7000⟩:=Kd.R_slice HO_3.out
        (first|subst eo7000|(injection eo7000 with f1_ f2_ f3_;have f7000_:=f1_.symm;have f7001_:=f3_.symm;clear f1_ f2_ f3_;subst f7000_;subst f7001_))
        have p7000:0≤(t334:Int):=dc_
        have q7000:t334<(y331.length:Int):=dc_
        obtain⟨ad7000,e7000,hx7000_0⟩:=Kd.at_int (Kd.R_reads' HO_3.out).2.2 t334 p7000 q7000
        cases e7000
        replace p7000:=eq_true p7000
        replace q7000:=eq_true q7000
        refine start_ (n:=10) (S:=fun w'=>w'.cell? (ad7000.add (t334).toNat)=some (.int .i64 (rd y331 t334))) (ds:=[8]) #[false,false,false,false,false,false,false,false,false,false] (by kernel_rfl) rfl rfl (hx7000_0) (fun hHeld=>?_);refine with_tabW windroseref17_Coded.tab10 windroseref17_Coded.bits10 (fun HT_ HW_=>?_)
        generalize wr.drew=w7000 at HO_3 HO_5 HB hx7000_0 hHeld ⊢
        refine pure_ (i:=0) (N:=some 24) (v:=?_) (a':=?_) #[true,false,false,false,false,false,false,false,false,false] rfl rfl (any_of HT_.out (by kernel_rfl)) (fun _ _ _ h=>h) (Or.inl ⟨by rfl,?_⟩) ?_ ?_
        rotate_left
        ·intro w'
         go_simp
         with_reducible rfl
        rotate_left
        ·simp only [ap_,sb_,s0_,s1_,i64_w,i32_w]
         rfl
        refine pure_ (i:=1) (N:=some 25) (v:=?_) (a':=?_) #[true,true,false,false,false,false,false,false,false,false] rfl rfl (any_of HT_.out (by kernel_rfl)) (fun _ _ _ h=>h) (Or.inl ⟨by rfl,?_⟩) ?_ ?_
        rotate_left
        ·intro w'
         go_simp
         with_reducible rfl
        rotate_left
        ·simp only [ap_,sb_,s0_,s1_,i64_w,i32_w]
         rfl
        refine pure_ (i:=3) (N:=some 27) (v:=?_) (a':=?_) #[true,true,false,true,false,false,false,false,false,false] rfl rfl (any_of HT_.out (by kernel_rfl)) (fun _ _ _ h=>h) (Or.inl ⟨by rfl,?_⟩) ?_ ?_
        rotate_left
        ·intro w'
         go_simp
         with_reducible rfl
        rotate_left
        ·simp only [ap_,sb_,s0_,s1_,i64_w,i32_w]
         rfl
        refine pure_ (i:=4) (N:=some 28) (v:=?_) (a':=?_) #[true,true,false,true,true,false,false,false,false,false] rfl rfl (any_of HT_.out (by kernel_rfl)) (fun _ _ _ h=>h) (Or.inl ⟨by rfl,?_⟩) ?_ ?_
        rotate_left
        ·intro w'
         go_simp
         with_reducible rfl
        rotate_left
        ·simp only [ap_,sb_,s0_,s1_,i64_w,i32_w]
         rfl
        refine pure_ (i:=5) (N:=some 29) (v:=?_) (a':=?_) #[true,true,false,true,true,true,false,false,false,false] rfl rfl (any_of HT_.out (by kernel_rfl)) (fun _ _ _ h=>h) (Or.inl ⟨by rfl,?_⟩) ?_ ?_
        rotate_left
        ·intro w'
         go_simp
         with_reducible rfl
        rotate_left
        ·simp only [ap_,sb_,s0_,s1_,i64_w,i32_w]
         rfl
        refine take_ (i:=6) (N:=some 30) (v:=?_) (a':=?_) #[true,true,false,true,true,true,true,false,false,false] rfl rfl (take_ofW HT_.out HW_.out (by kernel_rfl)) (fun _ _ _ h=>h) (Or.inl ⟨by rfl,?_⟩) hHeld ?_ ?_
        rotate_left
        ·intro w' s7000
         go_simp
         with_reducible rfl
        rotate_left
        ·simp only [ap_,sb_,s0_,s1_,i64_w,i32_w]
         rfl
        refine one_ (i:=2) (N:=some 26) #[true,true,true,true,true,true,true,false,false,false] rfl rfl (one_of HT_.out (by kernel_rfl)) (by decide) (fun K hK=>?_)
        refine goes_ Try.func68 (by kernel_rfl) rfl #[.int .i64 a0] (by rfl) rfl rfl (by(try simp only [List.map_toArray,List.map_cons,List.map_nil]);first|done|rfl|(simp only [List.length_drop,List.length_take];rfl)) ?_
        with_reducible refine(windroseref17_fold.calls a0 t352 _ A23.out).mono ?_
        rintro e w' ⟨rfl,⟨nd,rfl⟩⟩
        refine⟨_,rfl,?_⟩
        refine hK.out _ _ (hHeld) (fun hHeld=>?_)
        clear hK K
        refine norm_ (a':=?_) ?_ ?_
        rotate_left
        ·show Act.put _ (some 26) _=_
         simp only [ap_,sb_,s0_,s1_,i64_w,i32_w]
         rfl
        refine one_ (i:=7) (N:=some 31) #[true,true,true,true,true,true,true,true,false,false] rfl rfl (one_of HT_.out (by kernel_rfl)) (by decide) (fun K hK=>?_)
        refine goes_ Try.func35 (by kernel_rfl) rfl #[.int .u64 t352,.int .i64 (rd y331 t334)] (by rfl) rfl rfl (by(try simp only [List.map_toArray,List.map_cons,List.map_nil]);first|done|rfl|(simp only [List.length_drop,List.length_take];rfl)) ?_
        with_reducible refine(windroseref17_Low.calls k1 t352 (rd y331 t334) t354 _ A26.out).mono ?_
        rintro e w7001 ⟨v7000,rfl,ho7000,hb⟩
        have HS7000_:=(hb.cell (World.block_lt_of_cell? _ _ (hHeld))).trans (hHeld)
        refine⟨_,rfl,?_⟩
        have n_:=pk4 (Kd.R_below (ro_ HO_3) hb) (Kd.R_elder' (ro_ HO_5) (Kd.R_base ho7000) hb) (Kd.R_lower (Kd.R_new' ho7000 (Kd.R_lt (ro_ HO_5))) (below_size bl_)) (below_step bl_ hb)
        clear HO_3 HO_5 HB
        obtain⟨HO_3,HO_5,HO7000,HB⟩:=n_
        (try clear hb)
        (try clear hb2)
        (try clear hk)
        (try clear hi)
        (try clear ho7000)
        obtain⟨Ao7001,co7001,eo7001⟩:=Kd.R_slice HO7000.out
        (first|subst eo7001|(injection eo7001 with f1_ f2_ f3_;have f7000_:=f1_.symm;have f7001_:=f3_.symm;clear f1_ f2_ f3_;subst f7000_;subst f7001_))
        refine hK.out _ _ (HS7000_) (fun hHeld=>?_)
        clear hK K
        refine norm_ (a':=?_) ?_ ?_
        rotate_left
        ·show Act.put _ (some 31) _=_
         simp only [ap_,sb_,s0_,s1_,i64_w,i32_w]
         rfl
        refine last_ (i:=8) (N:=some 32) #[true,true,true,true,true,true,true,true,true,false] rfl rfl (one_of HT_.out (by kernel_rfl)) (by decide) (fun K hK=>?_)
        refine Kd.R_append_rows_step Kd.bool (w0:=w) w.heap.size (by rfl) (.tmp 24) (.tmp 31) 39 4 (.bool false) 1 rfl Try.underlying39 info4 rfl (by decide) (by omega) u5 x5_1 t354 _ _ _ (fun k_=>some k_≠(.slice Ao7001 t354.length co7001:Value).ownBlock) (fun _=>False) rfl rfl ?aO ?aR (fun _ _ h=>h) (fun _ h=>h.elim) ?aF ?aB ?aS ?aL ?_
        (case aR=>exact cr_ HO7000)
        (case aB=>exact bl_)
        (case aF=>exact(fun k_ hk=>Kd.fresh' (Kd.R_lt (ro_ HO7000)) k_ hk))
        (case aO=>exact(rt_ (Kd.R_mono HO_5.out (fun _ hk=>hk.2))))
        (case aS=>exact(below_size bl_))
        (case aL=>have:=LMc27.out;omega)
        intro v7001 w7002 ho hb hg hat
        rw [←Ny357.out] at ho
        have n_:=pk4 (Kd.R_over' (ro_ HO_3) (Kd.R_typed (ro_ HO_5)) (by decide) hg) (Kd.R_after (ok:=(fun _=>True)) (ro_ HO7000) hg hat) (hb) (ho)
        clear HO_3 HO7000 HB HO_5
        obtain⟨HO_3,HO7000,HB,HO7001⟩:=n_
        clear ho hb hg hat
        refine hK.out _ _ ?_
        clear hK K
        refine norm_ (a':=?_) ?_ ?_
        rotate_left
        ·show Act.put _ (some 32) _=_
         simp only [ap_,sb_,s0_,s1_,i64_w,i32_w]
         rfl
        refine pure_ (i:=9) (N:=some 2) (v:=?_) (a':=?_) #[true,true,true,true,true,true,true,true,true,true] rfl rfl (any_of HT_.out (by kernel_rfl)) (fun _ _ _ h=>h) (Or.inl ⟨by rfl,?_⟩) ?_ ?_
        rotate_left
        ·intro w'
         go_simp
         with_reducible rfl
        rotate_left
        ·simp only [ap_,sb_,s0_,s1_,i64_w,i32_w]
         rfl
        refine done_ (done_of HT_.out (by kernel_rfl)) ?_
        try go_wp2
        go_ret
        exact⟨_,rf_,(rt_ (Kd.R_mono HO7001.out (fun _ hk=>trivial))),bl_⟩
end Go.Proofs.Ytmddmbagehjdeaa.G
end
section
namespace Go.Proofs.Ytmddmbagehjdeaa.G
open Go.RowKit Go.Proofs.YtmddmbagehjdeaaX Go.Proofs.YtmddmbagehjdeaaW.PrintWords Go.Proofs.YtmddmbagehjdeaaW.PrintLast Go.Proofs.YtmddmbagehjdeaaW.PrintMore
attribute [local go_sem] max2_int min2_int max_two min_two max_three min_three max_four min_four
mutual
def windroseref18_Bits.l0:Nat→List (S67)→List Int→List Bool→Int→Int→Option (List Bool)
 |0,_,_,_,_,_=>none
 |k+1,x0,x3,x4,x5,x6=>if x6<(x0.length:Int)then(if 0≤(wrap64 (1+(wrap64 (2*x6))))then(if(wrap64 (1+(wrap64 (2*x6))))<(x3.length:Int)then(if 0≤(wrap64 (2+(wrap64 (2*x6))))then(if(wrap64 (2+(wrap64 (2*x6))))<(x3.length:Int)then(if x6<2 then(windroseref18_Bits.j1 k x0 x3 x4 x5 x6 (rd x3 (wrap64 (1+(wrap64 (2*x6))))) (rd x3 (wrap64 (2+(wrap64 (2*x6))))) true)else(if(rd x3 (wrap64 (1+(wrap64 (2*x6)))))=0 then(windroseref18_Bits.j1 k x0 x3 x4 x5 x6 (rd x3 (wrap64 (1+(wrap64 (2*x6))))) (rd x3 (wrap64 (2+(wrap64 (2*x6))))) ((rd x3 (wrap64 (2+(wrap64 (2*x6))))) != 0))else(windroseref18_Bits.j1 k x0 x3 x4 x5 x6 (rd x3 (wrap64 (1+(wrap64 (2*x6))))) (rd x3 (wrap64 (2+(wrap64 (2*x6))))) true)))else(none))else(none))else(none))else(none))else(some x4)
def windroseref18_Bits.j1:Nat→List (S67)→List Int→List Bool→Int→Int→Int→Int→Bool→Option (List Bool)
 |0,_,_,_,_,_,_,_,_=>none
 |k+1,x0,x3,x4,x5,x6,x7,x8,x40=>if x40=true then((windroseref17_Coded.f k x7).bind fun t689=>(if x4.length+t689.length<140737488355328 then((some (x4++t689:List Bool)).bind fun y692=>((windroseref17_Coded.f k x8).bind fun t695=>(if y692.length+t695.length<140737488355328 then(windroseref18_Bits.l0 k x0 x3 (y692++t695) x5 (wrap64 (x6+1)))else(none))))else(none)))else(if x5>0 then(windroseref18_Bits.l0 k x0 x3 x4 (wrap64 (x5 - 1)) (wrap64 (x6+1)))else(windroseref18_Bits.l1 k x0 x3 x4 x6 x6))
def windroseref18_Bits.l1:Nat→List (S67)→List Int→List Bool→Int→Int→Option (List Bool)
 |0,_,_,_,_,_=>none
 |k+1,x0,x3,x4,x6,x9=>if x9<(x0.length:Int)then(if 0≤(wrap64 (1+(wrap64 (2*x9))))then(if(wrap64 (1+(wrap64 (2*x9))))<(x3.length:Int)then(if(rd x3 (wrap64 (1+(wrap64 (2*x9)))))=0 then(if 0≤(wrap64 (2+(wrap64 (2*x9))))then(if(wrap64 (2+(wrap64 (2*x9))))<(x3.length:Int)then(if(rd x3 (wrap64 (2+(wrap64 (2*x9)))))=0 then(if x9<(wrap64 (x6+16))then(windroseref18_Bits.l1 k x0 x3 x4 x6 (wrap64 (x9+1)))else((some (([false,false]:List Bool):List Bool)).bind fun y703=>(if x4.length+y703.length<140737488355328 then((some (x4++y703:List Bool)).bind fun y706=>((windroseref17_Low.f k (IntKind.u64.wrap (wrap64 ((wrap64 (x9 - x6)) - 1))) 4).bind fun t709=>(if y706.length+t709.length<140737488355328 then(windroseref18_Bits.l0 k x0 x3 (y706++t709) (wrap64 ((wrap64 (x9 - x6)) - 1)) (wrap64 (x6+1)))else(none))))else(none))))else((some (([false,false]:List Bool):List Bool)).bind fun y715=>(if x4.length+y715.length<140737488355328 then((some (x4++y715:List Bool)).bind fun y718=>((windroseref17_Low.f k (IntKind.u64.wrap (wrap64 ((wrap64 (x9 - x6)) - 1))) 4).bind fun t721=>(if y718.length+t721.length<140737488355328 then(windroseref18_Bits.l0 k x0 x3 (y718++t721) (wrap64 ((wrap64 (x9 - x6)) - 1)) (wrap64 (x6+1)))else(none))))else(none))))else(none))else(none))else((some (([false,false]:List Bool):List Bool)).bind fun y727=>(if x4.length+y727.length<140737488355328 then((some (x4++y727:List Bool)).bind fun y730=>((windroseref17_Low.f k (IntKind.u64.wrap (wrap64 ((wrap64 (x9 - x6)) - 1))) 4).bind fun t733=>(if y730.length+t733.length<140737488355328 then(windroseref18_Bits.l0 k x0 x3 (y730++t733) (wrap64 ((wrap64 (x9 - x6)) - 1)) (wrap64 (x6+1)))else(none))))else(none))))else(none))else(none))else((some (([false,false]:List Bool):List Bool)).bind fun y739=>(if x4.length+y739.length<140737488355328 then((some (x4++y739:List Bool)).bind fun y742=>((windroseref17_Low.f k (IntKind.u64.wrap (wrap64 ((wrap64 (x9 - x6)) - 1))) 4).bind fun t745=>(if y742.length+t745.length<140737488355328 then(windroseref18_Bits.l0 k x0 x3 (y742++t745) (wrap64 ((wrap64 (x9 - x6)) - 1)) (wrap64 (x6+1)))else(none))))else(none)))
end
def windroseref18_Bits.f (k:Nat) (l0:List (S67)):Option (List Bool):=(windroseref11_Nums.f k l0).bind fun t681=>(windroseref18_Bits.l0 k l0 t681 (([]:List Bool)) 0 0)
theorem windroseref18_Bits.calls (k:Nat) (A0:Option Addr) (c0:Nat) (l0:List (S67)) (r:List Bool) (w:World) (hr0:Kd.C k67 w A0 l0.length l0) (hc0:l0.length≤c0) (h:windroseref18_Bits.f k l0=some r) :
  Calls Try.prog 74 #[.slice A0 l0.length c0] w fun e w'=>∃ v0_:Value,e=.returned (v0_)∧Kd.R Kd.bool 4 w' w.heap.size (fun _=>True) v0_ r∧Below w.heap.size w w':=by
 have HR0:=Aside0.mk hr0
 have HC0:=Aside0.mk hc0
 clear hr0 hc0
 have HB:=Aside0.mk (Below.refl w.heap.size w)
 have H:((windroseref11_Nums.f k l0).bind fun t681=>(windroseref18_Bits.l0 k l0 t681 (([]:List Bool)) 0 0))=some r:=h
 clear h
 replace H:=bindA H
 obtain⟨t681,A2,H⟩:=H
 try dsimp only at H
 obtain⟨y684,hy684⟩:∃ y_:List Bool,y_=(([]:List Bool)):=⟨_,rfl⟩
 replace H:(windroseref18_Bits.l0 k l0 t681 y684 0 0)=some r:=by first|(rw [hy684];with_reducible exact H)|(have H2_:=(Option.bind_some _ _).symm.trans H;rw [hy684];with_reducible exact H2_)|(have H2_:=(Option.bind_some _ _).symm.trans H;with_reducible exact H2_)|with_reducible exact H|(rw [hy684];exact H)|exact H
 have Ny684:=Aside0.mk hy684
 clear hy684
 have H':=Aside0.mk H
 clear H
 go_enter Try.func74,Try.ntmps74
 go_wp2_with (first|(go_at_call 87;(with_reducible refine(windroseref11_Nums.calls k _ _ l0 t681 _ ?side1 ?side2 A2.out).mono ?_);(case side1=>exact cc_ HR0);(case side2=>exact HC0.out);rintro e w3 ⟨v682,rfl,ho0,hb⟩;have n_:=pk2 (Kd.R_lower ho0 (below_size bl_)) (below_step bl_ hb);clear HB;obtain⟨HO683,HB⟩:=n_;(try clear hb ho0))|((with_reducible refine gate_dst (N:=12) rfl ?_);refine Kd.R_lit Kd.bool _ 4 ?hg (N:=12) ?hd (xs:=([]:List Bool)) (inner:=[]) (ok:=fun _=>True) (okp:=fun _=>True) ?hr ?hp (fun _ hk=>hk) trivial (Below.refl _ _) (Nat.le_refl _) (by simp) ?_;(case hd=>rfl);(case hg=>rfl);(case hr=>first|(go_simp;done)|(go_simp;rfl));(case hp=>exact(Reps.none _ _));intro v685 w4 ho5 hb hg_ hnew_;clear hg_ hnew_;(first|rw [←Ny684.out] at ho5|(simp only [Int.reduceToNat] at ho5;rw [←Ny684.out] at ho5));have n_:=pk3 (Kd.R_below (ro_ HO683) hb) (Kd.R_lower ho5 (below_size bl_)) (below_step bl_ hb);clear HO683 HB;obtain⟨HO683,HO686,HB⟩:=n_;clear hb ho5))
 repeat(go_quiet (first|(go_at_call 87;(with_reducible refine(windroseref11_Nums.calls k _ _ l0 t681 _ ?side1 ?side2 A2.out).mono ?_);(case side1=>exact cc_ HR0);(case side2=>exact HC0.out);rintro e w3 ⟨v682,rfl,ho0,hb⟩;have n_:=pk2 (Kd.R_lower ho0 (below_size bl_)) (below_step bl_ hb);clear HB;obtain⟨HO683,HB⟩:=n_;(try clear hb ho0))|((with_reducible refine gate_dst (N:=12) rfl ?_);refine Kd.R_lit Kd.bool _ 4 ?hg (N:=12) ?hd (xs:=([]:List Bool)) (inner:=[]) (ok:=fun _=>True) (okp:=fun _=>True) ?hr ?hp (fun _ hk=>hk) trivial (Below.refl _ _) (Nat.le_refl _) (by simp) ?_;(case hd=>rfl);(case hg=>rfl);(case hr=>first|(go_simp;done)|(go_simp;rfl));(case hp=>exact(Reps.none _ _));intro v685 w4 ho5 hb hg_ hnew_;clear hg_ hnew_;(first|rw [←Ny684.out] at ho5|(simp only [Int.reduceToNat] at ho5;rw [←Ny684.out] at ho5));have n_:=pk3 (Kd.R_below (ro_ HO683) hb) (Kd.R_lower ho5 (below_size bl_)) (below_step bl_ hb);clear HO683 HB;obtain⟨HO683,HO686,HB⟩:=n_;clear hb ho5));try go_wp2_with (first|(go_at_call 87;(with_reducible refine(windroseref11_Nums.calls k _ _ l0 t681 _ ?side1 ?side2 A2.out).mono ?_);(case side1=>exact cc_ HR0);(case side2=>exact HC0.out);rintro e w3 ⟨v682,rfl,ho0,hb⟩;have n_:=pk2 (Kd.R_lower ho0 (below_size bl_)) (below_step bl_ hb);clear HB;obtain⟨HO683,HB⟩:=n_;(try clear hb ho0))|((with_reducible refine gate_dst (N:=12) rfl ?_);refine Kd.R_lit Kd.bool _ 4 ?hg (N:=12) ?hd (xs:=([]:List Bool)) (inner:=[]) (ok:=fun _=>True) (okp:=fun _=>True) ?hr ?hp (fun _ hk=>hk) trivial (Below.refl _ _) (Nat.le_refl _) (by simp) ?_;(case hd=>rfl);(case hg=>rfl);(case hr=>first|(go_simp;done)|(go_simp;rfl));(case hp=>exact(Reps.none _ _));intro v685 w4 ho5 hb hg_ hnew_;clear hg_ hnew_;(first|rw [←Ny684.out] at ho5|(simp only [Int.reduceToNat] at ho5;rw [←Ny684.out] at ho5));have n_:=pk3 (Kd.R_below (ro_ HO683) hb) (Kd.R_lower ho5 (below_size bl_)) (below_step bl_ hb);clear HO683 HB;obtain⟨HO683,HO686,HB⟩:=n_;clear hb ho5)))
 go_loopg [4,5,6] k (fun kq v4 v5 v6 w'=>∃ (x4_1:List Bool) (x5_1:Int) (x6_1:Int),v5=.int .i64 x5_1∧v6=.int .i64 x6_1∧Aside0 (windroseref18_Bits.l0 kq l0 t681 x4_1 x5_1 x6_1=some r)∧Aside0 (kq≤k)∧Aside0 (Kd.R (Kd.int .i64) 3 w' w.heap.size (fun _=>True) v682 t681)∧Aside0 (Kd.R Kd.bool 4 w' w.heap.size (fun _=>True) v4 x4_1)∧Aside0 (Below w.heap.size w w'))
 case atStart=>exact⟨(y684),(0),(0),sm_,sm_,H',⟨Nat.le_refl _⟩,⟨(ro_ HO683)⟩,⟨(ro_ HO686)⟩,⟨bl_⟩⟩
 case round =>
  clear H'
  obtain⟨x4_1,x5_1,x6_1,rfl,rfl,HA,HK1,HO_3,HO_4,HB⟩:=hrel
  cases gk with
  |zero=>exact absurd HA.out (by simp [windroseref18_Bits.l0])
  |succ k1 =>
   have H:=HA.out
   clear HA
   simp only [windroseref18_Bits.l0] at H
   replace H:=dle H
   rcases H with⟨c6b0,H⟩|⟨c6b0,H⟩
   ·obtain⟨ji7,hji7⟩:∃ j_:Int,(wrap64 (1+(wrap64 (2*x6_1))))=j_:=⟨_,rfl⟩
    replace H:(if 0≤(ji7)then(if(ji7)<(t681.length:Int)then(if 0≤(wrap64 (2+(wrap64 (2*x6_1))))then(if(wrap64 (2+(wrap64 (2*x6_1))))<(t681.length:Int)then(if x6_1<2 then(windroseref18_Bits.j1 k1 l0 t681 x4_1 x5_1 x6_1 (rd t681 (ji7)) (rd t681 (wrap64 (2+(wrap64 (2*x6_1))))) true)else(if(rd t681 (ji7))=0 then(windroseref18_Bits.j1 k1 l0 t681 x4_1 x5_1 x6_1 (rd t681 (ji7)) (rd t681 (wrap64 (2+(wrap64 (2*x6_1))))) ((rd t681 (wrap64 (2+(wrap64 (2*x6_1))))) != 0))else(windroseref18_Bits.j1 k1 l0 t681 x4_1 x5_1 x6_1 (rd t681 (ji7)) (rd t681 (wrap64 (2+(wrap64 (2*x6_1))))) true)))else(none))else(none))else(none))else(none))=some r:=by first|(rw [hji7] at H;exact H)|(simp only [hji7] at H ⊢;exact H)
    have hji7w:(IntKind.i64.wrap (1+(wrap64 (2*x6_1))))=ji7:=(i64_w _).trans hji7
    replace H:=dle H
    rcases H with⟨c8b0,H⟩|⟨c8b0,H⟩
    ·replace H:=dle H
     rcases H with⟨c9b0,H⟩|⟨c9b0,H⟩
     ·obtain⟨ji10,hji10⟩:∃ j_:Int,(wrap64 (2+(wrap64 (2*x6_1))))=j_:=⟨_,rfl⟩
      replace H:(if 0≤(ji10)then(if(ji10)<(t681.length:Int)then(if x6_1<2 then(windroseref18_Bits.j1 k1 l0 t681 x4_1 x5_1 x6_1 (rd t681 (ji7)) (rd t681 (ji10)) true)else(if(rd t681 (ji7))=0 then(windroseref18_Bits.j1 k1 l0 t681 x4_1 x5_1 x6_1 (rd t681 (ji7)) (rd t681 (ji10)) ((rd t681 (ji10)) != 0))else(windroseref18_Bits.j1 k1 l0 t681 x4_1 x5_1 x6_1 (rd t681 (ji7)) (rd t681 (ji10)) true)))else(none))else(none))=some r:=by first|(rw [hji10] at H;exact H)|(simp only [hji10] at H ⊢;exact H)
      have hji10w:(IntKind.i64.wrap (2+(wrap64 (2*x6_1))))=ji10:=(i64_w _).trans hji10
      replace H:=dle H
      rcases H with⟨c11b0,H⟩|⟨c11b0,H⟩
      ·replace H:=dle H
       rcases H with⟨c12b0,H⟩|⟨c12b0,H⟩
       ·have HC13:=Aside0.mk H
        clear H
        obtain⟨Ao14,co14,eo14⟩:=Kd.R_slice HO_3.out
        subst eo14
        have p687:0≤((ji7):Int):=dc_
        have q687:(ji7)<(t681.length:Int):=dc_
        obtain⟨ad687,e687,hx687_0⟩:=Kd.at_int (Kd.R_reads' HO_3.out).2.2 (ji7) p687 q687
        cases e687
        replace p687:=eq_true p687
        replace q687:=eq_true q687
        have p688:0≤((ji10):Int):=dc_
        have q688:(ji10)<(t681.length:Int):=dc_
        obtain⟨ad688,e688,hx688_0⟩:=Kd.at_int (Kd.R_reads' HO_3.out).2.2 (ji10) p688 q688
        obtain rfl:ad687=ad688:=(by injection e688)
        replace p688:=eq_true p688
        replace q688:=eq_true q688
        go_upto_region 8 with(fail)
        repeat(go_quiet (fail);go_upto_region 8 with(fail))
        go_cut [40] (fun v40 wc=>∃ (kq:Nat) (x40_12:Bool),v40=.bool x40_12∧Aside0 (windroseref18_Bits.j1 kq l0 t681 x4_1 x5_1 x6_1 (rd t681 (ji7)) (rd t681 (ji10)) x40_12=some r)∧Aside0 (kq≤k1)∧Aside0 (Kd.R (Kd.int .i64) 3 wc w.heap.size (fun _=>True) (.slice (some ad687) t681.length co14) t681)∧Aside0 (Kd.R Kd.bool 4 wc w.heap.size (fun _=>True) u4 x4_1)∧Aside0 (Below w.heap.size w wc))
        case first =>
         have H:=HC13.out
         clear HC13
         replace H:=dle H
         rcases H with⟨c15b0,H⟩|⟨c15b0,H⟩
         focus
          (first|rw [c15b0]|(simp only [i64_w,i32_w];rw [c15b0])|skip)
          have H':=Aside0.mk H
          clear H
         rotate_left
         focus
          (first|rw [c15b0]|(simp only [i64_w,i32_w];rw [c15b0])|skip)
          replace H:=deqn H
          rcases H with⟨c16b0,c16b1,H⟩|⟨c16b0,c16b1,c16,H⟩
          focus
           have H':=Aside0.mk H
           clear H
          rotate_left
          focus
           have H':=Aside0.mk H
           clear H
         all_goals
          go_wp2
          repeat(go_quiet (fail);try go_wp2)
          go_meet
          first
           |case rel=>exact⟨_,(true),sm_,H',⟨by have:=HK1.out;first|omega|exact Nat.le_refl _⟩,⟨(ro_ HO_3)⟩,⟨(ro_ HO_4)⟩,⟨bl_⟩⟩
           |case rel=>exact⟨_,(((rd t681 (ji10)) != 0)),(by first|rfl|(simp;done)|(simp only [←hji10]<;>(first|rfl|simp))|(simp [*];done)),H',⟨by have:=HK1.out;first|omega|exact Nat.le_refl _⟩,⟨(ro_ HO_3)⟩,⟨(ro_ HO_4)⟩,⟨bl_⟩⟩
        case rest =>
         clear HC13
         try clear c6
         try clear c6b0
         try clear c8
         try clear c8b0
         try clear c9
         try clear c9b0
         try clear c11
         try clear c11b0
         try clear c12
         try clear c12b0
         try clear hx687_0
         try clear hx688_0
         try clear p687
         try clear p688
         try clear q687
         try clear q688
         obtain⟨kq,x40_12,rfl,HA,HJ12,HO_3,HO_4,HB⟩:=hcut
         cases kq with
         |zero=>exact absurd HA.out (by simp [windroseref18_Bits.j1])
         |succ kj12 =>
          have H:=HA.out
          clear HA
          simp only [windroseref18_Bits.j1] at H
          replace H:=dbool H
          rcases H with⟨rfl,H⟩|⟨rfl,H⟩
          focus
           replace H:=bindA H
           obtain⟨t689,A18,H⟩:=H
           try dsimp only at H
           by_cases c19:x4_1.length+t689.length<140737488355328
           rotate_left
           ·rw [if_neg c19] at H
            exact absurd H (by simp)
           rw [if_pos c19] at H
           have LMc19:=Aside0.mk c19
           clear c19
           obtain⟨y692,hy692⟩:∃ y_:List Bool,y_=(x4_1++t689):=⟨_,rfl⟩
           replace H:((windroseref17_Coded.f kj12 (rd t681 (ji10))).bind fun t695=>(if y692.length+t695.length<140737488355328 then(windroseref18_Bits.l0 kj12 l0 t681 (y692++t695) x5_1 (wrap64 (x6_1+1)))else(none)))=some r:=by first|(rw [hy692];with_reducible exact H)|(have H2_:=(Option.bind_some _ _).symm.trans H;rw [hy692];with_reducible exact H2_)|(have H2_:=(Option.bind_some _ _).symm.trans H;with_reducible exact H2_)|with_reducible exact H|(rw [hy692];exact H)|exact H
           have Ny692:=Aside0.mk hy692
           clear hy692
           replace H:=bindA H
           obtain⟨t695,A20,H⟩:=H
           try dsimp only at H
           by_cases c21:y692.length+t695.length<140737488355328
           rotate_left
           ·rw [if_neg c21] at H
            exact absurd H (by simp)
           rw [if_pos c21] at H
           have LMc21:=Aside0.mk c21
           clear c21
           obtain⟨y698,hy698⟩:∃ y_:List Bool,y_=(y692++t695):=⟨_,rfl⟩
           replace H:(windroseref18_Bits.l0 kj12 l0 t681 y698 x5_1 (wrap64 (x6_1+1)))=some r:=by first|(rw [hy698];with_reducible exact H)|(have H2_:=(Option.bind_some _ _).symm.trans H;rw [hy698];with_reducible exact H2_)|(have H2_:=(Option.bind_some _ _).symm.trans H;with_reducible exact H2_)|with_reducible exact H|(rw [hy698];exact H)|exact H
           have Ny698:=Aside0.mk hy698
           clear hy698
           have H':=Aside0.mk H
           clear H
          rotate_left
          focus
           replace H:=dgt H
           rcases H with⟨c28b0,H⟩|⟨c28b0,H⟩
           rotate_left
           ·have H':=Aside0.mk H
            clear H
            go_wp2
            repeat(go_quiet (fail);try go_wp2)
            go_loopg [9] kj12 (fun kq v9 w'=>∃ (x9_3:Int),v9=.int .i64 x9_3∧Aside0 (windroseref18_Bits.l1 kq l0 t681 x4_1 x6_1 x9_3=some r)∧Aside0 (kq≤kj12)∧Aside0 (Kd.R (Kd.int .i64) 3 w' w.heap.size (fun _=>True) (.slice (some ad687) t681.length co14) t681)∧Aside0 (Kd.R Kd.bool 4 w' w.heap.size (fun _=>True) u4 x4_1)∧Aside0 (Below w.heap.size w w'))
            case atStart=>exact⟨(x6_1),sm_,H',⟨Nat.le_refl _⟩,⟨(ro_ HO_3)⟩,⟨(ro_ HO_4)⟩,⟨bl_⟩⟩
            case round =>
             clear H'
             try clear c6
             try clear c6b0
             try clear c8
             try clear c8b0
             try clear c9
             try clear c9b0
             try clear c11
             try clear c11b0
             try clear c12
             try clear c12b0
             try clear c17
             try clear c28
             try clear c28b0
             try clear hx687_0
             try clear hx688_0
             try clear p687
             try clear p688
             try clear q687
             try clear q688
             obtain⟨x9_3,rfl,HA,HK3,HO_3,HO_4,HB⟩:=hrel
             cases gk with
             |zero=>exact absurd HA.out (by simp [windroseref18_Bits.l1])
             |succ k3 =>
              have H:=HA.out
              clear HA
              simp only [windroseref18_Bits.l1] at H
              replace H:=dle H
              rcases H with⟨c29b0,H⟩|⟨c29b0,H⟩
              focus
               obtain⟨ji30,hji30⟩:∃ j_:Int,(wrap64 (1+(wrap64 (2*x9_3))))=j_:=⟨_,rfl⟩
               replace H:(if 0≤(ji30)then(if(ji30)<(t681.length:Int)then(if(rd t681 (ji30))=0 then(if 0≤(wrap64 (2+(wrap64 (2*x9_3))))then(if(wrap64 (2+(wrap64 (2*x9_3))))<(t681.length:Int)then(if(rd t681 (wrap64 (2+(wrap64 (2*x9_3)))))=0 then(if x9_3<(wrap64 (x6_1+16))then(windroseref18_Bits.l1 k3 l0 t681 x4_1 x6_1 (wrap64 (x9_3+1)))else((some (([false,false]:List Bool):List Bool)).bind fun y703=>(if x4_1.length+y703.length<140737488355328 then((some (x4_1++y703:List Bool)).bind fun y706=>((windroseref17_Low.f k3 (IntKind.u64.wrap (wrap64 ((wrap64 (x9_3 - x6_1)) - 1))) 4).bind fun t709=>(if y706.length+t709.length<140737488355328 then(windroseref18_Bits.l0 k3 l0 t681 (y706++t709) (wrap64 ((wrap64 (x9_3 - x6_1)) - 1)) (wrap64 (x6_1+1)))else(none))))else(none))))else((some (([false,false]:List Bool):List Bool)).bind fun y715=>(if x4_1.length+y715.length<140737488355328 then((some (x4_1++y715:List Bool)).bind fun y718=>((windroseref17_Low.f k3 (IntKind.u64.wrap (wrap64 ((wrap64 (x9_3 - x6_1)) - 1))) 4).bind fun t721=>(if y718.length+t721.length<140737488355328 then(windroseref18_Bits.l0 k3 l0 t681 (y718++t721) (wrap64 ((wrap64 (x9_3 - x6_1)) - 1)) (wrap64 (x6_1+1)))else(none))))else(none))))else(none))else(none))else((some (([false,false]:List Bool):List Bool)).bind fun y727=>(if x4_1.length+y727.length<140737488355328 then((some (x4_1++y727:List Bool)).bind fun y730=>((windroseref17_Low.f k3 (IntKind.u64.wrap (wrap64 ((wrap64 (x9_3 - x6_1)) - 1))) 4).bind fun t733=>(if y730.length+t733.length<140737488355328 then(windroseref18_Bits.l0 k3 l0 t681 (y730++t733) (wrap64 ((wrap64 (x9_3 - x6_1)) - 1)) (wrap64 (x6_1+1)))else(none))))else(none))))else(none))else(none))=some r:=by first|(rw [hji30] at H;exact H)|(simp only [hji30] at H ⊢;exact H)
               have hji30w:(IntKind.i64.wrap (1+(wrap64 (2*x9_3))))=ji30:=(i64_w _).trans hji30
               replace H:=dle H
               rcases H with⟨c31b0,H⟩|⟨c31b0,H⟩
               rotate_left
               ·exact absurd H (by simp)
               replace H:=dle H
               rcases H with⟨c32b0,H⟩|⟨c32b0,H⟩
               rotate_left
               ·exact absurd H (by simp)
               replace H:=deqn H
               rcases H with⟨c33b0,c33b1,H⟩|⟨c33b0,c33b1,c33,H⟩
               focus
                obtain⟨ji34,hji34⟩:∃ j_:Int,(wrap64 (2+(wrap64 (2*x9_3))))=j_:=⟨_,rfl⟩
                replace H:(if 0≤(ji34)then(if(ji34)<(t681.length:Int)then(if(rd t681 (ji34))=0 then(if x9_3<(wrap64 (x6_1+16))then(windroseref18_Bits.l1 k3 l0 t681 x4_1 x6_1 (wrap64 (x9_3+1)))else((some (([false,false]:List Bool):List Bool)).bind fun y703=>(if x4_1.length+y703.length<140737488355328 then((some (x4_1++y703:List Bool)).bind fun y706=>((windroseref17_Low.f k3 (IntKind.u64.wrap (wrap64 ((wrap64 (x9_3 - x6_1)) - 1))) 4).bind fun t709=>(if y706.length+t709.length<140737488355328 then(windroseref18_Bits.l0 k3 l0 t681 (y706++t709) (wrap64 ((wrap64 (x9_3 - x6_1)) - 1)) (wrap64 (x6_1+1)))else(none))))else(none))))else((some (([false,false]:List Bool):List Bool)).bind fun y715=>(if x4_1.length+y715.length<140737488355328 then((some (x4_1++y715:List Bool)).bind fun y718=>((windroseref17_Low.f k3 (IntKind.u64.wrap (wrap64 ((wrap64 (x9_3 - x6_1)) - 1))) 4).bind fun t721=>(if y718.length+t721.length<140737488355328 then(windroseref18_Bits.l0 k3 l0 t681 (y718++t721) (wrap64 ((wrap64 (x9_3 - x6_1)) - 1)) (wrap64 (x6_1+1)))else(none))))else(none))))else(none))else(none))=some r:=by first|(rw [hji34] at H;exact H)|(simp only [hji34] at H ⊢;exact H)
                have hji34w:(IntKind.i64.wrap (2+(wrap64 (2*x9_3))))=ji34:=(i64_w _).trans hji34
                replace H:=dle H
                rcases H with⟨c35b0,H⟩|⟨c35b0,H⟩
                rotate_left
                ·exact absurd H (by simp)
                replace H:=dle H
                rcases H with⟨c36b0,H⟩|⟨c36b0,H⟩
                rotate_left
                ·exact absurd H (by simp)
                replace H:=deqn H
                rcases H with⟨c37b0,c37b1,H⟩|⟨c37b0,c37b1,c37,H⟩
                focus
                 replace H:=dle H
                 rcases H with⟨c38b0,H⟩|⟨c38b0,H⟩
                 focus
                  have H':=Aside0.mk H
                  clear H
                  have p701:0≤((ji30):Int):=dc_
                  have q701:(ji30)<(t681.length:Int):=dc_
                  obtain⟨ad701,e701,hx701_0⟩:=Kd.at_int (Kd.R_reads' HO_3.out).2.2 (ji30) p701 q701
                  obtain rfl:ad687=ad701:=(by injection e701)
                  replace p701:=eq_true p701
                  replace q701:=eq_true q701
                  have p702:0≤((ji34):Int):=dc_
                  have q702:(ji34)<(t681.length:Int):=dc_
                  obtain⟨ad702,e702,hx702_0⟩:=Kd.at_int (Kd.R_reads' HO_3.out).2.2 (ji34) p702 q702
                  obtain rfl:ad687=ad702:=(by injection e702)
                  replace p702:=eq_true p702
                  replace q702:=eq_true q702
                 rotate_left
                 focus
                  obtain⟨y703,hy703⟩:∃ y_:List Bool,y_=(([false,false]:List Bool)):=⟨_,rfl⟩
                  replace H:(if x4_1.length+y703.length<140737488355328 then((some (x4_1++y703:List Bool)).bind fun y706=>((windroseref17_Low.f k3 (IntKind.u64.wrap (wrap64 ((wrap64 (x9_3 - x6_1)) - 1))) 4).bind fun t709=>(if y706.length+t709.length<140737488355328 then(windroseref18_Bits.l0 k3 l0 t681 (y706++t709) (wrap64 ((wrap64 (x9_3 - x6_1)) - 1)) (wrap64 (x6_1+1)))else(none))))else(none))=some r:=by first|(rw [hy703];with_reducible exact H)|(have H2_:=(Option.bind_some _ _).symm.trans H;rw [hy703];with_reducible exact H2_)|(have H2_:=(Option.bind_some _ _).symm.trans H;with_reducible exact H2_)|with_reducible exact H|(rw [hy703];exact H)|exact H
                  have Ny703:=Aside0.mk hy703
                  clear hy703
                  by_cases c39:x4_1.length+y703.length<140737488355328
                  rotate_left
                  ·rw [if_neg c39] at H
                   exact absurd H (by simp)
                  rw [if_pos c39] at H
                  have LMc39:=Aside0.mk c39
                  clear c39
                  obtain⟨y706,hy706⟩:∃ y_:List Bool,y_=(x4_1++y703):=⟨_,rfl⟩
                  replace H:((windroseref17_Low.f k3 (IntKind.u64.wrap (wrap64 ((wrap64 (x9_3 - x6_1)) - 1))) 4).bind fun t709=>(if y706.length+t709.length<140737488355328 then(windroseref18_Bits.l0 k3 l0 t681 (y706++t709) (wrap64 ((wrap64 (x9_3 - x6_1)) - 1)) (wrap64 (x6_1+1)))else(none)))=some r:=by first|(rw [hy706];with_reducible exact H)|(have H2_:=(Option.bind_some _ _).symm.trans H;rw [hy706];with_reducible exact H2_)|(have H2_:=(Option.bind_some _ _).symm.trans H;with_reducible exact H2_)|with_reducible exact H|(rw [hy706];exact H)|exact H
                  have Ny706:=Aside0.mk hy706
                  clear hy706
                  replace H:=bindA H
                  obtain⟨t709,A40,H⟩:=H
                  try dsimp only at H
                  by_cases c41:y706.length+t709.length<140737488355328
                  rotate_left
                  ·rw [if_neg c41] at H
                   exact absurd H (by simp)
                  rw [if_pos c41] at H
                  have LMc41:=Aside0.mk c41
                  clear c41
                  obtain⟨y712,hy712⟩:∃ y_:List Bool,y_=(y706++t709):=⟨_,rfl⟩
                  replace H:(windroseref18_Bits.l0 k3 l0 t681 y712 (wrap64 ((wrap64 (x9_3 - x6_1)) - 1)) (wrap64 (x6_1+1)))=some r:=by first|(rw [hy712];with_reducible exact H)|(have H2_:=(Option.bind_some _ _).symm.trans H;rw [hy712];with_reducible exact H2_)|(have H2_:=(Option.bind_some _ _).symm.trans H;with_reducible exact H2_)|with_reducible exact H|(rw [hy712];exact H)|exact H
                  have Ny712:=Aside0.mk hy712
                  clear hy712
                  have H':=Aside0.mk H
                  clear H
                  have p701:0≤((ji30):Int):=dc_
                  have q701:(ji30)<(t681.length:Int):=dc_
                  obtain⟨ad701,e701,hx701_0⟩:=Kd.at_int (Kd.R_reads' HO_3.out).2.2 (ji30) p701 q701
                  obtain rfl:ad687=ad701:=(by injection e701)
                  replace p701:=eq_true p701
                  replace q701:=eq_true q701
                  have p702:0≤((ji34):Int):=dc_
                  have q702:(ji34)<(t681.length:Int):=dc_
                  obtain⟨ad702,e702,hx702_0⟩:=Kd.at_int (Kd.R_reads' HO_3.out).2.2 (ji34) p702 q702
                  obtain rfl:ad687=ad702:=(by injection e702)
                  replace p702:=eq_true p702
                  replace q702:=eq_true q702
                rotate_left 2
                focus
                 obtain⟨y715,hy715⟩:∃ y_:List Bool,y_=(([false,false]:List Bool)):=⟨_,rfl⟩
                 replace H:(if x4_1.length+y715.length<140737488355328 then((some (x4_1++y715:List Bool)).bind fun y718=>((windroseref17_Low.f k3 (IntKind.u64.wrap (wrap64 ((wrap64 (x9_3 - x6_1)) - 1))) 4).bind fun t721=>(if y718.length+t721.length<140737488355328 then(windroseref18_Bits.l0 k3 l0 t681 (y718++t721) (wrap64 ((wrap64 (x9_3 - x6_1)) - 1)) (wrap64 (x6_1+1)))else(none))))else(none))=some r:=by first|(rw [hy715];with_reducible exact H)|(have H2_:=(Option.bind_some _ _).symm.trans H;rw [hy715];with_reducible exact H2_)|(have H2_:=(Option.bind_some _ _).symm.trans H;with_reducible exact H2_)|with_reducible exact H|(rw [hy715];exact H)|exact H
                 have Ny715:=Aside0.mk hy715
                 clear hy715
                 by_cases c49:x4_1.length+y715.length<140737488355328
                 rotate_left
                 ·rw [if_neg c49] at H
                  exact absurd H (by simp)
                 rw [if_pos c49] at H
                 have LMc49:=Aside0.mk c49
                 clear c49
                 obtain⟨y718,hy718⟩:∃ y_:List Bool,y_=(x4_1++y715):=⟨_,rfl⟩
                 replace H:((windroseref17_Low.f k3 (IntKind.u64.wrap (wrap64 ((wrap64 (x9_3 - x6_1)) - 1))) 4).bind fun t721=>(if y718.length+t721.length<140737488355328 then(windroseref18_Bits.l0 k3 l0 t681 (y718++t721) (wrap64 ((wrap64 (x9_3 - x6_1)) - 1)) (wrap64 (x6_1+1)))else(none)))=some r:=by first|(rw [hy718];with_reducible exact H)|(have H2_:=(Option.bind_some _ _).symm.trans H;rw [hy718];with_reducible exact H2_)|(have H2_:=(Option.bind_some _ _).symm.trans H;with_reducible exact H2_)|with_reducible exact H|(rw [hy718];exact H)|exact H
                 have Ny718:=Aside0.mk hy718
                 clear hy718
                 replace H:=bindA H
                 obtain⟨t721,A50,H⟩:=H
                 try dsimp only at H
                 by_cases c51:y718.length+t721.length<140737488355328
                 rotate_left
                 ·rw [if_neg c51] at H
                  exact absurd H (by simp)
                 rw [if_pos c51] at H
                 have LMc51:=Aside0.mk c51
                 clear c51
                 obtain⟨y724,hy724⟩:∃ y_:List Bool,y_=(y718++t721):=⟨_,rfl⟩
                 replace H:(windroseref18_Bits.l0 k3 l0 t681 y724 (wrap64 ((wrap64 (x9_3 - x6_1)) - 1)) (wrap64 (x6_1+1)))=some r:=by first|(rw [hy724];with_reducible exact H)|(have H2_:=(Option.bind_some _ _).symm.trans H;rw [hy724];with_reducible exact H2_)|(have H2_:=(Option.bind_some _ _).symm.trans H;with_reducible exact H2_)|with_reducible exact H|(rw [hy724];exact H)|exact H
                 have Ny724:=Aside0.mk hy724
                 clear hy724
                 have H':=Aside0.mk H
                 clear H
                 have p701:0≤((ji30):Int):=dc_
                 have q701:(ji30)<(t681.length:Int):=dc_
                 obtain⟨ad701,e701,hx701_0⟩:=Kd.at_int (Kd.R_reads' HO_3.out).2.2 (ji30) p701 q701
                 obtain rfl:ad687=ad701:=(by injection e701)
                 replace p701:=eq_true p701
                 replace q701:=eq_true q701
                 have p702:0≤((ji34):Int):=dc_
                 have q702:(ji34)<(t681.length:Int):=dc_
                 obtain⟨ad702,e702,hx702_0⟩:=Kd.at_int (Kd.R_reads' HO_3.out).2.2 (ji34) p702 q702
                 obtain rfl:ad687=ad702:=(by injection e702)
                 replace p702:=eq_true p702
                 replace q702:=eq_true q702
               rotate_left 3
               focus
                obtain⟨y727,hy727⟩:∃ y_:List Bool,y_=(([false,false]:List Bool)):=⟨_,rfl⟩
                replace H:(if x4_1.length+y727.length<140737488355328 then((some (x4_1++y727:List Bool)).bind fun y730=>((windroseref17_Low.f k3 (IntKind.u64.wrap (wrap64 ((wrap64 (x9_3 - x6_1)) - 1))) 4).bind fun t733=>(if y730.length+t733.length<140737488355328 then(windroseref18_Bits.l0 k3 l0 t681 (y730++t733) (wrap64 ((wrap64 (x9_3 - x6_1)) - 1)) (wrap64 (x6_1+1)))else(none))))else(none))=some r:=by first|(rw [hy727];with_reducible exact H)|(have H2_:=(Option.bind_some _ _).symm.trans H;rw [hy727];with_reducible exact H2_)|(have H2_:=(Option.bind_some _ _).symm.trans H;with_reducible exact H2_)|with_reducible exact H|(rw [hy727];exact H)|exact H
                have Ny727:=Aside0.mk hy727
                clear hy727
                by_cases c59:x4_1.length+y727.length<140737488355328
                rotate_left
                ·rw [if_neg c59] at H
                 exact absurd H (by simp)
                rw [if_pos c59] at H
                have LMc59:=Aside0.mk c59
                clear c59
                obtain⟨y730,hy730⟩:∃ y_:List Bool,y_=(x4_1++y727):=⟨_,rfl⟩
                replace H:((windroseref17_Low.f k3 (IntKind.u64.wrap (wrap64 ((wrap64 (x9_3 - x6_1)) - 1))) 4).bind fun t733=>(if y730.length+t733.length<140737488355328 then(windroseref18_Bits.l0 k3 l0 t681 (y730++t733) (wrap64 ((wrap64 (x9_3 - x6_1)) - 1)) (wrap64 (x6_1+1)))else(none)))=some r:=by first|(rw [hy730];with_reducible exact H)|(have H2_:=(Option.bind_some _ _).symm.trans H;rw [hy730];with_reducible exact H2_)|(have H2_:=(Option.bind_some _ _).symm.trans H;with_reducible exact H2_)|with_reducible exact H|(rw [hy730];exact H)|exact H
                have Ny730:=Aside0.mk hy730
                clear hy730
                replace H:=bindA H
                obtain⟨t733,A60,H⟩:=H
                try dsimp only at H
                by_cases c61:y730.length+t733.length<140737488355328
                rotate_left
                ·rw [if_neg c61] at H
                 exact absurd H (by simp)
                rw [if_pos c61] at H
                have LMc61:=Aside0.mk c61
                clear c61
                obtain⟨y736,hy736⟩:∃ y_:List Bool,y_=(y730++t733):=⟨_,rfl⟩
                replace H:(windroseref18_Bits.l0 k3 l0 t681 y736 (wrap64 ((wrap64 (x9_3 - x6_1)) - 1)) (wrap64 (x6_1+1)))=some r:=by first|(rw [hy736];with_reducible exact H)|(have H2_:=(Option.bind_some _ _).symm.trans H;rw [hy736];with_reducible exact H2_)|(have H2_:=(Option.bind_some _ _).symm.trans H;with_reducible exact H2_)|with_reducible exact H|(rw [hy736];exact H)|exact H
                have Ny736:=Aside0.mk hy736
                clear hy736
                have H':=Aside0.mk H
                clear H
                have p701:0≤((ji30):Int):=dc_
                have q701:(ji30)<(t681.length:Int):=dc_
                obtain⟨ad701,e701,hx701_0⟩:=Kd.at_int (Kd.R_reads' HO_3.out).2.2 (ji30) p701 q701
                obtain rfl:ad687=ad701:=(by injection e701)
                replace p701:=eq_true p701
                replace q701:=eq_true q701
              rotate_left 4
              focus
               obtain⟨y739,hy739⟩:∃ y_:List Bool,y_=(([false,false]:List Bool)):=⟨_,rfl⟩
               replace H:(if x4_1.length+y739.length<140737488355328 then((some (x4_1++y739:List Bool)).bind fun y742=>((windroseref17_Low.f k3 (IntKind.u64.wrap (wrap64 ((wrap64 (x9_3 - x6_1)) - 1))) 4).bind fun t745=>(if y742.length+t745.length<140737488355328 then(windroseref18_Bits.l0 k3 l0 t681 (y742++t745) (wrap64 ((wrap64 (x9_3 - x6_1)) - 1)) (wrap64 (x6_1+1)))else(none))))else(none))=some r:=by first|(rw [hy739];with_reducible exact H)|(have H2_:=(Option.bind_some _ _).symm.trans H;rw [hy739];with_reducible exact H2_)|(have H2_:=(Option.bind_some _ _).symm.trans H;with_reducible exact H2_)|with_reducible exact H|(rw [hy739];exact H)|exact H
               have Ny739:=Aside0.mk hy739
               clear hy739
               by_cases c69:x4_1.length+y739.length<140737488355328
               rotate_left
               ·rw [if_neg c69] at H
                exact absurd H (by simp)
               rw [if_pos c69] at H
               have LMc69:=Aside0.mk c69
               clear c69
               obtain⟨y742,hy742⟩:∃ y_:List Bool,y_=(x4_1++y739):=⟨_,rfl⟩
               replace H:((windroseref17_Low.f k3 (IntKind.u64.wrap (wrap64 ((wrap64 (x9_3 - x6_1)) - 1))) 4).bind fun t745=>(if y742.length+t745.length<140737488355328 then(windroseref18_Bits.l0 k3 l0 t681 (y742++t745) (wrap64 ((wrap64 (x9_3 - x6_1)) - 1)) (wrap64 (x6_1+1)))else(none)))=some r:=by first|(rw [hy742];with_reducible exact H)|(have H2_:=(Option.bind_some _ _).symm.trans H;rw [hy742];with_reducible exact H2_)|(have H2_:=(Option.bind_some _ _).symm.trans H;with_reducible exact H2_)|with_reducible exact H|(rw [hy742];exact H)|exact H
               have Ny742:=Aside0.mk hy742
               clear hy742
               replace H:=bindA H
               obtain⟨t745,A70,H⟩:=H
               try dsimp only at H
               by_cases c71:y742.length+t745.length<140737488355328
               rotate_left
               ·rw [if_neg c71] at H
                exact absurd H (by simp)
               rw [if_pos c71] at H
               have LMc71:=Aside0.mk c71
               clear c71
               obtain⟨y748,hy748⟩:∃ y_:List Bool,y_=(y742++t745):=⟨_,rfl⟩
               replace H:(windroseref18_Bits.l0 k3 l0 t681 y748 (wrap64 ((wrap64 (x9_3 - x6_1)) - 1)) (wrap64 (x6_1+1)))=some r:=by first|(rw [hy748];with_reducible exact H)|(have H2_:=(Option.bind_some _ _).symm.trans H;rw [hy748];with_reducible exact H2_)|(have H2_:=(Option.bind_some _ _).symm.trans H;with_reducible exact H2_)|with_reducible exact H|(rw [hy748];exact H)|exact H
               have Ny748:=Aside0.mk hy748
               clear hy748
               have H':=Aside0.mk H
               clear H
              all_goals
               go_wp2_with (first|((with_reducible refine gate_dst (N:=89) rfl ?_);refine Kd.R_lit Kd.bool _ 4 ?hg (N:=89) ?hd (xs:=([false,false]:List Bool)) (inner:=[.bool false,.bool false]) (ok:=fun _=>True) (okp:=fun _=>True) ?hr ?hp (fun _ hk=>hk) trivial (Below.refl _ _) (Nat.le_refl _) (by simp) ?_;(case hd=>rfl);(case hg=>rfl);(case hr=>first|(go_simp;done)|(go_simp;rfl));(case hp=>exact(Reps.one (show Kd.M Kd.bool _ _ _ false [.bool false] from rfl) (Reps.one (show Kd.M Kd.bool _ _ _ false [.bool false] from rfl) (Reps.none _ _))));intro v7000 w7000 ho7000 hb hg_ hnew_;clear hg_ hnew_;(try((first|rw [←Ny703.out] at ho7000|(simp only [Int.reduceToNat] at ho7000;rw [←Ny703.out] at ho7000));have n_:=pk4 (Kd.R_below (ro_ HO_3) hb) (Kd.R_elder' (ro_ HO_4) (Kd.R_base ho7000) hb) (Kd.R_lower (Kd.R_new' ho7000 (Kd.R_lt (ro_ HO_4))) (below_size bl_)) (below_step bl_ hb);clear HO_3 HO_4 HB;obtain⟨HO_3,HO_4,HO7000,HB⟩:=n_;clear hb ho7000;obtain⟨Ao7000,co7000,eo7000⟩:=Kd.R_slice HO7000.out;subst eo7000));(try((first|rw [←Ny715.out] at ho7000|(simp only [Int.reduceToNat] at ho7000;rw [←Ny715.out] at ho7000));have n_:=pk4 (Kd.R_below (ro_ HO_3) hb) (Kd.R_elder' (ro_ HO_4) (Kd.R_base ho7000) hb) (Kd.R_lower (Kd.R_new' ho7000 (Kd.R_lt (ro_ HO_4))) (below_size bl_)) (below_step bl_ hb);clear HO_3 HO_4 HB;obtain⟨HO_3,HO_4,HO7000,HB⟩:=n_;clear hb ho7000;obtain⟨Ao7000,co7000,eo7000⟩:=Kd.R_slice HO7000.out;subst eo7000));(try((first|rw [←Ny727.out] at ho7000|(simp only [Int.reduceToNat] at ho7000;rw [←Ny727.out] at ho7000));have n_:=pk4 (Kd.R_below (ro_ HO_3) hb) (Kd.R_elder' (ro_ HO_4) (Kd.R_base ho7000) hb) (Kd.R_lower (Kd.R_new' ho7000 (Kd.R_lt (ro_ HO_4))) (below_size bl_)) (below_step bl_ hb);clear HO_3 HO_4 HB;obtain⟨HO_3,HO_4,HO7000,HB⟩:=n_;clear hb ho7000;obtain⟨Ao7000,co7000,eo7000⟩:=Kd.R_slice HO7000.out;subst eo7000));(try((first|rw [←Ny739.out] at ho7000|(simp only [Int.reduceToNat] at ho7000;rw [←Ny739.out] at ho7000));have n_:=pk4 (Kd.R_below (ro_ HO_3) hb) (Kd.R_elder' (ro_ HO_4) (Kd.R_base ho7000) hb) (Kd.R_lower (Kd.R_new' ho7000 (Kd.R_lt (ro_ HO_4))) (below_size bl_)) (below_step bl_ hb);clear HO_3 HO_4 HB;obtain⟨HO_3,HO_4,HO7000,HB⟩:=n_;clear hb ho7000;obtain⟨Ao7000,co7000,eo7000⟩:=Kd.R_slice HO7000.out;subst eo7000)))|((with_reducible refine gate_builtin (b:=.append) (xs:=#[.tmp 88,.tmp 89]) rfl ?_);at_builtin;refine Kd.R_append_rows Kd.bool (w0:=w) w.heap.size rfl (.tmp 88) (.tmp 89) 39 4 (.bool false) 1 rfl Try.underlying39 info4 rfl (by decide) (by omega) u4 x4_1 y703 _ _ _ (fun k_=>some k_≠(.slice Ao7000 y703.length co7000:Value).ownBlock) (fun _=>False) rfl rfl ?aO ?aR (fun _ _ h=>h) (fun _ h=>h.elim) ?aF ?aB ?aS ?aL ?_;(case aR=>exact cr_ HO7000);(case aB=>exact bl_);(case aF=>exact(fun k_ hk=>Kd.fresh' (Kd.R_lt (ro_ HO7000)) k_ hk));(case aO=>exact(rt_ (Kd.R_mono HO_4.out (fun _ hk=>hk.2))));(case aS=>exact(below_size bl_));(case aL=>have:=LMc39.out;omega);intro v7001 w7001 ho hb hg hat;rw [←Ny706.out] at ho;have n_:=pk4 (Kd.R_over' (ro_ HO_3) (Kd.R_typed (ro_ HO_4)) (by decide) hg) (Kd.R_after (ok:=(fun _=>True)) (ro_ HO7000) hg hat) (hb) (ho);clear HO_3 HO7000 HB HO_4;obtain⟨HO_3,HO7000,HB,HO7001⟩:=n_;clear ho hb hg hat)|((with_reducible refine gate_builtin (b:=.append) (xs:=#[.tmp 88,.tmp 89]) rfl ?_);at_builtin;refine Kd.R_append_rows Kd.bool (w0:=w) w.heap.size rfl (.tmp 88) (.tmp 89) 39 4 (.bool false) 1 rfl Try.underlying39 info4 rfl (by decide) (by omega) u4 x4_1 y715 _ _ _ (fun k_=>some k_≠(.slice Ao7000 y715.length co7000:Value).ownBlock) (fun _=>False) rfl rfl ?aO ?aR (fun _ _ h=>h) (fun _ h=>h.elim) ?aF ?aB ?aS ?aL ?_;(case aR=>exact cr_ HO7000);(case aB=>exact bl_);(case aF=>exact(fun k_ hk=>Kd.fresh' (Kd.R_lt (ro_ HO7000)) k_ hk));(case aO=>exact(rt_ (Kd.R_mono HO_4.out (fun _ hk=>hk.2))));(case aS=>exact(below_size bl_));(case aL=>have:=LMc49.out;omega);intro v7001 w7001 ho hb hg hat;rw [←Ny718.out] at ho;have n_:=pk4 (Kd.R_over' (ro_ HO_3) (Kd.R_typed (ro_ HO_4)) (by decide) hg) (Kd.R_after (ok:=(fun _=>True)) (ro_ HO7000) hg hat) (hb) (ho);clear HO_3 HO7000 HB HO_4;obtain⟨HO_3,HO7000,HB,HO7001⟩:=n_;clear ho hb hg hat)|((with_reducible refine gate_builtin (b:=.append) (xs:=#[.tmp 88,.tmp 89]) rfl ?_);at_builtin;refine Kd.R_append_rows Kd.bool (w0:=w) w.heap.size rfl (.tmp 88) (.tmp 89) 39 4 (.bool false) 1 rfl Try.underlying39 info4 rfl (by decide) (by omega) u4 x4_1 y727 _ _ _ (fun k_=>some k_≠(.slice Ao7000 y727.length co7000:Value).ownBlock) (fun _=>False) rfl rfl ?aO ?aR (fun _ _ h=>h) (fun _ h=>h.elim) ?aF ?aB ?aS ?aL ?_;(case aR=>exact cr_ HO7000);(case aB=>exact bl_);(case aF=>exact(fun k_ hk=>Kd.fresh' (Kd.R_lt (ro_ HO7000)) k_ hk));(case aO=>exact(rt_ (Kd.R_mono HO_4.out (fun _ hk=>hk.2))));(case aS=>exact(below_size bl_));(case aL=>have:=LMc59.out;omega);intro v7001 w7001 ho hb hg hat;rw [←Ny730.out] at ho;have n_:=pk4 (Kd.R_over' (ro_ HO_3) (Kd.R_typed (ro_ HO_4)) (by decide) hg) (Kd.R_after (ok:=(fun _=>True)) (ro_ HO7000) hg hat) (hb) (ho);clear HO_3 HO7000 HB HO_4;obtain⟨HO_3,HO7000,HB,HO7001⟩:=n_;clear ho hb hg hat)|((with_reducible refine gate_builtin (b:=.append) (xs:=#[.tmp 88,.tmp 89]) rfl ?_);at_builtin;refine Kd.R_append_rows Kd.bool (w0:=w) w.heap.size rfl (.tmp 88) (.tmp 89) 39 4 (.bool false) 1 rfl Try.underlying39 info4 rfl (by decide) (by omega) u4 x4_1 y739 _ _ _ (fun k_=>some k_≠(.slice Ao7000 y739.length co7000:Value).ownBlock) (fun _=>False) rfl rfl ?aO ?aR (fun _ _ h=>h) (fun _ h=>h.elim) ?aF ?aB ?aS ?aL ?_;(case aR=>exact cr_ HO7000);(case aB=>exact bl_);(case aF=>exact(fun k_ hk=>Kd.fresh' (Kd.R_lt (ro_ HO7000)) k_ hk));(case aO=>exact(rt_ (Kd.R_mono HO_4.out (fun _ hk=>hk.2))));(case aS=>exact(below_size bl_));(case aL=>have:=LMc69.out;omega);intro v7001 w7001 ho hb hg hat;rw [←Ny742.out] at ho;have n_:=pk4 (Kd.R_over' (ro_ HO_3) (Kd.R_typed (ro_ HO_4)) (by decide) hg) (Kd.R_after (ok:=(fun _=>True)) (ro_ HO7000) hg hat) (hb) (ho);clear HO_3 HO7000 HB HO_4;obtain⟨HO_3,HO7000,HB,HO7001⟩:=n_;clear ho hb hg hat)|(go_at_call 35;(with_reducible refine(windroseref17_Low.calls k3 (IntKind.u64.wrap (wrap64 ((wrap64 (x9_3 - x6_1)) - 1))) 4 t709 _ A40.out).mono ?_);rintro e w7002 ⟨v7002,rfl,ho0,hb⟩;have n_:=pk5 (Kd.R_below (ro_ HO_3) hb) (Kd.R_elder' (ro_ HO7000) (Kd.R_base ho0) hb) (Kd.R_elder' (ro_ HO7001) (Kd.R_base ho0) hb) (Kd.R_lower (Kd.R_new' (Kd.R_new' ho0 (Kd.R_lt (ro_ HO7000))) (Kd.R_lt (ro_ HO7001))) (below_size bl_)) (below_step bl_ hb);clear HO_3 HO7000 HO7001 HB;obtain⟨HO_3,HO7000,HO7001,HO7002,HB⟩:=n_;(try clear hb ho0);obtain⟨Ao7001,co7001,eo7001⟩:=Kd.R_slice HO7002.out;subst eo7001)|(go_at_call 35;(with_reducible refine(windroseref17_Low.calls k3 (IntKind.u64.wrap (wrap64 ((wrap64 (x9_3 - x6_1)) - 1))) 4 t721 _ A50.out).mono ?_);rintro e w7002 ⟨v7002,rfl,ho0,hb⟩;have n_:=pk5 (Kd.R_below (ro_ HO_3) hb) (Kd.R_elder' (ro_ HO7000) (Kd.R_base ho0) hb) (Kd.R_elder' (ro_ HO7001) (Kd.R_base ho0) hb) (Kd.R_lower (Kd.R_new' (Kd.R_new' ho0 (Kd.R_lt (ro_ HO7000))) (Kd.R_lt (ro_ HO7001))) (below_size bl_)) (below_step bl_ hb);clear HO_3 HO7000 HO7001 HB;obtain⟨HO_3,HO7000,HO7001,HO7002,HB⟩:=n_;(try clear hb ho0);obtain⟨Ao7001,co7001,eo7001⟩:=Kd.R_slice HO7002.out;subst eo7001)|(go_at_call 35;(with_reducible refine(windroseref17_Low.calls k3 (IntKind.u64.wrap (wrap64 ((wrap64 (x9_3 - x6_1)) - 1))) 4 t733 _ A60.out).mono ?_);rintro e w7002 ⟨v7002,rfl,ho0,hb⟩;have n_:=pk5 (Kd.R_below (ro_ HO_3) hb) (Kd.R_elder' (ro_ HO7000) (Kd.R_base ho0) hb) (Kd.R_elder' (ro_ HO7001) (Kd.R_base ho0) hb) (Kd.R_lower (Kd.R_new' (Kd.R_new' ho0 (Kd.R_lt (ro_ HO7000))) (Kd.R_lt (ro_ HO7001))) (below_size bl_)) (below_step bl_ hb);clear HO_3 HO7000 HO7001 HB;obtain⟨HO_3,HO7000,HO7001,HO7002,HB⟩:=n_;(try clear hb ho0);obtain⟨Ao7001,co7001,eo7001⟩:=Kd.R_slice HO7002.out;subst eo7001)|(go_at_call 35;(with_reducible refine(windroseref17_Low.calls k3 (IntKind.u64.wrap (wrap64 ((wrap64 (x9_3 - x6_1)) - 1))) 4 t745 _ A70.out).mono ?_);rintro e w7002 ⟨v7002,rfl,ho0,hb⟩;have n_:=pk5 (Kd.R_below (ro_ HO_3) hb) (Kd.R_elder' (ro_ HO7000) (Kd.R_base ho0) hb) (Kd.R_elder' (ro_ HO7001) (Kd.R_base ho0) hb) (Kd.R_lower (Kd.R_new' (Kd.R_new' ho0 (Kd.R_lt (ro_ HO7000))) (Kd.R_lt (ro_ HO7001))) (below_size bl_)) (below_step bl_ hb);clear HO_3 HO7000 HO7001 HB;obtain⟨HO_3,HO7000,HO7001,HO7002,HB⟩:=n_;(try clear hb ho0);obtain⟨Ao7001,co7001,eo7001⟩:=Kd.R_slice HO7002.out;subst eo7001)|((with_reducible refine gate_builtin (b:=.append) (xs:=#[.tmp 91,.tmp 94]) rfl ?_);at_builtin;refine Kd.R_append_rows Kd.bool (w0:=w) w.heap.size rfl (.tmp 91) (.tmp 94) 39 4 (.bool false) 1 rfl Try.underlying39 info4 rfl (by decide) (by omega) v7001 y706 t709 _ _ _ (fun k_=>some k_≠(.slice Ao7000 y703.length co7000:Value).ownBlock∧some k_≠(.slice Ao7001 t709.length co7001:Value).ownBlock) (fun _=>False) rfl rfl ?aO ?aR (fun _ _ h=>h) (fun _ h=>h.elim) ?aF ?aB ?aS ?aL ?_;(case aR=>exact cr_ HO7002);(case aB=>exact bl_);(case aF=>exact(fun k_ hk=>⟨Kd.fresh' (Kd.R_lt (ro_ HO7000)) k_ hk,Kd.fresh' (Kd.R_lt (ro_ HO7002)) k_ hk⟩));(case aO=>exact(ro_ HO7001));(case aS=>exact(below_size bl_));(case aL=>have:=LMc41.out;omega);intro v7003 w7003 ho hb hg hat;rw [←Ny712.out] at ho;have n_:=pk5 (Kd.R_over' (ro_ HO_3) (Kd.R_typed (ro_ HO7001)) (by decide) hg) (Kd.R_after (ok:=(fun k_=>some k_≠(.slice Ao7001 t709.length co7001:Value).ownBlock)) (rt_ (Kd.R_mono HO7000.out (fun _ hk=>⟨hk.2,hk.1.2⟩))) hg hat) (Kd.R_after (ok:=(fun k_=>some k_≠(.slice Ao7000 y703.length co7000:Value).ownBlock)) (rt_ (Kd.R_mono HO7002.out (fun _ hk=>⟨hk.1.2,hk.2⟩))) hg hat) (hb) (ho);clear HO_3 HO7000 HO7002 HB HO7001;obtain⟨HO_3,HO7000,HO7002,HB,HO7003⟩:=n_;clear ho hb hg hat)|((with_reducible refine gate_builtin (b:=.append) (xs:=#[.tmp 91,.tmp 94]) rfl ?_);at_builtin;refine Kd.R_append_rows Kd.bool (w0:=w) w.heap.size rfl (.tmp 91) (.tmp 94) 39 4 (.bool false) 1 rfl Try.underlying39 info4 rfl (by decide) (by omega) v7001 y718 t721 _ _ _ (fun k_=>some k_≠(.slice Ao7000 y715.length co7000:Value).ownBlock∧some k_≠(.slice Ao7001 t721.length co7001:Value).ownBlock) (fun _=>False) rfl rfl ?aO ?aR (fun _ _ h=>h) (fun _ h=>h.elim) ?aF ?aB ?aS ?aL ?_;(case aR=>exact cr_ HO7002);(case aB=>exact bl_);(case aF=>exact(fun k_ hk=>⟨Kd.fresh' (Kd.R_lt (ro_ HO7000)) k_ hk,Kd.fresh' (Kd.R_lt (ro_ HO7002)) k_ hk⟩));(case aO=>exact(ro_ HO7001));(case aS=>exact(below_size bl_));(case aL=>have:=LMc51.out;omega);intro v7003 w7003 ho hb hg hat;rw [←Ny724.out] at ho;have n_:=pk5 (Kd.R_over' (ro_ HO_3) (Kd.R_typed (ro_ HO7001)) (by decide) hg) (Kd.R_after (ok:=(fun k_=>some k_≠(.slice Ao7001 t721.length co7001:Value).ownBlock)) (rt_ (Kd.R_mono HO7000.out (fun _ hk=>⟨hk.2,hk.1.2⟩))) hg hat) (Kd.R_after (ok:=(fun k_=>some k_≠(.slice Ao7000 y715.length co7000:Value).ownBlock)) (rt_ (Kd.R_mono HO7002.out (fun _ hk=>⟨hk.1.2,hk.2⟩))) hg hat) (hb) (ho);clear HO_3 HO7000 HO7002 HB HO7001;obtain⟨HO_3,HO7000,HO7002,HB,HO7003⟩:=n_;clear ho hb hg hat)|((with_reducible refine gate_builtin (b:=.append) (xs:=#[.tmp 91,.tmp 94]) rfl ?_);at_builtin;refine Kd.R_append_rows Kd.bool (w0:=w) w.heap.size rfl (.tmp 91) (.tmp 94) 39 4 (.bool false) 1 rfl Try.underlying39 info4 rfl (by decide) (by omega) v7001 y730 t733 _ _ _ (fun k_=>some k_≠(.slice Ao7000 y727.length co7000:Value).ownBlock∧some k_≠(.slice Ao7001 t733.length co7001:Value).ownBlock) (fun _=>False) rfl rfl ?aO ?aR (fun _ _ h=>h) (fun _ h=>h.elim) ?aF ?aB ?aS ?aL ?_;(case aR=>exact cr_ HO7002);(case aB=>exact bl_);(case aF=>exact(fun k_ hk=>⟨Kd.fresh' (Kd.R_lt (ro_ HO7000)) k_ hk,Kd.fresh' (Kd.R_lt (ro_ HO7002)) k_ hk⟩));(case aO=>exact(ro_ HO7001));(case aS=>exact(below_size bl_));(case aL=>have:=LMc61.out;omega);intro v7003 w7003 ho hb hg hat;rw [←Ny736.out] at ho;have n_:=pk5 (Kd.R_over' (ro_ HO_3) (Kd.R_typed (ro_ HO7001)) (by decide) hg) (Kd.R_after (ok:=(fun k_=>some k_≠(.slice Ao7001 t733.length co7001:Value).ownBlock)) (rt_ (Kd.R_mono HO7000.out (fun _ hk=>⟨hk.2,hk.1.2⟩))) hg hat) (Kd.R_after (ok:=(fun k_=>some k_≠(.slice Ao7000 y727.length co7000:Value).ownBlock)) (rt_ (Kd.R_mono HO7002.out (fun _ hk=>⟨hk.1.2,hk.2⟩))) hg hat) (hb) (ho);clear HO_3 HO7000 HO7002 HB HO7001;obtain⟨HO_3,HO7000,HO7002,HB,HO7003⟩:=n_;clear ho hb hg hat)|((with_reducible refine gate_builtin (b:=.append) (xs:=#[.tmp 91,.tmp 94]) rfl ?_);at_builtin;refine Kd.R_append_rows Kd.bool (w0:=w) w.heap.size rfl (.tmp 91) (.tmp 94) 39 4 (.bool false) 1 rfl Try.underlying39 info4 rfl (by decide) (by omega) v7001 y742 t745 _ _ _ (fun k_=>some k_≠(.slice Ao7000 y739.length co7000:Value).ownBlock∧some k_≠(.slice Ao7001 t745.length co7001:Value).ownBlock) (fun _=>False) rfl rfl ?aO ?aR (fun _ _ h=>h) (fun _ h=>h.elim) ?aF ?aB ?aS ?aL ?_;(case aR=>exact cr_ HO7002);(case aB=>exact bl_);(case aF=>exact(fun k_ hk=>⟨Kd.fresh' (Kd.R_lt (ro_ HO7000)) k_ hk,Kd.fresh' (Kd.R_lt (ro_ HO7002)) k_ hk⟩));(case aO=>exact(ro_ HO7001));(case aS=>exact(below_size bl_));(case aL=>have:=LMc71.out;omega);intro v7003 w7003 ho hb hg hat;rw [←Ny748.out] at ho;have n_:=pk5 (Kd.R_over' (ro_ HO_3) (Kd.R_typed (ro_ HO7001)) (by decide) hg) (Kd.R_after (ok:=(fun k_=>some k_≠(.slice Ao7001 t745.length co7001:Value).ownBlock)) (rt_ (Kd.R_mono HO7000.out (fun _ hk=>⟨hk.2,hk.1.2⟩))) hg hat) (Kd.R_after (ok:=(fun k_=>some k_≠(.slice Ao7000 y739.length co7000:Value).ownBlock)) (rt_ (Kd.R_mono HO7002.out (fun _ hk=>⟨hk.1.2,hk.2⟩))) hg hat) (hb) (ho);clear HO_3 HO7000 HO7002 HB HO7001;obtain⟨HO_3,HO7000,HO7002,HB,HO7003⟩:=n_;clear ho hb hg hat))
               repeat(go_quiet (first|((with_reducible refine gate_dst (N:=89) rfl ?_);refine Kd.R_lit Kd.bool _ 4 ?hg (N:=89) ?hd (xs:=([false,false]:List Bool)) (inner:=[.bool false,.bool false]) (ok:=fun _=>True) (okp:=fun _=>True) ?hr ?hp (fun _ hk=>hk) trivial (Below.refl _ _) (Nat.le_refl _) (by simp) ?_;(case hd=>rfl);(case hg=>rfl);(case hr=>first|(go_simp;done)|(go_simp;rfl));(case hp=>exact(Reps.one (show Kd.M Kd.bool _ _ _ false [.bool false] from rfl) (Reps.one (show Kd.M Kd.bool _ _ _ false [.bool false] from rfl) (Reps.none _ _))));intro v7000 w7000 ho7000 hb hg_ hnew_;clear hg_ hnew_;(try((first|rw [←Ny703.out] at ho7000|(simp only [Int.reduceToNat] at ho7000;rw [←Ny703.out] at ho7000));have n_:=pk4 (Kd.R_below (ro_ HO_3) hb) (Kd.R_elder' (ro_ HO_4) (Kd.R_base ho7000) hb) (Kd.R_lower (Kd.R_new' ho7000 (Kd.R_lt (ro_ HO_4))) (below_size bl_)) (below_step bl_ hb);clear HO_3 HO_4 HB;obtain⟨HO_3,HO_4,HO7000,HB⟩:=n_;clear hb ho7000;obtain⟨Ao7000,co7000,eo7000⟩:=Kd.R_slice HO7000.out;subst eo7000));(try((first|rw [←Ny715.out] at ho7000|(simp only [Int.reduceToNat] at ho7000;rw [←Ny715.out] at ho7000));have n_:=pk4 (Kd.R_below (ro_ HO_3) hb) (Kd.R_elder' (ro_ HO_4) (Kd.R_base ho7000) hb) (Kd.R_lower (Kd.R_new' ho7000 (Kd.R_lt (ro_ HO_4))) (below_size bl_)) (below_step bl_ hb);clear HO_3 HO_4 HB;obtain⟨HO_3,HO_4,HO7000,HB⟩:=n_;clear hb ho7000;obtain⟨Ao7000,co7000,eo7000⟩:=Kd.R_slice HO7000.out;subst eo7000));(try((first|rw [←Ny727.out] at ho7000|(simp only [Int.reduceToNat] at ho7000;rw [←Ny727.out] at ho7000));have n_:=pk4 (Kd.R_below (ro_ HO_3) hb) (Kd.R_elder' (ro_ HO_4) (Kd.R_base ho7000) hb) (Kd.R_lower (Kd.R_new' ho7000 (Kd.R_lt (ro_ HO_4))) (below_size bl_)) (below_step bl_ hb);clear HO_3 HO_4 HB;obtain⟨HO_3,HO_4,HO7000,HB⟩:=n_;clear hb ho7000;obtain⟨Ao7000,co7000,eo7000⟩:=Kd.R_slice HO7000.out;subst eo7000));(try((first|rw [←Ny739.out] at ho7000|(simp only [Int.reduceToNat] at ho7000;rw [←Ny739.out] at ho7000));have n_:=pk4 (Kd.R_below (ro_ HO_3) hb) (Kd.R_elder' (ro_ HO_4) (Kd.R_base ho7000) hb) (Kd.R_lower (Kd.R_new' ho7000 (Kd.R_lt (ro_ HO_4))) (below_size bl_)) (below_step bl_ hb);clear HO_3 HO_4 HB;obtain⟨HO_3,HO_4,HO7000,HB⟩:=n_;clear hb ho7000;obtain⟨Ao7000,co7000,eo7000⟩:=Kd.R_slice HO7000.out;subst eo7000)))|((with_reducible refine gate_builtin (b:=.append) (xs:=#[.tmp 88,.tmp 89]) rfl ?_);at_builtin;refine Kd.R_append_rows Kd.bool (w0:=w) w.heap.size rfl (.tmp 88) (.tmp 89) 39 4 (.bool false) 1 rfl Try.underlying39 info4 rfl (by decide) (by omega) u4 x4_1 y703 _ _ _ (fun k_=>some k_≠(.slice Ao7000 y703.length co7000:Value).ownBlock) (fun _=>False) rfl rfl ?aO ?aR (fun _ _ h=>h) (fun _ h=>h.elim) ?aF ?aB ?aS ?aL ?_;(case aR=>exact cr_ HO7000);(case aB=>exact bl_);(case aF=>exact(fun k_ hk=>Kd.fresh' (Kd.R_lt (ro_ HO7000)) k_ hk));(case aO=>exact(rt_ (Kd.R_mono HO_4.out (fun _ hk=>hk.2))));(case aS=>exact(below_size bl_));(case aL=>have:=LMc39.out;omega);intro v7001 w7001 ho hb hg hat;rw [←Ny706.out] at ho;have n_:=pk4 (Kd.R_over' (ro_ HO_3) (Kd.R_typed (ro_ HO_4)) (by decide) hg) (Kd.R_after (ok:=(fun _=>True)) (ro_ HO7000) hg hat) (hb) (ho);clear HO_3 HO7000 HB HO_4;obtain⟨HO_3,HO7000,HB,HO7001⟩:=n_;clear ho hb hg hat)|((with_reducible refine gate_builtin (b:=.append) (xs:=#[.tmp 88,.tmp 89]) rfl ?_);at_builtin;refine Kd.R_append_rows Kd.bool (w0:=w) w.heap.size rfl (.tmp 88) (.tmp 89) 39 4 (.bool false) 1 rfl Try.underlying39 info4 rfl (by decide) (by omega) u4 x4_1 y715 _ _ _ (fun k_=>some k_≠(.slice Ao7000 y715.length co7000:Value).ownBlock) (fun _=>False) rfl rfl ?aO ?aR (fun _ _ h=>h) (fun _ h=>h.elim) ?aF ?aB ?aS ?aL ?_;(case aR=>exact cr_ HO7000);(case aB=>exact bl_);(case aF=>exact(fun k_ hk=>Kd.fresh' (Kd.R_lt (ro_ HO7000)) k_ hk));(case aO=>exact(rt_ (Kd.R_mono HO_4.out (fun _ hk=>hk.2))));(case aS=>exact(below_size bl_));(case aL=>have:=LMc49.out;omega);intro v7001 w7001 ho hb hg hat;rw [←Ny718.out] at ho;have n_:=pk4 (Kd.R_over' (ro_ HO_3) (Kd.R_typed (ro_ HO_4)) (by decide) hg) (Kd.R_after (ok:=(fun _=>True)) (ro_ HO7000) hg hat) (hb) (ho);clear HO_3 HO7000 HB HO_4;obtain⟨HO_3,HO7000,HB,HO7001⟩:=n_;clear ho hb hg hat)|((with_reducible refine gate_builtin (b:=.append) (xs:=#[.tmp 88,.tmp 89]) rfl ?_);at_builtin;refine Kd.R_append_rows Kd.bool (w0:=w) w.heap.size rfl (.tmp 88) (.tmp 89) 39 4 (.bool false) 1 rfl Try.underlying39 info4 rfl (by decide) (by omega) u4 x4_1 y727 _ _ _ (fun k_=>some k_≠(.slice Ao7000 y727.length co7000:Value).ownBlock) (fun _=>False) rfl rfl ?aO ?aR (fun _ _ h=>h) (fun _ h=>h.elim) ?aF ?aB ?aS ?aL ?_;(case aR=>exact cr_ HO7000);(case aB=>exact bl_);(case aF=>exact(fun k_ hk=>Kd.fresh' (Kd.R_lt (ro_ HO7000)) k_ hk));(case aO=>exact(rt_ (Kd.R_mono HO_4.out (fun _ hk=>hk.2))));(case aS=>exact(below_size bl_));(case aL=>have:=LMc59.out;omega);intro v7001 w7001 ho hb hg hat;rw [←Ny730.out] at ho;have n_:=pk4 (Kd.R_over' (ro_ HO_3) (Kd.R_typed (ro_ HO_4)) (by decide) hg) (Kd.R_after (ok:=(fun _=>True)) (ro_ HO7000) hg hat) (hb) (ho);clear HO_3 HO7000 HB HO_4;obtain⟨HO_3,HO7000,HB,HO7001⟩:=n_;clear ho hb hg hat)|((with_reducible refine gate_builtin (b:=.append) (xs:=#[.tmp 88,.tmp 89]) rfl ?_);at_builtin;refine Kd.R_append_rows Kd.bool (w0:=w) w.heap.size rfl (.tmp 88) (.tmp 89) 39 4 (.bool false) 1 rfl Try.underlying39 info4 rfl (by decide) (by omega) u4 x4_1 y739 _ _ _ (fun k_=>some k_≠(.slice Ao7000 y739.length co7000:Value).ownBlock) (fun _=>False) rfl rfl ?aO ?aR (fun _ _ h=>h) (fun _ h=>h.elim) ?aF ?aB ?aS ?aL ?_;(case aR=>exact cr_ HO7000);(case aB=>exact bl_);(case aF=>exact(fun k_ hk=>Kd.fresh' (Kd.R_lt (ro_ HO7000)) k_ hk));(case aO=>exact(rt_ (Kd.R_mono HO_4.out (fun _ hk=>hk.2))));(case aS=>exact(below_size bl_));(case aL=>have:=LMc69.out;omega);intro v7001 w7001 ho hb hg hat;rw [←Ny742.out] at ho;have n_:=pk4 (Kd.R_over' (ro_ HO_3) (Kd.R_typed (ro_ HO_4)) (by decide) hg) (Kd.R_after (ok:=(fun _=>True)) (ro_ HO7000) hg hat) (hb) (ho);clear HO_3 HO7000 HB HO_4;obtain⟨HO_3,HO7000,HB,HO7001⟩:=n_;clear ho hb hg hat)|(go_at_call 35;(with_reducible refine(windroseref17_Low.calls k3 (IntKind.u64.wrap (wrap64 ((wrap64 (x9_3 - x6_1)) - 1))) 4 t709 _ A40.out).mono ?_);rintro e w7002 ⟨v7002,rfl,ho0,hb⟩;have n_:=pk5 (Kd.R_below (ro_ HO_3) hb) (Kd.R_elder' (ro_ HO7000) (Kd.R_base ho0) hb) (Kd.R_elder' (ro_ HO7001) (Kd.R_base ho0) hb) (Kd.R_lower (Kd.R_new' (Kd.R_new' ho0 (Kd.R_lt (ro_ HO7000))) (Kd.R_lt (ro_ HO7001))) (below_size bl_)) (below_step bl_ hb);clear HO_3 HO7000 HO7001 HB;obtain⟨HO_3,HO7000,HO7001,HO7002,HB⟩:=n_;(try clear hb ho0);obtain⟨Ao7001,co7001,eo7001⟩:=Kd.R_slice HO7002.out;subst eo7001)|(go_at_call 35;(with_reducible refine(windroseref17_Low.calls k3 (IntKind.u64.wrap (wrap64 ((wrap64 (x9_3 - x6_1)) - 1))) 4 t721 _ A50.out).mono ?_);rintro e w7002 ⟨v7002,rfl,ho0,hb⟩;have n_:=pk5 (Kd.R_below (ro_ HO_3) hb) (Kd.R_elder' (ro_ HO7000) (Kd.R_base ho0) hb) (Kd.R_elder' (ro_ HO7001) (Kd.R_base ho0) hb) (Kd.R_lower (Kd.R_new' (Kd.R_new' ho0 (Kd.R_lt (ro_ HO7000))) (Kd.R_lt (ro_ HO7001))) (below_size bl_)) (below_step bl_ hb);clear HO_3 HO7000 HO7001 HB;obtain⟨HO_3,HO7000,HO7001,HO7002,HB⟩:=n_;(try clear hb ho0);obtain⟨Ao7001,co7001,eo7001⟩:=Kd.R_slice HO7002.out;subst eo7001)|(go_at_call 35;(with_reducible refine(windroseref17_Low.calls k3 (IntKind.u64.wrap (wrap64 ((wrap64 (x9_3 - x6_1)) - 1))) 4 t733 _ A60.out).mono ?_);rintro e w7002 ⟨v7002,rfl,ho0,hb⟩;have n_:=pk5 (Kd.R_below (ro_ HO_3) hb) (Kd.R_elder' (ro_ HO7000) (Kd.R_base ho0) hb) (Kd.R_elder' (ro_ HO7001) (Kd.R_base ho0) hb) (Kd.R_lower (Kd.R_new' (Kd.R_new' ho0 (Kd.R_lt (ro_ HO7000))) (Kd.R_lt (ro_ HO7001))) (below_size bl_)) (below_step bl_ hb);clear HO_3 HO7000 HO7001 HB;obtain⟨HO_3,HO7000,HO7001,HO7002,HB⟩:=n_;(try clear hb ho0);obtain⟨Ao7001,co7001,eo7001⟩:=Kd.R_slice HO7002.out;subst eo7001)|(go_at_call 35;(with_reducible refine(windroseref17_Low.calls k3 (IntKind.u64.wrap (wrap64 ((wrap64 (x9_3 - x6_1)) - 1))) 4 t745 _ A70.out).mono ?_);rintro e w7002 ⟨v7002,rfl,ho0,hb⟩;have n_:=pk5 (Kd.R_below (ro_ HO_3) hb) (Kd.R_elder' (ro_ HO7000) (Kd.R_base ho0) hb) (Kd.R_elder' (ro_ HO7001) (Kd.R_base ho0) hb) (Kd.R_lower (Kd.R_new' (Kd.R_new' ho0 (Kd.R_lt (ro_ HO7000))) (Kd.R_lt (ro_ HO7001))) (below_size bl_)) (below_step bl_ hb);clear HO_3 HO7000 HO7001 HB;obtain⟨HO_3,HO7000,HO7001,HO7002,HB⟩:=n_;(try clear hb ho0);obtain⟨Ao7001,co7001,eo7001⟩:=Kd.R_slice HO7002.out;subst eo7001)|((with_reducible refine gate_builtin (b:=.append) (xs:=#[.tmp 91,.tmp 94]) rfl ?_);at_builtin;refine Kd.R_append_rows Kd.bool (w0:=w) w.heap.size rfl (.tmp 91) (.tmp 94) 39 4 (.bool false) 1 rfl Try.underlying39 info4 rfl (by decide) (by omega) v7001 y706 t709 _ _ _ (fun k_=>some k_≠(.slice Ao7000 y703.length co7000:Value).ownBlock∧some k_≠(.slice Ao7001 t709.length co7001:Value).ownBlock) (fun _=>False) rfl rfl ?aO ?aR (fun _ _ h=>h) (fun _ h=>h.elim) ?aF ?aB ?aS ?aL ?_;(case aR=>exact cr_ HO7002);(case aB=>exact bl_);(case aF=>exact(fun k_ hk=>⟨Kd.fresh' (Kd.R_lt (ro_ HO7000)) k_ hk,Kd.fresh' (Kd.R_lt (ro_ HO7002)) k_ hk⟩));(case aO=>exact(ro_ HO7001));(case aS=>exact(below_size bl_));(case aL=>have:=LMc41.out;omega);intro v7003 w7003 ho hb hg hat;rw [←Ny712.out] at ho;have n_:=pk5 (Kd.R_over' (ro_ HO_3) (Kd.R_typed (ro_ HO7001)) (by decide) hg) (Kd.R_after (ok:=(fun k_=>some k_≠(.slice Ao7001 t709.length co7001:Value).ownBlock)) (rt_ (Kd.R_mono HO7000.out (fun _ hk=>⟨hk.2,hk.1.2⟩))) hg hat) (Kd.R_after (ok:=(fun k_=>some k_≠(.slice Ao7000 y703.length co7000:Value).ownBlock)) (rt_ (Kd.R_mono HO7002.out (fun _ hk=>⟨hk.1.2,hk.2⟩))) hg hat) (hb) (ho);clear HO_3 HO7000 HO7002 HB HO7001;obtain⟨HO_3,HO7000,HO7002,HB,HO7003⟩:=n_;clear ho hb hg hat)|((with_reducible refine gate_builtin (b:=.append) (xs:=#[.tmp 91,.tmp 94]) rfl ?_);at_builtin;refine Kd.R_append_rows Kd.bool (w0:=w) w.heap.size rfl (.tmp 91) (.tmp 94) 39 4 (.bool false) 1 rfl Try.underlying39 info4 rfl (by decide) (by omega) v7001 y718 t721 _ _ _ (fun k_=>some k_≠(.slice Ao7000 y715.length co7000:Value).ownBlock∧some k_≠(.slice Ao7001 t721.length co7001:Value).ownBlock) (fun _=>False) rfl rfl ?aO ?aR (fun _ _ h=>h) (fun _ h=>h.elim) ?aF ?aB ?aS ?aL ?_;(case aR=>exact cr_ HO7002);(case aB=>exact bl_);(case aF=>exact(fun k_ hk=>⟨Kd.fresh' (Kd.R_lt (ro_ HO7000)) k_ hk,Kd.fresh' (Kd.R_lt (ro_ HO7002)) k_ hk⟩));(case aO=>exact(ro_ HO7001));(case aS=>exact(below_size bl_));(case aL=>have:=LMc51.out;omega);intro v7003 w7003 ho hb hg hat;rw [←Ny724.out] at ho;have n_:=pk5 (Kd.R_over' (ro_ HO_3) (Kd.R_typed (ro_ HO7001)) (by decide) hg) (Kd.R_after (ok:=(fun k_=>some k_≠(.slice Ao7001 t721.length co7001:Value).ownBlock)) (rt_ (Kd.R_mono HO7000.out (fun _ hk=>⟨hk.2,hk.1.2⟩))) hg hat) (Kd.R_after (ok:=(fun k_=>some k_≠(.slice Ao7000 y715.length co7000:Value).ownBlock)) (rt_ (Kd.R_mono HO7002.out (fun _ hk=>⟨hk.1.2,hk.2⟩))) hg hat) (hb) (ho);clear HO_3 HO7000 HO7002 HB HO7001;obtain⟨HO_3,HO7000,HO7002,HB,HO7003⟩:=n_;clear ho hb hg hat)|((with_reducible refine gate_builtin (b:=.append) (xs:=#[.tmp 91,.tmp 94]) rfl ?_);at_builtin;refine Kd.R_append_rows Kd.bool (w0:=w) w.heap.size rfl (.tmp 91) (.tmp 94) 39 4 (.bool false) 1 rfl Try.underlying39 info4 rfl (by decide) (by omega) v7001 y730 t733 _ _ _ (fun k_=>some k_≠(.slice Ao7000 y727.length co7000:Value).ownBlock∧some k_≠(.slice Ao7001 t733.length co7001:Value).ownBlock) (fun _=>False) rfl rfl ?aO ?aR (fun _ _ h=>h) (fun _ h=>h.elim) ?aF ?aB ?aS ?aL ?_;(case aR=>exact cr_ HO7002);(case aB=>exact bl_);(case aF=>exact(fun k_ hk=>⟨Kd.fresh' (Kd.R_lt (ro_ HO7000)) k_ hk,Kd.fresh' (Kd.R_lt (ro_ HO7002)) k_ hk⟩));(case aO=>exact(ro_ HO7001));(case aS=>exact(below_size bl_));(case aL=>have:=LMc61.out;omega);intro v7003 w7003 ho hb hg hat;rw [←Ny736.out] at ho;have n_:=pk5 (Kd.R_over' (ro_ HO_3) (Kd.R_typed (ro_ HO7001)) (by decide) hg) (Kd.R_after (ok:=(fun k_=>some k_≠(.slice Ao7001 t733.length co7001:Value).ownBlock)) (rt_ (Kd.R_mono HO7000.out (fun _ hk=>⟨hk.2,hk.1.2⟩))) hg hat) (Kd.R_after (ok:=(fun k_=>some k_≠(.slice Ao7000 y727.length co7000:Value).ownBlock)) (rt_ (Kd.R_mono HO7002.out (fun _ hk=>⟨hk.1.2,hk.2⟩))) hg hat) (hb) (ho);clear HO_3 HO7000 HO7002 HB HO7001;obtain⟨HO_3,HO7000,HO7002,HB,HO7003⟩:=n_;clear ho hb hg hat)|((with_reducible refine gate_builtin (b:=.append) (xs:=#[.tmp 91,.tmp 94]) rfl ?_);at_builtin;refine Kd.R_append_rows Kd.bool (w0:=w) w.heap.size rfl (.tmp 91) (.tmp 94) 39 4 (.bool false) 1 rfl Try.underlying39 info4 rfl (by decide) (by omega) v7001 y742 t745 _ _ _ (fun k_=>some k_≠(.slice Ao7000 y739.length co7000:Value).ownBlock∧some k_≠(.slice Ao7001 t745.length co7001:Value).ownBlock) (fun _=>False) rfl rfl ?aO ?aR (fun _ _ h=>h) (fun _ h=>h.elim) ?aF ?aB ?aS ?aL ?_;(case aR=>exact cr_ HO7002);(case aB=>exact bl_);(case aF=>exact(fun k_ hk=>⟨Kd.fresh' (Kd.R_lt (ro_ HO7000)) k_ hk,Kd.fresh' (Kd.R_lt (ro_ HO7002)) k_ hk⟩));(case aO=>exact(ro_ HO7001));(case aS=>exact(below_size bl_));(case aL=>have:=LMc71.out;omega);intro v7003 w7003 ho hb hg hat;rw [←Ny748.out] at ho;have n_:=pk5 (Kd.R_over' (ro_ HO_3) (Kd.R_typed (ro_ HO7001)) (by decide) hg) (Kd.R_after (ok:=(fun k_=>some k_≠(.slice Ao7001 t745.length co7001:Value).ownBlock)) (rt_ (Kd.R_mono HO7000.out (fun _ hk=>⟨hk.2,hk.1.2⟩))) hg hat) (Kd.R_after (ok:=(fun k_=>some k_≠(.slice Ao7000 y739.length co7000:Value).ownBlock)) (rt_ (Kd.R_mono HO7002.out (fun _ hk=>⟨hk.1.2,hk.2⟩))) hg hat) (hb) (ho);clear HO_3 HO7000 HO7002 HB HO7001;obtain⟨HO_3,HO7000,HO7002,HB,HO7003⟩:=n_;clear ho hb hg hat));try go_wp2_with (first|((with_reducible refine gate_dst (N:=89) rfl ?_);refine Kd.R_lit Kd.bool _ 4 ?hg (N:=89) ?hd (xs:=([false,false]:List Bool)) (inner:=[.bool false,.bool false]) (ok:=fun _=>True) (okp:=fun _=>True) ?hr ?hp (fun _ hk=>hk) trivial (Below.refl _ _) (Nat.le_refl _) (by simp) ?_;(case hd=>rfl);(case hg=>rfl);(case hr=>first|(go_simp;done)|(go_simp;rfl));(case hp=>exact(Reps.one (show Kd.M Kd.bool _ _ _ false [.bool false] from rfl) (Reps.one (show Kd.M Kd.bool _ _ _ false [.bool false] from rfl) (Reps.none _ _))));intro v7000 w7000 ho7000 hb hg_ hnew_;clear hg_ hnew_;(try((first|rw [←Ny703.out] at ho7000|(simp only [Int.reduceToNat] at ho7000;rw [←Ny703.out] at ho7000));have n_:=pk4 (Kd.R_below (ro_ HO_3) hb) (Kd.R_elder' (ro_ HO_4) (Kd.R_base ho7000) hb) (Kd.R_lower (Kd.R_new' ho7000 (Kd.R_lt (ro_ HO_4))) (below_size bl_)) (below_step bl_ hb);clear HO_3 HO_4 HB;obtain⟨HO_3,HO_4,HO7000,HB⟩:=n_;clear hb ho7000;obtain⟨Ao7000,co7000,eo7000⟩:=Kd.R_slice HO7000.out;subst eo7000));(try((first|rw [←Ny715.out] at ho7000|(simp only [Int.reduceToNat] at ho7000;rw [←Ny715.out] at ho7000));have n_:=pk4 (Kd.R_below (ro_ HO_3) hb) (Kd.R_elder' (ro_ HO_4) (Kd.R_base ho7000) hb) (Kd.R_lower (Kd.R_new' ho7000 (Kd.R_lt (ro_ HO_4))) (below_size bl_)) (below_step bl_ hb);clear HO_3 HO_4 HB;obtain⟨HO_3,HO_4,HO7000,HB⟩:=n_;clear hb ho7000;obtain⟨Ao7000,co7000,eo7000⟩:=Kd.R_slice HO7000.out;subst eo7000));(try((first|rw [←Ny727.out] at ho7000|(simp only [Int.reduceToNat] at ho7000;rw [←Ny727.out] at ho7000));have n_:=pk4 (Kd.R_below (ro_ HO_3) hb) (Kd.R_elder' (ro_ HO_4) (Kd.R_base ho7000) hb) (Kd.R_lower (Kd.R_new' ho7000 (Kd.R_lt (ro_ HO_4))) (below_size bl_)) (below_step bl_ hb);clear HO_3 HO_4 HB;obtain⟨HO_3,HO_4,HO7000,HB⟩:=n_;clear hb ho7000;obtain⟨Ao7000,co7000,eo7000⟩:=Kd.R_slice HO7000.out;subst eo7000));(try((first|rw [←Ny739.out] at ho7000|(simp only [Int.reduceToNat] at ho7000;rw [←Ny739.out] at ho7000));have n_:=pk4 (Kd.R_below (ro_ HO_3) hb) (Kd.R_elder' (ro_ HO_4) (Kd.R_base ho7000) hb) (Kd.R_lower (Kd.R_new' ho7000 (Kd.R_lt (ro_ HO_4))) (below_size bl_)) (below_step bl_ hb);clear HO_3 HO_4 HB;obtain⟨HO_3,HO_4,HO7000,HB⟩:=n_;clear hb ho7000;obtain⟨Ao7000,co7000,eo7000⟩:=Kd.R_slice HO7000.out;subst eo7000)))|((with_reducible refine gate_builtin (b:=.append) (xs:=#[.tmp 88,.tmp 89]) rfl ?_);at_builtin;refine Kd.R_append_rows Kd.bool (w0:=w) w.heap.size rfl (.tmp 88) (.tmp 89) 39 4 (.bool false) 1 rfl Try.underlying39 info4 rfl (by decide) (by omega) u4 x4_1 y703 _ _ _ (fun k_=>some k_≠(.slice Ao7000 y703.length co7000:Value).ownBlock) (fun _=>False) rfl rfl ?aO ?aR (fun _ _ h=>h) (fun _ h=>h.elim) ?aF ?aB ?aS ?aL ?_;(case aR=>exact cr_ HO7000);(case aB=>exact bl_);(case aF=>exact(fun k_ hk=>Kd.fresh' (Kd.R_lt (ro_ HO7000)) k_ hk));(case aO=>exact(rt_ (Kd.R_mono HO_4.out (fun _ hk=>hk.2))));(case aS=>exact(below_size bl_));(case aL=>have:=LMc39.out;omega);intro v7001 w7001 ho hb hg hat;rw [←Ny706.out] at ho;have n_:=pk4 (Kd.R_over' (ro_ HO_3) (Kd.R_typed (ro_ HO_4)) (by decide) hg) (Kd.R_after (ok:=(fun _=>True)) (ro_ HO7000) hg hat) (hb) (ho);clear HO_3 HO7000 HB HO_4;obtain⟨HO_3,HO7000,HB,HO7001⟩:=n_;clear ho hb hg hat)|((with_reducible refine gate_builtin (b:=.append) (xs:=#[.tmp 88,.tmp 89]) rfl ?_);at_builtin;refine Kd.R_append_rows Kd.bool (w0:=w) w.heap.size rfl (.tmp 88) (.tmp 89) 39 4 (.bool false) 1 rfl Try.underlying39 info4 rfl (by decide) (by omega) u4 x4_1 y715 _ _ _ (fun k_=>some k_≠(.slice Ao7000 y715.length co7000:Value).ownBlock) (fun _=>False) rfl rfl ?aO ?aR (fun _ _ h=>h) (fun _ h=>h.elim) ?aF ?aB ?aS ?aL ?_;(case aR=>exact cr_ HO7000);(case aB=>exact bl_);(case aF=>exact(fun k_ hk=>Kd.fresh' (Kd.R_lt (ro_ HO7000)) k_ hk));(case aO=>exact(rt_ (Kd.R_mono HO_4.out (fun _ hk=>hk.2))));(case aS=>exact(below_size bl_));(case aL=>have:=LMc49.out;omega);intro v7001 w7001 ho hb hg hat;rw [←Ny718.out] at ho;have n_:=pk4 (Kd.R_over' (ro_ HO_3) (Kd.R_typed (ro_ HO_4)) (by decide) hg) (Kd.R_after (ok:=(fun _=>True)) (ro_ HO7000) hg hat) (hb) (ho);clear HO_3 HO7000 HB HO_4;obtain⟨HO_3,HO7000,HB,HO7001⟩:=n_;clear ho hb hg hat)|((with_reducible refine gate_builtin (b:=.append) (xs:=#[.tmp 88,.tmp 89]) rfl ?_);at_builtin;refine Kd.R_append_rows Kd.bool (w0:=w) w.heap.size rfl (.tmp 88) (.tmp 89) 39 4 (.bool false) 1 rfl Try.underlying39 info4 rfl (by decide) (by omega) u4 x4_1 y727 _ _ _ (fun k_=>some k_≠(.slice Ao7000 y727.length co7000:Value).ownBlock) (fun _=>False) rfl rfl ?aO ?aR (fun _ _ h=>h) (fun _ h=>h.elim) ?aF ?aB ?aS ?aL ?_;(case aR=>exact cr_ HO7000);(case aB=>exact bl_);(case aF=>exact(fun k_ hk=>Kd.fresh' (Kd.R_lt (ro_ HO7000)) k_ hk));(case aO=>exact(rt_ (Kd.R_mono HO_4.out (fun _ hk=>hk.2))));(case aS=>exact(below_size bl_));(case aL=>have:=LMc59.out;omega);intro v7001 w7001 ho hb hg hat;rw [←Ny730.out] at ho;have n_:=pk4 (Kd.R_over' (ro_ HO_3) (Kd.R_typed (ro_ HO_4)) (by decide) hg) (Kd.R_after (ok:=(fun _=>True)) (ro_ HO7000) hg hat) (hb) (ho);clear HO_3 HO7000 HB HO_4;obtain⟨HO_3,HO7000,HB,HO7001⟩:=n_;clear ho hb hg hat)|((with_reducible refine gate_builtin (b:=.append) (xs:=#[.tmp 88,.tmp 89]) rfl ?_);at_builtin;refine Kd.R_append_rows Kd.bool (w0:=w) w.heap.size rfl (.tmp 88) (.tmp 89) 39 4 (.bool false) 1 rfl Try.underlying39 info4 rfl (by decide) (by omega) u4 x4_1 y739 _ _ _ (fun k_=>some k_≠(.slice Ao7000 y739.length co7000:Value).ownBlock) (fun _=>False) rfl rfl ?aO ?aR (fun _ _ h=>h) (fun _ h=>h.elim) ?aF ?aB ?aS ?aL ?_;(case aR=>exact cr_ HO7000);(case aB=>exact bl_);(case aF=>exact(fun k_ hk=>Kd.fresh' (Kd.R_lt (ro_ HO7000)) k_ hk));(case aO=>exact(rt_ (Kd.R_mono HO_4.out (fun _ hk=>hk.2))));(case aS=>exact(below_size bl_));(case aL=>have:=LMc69.out;omega);intro v7001 w7001 ho hb hg hat;rw [←Ny742.out] at ho;have n_:=pk4 (Kd.R_over' (ro_ HO_3) (Kd.R_typed (ro_ HO_4)) (by decide) hg) (Kd.R_after (ok:=(fun _=>True)) (ro_ HO7000) hg hat) (hb) (ho);clear HO_3 HO7000 HB HO_4;obtain⟨HO_3,HO7000,HB,HO7001⟩:=n_;clear ho hb hg hat)|(go_at_call 35;(with_reducible refine(windroseref17_Low.calls k3 (IntKind.u64.wrap (wrap64 ((wrap64 (x9_3 - x6_1)) - 1))) 4 t709 _ A40.out).mono ?_);rintro e w7002 ⟨v7002,rfl,ho0,hb⟩;have n_:=pk5 (Kd.R_below (ro_ HO_3) hb) (Kd.R_elder' (ro_ HO7000) (Kd.R_base ho0) hb) (Kd.R_elder' (ro_ HO7001) (Kd.R_base ho0) hb) (Kd.R_lower (Kd.R_new' (Kd.R_new' ho0 (Kd.R_lt (ro_ HO7000))) (Kd.R_lt (ro_ HO7001))) (below_size bl_)) (below_step bl_ hb);clear HO_3 HO7000 HO7001 HB;obtain⟨HO_3,HO7000,HO7001,HO7002,HB⟩:=n_;(try clear hb ho0);obtain⟨Ao7001,co7001,eo7001⟩:=Kd.R_slice HO7002.out;subst eo7001)|(go_at_call 35;(with_reducible refine(windroseref17_Low.calls k3 (IntKind.u64.wrap (wrap64 ((wrap64 (x9_3 - x6_1)) - 1))) 4 t721 _ A50.out).mono ?_);rintro e w7002 ⟨v7002,rfl,ho0,hb⟩;have n_:=pk5 (Kd.R_below (ro_ HO_3) hb) (Kd.R_elder' (ro_ HO7000) (Kd.R_base ho0) hb) (Kd.R_elder' (ro_ HO7001) (Kd.R_base ho0) hb) (Kd.R_lower (Kd.R_new' (Kd.R_new' ho0 (Kd.R_lt (ro_ HO7000))) (Kd.R_lt (ro_ HO7001))) (below_size bl_)) (below_step bl_ hb);clear HO_3 HO7000 HO7001 HB;obtain⟨HO_3,HO7000,HO7001,HO7002,HB⟩:=n_;(try clear hb ho0);obtain⟨Ao7001,co7001,eo7001⟩:=Kd.R_slice HO7002.out;subst eo7001)|(go_at_call 35;(with_reducible refine(windroseref17_Low.calls k3 (IntKind.u64.wrap (wrap64 ((wrap64 (x9_3 - x6_1)) - 1))) 4 t733 _ A60.out).mono ?_);rintro e w7002 ⟨v7002,rfl,ho0,hb⟩;have n_:=pk5 (Kd.R_below (ro_ HO_3) hb) (Kd.R_elder' (ro_ HO7000) (Kd.R_base ho0) hb) (Kd.R_elder' (ro_ HO7001) (Kd.R_base ho0) hb) (Kd.R_lower (Kd.R_new' (Kd.R_new' ho0 (Kd.R_lt (ro_ HO7000))) (Kd.R_lt (ro_ HO7001))) (below_size bl_)) (below_step bl_ hb);clear HO_3 HO7000 HO7001 HB;obtain⟨HO_3,HO7000,HO7001,HO7002,HB⟩:=n_;(try clear hb ho0);obtain⟨Ao7001,co7001,eo7001⟩:=Kd.R_slice HO7002.out;subst eo7001)|(go_at_call 35;(with_reducible refine(windroseref17_Low.calls k3 (IntKind.u64.wrap (wrap64 ((wrap64 (x9_3 - x6_1)) - 1))) 4 t745 _ A70.out).mono ?_);rintro e w7002 ⟨v7002,rfl,ho0,hb⟩;have n_:=pk5 (Kd.R_below (ro_ HO_3) hb) (Kd.R_elder' (ro_ HO7000) (Kd.R_base ho0) hb) (Kd.R_elder' (ro_ HO7001) (Kd.R_base ho0) hb) (Kd.R_lower (Kd.R_new' (Kd.R_new' ho0 (Kd.R_lt (ro_ HO7000))) (Kd.R_lt (ro_ HO7001))) (below_size bl_)) (below_step bl_ hb);clear HO_3 HO7000 HO7001 HB;obtain⟨HO_3,HO7000,HO7001,HO7002,HB⟩:=n_;(try clear hb ho0);obtain⟨Ao7001,co7001,eo7001⟩:=Kd.R_slice HO7002.out;subst eo7001)|((with_reducible refine gate_builtin (b:=.append) (xs:=#[.tmp 91,.tmp 94]) rfl ?_);at_builtin;refine Kd.R_append_rows Kd.bool (w0:=w) w.heap.size rfl (.tmp 91) (.tmp 94) 39 4 (.bool false) 1 rfl Try.underlying39 info4 rfl (by decide) (by omega) v7001 y706 t709 _ _ _ (fun k_=>some k_≠(.slice Ao7000 y703.length co7000:Value).ownBlock∧some k_≠(.slice Ao7001 t709.length co7001:Value).ownBlock) (fun _=>False) rfl rfl ?aO ?aR (fun _ _ h=>h) (fun _ h=>h.elim) ?aF ?aB ?aS ?aL ?_;(case aR=>exact cr_ HO7002);(case aB=>exact bl_);(case aF=>exact(fun k_ hk=>⟨Kd.fresh' (Kd.R_lt (ro_ HO7000)) k_ hk,Kd.fresh' (Kd.R_lt (ro_ HO7002)) k_ hk⟩));(case aO=>exact(ro_ HO7001));(case aS=>exact(below_size bl_));(case aL=>have:=LMc41.out;omega);intro v7003 w7003 ho hb hg hat;rw [←Ny712.out] at ho;have n_:=pk5 (Kd.R_over' (ro_ HO_3) (Kd.R_typed (ro_ HO7001)) (by decide) hg) (Kd.R_after (ok:=(fun k_=>some k_≠(.slice Ao7001 t709.length co7001:Value).ownBlock)) (rt_ (Kd.R_mono HO7000.out (fun _ hk=>⟨hk.2,hk.1.2⟩))) hg hat) (Kd.R_after (ok:=(fun k_=>some k_≠(.slice Ao7000 y703.length co7000:Value).ownBlock)) (rt_ (Kd.R_mono HO7002.out (fun _ hk=>⟨hk.1.2,hk.2⟩))) hg hat) (hb) (ho);clear HO_3 HO7000 HO7002 HB HO7001;obtain⟨HO_3,HO7000,HO7002,HB,HO7003⟩:=n_;clear ho hb hg hat)|((with_reducible refine gate_builtin (b:=.append) (xs:=#[.tmp 91,.tmp 94]) rfl ?_);at_builtin;refine Kd.R_append_rows Kd.bool (w0:=w) w.heap.size rfl (.tmp 91) (.tmp 94) 39 4 (.bool false) 1 rfl Try.underlying39 info4 rfl (by decide) (by omega) v7001 y718 t721 _ _ _ (fun k_=>some k_≠(.slice Ao7000 y715.length co7000:Value).ownBlock∧some k_≠(.slice Ao7001 t721.length co7001:Value).ownBlock) (fun _=>False) rfl rfl ?aO ?aR (fun _ _ h=>h) (fun _ h=>h.elim) ?aF ?aB ?aS ?aL ?_;(case aR=>exact cr_ HO7002);(case aB=>exact bl_);(case aF=>exact(fun k_ hk=>⟨Kd.fresh' (Kd.R_lt (ro_ HO7000)) k_ hk,Kd.fresh' (Kd.R_lt (ro_ HO7002)) k_ hk⟩));(case aO=>exact(ro_ HO7001));(case aS=>exact(below_size bl_));(case aL=>have:=LMc51.out;omega);intro v7003 w7003 ho hb hg hat;rw [←Ny724.out] at ho;have n_:=pk5 (Kd.R_over' (ro_ HO_3) (Kd.R_typed (ro_ HO7001)) (by decide) hg) (Kd.R_after (ok:=(fun k_=>some k_≠(.slice Ao7001 t721.length co7001:Value).ownBlock)) (rt_ (Kd.R_mono HO7000.out (fun _ hk=>⟨hk.2,hk.1.2⟩))) hg hat) (Kd.R_after (ok:=(fun k_=>some k_≠(.slice Ao7000 y715.length co7000:Value).ownBlock)) (rt_ (Kd.R_mono HO7002.out (fun _ hk=>⟨hk.1.2,hk.2⟩))) hg hat) (hb) (ho);clear HO_3 HO7000 HO7002 HB HO7001;obtain⟨HO_3,HO7000,HO7002,HB,HO7003⟩:=n_;clear ho hb hg hat)|((with_reducible refine gate_builtin (b:=.append) (xs:=#[.tmp 91,.tmp 94]) rfl ?_);at_builtin;refine Kd.R_append_rows Kd.bool (w0:=w) w.heap.size rfl (.tmp 91) (.tmp 94) 39 4 (.bool false) 1 rfl Try.underlying39 info4 rfl (by decide) (by omega) v7001 y730 t733 _ _ _ (fun k_=>some k_≠(.slice Ao7000 y727.length co7000:Value).ownBlock∧some k_≠(.slice Ao7001 t733.length co7001:Value).ownBlock) (fun _=>False) rfl rfl ?aO ?aR (fun _ _ h=>h) (fun _ h=>h.elim) ?aF ?aB ?aS ?aL ?_;(case aR=>exact cr_ HO7002);(case aB=>exact bl_);(case aF=>exact(fun k_ hk=>⟨Kd.fresh' (Kd.R_lt (ro_ HO7000)) k_ hk,Kd.fresh' (Kd.R_lt (ro_ HO7002)) k_ hk⟩));(case aO=>exact(ro_ HO7001));(case aS=>exact(below_size bl_));(case aL=>have:=LMc61.out;omega);intro v7003 w7003 ho hb hg hat;rw [←Ny736.out] at ho;have n_:=pk5 (Kd.R_over' (ro_ HO_3) (Kd.R_typed (ro_ HO7001)) (by decide) hg) (Kd.R_after (ok:=(fun k_=>some k_≠(.slice Ao7001 t733.length co7001:Value).ownBlock)) (rt_ (Kd.R_mono HO7000.out (fun _ hk=>⟨hk.2,hk.1.2⟩))) hg hat) (Kd.R_after (ok:=(fun k_=>some k_≠(.slice Ao7000 y727.length co7000:Value).ownBlock)) (rt_ (Kd.R_mono HO7002.out (fun _ hk=>⟨hk.1.2,hk.2⟩))) hg hat) (hb) (ho);clear HO_3 HO7000 HO7002 HB HO7001;obtain⟨HO_3,HO7000,HO7002,HB,HO7003⟩:=n_;clear ho hb hg hat)|((with_reducible refine gate_builtin (b:=.append) (xs:=#[.tmp 91,.tmp 94]) rfl ?_);at_builtin;refine Kd.R_append_rows Kd.bool (w0:=w) w.heap.size rfl (.tmp 91) (.tmp 94) 39 4 (.bool false) 1 rfl Try.underlying39 info4 rfl (by decide) (by omega) v7001 y742 t745 _ _ _ (fun k_=>some k_≠(.slice Ao7000 y739.length co7000:Value).ownBlock∧some k_≠(.slice Ao7001 t745.length co7001:Value).ownBlock) (fun _=>False) rfl rfl ?aO ?aR (fun _ _ h=>h) (fun _ h=>h.elim) ?aF ?aB ?aS ?aL ?_;(case aR=>exact cr_ HO7002);(case aB=>exact bl_);(case aF=>exact(fun k_ hk=>⟨Kd.fresh' (Kd.R_lt (ro_ HO7000)) k_ hk,Kd.fresh' (Kd.R_lt (ro_ HO7002)) k_ hk⟩));(case aO=>exact(ro_ HO7001));(case aS=>exact(below_size bl_));(case aL=>have:=LMc71.out;omega);intro v7003 w7003 ho hb hg hat;rw [←Ny748.out] at ho;have n_:=pk5 (Kd.R_over' (ro_ HO_3) (Kd.R_typed (ro_ HO7001)) (by decide) hg) (Kd.R_after (ok:=(fun k_=>some k_≠(.slice Ao7001 t745.length co7001:Value).ownBlock)) (rt_ (Kd.R_mono HO7000.out (fun _ hk=>⟨hk.2,hk.1.2⟩))) hg hat) (Kd.R_after (ok:=(fun k_=>some k_≠(.slice Ao7000 y739.length co7000:Value).ownBlock)) (rt_ (Kd.R_mono HO7002.out (fun _ hk=>⟨hk.1.2,hk.2⟩))) hg hat) (hb) (ho);clear HO_3 HO7000 HO7002 HB HO7001;obtain⟨HO_3,HO7000,HO7002,HB,HO7003⟩:=n_;clear ho hb hg hat)))
               go_roundg k3
               case measure=>have:=HK1.out;have:=HJ12.out;have:=HK3.out;omega
               first
                |case rel=>exact⟨(wrap64 (x9_3+1)),sm_,H',⟨by have:=HK1.out;have:=HJ12.out;have:=HK3.out;omega⟩,⟨(ro_ HO_3)⟩,⟨(ro_ HO_4)⟩,⟨bl_⟩⟩
                |case rel=>exact⟨(y712),(wrap64 ((wrap64 (x9_3 - x6_1)) - 1)),(wrap64 (x6_1+1)),sm_,sm_,H',⟨by have:=HK1.out;have:=HJ12.out;have:=HK3.out;omega⟩,⟨(ro_ HO_3)⟩,⟨(rt_ (Kd.R_mono HO7003.out (fun _ hk=>trivial)))⟩,⟨bl_⟩⟩
                |case rel=>exact⟨(y724),(wrap64 ((wrap64 (x9_3 - x6_1)) - 1)),(wrap64 (x6_1+1)),sm_,sm_,H',⟨by have:=HK1.out;have:=HJ12.out;have:=HK3.out;omega⟩,⟨(ro_ HO_3)⟩,⟨(rt_ (Kd.R_mono HO7003.out (fun _ hk=>trivial)))⟩,⟨bl_⟩⟩
                |case rel=>exact⟨(y736),(wrap64 ((wrap64 (x9_3 - x6_1)) - 1)),(wrap64 (x6_1+1)),sm_,sm_,H',⟨by have:=HK1.out;have:=HJ12.out;have:=HK3.out;omega⟩,⟨(ro_ HO_3)⟩,⟨(rt_ (Kd.R_mono HO7003.out (fun _ hk=>trivial)))⟩,⟨bl_⟩⟩
                |case rel=>exact⟨(y748),(wrap64 ((wrap64 (x9_3 - x6_1)) - 1)),(wrap64 (x6_1+1)),sm_,sm_,H',⟨by have:=HK1.out;have:=HJ12.out;have:=HK3.out;omega⟩,⟨(ro_ HO_3)⟩,⟨(rt_ (Kd.R_mono HO7003.out (fun _ hk=>trivial)))⟩,⟨bl_⟩⟩
           have H':=Aside0.mk H
           clear H
          all_goals
           go_wp2_with (first|(go_at_call 32;(with_reducible refine(windroseref17_Coded.calls kj12 (rd t681 (ji10)) t695 _ A20.out).mono ?_);rintro e w7102 ⟨v7102,rfl,ho0,hb⟩;have n_:=pk5 (Kd.R_below (ro_ HO_3) hb) (Kd.R_elder' (ro_ HO7100) (Kd.R_base ho0) hb) (Kd.R_elder' (ro_ HO7101) (Kd.R_base ho0) hb) (Kd.R_lower (Kd.R_new' (Kd.R_new' ho0 (Kd.R_lt (ro_ HO7100))) (Kd.R_lt (ro_ HO7101))) (below_size bl_)) (below_step bl_ hb);clear HO_3 HO7100 HO7101 HB;obtain⟨HO_3,HO7100,HO7101,HO7102,HB⟩:=n_;(try clear hb ho0);obtain⟨Ao7101,co7101,eo7101⟩:=Kd.R_slice HO7102.out;subst eo7101)|(go_at_call 32;(with_reducible refine(windroseref17_Coded.calls kj12 (rd t681 (ji7)) t689 _ A18.out).mono ?_);rintro e w7100 ⟨v7100,rfl,ho0,hb⟩;have n_:=pk4 (Kd.R_below (ro_ HO_3) hb) (Kd.R_elder' (ro_ HO_4) (Kd.R_base ho0) hb) (Kd.R_lower (Kd.R_new' ho0 (Kd.R_lt (ro_ HO_4))) (below_size bl_)) (below_step bl_ hb);clear HO_3 HO_4 HB;obtain⟨HO_3,HO_4,HO7100,HB⟩:=n_;(try clear hb ho0);obtain⟨Ao7100,co7100,eo7100⟩:=Kd.R_slice HO7100.out;subst eo7100)|((with_reducible refine gate_builtin (b:=.append) (xs:=#[.tmp 41,.tmp 43]) rfl ?_);at_builtin;refine Kd.R_append_rows Kd.bool (w0:=w) w.heap.size rfl (.tmp 41) (.tmp 43) 39 4 (.bool false) 1 rfl Try.underlying39 info4 rfl (by decide) (by omega) u4 x4_1 t689 _ _ _ (fun k_=>some k_≠(.slice Ao7100 t689.length co7100:Value).ownBlock) (fun _=>False) rfl rfl ?aO ?aR (fun _ _ h=>h) (fun _ h=>h.elim) ?aF ?aB ?aS ?aL ?_;(case aR=>exact cr_ HO7100);(case aB=>exact bl_);(case aF=>exact(fun k_ hk=>Kd.fresh' (Kd.R_lt (ro_ HO7100)) k_ hk));(case aO=>exact(rt_ (Kd.R_mono HO_4.out (fun _ hk=>hk.2))));(case aS=>exact(below_size bl_));(case aL=>have:=LMc19.out;omega);intro v7101 w7101 ho hb hg hat;rw [←Ny692.out] at ho;have n_:=pk4 (Kd.R_over' (ro_ HO_3) (Kd.R_typed (ro_ HO_4)) (by decide) hg) (Kd.R_after (ok:=(fun _=>True)) (ro_ HO7100) hg hat) (hb) (ho);clear HO_3 HO7100 HB HO_4;obtain⟨HO_3,HO7100,HB,HO7101⟩:=n_;clear ho hb hg hat)|((with_reducible refine gate_builtin (b:=.append) (xs:=#[.tmp 45,.tmp 47]) rfl ?_);at_builtin;refine Kd.R_append_rows Kd.bool (w0:=w) w.heap.size rfl (.tmp 45) (.tmp 47) 39 4 (.bool false) 1 rfl Try.underlying39 info4 rfl (by decide) (by omega) v7101 y692 t695 _ _ _ (fun k_=>some k_≠(.slice Ao7100 t689.length co7100:Value).ownBlock∧some k_≠(.slice Ao7101 t695.length co7101:Value).ownBlock) (fun _=>False) rfl rfl ?aO ?aR (fun _ _ h=>h) (fun _ h=>h.elim) ?aF ?aB ?aS ?aL ?_;(case aR=>exact cr_ HO7102);(case aB=>exact bl_);(case aF=>exact(fun k_ hk=>⟨Kd.fresh' (Kd.R_lt (ro_ HO7100)) k_ hk,Kd.fresh' (Kd.R_lt (ro_ HO7102)) k_ hk⟩));(case aO=>exact(ro_ HO7101));(case aS=>exact(below_size bl_));(case aL=>have:=LMc21.out;omega);intro v7103 w7103 ho hb hg hat;rw [←Ny698.out] at ho;have n_:=pk5 (Kd.R_over' (ro_ HO_3) (Kd.R_typed (ro_ HO7101)) (by decide) hg) (Kd.R_after (ok:=(fun k_=>some k_≠(.slice Ao7101 t695.length co7101:Value).ownBlock)) (rt_ (Kd.R_mono HO7100.out (fun _ hk=>⟨hk.2,hk.1.2⟩))) hg hat) (Kd.R_after (ok:=(fun k_=>some k_≠(.slice Ao7100 t689.length co7100:Value).ownBlock)) (rt_ (Kd.R_mono HO7102.out (fun _ hk=>⟨hk.1.2,hk.2⟩))) hg hat) (hb) (ho);clear HO_3 HO7100 HO7102 HB HO7101;obtain⟨HO_3,HO7100,HO7102,HB,HO7103⟩:=n_;clear ho hb hg hat))
           repeat(go_quiet (first|(go_at_call 32;(with_reducible refine(windroseref17_Coded.calls kj12 (rd t681 (ji10)) t695 _ A20.out).mono ?_);rintro e w7102 ⟨v7102,rfl,ho0,hb⟩;have n_:=pk5 (Kd.R_below (ro_ HO_3) hb) (Kd.R_elder' (ro_ HO7100) (Kd.R_base ho0) hb) (Kd.R_elder' (ro_ HO7101) (Kd.R_base ho0) hb) (Kd.R_lower (Kd.R_new' (Kd.R_new' ho0 (Kd.R_lt (ro_ HO7100))) (Kd.R_lt (ro_ HO7101))) (below_size bl_)) (below_step bl_ hb);clear HO_3 HO7100 HO7101 HB;obtain⟨HO_3,HO7100,HO7101,HO7102,HB⟩:=n_;(try clear hb ho0);obtain⟨Ao7101,co7101,eo7101⟩:=Kd.R_slice HO7102.out;subst eo7101)|(go_at_call 32;(with_reducible refine(windroseref17_Coded.calls kj12 (rd t681 (ji7)) t689 _ A18.out).mono ?_);rintro e w7100 ⟨v7100,rfl,ho0,hb⟩;have n_:=pk4 (Kd.R_below (ro_ HO_3) hb) (Kd.R_elder' (ro_ HO_4) (Kd.R_base ho0) hb) (Kd.R_lower (Kd.R_new' ho0 (Kd.R_lt (ro_ HO_4))) (below_size bl_)) (below_step bl_ hb);clear HO_3 HO_4 HB;obtain⟨HO_3,HO_4,HO7100,HB⟩:=n_;(try clear hb ho0);obtain⟨Ao7100,co7100,eo7100⟩:=Kd.R_slice HO7100.out;subst eo7100)|((with_reducible refine gate_builtin (b:=.append) (xs:=#[.tmp 41,.tmp 43]) rfl ?_);at_builtin;refine Kd.R_append_rows Kd.bool (w0:=w) w.heap.size rfl (.tmp 41) (.tmp 43) 39 4 (.bool false) 1 rfl Try.underlying39 info4 rfl (by decide) (by omega) u4 x4_1 t689 _ _ _ (fun k_=>some k_≠(.slice Ao7100 t689.length co7100:Value).ownBlock) (fun _=>False) rfl rfl ?aO ?aR (fun _ _ h=>h) (fun _ h=>h.elim) ?aF ?aB ?aS ?aL ?_;(case aR=>exact cr_ HO7100);(case aB=>exact bl_);(case aF=>exact(fun k_ hk=>Kd.fresh' (Kd.R_lt (ro_ HO7100)) k_ hk));(case aO=>exact(rt_ (Kd.R_mono HO_4.out (fun _ hk=>hk.2))));(case aS=>exact(below_size bl_));(case aL=>have:=LMc19.out;omega);intro v7101 w7101 ho hb hg hat;rw [←Ny692.out] at ho;have n_:=pk4 (Kd.R_over' (ro_ HO_3) (Kd.R_typed (ro_ HO_4)) (by decide) hg) (Kd.R_after (ok:=(fun _=>True)) (ro_ HO7100) hg hat) (hb) (ho);clear HO_3 HO7100 HB HO_4;obtain⟨HO_3,HO7100,HB,HO7101⟩:=n_;clear ho hb hg hat)|((with_reducible refine gate_builtin (b:=.append) (xs:=#[.tmp 45,.tmp 47]) rfl ?_);at_builtin;refine Kd.R_append_rows Kd.bool (w0:=w) w.heap.size rfl (.tmp 45) (.tmp 47) 39 4 (.bool false) 1 rfl Try.underlying39 info4 rfl (by decide) (by omega) v7101 y692 t695 _ _ _ (fun k_=>some k_≠(.slice Ao7100 t689.length co7100:Value).ownBlock∧some k_≠(.slice Ao7101 t695.length co7101:Value).ownBlock) (fun _=>False) rfl rfl ?aO ?aR (fun _ _ h=>h) (fun _ h=>h.elim) ?aF ?aB ?aS ?aL ?_;(case aR=>exact cr_ HO7102);(case aB=>exact bl_);(case aF=>exact(fun k_ hk=>⟨Kd.fresh' (Kd.R_lt (ro_ HO7100)) k_ hk,Kd.fresh' (Kd.R_lt (ro_ HO7102)) k_ hk⟩));(case aO=>exact(ro_ HO7101));(case aS=>exact(below_size bl_));(case aL=>have:=LMc21.out;omega);intro v7103 w7103 ho hb hg hat;rw [←Ny698.out] at ho;have n_:=pk5 (Kd.R_over' (ro_ HO_3) (Kd.R_typed (ro_ HO7101)) (by decide) hg) (Kd.R_after (ok:=(fun k_=>some k_≠(.slice Ao7101 t695.length co7101:Value).ownBlock)) (rt_ (Kd.R_mono HO7100.out (fun _ hk=>⟨hk.2,hk.1.2⟩))) hg hat) (Kd.R_after (ok:=(fun k_=>some k_≠(.slice Ao7100 t689.length co7100:Value).ownBlock)) (rt_ (Kd.R_mono HO7102.out (fun _ hk=>⟨hk.1.2,hk.2⟩))) hg hat) (hb) (ho);clear HO_3 HO7100 HO7102 HB HO7101;obtain⟨HO_3,HO7100,HO7102,HB,HO7103⟩:=n_;clear ho hb hg hat));try go_wp2_with (first|(go_at_call 32;(with_reducible refine(windroseref17_Coded.calls kj12 (rd t681 (ji10)) t695 _ A20.out).mono ?_);rintro e w7102 ⟨v7102,rfl,ho0,hb⟩;have n_:=pk5 (Kd.R_below (ro_ HO_3) hb) (Kd.R_elder' (ro_ HO7100) (Kd.R_base ho0) hb) (Kd.R_elder' (ro_ HO7101) (Kd.R_base ho0) hb) (Kd.R_lower (Kd.R_new' (Kd.R_new' ho0 (Kd.R_lt (ro_ HO7100))) (Kd.R_lt (ro_ HO7101))) (below_size bl_)) (below_step bl_ hb);clear HO_3 HO7100 HO7101 HB;obtain⟨HO_3,HO7100,HO7101,HO7102,HB⟩:=n_;(try clear hb ho0);obtain⟨Ao7101,co7101,eo7101⟩:=Kd.R_slice HO7102.out;subst eo7101)|(go_at_call 32;(with_reducible refine(windroseref17_Coded.calls kj12 (rd t681 (ji7)) t689 _ A18.out).mono ?_);rintro e w7100 ⟨v7100,rfl,ho0,hb⟩;have n_:=pk4 (Kd.R_below (ro_ HO_3) hb) (Kd.R_elder' (ro_ HO_4) (Kd.R_base ho0) hb) (Kd.R_lower (Kd.R_new' ho0 (Kd.R_lt (ro_ HO_4))) (below_size bl_)) (below_step bl_ hb);clear HO_3 HO_4 HB;obtain⟨HO_3,HO_4,HO7100,HB⟩:=n_;(try clear hb ho0);obtain⟨Ao7100,co7100,eo7100⟩:=Kd.R_slice HO7100.out;subst eo7100)|((with_reducible refine gate_builtin (b:=.append) (xs:=#[.tmp 41,.tmp 43]) rfl ?_);at_builtin;refine Kd.R_append_rows Kd.bool (w0:=w) w.heap.size rfl (.tmp 41) (.tmp 43) 39 4 (.bool false) 1 rfl Try.underlying39 info4 rfl (by decide) (by omega) u4 x4_1 t689 _ _ _ (fun k_=>some k_≠(.slice Ao7100 t689.length co7100:Value).ownBlock) (fun _=>False) rfl rfl ?aO ?aR (fun _ _ h=>h) (fun _ h=>h.elim) ?aF ?aB ?aS ?aL ?_;(case aR=>exact cr_ HO7100);(case aB=>exact bl_);(case aF=>exact(fun k_ hk=>Kd.fresh' (Kd.R_lt (ro_ HO7100)) k_ hk));(case aO=>exact(rt_ (Kd.R_mono HO_4.out (fun _ hk=>hk.2))));(case aS=>exact(below_size bl_));(case aL=>have:=LMc19.out;omega);intro v7101 w7101 ho hb hg hat;rw [←Ny692.out] at ho;have n_:=pk4 (Kd.R_over' (ro_ HO_3) (Kd.R_typed (ro_ HO_4)) (by decide) hg) (Kd.R_after (ok:=(fun _=>True)) (ro_ HO7100) hg hat) (hb) (ho);clear HO_3 HO7100 HB HO_4;obtain⟨HO_3,HO7100,HB,HO7101⟩:=n_;clear ho hb hg hat)|((with_reducible refine gate_builtin (b:=.append) (xs:=#[.tmp 45,.tmp 47]) rfl ?_);at_builtin;refine Kd.R_append_rows Kd.bool (w0:=w) w.heap.size rfl (.tmp 45) (.tmp 47) 39 4 (.bool false) 1 rfl Try.underlying39 info4 rfl (by decide) (by omega) v7101 y692 t695 _ _ _ (fun k_=>some k_≠(.slice Ao7100 t689.length co7100:Value).ownBlock∧some k_≠(.slice Ao7101 t695.length co7101:Value).ownBlock) (fun _=>False) rfl rfl ?aO ?aR (fun _ _ h=>h) (fun _ h=>h.elim) ?aF ?aB ?aS ?aL ?_;(case aR=>exact cr_ HO7102);(case aB=>exact bl_);(case aF=>exact(fun k_ hk=>⟨Kd.fresh' (Kd.R_lt (ro_ HO7100)) k_ hk,Kd.fresh' (Kd.R_lt (ro_ HO7102)) k_ hk⟩));(case aO=>exact(ro_ HO7101));(case aS=>exact(below_size bl_));(case aL=>have:=LMc21.out;omega);intro v7103 w7103 ho hb hg hat;rw [←Ny698.out] at ho;have n_:=pk5 (Kd.R_over' (ro_ HO_3) (Kd.R_typed (ro_ HO7101)) (by decide) hg) (Kd.R_after (ok:=(fun k_=>some k_≠(.slice Ao7101 t695.length co7101:Value).ownBlock)) (rt_ (Kd.R_mono HO7100.out (fun _ hk=>⟨hk.2,hk.1.2⟩))) hg hat) (Kd.R_after (ok:=(fun k_=>some k_≠(.slice Ao7100 t689.length co7100:Value).ownBlock)) (rt_ (Kd.R_mono HO7102.out (fun _ hk=>⟨hk.1.2,hk.2⟩))) hg hat) (hb) (ho);clear HO_3 HO7100 HO7102 HB HO7101;obtain⟨HO_3,HO7100,HO7102,HB,HO7103⟩:=n_;clear ho hb hg hat)))
           go_roundg kj12
           case measure=>have:=HK1.out;have:=HJ12.out;omega
           first
            |case rel=>exact⟨(y698),(x5_1),(wrap64 (x6_1+1)),sm_,sm_,H',⟨by have:=HK1.out;have:=HJ12.out;omega⟩,⟨(ro_ HO_3)⟩,⟨(rt_ (Kd.R_mono HO7103.out (fun _ hk=>trivial)))⟩,⟨bl_⟩⟩
            |case rel=>exact⟨(x4_1),(wrap64 (x5_1 - 1)),(wrap64 (x6_1+1)),sm_,sm_,H',⟨by have:=HK1.out;have:=HJ12.out;omega⟩,⟨(ro_ HO_3)⟩,⟨(ro_ HO_4)⟩,⟨bl_⟩⟩
       exact absurd H (by simp)
      exact absurd H (by simp)
     exact absurd H (by simp)
    exact absurd H (by simp)
   obtain rfl:=Option.some.inj H
   go_wp2
   repeat(go_quiet (fail);try go_wp2)
   go_ret
   exact⟨_,rf_,(ro_ HO_4),bl_⟩
end Go.Proofs.Ytmddmbagehjdeaa.G
end
section
namespace Go.Proofs.Ytmddmbagehjdeaa.G
open Go.RowKit Go.Proofs.YtmddmbagehjdeaaX Go.Proofs.YtmddmbagehjdeaaW.PrintWords Go.Proofs.YtmddmbagehjdeaaW.PrintLast Go.Proofs.YtmddmbagehjdeaaW.PrintMore
attribute [local go_sem] max2_int min2_int max_two min_two max_three min_three max_four min_four
def windroseref18_Build.f (k:Nat) (l0:List (S67)):Option (Int×Int×Int×List Int×Int):=if 0<(l0.length:Int)then(if 0≤(wrap64 ((l0.length:Int) - 1))then(if(wrap64 ((l0.length:Int) - 1))<(l0.length:Int)then((windroseref18_Bits.f k l0).bind fun t754=>((windroseref17_Of.f k t754).bind fun bt757=>(some ((l0.length:Int),(rd_T67 l0 0).f0,(rd_T67 l0 (wrap64 ((l0.length:Int) - 1))).f0,bt757.1,bt757.2))))else(none))else(none))else(none)
def windroseref18_Build.T1:Bool×List (List Nat×List Nat):=(true,[([],[]),([0],[0]),([],[]),([2],[2]),([3],[3]),([4],[4]),([],[]),([],[]),([7],[7]),([8],[8]),([6,9],[6,9]),([10],[10]),([11],[11]),([],[]),([13],[13]),([14,14],[14]),([1,5,12,15],[1,5,12,15]),([16,15,0,1,2,3,4,5,6,7,8,9,10,11,12,13,14,15,16],[16])])
def windroseref18_Build.B1:List Nat:=[0,1,0,4,12,28,0,0,128,384,960,1984,4032,0,8192,24576,65535,131071]
theorem windroseref18_Build.tab1:rtab .any (opsOf Try.f41 1)=windroseref18_Build.T1:=by kernel_rfl
theorem windroseref18_Build.bits1:waitsOk windroseref18_Build.T1.2 windroseref18_Build.B1=true:=by kernel_rfl
theorem windroseref18_Build.calls (k:Nat) (A0:Option Addr) (c0:Nat) (l0:List (S67)) (r1:Int) (r2:Int) (r3:Int) (r4:List Int) (r5:Int) (w:World) (hr0:Kd.C k67 w A0 l0.length l0) (hc0:l0.length≤c0) (h:windroseref18_Build.f k l0=some (r1,r2,r3,r4,r5)) :
  Calls Try.prog 41 #[.slice A0 l0.length c0] w fun e w'=>∃ v3_:Value,e=.returned (.agg #[.int .i64 r1,.int .i64 r2,.int .i64 r3,v3_,.int .i64 r5])∧Kd.R (Kd.int .u8) 5 w' w.heap.size (fun _=>True) v3_ r4∧Below w.heap.size w w':=by
 have hu69:=Try.underlying69
 have HR0:=Aside0.mk hr0
 have HC0:=Aside0.mk hc0
 clear hr0 hc0
 have HB:=Aside0.mk (Below.refl w.heap.size w)
 have H:(if 0<(l0.length:Int)then(if 0≤(wrap64 ((l0.length:Int) - 1))then(if(wrap64 ((l0.length:Int) - 1))<(l0.length:Int)then((windroseref18_Bits.f k l0).bind fun t754=>((windroseref17_Of.f k t754).bind fun bt757=>(some ((l0.length:Int),(rd_T67 l0 0).f0,(rd_T67 l0 (wrap64 ((l0.length:Int) - 1))).f0,bt757.1,bt757.2))))else(none))else(none))else(none))=some (r1,r2,r3,r4,r5):=h
 clear h
 by_cases c2:0<(l0.length:Int)
 rotate_left
 ·rw [if_neg c2] at H
  exact absurd H (by simp)
 rw [if_pos c2] at H
 have c2b0:decide (0<(l0.length:Int))=true:=decide_eq_true c2
 have c2b1:decide (0<l0.length)=true:=decide_eq_true (by omega)
 clear c2
 obtain⟨ji3,hji3⟩:∃ j_:Int,(wrap64 ((l0.length:Int) - 1))=j_:=⟨_,rfl⟩
 replace H:(if 0≤(ji3)then(if(ji3)<(l0.length:Int)then((windroseref18_Bits.f k l0).bind fun t754=>((windroseref17_Of.f k t754).bind fun bt757=>(some ((l0.length:Int),(rd_T67 l0 0).f0,(rd_T67 l0 (ji3)).f0,bt757.1,bt757.2))))else(none))else(none))=some (r1,r2,r3,r4,r5):=by first|(rw [hji3] at H;exact H)|(simp only [hji3] at H ⊢;exact H)
 have hji3w:(IntKind.i64.wrap ((l0.length:Int) - 1))=ji3:=(i64_w _).trans hji3
 replace H:=dle H
 rcases H with⟨c4b0,H⟩|⟨c4b0,H⟩
 rotate_left
 ·exact absurd H (by simp)
 replace H:=dle H
 rcases H with⟨c5b0,H⟩|⟨c5b0,H⟩
 rotate_left
 ·exact absurd H (by simp)
 replace H:=bindA H
 obtain⟨t754,A6,H⟩:=H
 try dsimp only at H
 replace H:=bindA H
 obtain⟨⟨t757,t760⟩,A7,H⟩:=H
 try dsimp only at H
 simp only [Option.some.injEq,Prod.mk.injEq] at H
 obtain⟨rfl,rfl,rfl,rfl,rfl⟩:=H
 go_enter Try.func41,Try.ntmps41
 try go_wp2_with (first|((with_reducible refine gate_dst (N:=2) rfl ?_);refine box_ev 2 #[.int .i64 0,.int .i64 0,.int .i64 0,.slice none 0 0,.int .i64 0] 69 ?_;intro gb7000 hg w7000 hbox hb;have n_:=pk4 (below_step bl_ hb) (hbox) ((ge_ hg bl_:w.heap.size≤gb7000)) ((ge_ hg bl_:w.heap.size≤gb7000));clear HB;obtain⟨HB,BK7000,GW7000,GE7000⟩:=n_;clear hb hbox hg))
 have n_:=pk2 (blk_drew BK7000.out) (below_drew1 HB.out)
 clear BK7000 HB
 obtain⟨BK7000,HB⟩:=n_
 have p7000:0≤(0:Int):=(by omega)
 have q7000:0<(l0.length:Int):=dc_
 obtain⟨ad7000,e7000,hx7000_0,hx7000_1⟩:=at_T67 HR0.out 0 p7000 q7000
 have hw7000_1:=hx7000_1
 (try rw [show((0:Int)).toNat=0 from rfl] at hw7000_1)
 (try rw [show 0*2=0 from rfl] at hw7000_1)
 (try rw [Addr.add_zero'] at hw7000_1)
 have hw7000_0:=hx7000_0
 (try rw [show((0:Int)).toNat=0 from rfl] at hw7000_0)
 (try rw [show 0*2=0 from rfl] at hw7000_0)
 (try rw [Addr.add_zero'] at hw7000_0)
 cases e7000
 have qi7000:(0<l0.length)=True:=eq_true (by omega)
 (try rw [show((0:Int)).toNat=0 from rfl] at hx7000_0)
 (try rw [show 0*2=0 from rfl] at hx7000_0)
 (try rw [Addr.add_zero'] at hx7000_0)
 (try rw [show((0:Int)).toNat=0 from rfl] at hx7000_1)
 (try rw [show 0*2=0 from rfl] at hx7000_1)
 (try rw [Addr.add_zero'] at hx7000_1)
 replace hx7000_0:=(HB.out.cell (World.block_lt_of_cell? w _ hx7000_0)).trans hx7000_0
 replace hx7000_1:=(HB.out.cell (World.block_lt_of_cell? w _ hx7000_1)).trans hx7000_1
 replace p7000:=eq_true p7000
 replace q7000:=eq_true q7000
 have p7001:0≤((ji3):Int):=dc_
 have q7001:(ji3)<(l0.length:Int):=dc_
 obtain⟨ad7001,e7001,hx7001_0,hx7001_1⟩:=at_T67 HR0.out (ji3) p7001 q7001
 have hw7001_1:=hx7001_1
 have hw7001_0:=hx7001_0
 obtain rfl:ad7000=ad7001:=(by injection e7001)
 replace hx7001_0:=(HB.out.cell (World.block_lt_of_cell? w _ hx7001_0)).trans hx7001_0
 replace hx7001_1:=(HB.out.cell (World.block_lt_of_cell? w _ hx7001_1)).trans hx7001_1
 replace p7001:=eq_true p7001
 replace q7001:=eq_true q7001
 refine start_ (n:=18) (S:=fun w'=>w'.cell? ad7000=some (.int .i64 ((rd_T67 l0 0).f0))∧w'.cell? ⟨ad7000.block,ad7000.off+1,none⟩=some (.int .i64 ((rd_T67 l0 0).f1))∧w'.cell? (ad7000.add (((ji3)).toNat*2))=some (.int .i64 ((rd_T67 l0 (ji3)).f0))∧w'.cell? ⟨(ad7000.add (((ji3)).toNat*2)).block,(ad7000.add (((ji3)).toNat*2)).off+1,none⟩=some (.int .i64 ((rd_T67 l0 (ji3)).f1))) (ds:=[]) bz10_18_0 (by kernel_rfl) rfl rfl ⟨((HB.out.cell (World.block_lt_of_cell? w _ hw7000_0)).trans hw7000_0),((HB.out.cell (World.block_lt_of_cell? w _ hw7000_1)).trans hw7000_1),((HB.out.cell (World.block_lt_of_cell? w _ hw7001_0)).trans hw7001_0),((HB.out.cell (World.block_lt_of_cell? w _ hw7001_1)).trans hw7001_1)⟩ (fun hHeld=>?_);refine with_tabW windroseref18_Build.tab1 windroseref18_Build.bits1 (fun HT_ HW_=>?_)
 generalize w7000.drew=w7001 at BK7000 HB hx7000_0 hx7000_1 hx7001_0 hx7001_1 hHeld ⊢
 refine pure_ (i:=0) (N:=some 3) (v:=?_) (a':=?_) bz10_18_1 rfl rfl (any_of HT_.out (by kernel_rfl)) (fun _ _ _ h=>h) (Or.inl ⟨by rfl,?_⟩) ?_ ?_
 rotate_left
 ·intro w'
  go_simp
  with_reducible rfl
 rotate_left
 ·simp only [ap_,sb_,s0_,s1_,i64_w,i32_w]
  rfl
 refine pure_ (i:=1) (N:=some 4) (v:=?_) (a':=?_) bz10_18_3 rfl rfl (any_of HT_.out (by kernel_rfl)) (fun _ _ _ h=>h) (Or.inl ⟨by rfl,?_⟩) ?_ ?_
 rotate_left
 ·intro w'
  go_simp
  with_reducible rfl
 rotate_left
 ·simp only [ap_,sb_,s0_,s1_,i64_w,i32_w]
  rfl
 refine pure_ (i:=2) (N:=some 5) (v:=?_) (a':=?_) bz10_18_7 rfl rfl (any_of HT_.out (by kernel_rfl)) (fun _ _ _ h=>h) (Or.inl ⟨by rfl,?_⟩) ?_ ?_
 rotate_left
 ·intro w'
  go_simp
  with_reducible rfl
 rotate_left
 ·simp only [ap_,sb_,s0_,s1_,i64_w,i32_w]
  rfl
 refine pure_ (i:=3) (N:=some 6) (v:=?_) (a':=?_) bz10_18_15 rfl rfl (any_of HT_.out (by kernel_rfl)) (fun _ _ _ h=>h) (Or.inl ⟨by rfl,?_⟩) ?_ ?_
 rotate_left
 ·intro w'
  go_simp
  with_reducible rfl
 rotate_left
 ·simp only [ap_,sb_,s0_,s1_,i64_w,i32_w]
  rfl
 refine pure_ (i:=4) (N:=some 7) (v:=?_) (a':=?_) bz10_18_31 rfl rfl (any_of HT_.out (by kernel_rfl)) (fun _ _ _ h=>h) (Or.inl ⟨by rfl,?_⟩) ?_ ?_
 rotate_left
 ·intro w'
  go_simp
  with_reducible rfl
 rotate_left
 ·simp only [ap_,sb_,s0_,s1_,i64_w,i32_w]
  rfl
 refine pure_ (i:=6) (N:=some 9) (v:=?_) (a':=?_) bz10_18_95 rfl rfl (any_of HT_.out (by kernel_rfl)) (fun _ _ _ h=>h) (Or.inl ⟨by rfl,?_⟩) ?_ ?_
 rotate_left
 ·intro w'
  go_simp
  with_reducible rfl
 rotate_left
 ·simp only [ap_,sb_,s0_,s1_,i64_w,i32_w]
  rfl
 refine pure_ (i:=7) (N:=some 10) (v:=?_) (a':=?_) bz10_18_223 rfl rfl (any_of HT_.out (by kernel_rfl)) (fun _ _ _ h=>h) (Or.inl ⟨by rfl,?_⟩) ?_ ?_
 rotate_left
 ·intro w'
  go_simp
  with_reducible rfl
 rotate_left
 ·simp only [ap_,sb_,s0_,s1_,i64_w,i32_w]
  rfl
 refine pure_ (i:=8) (N:=some 11) (v:=?_) (a':=?_) bz10_18_479 rfl rfl (any_of HT_.out (by kernel_rfl)) (fun _ _ _ h=>h) (Or.inl ⟨by rfl,?_⟩) ?_ ?_
 rotate_left
 ·intro w'
  go_simp
  with_reducible rfl
 rotate_left
 ·simp only [ap_,sb_,s0_,s1_,i64_w,i32_w]
  rfl
 refine pure_ (i:=9) (N:=some 12) (v:=?_) (a':=?_) bz10_18_991 rfl rfl (any_of HT_.out (by kernel_rfl)) (fun _ _ _ h=>h) (Or.inl ⟨by rfl,?_⟩) ?_ ?_
 rotate_left
 ·intro w'
  go_simp
  with_reducible rfl
 rotate_left
 ·simp only [ap_,sb_,s0_,s1_,i64_w,i32_w]
  rfl
 refine pure_ (i:=10) (N:=some 13) (v:=?_) (a':=?_) bz10_18_2015 rfl rfl (any_of HT_.out (by kernel_rfl)) (fun _ _ _ h=>h) (Or.inl ⟨by rfl,?_⟩) ?_ ?_
 rotate_left
 ·intro w'
  go_simp
  with_reducible rfl
 rotate_left
 ·simp only [ap_,sb_,s0_,s1_,i64_w,i32_w]
  rfl
 refine pure_ (i:=11) (N:=some 14) (v:=?_) (a':=?_) bz10_18_4063 rfl rfl (any_of HT_.out (by kernel_rfl)) (fun _ _ _ h=>h) (Or.inl ⟨by rfl,?_⟩) ?_ ?_
 rotate_left
 ·intro w'
  go_simp
  with_reducible rfl
 rotate_left
 ·simp only [ap_,sb_,s0_,s1_,i64_w,i32_w]
  rfl
 refine pure_ (i:=13) (N:=some 16) (v:=?_) (a':=?_) bz10_18_12255 rfl rfl (any_of HT_.out (by kernel_rfl)) (fun _ _ _ h=>h) (Or.inl ⟨by rfl,?_⟩) ?_ ?_
 rotate_left
 ·intro w'
  go_simp
  with_reducible rfl
 rotate_left
 ·simp only [ap_,sb_,s0_,s1_,i64_w,i32_w]
  rfl
 refine take_ (i:=5) (N:=some 8) (v:=?_) (a':=?_) bz10_18_12287 rfl rfl (take_ofW HT_.out HW_.out (by kernel_rfl)) (fun _ _ _ h=>h) (Or.inl ⟨by rfl,?_⟩) hHeld ?_ ?_
 rotate_left
 ·rintro w' ⟨s7000,s7001,s7002,s7003⟩
  go_simp
  with_reducible rfl
 rotate_left
 ·simp only [ap_,sb_,s0_,s1_,i64_w,i32_w]
  rfl
 refine take_ (i:=12) (N:=some 15) (v:=?_) (a':=?_) bz10_18_16383 rfl rfl (take_ofW HT_.out HW_.out (by kernel_rfl)) (fun _ _ _ h=>h) (Or.inl ⟨by rfl,?_⟩) hHeld ?_ ?_
 rotate_left
 ·rintro w' ⟨s7000,s7001,s7002,s7003⟩
  go_simp
  with_reducible rfl
 rotate_left
 ·simp only [ap_,sb_,s0_,s1_,i64_w,i32_w]
  rfl
 refine one_ (i:=14) (N:=some 17) bz10_18_32767 rfl rfl (one_of HT_.out (by kernel_rfl)) (by decide) (fun K hK=>?_)
 refine goes_ Try.func74 (by kernel_rfl) rfl #[.slice (some ad7000) l0.length c0] (by rfl) rfl rfl (by(try simp only [List.map_toArray,List.map_cons,List.map_nil]);first|done|rfl|(simp only [List.length_drop,List.length_take];rfl)) ?_
 with_reducible refine(windroseref18_Bits.calls k _ _ l0 t754 _ ?side1 ?side2 A6.out).mono ?_
 (case side1=>exact cb_ HR0)
 (case side2=>exact HC0.out)
 rintro e w7002 ⟨v7000,rfl,ho7000,hb⟩
 refine⟨_,rfl,?_⟩
 have n_:=pk3 (Kd.R_lower ho7000 (below_size bl_)) (blk_below (bo_ BK7000) hb) (below_step bl_ hb)
 clear BK7000 HB
 obtain⟨HO7000,BK7000,HB⟩:=n_
 (try clear hb)
 (try clear hb2)
 (try clear hk)
 (try clear hi)
 (try clear ho7000)
 obtain⟨Ao7000,co7000,eo7000⟩:=Kd.R_slice HO7000.out
 (first|subst eo7000|(injection eo7000 with f1_ f2_ f3_;have f7000_:=f1_.symm;have f7001_:=f3_.symm;clear f1_ f2_ f3_;subst f7000_;subst f7001_))
 refine hK.out _ _ ⟨((HB.out.cell (World.block_lt_of_cell? w _ hw7000_0)).trans hw7000_0),((HB.out.cell (World.block_lt_of_cell? w _ hw7000_1)).trans hw7000_1),((HB.out.cell (World.block_lt_of_cell? w _ hw7001_0)).trans hw7001_0),((HB.out.cell (World.block_lt_of_cell? w _ hw7001_1)).trans hw7001_1)⟩ (fun hHeld=>?_)
 clear hK K
 refine norm_ (a':=?_) ?_ ?_
 rotate_left
 ·show Act.put _ (some 17) _=_
  simp only [ap_,sb_,s0_,s1_,i64_w,i32_w]
  rfl
 refine one_ (i:=15) (N:=some 18) bz10_18_65535 rfl rfl (one_of HT_.out (by kernel_rfl)) (by decide) (fun K hK=>?_)
 refine goes_ Try.func67 (by kernel_rfl) rfl #[.slice Ao7000 t754.length co7000] (by rfl) rfl rfl (by(try simp only [List.map_toArray,List.map_cons,List.map_nil]);first|done|rfl|(simp only [List.length_drop,List.length_take];rfl)) ?_
 with_reducible refine(windroseref17_Of.calls k _ _ t754 t757 t760 _ ?side1 ?side2 A7.out).mono ?_
 (case side1=>exact cr_ HO7000)
 (case side2=>exact(Kd.R_reads' HO7000.out).2.1)
 rintro e w7003 ⟨v7001,rfl,ho7000,hb⟩
 refine⟨_,rfl,?_⟩
 have n_:=pk4 (Kd.R_below (ro_ HO7000) hb) (Kd.R_lower ho7000 (below_size bl_)) (blk_below (bo_ BK7000) hb) (below_step bl_ hb)
 clear HO7000 BK7000 HB
 obtain⟨HO7000,HO7001,BK7000,HB⟩:=n_
 (try clear hb)
 (try clear hb2)
 (try clear hk)
 (try clear hi)
 (try clear ho7000)
 obtain⟨Ao7001,co7001,eo7001⟩:=Kd.R_slice HO7001.out
 (first|subst eo7001|(injection eo7001 with f1_ f2_ f3_;have f7000_:=f1_.symm;have f7001_:=f3_.symm;clear f1_ f2_ f3_;subst f7000_;subst f7001_))
 refine hK.out _ _ ⟨((HB.out.cell (World.block_lt_of_cell? w _ hw7000_0)).trans hw7000_0),((HB.out.cell (World.block_lt_of_cell? w _ hw7000_1)).trans hw7000_1),((HB.out.cell (World.block_lt_of_cell? w _ hw7001_0)).trans hw7001_0),((HB.out.cell (World.block_lt_of_cell? w _ hw7001_1)).trans hw7001_1)⟩ (fun hHeld=>?_)
 clear hK K
 refine norm_ (a':=?_) ?_ ?_
 rotate_left
 ·show Act.put _ (some 18) _=_
  simp only [ap_,sb_,s0_,s1_,i64_w,i32_w]
  rfl
 refine pure_ (i:=16) (N:=some 19) (v:=?_) (a':=?_) bz10_18_131071 rfl rfl (any_of HT_.out (by kernel_rfl)) (fun _ _ _ h=>h) (Or.inl ⟨by rfl,?_⟩) ?_ ?_
 rotate_left
 ·intro w'
  go_simp
  with_reducible rfl
 rotate_left
 ·simp only [ap_,sb_,s0_,s1_,i64_w,i32_w]
  rfl
 refine one_ (i:=17) (N:=none) bz10_18_262143 rfl rfl (one_of HT_.out (by kernel_rfl)) (by decide) (fun K hK=>?_)
 have hs7000:w7003.cell? ⟨gb7000,0,none⟩=some (.int .i64 0):=(blk_cell BK7000.out 0).trans rfl
 have hfs7000:=blk_frozen BK7000.out 0
 have hs7001:w7003.cell? ⟨gb7000,1,none⟩=some (.int .i64 0):=(blk_cell BK7000.out 1).trans rfl
 have hfs7001:=blk_frozen BK7000.out 1
 have hs7002:w7003.cell? ⟨gb7000,2,none⟩=some (.int .i64 0):=(blk_cell BK7000.out 2).trans rfl
 have hfs7002:=blk_frozen BK7000.out 2
 have hs7003:w7003.cell? ⟨gb7000,3,none⟩=some (.slice none 0 0):=(blk_cell BK7000.out 3).trans rfl
 have hfs7003:=blk_frozen BK7000.out 3
 have hs7004:w7003.cell? ⟨gb7000,4,none⟩=some (.int .i64 0):=(blk_cell BK7000.out 4).trans rfl
 have hfs7004:=blk_frozen BK7000.out 4
 refine skip_ (w1:=?_) (by rfl) rfl ?_ ?_
 rotate_left
 ·go_simp
  rfl
 refine hK.out _ _ ⟨((cell_far (p:=⟨gb7000,_,none⟩) (nq_ hw7000_0 GW7000.out) _).trans (((cell_far (p:=⟨gb7000,_,none⟩) (nq_ hw7000_0 GW7000.out) _).trans (((cell_far (p:=⟨gb7000,_,none⟩) (nq_ hw7000_0 GW7000.out) _).trans (((cell_far (p:=⟨gb7000,_,none⟩) (nq_ hw7000_0 GW7000.out) _).trans (((cell_far (p:=⟨gb7000,_,none⟩) (nq_ hw7000_0 GW7000.out) _).trans (hHeld.1)))))))))),((cell_far (p:=⟨gb7000,_,none⟩) (nq_ hw7000_1 GW7000.out) _).trans (((cell_far (p:=⟨gb7000,_,none⟩) (nq_ hw7000_1 GW7000.out) _).trans (((cell_far (p:=⟨gb7000,_,none⟩) (nq_ hw7000_1 GW7000.out) _).trans (((cell_far (p:=⟨gb7000,_,none⟩) (nq_ hw7000_1 GW7000.out) _).trans (((cell_far (p:=⟨gb7000,_,none⟩) (nq_ hw7000_1 GW7000.out) _).trans (hHeld.2.1)))))))))),((cell_far (p:=⟨gb7000,_,none⟩) (nq_ hw7001_0 GW7000.out) _).trans (((cell_far (p:=⟨gb7000,_,none⟩) (nq_ hw7001_0 GW7000.out) _).trans (((cell_far (p:=⟨gb7000,_,none⟩) (nq_ hw7001_0 GW7000.out) _).trans (((cell_far (p:=⟨gb7000,_,none⟩) (nq_ hw7001_0 GW7000.out) _).trans (((cell_far (p:=⟨gb7000,_,none⟩) (nq_ hw7001_0 GW7000.out) _).trans (hHeld.2.2.1)))))))))),((cell_far (p:=⟨gb7000,_,none⟩) (nq_ hw7001_1 GW7000.out) _).trans (((cell_far (p:=⟨gb7000,_,none⟩) (nq_ hw7001_1 GW7000.out) _).trans (((cell_far (p:=⟨gb7000,_,none⟩) (nq_ hw7001_1 GW7000.out) _).trans (((cell_far (p:=⟨gb7000,_,none⟩) (nq_ hw7001_1 GW7000.out) _).trans (((cell_far (p:=⟨gb7000,_,none⟩) (nq_ hw7001_1 GW7000.out) _).trans (hHeld.2.2.2))))))))))⟩ (fun hHeld=>?_)
 clear hK K
 refine done_ (done_of HT_.out (by kernel_rfl)) ?_
 try go_wp2
 refine bodyPost_ret (results_cell_row rfl _ _ gb7000 69 #[.int .i64 (l0.length:Int),.int .i64 ((rd_T67 l0 0).f0),.int .i64 ((rd_T67 l0 (ji3)).f0),.slice Ao7001 t757.length co7001,.int .i64 t760] (0,0) _ rfl (by(with_reducible repeat(first|refine blk_drewN ?_ _|refine blk_drew ?_|refine blk_alloc ?_ _));refine blk_put (cs:=#[.int .i64 (l0.length:Int),.int .i64 ((rd_T67 l0 0).f0),.int .i64 ((rd_T67 l0 (ji3)).f0),.slice Ao7001 t757.length co7001,.int .i64 0]) ?_ 4 _ rfl;(with_reducible repeat(first|refine blk_drewN ?_ _|refine blk_drew ?_|refine blk_alloc ?_ _));refine blk_put (cs:=#[.int .i64 (l0.length:Int),.int .i64 ((rd_T67 l0 0).f0),.int .i64 ((rd_T67 l0 (ji3)).f0),.slice none 0 0,.int .i64 0]) ?_ 3 _ rfl;(with_reducible repeat(first|refine blk_drewN ?_ _|refine blk_drew ?_|refine blk_alloc ?_ _));refine blk_put (cs:=#[.int .i64 (l0.length:Int),.int .i64 ((rd_T67 l0 0).f0),.int .i64 0,.slice none 0 0,.int .i64 0]) ?_ 2 _ rfl;(with_reducible repeat(first|refine blk_drewN ?_ _|refine blk_drew ?_|refine blk_alloc ?_ _));refine blk_put (cs:=#[.int .i64 (l0.length:Int),.int .i64 0,.int .i64 0,.slice none 0 0,.int .i64 0]) ?_ 1 _ rfl;(with_reducible repeat(first|refine blk_drewN ?_ _|refine blk_drew ?_|refine blk_alloc ?_ _));refine blk_put (cs:=#[.int .i64 0,.int .i64 0,.int .i64 0,.slice none 0 0,.int .i64 0]) ?_ 0 _ rfl;exact(bo_ BK7000)) Try.underlying69 rfl (by kernel_rfl)) rfl ?_
 exact⟨_,by first|rfl|(simp [errW_none,errW_some]<;>rfl)|(simp only [←hji3];first|rfl|(simp [errW_none,errW_some]<;>rfl))|(simp [*,errW_none,errW_some]<;>rfl),(rt_ (Kd.R_mono (Kd.R_far (p:=⟨gb7000,4,none⟩) (Kd.R_far (p:=⟨gb7000,3,none⟩) (Kd.R_far (p:=⟨gb7000,2,none⟩) (Kd.R_far (p:=⟨gb7000,1,none⟩) (Kd.R_far (p:=⟨gb7000,0,none⟩) (Kd.R_types HO7001.out BK7000.out (by decide)) (fun _ hk=>hk.2) (.int .i64 (l0.length:Int))) (fun _ hk=>hk.2) (.int .i64 ((rd_T67 l0 0).f0))) (fun _ hk=>hk.2) (.int .i64 ((rd_T67 l0 (ji3)).f0))) (fun _ hk=>hk.2) (.slice Ao7001 t757.length co7001)) (fun _ hk=>hk.2) (.int .i64 t760)) (fun _ hk=>trivial))),bl_⟩
end Go.Proofs.Ytmddmbagehjdeaa.G
end
section
namespace Go.Proofs.Ytmddmbagehjdeaa.G
open Go.RowKit Go.Proofs.YtmddmbagehjdeaaX Go.Proofs.YtmddmbagehjdeaaW.PrintWords Go.Proofs.YtmddmbagehjdeaaW.PrintLast Go.Proofs.YtmddmbagehjdeaaW.PrintMore
attribute [local go_sem] max2_int min2_int max_two min_two max_three min_three max_four min_four
def windroseref11_May.l0:Nat→List (S67)→Int→Option (Bool)
 |0,_,_=>none
 |k+1,x0,x3=>if x3<(x0.length:Int)then(if 0≤x3 then(if((rd_T67 x0 x3).f0)<0 then(some false)else(if((rd_T67 x0 x3).f0)>1099511627776 then(some false)else(if((rd_T67 x0 x3).f1)<(-1099511627776)then(some false)else(if((rd_T67 x0 x3).f1)>1099511627776 then(some false)else(if x3>0 then(if 0≤(wrap64 (x3 - 1))then(if(wrap64 (x3 - 1))<(x0.length:Int)then(if((rd_T67 x0 (wrap64 (x3 - 1))).f0)≥((rd_T67 x0 x3).f0)then(some false)else(windroseref11_May.l0 k x0 (wrap64 (x3+1))))else(none))else(none))else(windroseref11_May.l0 k x0 (wrap64 (x3+1))))))))else(none))else(some (decide ((x0.length:Int)≤64)))
def windroseref11_May.f (k:Nat) (l0:List (S67)):Option (Bool):=windroseref11_May.l0 k l0 0
theorem windroseref11_May.calls (k:Nat) (A0:Option Addr) (c0:Nat) (l0:List (S67)) (r:Bool) (w:World) (hr0:Kd.C k67 w A0 l0.length l0) (hc0:l0.length≤c0) (h:windroseref11_May.f k l0=some r) :
  Calls Try.prog 38 #[.slice A0 l0.length c0] w fun e w'=>e=.returned (.bool r)∧Drawn0 w w':=by
 have HR0:=Aside0.mk hr0
 have HC0:=Aside0.mk hc0
 clear hr0 hc0
 have H:(windroseref11_May.l0 k l0 0)=some r:=h
 clear h
 have H':=Aside0.mk H
 clear H
 go_enter Try.func38,Try.ntmps38
 go_wp2
 repeat(go_quiet (fail);try go_wp2)
 go_loopg [3] k (fun kq v3 w'=>∃ (x3_1:Int),v3=.int .i64 x3_1∧Aside0 (windroseref11_May.l0 kq l0 x3_1=some r)∧Aside0 (kq≤k)∧Drawn0 w w')
 case atStart=>exact⟨(0),sm_,H',⟨Nat.le_refl _⟩,by repeat(first|exact Drawn0.refl _|apply Drawn0.step)⟩
 case round =>
  clear H'
  obtain⟨x3_1,rfl,HA,HK1,⟨m1,rfl⟩⟩:=hrel
  cases gk with
  |zero=>exact absurd HA.out (by simp [windroseref11_May.l0])
  |succ k1 =>
   have H:=HA.out
   clear HA
   simp only [windroseref11_May.l0] at H
   replace H:=dle H
   rcases H with⟨c2b0,H⟩|⟨c2b0,H⟩
   focus
    replace H:=dle H
    rcases H with⟨c3b0,H⟩|⟨c3b0,H⟩
    rotate_left
    ·exact absurd H (by simp)
    replace H:=dle H
    rcases H with⟨c4b0,H⟩|⟨c4b0,H⟩
    focus
     obtain rfl:=Option.some.inj H
     have p633:0≤(x3_1:Int):=dc_
     have q633:x3_1<(l0.length:Int):=dc_
     obtain⟨ad633,e633,hx633_0,hx633_1⟩:=at_T67 HR0.out x3_1 p633 q633
     cases e633
     replace p633:=eq_true p633
     replace q633:=eq_true q633
    rotate_left
    focus
     replace H:=dgt H
     rcases H with⟨c5b0,H⟩|⟨c5b0,H⟩
     focus
      obtain rfl:=Option.some.inj H
      have p633:0≤(x3_1:Int):=dc_
      have q633:x3_1<(l0.length:Int):=dc_
      obtain⟨ad633,e633,hx633_0,hx633_1⟩:=at_T67 HR0.out x3_1 p633 q633
      cases e633
      replace p633:=eq_true p633
      replace q633:=eq_true q633
      have p634:0≤(x3_1:Int):=dc_
      have q634:x3_1<(l0.length:Int):=dc_
      obtain⟨ad634,e634,hx634_0,hx634_1⟩:=at_T67 HR0.out x3_1 p634 q634
      obtain rfl:ad633=ad634:=(by injection e634)
      replace p634:=eq_true p634
      replace q634:=eq_true q634
     rotate_left
     focus
      replace H:=dle H
      rcases H with⟨c6b0,H⟩|⟨c6b0,H⟩
      focus
       obtain rfl:=Option.some.inj H
       have p633:0≤(x3_1:Int):=dc_
       have q633:x3_1<(l0.length:Int):=dc_
       obtain⟨ad633,e633,hx633_0,hx633_1⟩:=at_T67 HR0.out x3_1 p633 q633
       cases e633
       replace p633:=eq_true p633
       replace q633:=eq_true q633
       have p634:0≤(x3_1:Int):=dc_
       have q634:x3_1<(l0.length:Int):=dc_
       obtain⟨ad634,e634,hx634_0,hx634_1⟩:=at_T67 HR0.out x3_1 p634 q634
       obtain rfl:ad633=ad634:=(by injection e634)
       replace p634:=eq_true p634
       replace q634:=eq_true q634
       have p635:0≤(x3_1:Int):=dc_
       have q635:x3_1<(l0.length:Int):=dc_
       obtain⟨ad635,e635,hx635_0,hx635_1⟩:=at_T67 HR0.out x3_1 p635 q635
       obtain rfl:ad633=ad635:=(by injection e635)
       replace p635:=eq_true p635
       replace q635:=eq_true q635
      rotate_left
      focus
       replace H:=dgt H
       rcases H with⟨c7b0,H⟩|⟨c7b0,H⟩
       focus
        obtain rfl:=Option.some.inj H
        have p633:0≤(x3_1:Int):=dc_
        have q633:x3_1<(l0.length:Int):=dc_
        obtain⟨ad633,e633,hx633_0,hx633_1⟩:=at_T67 HR0.out x3_1 p633 q633
        cases e633
        replace p633:=eq_true p633
        replace q633:=eq_true q633
        have p634:0≤(x3_1:Int):=dc_
        have q634:x3_1<(l0.length:Int):=dc_
        obtain⟨ad634,e634,hx634_0,hx634_1⟩:=at_T67 HR0.out x3_1 p634 q634
        obtain rfl:ad633=ad634:=(by injection e634)
        replace p634:=eq_true p634
        replace q634:=eq_true q634
        have p635:0≤(x3_1:Int):=dc_
        have q635:x3_1<(l0.length:Int):=dc_
        obtain⟨ad635,e635,hx635_0,hx635_1⟩:=at_T67 HR0.out x3_1 p635 q635
        obtain rfl:ad633=ad635:=(by injection e635)
        replace p635:=eq_true p635
        replace q635:=eq_true q635
        have p636:0≤(x3_1:Int):=dc_
        have q636:x3_1<(l0.length:Int):=dc_
        obtain⟨ad636,e636,hx636_0,hx636_1⟩:=at_T67 HR0.out x3_1 p636 q636
        obtain rfl:ad633=ad636:=(by injection e636)
        replace p636:=eq_true p636
        replace q636:=eq_true q636
       rotate_left
       focus
        replace H:=dgt H
        rcases H with⟨c8b0,H⟩|⟨c8b0,H⟩
        focus
         obtain⟨ji9,hji9⟩:∃ j_:Int,(wrap64 (x3_1 - 1))=j_:=⟨_,rfl⟩
         replace H:(if 0≤(ji9)then(if(ji9)<(l0.length:Int)then(if((rd_T67 l0 (ji9)).f0)≥((rd_T67 l0 x3_1).f0)then(some false)else(windroseref11_May.l0 k1 l0 (wrap64 (x3_1+1))))else(none))else(none))=some r:=by first|(rw [hji9] at H;exact H)|(simp only [hji9] at H ⊢;exact H)
         have hji9w:(IntKind.i64.wrap (x3_1 - 1))=ji9:=(i64_w _).trans hji9
         replace H:=dle H
         rcases H with⟨c10b0,H⟩|⟨c10b0,H⟩
         rotate_left
         ·exact absurd H (by simp)
         replace H:=dle H
         rcases H with⟨c11b0,H⟩|⟨c11b0,H⟩
         rotate_left
         ·exact absurd H (by simp)
         replace H:=dge H
         rcases H with⟨c12b0,H⟩|⟨c12b0,H⟩
         focus
          obtain rfl:=Option.some.inj H
          have p633:0≤(x3_1:Int):=dc_
          have q633:x3_1<(l0.length:Int):=dc_
          obtain⟨ad633,e633,hx633_0,hx633_1⟩:=at_T67 HR0.out x3_1 p633 q633
          cases e633
          replace p633:=eq_true p633
          replace q633:=eq_true q633
          have p634:0≤(x3_1:Int):=dc_
          have q634:x3_1<(l0.length:Int):=dc_
          obtain⟨ad634,e634,hx634_0,hx634_1⟩:=at_T67 HR0.out x3_1 p634 q634
          obtain rfl:ad633=ad634:=(by injection e634)
          replace p634:=eq_true p634
          replace q634:=eq_true q634
          have p635:0≤(x3_1:Int):=dc_
          have q635:x3_1<(l0.length:Int):=dc_
          obtain⟨ad635,e635,hx635_0,hx635_1⟩:=at_T67 HR0.out x3_1 p635 q635
          obtain rfl:ad633=ad635:=(by injection e635)
          replace p635:=eq_true p635
          replace q635:=eq_true q635
          have p636:0≤(x3_1:Int):=dc_
          have q636:x3_1<(l0.length:Int):=dc_
          obtain⟨ad636,e636,hx636_0,hx636_1⟩:=at_T67 HR0.out x3_1 p636 q636
          obtain rfl:ad633=ad636:=(by injection e636)
          replace p636:=eq_true p636
          replace q636:=eq_true q636
          have p637:0≤((ji9):Int):=dc_
          have q637:(ji9)<(l0.length:Int):=dc_
          obtain⟨ad637,e637,hx637_0,hx637_1⟩:=at_T67 HR0.out (ji9) p637 q637
          obtain rfl:ad633=ad637:=(by injection e637)
          replace p637:=eq_true p637
          replace q637:=eq_true q637
          have p638:0≤(x3_1:Int):=dc_
          have q638:x3_1<(l0.length:Int):=dc_
          obtain⟨ad638,e638,hx638_0,hx638_1⟩:=at_T67 HR0.out x3_1 p638 q638
          obtain rfl:ad633=ad638:=(by injection e638)
          replace p638:=eq_true p638
          replace q638:=eq_true q638
         rotate_left
         focus
          have H':=Aside0.mk H
          clear H
          have p633:0≤(x3_1:Int):=dc_
          have q633:x3_1<(l0.length:Int):=dc_
          obtain⟨ad633,e633,hx633_0,hx633_1⟩:=at_T67 HR0.out x3_1 p633 q633
          cases e633
          replace p633:=eq_true p633
          replace q633:=eq_true q633
          have p634:0≤(x3_1:Int):=dc_
          have q634:x3_1<(l0.length:Int):=dc_
          obtain⟨ad634,e634,hx634_0,hx634_1⟩:=at_T67 HR0.out x3_1 p634 q634
          obtain rfl:ad633=ad634:=(by injection e634)
          replace p634:=eq_true p634
          replace q634:=eq_true q634
          have p635:0≤(x3_1:Int):=dc_
          have q635:x3_1<(l0.length:Int):=dc_
          obtain⟨ad635,e635,hx635_0,hx635_1⟩:=at_T67 HR0.out x3_1 p635 q635
          obtain rfl:ad633=ad635:=(by injection e635)
          replace p635:=eq_true p635
          replace q635:=eq_true q635
          have p636:0≤(x3_1:Int):=dc_
          have q636:x3_1<(l0.length:Int):=dc_
          obtain⟨ad636,e636,hx636_0,hx636_1⟩:=at_T67 HR0.out x3_1 p636 q636
          obtain rfl:ad633=ad636:=(by injection e636)
          replace p636:=eq_true p636
          replace q636:=eq_true q636
          have p637:0≤((ji9):Int):=dc_
          have q637:(ji9)<(l0.length:Int):=dc_
          obtain⟨ad637,e637,hx637_0,hx637_1⟩:=at_T67 HR0.out (ji9) p637 q637
          obtain rfl:ad633=ad637:=(by injection e637)
          replace p637:=eq_true p637
          replace q637:=eq_true q637
          have p638:0≤(x3_1:Int):=dc_
          have q638:x3_1<(l0.length:Int):=dc_
          obtain⟨ad638,e638,hx638_0,hx638_1⟩:=at_T67 HR0.out x3_1 p638 q638
          obtain rfl:ad633=ad638:=(by injection e638)
          replace p638:=eq_true p638
          replace q638:=eq_true q638
        rotate_left 2
        focus
         have H':=Aside0.mk H
         clear H
         have p633:0≤(x3_1:Int):=dc_
         have q633:x3_1<(l0.length:Int):=dc_
         obtain⟨ad633,e633,hx633_0,hx633_1⟩:=at_T67 HR0.out x3_1 p633 q633
         cases e633
         replace p633:=eq_true p633
         replace q633:=eq_true q633
         have p634:0≤(x3_1:Int):=dc_
         have q634:x3_1<(l0.length:Int):=dc_
         obtain⟨ad634,e634,hx634_0,hx634_1⟩:=at_T67 HR0.out x3_1 p634 q634
         obtain rfl:ad633=ad634:=(by injection e634)
         replace p634:=eq_true p634
         replace q634:=eq_true q634
         have p635:0≤(x3_1:Int):=dc_
         have q635:x3_1<(l0.length:Int):=dc_
         obtain⟨ad635,e635,hx635_0,hx635_1⟩:=at_T67 HR0.out x3_1 p635 q635
         obtain rfl:ad633=ad635:=(by injection e635)
         replace p635:=eq_true p635
         replace q635:=eq_true q635
         have p636:0≤(x3_1:Int):=dc_
         have q636:x3_1<(l0.length:Int):=dc_
         obtain⟨ad636,e636,hx636_0,hx636_1⟩:=at_T67 HR0.out x3_1 p636 q636
         obtain rfl:ad633=ad636:=(by injection e636)
         replace p636:=eq_true p636
         replace q636:=eq_true q636
   rotate_left 7
   focus
    obtain rfl:=Option.some.inj H
   all_goals
    go_wp2
    repeat(go_quiet (fail);try go_wp2)
    first
     |go_ret
      first
       |exact⟨by first|rfl|(simp;done)|(simp [*];done),by repeat(first|exact Drawn0.refl _|apply Drawn0.step)⟩
       |exact⟨by first|rfl|(simp;done)|(simp only [←hji9]<;>(first|rfl|simp))|(simp [*];done),by repeat(first|exact Drawn0.refl _|apply Drawn0.step)⟩
     |go_roundg k1
      case measure=>have:=HK1.out;omega
      case rel=>exact⟨(wrap64 (x3_1+1)),sm_,H',⟨by have:=HK1.out;omega⟩,by repeat(first|exact Drawn0.refl _|apply Drawn0.step)⟩
end Go.Proofs.Ytmddmbagehjdeaa.G
end
section
namespace Go.Proofs.Ytmddmbagehjdeaa.G
open Go.RowKit Go.Proofs.YtmddmbagehjdeaaX Go.Proofs.YtmddmbagehjdeaaW.PrintWords Go.Proofs.YtmddmbagehjdeaaW.PrintLast Go.Proofs.YtmddmbagehjdeaaW.PrintMore
attribute [local go_sem] max2_int min2_int max_two min_two max_three min_three max_four min_four
mutual
def windroseref11_Unpack.j0:Nat→Bool→List Int→List ByteArray→Option ((List (S67))×Bool)
 |0,_,_,_=>none
 |k+1,x24,x846000,x846001=>if x24=true then(some (([]:List (S67)),false))else(windroseref11_Unpack.l0 k (([]:List (S67))) 1 x846000 x846001)
def windroseref11_Unpack.l0:Nat→List (S67)→Int→List Int→List ByteArray→Option ((List (S67))×Bool)
 |0,_,_,_,_=>none
 |k+1,x4,x5,x846000,x846001=>if(wrap64 (x5+1))<(x846000.length:Int)then(if 0≤x5 then(if x5<(x846000.length:Int)then(if 0≤(wrap64 (x5+1))then(if(rd x846000 x5)>8796093022208 then(windroseref11_Unpack.j2 k x4 x5 (rd x846000 x5) (rd x846000 (wrap64 (x5+1))) true x846000 x846001)else(if(rd x846000 x5)<(-8796093022208)then(windroseref11_Unpack.j2 k x4 x5 (rd x846000 x5) (rd x846000 (wrap64 (x5+1))) true x846000 x846001)else(if(rd x846000 (wrap64 (x5+1)))>8796093022208 then(windroseref11_Unpack.j2 k x4 x5 (rd x846000 x5) (rd x846000 (wrap64 (x5+1))) true x846000 x846001)else(windroseref11_Unpack.j2 k x4 x5 (rd x846000 x5) (rd x846000 (wrap64 (x5+1))) (decide ((rd x846000 (wrap64 (x5+1)))<(-8796093022208))) x846000 x846001))))else(none))else(none))else(none))else((windroseref11_Nums.f k x4).bind fun t865=>((windroseref02_Ints.f k t865 x846000).bind fun t868=>(if t868=true then(some (x4,true))else(some (([]:List (S67)),false)))))
def windroseref11_Unpack.j2:Nat→List (S67)→Int→Int→Int→Bool→List Int→List ByteArray→Option ((List (S67))×Bool)
 |0,_,_,_,_,_,_,_=>none
 |k+1,x4,x5,x6,x7,x58,x846000,x846001=>if x58=true then(some (([]:List (S67)),false))else(if(x4.length:Int)>0 then(if 0≤(wrap64 ((x4.length:Int) - 1))then(if(wrap64 ((x4.length:Int) - 1))<(x4.length:Int)then(windroseref11_Unpack.j3 k x4 x5 (wrap64 (x6+((rd_T67 x4 (wrap64 ((x4.length:Int) - 1))).f0))) (wrap64 (x7+((rd_T67 x4 (wrap64 ((x4.length:Int) - 1))).f1))) (x4.length:Int) x846000 x846001)else(none))else(none))else(windroseref11_Unpack.j3 k x4 x5 x6 x7 (x4.length:Int) x846000 x846001))
def windroseref11_Unpack.j3:Nat→List (S67)→Int→Int→Int→Int→List Int→List ByteArray→Option ((List (S67))×Bool)
 |0,_,_,_,_,_,_,_=>none
 |k+1,x4,x5,x6,x7,x8,x846000,x846001=>if x8>1 then(if 0≤(wrap64 (x8 - 1))then(if(wrap64 (x8 - 1))<(x4.length:Int)then(if 0≤(wrap64 (x8 - 2))then(if(wrap64 (x8 - 2))<(x4.length:Int)then(if x4.length<8796093022208 then((some (x4++[(⟨wrap64 ((wrap64 (x6+((rd_T67 x4 (wrap64 (x8 - 1))).f0))) - ((rd_T67 x4 (wrap64 (x8 - 2))).f0)),wrap64 ((wrap64 (x7+((rd_T67 x4 (wrap64 (x8 - 1))).f1))) - ((rd_T67 x4 (wrap64 (x8 - 2))).f1))⟩:S67)]:List (S67))).bind fun y857=>((windroseref11_May.f k y857).bind fun t860=>(if t860=true then(windroseref11_Unpack.l0 k y857 (wrap64 (x5+2)) x846000 x846001)else(some (([]:List (S67)),false)))))else(none))else(none))else(none))else(none))else(none))else(if x4.length<8796093022208 then((some (x4++[(⟨x6,x7⟩:S67)]:List (S67))).bind fun y861=>((windroseref11_May.f k y861).bind fun t864=>(if t864=true then(windroseref11_Unpack.l0 k y861 (wrap64 (x5+2)) x846000 x846001)else(some (([]:List (S67)),false)))))else(none))
end
def windroseref11_Unpack.f (k:Nat) (l0_0:List Int) (l0_1:List ByteArray):Option ((List (S67))×Bool):=if(l0_1.length:Int)>0 then(windroseref11_Unpack.j0 k true l0_0 l0_1)else(if(l0_0.length:Int)>129 then(windroseref11_Unpack.j0 k true l0_0 l0_1)else(windroseref11_Unpack.j0 k (decide ((l0_0.length:Int)<1)) l0_0 l0_1))
def windroseref11_Unpack.T7:Bool×List (List Nat×List Nat):=(true,[([],[]),([0],[0]),([],[]),([1,2],[1,2]),([3],[3]),([],[]),([5],[5]),([],[]),([7],[7]),([6,8],[6,8]),([9],[9]),([4,0,1,2,3,4],[4]),([10,11,0,1,2,3,4,5,6,7,8,9,10,11],[10])])
def windroseref11_Unpack.B7:List Nat:=[0,1,0,7,15,0,32,0,128,480,992,31,4095]
theorem windroseref11_Unpack.tab7:rtab .any (opsOf Try.f77 7)=windroseref11_Unpack.T7:=by kernel_rfl
theorem windroseref11_Unpack.bits7:waitsOk windroseref11_Unpack.T7.2 windroseref11_Unpack.B7=true:=by kernel_rfl
def windroseref11_Unpack.T15:Bool×List (List Nat×List Nat):=(true,[([],[]),([],[]),([],[]),([2],[2]),([1,3],[1,3]),([4],[4]),([5],[5]),([0,6],[0,6]),([],[]),([],[]),([9],[9]),([8,10],[8,10]),([11],[11]),([12],[12]),([7,13],[7,13]),([14,0,1,2,3,4,5,6,7,8,9,10,11,12,13,14],[0,14])])
def windroseref11_Unpack.B15:List Nat:=[0,0,0,4,14,30,62,127,0,0,512,1792,3840,7936,16383,32767]
theorem windroseref11_Unpack.tab15:rtab .any (opsOf Try.f77 15)=windroseref11_Unpack.T15:=by kernel_rfl
theorem windroseref11_Unpack.bits15:waitsOk windroseref11_Unpack.T15.2 windroseref11_Unpack.B15=true:=by kernel_rfl
def windroseref11_Unpack.T16:Bool×List (List Nat×List Nat):=(true,[([],[]),([],[]),([],[]),([2],[2]),([1,3],[1,3]),([4],[4]),([5],[5]),([0,6],[0,6]),([],[]),([],[]),([9],[9]),([8,10],[8,10]),([11],[11]),([12],[12]),([7,13],[7,13]),([14,0,1,2,3,4,5,6,7,8,9,10,11,12,13,14],[0,14])])
def windroseref11_Unpack.B16:List Nat:=[0,0,0,4,14,30,62,127,0,0,512,1792,3840,7936,16383,32767]
theorem windroseref11_Unpack.tab16:rtab .any (opsOf Try.f77 16)=windroseref11_Unpack.T16:=by kernel_rfl
theorem windroseref11_Unpack.bits16:waitsOk windroseref11_Unpack.T16.2 windroseref11_Unpack.B16=true:=by kernel_rfl
theorem windroseref11_Unpack.calls (k:Nat) (A0_0:Option Addr) (c0_0:Nat) (l0_0:List Int) (A0_1:Option Addr) (c0_1:Nat) (l0_1:List ByteArray) (r1:List (S67)) (r2:Bool) (w:World) (hr0_0:Kd.C (Kd.int .i64) w A0_0 l0_0.length l0_0) (hc0_0:l0_0.length≤c0_0) (hr0_1:Kd.C Kd.string w A0_1 l0_1.length l0_1) (hc0_1:l0_1.length≤c0_1) (h:windroseref11_Unpack.f k l0_0 l0_1=some (r1,r2)) :
  Calls Try.prog 77 #[.agg #[.slice A0_0 l0_0.length c0_0,.slice A0_1 l0_1.length c0_1]] w fun e w'=>∃ v0_:Value,e=.returned (.tuple #[v0_,.bool r2])∧Kd.R k67 67 w' w.heap.size (fun _=>True) v0_ r1∧Below w.heap.size w w':=by
 have hu98:=Try.underlying98
 have hu67:=Try.underlying67
 have HR0_0:=Aside0.mk hr0_0
 have HC0_0:=Aside0.mk hc0_0
 clear hr0_0 hc0_0
 have HR0_1:=Aside0.mk hr0_1
 have HC0_1:=Aside0.mk hc0_1
 clear hr0_1 hc0_1
 have HB:=Aside0.mk (Below.refl w.heap.size w)
 have H:(if(l0_1.length:Int)>0 then(windroseref11_Unpack.j0 k true l0_0 l0_1)else(if(l0_0.length:Int)>129 then(windroseref11_Unpack.j0 k true l0_0 l0_1)else(windroseref11_Unpack.j0 k (decide ((l0_0.length:Int)<1)) l0_0 l0_1)))=some (r1,r2):=h
 clear h
 have HC2:=Aside0.mk H
 clear H
 go_enter Try.func77,Try.ntmps77
 go_upto_region 1 with(first|((with_reducible refine gate_dst (N:=1) rfl ?_);(try(refine gate_guard (by rfl) ?_;dsimp only));refine box_ev 1 #[.slice A0_0 l0_0.length c0_0,.slice A0_1 l0_1.length c0_1] 98 ?_;intro gb845 hg w3 hbox hb;have n_:=pk4 (below_step bl_ hb) (hbox) ((ge_ hg bl_:w.heap.size≤gb845)) ((ge_ hg bl_:w.heap.size≤gb845));clear HB;obtain⟨HB,BK845,GW845,GE845⟩:=n_;clear hb hbox hg))
 (try simp only [ap_,sb_,s0_,s1_])
 go_cut [24] (fun v24 wc=>∃ (kq:Nat) (x24_1:Bool),v24=.bool x24_1∧Aside0 (windroseref11_Unpack.j0 kq x24_1 l0_0 l0_1=some (r1,r2))∧Aside0 (kq≤k)∧Aside0 (wc.heap[gb845]?=some (.cells #[(.slice A0_0 l0_0.length c0_0),(.slice A0_1 l0_1.length c0_1)] 98 (0,0)))∧Aside0 (Below w.heap.size w wc))
 case first =>
  have H:=HC2.out
  clear HC2
  by_cases c4:(l0_1.length:Int)>0
  focus
   rw [if_pos c4] at H
   have c4b0:decide (0<(l0_1.length:Int))=true:=decide_eq_true c4
   have c4b1:decide (0<l0_1.length)=true:=decide_eq_true (by omega)
   have c4b1_:=eq_true (of_decide_eq_true c4b1)
   clear c4
   (first|rw [c4b0]|(simp only [i64_w,i32_w];rw [c4b0])|skip)
   have H':=Aside0.mk H
   clear H
   obtain⟨hcz5_0,hcz5_1,hfz5_0,hfz5_1⟩:=blk_at2 BK845.out
  rotate_left
  focus
   rw [if_neg c4] at H
   have c4b0:decide (0<(l0_1.length:Int))=false:=decide_eq_false c4
   have c4b1:decide (0<l0_1.length)=false:=decide_eq_false (by omega)
   have c4b1_:=eq_false (of_decide_eq_false c4b1)
   clear c4
   (first|rw [c4b0]|(simp only [i64_w,i32_w];rw [c4b0])|skip)
   by_cases c6:(l0_0.length:Int)>129
   focus
    rw [if_pos c6] at H
    have c6b0:decide (129<(l0_0.length:Int))=true:=decide_eq_true c6
    have c6b1:decide (129<l0_0.length)=true:=decide_eq_true (by omega)
    have c6b1_:=eq_true (of_decide_eq_true c6b1)
    clear c6
    have H':=Aside0.mk H
    clear H
    obtain⟨hcz7_0,hcz7_1,hfz7_0,hfz7_1⟩:=blk_at2 BK845.out
   rotate_left
   focus
    rw [if_neg c6] at H
    have c6b0:decide (129<(l0_0.length:Int))=false:=decide_eq_false c6
    have c6b1:decide (129<l0_0.length)=false:=decide_eq_false (by omega)
    have c6b1_:=eq_false (of_decide_eq_false c6b1)
    clear c6
    have H':=Aside0.mk H
    clear H
    obtain⟨hcz8_0,hcz8_1,hfz8_0,hfz8_1⟩:=blk_at2 BK845.out
  all_goals
   go_wp2
   first
    |all_goals (try exact absurd (of_eq_true c4b1_) (by assumption))
     go_meet
     case rel=>exact⟨_,(true),sm_,H',⟨om_⟩,⟨(bo_ BK845)⟩,⟨bl_⟩⟩
    |all_goals (try exact absurd (of_eq_true c6b1_) (by assumption))
     go_meet
     case rel=>exact⟨_,(true),sm_,H',⟨om_⟩,⟨(bo_ BK845)⟩,⟨bl_⟩⟩
    |all_goals (try exact absurd (by assumption) (of_eq_false c6b1_))
     go_meet
     case rel=>exact⟨_,(decide ((l0_0.length:Int)<1)),sm_,H',⟨om_⟩,⟨(bo_ BK845)⟩,⟨bl_⟩⟩
 case rest =>
  clear HC2
  obtain⟨kq,x24_1,rfl,HA,HJ1,BK845,HB⟩:=hcut
  cases kq with
  |zero=>exact absurd HA.out (by simp [windroseref11_Unpack.j0])
  |succ kj1 =>
   have H:=HA.out
   clear HA
   simp only [windroseref11_Unpack.j0] at H
   replace H:=dbool H
   rcases H with⟨rfl,H⟩|⟨rfl,H⟩
   rotate_left
   ·obtain⟨y846,hy846⟩:∃ y_:List (S67),y_=(([]:List (S67))):=⟨_,rfl⟩
    replace H:(windroseref11_Unpack.l0 kj1 y846 1 l0_0 l0_1)=some (r1,r2):=by first|(rw [hy846];with_reducible exact H)|(have H2_:=(Option.bind_some _ _).symm.trans H;rw [hy846];with_reducible exact H2_)|(have H2_:=(Option.bind_some _ _).symm.trans H;with_reducible exact H2_)|with_reducible exact H|(rw [hy846];exact H)|exact H
    have Ny846:=Aside0.mk hy846
    clear hy846
    have H':=Aside0.mk H
    clear H
    go_wp2_with (first|((with_reducible refine gate_dst (N:=25) rfl ?_);(try(refine gate_guard (by rfl) ?_;dsimp only));refine Kd.R_lit k67 _ 67 ?hg (N:=25) ?hd (xs:=([]:List (S67))) (inner:=[]) (ok:=fun _=>True) (okp:=fun _=>True) ?hr ?hp (fun _ hk=>hk) trivial (Below.refl _ _) (Nat.le_refl _) (by simp) ?_;(case hd=>rfl);(case hg=>rfl);(case hr=>first|(go_simp;done)|(go_simp;rfl));(case hp=>exact(Reps.none _ _));intro v847 w10 ho11 hb hg_ hnew_;clear hg_ hnew_;(first|rw [←Ny846.out] at ho11|(simp only [Int.reduceToNat] at ho11;rw [←Ny846.out] at ho11));have n_:=pk3 (Kd.R_lower ho11 (below_size bl_)) (blk_below (bo_ BK845) hb) (below_step bl_ hb);clear BK845 HB;obtain⟨HO848,BK845,HB⟩:=n_;clear hb ho11))
    go_loopg [4,5] kj1 (fun kq v4 v5 w'=>∃ (x4_2:List (S67)) (x5_2:Int),v5=.int .i64 x5_2∧Aside0 (windroseref11_Unpack.l0 kq x4_2 x5_2 l0_0 l0_1=some (r1,r2))∧Aside0 (kq≤kj1)∧Aside0 (Kd.R k67 67 w' w.heap.size (fun _=>True) v4 x4_2)∧Aside0 (w'.heap[gb845]?=some (.cells #[(.slice A0_0 l0_0.length c0_0),(.slice A0_1 l0_1.length c0_1)] 98 (0,0)))∧Aside0 (Below w.heap.size w w'))
    case atStart=>exact⟨(y846),(1),sm_,H',⟨Nat.le_refl _⟩,⟨(ro_ HO848)⟩,⟨(bo_ BK845)⟩,⟨bl_⟩⟩
    case round =>
     clear H'
     try clear c9
     obtain⟨x4_2,x5_2,rfl,HA,HK2,HO_4,BK845,HB⟩:=hrel
     cases gk with
     |zero=>exact absurd HA.out (by simp [windroseref11_Unpack.l0])
     |succ k2 =>
      have H:=HA.out
      clear HA
      simp only [windroseref11_Unpack.l0] at H
      replace H:=dle H
      rcases H with⟨c12b0,H⟩|⟨c12b0,H⟩
      ·replace H:=dle H
       rcases H with⟨c13b0,H⟩|⟨c13b0,H⟩
       ·replace H:=dle H
        rcases H with⟨c14b0,H⟩|⟨c14b0,H⟩
        ·obtain⟨ji15,hji15⟩:∃ j_:Int,(wrap64 (x5_2+1))=j_:=⟨_,rfl⟩
         replace H:(if 0≤(ji15)then(if(rd l0_0 x5_2)>8796093022208 then(windroseref11_Unpack.j2 k2 x4_2 x5_2 (rd l0_0 x5_2) (rd l0_0 (ji15)) true l0_0 l0_1)else(if(rd l0_0 x5_2)<(-8796093022208)then(windroseref11_Unpack.j2 k2 x4_2 x5_2 (rd l0_0 x5_2) (rd l0_0 (ji15)) true l0_0 l0_1)else(if(rd l0_0 (ji15))>8796093022208 then(windroseref11_Unpack.j2 k2 x4_2 x5_2 (rd l0_0 x5_2) (rd l0_0 (ji15)) true l0_0 l0_1)else(windroseref11_Unpack.j2 k2 x4_2 x5_2 (rd l0_0 x5_2) (rd l0_0 (ji15)) (decide ((rd l0_0 (ji15))<(-8796093022208))) l0_0 l0_1))))else(none))=some (r1,r2):=by first|(rw [hji15] at H;exact H)|(simp only [hji15] at H ⊢;exact H)
         (try rw [hji15] at c12b0)
         have hji15w:(IntKind.i64.wrap (x5_2+1))=ji15:=(i64_w _).trans hji15
         replace H:=dle H
         rcases H with⟨c16b0,H⟩|⟨c16b0,H⟩
         ·have HC17:=Aside0.mk H
          clear H
          obtain⟨hcz18_0,hcz18_1,hfz18_0,hfz18_1⟩:=blk_at2 BK845.out
          try go_wp2
          have n_:=pk3 (Kd.R_drew HO_4.out) (blk_drew BK845.out) (below_drew1 HB.out)
          clear HO_4 BK845 HB
          obtain⟨HO_4,BK845,HB⟩:=n_
          have p849:0≤(x5_2:Int):=dc_
          have q849:x5_2<(l0_0.length:Int):=dc_
          obtain⟨ad849,e849,hx849_0⟩:=Kd.at_int HR0_0.out x5_2 p849 q849
          have hw849_0:=hx849_0
          cases e849
          replace hx849_0:=(HB.out.cell (World.block_lt_of_cell? w _ hx849_0)).trans hx849_0
          replace p849:=eq_true p849
          replace q849:=eq_true q849
          have p850:0≤((ji15):Int):=dc_
          have q850:(ji15)<(l0_0.length:Int):=dc_
          obtain⟨ad850,e850,hx850_0⟩:=Kd.at_int HR0_0.out (ji15) p850 q850
          have hw850_0:=hx850_0
          obtain rfl:ad849=ad850:=(by injection e850)
          replace hx850_0:=(HB.out.cell (World.block_lt_of_cell? w _ hx850_0)).trans hx850_0
          replace p850:=eq_true p850
          replace q850:=eq_true q850
          refine start_ (n:=13) (S:=fun w'=>w'.cell? ⟨gb845,0,none⟩=some (.slice (some ad849) l0_0.length c0_0)∧w'.cell? ⟨gb845,1,none⟩=some (.slice A0_1 l0_1.length c0_1)∧w'.cell? (ad849.add (x5_2).toNat)=some (.int .i64 (rd l0_0 x5_2))∧w'.cell? (ad849.add ((ji15)).toNat)=some (.int .i64 (rd l0_0 (ji15)))) (ds:=[]) bz10_13_0 (by kernel_rfl) rfl rfl ⟨(blk_cell BK845.out 0).trans rfl,(blk_cell BK845.out 1).trans rfl,((HB.out.cell (World.block_lt_of_cell? w _ hw849_0)).trans hw849_0),((HB.out.cell (World.block_lt_of_cell? w _ hw850_0)).trans hw850_0)⟩ (fun hHeld=>?_);refine with_tabW windroseref11_Unpack.tab7 windroseref11_Unpack.bits7 (fun HT_ HW_=>?_)
          generalize wr.drew=w19 at HO_4 BK845 HB hx849_0 hx850_0 hHeld ⊢
          refine pure_ (i:=0) (N:=some 34) (v:=?_) (a':=?_) bz10_13_1 rfl rfl (any_of HT_.out (by kernel_rfl)) (fun _ _ _ h=>h) (Or.inl ⟨by rfl,?_⟩) ?_ ?_
          rotate_left
          ·intro w'
           go_simp
           with_reducible rfl
          rotate_left
          ·simp only [ap_,sb_,s0_,s1_,i64_w,i32_w]
           rfl
          refine pure_ (i:=2) (N:=some 36) (v:=?_) (a':=?_) bz10_13_5 rfl rfl (any_of HT_.out (by kernel_rfl)) (fun _ _ _ h=>h) (Or.inl ⟨by rfl,?_⟩) ?_ ?_
          rotate_left
          ·intro w'
           go_simp
           with_reducible rfl
          rotate_left
          ·simp only [ap_,sb_,s0_,s1_,i64_w,i32_w]
           rfl
          refine pure_ (i:=5) (N:=some 39) (v:=?_) (a':=?_) bz10_13_37 rfl rfl (any_of HT_.out (by kernel_rfl)) (fun _ _ _ h=>h) (Or.inl ⟨by rfl,?_⟩) ?_ ?_
          rotate_left
          ·intro w'
           go_simp
           with_reducible rfl
          rotate_left
          ·simp only [ap_,sb_,s0_,s1_,i64_w,i32_w]
           rfl
          refine pure_ (i:=7) (N:=some 41) (v:=?_) (a':=?_) bz10_13_165 rfl rfl (any_of HT_.out (by kernel_rfl)) (fun _ _ _ h=>h) (Or.inl ⟨by rfl,?_⟩) ?_ ?_
          rotate_left
          ·intro w'
           go_simp
           with_reducible rfl
          rotate_left
          ·simp only [ap_,sb_,s0_,s1_,i64_w,i32_w]
           rfl
          refine pure_ (i:=8) (N:=some 42) (v:=?_) (a':=?_) bz10_13_421 rfl rfl (any_of HT_.out (by kernel_rfl)) (fun _ _ _ h=>h) (Or.inl ⟨by rfl,?_⟩) ?_ ?_
          rotate_left
          ·intro w'
           go_simp
           with_reducible rfl
          rotate_left
          ·simp only [ap_,sb_,s0_,s1_,i64_w,i32_w]
           rfl
          refine take_ (i:=1) (N:=some 35) (v:=?_) (a':=?_) bz10_13_423 rfl rfl (take_ofW HT_.out HW_.out (by kernel_rfl)) (fun _ _ _ h=>h) (Or.inl ⟨by rfl,?_⟩) hHeld ?_ ?_
          rotate_left
          ·rintro w' ⟨s0,s1,s2,s3⟩
           go_simp
           with_reducible rfl
          rotate_left
          ·simp only [ap_,sb_,s0_,s1_,i64_w,i32_w]
           rfl
          refine pure_ (i:=3) (N:=some 37) (v:=?_) (a':=?_) bz10_13_431 rfl rfl (any_of HT_.out (by kernel_rfl)) (fun _ _ _ h=>h) (Or.inl ⟨by rfl,?_⟩) ?_ ?_
          rotate_left
          ·intro w'
           go_simp
           with_reducible rfl
          rotate_left
          ·simp only [ap_,sb_,s0_,s1_,i64_w,i32_w]
           rfl
          refine take_ (i:=4) (N:=some 38) (v:=?_) (a':=?_) bz10_13_447 rfl rfl (take_ofW HT_.out HW_.out (by kernel_rfl)) (fun _ _ _ h=>h) (Or.inl ⟨by rfl,?_⟩) hHeld ?_ ?_
          rotate_left
          ·rintro w' ⟨s0,s1,s2,s3⟩
           go_simp
           with_reducible rfl
          rotate_left
          ·simp only [ap_,sb_,s0_,s1_,i64_w,i32_w]
           rfl
          refine pure_ (i:=11) (N:=some 6) (v:=?_) (a':=?_) bz10_13_2495 rfl rfl (any_of HT_.out (by kernel_rfl)) (fun _ _ _ h=>h) (Or.inl ⟨by rfl,?_⟩) ?_ ?_
          rotate_left
          ·intro w'
           go_simp
           with_reducible rfl
          rotate_left
          ·simp only [ap_,sb_,s0_,s1_,i64_w,i32_w]
           rfl
          refine take_ (i:=6) (N:=some 40) (v:=?_) (a':=?_) bz10_13_2559 rfl rfl (take_ofW HT_.out HW_.out (by kernel_rfl)) (fun _ _ _ h=>h) (Or.inl ⟨by rfl,?_⟩) hHeld ?_ ?_
          rotate_left
          ·rintro w' ⟨s0,s1,s2,s3⟩
           go_simp
           with_reducible rfl
          rotate_left
          ·simp only [ap_,sb_,s0_,s1_,i64_w,i32_w]
           rfl
          refine pure_ (i:=9) (N:=some 43) (v:=?_) (a':=?_) bz10_13_3071 rfl rfl (any_of HT_.out (by kernel_rfl)) (fun _ _ _ h=>h) (Or.inl ⟨by rfl,?_⟩) ?_ ?_
          rotate_left
          ·intro w'
           go_simp
           with_reducible rfl
          rotate_left
          ·simp only [ap_,sb_,s0_,s1_,i64_w,i32_w]
           rfl
          refine take_ (i:=10) (N:=some 44) (v:=?_) (a':=?_) bz10_13_4095 rfl rfl (take_ofW HT_.out HW_.out (by kernel_rfl)) (fun _ _ _ h=>h) (Or.inl ⟨by rfl,?_⟩) hHeld ?_ ?_
          rotate_left
          ·rintro w' ⟨s0,s1,s2,s3⟩
           go_simp
           with_reducible rfl
          rotate_left
          ·simp only [ap_,sb_,s0_,s1_,i64_w,i32_w]
           rfl
          refine pure_ (i:=12) (N:=some 7) (v:=?_) (a':=?_) bz10_13_8191 rfl rfl (any_of HT_.out (by kernel_rfl)) (fun _ _ _ h=>h) (Or.inl ⟨by rfl,?_⟩) ?_ ?_
          rotate_left
          ·intro w'
           go_simp
           with_reducible rfl
          rotate_left
          ·simp only [ap_,sb_,s0_,s1_,i64_w,i32_w]
           rfl
          refine done_ (done_of HT_.out (by kernel_rfl)) ?_
          go_upto_region 8 with(fail)
          go_cut [58] (fun v58 wc=>∃ (kq:Nat) (x58_16:Bool),v58=.bool x58_16∧Aside0 (windroseref11_Unpack.j2 kq x4_2 x5_2 (rd l0_0 x5_2) (rd l0_0 (ji15)) x58_16 l0_0 l0_1=some (r1,r2))∧Aside0 (kq≤k2)∧Aside0 (Kd.R k67 67 wc w.heap.size (fun _=>True) u4 x4_2)∧Aside0 (wc.heap[gb845]?=some (.cells #[(.slice (some ad849) l0_0.length c0_0),(.slice A0_1 l0_1.length c0_1)] 98 (0,0)))∧Aside0 (Below w.heap.size w wc))
          case first =>
           have H:=HC17.out
           clear HC17
           replace H:=dgt H
           rcases H with⟨c20b0,H⟩|⟨c20b0,H⟩
           focus
            (first|rw [c20b0]|(simp only [i64_w,i32_w];rw [c20b0])|skip)
            have H':=Aside0.mk H
            clear H
           rotate_left
           focus
            (first|rw [c20b0]|(simp only [i64_w,i32_w];rw [c20b0])|skip)
            replace H:=dle H
            rcases H with⟨c21b0,H⟩|⟨c21b0,H⟩
            focus
             have H':=Aside0.mk H
             clear H
            rotate_left
            focus
             replace H:=dgt H
             rcases H with⟨c22b0,H⟩|⟨c22b0,H⟩
             focus
              have H':=Aside0.mk H
              clear H
             rotate_left
             focus
              have H':=Aside0.mk H
              clear H
           all_goals
            go_wp2
            go_meet
            first
             |case rel=>exact⟨_,(true),sm_,H',⟨by have:=HJ1.out;have:=HK2.out;first|omega|exact Nat.le_refl _⟩,⟨(ro_ HO_4)⟩,⟨(bo_ BK845)⟩,⟨bl_⟩⟩
             |case rel=>exact⟨_,(decide ((rd l0_0 (ji15))<(-8796093022208))),(by first|rfl|(simp;done)|(simp only [←hji15]<;>(first|rfl|simp))|(simp [*];done)),H',⟨by have:=HJ1.out;have:=HK2.out;first|omega|exact Nat.le_refl _⟩,⟨(ro_ HO_4)⟩,⟨(bo_ BK845)⟩,⟨bl_⟩⟩
          case rest =>
           clear HC17
           try clear c9
           try clear c12
           try clear c12b0
           try clear c13
           try clear c13b0
           try clear c14
           try clear c14b0
           try clear c16
           try clear c16b0
           try clear hcz18_0
           try clear hcz18_1
           try clear hfz18_0
           try clear hfz18_1
           try clear hx849_0
           try clear hx850_0
           try clear p849
           try clear p850
           try clear q849
           try clear q850
           obtain⟨kq,x58_16,rfl,HA,HJ16,HO_4,BK845,HB⟩:=hcut
           cases kq with
           |zero=>exact absurd HA.out (by simp [windroseref11_Unpack.j2])
           |succ kj16 =>
            have H:=HA.out
            clear HA
            simp only [windroseref11_Unpack.j2] at H
            replace H:=dbool H
            rcases H with⟨rfl,H⟩|⟨rfl,H⟩
            rotate_left
            ·have HC24:=Aside0.mk H
             clear H
             obtain⟨Ao25,co25,eo25⟩:=Kd.R_slice HO_4.out
             subst eo25
             go_upto_if 62 with(fail)
             go_cut [6,7] (fun v6 v7 wc=>∃ (kq:Nat) (x6_23:Int) (x7_23:Int),v6=.int .i64 x6_23∧v7=.int .i64 x7_23∧Aside0 (windroseref11_Unpack.j3 kq x4_2 x5_2 x6_23 x7_23 (x4_2.length:Int) l0_0 l0_1=some (r1,r2))∧Aside0 (kq≤kj16)∧Aside0 (Kd.R k67 67 wc w.heap.size (fun _=>True) (.slice Ao25 x4_2.length co25) x4_2)∧Aside0 (wc.heap[gb845]?=some (.cells #[(.slice (some ad849) l0_0.length c0_0),(.slice A0_1 l0_1.length c0_1)] 98 (0,0)))∧Aside0 (Below w.heap.size w wc))
             case first =>
              have H:=HC24.out
              clear HC24
              by_cases c26:(x4_2.length:Int)>0
              focus
               rw [if_pos c26] at H
               have c26b0:decide (0<(x4_2.length:Int))=true:=decide_eq_true c26
               have c26b1:decide (0<x4_2.length)=true:=decide_eq_true (by omega)
               have c26b1_:=eq_true (of_decide_eq_true c26b1)
               clear c26
               (first|rw [c26b0]|(simp only [i64_w,i32_w];rw [c26b0])|skip)
               obtain⟨ji27,hji27⟩:∃ j_:Int,(wrap64 ((x4_2.length:Int) - 1))=j_:=⟨_,rfl⟩
               replace H:(if 0≤(ji27)then(if(ji27)<(x4_2.length:Int)then(windroseref11_Unpack.j3 kj16 x4_2 x5_2 (wrap64 ((rd l0_0 x5_2)+((rd_T67 x4_2 (ji27)).f0))) (wrap64 ((rd l0_0 (ji15))+((rd_T67 x4_2 (ji27)).f1))) (x4_2.length:Int) l0_0 l0_1)else(none))else(none))=some (r1,r2):=by first|(rw [hji27] at H;exact H)|(simp only [hji27] at H ⊢;exact H)
               have hji27w:(IntKind.i64.wrap ((x4_2.length:Int) - 1))=ji27:=(i64_w _).trans hji27
               replace H:=dle H
               rcases H with⟨c28b0,H⟩|⟨c28b0,H⟩
               rotate_left
               ·exact absurd H (by simp)
               replace H:=dle H
               rcases H with⟨c29b0,H⟩|⟨c29b0,H⟩
               rotate_left
               ·exact absurd H (by simp)
               have H':=Aside0.mk H
               clear H
               have p851:0≤((ji27):Int):=dc_
               have q851:(ji27)<(x4_2.length:Int):=dc_
               obtain⟨ad851,e851,hx851_0,hx851_1⟩:=at_T67 (Kd.R_reads' HO_4.out).2.2 (ji27) p851 q851
               cases e851
               replace p851:=eq_true p851
               replace q851:=eq_true q851
               have p852:0≤((ji27):Int):=dc_
               have q852:(ji27)<(x4_2.length:Int):=dc_
               obtain⟨ad852,e852,hx852_0,hx852_1⟩:=at_T67 (Kd.R_reads' HO_4.out).2.2 (ji27) p852 q852
               obtain rfl:ad851=ad852:=(by injection e852)
               replace p852:=eq_true p852
               replace q852:=eq_true q852
              rotate_left
              focus
               rw [if_neg c26] at H
               have c26b0:decide (0<(x4_2.length:Int))=false:=decide_eq_false c26
               have c26b1:decide (0<x4_2.length)=false:=decide_eq_false (by omega)
               have c26b1_:=eq_false (of_decide_eq_false c26b1)
               clear c26
               (first|rw [c26b0]|(simp only [i64_w,i32_w];rw [c26b0])|skip)
               have H':=Aside0.mk H
               clear H
              all_goals
               go_wp2
               first
                |all_goals (try exact absurd (of_eq_true c26b1_) (by assumption))
                 go_meet
                 case rel=>exact⟨_,(wrap64 ((rd l0_0 x5_2)+((rd_T67 x4_2 (ji27)).f0))),(wrap64 ((rd l0_0 (ji15))+((rd_T67 x4_2 (ji27)).f1))),(by first|rfl|(simp;done)|(simp only [←hji27]<;>(first|rfl|simp))|(simp [*];done)),(by first|rfl|(simp;done)|(simp only [←hji15,←hji27]<;>(first|rfl|simp))|(simp [*];done)),H',⟨by have:=HJ1.out;have:=HK2.out;have:=HJ16.out;first|omega|exact Nat.le_refl _⟩,⟨(ro_ HO_4)⟩,⟨(bo_ BK845)⟩,⟨bl_⟩⟩
                |all_goals (try exact absurd (by assumption) (of_eq_false c26b1_))
                 go_meet
                 case rel=>exact⟨_,((rd l0_0 x5_2)),((rd l0_0 (ji15))),sm_,(by first|rfl|(simp;done)|(simp only [←hji15]<;>(first|rfl|simp))|(simp [*];done)),H',⟨by have:=HJ1.out;have:=HK2.out;have:=HJ16.out;first|omega|exact Nat.le_refl _⟩,⟨(ro_ HO_4)⟩,⟨(bo_ BK845)⟩,⟨bl_⟩⟩
             case rest =>
              clear HC24
              try clear c9
              try clear c12
              try clear c12b0
              try clear c13
              try clear c13b0
              try clear c14
              try clear c14b0
              try clear c16
              try clear c16b0
              try clear c23
              try clear hcz18_0
              try clear hcz18_1
              try clear hfz18_0
              try clear hfz18_1
              try clear hx849_0
              try clear hx850_0
              try clear p849
              try clear p850
              try clear q849
              try clear q850
              obtain⟨kq,x6_23,x7_23,rfl,rfl,HA,HJ23,HO_4,BK845,HB⟩:=hcut
              cases kq with
              |zero=>exact absurd HA.out (by simp [windroseref11_Unpack.j3])
              |succ kj23 =>
               have H:=HA.out
               clear HA
               simp only [windroseref11_Unpack.j3] at H
               by_cases c30:(x4_2.length:Int)>1
               focus
                rw [if_pos c30] at H
                have c30b0:decide (1<(x4_2.length:Int))=true:=decide_eq_true c30
                have c30b1:decide (1<x4_2.length)=true:=decide_eq_true (by omega)
                have c30b1_:=eq_true (of_decide_eq_true c30b1)
                clear c30
                obtain⟨ji31,hji31⟩:∃ j_:Int,(wrap64 ((x4_2.length:Int) - 1))=j_:=⟨_,rfl⟩
                replace H:(if 0≤(ji31)then(if(ji31)<(x4_2.length:Int)then(if 0≤(wrap64 ((x4_2.length:Int) - 2))then(if(wrap64 ((x4_2.length:Int) - 2))<(x4_2.length:Int)then(if x4_2.length<8796093022208 then((some (x4_2++[(⟨wrap64 ((wrap64 (x6_23+((rd_T67 x4_2 (ji31)).f0))) - ((rd_T67 x4_2 (wrap64 ((x4_2.length:Int) - 2))).f0)),wrap64 ((wrap64 (x7_23+((rd_T67 x4_2 (ji31)).f1))) - ((rd_T67 x4_2 (wrap64 ((x4_2.length:Int) - 2))).f1))⟩:S67)]:List (S67))).bind fun y857=>((windroseref11_May.f kj23 y857).bind fun t860=>(if t860=true then(windroseref11_Unpack.l0 kj23 y857 (wrap64 (x5_2+2)) l0_0 l0_1)else(some (([]:List (S67)),false)))))else(none))else(none))else(none))else(none))else(none))=some (r1,r2):=by first|(rw [hji31] at H;exact H)|(simp only [hji31] at H ⊢;exact H)
                have hji31w:(IntKind.i64.wrap ((x4_2.length:Int) - 1))=ji31:=(i64_w _).trans hji31
                replace H:=dle H
                rcases H with⟨c32b0,H⟩|⟨c32b0,H⟩
                rotate_left
                ·exact absurd H (by simp)
                replace H:=dle H
                rcases H with⟨c33b0,H⟩|⟨c33b0,H⟩
                rotate_left
                ·exact absurd H (by simp)
                obtain⟨ji34,hji34⟩:∃ j_:Int,(wrap64 ((x4_2.length:Int) - 2))=j_:=⟨_,rfl⟩
                replace H:(if 0≤(ji34)then(if(ji34)<(x4_2.length:Int)then(if x4_2.length<8796093022208 then((some (x4_2++[(⟨wrap64 ((wrap64 (x6_23+((rd_T67 x4_2 (ji31)).f0))) - ((rd_T67 x4_2 (ji34)).f0)),wrap64 ((wrap64 (x7_23+((rd_T67 x4_2 (ji31)).f1))) - ((rd_T67 x4_2 (ji34)).f1))⟩:S67)]:List (S67))).bind fun y857=>((windroseref11_May.f kj23 y857).bind fun t860=>(if t860=true then(windroseref11_Unpack.l0 kj23 y857 (wrap64 (x5_2+2)) l0_0 l0_1)else(some (([]:List (S67)),false)))))else(none))else(none))else(none))=some (r1,r2):=by first|(rw [hji34] at H;exact H)|(simp only [hji34] at H ⊢;exact H)
                have hji34w:(IntKind.i64.wrap ((x4_2.length:Int) - 2))=ji34:=(i64_w _).trans hji34
                replace H:=dle H
                rcases H with⟨c35b0,H⟩|⟨c35b0,H⟩
                rotate_left
                ·exact absurd H (by simp)
                replace H:=dle H
                rcases H with⟨c36b0,H⟩|⟨c36b0,H⟩
                rotate_left
                ·exact absurd H (by simp)
                by_cases c37:x4_2.length<8796093022208
                rotate_left
                ·rw [if_neg c37] at H
                 exact absurd H (by simp)
                rw [if_pos c37] at H
                have LMc37:=Aside0.mk c37
                clear c37
                obtain⟨y857,hy857⟩:∃ y_:List (S67),y_=(x4_2++[(⟨wrap64 ((wrap64 (x6_23+((rd_T67 x4_2 (ji31)).f0))) - ((rd_T67 x4_2 (ji34)).f0)),wrap64 ((wrap64 (x7_23+((rd_T67 x4_2 (ji31)).f1))) - ((rd_T67 x4_2 (ji34)).f1))⟩:S67)]):=⟨_,rfl⟩
                replace H:((windroseref11_May.f kj23 y857).bind fun t860=>(if t860=true then(windroseref11_Unpack.l0 kj23 y857 (wrap64 (x5_2+2)) l0_0 l0_1)else(some (([]:List (S67)),false))))=some (r1,r2):=by first|(rw [hy857];with_reducible exact H)|(have H2_:=(Option.bind_some _ _).symm.trans H;rw [hy857];with_reducible exact H2_)|(have H2_:=(Option.bind_some _ _).symm.trans H;with_reducible exact H2_)|with_reducible exact H|(rw [hy857];exact H)|exact H
                have Ny857:=Aside0.mk hy857
                clear hy857
                replace H:=bindA H
                obtain⟨t860,A38,H⟩:=H
                try dsimp only at H
                replace H:=dbool H
                rcases H with⟨rfl,H⟩|⟨rfl,H⟩
                focus
                 have H':=Aside0.mk H
                 clear H
                rotate_left
                focus
                 simp only [Option.some.injEq,Prod.mk.injEq] at H
                 obtain⟨rfl,rfl⟩:=H
               rotate_left 2
               focus
                rw [if_neg c30] at H
                have c30b0:decide (1<(x4_2.length:Int))=false:=decide_eq_false c30
                have c30b1:decide (1<x4_2.length)=false:=decide_eq_false (by omega)
                have c30b1_:=eq_false (of_decide_eq_false c30b1)
                clear c30
                by_cases c48:x4_2.length<8796093022208
                rotate_left
                ·rw [if_neg c48] at H
                 exact absurd H (by simp)
                rw [if_pos c48] at H
                have LMc48:=Aside0.mk c48
                clear c48
                obtain⟨y861,hy861⟩:∃ y_:List (S67),y_=(x4_2++[(⟨x6_23,x7_23⟩:S67)]):=⟨_,rfl⟩
                replace H:((windroseref11_May.f kj23 y861).bind fun t864=>(if t864=true then(windroseref11_Unpack.l0 kj23 y861 (wrap64 (x5_2+2)) l0_0 l0_1)else(some (([]:List (S67)),false))))=some (r1,r2):=by first|(rw [hy861];with_reducible exact H)|(have H2_:=(Option.bind_some _ _).symm.trans H;rw [hy861];with_reducible exact H2_)|(have H2_:=(Option.bind_some _ _).symm.trans H;with_reducible exact H2_)|with_reducible exact H|(rw [hy861];exact H)|exact H
                have Ny861:=Aside0.mk hy861
                clear hy861
                replace H:=bindA H
                obtain⟨t864,A49,H⟩:=H
                try dsimp only at H
                replace H:=dbool H
                rcases H with⟨rfl,H⟩|⟨rfl,H⟩
                focus
                 have H':=Aside0.mk H
                 clear H
                rotate_left
                focus
                 simp only [Option.some.injEq,Prod.mk.injEq] at H
                 obtain⟨rfl,rfl⟩:=H
               all_goals
                first
                 |try go_wp2
                  have n_:=pk3 (Kd.R_drew HO_4.out) (blk_drew BK845.out) (below_drew1 HB.out)
                  clear HO_4 BK845 HB
                  obtain⟨HO_4,BK845,HB⟩:=n_
                  have p7000:0≤((ji31):Int):=dc_
                  have q7000:(ji31)<(x4_2.length:Int):=dc_
                  obtain⟨ad7000,e7000,hx7000_0,hx7000_1⟩:=at_T67 (Kd.R_reads' HO_4.out).2.2 (ji31) p7000 q7000
                  cases e7000
                  replace p7000:=eq_true p7000
                  replace q7000:=eq_true q7000
                  have p7001:0≤((ji34):Int):=dc_
                  have q7001:(ji34)<(x4_2.length:Int):=dc_
                  obtain⟨ad7001,e7001,hx7001_0,hx7001_1⟩:=at_T67 (Kd.R_reads' HO_4.out).2.2 (ji34) p7001 q7001
                  obtain rfl:ad7000=ad7001:=(by injection e7001)
                  replace p7001:=eq_true p7001
                  replace q7001:=eq_true q7001
                  refine start_ (n:=16) (S:=fun w'=>w'.cell? (ad7000.add (((ji31)).toNat*2))=some (.int .i64 ((rd_T67 x4_2 (ji31)).f0))∧w'.cell? ⟨(ad7000.add (((ji31)).toNat*2)).block,(ad7000.add (((ji31)).toNat*2)).off+1,none⟩=some (.int .i64 ((rd_T67 x4_2 (ji31)).f1))∧w'.cell? (ad7000.add (((ji34)).toNat*2))=some (.int .i64 ((rd_T67 x4_2 (ji34)).f0))∧w'.cell? ⟨(ad7000.add (((ji34)).toNat*2)).block,(ad7000.add (((ji34)).toNat*2)).off+1,none⟩=some (.int .i64 ((rd_T67 x4_2 (ji34)).f1))) (ds:=[]) bz10_16_0 (by kernel_rfl) rfl rfl ⟨hx7000_0,hx7000_1,hx7001_0,hx7001_1⟩ (fun hHeld=>?_);refine with_tabW windroseref11_Unpack.tab15 windroseref11_Unpack.bits15 (fun HT_ HW_=>?_)
                  generalize wc.drew=w7000 at HO_4 BK845 HB hx7000_0 hx7000_1 hx7001_0 hx7001_1 hHeld ⊢
                  refine pure_ (i:=0) (N:=some 81) (v:=?_) (a':=?_) bz10_16_1 rfl rfl (any_of HT_.out (by kernel_rfl)) (fun _ _ _ h=>h) (Or.inl ⟨by rfl,?_⟩) ?_ ?_
                  rotate_left
                  ·intro w'
                   go_simp
                   with_reducible rfl
                  rotate_left
                  ·simp only [ap_,sb_,s0_,s1_,i64_w,i32_w]
                   rfl
                  refine pure_ (i:=1) (N:=some 82) (v:=?_) (a':=?_) bz10_16_3 rfl rfl (any_of HT_.out (by kernel_rfl)) (fun _ _ _ h=>h) (Or.inl ⟨by rfl,?_⟩) ?_ ?_
                  rotate_left
                  ·intro w'
                   go_simp
                   with_reducible rfl
                  rotate_left
                  ·simp only [ap_,sb_,s0_,s1_,i64_w,i32_w]
                   rfl
                  refine pure_ (i:=2) (N:=some 83) (v:=?_) (a':=?_) bz10_16_7 rfl rfl (any_of HT_.out (by kernel_rfl)) (fun _ _ _ h=>h) (Or.inl ⟨by rfl,?_⟩) ?_ ?_
                  rotate_left
                  ·intro w'
                   go_simp
                   with_reducible rfl
                  rotate_left
                  ·simp only [ap_,sb_,s0_,s1_,i64_w,i32_w]
                   rfl
                  refine pure_ (i:=3) (N:=some 84) (v:=?_) (a':=?_) bz10_16_15 rfl rfl (any_of HT_.out (by kernel_rfl)) (fun _ _ _ h=>h) (Or.inl ⟨by rfl,?_⟩) ?_ ?_
                  rotate_left
                  ·intro w'
                   go_simp
                   with_reducible rfl
                  rotate_left
                  ·simp only [ap_,sb_,s0_,s1_,i64_w,i32_w]
                   rfl
                  refine pure_ (i:=4) (N:=some 85) (v:=?_) (a':=?_) bz10_16_31 rfl rfl (any_of HT_.out (by kernel_rfl)) (fun _ _ _ h=>h) (Or.inl ⟨by rfl,?_⟩) ?_ ?_
                  rotate_left
                  ·intro w'
                   go_simp
                   with_reducible rfl
                  rotate_left
                  ·simp only [ap_,sb_,s0_,s1_,i64_w,i32_w]
                   rfl
                  refine pure_ (i:=5) (N:=some 86) (v:=?_) (a':=?_) bz10_16_63 rfl rfl (any_of HT_.out (by kernel_rfl)) (fun _ _ _ h=>h) (Or.inl ⟨by rfl,?_⟩) ?_ ?_
                  rotate_left
                  ·intro w'
                   go_simp
                   with_reducible rfl
                  rotate_left
                  ·simp only [ap_,sb_,s0_,s1_,i64_w,i32_w]
                   rfl
                  refine pure_ (i:=8) (N:=some 89) (v:=?_) (a':=?_) bz10_16_319 rfl rfl (any_of HT_.out (by kernel_rfl)) (fun _ _ _ h=>h) (Or.inl ⟨by rfl,?_⟩) ?_ ?_
                  rotate_left
                  ·intro w'
                   go_simp
                   with_reducible rfl
                  rotate_left
                  ·simp only [ap_,sb_,s0_,s1_,i64_w,i32_w]
                   rfl
                  refine pure_ (i:=9) (N:=some 90) (v:=?_) (a':=?_) bz10_16_831 rfl rfl (any_of HT_.out (by kernel_rfl)) (fun _ _ _ h=>h) (Or.inl ⟨by rfl,?_⟩) ?_ ?_
                  rotate_left
                  ·intro w'
                   go_simp
                   with_reducible rfl
                  rotate_left
                  ·simp only [ap_,sb_,s0_,s1_,i64_w,i32_w]
                   rfl
                  refine pure_ (i:=10) (N:=some 91) (v:=?_) (a':=?_) bz10_16_1855 rfl rfl (any_of HT_.out (by kernel_rfl)) (fun _ _ _ h=>h) (Or.inl ⟨by rfl,?_⟩) ?_ ?_
                  rotate_left
                  ·intro w'
                   go_simp
                   with_reducible rfl
                  rotate_left
                  ·simp only [ap_,sb_,s0_,s1_,i64_w,i32_w]
                   rfl
                  refine pure_ (i:=11) (N:=some 92) (v:=?_) (a':=?_) bz10_16_3903 rfl rfl (any_of HT_.out (by kernel_rfl)) (fun _ _ _ h=>h) (Or.inl ⟨by rfl,?_⟩) ?_ ?_
                  rotate_left
                  ·intro w'
                   go_simp
                   with_reducible rfl
                  rotate_left
                  ·simp only [ap_,sb_,s0_,s1_,i64_w,i32_w]
                   rfl
                  refine pure_ (i:=12) (N:=some 93) (v:=?_) (a':=?_) bz10_16_7999 rfl rfl (any_of HT_.out (by kernel_rfl)) (fun _ _ _ h=>h) (Or.inl ⟨by rfl,?_⟩) ?_ ?_
                  rotate_left
                  ·intro w'
                   go_simp
                   with_reducible rfl
                  rotate_left
                  ·simp only [ap_,sb_,s0_,s1_,i64_w,i32_w]
                   rfl
                  refine take_ (i:=6) (N:=some 87) (v:=?_) (a':=?_) bz10_16_8063 rfl rfl (take_ofW HT_.out HW_.out (by kernel_rfl)) (fun _ _ _ h=>h) (Or.inl ⟨by rfl,?_⟩) hHeld ?_ ?_
                  rotate_left
                  ·rintro w' ⟨s0,s1,s2,s3⟩
                   go_simp
                   with_reducible rfl
                  rotate_left
                  ·simp only [ap_,sb_,s0_,s1_,i64_w,i32_w]
                   rfl
                  refine pure_ (i:=7) (N:=some 88) (v:=?_) (a':=?_) bz10_16_8191 rfl rfl (any_of HT_.out (by kernel_rfl)) (fun _ _ _ h=>h) (Or.inl ⟨by rfl,?_⟩) ?_ ?_
                  rotate_left
                  ·intro w'
                   go_simp
                   with_reducible rfl
                  rotate_left
                  ·simp only [ap_,sb_,s0_,s1_,i64_w,i32_w]
                   rfl
                  refine take_ (i:=13) (N:=some 94) (v:=?_) (a':=?_) bz10_16_16383 rfl rfl (take_ofW HT_.out HW_.out (by kernel_rfl)) (fun _ _ _ h=>h) (Or.inl ⟨by rfl,?_⟩) hHeld ?_ ?_
                  rotate_left
                  ·rintro w' ⟨s0,s1,s2,s3⟩
                   go_simp
                   with_reducible rfl
                  rotate_left
                  ·simp only [ap_,sb_,s0_,s1_,i64_w,i32_w]
                   rfl
                  refine pure_ (i:=14) (N:=some 95) (v:=?_) (a':=?_) bz10_16_32767 rfl rfl (any_of HT_.out (by kernel_rfl)) (fun _ _ _ h=>h) (Or.inl ⟨by rfl,?_⟩) ?_ ?_
                  rotate_left
                  ·intro w'
                   go_simp
                   with_reducible rfl
                  rotate_left
                  ·simp only [ap_,sb_,s0_,s1_,i64_w,i32_w]
                   rfl
                  refine pure_ (i:=15) (N:=some 6) (v:=?_) (a':=?_) bz10_16_65535 rfl rfl (any_of HT_.out (by kernel_rfl)) (fun _ _ _ h=>h) (Or.inl ⟨by rfl,?_⟩) ?_ ?_
                  rotate_left
                  ·intro w'
                   go_simp
                   with_reducible rfl
                  rotate_left
                  ·simp only [ap_,sb_,s0_,s1_,i64_w,i32_w]
                   rfl
                  refine done_ (done_of HT_.out (by kernel_rfl)) ?_
                  try go_wp2
                  have n_:=pk3 (Kd.R_drew HO_4.out) (blk_drew BK845.out) (below_drew1 HB.out)
                  clear HO_4 BK845 HB
                  obtain⟨HO_4,BK845,HB⟩:=n_
                  have p7002:0≤((ji31):Int):=dc_
                  have q7002:(ji31)<(x4_2.length:Int):=dc_
                  obtain⟨ad7002,e7002,hx7002_0,hx7002_1⟩:=at_T67 (Kd.R_reads' HO_4.out).2.2 (ji31) p7002 q7002
                  obtain rfl:ad7000=ad7002:=(by injection e7002)
                  replace p7002:=eq_true p7002
                  replace q7002:=eq_true q7002
                  have p7003:0≤((ji34):Int):=dc_
                  have q7003:(ji34)<(x4_2.length:Int):=dc_
                  obtain⟨ad7003,e7003,hx7003_0,hx7003_1⟩:=at_T67 (Kd.R_reads' HO_4.out).2.2 (ji34) p7003 q7003
                  obtain rfl:ad7000=ad7003:=(by injection e7003)
                  replace p7003:=eq_true p7003
                  replace q7003:=eq_true q7003
                  refine start_ (n:=16) (S:=fun w'=>w'.cell? (ad7000.add (((ji31)).toNat*2))=some (.int .i64 ((rd_T67 x4_2 (ji31)).f0))∧w'.cell? ⟨(ad7000.add (((ji31)).toNat*2)).block,(ad7000.add (((ji31)).toNat*2)).off+1,none⟩=some (.int .i64 ((rd_T67 x4_2 (ji31)).f1))∧w'.cell? (ad7000.add (((ji34)).toNat*2))=some (.int .i64 ((rd_T67 x4_2 (ji34)).f0))∧w'.cell? ⟨(ad7000.add (((ji34)).toNat*2)).block,(ad7000.add (((ji34)).toNat*2)).off+1,none⟩=some (.int .i64 ((rd_T67 x4_2 (ji34)).f1))) (ds:=[]) bz10_16_0 (by kernel_rfl) rfl rfl ⟨hx7002_0,hx7002_1,hx7003_0,hx7003_1⟩ (fun hHeld=>?_);refine with_tabW windroseref11_Unpack.tab16 windroseref11_Unpack.bits16 (fun HT_ HW_=>?_)
                  generalize w7000.drew=w7001 at HO_4 BK845 HB hx7002_0 hx7002_1 hx7003_0 hx7003_1 hHeld ⊢
                  refine pure_ (i:=0) (N:=some 96) (v:=?_) (a':=?_) bz10_16_1 rfl rfl (any_of HT_.out (by kernel_rfl)) (fun _ _ _ h=>h) (Or.inl ⟨by rfl,?_⟩) ?_ ?_
                  rotate_left
                  ·intro w'
                   go_simp
                   with_reducible rfl
                  rotate_left
                  ·simp only [ap_,sb_,s0_,s1_,i64_w,i32_w]
                   rfl
                  refine pure_ (i:=1) (N:=some 97) (v:=?_) (a':=?_) bz10_16_3 rfl rfl (any_of HT_.out (by kernel_rfl)) (fun _ _ _ h=>h) (Or.inl ⟨by rfl,?_⟩) ?_ ?_
                  rotate_left
                  ·intro w'
                   go_simp
                   with_reducible rfl
                  rotate_left
                  ·simp only [ap_,sb_,s0_,s1_,i64_w,i32_w]
                   rfl
                  refine pure_ (i:=2) (N:=some 98) (v:=?_) (a':=?_) bz10_16_7 rfl rfl (any_of HT_.out (by kernel_rfl)) (fun _ _ _ h=>h) (Or.inl ⟨by rfl,?_⟩) ?_ ?_
                  rotate_left
                  ·intro w'
                   go_simp
                   with_reducible rfl
                  rotate_left
                  ·simp only [ap_,sb_,s0_,s1_,i64_w,i32_w]
                   rfl
                  refine pure_ (i:=3) (N:=some 99) (v:=?_) (a':=?_) bz10_16_15 rfl rfl (any_of HT_.out (by kernel_rfl)) (fun _ _ _ h=>h) (Or.inl ⟨by rfl,?_⟩) ?_ ?_
                  rotate_left
                  ·intro w'
                   go_simp
                   with_reducible rfl
                  rotate_left
                  ·simp only [ap_,sb_,s0_,s1_,i64_w,i32_w]
                   rfl
                  refine pure_ (i:=4) (N:=some 100) (v:=?_) (a':=?_) bz10_16_31 rfl rfl (any_of HT_.out (by kernel_rfl)) (fun _ _ _ h=>h) (Or.inl ⟨by rfl,?_⟩) ?_ ?_
                  rotate_left
                  ·intro w'
                   go_simp
                   with_reducible rfl
                  rotate_left
                  ·simp only [ap_,sb_,s0_,s1_,i64_w,i32_w]
                   rfl
                  refine pure_ (i:=5) (N:=some 101) (v:=?_) (a':=?_) bz10_16_63 rfl rfl (any_of HT_.out (by kernel_rfl)) (fun _ _ _ h=>h) (Or.inl ⟨by rfl,?_⟩) ?_ ?_
                  rotate_left
                  ·intro w'
                   go_simp
                   with_reducible rfl
                  rotate_left
                  ·simp only [ap_,sb_,s0_,s1_,i64_w,i32_w]
                   rfl
                  refine pure_ (i:=8) (N:=some 104) (v:=?_) (a':=?_) bz10_16_319 rfl rfl (any_of HT_.out (by kernel_rfl)) (fun _ _ _ h=>h) (Or.inl ⟨by rfl,?_⟩) ?_ ?_
                  rotate_left
                  ·intro w'
                   go_simp
                   with_reducible rfl
                  rotate_left
                  ·simp only [ap_,sb_,s0_,s1_,i64_w,i32_w]
                   rfl
                  refine pure_ (i:=9) (N:=some 105) (v:=?_) (a':=?_) bz10_16_831 rfl rfl (any_of HT_.out (by kernel_rfl)) (fun _ _ _ h=>h) (Or.inl ⟨by rfl,?_⟩) ?_ ?_
                  rotate_left
                  ·intro w'
                   go_simp
                   with_reducible rfl
                  rotate_left
                  ·simp only [ap_,sb_,s0_,s1_,i64_w,i32_w]
                   rfl
                  refine pure_ (i:=10) (N:=some 106) (v:=?_) (a':=?_) bz10_16_1855 rfl rfl (any_of HT_.out (by kernel_rfl)) (fun _ _ _ h=>h) (Or.inl ⟨by rfl,?_⟩) ?_ ?_
                  rotate_left
                  ·intro w'
                   go_simp
                   with_reducible rfl
                  rotate_left
                  ·simp only [ap_,sb_,s0_,s1_,i64_w,i32_w]
                   rfl
                  refine pure_ (i:=11) (N:=some 107) (v:=?_) (a':=?_) bz10_16_3903 rfl rfl (any_of HT_.out (by kernel_rfl)) (fun _ _ _ h=>h) (Or.inl ⟨by rfl,?_⟩) ?_ ?_
                  rotate_left
                  ·intro w'
                   go_simp
                   with_reducible rfl
                  rotate_left
                  ·simp only [ap_,sb_,s0_,s1_,i64_w,i32_w]
                   rfl
                  refine pure_ (i:=12) (N:=some 108) (v:=?_) (a':=?_) bz10_16_7999 rfl rfl (any_of HT_.out (by kernel_rfl)) (fun _ _ _ h=>h) (Or.inl ⟨by rfl,?_⟩) ?_ ?_
                  rotate_left
                  ·intro w'
                   go_simp
                   with_reducible rfl
                  rotate_left
                  ·simp only [ap_,sb_,s0_,s1_,i64_w,i32_w]
                   rfl
                  refine take_ (i:=6) (N:=some 102) (v:=?_) (a':=?_) bz10_16_8063 rfl rfl (take_ofW HT_.out HW_.out (by kernel_rfl)) (fun _ _ _ h=>h) (Or.inl ⟨by rfl,?_⟩) hHeld ?_ ?_
                  rotate_left
                  ·rintro w' ⟨s0,s1,s2,s3⟩
                   go_simp
                   with_reducible rfl
                  rotate_left
                  ·simp only [ap_,sb_,s0_,s1_,i64_w,i32_w]
                   rfl
                  refine pure_ (i:=7) (N:=some 103) (v:=?_) (a':=?_) bz10_16_8191 rfl rfl (any_of HT_.out (by kernel_rfl)) (fun _ _ _ h=>h) (Or.inl ⟨by rfl,?_⟩) ?_ ?_
                  rotate_left
                  ·intro w'
                   go_simp
                   with_reducible rfl
                  rotate_left
                  ·simp only [ap_,sb_,s0_,s1_,i64_w,i32_w]
                   rfl
                  refine take_ (i:=13) (N:=some 109) (v:=?_) (a':=?_) bz10_16_16383 rfl rfl (take_ofW HT_.out HW_.out (by kernel_rfl)) (fun _ _ _ h=>h) (Or.inl ⟨by rfl,?_⟩) hHeld ?_ ?_
                  rotate_left
                  ·rintro w' ⟨s0,s1,s2,s3⟩
                   go_simp
                   with_reducible rfl
                  rotate_left
                  ·simp only [ap_,sb_,s0_,s1_,i64_w,i32_w]
                   rfl
                  refine pure_ (i:=14) (N:=some 110) (v:=?_) (a':=?_) bz10_16_32767 rfl rfl (any_of HT_.out (by kernel_rfl)) (fun _ _ _ h=>h) (Or.inl ⟨by rfl,?_⟩) ?_ ?_
                  rotate_left
                  ·intro w'
                   go_simp
                   with_reducible rfl
                  rotate_left
                  ·simp only [ap_,sb_,s0_,s1_,i64_w,i32_w]
                   rfl
                  refine pure_ (i:=15) (N:=some 7) (v:=?_) (a':=?_) bz10_16_65535 rfl rfl (any_of HT_.out (by kernel_rfl)) (fun _ _ _ h=>h) (Or.inl ⟨by rfl,?_⟩) ?_ ?_
                  rotate_left
                  ·intro w'
                   go_simp
                   with_reducible rfl
                  rotate_left
                  ·simp only [ap_,sb_,s0_,s1_,i64_w,i32_w]
                   rfl
                  refine done_ (done_of HT_.out (by kernel_rfl)) ?_
                  try go_wp2_with (first|((with_reducible refine gate_builtin (b:=.append) (xs:=#[.tmp 111,.tmp 115]) rfl ?_);(try(refine gate_guard (by rfl) ?_;dsimp only));at_builtin;refine Kd.R_append k67 (w0:=w) w.heap.size rfl (.tmp 111) (.tmp 115) 65 67 (.agg #[(.int .i64 0),(.int .i64 0)]) 16 rfl Try.underlying65 info67 rfl (by decide) (by omega) (.slice (some ad7000) x4_2.length co25) x4_2 (⟨wrap64 ((wrap64 (x6_23+((rd_T67 x4_2 (ji31)).f0))) - ((rd_T67 x4_2 (ji34)).f0)),wrap64 ((wrap64 (x7_23+((rd_T67 x4_2 (ji31)).f1))) - ((rd_T67 x4_2 (ji34)).f1))⟩:S67) [.int .i64 (wrap64 ((wrap64 (x6_23+((rd_T67 x4_2 (ji31)).f0))) - ((rd_T67 x4_2 (ji34)).f0))),.int .i64 (wrap64 ((wrap64 (x7_23+((rd_T67 x4_2 (ji31)).f1))) - ((rd_T67 x4_2 (ji34)).f1)))] (fun _=>True) (fun _=>False) rfl rfl ?aP (fun _ hk=>hk.elim) ?aF ?aO ?aB ?aS ?aL ?_;(case aP=>exact k67_mkM _ _ _ (⟨wrap64 ((wrap64 (x6_23+((rd_T67 x4_2 (ji31)).f0))) - ((rd_T67 x4_2 (ji34)).f0)),wrap64 ((wrap64 (x7_23+((rd_T67 x4_2 (ji31)).f1))) - ((rd_T67 x4_2 (ji34)).f1))⟩:S67));(case aB=>exact bl_);(case aF=>exact(fun _ _=>trivial));(case aO=>exact(ro_ HO_4));(case aS=>exact(below_size bl_));(case aL=>have:=LMc37.out;omega);intro v7000 w7002 ho hb hg hat;rw [←Ny857.out] at ho;have n_:=pk3 (blk_grown (bo_ BK845) hg (Kd.R_ne HO_4.out BK845.out (by decide))) (hb) (ho);clear BK845 HB HO_4;obtain⟨BK845,HB,HO7000⟩:=n_;clear ho hb hg hat;obtain⟨Ao7000,co7000,eo7000⟩:=Kd.R_slice HO7000.out;subst eo7000)|((with_reducible refine gate_callee (f:=38) rfl ?_);refine goL_ (some 118) Try.func38 #[.slice Ao7000 y857.length co7000] ?_;(with_reducible refine(windroseref11_May.calls kj23 _ _ y857 false _ ?side1 ?side2 A38.out).mono ?_);(case side1=>exact cr_ HO7000);(case side2=>exact(Kd.R_reads' HO7000.out).2.1);rintro e w' ⟨rfl,⟨nd,rfl⟩⟩;refine⟨_,rfl,?_⟩)|((with_reducible refine gate_callee (f:=38) rfl ?_);refine goL_ (some 118) Try.func38 #[.slice Ao7000 y857.length co7000] ?_;(with_reducible refine(windroseref11_May.calls kj23 _ _ y857 true _ ?side1 ?side2 A38.out).mono ?_);(case side1=>exact cr_ HO7000);(case side2=>exact(Kd.R_reads' HO7000.out).2.1);rintro e w' ⟨rfl,⟨nd,rfl⟩⟩;refine⟨_,rfl,?_⟩))
                  first
                   |go_roundg kj23
                    case measure=>have:=HJ1.out;have:=HK2.out;have:=HJ16.out;have:=HJ23.out;omega
                    case rel=>exact⟨(y857),(wrap64 (x5_2+2)),sm_,H',⟨by have:=HJ1.out;have:=HK2.out;have:=HJ16.out;have:=HJ23.out;omega⟩,⟨(ro_ HO7000)⟩,⟨(bo_ BK845)⟩,⟨bl_⟩⟩
                   |go_ret2
                    exact⟨_,by first|rfl|(simp [errW_none,errW_some]<;>rfl)|(simp only [←hji15,←hji31,←hji34];first|rfl|(simp [errW_none,errW_some]<;>rfl))|(simp [*,errW_none,errW_some]<;>rfl),nl_,bl_⟩
                 |go_wp2_with (first|((with_reducible refine gate_builtin (b:=.append) (xs:=#[.tmp 111,.tmp 115]) rfl ?_);(try(refine gate_guard (by rfl) ?_;dsimp only));at_builtin;refine Kd.R_append k67 (w0:=w) w.heap.size rfl (.tmp 111) (.tmp 115) 65 67 (.agg #[(.int .i64 0),(.int .i64 0)]) 16 rfl Try.underlying65 info67 rfl (by decide) (by omega) (.slice Ao25 x4_2.length co25) x4_2 (⟨x6_23,x7_23⟩:S67) [.int .i64 x6_23,.int .i64 x7_23] (fun _=>True) (fun _=>False) rfl rfl ?aP (fun _ hk=>hk.elim) ?aF ?aO ?aB ?aS ?aL ?_;(case aP=>exact k67_mkM _ _ _ (⟨x6_23,x7_23⟩:S67));(case aB=>exact bl_);(case aF=>exact(fun _ _=>trivial));(case aO=>exact(ro_ HO_4));(case aS=>exact(below_size bl_));(case aL=>have:=LMc48.out;omega);intro v7000 w7000 ho hb hg hat;rw [←Ny861.out] at ho;have n_:=pk3 (blk_grown (bo_ BK845) hg (Kd.R_ne HO_4.out BK845.out (by decide))) (hb) (ho);clear BK845 HB HO_4;obtain⟨BK845,HB,HO7000⟩:=n_;clear ho hb hg hat;obtain⟨Ao7000,co7000,eo7000⟩:=Kd.R_slice HO7000.out;subst eo7000)|((with_reducible refine gate_callee (f:=38) rfl ?_);refine goL_ (some 118) Try.func38 #[.slice Ao7000 y861.length co7000] ?_;(with_reducible refine(windroseref11_May.calls kj23 _ _ y861 false _ ?side1 ?side2 A49.out).mono ?_);(case side1=>exact cr_ HO7000);(case side2=>exact(Kd.R_reads' HO7000.out).2.1);rintro e w' ⟨rfl,⟨nd,rfl⟩⟩;refine⟨_,rfl,?_⟩)|((with_reducible refine gate_callee (f:=38) rfl ?_);refine goL_ (some 118) Try.func38 #[.slice Ao7000 y861.length co7000] ?_;(with_reducible refine(windroseref11_May.calls kj23 _ _ y861 true _ ?side1 ?side2 A49.out).mono ?_);(case side1=>exact cr_ HO7000);(case side2=>exact(Kd.R_reads' HO7000.out).2.1);rintro e w' ⟨rfl,⟨nd,rfl⟩⟩;refine⟨_,rfl,?_⟩))
                  first
                   |go_roundg kj23
                    case measure=>have:=HJ1.out;have:=HK2.out;have:=HJ16.out;have:=HJ23.out;omega
                    case rel=>exact⟨(y861),(wrap64 (x5_2+2)),sm_,H',⟨by have:=HJ1.out;have:=HK2.out;have:=HJ16.out;have:=HJ23.out;omega⟩,⟨(ro_ HO7000)⟩,⟨(bo_ BK845)⟩,⟨bl_⟩⟩
                   |go_ret2
                    exact⟨_,by first|rfl|(simp [errW_none,errW_some]<;>rfl)|(simp only [←hji15];first|rfl|(simp [errW_none,errW_some]<;>rfl))|(simp [*,errW_none,errW_some]<;>rfl),nl_,bl_⟩
            simp only [Option.some.injEq,Prod.mk.injEq] at H
            obtain⟨rfl,rfl⟩:=H
            go_wp2
            go_ret2
            exact⟨_,by first|rfl|(simp [errW_none,errW_some]<;>rfl)|(simp only [←hji15];first|rfl|(simp [errW_none,errW_some]<;>rfl))|(simp [*,errW_none,errW_some]<;>rfl),nl_,bl_⟩
         exact absurd H (by simp)
        exact absurd H (by simp)
       exact absurd H (by simp)
      replace H:=bindA H
      obtain⟨t865,A55,H⟩:=H
      try dsimp only at H
      replace H:=bindA H
      obtain⟨t868,A56,H⟩:=H
      try dsimp only at H
      replace H:=dbool H
      rcases H with⟨rfl,H⟩|⟨rfl,H⟩
      focus
       simp only [Option.some.injEq,Prod.mk.injEq] at H
       obtain⟨rfl,rfl⟩:=H
       obtain⟨hcz58_0,hcz58_1,hfz58_0,hfz58_1⟩:=blk_at2 BK845.out
      rotate_left
      focus
       simp only [Option.some.injEq,Prod.mk.injEq] at H
       obtain⟨rfl,rfl⟩:=H
       obtain⟨hcz63_0,hcz63_1,hfz63_0,hfz63_1⟩:=blk_at2 BK845.out
      all_goals
       try go_wp2
       have n_:=pk3 (Kd.R_drew HO_4.out) (blk_drew BK845.out) (below_drew1 HB.out)
       clear HO_4 BK845 HB
       obtain⟨HO_4,BK845,HB⟩:=n_
       obtain⟨Ao7100,co7100,eo7100⟩:=Kd.R_slice HO_4.out
       (first|subst eo7100|(injection eo7100 with f1_ f2_ f3_;have f7100_:=f1_.symm;have f7101_:=f3_.symm;clear f1_ f2_ f3_;subst f7100_;subst f7101_))
       refine start_ (n:=6) (S:=fun w'=>w'.cell? ⟨gb845,0,none⟩=some (.slice A0_0 l0_0.length c0_0)∧w'.cell? ⟨gb845,1,none⟩=some (.slice A0_1 l0_1.length c0_1)) (ds:=[]) #[false,false,false,false,false,false] (by kernel_rfl) rfl rfl ⟨(blk_cell BK845.out 0).trans rfl,(blk_cell BK845.out 1).trans rfl⟩ (fun hHeld=>?_)
       generalize wr.drew=w7100 at HO_4 BK845 HB hHeld ⊢
       refine pure_ (i:=0) (N:=some 120) (v:=?_) (a':=?_) #[true,false,false,false,false,false] rfl rfl (by kernel_rfl) (fun _ _ _ h=>h) (Or.inl ⟨by rfl,?_⟩) ?_ ?_
       rotate_left
       ·intro w'
        go_simp
        with_reducible rfl
       rotate_left
       ·simp only [ap_,sb_,s0_,s1_,i64_w,i32_w]
        rfl
       refine pure_ (i:=2) (N:=some 122) (v:=?_) (a':=?_) #[true,false,true,false,false,false] rfl rfl (by kernel_rfl) (fun _ _ _ h=>h) (Or.inl ⟨by rfl,?_⟩) ?_ ?_
       rotate_left
       ·intro w'
        go_simp
        with_reducible rfl
       rotate_left
       ·simp only [ap_,sb_,s0_,s1_,i64_w,i32_w]
        rfl
       refine take_ (i:=3) (N:=some 123) (v:=?_) (a':=?_) #[true,false,true,true,false,false] rfl rfl (by kernel_rfl) (fun _ _ _ h=>h) (Or.inl ⟨by rfl,?_⟩) hHeld ?_ ?_
       rotate_left
       ·rintro w' ⟨s0,s1⟩
        go_simp
        with_reducible rfl
       rotate_left
       ·simp only [ap_,sb_,s0_,s1_,i64_w,i32_w]
        rfl
       refine one_ (i:=1) (N:=some 121) #[true,true,true,true,false,false] rfl rfl (by kernel_rfl) (by decide) (fun K hK=>?_)
       refine goes_ Try.func87 (by kernel_rfl) rfl #[.slice Ao7100 x4_2.length co7100] (by rfl) rfl rfl (by(try simp only [List.map_toArray,List.map_cons,List.map_nil]);first|done|rfl|(simp only [List.length_drop,List.length_take];rfl)) ?_
       with_reducible refine(windroseref11_Nums.calls k2 _ _ x4_2 t865 _ ?side1 ?side2 A55.out).mono ?_
       (case side1=>exact cr_ HO_4)
       (case side2=>exact(Kd.R_reads' HO_4.out).2.1)
       rintro e w7101 ⟨v7100,rfl,ho7100,hb⟩
       refine⟨_,rfl,?_⟩
       have n_:=pk4 (Kd.R_below (ro_ HO_4) hb) (Kd.R_lower ho7100 (below_size bl_)) (blk_below (bo_ BK845) hb) (below_step bl_ hb)
       clear HO_4 BK845 HB
       obtain⟨HO_4,HO7100,BK845,HB⟩:=n_
       (try clear hb)
       (try clear hb2)
       (try clear hk)
       (try clear hi)
       (try clear ho7100)
       obtain⟨Ao7101,co7101,eo7101⟩:=Kd.R_slice HO7100.out
       (first|subst eo7101|(injection eo7101 with f1_ f2_ f3_;have f7100_:=f1_.symm;have f7101_:=f3_.symm;clear f1_ f2_ f3_;subst f7100_;subst f7101_))
       refine hK.out _ _ ⟨(blk_cell BK845.out 0).trans rfl,(blk_cell BK845.out 1).trans rfl⟩ (fun hHeld=>?_)
       clear hK K
       refine norm_ (a':=?_) ?_ ?_
       rotate_left
       ·show Act.put _ (some 121) _=_
        simp only [ap_,sb_,s0_,s1_,i64_w,i32_w]
        rfl
       refine one_ (i:=4) (N:=some 124) #[true,true,true,true,true,false] rfl rfl (by kernel_rfl) (by decide) (fun K hK=>?_)
       refine goes_ Try.func79 (by kernel_rfl) rfl #[.slice Ao7101 t865.length co7101,.slice A0_0 l0_0.length c0_0] (by rfl) rfl rfl (by(try simp only [List.map_toArray,List.map_cons,List.map_nil]);first|done|rfl|(simp only [List.length_drop,List.length_take];rfl)) ?_
       first
        |with_reducible refine(windroseref02_Ints.calls k2 _ _ t865 _ _ l0_0 true _ ?side1 ?side2 ?side3 ?side4 A56.out).mono ?_
         (case side1=>exact cr_ HO7100)
         (case side2=>exact(Kd.R_reads' HO7100.out).2.1)
         (case side3=>exact cb_ HR0_0)
         (case side4=>exact HC0_0.out)
         rintro e w' ⟨rfl,⟨nd,rfl⟩⟩
         refine⟨_,rfl,?_⟩
         refine hK.out _ _ ⟨(blk_cell BK845.out 0).trans rfl,(blk_cell BK845.out 1).trans rfl⟩ (fun hHeld=>?_)
         clear hK K
         refine norm_ (a':=?_) ?_ ?_
         rotate_left
         ·show Act.put _ (some 124) _=_
          simp only [ap_,sb_,s0_,s1_,i64_w,i32_w]
          rfl
         refine pure_ (i:=5) (N:=some 125) (v:=?_) (a':=?_) #[true,true,true,true,true,true] rfl rfl (by kernel_rfl) (fun _ _ _ h=>h) (Or.inl ⟨by rfl,?_⟩) ?_ ?_
         rotate_left
         ·intro w'
          go_simp
          with_reducible rfl
         rotate_left
         ·simp only [ap_,sb_,s0_,s1_,i64_w,i32_w]
          rfl
         refine done_ (by kernel_rfl) ?_
         try go_wp2
         go_ret2
         exact⟨_,rf_,(ro_ HO_4),bl_⟩
        |with_reducible refine(windroseref02_Ints.calls k2 _ _ t865 _ _ l0_0 false _ ?side1 ?side2 ?side3 ?side4 A56.out).mono ?_
         (case side1=>exact cr_ HO7100)
         (case side2=>exact(Kd.R_reads' HO7100.out).2.1)
         (case side3=>exact cb_ HR0_0)
         (case side4=>exact HC0_0.out)
         rintro e w' ⟨rfl,⟨nd,rfl⟩⟩
         refine⟨_,rfl,?_⟩
         refine hK.out _ _ ⟨(blk_cell BK845.out 0).trans rfl,(blk_cell BK845.out 1).trans rfl⟩ (fun hHeld=>?_)
         clear hK K
         refine norm_ (a':=?_) ?_ ?_
         rotate_left
         ·show Act.put _ (some 124) _=_
          simp only [ap_,sb_,s0_,s1_,i64_w,i32_w]
          rfl
         refine pure_ (i:=5) (N:=some 125) (v:=?_) (a':=?_) #[true,true,true,true,true,true] rfl rfl (by kernel_rfl) (fun _ _ _ h=>h) (Or.inl ⟨by rfl,?_⟩) ?_ ?_
         rotate_left
         ·intro w'
          go_simp
          with_reducible rfl
         rotate_left
         ·simp only [ap_,sb_,s0_,s1_,i64_w,i32_w]
          rfl
         refine done_ (by kernel_rfl) ?_
         try go_wp2
         go_ret2
         exact⟨_,rf_,nl_,bl_⟩
   simp only [Option.some.injEq,Prod.mk.injEq] at H
   obtain⟨rfl,rfl⟩:=H
   go_wp2
   go_ret2
   exact⟨_,rf_,nl_,bl_⟩
end Go.Proofs.Ytmddmbagehjdeaa.G
end
section
namespace Go.Proofs.Ytmddmbagehjdeaa.G
open Go.RowKit Go.Proofs.YtmddmbagehjdeaaX Go.Proofs.YtmddmbagehjdeaaW.PrintWords Go.Proofs.YtmddmbagehjdeaaW.PrintLast Go.Proofs.YtmddmbagehjdeaaW.PrintMore
attribute [local go_sem] max2_int min2_int max_two min_two max_three min_three max_four min_four
mutual
def windroseref18_Samples.j0:Nat→Bool→Int→Int→Int→List Int→Int→Option ((List (S67))×Bool)
 |0,_,_,_,_,_,_=>none
 |k+1,x28,x870000,x870001,x870002,x870003,x870004=>if x28=true then(some (([]:List (S67)),false))else((windroseref17_List.f k x870003 x870004).bind fun t871=>(windroseref18_Samples.l0 k t871 (([x870000]:List Int)) 0 x870000 x870001 x870002 x870003 x870004))
def windroseref18_Samples.l0:Nat→List Bool→List Int→Int→Int→Int→Int→List Int→Int→Option ((List (S67))×Bool)
 |0,_,_,_,_,_,_,_,_=>none
 |k+1,x4,x5,x6,x870000,x870001,x870002,x870003,x870004=>if(x5.length:Int)<(wrap64 (1+(wrap64 (2*x870000))))then(if 0≤x6 then(if x6≤(x4.length:Int)then((windroseref17_Number.f k (x4.drop (x6:Int).toNat)).bind fun bt881=>(if 0≤(wrap64 (x6+bt881.2))then(if(wrap64 (x6+bt881.2))≤(x4.length:Int)then((windroseref17_Number.f k (x4.drop ((wrap64 (x6+bt881.2)):Int).toNat)).bind fun bt887=>(if bt881.2=0 then(windroseref18_Samples.j2 k x4 x5 (wrap64 ((wrap64 (x6+bt881.2))+bt887.2)) bt881.1 bt887.1 true x870000 x870001 x870002 x870003 x870004)else(windroseref18_Samples.j2 k x4 x5 (wrap64 ((wrap64 (x6+bt881.2))+bt887.2)) bt881.1 bt887.1 (bt887.2 == 0) x870000 x870001 x870002 x870003 x870004)))else(none))else(none)))else(none))else(none))else((windroseref11_Unpack.f k x5 ([]:List ByteArray)).bind fun bt906=>(if bt906.2=true then(if(bt906.1.length:Int)=0 then(some (([]:List (S67)),false))else((windroseref18_Build.f k bt906.1).bind fun bt910=>((windroseref18_Same.f bt910.1 bt910.2.1 bt910.2.2.1 bt910.2.2.2.1 bt910.2.2.2.2 x870000 x870001 x870002 x870003 x870004).bind fun t917=>(if t917=true then(some (bt906.1,true))else(some (([]:List (S67)),false))))))else(some (([]:List (S67)),false))))
def windroseref18_Samples.j2:Nat→List Bool→List Int→Int→Int→Int→Bool→Int→Int→Int→List Int→Int→Option ((List (S67))×Bool)
 |0,_,_,_,_,_,_,_,_,_,_,_=>none
 |k+1,x4,x5,x6,x7,x9,x67,x870000,x870001,x870002,x870003,x870004=>if x67=true then(some (([]:List (S67)),false))else((some (([x7,x9]:List Int):List Int)).bind fun y889=>(if x5.length+y889.length<17592186044416 then((some (x5++y889:List Int)).bind fun y892=>(if(y892.length:Int)>5 then(if x7=0 then(windroseref18_Samples.j3 k x4 y892 x6 (x9 == 0) x870000 x870001 x870002 x870003 x870004)else(windroseref18_Samples.j3 k x4 y892 x6 false x870000 x870001 x870002 x870003 x870004))else(windroseref18_Samples.j3 k x4 y892 x6 false x870000 x870001 x870002 x870003 x870004)))else(none)))
def windroseref18_Samples.j3:Nat→List Bool→List Int→Int→Bool→Int→Int→Int→List Int→Int→Option ((List (S67))×Bool)
 |0,_,_,_,_,_,_,_,_,_=>none
 |k+1,x4,x5,x6,x83,x870000,x870001,x870002,x870003,x870004=>if x83=true then(if(wrap64 (x6+4))>(x4.length:Int)then(some (([]:List (S67)),false))else(if 0≤x6 then(if x6≤(wrap64 (x6+4))then(if(wrap64 (x6+4))≤(x4.length:Int)then((windroseref17_Value.f k ((x4.take ((wrap64 (x6+4)):Int).toNat).drop (x6:Int).toNat)).bind fun t899=>(windroseref18_Samples.l1 k x4 x5 (wrap64 (x6+4)) (wrap64 (t899)) 0 x870000 x870001 x870002 x870003 x870004))else(none))else(none))else(none)))else(windroseref18_Samples.l0 k x4 x5 x6 x870000 x870001 x870002 x870003 x870004)
def windroseref18_Samples.l1:Nat→List Bool→List Int→Int→Int→Int→Int→Int→Int→List Int→Int→Option ((List (S67))×Bool)
 |0,_,_,_,_,_,_,_,_,_,_=>none
 |k+1,x4,x5,x6,x11,x12,x870000,x870001,x870002,x870003,x870004=>if x12<x11 then((some (([0,0]:List Int):List Int)).bind fun y900=>(if x5.length+y900.length<17592186044416 then(windroseref18_Samples.l1 k x4 (x5++y900) x6 x11 (wrap64 (x12+1)) x870000 x870001 x870002 x870003 x870004)else(none)))else(windroseref18_Samples.l0 k x4 x5 x6 x870000 x870001 x870002 x870003 x870004)
end
def windroseref18_Samples.f (k:Nat) (a0_0:Int) (a0_1:Int) (a0_2:Int) (l0_3:List Int) (a0_4:Int):Option ((List (S67))×Bool):=if a0_0<1 then(windroseref18_Samples.j0 k true a0_0 a0_1 a0_2 l0_3 a0_4)else(if a0_0>64 then(windroseref18_Samples.j0 k true a0_0 a0_1 a0_2 l0_3 a0_4)else((windroseref17_May.f l0_3 a0_4).bind fun t870=>(windroseref18_Samples.j0 k (!t870) a0_0 a0_1 a0_2 l0_3 a0_4)))
def windroseref18_Samples.T24:Bool×List (List Nat×List Nat):=(true,[([],[]),([0],[0]),([1],[1]),([2],[2]),([3,2],[2,3]),([4,2],[2,4]),([2,5],[2,5]),([6,2],[6]),([7],[7]),([8,7,7],[7,8]),([7],[7]),([9,10,9,7],[7,9,10]),([11,7],[7,11]),([7,12],[7,12])])
def windroseref18_Samples.B24:List Nat:=[0,1,3,7,15,31,63,127,255,511,255,2047,4095,8191]
theorem windroseref18_Samples.tab24:rtab .any (opsOf Try.f48 24)=windroseref18_Samples.T24:=by kernel_rfl
theorem windroseref18_Samples.bits24:waitsOk windroseref18_Samples.T24.2 windroseref18_Samples.B24=true:=by kernel_rfl
end Go.Proofs.Ytmddmbagehjdeaa.G
end
