/- More lines for the row. -/
import Derived.Test.YtmddmbagehjdeaaZGorillaDatas9
set_option linter.unusedVariables false
set_option linter.unusedSimpArgs false
set_option maxRecDepth 100000
set_option maxHeartbeats 8000000
namespace Go.Proofs.Ytmddmbagehjdeaa
abbrev ce4:Array Bool:=#[false,false,false,false,false,false,false,false,false,false,false,false,false]
abbrev cb0:Array Bool:=#[true,false,false,false,false,false,false,false,false,false,false,false,false]
abbrev bz6:Array Bool:=#[true,false,true,false,false,true,false,true,false,false,false,false,false]
abbrev bl0:Array Bool:=#[true,true,true,true,true,true,false,true,true,false,false,true,false]
abbrev br4:Array Bool:=#[true,true,true,true,true,true,true,true,true,false,false,true,false]
abbrev bl3:Array Bool:=#[true,true,true,true,true,true,true,true,true,true,false,true,false]
abbrev bR3:Array Bool:=#[true,false,true,false,false,true,false,false,false,false,false,false,false]
abbrev bl8:Array Bool:=#[true,true,true,true,true,true,true,true,true,true,true,true,false]
abbrev bC1:Array Bool:=#[true,false,true,false,false,true,false,true,true,false,false,false,false]
abbrev bB3:Array Bool:=#[true,true,true,false,false,true,false,true,true,false,false,false,false]
abbrev bt5:Array Bool:=#[true,true,true,true,false,true,false,true,true,false,false,false,false]
abbrev bG6:Array Bool:=#[true,true,true,true,true,true,false,true,true,false,false,false,false]
abbrev bY5:Array Bool:=#[true,false,true,false,false,false,false,false,false,false,false,false,false]
abbrev bk8:Array Bool:=#[true,true,true,true,true,true,true,true,true,true,true,true,true]
abbrev be4:Array Bool:=#[false,false,false,false,false,false,false,false,false,false,false,false,false,false,false,false]
abbrev bh0:Array Bool:=#[true,false,false,false,false,false,false,false,false,false,false,false,false,false,false,false]
abbrev aV2:Array Bool:=#[true,true,true,true,false,false,false,false,false,false,false,false,false,false,false,false]
abbrev aD7:Array Bool:=#[true,true,true,true,true,true,true,true,true,true,true,true,true,true,false,false]
abbrev aK9:Array Bool:=#[true,true,true,true,true,true,false,false,true,true,true,false,false,false,false,false]
abbrev bi2:Array Bool:=#[true,true,false,false,false,false,false,false,false,false,false,false,false,false,false,false]
abbrev ba2:Array Bool:=#[true,true,true,true,true,false,false,false,false,false,false,false,false,false,false,false]
abbrev aR1:Array Bool:=#[true,true,true,true,true,true,false,false,true,false,false,false,false,false,false,false]
abbrev aE9:Array Bool:=#[true,true,true,true,true,true,true,true,true,true,true,true,true,true,true,false]
abbrev aL5:Array Bool:=#[true,true,true,true,true,true,false,false,true,true,true,true,false,false,false,false]
abbrev aW7:Array Bool:=#[true,true,true,true,true,true,false,false,false,false,false,false,false,false,false,false]
abbrev aE1:Array Bool:=#[true,true,true,true,true,true,true,true,true,true,true,true,true,true,true,true]
abbrev be2:Array Bool:=#[true,true,true,false,false,false,false,false,false,false,false,false,false,false,false,false]
abbrev aJ2:Array Bool:=#[true,true,true,true,true,true,false,false,true,true,true,true,true,false,false,false]
abbrev aM1:Array Bool:=#[true,true,true,true,true,true,true,false,true,true,true,true,true,false,false,false]
abbrev aK1:Array Bool:=#[true,true,true,true,true,true,true,true,true,true,true,true,true,false,false,false]
abbrev aR0:Array Bool:=#[true,true,true,true,true,true,false,false,true,true,false,false,false,false,false,false]
abbrev cc8:Array Bool:=#[false,false,false,false,false,false,false,false,false,false,false,false,false,false,false,false,false,false]
abbrev cc5:Array Bool:=#[true,false,false,false,false,false,false,false,false,false,false,false,false,false,false,false,false,false]
abbrev bc3:Array Bool:=#[true,true,true,true,true,false,true,true,true,true,true,true,false,true,false,false,false,false]
abbrev bc1:Array Bool:=#[true,true,true,true,true,true,true,true,true,true,true,true,false,true,false,false,false,false]
abbrev aW5:Array Bool:=#[true,true,true,true,true,true,true,true,true,true,true,true,true,true,true,true,true,false]
abbrev bO8:Array Bool:=#[true,true,true,true,false,false,false,false,false,false,false,false,false,false,false,false,false,false]
abbrev bd7:Array Bool:=#[true,true,true,true,true,true,true,true,true,true,true,true,true,true,false,false,false,false]
abbrev bs0:Array Bool:=#[true,true,true,true,true,false,true,true,true,true,true,false,false,false,false,false,false,false]
abbrev bD1:Array Bool:=#[true,true,true,true,true,false,true,true,false,false,false,false,false,false,false,false,false,false]
abbrev aY6:Array Bool:=#[true,true,true,true,true,true,true,true,true,true,true,true,true,true,true,true,true,true]
abbrev ca8:Array Bool:=#[true,true,false,false,false,false,false,false,false,false,false,false,false,false,false,false,false,false]
abbrev bR8:Array Bool:=#[true,true,true,true,true,false,false,false,false,false,false,false,false,false,false,false,false,false]
abbrev bd8:Array Bool:=#[true,true,true,true,true,true,true,true,true,true,true,true,true,true,true,false,false,false]
abbrev br3:Array Bool:=#[true,true,true,true,true,false,true,true,true,true,true,true,false,false,false,false,false,false]
abbrev bw2:Array Bool:=#[true,true,true,true,true,false,true,true,true,false,false,false,false,false,false,false,false,false]
abbrev bc6:Array Bool:=#[true,true,true,true,true,true,true,true,true,true,true,true,true,true,true,true,false,false]
abbrev cb2:Array Bool:=#[true,true,true,false,false,false,false,false,false,false,false,false,false,false,false,false,false,false]
abbrev bP0:Array Bool:=#[true,true,true,true,true,false,true,false,false,false,false,false,false,false,false,false,false,false]
abbrev bF9:Array Bool:=#[true,true,true,true,true,false,true,true,true,true,false,false,false,false,false,false,false,false]
end Go.Proofs.Ytmddmbagehjdeaa
section
namespace Go.Proofs.Ytmddmbagehjdeaa.G
open Go.RowKit Go.Proofs.YtmddmbagehjdeaaX Go.Proofs.YtmddmbagehjdeaaW.PrintWords Go.Proofs.YtmddmbagehjdeaaW.PrintLast Go.Proofs.YtmddmbagehjdeaaW.PrintMore
attribute [local go_sem] S3 R3 R4 S4 P3 N3 D4 Y3
theorem q17.calls (k:Nat) (a0:Int) (r:List Bool) (w:World) (h:q17.f k a0=some r) :
  Calls Try.prog 32 #[.int .i64 a0] w fun e w'=>∃ v0_:Value,e=.returned (v0_)∧Kd.R Kd.bool 4 w' w.heap.size (fun _=>True) v0_ r∧Below w.heap.size w w':=by
 have HB:=q5.mk (Below.refl w.heap.size w)
 have H:((q46.f a0).bind fun ag1=>(q17.l0 k a0 (([0,7,12,20,64]:List Int)) ag1 (([]:List Bool)) 0))=some r:=h
 clear h
 obtain⟨aF4,bu1⟩:∃ y_:List Int,y_=(([0,7,12,20,64]:List Int)):=⟨_,rfl⟩
 replace H:((q46.f a0).bind fun ag1=>(q17.l0 k a0 aF4 ag1 (([]:List Bool)) 0))=some r:=by first|(rw [bu1];with_reducible exact H)|(have H2_:=(Option.bind_some _ _).symm.trans H;rw [bu1];with_reducible exact H2_)|(have H2_:=(Option.bind_some _ _).symm.trans H;with_reducible exact H2_)|with_reducible exact H|(rw [bu1];exact H)|exact H
 have cE7:=q5.mk bu1
 clear bu1
 replace H:=N2 H
 obtain⟨ag1,A2,H⟩:=H
 try dsimp only at H
 obtain⟨cT6,bA7⟩:∃ y_:List Bool,y_=(([]:List Bool)):=⟨_,rfl⟩
 replace H:(q17.l0 k a0 aF4 ag1 cT6 0)=some r:=by first|(rw [bA7];with_reducible exact H)|(have H2_:=(Option.bind_some _ _).symm.trans H;rw [bA7];with_reducible exact H2_)|(have H2_:=(Option.bind_some _ _).symm.trans H;with_reducible exact H2_)|with_reducible exact H|(rw [bA7];exact H)|exact H
 have cB9:=q5.mk bA7
 clear bA7
 have H':=q5.mk H
 clear H
 go_enter Try.func32,Try.ntmps32
 go_wp2_with (first|((with_reducible refine X0 (N:=7) rfl ?_);refine Kd.R_lit (Kd.int .i64) _ 3 ?hg (N:=7) ?hd (xs:=([0,7,12,20,64]:List Int)) (inner:=[.int .i64 0,.int .i64 7,.int .i64 12,.int .i64 20,.int .i64 64]) (ok:=fun _=>True) (okp:=fun _=>True) ?hr ?hp (fun _ hk=>hk) trivial (Below.refl _ _) (Nat.le_refl _) (by simp) ?_;(case hd=>rfl);(case hg=>rfl);(case hr=>first|(go_simp;done)|(go_simp;rfl));(case hp=>exact(Reps.one (show Kd.M (Kd.int .i64) _ _ _ 0 [.int .i64 0] from rfl) (Reps.one (show Kd.M (Kd.int .i64) _ _ _ 7 [.int .i64 7] from rfl) (Reps.one (show Kd.M (Kd.int .i64) _ _ _ 12 [.int .i64 12] from rfl) (Reps.one (show Kd.M (Kd.int .i64) _ _ _ 20 [.int .i64 20] from rfl) (Reps.one (show Kd.M (Kd.int .i64) _ _ _ 64 [.int .i64 64] from rfl) (Reps.none _ _)))))));intro dk9 w3 ho4 hb hg_ hnew_;clear hg_ hnew_;(first|rw [←cE7.out] at ho4|(simp only [Int.reduceToNat] at ho4;rw [←cE7.out] at ho4));have n_:=pk2 (Kd.R_lower ho4 (L0 bl_)) (E0 bl_ hb);clear HB;obtain⟨bS9,HB⟩:=n_;clear hb ho4)|((with_reducible refine C1 (f:=34) rfl ?_);refine goL_ (some 9) Try.func34 #[.int .i64 a0] ?_;(with_reducible refine(q46.calls a0 ag1 _ A2.out).mono ?_);rintro e w' ⟨rfl,⟨nd,rfl⟩⟩;refine⟨_,rfl,?_⟩)|((with_reducible refine X0 (N:=10) rfl ?_);refine Kd.R_lit Kd.bool _ 4 ?hg (N:=10) ?hd (xs:=([]:List Bool)) (inner:=[]) (ok:=fun _=>True) (okp:=fun _=>True) ?hr ?hp (fun _ hk=>hk) trivial (Below.refl _ _) (Nat.le_refl _) (by simp) ?_;(case hd=>rfl);(case hg=>rfl);(case hr=>first|(go_simp;done)|(go_simp;rfl));(case hp=>exact(Reps.none _ _));intro dv0 w5 ho6 hb hg_ hnew_;clear hg_ hnew_;(first|rw [←cB9.out] at ho6|(simp only [Int.reduceToNat] at ho6;rw [←cB9.out] at ho6));have n_:=pk3 (Kd.R_below (ro_ bS9) hb) (Kd.R_lower ho6 (L0 bl_)) (E0 bl_ hb);clear bS9 HB;obtain⟨bS9,cY6,HB⟩:=n_;clear hb ho6))
 go_loopg [5,6] k (fun kq v5 v6 w'=>∃ (x5_1:List Bool) (x6_1:Int),v6=.int .i64 x6_1∧q5 (q17.l0 kq a0 aF4 ag1 x5_1 x6_1=some r)∧q5 (kq≤k)∧q5 (Kd.R (Kd.int .i64) 3 w' w.heap.size (fun _=>True) dk9 aF4)∧q5 (Kd.R Kd.bool 4 w' w.heap.size (fun _=>True) v5 x5_1)∧q5 (Below w.heap.size w w'))
 case atStart=>exact⟨(cT6),(0),sm_,H',⟨Nat.le_refl _⟩,⟨(ro_ bS9)⟩,⟨(ro_ cY6)⟩,⟨bl_⟩⟩
 case round =>
  clear H'
  obtain⟨x5_1,x6_1,rfl,HA,HK1,HO_3,HO_5,HB⟩:=hrel
  cases gk with
  |zero=>exact absurd HA.out (by simp [q17.l0])
  |succ k1 =>
   have H:=HA.out
   clear HA
   simp only [q17.l0] at H
   replace H:=dle H
   rcases H with⟨c7b0,H⟩|⟨c7b0,H⟩
   focus
    by_cases c8:x5_1.length<140737488355328
    rotate_left
    ·rw [if_neg c8] at H
     exact absurd H (by simp)
    rw [if_pos c8] at H
    have LMc8:=q5.mk c8
    clear c8
    obtain⟨cZ7,bG8⟩:∃ y_:List Bool,y_=(x5_1++[true]):=⟨_,rfl⟩
    replace H:(q17.l0 k1 a0 aF4 ag1 cZ7 (wrap64 (x6_1+1)))=some r:=by first|(rw [bG8];with_reducible exact H)|(have H2_:=(Option.bind_some _ _).symm.trans H;rw [bG8];with_reducible exact H2_)|(have H2_:=(Option.bind_some _ _).symm.trans H;with_reducible exact H2_)|with_reducible exact H|(rw [bG8];exact H)|exact H
    have cX9:=q5.mk bG8
    clear bG8
    have H':=q5.mk H
    clear H
   rotate_left
   focus
    replace H:=dle H
    rcases H with⟨c10b0,H⟩|⟨c10b0,H⟩
    focus
     by_cases c11:x5_1.length<140737488355328
     rotate_left
     ·rw [if_neg c11] at H
      exact absurd H (by simp)
     rw [if_pos c11] at H
     have LMc11:=q5.mk c11
     clear c11
     obtain⟨by7,bu4⟩:∃ y_:List Bool,y_=(x5_1++[false]):=⟨_,rfl⟩
     replace H:((q51.f a0).bind fun bK5=>(if 0≤ag1 then(if ag1<(aF4.length:Int)then((q14.f k1 bK5 (rd aF4 ag1)).bind fun aX6=>(if by7.length+aX6.length<140737488355328 then(some (by7++aX6))else(none)))else(none))else(none)))=some r:=by first|(rw [bu4];with_reducible exact H)|(have H2_:=(Option.bind_some _ _).symm.trans H;rw [bu4];with_reducible exact H2_)|(have H2_:=(Option.bind_some _ _).symm.trans H;with_reducible exact H2_)|with_reducible exact H|(rw [bu4];exact H)|exact H
     have cX7:=q5.mk bu4
     clear bu4
     replace H:=N2 H
     obtain⟨bK5,A12,H⟩:=H
     try dsimp only at H
     replace H:=dle H
     rcases H with⟨c13b0,H⟩|⟨c13b0,H⟩
     rotate_left
     ·exact absurd H (by simp)
     replace H:=dle H
     rcases H with⟨c14b0,H⟩|⟨c14b0,H⟩
     rotate_left
     ·exact absurd H (by simp)
     replace H:=N2 H
     obtain⟨aX6,A15,H⟩:=H
     try dsimp only at H
     by_cases c16:by7.length+aX6.length<140737488355328
     rotate_left
     ·rw [if_neg c16] at H
      exact absurd H (by simp)
     rw [if_pos c16] at H
     have LMc16:=q5.mk c16
     clear c16
     obtain⟨dn5,bG1⟩:∃ y_:List Bool,y_=(by7++aX6):=⟨_,rfl⟩
     replace H:(some dn5)=some r:=by first|(rw [bG1];with_reducible exact H)|(have H2_:=(Option.bind_some _ _).symm.trans H;rw [bG1];with_reducible exact H2_)|(have H2_:=(Option.bind_some _ _).symm.trans H;with_reducible exact H2_)|with_reducible exact H|(rw [bG1];exact H)|exact H
     have cZ3:=q5.mk bG1
     clear bG1
     obtain rfl:=Option.some.inj H
    rotate_left
    focus
     replace H:=N2 H
     obtain⟨cm7,A23,H⟩:=H
     try dsimp only at H
     replace H:=dle H
     rcases H with⟨c24b0,H⟩|⟨c24b0,H⟩
     rotate_left
     ·exact absurd H (by simp)
     replace H:=dle H
     rcases H with⟨c25b0,H⟩|⟨c25b0,H⟩
     rotate_left
     ·exact absurd H (by simp)
     replace H:=N2 H
     obtain⟨bu5,A26,H⟩:=H
     try dsimp only at H
     by_cases c27:x5_1.length+bu5.length<140737488355328
     rotate_left
     ·rw [if_neg c27] at H
      exact absurd H (by simp)
     rw [if_pos c27] at H
     have LMc27:=q5.mk c27
     clear c27
     obtain⟨do3,bG3⟩:∃ y_:List Bool,y_=(x5_1++bu5):=⟨_,rfl⟩
     replace H:(some do3)=some r:=by first|(rw [bG3];with_reducible exact H)|(have H2_:=(Option.bind_some _ _).symm.trans H;rw [bG3];with_reducible exact H2_)|(have H2_:=(Option.bind_some _ _).symm.trans H;with_reducible exact H2_)|with_reducible exact H|(rw [bG3];exact H)|exact H
     have cY0:=q5.mk bG3
     clear bG3
     obtain rfl:=Option.some.inj H
   all_goals
    first
     |go_wp2_with (first|((with_reducible refine G1 (b:=.append) (xs:=#[.tmp 16,.tmp 17]) rfl ?_);at_builtin;refine Kd.R_append Kd.bool (w0:=w) w.heap.size rfl (.tmp 16) (.tmp 17) 39 4 (.bool false) 1 rfl Try.underlying39 D6 rfl (by decide) (by omega) u5 x5_1 true [.bool true] (fun _=>True) (fun _=>False) rfl rfl ?aP (fun _ hk=>hk.elim) ?aF ?aO ?aB ?aS ?aL ?_;(case aP=>exact rfl);(case aB=>exact bl_);(case aF=>exact(fun _ _=>trivial));(case aO=>exact(ro_ HO_5));(case aS=>exact(L0 bl_));(case aL=>have:=LMc8.out;omega);intro M4 U1 ho hb hg hat;rw [←cX9.out] at ho;have n_:=pk3 (Kd.R_over' (ro_ HO_3) (Kd.R_typed (ro_ HO_5)) (by decide) hg) (hb) (ho);clear HO_3 HB HO_5;obtain⟨HO_3,HB,C0⟩:=n_;clear ho hb hg hat))
      go_roundg k1
      case measure=>have:=HK1.out;omega
      case rel=>exact⟨(cZ7),(wrap64 (x6_1+1)),sm_,H',⟨by have:=HK1.out;omega⟩,⟨(ro_ HO_3)⟩,⟨(ro_ C0)⟩,⟨bl_⟩⟩
     |try go_wp2_with (first|((with_reducible refine G1 (b:=.append) (xs:=#[.tmp 21,.tmp 22]) rfl ?_);at_builtin;refine Kd.R_append Kd.bool (w0:=w) w.heap.size rfl (.tmp 21) (.tmp 22) 39 4 (.bool false) 1 rfl Try.underlying39 D6 rfl (by decide) (by omega) u5 x5_1 false [.bool false] (fun _=>True) (fun _=>False) rfl rfl ?aP (fun _ hk=>hk.elim) ?aF ?aO ?aB ?aS ?aL ?_;(case aP=>exact rfl);(case aB=>exact bl_);(case aF=>exact(fun _ _=>trivial));(case aO=>exact(ro_ HO_5));(case aS=>exact(L0 bl_));(case aL=>have:=LMc11.out;omega);intro M4 U1 ho hb hg hat;rw [←cX7.out] at ho;have n_:=pk3 (Kd.R_over' (ro_ HO_3) (Kd.R_typed (ro_ HO_5)) (by decide) hg) (hb) (ho);clear HO_3 HB HO_5;obtain⟨HO_3,HB,C0⟩:=n_;clear ho hb hg hat))
      first
       |have n_:=pk3 (Kd.R_drew HO_3.out) (Kd.R_drew C0.out) (N1 HB.out)
        clear HO_3 C0 HB
        obtain⟨HO_3,C0,HB⟩:=n_
        obtain⟨T0,R0,S1⟩:=Kd.R_slice HO_3.out
        (first|subst S1|(injection S1 with f1_ f2_ f3_;have f7000_:=f1_.symm;have f7001_:=f3_.symm;clear f1_ f2_ f3_;subst f7000_;subst f7001_))
        have F3:0≤(ag1:Int):=dc_
        have I3:ag1<(aF4.length:Int):=dc_
        obtain⟨J1,E6,Z0⟩:=Kd.at_int (Kd.R_reads' HO_3.out).2.2 ag1 F3 I3
        cases E6
        replace F3:=eq_true F3
        replace I3:=eq_true I3
        refine b9 (n:=10) (S:=fun w'=>w'.cell? (J1.add (ag1).toNat)=some (.int .i64 (rd aF4 ag1))) (ds:=[8]) #[false,false,false,false,false,false,false,false,false,false] (by kernel_rfl) rfl rfl (Z0) (fun hHeld=>?_);refine b6 q17.tab10 q17.bits10 (fun HT_ HW_=>?_)
        generalize U1.drew=Z1 at HO_3 C0 HB Z0 hHeld ⊢
        refine z1 (i:=0) (N:=some 24) (v:=?_) (a':=?_) #[true,false,false,false,false,false,false,false,false,false] rfl rfl (V0 HT_.out (by kernel_rfl)) (fun _ _ _ h=>h) (Or.inl ⟨by rfl,?_⟩) ?_ ?_
        rotate_left
        ·intro w'
         go_simp
         with_reducible rfl
        rotate_left
        ·simp only [ap_,sb_,s0_,s1_,N0,P0]
         rfl
        refine z1 (i:=1) (N:=some 25) (v:=?_) (a':=?_) #[true,true,false,false,false,false,false,false,false,false] rfl rfl (V0 HT_.out (by kernel_rfl)) (fun _ _ _ h=>h) (Or.inl ⟨by rfl,?_⟩) ?_ ?_
        rotate_left
        ·intro w'
         go_simp
         with_reducible rfl
        rotate_left
        ·simp only [ap_,sb_,s0_,s1_,N0,P0]
         rfl
        refine z1 (i:=3) (N:=some 27) (v:=?_) (a':=?_) #[true,true,false,true,false,false,false,false,false,false] rfl rfl (V0 HT_.out (by kernel_rfl)) (fun _ _ _ h=>h) (Or.inl ⟨by rfl,?_⟩) ?_ ?_
        rotate_left
        ·intro w'
         go_simp
         with_reducible rfl
        rotate_left
        ·simp only [ap_,sb_,s0_,s1_,N0,P0]
         rfl
        refine z1 (i:=4) (N:=some 28) (v:=?_) (a':=?_) #[true,true,false,true,true,false,false,false,false,false] rfl rfl (V0 HT_.out (by kernel_rfl)) (fun _ _ _ h=>h) (Or.inl ⟨by rfl,?_⟩) ?_ ?_
        rotate_left
        ·intro w'
         go_simp
         with_reducible rfl
        rotate_left
        ·simp only [ap_,sb_,s0_,s1_,N0,P0]
         rfl
        refine z1 (i:=5) (N:=some 29) (v:=?_) (a':=?_) #[true,true,false,true,true,true,false,false,false,false] rfl rfl (V0 HT_.out (by kernel_rfl)) (fun _ _ _ h=>h) (Or.inl ⟨by rfl,?_⟩) ?_ ?_
        rotate_left
        ·intro w'
         go_simp
         with_reducible rfl
        rotate_left
        ·simp only [ap_,sb_,s0_,s1_,N0,P0]
         rfl
        refine take_ (i:=6) (N:=some 30) (v:=?_) (a':=?_) #[true,true,false,true,true,true,true,false,false,false] rfl rfl (M2 HT_.out HW_.out (by kernel_rfl)) (fun _ _ _ h=>h) (Or.inl ⟨by rfl,?_⟩) hHeld ?_ ?_
        rotate_left
        ·intro w' G6
         go_simp
         with_reducible rfl
        rotate_left
        ·simp only [ap_,sb_,s0_,s1_,N0,P0]
         rfl
        refine one_ (i:=2) (N:=some 26) #[true,true,true,true,true,true,true,false,false,false] rfl rfl (M6 HT_.out (by kernel_rfl)) (by decide) (fun K hK=>?_)
        refine ae6 Try.func68 (by kernel_rfl) rfl #[.int .i64 a0] (by rfl) rfl rfl (by(try simp only [List.map_toArray,List.map_cons,List.map_nil]);first|done|rfl|(simp only [List.length_drop,List.length_take];rfl)) ?_
        with_reducible refine(q51.calls a0 bK5 _ A12.out).mono ?_
        rintro e w' ⟨rfl,⟨nd,rfl⟩⟩
        refine⟨_,rfl,?_⟩
        refine hK.out _ _ (hHeld) (fun hHeld=>?_)
        clear hK K
        refine o7 (a':=?_) ?_ ?_
        rotate_left
        ·show Act.put _ (some 26) _=_
         simp only [ap_,sb_,s0_,s1_,N0,P0]
         rfl
        refine one_ (i:=7) (N:=some 31) #[true,true,true,true,true,true,true,true,false,false] rfl rfl (M6 HT_.out (by kernel_rfl)) (by decide) (fun K hK=>?_)
        refine ae6 Try.func35 (by kernel_rfl) rfl #[.int .u64 bK5,.int .i64 (rd aF4 ag1)] (by rfl) rfl rfl (by(try simp only [List.map_toArray,List.map_cons,List.map_nil]);first|done|rfl|(simp only [List.length_drop,List.length_take];rfl)) ?_
        with_reducible refine(q14.calls k1 bK5 (rd aF4 ag1) aX6 _ A15.out).mono ?_
        rintro e F2 ⟨z5,rfl,M0,hb⟩
        have HS7000_:=(hb.cell (World.block_lt_of_cell? _ _ (hHeld))).trans (hHeld)
        refine⟨_,rfl,?_⟩
        have n_:=pk4 (Kd.R_below (ro_ HO_3) hb) (Kd.R_elder' (ro_ C0) (Kd.R_base M0) hb) (Kd.R_lower (Kd.R_new' M0 (Kd.R_lt (ro_ C0))) (L0 bl_)) (E0 bl_ hb)
        clear HO_3 C0 HB
        obtain⟨HO_3,C0,Q0,HB⟩:=n_
        (try clear hb)
        (try clear hb2)
        (try clear hk)
        (try clear hi)
        (try clear M0)
        obtain⟨X1,V1,U2⟩:=Kd.R_slice Q0.out
        (first|subst U2|(injection U2 with f1_ f2_ f3_;have f7000_:=f1_.symm;have f7001_:=f3_.symm;clear f1_ f2_ f3_;subst f7000_;subst f7001_))
        refine hK.out _ _ (HS7000_) (fun hHeld=>?_)
        clear hK K
        refine o7 (a':=?_) ?_ ?_
        rotate_left
        ·show Act.put _ (some 31) _=_
         simp only [ap_,sb_,s0_,s1_,N0,P0]
         rfl
        refine bj0 (i:=8) (N:=some 32) #[true,true,true,true,true,true,true,true,true,false] rfl rfl (M6 HT_.out (by kernel_rfl)) (by decide) (fun K hK=>?_)
        refine Kd.R_append_rows_step Kd.bool (w0:=w) w.heap.size (by rfl) (.tmp 24) (.tmp 31) 39 4 (.bool false) 1 rfl Try.underlying39 D6 rfl (by decide) (by omega) M4 by7 aX6 _ _ _ (fun k_=>some k_≠(.slice X1 aX6.length V1:Value).ownBlock) (fun _=>False) rfl rfl ?aO ?aR (fun _ _ h=>h) (fun _ h=>h.elim) ?aF ?aB ?aS ?aL ?_
        (case aR=>exact cr_ Q0)
        (case aB=>exact bl_)
        (case aF=>exact(fun k_ hk=>Kd.fresh' (Kd.R_lt (ro_ Q0)) k_ hk))
        (case aO=>exact(rt_ (Kd.R_mono C0.out (fun _ hk=>hk.2))))
        (case aS=>exact(L0 bl_))
        (case aL=>have:=LMc16.out;omega)
        intro ae1 X2 ho hb hg hat
        rw [←cZ3.out] at ho
        have n_:=pk4 (Kd.R_over' (ro_ HO_3) (Kd.R_typed (ro_ C0)) (by decide) hg) (Kd.R_after (ok:=(fun _=>True)) (ro_ Q0) hg hat) (hb) (ho)
        clear HO_3 Q0 HB C0
        obtain⟨HO_3,Q0,HB,E1⟩:=n_
        clear ho hb hg hat
        refine hK.out _ _ ?_
        clear hK K
        refine o7 (a':=?_) ?_ ?_
        rotate_left
        ·show Act.put _ (some 32) _=_
         simp only [ap_,sb_,s0_,s1_,N0,P0]
         rfl
        refine z1 (i:=9) (N:=some 2) (v:=?_) (a':=?_) #[true,true,true,true,true,true,true,true,true,true] rfl rfl (V0 HT_.out (by kernel_rfl)) (fun _ _ _ h=>h) (Or.inl ⟨by rfl,?_⟩) ?_ ?_
        rotate_left
        ·intro w'
         go_simp
         with_reducible rfl
        rotate_left
        ·simp only [ap_,sb_,s0_,s1_,N0,P0]
         rfl
        refine ab2 (K7 HT_.out (by kernel_rfl)) ?_
        try go_wp2
        go_ret
        exact⟨_,rf_,(rt_ (Kd.R_mono E1.out (fun _ hk=>trivial))),bl_⟩
       |have n_:=pk3 (Kd.R_drew HO_3.out) (Kd.R_drew HO_5.out) (N1 HB.out)
        clear HO_3 HO_5 HB
        obtain⟨HO_3,HO_5,HB⟩:=n_
        obtain⟨T0,R0,S1⟩:=Kd.R_slice HO_3.out
        (first|subst S1|(injection S1 with f1_ f2_ f3_;have f7000_:=f1_.symm;have f7001_:=f3_.symm;clear f1_ f2_ f3_;subst f7000_;subst f7001_))
        have F3:0≤(ag1:Int):=dc_
        have I3:ag1<(aF4.length:Int):=dc_
        obtain⟨J1,E6,Z0⟩:=Kd.at_int (Kd.R_reads' HO_3.out).2.2 ag1 F3 I3
        cases E6
        replace F3:=eq_true F3
        replace I3:=eq_true I3
        refine b9 (n:=10) (S:=fun w'=>w'.cell? (J1.add (ag1).toNat)=some (.int .i64 (rd aF4 ag1))) (ds:=[8]) #[false,false,false,false,false,false,false,false,false,false] (by kernel_rfl) rfl rfl (Z0) (fun hHeld=>?_);refine b6 q17.tab10 q17.bits10 (fun HT_ HW_=>?_)
        generalize wr.drew=U1 at HO_3 HO_5 HB Z0 hHeld ⊢
        refine z1 (i:=0) (N:=some 24) (v:=?_) (a':=?_) #[true,false,false,false,false,false,false,false,false,false] rfl rfl (V0 HT_.out (by kernel_rfl)) (fun _ _ _ h=>h) (Or.inl ⟨by rfl,?_⟩) ?_ ?_
        rotate_left
        ·intro w'
         go_simp
         with_reducible rfl
        rotate_left
        ·simp only [ap_,sb_,s0_,s1_,N0,P0]
         rfl
        refine z1 (i:=1) (N:=some 25) (v:=?_) (a':=?_) #[true,true,false,false,false,false,false,false,false,false] rfl rfl (V0 HT_.out (by kernel_rfl)) (fun _ _ _ h=>h) (Or.inl ⟨by rfl,?_⟩) ?_ ?_
        rotate_left
        ·intro w'
         go_simp
         with_reducible rfl
        rotate_left
        ·simp only [ap_,sb_,s0_,s1_,N0,P0]
         rfl
        refine z1 (i:=3) (N:=some 27) (v:=?_) (a':=?_) #[true,true,false,true,false,false,false,false,false,false] rfl rfl (V0 HT_.out (by kernel_rfl)) (fun _ _ _ h=>h) (Or.inl ⟨by rfl,?_⟩) ?_ ?_
        rotate_left
        ·intro w'
         go_simp
         with_reducible rfl
        rotate_left
        ·simp only [ap_,sb_,s0_,s1_,N0,P0]
         rfl
        refine z1 (i:=4) (N:=some 28) (v:=?_) (a':=?_) #[true,true,false,true,true,false,false,false,false,false] rfl rfl (V0 HT_.out (by kernel_rfl)) (fun _ _ _ h=>h) (Or.inl ⟨by rfl,?_⟩) ?_ ?_
        rotate_left
        ·intro w'
         go_simp
         with_reducible rfl
        rotate_left
        ·simp only [ap_,sb_,s0_,s1_,N0,P0]
         rfl
        refine z1 (i:=5) (N:=some 29) (v:=?_) (a':=?_) #[true,true,false,true,true,true,false,false,false,false] rfl rfl (V0 HT_.out (by kernel_rfl)) (fun _ _ _ h=>h) (Or.inl ⟨by rfl,?_⟩) ?_ ?_
        rotate_left
        ·intro w'
         go_simp
         with_reducible rfl
        rotate_left
        ·simp only [ap_,sb_,s0_,s1_,N0,P0]
         rfl
        refine take_ (i:=6) (N:=some 30) (v:=?_) (a':=?_) #[true,true,false,true,true,true,true,false,false,false] rfl rfl (M2 HT_.out HW_.out (by kernel_rfl)) (fun _ _ _ h=>h) (Or.inl ⟨by rfl,?_⟩) hHeld ?_ ?_
        rotate_left
        ·intro w' G6
         go_simp
         with_reducible rfl
        rotate_left
        ·simp only [ap_,sb_,s0_,s1_,N0,P0]
         rfl
        refine one_ (i:=2) (N:=some 26) #[true,true,true,true,true,true,true,false,false,false] rfl rfl (M6 HT_.out (by kernel_rfl)) (by decide) (fun K hK=>?_)
        refine ae6 Try.func68 (by kernel_rfl) rfl #[.int .i64 a0] (by rfl) rfl rfl (by(try simp only [List.map_toArray,List.map_cons,List.map_nil]);first|done|rfl|(simp only [List.length_drop,List.length_take];rfl)) ?_
        with_reducible refine(q51.calls a0 cm7 _ A23.out).mono ?_
        rintro e w' ⟨rfl,⟨nd,rfl⟩⟩
        refine⟨_,rfl,?_⟩
        refine hK.out _ _ (hHeld) (fun hHeld=>?_)
        clear hK K
        refine o7 (a':=?_) ?_ ?_
        rotate_left
        ·show Act.put _ (some 26) _=_
         simp only [ap_,sb_,s0_,s1_,N0,P0]
         rfl
        refine one_ (i:=7) (N:=some 31) #[true,true,true,true,true,true,true,true,false,false] rfl rfl (M6 HT_.out (by kernel_rfl)) (by decide) (fun K hK=>?_)
        refine ae6 Try.func35 (by kernel_rfl) rfl #[.int .u64 cm7,.int .i64 (rd aF4 ag1)] (by rfl) rfl rfl (by(try simp only [List.map_toArray,List.map_cons,List.map_nil]);first|done|rfl|(simp only [List.length_drop,List.length_take];rfl)) ?_
        with_reducible refine(q14.calls k1 cm7 (rd aF4 ag1) bu5 _ A26.out).mono ?_
        rintro e Z1 ⟨M4,rfl,M0,hb⟩
        have HS7000_:=(hb.cell (World.block_lt_of_cell? _ _ (hHeld))).trans (hHeld)
        refine⟨_,rfl,?_⟩
        have n_:=pk4 (Kd.R_below (ro_ HO_3) hb) (Kd.R_elder' (ro_ HO_5) (Kd.R_base M0) hb) (Kd.R_lower (Kd.R_new' M0 (Kd.R_lt (ro_ HO_5))) (L0 bl_)) (E0 bl_ hb)
        clear HO_3 HO_5 HB
        obtain⟨HO_3,HO_5,C0,HB⟩:=n_
        (try clear hb)
        (try clear hb2)
        (try clear hk)
        (try clear hi)
        (try clear M0)
        obtain⟨X1,V1,U2⟩:=Kd.R_slice C0.out
        (first|subst U2|(injection U2 with f1_ f2_ f3_;have f7000_:=f1_.symm;have f7001_:=f3_.symm;clear f1_ f2_ f3_;subst f7000_;subst f7001_))
        refine hK.out _ _ (HS7000_) (fun hHeld=>?_)
        clear hK K
        refine o7 (a':=?_) ?_ ?_
        rotate_left
        ·show Act.put _ (some 31) _=_
         simp only [ap_,sb_,s0_,s1_,N0,P0]
         rfl
        refine bj0 (i:=8) (N:=some 32) #[true,true,true,true,true,true,true,true,true,false] rfl rfl (M6 HT_.out (by kernel_rfl)) (by decide) (fun K hK=>?_)
        refine Kd.R_append_rows_step Kd.bool (w0:=w) w.heap.size (by rfl) (.tmp 24) (.tmp 31) 39 4 (.bool false) 1 rfl Try.underlying39 D6 rfl (by decide) (by omega) u5 x5_1 bu5 _ _ _ (fun k_=>some k_≠(.slice X1 bu5.length V1:Value).ownBlock) (fun _=>False) rfl rfl ?aO ?aR (fun _ _ h=>h) (fun _ h=>h.elim) ?aF ?aB ?aS ?aL ?_
        (case aR=>exact cr_ C0)
        (case aB=>exact bl_)
        (case aF=>exact(fun k_ hk=>Kd.fresh' (Kd.R_lt (ro_ C0)) k_ hk))
        (case aO=>exact(rt_ (Kd.R_mono HO_5.out (fun _ hk=>hk.2))))
        (case aS=>exact(L0 bl_))
        (case aL=>have:=LMc27.out;omega)
        intro z5 F2 ho hb hg hat
        rw [←cY0.out] at ho
        have n_:=pk4 (Kd.R_over' (ro_ HO_3) (Kd.R_typed (ro_ HO_5)) (by decide) hg) (Kd.R_after (ok:=(fun _=>True)) (ro_ C0) hg hat) (hb) (ho)
        clear HO_3 C0 HB HO_5
        obtain⟨HO_3,C0,HB,Q0⟩:=n_
        clear ho hb hg hat
        refine hK.out _ _ ?_
        clear hK K
        refine o7 (a':=?_) ?_ ?_
        rotate_left
        ·show Act.put _ (some 32) _=_
         simp only [ap_,sb_,s0_,s1_,N0,P0]
         rfl
        refine z1 (i:=9) (N:=some 2) (v:=?_) (a':=?_) #[true,true,true,true,true,true,true,true,true,true] rfl rfl (V0 HT_.out (by kernel_rfl)) (fun _ _ _ h=>h) (Or.inl ⟨by rfl,?_⟩) ?_ ?_
        rotate_left
        ·intro w'
         go_simp
         with_reducible rfl
        rotate_left
        ·simp only [ap_,sb_,s0_,s1_,N0,P0]
         rfl
        refine ab2 (K7 HT_.out (by kernel_rfl)) ?_
        try go_wp2
        go_ret
        exact⟨_,rf_,(rt_ (Kd.R_mono Q0.out (fun _ hk=>trivial))),bl_⟩
end Go.Proofs.Ytmddmbagehjdeaa.G
end
section
namespace Go.Proofs.Ytmddmbagehjdeaa.G
open Go.RowKit Go.Proofs.YtmddmbagehjdeaaX Go.Proofs.YtmddmbagehjdeaaW.PrintWords Go.Proofs.YtmddmbagehjdeaaW.PrintLast Go.Proofs.YtmddmbagehjdeaaW.PrintMore
attribute [local go_sem] S3 R3 R4 S4 P3 N3 D4 Y3
mutual
def q8.l0:Nat→List (S67)→List Int→List Bool→Int→Int→Option (List Bool)
 |0,_,_,_,_,_=>none
 |k+1,x0,x3,x4,x5,x6=>if x6<(x0.length:Int)then(if 0≤(wrap64 (1+(wrap64 (2*x6))))then(if(wrap64 (1+(wrap64 (2*x6))))<(x3.length:Int)then(if 0≤(wrap64 (2+(wrap64 (2*x6))))then(if(wrap64 (2+(wrap64 (2*x6))))<(x3.length:Int)then(if x6<2 then(q8.j1 k x0 x3 x4 x5 x6 (rd x3 (wrap64 (1+(wrap64 (2*x6))))) (rd x3 (wrap64 (2+(wrap64 (2*x6))))) true)else(if(rd x3 (wrap64 (1+(wrap64 (2*x6)))))=0 then(q8.j1 k x0 x3 x4 x5 x6 (rd x3 (wrap64 (1+(wrap64 (2*x6))))) (rd x3 (wrap64 (2+(wrap64 (2*x6))))) ((rd x3 (wrap64 (2+(wrap64 (2*x6))))) != 0))else(q8.j1 k x0 x3 x4 x5 x6 (rd x3 (wrap64 (1+(wrap64 (2*x6))))) (rd x3 (wrap64 (2+(wrap64 (2*x6))))) true)))else(none))else(none))else(none))else(none))else(some x4)
def q8.j1:Nat→List (S67)→List Int→List Bool→Int→Int→Int→Int→Bool→Option (List Bool)
 |0,_,_,_,_,_,_,_,_=>none
 |k+1,x0,x3,x4,x5,x6,x7,x8,x40=>if x40=true then((q17.f k x7).bind fun ar0=>(if x4.length+ar0.length<140737488355328 then((some (x4++ar0:List Bool)).bind fun bc0=>((q17.f k x8).bind fun aq7=>(if bc0.length+aq7.length<140737488355328 then(q8.l0 k x0 x3 (bc0++aq7) x5 (wrap64 (x6+1)))else(none))))else(none)))else(if x5>0 then(q8.l0 k x0 x3 x4 (wrap64 (x5 - 1)) (wrap64 (x6+1)))else(q8.l1 k x0 x3 x4 x6 x6))
def q8.l1:Nat→List (S67)→List Int→List Bool→Int→Int→Option (List Bool)
 |0,_,_,_,_,_=>none
 |k+1,x0,x3,x4,x6,x9=>if x9<(x0.length:Int)then(if 0≤(wrap64 (1+(wrap64 (2*x9))))then(if(wrap64 (1+(wrap64 (2*x9))))<(x3.length:Int)then(if(rd x3 (wrap64 (1+(wrap64 (2*x9)))))=0 then(if 0≤(wrap64 (2+(wrap64 (2*x9))))then(if(wrap64 (2+(wrap64 (2*x9))))<(x3.length:Int)then(if(rd x3 (wrap64 (2+(wrap64 (2*x9)))))=0 then(if x9<(wrap64 (x6+16))then(q8.l1 k x0 x3 x4 x6 (wrap64 (x9+1)))else((some (([false,false]:List Bool):List Bool)).bind fun ai5=>(if x4.length+ai5.length<140737488355328 then((some (x4++ai5:List Bool)).bind fun ar8=>((q14.f k (IntKind.u64.wrap (wrap64 ((wrap64 (x9 - x6)) - 1))) 4).bind fun af0=>(if ar8.length+af0.length<140737488355328 then(q8.l0 k x0 x3 (ar8++af0) (wrap64 ((wrap64 (x9 - x6)) - 1)) (wrap64 (x6+1)))else(none))))else(none))))else((some (([false,false]:List Bool):List Bool)).bind fun ai6=>(if x4.length+ai6.length<140737488355328 then((some (x4++ai6:List Bool)).bind fun at5=>((q14.f k (IntKind.u64.wrap (wrap64 ((wrap64 (x9 - x6)) - 1))) 4).bind fun ae4=>(if at5.length+ae4.length<140737488355328 then(q8.l0 k x0 x3 (at5++ae4) (wrap64 ((wrap64 (x9 - x6)) - 1)) (wrap64 (x6+1)))else(none))))else(none))))else(none))else(none))else((some (([false,false]:List Bool):List Bool)).bind fun ao0=>(if x4.length+ao0.length<140737488355328 then((some (x4++ao0:List Bool)).bind fun aD3=>((q14.f k (IntKind.u64.wrap (wrap64 ((wrap64 (x9 - x6)) - 1))) 4).bind fun ah1=>(if aD3.length+ah1.length<140737488355328 then(q8.l0 k x0 x3 (aD3++ah1) (wrap64 ((wrap64 (x9 - x6)) - 1)) (wrap64 (x6+1)))else(none))))else(none))))else(none))else(none))else((some (([false,false]:List Bool):List Bool)).bind fun au3=>(if x4.length+au3.length<140737488355328 then((some (x4++au3:List Bool)).bind fun aO1=>((q14.f k (IntKind.u64.wrap (wrap64 ((wrap64 (x9 - x6)) - 1))) 4).bind fun am0=>(if aO1.length+am0.length<140737488355328 then(q8.l0 k x0 x3 (aO1++am0) (wrap64 ((wrap64 (x9 - x6)) - 1)) (wrap64 (x6+1)))else(none))))else(none)))
end
def q8.f (k:Nat) (l0:List (S67)):Option (List Bool):=(q22.f k l0).bind fun d5=>(q8.l0 k l0 d5 (([]:List Bool)) 0 0)
theorem q8.calls (k:Nat) (A0:Option Addr) (c0:Nat) (l0:List (S67)) (r:List Bool) (w:World) (hr0:Kd.C k67 w A0 l0.length l0) (hc0:l0.length≤c0) (h:q8.f k l0=some r) :
  Calls Try.prog 74 #[.slice A0 l0.length c0] w fun e w'=>∃ v0_:Value,e=.returned (v0_)∧Kd.R Kd.bool 4 w' w.heap.size (fun _=>True) v0_ r∧Below w.heap.size w w':=by
 have HR0:=q5.mk hr0
 have HC0:=q5.mk hc0
 clear hr0 hc0
 have HB:=q5.mk (Below.refl w.heap.size w)
 have H:((q22.f k l0).bind fun d5=>(q8.l0 k l0 d5 (([]:List Bool)) 0 0))=some r:=h
 clear h
 replace H:=N2 H
 obtain⟨d5,A2,H⟩:=H
 try dsimp only at H
 obtain⟨cW9,bF3⟩:∃ y_:List Bool,y_=(([]:List Bool)):=⟨_,rfl⟩
 replace H:(q8.l0 k l0 d5 cW9 0 0)=some r:=by first|(rw [bF3];with_reducible exact H)|(have H2_:=(Option.bind_some _ _).symm.trans H;rw [bF3];with_reducible exact H2_)|(have H2_:=(Option.bind_some _ _).symm.trans H;with_reducible exact H2_)|with_reducible exact H|(rw [bF3];exact H)|exact H
 have bg3:=q5.mk bF3
 clear bF3
 have H':=q5.mk H
 clear H
 go_enter Try.func74,Try.ntmps74
 go_wp2_with (first|(go_at_call 87;(with_reducible refine(q22.calls k _ _ l0 d5 _ ?side1 ?side2 A2.out).mono ?_);(case side1=>exact cc_ HR0);(case side2=>exact HC0.out);rintro e w3 ⟨cL7,rfl,ho0,hb⟩;have n_:=pk2 (Kd.R_lower ho0 (L0 bl_)) (E0 bl_ hb);clear HB;obtain⟨av5,HB⟩:=n_;(try clear hb ho0))|((with_reducible refine X0 (N:=12) rfl ?_);refine Kd.R_lit Kd.bool _ 4 ?hg (N:=12) ?hd (xs:=([]:List Bool)) (inner:=[]) (ok:=fun _=>True) (okp:=fun _=>True) ?hr ?hp (fun _ hk=>hk) trivial (Below.refl _ _) (Nat.le_refl _) (by simp) ?_;(case hd=>rfl);(case hg=>rfl);(case hr=>first|(go_simp;done)|(go_simp;rfl));(case hp=>exact(Reps.none _ _));intro cU8 w4 ho5 hb hg_ hnew_;clear hg_ hnew_;(first|rw [←bg3.out] at ho5|(simp only [Int.reduceToNat] at ho5;rw [←bg3.out] at ho5));have n_:=pk3 (Kd.R_below (ro_ av5) hb) (Kd.R_lower ho5 (L0 bl_)) (E0 bl_ hb);clear av5 HB;obtain⟨av5,cf8,HB⟩:=n_;clear hb ho5))
 repeat(go_quiet (first|(go_at_call 87;(with_reducible refine(q22.calls k _ _ l0 d5 _ ?side1 ?side2 A2.out).mono ?_);(case side1=>exact cc_ HR0);(case side2=>exact HC0.out);rintro e w3 ⟨cL7,rfl,ho0,hb⟩;have n_:=pk2 (Kd.R_lower ho0 (L0 bl_)) (E0 bl_ hb);clear HB;obtain⟨av5,HB⟩:=n_;(try clear hb ho0))|((with_reducible refine X0 (N:=12) rfl ?_);refine Kd.R_lit Kd.bool _ 4 ?hg (N:=12) ?hd (xs:=([]:List Bool)) (inner:=[]) (ok:=fun _=>True) (okp:=fun _=>True) ?hr ?hp (fun _ hk=>hk) trivial (Below.refl _ _) (Nat.le_refl _) (by simp) ?_;(case hd=>rfl);(case hg=>rfl);(case hr=>first|(go_simp;done)|(go_simp;rfl));(case hp=>exact(Reps.none _ _));intro cU8 w4 ho5 hb hg_ hnew_;clear hg_ hnew_;(first|rw [←bg3.out] at ho5|(simp only [Int.reduceToNat] at ho5;rw [←bg3.out] at ho5));have n_:=pk3 (Kd.R_below (ro_ av5) hb) (Kd.R_lower ho5 (L0 bl_)) (E0 bl_ hb);clear av5 HB;obtain⟨av5,cf8,HB⟩:=n_;clear hb ho5));try go_wp2_with (first|(go_at_call 87;(with_reducible refine(q22.calls k _ _ l0 d5 _ ?side1 ?side2 A2.out).mono ?_);(case side1=>exact cc_ HR0);(case side2=>exact HC0.out);rintro e w3 ⟨cL7,rfl,ho0,hb⟩;have n_:=pk2 (Kd.R_lower ho0 (L0 bl_)) (E0 bl_ hb);clear HB;obtain⟨av5,HB⟩:=n_;(try clear hb ho0))|((with_reducible refine X0 (N:=12) rfl ?_);refine Kd.R_lit Kd.bool _ 4 ?hg (N:=12) ?hd (xs:=([]:List Bool)) (inner:=[]) (ok:=fun _=>True) (okp:=fun _=>True) ?hr ?hp (fun _ hk=>hk) trivial (Below.refl _ _) (Nat.le_refl _) (by simp) ?_;(case hd=>rfl);(case hg=>rfl);(case hr=>first|(go_simp;done)|(go_simp;rfl));(case hp=>exact(Reps.none _ _));intro cU8 w4 ho5 hb hg_ hnew_;clear hg_ hnew_;(first|rw [←bg3.out] at ho5|(simp only [Int.reduceToNat] at ho5;rw [←bg3.out] at ho5));have n_:=pk3 (Kd.R_below (ro_ av5) hb) (Kd.R_lower ho5 (L0 bl_)) (E0 bl_ hb);clear av5 HB;obtain⟨av5,cf8,HB⟩:=n_;clear hb ho5)))
 go_loopg [4,5,6] k (fun kq v4 v5 v6 w'=>∃ (x4_1:List Bool) (x5_1:Int) (x6_1:Int),v5=.int .i64 x5_1∧v6=.int .i64 x6_1∧q5 (q8.l0 kq l0 d5 x4_1 x5_1 x6_1=some r)∧q5 (kq≤k)∧q5 (Kd.R (Kd.int .i64) 3 w' w.heap.size (fun _=>True) cL7 d5)∧q5 (Kd.R Kd.bool 4 w' w.heap.size (fun _=>True) v4 x4_1)∧q5 (Below w.heap.size w w'))
 case atStart=>exact⟨(cW9),(0),(0),sm_,sm_,H',⟨Nat.le_refl _⟩,⟨(ro_ av5)⟩,⟨(ro_ cf8)⟩,⟨bl_⟩⟩
 case round =>
  clear H'
  obtain⟨x4_1,x5_1,x6_1,rfl,rfl,HA,HK1,HO_3,HO_4,HB⟩:=hrel
  cases gk with
  |zero=>exact absurd HA.out (by simp [q8.l0])
  |succ k1 =>
   have H:=HA.out
   clear HA
   simp only [q8.l0] at H
   replace H:=dle H
   rcases H with⟨c6b0,H⟩|⟨c6b0,H⟩
   ·obtain⟨ji7,hji7⟩:∃ j_:Int,(wrap64 (1+(wrap64 (2*x6_1))))=j_:=⟨_,rfl⟩
    replace H:(if 0≤(ji7)then(if(ji7)<(d5.length:Int)then(if 0≤(wrap64 (2+(wrap64 (2*x6_1))))then(if(wrap64 (2+(wrap64 (2*x6_1))))<(d5.length:Int)then(if x6_1<2 then(q8.j1 k1 l0 d5 x4_1 x5_1 x6_1 (rd d5 (ji7)) (rd d5 (wrap64 (2+(wrap64 (2*x6_1))))) true)else(if(rd d5 (ji7))=0 then(q8.j1 k1 l0 d5 x4_1 x5_1 x6_1 (rd d5 (ji7)) (rd d5 (wrap64 (2+(wrap64 (2*x6_1))))) ((rd d5 (wrap64 (2+(wrap64 (2*x6_1))))) != 0))else(q8.j1 k1 l0 d5 x4_1 x5_1 x6_1 (rd d5 (ji7)) (rd d5 (wrap64 (2+(wrap64 (2*x6_1))))) true)))else(none))else(none))else(none))else(none))=some r:=by first|(rw [hji7] at H;exact H)|(simp only [hji7] at H ⊢;exact H)
    have hji7w:(IntKind.i64.wrap (1+(wrap64 (2*x6_1))))=ji7:=(N0 _).trans hji7
    replace H:=dle H
    rcases H with⟨c8b0,H⟩|⟨c8b0,H⟩
    ·replace H:=dle H
     rcases H with⟨c9b0,H⟩|⟨c9b0,H⟩
     ·obtain⟨ji10,hji10⟩:∃ j_:Int,(wrap64 (2+(wrap64 (2*x6_1))))=j_:=⟨_,rfl⟩
      replace H:(if 0≤(ji10)then(if(ji10)<(d5.length:Int)then(if x6_1<2 then(q8.j1 k1 l0 d5 x4_1 x5_1 x6_1 (rd d5 (ji7)) (rd d5 (ji10)) true)else(if(rd d5 (ji7))=0 then(q8.j1 k1 l0 d5 x4_1 x5_1 x6_1 (rd d5 (ji7)) (rd d5 (ji10)) ((rd d5 (ji10)) != 0))else(q8.j1 k1 l0 d5 x4_1 x5_1 x6_1 (rd d5 (ji7)) (rd d5 (ji10)) true)))else(none))else(none))=some r:=by first|(rw [hji10] at H;exact H)|(simp only [hji10] at H ⊢;exact H)
      have hji10w:(IntKind.i64.wrap (2+(wrap64 (2*x6_1))))=ji10:=(N0 _).trans hji10
      replace H:=dle H
      rcases H with⟨c11b0,H⟩|⟨c11b0,H⟩
      ·replace H:=dle H
       rcases H with⟨c12b0,H⟩|⟨c12b0,H⟩
       ·have HC13:=q5.mk H
        clear H
        obtain⟨Ao14,co14,eo14⟩:=Kd.R_slice HO_3.out
        subst eo14
        have ci6:0≤((ji7):Int):=dc_
        have cl6:(ji7)<(d5.length:Int):=dc_
        obtain⟨aE0,dn4,bW4⟩:=Kd.at_int (Kd.R_reads' HO_3.out).2.2 (ji7) ci6 cl6
        cases dn4
        replace ci6:=eq_true ci6
        replace cl6:=eq_true cl6
        have co3:0≤((ji10):Int):=dc_
        have co0:(ji10)<(d5.length:Int):=dc_
        obtain⟨dc3,dl4,bX0⟩:=Kd.at_int (Kd.R_reads' HO_3.out).2.2 (ji10) co3 co0
        obtain rfl:aE0=dc3:=(by injection dl4)
        replace co3:=eq_true co3
        replace co0:=eq_true co0
        go_upto_region 8 with(fail)
        repeat(go_quiet (fail);go_upto_region 8 with(fail))
        go_cut [40] (fun v40 wc=>∃ (kq:Nat) (x40_12:Bool),v40=.bool x40_12∧q5 (q8.j1 kq l0 d5 x4_1 x5_1 x6_1 (rd d5 (ji7)) (rd d5 (ji10)) x40_12=some r)∧q5 (kq≤k1)∧q5 (Kd.R (Kd.int .i64) 3 wc w.heap.size (fun _=>True) (.slice (some aE0) d5.length co14) d5)∧q5 (Kd.R Kd.bool 4 wc w.heap.size (fun _=>True) u4 x4_1)∧q5 (Below w.heap.size w wc))
        case first =>
         have H:=HC13.out
         clear HC13
         replace H:=dle H
         rcases H with⟨c15b0,H⟩|⟨c15b0,H⟩
         focus
          (first|rw [c15b0]|(simp only [N0,P0];rw [c15b0])|skip)
          have H':=q5.mk H
          clear H
         rotate_left
         focus
          (first|rw [c15b0]|(simp only [N0,P0];rw [c15b0])|skip)
          replace H:=deqn H
          rcases H with⟨c16b0,c16b1,H⟩|⟨c16b0,c16b1,c16,H⟩
          focus
           have H':=q5.mk H
           clear H
          rotate_left
          focus
           have H':=q5.mk H
           clear H
         all_goals
          go_wp2
          repeat(go_quiet (fail);try go_wp2)
          go_meet
          first
           |case rel=>exact⟨_,(true),sm_,H',⟨by have:=HK1.out;first|omega|exact Nat.le_refl _⟩,⟨(ro_ HO_3)⟩,⟨(ro_ HO_4)⟩,⟨bl_⟩⟩
           |case rel=>exact⟨_,(((rd d5 (ji10)) != 0)),(by first|rfl|(simp;done)|(simp only [←hji10]<;>(first|rfl|simp))|(simp [*];done)),H',⟨by have:=HK1.out;first|omega|exact Nat.le_refl _⟩,⟨(ro_ HO_3)⟩,⟨(ro_ HO_4)⟩,⟨bl_⟩⟩
        case rest =>
         clear HC13
         try clear c6
         try clear c6b0
         try clear c8
         try clear c8b0
         try clear c9
         try clear c9b0
         try clear c11
         try clear c11b0
         try clear c12
         try clear c12b0
         try clear bW4
         try clear bX0
         try clear ci6
         try clear co3
         try clear cl6
         try clear co0
         obtain⟨kq,x40_12,rfl,HA,HJ12,HO_3,HO_4,HB⟩:=hcut
         cases kq with
         |zero=>exact absurd HA.out (by simp [q8.j1])
         |succ kj12 =>
          have H:=HA.out
          clear HA
          simp only [q8.j1] at H
          replace H:=Q7 H
          rcases H with⟨rfl,H⟩|⟨rfl,H⟩
          focus
           replace H:=N2 H
           obtain⟨ar0,A18,H⟩:=H
           try dsimp only at H
           by_cases c19:x4_1.length+ar0.length<140737488355328
           rotate_left
           ·rw [if_neg c19] at H
            exact absurd H (by simp)
           rw [if_pos c19] at H
           have LMc19:=q5.mk c19
           clear c19
           obtain⟨bc0,bF5⟩:∃ y_:List Bool,y_=(x4_1++ar0):=⟨_,rfl⟩
           replace H:((q17.f kj12 (rd d5 (ji10))).bind fun aq7=>(if bc0.length+aq7.length<140737488355328 then(q8.l0 kj12 l0 d5 (bc0++aq7) x5_1 (wrap64 (x6_1+1)))else(none)))=some r:=by first|(rw [bF5];with_reducible exact H)|(have H2_:=(Option.bind_some _ _).symm.trans H;rw [bF5];with_reducible exact H2_)|(have H2_:=(Option.bind_some _ _).symm.trans H;with_reducible exact H2_)|with_reducible exact H|(rw [bF5];exact H)|exact H
           have ck5:=q5.mk bF5
           clear bF5
           replace H:=N2 H
           obtain⟨aq7,A20,H⟩:=H
           try dsimp only at H
           by_cases c21:bc0.length+aq7.length<140737488355328
           rotate_left
           ·rw [if_neg c21] at H
            exact absurd H (by simp)
           rw [if_pos c21] at H
           have LMc21:=q5.mk c21
           clear c21
           obtain⟨db9,by3⟩:∃ y_:List Bool,y_=(bc0++aq7):=⟨_,rfl⟩
           replace H:(q8.l0 kj12 l0 d5 db9 x5_1 (wrap64 (x6_1+1)))=some r:=by first|(rw [by3];with_reducible exact H)|(have H2_:=(Option.bind_some _ _).symm.trans H;rw [by3];with_reducible exact H2_)|(have H2_:=(Option.bind_some _ _).symm.trans H;with_reducible exact H2_)|with_reducible exact H|(rw [by3];exact H)|exact H
           have ck7:=q5.mk by3
           clear by3
           have H':=q5.mk H
           clear H
          rotate_left
          focus
           replace H:=dgt H
           rcases H with⟨c28b0,H⟩|⟨c28b0,H⟩
           rotate_left
           ·have H':=q5.mk H
            clear H
            go_wp2
            repeat(go_quiet (fail);try go_wp2)
            go_loopg [9] kj12 (fun kq v9 w'=>∃ (x9_3:Int),v9=.int .i64 x9_3∧q5 (q8.l1 kq l0 d5 x4_1 x6_1 x9_3=some r)∧q5 (kq≤kj12)∧q5 (Kd.R (Kd.int .i64) 3 w' w.heap.size (fun _=>True) (.slice (some aE0) d5.length co14) d5)∧q5 (Kd.R Kd.bool 4 w' w.heap.size (fun _=>True) u4 x4_1)∧q5 (Below w.heap.size w w'))
            case atStart=>exact⟨(x6_1),sm_,H',⟨Nat.le_refl _⟩,⟨(ro_ HO_3)⟩,⟨(ro_ HO_4)⟩,⟨bl_⟩⟩
            case round =>
             clear H'
             try clear c6
             try clear c6b0
             try clear c8
             try clear c8b0
             try clear c9
             try clear c9b0
             try clear c11
             try clear c11b0
             try clear c12
             try clear c12b0
             try clear c17
             try clear c28
             try clear c28b0
             try clear bW4
             try clear bX0
             try clear ci6
             try clear co3
             try clear cl6
             try clear co0
             obtain⟨x9_3,rfl,HA,HK3,HO_3,HO_4,HB⟩:=hrel
             cases gk with
             |zero=>exact absurd HA.out (by simp [q8.l1])
             |succ k3 =>
              have H:=HA.out
              clear HA
              simp only [q8.l1] at H
              replace H:=dle H
              rcases H with⟨c29b0,H⟩|⟨c29b0,H⟩
              focus
               obtain⟨ji30,hji30⟩:∃ j_:Int,(wrap64 (1+(wrap64 (2*x9_3))))=j_:=⟨_,rfl⟩
               replace H:(if 0≤(ji30)then(if(ji30)<(d5.length:Int)then(if(rd d5 (ji30))=0 then(if 0≤(wrap64 (2+(wrap64 (2*x9_3))))then(if(wrap64 (2+(wrap64 (2*x9_3))))<(d5.length:Int)then(if(rd d5 (wrap64 (2+(wrap64 (2*x9_3)))))=0 then(if x9_3<(wrap64 (x6_1+16))then(q8.l1 k3 l0 d5 x4_1 x6_1 (wrap64 (x9_3+1)))else((some (([false,false]:List Bool):List Bool)).bind fun ai5=>(if x4_1.length+ai5.length<140737488355328 then((some (x4_1++ai5:List Bool)).bind fun ar8=>((q14.f k3 (IntKind.u64.wrap (wrap64 ((wrap64 (x9_3 - x6_1)) - 1))) 4).bind fun af0=>(if ar8.length+af0.length<140737488355328 then(q8.l0 k3 l0 d5 (ar8++af0) (wrap64 ((wrap64 (x9_3 - x6_1)) - 1)) (wrap64 (x6_1+1)))else(none))))else(none))))else((some (([false,false]:List Bool):List Bool)).bind fun ai6=>(if x4_1.length+ai6.length<140737488355328 then((some (x4_1++ai6:List Bool)).bind fun at5=>((q14.f k3 (IntKind.u64.wrap (wrap64 ((wrap64 (x9_3 - x6_1)) - 1))) 4).bind fun ae4=>(if at5.length+ae4.length<140737488355328 then(q8.l0 k3 l0 d5 (at5++ae4) (wrap64 ((wrap64 (x9_3 - x6_1)) - 1)) (wrap64 (x6_1+1)))else(none))))else(none))))else(none))else(none))else((some (([false,false]:List Bool):List Bool)).bind fun ao0=>(if x4_1.length+ao0.length<140737488355328 then((some (x4_1++ao0:List Bool)).bind fun aD3=>((q14.f k3 (IntKind.u64.wrap (wrap64 ((wrap64 (x9_3 - x6_1)) - 1))) 4).bind fun ah1=>(if aD3.length+ah1.length<140737488355328 then(q8.l0 k3 l0 d5 (aD3++ah1) (wrap64 ((wrap64 (x9_3 - x6_1)) - 1)) (wrap64 (x6_1+1)))else(none))))else(none))))else(none))else(none))=some r:=by first|(rw [hji30] at H;exact H)|(simp only [hji30] at H ⊢;exact H)
               have hji30w:(IntKind.i64.wrap (1+(wrap64 (2*x9_3))))=ji30:=(N0 _).trans hji30
               replace H:=dle H
               rcases H with⟨c31b0,H⟩|⟨c31b0,H⟩
               rotate_left
               ·exact absurd H (by simp)
               replace H:=dle H
               rcases H with⟨c32b0,H⟩|⟨c32b0,H⟩
               rotate_left
               ·exact absurd H (by simp)
               replace H:=deqn H
               rcases H with⟨c33b0,c33b1,H⟩|⟨c33b0,c33b1,c33,H⟩
               focus
                obtain⟨ji34,hji34⟩:∃ j_:Int,(wrap64 (2+(wrap64 (2*x9_3))))=j_:=⟨_,rfl⟩
                replace H:(if 0≤(ji34)then(if(ji34)<(d5.length:Int)then(if(rd d5 (ji34))=0 then(if x9_3<(wrap64 (x6_1+16))then(q8.l1 k3 l0 d5 x4_1 x6_1 (wrap64 (x9_3+1)))else((some (([false,false]:List Bool):List Bool)).bind fun ai5=>(if x4_1.length+ai5.length<140737488355328 then((some (x4_1++ai5:List Bool)).bind fun ar8=>((q14.f k3 (IntKind.u64.wrap (wrap64 ((wrap64 (x9_3 - x6_1)) - 1))) 4).bind fun af0=>(if ar8.length+af0.length<140737488355328 then(q8.l0 k3 l0 d5 (ar8++af0) (wrap64 ((wrap64 (x9_3 - x6_1)) - 1)) (wrap64 (x6_1+1)))else(none))))else(none))))else((some (([false,false]:List Bool):List Bool)).bind fun ai6=>(if x4_1.length+ai6.length<140737488355328 then((some (x4_1++ai6:List Bool)).bind fun at5=>((q14.f k3 (IntKind.u64.wrap (wrap64 ((wrap64 (x9_3 - x6_1)) - 1))) 4).bind fun ae4=>(if at5.length+ae4.length<140737488355328 then(q8.l0 k3 l0 d5 (at5++ae4) (wrap64 ((wrap64 (x9_3 - x6_1)) - 1)) (wrap64 (x6_1+1)))else(none))))else(none))))else(none))else(none))=some r:=by first|(rw [hji34] at H;exact H)|(simp only [hji34] at H ⊢;exact H)
                have hji34w:(IntKind.i64.wrap (2+(wrap64 (2*x9_3))))=ji34:=(N0 _).trans hji34
                replace H:=dle H
                rcases H with⟨c35b0,H⟩|⟨c35b0,H⟩
                rotate_left
                ·exact absurd H (by simp)
                replace H:=dle H
                rcases H with⟨c36b0,H⟩|⟨c36b0,H⟩
                rotate_left
                ·exact absurd H (by simp)
                replace H:=deqn H
                rcases H with⟨c37b0,c37b1,H⟩|⟨c37b0,c37b1,c37,H⟩
                focus
                 replace H:=dle H
                 rcases H with⟨c38b0,H⟩|⟨c38b0,H⟩
                 focus
                  have H':=q5.mk H
                  clear H
                  have aI0:0≤((ji30):Int):=dc_
                  have aG3:(ji30)<(d5.length:Int):=dc_
                  obtain⟨aX9,bN2,br1⟩:=Kd.at_int (Kd.R_reads' HO_3.out).2.2 (ji30) aI0 aG3
                  obtain rfl:aE0=aX9:=(by injection bN2)
                  replace aI0:=eq_true aI0
                  replace aG3:=eq_true aG3
                  have aW2:0≤((ji34):Int):=dc_
                  have ba5:(ji34)<(d5.length:Int):=dc_
                  obtain⟨bC7,cq4,bV5⟩:=Kd.at_int (Kd.R_reads' HO_3.out).2.2 (ji34) aW2 ba5
                  obtain rfl:aE0=bC7:=(by injection cq4)
                  replace aW2:=eq_true aW2
                  replace ba5:=eq_true ba5
                 rotate_left
                 focus
                  obtain⟨ai5,bu7⟩:∃ y_:List Bool,y_=(([false,false]:List Bool)):=⟨_,rfl⟩
                  replace H:(if x4_1.length+ai5.length<140737488355328 then((some (x4_1++ai5:List Bool)).bind fun ar8=>((q14.f k3 (IntKind.u64.wrap (wrap64 ((wrap64 (x9_3 - x6_1)) - 1))) 4).bind fun af0=>(if ar8.length+af0.length<140737488355328 then(q8.l0 k3 l0 d5 (ar8++af0) (wrap64 ((wrap64 (x9_3 - x6_1)) - 1)) (wrap64 (x6_1+1)))else(none))))else(none))=some r:=by first|(rw [bu7];with_reducible exact H)|(have H2_:=(Option.bind_some _ _).symm.trans H;rw [bu7];with_reducible exact H2_)|(have H2_:=(Option.bind_some _ _).symm.trans H;with_reducible exact H2_)|with_reducible exact H|(rw [bu7];exact H)|exact H
                  have bh4:=q5.mk bu7
                  clear bu7
                  by_cases c39:x4_1.length+ai5.length<140737488355328
                  rotate_left
                  ·rw [if_neg c39] at H
                   exact absurd H (by simp)
                  rw [if_pos c39] at H
                  have LMc39:=q5.mk c39
                  clear c39
                  obtain⟨ar8,by1⟩:∃ y_:List Bool,y_=(x4_1++ai5):=⟨_,rfl⟩
                  replace H:((q14.f k3 (IntKind.u64.wrap (wrap64 ((wrap64 (x9_3 - x6_1)) - 1))) 4).bind fun af0=>(if ar8.length+af0.length<140737488355328 then(q8.l0 k3 l0 d5 (ar8++af0) (wrap64 ((wrap64 (x9_3 - x6_1)) - 1)) (wrap64 (x6_1+1)))else(none)))=some r:=by first|(rw [by1];with_reducible exact H)|(have H2_:=(Option.bind_some _ _).symm.trans H;rw [by1];with_reducible exact H2_)|(have H2_:=(Option.bind_some _ _).symm.trans H;with_reducible exact H2_)|with_reducible exact H|(rw [by1];exact H)|exact H
                  have cn7:=q5.mk by1
                  clear by1
                  replace H:=N2 H
                  obtain⟨af0,A40,H⟩:=H
                  try dsimp only at H
                  by_cases c41:ar8.length+af0.length<140737488355328
                  rotate_left
                  ·rw [if_neg c41] at H
                   exact absurd H (by simp)
                  rw [if_pos c41] at H
                  have LMc41:=q5.mk c41
                  clear c41
                  obtain⟨cW1,bE1⟩:∃ y_:List Bool,y_=(ar8++af0):=⟨_,rfl⟩
                  replace H:(q8.l0 k3 l0 d5 cW1 (wrap64 ((wrap64 (x9_3 - x6_1)) - 1)) (wrap64 (x6_1+1)))=some r:=by first|(rw [bE1];with_reducible exact H)|(have H2_:=(Option.bind_some _ _).symm.trans H;rw [bE1];with_reducible exact H2_)|(have H2_:=(Option.bind_some _ _).symm.trans H;with_reducible exact H2_)|with_reducible exact H|(rw [bE1];exact H)|exact H
                  have cr0:=q5.mk bE1
                  clear bE1
                  have H':=q5.mk H
                  clear H
                  have aI0:0≤((ji30):Int):=dc_
                  have aG3:(ji30)<(d5.length:Int):=dc_
                  obtain⟨aX9,bN2,br1⟩:=Kd.at_int (Kd.R_reads' HO_3.out).2.2 (ji30) aI0 aG3
                  obtain rfl:aE0=aX9:=(by injection bN2)
                  replace aI0:=eq_true aI0
                  replace aG3:=eq_true aG3
                  have aW2:0≤((ji34):Int):=dc_
                  have ba5:(ji34)<(d5.length:Int):=dc_
                  obtain⟨bC7,cq4,bV5⟩:=Kd.at_int (Kd.R_reads' HO_3.out).2.2 (ji34) aW2 ba5
                  obtain rfl:aE0=bC7:=(by injection cq4)
                  replace aW2:=eq_true aW2
                  replace ba5:=eq_true ba5
                rotate_left 2
                focus
                 obtain⟨ai6,bG2⟩:∃ y_:List Bool,y_=(([false,false]:List Bool)):=⟨_,rfl⟩
                 replace H:(if x4_1.length+ai6.length<140737488355328 then((some (x4_1++ai6:List Bool)).bind fun at5=>((q14.f k3 (IntKind.u64.wrap (wrap64 ((wrap64 (x9_3 - x6_1)) - 1))) 4).bind fun ae4=>(if at5.length+ae4.length<140737488355328 then(q8.l0 k3 l0 d5 (at5++ae4) (wrap64 ((wrap64 (x9_3 - x6_1)) - 1)) (wrap64 (x6_1+1)))else(none))))else(none))=some r:=by first|(rw [bG2];with_reducible exact H)|(have H2_:=(Option.bind_some _ _).symm.trans H;rw [bG2];with_reducible exact H2_)|(have H2_:=(Option.bind_some _ _).symm.trans H;with_reducible exact H2_)|with_reducible exact H|(rw [bG2];exact H)|exact H
                 have be0:=q5.mk bG2
                 clear bG2
                 by_cases c49:x4_1.length+ai6.length<140737488355328
                 rotate_left
                 ·rw [if_neg c49] at H
                  exact absurd H (by simp)
                 rw [if_pos c49] at H
                 have LMc49:=q5.mk c49
                 clear c49
                 obtain⟨at5,bE8⟩:∃ y_:List Bool,y_=(x4_1++ai6):=⟨_,rfl⟩
                 replace H:((q14.f k3 (IntKind.u64.wrap (wrap64 ((wrap64 (x9_3 - x6_1)) - 1))) 4).bind fun ae4=>(if at5.length+ae4.length<140737488355328 then(q8.l0 k3 l0 d5 (at5++ae4) (wrap64 ((wrap64 (x9_3 - x6_1)) - 1)) (wrap64 (x6_1+1)))else(none)))=some r:=by first|(rw [bE8];with_reducible exact H)|(have H2_:=(Option.bind_some _ _).symm.trans H;rw [bE8];with_reducible exact H2_)|(have H2_:=(Option.bind_some _ _).symm.trans H;with_reducible exact H2_)|with_reducible exact H|(rw [bE8];exact H)|exact H
                 have ci7:=q5.mk bE8
                 clear bE8
                 replace H:=N2 H
                 obtain⟨ae4,A50,H⟩:=H
                 try dsimp only at H
                 by_cases c51:at5.length+ae4.length<140737488355328
                 rotate_left
                 ·rw [if_neg c51] at H
                  exact absurd H (by simp)
                 rw [if_pos c51] at H
                 have LMc51:=q5.mk c51
                 clear c51
                 obtain⟨de1,bC8⟩:∃ y_:List Bool,y_=(at5++ae4):=⟨_,rfl⟩
                 replace H:(q8.l0 k3 l0 d5 de1 (wrap64 ((wrap64 (x9_3 - x6_1)) - 1)) (wrap64 (x6_1+1)))=some r:=by first|(rw [bC8];with_reducible exact H)|(have H2_:=(Option.bind_some _ _).symm.trans H;rw [bC8];with_reducible exact H2_)|(have H2_:=(Option.bind_some _ _).symm.trans H;with_reducible exact H2_)|with_reducible exact H|(rw [bC8];exact H)|exact H
                 have cr2:=q5.mk bC8
                 clear bC8
                 have H':=q5.mk H
                 clear H
                 have aI0:0≤((ji30):Int):=dc_
                 have aG3:(ji30)<(d5.length:Int):=dc_
                 obtain⟨aX9,bN2,br1⟩:=Kd.at_int (Kd.R_reads' HO_3.out).2.2 (ji30) aI0 aG3
                 obtain rfl:aE0=aX9:=(by injection bN2)
                 replace aI0:=eq_true aI0
                 replace aG3:=eq_true aG3
                 have aW2:0≤((ji34):Int):=dc_
                 have ba5:(ji34)<(d5.length:Int):=dc_
                 obtain⟨bC7,cq4,bV5⟩:=Kd.at_int (Kd.R_reads' HO_3.out).2.2 (ji34) aW2 ba5
                 obtain rfl:aE0=bC7:=(by injection cq4)
                 replace aW2:=eq_true aW2
                 replace ba5:=eq_true ba5
               rotate_left 3
               focus
                obtain⟨ao0,bG0⟩:∃ y_:List Bool,y_=(([false,false]:List Bool)):=⟨_,rfl⟩
                replace H:(if x4_1.length+ao0.length<140737488355328 then((some (x4_1++ao0:List Bool)).bind fun aD3=>((q14.f k3 (IntKind.u64.wrap (wrap64 ((wrap64 (x9_3 - x6_1)) - 1))) 4).bind fun ah1=>(if aD3.length+ah1.length<140737488355328 then(q8.l0 k3 l0 d5 (aD3++ah1) (wrap64 ((wrap64 (x9_3 - x6_1)) - 1)) (wrap64 (x6_1+1)))else(none))))else(none))=some r:=by first|(rw [bG0];with_reducible exact H)|(have H2_:=(Option.bind_some _ _).symm.trans H;rw [bG0];with_reducible exact H2_)|(have H2_:=(Option.bind_some _ _).symm.trans H;with_reducible exact H2_)|with_reducible exact H|(rw [bG0];exact H)|exact H
                have be3:=q5.mk bG0
                clear bG0
                by_cases c59:x4_1.length+ao0.length<140737488355328
                rotate_left
                ·rw [if_neg c59] at H
                 exact absurd H (by simp)
                rw [if_pos c59] at H
                have LMc59:=q5.mk c59
                clear c59
                obtain⟨aD3,bE0⟩:∃ y_:List Bool,y_=(x4_1++ao0):=⟨_,rfl⟩
                replace H:((q14.f k3 (IntKind.u64.wrap (wrap64 ((wrap64 (x9_3 - x6_1)) - 1))) 4).bind fun ah1=>(if aD3.length+ah1.length<140737488355328 then(q8.l0 k3 l0 d5 (aD3++ah1) (wrap64 ((wrap64 (x9_3 - x6_1)) - 1)) (wrap64 (x6_1+1)))else(none)))=some r:=by first|(rw [bE0];with_reducible exact H)|(have H2_:=(Option.bind_some _ _).symm.trans H;rw [bE0];with_reducible exact H2_)|(have H2_:=(Option.bind_some _ _).symm.trans H;with_reducible exact H2_)|with_reducible exact H|(rw [bE0];exact H)|exact H
                have cj9:=q5.mk bE0
                clear bE0
                replace H:=N2 H
                obtain⟨ah1,A60,H⟩:=H
                try dsimp only at H
                by_cases c61:aD3.length+ah1.length<140737488355328
                rotate_left
                ·rw [if_neg c61] at H
                 exact absurd H (by simp)
                rw [if_pos c61] at H
                have LMc61:=q5.mk c61
                clear c61
                obtain⟨cX6,bC9⟩:∃ y_:List Bool,y_=(aD3++ah1):=⟨_,rfl⟩
                replace H:(q8.l0 k3 l0 d5 cX6 (wrap64 ((wrap64 (x9_3 - x6_1)) - 1)) (wrap64 (x6_1+1)))=some r:=by first|(rw [bC9];with_reducible exact H)|(have H2_:=(Option.bind_some _ _).symm.trans H;rw [bC9];with_reducible exact H2_)|(have H2_:=(Option.bind_some _ _).symm.trans H;with_reducible exact H2_)|with_reducible exact H|(rw [bC9];exact H)|exact H
                have cl1:=q5.mk bC9
                clear bC9
                have H':=q5.mk H
                clear H
                have aI0:0≤((ji30):Int):=dc_
                have aG3:(ji30)<(d5.length:Int):=dc_
                obtain⟨aX9,bN2,br1⟩:=Kd.at_int (Kd.R_reads' HO_3.out).2.2 (ji30) aI0 aG3
                obtain rfl:aE0=aX9:=(by injection bN2)
                replace aI0:=eq_true aI0
                replace aG3:=eq_true aG3
              rotate_left 4
              focus
               obtain⟨au3,bz8⟩:∃ y_:List Bool,y_=(([false,false]:List Bool)):=⟨_,rfl⟩
               replace H:(if x4_1.length+au3.length<140737488355328 then((some (x4_1++au3:List Bool)).bind fun aO1=>((q14.f k3 (IntKind.u64.wrap (wrap64 ((wrap64 (x9_3 - x6_1)) - 1))) 4).bind fun am0=>(if aO1.length+am0.length<140737488355328 then(q8.l0 k3 l0 d5 (aO1++am0) (wrap64 ((wrap64 (x9_3 - x6_1)) - 1)) (wrap64 (x6_1+1)))else(none))))else(none))=some r:=by first|(rw [bz8];with_reducible exact H)|(have H2_:=(Option.bind_some _ _).symm.trans H;rw [bz8];with_reducible exact H2_)|(have H2_:=(Option.bind_some _ _).symm.trans H;with_reducible exact H2_)|with_reducible exact H|(rw [bz8];exact H)|exact H
               have bh2:=q5.mk bz8
               clear bz8
               by_cases c69:x4_1.length+au3.length<140737488355328
               rotate_left
               ·rw [if_neg c69] at H
                exact absurd H (by simp)
               rw [if_pos c69] at H
               have LMc69:=q5.mk c69
               clear c69
               obtain⟨aO1,bt7⟩:∃ y_:List Bool,y_=(x4_1++au3):=⟨_,rfl⟩
               replace H:((q14.f k3 (IntKind.u64.wrap (wrap64 ((wrap64 (x9_3 - x6_1)) - 1))) 4).bind fun am0=>(if aO1.length+am0.length<140737488355328 then(q8.l0 k3 l0 d5 (aO1++am0) (wrap64 ((wrap64 (x9_3 - x6_1)) - 1)) (wrap64 (x6_1+1)))else(none)))=some r:=by first|(rw [bt7];with_reducible exact H)|(have H2_:=(Option.bind_some _ _).symm.trans H;rw [bt7];with_reducible exact H2_)|(have H2_:=(Option.bind_some _ _).symm.trans H;with_reducible exact H2_)|with_reducible exact H|(rw [bt7];exact H)|exact H
               have cm5:=q5.mk bt7
               clear bt7
               replace H:=N2 H
               obtain⟨am0,A70,H⟩:=H
               try dsimp only at H
               by_cases c71:aO1.length+am0.length<140737488355328
               rotate_left
               ·rw [if_neg c71] at H
                exact absurd H (by simp)
               rw [if_pos c71] at H
               have LMc71:=q5.mk c71
               clear c71
               obtain⟨dd0,bw3⟩:∃ y_:List Bool,y_=(aO1++am0):=⟨_,rfl⟩
               replace H:(q8.l0 k3 l0 d5 dd0 (wrap64 ((wrap64 (x9_3 - x6_1)) - 1)) (wrap64 (x6_1+1)))=some r:=by first|(rw [bw3];with_reducible exact H)|(have H2_:=(Option.bind_some _ _).symm.trans H;rw [bw3];with_reducible exact H2_)|(have H2_:=(Option.bind_some _ _).symm.trans H;with_reducible exact H2_)|with_reducible exact H|(rw [bw3];exact H)|exact H
               have cr3:=q5.mk bw3
               clear bw3
               have H':=q5.mk H
               clear H
              all_goals
               go_wp2_with (first|((with_reducible refine X0 (N:=89) rfl ?_);refine Kd.R_lit Kd.bool _ 4 ?hg (N:=89) ?hd (xs:=([false,false]:List Bool)) (inner:=[.bool false,.bool false]) (ok:=fun _=>True) (okp:=fun _=>True) ?hr ?hp (fun _ hk=>hk) trivial (Below.refl _ _) (Nat.le_refl _) (by simp) ?_;(case hd=>rfl);(case hg=>rfl);(case hr=>first|(go_simp;done)|(go_simp;rfl));(case hp=>exact(Reps.one (show Kd.M Kd.bool _ _ _ false [.bool false] from rfl) (Reps.one (show Kd.M Kd.bool _ _ _ false [.bool false] from rfl) (Reps.none _ _))));intro M4 U1 M0 hb hg_ hnew_;clear hg_ hnew_;(try((first|rw [←bh4.out] at M0|(simp only [Int.reduceToNat] at M0;rw [←bh4.out] at M0));have n_:=pk4 (Kd.R_below (ro_ HO_3) hb) (Kd.R_elder' (ro_ HO_4) (Kd.R_base M0) hb) (Kd.R_lower (Kd.R_new' M0 (Kd.R_lt (ro_ HO_4))) (L0 bl_)) (E0 bl_ hb);clear HO_3 HO_4 HB;obtain⟨HO_3,HO_4,C0,HB⟩:=n_;clear hb M0;obtain⟨T0,R0,S1⟩:=Kd.R_slice C0.out;subst S1));(try((first|rw [←be0.out] at M0|(simp only [Int.reduceToNat] at M0;rw [←be0.out] at M0));have n_:=pk4 (Kd.R_below (ro_ HO_3) hb) (Kd.R_elder' (ro_ HO_4) (Kd.R_base M0) hb) (Kd.R_lower (Kd.R_new' M0 (Kd.R_lt (ro_ HO_4))) (L0 bl_)) (E0 bl_ hb);clear HO_3 HO_4 HB;obtain⟨HO_3,HO_4,C0,HB⟩:=n_;clear hb M0;obtain⟨T0,R0,S1⟩:=Kd.R_slice C0.out;subst S1));(try((first|rw [←be3.out] at M0|(simp only [Int.reduceToNat] at M0;rw [←be3.out] at M0));have n_:=pk4 (Kd.R_below (ro_ HO_3) hb) (Kd.R_elder' (ro_ HO_4) (Kd.R_base M0) hb) (Kd.R_lower (Kd.R_new' M0 (Kd.R_lt (ro_ HO_4))) (L0 bl_)) (E0 bl_ hb);clear HO_3 HO_4 HB;obtain⟨HO_3,HO_4,C0,HB⟩:=n_;clear hb M0;obtain⟨T0,R0,S1⟩:=Kd.R_slice C0.out;subst S1));(try((first|rw [←bh2.out] at M0|(simp only [Int.reduceToNat] at M0;rw [←bh2.out] at M0));have n_:=pk4 (Kd.R_below (ro_ HO_3) hb) (Kd.R_elder' (ro_ HO_4) (Kd.R_base M0) hb) (Kd.R_lower (Kd.R_new' M0 (Kd.R_lt (ro_ HO_4))) (L0 bl_)) (E0 bl_ hb);clear HO_3 HO_4 HB;obtain⟨HO_3,HO_4,C0,HB⟩:=n_;clear hb M0;obtain⟨T0,R0,S1⟩:=Kd.R_slice C0.out;subst S1)))|((with_reducible refine G1 (b:=.append) (xs:=#[.tmp 88,.tmp 89]) rfl ?_);at_builtin;refine Kd.R_append_rows Kd.bool (w0:=w) w.heap.size rfl (.tmp 88) (.tmp 89) 39 4 (.bool false) 1 rfl Try.underlying39 D6 rfl (by decide) (by omega) u4 x4_1 ai5 _ _ _ (fun k_=>some k_≠(.slice T0 ai5.length R0:Value).ownBlock) (fun _=>False) rfl rfl ?aO ?aR (fun _ _ h=>h) (fun _ h=>h.elim) ?aF ?aB ?aS ?aL ?_;(case aR=>exact cr_ C0);(case aB=>exact bl_);(case aF=>exact(fun k_ hk=>Kd.fresh' (Kd.R_lt (ro_ C0)) k_ hk));(case aO=>exact(rt_ (Kd.R_mono HO_4.out (fun _ hk=>hk.2))));(case aS=>exact(L0 bl_));(case aL=>have:=LMc39.out;omega);intro z5 Z1 ho hb hg hat;rw [←cn7.out] at ho;have n_:=pk4 (Kd.R_over' (ro_ HO_3) (Kd.R_typed (ro_ HO_4)) (by decide) hg) (Kd.R_after (ok:=(fun _=>True)) (ro_ C0) hg hat) (hb) (ho);clear HO_3 C0 HB HO_4;obtain⟨HO_3,C0,HB,Q0⟩:=n_;clear ho hb hg hat)|((with_reducible refine G1 (b:=.append) (xs:=#[.tmp 88,.tmp 89]) rfl ?_);at_builtin;refine Kd.R_append_rows Kd.bool (w0:=w) w.heap.size rfl (.tmp 88) (.tmp 89) 39 4 (.bool false) 1 rfl Try.underlying39 D6 rfl (by decide) (by omega) u4 x4_1 ai6 _ _ _ (fun k_=>some k_≠(.slice T0 ai6.length R0:Value).ownBlock) (fun _=>False) rfl rfl ?aO ?aR (fun _ _ h=>h) (fun _ h=>h.elim) ?aF ?aB ?aS ?aL ?_;(case aR=>exact cr_ C0);(case aB=>exact bl_);(case aF=>exact(fun k_ hk=>Kd.fresh' (Kd.R_lt (ro_ C0)) k_ hk));(case aO=>exact(rt_ (Kd.R_mono HO_4.out (fun _ hk=>hk.2))));(case aS=>exact(L0 bl_));(case aL=>have:=LMc49.out;omega);intro z5 Z1 ho hb hg hat;rw [←ci7.out] at ho;have n_:=pk4 (Kd.R_over' (ro_ HO_3) (Kd.R_typed (ro_ HO_4)) (by decide) hg) (Kd.R_after (ok:=(fun _=>True)) (ro_ C0) hg hat) (hb) (ho);clear HO_3 C0 HB HO_4;obtain⟨HO_3,C0,HB,Q0⟩:=n_;clear ho hb hg hat)|((with_reducible refine G1 (b:=.append) (xs:=#[.tmp 88,.tmp 89]) rfl ?_);at_builtin;refine Kd.R_append_rows Kd.bool (w0:=w) w.heap.size rfl (.tmp 88) (.tmp 89) 39 4 (.bool false) 1 rfl Try.underlying39 D6 rfl (by decide) (by omega) u4 x4_1 ao0 _ _ _ (fun k_=>some k_≠(.slice T0 ao0.length R0:Value).ownBlock) (fun _=>False) rfl rfl ?aO ?aR (fun _ _ h=>h) (fun _ h=>h.elim) ?aF ?aB ?aS ?aL ?_;(case aR=>exact cr_ C0);(case aB=>exact bl_);(case aF=>exact(fun k_ hk=>Kd.fresh' (Kd.R_lt (ro_ C0)) k_ hk));(case aO=>exact(rt_ (Kd.R_mono HO_4.out (fun _ hk=>hk.2))));(case aS=>exact(L0 bl_));(case aL=>have:=LMc59.out;omega);intro z5 Z1 ho hb hg hat;rw [←cj9.out] at ho;have n_:=pk4 (Kd.R_over' (ro_ HO_3) (Kd.R_typed (ro_ HO_4)) (by decide) hg) (Kd.R_after (ok:=(fun _=>True)) (ro_ C0) hg hat) (hb) (ho);clear HO_3 C0 HB HO_4;obtain⟨HO_3,C0,HB,Q0⟩:=n_;clear ho hb hg hat)|((with_reducible refine G1 (b:=.append) (xs:=#[.tmp 88,.tmp 89]) rfl ?_);at_builtin;refine Kd.R_append_rows Kd.bool (w0:=w) w.heap.size rfl (.tmp 88) (.tmp 89) 39 4 (.bool false) 1 rfl Try.underlying39 D6 rfl (by decide) (by omega) u4 x4_1 au3 _ _ _ (fun k_=>some k_≠(.slice T0 au3.length R0:Value).ownBlock) (fun _=>False) rfl rfl ?aO ?aR (fun _ _ h=>h) (fun _ h=>h.elim) ?aF ?aB ?aS ?aL ?_;(case aR=>exact cr_ C0);(case aB=>exact bl_);(case aF=>exact(fun k_ hk=>Kd.fresh' (Kd.R_lt (ro_ C0)) k_ hk));(case aO=>exact(rt_ (Kd.R_mono HO_4.out (fun _ hk=>hk.2))));(case aS=>exact(L0 bl_));(case aL=>have:=LMc69.out;omega);intro z5 Z1 ho hb hg hat;rw [←cm5.out] at ho;have n_:=pk4 (Kd.R_over' (ro_ HO_3) (Kd.R_typed (ro_ HO_4)) (by decide) hg) (Kd.R_after (ok:=(fun _=>True)) (ro_ C0) hg hat) (hb) (ho);clear HO_3 C0 HB HO_4;obtain⟨HO_3,C0,HB,Q0⟩:=n_;clear ho hb hg hat)|(go_at_call 35;(with_reducible refine(q14.calls k3 (IntKind.u64.wrap (wrap64 ((wrap64 (x9_3 - x6_1)) - 1))) 4 af0 _ A40.out).mono ?_);rintro e F2 ⟨ae1,rfl,ho0,hb⟩;have n_:=pk5 (Kd.R_below (ro_ HO_3) hb) (Kd.R_elder' (ro_ C0) (Kd.R_base ho0) hb) (Kd.R_elder' (ro_ Q0) (Kd.R_base ho0) hb) (Kd.R_lower (Kd.R_new' (Kd.R_new' ho0 (Kd.R_lt (ro_ C0))) (Kd.R_lt (ro_ Q0))) (L0 bl_)) (E0 bl_ hb);clear HO_3 C0 Q0 HB;obtain⟨HO_3,C0,Q0,E1,HB⟩:=n_;(try clear hb ho0);obtain⟨X1,V1,U2⟩:=Kd.R_slice E1.out;subst U2)|(go_at_call 35;(with_reducible refine(q14.calls k3 (IntKind.u64.wrap (wrap64 ((wrap64 (x9_3 - x6_1)) - 1))) 4 ae4 _ A50.out).mono ?_);rintro e F2 ⟨ae1,rfl,ho0,hb⟩;have n_:=pk5 (Kd.R_below (ro_ HO_3) hb) (Kd.R_elder' (ro_ C0) (Kd.R_base ho0) hb) (Kd.R_elder' (ro_ Q0) (Kd.R_base ho0) hb) (Kd.R_lower (Kd.R_new' (Kd.R_new' ho0 (Kd.R_lt (ro_ C0))) (Kd.R_lt (ro_ Q0))) (L0 bl_)) (E0 bl_ hb);clear HO_3 C0 Q0 HB;obtain⟨HO_3,C0,Q0,E1,HB⟩:=n_;(try clear hb ho0);obtain⟨X1,V1,U2⟩:=Kd.R_slice E1.out;subst U2)|(go_at_call 35;(with_reducible refine(q14.calls k3 (IntKind.u64.wrap (wrap64 ((wrap64 (x9_3 - x6_1)) - 1))) 4 ah1 _ A60.out).mono ?_);rintro e F2 ⟨ae1,rfl,ho0,hb⟩;have n_:=pk5 (Kd.R_below (ro_ HO_3) hb) (Kd.R_elder' (ro_ C0) (Kd.R_base ho0) hb) (Kd.R_elder' (ro_ Q0) (Kd.R_base ho0) hb) (Kd.R_lower (Kd.R_new' (Kd.R_new' ho0 (Kd.R_lt (ro_ C0))) (Kd.R_lt (ro_ Q0))) (L0 bl_)) (E0 bl_ hb);clear HO_3 C0 Q0 HB;obtain⟨HO_3,C0,Q0,E1,HB⟩:=n_;(try clear hb ho0);obtain⟨X1,V1,U2⟩:=Kd.R_slice E1.out;subst U2)|(go_at_call 35;(with_reducible refine(q14.calls k3 (IntKind.u64.wrap (wrap64 ((wrap64 (x9_3 - x6_1)) - 1))) 4 am0 _ A70.out).mono ?_);rintro e F2 ⟨ae1,rfl,ho0,hb⟩;have n_:=pk5 (Kd.R_below (ro_ HO_3) hb) (Kd.R_elder' (ro_ C0) (Kd.R_base ho0) hb) (Kd.R_elder' (ro_ Q0) (Kd.R_base ho0) hb) (Kd.R_lower (Kd.R_new' (Kd.R_new' ho0 (Kd.R_lt (ro_ C0))) (Kd.R_lt (ro_ Q0))) (L0 bl_)) (E0 bl_ hb);clear HO_3 C0 Q0 HB;obtain⟨HO_3,C0,Q0,E1,HB⟩:=n_;(try clear hb ho0);obtain⟨X1,V1,U2⟩:=Kd.R_slice E1.out;subst U2)|((with_reducible refine G1 (b:=.append) (xs:=#[.tmp 91,.tmp 94]) rfl ?_);at_builtin;refine Kd.R_append_rows Kd.bool (w0:=w) w.heap.size rfl (.tmp 91) (.tmp 94) 39 4 (.bool false) 1 rfl Try.underlying39 D6 rfl (by decide) (by omega) z5 ar8 af0 _ _ _ (fun k_=>some k_≠(.slice T0 ai5.length R0:Value).ownBlock∧some k_≠(.slice X1 af0.length V1:Value).ownBlock) (fun _=>False) rfl rfl ?aO ?aR (fun _ _ h=>h) (fun _ h=>h.elim) ?aF ?aB ?aS ?aL ?_;(case aR=>exact cr_ E1);(case aB=>exact bl_);(case aF=>exact(fun k_ hk=>⟨Kd.fresh' (Kd.R_lt (ro_ C0)) k_ hk,Kd.fresh' (Kd.R_lt (ro_ E1)) k_ hk⟩));(case aO=>exact(ro_ Q0));(case aS=>exact(L0 bl_));(case aL=>have:=LMc41.out;omega);intro ap6 X2 ho hb hg hat;rw [←cr0.out] at ho;have n_:=pk5 (Kd.R_over' (ro_ HO_3) (Kd.R_typed (ro_ Q0)) (by decide) hg) (Kd.R_after (ok:=(fun k_=>some k_≠(.slice X1 af0.length V1:Value).ownBlock)) (rt_ (Kd.R_mono C0.out (fun _ hk=>⟨hk.2,hk.1.2⟩))) hg hat) (Kd.R_after (ok:=(fun k_=>some k_≠(.slice T0 ai5.length R0:Value).ownBlock)) (rt_ (Kd.R_mono E1.out (fun _ hk=>⟨hk.1.2,hk.2⟩))) hg hat) (hb) (ho);clear HO_3 C0 E1 HB Q0;obtain⟨HO_3,C0,E1,HB,S5⟩:=n_;clear ho hb hg hat)|((with_reducible refine G1 (b:=.append) (xs:=#[.tmp 91,.tmp 94]) rfl ?_);at_builtin;refine Kd.R_append_rows Kd.bool (w0:=w) w.heap.size rfl (.tmp 91) (.tmp 94) 39 4 (.bool false) 1 rfl Try.underlying39 D6 rfl (by decide) (by omega) z5 at5 ae4 _ _ _ (fun k_=>some k_≠(.slice T0 ai6.length R0:Value).ownBlock∧some k_≠(.slice X1 ae4.length V1:Value).ownBlock) (fun _=>False) rfl rfl ?aO ?aR (fun _ _ h=>h) (fun _ h=>h.elim) ?aF ?aB ?aS ?aL ?_;(case aR=>exact cr_ E1);(case aB=>exact bl_);(case aF=>exact(fun k_ hk=>⟨Kd.fresh' (Kd.R_lt (ro_ C0)) k_ hk,Kd.fresh' (Kd.R_lt (ro_ E1)) k_ hk⟩));(case aO=>exact(ro_ Q0));(case aS=>exact(L0 bl_));(case aL=>have:=LMc51.out;omega);intro ap6 X2 ho hb hg hat;rw [←cr2.out] at ho;have n_:=pk5 (Kd.R_over' (ro_ HO_3) (Kd.R_typed (ro_ Q0)) (by decide) hg) (Kd.R_after (ok:=(fun k_=>some k_≠(.slice X1 ae4.length V1:Value).ownBlock)) (rt_ (Kd.R_mono C0.out (fun _ hk=>⟨hk.2,hk.1.2⟩))) hg hat) (Kd.R_after (ok:=(fun k_=>some k_≠(.slice T0 ai6.length R0:Value).ownBlock)) (rt_ (Kd.R_mono E1.out (fun _ hk=>⟨hk.1.2,hk.2⟩))) hg hat) (hb) (ho);clear HO_3 C0 E1 HB Q0;obtain⟨HO_3,C0,E1,HB,S5⟩:=n_;clear ho hb hg hat)|((with_reducible refine G1 (b:=.append) (xs:=#[.tmp 91,.tmp 94]) rfl ?_);at_builtin;refine Kd.R_append_rows Kd.bool (w0:=w) w.heap.size rfl (.tmp 91) (.tmp 94) 39 4 (.bool false) 1 rfl Try.underlying39 D6 rfl (by decide) (by omega) z5 aD3 ah1 _ _ _ (fun k_=>some k_≠(.slice T0 ao0.length R0:Value).ownBlock∧some k_≠(.slice X1 ah1.length V1:Value).ownBlock) (fun _=>False) rfl rfl ?aO ?aR (fun _ _ h=>h) (fun _ h=>h.elim) ?aF ?aB ?aS ?aL ?_;(case aR=>exact cr_ E1);(case aB=>exact bl_);(case aF=>exact(fun k_ hk=>⟨Kd.fresh' (Kd.R_lt (ro_ C0)) k_ hk,Kd.fresh' (Kd.R_lt (ro_ E1)) k_ hk⟩));(case aO=>exact(ro_ Q0));(case aS=>exact(L0 bl_));(case aL=>have:=LMc61.out;omega);intro ap6 X2 ho hb hg hat;rw [←cl1.out] at ho;have n_:=pk5 (Kd.R_over' (ro_ HO_3) (Kd.R_typed (ro_ Q0)) (by decide) hg) (Kd.R_after (ok:=(fun k_=>some k_≠(.slice X1 ah1.length V1:Value).ownBlock)) (rt_ (Kd.R_mono C0.out (fun _ hk=>⟨hk.2,hk.1.2⟩))) hg hat) (Kd.R_after (ok:=(fun k_=>some k_≠(.slice T0 ao0.length R0:Value).ownBlock)) (rt_ (Kd.R_mono E1.out (fun _ hk=>⟨hk.1.2,hk.2⟩))) hg hat) (hb) (ho);clear HO_3 C0 E1 HB Q0;obtain⟨HO_3,C0,E1,HB,S5⟩:=n_;clear ho hb hg hat)|((with_reducible refine G1 (b:=.append) (xs:=#[.tmp 91,.tmp 94]) rfl ?_);at_builtin;refine Kd.R_append_rows Kd.bool (w0:=w) w.heap.size rfl (.tmp 91) (.tmp 94) 39 4 (.bool false) 1 rfl Try.underlying39 D6 rfl (by decide) (by omega) z5 aO1 am0 _ _ _ (fun k_=>some k_≠(.slice T0 au3.length R0:Value).ownBlock∧some k_≠(.slice X1 am0.length V1:Value).ownBlock) (fun _=>False) rfl rfl ?aO ?aR (fun _ _ h=>h) (fun _ h=>h.elim) ?aF ?aB ?aS ?aL ?_;(case aR=>exact cr_ E1);(case aB=>exact bl_);(case aF=>exact(fun k_ hk=>⟨Kd.fresh' (Kd.R_lt (ro_ C0)) k_ hk,Kd.fresh' (Kd.R_lt (ro_ E1)) k_ hk⟩));(case aO=>exact(ro_ Q0));(case aS=>exact(L0 bl_));(case aL=>have:=LMc71.out;omega);intro ap6 X2 ho hb hg hat;rw [←cr3.out] at ho;have n_:=pk5 (Kd.R_over' (ro_ HO_3) (Kd.R_typed (ro_ Q0)) (by decide) hg) (Kd.R_after (ok:=(fun k_=>some k_≠(.slice X1 am0.length V1:Value).ownBlock)) (rt_ (Kd.R_mono C0.out (fun _ hk=>⟨hk.2,hk.1.2⟩))) hg hat) (Kd.R_after (ok:=(fun k_=>some k_≠(.slice T0 au3.length R0:Value).ownBlock)) (rt_ (Kd.R_mono E1.out (fun _ hk=>⟨hk.1.2,hk.2⟩))) hg hat) (hb) (ho);clear HO_3 C0 E1 HB Q0;obtain⟨HO_3,C0,E1,HB,S5⟩:=n_;clear ho hb hg hat))
               repeat(go_quiet (first|((with_reducible refine X0 (N:=89) rfl ?_);refine Kd.R_lit Kd.bool _ 4 ?hg (N:=89) ?hd (xs:=([false,false]:List Bool)) (inner:=[.bool false,.bool false]) (ok:=fun _=>True) (okp:=fun _=>True) ?hr ?hp (fun _ hk=>hk) trivial (Below.refl _ _) (Nat.le_refl _) (by simp) ?_;(case hd=>rfl);(case hg=>rfl);(case hr=>first|(go_simp;done)|(go_simp;rfl));(case hp=>exact(Reps.one (show Kd.M Kd.bool _ _ _ false [.bool false] from rfl) (Reps.one (show Kd.M Kd.bool _ _ _ false [.bool false] from rfl) (Reps.none _ _))));intro M4 U1 M0 hb hg_ hnew_;clear hg_ hnew_;(try((first|rw [←bh4.out] at M0|(simp only [Int.reduceToNat] at M0;rw [←bh4.out] at M0));have n_:=pk4 (Kd.R_below (ro_ HO_3) hb) (Kd.R_elder' (ro_ HO_4) (Kd.R_base M0) hb) (Kd.R_lower (Kd.R_new' M0 (Kd.R_lt (ro_ HO_4))) (L0 bl_)) (E0 bl_ hb);clear HO_3 HO_4 HB;obtain⟨HO_3,HO_4,C0,HB⟩:=n_;clear hb M0;obtain⟨T0,R0,S1⟩:=Kd.R_slice C0.out;subst S1));(try((first|rw [←be0.out] at M0|(simp only [Int.reduceToNat] at M0;rw [←be0.out] at M0));have n_:=pk4 (Kd.R_below (ro_ HO_3) hb) (Kd.R_elder' (ro_ HO_4) (Kd.R_base M0) hb) (Kd.R_lower (Kd.R_new' M0 (Kd.R_lt (ro_ HO_4))) (L0 bl_)) (E0 bl_ hb);clear HO_3 HO_4 HB;obtain⟨HO_3,HO_4,C0,HB⟩:=n_;clear hb M0;obtain⟨T0,R0,S1⟩:=Kd.R_slice C0.out;subst S1));(try((first|rw [←be3.out] at M0|(simp only [Int.reduceToNat] at M0;rw [←be3.out] at M0));have n_:=pk4 (Kd.R_below (ro_ HO_3) hb) (Kd.R_elder' (ro_ HO_4) (Kd.R_base M0) hb) (Kd.R_lower (Kd.R_new' M0 (Kd.R_lt (ro_ HO_4))) (L0 bl_)) (E0 bl_ hb);clear HO_3 HO_4 HB;obtain⟨HO_3,HO_4,C0,HB⟩:=n_;clear hb M0;obtain⟨T0,R0,S1⟩:=Kd.R_slice C0.out;subst S1));(try((first|rw [←bh2.out] at M0|(simp only [Int.reduceToNat] at M0;rw [←bh2.out] at M0));have n_:=pk4 (Kd.R_below (ro_ HO_3) hb) (Kd.R_elder' (ro_ HO_4) (Kd.R_base M0) hb) (Kd.R_lower (Kd.R_new' M0 (Kd.R_lt (ro_ HO_4))) (L0 bl_)) (E0 bl_ hb);clear HO_3 HO_4 HB;obtain⟨HO_3,HO_4,C0,HB⟩:=n_;clear hb M0;obtain⟨T0,R0,S1⟩:=Kd.R_slice C0.out;subst S1)))|((with_reducible refine G1 (b:=.append) (xs:=#[.tmp 88,.tmp 89]) rfl ?_);at_builtin;refine Kd.R_append_rows Kd.bool (w0:=w) w.heap.size rfl (.tmp 88) (.tmp 89) 39 4 (.bool false) 1 rfl Try.underlying39 D6 rfl (by decide) (by omega) u4 x4_1 ai5 _ _ _ (fun k_=>some k_≠(.slice T0 ai5.length R0:Value).ownBlock) (fun _=>False) rfl rfl ?aO ?aR (fun _ _ h=>h) (fun _ h=>h.elim) ?aF ?aB ?aS ?aL ?_;(case aR=>exact cr_ C0);(case aB=>exact bl_);(case aF=>exact(fun k_ hk=>Kd.fresh' (Kd.R_lt (ro_ C0)) k_ hk));(case aO=>exact(rt_ (Kd.R_mono HO_4.out (fun _ hk=>hk.2))));(case aS=>exact(L0 bl_));(case aL=>have:=LMc39.out;omega);intro z5 Z1 ho hb hg hat;rw [←cn7.out] at ho;have n_:=pk4 (Kd.R_over' (ro_ HO_3) (Kd.R_typed (ro_ HO_4)) (by decide) hg) (Kd.R_after (ok:=(fun _=>True)) (ro_ C0) hg hat) (hb) (ho);clear HO_3 C0 HB HO_4;obtain⟨HO_3,C0,HB,Q0⟩:=n_;clear ho hb hg hat)|((with_reducible refine G1 (b:=.append) (xs:=#[.tmp 88,.tmp 89]) rfl ?_);at_builtin;refine Kd.R_append_rows Kd.bool (w0:=w) w.heap.size rfl (.tmp 88) (.tmp 89) 39 4 (.bool false) 1 rfl Try.underlying39 D6 rfl (by decide) (by omega) u4 x4_1 ai6 _ _ _ (fun k_=>some k_≠(.slice T0 ai6.length R0:Value).ownBlock) (fun _=>False) rfl rfl ?aO ?aR (fun _ _ h=>h) (fun _ h=>h.elim) ?aF ?aB ?aS ?aL ?_;(case aR=>exact cr_ C0);(case aB=>exact bl_);(case aF=>exact(fun k_ hk=>Kd.fresh' (Kd.R_lt (ro_ C0)) k_ hk));(case aO=>exact(rt_ (Kd.R_mono HO_4.out (fun _ hk=>hk.2))));(case aS=>exact(L0 bl_));(case aL=>have:=LMc49.out;omega);intro z5 Z1 ho hb hg hat;rw [←ci7.out] at ho;have n_:=pk4 (Kd.R_over' (ro_ HO_3) (Kd.R_typed (ro_ HO_4)) (by decide) hg) (Kd.R_after (ok:=(fun _=>True)) (ro_ C0) hg hat) (hb) (ho);clear HO_3 C0 HB HO_4;obtain⟨HO_3,C0,HB,Q0⟩:=n_;clear ho hb hg hat)|((with_reducible refine G1 (b:=.append) (xs:=#[.tmp 88,.tmp 89]) rfl ?_);at_builtin;refine Kd.R_append_rows Kd.bool (w0:=w) w.heap.size rfl (.tmp 88) (.tmp 89) 39 4 (.bool false) 1 rfl Try.underlying39 D6 rfl (by decide) (by omega) u4 x4_1 ao0 _ _ _ (fun k_=>some k_≠(.slice T0 ao0.length R0:Value).ownBlock) (fun _=>False) rfl rfl ?aO ?aR (fun _ _ h=>h) (fun _ h=>h.elim) ?aF ?aB ?aS ?aL ?_;(case aR=>exact cr_ C0);(case aB=>exact bl_);(case aF=>exact(fun k_ hk=>Kd.fresh' (Kd.R_lt (ro_ C0)) k_ hk));(case aO=>exact(rt_ (Kd.R_mono HO_4.out (fun _ hk=>hk.2))));(case aS=>exact(L0 bl_));(case aL=>have:=LMc59.out;omega);intro z5 Z1 ho hb hg hat;rw [←cj9.out] at ho;have n_:=pk4 (Kd.R_over' (ro_ HO_3) (Kd.R_typed (ro_ HO_4)) (by decide) hg) (Kd.R_after (ok:=(fun _=>True)) (ro_ C0) hg hat) (hb) (ho);clear HO_3 C0 HB HO_4;obtain⟨HO_3,C0,HB,Q0⟩:=n_;clear ho hb hg hat)|((with_reducible refine G1 (b:=.append) (xs:=#[.tmp 88,.tmp 89]) rfl ?_);at_builtin;refine Kd.R_append_rows Kd.bool (w0:=w) w.heap.size rfl (.tmp 88) (.tmp 89) 39 4 (.bool false) 1 rfl Try.underlying39 D6 rfl (by decide) (by omega) u4 x4_1 au3 _ _ _ (fun k_=>some k_≠(.slice T0 au3.length R0:Value).ownBlock) (fun _=>False) rfl rfl ?aO ?aR (fun _ _ h=>h) (fun _ h=>h.elim) ?aF ?aB ?aS ?aL ?_;(case aR=>exact cr_ C0);(case aB=>exact bl_);(case aF=>exact(fun k_ hk=>Kd.fresh' (Kd.R_lt (ro_ C0)) k_ hk));(case aO=>exact(rt_ (Kd.R_mono HO_4.out (fun _ hk=>hk.2))));(case aS=>exact(L0 bl_));(case aL=>have:=LMc69.out;omega);intro z5 Z1 ho hb hg hat;rw [←cm5.out] at ho;have n_:=pk4 (Kd.R_over' (ro_ HO_3) (Kd.R_typed (ro_ HO_4)) (by decide) hg) (Kd.R_after (ok:=(fun _=>True)) (ro_ C0) hg hat) (hb) (ho);clear HO_3 C0 HB HO_4;obtain⟨HO_3,C0,HB,Q0⟩:=n_;clear ho hb hg hat)|(go_at_call 35;(with_reducible refine(q14.calls k3 (IntKind.u64.wrap (wrap64 ((wrap64 (x9_3 - x6_1)) - 1))) 4 af0 _ A40.out).mono ?_);rintro e F2 ⟨ae1,rfl,ho0,hb⟩;have n_:=pk5 (Kd.R_below (ro_ HO_3) hb) (Kd.R_elder' (ro_ C0) (Kd.R_base ho0) hb) (Kd.R_elder' (ro_ Q0) (Kd.R_base ho0) hb) (Kd.R_lower (Kd.R_new' (Kd.R_new' ho0 (Kd.R_lt (ro_ C0))) (Kd.R_lt (ro_ Q0))) (L0 bl_)) (E0 bl_ hb);clear HO_3 C0 Q0 HB;obtain⟨HO_3,C0,Q0,E1,HB⟩:=n_;(try clear hb ho0);obtain⟨X1,V1,U2⟩:=Kd.R_slice E1.out;subst U2)|(go_at_call 35;(with_reducible refine(q14.calls k3 (IntKind.u64.wrap (wrap64 ((wrap64 (x9_3 - x6_1)) - 1))) 4 ae4 _ A50.out).mono ?_);rintro e F2 ⟨ae1,rfl,ho0,hb⟩;have n_:=pk5 (Kd.R_below (ro_ HO_3) hb) (Kd.R_elder' (ro_ C0) (Kd.R_base ho0) hb) (Kd.R_elder' (ro_ Q0) (Kd.R_base ho0) hb) (Kd.R_lower (Kd.R_new' (Kd.R_new' ho0 (Kd.R_lt (ro_ C0))) (Kd.R_lt (ro_ Q0))) (L0 bl_)) (E0 bl_ hb);clear HO_3 C0 Q0 HB;obtain⟨HO_3,C0,Q0,E1,HB⟩:=n_;(try clear hb ho0);obtain⟨X1,V1,U2⟩:=Kd.R_slice E1.out;subst U2)|(go_at_call 35;(with_reducible refine(q14.calls k3 (IntKind.u64.wrap (wrap64 ((wrap64 (x9_3 - x6_1)) - 1))) 4 ah1 _ A60.out).mono ?_);rintro e F2 ⟨ae1,rfl,ho0,hb⟩;have n_:=pk5 (Kd.R_below (ro_ HO_3) hb) (Kd.R_elder' (ro_ C0) (Kd.R_base ho0) hb) (Kd.R_elder' (ro_ Q0) (Kd.R_base ho0) hb) (Kd.R_lower (Kd.R_new' (Kd.R_new' ho0 (Kd.R_lt (ro_ C0))) (Kd.R_lt (ro_ Q0))) (L0 bl_)) (E0 bl_ hb);clear HO_3 C0 Q0 HB;obtain⟨HO_3,C0,Q0,E1,HB⟩:=n_;(try clear hb ho0);obtain⟨X1,V1,U2⟩:=Kd.R_slice E1.out;subst U2)|(go_at_call 35;(with_reducible refine(q14.calls k3 (IntKind.u64.wrap (wrap64 ((wrap64 (x9_3 - x6_1)) - 1))) 4 am0 _ A70.out).mono ?_);rintro e F2 ⟨ae1,rfl,ho0,hb⟩;have n_:=pk5 (Kd.R_below (ro_ HO_3) hb) (Kd.R_elder' (ro_ C0) (Kd.R_base ho0) hb) (Kd.R_elder' (ro_ Q0) (Kd.R_base ho0) hb) (Kd.R_lower (Kd.R_new' (Kd.R_new' ho0 (Kd.R_lt (ro_ C0))) (Kd.R_lt (ro_ Q0))) (L0 bl_)) (E0 bl_ hb);clear HO_3 C0 Q0 HB;obtain⟨HO_3,C0,Q0,E1,HB⟩:=n_;(try clear hb ho0);obtain⟨X1,V1,U2⟩:=Kd.R_slice E1.out;subst U2)|((with_reducible refine G1 (b:=.append) (xs:=#[.tmp 91,.tmp 94]) rfl ?_);at_builtin;refine Kd.R_append_rows Kd.bool (w0:=w) w.heap.size rfl (.tmp 91) (.tmp 94) 39 4 (.bool false) 1 rfl Try.underlying39 D6 rfl (by decide) (by omega) z5 ar8 af0 _ _ _ (fun k_=>some k_≠(.slice T0 ai5.length R0:Value).ownBlock∧some k_≠(.slice X1 af0.length V1:Value).ownBlock) (fun _=>False) rfl rfl ?aO ?aR (fun _ _ h=>h) (fun _ h=>h.elim) ?aF ?aB ?aS ?aL ?_;(case aR=>exact cr_ E1);(case aB=>exact bl_);(case aF=>exact(fun k_ hk=>⟨Kd.fresh' (Kd.R_lt (ro_ C0)) k_ hk,Kd.fresh' (Kd.R_lt (ro_ E1)) k_ hk⟩));(case aO=>exact(ro_ Q0));(case aS=>exact(L0 bl_));(case aL=>have:=LMc41.out;omega);intro ap6 X2 ho hb hg hat;rw [←cr0.out] at ho;have n_:=pk5 (Kd.R_over' (ro_ HO_3) (Kd.R_typed (ro_ Q0)) (by decide) hg) (Kd.R_after (ok:=(fun k_=>some k_≠(.slice X1 af0.length V1:Value).ownBlock)) (rt_ (Kd.R_mono C0.out (fun _ hk=>⟨hk.2,hk.1.2⟩))) hg hat) (Kd.R_after (ok:=(fun k_=>some k_≠(.slice T0 ai5.length R0:Value).ownBlock)) (rt_ (Kd.R_mono E1.out (fun _ hk=>⟨hk.1.2,hk.2⟩))) hg hat) (hb) (ho);clear HO_3 C0 E1 HB Q0;obtain⟨HO_3,C0,E1,HB,S5⟩:=n_;clear ho hb hg hat)|((with_reducible refine G1 (b:=.append) (xs:=#[.tmp 91,.tmp 94]) rfl ?_);at_builtin;refine Kd.R_append_rows Kd.bool (w0:=w) w.heap.size rfl (.tmp 91) (.tmp 94) 39 4 (.bool false) 1 rfl Try.underlying39 D6 rfl (by decide) (by omega) z5 at5 ae4 _ _ _ (fun k_=>some k_≠(.slice T0 ai6.length R0:Value).ownBlock∧some k_≠(.slice X1 ae4.length V1:Value).ownBlock) (fun _=>False) rfl rfl ?aO ?aR (fun _ _ h=>h) (fun _ h=>h.elim) ?aF ?aB ?aS ?aL ?_;(case aR=>exact cr_ E1);(case aB=>exact bl_);(case aF=>exact(fun k_ hk=>⟨Kd.fresh' (Kd.R_lt (ro_ C0)) k_ hk,Kd.fresh' (Kd.R_lt (ro_ E1)) k_ hk⟩));(case aO=>exact(ro_ Q0));(case aS=>exact(L0 bl_));(case aL=>have:=LMc51.out;omega);intro ap6 X2 ho hb hg hat;rw [←cr2.out] at ho;have n_:=pk5 (Kd.R_over' (ro_ HO_3) (Kd.R_typed (ro_ Q0)) (by decide) hg) (Kd.R_after (ok:=(fun k_=>some k_≠(.slice X1 ae4.length V1:Value).ownBlock)) (rt_ (Kd.R_mono C0.out (fun _ hk=>⟨hk.2,hk.1.2⟩))) hg hat) (Kd.R_after (ok:=(fun k_=>some k_≠(.slice T0 ai6.length R0:Value).ownBlock)) (rt_ (Kd.R_mono E1.out (fun _ hk=>⟨hk.1.2,hk.2⟩))) hg hat) (hb) (ho);clear HO_3 C0 E1 HB Q0;obtain⟨HO_3,C0,E1,HB,S5⟩:=n_;clear ho hb hg hat)|((with_reducible refine G1 (b:=.append) (xs:=#[.tmp 91,.tmp 94]) rfl ?_);at_builtin;refine Kd.R_append_rows Kd.bool (w0:=w) w.heap.size rfl (.tmp 91) (.tmp 94) 39 4 (.bool false) 1 rfl Try.underlying39 D6 rfl (by decide) (by omega) z5 aD3 ah1 _ _ _ (fun k_=>some k_≠(.slice T0 ao0.length R0:Value).ownBlock∧some k_≠(.slice X1 ah1.length V1:Value).ownBlock) (fun _=>False) rfl rfl ?aO ?aR (fun _ _ h=>h) (fun _ h=>h.elim) ?aF ?aB ?aS ?aL ?_;(case aR=>exact cr_ E1);(case aB=>exact bl_);(case aF=>exact(fun k_ hk=>⟨Kd.fresh' (Kd.R_lt (ro_ C0)) k_ hk,Kd.fresh' (Kd.R_lt (ro_ E1)) k_ hk⟩));(case aO=>exact(ro_ Q0));(case aS=>exact(L0 bl_));(case aL=>have:=LMc61.out;omega);intro ap6 X2 ho hb hg hat;rw [←cl1.out] at ho;have n_:=pk5 (Kd.R_over' (ro_ HO_3) (Kd.R_typed (ro_ Q0)) (by decide) hg) (Kd.R_after (ok:=(fun k_=>some k_≠(.slice X1 ah1.length V1:Value).ownBlock)) (rt_ (Kd.R_mono C0.out (fun _ hk=>⟨hk.2,hk.1.2⟩))) hg hat) (Kd.R_after (ok:=(fun k_=>some k_≠(.slice T0 ao0.length R0:Value).ownBlock)) (rt_ (Kd.R_mono E1.out (fun _ hk=>⟨hk.1.2,hk.2⟩))) hg hat) (hb) (ho);clear HO_3 C0 E1 HB Q0;obtain⟨HO_3,C0,E1,HB,S5⟩:=n_;clear ho hb hg hat)|((with_reducible refine G1 (b:=.append) (xs:=#[.tmp 91,.tmp 94]) rfl ?_);at_builtin;refine Kd.R_append_rows Kd.bool (w0:=w) w.heap.size rfl (.tmp 91) (.tmp 94) 39 4 (.bool false) 1 rfl Try.underlying39 D6 rfl (by decide) (by omega) z5 aO1 am0 _ _ _ (fun k_=>some k_≠(.slice T0 au3.length R0:Value).ownBlock∧some k_≠(.slice X1 am0.length V1:Value).ownBlock) (fun _=>False) rfl rfl ?aO ?aR (fun _ _ h=>h) (fun _ h=>h.elim) ?aF ?aB ?aS ?aL ?_;(case aR=>exact cr_ E1);(case aB=>exact bl_);(case aF=>exact(fun k_ hk=>⟨Kd.fresh' (Kd.R_lt (ro_ C0)) k_ hk,Kd.fresh' (Kd.R_lt (ro_ E1)) k_ hk⟩));(case aO=>exact(ro_ Q0));(case aS=>exact(L0 bl_));(case aL=>have:=LMc71.out;omega);intro ap6 X2 ho hb hg hat;rw [←cr3.out] at ho;have n_:=pk5 (Kd.R_over' (ro_ HO_3) (Kd.R_typed (ro_ Q0)) (by decide) hg) (Kd.R_after (ok:=(fun k_=>some k_≠(.slice X1 am0.length V1:Value).ownBlock)) (rt_ (Kd.R_mono C0.out (fun _ hk=>⟨hk.2,hk.1.2⟩))) hg hat) (Kd.R_after (ok:=(fun k_=>some k_≠(.slice T0 au3.length R0:Value).ownBlock)) (rt_ (Kd.R_mono E1.out (fun _ hk=>⟨hk.1.2,hk.2⟩))) hg hat) (hb) (ho);clear HO_3 C0 E1 HB Q0;obtain⟨HO_3,C0,E1,HB,S5⟩:=n_;clear ho hb hg hat));try go_wp2_with (first|((with_reducible refine X0 (N:=89) rfl ?_);refine Kd.R_lit Kd.bool _ 4 ?hg (N:=89) ?hd (xs:=([false,false]:List Bool)) (inner:=[.bool false,.bool false]) (ok:=fun _=>True) (okp:=fun _=>True) ?hr ?hp (fun _ hk=>hk) trivial (Below.refl _ _) (Nat.le_refl _) (by simp) ?_;(case hd=>rfl);(case hg=>rfl);(case hr=>first|(go_simp;done)|(go_simp;rfl));(case hp=>exact(Reps.one (show Kd.M Kd.bool _ _ _ false [.bool false] from rfl) (Reps.one (show Kd.M Kd.bool _ _ _ false [.bool false] from rfl) (Reps.none _ _))));intro M4 U1 M0 hb hg_ hnew_;clear hg_ hnew_;(try((first|rw [←bh4.out] at M0|(simp only [Int.reduceToNat] at M0;rw [←bh4.out] at M0));have n_:=pk4 (Kd.R_below (ro_ HO_3) hb) (Kd.R_elder' (ro_ HO_4) (Kd.R_base M0) hb) (Kd.R_lower (Kd.R_new' M0 (Kd.R_lt (ro_ HO_4))) (L0 bl_)) (E0 bl_ hb);clear HO_3 HO_4 HB;obtain⟨HO_3,HO_4,C0,HB⟩:=n_;clear hb M0;obtain⟨T0,R0,S1⟩:=Kd.R_slice C0.out;subst S1));(try((first|rw [←be0.out] at M0|(simp only [Int.reduceToNat] at M0;rw [←be0.out] at M0));have n_:=pk4 (Kd.R_below (ro_ HO_3) hb) (Kd.R_elder' (ro_ HO_4) (Kd.R_base M0) hb) (Kd.R_lower (Kd.R_new' M0 (Kd.R_lt (ro_ HO_4))) (L0 bl_)) (E0 bl_ hb);clear HO_3 HO_4 HB;obtain⟨HO_3,HO_4,C0,HB⟩:=n_;clear hb M0;obtain⟨T0,R0,S1⟩:=Kd.R_slice C0.out;subst S1));(try((first|rw [←be3.out] at M0|(simp only [Int.reduceToNat] at M0;rw [←be3.out] at M0));have n_:=pk4 (Kd.R_below (ro_ HO_3) hb) (Kd.R_elder' (ro_ HO_4) (Kd.R_base M0) hb) (Kd.R_lower (Kd.R_new' M0 (Kd.R_lt (ro_ HO_4))) (L0 bl_)) (E0 bl_ hb);clear HO_3 HO_4 HB;obtain⟨HO_3,HO_4,C0,HB⟩:=n_;clear hb M0;obtain⟨T0,R0,S1⟩:=Kd.R_slice C0.out;subst S1));(try((first|rw [←bh2.out] at M0|(simp only [Int.reduceToNat] at M0;rw [←bh2.out] at M0));have n_:=pk4 (Kd.R_below (ro_ HO_3) hb) (Kd.R_elder' (ro_ HO_4) (Kd.R_base M0) hb) (Kd.R_lower (Kd.R_new' M0 (Kd.R_lt (ro_ HO_4))) (L0 bl_)) (E0 bl_ hb);clear HO_3 HO_4 HB;obtain⟨HO_3,HO_4,C0,HB⟩:=n_;clear hb M0;obtain⟨T0,R0,S1⟩:=Kd.R_slice C0.out;subst S1)))|((with_reducible refine G1 (b:=.append) (xs:=#[.tmp 88,.tmp 89]) rfl ?_);at_builtin;refine Kd.R_append_rows Kd.bool (w0:=w) w.heap.size rfl (.tmp 88) (.tmp 89) 39 4 (.bool false) 1 rfl Try.underlying39 D6 rfl (by decide) (by omega) u4 x4_1 ai5 _ _ _ (fun k_=>some k_≠(.slice T0 ai5.length R0:Value).ownBlock) (fun _=>False) rfl rfl ?aO ?aR (fun _ _ h=>h) (fun _ h=>h.elim) ?aF ?aB ?aS ?aL ?_;(case aR=>exact cr_ C0);(case aB=>exact bl_);(case aF=>exact(fun k_ hk=>Kd.fresh' (Kd.R_lt (ro_ C0)) k_ hk));(case aO=>exact(rt_ (Kd.R_mono HO_4.out (fun _ hk=>hk.2))));(case aS=>exact(L0 bl_));(case aL=>have:=LMc39.out;omega);intro z5 Z1 ho hb hg hat;rw [←cn7.out] at ho;have n_:=pk4 (Kd.R_over' (ro_ HO_3) (Kd.R_typed (ro_ HO_4)) (by decide) hg) (Kd.R_after (ok:=(fun _=>True)) (ro_ C0) hg hat) (hb) (ho);clear HO_3 C0 HB HO_4;obtain⟨HO_3,C0,HB,Q0⟩:=n_;clear ho hb hg hat)|((with_reducible refine G1 (b:=.append) (xs:=#[.tmp 88,.tmp 89]) rfl ?_);at_builtin;refine Kd.R_append_rows Kd.bool (w0:=w) w.heap.size rfl (.tmp 88) (.tmp 89) 39 4 (.bool false) 1 rfl Try.underlying39 D6 rfl (by decide) (by omega) u4 x4_1 ai6 _ _ _ (fun k_=>some k_≠(.slice T0 ai6.length R0:Value).ownBlock) (fun _=>False) rfl rfl ?aO ?aR (fun _ _ h=>h) (fun _ h=>h.elim) ?aF ?aB ?aS ?aL ?_;(case aR=>exact cr_ C0);(case aB=>exact bl_);(case aF=>exact(fun k_ hk=>Kd.fresh' (Kd.R_lt (ro_ C0)) k_ hk));(case aO=>exact(rt_ (Kd.R_mono HO_4.out (fun _ hk=>hk.2))));(case aS=>exact(L0 bl_));(case aL=>have:=LMc49.out;omega);intro z5 Z1 ho hb hg hat;rw [←ci7.out] at ho;have n_:=pk4 (Kd.R_over' (ro_ HO_3) (Kd.R_typed (ro_ HO_4)) (by decide) hg) (Kd.R_after (ok:=(fun _=>True)) (ro_ C0) hg hat) (hb) (ho);clear HO_3 C0 HB HO_4;obtain⟨HO_3,C0,HB,Q0⟩:=n_;clear ho hb hg hat)|((with_reducible refine G1 (b:=.append) (xs:=#[.tmp 88,.tmp 89]) rfl ?_);at_builtin;refine Kd.R_append_rows Kd.bool (w0:=w) w.heap.size rfl (.tmp 88) (.tmp 89) 39 4 (.bool false) 1 rfl Try.underlying39 D6 rfl (by decide) (by omega) u4 x4_1 ao0 _ _ _ (fun k_=>some k_≠(.slice T0 ao0.length R0:Value).ownBlock) (fun _=>False) rfl rfl ?aO ?aR (fun _ _ h=>h) (fun _ h=>h.elim) ?aF ?aB ?aS ?aL ?_;(case aR=>exact cr_ C0);(case aB=>exact bl_);(case aF=>exact(fun k_ hk=>Kd.fresh' (Kd.R_lt (ro_ C0)) k_ hk));(case aO=>exact(rt_ (Kd.R_mono HO_4.out (fun _ hk=>hk.2))));(case aS=>exact(L0 bl_));(case aL=>have:=LMc59.out;omega);intro z5 Z1 ho hb hg hat;rw [←cj9.out] at ho;have n_:=pk4 (Kd.R_over' (ro_ HO_3) (Kd.R_typed (ro_ HO_4)) (by decide) hg) (Kd.R_after (ok:=(fun _=>True)) (ro_ C0) hg hat) (hb) (ho);clear HO_3 C0 HB HO_4;obtain⟨HO_3,C0,HB,Q0⟩:=n_;clear ho hb hg hat)|((with_reducible refine G1 (b:=.append) (xs:=#[.tmp 88,.tmp 89]) rfl ?_);at_builtin;refine Kd.R_append_rows Kd.bool (w0:=w) w.heap.size rfl (.tmp 88) (.tmp 89) 39 4 (.bool false) 1 rfl Try.underlying39 D6 rfl (by decide) (by omega) u4 x4_1 au3 _ _ _ (fun k_=>some k_≠(.slice T0 au3.length R0:Value).ownBlock) (fun _=>False) rfl rfl ?aO ?aR (fun _ _ h=>h) (fun _ h=>h.elim) ?aF ?aB ?aS ?aL ?_;(case aR=>exact cr_ C0);(case aB=>exact bl_);(case aF=>exact(fun k_ hk=>Kd.fresh' (Kd.R_lt (ro_ C0)) k_ hk));(case aO=>exact(rt_ (Kd.R_mono HO_4.out (fun _ hk=>hk.2))));(case aS=>exact(L0 bl_));(case aL=>have:=LMc69.out;omega);intro z5 Z1 ho hb hg hat;rw [←cm5.out] at ho;have n_:=pk4 (Kd.R_over' (ro_ HO_3) (Kd.R_typed (ro_ HO_4)) (by decide) hg) (Kd.R_after (ok:=(fun _=>True)) (ro_ C0) hg hat) (hb) (ho);clear HO_3 C0 HB HO_4;obtain⟨HO_3,C0,HB,Q0⟩:=n_;clear ho hb hg hat)|(go_at_call 35;(with_reducible refine(q14.calls k3 (IntKind.u64.wrap (wrap64 ((wrap64 (x9_3 - x6_1)) - 1))) 4 af0 _ A40.out).mono ?_);rintro e F2 ⟨ae1,rfl,ho0,hb⟩;have n_:=pk5 (Kd.R_below (ro_ HO_3) hb) (Kd.R_elder' (ro_ C0) (Kd.R_base ho0) hb) (Kd.R_elder' (ro_ Q0) (Kd.R_base ho0) hb) (Kd.R_lower (Kd.R_new' (Kd.R_new' ho0 (Kd.R_lt (ro_ C0))) (Kd.R_lt (ro_ Q0))) (L0 bl_)) (E0 bl_ hb);clear HO_3 C0 Q0 HB;obtain⟨HO_3,C0,Q0,E1,HB⟩:=n_;(try clear hb ho0);obtain⟨X1,V1,U2⟩:=Kd.R_slice E1.out;subst U2)|(go_at_call 35;(with_reducible refine(q14.calls k3 (IntKind.u64.wrap (wrap64 ((wrap64 (x9_3 - x6_1)) - 1))) 4 ae4 _ A50.out).mono ?_);rintro e F2 ⟨ae1,rfl,ho0,hb⟩;have n_:=pk5 (Kd.R_below (ro_ HO_3) hb) (Kd.R_elder' (ro_ C0) (Kd.R_base ho0) hb) (Kd.R_elder' (ro_ Q0) (Kd.R_base ho0) hb) (Kd.R_lower (Kd.R_new' (Kd.R_new' ho0 (Kd.R_lt (ro_ C0))) (Kd.R_lt (ro_ Q0))) (L0 bl_)) (E0 bl_ hb);clear HO_3 C0 Q0 HB;obtain⟨HO_3,C0,Q0,E1,HB⟩:=n_;(try clear hb ho0);obtain⟨X1,V1,U2⟩:=Kd.R_slice E1.out;subst U2)|(go_at_call 35;(with_reducible refine(q14.calls k3 (IntKind.u64.wrap (wrap64 ((wrap64 (x9_3 - x6_1)) - 1))) 4 ah1 _ A60.out).mono ?_);rintro e F2 ⟨ae1,rfl,ho0,hb⟩;have n_:=pk5 (Kd.R_below (ro_ HO_3) hb) (Kd.R_elder' (ro_ C0) (Kd.R_base ho0) hb) (Kd.R_elder' (ro_ Q0) (Kd.R_base ho0) hb) (Kd.R_lower (Kd.R_new' (Kd.R_new' ho0 (Kd.R_lt (ro_ C0))) (Kd.R_lt (ro_ Q0))) (L0 bl_)) (E0 bl_ hb);clear HO_3 C0 Q0 HB;obtain⟨HO_3,C0,Q0,E1,HB⟩:=n_;(try clear hb ho0);obtain⟨X1,V1,U2⟩:=Kd.R_slice E1.out;subst U2)|(go_at_call 35;(with_reducible refine(q14.calls k3 (IntKind.u64.wrap (wrap64 ((wrap64 (x9_3 - x6_1)) - 1))) 4 am0 _ A70.out).mono ?_);rintro e F2 ⟨ae1,rfl,ho0,hb⟩;have n_:=pk5 (Kd.R_below (ro_ HO_3) hb) (Kd.R_elder' (ro_ C0) (Kd.R_base ho0) hb) (Kd.R_elder' (ro_ Q0) (Kd.R_base ho0) hb) (Kd.R_lower (Kd.R_new' (Kd.R_new' ho0 (Kd.R_lt (ro_ C0))) (Kd.R_lt (ro_ Q0))) (L0 bl_)) (E0 bl_ hb);clear HO_3 C0 Q0 HB;obtain⟨HO_3,C0,Q0,E1,HB⟩:=n_;(try clear hb ho0);obtain⟨X1,V1,U2⟩:=Kd.R_slice E1.out;subst U2)|((with_reducible refine G1 (b:=.append) (xs:=#[.tmp 91,.tmp 94]) rfl ?_);at_builtin;refine Kd.R_append_rows Kd.bool (w0:=w) w.heap.size rfl (.tmp 91) (.tmp 94) 39 4 (.bool false) 1 rfl Try.underlying39 D6 rfl (by decide) (by omega) z5 ar8 af0 _ _ _ (fun k_=>some k_≠(.slice T0 ai5.length R0:Value).ownBlock∧some k_≠(.slice X1 af0.length V1:Value).ownBlock) (fun _=>False) rfl rfl ?aO ?aR (fun _ _ h=>h) (fun _ h=>h.elim) ?aF ?aB ?aS ?aL ?_;(case aR=>exact cr_ E1);(case aB=>exact bl_);(case aF=>exact(fun k_ hk=>⟨Kd.fresh' (Kd.R_lt (ro_ C0)) k_ hk,Kd.fresh' (Kd.R_lt (ro_ E1)) k_ hk⟩));(case aO=>exact(ro_ Q0));(case aS=>exact(L0 bl_));(case aL=>have:=LMc41.out;omega);intro ap6 X2 ho hb hg hat;rw [←cr0.out] at ho;have n_:=pk5 (Kd.R_over' (ro_ HO_3) (Kd.R_typed (ro_ Q0)) (by decide) hg) (Kd.R_after (ok:=(fun k_=>some k_≠(.slice X1 af0.length V1:Value).ownBlock)) (rt_ (Kd.R_mono C0.out (fun _ hk=>⟨hk.2,hk.1.2⟩))) hg hat) (Kd.R_after (ok:=(fun k_=>some k_≠(.slice T0 ai5.length R0:Value).ownBlock)) (rt_ (Kd.R_mono E1.out (fun _ hk=>⟨hk.1.2,hk.2⟩))) hg hat) (hb) (ho);clear HO_3 C0 E1 HB Q0;obtain⟨HO_3,C0,E1,HB,S5⟩:=n_;clear ho hb hg hat)|((with_reducible refine G1 (b:=.append) (xs:=#[.tmp 91,.tmp 94]) rfl ?_);at_builtin;refine Kd.R_append_rows Kd.bool (w0:=w) w.heap.size rfl (.tmp 91) (.tmp 94) 39 4 (.bool false) 1 rfl Try.underlying39 D6 rfl (by decide) (by omega) z5 at5 ae4 _ _ _ (fun k_=>some k_≠(.slice T0 ai6.length R0:Value).ownBlock∧some k_≠(.slice X1 ae4.length V1:Value).ownBlock) (fun _=>False) rfl rfl ?aO ?aR (fun _ _ h=>h) (fun _ h=>h.elim) ?aF ?aB ?aS ?aL ?_;(case aR=>exact cr_ E1);(case aB=>exact bl_);(case aF=>exact(fun k_ hk=>⟨Kd.fresh' (Kd.R_lt (ro_ C0)) k_ hk,Kd.fresh' (Kd.R_lt (ro_ E1)) k_ hk⟩));(case aO=>exact(ro_ Q0));(case aS=>exact(L0 bl_));(case aL=>have:=LMc51.out;omega);intro ap6 X2 ho hb hg hat;rw [←cr2.out] at ho;have n_:=pk5 (Kd.R_over' (ro_ HO_3) (Kd.R_typed (ro_ Q0)) (by decide) hg) (Kd.R_after (ok:=(fun k_=>some k_≠(.slice X1 ae4.length V1:Value).ownBlock)) (rt_ (Kd.R_mono C0.out (fun _ hk=>⟨hk.2,hk.1.2⟩))) hg hat) (Kd.R_after (ok:=(fun k_=>some k_≠(.slice T0 ai6.length R0:Value).ownBlock)) (rt_ (Kd.R_mono E1.out (fun _ hk=>⟨hk.1.2,hk.2⟩))) hg hat) (hb) (ho);clear HO_3 C0 E1 HB Q0;obtain⟨HO_3,C0,E1,HB,S5⟩:=n_;clear ho hb hg hat)|((with_reducible refine G1 (b:=.append) (xs:=#[.tmp 91,.tmp 94]) rfl ?_);at_builtin;refine Kd.R_append_rows Kd.bool (w0:=w) w.heap.size rfl (.tmp 91) (.tmp 94) 39 4 (.bool false) 1 rfl Try.underlying39 D6 rfl (by decide) (by omega) z5 aD3 ah1 _ _ _ (fun k_=>some k_≠(.slice T0 ao0.length R0:Value).ownBlock∧some k_≠(.slice X1 ah1.length V1:Value).ownBlock) (fun _=>False) rfl rfl ?aO ?aR (fun _ _ h=>h) (fun _ h=>h.elim) ?aF ?aB ?aS ?aL ?_;(case aR=>exact cr_ E1);(case aB=>exact bl_);(case aF=>exact(fun k_ hk=>⟨Kd.fresh' (Kd.R_lt (ro_ C0)) k_ hk,Kd.fresh' (Kd.R_lt (ro_ E1)) k_ hk⟩));(case aO=>exact(ro_ Q0));(case aS=>exact(L0 bl_));(case aL=>have:=LMc61.out;omega);intro ap6 X2 ho hb hg hat;rw [←cl1.out] at ho;have n_:=pk5 (Kd.R_over' (ro_ HO_3) (Kd.R_typed (ro_ Q0)) (by decide) hg) (Kd.R_after (ok:=(fun k_=>some k_≠(.slice X1 ah1.length V1:Value).ownBlock)) (rt_ (Kd.R_mono C0.out (fun _ hk=>⟨hk.2,hk.1.2⟩))) hg hat) (Kd.R_after (ok:=(fun k_=>some k_≠(.slice T0 ao0.length R0:Value).ownBlock)) (rt_ (Kd.R_mono E1.out (fun _ hk=>⟨hk.1.2,hk.2⟩))) hg hat) (hb) (ho);clear HO_3 C0 E1 HB Q0;obtain⟨HO_3,C0,E1,HB,S5⟩:=n_;clear ho hb hg hat)|((with_reducible refine G1 (b:=.append) (xs:=#[.tmp 91,.tmp 94]) rfl ?_);at_builtin;refine Kd.R_append_rows Kd.bool (w0:=w) w.heap.size rfl (.tmp 91) (.tmp 94) 39 4 (.bool false) 1 rfl Try.underlying39 D6 rfl (by decide) (by omega) z5 aO1 am0 _ _ _ (fun k_=>some k_≠(.slice T0 au3.length R0:Value).ownBlock∧some k_≠(.slice X1 am0.length V1:Value).ownBlock) (fun _=>False) rfl rfl ?aO ?aR (fun _ _ h=>h) (fun _ h=>h.elim) ?aF ?aB ?aS ?aL ?_;(case aR=>exact cr_ E1);(case aB=>exact bl_);(case aF=>exact(fun k_ hk=>⟨Kd.fresh' (Kd.R_lt (ro_ C0)) k_ hk,Kd.fresh' (Kd.R_lt (ro_ E1)) k_ hk⟩));(case aO=>exact(ro_ Q0));(case aS=>exact(L0 bl_));(case aL=>have:=LMc71.out;omega);intro ap6 X2 ho hb hg hat;rw [←cr3.out] at ho;have n_:=pk5 (Kd.R_over' (ro_ HO_3) (Kd.R_typed (ro_ Q0)) (by decide) hg) (Kd.R_after (ok:=(fun k_=>some k_≠(.slice X1 am0.length V1:Value).ownBlock)) (rt_ (Kd.R_mono C0.out (fun _ hk=>⟨hk.2,hk.1.2⟩))) hg hat) (Kd.R_after (ok:=(fun k_=>some k_≠(.slice T0 au3.length R0:Value).ownBlock)) (rt_ (Kd.R_mono E1.out (fun _ hk=>⟨hk.1.2,hk.2⟩))) hg hat) (hb) (ho);clear HO_3 C0 E1 HB Q0;obtain⟨HO_3,C0,E1,HB,S5⟩:=n_;clear ho hb hg hat)))
               go_roundg k3
               case measure=>have:=HK1.out;have:=HJ12.out;have:=HK3.out;omega
               first
                |case rel=>exact⟨(wrap64 (x9_3+1)),sm_,H',⟨by have:=HK1.out;have:=HJ12.out;have:=HK3.out;omega⟩,⟨(ro_ HO_3)⟩,⟨(ro_ HO_4)⟩,⟨bl_⟩⟩
                |case rel=>exact⟨(cW1),(wrap64 ((wrap64 (x9_3 - x6_1)) - 1)),(wrap64 (x6_1+1)),sm_,sm_,H',⟨by have:=HK1.out;have:=HJ12.out;have:=HK3.out;omega⟩,⟨(ro_ HO_3)⟩,⟨(rt_ (Kd.R_mono S5.out (fun _ hk=>trivial)))⟩,⟨bl_⟩⟩
                |case rel=>exact⟨(de1),(wrap64 ((wrap64 (x9_3 - x6_1)) - 1)),(wrap64 (x6_1+1)),sm_,sm_,H',⟨by have:=HK1.out;have:=HJ12.out;have:=HK3.out;omega⟩,⟨(ro_ HO_3)⟩,⟨(rt_ (Kd.R_mono S5.out (fun _ hk=>trivial)))⟩,⟨bl_⟩⟩
                |case rel=>exact⟨(cX6),(wrap64 ((wrap64 (x9_3 - x6_1)) - 1)),(wrap64 (x6_1+1)),sm_,sm_,H',⟨by have:=HK1.out;have:=HJ12.out;have:=HK3.out;omega⟩,⟨(ro_ HO_3)⟩,⟨(rt_ (Kd.R_mono S5.out (fun _ hk=>trivial)))⟩,⟨bl_⟩⟩
                |case rel=>exact⟨(dd0),(wrap64 ((wrap64 (x9_3 - x6_1)) - 1)),(wrap64 (x6_1+1)),sm_,sm_,H',⟨by have:=HK1.out;have:=HJ12.out;have:=HK3.out;omega⟩,⟨(ro_ HO_3)⟩,⟨(rt_ (Kd.R_mono S5.out (fun _ hk=>trivial)))⟩,⟨bl_⟩⟩
           have H':=q5.mk H
           clear H
          all_goals
           go_wp2_with (first|(go_at_call 32;(with_reducible refine(q17.calls kj12 (rd d5 (ji10)) aq7 _ A20.out).mono ?_);rintro e bg6 ⟨cA4,rfl,ho0,hb⟩;have n_:=pk5 (Kd.R_below (ro_ HO_3) hb) (Kd.R_elder' (ro_ Q2) (Kd.R_base ho0) hb) (Kd.R_elder' (ro_ V5) (Kd.R_base ho0) hb) (Kd.R_lower (Kd.R_new' (Kd.R_new' ho0 (Kd.R_lt (ro_ Q2))) (Kd.R_lt (ro_ V5))) (L0 bl_)) (E0 bl_ hb);clear HO_3 Q2 V5 HB;obtain⟨HO_3,Q2,V5,g9,HB⟩:=n_;(try clear hb ho0);obtain⟨ai8,aj1,an0⟩:=Kd.R_slice g9.out;subst an0)|(go_at_call 32;(with_reducible refine(q17.calls kj12 (rd d5 (ji7)) ar0 _ A18.out).mono ?_);rintro e ap8 ⟨ba4,rfl,ho0,hb⟩;have n_:=pk4 (Kd.R_below (ro_ HO_3) hb) (Kd.R_elder' (ro_ HO_4) (Kd.R_base ho0) hb) (Kd.R_lower (Kd.R_new' ho0 (Kd.R_lt (ro_ HO_4))) (L0 bl_)) (E0 bl_ hb);clear HO_3 HO_4 HB;obtain⟨HO_3,HO_4,Q2,HB⟩:=n_;(try clear hb ho0);obtain⟨ac2,ac6,am7⟩:=Kd.R_slice Q2.out;subst am7)|((with_reducible refine G1 (b:=.append) (xs:=#[.tmp 41,.tmp 43]) rfl ?_);at_builtin;refine Kd.R_append_rows Kd.bool (w0:=w) w.heap.size rfl (.tmp 41) (.tmp 43) 39 4 (.bool false) 1 rfl Try.underlying39 D6 rfl (by decide) (by omega) u4 x4_1 ar0 _ _ _ (fun k_=>some k_≠(.slice ac2 ar0.length ac6:Value).ownBlock) (fun _=>False) rfl rfl ?aO ?aR (fun _ _ h=>h) (fun _ h=>h.elim) ?aF ?aB ?aS ?aL ?_;(case aR=>exact cr_ Q2);(case aB=>exact bl_);(case aF=>exact(fun k_ hk=>Kd.fresh' (Kd.R_lt (ro_ Q2)) k_ hk));(case aO=>exact(rt_ (Kd.R_mono HO_4.out (fun _ hk=>hk.2))));(case aS=>exact(L0 bl_));(case aL=>have:=LMc19.out;omega);intro bi9 av3 ho hb hg hat;rw [←ck5.out] at ho;have n_:=pk4 (Kd.R_over' (ro_ HO_3) (Kd.R_typed (ro_ HO_4)) (by decide) hg) (Kd.R_after (ok:=(fun _=>True)) (ro_ Q2) hg hat) (hb) (ho);clear HO_3 Q2 HB HO_4;obtain⟨HO_3,Q2,HB,V5⟩:=n_;clear ho hb hg hat)|((with_reducible refine G1 (b:=.append) (xs:=#[.tmp 45,.tmp 47]) rfl ?_);at_builtin;refine Kd.R_append_rows Kd.bool (w0:=w) w.heap.size rfl (.tmp 45) (.tmp 47) 39 4 (.bool false) 1 rfl Try.underlying39 D6 rfl (by decide) (by omega) bi9 bc0 aq7 _ _ _ (fun k_=>some k_≠(.slice ac2 ar0.length ac6:Value).ownBlock∧some k_≠(.slice ai8 aq7.length aj1:Value).ownBlock) (fun _=>False) rfl rfl ?aO ?aR (fun _ _ h=>h) (fun _ h=>h.elim) ?aF ?aB ?aS ?aL ?_;(case aR=>exact cr_ g9);(case aB=>exact bl_);(case aF=>exact(fun k_ hk=>⟨Kd.fresh' (Kd.R_lt (ro_ Q2)) k_ hk,Kd.fresh' (Kd.R_lt (ro_ g9)) k_ hk⟩));(case aO=>exact(ro_ V5));(case aS=>exact(L0 bl_));(case aL=>have:=LMc21.out;omega);intro cD2 bT4 ho hb hg hat;rw [←ck7.out] at ho;have n_:=pk5 (Kd.R_over' (ro_ HO_3) (Kd.R_typed (ro_ V5)) (by decide) hg) (Kd.R_after (ok:=(fun k_=>some k_≠(.slice ai8 aq7.length aj1:Value).ownBlock)) (rt_ (Kd.R_mono Q2.out (fun _ hk=>⟨hk.2,hk.1.2⟩))) hg hat) (Kd.R_after (ok:=(fun k_=>some k_≠(.slice ac2 ar0.length ac6:Value).ownBlock)) (rt_ (Kd.R_mono g9.out (fun _ hk=>⟨hk.1.2,hk.2⟩))) hg hat) (hb) (ho);clear HO_3 Q2 g9 HB V5;obtain⟨HO_3,Q2,g9,HB,bJ9⟩:=n_;clear ho hb hg hat))
           repeat(go_quiet (first|(go_at_call 32;(with_reducible refine(q17.calls kj12 (rd d5 (ji10)) aq7 _ A20.out).mono ?_);rintro e bg6 ⟨cA4,rfl,ho0,hb⟩;have n_:=pk5 (Kd.R_below (ro_ HO_3) hb) (Kd.R_elder' (ro_ Q2) (Kd.R_base ho0) hb) (Kd.R_elder' (ro_ V5) (Kd.R_base ho0) hb) (Kd.R_lower (Kd.R_new' (Kd.R_new' ho0 (Kd.R_lt (ro_ Q2))) (Kd.R_lt (ro_ V5))) (L0 bl_)) (E0 bl_ hb);clear HO_3 Q2 V5 HB;obtain⟨HO_3,Q2,V5,g9,HB⟩:=n_;(try clear hb ho0);obtain⟨ai8,aj1,an0⟩:=Kd.R_slice g9.out;subst an0)|(go_at_call 32;(with_reducible refine(q17.calls kj12 (rd d5 (ji7)) ar0 _ A18.out).mono ?_);rintro e ap8 ⟨ba4,rfl,ho0,hb⟩;have n_:=pk4 (Kd.R_below (ro_ HO_3) hb) (Kd.R_elder' (ro_ HO_4) (Kd.R_base ho0) hb) (Kd.R_lower (Kd.R_new' ho0 (Kd.R_lt (ro_ HO_4))) (L0 bl_)) (E0 bl_ hb);clear HO_3 HO_4 HB;obtain⟨HO_3,HO_4,Q2,HB⟩:=n_;(try clear hb ho0);obtain⟨ac2,ac6,am7⟩:=Kd.R_slice Q2.out;subst am7)|((with_reducible refine G1 (b:=.append) (xs:=#[.tmp 41,.tmp 43]) rfl ?_);at_builtin;refine Kd.R_append_rows Kd.bool (w0:=w) w.heap.size rfl (.tmp 41) (.tmp 43) 39 4 (.bool false) 1 rfl Try.underlying39 D6 rfl (by decide) (by omega) u4 x4_1 ar0 _ _ _ (fun k_=>some k_≠(.slice ac2 ar0.length ac6:Value).ownBlock) (fun _=>False) rfl rfl ?aO ?aR (fun _ _ h=>h) (fun _ h=>h.elim) ?aF ?aB ?aS ?aL ?_;(case aR=>exact cr_ Q2);(case aB=>exact bl_);(case aF=>exact(fun k_ hk=>Kd.fresh' (Kd.R_lt (ro_ Q2)) k_ hk));(case aO=>exact(rt_ (Kd.R_mono HO_4.out (fun _ hk=>hk.2))));(case aS=>exact(L0 bl_));(case aL=>have:=LMc19.out;omega);intro bi9 av3 ho hb hg hat;rw [←ck5.out] at ho;have n_:=pk4 (Kd.R_over' (ro_ HO_3) (Kd.R_typed (ro_ HO_4)) (by decide) hg) (Kd.R_after (ok:=(fun _=>True)) (ro_ Q2) hg hat) (hb) (ho);clear HO_3 Q2 HB HO_4;obtain⟨HO_3,Q2,HB,V5⟩:=n_;clear ho hb hg hat)|((with_reducible refine G1 (b:=.append) (xs:=#[.tmp 45,.tmp 47]) rfl ?_);at_builtin;refine Kd.R_append_rows Kd.bool (w0:=w) w.heap.size rfl (.tmp 45) (.tmp 47) 39 4 (.bool false) 1 rfl Try.underlying39 D6 rfl (by decide) (by omega) bi9 bc0 aq7 _ _ _ (fun k_=>some k_≠(.slice ac2 ar0.length ac6:Value).ownBlock∧some k_≠(.slice ai8 aq7.length aj1:Value).ownBlock) (fun _=>False) rfl rfl ?aO ?aR (fun _ _ h=>h) (fun _ h=>h.elim) ?aF ?aB ?aS ?aL ?_;(case aR=>exact cr_ g9);(case aB=>exact bl_);(case aF=>exact(fun k_ hk=>⟨Kd.fresh' (Kd.R_lt (ro_ Q2)) k_ hk,Kd.fresh' (Kd.R_lt (ro_ g9)) k_ hk⟩));(case aO=>exact(ro_ V5));(case aS=>exact(L0 bl_));(case aL=>have:=LMc21.out;omega);intro cD2 bT4 ho hb hg hat;rw [←ck7.out] at ho;have n_:=pk5 (Kd.R_over' (ro_ HO_3) (Kd.R_typed (ro_ V5)) (by decide) hg) (Kd.R_after (ok:=(fun k_=>some k_≠(.slice ai8 aq7.length aj1:Value).ownBlock)) (rt_ (Kd.R_mono Q2.out (fun _ hk=>⟨hk.2,hk.1.2⟩))) hg hat) (Kd.R_after (ok:=(fun k_=>some k_≠(.slice ac2 ar0.length ac6:Value).ownBlock)) (rt_ (Kd.R_mono g9.out (fun _ hk=>⟨hk.1.2,hk.2⟩))) hg hat) (hb) (ho);clear HO_3 Q2 g9 HB V5;obtain⟨HO_3,Q2,g9,HB,bJ9⟩:=n_;clear ho hb hg hat));try go_wp2_with (first|(go_at_call 32;(with_reducible refine(q17.calls kj12 (rd d5 (ji10)) aq7 _ A20.out).mono ?_);rintro e bg6 ⟨cA4,rfl,ho0,hb⟩;have n_:=pk5 (Kd.R_below (ro_ HO_3) hb) (Kd.R_elder' (ro_ Q2) (Kd.R_base ho0) hb) (Kd.R_elder' (ro_ V5) (Kd.R_base ho0) hb) (Kd.R_lower (Kd.R_new' (Kd.R_new' ho0 (Kd.R_lt (ro_ Q2))) (Kd.R_lt (ro_ V5))) (L0 bl_)) (E0 bl_ hb);clear HO_3 Q2 V5 HB;obtain⟨HO_3,Q2,V5,g9,HB⟩:=n_;(try clear hb ho0);obtain⟨ai8,aj1,an0⟩:=Kd.R_slice g9.out;subst an0)|(go_at_call 32;(with_reducible refine(q17.calls kj12 (rd d5 (ji7)) ar0 _ A18.out).mono ?_);rintro e ap8 ⟨ba4,rfl,ho0,hb⟩;have n_:=pk4 (Kd.R_below (ro_ HO_3) hb) (Kd.R_elder' (ro_ HO_4) (Kd.R_base ho0) hb) (Kd.R_lower (Kd.R_new' ho0 (Kd.R_lt (ro_ HO_4))) (L0 bl_)) (E0 bl_ hb);clear HO_3 HO_4 HB;obtain⟨HO_3,HO_4,Q2,HB⟩:=n_;(try clear hb ho0);obtain⟨ac2,ac6,am7⟩:=Kd.R_slice Q2.out;subst am7)|((with_reducible refine G1 (b:=.append) (xs:=#[.tmp 41,.tmp 43]) rfl ?_);at_builtin;refine Kd.R_append_rows Kd.bool (w0:=w) w.heap.size rfl (.tmp 41) (.tmp 43) 39 4 (.bool false) 1 rfl Try.underlying39 D6 rfl (by decide) (by omega) u4 x4_1 ar0 _ _ _ (fun k_=>some k_≠(.slice ac2 ar0.length ac6:Value).ownBlock) (fun _=>False) rfl rfl ?aO ?aR (fun _ _ h=>h) (fun _ h=>h.elim) ?aF ?aB ?aS ?aL ?_;(case aR=>exact cr_ Q2);(case aB=>exact bl_);(case aF=>exact(fun k_ hk=>Kd.fresh' (Kd.R_lt (ro_ Q2)) k_ hk));(case aO=>exact(rt_ (Kd.R_mono HO_4.out (fun _ hk=>hk.2))));(case aS=>exact(L0 bl_));(case aL=>have:=LMc19.out;omega);intro bi9 av3 ho hb hg hat;rw [←ck5.out] at ho;have n_:=pk4 (Kd.R_over' (ro_ HO_3) (Kd.R_typed (ro_ HO_4)) (by decide) hg) (Kd.R_after (ok:=(fun _=>True)) (ro_ Q2) hg hat) (hb) (ho);clear HO_3 Q2 HB HO_4;obtain⟨HO_3,Q2,HB,V5⟩:=n_;clear ho hb hg hat)|((with_reducible refine G1 (b:=.append) (xs:=#[.tmp 45,.tmp 47]) rfl ?_);at_builtin;refine Kd.R_append_rows Kd.bool (w0:=w) w.heap.size rfl (.tmp 45) (.tmp 47) 39 4 (.bool false) 1 rfl Try.underlying39 D6 rfl (by decide) (by omega) bi9 bc0 aq7 _ _ _ (fun k_=>some k_≠(.slice ac2 ar0.length ac6:Value).ownBlock∧some k_≠(.slice ai8 aq7.length aj1:Value).ownBlock) (fun _=>False) rfl rfl ?aO ?aR (fun _ _ h=>h) (fun _ h=>h.elim) ?aF ?aB ?aS ?aL ?_;(case aR=>exact cr_ g9);(case aB=>exact bl_);(case aF=>exact(fun k_ hk=>⟨Kd.fresh' (Kd.R_lt (ro_ Q2)) k_ hk,Kd.fresh' (Kd.R_lt (ro_ g9)) k_ hk⟩));(case aO=>exact(ro_ V5));(case aS=>exact(L0 bl_));(case aL=>have:=LMc21.out;omega);intro cD2 bT4 ho hb hg hat;rw [←ck7.out] at ho;have n_:=pk5 (Kd.R_over' (ro_ HO_3) (Kd.R_typed (ro_ V5)) (by decide) hg) (Kd.R_after (ok:=(fun k_=>some k_≠(.slice ai8 aq7.length aj1:Value).ownBlock)) (rt_ (Kd.R_mono Q2.out (fun _ hk=>⟨hk.2,hk.1.2⟩))) hg hat) (Kd.R_after (ok:=(fun k_=>some k_≠(.slice ac2 ar0.length ac6:Value).ownBlock)) (rt_ (Kd.R_mono g9.out (fun _ hk=>⟨hk.1.2,hk.2⟩))) hg hat) (hb) (ho);clear HO_3 Q2 g9 HB V5;obtain⟨HO_3,Q2,g9,HB,bJ9⟩:=n_;clear ho hb hg hat)))
           go_roundg kj12
           case measure=>have:=HK1.out;have:=HJ12.out;omega
           first
            |case rel=>exact⟨(db9),(x5_1),(wrap64 (x6_1+1)),sm_,sm_,H',⟨by have:=HK1.out;have:=HJ12.out;omega⟩,⟨(ro_ HO_3)⟩,⟨(rt_ (Kd.R_mono bJ9.out (fun _ hk=>trivial)))⟩,⟨bl_⟩⟩
            |case rel=>exact⟨(x4_1),(wrap64 (x5_1 - 1)),(wrap64 (x6_1+1)),sm_,sm_,H',⟨by have:=HK1.out;have:=HJ12.out;omega⟩,⟨(ro_ HO_3)⟩,⟨(ro_ HO_4)⟩,⟨bl_⟩⟩
       exact absurd H (by simp)
      exact absurd H (by simp)
     exact absurd H (by simp)
    exact absurd H (by simp)
   obtain rfl:=Option.some.inj H
   go_wp2
   repeat(go_quiet (fail);try go_wp2)
   go_ret
   exact⟨_,rf_,(ro_ HO_4),bl_⟩
end Go.Proofs.Ytmddmbagehjdeaa.G
end
section
namespace Go.Proofs.Ytmddmbagehjdeaa.G
open Go.RowKit Go.Proofs.YtmddmbagehjdeaaX Go.Proofs.YtmddmbagehjdeaaW.PrintWords Go.Proofs.YtmddmbagehjdeaaW.PrintLast Go.Proofs.YtmddmbagehjdeaaW.PrintMore
attribute [local go_sem] S3 R3 R4 S4 P3 N3 D4 Y3
def q47.f (k:Nat) (l0:List (S67)):Option (Int×Int×Int×List Int×Int):=if 0<(l0.length:Int)then(if 0≤(wrap64 ((l0.length:Int) - 1))then(if(wrap64 ((l0.length:Int) - 1))<(l0.length:Int)then((q8.f k l0).bind fun bq3=>((q37.f k bq3).bind fun aP9=>(some ((l0.length:Int),(D0 l0 0).f0,(D0 l0 (wrap64 ((l0.length:Int) - 1))).f0,aP9.1,aP9.2))))else(none))else(none))else(none)
def q47.T1:Bool×List (List Nat×List Nat):=(true,[([],[]),([0],[0]),([],[]),([2],[2]),([3],[3]),([4],[4]),([],[]),([],[]),([7],[7]),([8],[8]),([6,9],[6,9]),([10],[10]),([11],[11]),([],[]),([13],[13]),([14,14],[14]),([1,5,12,15],[1,5,12,15]),([16,15,0,1,2,3,4,5,6,7,8,9,10,11,12,13,14,15,16],[16])])
def q47.B1:List Nat:=[0,1,0,4,12,28,0,0,128,384,960,1984,4032,0,8192,24576,65535,131071]
theorem q47.tab1:rtab .any (ap1 Try.f41 1)=q47.T1:=by kernel_rfl
theorem q47.bits1:b8 q47.T1.2 q47.B1=true:=by kernel_rfl
theorem q47.calls (k:Nat) (A0:Option Addr) (c0:Nat) (l0:List (S67)) (r1:Int) (r2:Int) (r3:Int) (r4:List Int) (r5:Int) (w:World) (hr0:Kd.C k67 w A0 l0.length l0) (hc0:l0.length≤c0) (h:q47.f k l0=some (r1,r2,r3,r4,r5)) :
  Calls Try.prog 41 #[.slice A0 l0.length c0] w fun e w'=>∃ v3_:Value,e=.returned (.agg #[.int .i64 r1,.int .i64 r2,.int .i64 r3,v3_,.int .i64 r5])∧Kd.R (Kd.int .u8) 5 w' w.heap.size (fun _=>True) v3_ r4∧Below w.heap.size w w':=by
 have hu69:=Try.underlying69
 have HR0:=q5.mk hr0
 have HC0:=q5.mk hc0
 clear hr0 hc0
 have HB:=q5.mk (Below.refl w.heap.size w)
 have H:(if 0<(l0.length:Int)then(if 0≤(wrap64 ((l0.length:Int) - 1))then(if(wrap64 ((l0.length:Int) - 1))<(l0.length:Int)then((q8.f k l0).bind fun bq3=>((q37.f k bq3).bind fun aP9=>(some ((l0.length:Int),(D0 l0 0).f0,(D0 l0 (wrap64 ((l0.length:Int) - 1))).f0,aP9.1,aP9.2))))else(none))else(none))else(none))=some (r1,r2,r3,r4,r5):=h
 clear h
 by_cases c2:0<(l0.length:Int)
 rotate_left
 ·rw [if_neg c2] at H
  exact absurd H (by simp)
 rw [if_pos c2] at H
 have c2b0:decide (0<(l0.length:Int))=true:=decide_eq_true c2
 have c2b1:decide (0<l0.length)=true:=decide_eq_true (by omega)
 clear c2
 obtain⟨ji3,hji3⟩:∃ j_:Int,(wrap64 ((l0.length:Int) - 1))=j_:=⟨_,rfl⟩
 replace H:(if 0≤(ji3)then(if(ji3)<(l0.length:Int)then((q8.f k l0).bind fun bq3=>((q37.f k bq3).bind fun aP9=>(some ((l0.length:Int),(D0 l0 0).f0,(D0 l0 (ji3)).f0,aP9.1,aP9.2))))else(none))else(none))=some (r1,r2,r3,r4,r5):=by first|(rw [hji3] at H;exact H)|(simp only [hji3] at H ⊢;exact H)
 have hji3w:(IntKind.i64.wrap ((l0.length:Int) - 1))=ji3:=(N0 _).trans hji3
 replace H:=dle H
 rcases H with⟨c4b0,H⟩|⟨c4b0,H⟩
 rotate_left
 ·exact absurd H (by simp)
 replace H:=dle H
 rcases H with⟨c5b0,H⟩|⟨c5b0,H⟩
 rotate_left
 ·exact absurd H (by simp)
 replace H:=N2 H
 obtain⟨bq3,A6,H⟩:=H
 try dsimp only at H
 replace H:=N2 H
 obtain⟨⟨cv4,cI6⟩,A7,H⟩:=H
 try dsimp only at H
 simp only [Option.some.injEq,Prod.mk.injEq] at H
 obtain⟨rfl,rfl,rfl,rfl,rfl⟩:=H
 go_enter Try.func41,Try.ntmps41
 try go_wp2_with (first|((with_reducible refine X0 (N:=2) rfl ?_);refine L2 2 #[.int .i64 0,.int .i64 0,.int .i64 0,.slice none 0 0,.int .i64 0] 69 ?_;intro B0 hg U1 hbox hb;have n_:=pk4 (E0 bl_ hb) (hbox) ((ge_ hg bl_:w.heap.size≤B0)) ((ge_ hg bl_:w.heap.size≤B0));clear HB;obtain⟨HB,o0,C2,F5⟩:=n_;clear hb hbox hg))
 have n_:=pk2 (J0 o0.out) (N1 HB.out)
 clear o0 HB
 obtain⟨o0,HB⟩:=n_
 have F3:0≤(0:Int):=(by omega)
 have I3:0<(l0.length:Int):=dc_
 obtain⟨J1,E6,Z0,T2⟩:=R2 HR0.out 0 F3 I3
 have o5:=T2
 (try rw [show((0:Int)).toNat=0 from rfl] at o5)
 (try rw [show 0*2=0 from rfl] at o5)
 (try rw [Addr.add_zero'] at o5)
 have D2:=Z0
 (try rw [show((0:Int)).toNat=0 from rfl] at D2)
 (try rw [show 0*2=0 from rfl] at D2)
 (try rw [Addr.add_zero'] at D2)
 cases E6
 have bQ5:(0<l0.length)=True:=eq_true (by omega)
 (try rw [show((0:Int)).toNat=0 from rfl] at Z0)
 (try rw [show 0*2=0 from rfl] at Z0)
 (try rw [Addr.add_zero'] at Z0)
 (try rw [show((0:Int)).toNat=0 from rfl] at T2)
 (try rw [show 0*2=0 from rfl] at T2)
 (try rw [Addr.add_zero'] at T2)
 replace Z0:=(HB.out.cell (World.block_lt_of_cell? w _ Z0)).trans Z0
 replace T2:=(HB.out.cell (World.block_lt_of_cell? w _ T2)).trans T2
 replace F3:=eq_true F3
 replace I3:=eq_true I3
 have V7:0≤((ji3):Int):=dc_
 have U7:(ji3)<(l0.length:Int):=dc_
 obtain⟨am4,aA9,M3,F8⟩:=R2 HR0.out (ji3) V7 U7
 have F6:=F8
 have I2:=M3
 obtain rfl:J1=am4:=(by injection aA9)
 replace M3:=(HB.out.cell (World.block_lt_of_cell? w _ M3)).trans M3
 replace F8:=(HB.out.cell (World.block_lt_of_cell? w _ F8)).trans F8
 replace V7:=eq_true V7
 replace U7:=eq_true U7
 refine b9 (n:=18) (S:=fun w'=>w'.cell? J1=some (.int .i64 ((D0 l0 0).f0))∧w'.cell? ⟨J1.block,J1.off+1,none⟩=some (.int .i64 ((D0 l0 0).f1))∧w'.cell? (J1.add (((ji3)).toNat*2))=some (.int .i64 ((D0 l0 (ji3)).f0))∧w'.cell? ⟨(J1.add (((ji3)).toNat*2)).block,(J1.add (((ji3)).toNat*2)).off+1,none⟩=some (.int .i64 ((D0 l0 (ji3)).f1))) (ds:=[]) cc8 (by kernel_rfl) rfl rfl ⟨((HB.out.cell (World.block_lt_of_cell? w _ D2)).trans D2),((HB.out.cell (World.block_lt_of_cell? w _ o5)).trans o5),((HB.out.cell (World.block_lt_of_cell? w _ I2)).trans I2),((HB.out.cell (World.block_lt_of_cell? w _ F6)).trans F6)⟩ (fun hHeld=>?_);refine b6 q47.tab1 q47.bits1 (fun HT_ HW_=>?_)
 generalize U1.drew=Z1 at o0 HB Z0 T2 M3 F8 hHeld ⊢
 refine z1 (i:=0) (N:=some 3) (v:=?_) (a':=?_) cc5 rfl rfl (V0 HT_.out (by kernel_rfl)) (fun _ _ _ h=>h) (Or.inl ⟨by rfl,?_⟩) ?_ ?_
 rotate_left
 ·intro w'
  go_simp
  with_reducible rfl
 rotate_left
 ·simp only [ap_,sb_,s0_,s1_,N0,P0]
  rfl
 refine z1 (i:=1) (N:=some 4) (v:=?_) (a':=?_) ca8 rfl rfl (V0 HT_.out (by kernel_rfl)) (fun _ _ _ h=>h) (Or.inl ⟨by rfl,?_⟩) ?_ ?_
 rotate_left
 ·intro w'
  go_simp
  with_reducible rfl
 rotate_left
 ·simp only [ap_,sb_,s0_,s1_,N0,P0]
  rfl
 refine z1 (i:=2) (N:=some 5) (v:=?_) (a':=?_) cb2 rfl rfl (V0 HT_.out (by kernel_rfl)) (fun _ _ _ h=>h) (Or.inl ⟨by rfl,?_⟩) ?_ ?_
 rotate_left
 ·intro w'
  go_simp
  with_reducible rfl
 rotate_left
 ·simp only [ap_,sb_,s0_,s1_,N0,P0]
  rfl
 refine z1 (i:=3) (N:=some 6) (v:=?_) (a':=?_) bO8 rfl rfl (V0 HT_.out (by kernel_rfl)) (fun _ _ _ h=>h) (Or.inl ⟨by rfl,?_⟩) ?_ ?_
 rotate_left
 ·intro w'
  go_simp
  with_reducible rfl
 rotate_left
 ·simp only [ap_,sb_,s0_,s1_,N0,P0]
  rfl
 refine z1 (i:=4) (N:=some 7) (v:=?_) (a':=?_) bR8 rfl rfl (V0 HT_.out (by kernel_rfl)) (fun _ _ _ h=>h) (Or.inl ⟨by rfl,?_⟩) ?_ ?_
 rotate_left
 ·intro w'
  go_simp
  with_reducible rfl
 rotate_left
 ·simp only [ap_,sb_,s0_,s1_,N0,P0]
  rfl
 refine z1 (i:=6) (N:=some 9) (v:=?_) (a':=?_) bP0 rfl rfl (V0 HT_.out (by kernel_rfl)) (fun _ _ _ h=>h) (Or.inl ⟨by rfl,?_⟩) ?_ ?_
 rotate_left
 ·intro w'
  go_simp
  with_reducible rfl
 rotate_left
 ·simp only [ap_,sb_,s0_,s1_,N0,P0]
  rfl
 refine z1 (i:=7) (N:=some 10) (v:=?_) (a':=?_) bD1 rfl rfl (V0 HT_.out (by kernel_rfl)) (fun _ _ _ h=>h) (Or.inl ⟨by rfl,?_⟩) ?_ ?_
 rotate_left
 ·intro w'
  go_simp
  with_reducible rfl
 rotate_left
 ·simp only [ap_,sb_,s0_,s1_,N0,P0]
  rfl
 refine z1 (i:=8) (N:=some 11) (v:=?_) (a':=?_) bw2 rfl rfl (V0 HT_.out (by kernel_rfl)) (fun _ _ _ h=>h) (Or.inl ⟨by rfl,?_⟩) ?_ ?_
 rotate_left
 ·intro w'
  go_simp
  with_reducible rfl
 rotate_left
 ·simp only [ap_,sb_,s0_,s1_,N0,P0]
  rfl
 refine z1 (i:=9) (N:=some 12) (v:=?_) (a':=?_) bF9 rfl rfl (V0 HT_.out (by kernel_rfl)) (fun _ _ _ h=>h) (Or.inl ⟨by rfl,?_⟩) ?_ ?_
 rotate_left
 ·intro w'
  go_simp
  with_reducible rfl
 rotate_left
 ·simp only [ap_,sb_,s0_,s1_,N0,P0]
  rfl
 refine z1 (i:=10) (N:=some 13) (v:=?_) (a':=?_) bs0 rfl rfl (V0 HT_.out (by kernel_rfl)) (fun _ _ _ h=>h) (Or.inl ⟨by rfl,?_⟩) ?_ ?_
 rotate_left
 ·intro w'
  go_simp
  with_reducible rfl
 rotate_left
 ·simp only [ap_,sb_,s0_,s1_,N0,P0]
  rfl
 refine z1 (i:=11) (N:=some 14) (v:=?_) (a':=?_) br3 rfl rfl (V0 HT_.out (by kernel_rfl)) (fun _ _ _ h=>h) (Or.inl ⟨by rfl,?_⟩) ?_ ?_
 rotate_left
 ·intro w'
  go_simp
  with_reducible rfl
 rotate_left
 ·simp only [ap_,sb_,s0_,s1_,N0,P0]
  rfl
 refine z1 (i:=13) (N:=some 16) (v:=?_) (a':=?_) bc3 rfl rfl (V0 HT_.out (by kernel_rfl)) (fun _ _ _ h=>h) (Or.inl ⟨by rfl,?_⟩) ?_ ?_
 rotate_left
 ·intro w'
  go_simp
  with_reducible rfl
 rotate_left
 ·simp only [ap_,sb_,s0_,s1_,N0,P0]
  rfl
 refine take_ (i:=5) (N:=some 8) (v:=?_) (a':=?_) bc1 rfl rfl (M2 HT_.out HW_.out (by kernel_rfl)) (fun _ _ _ h=>h) (Or.inl ⟨by rfl,?_⟩) hHeld ?_ ?_
 rotate_left
 ·rintro w' ⟨G6,S6,T6,m8⟩
  go_simp
  with_reducible rfl
 rotate_left
 ·simp only [ap_,sb_,s0_,s1_,N0,P0]
  rfl
 refine take_ (i:=12) (N:=some 15) (v:=?_) (a':=?_) bd7 rfl rfl (M2 HT_.out HW_.out (by kernel_rfl)) (fun _ _ _ h=>h) (Or.inl ⟨by rfl,?_⟩) hHeld ?_ ?_
 rotate_left
 ·rintro w' ⟨G6,S6,T6,m8⟩
  go_simp
  with_reducible rfl
 rotate_left
 ·simp only [ap_,sb_,s0_,s1_,N0,P0]
  rfl
 refine one_ (i:=14) (N:=some 17) bd8 rfl rfl (M6 HT_.out (by kernel_rfl)) (by decide) (fun K hK=>?_)
 refine ae6 Try.func74 (by kernel_rfl) rfl #[.slice (some J1) l0.length c0] (by rfl) rfl rfl (by(try simp only [List.map_toArray,List.map_cons,List.map_nil]);first|done|rfl|(simp only [List.length_drop,List.length_take];rfl)) ?_
 with_reducible refine(q8.calls k _ _ l0 bq3 _ ?side1 ?side2 A6.out).mono ?_
 (case side1=>exact cb_ HR0)
 (case side2=>exact HC0.out)
 rintro e F2 ⟨M4,rfl,M0,hb⟩
 refine⟨_,rfl,?_⟩
 have n_:=pk3 (Kd.R_lower M0 (L0 bl_)) (F0 (bo_ o0) hb) (E0 bl_ hb)
 clear o0 HB
 obtain⟨C0,o0,HB⟩:=n_
 (try clear hb)
 (try clear hb2)
 (try clear hk)
 (try clear hi)
 (try clear M0)
 obtain⟨T0,R0,S1⟩:=Kd.R_slice C0.out
 (first|subst S1|(injection S1 with f1_ f2_ f3_;have f7000_:=f1_.symm;have f7001_:=f3_.symm;clear f1_ f2_ f3_;subst f7000_;subst f7001_))
 refine hK.out _ _ ⟨((HB.out.cell (World.block_lt_of_cell? w _ D2)).trans D2),((HB.out.cell (World.block_lt_of_cell? w _ o5)).trans o5),((HB.out.cell (World.block_lt_of_cell? w _ I2)).trans I2),((HB.out.cell (World.block_lt_of_cell? w _ F6)).trans F6)⟩ (fun hHeld=>?_)
 clear hK K
 refine o7 (a':=?_) ?_ ?_
 rotate_left
 ·show Act.put _ (some 17) _=_
  simp only [ap_,sb_,s0_,s1_,N0,P0]
  rfl
 refine one_ (i:=15) (N:=some 18) bc6 rfl rfl (M6 HT_.out (by kernel_rfl)) (by decide) (fun K hK=>?_)
 refine ae6 Try.func67 (by kernel_rfl) rfl #[.slice T0 bq3.length R0] (by rfl) rfl rfl (by(try simp only [List.map_toArray,List.map_cons,List.map_nil]);first|done|rfl|(simp only [List.length_drop,List.length_take];rfl)) ?_
 with_reducible refine(q37.calls k _ _ bq3 cv4 cI6 _ ?side1 ?side2 A7.out).mono ?_
 (case side1=>exact cr_ C0)
 (case side2=>exact(Kd.R_reads' C0.out).2.1)
 rintro e X2 ⟨z5,rfl,M0,hb⟩
 refine⟨_,rfl,?_⟩
 have n_:=pk4 (Kd.R_below (ro_ C0) hb) (Kd.R_lower M0 (L0 bl_)) (F0 (bo_ o0) hb) (E0 bl_ hb)
 clear C0 o0 HB
 obtain⟨C0,Q0,o0,HB⟩:=n_
 (try clear hb)
 (try clear hb2)
 (try clear hk)
 (try clear hi)
 (try clear M0)
 obtain⟨X1,V1,U2⟩:=Kd.R_slice Q0.out
 (first|subst U2|(injection U2 with f1_ f2_ f3_;have f7000_:=f1_.symm;have f7001_:=f3_.symm;clear f1_ f2_ f3_;subst f7000_;subst f7001_))
 refine hK.out _ _ ⟨((HB.out.cell (World.block_lt_of_cell? w _ D2)).trans D2),((HB.out.cell (World.block_lt_of_cell? w _ o5)).trans o5),((HB.out.cell (World.block_lt_of_cell? w _ I2)).trans I2),((HB.out.cell (World.block_lt_of_cell? w _ F6)).trans F6)⟩ (fun hHeld=>?_)
 clear hK K
 refine o7 (a':=?_) ?_ ?_
 rotate_left
 ·show Act.put _ (some 18) _=_
  simp only [ap_,sb_,s0_,s1_,N0,P0]
  rfl
 refine z1 (i:=16) (N:=some 19) (v:=?_) (a':=?_) aW5 rfl rfl (V0 HT_.out (by kernel_rfl)) (fun _ _ _ h=>h) (Or.inl ⟨by rfl,?_⟩) ?_ ?_
 rotate_left
 ·intro w'
  go_simp
  with_reducible rfl
 rotate_left
 ·simp only [ap_,sb_,s0_,s1_,N0,P0]
  rfl
 refine one_ (i:=17) (N:=none) aY6 rfl rfl (M6 HT_.out (by kernel_rfl)) (by decide) (fun K hK=>?_)
 have bk1:X2.cell? ⟨B0,0,none⟩=some (.int .i64 0):=(m0 o0.out 0).trans rfl
 have aT1:=t0 o0.out 0
 have bl1:X2.cell? ⟨B0,1,none⟩=some (.int .i64 0):=(m0 o0.out 1).trans rfl
 have aU5:=t0 o0.out 1
 have bl4:X2.cell? ⟨B0,2,none⟩=some (.int .i64 0):=(m0 o0.out 2).trans rfl
 have aU3:=t0 o0.out 2
 have bn8:X2.cell? ⟨B0,3,none⟩=some (.slice none 0 0):=(m0 o0.out 3).trans rfl
 have aS8:=t0 o0.out 3
 have bI5:X2.cell? ⟨B0,4,none⟩=some (.int .i64 0):=(m0 o0.out 4).trans rfl
 have bp0:=t0 o0.out 4
 refine aR2 (w1:=?_) (by rfl) rfl ?_ ?_
 rotate_left
 ·go_simp
  rfl
 refine hK.out _ _ ⟨((m2 (p:=⟨B0,_,none⟩) (nq_ D2 C2.out) _).trans (((m2 (p:=⟨B0,_,none⟩) (nq_ D2 C2.out) _).trans (((m2 (p:=⟨B0,_,none⟩) (nq_ D2 C2.out) _).trans (((m2 (p:=⟨B0,_,none⟩) (nq_ D2 C2.out) _).trans (((m2 (p:=⟨B0,_,none⟩) (nq_ D2 C2.out) _).trans (hHeld.1)))))))))),((m2 (p:=⟨B0,_,none⟩) (nq_ o5 C2.out) _).trans (((m2 (p:=⟨B0,_,none⟩) (nq_ o5 C2.out) _).trans (((m2 (p:=⟨B0,_,none⟩) (nq_ o5 C2.out) _).trans (((m2 (p:=⟨B0,_,none⟩) (nq_ o5 C2.out) _).trans (((m2 (p:=⟨B0,_,none⟩) (nq_ o5 C2.out) _).trans (hHeld.2.1)))))))))),((m2 (p:=⟨B0,_,none⟩) (nq_ I2 C2.out) _).trans (((m2 (p:=⟨B0,_,none⟩) (nq_ I2 C2.out) _).trans (((m2 (p:=⟨B0,_,none⟩) (nq_ I2 C2.out) _).trans (((m2 (p:=⟨B0,_,none⟩) (nq_ I2 C2.out) _).trans (((m2 (p:=⟨B0,_,none⟩) (nq_ I2 C2.out) _).trans (hHeld.2.2.1)))))))))),((m2 (p:=⟨B0,_,none⟩) (nq_ F6 C2.out) _).trans (((m2 (p:=⟨B0,_,none⟩) (nq_ F6 C2.out) _).trans (((m2 (p:=⟨B0,_,none⟩) (nq_ F6 C2.out) _).trans (((m2 (p:=⟨B0,_,none⟩) (nq_ F6 C2.out) _).trans (((m2 (p:=⟨B0,_,none⟩) (nq_ F6 C2.out) _).trans (hHeld.2.2.2))))))))))⟩ (fun hHeld=>?_)
 clear hK K
 refine ab2 (K7 HT_.out (by kernel_rfl)) ?_
 try go_wp2
 refine bodyPost_ret (results_cell_row rfl _ _ B0 69 #[.int .i64 (l0.length:Int),.int .i64 ((D0 l0 0).f0),.int .i64 ((D0 l0 (ji3)).f0),.slice X1 cv4.length V1,.int .i64 cI6] (0,0) _ rfl (by(with_reducible repeat(first|refine G0 ?_ _|refine J0 ?_|refine I0 ?_ _));refine D1 (cs:=#[.int .i64 (l0.length:Int),.int .i64 ((D0 l0 0).f0),.int .i64 ((D0 l0 (ji3)).f0),.slice X1 cv4.length V1,.int .i64 0]) ?_ 4 _ rfl;(with_reducible repeat(first|refine G0 ?_ _|refine J0 ?_|refine I0 ?_ _));refine D1 (cs:=#[.int .i64 (l0.length:Int),.int .i64 ((D0 l0 0).f0),.int .i64 ((D0 l0 (ji3)).f0),.slice none 0 0,.int .i64 0]) ?_ 3 _ rfl;(with_reducible repeat(first|refine G0 ?_ _|refine J0 ?_|refine I0 ?_ _));refine D1 (cs:=#[.int .i64 (l0.length:Int),.int .i64 ((D0 l0 0).f0),.int .i64 0,.slice none 0 0,.int .i64 0]) ?_ 2 _ rfl;(with_reducible repeat(first|refine G0 ?_ _|refine J0 ?_|refine I0 ?_ _));refine D1 (cs:=#[.int .i64 (l0.length:Int),.int .i64 0,.int .i64 0,.slice none 0 0,.int .i64 0]) ?_ 1 _ rfl;(with_reducible repeat(first|refine G0 ?_ _|refine J0 ?_|refine I0 ?_ _));refine D1 (cs:=#[.int .i64 0,.int .i64 0,.int .i64 0,.slice none 0 0,.int .i64 0]) ?_ 0 _ rfl;exact(bo_ o0)) Try.underlying69 rfl (by kernel_rfl)) rfl ?_
 exact⟨_,by first|rfl|(simp [J3,L3]<;>rfl)|(simp only [←hji3];first|rfl|(simp [J3,L3]<;>rfl))|(simp [*,J3,L3]<;>rfl),(rt_ (Kd.R_mono (Kd.R_far (p:=⟨B0,4,none⟩) (Kd.R_far (p:=⟨B0,3,none⟩) (Kd.R_far (p:=⟨B0,2,none⟩) (Kd.R_far (p:=⟨B0,1,none⟩) (Kd.R_far (p:=⟨B0,0,none⟩) (Kd.R_types Q0.out o0.out (by decide)) (fun _ hk=>hk.2) (.int .i64 (l0.length:Int))) (fun _ hk=>hk.2) (.int .i64 ((D0 l0 0).f0))) (fun _ hk=>hk.2) (.int .i64 ((D0 l0 (ji3)).f0))) (fun _ hk=>hk.2) (.slice X1 cv4.length V1)) (fun _ hk=>hk.2) (.int .i64 cI6)) (fun _ hk=>trivial))),bl_⟩
def q62.f (k:Nat) (a0_0:Int) (a0_1:Int) (a0_2:Int) (l0_3:List Int) (a0_4:Int):Option (Int):=(q16.f k a0_0 a0_1 a0_2 l0_3 a0_4).bind fun ch5=>(some ch5.2)
theorem q62.calls (k:Nat) (a0_0:Int) (a0_1:Int) (a0_2:Int) (A0_3:Option Addr) (c0_3:Nat) (l0_3:List Int) (a0_4:Int) (r:Int) (w:World) (hr0_3:Kd.C (Kd.int .u8) w A0_3 l0_3.length l0_3) (hc0_3:l0_3.length≤c0_3) (h:q62.f k a0_0 a0_1 a0_2 l0_3 a0_4=some r) :
  Calls Try.prog 43 #[.agg #[.int .i64 a0_0,.int .i64 a0_1,.int .i64 a0_2,.slice A0_3 l0_3.length c0_3,.int .i64 a0_4]] w fun e w'=>e=.returned (.int .i64 r)∧Below w.heap.size w w':=by
 have hu69:=Try.underlying69
 have HR0_3:=q5.mk hr0_3
 have HC0_3:=q5.mk hc0_3
 clear hr0_3 hc0_3
 have HB:=q5.mk (Below.refl w.heap.size w)
 have H:((q16.f k a0_0 a0_1 a0_2 l0_3 a0_4).bind fun ch5=>(some ch5.2))=some r:=h
 clear h
 replace H:=N2 H
 obtain⟨⟨dj0,do8⟩,A2,H⟩:=H
 try dsimp only at H
 obtain rfl:=Option.some.inj H
 go_enter Try.func43,Try.ntmps43
 go_wp2_with (first|((with_reducible refine X0 (N:=1) rfl ?_);refine L2 1 #[.int .i64 a0_0,.int .i64 a0_1,.int .i64 a0_2,.slice A0_3 l0_3.length c0_3,.int .i64 a0_4] 69 ?_;intro B0 hg U1 hbox hb;have n_:=pk4 (E0 bl_ hb) (hbox) ((ge_ hg bl_:w.heap.size≤B0)) ((ge_ hg bl_:w.heap.size≤B0));clear HB;obtain⟨HB,o0,C2,F5⟩:=n_;clear hb hbox hg;have Y2:U1.cell? ⟨B0,0,none⟩=some (.int .i64 a0_0):=(m0 o0.out 0).trans rfl;have z3:U1.cell? ⟨B0,1,none⟩=some (.int .i64 a0_1):=(m0 o0.out 1).trans rfl;have V8:U1.cell? ⟨B0,2,none⟩=some (.int .i64 a0_2):=(m0 o0.out 2).trans rfl;have P9:U1.cell? ⟨B0,3,none⟩=some (.slice A0_3 l0_3.length c0_3):=(m0 o0.out 3).trans rfl;have O9:U1.cell? ⟨B0,4,none⟩=some (.int .i64 a0_4):=(m0 o0.out 4).trans rfl;have D3:=t0 o0.out 0;have Z2:=t0 o0.out 1;have l9:=t0 o0.out 2;have S9:=t0 o0.out 3;have R9:=t0 o0.out 4)|((with_reducible refine C1 (f:=40) rfl ?_);refine goL_ (some 7) Try.func40 #[.agg #[.int .i64 a0_0,.int .i64 a0_1,.int .i64 a0_2,.slice A0_3 l0_3.length c0_3,.int .i64 a0_4]] ?_;(with_reducible refine(q16.calls k a0_0 a0_1 a0_2 _ _ l0_3 a0_4 dj0 do8 _ ?side1 ?side2 A2.out).mono ?_);(case side1=>exact cb_ HR0_3);(case side2=>exact HC0_3.out);rintro e Z1 ⟨M4,rfl,M0,hb⟩;refine⟨_,rfl,?_⟩;have n_:=pk3 (Kd.R_lower M0 (L0 bl_)) (F0 (bo_ o0) hb) (E0 bl_ hb);clear o0 HB;obtain⟨C0,o0,HB⟩:=n_;(try clear hb M0)))
 go_ret
 exact⟨rf_,bl_⟩
end Go.Proofs.Ytmddmbagehjdeaa.G
end
section
namespace Go.Proofs.Ytmddmbagehjdeaa.G
open Go.RowKit Go.Proofs.YtmddmbagehjdeaaX Go.Proofs.YtmddmbagehjdeaaW.PrintWords Go.Proofs.YtmddmbagehjdeaaW.PrintLast Go.Proofs.YtmddmbagehjdeaaW.PrintMore
attribute [local go_sem] S3 R3 R4 S4 P3 N3 D4 Y3
def q36.l0:Nat→List (S67)→Int→Option (Bool)
 |0,_,_=>none
 |k+1,x0,x3=>if x3<(x0.length:Int)then(if 0≤x3 then(if((D0 x0 x3).f0)<0 then(some false)else(if((D0 x0 x3).f0)>1099511627776 then(some false)else(if((D0 x0 x3).f1)<(-1099511627776)then(some false)else(if((D0 x0 x3).f1)>1099511627776 then(some false)else(if x3>0 then(if 0≤(wrap64 (x3 - 1))then(if(wrap64 (x3 - 1))<(x0.length:Int)then(if((D0 x0 (wrap64 (x3 - 1))).f0)≥((D0 x0 x3).f0)then(some false)else(q36.l0 k x0 (wrap64 (x3+1))))else(none))else(none))else(q36.l0 k x0 (wrap64 (x3+1))))))))else(none))else(some (decide ((x0.length:Int)≤64)))
def q36.f (k:Nat) (l0:List (S67)):Option (Bool):=q36.l0 k l0 0
theorem q36.calls (k:Nat) (A0:Option Addr) (c0:Nat) (l0:List (S67)) (r:Bool) (w:World) (hr0:Kd.C k67 w A0 l0.length l0) (hc0:l0.length≤c0) (h:q36.f k l0=some r) :
  Calls Try.prog 38 #[.slice A0 l0.length c0] w fun e w'=>e=.returned (.bool r)∧L1 w w':=by
 have HR0:=q5.mk hr0
 have HC0:=q5.mk hc0
 clear hr0 hc0
 have H:(q36.l0 k l0 0)=some r:=h
 clear h
 have H':=q5.mk H
 clear H
 go_enter Try.func38,Try.ntmps38
 go_wp2
 repeat(go_quiet (fail);try go_wp2)
 go_loopg [3] k (fun kq v3 w'=>∃ (x3_1:Int),v3=.int .i64 x3_1∧q5 (q36.l0 kq l0 x3_1=some r)∧q5 (kq≤k)∧L1 w w')
 case atStart=>exact⟨(0),sm_,H',⟨Nat.le_refl _⟩,by repeat(first|exact L1.refl _|apply L1.step)⟩
 case round =>
  clear H'
  obtain⟨x3_1,rfl,HA,HK1,⟨m1,rfl⟩⟩:=hrel
  cases gk with
  |zero=>exact absurd HA.out (by simp [q36.l0])
  |succ k1 =>
   have H:=HA.out
   clear HA
   simp only [q36.l0] at H
   replace H:=dle H
   rcases H with⟨c2b0,H⟩|⟨c2b0,H⟩
   focus
    replace H:=dle H
    rcases H with⟨c3b0,H⟩|⟨c3b0,H⟩
    rotate_left
    ·exact absurd H (by simp)
    replace H:=dle H
    rcases H with⟨c4b0,H⟩|⟨c4b0,H⟩
    focus
     obtain rfl:=Option.some.inj H
     have ag2:0≤(x3_1:Int):=dc_
     have af6:x3_1<(l0.length:Int):=dc_
     obtain⟨L9,aO6,aB7,aD0⟩:=R2 HR0.out x3_1 ag2 af6
     cases aO6
     replace ag2:=eq_true ag2
     replace af6:=eq_true af6
    rotate_left
    focus
     replace H:=dgt H
     rcases H with⟨c5b0,H⟩|⟨c5b0,H⟩
     focus
      obtain rfl:=Option.some.inj H
      have ag2:0≤(x3_1:Int):=dc_
      have af6:x3_1<(l0.length:Int):=dc_
      obtain⟨L9,aO6,aB7,aD0⟩:=R2 HR0.out x3_1 ag2 af6
      cases aO6
      replace ag2:=eq_true ag2
      replace af6:=eq_true af6
      have an8:0≤(x3_1:Int):=dc_
      have al5:x3_1<(l0.length:Int):=dc_
      obtain⟨ax4,bb1,aK6,aL8⟩:=R2 HR0.out x3_1 an8 al5
      obtain rfl:L9=ax4:=(by injection bb1)
      replace an8:=eq_true an8
      replace al5:=eq_true al5
     rotate_left
     focus
      replace H:=dle H
      rcases H with⟨c6b0,H⟩|⟨c6b0,H⟩
      focus
       obtain rfl:=Option.some.inj H
       have ag2:0≤(x3_1:Int):=dc_
       have af6:x3_1<(l0.length:Int):=dc_
       obtain⟨L9,aO6,aB7,aD0⟩:=R2 HR0.out x3_1 ag2 af6
       cases aO6
       replace ag2:=eq_true ag2
       replace af6:=eq_true af6
       have an8:0≤(x3_1:Int):=dc_
       have al5:x3_1<(l0.length:Int):=dc_
       obtain⟨ax4,bb1,aK6,aL8⟩:=R2 HR0.out x3_1 an8 al5
       obtain rfl:L9=ax4:=(by injection bb1)
       replace an8:=eq_true an8
       replace al5:=eq_true al5
       have ar7:0≤(x3_1:Int):=dc_
       have au0:x3_1<(l0.length:Int):=dc_
       obtain⟨aJ4,bn5,aT5,aT6⟩:=R2 HR0.out x3_1 ar7 au0
       obtain rfl:L9=aJ4:=(by injection bn5)
       replace ar7:=eq_true ar7
       replace au0:=eq_true au0
      rotate_left
      focus
       replace H:=dgt H
       rcases H with⟨c7b0,H⟩|⟨c7b0,H⟩
       focus
        obtain rfl:=Option.some.inj H
        have ag2:0≤(x3_1:Int):=dc_
        have af6:x3_1<(l0.length:Int):=dc_
        obtain⟨L9,aO6,aB7,aD0⟩:=R2 HR0.out x3_1 ag2 af6
        cases aO6
        replace ag2:=eq_true ag2
        replace af6:=eq_true af6
        have an8:0≤(x3_1:Int):=dc_
        have al5:x3_1<(l0.length:Int):=dc_
        obtain⟨ax4,bb1,aK6,aL8⟩:=R2 HR0.out x3_1 an8 al5
        obtain rfl:L9=ax4:=(by injection bb1)
        replace an8:=eq_true an8
        replace al5:=eq_true al5
        have ar7:0≤(x3_1:Int):=dc_
        have au0:x3_1<(l0.length:Int):=dc_
        obtain⟨aJ4,bn5,aT5,aT6⟩:=R2 HR0.out x3_1 ar7 au0
        obtain rfl:L9=aJ4:=(by injection bn5)
        replace ar7:=eq_true ar7
        replace au0:=eq_true au0
        have aG8:0≤(x3_1:Int):=dc_
        have aH4:x3_1<(l0.length:Int):=dc_
        obtain⟨ba3,bI7,bm6,bk2⟩:=R2 HR0.out x3_1 aG8 aH4
        obtain rfl:L9=ba3:=(by injection bI7)
        replace aG8:=eq_true aG8
        replace aH4:=eq_true aH4
       rotate_left
       focus
        replace H:=dgt H
        rcases H with⟨c8b0,H⟩|⟨c8b0,H⟩
        focus
         obtain⟨ji9,hji9⟩:∃ j_:Int,(wrap64 (x3_1 - 1))=j_:=⟨_,rfl⟩
         replace H:(if 0≤(ji9)then(if(ji9)<(l0.length:Int)then(if((D0 l0 (ji9)).f0)≥((D0 l0 x3_1).f0)then(some false)else(q36.l0 k1 l0 (wrap64 (x3_1+1))))else(none))else(none))=some r:=by first|(rw [hji9] at H;exact H)|(simp only [hji9] at H ⊢;exact H)
         have hji9w:(IntKind.i64.wrap (x3_1 - 1))=ji9:=(N0 _).trans hji9
         replace H:=dle H
         rcases H with⟨c10b0,H⟩|⟨c10b0,H⟩
         rotate_left
         ·exact absurd H (by simp)
         replace H:=dle H
         rcases H with⟨c11b0,H⟩|⟨c11b0,H⟩
         rotate_left
         ·exact absurd H (by simp)
         replace H:=dge H
         rcases H with⟨c12b0,H⟩|⟨c12b0,H⟩
         focus
          obtain rfl:=Option.some.inj H
          have ag2:0≤(x3_1:Int):=dc_
          have af6:x3_1<(l0.length:Int):=dc_
          obtain⟨L9,aO6,aB7,aD0⟩:=R2 HR0.out x3_1 ag2 af6
          cases aO6
          replace ag2:=eq_true ag2
          replace af6:=eq_true af6
          have an8:0≤(x3_1:Int):=dc_
          have al5:x3_1<(l0.length:Int):=dc_
          obtain⟨ax4,bb1,aK6,aL8⟩:=R2 HR0.out x3_1 an8 al5
          obtain rfl:L9=ax4:=(by injection bb1)
          replace an8:=eq_true an8
          replace al5:=eq_true al5
          have ar7:0≤(x3_1:Int):=dc_
          have au0:x3_1<(l0.length:Int):=dc_
          obtain⟨aJ4,bn5,aT5,aT6⟩:=R2 HR0.out x3_1 ar7 au0
          obtain rfl:L9=aJ4:=(by injection bn5)
          replace ar7:=eq_true ar7
          replace au0:=eq_true au0
          have aG8:0≤(x3_1:Int):=dc_
          have aH4:x3_1<(l0.length:Int):=dc_
          obtain⟨ba3,bI7,bm6,bk2⟩:=R2 HR0.out x3_1 aG8 aH4
          obtain rfl:L9=ba3:=(by injection bI7)
          replace aG8:=eq_true aG8
          replace aH4:=eq_true aH4
          have bJ8:0≤((ji9):Int):=dc_
          have bI8:(ji9)<(l0.length:Int):=dc_
          obtain⟨ch2,cG3,cy5,cv3⟩:=R2 HR0.out (ji9) bJ8 bI8
          obtain rfl:L9=ch2:=(by injection cG3)
          replace bJ8:=eq_true bJ8
          replace bI8:=eq_true bI8
          have bL7:0≤(x3_1:Int):=dc_
          have bL8:x3_1<(l0.length:Int):=dc_
          obtain⟨ch1,cO0,cv7,cA3⟩:=R2 HR0.out x3_1 bL7 bL8
          obtain rfl:L9=ch1:=(by injection cO0)
          replace bL7:=eq_true bL7
          replace bL8:=eq_true bL8
         rotate_left
         focus
          have H':=q5.mk H
          clear H
          have ag2:0≤(x3_1:Int):=dc_
          have af6:x3_1<(l0.length:Int):=dc_
          obtain⟨L9,aO6,aB7,aD0⟩:=R2 HR0.out x3_1 ag2 af6
          cases aO6
          replace ag2:=eq_true ag2
          replace af6:=eq_true af6
          have an8:0≤(x3_1:Int):=dc_
          have al5:x3_1<(l0.length:Int):=dc_
          obtain⟨ax4,bb1,aK6,aL8⟩:=R2 HR0.out x3_1 an8 al5
          obtain rfl:L9=ax4:=(by injection bb1)
          replace an8:=eq_true an8
          replace al5:=eq_true al5
          have ar7:0≤(x3_1:Int):=dc_
          have au0:x3_1<(l0.length:Int):=dc_
          obtain⟨aJ4,bn5,aT5,aT6⟩:=R2 HR0.out x3_1 ar7 au0
          obtain rfl:L9=aJ4:=(by injection bn5)
          replace ar7:=eq_true ar7
          replace au0:=eq_true au0
          have aG8:0≤(x3_1:Int):=dc_
          have aH4:x3_1<(l0.length:Int):=dc_
          obtain⟨ba3,bI7,bm6,bk2⟩:=R2 HR0.out x3_1 aG8 aH4
          obtain rfl:L9=ba3:=(by injection bI7)
          replace aG8:=eq_true aG8
          replace aH4:=eq_true aH4
          have bJ8:0≤((ji9):Int):=dc_
          have bI8:(ji9)<(l0.length:Int):=dc_
          obtain⟨ch2,cG3,cy5,cv3⟩:=R2 HR0.out (ji9) bJ8 bI8
          obtain rfl:L9=ch2:=(by injection cG3)
          replace bJ8:=eq_true bJ8
          replace bI8:=eq_true bI8
          have bL7:0≤(x3_1:Int):=dc_
          have bL8:x3_1<(l0.length:Int):=dc_
          obtain⟨ch1,cO0,cv7,cA3⟩:=R2 HR0.out x3_1 bL7 bL8
          obtain rfl:L9=ch1:=(by injection cO0)
          replace bL7:=eq_true bL7
          replace bL8:=eq_true bL8
        rotate_left 2
        focus
         have H':=q5.mk H
         clear H
         have ag2:0≤(x3_1:Int):=dc_
         have af6:x3_1<(l0.length:Int):=dc_
         obtain⟨L9,aO6,aB7,aD0⟩:=R2 HR0.out x3_1 ag2 af6
         cases aO6
         replace ag2:=eq_true ag2
         replace af6:=eq_true af6
         have an8:0≤(x3_1:Int):=dc_
         have al5:x3_1<(l0.length:Int):=dc_
         obtain⟨ax4,bb1,aK6,aL8⟩:=R2 HR0.out x3_1 an8 al5
         obtain rfl:L9=ax4:=(by injection bb1)
         replace an8:=eq_true an8
         replace al5:=eq_true al5
         have ar7:0≤(x3_1:Int):=dc_
         have au0:x3_1<(l0.length:Int):=dc_
         obtain⟨aJ4,bn5,aT5,aT6⟩:=R2 HR0.out x3_1 ar7 au0
         obtain rfl:L9=aJ4:=(by injection bn5)
         replace ar7:=eq_true ar7
         replace au0:=eq_true au0
         have aG8:0≤(x3_1:Int):=dc_
         have aH4:x3_1<(l0.length:Int):=dc_
         obtain⟨ba3,bI7,bm6,bk2⟩:=R2 HR0.out x3_1 aG8 aH4
         obtain rfl:L9=ba3:=(by injection bI7)
         replace aG8:=eq_true aG8
         replace aH4:=eq_true aH4
   rotate_left 7
   focus
    obtain rfl:=Option.some.inj H
   all_goals
    go_wp2
    repeat(go_quiet (fail);try go_wp2)
    first
     |go_ret
      first
       |exact⟨by first|rfl|(simp;done)|(simp [*];done),by repeat(first|exact L1.refl _|apply L1.step)⟩
       |exact⟨by first|rfl|(simp;done)|(simp only [←hji9]<;>(first|rfl|simp))|(simp [*];done),by repeat(first|exact L1.refl _|apply L1.step)⟩
     |go_roundg k1
      case measure=>have:=HK1.out;omega
      case rel=>exact⟨(wrap64 (x3_1+1)),sm_,H',⟨by have:=HK1.out;omega⟩,by repeat(first|exact L1.refl _|apply L1.step)⟩
end Go.Proofs.Ytmddmbagehjdeaa.G
end
section
namespace Go.Proofs.Ytmddmbagehjdeaa.G
open Go.RowKit Go.Proofs.YtmddmbagehjdeaaX Go.Proofs.YtmddmbagehjdeaaW.PrintWords Go.Proofs.YtmddmbagehjdeaaW.PrintLast Go.Proofs.YtmddmbagehjdeaaW.PrintMore
attribute [local go_sem] S3 R3 R4 S4 P3 N3 D4 Y3
mutual
def q7.j0:Nat→Bool→List Int→List ByteArray→Option ((List (S67))×Bool)
 |0,_,_,_=>none
 |k+1,x24,Z5,ac0=>if x24=true then(some (([]:List (S67)),false))else(q7.l0 k (([]:List (S67))) 1 Z5 ac0)
def q7.l0:Nat→List (S67)→Int→List Int→List ByteArray→Option ((List (S67))×Bool)
 |0,_,_,_,_=>none
 |k+1,x4,x5,Z5,ac0=>if(wrap64 (x5+1))<(Z5.length:Int)then(if 0≤x5 then(if x5<(Z5.length:Int)then(if 0≤(wrap64 (x5+1))then(if(rd Z5 x5)>8796093022208 then(q7.j2 k x4 x5 (rd Z5 x5) (rd Z5 (wrap64 (x5+1))) true Z5 ac0)else(if(rd Z5 x5)<(-8796093022208)then(q7.j2 k x4 x5 (rd Z5 x5) (rd Z5 (wrap64 (x5+1))) true Z5 ac0)else(if(rd Z5 (wrap64 (x5+1)))>8796093022208 then(q7.j2 k x4 x5 (rd Z5 x5) (rd Z5 (wrap64 (x5+1))) true Z5 ac0)else(q7.j2 k x4 x5 (rd Z5 x5) (rd Z5 (wrap64 (x5+1))) (decide ((rd Z5 (wrap64 (x5+1)))<(-8796093022208))) Z5 ac0))))else(none))else(none))else(none))else((q22.f k x4).bind fun cc4=>((q40.f k cc4 Z5).bind fun da0=>(if da0=true then(some (x4,true))else(some (([]:List (S67)),false)))))
def q7.j2:Nat→List (S67)→Int→Int→Int→Bool→List Int→List ByteArray→Option ((List (S67))×Bool)
 |0,_,_,_,_,_,_,_=>none
 |k+1,x4,x5,x6,x7,x58,Z5,ac0=>if x58=true then(some (([]:List (S67)),false))else(if(x4.length:Int)>0 then(if 0≤(wrap64 ((x4.length:Int) - 1))then(if(wrap64 ((x4.length:Int) - 1))<(x4.length:Int)then(q7.j3 k x4 x5 (wrap64 (x6+((D0 x4 (wrap64 ((x4.length:Int) - 1))).f0))) (wrap64 (x7+((D0 x4 (wrap64 ((x4.length:Int) - 1))).f1))) (x4.length:Int) Z5 ac0)else(none))else(none))else(q7.j3 k x4 x5 x6 x7 (x4.length:Int) Z5 ac0))
def q7.j3:Nat→List (S67)→Int→Int→Int→Int→List Int→List ByteArray→Option ((List (S67))×Bool)
 |0,_,_,_,_,_,_,_=>none
 |k+1,x4,x5,x6,x7,x8,Z5,ac0=>if x8>1 then(if 0≤(wrap64 (x8 - 1))then(if(wrap64 (x8 - 1))<(x4.length:Int)then(if 0≤(wrap64 (x8 - 2))then(if(wrap64 (x8 - 2))<(x4.length:Int)then(if x4.length<8796093022208 then((some (x4++[(⟨wrap64 ((wrap64 (x6+((D0 x4 (wrap64 (x8 - 1))).f0))) - ((D0 x4 (wrap64 (x8 - 2))).f0)),wrap64 ((wrap64 (x7+((D0 x4 (wrap64 (x8 - 1))).f1))) - ((D0 x4 (wrap64 (x8 - 2))).f1))⟩:S67)]:List (S67))).bind fun aD5=>((q36.f k aD5).bind fun bB1=>(if bB1=true then(q7.l0 k aD5 (wrap64 (x5+2)) Z5 ac0)else(some (([]:List (S67)),false)))))else(none))else(none))else(none))else(none))else(none))else(if x4.length<8796093022208 then((some (x4++[(⟨x6,x7⟩:S67)]:List (S67))).bind fun bd2=>((q36.f k bd2).bind fun cs9=>(if cs9=true then(q7.l0 k bd2 (wrap64 (x5+2)) Z5 ac0)else(some (([]:List (S67)),false)))))else(none))
end
def q7.f (k:Nat) (l0_0:List Int) (l0_1:List ByteArray):Option ((List (S67))×Bool):=if(l0_1.length:Int)>0 then(q7.j0 k true l0_0 l0_1)else(if(l0_0.length:Int)>129 then(q7.j0 k true l0_0 l0_1)else(q7.j0 k (decide ((l0_0.length:Int)<1)) l0_0 l0_1))
def q7.T7:Bool×List (List Nat×List Nat):=(true,[([],[]),([0],[0]),([],[]),([1,2],[1,2]),([3],[3]),([],[]),([5],[5]),([],[]),([7],[7]),([6,8],[6,8]),([9],[9]),([4,0,1,2,3,4],[4]),([10,11,0,1,2,3,4,5,6,7,8,9,10,11],[10])])
def q7.B7:List Nat:=[0,1,0,7,15,0,32,0,128,480,992,31,4095]
theorem q7.tab7:rtab .any (ap1 Try.f77 7)=q7.T7:=by kernel_rfl
theorem q7.bits7:b8 q7.T7.2 q7.B7=true:=by kernel_rfl
def q7.T15:Bool×List (List Nat×List Nat):=(true,[([],[]),([],[]),([],[]),([2],[2]),([1,3],[1,3]),([4],[4]),([5],[5]),([0,6],[0,6]),([],[]),([],[]),([9],[9]),([8,10],[8,10]),([11],[11]),([12],[12]),([7,13],[7,13]),([14,0,1,2,3,4,5,6,7,8,9,10,11,12,13,14],[0,14])])
def q7.B15:List Nat:=[0,0,0,4,14,30,62,127,0,0,512,1792,3840,7936,16383,32767]
theorem q7.tab15:rtab .any (ap1 Try.f77 15)=q7.T15:=by kernel_rfl
theorem q7.bits15:b8 q7.T15.2 q7.B15=true:=by kernel_rfl
def q7.T16:Bool×List (List Nat×List Nat):=(true,[([],[]),([],[]),([],[]),([2],[2]),([1,3],[1,3]),([4],[4]),([5],[5]),([0,6],[0,6]),([],[]),([],[]),([9],[9]),([8,10],[8,10]),([11],[11]),([12],[12]),([7,13],[7,13]),([14,0,1,2,3,4,5,6,7,8,9,10,11,12,13,14],[0,14])])
def q7.B16:List Nat:=[0,0,0,4,14,30,62,127,0,0,512,1792,3840,7936,16383,32767]
theorem q7.tab16:rtab .any (ap1 Try.f77 16)=q7.T16:=by kernel_rfl
theorem q7.bits16:b8 q7.T16.2 q7.B16=true:=by kernel_rfl
theorem q7.calls (k:Nat) (A0_0:Option Addr) (c0_0:Nat) (l0_0:List Int) (A0_1:Option Addr) (c0_1:Nat) (l0_1:List ByteArray) (r1:List (S67)) (r2:Bool) (w:World) (hr0_0:Kd.C (Kd.int .i64) w A0_0 l0_0.length l0_0) (hc0_0:l0_0.length≤c0_0) (hr0_1:Kd.C Kd.string w A0_1 l0_1.length l0_1) (hc0_1:l0_1.length≤c0_1) (h:q7.f k l0_0 l0_1=some (r1,r2)) :
  Calls Try.prog 77 #[.agg #[.slice A0_0 l0_0.length c0_0,.slice A0_1 l0_1.length c0_1]] w fun e w'=>∃ v0_:Value,e=.returned (.tuple #[v0_,.bool r2])∧Kd.R k67 67 w' w.heap.size (fun _=>True) v0_ r1∧Below w.heap.size w w':=by
 have hu98:=Try.underlying98
 have hu67:=Try.underlying67
 have HR0_0:=q5.mk hr0_0
 have HC0_0:=q5.mk hc0_0
 clear hr0_0 hc0_0
 have HR0_1:=q5.mk hr0_1
 have HC0_1:=q5.mk hc0_1
 clear hr0_1 hc0_1
 have HB:=q5.mk (Below.refl w.heap.size w)
 have H:(if(l0_1.length:Int)>0 then(q7.j0 k true l0_0 l0_1)else(if(l0_0.length:Int)>129 then(q7.j0 k true l0_0 l0_1)else(q7.j0 k (decide ((l0_0.length:Int)<1)) l0_0 l0_1)))=some (r1,r2):=h
 clear h
 have HC2:=q5.mk H
 clear H
 go_enter Try.func77,Try.ntmps77
 go_upto_region 1 with(first|((with_reducible refine X0 (N:=1) rfl ?_);(try(refine O2 (by rfl) ?_;dsimp only));refine L2 1 #[.slice A0_0 l0_0.length c0_0,.slice A0_1 l0_1.length c0_1] 98 ?_;intro aD8 hg w3 hbox hb;have n_:=pk4 (E0 bl_ hb) (hbox) ((ge_ hg bl_:w.heap.size≤aD8)) ((ge_ hg bl_:w.heap.size≤aD8));clear HB;obtain⟨HB,U4,dp0,dp6⟩:=n_;clear hb hbox hg))
 (try simp only [ap_,sb_,s0_,s1_])
 go_cut [24] (fun v24 wc=>∃ (kq:Nat) (x24_1:Bool),v24=.bool x24_1∧q5 (q7.j0 kq x24_1 l0_0 l0_1=some (r1,r2))∧q5 (kq≤k)∧q5 (wc.heap[aD8]?=some (.cells #[(.slice A0_0 l0_0.length c0_0),(.slice A0_1 l0_1.length c0_1)] 98 (0,0)))∧q5 (Below w.heap.size w wc))
 case first =>
  have H:=HC2.out
  clear HC2
  by_cases c4:(l0_1.length:Int)>0
  focus
   rw [if_pos c4] at H
   have c4b0:decide (0<(l0_1.length:Int))=true:=decide_eq_true c4
   have c4b1:decide (0<l0_1.length)=true:=decide_eq_true (by omega)
   have c4b1_:=eq_true (of_decide_eq_true c4b1)
   clear c4
   (first|rw [c4b0]|(simp only [N0,P0];rw [c4b0])|skip)
   have H':=q5.mk H
   clear H
   obtain⟨hcz5_0,hcz5_1,hfz5_0,hfz5_1⟩:=N4 U4.out
  rotate_left
  focus
   rw [if_neg c4] at H
   have c4b0:decide (0<(l0_1.length:Int))=false:=decide_eq_false c4
   have c4b1:decide (0<l0_1.length)=false:=decide_eq_false (by omega)
   have c4b1_:=eq_false (of_decide_eq_false c4b1)
   clear c4
   (first|rw [c4b0]|(simp only [N0,P0];rw [c4b0])|skip)
   by_cases c6:(l0_0.length:Int)>129
   focus
    rw [if_pos c6] at H
    have c6b0:decide (129<(l0_0.length:Int))=true:=decide_eq_true c6
    have c6b1:decide (129<l0_0.length)=true:=decide_eq_true (by omega)
    have c6b1_:=eq_true (of_decide_eq_true c6b1)
    clear c6
    have H':=q5.mk H
    clear H
    obtain⟨hcz7_0,hcz7_1,hfz7_0,hfz7_1⟩:=N4 U4.out
   rotate_left
   focus
    rw [if_neg c6] at H
    have c6b0:decide (129<(l0_0.length:Int))=false:=decide_eq_false c6
    have c6b1:decide (129<l0_0.length)=false:=decide_eq_false (by omega)
    have c6b1_:=eq_false (of_decide_eq_false c6b1)
    clear c6
    have H':=q5.mk H
    clear H
    obtain⟨hcz8_0,hcz8_1,hfz8_0,hfz8_1⟩:=N4 U4.out
  all_goals
   go_wp2
   first
    |all_goals (try exact absurd (of_eq_true c4b1_) (by assumption))
     go_meet
     case rel=>exact⟨_,(true),sm_,H',⟨om_⟩,⟨(bo_ U4)⟩,⟨bl_⟩⟩
    |all_goals (try exact absurd (of_eq_true c6b1_) (by assumption))
     go_meet
     case rel=>exact⟨_,(true),sm_,H',⟨om_⟩,⟨(bo_ U4)⟩,⟨bl_⟩⟩
    |all_goals (try exact absurd (by assumption) (of_eq_false c6b1_))
     go_meet
     case rel=>exact⟨_,(decide ((l0_0.length:Int)<1)),sm_,H',⟨om_⟩,⟨(bo_ U4)⟩,⟨bl_⟩⟩
 case rest =>
  clear HC2
  obtain⟨kq,x24_1,rfl,HA,HJ1,U4,HB⟩:=hcut
  cases kq with
  |zero=>exact absurd HA.out (by simp [q7.j0])
  |succ kj1 =>
   have H:=HA.out
   clear HA
   simp only [q7.j0] at H
   replace H:=Q7 H
   rcases H with⟨rfl,H⟩|⟨rfl,H⟩
   rotate_left
   ·obtain⟨df3,bu2⟩:∃ y_:List (S67),y_=(([]:List (S67))):=⟨_,rfl⟩
    replace H:(q7.l0 kj1 df3 1 l0_0 l0_1)=some (r1,r2):=by first|(rw [bu2];with_reducible exact H)|(have H2_:=(Option.bind_some _ _).symm.trans H;rw [bu2];with_reducible exact H2_)|(have H2_:=(Option.bind_some _ _).symm.trans H;with_reducible exact H2_)|with_reducible exact H|(rw [bu2];exact H)|exact H
    have cB1:=q5.mk bu2
    clear bu2
    have H':=q5.mk H
    clear H
    go_wp2_with (first|((with_reducible refine X0 (N:=25) rfl ?_);(try(refine O2 (by rfl) ?_;dsimp only));refine Kd.R_lit k67 _ 67 ?hg (N:=25) ?hd (xs:=([]:List (S67))) (inner:=[]) (ok:=fun _=>True) (okp:=fun _=>True) ?hr ?hp (fun _ hk=>hk) trivial (Below.refl _ _) (Nat.le_refl _) (by simp) ?_;(case hd=>rfl);(case hg=>rfl);(case hr=>first|(go_simp;done)|(go_simp;rfl));(case hp=>exact(Reps.none _ _));intro dt9 w10 ho11 hb hg_ hnew_;clear hg_ hnew_;(first|rw [←cB1.out] at ho11|(simp only [Int.reduceToNat] at ho11;rw [←cB1.out] at ho11));have n_:=pk3 (Kd.R_lower ho11 (L0 bl_)) (F0 (bo_ U4) hb) (E0 bl_ hb);clear U4 HB;obtain⟨cT2,U4,HB⟩:=n_;clear hb ho11))
    go_loopg [4,5] kj1 (fun kq v4 v5 w'=>∃ (x4_2:List (S67)) (x5_2:Int),v5=.int .i64 x5_2∧q5 (q7.l0 kq x4_2 x5_2 l0_0 l0_1=some (r1,r2))∧q5 (kq≤kj1)∧q5 (Kd.R k67 67 w' w.heap.size (fun _=>True) v4 x4_2)∧q5 (w'.heap[aD8]?=some (.cells #[(.slice A0_0 l0_0.length c0_0),(.slice A0_1 l0_1.length c0_1)] 98 (0,0)))∧q5 (Below w.heap.size w w'))
    case atStart=>exact⟨(df3),(1),sm_,H',⟨Nat.le_refl _⟩,⟨(ro_ cT2)⟩,⟨(bo_ U4)⟩,⟨bl_⟩⟩
    case round =>
     clear H'
     try clear c9
     obtain⟨x4_2,x5_2,rfl,HA,HK2,HO_4,U4,HB⟩:=hrel
     cases gk with
     |zero=>exact absurd HA.out (by simp [q7.l0])
     |succ k2 =>
      have H:=HA.out
      clear HA
      simp only [q7.l0] at H
      replace H:=dle H
      rcases H with⟨c12b0,H⟩|⟨c12b0,H⟩
      ·replace H:=dle H
       rcases H with⟨c13b0,H⟩|⟨c13b0,H⟩
       ·replace H:=dle H
        rcases H with⟨c14b0,H⟩|⟨c14b0,H⟩
        ·obtain⟨ji15,hji15⟩:∃ j_:Int,(wrap64 (x5_2+1))=j_:=⟨_,rfl⟩
         replace H:(if 0≤(ji15)then(if(rd l0_0 x5_2)>8796093022208 then(q7.j2 k2 x4_2 x5_2 (rd l0_0 x5_2) (rd l0_0 (ji15)) true l0_0 l0_1)else(if(rd l0_0 x5_2)<(-8796093022208)then(q7.j2 k2 x4_2 x5_2 (rd l0_0 x5_2) (rd l0_0 (ji15)) true l0_0 l0_1)else(if(rd l0_0 (ji15))>8796093022208 then(q7.j2 k2 x4_2 x5_2 (rd l0_0 x5_2) (rd l0_0 (ji15)) true l0_0 l0_1)else(q7.j2 k2 x4_2 x5_2 (rd l0_0 x5_2) (rd l0_0 (ji15)) (decide ((rd l0_0 (ji15))<(-8796093022208))) l0_0 l0_1))))else(none))=some (r1,r2):=by first|(rw [hji15] at H;exact H)|(simp only [hji15] at H ⊢;exact H)
         (try rw [hji15] at c12b0)
         have hji15w:(IntKind.i64.wrap (x5_2+1))=ji15:=(N0 _).trans hji15
         replace H:=dle H
         rcases H with⟨c16b0,H⟩|⟨c16b0,H⟩
         ·have HC17:=q5.mk H
          clear H
          obtain⟨hcz18_0,hcz18_1,hfz18_0,hfz18_1⟩:=N4 U4.out
          try go_wp2
          have n_:=pk3 (Kd.R_drew HO_4.out) (J0 U4.out) (N1 HB.out)
          clear HO_4 U4 HB
          obtain⟨HO_4,U4,HB⟩:=n_
          have ck6:0≤(x5_2:Int):=dc_
          have ci4:x5_2<(l0_0.length:Int):=dc_
          obtain⟨be9,dm3,ar4⟩:=Kd.at_int HR0_0.out x5_2 ck6 ci4
          have bW8:=ar4
          cases dm3
          replace ar4:=(HB.out.cell (World.block_lt_of_cell? w _ ar4)).trans ar4
          replace ck6:=eq_true ck6
          replace ci4:=eq_true ci4
          have ck8:0≤((ji15):Int):=dc_
          have cl2:(ji15)<(l0_0.length:Int):=dc_
          obtain⟨dc9,di8,as4⟩:=Kd.at_int HR0_0.out (ji15) ck8 cl2
          have bW5:=as4
          obtain rfl:be9=dc9:=(by injection di8)
          replace as4:=(HB.out.cell (World.block_lt_of_cell? w _ as4)).trans as4
          replace ck8:=eq_true ck8
          replace cl2:=eq_true cl2
          refine b9 (n:=13) (S:=fun w'=>w'.cell? ⟨aD8,0,none⟩=some (.slice (some be9) l0_0.length c0_0)∧w'.cell? ⟨aD8,1,none⟩=some (.slice A0_1 l0_1.length c0_1)∧w'.cell? (be9.add (x5_2).toNat)=some (.int .i64 (rd l0_0 x5_2))∧w'.cell? (be9.add ((ji15)).toNat)=some (.int .i64 (rd l0_0 (ji15)))) (ds:=[]) ce4 (by kernel_rfl) rfl rfl ⟨(m0 U4.out 0).trans rfl,(m0 U4.out 1).trans rfl,((HB.out.cell (World.block_lt_of_cell? w _ bW8)).trans bW8),((HB.out.cell (World.block_lt_of_cell? w _ bW5)).trans bW5)⟩ (fun hHeld=>?_);refine b6 q7.tab7 q7.bits7 (fun HT_ HW_=>?_)
          generalize wr.drew=w19 at HO_4 U4 HB ar4 as4 hHeld ⊢
          refine z1 (i:=0) (N:=some 34) (v:=?_) (a':=?_) cb0 rfl rfl (V0 HT_.out (by kernel_rfl)) (fun _ _ _ h=>h) (Or.inl ⟨by rfl,?_⟩) ?_ ?_
          rotate_left
          ·intro w'
           go_simp
           with_reducible rfl
          rotate_left
          ·simp only [ap_,sb_,s0_,s1_,N0,P0]
           rfl
          refine z1 (i:=2) (N:=some 36) (v:=?_) (a':=?_) bY5 rfl rfl (V0 HT_.out (by kernel_rfl)) (fun _ _ _ h=>h) (Or.inl ⟨by rfl,?_⟩) ?_ ?_
          rotate_left
          ·intro w'
           go_simp
           with_reducible rfl
          rotate_left
          ·simp only [ap_,sb_,s0_,s1_,N0,P0]
           rfl
          refine z1 (i:=5) (N:=some 39) (v:=?_) (a':=?_) bR3 rfl rfl (V0 HT_.out (by kernel_rfl)) (fun _ _ _ h=>h) (Or.inl ⟨by rfl,?_⟩) ?_ ?_
          rotate_left
          ·intro w'
           go_simp
           with_reducible rfl
          rotate_left
          ·simp only [ap_,sb_,s0_,s1_,N0,P0]
           rfl
          refine z1 (i:=7) (N:=some 41) (v:=?_) (a':=?_) bz6 rfl rfl (V0 HT_.out (by kernel_rfl)) (fun _ _ _ h=>h) (Or.inl ⟨by rfl,?_⟩) ?_ ?_
          rotate_left
          ·intro w'
           go_simp
           with_reducible rfl
          rotate_left
          ·simp only [ap_,sb_,s0_,s1_,N0,P0]
           rfl
          refine z1 (i:=8) (N:=some 42) (v:=?_) (a':=?_) bC1 rfl rfl (V0 HT_.out (by kernel_rfl)) (fun _ _ _ h=>h) (Or.inl ⟨by rfl,?_⟩) ?_ ?_
          rotate_left
          ·intro w'
           go_simp
           with_reducible rfl
          rotate_left
          ·simp only [ap_,sb_,s0_,s1_,N0,P0]
           rfl
          refine take_ (i:=1) (N:=some 35) (v:=?_) (a':=?_) bB3 rfl rfl (M2 HT_.out HW_.out (by kernel_rfl)) (fun _ _ _ h=>h) (Or.inl ⟨by rfl,?_⟩) hHeld ?_ ?_
          rotate_left
          ·rintro w' ⟨s0,s1,s2,s3⟩
           go_simp
           with_reducible rfl
          rotate_left
          ·simp only [ap_,sb_,s0_,s1_,N0,P0]
           rfl
          refine z1 (i:=3) (N:=some 37) (v:=?_) (a':=?_) bt5 rfl rfl (V0 HT_.out (by kernel_rfl)) (fun _ _ _ h=>h) (Or.inl ⟨by rfl,?_⟩) ?_ ?_
          rotate_left
          ·intro w'
           go_simp
           with_reducible rfl
          rotate_left
          ·simp only [ap_,sb_,s0_,s1_,N0,P0]
           rfl
          refine take_ (i:=4) (N:=some 38) (v:=?_) (a':=?_) bG6 rfl rfl (M2 HT_.out HW_.out (by kernel_rfl)) (fun _ _ _ h=>h) (Or.inl ⟨by rfl,?_⟩) hHeld ?_ ?_
          rotate_left
          ·rintro w' ⟨s0,s1,s2,s3⟩
           go_simp
           with_reducible rfl
          rotate_left
          ·simp only [ap_,sb_,s0_,s1_,N0,P0]
           rfl
          refine z1 (i:=11) (N:=some 6) (v:=?_) (a':=?_) bl0 rfl rfl (V0 HT_.out (by kernel_rfl)) (fun _ _ _ h=>h) (Or.inl ⟨by rfl,?_⟩) ?_ ?_
          rotate_left
          ·intro w'
           go_simp
           with_reducible rfl
          rotate_left
          ·simp only [ap_,sb_,s0_,s1_,N0,P0]
           rfl
          refine take_ (i:=6) (N:=some 40) (v:=?_) (a':=?_) br4 rfl rfl (M2 HT_.out HW_.out (by kernel_rfl)) (fun _ _ _ h=>h) (Or.inl ⟨by rfl,?_⟩) hHeld ?_ ?_
          rotate_left
          ·rintro w' ⟨s0,s1,s2,s3⟩
           go_simp
           with_reducible rfl
          rotate_left
          ·simp only [ap_,sb_,s0_,s1_,N0,P0]
           rfl
          refine z1 (i:=9) (N:=some 43) (v:=?_) (a':=?_) bl3 rfl rfl (V0 HT_.out (by kernel_rfl)) (fun _ _ _ h=>h) (Or.inl ⟨by rfl,?_⟩) ?_ ?_
          rotate_left
          ·intro w'
           go_simp
           with_reducible rfl
          rotate_left
          ·simp only [ap_,sb_,s0_,s1_,N0,P0]
           rfl
          refine take_ (i:=10) (N:=some 44) (v:=?_) (a':=?_) bl8 rfl rfl (M2 HT_.out HW_.out (by kernel_rfl)) (fun _ _ _ h=>h) (Or.inl ⟨by rfl,?_⟩) hHeld ?_ ?_
          rotate_left
          ·rintro w' ⟨s0,s1,s2,s3⟩
           go_simp
           with_reducible rfl
          rotate_left
          ·simp only [ap_,sb_,s0_,s1_,N0,P0]
           rfl
          refine z1 (i:=12) (N:=some 7) (v:=?_) (a':=?_) bk8 rfl rfl (V0 HT_.out (by kernel_rfl)) (fun _ _ _ h=>h) (Or.inl ⟨by rfl,?_⟩) ?_ ?_
          rotate_left
          ·intro w'
           go_simp
           with_reducible rfl
          rotate_left
          ·simp only [ap_,sb_,s0_,s1_,N0,P0]
           rfl
          refine ab2 (K7 HT_.out (by kernel_rfl)) ?_
          go_upto_region 8 with(fail)
          go_cut [58] (fun v58 wc=>∃ (kq:Nat) (x58_16:Bool),v58=.bool x58_16∧q5 (q7.j2 kq x4_2 x5_2 (rd l0_0 x5_2) (rd l0_0 (ji15)) x58_16 l0_0 l0_1=some (r1,r2))∧q5 (kq≤k2)∧q5 (Kd.R k67 67 wc w.heap.size (fun _=>True) u4 x4_2)∧q5 (wc.heap[aD8]?=some (.cells #[(.slice (some be9) l0_0.length c0_0),(.slice A0_1 l0_1.length c0_1)] 98 (0,0)))∧q5 (Below w.heap.size w wc))
          case first =>
           have H:=HC17.out
           clear HC17
           replace H:=dgt H
           rcases H with⟨c20b0,H⟩|⟨c20b0,H⟩
           focus
            (first|rw [c20b0]|(simp only [N0,P0];rw [c20b0])|skip)
            have H':=q5.mk H
            clear H
           rotate_left
           focus
            (first|rw [c20b0]|(simp only [N0,P0];rw [c20b0])|skip)
            replace H:=dle H
            rcases H with⟨c21b0,H⟩|⟨c21b0,H⟩
            focus
             have H':=q5.mk H
             clear H
            rotate_left
            focus
             replace H:=dgt H
             rcases H with⟨c22b0,H⟩|⟨c22b0,H⟩
             focus
              have H':=q5.mk H
              clear H
             rotate_left
             focus
              have H':=q5.mk H
              clear H
           all_goals
            go_wp2
            go_meet
            first
             |case rel=>exact⟨_,(true),sm_,H',⟨by have:=HJ1.out;have:=HK2.out;first|omega|exact Nat.le_refl _⟩,⟨(ro_ HO_4)⟩,⟨(bo_ U4)⟩,⟨bl_⟩⟩
             |case rel=>exact⟨_,(decide ((rd l0_0 (ji15))<(-8796093022208))),(by first|rfl|(simp;done)|(simp only [←hji15]<;>(first|rfl|simp))|(simp [*];done)),H',⟨by have:=HJ1.out;have:=HK2.out;first|omega|exact Nat.le_refl _⟩,⟨(ro_ HO_4)⟩,⟨(bo_ U4)⟩,⟨bl_⟩⟩
          case rest =>
           clear HC17
           try clear c9
           try clear c12
           try clear c12b0
           try clear c13
           try clear c13b0
           try clear c14
           try clear c14b0
           try clear c16
           try clear c16b0
           try clear hcz18_0
           try clear hcz18_1
           try clear hfz18_0
           try clear hfz18_1
           try clear ar4
           try clear as4
           try clear ck6
           try clear ck8
           try clear ci4
           try clear cl2
           obtain⟨kq,x58_16,rfl,HA,HJ16,HO_4,U4,HB⟩:=hcut
           cases kq with
           |zero=>exact absurd HA.out (by simp [q7.j2])
           |succ kj16 =>
            have H:=HA.out
            clear HA
            simp only [q7.j2] at H
            replace H:=Q7 H
            rcases H with⟨rfl,H⟩|⟨rfl,H⟩
            rotate_left
            ·have HC24:=q5.mk H
             clear H
             obtain⟨Ao25,co25,eo25⟩:=Kd.R_slice HO_4.out
             subst eo25
             go_upto_if 62 with(fail)
             go_cut [6,7] (fun v6 v7 wc=>∃ (kq:Nat) (x6_23:Int) (x7_23:Int),v6=.int .i64 x6_23∧v7=.int .i64 x7_23∧q5 (q7.j3 kq x4_2 x5_2 x6_23 x7_23 (x4_2.length:Int) l0_0 l0_1=some (r1,r2))∧q5 (kq≤kj16)∧q5 (Kd.R k67 67 wc w.heap.size (fun _=>True) (.slice Ao25 x4_2.length co25) x4_2)∧q5 (wc.heap[aD8]?=some (.cells #[(.slice (some be9) l0_0.length c0_0),(.slice A0_1 l0_1.length c0_1)] 98 (0,0)))∧q5 (Below w.heap.size w wc))
             case first =>
              have H:=HC24.out
              clear HC24
              by_cases c26:(x4_2.length:Int)>0
              focus
               rw [if_pos c26] at H
               have c26b0:decide (0<(x4_2.length:Int))=true:=decide_eq_true c26
               have c26b1:decide (0<x4_2.length)=true:=decide_eq_true (by omega)
               have c26b1_:=eq_true (of_decide_eq_true c26b1)
               clear c26
               (first|rw [c26b0]|(simp only [N0,P0];rw [c26b0])|skip)
               obtain⟨ji27,hji27⟩:∃ j_:Int,(wrap64 ((x4_2.length:Int) - 1))=j_:=⟨_,rfl⟩
               replace H:(if 0≤(ji27)then(if(ji27)<(x4_2.length:Int)then(q7.j3 kj16 x4_2 x5_2 (wrap64 ((rd l0_0 x5_2)+((D0 x4_2 (ji27)).f0))) (wrap64 ((rd l0_0 (ji15))+((D0 x4_2 (ji27)).f1))) (x4_2.length:Int) l0_0 l0_1)else(none))else(none))=some (r1,r2):=by first|(rw [hji27] at H;exact H)|(simp only [hji27] at H ⊢;exact H)
               have hji27w:(IntKind.i64.wrap ((x4_2.length:Int) - 1))=ji27:=(N0 _).trans hji27
               replace H:=dle H
               rcases H with⟨c28b0,H⟩|⟨c28b0,H⟩
               rotate_left
               ·exact absurd H (by simp)
               replace H:=dle H
               rcases H with⟨c29b0,H⟩|⟨c29b0,H⟩
               rotate_left
               ·exact absurd H (by simp)
               have H':=q5.mk H
               clear H
               have cM8:0≤((ji27):Int):=dc_
               have cM5:(ji27)<(x4_2.length:Int):=dc_
               obtain⟨cZ4,di9,dh6,dh3⟩:=R2 (Kd.R_reads' HO_4.out).2.2 (ji27) cM8 cM5
               cases di9
               replace cM8:=eq_true cM8
               replace cM5:=eq_true cM5
               have cH0:0≤((ji27):Int):=dc_
               have cF6:(ji27)<(x4_2.length:Int):=dc_
               obtain⟨cV8,dm4,dg2,dh1⟩:=R2 (Kd.R_reads' HO_4.out).2.2 (ji27) cH0 cF6
               obtain rfl:cZ4=cV8:=(by injection dm4)
               replace cH0:=eq_true cH0
               replace cF6:=eq_true cF6
              rotate_left
              focus
               rw [if_neg c26] at H
               have c26b0:decide (0<(x4_2.length:Int))=false:=decide_eq_false c26
               have c26b1:decide (0<x4_2.length)=false:=decide_eq_false (by omega)
               have c26b1_:=eq_false (of_decide_eq_false c26b1)
               clear c26
               (first|rw [c26b0]|(simp only [N0,P0];rw [c26b0])|skip)
               have H':=q5.mk H
               clear H
              all_goals
               go_wp2
               first
                |all_goals (try exact absurd (of_eq_true c26b1_) (by assumption))
                 go_meet
                 case rel=>exact⟨_,(wrap64 ((rd l0_0 x5_2)+((D0 x4_2 (ji27)).f0))),(wrap64 ((rd l0_0 (ji15))+((D0 x4_2 (ji27)).f1))),(by first|rfl|(simp;done)|(simp only [←hji27]<;>(first|rfl|simp))|(simp [*];done)),(by first|rfl|(simp;done)|(simp only [←hji15,←hji27]<;>(first|rfl|simp))|(simp [*];done)),H',⟨by have:=HJ1.out;have:=HK2.out;have:=HJ16.out;first|omega|exact Nat.le_refl _⟩,⟨(ro_ HO_4)⟩,⟨(bo_ U4)⟩,⟨bl_⟩⟩
                |all_goals (try exact absurd (by assumption) (of_eq_false c26b1_))
                 go_meet
                 case rel=>exact⟨_,((rd l0_0 x5_2)),((rd l0_0 (ji15))),sm_,(by first|rfl|(simp;done)|(simp only [←hji15]<;>(first|rfl|simp))|(simp [*];done)),H',⟨by have:=HJ1.out;have:=HK2.out;have:=HJ16.out;first|omega|exact Nat.le_refl _⟩,⟨(ro_ HO_4)⟩,⟨(bo_ U4)⟩,⟨bl_⟩⟩
             case rest =>
              clear HC24
              try clear c9
              try clear c12
              try clear c12b0
              try clear c13
              try clear c13b0
              try clear c14
              try clear c14b0
              try clear c16
              try clear c16b0
              try clear c23
              try clear hcz18_0
              try clear hcz18_1
              try clear hfz18_0
              try clear hfz18_1
              try clear ar4
              try clear as4
              try clear ck6
              try clear ck8
              try clear ci4
              try clear cl2
              obtain⟨kq,x6_23,x7_23,rfl,rfl,HA,HJ23,HO_4,U4,HB⟩:=hcut
              cases kq with
              |zero=>exact absurd HA.out (by simp [q7.j3])
              |succ kj23 =>
               have H:=HA.out
               clear HA
               simp only [q7.j3] at H
               by_cases c30:(x4_2.length:Int)>1
               focus
                rw [if_pos c30] at H
                have c30b0:decide (1<(x4_2.length:Int))=true:=decide_eq_true c30
                have c30b1:decide (1<x4_2.length)=true:=decide_eq_true (by omega)
                have c30b1_:=eq_true (of_decide_eq_true c30b1)
                clear c30
                obtain⟨ji31,hji31⟩:∃ j_:Int,(wrap64 ((x4_2.length:Int) - 1))=j_:=⟨_,rfl⟩
                replace H:(if 0≤(ji31)then(if(ji31)<(x4_2.length:Int)then(if 0≤(wrap64 ((x4_2.length:Int) - 2))then(if(wrap64 ((x4_2.length:Int) - 2))<(x4_2.length:Int)then(if x4_2.length<8796093022208 then((some (x4_2++[(⟨wrap64 ((wrap64 (x6_23+((D0 x4_2 (ji31)).f0))) - ((D0 x4_2 (wrap64 ((x4_2.length:Int) - 2))).f0)),wrap64 ((wrap64 (x7_23+((D0 x4_2 (ji31)).f1))) - ((D0 x4_2 (wrap64 ((x4_2.length:Int) - 2))).f1))⟩:S67)]:List (S67))).bind fun aD5=>((q36.f kj23 aD5).bind fun bB1=>(if bB1=true then(q7.l0 kj23 aD5 (wrap64 (x5_2+2)) l0_0 l0_1)else(some (([]:List (S67)),false)))))else(none))else(none))else(none))else(none))else(none))=some (r1,r2):=by first|(rw [hji31] at H;exact H)|(simp only [hji31] at H ⊢;exact H)
                have hji31w:(IntKind.i64.wrap ((x4_2.length:Int) - 1))=ji31:=(N0 _).trans hji31
                replace H:=dle H
                rcases H with⟨c32b0,H⟩|⟨c32b0,H⟩
                rotate_left
                ·exact absurd H (by simp)
                replace H:=dle H
                rcases H with⟨c33b0,H⟩|⟨c33b0,H⟩
                rotate_left
                ·exact absurd H (by simp)
                obtain⟨ji34,hji34⟩:∃ j_:Int,(wrap64 ((x4_2.length:Int) - 2))=j_:=⟨_,rfl⟩
                replace H:(if 0≤(ji34)then(if(ji34)<(x4_2.length:Int)then(if x4_2.length<8796093022208 then((some (x4_2++[(⟨wrap64 ((wrap64 (x6_23+((D0 x4_2 (ji31)).f0))) - ((D0 x4_2 (ji34)).f0)),wrap64 ((wrap64 (x7_23+((D0 x4_2 (ji31)).f1))) - ((D0 x4_2 (ji34)).f1))⟩:S67)]:List (S67))).bind fun aD5=>((q36.f kj23 aD5).bind fun bB1=>(if bB1=true then(q7.l0 kj23 aD5 (wrap64 (x5_2+2)) l0_0 l0_1)else(some (([]:List (S67)),false)))))else(none))else(none))else(none))=some (r1,r2):=by first|(rw [hji34] at H;exact H)|(simp only [hji34] at H ⊢;exact H)
                have hji34w:(IntKind.i64.wrap ((x4_2.length:Int) - 2))=ji34:=(N0 _).trans hji34
                replace H:=dle H
                rcases H with⟨c35b0,H⟩|⟨c35b0,H⟩
                rotate_left
                ·exact absurd H (by simp)
                replace H:=dle H
                rcases H with⟨c36b0,H⟩|⟨c36b0,H⟩
                rotate_left
                ·exact absurd H (by simp)
                by_cases c37:x4_2.length<8796093022208
                rotate_left
                ·rw [if_neg c37] at H
                 exact absurd H (by simp)
                rw [if_pos c37] at H
                have LMc37:=q5.mk c37
                clear c37
                obtain⟨aD5,bA6⟩:∃ y_:List (S67),y_=(x4_2++[(⟨wrap64 ((wrap64 (x6_23+((D0 x4_2 (ji31)).f0))) - ((D0 x4_2 (ji34)).f0)),wrap64 ((wrap64 (x7_23+((D0 x4_2 (ji31)).f1))) - ((D0 x4_2 (ji34)).f1))⟩:S67)]):=⟨_,rfl⟩
                replace H:((q36.f kj23 aD5).bind fun bB1=>(if bB1=true then(q7.l0 kj23 aD5 (wrap64 (x5_2+2)) l0_0 l0_1)else(some (([]:List (S67)),false))))=some (r1,r2):=by first|(rw [bA6];with_reducible exact H)|(have H2_:=(Option.bind_some _ _).symm.trans H;rw [bA6];with_reducible exact H2_)|(have H2_:=(Option.bind_some _ _).symm.trans H;with_reducible exact H2_)|with_reducible exact H|(rw [bA6];exact H)|exact H
                have cV3:=q5.mk bA6
                clear bA6
                replace H:=N2 H
                obtain⟨bB1,A38,H⟩:=H
                try dsimp only at H
                replace H:=Q7 H
                rcases H with⟨rfl,H⟩|⟨rfl,H⟩
                focus
                 have H':=q5.mk H
                 clear H
                rotate_left
                focus
                 simp only [Option.some.injEq,Prod.mk.injEq] at H
                 obtain⟨rfl,rfl⟩:=H
               rotate_left 2
               focus
                rw [if_neg c30] at H
                have c30b0:decide (1<(x4_2.length:Int))=false:=decide_eq_false c30
                have c30b1:decide (1<x4_2.length)=false:=decide_eq_false (by omega)
                have c30b1_:=eq_false (of_decide_eq_false c30b1)
                clear c30
                by_cases c48:x4_2.length<8796093022208
                rotate_left
                ·rw [if_neg c48] at H
                 exact absurd H (by simp)
                rw [if_pos c48] at H
                have LMc48:=q5.mk c48
                clear c48
                obtain⟨bd2,bv9⟩:∃ y_:List (S67),y_=(x4_2++[(⟨x6_23,x7_23⟩:S67)]):=⟨_,rfl⟩
                replace H:((q36.f kj23 bd2).bind fun cs9=>(if cs9=true then(q7.l0 kj23 bd2 (wrap64 (x5_2+2)) l0_0 l0_1)else(some (([]:List (S67)),false))))=some (r1,r2):=by first|(rw [bv9];with_reducible exact H)|(have H2_:=(Option.bind_some _ _).symm.trans H;rw [bv9];with_reducible exact H2_)|(have H2_:=(Option.bind_some _ _).symm.trans H;with_reducible exact H2_)|with_reducible exact H|(rw [bv9];exact H)|exact H
                have db1:=q5.mk bv9
                clear bv9
                replace H:=N2 H
                obtain⟨cs9,A49,H⟩:=H
                try dsimp only at H
                replace H:=Q7 H
                rcases H with⟨rfl,H⟩|⟨rfl,H⟩
                focus
                 have H':=q5.mk H
                 clear H
                rotate_left
                focus
                 simp only [Option.some.injEq,Prod.mk.injEq] at H
                 obtain⟨rfl,rfl⟩:=H
               all_goals
                first
                 |try go_wp2
                  have n_:=pk3 (Kd.R_drew HO_4.out) (J0 U4.out) (N1 HB.out)
                  clear HO_4 U4 HB
                  obtain⟨HO_4,U4,HB⟩:=n_
                  have F3:0≤((ji31):Int):=dc_
                  have I3:(ji31)<(x4_2.length:Int):=dc_
                  obtain⟨J1,E6,Z0,T2⟩:=R2 (Kd.R_reads' HO_4.out).2.2 (ji31) F3 I3
                  cases E6
                  replace F3:=eq_true F3
                  replace I3:=eq_true I3
                  have V7:0≤((ji34):Int):=dc_
                  have U7:(ji34)<(x4_2.length:Int):=dc_
                  obtain⟨am4,aA9,M3,F8⟩:=R2 (Kd.R_reads' HO_4.out).2.2 (ji34) V7 U7
                  obtain rfl:J1=am4:=(by injection aA9)
                  replace V7:=eq_true V7
                  replace U7:=eq_true U7
                  refine b9 (n:=16) (S:=fun w'=>w'.cell? (J1.add (((ji31)).toNat*2))=some (.int .i64 ((D0 x4_2 (ji31)).f0))∧w'.cell? ⟨(J1.add (((ji31)).toNat*2)).block,(J1.add (((ji31)).toNat*2)).off+1,none⟩=some (.int .i64 ((D0 x4_2 (ji31)).f1))∧w'.cell? (J1.add (((ji34)).toNat*2))=some (.int .i64 ((D0 x4_2 (ji34)).f0))∧w'.cell? ⟨(J1.add (((ji34)).toNat*2)).block,(J1.add (((ji34)).toNat*2)).off+1,none⟩=some (.int .i64 ((D0 x4_2 (ji34)).f1))) (ds:=[]) be4 (by kernel_rfl) rfl rfl ⟨Z0,T2,M3,F8⟩ (fun hHeld=>?_);refine b6 q7.tab15 q7.bits15 (fun HT_ HW_=>?_)
                  generalize wc.drew=U1 at HO_4 U4 HB Z0 T2 M3 F8 hHeld ⊢
                  refine z1 (i:=0) (N:=some 81) (v:=?_) (a':=?_) bh0 rfl rfl (V0 HT_.out (by kernel_rfl)) (fun _ _ _ h=>h) (Or.inl ⟨by rfl,?_⟩) ?_ ?_
                  rotate_left
                  ·intro w'
                   go_simp
                   with_reducible rfl
                  rotate_left
                  ·simp only [ap_,sb_,s0_,s1_,N0,P0]
                   rfl
                  refine z1 (i:=1) (N:=some 82) (v:=?_) (a':=?_) bi2 rfl rfl (V0 HT_.out (by kernel_rfl)) (fun _ _ _ h=>h) (Or.inl ⟨by rfl,?_⟩) ?_ ?_
                  rotate_left
                  ·intro w'
                   go_simp
                   with_reducible rfl
                  rotate_left
                  ·simp only [ap_,sb_,s0_,s1_,N0,P0]
                   rfl
                  refine z1 (i:=2) (N:=some 83) (v:=?_) (a':=?_) be2 rfl rfl (V0 HT_.out (by kernel_rfl)) (fun _ _ _ h=>h) (Or.inl ⟨by rfl,?_⟩) ?_ ?_
                  rotate_left
                  ·intro w'
                   go_simp
                   with_reducible rfl
                  rotate_left
                  ·simp only [ap_,sb_,s0_,s1_,N0,P0]
                   rfl
                  refine z1 (i:=3) (N:=some 84) (v:=?_) (a':=?_) aV2 rfl rfl (V0 HT_.out (by kernel_rfl)) (fun _ _ _ h=>h) (Or.inl ⟨by rfl,?_⟩) ?_ ?_
                  rotate_left
                  ·intro w'
                   go_simp
                   with_reducible rfl
                  rotate_left
                  ·simp only [ap_,sb_,s0_,s1_,N0,P0]
                   rfl
                  refine z1 (i:=4) (N:=some 85) (v:=?_) (a':=?_) ba2 rfl rfl (V0 HT_.out (by kernel_rfl)) (fun _ _ _ h=>h) (Or.inl ⟨by rfl,?_⟩) ?_ ?_
                  rotate_left
                  ·intro w'
                   go_simp
                   with_reducible rfl
                  rotate_left
                  ·simp only [ap_,sb_,s0_,s1_,N0,P0]
                   rfl
                  refine z1 (i:=5) (N:=some 86) (v:=?_) (a':=?_) aW7 rfl rfl (V0 HT_.out (by kernel_rfl)) (fun _ _ _ h=>h) (Or.inl ⟨by rfl,?_⟩) ?_ ?_
                  rotate_left
                  ·intro w'
                   go_simp
                   with_reducible rfl
                  rotate_left
                  ·simp only [ap_,sb_,s0_,s1_,N0,P0]
                   rfl
                  refine z1 (i:=8) (N:=some 89) (v:=?_) (a':=?_) aR1 rfl rfl (V0 HT_.out (by kernel_rfl)) (fun _ _ _ h=>h) (Or.inl ⟨by rfl,?_⟩) ?_ ?_
                  rotate_left
                  ·intro w'
                   go_simp
                   with_reducible rfl
                  rotate_left
                  ·simp only [ap_,sb_,s0_,s1_,N0,P0]
                   rfl
                  refine z1 (i:=9) (N:=some 90) (v:=?_) (a':=?_) aR0 rfl rfl (V0 HT_.out (by kernel_rfl)) (fun _ _ _ h=>h) (Or.inl ⟨by rfl,?_⟩) ?_ ?_
                  rotate_left
                  ·intro w'
                   go_simp
                   with_reducible rfl
                  rotate_left
                  ·simp only [ap_,sb_,s0_,s1_,N0,P0]
                   rfl
                  refine z1 (i:=10) (N:=some 91) (v:=?_) (a':=?_) aK9 rfl rfl (V0 HT_.out (by kernel_rfl)) (fun _ _ _ h=>h) (Or.inl ⟨by rfl,?_⟩) ?_ ?_
                  rotate_left
                  ·intro w'
                   go_simp
                   with_reducible rfl
                  rotate_left
                  ·simp only [ap_,sb_,s0_,s1_,N0,P0]
                   rfl
                  refine z1 (i:=11) (N:=some 92) (v:=?_) (a':=?_) aL5 rfl rfl (V0 HT_.out (by kernel_rfl)) (fun _ _ _ h=>h) (Or.inl ⟨by rfl,?_⟩) ?_ ?_
                  rotate_left
                  ·intro w'
                   go_simp
                   with_reducible rfl
                  rotate_left
                  ·simp only [ap_,sb_,s0_,s1_,N0,P0]
                   rfl
                  refine z1 (i:=12) (N:=some 93) (v:=?_) (a':=?_) aJ2 rfl rfl (V0 HT_.out (by kernel_rfl)) (fun _ _ _ h=>h) (Or.inl ⟨by rfl,?_⟩) ?_ ?_
                  rotate_left
                  ·intro w'
                   go_simp
                   with_reducible rfl
                  rotate_left
                  ·simp only [ap_,sb_,s0_,s1_,N0,P0]
                   rfl
                  refine take_ (i:=6) (N:=some 87) (v:=?_) (a':=?_) aM1 rfl rfl (M2 HT_.out HW_.out (by kernel_rfl)) (fun _ _ _ h=>h) (Or.inl ⟨by rfl,?_⟩) hHeld ?_ ?_
                  rotate_left
                  ·rintro w' ⟨s0,s1,s2,s3⟩
                   go_simp
                   with_reducible rfl
                  rotate_left
                  ·simp only [ap_,sb_,s0_,s1_,N0,P0]
                   rfl
                  refine z1 (i:=7) (N:=some 88) (v:=?_) (a':=?_) aK1 rfl rfl (V0 HT_.out (by kernel_rfl)) (fun _ _ _ h=>h) (Or.inl ⟨by rfl,?_⟩) ?_ ?_
                  rotate_left
                  ·intro w'
                   go_simp
                   with_reducible rfl
                  rotate_left
                  ·simp only [ap_,sb_,s0_,s1_,N0,P0]
                   rfl
                  refine take_ (i:=13) (N:=some 94) (v:=?_) (a':=?_) aD7 rfl rfl (M2 HT_.out HW_.out (by kernel_rfl)) (fun _ _ _ h=>h) (Or.inl ⟨by rfl,?_⟩) hHeld ?_ ?_
                  rotate_left
                  ·rintro w' ⟨s0,s1,s2,s3⟩
                   go_simp
                   with_reducible rfl
                  rotate_left
                  ·simp only [ap_,sb_,s0_,s1_,N0,P0]
                   rfl
                  refine z1 (i:=14) (N:=some 95) (v:=?_) (a':=?_) aE9 rfl rfl (V0 HT_.out (by kernel_rfl)) (fun _ _ _ h=>h) (Or.inl ⟨by rfl,?_⟩) ?_ ?_
                  rotate_left
                  ·intro w'
                   go_simp
                   with_reducible rfl
                  rotate_left
                  ·simp only [ap_,sb_,s0_,s1_,N0,P0]
                   rfl
                  refine z1 (i:=15) (N:=some 6) (v:=?_) (a':=?_) aE1 rfl rfl (V0 HT_.out (by kernel_rfl)) (fun _ _ _ h=>h) (Or.inl ⟨by rfl,?_⟩) ?_ ?_
                  rotate_left
                  ·intro w'
                   go_simp
                   with_reducible rfl
                  rotate_left
                  ·simp only [ap_,sb_,s0_,s1_,N0,P0]
                   rfl
                  refine ab2 (K7 HT_.out (by kernel_rfl)) ?_
                  try go_wp2
                  have n_:=pk3 (Kd.R_drew HO_4.out) (J0 U4.out) (N1 HB.out)
                  clear HO_4 U4 HB
                  obtain⟨HO_4,U4,HB⟩:=n_
                  have az4:0≤((ji31):Int):=dc_
                  have az1:(ji31)<(x4_2.length:Int):=dc_
                  obtain⟨aX3,bF1,m7,by2⟩:=R2 (Kd.R_reads' HO_4.out).2.2 (ji31) az4 az1
                  obtain rfl:J1=aX3:=(by injection bF1)
                  replace az4:=eq_true az4
                  replace az1:=eq_true az1
                  have aA5:0≤((ji34):Int):=dc_
                  have aw9:(ji34)<(x4_2.length:Int):=dc_
                  obtain⟨Y6,bv2,l7,bs2⟩:=R2 (Kd.R_reads' HO_4.out).2.2 (ji34) aA5 aw9
                  obtain rfl:J1=Y6:=(by injection bv2)
                  replace aA5:=eq_true aA5
                  replace aw9:=eq_true aw9
                  refine b9 (n:=16) (S:=fun w'=>w'.cell? (J1.add (((ji31)).toNat*2))=some (.int .i64 ((D0 x4_2 (ji31)).f0))∧w'.cell? ⟨(J1.add (((ji31)).toNat*2)).block,(J1.add (((ji31)).toNat*2)).off+1,none⟩=some (.int .i64 ((D0 x4_2 (ji31)).f1))∧w'.cell? (J1.add (((ji34)).toNat*2))=some (.int .i64 ((D0 x4_2 (ji34)).f0))∧w'.cell? ⟨(J1.add (((ji34)).toNat*2)).block,(J1.add (((ji34)).toNat*2)).off+1,none⟩=some (.int .i64 ((D0 x4_2 (ji34)).f1))) (ds:=[]) be4 (by kernel_rfl) rfl rfl ⟨m7,by2,l7,bs2⟩ (fun hHeld=>?_);refine b6 q7.tab16 q7.bits16 (fun HT_ HW_=>?_)
                  generalize U1.drew=Z1 at HO_4 U4 HB m7 by2 l7 bs2 hHeld ⊢
                  refine z1 (i:=0) (N:=some 96) (v:=?_) (a':=?_) bh0 rfl rfl (V0 HT_.out (by kernel_rfl)) (fun _ _ _ h=>h) (Or.inl ⟨by rfl,?_⟩) ?_ ?_
                  rotate_left
                  ·intro w'
                   go_simp
                   with_reducible rfl
                  rotate_left
                  ·simp only [ap_,sb_,s0_,s1_,N0,P0]
                   rfl
                  refine z1 (i:=1) (N:=some 97) (v:=?_) (a':=?_) bi2 rfl rfl (V0 HT_.out (by kernel_rfl)) (fun _ _ _ h=>h) (Or.inl ⟨by rfl,?_⟩) ?_ ?_
                  rotate_left
                  ·intro w'
                   go_simp
                   with_reducible rfl
                  rotate_left
                  ·simp only [ap_,sb_,s0_,s1_,N0,P0]
                   rfl
                  refine z1 (i:=2) (N:=some 98) (v:=?_) (a':=?_) be2 rfl rfl (V0 HT_.out (by kernel_rfl)) (fun _ _ _ h=>h) (Or.inl ⟨by rfl,?_⟩) ?_ ?_
                  rotate_left
                  ·intro w'
                   go_simp
                   with_reducible rfl
                  rotate_left
                  ·simp only [ap_,sb_,s0_,s1_,N0,P0]
                   rfl
                  refine z1 (i:=3) (N:=some 99) (v:=?_) (a':=?_) aV2 rfl rfl (V0 HT_.out (by kernel_rfl)) (fun _ _ _ h=>h) (Or.inl ⟨by rfl,?_⟩) ?_ ?_
                  rotate_left
                  ·intro w'
                   go_simp
                   with_reducible rfl
                  rotate_left
                  ·simp only [ap_,sb_,s0_,s1_,N0,P0]
                   rfl
                  refine z1 (i:=4) (N:=some 100) (v:=?_) (a':=?_) ba2 rfl rfl (V0 HT_.out (by kernel_rfl)) (fun _ _ _ h=>h) (Or.inl ⟨by rfl,?_⟩) ?_ ?_
                  rotate_left
                  ·intro w'
                   go_simp
                   with_reducible rfl
                  rotate_left
                  ·simp only [ap_,sb_,s0_,s1_,N0,P0]
                   rfl
                  refine z1 (i:=5) (N:=some 101) (v:=?_) (a':=?_) aW7 rfl rfl (V0 HT_.out (by kernel_rfl)) (fun _ _ _ h=>h) (Or.inl ⟨by rfl,?_⟩) ?_ ?_
                  rotate_left
                  ·intro w'
                   go_simp
                   with_reducible rfl
                  rotate_left
                  ·simp only [ap_,sb_,s0_,s1_,N0,P0]
                   rfl
                  refine z1 (i:=8) (N:=some 104) (v:=?_) (a':=?_) aR1 rfl rfl (V0 HT_.out (by kernel_rfl)) (fun _ _ _ h=>h) (Or.inl ⟨by rfl,?_⟩) ?_ ?_
                  rotate_left
                  ·intro w'
                   go_simp
                   with_reducible rfl
                  rotate_left
                  ·simp only [ap_,sb_,s0_,s1_,N0,P0]
                   rfl
                  refine z1 (i:=9) (N:=some 105) (v:=?_) (a':=?_) aR0 rfl rfl (V0 HT_.out (by kernel_rfl)) (fun _ _ _ h=>h) (Or.inl ⟨by rfl,?_⟩) ?_ ?_
                  rotate_left
                  ·intro w'
                   go_simp
                   with_reducible rfl
                  rotate_left
                  ·simp only [ap_,sb_,s0_,s1_,N0,P0]
                   rfl
                  refine z1 (i:=10) (N:=some 106) (v:=?_) (a':=?_) aK9 rfl rfl (V0 HT_.out (by kernel_rfl)) (fun _ _ _ h=>h) (Or.inl ⟨by rfl,?_⟩) ?_ ?_
                  rotate_left
                  ·intro w'
                   go_simp
                   with_reducible rfl
                  rotate_left
                  ·simp only [ap_,sb_,s0_,s1_,N0,P0]
                   rfl
                  refine z1 (i:=11) (N:=some 107) (v:=?_) (a':=?_) aL5 rfl rfl (V0 HT_.out (by kernel_rfl)) (fun _ _ _ h=>h) (Or.inl ⟨by rfl,?_⟩) ?_ ?_
                  rotate_left
                  ·intro w'
                   go_simp
                   with_reducible rfl
                  rotate_left
                  ·simp only [ap_,sb_,s0_,s1_,N0,P0]
                   rfl
                  refine z1 (i:=12) (N:=some 108) (v:=?_) (a':=?_) aJ2 rfl rfl (V0 HT_.out (by kernel_rfl)) (fun _ _ _ h=>h) (Or.inl ⟨by rfl,?_⟩) ?_ ?_
                  rotate_left
                  ·intro w'
                   go_simp
                   with_reducible rfl
                  rotate_left
                  ·simp only [ap_,sb_,s0_,s1_,N0,P0]
                   rfl
                  refine take_ (i:=6) (N:=some 102) (v:=?_) (a':=?_) aM1 rfl rfl (M2 HT_.out HW_.out (by kernel_rfl)) (fun _ _ _ h=>h) (Or.inl ⟨by rfl,?_⟩) hHeld ?_ ?_
                  rotate_left
                  ·rintro w' ⟨s0,s1,s2,s3⟩
                   go_simp
                   with_reducible rfl
                  rotate_left
                  ·simp only [ap_,sb_,s0_,s1_,N0,P0]
                   rfl
                  refine z1 (i:=7) (N:=some 103) (v:=?_) (a':=?_) aK1 rfl rfl (V0 HT_.out (by kernel_rfl)) (fun _ _ _ h=>h) (Or.inl ⟨by rfl,?_⟩) ?_ ?_
                  rotate_left
                  ·intro w'
                   go_simp
                   with_reducible rfl
                  rotate_left
                  ·simp only [ap_,sb_,s0_,s1_,N0,P0]
                   rfl
                  refine take_ (i:=13) (N:=some 109) (v:=?_) (a':=?_) aD7 rfl rfl (M2 HT_.out HW_.out (by kernel_rfl)) (fun _ _ _ h=>h) (Or.inl ⟨by rfl,?_⟩) hHeld ?_ ?_
                  rotate_left
                  ·rintro w' ⟨s0,s1,s2,s3⟩
                   go_simp
                   with_reducible rfl
                  rotate_left
                  ·simp only [ap_,sb_,s0_,s1_,N0,P0]
                   rfl
                  refine z1 (i:=14) (N:=some 110) (v:=?_) (a':=?_) aE9 rfl rfl (V0 HT_.out (by kernel_rfl)) (fun _ _ _ h=>h) (Or.inl ⟨by rfl,?_⟩) ?_ ?_
                  rotate_left
                  ·intro w'
                   go_simp
                   with_reducible rfl
                  rotate_left
                  ·simp only [ap_,sb_,s0_,s1_,N0,P0]
                   rfl
                  refine z1 (i:=15) (N:=some 7) (v:=?_) (a':=?_) aE1 rfl rfl (V0 HT_.out (by kernel_rfl)) (fun _ _ _ h=>h) (Or.inl ⟨by rfl,?_⟩) ?_ ?_
                  rotate_left
                  ·intro w'
                   go_simp
                   with_reducible rfl
                  rotate_left
                  ·simp only [ap_,sb_,s0_,s1_,N0,P0]
                   rfl
                  refine ab2 (K7 HT_.out (by kernel_rfl)) ?_
                  try go_wp2_with (first|((with_reducible refine G1 (b:=.append) (xs:=#[.tmp 111,.tmp 115]) rfl ?_);(try(refine O2 (by rfl) ?_;dsimp only));at_builtin;refine Kd.R_append k67 (w0:=w) w.heap.size rfl (.tmp 111) (.tmp 115) 65 67 (.agg #[(.int .i64 0),(.int .i64 0)]) 16 rfl Try.underlying65 br5 rfl (by decide) (by omega) (.slice (some J1) x4_2.length co25) x4_2 (⟨wrap64 ((wrap64 (x6_23+((D0 x4_2 (ji31)).f0))) - ((D0 x4_2 (ji34)).f0)),wrap64 ((wrap64 (x7_23+((D0 x4_2 (ji31)).f1))) - ((D0 x4_2 (ji34)).f1))⟩:S67) [.int .i64 (wrap64 ((wrap64 (x6_23+((D0 x4_2 (ji31)).f0))) - ((D0 x4_2 (ji34)).f0))),.int .i64 (wrap64 ((wrap64 (x7_23+((D0 x4_2 (ji31)).f1))) - ((D0 x4_2 (ji34)).f1)))] (fun _=>True) (fun _=>False) rfl rfl ?aP (fun _ hk=>hk.elim) ?aF ?aO ?aB ?aS ?aL ?_;(case aP=>exact aU2 _ _ _ (⟨wrap64 ((wrap64 (x6_23+((D0 x4_2 (ji31)).f0))) - ((D0 x4_2 (ji34)).f0)),wrap64 ((wrap64 (x7_23+((D0 x4_2 (ji31)).f1))) - ((D0 x4_2 (ji34)).f1))⟩:S67));(case aB=>exact bl_);(case aF=>exact(fun _ _=>trivial));(case aO=>exact(ro_ HO_4));(case aS=>exact(L0 bl_));(case aL=>have:=LMc37.out;omega);intro M4 F2 ho hb hg hat;rw [←cV3.out] at ho;have n_:=pk3 (D5 (bo_ U4) hg (Kd.R_ne HO_4.out U4.out (by decide))) (hb) (ho);clear U4 HB HO_4;obtain⟨U4,HB,C0⟩:=n_;clear ho hb hg hat;obtain⟨T0,R0,S1⟩:=Kd.R_slice C0.out;subst S1)|((with_reducible refine C1 (f:=38) rfl ?_);refine goL_ (some 118) Try.func38 #[.slice T0 aD5.length R0] ?_;(with_reducible refine(q36.calls kj23 _ _ aD5 false _ ?side1 ?side2 A38.out).mono ?_);(case side1=>exact cr_ C0);(case side2=>exact(Kd.R_reads' C0.out).2.1);rintro e w' ⟨rfl,⟨nd,rfl⟩⟩;refine⟨_,rfl,?_⟩)|((with_reducible refine C1 (f:=38) rfl ?_);refine goL_ (some 118) Try.func38 #[.slice T0 aD5.length R0] ?_;(with_reducible refine(q36.calls kj23 _ _ aD5 true _ ?side1 ?side2 A38.out).mono ?_);(case side1=>exact cr_ C0);(case side2=>exact(Kd.R_reads' C0.out).2.1);rintro e w' ⟨rfl,⟨nd,rfl⟩⟩;refine⟨_,rfl,?_⟩))
                  first
                   |go_roundg kj23
                    case measure=>have:=HJ1.out;have:=HK2.out;have:=HJ16.out;have:=HJ23.out;omega
                    case rel=>exact⟨(aD5),(wrap64 (x5_2+2)),sm_,H',⟨by have:=HJ1.out;have:=HK2.out;have:=HJ16.out;have:=HJ23.out;omega⟩,⟨(ro_ C0)⟩,⟨(bo_ U4)⟩,⟨bl_⟩⟩
                   |go_ret2
                    exact⟨_,by first|rfl|(simp [J3,L3]<;>rfl)|(simp only [←hji15,←hji31,←hji34];first|rfl|(simp [J3,L3]<;>rfl))|(simp [*,J3,L3]<;>rfl),nl_,bl_⟩
                 |go_wp2_with (first|((with_reducible refine G1 (b:=.append) (xs:=#[.tmp 111,.tmp 115]) rfl ?_);(try(refine O2 (by rfl) ?_;dsimp only));at_builtin;refine Kd.R_append k67 (w0:=w) w.heap.size rfl (.tmp 111) (.tmp 115) 65 67 (.agg #[(.int .i64 0),(.int .i64 0)]) 16 rfl Try.underlying65 br5 rfl (by decide) (by omega) (.slice Ao25 x4_2.length co25) x4_2 (⟨x6_23,x7_23⟩:S67) [.int .i64 x6_23,.int .i64 x7_23] (fun _=>True) (fun _=>False) rfl rfl ?aP (fun _ hk=>hk.elim) ?aF ?aO ?aB ?aS ?aL ?_;(case aP=>exact aU2 _ _ _ (⟨x6_23,x7_23⟩:S67));(case aB=>exact bl_);(case aF=>exact(fun _ _=>trivial));(case aO=>exact(ro_ HO_4));(case aS=>exact(L0 bl_));(case aL=>have:=LMc48.out;omega);intro M4 U1 ho hb hg hat;rw [←db1.out] at ho;have n_:=pk3 (D5 (bo_ U4) hg (Kd.R_ne HO_4.out U4.out (by decide))) (hb) (ho);clear U4 HB HO_4;obtain⟨U4,HB,C0⟩:=n_;clear ho hb hg hat;obtain⟨T0,R0,S1⟩:=Kd.R_slice C0.out;subst S1)|((with_reducible refine C1 (f:=38) rfl ?_);refine goL_ (some 118) Try.func38 #[.slice T0 bd2.length R0] ?_;(with_reducible refine(q36.calls kj23 _ _ bd2 false _ ?side1 ?side2 A49.out).mono ?_);(case side1=>exact cr_ C0);(case side2=>exact(Kd.R_reads' C0.out).2.1);rintro e w' ⟨rfl,⟨nd,rfl⟩⟩;refine⟨_,rfl,?_⟩)|((with_reducible refine C1 (f:=38) rfl ?_);refine goL_ (some 118) Try.func38 #[.slice T0 bd2.length R0] ?_;(with_reducible refine(q36.calls kj23 _ _ bd2 true _ ?side1 ?side2 A49.out).mono ?_);(case side1=>exact cr_ C0);(case side2=>exact(Kd.R_reads' C0.out).2.1);rintro e w' ⟨rfl,⟨nd,rfl⟩⟩;refine⟨_,rfl,?_⟩))
                  first
                   |go_roundg kj23
                    case measure=>have:=HJ1.out;have:=HK2.out;have:=HJ16.out;have:=HJ23.out;omega
                    case rel=>exact⟨(bd2),(wrap64 (x5_2+2)),sm_,H',⟨by have:=HJ1.out;have:=HK2.out;have:=HJ16.out;have:=HJ23.out;omega⟩,⟨(ro_ C0)⟩,⟨(bo_ U4)⟩,⟨bl_⟩⟩
                   |go_ret2
                    exact⟨_,by first|rfl|(simp [J3,L3]<;>rfl)|(simp only [←hji15];first|rfl|(simp [J3,L3]<;>rfl))|(simp [*,J3,L3]<;>rfl),nl_,bl_⟩
            simp only [Option.some.injEq,Prod.mk.injEq] at H
            obtain⟨rfl,rfl⟩:=H
            go_wp2
            go_ret2
            exact⟨_,by first|rfl|(simp [J3,L3]<;>rfl)|(simp only [←hji15];first|rfl|(simp [J3,L3]<;>rfl))|(simp [*,J3,L3]<;>rfl),nl_,bl_⟩
         exact absurd H (by simp)
        exact absurd H (by simp)
       exact absurd H (by simp)
      replace H:=N2 H
      obtain⟨cc4,A55,H⟩:=H
      try dsimp only at H
      replace H:=N2 H
      obtain⟨da0,A56,H⟩:=H
      try dsimp only at H
      replace H:=Q7 H
      rcases H with⟨rfl,H⟩|⟨rfl,H⟩
      focus
       simp only [Option.some.injEq,Prod.mk.injEq] at H
       obtain⟨rfl,rfl⟩:=H
       obtain⟨hcz58_0,hcz58_1,hfz58_0,hfz58_1⟩:=N4 U4.out
      rotate_left
      focus
       simp only [Option.some.injEq,Prod.mk.injEq] at H
       obtain⟨rfl,rfl⟩:=H
       obtain⟨hcz63_0,hcz63_1,hfz63_0,hfz63_1⟩:=N4 U4.out
      all_goals
       try go_wp2
       have n_:=pk3 (Kd.R_drew HO_4.out) (J0 U4.out) (N1 HB.out)
       clear HO_4 U4 HB
       obtain⟨HO_4,U4,HB⟩:=n_
       obtain⟨ac2,ac6,am7⟩:=Kd.R_slice HO_4.out
       (first|subst am7|(injection am7 with f1_ f2_ f3_;have f7100_:=f1_.symm;have f7101_:=f3_.symm;clear f1_ f2_ f3_;subst f7100_;subst f7101_))
       refine b9 (n:=6) (S:=fun w'=>w'.cell? ⟨aD8,0,none⟩=some (.slice A0_0 l0_0.length c0_0)∧w'.cell? ⟨aD8,1,none⟩=some (.slice A0_1 l0_1.length c0_1)) (ds:=[]) #[false,false,false,false,false,false] (by kernel_rfl) rfl rfl ⟨(m0 U4.out 0).trans rfl,(m0 U4.out 1).trans rfl⟩ (fun hHeld=>?_)
       generalize wr.drew=ap8 at HO_4 U4 HB hHeld ⊢
       refine z1 (i:=0) (N:=some 120) (v:=?_) (a':=?_) #[true,false,false,false,false,false] rfl rfl (by kernel_rfl) (fun _ _ _ h=>h) (Or.inl ⟨by rfl,?_⟩) ?_ ?_
       rotate_left
       ·intro w'
        go_simp
        with_reducible rfl
       rotate_left
       ·simp only [ap_,sb_,s0_,s1_,N0,P0]
        rfl
       refine z1 (i:=2) (N:=some 122) (v:=?_) (a':=?_) #[true,false,true,false,false,false] rfl rfl (by kernel_rfl) (fun _ _ _ h=>h) (Or.inl ⟨by rfl,?_⟩) ?_ ?_
       rotate_left
       ·intro w'
        go_simp
        with_reducible rfl
       rotate_left
       ·simp only [ap_,sb_,s0_,s1_,N0,P0]
        rfl
       refine take_ (i:=3) (N:=some 123) (v:=?_) (a':=?_) #[true,false,true,true,false,false] rfl rfl (by kernel_rfl) (fun _ _ _ h=>h) (Or.inl ⟨by rfl,?_⟩) hHeld ?_ ?_
       rotate_left
       ·rintro w' ⟨s0,s1⟩
        go_simp
        with_reducible rfl
       rotate_left
       ·simp only [ap_,sb_,s0_,s1_,N0,P0]
        rfl
       refine one_ (i:=1) (N:=some 121) #[true,true,true,true,false,false] rfl rfl (by kernel_rfl) (by decide) (fun K hK=>?_)
       refine ae6 Try.func87 (by kernel_rfl) rfl #[.slice ac2 x4_2.length ac6] (by rfl) rfl rfl (by(try simp only [List.map_toArray,List.map_cons,List.map_nil]);first|done|rfl|(simp only [List.length_drop,List.length_take];rfl)) ?_
       with_reducible refine(q22.calls k2 _ _ x4_2 cc4 _ ?side1 ?side2 A55.out).mono ?_
       (case side1=>exact cr_ HO_4)
       (case side2=>exact(Kd.R_reads' HO_4.out).2.1)
       rintro e av3 ⟨ba4,rfl,cm0,hb⟩
       refine⟨_,rfl,?_⟩
       have n_:=pk4 (Kd.R_below (ro_ HO_4) hb) (Kd.R_lower cm0 (L0 bl_)) (F0 (bo_ U4) hb) (E0 bl_ hb)
       clear HO_4 U4 HB
       obtain⟨HO_4,Q2,U4,HB⟩:=n_
       (try clear hb)
       (try clear hb2)
       (try clear hk)
       (try clear hi)
       (try clear cm0)
       obtain⟨ai8,aj1,an0⟩:=Kd.R_slice Q2.out
       (first|subst an0|(injection an0 with f1_ f2_ f3_;have f7100_:=f1_.symm;have f7101_:=f3_.symm;clear f1_ f2_ f3_;subst f7100_;subst f7101_))
       refine hK.out _ _ ⟨(m0 U4.out 0).trans rfl,(m0 U4.out 1).trans rfl⟩ (fun hHeld=>?_)
       clear hK K
       refine o7 (a':=?_) ?_ ?_
       rotate_left
       ·show Act.put _ (some 121) _=_
        simp only [ap_,sb_,s0_,s1_,N0,P0]
        rfl
       refine one_ (i:=4) (N:=some 124) #[true,true,true,true,true,false] rfl rfl (by kernel_rfl) (by decide) (fun K hK=>?_)
       refine ae6 Try.func79 (by kernel_rfl) rfl #[.slice ai8 cc4.length aj1,.slice A0_0 l0_0.length c0_0] (by rfl) rfl rfl (by(try simp only [List.map_toArray,List.map_cons,List.map_nil]);first|done|rfl|(simp only [List.length_drop,List.length_take];rfl)) ?_
       first
        |with_reducible refine(q40.calls k2 _ _ cc4 _ _ l0_0 true _ ?side1 ?side2 ?side3 ?side4 A56.out).mono ?_
         (case side1=>exact cr_ Q2)
         (case side2=>exact(Kd.R_reads' Q2.out).2.1)
         (case side3=>exact cb_ HR0_0)
         (case side4=>exact HC0_0.out)
         rintro e w' ⟨rfl,⟨nd,rfl⟩⟩
         refine⟨_,rfl,?_⟩
         refine hK.out _ _ ⟨(m0 U4.out 0).trans rfl,(m0 U4.out 1).trans rfl⟩ (fun hHeld=>?_)
         clear hK K
         refine o7 (a':=?_) ?_ ?_
         rotate_left
         ·show Act.put _ (some 124) _=_
          simp only [ap_,sb_,s0_,s1_,N0,P0]
          rfl
         refine z1 (i:=5) (N:=some 125) (v:=?_) (a':=?_) #[true,true,true,true,true,true] rfl rfl (by kernel_rfl) (fun _ _ _ h=>h) (Or.inl ⟨by rfl,?_⟩) ?_ ?_
         rotate_left
         ·intro w'
          go_simp
          with_reducible rfl
         rotate_left
         ·simp only [ap_,sb_,s0_,s1_,N0,P0]
          rfl
         refine ab2 (by kernel_rfl) ?_
         try go_wp2
         go_ret2
         exact⟨_,rf_,(ro_ HO_4),bl_⟩
        |with_reducible refine(q40.calls k2 _ _ cc4 _ _ l0_0 false _ ?side1 ?side2 ?side3 ?side4 A56.out).mono ?_
         (case side1=>exact cr_ Q2)
         (case side2=>exact(Kd.R_reads' Q2.out).2.1)
         (case side3=>exact cb_ HR0_0)
         (case side4=>exact HC0_0.out)
         rintro e w' ⟨rfl,⟨nd,rfl⟩⟩
         refine⟨_,rfl,?_⟩
         refine hK.out _ _ ⟨(m0 U4.out 0).trans rfl,(m0 U4.out 1).trans rfl⟩ (fun hHeld=>?_)
         clear hK K
         refine o7 (a':=?_) ?_ ?_
         rotate_left
         ·show Act.put _ (some 124) _=_
          simp only [ap_,sb_,s0_,s1_,N0,P0]
          rfl
         refine z1 (i:=5) (N:=some 125) (v:=?_) (a':=?_) #[true,true,true,true,true,true] rfl rfl (by kernel_rfl) (fun _ _ _ h=>h) (Or.inl ⟨by rfl,?_⟩) ?_ ?_
         rotate_left
         ·intro w'
          go_simp
          with_reducible rfl
         rotate_left
         ·simp only [ap_,sb_,s0_,s1_,N0,P0]
          rfl
         refine ab2 (by kernel_rfl) ?_
         try go_wp2
         go_ret2
         exact⟨_,rf_,nl_,bl_⟩
   simp only [Option.some.injEq,Prod.mk.injEq] at H
   obtain⟨rfl,rfl⟩:=H
   go_wp2
   go_ret2
   exact⟨_,rf_,nl_,bl_⟩
end Go.Proofs.Ytmddmbagehjdeaa.G
end
section
namespace Go.Proofs.Ytmddmbagehjdeaa.G
open Go.RowKit Go.Proofs.YtmddmbagehjdeaaX Go.Proofs.YtmddmbagehjdeaaW.PrintWords Go.Proofs.YtmddmbagehjdeaaW.PrintLast Go.Proofs.YtmddmbagehjdeaaW.PrintMore
attribute [local go_sem] S3 R3 R4 S4 P3 N3 D4 Y3
mutual
def q6.j0:Nat→Bool→Int→Int→Int→List Int→Int→Option ((List (S67))×Bool)
 |0,_,_,_,_,_,_=>none
 |k+1,x28,J8,D9,G9,U8,R8=>if x28=true then(some (([]:List (S67)),false))else((q44.f k U8 R8).bind fun j6=>(q6.l0 k j6 (([J8]:List Int)) 0 J8 D9 G9 U8 R8))
def q6.l0:Nat→List Bool→List Int→Int→Int→Int→Int→List Int→Int→Option ((List (S67))×Bool)
 |0,_,_,_,_,_,_,_,_=>none
 |k+1,x4,x5,x6,J8,D9,G9,U8,R8=>if(x5.length:Int)<(wrap64 (1+(wrap64 (2*J8))))then(if 0≤x6 then(if x6≤(x4.length:Int)then((q12.f k (x4.drop (x6:Int).toNat)).bind fun ah6=>(if 0≤(wrap64 (x6+ah6.2))then(if(wrap64 (x6+ah6.2))≤(x4.length:Int)then((q12.f k (x4.drop ((wrap64 (x6+ah6.2)):Int).toNat)).bind fun aa4=>(if ah6.2=0 then(q6.j2 k x4 x5 (wrap64 ((wrap64 (x6+ah6.2))+aa4.2)) ah6.1 aa4.1 true J8 D9 G9 U8 R8)else(q6.j2 k x4 x5 (wrap64 ((wrap64 (x6+ah6.2))+aa4.2)) ah6.1 aa4.1 (aa4.2 == 0) J8 D9 G9 U8 R8)))else(none))else(none)))else(none))else(none))else((q7.f k x5 ([]:List ByteArray)).bind fun bX5=>(if bX5.2=true then(if(bX5.1.length:Int)=0 then(some (([]:List (S67)),false))else((q47.f k bX5.1).bind fun bG5=>((q49.f bG5.1 bG5.2.1 bG5.2.2.1 bG5.2.2.2.1 bG5.2.2.2.2 J8 D9 G9 U8 R8).bind fun cU1=>(if cU1=true then(some (bX5.1,true))else(some (([]:List (S67)),false))))))else(some (([]:List (S67)),false))))
def q6.j2:Nat→List Bool→List Int→Int→Int→Int→Bool→Int→Int→Int→List Int→Int→Option ((List (S67))×Bool)
 |0,_,_,_,_,_,_,_,_,_,_,_=>none
 |k+1,x4,x5,x6,x7,x9,x67,J8,D9,G9,U8,R8=>if x67=true then(some (([]:List (S67)),false))else((some (([x7,x9]:List Int):List Int)).bind fun bq9=>(if x5.length+bq9.length<17592186044416 then((some (x5++bq9:List Int)).bind fun ai3=>(if(ai3.length:Int)>5 then(if x7=0 then(q6.j3 k x4 ai3 x6 (x9 == 0) J8 D9 G9 U8 R8)else(q6.j3 k x4 ai3 x6 false J8 D9 G9 U8 R8))else(q6.j3 k x4 ai3 x6 false J8 D9 G9 U8 R8)))else(none)))
def q6.j3:Nat→List Bool→List Int→Int→Bool→Int→Int→Int→List Int→Int→Option ((List (S67))×Bool)
 |0,_,_,_,_,_,_,_,_,_=>none
 |k+1,x4,x5,x6,x83,J8,D9,G9,U8,R8=>if x83=true then(if(wrap64 (x6+4))>(x4.length:Int)then(some (([]:List (S67)),false))else(if 0≤x6 then(if x6≤(wrap64 (x6+4))then(if(wrap64 (x6+4))≤(x4.length:Int)then((q24.f k ((x4.take ((wrap64 (x6+4)):Int).toNat).drop (x6:Int).toNat)).bind fun bd5=>(q6.l1 k x4 x5 (wrap64 (x6+4)) (wrap64 (bd5)) 0 J8 D9 G9 U8 R8))else(none))else(none))else(none)))else(q6.l0 k x4 x5 x6 J8 D9 G9 U8 R8)
def q6.l1:Nat→List Bool→List Int→Int→Int→Int→Int→Int→Int→List Int→Int→Option ((List (S67))×Bool)
 |0,_,_,_,_,_,_,_,_,_,_=>none
 |k+1,x4,x5,x6,x11,x12,J8,D9,G9,U8,R8=>if x12<x11 then((some (([0,0]:List Int):List Int)).bind fun bn6=>(if x5.length+bn6.length<17592186044416 then(q6.l1 k x4 (x5++bn6) x6 x11 (wrap64 (x12+1)) J8 D9 G9 U8 R8)else(none)))else(q6.l0 k x4 x5 x6 J8 D9 G9 U8 R8)
end
def q6.f (k:Nat) (a0_0:Int) (a0_1:Int) (a0_2:Int) (l0_3:List Int) (a0_4:Int):Option ((List (S67))×Bool):=if a0_0<1 then(q6.j0 k true a0_0 a0_1 a0_2 l0_3 a0_4)else(if a0_0>64 then(q6.j0 k true a0_0 a0_1 a0_2 l0_3 a0_4)else((q66.f l0_3 a0_4).bind fun bZ5=>(q6.j0 k (!bZ5) a0_0 a0_1 a0_2 l0_3 a0_4)))
def q6.T24:Bool×List (List Nat×List Nat):=(true,[([],[]),([0],[0]),([1],[1]),([2],[2]),([3,2],[2,3]),([4,2],[2,4]),([2,5],[2,5]),([6,2],[6]),([7],[7]),([8,7,7],[7,8]),([7],[7]),([9,10,9,7],[7,9,10]),([11,7],[7,11]),([7,12],[7,12])])
def q6.B24:List Nat:=[0,1,3,7,15,31,63,127,255,511,255,2047,4095,8191]
theorem q6.tab24:rtab .any (ap1 Try.f48 24)=q6.T24:=by kernel_rfl
theorem q6.bits24:b8 q6.T24.2 q6.B24=true:=by kernel_rfl
end Go.Proofs.Ytmddmbagehjdeaa.G
end
