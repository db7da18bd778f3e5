/- More lines for the row. -/
import Derived.Test.YtmddmbagehjdeaaZGorillaDatas10
set_option linter.unusedVariables false
set_option linter.unusedSimpArgs false
set_option maxRecDepth 100000
set_option maxHeartbeats 8000000
namespace Go.Proofs.Ytmddmbagehjdeaa
abbrev aO2:Array Bool:=#[false,false,false,false,false,false,false,false,false,false,false,false,false,false]
abbrev aP1:Array Bool:=#[true,false,false,false,false,false,false,false,false,false,false,false,false,false]
abbrev aL7:Array Bool:=#[true,true,true,true,true,true,true,true,true,true,false,false,false,false]
abbrev aA4:Array Bool:=#[true,true,true,true,true,true,true,false,false,false,false,false,false,false]
abbrev aG5:Array Bool:=#[true,true,true,true,false,false,false,false,false,false,false,false,false,false]
abbrev bp2:Array Bool:=#[true,true,true,true,true,true,true,true,true,false,true,false,false,false]
abbrev ag8:Array Bool:=#[true,true,true,true,true,true,true,true,true,true,true,true,true,true]
abbrev ar3:Array Bool:=#[true,true,true,true,true,true,true,true,true,true,true,false,false,false]
abbrev aA0:Array Bool:=#[true,true,true,true,true,true,true,true,false,false,false,false,false,false]
abbrev aP2:Array Bool:=#[true,true,false,false,false,false,false,false,false,false,false,false,false,false]
abbrev aH0:Array Bool:=#[true,true,true,true,true,false,false,false,false,false,false,false,false,false]
abbrev at4:Array Bool:=#[true,true,true,true,true,true,true,true,true,true,true,true,false,false]
abbrev ay5:Array Bool:=#[true,true,true,true,true,true,true,true,true,false,false,false,false,false]
abbrev aF3:Array Bool:=#[true,true,true,true,true,true,false,false,false,false,false,false,false,false]
abbrev aN3:Array Bool:=#[true,true,true,false,false,false,false,false,false,false,false,false,false,false]
abbrev aj7:Array Bool:=#[true,true,true,true,true,true,true,true,true,true,true,true,true,false]
abbrev bg8:Array Bool:=#[false,false,false,false,false,false,false,false,false,false,false,false,false,false,false,false,false,false,false,false,false,false,false,false,false]
abbrev be7:Array Bool:=#[true,false,false,false,false,false,false,false,false,false,false,false,false,false,false,false,false,false,false,false,false,false,false,false,false]
abbrev aq4:Array Bool:=#[true,true,true,true,true,true,true,true,true,true,true,true,true,true,true,true,false,true,true,true,true,false,false,true,false]
abbrev ap5:Array Bool:=#[true,true,true,true,true,true,true,true,true,true,true,true,true,true,true,true,true,true,true,true,true,false,false,true,false]
abbrev aq3:Array Bool:=#[true,true,true,true,true,true,true,true,true,true,true,true,true,true,true,true,true,true,true,true,true,true,false,true,false]
abbrev aw6:Array Bool:=#[true,false,false,false,true,false,false,false,true,false,false,false,true,false,false,false,false,true,false,false,false,false,false,false,false]
abbrev az5:Array Bool:=#[true,true,false,false,true,false,false,false,true,false,false,false,true,false,false,false,false,true,false,false,false,false,false,false,false]
abbrev ay3:Array Bool:=#[true,true,true,false,true,false,false,false,true,false,false,false,true,false,false,false,false,true,false,false,false,false,false,false,false]
abbrev ax0:Array Bool:=#[true,true,true,true,true,false,false,false,true,false,false,false,true,false,false,false,false,true,false,false,false,false,false,false,false]
abbrev az2:Array Bool:=#[true,true,true,true,true,true,false,false,true,false,false,false,true,false,false,false,false,true,false,false,false,false,false,false,false]
abbrev aw1:Array Bool:=#[true,true,true,true,true,true,true,false,true,false,false,false,true,false,false,false,false,true,false,false,false,false,false,false,false]
abbrev aw0:Array Bool:=#[true,true,true,true,true,true,true,true,true,false,false,false,true,false,false,false,false,true,false,false,false,false,false,false,false]
abbrev az0:Array Bool:=#[true,true,true,true,true,true,true,true,true,true,false,false,true,false,false,false,false,true,false,false,false,false,false,false,false]
abbrev aw2:Array Bool:=#[true,true,true,true,true,true,true,true,true,true,true,false,true,false,false,false,false,true,false,false,false,false,false,false,false]
abbrev ay6:Array Bool:=#[true,true,true,true,true,true,true,true,true,true,true,true,true,false,false,false,false,true,false,false,false,false,false,false,false]
abbrev ax3:Array Bool:=#[true,true,true,true,true,true,true,true,true,true,true,true,true,true,false,false,false,true,false,false,false,false,false,false,false]
abbrev ay1:Array Bool:=#[true,true,true,true,true,true,true,true,true,true,true,true,true,true,true,false,false,true,false,false,false,false,false,false,false]
abbrev S7:Array Bool:=#[true,true,true,true,true,true,true,true,true,true,true,true,true,true,true,true,true,true,true,true,true,true,true,true,false]
abbrev aZ0:Array Bool:=#[true,false,false,false,true,false,false,false,false,false,false,false,false,false,false,false,false,false,false,false,false,false,false,false,false]
abbrev ay0:Array Bool:=#[true,true,true,true,true,true,true,true,true,true,true,true,true,true,true,true,false,true,false,false,false,false,false,false,false]
abbrev au5:Array Bool:=#[true,true,true,true,true,true,true,true,true,true,true,true,true,true,true,true,false,true,true,true,true,false,false,false,false]
abbrev av2:Array Bool:=#[true,true,true,true,true,true,true,true,true,true,true,true,true,true,true,true,true,true,true,true,true,false,false,false,false]
abbrev aQ4:Array Bool:=#[true,false,false,false,true,false,false,false,true,false,false,false,false,false,false,false,false,false,false,false,false,false,false,false,false]
abbrev aq2:Array Bool:=#[true,true,true,true,true,true,true,true,true,true,true,true,true,true,true,true,true,true,true,true,true,true,true,true,true]
abbrev av0:Array Bool:=#[true,true,true,true,true,true,true,true,true,true,true,true,true,true,true,true,true,true,true,true,true,true,false,false,false]
abbrev aI4:Array Bool:=#[true,false,false,false,true,false,false,false,true,false,false,false,true,false,false,false,false,false,false,false,false,false,false,false,false]
abbrev ax5:Array Bool:=#[true,true,true,true,true,true,true,true,true,true,true,true,true,true,true,true,false,true,true,false,false,false,false,false,false]
abbrev au9:Array Bool:=#[true,true,true,true,true,true,true,true,true,true,true,true,true,true,true,true,true,true,true,true,true,true,true,false,false]
abbrev aA8:Array Bool:=#[true,true,true,true,true,true,true,true,true,true,true,true,true,true,true,true,false,true,true,true,false,false,false,false,false]
end Go.Proofs.Ytmddmbagehjdeaa
section
namespace Go.Proofs.Ytmddmbagehjdeaa.G
open Go.RowKit Go.Proofs.YtmddmbagehjdeaaX Go.Proofs.YtmddmbagehjdeaaW.PrintWords Go.Proofs.YtmddmbagehjdeaaW.PrintLast Go.Proofs.YtmddmbagehjdeaaW.PrintMore
attribute [local go_sem] S3 R3 R4 S4 P3 N3 D4 Y3
theorem q6.calls (k:Nat) (a0_0:Int) (a0_1:Int) (a0_2:Int) (A0_3:Option Addr) (c0_3:Nat) (l0_3:List Int) (a0_4:Int) (r1:List (S67)) (r2:Bool) (w:World) (hr0_3:Kd.C (Kd.int .u8) w A0_3 l0_3.length l0_3) (hc0_3:l0_3.length≤c0_3) (h:q6.f k a0_0 a0_1 a0_2 l0_3 a0_4=some (r1,r2)) :
  Calls Try.prog 48 #[.agg #[.int .i64 a0_0,.int .i64 a0_1,.int .i64 a0_2,.slice A0_3 l0_3.length c0_3,.int .i64 a0_4]] w fun e w'=>∃ v0_:Value,e=.returned (.tuple #[v0_,.bool r2])∧Kd.R k67 67 w' w.heap.size (fun _=>True) v0_ r1∧Below w.heap.size w w':=by
 have hu69:=Try.underlying69
 have hu25:=Try.underlying25
 have hu98:=Try.underlying98
 have HR0_3:=q5.mk hr0_3
 have HC0_3:=q5.mk hc0_3
 clear hr0_3 hc0_3
 have HB:=q5.mk (Below.refl w.heap.size w)
 have H:(if a0_0<1 then(q6.j0 k true a0_0 a0_1 a0_2 l0_3 a0_4)else(if a0_0>64 then(q6.j0 k true a0_0 a0_1 a0_2 l0_3 a0_4)else((q66.f l0_3 a0_4).bind fun bZ5=>(q6.j0 k (!bZ5) a0_0 a0_1 a0_2 l0_3 a0_4))))=some (r1,r2):=h
 clear h
 have HC2:=q5.mk H
 clear H
 go_enter Try.func48,Try.ntmps48
 go_upto_region 1 with(first|((with_reducible refine X0 (N:=1) rfl ?_);(try(refine O2 (by rfl) ?_;dsimp only));refine L2 1 #[.int .i64 a0_0,.int .i64 a0_1,.int .i64 a0_2,.slice A0_3 l0_3.length c0_3,.int .i64 a0_4] 69 ?_;intro ah9 hg w3 hbox hb;have n_:=pk4 (E0 bl_ hb) (hbox) ((ge_ hg bl_:w.heap.size≤ah9)) ((ge_ hg bl_:w.heap.size≤ah9));clear HB;obtain⟨HB,J2,dq6,dp8⟩:=n_;clear hb hbox hg))
 (try simp only [ap_,sb_,s0_,s1_])
 go_cut [28] (fun v28 wc=>∃ (kq:Nat) (x28_1:Bool),v28=.bool x28_1∧q5 (q6.j0 kq x28_1 a0_0 a0_1 a0_2 l0_3 a0_4=some (r1,r2))∧q5 (kq≤k)∧q5 (wc.heap[ah9]?=some (.cells #[.int .i64 a0_0,.int .i64 a0_1,.int .i64 a0_2,(.slice A0_3 l0_3.length c0_3),.int .i64 a0_4] 69 (0,0)))∧q5 (Below w.heap.size w wc))
 case first =>
  have H:=HC2.out
  clear HC2
  replace H:=dle H
  rcases H with⟨c4b0,H⟩|⟨c4b0,H⟩
  focus
   (first|rw [c4b0]|(simp only [N0,P0];rw [c4b0])|skip)
   have H':=q5.mk H
   clear H
   obtain⟨hcz5_0,hcz5_1,hcz5_2,hcz5_3,hcz5_4,hfz5_0,hfz5_1,hfz5_2,hfz5_3,hfz5_4⟩:=X4 J2.out
  rotate_left
  focus
   (first|rw [c4b0]|(simp only [N0,P0];rw [c4b0])|skip)
   replace H:=dgt H
   rcases H with⟨c6b0,H⟩|⟨c6b0,H⟩
   focus
    have H':=q5.mk H
    clear H
    obtain⟨hcz7_0,hcz7_1,hcz7_2,hcz7_3,hcz7_4,hfz7_0,hfz7_1,hfz7_2,hfz7_3,hfz7_4⟩:=X4 J2.out
   rotate_left
   focus
    replace H:=N2 H
    obtain⟨bZ5,A8,H⟩:=H
    try dsimp only at H
    have H':=q5.mk H
    clear H
    obtain⟨hcz9_0,hcz9_1,hcz9_2,hcz9_3,hcz9_4,hfz9_0,hfz9_1,hfz9_2,hfz9_3,hfz9_4⟩:=X4 J2.out
  all_goals
   go_wp2_with (first|(go_at_call 22;(with_reducible refine(q66.calls _ _ l0_3 a0_4 bZ5 _ ?side1 ?side2 A8.out).mono ?_);(case side1=>repeat(first|exact(Kd.C_below HR0_3.out bl_)|(with_reducible refine Kd.C_alloc ?_ _)|(with_reducible refine Kd.C_drewN ?_ _)|(with_reducible refine Kd.C_drew ?_)));(case side2=>exact HC0_3.out);rintro e U1 ⟨rfl,hb⟩;have n_:=pk2 (F0 (bo_ J2) hb) (E0 bl_ hb);clear J2 HB;obtain⟨J2,HB⟩:=n_;(try clear hb)))
   go_meet
   first
    |case rel=>exact⟨_,(true),sm_,H',⟨om_⟩,⟨(bo_ J2)⟩,⟨bl_⟩⟩
    |case rel=>exact⟨_,(!bZ5),sm_,H',⟨om_⟩,⟨(bo_ J2)⟩,⟨bl_⟩⟩
 case rest =>
  clear HC2
  obtain⟨kq,x28_1,rfl,HA,HJ1,J2,HB⟩:=hcut
  cases kq with
  |zero=>exact absurd HA.out (by simp [q6.j0])
  |succ kj1 =>
   have H:=HA.out
   clear HA
   simp only [q6.j0] at H
   replace H:=Q7 H
   rcases H with⟨rfl,H⟩|⟨rfl,H⟩
   rotate_left
   ·replace H:=N2 H
    obtain⟨j6,A12,H⟩:=H
    try dsimp only at H
    obtain⟨cV9,bH4⟩:∃ y_:List Int,y_=(([a0_0]:List Int)):=⟨_,rfl⟩
    replace H:(q6.l0 kj1 j6 cV9 0 a0_0 a0_1 a0_2 l0_3 a0_4)=some (r1,r2):=by first|(rw [bH4];with_reducible exact H)|(have H2_:=(Option.bind_some _ _).symm.trans H;rw [bH4];with_reducible exact H2_)|(have H2_:=(Option.bind_some _ _).symm.trans H;with_reducible exact H2_)|with_reducible exact H|(rw [bH4];exact H)|exact H
    have cC0:=q5.mk bH4
    clear bH4
    have H':=q5.mk H
    clear H
    obtain⟨hcz13_0,hcz13_1,hcz13_2,hcz13_3,hcz13_4,hfz13_0,hfz13_1,hfz13_2,hfz13_3,hfz13_4⟩:=X4 J2.out
    go_wp2_with (first|((with_reducible refine C1 (f:=23) rfl ?_);refine goL_ (some 31) Try.func23 #[.agg #[.slice A0_3 l0_3.length c0_3,.int .i64 a0_4]] ?_;(with_reducible refine(q44.calls kj1 _ _ l0_3 a0_4 j6 _ ?side1 ?side2 A12.out).mono ?_);(case side1=>exact cb_ HR0_3);(case side2=>exact HC0_3.out);rintro e w14 ⟨do4,rfl,ho0,hb⟩;refine⟨_,rfl,?_⟩;have n_:=pk3 (Kd.R_lower ho0 (L0 bl_)) (F0 (bo_ J2) hb) (E0 bl_ hb);clear J2 HB;obtain⟨bW9,J2,HB⟩:=n_;(try clear hb ho0);have hcz15_0:w14.cell? ⟨ah9,0,none⟩=some (.int .i64 a0_0):=(m0 J2.out 0).trans rfl;have hcz15_1:w14.cell? ⟨ah9,1,none⟩=some (.int .i64 a0_1):=(m0 J2.out 1).trans rfl;have hcz15_2:w14.cell? ⟨ah9,2,none⟩=some (.int .i64 a0_2):=(m0 J2.out 2).trans rfl;have hcz15_3:w14.cell? ⟨ah9,3,none⟩=some (.slice A0_3 l0_3.length c0_3):=(m0 J2.out 3).trans rfl;have hcz15_4:w14.cell? ⟨ah9,4,none⟩=some (.int .i64 a0_4):=(m0 J2.out 4).trans rfl;have hfz15_0:=t0 J2.out 0;have hfz15_1:=t0 J2.out 1;have hfz15_2:=t0 J2.out 2;have hfz15_3:=t0 J2.out 3;have hfz15_4:=t0 J2.out 4)|((with_reducible refine X0 (N:=34) rfl ?_);(try(refine O2 (by rfl) ?_;dsimp only));refine Kd.R_lit (Kd.int .i64) _ 3 ?hg (N:=34) ?hd (xs:=([a0_0]:List Int)) (inner:=[.int .i64 a0_0]) (ok:=fun _=>True) (okp:=fun _=>True) ?hr ?hp (fun _ hk=>hk) trivial (Below.refl _ _) (Nat.le_refl _) (by simp) ?_;(case hd=>rfl);(case hg=>rfl);(case hr=>first|(go_simp;done)|(go_simp;rfl));(case hp=>exact(Reps.one (show Kd.M (Kd.int .i64) _ _ _ a0_0 [.int .i64 a0_0] from rfl) (Reps.none _ _)));intro du3 w16 ho17 hb hg_ hnew_;clear hg_ hnew_;(first|rw [←cC0.out] at ho17|(simp only [Int.reduceToNat] at ho17;rw [←cC0.out] at ho17));have n_:=pk4 (Kd.R_below (ro_ bW9) hb) (Kd.R_lower ho17 (L0 bl_)) (F0 (bo_ J2) hb) (E0 bl_ hb);clear bW9 J2 HB;obtain⟨bW9,dc8,J2,HB⟩:=n_;clear hb ho17))
    go_loopg [5,6] kj1 (fun kq v5 v6 w'=>∃ (x5_2:List Int) (x6_2:Int),v6=.int .i64 x6_2∧q5 (q6.l0 kq j6 x5_2 x6_2 a0_0 a0_1 a0_2 l0_3 a0_4=some (r1,r2))∧q5 (kq≤kj1)∧q5 (Kd.R Kd.bool 4 w' w.heap.size (fun _=>True) do4 j6)∧q5 (Kd.R (Kd.int .i64) 3 w' w.heap.size (fun _=>True) v5 x5_2)∧q5 (w'.heap[ah9]?=some (.cells #[.int .i64 a0_0,.int .i64 a0_1,.int .i64 a0_2,(.slice A0_3 l0_3.length c0_3),.int .i64 a0_4] 69 (0,0)))∧q5 (Below w.heap.size w w'))
    case atStart=>exact⟨(cV9),(0),sm_,H',⟨Nat.le_refl _⟩,⟨(ro_ bW9)⟩,⟨(ro_ dc8)⟩,⟨(bo_ J2)⟩,⟨bl_⟩⟩
    case round =>
     clear H'
     try clear c11
     try clear hcz13_0
     try clear hcz13_1
     try clear hcz13_2
     try clear hcz13_3
     try clear hcz13_4
     try clear hfz13_0
     try clear hfz13_1
     try clear hfz13_2
     try clear hfz13_3
     try clear hfz13_4
     obtain⟨x5_2,x6_2,rfl,HA,HK2,HO_4,HO_5,J2,HB⟩:=hrel
     cases gk with
     |zero=>exact absurd HA.out (by simp [q6.l0])
     |succ k2 =>
      have H:=HA.out
      clear HA
      simp only [q6.l0] at H
      replace H:=dle H
      rcases H with⟨c18b0,H⟩|⟨c18b0,H⟩
      ·by_cases c19:0≤x6_2
       ·rw [if_pos c19] at H
        have c19b0:=eq_true c19
        have c19b1:decide (0≤x6_2)=true:=decide_eq_true c19
        clear c19
        by_cases c20:x6_2≤(j6.length:Int)
        ·rw [if_pos c20] at H
         have c20b0:=eq_true c20
         have c20b1:decide (x6_2≤(j6.length:Int))=true:=decide_eq_true c20
         clear c20
         obtain⟨bE4,bF4⟩:∃ y_:List Bool,y_=(j6.drop (x6_2:Int).toNat):=⟨_,rfl⟩
         replace H:((q12.f k2 bE4).bind fun ah6=>(if 0≤(wrap64 (x6_2+ah6.2))then(if(wrap64 (x6_2+ah6.2))≤(j6.length:Int)then((q12.f k2 (j6.drop ((wrap64 (x6_2+ah6.2)):Int).toNat)).bind fun aa4=>(if ah6.2=0 then(q6.j2 k2 j6 x5_2 (wrap64 ((wrap64 (x6_2+ah6.2))+aa4.2)) ah6.1 aa4.1 true a0_0 a0_1 a0_2 l0_3 a0_4)else(q6.j2 k2 j6 x5_2 (wrap64 ((wrap64 (x6_2+ah6.2))+aa4.2)) ah6.1 aa4.1 (aa4.2 == 0) a0_0 a0_1 a0_2 l0_3 a0_4)))else(none))else(none)))=some (r1,r2):=by first|(rw [bF4];with_reducible exact H)|(have H2_:=(Option.bind_some _ _).symm.trans H;rw [bF4];with_reducible exact H2_)|(have H2_:=(Option.bind_some _ _).symm.trans H;with_reducible exact H2_)|with_reducible exact H|(rw [bF4];exact H)|exact H
         have cE0:=q5.mk bF4
         clear bF4
         replace H:=N2 H
         obtain⟨⟨aO7,cf5⟩,A21,H⟩:=H
         try dsimp only at H
         obtain⟨ji22,hji22⟩:∃ j_:Int,(wrap64 (x6_2+cf5))=j_:=⟨_,rfl⟩
         replace H:(if 0≤(ji22)then(if(ji22)≤(j6.length:Int)then((q12.f k2 (j6.drop ((ji22):Int).toNat)).bind fun aa4=>(if cf5=0 then(q6.j2 k2 j6 x5_2 (wrap64 ((ji22)+aa4.2)) aO7 aa4.1 true a0_0 a0_1 a0_2 l0_3 a0_4)else(q6.j2 k2 j6 x5_2 (wrap64 ((ji22)+aa4.2)) aO7 aa4.1 (aa4.2 == 0) a0_0 a0_1 a0_2 l0_3 a0_4)))else(none))else(none))=some (r1,r2):=by first|(rw [hji22] at H;exact H)|(simp only [hji22] at H ⊢;exact H)
         (try rw [hji22] at A21)
         have hji22w:(IntKind.i64.wrap (x6_2+cf5))=ji22:=(N0 _).trans hji22
         by_cases c23:0≤(ji22)
         ·rw [if_pos c23] at H
          have c23b0:=eq_true c23
          have c23b1:decide (0≤(ji22))=true:=decide_eq_true c23
          clear c23
          by_cases c24:(ji22)≤(j6.length:Int)
          ·rw [if_pos c24] at H
           have c24b0:=eq_true c24
           have c24b1:decide ((ji22)≤(j6.length:Int))=true:=decide_eq_true c24
           clear c24
           obtain⟨bv7,bH3⟩:∃ y_:List Bool,y_=(j6.drop ((ji22):Int).toNat):=⟨_,rfl⟩
           replace H:((q12.f k2 bv7).bind fun aa4=>(if cf5=0 then(q6.j2 k2 j6 x5_2 (wrap64 ((ji22)+aa4.2)) aO7 aa4.1 true a0_0 a0_1 a0_2 l0_3 a0_4)else(q6.j2 k2 j6 x5_2 (wrap64 ((ji22)+aa4.2)) aO7 aa4.1 (aa4.2 == 0) a0_0 a0_1 a0_2 l0_3 a0_4)))=some (r1,r2):=by first|(rw [bH3];with_reducible exact H)|(have H2_:=(Option.bind_some _ _).symm.trans H;rw [bH3];with_reducible exact H2_)|(have H2_:=(Option.bind_some _ _).symm.trans H;with_reducible exact H2_)|with_reducible exact H|(rw [bH3];exact H)|exact H
           have cA5:=q5.mk bH3
           clear bH3
           replace H:=N2 H
           obtain⟨⟨bc4,aN8⟩,A25,H⟩:=H
           try dsimp only at H
           have HC26:=q5.mk H
           clear H
           obtain⟨Ao27,co27,eo27⟩:=Kd.R_slice HO_5.out
           subst eo27
           obtain⟨hcz28_0,hcz28_1,hcz28_2,hcz28_3,hcz28_4,hfz28_0,hfz28_1,hfz28_2,hfz28_3,hfz28_4⟩:=X4 J2.out
           obtain⟨Ao30,co30,eo30⟩:=Kd.R_slice HO_4.out
           subst eo30
           have q29:(x6_2:Int)≤((j6.length:Int):Int):=dc_
           obtain⟨dt4,cE4,_,hsz29,_⟩:=info_parts D6
           have hroom29:j6.length≤co30:=(Kd.R_reads' HO_4.out).2.1
           have hC29:Kd.C Kd.bool _ Ao30 j6.length j6:=(Kd.R_reads' HO_4.out).2.2
           have cy0:(0:Int)≤(x6_2:Int):=dc_
           have hcut29:=aL3 (P:=Try.prog) 39 4 .i64 Try.underlying39 cE4 1 hsz29 Ao30 j6.length co30 x6_2 cy0 q29
           have hr29:=Kd.C_drop (m:=(x6_2:Int).toNat) (c:=co30) hC29 (by omega) hroom29
           obtain⟨A29,hA29⟩:∃ A1,A1=(if co30=(x6_2:Int).toNat then Ao30 else(Ao30:Option Addr).map (·.add ((x6_2:Int).toNat*1))):=⟨_,rfl⟩
           obtain⟨c29,hc29⟩:∃ c1,c1=co30 - (x6_2:Int).toNat:=⟨_,rfl⟩
           have hy29:bE4.length=j6.length - (x6_2:Int).toNat:=(by rw [cE0.out,List.length_drop]<;>omega)
           rw [show(j6).drop (x6_2:Int).toNat=bE4 from cE0.out.symm] at hr29
           replace hr29:Kd.C Kd.bool _ A29 bE4.length bE4:=(by rw [hA29];exact hr29)
           rw [←hy29,←hA29,←hc29] at hcut29
           have aE7:=q5.mk hr29
           have da9:=q5.mk (show bE4.length≤c29 from by rw [hy29,hc29];exact Nat.sub_le_sub_right hroom29 _)
           clear hr29 hC29 hroom29 cE4 hsz29 hc29
           have KY29:=q5.mk hy29
           have KA29:=q5.mk hA29
           clear hy29 hA29
           have KL29:=q5.mk (show(x6_2:Int).toNat≤j6.length from by omega)
           replace q29:=eq_true q29
           go_upto_region 11 with(first|((with_reducible refine C1 (f:=26) rfl ?_);refine goL_ (some 46) Try.func26 #[.slice A29 bE4.length c29] ?_;(with_reducible refine(q12.calls k2 _ _ bE4 aO7 cf5 _ ?side1 ?side2 A21.out).mono ?_);(case side1=>repeat(first|exact(by repeat(first|(with_reducible exact aE7.out)|(with_reducible refine Kd.C_alloc ?_ _)|(with_reducible refine Kd.C_drewN ?_ _)|(with_reducible refine Kd.C_drew ?_)|exact aE7.out))|(with_reducible refine Kd.C_alloc ?_ _)|(with_reducible refine Kd.C_drewN ?_ _)|(with_reducible refine Kd.C_drew ?_)));(case side2=>exact da9.out);rintro e w31 ⟨rfl,hb⟩;refine⟨_,rfl,?_⟩;have n_:=pk5 (Kd.R_below (ro_ HO_4) hb) (Kd.R_below (ro_ HO_5) hb) (F0 (bo_ J2) hb) (Kd.C_below (by repeat(first|(with_reducible exact aE7.out)|(with_reducible refine Kd.C_alloc ?_ _)|(with_reducible refine Kd.C_drewN ?_ _)|(with_reducible refine Kd.C_drew ?_)|exact aE7.out)) hb) (E0 bl_ hb);clear HO_4 HO_5 J2 aE7 HB;obtain⟨HO_4,HO_5,J2,aE7,HB⟩:=n_;(try clear hb);have q32:((ji22):Int)≤((j6.length:Int):Int):=dc_;obtain⟨dl2,bC5,_,hsz32,_⟩:=info_parts D6;have hroom32:j6.length≤co30:=(Kd.R_reads' HO_4.out).2.1;have hC32:Kd.C Kd.bool _ Ao30 j6.length j6:=(Kd.R_reads' HO_4.out).2.2;have do1:(0:Int)≤((ji22):Int):=dc_;have hcut32:=aL3 (P:=Try.prog) 39 4 .i64 Try.underlying39 bC5 1 hsz32 Ao30 j6.length co30 (ji22) do1 q32;have hr32:=Kd.C_drop (m:=((ji22):Int).toNat) (c:=co30) hC32 (by omega) hroom32;obtain⟨A32,hA32⟩:∃ A1,A1=(if co30=((ji22):Int).toNat then Ao30 else(Ao30:Option Addr).map (·.add (((ji22):Int).toNat*1))):=⟨_,rfl⟩;obtain⟨c32,hc32⟩:∃ c1,c1=co30 - ((ji22):Int).toNat:=⟨_,rfl⟩;have hy32:bv7.length=j6.length - ((ji22):Int).toNat:=(by rw [cA5.out,List.length_drop]<;>omega);rw [show(j6).drop ((ji22):Int).toNat=bv7 from cA5.out.symm] at hr32;replace hr32:Kd.C Kd.bool _ A32 bv7.length bv7:=(by rw [hA32];exact hr32);rw [←hy32,←hA32,←hc32] at hcut32;have bi5:=q5.mk hr32;have cY2:=q5.mk (show bv7.length≤c32 from by rw [hy32,hc32];exact Nat.sub_le_sub_right hroom32 _);clear hr32 hC32 hroom32 bC5 hsz32 hc32;have KY32:=q5.mk hy32;have KA32:=q5.mk hA32;clear hy32 hA32;have KL32:=q5.mk (show((ji22):Int).toNat≤j6.length from by omega);replace q32:=eq_true q32)|((with_reducible refine C1 (f:=26) rfl ?_);refine goL_ (some 56) Try.func26 #[.slice A32 bv7.length c32] ?_;(with_reducible refine(q12.calls k2 _ _ bv7 bc4 aN8 _ ?side1 ?side2 A25.out).mono ?_);(case side1=>repeat(first|exact(by repeat(first|(with_reducible exact bi5.out)|(with_reducible refine Kd.C_alloc ?_ _)|(with_reducible refine Kd.C_drewN ?_ _)|(with_reducible refine Kd.C_drew ?_)|exact bi5.out))|(with_reducible refine Kd.C_alloc ?_ _)|(with_reducible refine Kd.C_drewN ?_ _)|(with_reducible refine Kd.C_drew ?_)));(case side2=>exact cY2.out);rintro e w33 ⟨rfl,hb⟩;refine⟨_,rfl,?_⟩;have n_:=pk6 (Kd.R_below (ro_ HO_4) hb) (Kd.R_below (ro_ HO_5) hb) (F0 (bo_ J2) hb) (Kd.C_below (by repeat(first|(with_reducible exact aE7.out)|(with_reducible refine Kd.C_alloc ?_ _)|(with_reducible refine Kd.C_drewN ?_ _)|(with_reducible refine Kd.C_drew ?_)|exact aE7.out)) hb) (Kd.C_below (by repeat(first|(with_reducible exact bi5.out)|(with_reducible refine Kd.C_alloc ?_ _)|(with_reducible refine Kd.C_drewN ?_ _)|(with_reducible refine Kd.C_drew ?_)|exact bi5.out)) hb) (E0 bl_ hb);clear HO_4 HO_5 J2 aE7 bi5 HB;obtain⟨HO_4,HO_5,J2,aE7,bi5,HB⟩:=n_;(try clear hb)))
           (try simp only [ap_,sb_,s0_,s1_])
           go_cut [67] (fun v67 wc=>∃ (kq:Nat) (x67_25:Bool),v67=.bool x67_25∧q5 (q6.j2 kq j6 x5_2 (wrap64 ((ji22)+aN8)) aO7 bc4 x67_25 a0_0 a0_1 a0_2 l0_3 a0_4=some (r1,r2))∧q5 (kq≤k2)∧q5 (Kd.R Kd.bool 4 wc w.heap.size (fun _=>True) (.slice Ao30 j6.length co30) j6)∧q5 (Kd.R (Kd.int .i64) 3 wc w.heap.size (fun _=>True) (.slice Ao27 x5_2.length co27) x5_2)∧q5 (wc.heap[ah9]?=some (.cells #[.int .i64 a0_0,.int .i64 a0_1,.int .i64 a0_2,(.slice A0_3 l0_3.length c0_3),.int .i64 a0_4] 69 (0,0)))∧q5 (Below w.heap.size w wc))
           case first =>
            have H:=HC26.out
            clear HC26
            replace H:=deqn H
            rcases H with⟨c34b0,c34b1,H⟩|⟨c34b0,c34b1,c34,H⟩
            focus
             (first|rw [c34b0]|(simp only [N0,P0];rw [c34b0])|skip)
             have H':=q5.mk H
             clear H
            rotate_left
            focus
             (first|rw [c34b0]|(simp only [N0,P0];rw [c34b0])|skip)
             have H':=q5.mk H
             clear H
            all_goals
             go_wp2
             go_meet
             first
              |case rel=>exact⟨_,(true),sm_,H',⟨by have:=HJ1.out;have:=HK2.out;first|omega|exact Nat.le_refl _⟩,⟨(ro_ HO_4)⟩,⟨(ro_ HO_5)⟩,⟨(bo_ J2)⟩,⟨bl_⟩⟩
              |case rel=>exact⟨_,((aN8 == 0)),sm_,H',⟨by have:=HJ1.out;have:=HK2.out;first|omega|exact Nat.le_refl _⟩,⟨(ro_ HO_4)⟩,⟨(ro_ HO_5)⟩,⟨(bo_ J2)⟩,⟨bl_⟩⟩
           case rest =>
            clear HC26
            try clear c1
            try clear c11
            try clear c18
            try clear c18b0
            try clear c19
            try clear c19b0
            try clear c19b1
            try clear c20
            try clear c20b0
            try clear c20b1
            try clear c23
            try clear c23b0
            try clear c23b1
            try clear c24
            try clear c24b0
            try clear c24b1
            try clear c29
            try clear q29
            try clear hcz13_0
            try clear hcz13_1
            try clear hcz13_2
            try clear hcz13_3
            try clear hcz13_4
            try clear hcz28_0
            try clear hcz28_1
            try clear hcz28_2
            try clear hcz28_3
            try clear hcz28_4
            try clear hfz13_0
            try clear hfz13_1
            try clear hfz13_2
            try clear hfz13_3
            try clear hfz13_4
            try clear hfz28_0
            try clear hfz28_1
            try clear hfz28_2
            try clear hfz28_3
            try clear hfz28_4
            try clear cy0
            try clear q29
            obtain⟨kq,x67_25,rfl,HA,HJ25,HO_4,HO_5,J2,HB⟩:=hcut
            cases kq with
            |zero=>exact absurd HA.out (by simp [q6.j2])
            |succ kj25 =>
             have H:=HA.out
             clear HA
             simp only [q6.j2] at H
             replace H:=Q7 H
             rcases H with⟨rfl,H⟩|⟨rfl,H⟩
             rotate_left
             ·obtain⟨bq9,bD6⟩:∃ y_:List Int,y_=(([aO7,bc4]:List Int)):=⟨_,rfl⟩
              replace H:(if x5_2.length+bq9.length<17592186044416 then((some (x5_2++bq9:List Int)).bind fun ai3=>(if(ai3.length:Int)>5 then(if aO7=0 then(q6.j3 kj25 j6 ai3 (wrap64 ((ji22)+aN8)) (bc4 == 0) a0_0 a0_1 a0_2 l0_3 a0_4)else(q6.j3 kj25 j6 ai3 (wrap64 ((ji22)+aN8)) false a0_0 a0_1 a0_2 l0_3 a0_4))else(q6.j3 kj25 j6 ai3 (wrap64 ((ji22)+aN8)) false a0_0 a0_1 a0_2 l0_3 a0_4)))else(none))=some (r1,r2):=by first|(rw [bD6];with_reducible exact H)|(have H2_:=(Option.bind_some _ _).symm.trans H;rw [bD6];with_reducible exact H2_)|(have H2_:=(Option.bind_some _ _).symm.trans H;with_reducible exact H2_)|with_reducible exact H|(rw [bD6];exact H)|exact H
              have cD8:=q5.mk bD6
              clear bD6
              by_cases c36:x5_2.length+bq9.length<17592186044416
              ·rw [if_pos c36] at H
               have LMc36:=q5.mk c36
               clear c36
               obtain⟨ai3,bt3⟩:∃ y_:List Int,y_=(x5_2++bq9):=⟨_,rfl⟩
               replace H:(if(ai3.length:Int)>5 then(if aO7=0 then(q6.j3 kj25 j6 ai3 (wrap64 ((ji22)+aN8)) (bc4 == 0) a0_0 a0_1 a0_2 l0_3 a0_4)else(q6.j3 kj25 j6 ai3 (wrap64 ((ji22)+aN8)) false a0_0 a0_1 a0_2 l0_3 a0_4))else(q6.j3 kj25 j6 ai3 (wrap64 ((ji22)+aN8)) false a0_0 a0_1 a0_2 l0_3 a0_4))=some (r1,r2):=by first|(rw [bt3];with_reducible exact H)|(have H2_:=(Option.bind_some _ _).symm.trans H;rw [bt3];with_reducible exact H2_)|(have H2_:=(Option.bind_some _ _).symm.trans H;with_reducible exact H2_)|with_reducible exact H|(rw [bt3];exact H)|exact H
               have cU2:=q5.mk bt3
               clear bt3
               have HC37:=q5.mk H
               clear H
               go_upto_region 14 with(first|((with_reducible refine X0 (N:=71) rfl ?_);(try(refine O2 (by rfl) ?_;dsimp only));refine Kd.R_lit (Kd.int .i64) _ 3 ?hg (N:=71) ?hd (xs:=([aO7,bc4]:List Int)) (inner:=[.int .i64 aO7,.int .i64 bc4]) (ok:=fun _=>True) (okp:=fun _=>True) ?hr ?hp (fun _ hk=>hk) trivial (Below.refl _ _) (Nat.le_refl _) (by simp) ?_;(case hd=>rfl);(case hg=>rfl);(case hr=>first|(go_simp;done)|(go_simp;rfl));(case hp=>exact(Reps.one (show Kd.M (Kd.int .i64) _ _ _ aO7 [.int .i64 aO7] from rfl) (Reps.one (show Kd.M (Kd.int .i64) _ _ _ bc4 [.int .i64 bc4] from rfl) (Reps.none _ _))));intro dv1 w38 ho39 hb hg_ hnew_;clear hg_ hnew_;(first|rw [←cD8.out] at ho39|(simp only [Int.reduceToNat] at ho39;rw [←cD8.out] at ho39));have n_:=pk5 (Kd.R_below (ro_ HO_4) hb) (Kd.R_elder' (ro_ HO_5) (Kd.R_base ho39) hb) (Kd.R_lower (Kd.R_new' ho39 (Kd.R_lt (ro_ HO_5))) (L0 bl_)) (F0 (bo_ J2) hb) (E0 bl_ hb);clear HO_4 HO_5 J2 HB;obtain⟨HO_4,HO_5,bh5,J2,HB⟩:=n_;clear hb ho39;obtain⟨Ao41,co41,eo41⟩:=Kd.R_slice bh5.out;subst eo41)|((with_reducible refine G1 (b:=.append) (xs:=#[.tmp 68,.tmp 71]) rfl ?_);(try(refine O2 (by rfl) ?_;dsimp only));at_builtin;refine Kd.R_append_rows (Kd.int .i64) (w0:=w) w.heap.size rfl (.tmp 68) (.tmp 71) 22 3 (.int .i64 0) 8 rfl Try.underlying22 ae7 rfl (by decide) (by omega) (.slice Ao27 x5_2.length co27) x5_2 bq9 _ _ _ (fun k_=>some k_≠(.slice Ao41 bq9.length co41:Value).ownBlock) (fun _=>False) rfl rfl ?aO ?aR (fun _ _ h=>h) (fun _ h=>h.elim) ?aF ?aB ?aS ?aL ?_;(case aR=>exact cr_ bh5);(case aB=>exact bl_);(case aF=>exact(fun k_ hk=>Kd.fresh' (Kd.R_lt (ro_ bh5)) k_ hk));(case aO=>exact(rt_ (Kd.R_mono HO_5.out (fun _ hk=>hk.2))));(case aS=>exact(L0 bl_));(case aL=>have:=LMc36.out;omega);intro di7 w40 ho hb hg hat;rw [←cU2.out] at ho;have n_:=pk5 (Kd.R_over' (ro_ HO_4) (Kd.R_typed (ro_ HO_5)) (by decide) hg) (D5 (bo_ J2) hg (Kd.R_ne HO_5.out J2.out (by decide))) (Kd.R_after (ok:=(fun _=>True)) (ro_ bh5) hg hat) (hb) (ho);clear HO_4 J2 bh5 HB HO_5;obtain⟨HO_4,J2,bh5,HB,bw1⟩:=n_;clear ho hb hg hat))
               (try simp only [ap_,sb_,s0_,s1_])
               go_cut [83] (fun v83 wc=>∃ (kq:Nat) (x83_36:Bool),v83=.bool x83_36∧q5 (q6.j3 kq j6 ai3 (wrap64 ((ji22)+aN8)) x83_36 a0_0 a0_1 a0_2 l0_3 a0_4=some (r1,r2))∧q5 (kq≤kj25)∧q5 (Kd.R Kd.bool 4 wc w.heap.size (fun _=>True) (.slice Ao30 j6.length co30) j6)∧q5 (Kd.R (Kd.int .i64) 3 wc w.heap.size (fun _=>True) di7 ai3)∧q5 (wc.heap[ah9]?=some (.cells #[.int .i64 a0_0,.int .i64 a0_1,.int .i64 a0_2,(.slice A0_3 l0_3.length c0_3),.int .i64 a0_4] 69 (0,0)))∧q5 (Below w.heap.size w wc))
               case first =>
                have H:=HC37.out
                clear HC37
                by_cases c42:(ai3.length:Int)>5
                focus
                 rw [if_pos c42] at H
                 have c42b0:decide (5<(ai3.length:Int))=true:=decide_eq_true c42
                 have c42b1:decide (5<ai3.length)=true:=decide_eq_true (by omega)
                 clear c42
                 (first|rw [c42b0]|(simp only [N0,P0];rw [c42b0])|skip)
                 replace H:=deqn H
                 rcases H with⟨c43b0,c43b1,H⟩|⟨c43b0,c43b1,c43,H⟩
                 focus
                  have H':=q5.mk H
                  clear H
                  obtain⟨Ao44,co44,eo44⟩:=Kd.R_slice bw1.out
                  subst eo44
                 rotate_left
                 focus
                  have H':=q5.mk H
                  clear H
                  obtain⟨Ao45,co45,eo45⟩:=Kd.R_slice bw1.out
                  subst eo45
                rotate_left 2
                focus
                 rw [if_neg c42] at H
                 have c42b0:decide (5<(ai3.length:Int))=false:=decide_eq_false c42
                 have c42b1:decide (5<ai3.length)=false:=decide_eq_false (by omega)
                 clear c42
                 (first|rw [c42b0]|(simp only [N0,P0];rw [c42b0])|skip)
                 have H':=q5.mk H
                 clear H
                 obtain⟨Ao46,co46,eo46⟩:=Kd.R_slice bw1.out
                 subst eo46
                all_goals
                 go_wp2
                 go_meet
                 first
                  |case rel=>exact⟨_,((bc4 == 0)),sm_,H',⟨by have:=HJ1.out;have:=HK2.out;have:=HJ25.out;first|omega|exact Nat.le_refl _⟩,⟨(ro_ HO_4)⟩,⟨(rt_ (Kd.R_mono bw1.out (fun _ hk=>trivial)))⟩,⟨(bo_ J2)⟩,⟨bl_⟩⟩
                  |case rel=>exact⟨_,(false),sm_,H',⟨by have:=HJ1.out;have:=HK2.out;have:=HJ25.out;first|omega|exact Nat.le_refl _⟩,⟨(ro_ HO_4)⟩,⟨(rt_ (Kd.R_mono bw1.out (fun _ hk=>trivial)))⟩,⟨(bo_ J2)⟩,⟨bl_⟩⟩
               case rest =>
                clear HC37
                try clear c1
                try clear c11
                try clear c18
                try clear c18b0
                try clear c19
                try clear c19b0
                try clear c19b1
                try clear c20
                try clear c20b0
                try clear c20b1
                try clear c23
                try clear c23b0
                try clear c23b1
                try clear c24
                try clear c24b0
                try clear c24b1
                try clear c29
                try clear q29
                try clear c35
                try clear c36
                try clear hcz13_0
                try clear hcz13_1
                try clear hcz13_2
                try clear hcz13_3
                try clear hcz13_4
                try clear hcz28_0
                try clear hcz28_1
                try clear hcz28_2
                try clear hcz28_3
                try clear hcz28_4
                try clear hfz13_0
                try clear hfz13_1
                try clear hfz13_2
                try clear hfz13_3
                try clear hfz13_4
                try clear hfz28_0
                try clear hfz28_1
                try clear hfz28_2
                try clear hfz28_3
                try clear hfz28_4
                try clear cy0
                try clear q29
                obtain⟨kq,x83_36,rfl,HA,HJ36,HO_4,HO_5,J2,HB⟩:=hcut
                cases kq with
                |zero=>exact absurd HA.out (by simp [q6.j3])
                |succ kj36 =>
                 have H:=HA.out
                 clear HA
                 simp only [q6.j3] at H
                 replace H:=Q7 H
                 rcases H with⟨rfl,H⟩|⟨rfl,H⟩
                 focus
                  replace H:=dgt H
                  rcases H with⟨c48b0,H⟩|⟨c48b0,H⟩
                  rotate_left
                  ·obtain⟨ji49,hji49⟩:∃ j_:Int,(wrap64 ((ji22)+aN8))=j_:=⟨_,rfl⟩
                   replace H:(if 0≤(ji49)then(if(ji49)≤(wrap64 ((ji49)+4))then(if(wrap64 ((ji49)+4))≤(j6.length:Int)then((q24.f kj36 ((j6.take ((wrap64 ((ji49)+4)):Int).toNat).drop ((ji49):Int).toNat)).bind fun bd5=>(q6.l1 kj36 j6 ai3 (wrap64 ((ji49)+4)) (wrap64 (bd5)) 0 a0_0 a0_1 a0_2 l0_3 a0_4))else(none))else(none))else(none))=some (r1,r2):=by first|(rw [hji49] at H;exact H)|(simp only [hji49] at H ⊢;exact H)
                   (try rw [hji49] at c48b0)
                   have hji49w:(IntKind.i64.wrap ((ji22)+aN8))=ji49:=(N0 _).trans hji49
                   by_cases c50:0≤(ji49)
                   ·rw [if_pos c50] at H
                    have c50b0:=eq_true c50
                    have c50b1:decide (0≤(ji49))=true:=decide_eq_true c50
                    clear c50
                    by_cases c51:(ji49)≤(wrap64 ((ji49)+4))
                    ·rw [if_pos c51] at H
                     have c51b0:=eq_true c51
                     have c51b1:decide ((ji49)≤(wrap64 ((ji49)+4)))=true:=decide_eq_true c51
                     by_cases c52:(wrap64 ((ji49)+4))≤(j6.length:Int)
                     ·rw [if_pos c52] at H
                      have c52b0:=eq_true c52
                      have c52b1:decide ((wrap64 ((ji49)+4))≤(j6.length:Int))=true:=decide_eq_true c52
                      obtain⟨bA0,bG7⟩:∃ y_:List Bool,y_=((j6.take ((wrap64 ((ji49)+4)):Int).toNat).drop ((ji49):Int).toNat):=⟨_,rfl⟩
                      replace H:((q24.f kj36 bA0).bind fun bd5=>(q6.l1 kj36 j6 ai3 (wrap64 ((ji49)+4)) (wrap64 (bd5)) 0 a0_0 a0_1 a0_2 l0_3 a0_4))=some (r1,r2):=by first|(rw [bG7];with_reducible exact H)|(have H2_:=(Option.bind_some _ _).symm.trans H;rw [bG7];with_reducible exact H2_)|(have H2_:=(Option.bind_some _ _).symm.trans H;with_reducible exact H2_)|with_reducible exact H|(rw [bG7];exact H)|exact H
                      have cE1:=q5.mk bG7
                      clear bG7
                      replace H:=N2 H
                      obtain⟨bd5,A53,H⟩:=H
                      try dsimp only at H
                      have H':=q5.mk H
                      clear H
                      have q54:((wrap64 ((ji49)+4)):Int)≤((j6.length:Int):Int):=dc_
                      obtain⟨du6,cC7,_,hsz54,_⟩:=info_parts D6
                      have hroom54:j6.length≤co30:=(Kd.R_reads' HO_4.out).2.1
                      have hC54:Kd.C Kd.bool _ Ao30 j6.length j6:=(Kd.R_reads' HO_4.out).2.2
                      have ql54:((ji49):Int)≤((wrap64 ((ji49)+4)):Int):=dc_
                      have cV4:(0:Int)≤((ji49):Int):=dc_
                      have hcut54:=cv1 (P:=Try.prog) 39 4 .i64 .i64 Try.underlying39 cC7 1 hsz54 Ao30 j6.length co30 (ji49) (wrap64 ((ji49)+4)) cV4 ql54 q54 hroom54
                      have hr54:=Kd.C_mid (lo:=((ji49):Int).toNat) (hi:=((wrap64 ((ji49)+4)):Int).toNat) (c:=co30) hC54 (by omega) (by omega) hroom54
                      obtain⟨A54,hA54⟩:∃ A1,A1=(if co30=((ji49):Int).toNat then Ao30 else(Ao30:Option Addr).map (·.add (((ji49):Int).toNat*1))):=⟨_,rfl⟩
                      obtain⟨c54,hc54⟩:∃ c1,c1=co30 - ((ji49):Int).toNat:=⟨_,rfl⟩
                      have hy54:bA0.length=((wrap64 ((ji49)+4)):Int).toNat - ((ji49):Int).toNat:=(by rw [cE1.out,List.length_drop,List.length_take]<;>omega)
                      rw [show((j6).take ((wrap64 ((ji49)+4)):Int).toNat).drop ((ji49):Int).toNat=bA0 from cE1.out.symm] at hr54
                      replace hr54:Kd.C Kd.bool _ A54 bA0.length bA0:=(by rw [hA54];exact hr54)
                      rw [←hy54,←hA54,←hc54] at hcut54
                      have cD4:=q5.mk hr54
                      have cX1:=q5.mk (show bA0.length≤c54 from by rw [hy54,hc54];exact Nat.sub_le_sub_right (Nat.le_trans (by omega) hroom54) _)
                      clear hr54 hC54 hroom54 cC7 hsz54 hc54
                      have KY54:=q5.mk hy54
                      have KA54:=q5.mk hA54
                      clear hy54 hA54
                      have KL54:=q5.mk (show((wrap64 ((ji49)+4)):Int).toNat≤j6.length from by omega)
                      have KM54:=q5.mk (show((ji49):Int).toNat≤((wrap64 ((ji49)+4)):Int).toNat from by omega)
                      replace q54:=eq_true q54
                      have hwr54:=fun z=>IntWalk.i64_left z
                      go_wp2_with (first|((with_reducible refine C1 (f:=25) rfl ?_);refine goL_ (some 94) Try.func25 #[.slice A54 bA0.length c54] ?_;(with_reducible refine(q24.calls kj36 _ _ bA0 bd5 _ ?side1 ?side2 A53.out).mono ?_);(case side1=>repeat(first|exact(by repeat(first|(with_reducible exact cD4.out)|(with_reducible refine Kd.C_alloc ?_ _)|(with_reducible refine Kd.C_drewN ?_ _)|(with_reducible refine Kd.C_drew ?_)|exact cD4.out))|(with_reducible refine Kd.C_alloc ?_ _)|(with_reducible refine Kd.C_drewN ?_ _)|(with_reducible refine Kd.C_drew ?_)));(case side2=>exact cX1.out);rintro e w' ⟨rfl,⟨nd,rfl⟩⟩;refine⟨_,rfl,?_⟩))
                      go_loopg [5,12] kj36 (fun kq v5 v12 w'=>∃ (x5_5:List Int) (x12_5:Int),v12=.int .i64 x12_5∧q5 (q6.l1 kq j6 x5_5 (wrap64 ((ji49)+4)) (wrap64 (bd5)) x12_5 a0_0 a0_1 a0_2 l0_3 a0_4=some (r1,r2))∧q5 (kq≤kj36)∧q5 (Kd.R Kd.bool 4 w' w.heap.size (fun _=>True) (.slice Ao30 j6.length co30) j6)∧q5 (Kd.R (Kd.int .i64) 3 w' w.heap.size (fun _=>True) v5 x5_5)∧q5 (w'.heap[ah9]?=some (.cells #[.int .i64 a0_0,.int .i64 a0_1,.int .i64 a0_2,(.slice A0_3 l0_3.length c0_3),.int .i64 a0_4] 69 (0,0)))∧q5 (Below w.heap.size w w'))
                      case atStart=>exact⟨(ai3),(0),sm_,H',⟨Nat.le_refl _⟩,⟨(ro_ HO_4)⟩,⟨(ro_ HO_5)⟩,⟨(bo_ J2)⟩,⟨bl_⟩⟩
                      case round =>
                       clear H'
                       try clear c1
                       try clear c11
                       try clear c18
                       try clear c18b0
                       try clear c19
                       try clear c19b0
                       try clear c19b1
                       try clear c20
                       try clear c20b0
                       try clear c20b1
                       try clear c23
                       try clear c23b0
                       try clear c23b1
                       try clear c24
                       try clear c24b0
                       try clear c24b1
                       try clear c29
                       try clear q29
                       try clear c35
                       try clear c36
                       try clear c47
                       try clear c48
                       try clear c48b0
                       try clear c50
                       try clear c50b0
                       try clear c50b1
                       try clear c51
                       try clear c51b0
                       try clear c51b1
                       try clear c52
                       try clear c52b0
                       try clear c52b1
                       try clear c54
                       try clear q54
                       try clear hcz13_0
                       try clear hcz13_1
                       try clear hcz13_2
                       try clear hcz13_3
                       try clear hcz13_4
                       try clear hcz28_0
                       try clear hcz28_1
                       try clear hcz28_2
                       try clear hcz28_3
                       try clear hcz28_4
                       try clear hfz13_0
                       try clear hfz13_1
                       try clear hfz13_2
                       try clear hfz13_3
                       try clear hfz13_4
                       try clear hfz28_0
                       try clear hfz28_1
                       try clear hfz28_2
                       try clear hfz28_3
                       try clear hfz28_4
                       try clear cy0
                       try clear cV4
                       try clear q29
                       try clear q54
                       obtain⟨x5_5,x12_5,rfl,HA,HK5,HO_4,HO_5,J2,HB⟩:=hrel
                       cases gk with
                       |zero=>exact absurd HA.out (by simp [q6.l1])
                       |succ k5 =>
                        have H:=HA.out
                        clear HA
                        simp only [q6.l1] at H
                        replace H:=dle H
                        rcases H with⟨c55b0,H⟩|⟨c55b0,H⟩
                        focus
                         obtain⟨bn6,bx3⟩:∃ y_:List Int,y_=(([0,0]:List Int)):=⟨_,rfl⟩
                         replace H:(if x5_5.length+bn6.length<17592186044416 then(q6.l1 k5 j6 (x5_5++bn6) (wrap64 ((ji49)+4)) (wrap64 (bd5)) (wrap64 (x12_5+1)) a0_0 a0_1 a0_2 l0_3 a0_4)else(none))=some (r1,r2):=by first|(rw [bx3];with_reducible exact H)|(have H2_:=(Option.bind_some _ _).symm.trans H;rw [bx3];with_reducible exact H2_)|(have H2_:=(Option.bind_some _ _).symm.trans H;with_reducible exact H2_)|with_reducible exact H|(rw [bx3];exact H)|exact H
                         have cB0:=q5.mk bx3
                         clear bx3
                         by_cases c56:x5_5.length+bn6.length<17592186044416
                         rotate_left
                         ·rw [if_neg c56] at H
                          exact absurd H (by simp)
                         rw [if_pos c56] at H
                         have LMc56:=q5.mk c56
                         clear c56
                         obtain⟨cX8,bu9⟩:∃ y_:List Int,y_=(x5_5++bn6):=⟨_,rfl⟩
                         replace H:(q6.l1 k5 j6 cX8 (wrap64 ((ji49)+4)) (wrap64 (bd5)) (wrap64 (x12_5+1)) a0_0 a0_1 a0_2 l0_3 a0_4)=some (r1,r2):=by first|(rw [bu9];with_reducible exact H)|(have H2_:=(Option.bind_some _ _).symm.trans H;rw [bu9];with_reducible exact H2_)|(have H2_:=(Option.bind_some _ _).symm.trans H;with_reducible exact H2_)|with_reducible exact H|(rw [bu9];exact H)|exact H
                         have cY4:=q5.mk bu9
                         clear bu9
                         have H':=q5.mk H
                         clear H
                        rotate_left
                        focus
                         have H':=q5.mk H
                         clear H
                        all_goals
                         go_wp2_with (first|((with_reducible refine X0 (N:=104) rfl ?_);(try(refine O2 (by rfl) ?_;dsimp only));refine Kd.R_lit (Kd.int .i64) _ 3 ?hg (N:=104) ?hd (xs:=([0,0]:List Int)) (inner:=[.int .i64 0,.int .i64 0]) (ok:=fun _=>True) (okp:=fun _=>True) ?hr ?hp (fun _ hk=>hk) trivial (Below.refl _ _) (Nat.le_refl _) (by simp) ?_;(case hd=>rfl);(case hg=>rfl);(case hr=>first|(go_simp;done)|(go_simp;rfl));(case hp=>exact(Reps.one (show Kd.M (Kd.int .i64) _ _ _ 0 [.int .i64 0] from rfl) (Reps.one (show Kd.M (Kd.int .i64) _ _ _ 0 [.int .i64 0] from rfl) (Reps.none _ _))));intro M4 U1 M0 hb hg_ hnew_;clear hg_ hnew_;(first|rw [←cB0.out] at M0|(simp only [Int.reduceToNat] at M0;rw [←cB0.out] at M0));have n_:=pk5 (Kd.R_below (ro_ HO_4) hb) (Kd.R_elder' (ro_ HO_5) (Kd.R_base M0) hb) (Kd.R_lower (Kd.R_new' M0 (Kd.R_lt (ro_ HO_5))) (L0 bl_)) (F0 (bo_ J2) hb) (E0 bl_ hb);clear HO_4 HO_5 J2 HB;obtain⟨HO_4,HO_5,C0,J2,HB⟩:=n_;clear hb M0;obtain⟨T0,R0,S1⟩:=Kd.R_slice C0.out;subst S1)|((with_reducible refine G1 (b:=.append) (xs:=#[.tmp 103,.tmp 104]) rfl ?_);(try(refine O2 (by rfl) ?_;dsimp only));at_builtin;refine Kd.R_append_rows (Kd.int .i64) (w0:=w) w.heap.size rfl (.tmp 103) (.tmp 104) 22 3 (.int .i64 0) 8 rfl Try.underlying22 ae7 rfl (by decide) (by omega) u5 x5_5 bn6 _ _ _ (fun k_=>some k_≠(.slice T0 bn6.length R0:Value).ownBlock) (fun _=>False) rfl rfl ?aO ?aR (fun _ _ h=>h) (fun _ h=>h.elim) ?aF ?aB ?aS ?aL ?_;(case aR=>exact cr_ C0);(case aB=>exact bl_);(case aF=>exact(fun k_ hk=>Kd.fresh' (Kd.R_lt (ro_ C0)) k_ hk));(case aO=>exact(rt_ (Kd.R_mono HO_5.out (fun _ hk=>hk.2))));(case aS=>exact(L0 bl_));(case aL=>have:=LMc56.out;omega);intro z5 Z1 ho hb hg hat;rw [←cY4.out] at ho;have n_:=pk5 (Kd.R_over' (ro_ HO_4) (Kd.R_typed (ro_ HO_5)) (by decide) hg) (D5 (bo_ J2) hg (Kd.R_ne HO_5.out J2.out (by decide))) (Kd.R_after (ok:=(fun _=>True)) (ro_ C0) hg hat) (hb) (ho);clear HO_4 J2 C0 HB HO_5;obtain⟨HO_4,J2,C0,HB,Q0⟩:=n_;clear ho hb hg hat))
                         go_roundg k5
                         case measure=>have:=HJ1.out;have:=HK2.out;have:=HJ25.out;have:=HJ36.out;have:=HK5.out;omega
                         first
                          |case rel=>exact⟨(cX8),(wrap64 (x12_5+1)),sm_,H',⟨by have:=HJ1.out;have:=HK2.out;have:=HJ25.out;have:=HJ36.out;have:=HK5.out;omega⟩,⟨(ro_ HO_4)⟩,⟨(rt_ (Kd.R_mono Q0.out (fun _ hk=>trivial)))⟩,⟨(bo_ J2)⟩,⟨bl_⟩⟩
                          |case rel=>exact⟨(x5_5),((wrap64 ((ji49)+4))),(by first|rfl|(simp;done)|(simp only [←hji49]<;>(first|rfl|simp))|(simp [*];done)),H',⟨by have:=HJ1.out;have:=HK2.out;have:=HJ25.out;have:=HJ36.out;have:=HK5.out;omega⟩,⟨(ro_ HO_4)⟩,⟨(ro_ HO_5)⟩,⟨(bo_ J2)⟩,⟨bl_⟩⟩
                     ·rw [if_neg c52] at H
                      exact absurd H (by simp)
                    ·rw [if_neg c51] at H
                     exact absurd H (by simp)
                   ·rw [if_neg c50] at H
                    exact absurd H (by simp)
                  simp only [Option.some.injEq,Prod.mk.injEq] at H
                  obtain⟨rfl,rfl⟩:=H
                 rotate_left
                 focus
                  have H':=q5.mk H
                  clear H
                 all_goals
                  go_wp2
                  first
                   |go_ret2
                    exact⟨_,by first|rfl|(simp [J3,L3]<;>rfl)|(simp only [←hji22];first|rfl|(simp [J3,L3]<;>rfl))|(simp [*,J3,L3]<;>rfl),nl_,bl_⟩
                   |go_roundg kj36
                    case measure=>have:=HJ1.out;have:=HK2.out;have:=HJ25.out;have:=HJ36.out;omega
                    case rel=>exact⟨(ai3),((wrap64 ((ji22)+aN8))),(by first|rfl|(simp;done)|(simp only [←hji22]<;>(first|rfl|simp))|(simp [*];done)),H',⟨by have:=HJ1.out;have:=HK2.out;have:=HJ25.out;have:=HJ36.out;omega⟩,⟨(ro_ HO_4)⟩,⟨(ro_ HO_5)⟩,⟨(bo_ J2)⟩,⟨bl_⟩⟩
              ·rw [if_neg c36] at H
               exact absurd H (by simp)
             simp only [Option.some.injEq,Prod.mk.injEq] at H
             obtain⟨rfl,rfl⟩:=H
             go_wp2
             go_ret2
             exact⟨_,by first|rfl|(simp [J3,L3]<;>rfl)|(simp only [←hji22];first|rfl|(simp [J3,L3]<;>rfl))|(simp [*,J3,L3]<;>rfl),nl_,bl_⟩
          ·rw [if_neg c24] at H
           exact absurd H (by simp)
         ·rw [if_neg c23] at H
          exact absurd H (by simp)
        ·rw [if_neg c20] at H
         exact absurd H (by simp)
       ·rw [if_neg c19] at H
        exact absurd H (by simp)
      replace H:=N2 H
      obtain⟨⟨aS1,dt6⟩,A61,H⟩:=H
      try dsimp only at H
      replace H:=Q7 H
      rcases H with⟨rfl,H⟩|⟨rfl,H⟩
      focus
       by_cases c63:(aS1.length:Int)=0
       focus
        rw [if_pos c63] at H
        have c63b0:((aS1.length:Int) == 0)=true:=beq_iff_eq.mpr c63
        have c63b1:((aS1.length:Int) != 0)=false:=bne_eq_false_iff_eq.mpr c63
        clear c63
        simp only [Option.some.injEq,Prod.mk.injEq] at H
        obtain⟨rfl,rfl⟩:=H
        obtain⟨Ao64,co64,eo64⟩:=Kd.R_slice HO_5.out
        subst eo64
        obtain⟨hcz65_0,hcz65_1,hcz65_2,hcz65_3,hcz65_4,hfz65_0,hfz65_1,hfz65_2,hfz65_3,hfz65_4⟩:=X4 J2.out
       rotate_left
       focus
        rw [if_neg c63] at H
        have c63b0:((aS1.length:Int) == 0)=false:=beq_eq_false_iff_ne.mpr c63
        have c63b1:((aS1.length:Int) != 0)=true:=bne_iff_ne.mpr c63
        have c63b2:¬(aS1=[]):=fun h_=>c63 (by rw [h_];rfl)
        replace H:=N2 H
        obtain⟨⟨ct8,cz8,cu7,cx1,cA1⟩,A69,H⟩:=H
        try dsimp only at H
        replace H:=N2 H
        obtain⟨cU1,A70,H⟩:=H
        try dsimp only at H
        replace H:=Q7 H
        rcases H with⟨rfl,H⟩|⟨rfl,H⟩
        focus
         simp only [Option.some.injEq,Prod.mk.injEq] at H
         obtain⟨rfl,rfl⟩:=H
         obtain⟨Ao72,co72,eo72⟩:=Kd.R_slice HO_5.out
         subst eo72
         obtain⟨hcz73_0,hcz73_1,hcz73_2,hcz73_3,hcz73_4,hfz73_0,hfz73_1,hfz73_2,hfz73_3,hfz73_4⟩:=X4 J2.out
        rotate_left
        focus
         simp only [Option.some.injEq,Prod.mk.injEq] at H
         obtain⟨rfl,rfl⟩:=H
         obtain⟨Ao80,co80,eo80⟩:=Kd.R_slice HO_5.out
         subst eo80
         obtain⟨hcz81_0,hcz81_1,hcz81_2,hcz81_3,hcz81_4,hfz81_0,hfz81_1,hfz81_2,hfz81_3,hfz81_4⟩:=X4 J2.out
      rotate_left 3
      focus
       simp only [Option.some.injEq,Prod.mk.injEq] at H
       obtain⟨rfl,rfl⟩:=H
       obtain⟨Ao88,co88,eo88⟩:=Kd.R_slice HO_5.out
       subst eo88
       obtain⟨hcz89_0,hcz89_1,hcz89_2,hcz89_3,hcz89_4,hfz89_0,hfz89_1,hfz89_2,hfz89_3,hfz89_4⟩:=X4 J2.out
      all_goals
       try go_wp2_with (first|((with_reducible refine C1 (f:=77) rfl ?_);refine goL_ (some 109) Try.func77 #[.agg #[.slice Ao88 x5_2.length co88,.slice none 0 0]] ?_;(refine(q7.calls k2 _ _ x5_2 _ _ ([]:List ByteArray) aS1 false _ ?side1 ?side2 ?side3 ?side4 A61.out).mono ?_);(case side1=>exact cr_ HO_5);(case side2=>exact(Kd.R_reads' HO_5.out).2.1);(case side3=>exact Kd.C_nil _ _);(case side4=>exact Nat.le_refl _);rintro e ap8 ⟨ba4,rfl,ho0,hb⟩;refine⟨_,rfl,?_⟩;have n_:=pk5 (Kd.R_below (ro_ HO_4) hb) (Kd.R_below (ro_ HO_5) hb) (Kd.R_lower ho0 (L0 bl_)) (F0 (bo_ J2) hb) (E0 bl_ hb);clear HO_4 HO_5 J2 HB;obtain⟨HO_4,HO_5,Q2,J2,HB⟩:=n_;(try clear hb ho0))|((with_reducible refine C1 (f:=77) rfl ?_);refine goL_ (some 109) Try.func77 #[.agg #[.slice Ao64 x5_2.length co64,.slice none 0 0]] ?_;(refine(q7.calls k2 _ _ x5_2 _ _ ([]:List ByteArray) aS1 true _ ?side1 ?side2 ?side3 ?side4 A61.out).mono ?_);(case side1=>exact cr_ HO_5);(case side2=>exact(Kd.R_reads' HO_5.out).2.1);(case side3=>exact Kd.C_nil _ _);(case side4=>exact Nat.le_refl _);rintro e ap8 ⟨ba4,rfl,ho0,hb⟩;refine⟨_,rfl,?_⟩;have n_:=pk5 (Kd.R_below (ro_ HO_4) hb) (Kd.R_below (ro_ HO_5) hb) (Kd.R_lower ho0 (L0 bl_)) (F0 (bo_ J2) hb) (E0 bl_ hb);clear HO_4 HO_5 J2 HB;obtain⟨HO_4,HO_5,Q2,J2,HB⟩:=n_;(try clear hb ho0))|((with_reducible refine C1 (f:=77) rfl ?_);refine goL_ (some 109) Try.func77 #[.agg #[.slice Ao72 x5_2.length co72,.slice none 0 0]] ?_;(refine(q7.calls k2 _ _ x5_2 _ _ ([]:List ByteArray) aS1 true _ ?side1 ?side2 ?side3 ?side4 A61.out).mono ?_);(case side1=>exact cr_ HO_5);(case side2=>exact(Kd.R_reads' HO_5.out).2.1);(case side3=>exact Kd.C_nil _ _);(case side4=>exact Nat.le_refl _);rintro e ap8 ⟨ba4,rfl,ho0,hb⟩;refine⟨_,rfl,?_⟩;have n_:=pk5 (Kd.R_below (ro_ HO_4) hb) (Kd.R_below (ro_ HO_5) hb) (Kd.R_lower ho0 (L0 bl_)) (F0 (bo_ J2) hb) (E0 bl_ hb);clear HO_4 HO_5 J2 HB;obtain⟨HO_4,HO_5,Q2,J2,HB⟩:=n_;(try clear hb ho0))|((with_reducible refine C1 (f:=77) rfl ?_);refine goL_ (some 109) Try.func77 #[.agg #[.slice Ao80 x5_2.length co80,.slice none 0 0]] ?_;(refine(q7.calls k2 _ _ x5_2 _ _ ([]:List ByteArray) aS1 true _ ?side1 ?side2 ?side3 ?side4 A61.out).mono ?_);(case side1=>exact cr_ HO_5);(case side2=>exact(Kd.R_reads' HO_5.out).2.1);(case side3=>exact Kd.C_nil _ _);(case side4=>exact Nat.le_refl _);rintro e ap8 ⟨ba4,rfl,ho0,hb⟩;refine⟨_,rfl,?_⟩;have n_:=pk5 (Kd.R_below (ro_ HO_4) hb) (Kd.R_below (ro_ HO_5) hb) (Kd.R_lower ho0 (L0 bl_)) (F0 (bo_ J2) hb) (E0 bl_ hb);clear HO_4 HO_5 J2 HB;obtain⟨HO_4,HO_5,Q2,J2,HB⟩:=n_;(try clear hb ho0)))
       have n_:=pk5 (Kd.R_drew HO_4.out) (Kd.R_drew HO_5.out) (Kd.R_drew Q2.out) (J0 J2.out) (N1 HB.out)
       clear HO_4 HO_5 Q2 J2 HB
       obtain⟨HO_4,HO_5,Q2,J2,HB⟩:=n_
       first
        |obtain⟨ac2,ac6,am7⟩:=Kd.R_slice Q2.out
         (first|subst am7|(injection am7 with f1_ f2_ f3_;have f7100_:=f1_.symm;have f7101_:=f3_.symm;clear f1_ f2_ f3_;subst f7100_;subst f7101_))
         first
          |refine b9 (n:=14) (S:=fun w'=>True) (ds:=[]) aO2 (by kernel_rfl) rfl rfl trivial (fun hHeld=>?_);refine b6 q6.tab24 q6.bits24 (fun HT_ HW_=>?_)
           generalize ap8.drew=av3 at HO_4 HO_5 Q2 J2 HB hHeld ⊢
           refine z1 (i:=0) (N:=some 112) (v:=?_) (a':=?_) aP1 rfl rfl (V0 HT_.out (by kernel_rfl)) (fun _ _ _ h=>h) (Or.inl ⟨by rfl,?_⟩) ?_ ?_
           rotate_left
           ·intro w'
            go_simp
            with_reducible rfl
           rotate_left
           ·simp only [ap_,sb_,s0_,s1_,N0,P0]
            rfl
           refine z1 (i:=1) (N:=some 113) (v:=?_) (a':=?_) aP2 rfl rfl (V0 HT_.out (by kernel_rfl)) (fun _ _ _ h=>h) (Or.inl ⟨by rfl,?_⟩) ?_ ?_
           rotate_left
           ·intro w'
            go_simp
            with_reducible rfl
           rotate_left
           ·simp only [ap_,sb_,s0_,s1_,N0,P0]
            rfl
           refine z1 (i:=2) (N:=some 114) (v:=?_) (a':=?_) aN3 rfl rfl (V0 HT_.out (by kernel_rfl)) (fun _ _ _ h=>h) (Or.inl ⟨by rfl,?_⟩) ?_ ?_
           rotate_left
           ·intro w'
            go_simp
            with_reducible rfl
           rotate_left
           ·simp only [ap_,sb_,s0_,s1_,N0,P0]
            rfl
           refine z1 (i:=3) (N:=some 115) (v:=?_) (a':=?_) aG5 rfl rfl (V0 HT_.out (by kernel_rfl)) (fun _ _ _ h=>h) (Or.inl ⟨by rfl,?_⟩) ?_ ?_
           rotate_left
           ·intro w'
            go_simp
            with_reducible rfl
           rotate_left
           ·simp only [ap_,sb_,s0_,s1_,N0,P0]
            rfl
           refine z1 (i:=4) (N:=some 116) (v:=?_) (a':=?_) aH0 rfl rfl (V0 HT_.out (by kernel_rfl)) (fun _ _ _ h=>h) (Or.inl ⟨by rfl,?_⟩) ?_ ?_
           rotate_left
           ·intro w'
            go_simp
            with_reducible rfl
           rotate_left
           ·simp only [ap_,sb_,s0_,s1_,N0,P0]
            rfl
           refine z1 (i:=5) (N:=some 117) (v:=?_) (a':=?_) aF3 rfl rfl (V0 HT_.out (by kernel_rfl)) (fun _ _ _ h=>h) (Or.inl ⟨by rfl,?_⟩) ?_ ?_
           rotate_left
           ·intro w'
            go_simp
            with_reducible rfl
           rotate_left
           ·simp only [ap_,sb_,s0_,s1_,N0,P0]
            rfl
           refine z1 (i:=6) (N:=some 118) (v:=?_) (a':=?_) aA4 rfl rfl (V0 HT_.out (by kernel_rfl)) (fun _ _ _ h=>h) (Or.inl ⟨by rfl,?_⟩) ?_ ?_
           rotate_left
           ·intro w'
            go_simp
            with_reducible rfl
           rotate_left
           ·simp only [ap_,sb_,s0_,s1_,N0,P0]
            rfl
           refine z1 (i:=7) (N:=some 119) (v:=?_) (a':=?_) aA0 rfl rfl (V0 HT_.out (by kernel_rfl)) (fun _ _ _ h=>h) (Or.inl ⟨by rfl,?_⟩) ?_ ?_
           rotate_left
           ·intro w'
            go_simp
            with_reducible rfl
           rotate_left
           ·simp only [ap_,sb_,s0_,s1_,N0,P0]
            rfl
           refine z1 (i:=8) (N:=some 120) (v:=undef) (a':=?_) ay5 rfl rfl (V0 HT_.out (by kernel_rfl)) (fun _ _ _ h=>h) (Or.inr ⟨by rfl,rfl⟩) ?_ ?_
           rotate_left
           ·simp only [ap_,sb_,s0_,s1_,N0,P0]
            rfl
           refine z1 (i:=9) (N:=some 121) (v:=undef) (a':=?_) aL7 rfl rfl (V0 HT_.out (by kernel_rfl)) (fun _ _ _ h=>h) (Or.inr ⟨by rfl,rfl⟩) ?_ ?_
           rotate_left
           ·simp only [ap_,sb_,s0_,s1_,N0,P0]
            rfl
           refine z1 (i:=10) (N:=some 122) (v:=undef) (a':=?_) ar3 rfl rfl (V0 HT_.out (by kernel_rfl)) (fun _ _ _ h=>h) (Or.inr ⟨by rfl,rfl⟩) ?_ ?_
           rotate_left
           ·simp only [ap_,sb_,s0_,s1_,N0,P0]
            rfl
           refine z1 (i:=11) (N:=some 123) (v:=undef) (a':=?_) at4 rfl rfl (V0 HT_.out (by kernel_rfl)) (fun _ _ _ h=>h) (Or.inr ⟨by rfl,rfl⟩) ?_ ?_
           rotate_left
           ·simp only [ap_,sb_,s0_,s1_,N0,P0]
            rfl
           refine z1 (i:=12) (N:=some 124) (v:=undef) (a':=?_) aj7 rfl rfl (V0 HT_.out (by kernel_rfl)) (fun _ _ _ h=>h) (Or.inr ⟨by rfl,rfl⟩) ?_ ?_
           rotate_left
           ·simp only [ap_,sb_,s0_,s1_,N0,P0]
            rfl
           refine z1 (i:=13) (N:=some 125) (v:=?_) (a':=?_) ag8 rfl rfl (V0 HT_.out (by kernel_rfl)) (fun _ _ _ h=>h) (Or.inl ⟨by rfl,?_⟩) ?_ ?_
           rotate_left
           ·intro w'
            go_simp
            with_reducible rfl
           rotate_left
           ·simp only [ap_,sb_,s0_,s1_,N0,P0]
            rfl
           refine ab2 (K7 HT_.out (by kernel_rfl)) ?_
           try go_wp2
           go_ret2
           exact⟨_,rf_,nl_,bl_⟩
          |refine b9 (n:=14) (S:=fun w'=>w'.cell? ⟨ah9,0,none⟩=some (.int .i64 a0_0)∧w'.cell? ⟨ah9,1,none⟩=some (.int .i64 a0_1)∧w'.cell? ⟨ah9,2,none⟩=some (.int .i64 a0_2)∧w'.cell? ⟨ah9,3,none⟩=some (.slice A0_3 l0_3.length c0_3)∧w'.cell? ⟨ah9,4,none⟩=some (.int .i64 a0_4)) (ds:=[]) aO2 (by kernel_rfl) rfl rfl ⟨(m0 J2.out 0).trans rfl,(m0 J2.out 1).trans rfl,(m0 J2.out 2).trans rfl,(m0 J2.out 3).trans rfl,(m0 J2.out 4).trans rfl⟩ (fun hHeld=>?_);refine b6 q6.tab24 q6.bits24 (fun HT_ HW_=>?_)
           generalize ap8.drew=av3 at HO_4 HO_5 Q2 J2 HB hHeld ⊢
           refine z1 (i:=0) (N:=some 112) (v:=?_) (a':=?_) aP1 rfl rfl (V0 HT_.out (by kernel_rfl)) (fun _ _ _ h=>h) (Or.inl ⟨by rfl,?_⟩) ?_ ?_
           rotate_left
           ·intro w'
            go_simp
            with_reducible rfl
           rotate_left
           ·simp only [ap_,sb_,s0_,s1_,N0,P0]
            rfl
           refine z1 (i:=1) (N:=some 113) (v:=?_) (a':=?_) aP2 rfl rfl (V0 HT_.out (by kernel_rfl)) (fun _ _ _ h=>h) (Or.inl ⟨by rfl,?_⟩) ?_ ?_
           rotate_left
           ·intro w'
            go_simp
            with_reducible rfl
           rotate_left
           ·simp only [ap_,sb_,s0_,s1_,N0,P0]
            rfl
           refine z1 (i:=2) (N:=some 114) (v:=?_) (a':=?_) aN3 rfl rfl (V0 HT_.out (by kernel_rfl)) (fun _ _ _ h=>h) (Or.inl ⟨by rfl,?_⟩) ?_ ?_
           rotate_left
           ·intro w'
            go_simp
            with_reducible rfl
           rotate_left
           ·simp only [ap_,sb_,s0_,s1_,N0,P0]
            rfl
           refine z1 (i:=3) (N:=some 115) (v:=?_) (a':=?_) aG5 rfl rfl (V0 HT_.out (by kernel_rfl)) (fun _ _ _ h=>h) (Or.inl ⟨by rfl,?_⟩) ?_ ?_
           rotate_left
           ·intro w'
            go_simp
            with_reducible rfl
           rotate_left
           ·simp only [ap_,sb_,s0_,s1_,N0,P0]
            rfl
           refine z1 (i:=4) (N:=some 116) (v:=?_) (a':=?_) aH0 rfl rfl (V0 HT_.out (by kernel_rfl)) (fun _ _ _ h=>h) (Or.inl ⟨by rfl,?_⟩) ?_ ?_
           rotate_left
           ·intro w'
            go_simp
            with_reducible rfl
           rotate_left
           ·simp only [ap_,sb_,s0_,s1_,N0,P0]
            rfl
           refine z1 (i:=5) (N:=some 117) (v:=?_) (a':=?_) aF3 rfl rfl (V0 HT_.out (by kernel_rfl)) (fun _ _ _ h=>h) (Or.inl ⟨by rfl,?_⟩) ?_ ?_
           rotate_left
           ·intro w'
            go_simp
            with_reducible rfl
           rotate_left
           ·simp only [ap_,sb_,s0_,s1_,N0,P0]
            rfl
           refine z1 (i:=6) (N:=some 118) (v:=?_) (a':=?_) aA4 rfl rfl (V0 HT_.out (by kernel_rfl)) (fun _ _ _ h=>h) (Or.inl ⟨by rfl,?_⟩) ?_ ?_
           rotate_left
           ·intro w'
            go_simp
            with_reducible rfl
           rotate_left
           ·simp only [ap_,sb_,s0_,s1_,N0,P0]
            rfl
           refine z1 (i:=7) (N:=some 119) (v:=?_) (a':=?_) aA0 rfl rfl (V0 HT_.out (by kernel_rfl)) (fun _ _ _ h=>h) (Or.inl ⟨by rfl,?_⟩) ?_ ?_
           rotate_left
           ·intro w'
            go_simp
            with_reducible rfl
           rotate_left
           ·simp only [ap_,sb_,s0_,s1_,N0,P0]
            rfl
           refine z1 (i:=8) (N:=some 120) (v:=?_) (a':=?_) ay5 rfl rfl (V0 HT_.out (by kernel_rfl)) (fun _ _ _ h=>h) (Or.inl ⟨by rfl,?_⟩) ?_ ?_
           rotate_left
           ·intro w'
            go_simp
            with_reducible rfl
           rotate_left
           ·simp only [ap_,sb_,s0_,s1_,N0,P0]
            rfl
           refine take_ (i:=10) (N:=some 122) (v:=?_) (a':=?_) bp2 rfl rfl (M2 HT_.out HW_.out (by kernel_rfl)) (fun _ _ _ h=>h) (Or.inl ⟨by rfl,?_⟩) hHeld ?_ ?_
           rotate_left
           ·rintro w' ⟨dr7,dp4,dr3,dp7,dq3⟩
            go_simp
            with_reducible rfl
           rotate_left
           ·simp only [ap_,sb_,s0_,s1_,N0,P0]
            rfl
           refine one_ (i:=9) (N:=some 121) ar3 rfl rfl (M6 HT_.out (by kernel_rfl)) (by decide) (fun K hK=>?_)
           refine ae6 Try.func41 (by kernel_rfl) rfl #[.slice ac2 aS1.length ac6] (by rfl) rfl rfl (by(try simp only [List.map_toArray,List.map_cons,List.map_nil]);first|done|rfl|(simp only [List.length_drop,List.length_take];rfl)) ?_
           with_reducible refine(q47.calls k2 _ _ aS1 ct8 cz8 cu7 cx1 cA1 _ ?side1 ?side2 A69.out).mono ?_
           (case side1=>exact cr_ Q2)
           (case side2=>exact(Kd.R_reads' Q2.out).2.1)
           rintro e bg6 ⟨bi9,rfl,ho0,hb⟩
           refine⟨_,rfl,?_⟩
           have n_:=pk6 (Kd.R_below (ro_ HO_4) hb) (Kd.R_below (ro_ HO_5) hb) (Kd.R_below (ro_ Q2) hb) (Kd.R_lower ho0 (L0 bl_)) (F0 (bo_ J2) hb) (E0 bl_ hb)
           clear HO_4 HO_5 Q2 J2 HB
           obtain⟨HO_4,HO_5,Q2,V5,J2,HB⟩:=n_
           (try clear hb)
           (try clear hb2)
           (try clear hk)
           (try clear hi)
           (try clear ho0)
           obtain⟨ai8,aj1,an0⟩:=Kd.R_slice V5.out
           (first|subst an0|(injection an0 with f1_ f2_ f3_;have f7100_:=f1_.symm;have f7101_:=f3_.symm;clear f1_ f2_ f3_;subst f7100_;subst f7101_))
           refine hK.out _ _ ⟨(m0 J2.out 0).trans rfl,(m0 J2.out 1).trans rfl,(m0 J2.out 2).trans rfl,(m0 J2.out 3).trans rfl,(m0 J2.out 4).trans rfl⟩ (fun hHeld=>?_)
           clear hK K
           refine o7 (a':=?_) ?_ ?_
           rotate_left
           ·show Act.put _ (some 121) _=_
            simp only [ap_,sb_,s0_,s1_,N0,P0]
            rfl
           refine one_ (i:=11) (N:=some 123) at4 rfl rfl (M6 HT_.out (by kernel_rfl)) (by decide) (fun K hK=>?_)
           refine ae6 Try.func39 (by kernel_rfl) rfl #[.agg #[.int .i64 ct8,.int .i64 cz8,.int .i64 cu7,.slice ai8 cx1.length aj1,.int .i64 cA1],.agg #[.int .i64 a0_0,.int .i64 a0_1,.int .i64 a0_2,.slice A0_3 l0_3.length c0_3,.int .i64 a0_4]] (by rfl) rfl rfl (by(try simp only [List.map_toArray,List.map_cons,List.map_nil]);first|done|rfl|(simp only [List.length_drop,List.length_take];rfl)) ?_
           first
            |with_reducible refine(q49.calls ct8 cz8 cu7 _ _ cx1 cA1 a0_0 a0_1 a0_2 _ _ l0_3 a0_4 true _ ?side1 ?side2 ?side3 ?side4 A70.out).mono ?_
             (case side1=>exact cr_ V5)
             (case side2=>exact(Kd.R_reads' V5.out).2.1)
             (case side3=>exact cb_ HR0_3)
             (case side4=>exact HC0_3.out)
             rintro e bT4 ⟨rfl,hb⟩
             refine⟨_,rfl,?_⟩
             have n_:=pk6 (Kd.R_below (ro_ HO_4) hb) (Kd.R_below (ro_ HO_5) hb) (Kd.R_below (ro_ Q2) hb) (Kd.R_below (ro_ V5) hb) (F0 (bo_ J2) hb) (E0 bl_ hb)
             clear HO_4 HO_5 Q2 V5 J2 HB
             obtain⟨HO_4,HO_5,Q2,V5,J2,HB⟩:=n_
             (try clear hb)
             (try clear hb2)
             (try clear hk)
             (try clear hi)
             refine hK.out _ _ ⟨(m0 J2.out 0).trans rfl,(m0 J2.out 1).trans rfl,(m0 J2.out 2).trans rfl,(m0 J2.out 3).trans rfl,(m0 J2.out 4).trans rfl⟩ (fun hHeld=>?_)
             clear hK K
             refine o7 (a':=?_) ?_ ?_
             rotate_left
             ·show Act.put _ (some 123) _=_
              simp only [ap_,sb_,s0_,s1_,N0,P0]
              rfl
             refine z1 (i:=12) (N:=some 124) (v:=?_) (a':=?_) aj7 rfl rfl (V0 HT_.out (by kernel_rfl)) (fun _ _ _ h=>h) (Or.inl ⟨by rfl,?_⟩) ?_ ?_
             rotate_left
             ·intro w'
              go_simp
              with_reducible rfl
             rotate_left
             ·simp only [ap_,sb_,s0_,s1_,N0,P0]
              rfl
             refine z1 (i:=13) (N:=some 125) (v:=?_) (a':=?_) ag8 rfl rfl (V0 HT_.out (by kernel_rfl)) (fun _ _ _ h=>h) (Or.inl ⟨by rfl,?_⟩) ?_ ?_
             rotate_left
             ·intro w'
              go_simp
              with_reducible rfl
             rotate_left
             ·simp only [ap_,sb_,s0_,s1_,N0,P0]
              rfl
             refine ab2 (K7 HT_.out (by kernel_rfl)) ?_
             try go_wp2
             go_ret2
             exact⟨_,rf_,(ro_ Q2),bl_⟩
            |with_reducible refine(q49.calls ct8 cz8 cu7 _ _ cx1 cA1 a0_0 a0_1 a0_2 _ _ l0_3 a0_4 false _ ?side1 ?side2 ?side3 ?side4 A70.out).mono ?_
             (case side1=>exact cr_ V5)
             (case side2=>exact(Kd.R_reads' V5.out).2.1)
             (case side3=>exact cb_ HR0_3)
             (case side4=>exact HC0_3.out)
             rintro e bT4 ⟨rfl,hb⟩
             refine⟨_,rfl,?_⟩
             have n_:=pk6 (Kd.R_below (ro_ HO_4) hb) (Kd.R_below (ro_ HO_5) hb) (Kd.R_below (ro_ Q2) hb) (Kd.R_below (ro_ V5) hb) (F0 (bo_ J2) hb) (E0 bl_ hb)
             clear HO_4 HO_5 Q2 V5 J2 HB
             obtain⟨HO_4,HO_5,Q2,V5,J2,HB⟩:=n_
             (try clear hb)
             (try clear hb2)
             (try clear hk)
             (try clear hi)
             refine hK.out _ _ ⟨(m0 J2.out 0).trans rfl,(m0 J2.out 1).trans rfl,(m0 J2.out 2).trans rfl,(m0 J2.out 3).trans rfl,(m0 J2.out 4).trans rfl⟩ (fun hHeld=>?_)
             clear hK K
             refine o7 (a':=?_) ?_ ?_
             rotate_left
             ·show Act.put _ (some 123) _=_
              simp only [ap_,sb_,s0_,s1_,N0,P0]
              rfl
             refine z1 (i:=12) (N:=some 124) (v:=?_) (a':=?_) aj7 rfl rfl (V0 HT_.out (by kernel_rfl)) (fun _ _ _ h=>h) (Or.inl ⟨by rfl,?_⟩) ?_ ?_
             rotate_left
             ·intro w'
              go_simp
              with_reducible rfl
             rotate_left
             ·simp only [ap_,sb_,s0_,s1_,N0,P0]
              rfl
             refine z1 (i:=13) (N:=some 125) (v:=?_) (a':=?_) ag8 rfl rfl (V0 HT_.out (by kernel_rfl)) (fun _ _ _ h=>h) (Or.inl ⟨by rfl,?_⟩) ?_ ?_
             rotate_left
             ·intro w'
              go_simp
              with_reducible rfl
             rotate_left
             ·simp only [ap_,sb_,s0_,s1_,N0,P0]
              rfl
             refine ab2 (K7 HT_.out (by kernel_rfl)) ?_
             try go_wp2
             go_ret2
             exact⟨_,rf_,nl_,bl_⟩
        |refine b9 (n:=14) (S:=fun w'=>True) (ds:=[]) aO2 (by kernel_rfl) rfl rfl trivial (fun hHeld=>?_);refine b6 q6.tab24 q6.bits24 (fun HT_ HW_=>?_)
         generalize ap8.drew=av3 at HO_4 HO_5 Q2 J2 HB hHeld ⊢
         refine z1 (i:=0) (N:=some 112) (v:=?_) (a':=?_) aP1 rfl rfl (V0 HT_.out (by kernel_rfl)) (fun _ _ _ h=>h) (Or.inl ⟨by rfl,?_⟩) ?_ ?_
         rotate_left
         ·intro w'
          go_simp
          with_reducible rfl
         rotate_left
         ·simp only [ap_,sb_,s0_,s1_,N0,P0]
          rfl
         refine z1 (i:=1) (N:=some 113) (v:=?_) (a':=?_) aP2 rfl rfl (V0 HT_.out (by kernel_rfl)) (fun _ _ _ h=>h) (Or.inl ⟨by rfl,?_⟩) ?_ ?_
         rotate_left
         ·intro w'
          go_simp
          with_reducible rfl
         rotate_left
         ·simp only [ap_,sb_,s0_,s1_,N0,P0]
          rfl
         refine z1 (i:=2) (N:=some 114) (v:=?_) (a':=?_) aN3 rfl rfl (V0 HT_.out (by kernel_rfl)) (fun _ _ _ h=>h) (Or.inl ⟨by rfl,?_⟩) ?_ ?_
         rotate_left
         ·intro w'
          go_simp
          with_reducible rfl
         rotate_left
         ·simp only [ap_,sb_,s0_,s1_,N0,P0]
          rfl
         refine z1 (i:=3) (N:=some 115) (v:=undef) (a':=?_) aG5 rfl rfl (V0 HT_.out (by kernel_rfl)) (fun _ _ _ h=>h) (Or.inr ⟨by rfl,rfl⟩) ?_ ?_
         rotate_left
         ·simp only [ap_,sb_,s0_,s1_,N0,P0]
          rfl
         refine z1 (i:=4) (N:=some 116) (v:=undef) (a':=?_) aH0 rfl rfl (V0 HT_.out (by kernel_rfl)) (fun _ _ _ h=>h) (Or.inr ⟨by rfl,rfl⟩) ?_ ?_
         rotate_left
         ·simp only [ap_,sb_,s0_,s1_,N0,P0]
          rfl
         refine z1 (i:=5) (N:=some 117) (v:=undef) (a':=?_) aF3 rfl rfl (V0 HT_.out (by kernel_rfl)) (fun _ _ _ h=>h) (Or.inr ⟨by rfl,rfl⟩) ?_ ?_
         rotate_left
         ·simp only [ap_,sb_,s0_,s1_,N0,P0]
          rfl
         refine z1 (i:=6) (N:=some 118) (v:=?_) (a':=?_) aA4 rfl rfl (V0 HT_.out (by kernel_rfl)) (fun _ _ _ h=>h) (Or.inl ⟨by rfl,?_⟩) ?_ ?_
         rotate_left
         ·intro w'
          go_simp
          with_reducible rfl
         rotate_left
         ·simp only [ap_,sb_,s0_,s1_,N0,P0]
          rfl
         refine z1 (i:=7) (N:=some 119) (v:=?_) (a':=?_) aA0 rfl rfl (V0 HT_.out (by kernel_rfl)) (fun _ _ _ h=>h) (Or.inl ⟨by rfl,?_⟩) ?_ ?_
         rotate_left
         ·intro w'
          go_simp
          with_reducible rfl
         rotate_left
         ·simp only [ap_,sb_,s0_,s1_,N0,P0]
          rfl
         refine z1 (i:=8) (N:=some 120) (v:=undef) (a':=?_) ay5 rfl rfl (V0 HT_.out (by kernel_rfl)) (fun _ _ _ h=>h) (Or.inr ⟨by rfl,rfl⟩) ?_ ?_
         rotate_left
         ·simp only [ap_,sb_,s0_,s1_,N0,P0]
          rfl
         refine z1 (i:=9) (N:=some 121) (v:=undef) (a':=?_) aL7 rfl rfl (V0 HT_.out (by kernel_rfl)) (fun _ _ _ h=>h) (Or.inr ⟨by rfl,rfl⟩) ?_ ?_
         rotate_left
         ·simp only [ap_,sb_,s0_,s1_,N0,P0]
          rfl
         refine z1 (i:=10) (N:=some 122) (v:=undef) (a':=?_) ar3 rfl rfl (V0 HT_.out (by kernel_rfl)) (fun _ _ _ h=>h) (Or.inr ⟨by rfl,rfl⟩) ?_ ?_
         rotate_left
         ·simp only [ap_,sb_,s0_,s1_,N0,P0]
          rfl
         refine z1 (i:=11) (N:=some 123) (v:=undef) (a':=?_) at4 rfl rfl (V0 HT_.out (by kernel_rfl)) (fun _ _ _ h=>h) (Or.inr ⟨by rfl,rfl⟩) ?_ ?_
         rotate_left
         ·simp only [ap_,sb_,s0_,s1_,N0,P0]
          rfl
         refine z1 (i:=12) (N:=some 124) (v:=undef) (a':=?_) aj7 rfl rfl (V0 HT_.out (by kernel_rfl)) (fun _ _ _ h=>h) (Or.inr ⟨by rfl,rfl⟩) ?_ ?_
         rotate_left
         ·simp only [ap_,sb_,s0_,s1_,N0,P0]
          rfl
         refine z1 (i:=13) (N:=some 125) (v:=?_) (a':=?_) ag8 rfl rfl (V0 HT_.out (by kernel_rfl)) (fun _ _ _ h=>h) (Or.inl ⟨by rfl,?_⟩) ?_ ?_
         rotate_left
         ·intro w'
          go_simp
          with_reducible rfl
         rotate_left
         ·simp only [ap_,sb_,s0_,s1_,N0,P0]
          rfl
         refine ab2 (K7 HT_.out (by kernel_rfl)) ?_
         try go_wp2
         go_ret2
         exact⟨_,rf_,nl_,bl_⟩
   simp only [Option.some.injEq,Prod.mk.injEq] at H
   obtain⟨rfl,rfl⟩:=H
   go_wp2
   go_ret2
   exact⟨_,rf_,nl_,bl_⟩
end Go.Proofs.Ytmddmbagehjdeaa.G
end
section
namespace Go.Proofs.Ytmddmbagehjdeaa.G
open Go.RowKit Go.Proofs.YtmddmbagehjdeaaX Go.Proofs.YtmddmbagehjdeaaW.PrintWords Go.Proofs.YtmddmbagehjdeaaW.PrintLast Go.Proofs.YtmddmbagehjdeaaW.PrintMore
attribute [local go_sem] S3 R3 R4 S4 P3 N3 D4 Y3
def q56.f (k:Nat) (a0_0:Int) (a0_1:Int) (a0_2:Int) (l0_3:List Int) (a0_4:Int):Option (List Int×List ByteArray×Int):=(q62.f k a0_0 a0_1 a0_2 l0_3 a0_4).bind fun bM5=>(if bM5=0 then(some ((([a0_0,a0_1,a0_2,a0_4]:List Int)),(([strOfNums l0_3]:List ByteArray)),0))else(some (([]:List Int),([]:List ByteArray),bM5)))
theorem q56.calls (k:Nat) (a0_0:Int) (a0_1:Int) (a0_2:Int) (A0_3:Option Addr) (c0_3:Nat) (l0_3:List Int) (a0_4:Int) (r1:List Int) (r2:List ByteArray) (r3:Int) (w:World) (hr0_3:Kd.C (Kd.int .u8) w A0_3 l0_3.length l0_3) (hc0_3:l0_3.length≤c0_3) (h:q56.f k a0_0 a0_1 a0_2 l0_3 a0_4=some (r1,r2,r3)) :
  Calls Try.prog 50 #[.agg #[.int .i64 a0_0,.int .i64 a0_1,.int .i64 a0_2,.slice A0_3 l0_3.length c0_3,.int .i64 a0_4]] w fun e w'=>∃ v0_ v1_:Value,e=.returned (.tuple #[.agg #[v0_,v1_],.int .i64 r3])∧Kd.R (Kd.int .i64) 3 w' w.heap.size (fun _=>True) v0_ r1∧Kd.R Kd.string 9 w' w.heap.size (fun _=>True) v1_ r2∧Below w.heap.size w w':=by
 have hu69:=Try.underlying69
 have hu98:=Try.underlying98
 have HR0_3:=q5.mk hr0_3
 have HC0_3:=q5.mk hc0_3
 clear hr0_3 hc0_3
 have HB:=q5.mk (Below.refl w.heap.size w)
 have H:((q62.f k a0_0 a0_1 a0_2 l0_3 a0_4).bind fun bM5=>(if bM5=0 then(some ((([a0_0,a0_1,a0_2,a0_4]:List Int)),(([strOfNums l0_3]:List ByteArray)),0))else(some (([]:List Int),([]:List ByteArray),bM5))))=some (r1,r2,r3):=h
 clear h
 replace H:=N2 H
 obtain⟨bM5,A2,H⟩:=H
 try dsimp only at H
 replace H:=deqn H
 rcases H with⟨c3b0,c3b1,H⟩|⟨c3b0,c3b1,c3,H⟩
 focus
  obtain⟨bY6,bs3⟩:∃ y_:List Int,y_=(([a0_0,a0_1,a0_2,a0_4]:List Int)):=⟨_,rfl⟩
  replace H:(some (bY6,(([strOfNums l0_3]:List ByteArray)),0))=some (r1,r2,r3):=by first|(rw [bs3];with_reducible exact H)|(have H2_:=(Option.bind_some _ _).symm.trans H;rw [bs3];with_reducible exact H2_)|(have H2_:=(Option.bind_some _ _).symm.trans H;with_reducible exact H2_)|with_reducible exact H|(rw [bs3];exact H)|exact H
  have cD5:=q5.mk bs3
  clear bs3
  obtain⟨cz1,by4⟩:∃ y_:List ByteArray,y_=(([strOfNums l0_3]:List ByteArray)):=⟨_,rfl⟩
  replace H:(some (bY6,cz1,0))=some (r1,r2,r3):=by first|(rw [by4];with_reducible exact H)|(have H2_:=(Option.bind_some _ _).symm.trans H;rw [by4];with_reducible exact H2_)|(have H2_:=(Option.bind_some _ _).symm.trans H;with_reducible exact H2_)|with_reducible exact H|(rw [by4];exact H)|exact H
  have cE6:=q5.mk by4
  clear by4
  simp only [Option.some.injEq,Prod.mk.injEq] at H
  obtain⟨rfl,rfl,rfl⟩:=H
 rotate_left
 focus
  simp only [Option.some.injEq,Prod.mk.injEq] at H
  obtain⟨rfl,rfl,rfl⟩:=H
 all_goals
  go_enter Try.func50,Try.ntmps50
  go_wp2_with (first|((with_reducible refine X0 (N:=1) rfl ?_);refine L2 1 #[.int .i64 a0_0,.int .i64 a0_1,.int .i64 a0_2,.slice A0_3 l0_3.length c0_3,.int .i64 a0_4] 69 ?_;intro B0 hg U1 hbox hb;have n_:=pk4 (E0 bl_ hb) (hbox) ((ge_ hg bl_:w.heap.size≤B0)) ((ge_ hg bl_:w.heap.size≤B0));clear HB;obtain⟨HB,o0,C2,F5⟩:=n_;clear hb hbox hg)|((with_reducible refine X0 (N:=2) rfl ?_);refine L2 2 #[.slice none 0 0,.slice none 0 0] 98 ?_;intro S0 hg Z1 hbox hb;have n_:=pk7 (F0 (bo_ o0) hb) (E0 bl_ hb) (hbox) ((ge_ hg bl_:w.heap.size≤S0)) ((ge_ hg bl_:w.heap.size≤S0)) ((nb_ hg (bo_ o0):B0≠S0)) ((nc_ hg (bo_ o0):S0≠B0));clear o0 HB;obtain⟨o0,HB,O0,V9,W9,Q1,F1⟩:=n_;clear hb hbox hg;have V6:=Q1.out;have Z6:=F1.out;have Y2:Z1.cell? ⟨B0,0,none⟩=some (.int .i64 a0_0):=(m0 o0.out 0).trans rfl;have z3:Z1.cell? ⟨B0,1,none⟩=some (.int .i64 a0_1):=(m0 o0.out 1).trans rfl;have V8:Z1.cell? ⟨B0,2,none⟩=some (.int .i64 a0_2):=(m0 o0.out 2).trans rfl;have P9:Z1.cell? ⟨B0,3,none⟩=some (.slice A0_3 l0_3.length c0_3):=(m0 o0.out 3).trans rfl;have O9:Z1.cell? ⟨B0,4,none⟩=some (.int .i64 a0_4):=(m0 o0.out 4).trans rfl;have D3:=t0 o0.out 0;have Z2:=t0 o0.out 1;have l9:=t0 o0.out 2;have S9:=t0 o0.out 3;have R9:=t0 o0.out 4)|((with_reducible refine C1 (f:=43) rfl ?_);refine goL_ (some 6) Try.func43 #[.agg #[.int .i64 a0_0,.int .i64 a0_1,.int .i64 a0_2,.slice A0_3 l0_3.length c0_3,.int .i64 a0_4]] ?_;(with_reducible refine(q62.calls k a0_0 a0_1 a0_2 _ _ l0_3 a0_4 bM5 _ ?side1 ?side2 A2.out).mono ?_);(case side1=>exact cb_ HR0_3);(case side2=>exact HC0_3.out);rintro e F2 ⟨rfl,hb⟩;refine⟨_,rfl,?_⟩;have n_:=pk3 (F0 (bo_ o0) hb) (F0 (bo_ O0) hb) (E0 bl_ hb);clear o0 O0 HB;obtain⟨o0,O0,HB⟩:=n_;(try clear hb);(try(have z4:F2.cell? ⟨B0,0,none⟩=some (.int .i64 a0_0):=(m0 o0.out 0).trans rfl;have C4:F2.cell? ⟨B0,1,none⟩=some (.int .i64 a0_1):=(m0 o0.out 1).trans rfl;have E8:F2.cell? ⟨B0,2,none⟩=some (.int .i64 a0_2):=(m0 o0.out 2).trans rfl;have s8:F2.cell? ⟨B0,3,none⟩=some (.slice A0_3 l0_3.length c0_3):=(m0 o0.out 3).trans rfl;have r8:F2.cell? ⟨B0,4,none⟩=some (.int .i64 a0_4):=(m0 o0.out 4).trans rfl;have j4:=t0 o0.out 0;have Z3:=t0 o0.out 1;have v8:=t0 o0.out 2;have z8:=t0 o0.out 3;have t8:=t0 o0.out 4));(try(have z4:F2.cell? ⟨S0,0,none⟩=some (.slice none 0 0):=(m0 O0.out 0).trans rfl;have C4:F2.cell? ⟨S0,1,none⟩=some (.slice none 0 0):=(m0 O0.out 1).trans rfl;have j4:=t0 O0.out 0;have Z3:=t0 O0.out 1)))|((with_reducible refine X0 (N:=20) rfl ?_);refine Kd.R_lit (Kd.int .i64) _ 3 ?hg (N:=20) ?hd (xs:=([a0_0,a0_1,a0_2,a0_4]:List Int)) (inner:=[.int .i64 a0_0,.int .i64 a0_1,.int .i64 a0_2,.int .i64 a0_4]) (ok:=fun _=>True) (okp:=fun _=>True) ?hr ?hp (fun _ hk=>hk) trivial (Below.refl _ _) (Nat.le_refl _) (by simp) ?_;(case hd=>rfl);(case hg=>rfl);(case hr=>first|(go_simp;done)|(go_simp;rfl));(case hp=>exact(Reps.one (show Kd.M (Kd.int .i64) _ _ _ a0_0 [.int .i64 a0_0] from rfl) (Reps.one (show Kd.M (Kd.int .i64) _ _ _ a0_1 [.int .i64 a0_1] from rfl) (Reps.one (show Kd.M (Kd.int .i64) _ _ _ a0_2 [.int .i64 a0_2] from rfl) (Reps.one (show Kd.M (Kd.int .i64) _ _ _ a0_4 [.int .i64 a0_4] from rfl) (Reps.none _ _))))));intro M4 X2 M0 hb hg_ hnew_;clear hg_ hnew_;(first|rw [←cD5.out] at M0|(simp only [Int.reduceToNat] at M0;rw [←cD5.out] at M0));have n_:=pk4 (Kd.R_lower M0 (L0 bl_)) (F0 (bo_ o0) hb) (F0 (bo_ O0) hb) (E0 bl_ hb);clear o0 O0 HB;obtain⟨C0,o0,O0,HB⟩:=n_;clear hb M0;have W8:X2.cell? ⟨B0,0,none⟩=some (.int .i64 a0_0):=(m0 o0.out 0).trans rfl;have j9:X2.cell? ⟨B0,1,none⟩=some (.int .i64 a0_1):=(m0 o0.out 1).trans rfl;have ca3:X2.cell? ⟨B0,2,none⟩=some (.int .i64 a0_2):=(m0 o0.out 2).trans rfl;have bZ4:X2.cell? ⟨B0,3,none⟩=some (.slice A0_3 l0_3.length c0_3):=(m0 o0.out 3).trans rfl;have cd3:X2.cell? ⟨B0,4,none⟩=some (.int .i64 a0_4):=(m0 o0.out 4).trans rfl;have d9:=t0 o0.out 0;have Y8:=t0 o0.out 1;have cf1:=t0 o0.out 2;have ce7:=t0 o0.out 3;have cc1:=t0 o0.out 4;have bX3:=Kd.C_string (P:=Try.prog) (A:=A0_3) (c:=c0_3) Try.underlying23 Try.underlying5 Try.underlying9 (Kd.C_below HR0_3.out HB.out))|((with_reducible refine X0 (N:=25) rfl ?_);refine Kd.R_lit Kd.string _ 9 ?hg (N:=25) ?hd (xs:=([strOfNums l0_3]:List ByteArray)) (inner:=[.string (strOfNums l0_3)]) (ok:=fun _=>True) (okp:=fun _=>True) ?hr ?hp (fun _ hk=>hk) trivial (Below.refl _ _) (Nat.le_refl _) (by simp) ?_;(case hd=>rfl);(case hg=>rfl);(case hr=>first|(go_simp;done)|(go_simp;rfl));(case hp=>exact(Reps.one (show Kd.M Kd.string _ _ _ (strOfNums l0_3) [.string (strOfNums l0_3)] from rfl) (Reps.none _ _)));intro z5 G4 X6 hb hg_ hnew_;clear hg_ hnew_;(first|rw [←cE6.out] at X6|(simp only [Int.reduceToNat] at X6;rw [←cE6.out] at X6));have n_:=pk5 (Kd.R_below (ro_ C0) hb) (Kd.R_lower X6 (L0 bl_)) (F0 (bo_ o0) hb) (F0 (bo_ O0) hb) (E0 bl_ hb);clear C0 o0 O0 HB;obtain⟨C0,Q0,o0,O0,HB⟩:=n_;clear hb X6;obtain⟨T0,R0,S1⟩:=Kd.R_slice Q0.out;subst S1;obtain⟨X1,V1,U2⟩:=Kd.R_slice C0.out;subst U2;have ad9:G4.cell? ⟨S0,0,none⟩=some (.slice none 0 0):=(m0 O0.out 0).trans rfl;have ac9:G4.cell? ⟨S0,1,none⟩=some (.slice none 0 0):=(m0 O0.out 1).trans rfl;have ad5:=t0 O0.out 0;have ad3:=t0 O0.out 1))
  first
   |refine bodyPost_ret (N5 rfl _ _ S0 98 #[.slice X1 bY6.length V1,.slice T0 cz1.length R0] (0,0) _ rfl (by(with_reducible repeat(first|refine G0 ?_ _|refine J0 ?_|refine I0 ?_ _));refine D1 (cs:=#[.slice X1 bY6.length V1,.slice none 0 0]) ?_ 1 _ rfl;(with_reducible repeat(first|refine G0 ?_ _|refine J0 ?_|refine I0 ?_ _));refine D1 (cs:=#[.slice none 0 0,.slice none 0 0]) ?_ 0 _ rfl;exact(bo_ O0)) Try.underlying98 rfl (by kernel_rfl)) rfl ?_
    exact⟨_,_,rf_,(rt_ (Kd.R_mono (Kd.R_far (p:=⟨S0,1,none⟩) (Kd.R_far (p:=⟨S0,0,none⟩) (Kd.R_types C0.out O0.out (by decide)) (fun _ hk=>hk.2) (.slice X1 bY6.length V1)) (fun _ hk=>hk.2) (.slice T0 cz1.length R0)) (fun _ hk=>trivial))),(rt_ (Kd.R_mono (Kd.R_far (p:=⟨S0,1,none⟩) (Kd.R_far (p:=⟨S0,0,none⟩) (Kd.R_types Q0.out O0.out (by decide)) (fun _ hk=>hk.2) (.slice X1 bY6.length V1)) (fun _ hk=>hk.2) (.slice T0 cz1.length R0)) (fun _ hk=>trivial))),bl_⟩
   |refine bodyPost_ret (N5 rfl _ _ S0 98 #[.slice none 0 0,.slice none 0 0] (0,0) _ rfl (by(with_reducible repeat(first|refine G0 ?_ _|refine J0 ?_|refine I0 ?_ _));refine D1 (cs:=#[.slice none 0 0,.slice none 0 0]) ?_ 1 _ rfl;(with_reducible repeat(first|refine G0 ?_ _|refine J0 ?_|refine I0 ?_ _));refine D1 (cs:=#[.slice none 0 0,.slice none 0 0]) ?_ 0 _ rfl;exact(bo_ O0)) Try.underlying98 rfl (by kernel_rfl)) rfl ?_
    exact⟨_,_,rf_,nl_,nl_,bl_⟩
def q42.l0:Nat→List Int→List Int→Int→Int→Option (Bool)
 |0,_,_,_,_=>none
 |k+1,x0,x1,x12,x13=>if x13<x12 then(if 0≤x13 then(if x13<(x0.length:Int)then(if x13<(x1.length:Int)then(if(rd x0 x13)=(rd x1 x13)then(q42.l0 k x0 x1 x12 (wrap64 (x13+1)))else(some false))else(none))else(none))else(none))else(some true)
def q42.f (k:Nat) (l0:List Int) (l1:List Int):Option (Bool):=if(l0.length:Int)=(l1.length:Int)then(q42.l0 k l0 l1 (l0.length:Int) 0)else(some false)
theorem q42.calls (k:Nat) (A0:Option Addr) (c0:Nat) (l0:List Int) (A1:Option Addr) (c1:Nat) (l1:List Int) (r:Bool) (w:World) (hr0:Kd.C (Kd.int .i64) w A0 l0.length l0) (hc0:l0.length≤c0) (hr1:Kd.C (Kd.int .i64) w A1 l1.length l1) (hc1:l1.length≤c1) (h:q42.f k l0 l1=some r) :
  Calls Try.prog 88 #[.slice A0 l0.length c0,.slice A1 l1.length c1] w fun e w'=>e=.returned (.bool r)∧L1 w w':=by
 have HR0:=q5.mk hr0
 have HC0:=q5.mk hc0
 clear hr0 hc0
 have HR1:=q5.mk hr1
 have HC1:=q5.mk hc1
 clear hr1 hc1
 have H:(if(l0.length:Int)=(l1.length:Int)then(q42.l0 k l0 l1 (l0.length:Int) 0)else(some false))=some r:=h
 clear h
 by_cases c3:(l0.length:Int)=(l1.length:Int)
 ·rw [if_pos c3] at H
  have c3b0:((l0.length:Int) == (l1.length:Int))=true:=beq_iff_eq.mpr c3
  have c3b1:((l0.length:Int) != (l1.length:Int))=false:=bne_eq_false_iff_eq.mpr c3
  have c3b2:(l0.length == l1.length)=true:=by first|simpa using c3|(simp at c3 ⊢;omega)
  clear c3
  have H':=q5.mk H
  clear H
  go_enter Try.func88,Try.ntmps88
  go_wp2
  repeat(go_quiet (fail);try go_wp2)
  go_loopg [13] k (fun kq v13 w'=>∃ (x13_1:Int),v13=.int .i64 x13_1∧q5 (q42.l0 kq l0 l1 (l0.length:Int) x13_1=some r)∧q5 (kq≤k)∧L1 w w')
  case atStart=>exact⟨(0),sm_,H',⟨Nat.le_refl _⟩,by repeat(first|exact L1.refl _|apply L1.step)⟩
  case round =>
   clear H'
   try clear c3
   try clear c3b0
   try clear c3b1
   try clear c3b2
   obtain⟨x13_1,rfl,HA,HK1,⟨m1,rfl⟩⟩:=hrel
   cases gk with
   |zero=>exact absurd HA.out (by simp [q42.l0])
   |succ k1 =>
    have H:=HA.out
    clear HA
    simp only [q42.l0] at H
    replace H:=dle H
    rcases H with⟨c4b0,H⟩|⟨c4b0,H⟩
    focus
     replace H:=dle H
     rcases H with⟨c5b0,H⟩|⟨c5b0,H⟩
     rotate_left
     ·exact absurd H (by simp)
     replace H:=dle H
     rcases H with⟨c6b0,H⟩|⟨c6b0,H⟩
     rotate_left
     ·exact absurd H (by simp)
     replace H:=dle H
     rcases H with⟨c7b0,H⟩|⟨c7b0,H⟩
     rotate_left
     ·exact absurd H (by simp)
     replace H:=deqn H
     rcases H with⟨c8b0,c8b1,H⟩|⟨c8b0,c8b1,c8,H⟩
     focus
      have H':=q5.mk H
      clear H
      have bM3:0≤(x13_1:Int):=dc_
      have bJ0:x13_1<(l0.length:Int):=dc_
      obtain⟨de7,cO5,cz9⟩:=Kd.at_int HR0.out x13_1 bM3 bJ0
      cases cO5
      replace bM3:=eq_true bM3
      replace bJ0:=eq_true bJ0
      have bR1:0≤(x13_1:Int):=dc_
      have bP4:x13_1<(l1.length:Int):=dc_
      obtain⟨cY1,cL2,cx6⟩:=Kd.at_int HR1.out x13_1 bR1 bP4
      cases cL2
      replace bR1:=eq_true bR1
      replace bP4:=eq_true bP4
     rotate_left
     focus
      obtain rfl:=Option.some.inj H
      have bM3:0≤(x13_1:Int):=dc_
      have bJ0:x13_1<(l0.length:Int):=dc_
      obtain⟨de7,cO5,cz9⟩:=Kd.at_int HR0.out x13_1 bM3 bJ0
      cases cO5
      replace bM3:=eq_true bM3
      replace bJ0:=eq_true bJ0
      have bR1:0≤(x13_1:Int):=dc_
      have bP4:x13_1<(l1.length:Int):=dc_
      obtain⟨cY1,cL2,cx6⟩:=Kd.at_int HR1.out x13_1 bR1 bP4
      cases cL2
      replace bR1:=eq_true bR1
      replace bP4:=eq_true bP4
    rotate_left 2
    focus
     obtain rfl:=Option.some.inj H
    all_goals
     go_wp2
     repeat(go_quiet (fail);try go_wp2)
     first
      |go_roundg k1
       case measure=>have:=HK1.out;omega
       case rel=>exact⟨(wrap64 (x13_1+1)),sm_,H',⟨by have:=HK1.out;omega⟩,by repeat(first|exact L1.refl _|apply L1.step)⟩
      |go_ret
       exact⟨by first|rfl|(simp;done)|(simp [*];done),by repeat(first|exact L1.refl _|apply L1.step)⟩
 rw [if_neg c3] at H
 have c3b0:((l0.length:Int) == (l1.length:Int))=false:=beq_eq_false_iff_ne.mpr c3
 have c3b1:((l0.length:Int) != (l1.length:Int))=true:=bne_iff_ne.mpr c3
 have c3b2:(l0.length == l1.length)=false:=by first|simpa using c3|(simp at c3 ⊢;omega)
 obtain rfl:=Option.some.inj H
 go_enter Try.func88,Try.ntmps88
 go_wp2
 repeat(go_quiet (fail);try go_wp2)
 go_ret
 exact⟨by first|rfl|(simp;done)|(simp [*];done),by repeat(first|exact L1.refl _|apply L1.step)⟩
def q33.l0:Nat→List ByteArray→List ByteArray→Int→Int→Option (Bool)
 |0,_,_,_,_=>none
 |k+1,x0,x1,x12,x13=>if x13<x12 then(if 0≤x13 then(if x13<(x0.length:Int)then(if x13<(x1.length:Int)then(if(rdOf ByteArray.empty x0 x13).toList=(rdOf ByteArray.empty x1 x13).toList then(q33.l0 k x0 x1 x12 (wrap64 (x13+1)))else(some false))else(none))else(none))else(none))else(some true)
def q33.f (k:Nat) (l0:List ByteArray) (l1:List ByteArray):Option (Bool):=if(l0.length:Int)=(l1.length:Int)then(q33.l0 k l0 l1 (l0.length:Int) 0)else(some false)
theorem q33.calls (k:Nat) (A0:Option Addr) (c0:Nat) (l0:List ByteArray) (A1:Option Addr) (c1:Nat) (l1:List ByteArray) (r:Bool) (w:World) (hr0:Kd.C Kd.string w A0 l0.length l0) (hc0:l0.length≤c0) (hr1:Kd.C Kd.string w A1 l1.length l1) (hc1:l1.length≤c1) (h:q33.f k l0 l1=some r) :
  Calls Try.prog 89 #[.slice A0 l0.length c0,.slice A1 l1.length c1] w fun e w'=>e=.returned (.bool r)∧L1 w w':=by
 have HR0:=q5.mk hr0
 have HC0:=q5.mk hc0
 clear hr0 hc0
 have HR1:=q5.mk hr1
 have HC1:=q5.mk hc1
 clear hr1 hc1
 have H:(if(l0.length:Int)=(l1.length:Int)then(q33.l0 k l0 l1 (l0.length:Int) 0)else(some false))=some r:=h
 clear h
 by_cases c3:(l0.length:Int)=(l1.length:Int)
 ·rw [if_pos c3] at H
  have c3b0:((l0.length:Int) == (l1.length:Int))=true:=beq_iff_eq.mpr c3
  have c3b1:((l0.length:Int) != (l1.length:Int))=false:=bne_eq_false_iff_eq.mpr c3
  have c3b2:(l0.length == l1.length)=true:=by first|simpa using c3|(simp at c3 ⊢;omega)
  clear c3
  have H':=q5.mk H
  clear H
  go_enter Try.func89,Try.ntmps89
  go_wp2
  repeat(go_quiet (fail);try go_wp2)
  go_loopg [13] k (fun kq v13 w'=>∃ (x13_1:Int),v13=.int .i64 x13_1∧q5 (q33.l0 kq l0 l1 (l0.length:Int) x13_1=some r)∧q5 (kq≤k)∧L1 w w')
  case atStart=>exact⟨(0),sm_,H',⟨Nat.le_refl _⟩,by repeat(first|exact L1.refl _|apply L1.step)⟩
  case round =>
   clear H'
   try clear c3
   try clear c3b0
   try clear c3b1
   try clear c3b2
   obtain⟨x13_1,rfl,HA,HK1,⟨m1,rfl⟩⟩:=hrel
   cases gk with
   |zero=>exact absurd HA.out (by simp [q33.l0])
   |succ k1 =>
    have H:=HA.out
    clear HA
    simp only [q33.l0] at H
    replace H:=dle H
    rcases H with⟨c4b0,H⟩|⟨c4b0,H⟩
    focus
     replace H:=dle H
     rcases H with⟨c5b0,H⟩|⟨c5b0,H⟩
     rotate_left
     ·exact absurd H (by simp)
     replace H:=dle H
     rcases H with⟨c6b0,H⟩|⟨c6b0,H⟩
     rotate_left
     ·exact absurd H (by simp)
     replace H:=dle H
     rcases H with⟨c7b0,H⟩|⟨c7b0,H⟩
     rotate_left
     ·exact absurd H (by simp)
     replace H:=deqn H
     rcases H with⟨c8b0,c8b1,H⟩|⟨c8b0,c8b1,c8,H⟩
     focus
      have H':=q5.mk H
      clear H
      have bJ5:0≤(x13_1:Int):=dc_
      have bO4:x13_1<(l0.length:Int):=dc_
      obtain⟨cW5,cK1,ct7⟩:=Kd.at_string HR0.out x13_1 bJ5 bO4
      cases cK1
      replace bJ5:=eq_true bJ5
      replace bO4:=eq_true bO4
      have bK1:0≤(x13_1:Int):=dc_
      have bQ1:x13_1<(l1.length:Int):=dc_
      obtain⟨cY7,cN8,cz3⟩:=Kd.at_string HR1.out x13_1 bK1 bQ1
      cases cN8
      replace bK1:=eq_true bK1
      replace bQ1:=eq_true bQ1
     rotate_left
     focus
      obtain rfl:=Option.some.inj H
      have bJ5:0≤(x13_1:Int):=dc_
      have bO4:x13_1<(l0.length:Int):=dc_
      obtain⟨cW5,cK1,ct7⟩:=Kd.at_string HR0.out x13_1 bJ5 bO4
      cases cK1
      replace bJ5:=eq_true bJ5
      replace bO4:=eq_true bO4
      have bK1:0≤(x13_1:Int):=dc_
      have bQ1:x13_1<(l1.length:Int):=dc_
      obtain⟨cY7,cN8,cz3⟩:=Kd.at_string HR1.out x13_1 bK1 bQ1
      cases cN8
      replace bK1:=eq_true bK1
      replace bQ1:=eq_true bQ1
    rotate_left 2
    focus
     obtain rfl:=Option.some.inj H
    all_goals
     go_wp2
     repeat(go_quiet (fail);try go_wp2)
     first
      |go_roundg k1
       case measure=>have:=HK1.out;omega
       case rel=>exact⟨(wrap64 (x13_1+1)),sm_,H',⟨by have:=HK1.out;omega⟩,by repeat(first|exact L1.refl _|apply L1.step)⟩
      |go_ret
       exact⟨by first|rfl|(simp;done)|(simp [*];done),by repeat(first|exact L1.refl _|apply L1.step)⟩
 rw [if_neg c3] at H
 have c3b0:((l0.length:Int) == (l1.length:Int))=false:=beq_eq_false_iff_ne.mpr c3
 have c3b1:((l0.length:Int) != (l1.length:Int))=true:=bne_iff_ne.mpr c3
 have c3b2:(l0.length == l1.length)=false:=by first|simpa using c3|(simp at c3 ⊢;omega)
 obtain rfl:=Option.some.inj H
 go_enter Try.func89,Try.ntmps89
 go_wp2
 repeat(go_quiet (fail);try go_wp2)
 go_ret
 exact⟨by first|rfl|(simp;done)|(simp [*];done),by repeat(first|exact L1.refl _|apply L1.step)⟩
def q73.f (k:Nat) (l0_0:List Int) (l0_1:List ByteArray) (l1_0:List Int) (l1_1:List ByteArray):Option (Bool):=(q42.f k l0_0 l1_0).bind fun cz6=>(if cz6=true then((q33.f k l0_1 l1_1).bind fun ck2=>(some ck2))else(some false))
theorem q73.calls (k:Nat) (A0_0:Option Addr) (c0_0:Nat) (l0_0:List Int) (A0_1:Option Addr) (c0_1:Nat) (l0_1:List ByteArray) (A1_0:Option Addr) (c1_0:Nat) (l1_0:List Int) (A1_1:Option Addr) (c1_1:Nat) (l1_1:List ByteArray) (r:Bool) (w:World) (hr0_0:Kd.C (Kd.int .i64) w A0_0 l0_0.length l0_0) (hc0_0:l0_0.length≤c0_0) (hr0_1:Kd.C Kd.string w A0_1 l0_1.length l0_1) (hc0_1:l0_1.length≤c0_1) (hr1_0:Kd.C (Kd.int .i64) w A1_0 l1_0.length l1_0) (hc1_0:l1_0.length≤c1_0) (hr1_1:Kd.C Kd.string w A1_1 l1_1.length l1_1) (hc1_1:l1_1.length≤c1_1) (h:q73.f k l0_0 l0_1 l1_0 l1_1=some r) :
  Calls Try.prog 78 #[.agg #[.slice A0_0 l0_0.length c0_0,.slice A0_1 l0_1.length c0_1],.agg #[.slice A1_0 l1_0.length c1_0,.slice A1_1 l1_1.length c1_1]] w fun e w'=>e=.returned (.bool r)∧Below w.heap.size w w':=by
 have hu98:=Try.underlying98
 have HR0_0:=q5.mk hr0_0
 have HC0_0:=q5.mk hc0_0
 clear hr0_0 hc0_0
 have HR0_1:=q5.mk hr0_1
 have HC0_1:=q5.mk hc0_1
 clear hr0_1 hc0_1
 have HR1_0:=q5.mk hr1_0
 have HC1_0:=q5.mk hc1_0
 clear hr1_0 hc1_0
 have HR1_1:=q5.mk hr1_1
 have HC1_1:=q5.mk hc1_1
 clear hr1_1 hc1_1
 have HB:=q5.mk (Below.refl w.heap.size w)
 have H:((q42.f k l0_0 l1_0).bind fun cz6=>(if cz6=true then((q33.f k l0_1 l1_1).bind fun ck2=>(some ck2))else(some false)))=some r:=h
 clear h
 replace H:=N2 H
 obtain⟨cz6,A3,H⟩:=H
 try dsimp only at H
 replace H:=Q7 H
 rcases H with⟨rfl,H⟩|⟨rfl,H⟩
 focus
  replace H:=N2 H
  obtain⟨ck2,A5,H⟩:=H
  try dsimp only at H
  obtain rfl:=Option.some.inj H
 rotate_left
 focus
  obtain rfl:=Option.some.inj H
 all_goals
  go_enter Try.func78,Try.ntmps78
  go_wp2_with (first|((with_reducible refine X0 (N:=2) rfl ?_);refine L2 2 #[.slice A0_0 l0_0.length c0_0,.slice A0_1 l0_1.length c0_1] 98 ?_;intro B0 hg U1 hbox hb;have n_:=pk4 (E0 bl_ hb) (hbox) ((ge_ hg bl_:w.heap.size≤B0)) ((ge_ hg bl_:w.heap.size≤B0));clear HB;obtain⟨HB,o0,C2,F5⟩:=n_;clear hb hbox hg)|((with_reducible refine X0 (N:=3) rfl ?_);refine L2 3 #[.slice A1_0 l1_0.length c1_0,.slice A1_1 l1_1.length c1_1] 98 ?_;intro S0 hg Z1 hbox hb;have n_:=pk7 (F0 (bo_ o0) hb) (E0 bl_ hb) (hbox) ((ge_ hg bl_:w.heap.size≤S0)) ((ge_ hg bl_:w.heap.size≤S0)) ((nb_ hg (bo_ o0):B0≠S0)) ((nc_ hg (bo_ o0):S0≠B0));clear o0 HB;obtain⟨o0,HB,O0,V9,W9,Q1,F1⟩:=n_;clear hb hbox hg;have V6:=Q1.out;have Z6:=F1.out;have Y2:Z1.cell? ⟨B0,0,none⟩=some (.slice A0_0 l0_0.length c0_0):=(m0 o0.out 0).trans rfl;have z3:Z1.cell? ⟨B0,1,none⟩=some (.slice A0_1 l0_1.length c0_1):=(m0 o0.out 1).trans rfl;have D3:=t0 o0.out 0;have Z2:=t0 o0.out 1;have z4:Z1.cell? ⟨S0,0,none⟩=some (.slice A1_0 l1_0.length c1_0):=(m0 O0.out 0).trans rfl;have C4:Z1.cell? ⟨S0,1,none⟩=some (.slice A1_1 l1_1.length c1_1):=(m0 O0.out 1).trans rfl;have j4:=t0 O0.out 0;have Z3:=t0 O0.out 1)|((with_reducible refine C1 (f:=88) rfl ?_);refine goL_ (some 9) Try.func88 #[.slice A0_0 l0_0.length c0_0,.slice A1_0 l1_0.length c1_0] ?_;(with_reducible refine(q42.calls k _ _ l0_0 _ _ l1_0 false _ ?side1 ?side2 ?side3 ?side4 A3.out).mono ?_);(case side1=>exact cb_ HR0_0);(case side2=>exact HC0_0.out);(case side3=>exact cb_ HR1_0);(case side4=>exact HC1_0.out);rintro e w' ⟨rfl,⟨nd,rfl⟩⟩;refine⟨_,rfl,?_⟩)|((with_reducible refine C1 (f:=88) rfl ?_);refine goL_ (some 9) Try.func88 #[.slice A0_0 l0_0.length c0_0,.slice A1_0 l1_0.length c1_0] ?_;(with_reducible refine(q42.calls k _ _ l0_0 _ _ l1_0 true _ ?side1 ?side2 ?side3 ?side4 A3.out).mono ?_);(case side1=>exact cb_ HR0_0);(case side2=>exact HC0_0.out);(case side3=>exact cb_ HR1_0);(case side4=>exact HC1_0.out);rintro e w' ⟨rfl,⟨nd,rfl⟩⟩;refine⟨_,rfl,?_⟩)|(go_at_call 89;(with_reducible refine(q33.calls k _ _ l0_1 _ _ l1_1 ck2 _ ?side1 ?side2 ?side3 ?side4 A5.out).mono ?_);(case side1=>repeat(first|exact(Kd.C_below HR0_1.out bl_)|(with_reducible refine Kd.C_alloc ?_ _)|(with_reducible refine Kd.C_drewN ?_ _)|(with_reducible refine Kd.C_drew ?_)));(case side2=>exact HC0_1.out);(case side3=>repeat(first|exact(Kd.C_below HR1_1.out bl_)|(with_reducible refine Kd.C_alloc ?_ _)|(with_reducible refine Kd.C_drewN ?_ _)|(with_reducible refine Kd.C_drew ?_)));(case side4=>exact HC1_1.out);rintro e w' ⟨rfl,⟨nd,rfl⟩⟩))
  go_ret
  exact⟨rf_,bl_⟩
end Go.Proofs.Ytmddmbagehjdeaa.G
end
section
namespace Go.Proofs.Ytmddmbagehjdeaa.G
open Go.RowKit Go.Proofs.YtmddmbagehjdeaaX Go.Proofs.YtmddmbagehjdeaaW.PrintWords Go.Proofs.YtmddmbagehjdeaaW.PrintLast Go.Proofs.YtmddmbagehjdeaaW.PrintMore
attribute [local go_sem] S3 R3 R4 S4 P3 N3 D4 Y3
def q43.l0:Nat→List ByteArray→List ByteArray→Int→Option (Bool)
 |0,_,_,_=>none
 |k+1,x0,x1,x5=>if x5<(x0.length:Int)then(if 0≤x5 then(if x5<(x1.length:Int)then(if(rdOf ByteArray.empty x0 x5).toList=(rdOf ByteArray.empty x1 x5).toList then(q43.l0 k x0 x1 (wrap64 (x5+1)))else(some false))else(none))else(none))else(some true)
def q43.f (k:Nat) (l0:List ByteArray) (l1:List ByteArray):Option (Bool):=if(l0.length:Int)=(l1.length:Int)then(q43.l0 k l0 l1 0)else(some false)
theorem q43.calls (k:Nat) (A0:Option Addr) (c0:Nat) (l0:List ByteArray) (A1:Option Addr) (c1:Nat) (l1:List ByteArray) (r:Bool) (w:World) (hr0:Kd.C Kd.string w A0 l0.length l0) (hc0:l0.length≤c0) (hr1:Kd.C Kd.string w A1 l1.length l1) (hc1:l1.length≤c1) (h:q43.f k l0 l1=some r) :
  Calls Try.prog 80 #[.slice A0 l0.length c0,.slice A1 l1.length c1] w fun e w'=>e=.returned (.bool r)∧L1 w w':=by
 have HR0:=q5.mk hr0
 have HC0:=q5.mk hc0
 clear hr0 hc0
 have HR1:=q5.mk hr1
 have HC1:=q5.mk hc1
 clear hr1 hc1
 have H:(if(l0.length:Int)=(l1.length:Int)then(q43.l0 k l0 l1 0)else(some false))=some r:=h
 clear h
 by_cases c3:(l0.length:Int)=(l1.length:Int)
 ·rw [if_pos c3] at H
  have c3b0:((l0.length:Int) == (l1.length:Int))=true:=beq_iff_eq.mpr c3
  have c3b1:((l0.length:Int) != (l1.length:Int))=false:=bne_eq_false_iff_eq.mpr c3
  have c3b2:(l0.length == l1.length)=true:=by first|simpa using c3|(simp at c3 ⊢;omega)
  clear c3
  have H':=q5.mk H
  clear H
  go_enter Try.func80,Try.ntmps80
  go_wp2
  repeat(go_quiet (fail);try go_wp2)
  go_loopg [5] k (fun kq v5 w'=>∃ (x5_1:Int),v5=.int .i64 x5_1∧q5 (q43.l0 kq l0 l1 x5_1=some r)∧q5 (kq≤k)∧L1 w w')
  case atStart=>exact⟨(0),sm_,H',⟨Nat.le_refl _⟩,by repeat(first|exact L1.refl _|apply L1.step)⟩
  case round =>
   clear H'
   try clear c3
   try clear c3b0
   try clear c3b1
   try clear c3b2
   obtain⟨x5_1,rfl,HA,HK1,⟨m1,rfl⟩⟩:=hrel
   cases gk with
   |zero=>exact absurd HA.out (by simp [q43.l0])
   |succ k1 =>
    have H:=HA.out
    clear HA
    simp only [q43.l0] at H
    replace H:=dle H
    rcases H with⟨c4b0,H⟩|⟨c4b0,H⟩
    focus
     replace H:=dle H
     rcases H with⟨c5b0,H⟩|⟨c5b0,H⟩
     rotate_left
     ·exact absurd H (by simp)
     replace H:=dle H
     rcases H with⟨c6b0,H⟩|⟨c6b0,H⟩
     rotate_left
     ·exact absurd H (by simp)
     replace H:=deqn H
     rcases H with⟨c7b0,c7b1,H⟩|⟨c7b0,c7b1,c7,H⟩
     focus
      have H':=q5.mk H
      clear H
      have bH7:0≤(x5_1:Int):=dc_
      have bP1:x5_1<(l0.length:Int):=dc_
      obtain⟨db4,cI4,cz2⟩:=Kd.at_string HR0.out x5_1 bH7 bP1
      cases cI4
      replace bH7:=eq_true bH7
      replace bP1:=eq_true bP1
      have bO5:0≤(x5_1:Int):=dc_
      have bR4:x5_1<(l1.length:Int):=dc_
      obtain⟨cT3,cL9,cz5⟩:=Kd.at_string HR1.out x5_1 bO5 bR4
      cases cL9
      replace bO5:=eq_true bO5
      replace bR4:=eq_true bR4
     rotate_left
     focus
      obtain rfl:=Option.some.inj H
      have bH7:0≤(x5_1:Int):=dc_
      have bP1:x5_1<(l0.length:Int):=dc_
      obtain⟨db4,cI4,cz2⟩:=Kd.at_string HR0.out x5_1 bH7 bP1
      cases cI4
      replace bH7:=eq_true bH7
      replace bP1:=eq_true bP1
      have bO5:0≤(x5_1:Int):=dc_
      have bR4:x5_1<(l1.length:Int):=dc_
      obtain⟨cT3,cL9,cz5⟩:=Kd.at_string HR1.out x5_1 bO5 bR4
      cases cL9
      replace bO5:=eq_true bO5
      replace bR4:=eq_true bR4
    rotate_left 2
    focus
     obtain rfl:=Option.some.inj H
    all_goals
     go_wp2
     repeat(go_quiet (fail);try go_wp2)
     first
      |go_roundg k1
       case measure=>have:=HK1.out;omega
       case rel=>exact⟨(wrap64 (x5_1+1)),sm_,H',⟨by have:=HK1.out;omega⟩,by repeat(first|exact L1.refl _|apply L1.step)⟩
      |go_ret
       exact⟨by first|rfl|(simp;done)|(simp [*];done),by repeat(first|exact L1.refl _|apply L1.step)⟩
 rw [if_neg c3] at H
 have c3b0:((l0.length:Int) == (l1.length:Int))=false:=beq_eq_false_iff_ne.mpr c3
 have c3b1:((l0.length:Int) != (l1.length:Int))=true:=bne_iff_ne.mpr c3
 have c3b2:(l0.length == l1.length)=false:=by first|simpa using c3|(simp at c3 ⊢;omega)
 obtain rfl:=Option.some.inj H
 go_enter Try.func80,Try.ntmps80
 go_wp2
 repeat(go_quiet (fail);try go_wp2)
 go_ret
 exact⟨by first|rfl|(simp;done)|(simp [*];done),by repeat(first|exact L1.refl _|apply L1.step)⟩
def q50.f (k:Nat) (l0_0:List Int) (l0_1:List ByteArray) (l1_0:List Int) (l1_1:List ByteArray):Option (Bool):=(q40.f k l0_0 l1_0).bind fun cw7=>(if cw7=true then((q43.f k l0_1 l1_1).bind fun ci8=>(some ci8))else(some false))
theorem q50.calls (k:Nat) (A0_0:Option Addr) (c0_0:Nat) (l0_0:List Int) (A0_1:Option Addr) (c0_1:Nat) (l0_1:List ByteArray) (A1_0:Option Addr) (c1_0:Nat) (l1_0:List Int) (A1_1:Option Addr) (c1_1:Nat) (l1_1:List ByteArray) (r:Bool) (w:World) (hr0_0:Kd.C (Kd.int .i64) w A0_0 l0_0.length l0_0) (hc0_0:l0_0.length≤c0_0) (hr0_1:Kd.C Kd.string w A0_1 l0_1.length l0_1) (hc0_1:l0_1.length≤c0_1) (hr1_0:Kd.C (Kd.int .i64) w A1_0 l1_0.length l1_0) (hc1_0:l1_0.length≤c1_0) (hr1_1:Kd.C Kd.string w A1_1 l1_1.length l1_1) (hc1_1:l1_1.length≤c1_1) (h:q50.f k l0_0 l0_1 l1_0 l1_1=some r) :
  Calls Try.prog 53 #[.agg #[.slice A0_0 l0_0.length c0_0,.slice A0_1 l0_1.length c0_1],.agg #[.slice A1_0 l1_0.length c1_0,.slice A1_1 l1_1.length c1_1]] w fun e w'=>e=.returned (.bool r)∧Below w.heap.size w w':=by
 have hu98:=Try.underlying98
 have HR0_0:=q5.mk hr0_0
 have HC0_0:=q5.mk hc0_0
 clear hr0_0 hc0_0
 have HR0_1:=q5.mk hr0_1
 have HC0_1:=q5.mk hc0_1
 clear hr0_1 hc0_1
 have HR1_0:=q5.mk hr1_0
 have HC1_0:=q5.mk hc1_0
 clear hr1_0 hc1_0
 have HR1_1:=q5.mk hr1_1
 have HC1_1:=q5.mk hc1_1
 clear hr1_1 hc1_1
 have HB:=q5.mk (Below.refl w.heap.size w)
 have H:((q40.f k l0_0 l1_0).bind fun cw7=>(if cw7=true then((q43.f k l0_1 l1_1).bind fun ci8=>(some ci8))else(some false)))=some r:=h
 clear h
 replace H:=N2 H
 obtain⟨cw7,A3,H⟩:=H
 try dsimp only at H
 replace H:=Q7 H
 rcases H with⟨rfl,H⟩|⟨rfl,H⟩
 focus
  replace H:=N2 H
  obtain⟨ci8,A5,H⟩:=H
  try dsimp only at H
  obtain rfl:=Option.some.inj H
 rotate_left
 focus
  obtain rfl:=Option.some.inj H
 all_goals
  go_enter Try.func53,Try.ntmps53
  go_wp2_with (first|((with_reducible refine X0 (N:=2) rfl ?_);refine L2 2 #[.slice A0_0 l0_0.length c0_0,.slice A0_1 l0_1.length c0_1] 98 ?_;intro B0 hg U1 hbox hb;have n_:=pk4 (E0 bl_ hb) (hbox) ((ge_ hg bl_:w.heap.size≤B0)) ((ge_ hg bl_:w.heap.size≤B0));clear HB;obtain⟨HB,o0,C2,F5⟩:=n_;clear hb hbox hg)|((with_reducible refine X0 (N:=3) rfl ?_);refine L2 3 #[.slice A1_0 l1_0.length c1_0,.slice A1_1 l1_1.length c1_1] 98 ?_;intro S0 hg Z1 hbox hb;have n_:=pk7 (F0 (bo_ o0) hb) (E0 bl_ hb) (hbox) ((ge_ hg bl_:w.heap.size≤S0)) ((ge_ hg bl_:w.heap.size≤S0)) ((nb_ hg (bo_ o0):B0≠S0)) ((nc_ hg (bo_ o0):S0≠B0));clear o0 HB;obtain⟨o0,HB,O0,V9,W9,Q1,F1⟩:=n_;clear hb hbox hg;have V6:=Q1.out;have Z6:=F1.out;have Y2:Z1.cell? ⟨B0,0,none⟩=some (.slice A0_0 l0_0.length c0_0):=(m0 o0.out 0).trans rfl;have z3:Z1.cell? ⟨B0,1,none⟩=some (.slice A0_1 l0_1.length c0_1):=(m0 o0.out 1).trans rfl;have D3:=t0 o0.out 0;have Z2:=t0 o0.out 1;have z4:Z1.cell? ⟨S0,0,none⟩=some (.slice A1_0 l1_0.length c1_0):=(m0 O0.out 0).trans rfl;have C4:Z1.cell? ⟨S0,1,none⟩=some (.slice A1_1 l1_1.length c1_1):=(m0 O0.out 1).trans rfl;have j4:=t0 O0.out 0;have Z3:=t0 O0.out 1)|((with_reducible refine C1 (f:=79) rfl ?_);refine goL_ (some 9) Try.func79 #[.slice A0_0 l0_0.length c0_0,.slice A1_0 l1_0.length c1_0] ?_;(with_reducible refine(q40.calls k _ _ l0_0 _ _ l1_0 false _ ?side1 ?side2 ?side3 ?side4 A3.out).mono ?_);(case side1=>exact cb_ HR0_0);(case side2=>exact HC0_0.out);(case side3=>exact cb_ HR1_0);(case side4=>exact HC1_0.out);rintro e w' ⟨rfl,⟨nd,rfl⟩⟩;refine⟨_,rfl,?_⟩)|((with_reducible refine C1 (f:=79) rfl ?_);refine goL_ (some 9) Try.func79 #[.slice A0_0 l0_0.length c0_0,.slice A1_0 l1_0.length c1_0] ?_;(with_reducible refine(q40.calls k _ _ l0_0 _ _ l1_0 true _ ?side1 ?side2 ?side3 ?side4 A3.out).mono ?_);(case side1=>exact cb_ HR0_0);(case side2=>exact HC0_0.out);(case side3=>exact cb_ HR1_0);(case side4=>exact HC1_0.out);rintro e w' ⟨rfl,⟨nd,rfl⟩⟩;refine⟨_,rfl,?_⟩)|(go_at_call 80;(with_reducible refine(q43.calls k _ _ l0_1 _ _ l1_1 ci8 _ ?side1 ?side2 ?side3 ?side4 A5.out).mono ?_);(case side1=>repeat(first|exact(Kd.C_below HR0_1.out bl_)|(with_reducible refine Kd.C_alloc ?_ _)|(with_reducible refine Kd.C_drewN ?_ _)|(with_reducible refine Kd.C_drew ?_)));(case side2=>exact HC0_1.out);(case side3=>repeat(first|exact(Kd.C_below HR1_1.out bl_)|(with_reducible refine Kd.C_alloc ?_ _)|(with_reducible refine Kd.C_drewN ?_ _)|(with_reducible refine Kd.C_drew ?_)));(case side4=>exact HC1_1.out);rintro e w' ⟨rfl,⟨nd,rfl⟩⟩))
  go_ret
  exact⟨rf_,bl_⟩
def q55.f (a0_0:Int) (a0_1:Int) (a0_2:Int) (l0_3:List Int) (a0_4:Int):Option (List Int×List ByteArray):=some ((([a0_0,a0_1,a0_2,a0_4]:List Int)),(([strOfNums l0_3]:List ByteArray)))
theorem q55.calls (a0_0:Int) (a0_1:Int) (a0_2:Int) (A0_3:Option Addr) (c0_3:Nat) (l0_3:List Int) (a0_4:Int) (r1:List Int) (r2:List ByteArray) (w:World) (hr0_3:Kd.C (Kd.int .u8) w A0_3 l0_3.length l0_3) (hc0_3:l0_3.length≤c0_3) (h:q55.f a0_0 a0_1 a0_2 l0_3 a0_4=some (r1,r2)) :
  Calls Try.prog 54 #[.agg #[.int .i64 a0_0,.int .i64 a0_1,.int .i64 a0_2,.slice A0_3 l0_3.length c0_3,.int .i64 a0_4]] w fun e w'=>∃ v0_ v1_:Value,e=.returned (.agg #[v0_,v1_])∧Kd.R (Kd.int .i64) 3 w' w.heap.size (fun _=>True) v0_ r1∧Kd.R Kd.string 9 w' w.heap.size (fun _=>True) v1_ r2∧Below w.heap.size w w':=by
 have hu69:=Try.underlying69
 have hu98:=Try.underlying98
 have HR0_3:=q5.mk hr0_3
 have HC0_3:=q5.mk hc0_3
 clear hr0_3 hc0_3
 have HB:=q5.mk (Below.refl w.heap.size w)
 have H:(some ((([a0_0,a0_1,a0_2,a0_4]:List Int)),(([strOfNums l0_3]:List ByteArray))))=some (r1,r2):=h
 clear h
 obtain⟨bZ8,bx5⟩:∃ y_:List Int,y_=(([a0_0,a0_1,a0_2,a0_4]:List Int)):=⟨_,rfl⟩
 replace H:(some (bZ8,(([strOfNums l0_3]:List ByteArray))))=some (r1,r2):=by first|(rw [bx5];with_reducible exact H)|(have H2_:=(Option.bind_some _ _).symm.trans H;rw [bx5];with_reducible exact H2_)|(have H2_:=(Option.bind_some _ _).symm.trans H;with_reducible exact H2_)|with_reducible exact H|(rw [bx5];exact H)|exact H
 have cB8:=q5.mk bx5
 clear bx5
 obtain⟨cv0,bz2⟩:∃ y_:List ByteArray,y_=(([strOfNums l0_3]:List ByteArray)):=⟨_,rfl⟩
 replace H:(some (bZ8,cv0))=some (r1,r2):=by first|(rw [bz2];with_reducible exact H)|(have H2_:=(Option.bind_some _ _).symm.trans H;rw [bz2];with_reducible exact H2_)|(have H2_:=(Option.bind_some _ _).symm.trans H;with_reducible exact H2_)|with_reducible exact H|(rw [bz2];exact H)|exact H
 have cA8:=q5.mk bz2
 clear bz2
 simp only [Option.some.injEq,Prod.mk.injEq] at H
 obtain⟨rfl,rfl⟩:=H
 go_enter Try.func54,Try.ntmps54
 go_wp2_with (first|((with_reducible refine X0 (N:=1) rfl ?_);refine L2 1 #[.int .i64 a0_0,.int .i64 a0_1,.int .i64 a0_2,.slice A0_3 l0_3.length c0_3,.int .i64 a0_4] 69 ?_;intro B0 hg U1 hbox hb;have n_:=pk4 (E0 bl_ hb) (hbox) ((ge_ hg bl_:w.heap.size≤B0)) ((ge_ hg bl_:w.heap.size≤B0));clear HB;obtain⟨HB,o0,C2,F5⟩:=n_;clear hb hbox hg)|((with_reducible refine X0 (N:=2) rfl ?_);refine L2 2 #[.slice none 0 0,.slice none 0 0] 98 ?_;intro S0 hg Z1 hbox hb;have n_:=pk7 (F0 (bo_ o0) hb) (E0 bl_ hb) (hbox) ((ge_ hg bl_:w.heap.size≤S0)) ((ge_ hg bl_:w.heap.size≤S0)) ((nb_ hg (bo_ o0):B0≠S0)) ((nc_ hg (bo_ o0):S0≠B0));clear o0 HB;obtain⟨o0,HB,O0,V9,W9,Q1,F1⟩:=n_;clear hb hbox hg;have V6:=Q1.out;have Z6:=F1.out;have Y2:Z1.cell? ⟨B0,0,none⟩=some (.int .i64 a0_0):=(m0 o0.out 0).trans rfl;have z3:Z1.cell? ⟨B0,1,none⟩=some (.int .i64 a0_1):=(m0 o0.out 1).trans rfl;have V8:Z1.cell? ⟨B0,2,none⟩=some (.int .i64 a0_2):=(m0 o0.out 2).trans rfl;have P9:Z1.cell? ⟨B0,3,none⟩=some (.slice A0_3 l0_3.length c0_3):=(m0 o0.out 3).trans rfl;have O9:Z1.cell? ⟨B0,4,none⟩=some (.int .i64 a0_4):=(m0 o0.out 4).trans rfl;have D3:=t0 o0.out 0;have Z2:=t0 o0.out 1;have l9:=t0 o0.out 2;have S9:=t0 o0.out 3;have R9:=t0 o0.out 4)|((with_reducible refine X0 (N:=12) rfl ?_);refine Kd.R_lit (Kd.int .i64) _ 3 ?hg (N:=12) ?hd (xs:=([a0_0,a0_1,a0_2,a0_4]:List Int)) (inner:=[.int .i64 a0_0,.int .i64 a0_1,.int .i64 a0_2,.int .i64 a0_4]) (ok:=fun _=>True) (okp:=fun _=>True) ?hr ?hp (fun _ hk=>hk) trivial (Below.refl _ _) (Nat.le_refl _) (by simp) ?_;(case hd=>rfl);(case hg=>rfl);(case hr=>first|(go_simp;done)|(go_simp;rfl));(case hp=>exact(Reps.one (show Kd.M (Kd.int .i64) _ _ _ a0_0 [.int .i64 a0_0] from rfl) (Reps.one (show Kd.M (Kd.int .i64) _ _ _ a0_1 [.int .i64 a0_1] from rfl) (Reps.one (show Kd.M (Kd.int .i64) _ _ _ a0_2 [.int .i64 a0_2] from rfl) (Reps.one (show Kd.M (Kd.int .i64) _ _ _ a0_4 [.int .i64 a0_4] from rfl) (Reps.none _ _))))));intro M4 F2 M0 hb hg_ hnew_;clear hg_ hnew_;(first|rw [←cB8.out] at M0|(simp only [Int.reduceToNat] at M0;rw [←cB8.out] at M0));have n_:=pk4 (Kd.R_lower M0 (L0 bl_)) (F0 (bo_ o0) hb) (F0 (bo_ O0) hb) (E0 bl_ hb);clear o0 O0 HB;obtain⟨C0,o0,O0,HB⟩:=n_;clear hb M0;have z4:F2.cell? ⟨B0,0,none⟩=some (.int .i64 a0_0):=(m0 o0.out 0).trans rfl;have C4:F2.cell? ⟨B0,1,none⟩=some (.int .i64 a0_1):=(m0 o0.out 1).trans rfl;have E8:F2.cell? ⟨B0,2,none⟩=some (.int .i64 a0_2):=(m0 o0.out 2).trans rfl;have s8:F2.cell? ⟨B0,3,none⟩=some (.slice A0_3 l0_3.length c0_3):=(m0 o0.out 3).trans rfl;have r8:F2.cell? ⟨B0,4,none⟩=some (.int .i64 a0_4):=(m0 o0.out 4).trans rfl;have j4:=t0 o0.out 0;have Z3:=t0 o0.out 1;have v8:=t0 o0.out 2;have z8:=t0 o0.out 3;have t8:=t0 o0.out 4;have bX3:=Kd.C_string (P:=Try.prog) (A:=A0_3) (c:=c0_3) Try.underlying23 Try.underlying5 Try.underlying9 (Kd.C_below HR0_3.out HB.out))|((with_reducible refine X0 (N:=17) rfl ?_);refine Kd.R_lit Kd.string _ 9 ?hg (N:=17) ?hd (xs:=([strOfNums l0_3]:List ByteArray)) (inner:=[.string (strOfNums l0_3)]) (ok:=fun _=>True) (okp:=fun _=>True) ?hr ?hp (fun _ hk=>hk) trivial (Below.refl _ _) (Nat.le_refl _) (by simp) ?_;(case hd=>rfl);(case hg=>rfl);(case hr=>first|(go_simp;done)|(go_simp;rfl));(case hp=>exact(Reps.one (show Kd.M Kd.string _ _ _ (strOfNums l0_3) [.string (strOfNums l0_3)] from rfl) (Reps.none _ _)));intro z5 X2 X6 hb hg_ hnew_;clear hg_ hnew_;(first|rw [←cA8.out] at X6|(simp only [Int.reduceToNat] at X6;rw [←cA8.out] at X6));have n_:=pk5 (Kd.R_below (ro_ C0) hb) (Kd.R_lower X6 (L0 bl_)) (F0 (bo_ o0) hb) (F0 (bo_ O0) hb) (E0 bl_ hb);clear C0 o0 O0 HB;obtain⟨C0,Q0,o0,O0,HB⟩:=n_;clear hb X6;obtain⟨T0,R0,S1⟩:=Kd.R_slice Q0.out;subst S1;obtain⟨X1,V1,U2⟩:=Kd.R_slice C0.out;subst U2;have W8:X2.cell? ⟨S0,0,none⟩=some (.slice none 0 0):=(m0 O0.out 0).trans rfl;have j9:X2.cell? ⟨S0,1,none⟩=some (.slice none 0 0):=(m0 O0.out 1).trans rfl;have d9:=t0 O0.out 0;have Y8:=t0 O0.out 1))
 refine bodyPost_ret (results_cell_row rfl _ _ S0 98 #[.slice X1 bZ8.length V1,.slice T0 cv0.length R0] (0,0) _ rfl (by(with_reducible repeat(first|refine G0 ?_ _|refine J0 ?_|refine I0 ?_ _));refine D1 (cs:=#[.slice X1 bZ8.length V1,.slice none 0 0]) ?_ 1 _ rfl;(with_reducible repeat(first|refine G0 ?_ _|refine J0 ?_|refine I0 ?_ _));refine D1 (cs:=#[.slice none 0 0,.slice none 0 0]) ?_ 0 _ rfl;exact(bo_ O0)) Try.underlying98 rfl (by kernel_rfl)) rfl ?_
 exact⟨_,_,rf_,(rt_ (Kd.R_mono (Kd.R_far (p:=⟨S0,1,none⟩) (Kd.R_far (p:=⟨S0,0,none⟩) (Kd.R_types C0.out O0.out (by decide)) (fun _ hk=>hk.2) (.slice X1 bZ8.length V1)) (fun _ hk=>hk.2) (.slice T0 cv0.length R0)) (fun _ hk=>trivial))),(rt_ (Kd.R_mono (Kd.R_far (p:=⟨S0,1,none⟩) (Kd.R_far (p:=⟨S0,0,none⟩) (Kd.R_types Q0.out O0.out (by decide)) (fun _ hk=>hk.2) (.slice X1 bZ8.length V1)) (fun _ hk=>hk.2) (.slice T0 cv0.length R0)) (fun _ hk=>trivial))),bl_⟩
end Go.Proofs.Ytmddmbagehjdeaa.G
end
section
namespace Go.Proofs.YtmddmbagehjdeaaX
open Go Go.RowKit Go.Proofs.YtmddmbagehjdeaaW.PrintWords
section
variable {P : Program} {ops : Array Oper} {rest : List Oper} {o : Oper} {a : Act} {Q : Exit → Act → World → Prop} {Kc : Act → World → Prop}
theorem bK3 {w0 W:World} (base e:Nat) (s:ByteArray) (hl:s.size≤140737488355328) (HB:Below base w0 W) (hbase:base≤W.heap.size) :
  Kd.V (Kd.int .u8) e (Lib.bytesWorld W e s) base (fun k_=>W.heap.size≤k_) (.slice (some ⟨W.heap.size,0,none⟩) s.size (grownCap W s.size 0 e)) (V4 s)∧Below base w0 (Lib.bytesWorld W e s)∧W.grownBy (Lib.bytesWorld W e s) none:=by
 have hg:W.grownBy (Lib.bytesWorld W e s) none:=⟨rfl,rfl,by simp [Lib.bytesWorld,World.freeze,World.alloc,World.drew,-World.alloc_eq,-World.drew_eq],by rw [Lib.bytesWorld_size];omega,fun k hk _=>Lib.bytesWorld_at_old W e s k hk⟩
 refine⟨⟨some ⟨W.heap.size,0,none⟩,grownCap W s.size 0 e,by rw [ab0],by rw [ab0];exact grownCap_ge W s.size 0 e,?_⟩,HB.grown hg hbase (fun k hk=>by cases hk),hg⟩
 intro W' hk
 have hb:W'.heap[W.heap.size]?=some (.cells (Lib.bytesCells W e s) e ((Lib.bytesCells W e s).size,(Lib.bytesCells W e s).size+1)) :=
  (hk W.heap.size (Nat.le_refl _) (by rw [Lib.bytesWorld_size];omega)).trans (Lib.bytesWorld_at_new W e s)
 refine⟨rfl,by rw [ab0];omega,fun _=>⟨_,rfl,fun j p hj=>⟨[.int .u8 p],rfl,rfl,fun i u hu=>?_⟩⟩⟩
 have hi:i=0:=by
  rcases Nat.eq_zero_or_pos i with h|h
  ·exact h
  ·rw [List.getElem?_eq_none (by simp;omega)] at hu;cases hu
 subst hi
 simp at hu
 subst hu
 show W'.cell? ((⟨W.heap.size,0,none⟩:Addr).add (j*1+0))=_
 rw [ag0]
 have hlt:j<s.size:=by
  have:=(List.getElem?_eq_some_iff.1 hj).1
  rwa [ab0] at this
 have hcell:(Lib.bytesCells W e s)[j]?=some (.int .u8 p):=by
  unfold Lib.bytesCells
  have h1:s.data[j]?=some (s.data[j]'hlt):=by simp
  unfold V4 at hj
  rw [Array.getElem?_append_left (by simpa using hlt)]
  simp at hj ⊢
  obtain⟨b,hb1,hb2⟩:=hj
  exact⟨b,hb1,by rw [←hb2]⟩
 unfold World.cell?
 rw [hb]
 simpa using hcell
theorem V_conv_step {w0 W:World} (base e:Nat) (hw:Region.wanted o (yielded ops a.tmps)=true) {N:Tmp} (_hd:o.dst=some N) (src t:TypeId) (x:Operand) (ho:o.op=.convert src t x) (s:ByteArray) (hx:a.eval x=.string s)
  (hs:P.underlying src=some .string) (ht:P.underlying t=some (.slice e)) (he:P.underlying e=some (.int .u8)) (HB:Below base w0 W) (hbase:base≤W.heap.size) (hl:s.size≤140737488355328)
  (h:∀ v1 w1,Kd.V (Kd.int .u8) e w1 base (fun k_=>W.heap.size≤k_) v1 (V4 s)→Below base w0 w1→W.grownBy w1 none→True→Kc (a.put o.dst v1) w1):if Region.wanted o (yielded ops a.tmps)=true then Oper.wp P o a W Kc Q else Kc (a.put o.dst undef) W:=by
 obtain⟨h1,h2,h3⟩:=bK3 base e s hl HB hbase
 have hr:=Lib.run_convert_string_bytes (P:=P) W src t e s hs ht he
 exact ba9 hw (by simp [execOp,ho,hx,hr]) (h _ _ h1 h2 h3 trivial)
end
end Go.Proofs.YtmddmbagehjdeaaX
end
section
namespace Go.Proofs.YtmddmbagehjdeaaX
open Go Go.RowKit Go.Proofs.YtmddmbagehjdeaaW.PrintWords Go.Proofs.YtmddmbagehjdeaaW.PrintLast Go.Proofs.YtmddmbagehjdeaaW.PrintMore
theorem U5 {W:World} {g h:Nat} {t:TypeId} {cs:Array Value} {a b c d e:Value} (hh:W.heap[h]?=some (.cells cs t (0,0))) (hn:h≠g):(((((W.setCell ⟨g,0,none⟩ a).setCell ⟨g,1,none⟩ b).setCell ⟨g,2,none⟩ c).setCell ⟨g,3,none⟩ d).setCell ⟨g,4,none⟩ e).heap[h]?=some (.cells cs t (0,0)) :=
 Y0 (Y0 (Y0 (Y0 (Y0 hh hn _) hn _) hn _) hn _) hn _
theorem X8 {W:World} {g:Nat} {t:TypeId} {cs:Array Value} {x0 x1 x2 x3 x4 a b c d e:Value} (hh:W.heap[g]?=some (.cells cs t (0,0))) (hc:cs=#[x0,x1,x2,x3,x4]):(((((W.setCell ⟨g,0,none⟩ a).setCell ⟨g,1,none⟩ b).setCell ⟨g,2,none⟩ c).setCell ⟨g,3,none⟩ d).setCell ⟨g,4,none⟩ e).heap[g]?=some (.cells #[a,b,c,d,e] t (0,0)):=by
 subst hc
 exact D1 (cs:=#[a,b,c,d,x4]) (D1 (cs:=#[a,b,c,x3,x4]) (D1 (cs:=#[a,b,x2,x3,x4]) (D1 (cs:=#[a,x1,x2,x3,x4]) (D1 (cs:=#[x0,x1,x2,x3,x4]) hh 0 _ rfl) 1 _ rfl) 2 _ rfl) 3 _ rfl) 4 _ rfl
theorem aV8 {W:World} {g:Nat} {t:TypeId} {cs:Array Value} {x0 x1 a b:Value} (hh:W.heap[g]?=some (.cells cs t (0,0))) (hc:cs=#[x0,x1]):((W.setCell ⟨g,0,none⟩ a).setCell ⟨g,1,none⟩ b).heap[g]?=some (.cells #[a,b] t (0,0)):=by
 subst hc
 exact D1 (cs:=#[a,x1]) (D1 (cs:=#[x0,x1]) hh 0 _ rfl) 1 _ rfl
theorem U9 {α:Type} {k:Kd α} {E:Nat} {W:World} {base g:Nat} {ok:Nat→Prop} {v:Value} {xs:List α} (h:Kd.V k E W base ok v xs) (hk:∀ k,ok k→k≠g) (a b c d e:Value):Kd.V k E (((((W.setCell ⟨g,0,none⟩ a).setCell ⟨g,1,none⟩ b).setCell ⟨g,2,none⟩ c).setCell ⟨g,3,none⟩ d).setCell ⟨g,4,none⟩ e) base ok v xs :=
 Kd.V_far (p:=⟨g,4,none⟩) (Kd.V_far (p:=⟨g,3,none⟩) (Kd.V_far (p:=⟨g,2,none⟩) (Kd.V_far (p:=⟨g,1,none⟩) (Kd.V_far (p:=⟨g,0,none⟩) h hk a) hk b) hk c) hk d) hk e
theorem al9 {α:Type} {k:Kd α} {E:Nat} {W:World} {base g:Nat} {ok:Nat→Prop} {v:Value} {xs:List α} (h:k.R E W base ok v xs) (hk:∀ k,ok k→k≠g) (a b c d e:Value):k.R E (((((W.setCell ⟨g,0,none⟩ a).setCell ⟨g,1,none⟩ b).setCell ⟨g,2,none⟩ c).setCell ⟨g,3,none⟩ d).setCell ⟨g,4,none⟩ e) base ok v xs :=
 Kd.R_far (p:=⟨g,4,none⟩) (Kd.R_far (p:=⟨g,3,none⟩) (Kd.R_far (p:=⟨g,2,none⟩) (Kd.R_far (p:=⟨g,1,none⟩) (Kd.R_far (p:=⟨g,0,none⟩) h hk a) hk b) hk c) hk d) hk e
theorem G7 {W:World} {g:Nat} {p:Addr} {v:Value} {a b c d e:Value} (hn:p.block≠g) (h:W.cell? p=some v):(((((W.setCell ⟨g,0,none⟩ a).setCell ⟨g,1,none⟩ b).setCell ⟨g,2,none⟩ c).setCell ⟨g,3,none⟩ d).setCell ⟨g,4,none⟩ e).cell? p=some v :=
 (m2 (p:=⟨g,4,none⟩) hn _).trans ((m2 (p:=⟨g,3,none⟩) hn _).trans ((m2 (p:=⟨g,2,none⟩) hn _).trans ((m2 (p:=⟨g,1,none⟩) hn _).trans ((m2 (p:=⟨g,0,none⟩) hn _).trans h))))
end Go.Proofs.YtmddmbagehjdeaaX
end
section
namespace Go.Proofs.Ytmddmbagehjdeaa.G
open Go.RowKit Go.Proofs.YtmddmbagehjdeaaX Go.Proofs.YtmddmbagehjdeaaW.PrintWords Go.Proofs.YtmddmbagehjdeaaW.PrintLast Go.Proofs.YtmddmbagehjdeaaW.PrintMore
attribute [local go_sem] S3 R3 R4 S4 P3 N3 D4 Y3
def q28.j0:Nat→Bool→List Int→List ByteArray→Option (Int×Int×Int×List Int×Int×Int)
 |0,_,_,_=>none
 |k+1,x24,K8,aU0=>if x24=true then(some (0,0,0,([]:List Int),0,2))else(if 0<(K8.length:Int)then(if 1<(K8.length:Int)then(if 2<(K8.length:Int)then(if 0<(aU0.length:Int)then(if(rdOf ByteArray.empty aU0 0).size≤140737488355328 then((some (V4 (rdOf ByteArray.empty aU0 0):List Int)).bind fun aj0=>(if 3<(K8.length:Int)then((q62.f k (rd K8 0) (rd K8 1) (rd K8 2) aj0 (rd K8 3)).bind fun aX0=>(if aX0=0 then((q56.f k (rd K8 0) (rd K8 1) (rd K8 2) aj0 (rd K8 3)).bind fun aZ5=>(if aZ5.2.2=0 then((q73.f k aZ5.1 aZ5.2.1 K8 aU0).bind fun bs1=>(if bs1=true then(some (rd K8 0,rd K8 1,rd K8 2,aj0,rd K8 3,0))else(none)))else(none)))else(some (0,0,0,([]:List Int),0,2))))else(none)))else(none))else(none))else(none))else(none))else(none))
def q28.f (k:Nat) (l0_0:List Int) (l0_1:List ByteArray):Option (Int×Int×Int×List Int×Int×Int):=if(l0_0.length:Int)=4 then(if(l0_1.length:Int)=1 then(if 0<(l0_1.length:Int)then(q28.j0 k (decide (((rdOf ByteArray.empty l0_1 0).size:Int)>4096)) l0_0 l0_1)else(none))else(q28.j0 k true l0_0 l0_1))else(q28.j0 k true l0_0 l0_1)
def q28.T3:Bool×List (List Nat×List Nat):=(true,[([],[]),([0],[0]),([1],[1]),([2],[2]),([],[]),([4],[4]),([5],[5]),([6],[6]),([],[]),([8],[8]),([9],[9]),([10],[10]),([],[]),([12],[12]),([13],[13]),([14],[14]),([15],[15]),([],[]),([17],[17]),([18],[18]),([19],[19]),([16,20],[16,20]),([3,7,11,21],[3,7,11,21]),([],[]),([23,22,0,1,2,3,4,5,6,7,8,9,10,11,12,13,14,15,16,17,18,19,20,21,22,23],[22,23])])
def q28.B3:List Nat:=[0,1,3,7,0,16,48,112,0,256,768,1792,0,4096,12288,28672,61440,0,131072,393216,917504,2093056,4194303,0,16777215]
theorem q28.tab3:rtab .any (ap1 Try.f51 3)=q28.T3:=by kernel_rfl
theorem q28.bits3:b8 q28.T3.2 q28.B3=true:=by kernel_rfl
set_option maxHeartbeats 80000000 in
theorem q28.calls (k:Nat) (A0_0:Option Addr) (c0_0:Nat) (l0_0:List Int) (A0_1:Option Addr) (c0_1:Nat) (l0_1:List ByteArray) (r1:Int) (r2:Int) (r3:Int) (r4:List Int) (r5:Int) (r6:Int) (w:World) (hr0_0:Kd.C (Kd.int .i64) w A0_0 l0_0.length l0_0) (hc0_0:l0_0.length≤c0_0) (hr0_1:Kd.C Kd.string w A0_1 l0_1.length l0_1) (hc0_1:l0_1.length≤c0_1) (h:q28.f k l0_0 l0_1=some (r1,r2,r3,r4,r5,r6)) :
  Calls Try.prog 51 #[.agg #[.slice A0_0 l0_0.length c0_0,.slice A0_1 l0_1.length c0_1]] w fun e w'=>∃ v3_:Value,e=.returned (.tuple #[.agg #[.int .i64 r1,.int .i64 r2,.int .i64 r3,v3_,.int .i64 r5],.int .i64 r6])∧Kd.V (Kd.int .u8) 5 w' w.heap.size (fun k_=>(w.heap.size≤k_)) v3_ r4∧Below w.heap.size w w':=by
 have hu98:=Try.underlying98
 have hu69:=Try.underlying69
 have hu25:=Try.underlying25
 have HR0_0:=q5.mk hr0_0
 have HC0_0:=q5.mk hc0_0
 clear hr0_0 hc0_0
 have HR0_1:=q5.mk hr0_1
 have HC0_1:=q5.mk hc0_1
 clear hr0_1 hc0_1
 have HB:=q5.mk (Below.refl w.heap.size w)
 have H:(if(l0_0.length:Int)=4 then(if(l0_1.length:Int)=1 then(if 0<(l0_1.length:Int)then(q28.j0 k (decide (((rdOf ByteArray.empty l0_1 0).size:Int)>4096)) l0_0 l0_1)else(none))else(q28.j0 k true l0_0 l0_1))else(q28.j0 k true l0_0 l0_1))=some (r1,r2,r3,r4,r5,r6):=h
 clear h
 have HC2:=q5.mk H
 clear H
 go_enter Try.func51,Try.ntmps51
 go_upto_region 1 with(first|((with_reducible refine X0 (N:=1) rfl ?_);(try(refine O2 (by rfl) ?_;dsimp only));refine L2 1 #[.slice A0_0 l0_0.length c0_0,.slice A0_1 l0_1.length c0_1] 98 ?_;intro J7 hg w3 hbox hb;have n_:=pk4 (E0 bl_ hb) (hbox) ((ge_ hg bl_:w.heap.size≤J7)) ((ge_ hg bl_:w.heap.size≤J7));clear HB;obtain⟨HB,L4,dq9,dr0⟩:=n_;clear hb hbox hg)|((with_reducible refine X0 (N:=2) rfl ?_);(try(refine O2 (by rfl) ?_;dsimp only));refine L2 2 #[.int .i64 0,.int .i64 0,.int .i64 0,.slice none 0 0,.int .i64 0] 69 ?_;intro R6 hg w4 hbox hb;have n_:=pk7 (F0 (bo_ L4) hb) (E0 bl_ hb) (hbox) ((ge_ hg bl_:w.heap.size≤R6)) ((ge_ hg bl_:w.heap.size≤R6)) ((nb_ hg (bo_ L4):J7≠R6)) ((nc_ hg (bo_ L4):R6≠J7));clear L4 HB;obtain⟨L4,HB,E4,dr5,dp5,ak3,ak5⟩:=n_;clear hb hbox hg))
 (try simp only [ap_,sb_,s0_,s1_])
 go_cut [24] (fun v24 wc=>∃ (kq:Nat) (x24_1:Bool),v24=.bool x24_1∧q5 (q28.j0 kq x24_1 l0_0 l0_1=some (r1,r2,r3,r4,r5,r6))∧q5 (kq≤k)∧q5 (wc.heap[J7]?=some (.cells #[(.slice A0_0 l0_0.length c0_0),(.slice A0_1 l0_1.length c0_1)] 98 (0,0)))∧q5 (wc.heap[R6]?=some (.cells #[.int .i64 0,.int .i64 0,.int .i64 0,(.slice none 0 0),.int .i64 0] 69 (0,0)))∧q5 (Below w.heap.size w wc))
 case first =>
  have H:=HC2.out
  clear HC2
  replace H:=deqn H
  rcases H with⟨c5b0,c5b1,H⟩|⟨c5b0,c5b1,c5,H⟩
  focus
   (first|rw [c5b0]|(simp only [N0,P0];rw [c5b0])|skip)
   replace H:=deqn H
   rcases H with⟨c6b0,c6b1,H⟩|⟨c6b0,c6b1,c6,H⟩
   focus
    by_cases c7:0<(l0_1.length:Int)
    rotate_left
    ·rw [if_neg c7] at H
     exact absurd H (by simp)
    rw [if_pos c7] at H
    have c7b0:decide (0<(l0_1.length:Int))=true:=decide_eq_true c7
    have c7b1:decide (0<l0_1.length)=true:=decide_eq_true (by omega)
    clear c7
    have H':=q5.mk H
    clear H
    have hnb8:=ak3.out
    have hnc8:=ak5.out
    obtain⟨hcz9_0,hcz9_1,hfz9_0,hfz9_1⟩:=N4 L4.out
    have cI3:0≤(0:Int):=(by omega)
    have cG4:0<(l0_1.length:Int):=dc_
    obtain⟨dt2,dn2,aK2⟩:=Kd.at_string HR0_1.out 0 cI3 cG4
    cases dn2
    have ds6:(0<l0_1.length)=True:=eq_true (by omega)
    (try rw [show((0:Int)).toNat=0 from rfl] at aK2)
    (try rw [Addr.add_zero'] at aK2)
    replace aK2:=(HB.out.cell (World.block_lt_of_cell? w _ aK2)).trans aK2
    replace cI3:=eq_true cI3
    replace cG4:=eq_true cG4
   rotate_left
   focus
    have H':=q5.mk H
    clear H
    have hnb10:=ak3.out
    have hnc10:=ak5.out
    obtain⟨hcz11_0,hcz11_1,hfz11_0,hfz11_1⟩:=N4 L4.out
  rotate_left 2
  focus
   (first|rw [c5b0]|(simp only [N0,P0];rw [c5b0])|skip)
   have H':=q5.mk H
   clear H
   have hnb12:=ak3.out
   have hnc12:=ak5.out
   obtain⟨hcz13_0,hcz13_1,hfz13_0,hfz13_1⟩:=N4 L4.out
  all_goals
   go_wp2
   go_meet
   first
    |case rel=>exact⟨_,(decide (((rdOf ByteArray.empty l0_1 0).size:Int)>4096)),sm_,H',⟨om_⟩,⟨(bo_ L4)⟩,⟨(bo_ E4)⟩,⟨bl_⟩⟩
    |case rel=>exact⟨_,(true),sm_,H',⟨om_⟩,⟨(bo_ L4)⟩,⟨(bo_ E4)⟩,⟨bl_⟩⟩
 case rest =>
  clear HC2
  obtain⟨kq,x24_1,rfl,HA,HJ1,L4,E4,HB⟩:=hcut
  cases kq with
  |zero=>exact absurd HA.out (by simp [q28.j0])
  |succ kj1 =>
   have H:=HA.out
   clear HA
   simp only [q28.j0] at H
   replace H:=Q7 H
   rcases H with⟨rfl,H⟩|⟨rfl,H⟩
   focus
    simp only [Option.some.injEq,Prod.mk.injEq] at H
    obtain⟨rfl,rfl,rfl,rfl,rfl,rfl⟩:=H
    have hnb15:=ak5.out
    have hnc15:=ak3.out
    obtain⟨hcz16_0,hcz16_1,hcz16_2,hcz16_3,hcz16_4,hfz16_0,hfz16_1,hfz16_2,hfz16_3,hfz16_4⟩:=X4 E4.out
   rotate_left
   focus
    by_cases c17:0<(l0_0.length:Int)
    rotate_left
    ·rw [if_neg c17] at H
     exact absurd H (by simp)
    rw [if_pos c17] at H
    have c17b0:decide (0<(l0_0.length:Int))=true:=decide_eq_true c17
    have c17b1:decide (0<l0_0.length)=true:=decide_eq_true (by omega)
    clear c17
    by_cases c18:1<(l0_0.length:Int)
    rotate_left
    ·rw [if_neg c18] at H
     exact absurd H (by simp)
    rw [if_pos c18] at H
    have c18b0:decide (1<(l0_0.length:Int))=true:=decide_eq_true c18
    have c18b1:decide (1<l0_0.length)=true:=decide_eq_true (by omega)
    clear c18
    by_cases c19:2<(l0_0.length:Int)
    rotate_left
    ·rw [if_neg c19] at H
     exact absurd H (by simp)
    rw [if_pos c19] at H
    have c19b0:decide (2<(l0_0.length:Int))=true:=decide_eq_true c19
    have c19b1:decide (2<l0_0.length)=true:=decide_eq_true (by omega)
    clear c19
    by_cases c20:0<(l0_1.length:Int)
    rotate_left
    ·rw [if_neg c20] at H
     exact absurd H (by simp)
    rw [if_pos c20] at H
    have c20b0:decide (0<(l0_1.length:Int))=true:=decide_eq_true c20
    have c20b1:decide (0<l0_1.length)=true:=decide_eq_true (by omega)
    clear c20
    by_cases c21:(rdOf ByteArray.empty l0_1 0).size≤140737488355328
    rotate_left
    ·rw [if_neg c21] at H
     exact absurd H (by simp)
    rw [if_pos c21] at H
    have c21b0:=eq_true c21
    have c21b1:decide ((rdOf ByteArray.empty l0_1 0).size≤140737488355328)=true:=decide_eq_true c21
    clear c21
    obtain⟨aj0,bC2⟩:∃ y_:List Int,y_=(V4 (rdOf ByteArray.empty l0_1 0)):=⟨_,rfl⟩
    replace H:(if 3<(l0_0.length:Int)then((q62.f kj1 (rd l0_0 0) (rd l0_0 1) (rd l0_0 2) aj0 (rd l0_0 3)).bind fun aX0=>(if aX0=0 then((q56.f kj1 (rd l0_0 0) (rd l0_0 1) (rd l0_0 2) aj0 (rd l0_0 3)).bind fun aZ5=>(if aZ5.2.2=0 then((q73.f kj1 aZ5.1 aZ5.2.1 l0_0 l0_1).bind fun bs1=>(if bs1=true then(some (rd l0_0 0,rd l0_0 1,rd l0_0 2,aj0,rd l0_0 3,0))else(none)))else(none)))else(some (0,0,0,([]:List Int),0,2))))else(none))=some (r1,r2,r3,r4,r5,r6):=by first|(rw [bC2];with_reducible exact H)|(have H2_:=(Option.bind_some _ _).symm.trans H;rw [bC2];with_reducible exact H2_)|(have H2_:=(Option.bind_some _ _).symm.trans H;with_reducible exact H2_)|with_reducible exact H|(rw [bC2];exact H)|exact H
    have bX2:=q5.mk bC2
    clear bC2
    by_cases c22:3<(l0_0.length:Int)
    rotate_left
    ·rw [if_neg c22] at H
     exact absurd H (by simp)
    rw [if_pos c22] at H
    have c22b0:decide (3<(l0_0.length:Int))=true:=decide_eq_true c22
    have c22b1:decide (3<l0_0.length)=true:=decide_eq_true (by omega)
    clear c22
    replace H:=N2 H
    obtain⟨aX0,A23,H⟩:=H
    try dsimp only at H
    replace H:=deqn H
    rcases H with⟨c24b0,c24b1,H⟩|⟨c24b0,c24b1,c24,H⟩
    focus
     replace H:=N2 H
     obtain⟨⟨bk5,bk7,dd9⟩,A25,H⟩:=H
     try dsimp only at H
     replace H:=deq H
     rcases H with⟨c26b0,c26b1,H⟩|⟨c26b0,c26b1,H⟩
     rotate_left
     ·exact absurd H (by simp)
     replace H:=N2 H
     obtain⟨bs1,A27,H⟩:=H
     try dsimp only at H
     by_cases c28:bs1=true
     rotate_left
     ·replace c28:=Bool.eq_false_iff.mpr c28
      subst c28
      rw [if_neg (show ¬(false=true)by decide)] at H
      exact absurd H (by simp)
     subst c28
     have H1:(some (rd l0_0 0,rd l0_0 1,rd l0_0 2,aj0,rd l0_0 3,0))=some (r1,r2,r3,r4,r5,r6):=by rw [if_pos rfl] at H;exact H
     clear H
     have H:=H1
     clear H1
     simp only [Option.some.injEq,Prod.mk.injEq] at H
     obtain⟨rfl,rfl,rfl,rfl,rfl,rfl⟩:=H
    rotate_left
    focus
     simp only [Option.some.injEq,Prod.mk.injEq] at H
     obtain⟨rfl,rfl,rfl,rfl,rfl,rfl⟩:=H
   all_goals
    first
     |try go_wp2
      have n_:=pk3 (J0 L4.out) (J0 E4.out) (N1 HB.out)
      clear L4 E4 HB
      obtain⟨L4,E4,HB⟩:=n_
      have F3:0≤(0:Int):=(by omega)
      have I3:0<(l0_0.length:Int):=dc_
      obtain⟨J1,E6,Z0⟩:=Kd.at_int HR0_0.out 0 F3 I3
      have D2:=Z0
      (try rw [show((0:Int)).toNat=0 from rfl] at D2)
      (try rw [show 0*1=0 from rfl] at D2)
      (try rw [Addr.add_zero'] at D2)
      cases E6
      have bQ5:(0<l0_0.length)=True:=eq_true (by omega)
      (try rw [show((0:Int)).toNat=0 from rfl] at Z0)
      (try rw [Addr.add_zero'] at Z0)
      replace Z0:=(HB.out.cell (World.block_lt_of_cell? w _ Z0)).trans Z0
      replace F3:=eq_true F3
      replace I3:=eq_true I3
      have V7:0≤(1:Int):=(by omega)
      have U7:1<(l0_0.length:Int):=dc_
      obtain⟨am4,aA9,M3⟩:=Kd.at_int HR0_0.out 1 V7 U7
      have I2:=M3
      (try rw [show((1:Int)).toNat=1 from rfl] at I2)
      (try rw [show 1*1=1 from rfl] at I2)
      (try simp only [Nat.reduceMul,Nat.reduceEqDiff,Go.Addr.add,↓reduceIte] at I2)
      obtain rfl:J1=am4:=(by injection aA9)
      (try simp only [show(1:Int).toNat=1 from rfl,Nat.reduceMul,Nat.reduceEqDiff,Go.Addr.add,↓reduceIte] at M3)
      have cL4:(1<l0_0.length)=True:=eq_true (by omega)
      (try rw [show((1:Int)).toNat=1 from rfl] at M3)
      replace M3:=(HB.out.cell (World.block_lt_of_cell? w _ M3)).trans M3
      replace V7:=eq_true V7
      replace U7:=eq_true U7
      have az4:0≤(2:Int):=(by omega)
      have az1:2<(l0_0.length:Int):=dc_
      obtain⟨aX3,bF1,m7⟩:=Kd.at_int HR0_0.out 2 az4 az1
      have Y4:=m7
      (try rw [show((2:Int)).toNat=2 from rfl] at Y4)
      (try rw [show 2*1=2 from rfl] at Y4)
      (try simp only [Nat.reduceMul,Nat.reduceEqDiff,Go.Addr.add,↓reduceIte] at Y4)
      obtain rfl:J1=aX3:=(by injection bF1)
      (try simp only [show(2:Int).toNat=2 from rfl,Nat.reduceMul,Nat.reduceEqDiff,Go.Addr.add,↓reduceIte] at m7)
      have cF4:(2<l0_0.length)=True:=eq_true (by omega)
      (try rw [show((2:Int)).toNat=2 from rfl] at m7)
      replace m7:=(HB.out.cell (World.block_lt_of_cell? w _ m7)).trans m7
      replace az4:=eq_true az4
      replace az1:=eq_true az1
      have aA5:0≤(0:Int):=(by omega)
      have aw9:0<(l0_1.length:Int):=dc_
      obtain⟨Y6,bv2,l7⟩:=Kd.at_string HR0_1.out 0 aA5 aw9
      have Z4:=l7
      (try rw [show((0:Int)).toNat=0 from rfl] at Z4)
      (try rw [show 0*1=0 from rfl] at Z4)
      (try rw [Addr.add_zero'] at Z4)
      cases bv2
      have cF1:(0<l0_1.length)=True:=eq_true (by omega)
      (try rw [show((0:Int)).toNat=0 from rfl] at l7)
      (try rw [Addr.add_zero'] at l7)
      replace l7:=(HB.out.cell (World.block_lt_of_cell? w _ l7)).trans l7
      replace aA5:=eq_true aA5
      replace aw9:=eq_true aw9
      have ba6:0≤(3:Int):=(by omega)
      have bb0:3<(l0_0.length:Int):=dc_
      obtain⟨bO2,cq9,W7⟩:=Kd.at_int HR0_0.out 3 ba6 bb0
      have W4:=W7
      (try rw [show((3:Int)).toNat=3 from rfl] at W4)
      (try rw [show 3*1=3 from rfl] at W4)
      (try simp only [Nat.reduceMul,Nat.reduceEqDiff,Go.Addr.add,↓reduceIte] at W4)
      obtain rfl:J1=bO2:=(by injection cq9)
      (try simp only [show(3:Int).toNat=3 from rfl,Nat.reduceMul,Nat.reduceEqDiff,Go.Addr.add,↓reduceIte] at W7)
      have cJ9:(3<l0_0.length)=True:=eq_true (by omega)
      (try rw [show((3:Int)).toNat=3 from rfl] at W7)
      replace W7:=(HB.out.cell (World.block_lt_of_cell? w _ W7)).trans W7
      replace ba6:=eq_true ba6
      replace bb0:=eq_true bb0
      refine b9 (n:=25) (S:=fun w'=>w'.cell? ⟨J7,0,none⟩=some (.slice (some J1) l0_0.length c0_0)∧w'.cell? ⟨J7,1,none⟩=some (.slice (some Y6) l0_1.length c0_1)∧w'.cell? J1=some (.int .i64 (rd l0_0 0))∧w'.cell? ⟨J1.block,J1.off+1,none⟩=some (.int .i64 (rd l0_0 1))∧w'.cell? ⟨J1.block,J1.off+2,none⟩=some (.int .i64 (rd l0_0 2))∧w'.cell? Y6=some (.string (rdOf ByteArray.empty l0_1 0))∧w'.cell? ⟨J1.block,J1.off+3,none⟩=some (.int .i64 (rd l0_0 3))) (ds:=[]) bg8 (by kernel_rfl) rfl rfl ⟨(m0 L4.out 0).trans rfl,(m0 L4.out 1).trans rfl,((HB.out.cell (World.block_lt_of_cell? w _ D2)).trans D2),((HB.out.cell (World.block_lt_of_cell? w _ I2)).trans I2),((HB.out.cell (World.block_lt_of_cell? w _ Y4)).trans Y4),((HB.out.cell (World.block_lt_of_cell? w _ Z4)).trans Z4),((HB.out.cell (World.block_lt_of_cell? w _ W4)).trans W4)⟩ (fun hHeld=>?_);refine b6 q28.tab3 q28.bits3 (fun HT_ HW_=>?_)
      generalize wc.drew=U1 at L4 E4 HB Z0 M3 m7 l7 W7 hHeld ⊢
      refine z1 (i:=0) (N:=some 26) (v:=?_) (a':=?_) be7 rfl rfl (V0 HT_.out (by kernel_rfl)) (fun _ _ _ h=>h) (Or.inl ⟨by rfl,?_⟩) ?_ ?_
      rotate_left
      ·intro w'
       go_simp
       with_reducible rfl
      rotate_left
      ·simp only [ap_,sb_,s0_,s1_,N0,P0]
       rfl
      refine z1 (i:=4) (N:=some 30) (v:=?_) (a':=?_) aZ0 rfl rfl (V0 HT_.out (by kernel_rfl)) (fun _ _ _ h=>h) (Or.inl ⟨by rfl,?_⟩) ?_ ?_
      rotate_left
      ·intro w'
       go_simp
       with_reducible rfl
      rotate_left
      ·simp only [ap_,sb_,s0_,s1_,N0,P0]
       rfl
      refine z1 (i:=8) (N:=some 34) (v:=?_) (a':=?_) aQ4 rfl rfl (V0 HT_.out (by kernel_rfl)) (fun _ _ _ h=>h) (Or.inl ⟨by rfl,?_⟩) ?_ ?_
      rotate_left
      ·intro w'
       go_simp
       with_reducible rfl
      rotate_left
      ·simp only [ap_,sb_,s0_,s1_,N0,P0]
       rfl
      refine z1 (i:=12) (N:=some 38) (v:=?_) (a':=?_) aI4 rfl rfl (V0 HT_.out (by kernel_rfl)) (fun _ _ _ h=>h) (Or.inl ⟨by rfl,?_⟩) ?_ ?_
      rotate_left
      ·intro w'
       go_simp
       with_reducible rfl
      rotate_left
      ·simp only [ap_,sb_,s0_,s1_,N0,P0]
       rfl
      refine z1 (i:=17) (N:=some 43) (v:=?_) (a':=?_) aw6 rfl rfl (V0 HT_.out (by kernel_rfl)) (fun _ _ _ h=>h) (Or.inl ⟨by rfl,?_⟩) ?_ ?_
      rotate_left
      ·intro w'
       go_simp
       with_reducible rfl
      rotate_left
      ·simp only [ap_,sb_,s0_,s1_,N0,P0]
       rfl
      refine take_ (i:=1) (N:=some 27) (v:=?_) (a':=?_) az5 rfl rfl (M2 HT_.out HW_.out (by kernel_rfl)) (fun _ _ _ h=>h) (Or.inl ⟨by rfl,?_⟩) hHeld ?_ ?_
      rotate_left
      ·rintro w' ⟨G6,S6,T6,m8,O8,N8,N9⟩
       go_simp
       with_reducible rfl
      rotate_left
      ·simp only [ap_,sb_,s0_,s1_,N0,P0]
       rfl
      refine z1 (i:=2) (N:=some 28) (v:=?_) (a':=?_) ay3 rfl rfl (V0 HT_.out (by kernel_rfl)) (fun _ _ _ h=>h) (Or.inl ⟨by rfl,?_⟩) ?_ ?_
      rotate_left
      ·intro w'
       go_simp
       with_reducible rfl
      rotate_left
      ·simp only [ap_,sb_,s0_,s1_,N0,P0]
       rfl
      refine take_ (i:=3) (N:=some 29) (v:=?_) (a':=?_) ax0 rfl rfl (M2 HT_.out HW_.out (by kernel_rfl)) (fun _ _ _ h=>h) (Or.inl ⟨by rfl,?_⟩) hHeld ?_ ?_
      rotate_left
      ·rintro w' ⟨G6,S6,T6,m8,O8,N8,N9⟩
       go_simp
       with_reducible rfl
      rotate_left
      ·simp only [ap_,sb_,s0_,s1_,N0,P0]
       rfl
      refine take_ (i:=5) (N:=some 31) (v:=?_) (a':=?_) az2 rfl rfl (M2 HT_.out HW_.out (by kernel_rfl)) (fun _ _ _ h=>h) (Or.inl ⟨by rfl,?_⟩) hHeld ?_ ?_
      rotate_left
      ·rintro w' ⟨G6,S6,T6,m8,O8,N8,N9⟩
       go_simp
       with_reducible rfl
      rotate_left
      ·simp only [ap_,sb_,s0_,s1_,N0,P0]
       rfl
      refine z1 (i:=6) (N:=some 32) (v:=?_) (a':=?_) aw1 rfl rfl (V0 HT_.out (by kernel_rfl)) (fun _ _ _ h=>h) (Or.inl ⟨by rfl,?_⟩) ?_ ?_
      rotate_left
      ·intro w'
       go_simp
       with_reducible rfl
      rotate_left
      ·simp only [ap_,sb_,s0_,s1_,N0,P0]
       rfl
      refine take_ (i:=7) (N:=some 33) (v:=?_) (a':=?_) aw0 rfl rfl (M2 HT_.out HW_.out (by kernel_rfl)) (fun _ _ _ h=>h) (Or.inl ⟨by rfl,?_⟩) hHeld ?_ ?_
      rotate_left
      ·rintro w' ⟨G6,S6,T6,m8,O8,N8,N9⟩
       go_simp
       with_reducible rfl
      rotate_left
      ·simp only [ap_,sb_,s0_,s1_,N0,P0]
       rfl
      refine take_ (i:=9) (N:=some 35) (v:=?_) (a':=?_) az0 rfl rfl (M2 HT_.out HW_.out (by kernel_rfl)) (fun _ _ _ h=>h) (Or.inl ⟨by rfl,?_⟩) hHeld ?_ ?_
      rotate_left
      ·rintro w' ⟨G6,S6,T6,m8,O8,N8,N9⟩
       go_simp
       with_reducible rfl
      rotate_left
      ·simp only [ap_,sb_,s0_,s1_,N0,P0]
       rfl
      refine z1 (i:=10) (N:=some 36) (v:=?_) (a':=?_) aw2 rfl rfl (V0 HT_.out (by kernel_rfl)) (fun _ _ _ h=>h) (Or.inl ⟨by rfl,?_⟩) ?_ ?_
      rotate_left
      ·intro w'
       go_simp
       with_reducible rfl
      rotate_left
      ·simp only [ap_,sb_,s0_,s1_,N0,P0]
       rfl
      refine take_ (i:=11) (N:=some 37) (v:=?_) (a':=?_) ay6 rfl rfl (M2 HT_.out HW_.out (by kernel_rfl)) (fun _ _ _ h=>h) (Or.inl ⟨by rfl,?_⟩) hHeld ?_ ?_
      rotate_left
      ·rintro w' ⟨G6,S6,T6,m8,O8,N8,N9⟩
       go_simp
       with_reducible rfl
      rotate_left
      ·simp only [ap_,sb_,s0_,s1_,N0,P0]
       rfl
      refine take_ (i:=13) (N:=some 39) (v:=?_) (a':=?_) ax3 rfl rfl (M2 HT_.out HW_.out (by kernel_rfl)) (fun _ _ _ h=>h) (Or.inl ⟨by rfl,?_⟩) hHeld ?_ ?_
      rotate_left
      ·rintro w' ⟨G6,S6,T6,m8,O8,N8,N9⟩
       go_simp
       with_reducible rfl
      rotate_left
      ·simp only [ap_,sb_,s0_,s1_,N0,P0]
       rfl
      refine z1 (i:=14) (N:=some 40) (v:=?_) (a':=?_) ay1 rfl rfl (V0 HT_.out (by kernel_rfl)) (fun _ _ _ h=>h) (Or.inl ⟨by rfl,?_⟩) ?_ ?_
      rotate_left
      ·intro w'
       go_simp
       with_reducible rfl
      rotate_left
      ·simp only [ap_,sb_,s0_,s1_,N0,P0]
       rfl
      refine take_ (i:=15) (N:=some 41) (v:=?_) (a':=?_) ay0 rfl rfl (M2 HT_.out HW_.out (by kernel_rfl)) (fun _ _ _ h=>h) (Or.inl ⟨by rfl,?_⟩) hHeld ?_ ?_
      rotate_left
      ·rintro w' ⟨G6,S6,T6,m8,O8,N8,N9⟩
       go_simp
       with_reducible rfl
      rotate_left
      ·simp only [ap_,sb_,s0_,s1_,N0,P0]
       rfl
      refine take_ (i:=18) (N:=some 44) (v:=?_) (a':=?_) ax5 rfl rfl (M2 HT_.out HW_.out (by kernel_rfl)) (fun _ _ _ h=>h) (Or.inl ⟨by rfl,?_⟩) hHeld ?_ ?_
      rotate_left
      ·rintro w' ⟨G6,S6,T6,m8,O8,N8,N9⟩
       go_simp
       with_reducible rfl
      rotate_left
      ·simp only [ap_,sb_,s0_,s1_,N0,P0]
       rfl
      refine z1 (i:=19) (N:=some 45) (v:=?_) (a':=?_) aA8 rfl rfl (V0 HT_.out (by kernel_rfl)) (fun _ _ _ h=>h) (Or.inl ⟨by rfl,?_⟩) ?_ ?_
      rotate_left
      ·intro w'
       go_simp
       with_reducible rfl
      rotate_left
      ·simp only [ap_,sb_,s0_,s1_,N0,P0]
       rfl
      refine take_ (i:=20) (N:=some 46) (v:=?_) (a':=?_) au5 rfl rfl (M2 HT_.out HW_.out (by kernel_rfl)) (fun _ _ _ h=>h) (Or.inl ⟨by rfl,?_⟩) hHeld ?_ ?_
      rotate_left
      ·rintro w' ⟨G6,S6,T6,m8,O8,N8,N9⟩
       go_simp
       with_reducible rfl
      rotate_left
      ·simp only [ap_,sb_,s0_,s1_,N0,P0]
       rfl
      refine cA9 (σ:=Value×Nat) 1 S7 (fun s_=>[(42,s_.1),(4,.pointer (some ⟨s_.2,0,none⟩)),(47,.agg #[s_.1,.int .i64 (rd l0_0 3)]),(48,.agg #[.int .i64 (rd l0_0 0),.int .i64 (rd l0_0 1),.int .i64 (rd l0_0 2),s_.1,.int .i64 (rd l0_0 3)])]) (fun s_ w'=>(w'.cell? ⟨J7,0,none⟩=some (.slice (some J1) l0_0.length c0_0)∧w'.cell? ⟨J7,1,none⟩=some (.slice (some Y6) l0_1.length c0_1)∧w'.cell? J1=some (.int .i64 (rd l0_0 0))∧w'.cell? ⟨J1.block,J1.off+1,none⟩=some (.int .i64 (rd l0_0 1))∧w'.cell? ⟨J1.block,J1.off+2,none⟩=some (.int .i64 (rd l0_0 2))∧w'.cell? Y6=some (.string (rdOf ByteArray.empty l0_1 0))∧w'.cell? ⟨J1.block,J1.off+3,none⟩=some (.int .i64 (rd l0_0 3)))∧(Kd.V (Kd.int .u8) 5 w' w.heap.size (fun k_=>(w.heap.size≤k_)∧k_≠J7∧k_≠R6∧k_≠s_.2) s_.1 aj0)∧(w'.heap[J7]?=some (.cells #[.slice (some J1) l0_0.length c0_0,.slice (some Y6) l0_1.length c0_1] 98 (0,0)))∧(w'.heap[R6]?=some (.cells #[.int .i64 0,.int .i64 0,.int .i64 0,.slice none 0 0,.int .i64 0] 69 (0,0)))∧(w'.heap[s_.2]?=some (.cells #[.int .i64 0,.int .i64 0,.int .i64 0,.slice none 0 0,.int .i64 0] 69 (0,0)))∧(w.heap.size≤s_.2)∧(w.heap.size≤s_.2)∧(J7≠s_.2)∧(s_.2≠J7)∧(R6≠s_.2)∧(s_.2≠R6)∧(Below w.heap.size w w')) ?_ ?_
      rotate_left
      ·intro hCont
       refine two_ (i:=16) (j:=23) (Ni:=some 42) (Nj:=some 4) av2 aq4 rfl rfl rfl rfl (cj4 HT_.out (by kernel_rfl)) (by decide) (by decide) (fun K hK=>?_) (fun K hK=>?_)
       ·skip
        refine Go.Proofs.YtmddmbagehjdeaaX.V_conv_step _ 5 (by rfl) (N:=42) rfl 9 23 _ rfl (rdOf ByteArray.empty l0_1 0) rfl Try.underlying9 Try.underlying23 Try.underlying5 (Below.refl _ _) (Nat.le_refl _) dc_ ?_
        intro M4 Z1 M0 hb hg_ hnew_
        clear hg_ hnew_
        (first|rw [←bX2.out] at M0|(simp only [Int.reduceToNat] at M0;rw [←bX2.out] at M0))
        have n7000_:=q5.mk (Kd.V_lower (Kd.V_mono (ok':=fun k_=>(w.heap.size≤k_)∧k_≠J7∧k_≠R6) M0 (fun k_ hk_=>⟨(Nat.le_trans (L0 bl_) hk_),(Kd.freshB (g:=J7) (o:=.cells #[.slice (some J1) l0_0.length c0_0,.slice (some Y6) l0_1.length c0_1] 98 (0,0)) (bo_ L4) k_ hk_),(Kd.freshB (g:=R6) (o:=.cells #[.int .i64 0,.int .i64 0,.int .i64 0,.slice none 0 0,.int .i64 0] 69 (0,0)) (bo_ E4) k_ hk_)⟩)) (L0 bl_))
        have n7001_:=q5.mk (F0 (bo_ L4) hb)
        have n7002_:=q5.mk (F0 (bo_ E4) hb)
        have n7003_:=q5.mk (E0 bl_ hb)
        clear L4
        clear E4
        clear HB
        have C0:=n7000_
        have L4:=n7001_
        have E4:=n7002_
        have HB:=n7003_
        clear n7000_ n7001_ n7002_ n7003_
        clear hb M0
        obtain⟨T0,R0,S1⟩:=Kd.V_slice C0.out
        (first|subst S1|(injection S1 with f1_ f2_ f3_;have f7000_:=f1_.symm;have f7001_:=f3_.symm;clear f1_ f2_ f3_;subst f7000_;subst f7001_))
        refine hK.out _ _ ⟨(m0 L4.out 0).trans rfl,(m0 L4.out 1).trans rfl,((HB.out.cell (World.block_lt_of_cell? w _ D2)).trans D2),((HB.out.cell (World.block_lt_of_cell? w _ I2)).trans I2),((HB.out.cell (World.block_lt_of_cell? w _ Y4)).trans Y4),((HB.out.cell (World.block_lt_of_cell? w _ Z4)).trans Z4),((HB.out.cell (World.block_lt_of_cell? w _ W4)).trans W4)⟩ (fun hHeld=>?_)
        clear hK K
        refine o7 (a':=?_) ?_ ?_
        rotate_left
        ·show Act.put _ (some 42) _=_
         simp only [ap_,sb_,s0_,s1_,N0,P0]
         rfl
        refine z1 (i:=21) (N:=some 47) (v:=?_) (a':=?_) av0 rfl rfl (V0 HT_.out (by kernel_rfl)) (fun _ _ _ h=>h) (Or.inl ⟨by rfl,?_⟩) ?_ ?_
        rotate_left
        ·intro w'
         go_simp
         with_reducible rfl
        rotate_left
        ·simp only [ap_,sb_,s0_,s1_,N0,P0]
         rfl
        refine z1 (i:=22) (N:=some 48) (v:=?_) (a':=?_) au9 rfl rfl (V0 HT_.out (by kernel_rfl)) (fun _ _ _ h=>h) (Or.inl ⟨by rfl,?_⟩) ?_ ?_
        rotate_left
        ·intro w'
         go_simp
         with_reducible rfl
        rotate_left
        ·simp only [ap_,sb_,s0_,s1_,N0,P0]
         rfl
        refine one_ (i:=23) (N:=some 4) S7 rfl rfl (M6 HT_.out (by kernel_rfl)) (by decide) (fun K hK=>?_)
        refine aI7 ?hg (N:=4) ?hd (cs:=#[.int .i64 0,.int .i64 0,.int .i64 0,.slice none 0 0,.int .i64 0]) (t:=69) ?hr ?_;(case hd=>rfl);(case hg=>rfl);(case hr=>first|(go_simp;done)|(go_simp;rfl))
        intro B0 hg F2 hbox hb
        have n7000_:=q5.mk (Kd.V_below (Kd.V_elderB (vo_ C0) B0 (Nat.le_of_eq hg.symm)) hb)
        have n7001_:=q5.mk (F0 (bo_ L4) hb)
        have n7002_:=q5.mk (F0 (bo_ E4) hb)
        have n7003_:=q5.mk (E0 bl_ hb)
        have n7004_:=q5.mk (hbox)
        have n7005_:=q5.mk ((ge_ hg bl_:w.heap.size≤B0))
        have n7006_:=q5.mk ((ge_ hg bl_:w.heap.size≤B0))
        have n7007_:=q5.mk ((nb_ hg (bo_ L4):J7≠B0))
        have n7008_:=q5.mk ((nc_ hg (bo_ L4):B0≠J7))
        have n7009_:=q5.mk ((nb_ hg (bo_ E4):R6≠B0))
        have n7010_:=q5.mk ((nc_ hg (bo_ E4):B0≠R6))
        clear C0
        clear L4
        clear E4
        clear HB
        have C0:=n7000_
        have L4:=n7001_
        have E4:=n7002_
        have HB:=n7003_
        have o0:=n7004_
        have C2:=n7005_
        have F5:=n7006_
        have s7:=n7007_
        have M8:=n7008_
        have X7:=n7009_
        have L8:=n7010_
        clear n7000_ n7001_ n7002_ n7003_ n7004_ n7005_ n7006_ n7007_ n7008_ n7009_ n7010_
        clear hb hbox hg
        refine hK.out _ _ ⟨(m0 L4.out 0).trans rfl,(m0 L4.out 1).trans rfl,((HB.out.cell (World.block_lt_of_cell? w _ D2)).trans D2),((HB.out.cell (World.block_lt_of_cell? w _ I2)).trans I2),((HB.out.cell (World.block_lt_of_cell? w _ Y4)).trans Y4),((HB.out.cell (World.block_lt_of_cell? w _ Z4)).trans Z4),((HB.out.cell (World.block_lt_of_cell? w _ W4)).trans W4)⟩ (fun hHeld=>?_)
        clear hK K
        refine o7 (a':=?_) ?_ ?_
        rotate_left
        ·show Act.put _ (some 4) _=_
         simp only [ap_,sb_,s0_,s1_,N0,P0]
         rfl
        exact o7 (by simp only [as2,Act.put,List.setIfInBounds_toArray,List.set_cons_zero,List.set_cons_succ]) (hCont (.slice T0 aj0.length R0,B0) _ ⟨hHeld,(vt_ (Kd.V_mono C0.out (fun _ hk=>⟨hk.1.1,⟨hk.1.2.1,⟨hk.1.2.2,hk.2⟩⟩⟩))),(bo_ L4),(bo_ E4),(bo_ o0),C2.out,F5.out,s7.out,M8.out,X7.out,L8.out,bl_⟩)
       ·skip
        refine aI7 ?hg (N:=4) ?hd (cs:=#[.int .i64 0,.int .i64 0,.int .i64 0,.slice none 0 0,.int .i64 0]) (t:=69) ?hr ?_;(case hd=>rfl);(case hg=>rfl);(case hr=>first|(go_simp;done)|(go_simp;rfl))
        intro B0 hg Z1 hbox hb
        have n7000_:=q5.mk (F0 (bo_ L4) hb)
        have n7001_:=q5.mk (F0 (bo_ E4) hb)
        have n7002_:=q5.mk (E0 bl_ hb)
        have n7003_:=q5.mk (hbox)
        have n7004_:=q5.mk ((ge_ hg bl_:w.heap.size≤B0))
        have n7005_:=q5.mk ((ge_ hg bl_:w.heap.size≤B0))
        have n7006_:=q5.mk ((nb_ hg (bo_ L4):J7≠B0))
        have n7007_:=q5.mk ((nc_ hg (bo_ L4):B0≠J7))
        have n7008_:=q5.mk ((nb_ hg (bo_ E4):R6≠B0))
        have n7009_:=q5.mk ((nc_ hg (bo_ E4):B0≠R6))
        clear L4
        clear E4
        clear HB
        have L4:=n7000_
        have E4:=n7001_
        have HB:=n7002_
        have o0:=n7003_
        have C2:=n7004_
        have F5:=n7005_
        have s7:=n7006_
        have M8:=n7007_
        have X7:=n7008_
        have L8:=n7009_
        clear n7000_ n7001_ n7002_ n7003_ n7004_ n7005_ n7006_ n7007_ n7008_ n7009_
        clear hb hbox hg
        refine hK.out _ _ ⟨(m0 L4.out 0).trans rfl,(m0 L4.out 1).trans rfl,((HB.out.cell (World.block_lt_of_cell? w _ D2)).trans D2),((HB.out.cell (World.block_lt_of_cell? w _ I2)).trans I2),((HB.out.cell (World.block_lt_of_cell? w _ Y4)).trans Y4),((HB.out.cell (World.block_lt_of_cell? w _ Z4)).trans Z4),((HB.out.cell (World.block_lt_of_cell? w _ W4)).trans W4)⟩ (fun hHeld=>?_)
        clear hK K
        refine o7 (a':=?_) ?_ ?_
        rotate_left
        ·show Act.put _ (some 4) _=_
         simp only [ap_,sb_,s0_,s1_,N0,P0]
         rfl
        refine one_ (i:=16) (N:=some 42) ap5 rfl rfl (M6 HT_.out (by kernel_rfl)) (by decide) (fun K hK=>?_)
        refine Go.Proofs.YtmddmbagehjdeaaX.V_conv_step _ 5 (by rfl) (N:=42) rfl 9 23 _ rfl (rdOf ByteArray.empty l0_1 0) rfl Try.underlying9 Try.underlying23 Try.underlying5 (Below.refl _ _) (Nat.le_refl _) dc_ ?_
        intro M4 X2 X6 hb hg_ hnew_
        clear hg_ hnew_
        (first|rw [←bX2.out] at X6|(simp only [Int.reduceToNat] at X6;rw [←bX2.out] at X6))
        have n7000_:=q5.mk (Kd.V_lower (Kd.V_mono (ok':=fun k_=>(w.heap.size≤k_)∧k_≠J7∧k_≠R6∧k_≠B0) X6 (fun k_ hk_=>⟨(Nat.le_trans (L0 bl_) hk_),(Kd.freshB (g:=J7) (o:=.cells #[.slice (some J1) l0_0.length c0_0,.slice (some Y6) l0_1.length c0_1] 98 (0,0)) (bo_ L4) k_ hk_),(Kd.freshB (g:=R6) (o:=.cells #[.int .i64 0,.int .i64 0,.int .i64 0,.slice none 0 0,.int .i64 0] 69 (0,0)) (bo_ E4) k_ hk_),(Kd.freshB (g:=B0) (o:=.cells #[.int .i64 0,.int .i64 0,.int .i64 0,.slice none 0 0,.int .i64 0] 69 (0,0)) (bo_ o0) k_ hk_)⟩)) (L0 bl_))
        have n7001_:=q5.mk (F0 (bo_ L4) hb)
        have n7002_:=q5.mk (F0 (bo_ E4) hb)
        have n7003_:=q5.mk (F0 (bo_ o0) hb)
        have n7004_:=q5.mk (E0 bl_ hb)
        clear L4
        clear E4
        clear o0
        clear HB
        have C0:=n7000_
        have L4:=n7001_
        have E4:=n7002_
        have o0:=n7003_
        have HB:=n7004_
        clear n7000_ n7001_ n7002_ n7003_ n7004_
        clear hb X6
        obtain⟨X1,V1,U2⟩:=Kd.V_slice C0.out
        (first|subst U2|(injection U2 with f1_ f2_ f3_;have f7000_:=f1_.symm;have f7001_:=f3_.symm;clear f1_ f2_ f3_;subst f7000_;subst f7001_))
        refine hK.out _ _ ⟨(m0 L4.out 0).trans rfl,(m0 L4.out 1).trans rfl,((HB.out.cell (World.block_lt_of_cell? w _ D2)).trans D2),((HB.out.cell (World.block_lt_of_cell? w _ I2)).trans I2),((HB.out.cell (World.block_lt_of_cell? w _ Y4)).trans Y4),((HB.out.cell (World.block_lt_of_cell? w _ Z4)).trans Z4),((HB.out.cell (World.block_lt_of_cell? w _ W4)).trans W4)⟩ (fun hHeld=>?_)
        clear hK K
        refine o7 (a':=?_) ?_ ?_
        rotate_left
        ·show Act.put _ (some 42) _=_
         simp only [ap_,sb_,s0_,s1_,N0,P0]
         rfl
        refine z1 (i:=21) (N:=some 47) (v:=?_) (a':=?_) aq3 rfl rfl (V0 HT_.out (by kernel_rfl)) (fun _ _ _ h=>h) (Or.inl ⟨by rfl,?_⟩) ?_ ?_
        rotate_left
        ·intro w'
         go_simp
         with_reducible rfl
        rotate_left
        ·simp only [ap_,sb_,s0_,s1_,N0,P0]
         rfl
        refine z1 (i:=22) (N:=some 48) (v:=?_) (a':=?_) S7 rfl rfl (V0 HT_.out (by kernel_rfl)) (fun _ _ _ h=>h) (Or.inl ⟨by rfl,?_⟩) ?_ ?_
        rotate_left
        ·intro w'
         go_simp
         with_reducible rfl
        rotate_left
        ·simp only [ap_,sb_,s0_,s1_,N0,P0]
         rfl
        exact o7 (by simp only [as2,Act.put,List.setIfInBounds_toArray,List.set_cons_zero,List.set_cons_succ]) (hCont (.slice X1 aj0.length V1,B0) _ ⟨hHeld,(vo_ C0),(bo_ L4),(bo_ E4),(bo_ o0),C2.out,F5.out,s7.out,M8.out,X7.out,L8.out,bl_⟩)
      rintro⟨M4,B0⟩ G4 ⟨hS_,h7000_,h7001_,h7002_,h7003_,h7004_,h7005_,h7006_,h7007_,h7008_,h7009_,h7010_⟩
      have n7000_:q5 (Kd.V (Kd.int .u8) 5 G4 w.heap.size (fun k_=>(w.heap.size≤k_)∧k_≠J7∧k_≠R6∧k_≠B0) M4 aj0):=⟨h7000_⟩
      have n7001_:q5 (G4.heap[J7]?=some (.cells #[.slice (some J1) l0_0.length c0_0,.slice (some Y6) l0_1.length c0_1] 98 (0,0))):=⟨h7001_⟩
      have n7002_:q5 (G4.heap[R6]?=some (.cells #[.int .i64 0,.int .i64 0,.int .i64 0,.slice none 0 0,.int .i64 0] 69 (0,0))):=⟨h7002_⟩
      have n7003_:q5 (G4.heap[B0]?=some (.cells #[.int .i64 0,.int .i64 0,.int .i64 0,.slice none 0 0,.int .i64 0] 69 (0,0))):=⟨h7003_⟩
      have n7004_:q5 (w.heap.size≤B0):=⟨h7004_⟩
      have n7005_:q5 (w.heap.size≤B0):=⟨h7005_⟩
      have n7006_:q5 (J7≠B0):=⟨h7006_⟩
      have n7007_:q5 (B0≠J7):=⟨h7007_⟩
      have n7008_:q5 (R6≠B0):=⟨h7008_⟩
      have n7009_:q5 (B0≠R6):=⟨h7009_⟩
      have n7010_:q5 (Below w.heap.size w G4):=⟨h7010_⟩
      clear L4
      clear E4
      clear HB
      clear h7000_ h7001_ h7002_ h7003_ h7004_ h7005_ h7006_ h7007_ h7008_ h7009_ h7010_
      have C0:=n7000_
      have L4:=n7001_
      have E4:=n7002_
      have o0:=n7003_
      have C2:=n7004_
      have F5:=n7005_
      have s7:=n7006_
      have M8:=n7007_
      have X7:=n7008_
      have L8:=n7009_
      have HB:=n7010_
      clear n7000_ n7001_ n7002_ n7003_ n7004_ n7005_ n7006_ n7007_ n7008_ n7009_ n7010_
      have hHeld:G4.cell? ⟨J7,0,none⟩=some (.slice (some J1) l0_0.length c0_0)∧G4.cell? ⟨J7,1,none⟩=some (.slice (some Y6) l0_1.length c0_1)∧G4.cell? J1=some (.int .i64 (rd l0_0 0))∧G4.cell? ⟨J1.block,J1.off+1,none⟩=some (.int .i64 (rd l0_0 1))∧G4.cell? ⟨J1.block,J1.off+2,none⟩=some (.int .i64 (rd l0_0 2))∧G4.cell? Y6=some (.string (rdOf ByteArray.empty l0_1 0))∧G4.cell? ⟨J1.block,J1.off+3,none⟩=some (.int .i64 (rd l0_0 3)):=hS_
      obtain⟨F4,V3,n8⟩:=Kd.V_slice C0.out
      (first|subst n8|(injection n8 with f1_ f2_ f3_;have f7000_:=f1_.symm;have f7001_:=f3_.symm;clear f1_ f2_ f3_;subst f7000_;subst f7001_))
      refine o7 (a':=?_) ?_ ?_
      rotate_left
      ·simp only [as2,Act.put,List.setIfInBounds_toArray,List.set_cons_zero,List.set_cons_succ]
       rfl
      refine one_ (i:=24) (N:=none) aq2 rfl rfl (M6 HT_.out (by kernel_rfl)) (by decide) (fun K hK=>?_)
      have bk1:G4.cell? ⟨B0,0,none⟩=some (.int .i64 0):=(m0 o0.out 0).trans rfl
      have aT1:=t0 o0.out 0
      have bf2:=s7.out
      have bf8:=X7.out
      have bf3:=M8.out
      have bh7:=L8.out
      have bl1:G4.cell? ⟨B0,1,none⟩=some (.int .i64 0):=(m0 o0.out 1).trans rfl
      have aU5:=t0 o0.out 1
      have bj8:=s7.out
      have bj5:=X7.out
      have bi6:=M8.out
      have be5:=L8.out
      have bl4:G4.cell? ⟨B0,2,none⟩=some (.int .i64 0):=(m0 o0.out 2).trans rfl
      have aU3:=t0 o0.out 2
      have bf9:=s7.out
      have bj1:=X7.out
      have bi3:=M8.out
      have bh9:=L8.out
      have bn8:G4.cell? ⟨B0,3,none⟩=some (.slice none 0 0):=(m0 o0.out 3).trans rfl
      have aS8:=t0 o0.out 3
      have bj3:=s7.out
      have bg4:=X7.out
      have bf5:=M8.out
      have bj2:=L8.out
      have bI5:G4.cell? ⟨B0,4,none⟩=some (.int .i64 0):=(m0 o0.out 4).trans rfl
      have bp0:=t0 o0.out 4
      have cb7:=s7.out
      have bi0:=X7.out
      have cb4:=M8.out
      have bh1:=L8.out
      refine aR2 (w1:=?_) (by rfl) rfl ?_ ?_
      rotate_left
      ·go_simp
       rfl
      refine hK.out _ _ ⟨(G7 (g:=B0) s7.out (hHeld.1)),(G7 (g:=B0) s7.out (hHeld.2.1)),(G7 (g:=B0) (nq_ D2 C2.out) (hHeld.2.2.1)),(G7 (g:=B0) (nq_ I2 C2.out) (hHeld.2.2.2.1)),(G7 (g:=B0) (nq_ Y4 C2.out) (hHeld.2.2.2.2.1)),(G7 (g:=B0) (nq_ Z4 C2.out) (hHeld.2.2.2.2.2.1)),(G7 (g:=B0) (nq_ W4 C2.out) (hHeld.2.2.2.2.2.2))⟩ (fun hHeld=>?_)
      clear hK K
      refine ab2 (K7 HT_.out (by kernel_rfl)) ?_
      have V6:=M8.out
      have Z6:=s7.out
      have aT0:=L8.out
      have aU7:=X7.out
      obtain⟨Y2,z3,V8,P9,O9,D3,Z2,l9,S9,R9⟩:=X4 o0.out
      try go_wp2_with (first|((with_reducible refine C1 (f:=43) rfl ?_);refine goL_ (some 50) Try.func43 #[.agg #[.int .i64 (rd l0_0 0),.int .i64 (rd l0_0 1),.int .i64 (rd l0_0 2),.slice F4 aj0.length V3,.int .i64 (rd l0_0 3)]] ?_;(with_reducible refine(q62.calls kj1 (rd l0_0 0) (rd l0_0 1) (rd l0_0 2) _ _ aj0 (rd l0_0 3) aX0 _ ?side1 ?side2 A23.out).mono ?_);(case side1=>refine(Kd.V_reads' (e:=5) (base:=w.heap.size) (ok:=fun k_=>((w.heap.size≤k_)∧(k_≠J7∧(k_≠R6∧k_≠B0)))) (n:=aj0.length) (c:=V3) ?_).2.2;exact(vt_ ((Kd.V_mono (U9 (g:=B0) (Kd.V_mono C0.out (fun k_ hk=>(⟨hk,hk.2.2.2⟩:_∧k_≠B0))) (fun _ hk=>hk.2) (.int .i64 (rd l0_0 0)) (.int .i64 (rd l0_0 1)) (.int .i64 (rd l0_0 2)) (.slice F4 aj0.length V3) (.int .i64 (rd l0_0 3))) (fun _ h_=>h_.1)))));(case side2=>exact(Kd.V_reads' C0.out).2.1);rintro e Z9 ⟨rfl,hb⟩;refine⟨_,rfl,?_⟩;have n_:=pk5 (Kd.V_below (vt_ ((Kd.V_mono (U9 (g:=B0) (Kd.V_mono C0.out (fun k_ hk=>(⟨hk,hk.2.2.2⟩:_∧k_≠B0))) (fun _ hk=>hk.2) (.int .i64 (rd l0_0 0)) (.int .i64 (rd l0_0 1)) (.int .i64 (rd l0_0 2)) (.slice F4 aj0.length V3) (.int .i64 (rd l0_0 3))) (fun _ h_=>h_.1)))) hb) (F0 (g:=J7) (o:=.cells #[.slice (some J1) l0_0.length c0_0,.slice (some Y6) l0_1.length c0_1] 98 (0,0)) (by(with_reducible repeat(first|refine G0 ?_ _|refine J0 ?_|refine I0 ?_ _));refine U5 ?_ s7.out;exact(bo_ L4)) hb) (F0 (g:=R6) (o:=.cells #[.int .i64 0,.int .i64 0,.int .i64 0,.slice none 0 0,.int .i64 0] 69 (0,0)) (by(with_reducible repeat(first|refine G0 ?_ _|refine J0 ?_|refine I0 ?_ _));refine U5 ?_ X7.out;exact(bo_ E4)) hb) (F0 (g:=B0) (o:=.cells #[.int .i64 (rd l0_0 0),.int .i64 (rd l0_0 1),.int .i64 (rd l0_0 2),.slice F4 aj0.length V3,.int .i64 (rd l0_0 3)] 69 (0,0)) (by(with_reducible repeat(first|refine G0 ?_ _|refine J0 ?_|refine I0 ?_ _));refine X8 (cs:=#[.int .i64 0,.int .i64 0,.int .i64 0,.slice none 0 0,.int .i64 0]) ?_ rfl;exact(bo_ o0)) hb) (E0 bl_ hb);clear C0 L4 E4 o0 HB;obtain⟨C0,L4,E4,o0,HB⟩:=n_;(try clear hb);(try(have aC4:=ak5.out;have aB3:=ak3.out;have z4:Z9.cell? ⟨R6,0,none⟩=some (.int .i64 0):=(m0 E4.out 0).trans rfl;have C4:Z9.cell? ⟨R6,1,none⟩=some (.int .i64 0):=(m0 E4.out 1).trans rfl;have E8:Z9.cell? ⟨R6,2,none⟩=some (.int .i64 0):=(m0 E4.out 2).trans rfl;have s8:Z9.cell? ⟨R6,3,none⟩=some (.slice none 0 0):=(m0 E4.out 3).trans rfl;have r8:Z9.cell? ⟨R6,4,none⟩=some (.int .i64 0):=(m0 E4.out 4).trans rfl;have j4:=t0 E4.out 0;have Z3:=t0 E4.out 1;have v8:=t0 E4.out 2;have z8:=t0 E4.out 3;have t8:=t0 E4.out 4));(try(have z4:Z9.cell? ⟨B0,0,none⟩=some (.int .i64 (rd l0_0 0)):=(m0 o0.out 0).trans rfl;have C4:Z9.cell? ⟨B0,1,none⟩=some (.int .i64 (rd l0_0 1)):=(m0 o0.out 1).trans rfl;have E8:Z9.cell? ⟨B0,2,none⟩=some (.int .i64 (rd l0_0 2)):=(m0 o0.out 2).trans rfl;have s8:Z9.cell? ⟨B0,3,none⟩=some (.slice F4 aj0.length V3):=(m0 o0.out 3).trans rfl;have r8:Z9.cell? ⟨B0,4,none⟩=some (.int .i64 (rd l0_0 3)):=(m0 o0.out 4).trans rfl;have j4:=t0 o0.out 0;have Z3:=t0 o0.out 1;have v8:=t0 o0.out 2;have z8:=t0 o0.out 3;have t8:=t0 o0.out 4)))|((with_reducible refine C1 (f:=50) rfl ?_);refine goL_ (some 55) Try.func50 #[.agg #[.int .i64 (rd l0_0 0),.int .i64 (rd l0_0 1),.int .i64 (rd l0_0 2),.slice F4 aj0.length V3,.int .i64 (rd l0_0 3)]] ?_;(with_reducible refine(q56.calls kj1 (rd l0_0 0) (rd l0_0 1) (rd l0_0 2) _ _ aj0 (rd l0_0 3) bk5 bk7 dd9 _ ?side1 ?side2 A25.out).mono ?_);(case side1=>exact cv_ C0);(case side2=>exact(Kd.V_reads' C0.out).2.1);rintro e au8 ⟨z5,ae1,rfl,am1,aH7,hb⟩;refine⟨_,rfl,?_⟩;have n_:=pk7 (Kd.V_mono (Kd.V_told (Kd.V_told (Kd.V_old (vo_ C0) hb) (Kd.R_base am1)) (Kd.R_base aH7)) (fun _ h_=>h_.1)) (Kd.R_lower (Kd.R_newM (M:=fun k_=>(w.heap.size≤k_)) am1 (L0 bl_) (fun k_ h_=>h_)) (L0 bl_)) (Kd.R_lower (Kd.R_newM (M:=fun k_=>(w.heap.size≤k_)) aH7 (L0 bl_) (fun k_ h_=>h_)) (L0 bl_)) (F0 (bo_ L4) hb) (F0 (bo_ E4) hb) (F0 (bo_ o0) hb) (E0 bl_ hb);clear C0 L4 E4 o0 HB;obtain⟨C0,Q0,E1,L4,E4,o0,HB⟩:=n_;(try clear hb am1 aH7))|((with_reducible refine X0 (N:=5) rfl ?_);(try(refine O2 (by rfl) ?_;dsimp only));refine L2 5 #[.slice none 0 0,.slice none 0 0] 98 ?_;intro S0 hg bi7 hbox hb;have n7000_:=q5.mk (Kd.V_below (Kd.V_elderB (vo_ C0) S0 (Nat.le_of_eq hg.symm)) hb);have n7001_:=q5.mk (Kd.R_below (ro_ Q0) hb);have n7002_:=q5.mk (Kd.R_below (ro_ E1) hb);have n7003_:=q5.mk (F0 (bo_ L4) hb);have n7004_:=q5.mk (F0 (bo_ E4) hb);have n7005_:=q5.mk (F0 (bo_ o0) hb);have n7006_:=q5.mk (E0 bl_ hb);have n7007_:=q5.mk (hbox);have n7008_:=q5.mk ((ge_ hg bl_:w.heap.size≤S0));have n7009_:=q5.mk ((ge_ hg bl_:w.heap.size≤S0));have n7010_:=q5.mk ((nb_ hg (bo_ L4):J7≠S0));have n7011_:=q5.mk ((nc_ hg (bo_ L4):S0≠J7));have n7012_:=q5.mk ((nb_ hg (bo_ E4):R6≠S0));have n7013_:=q5.mk ((nc_ hg (bo_ E4):S0≠R6));have n7014_:=q5.mk ((nb_ hg (bo_ o0):B0≠S0));have n7015_:=q5.mk ((nc_ hg (bo_ o0):S0≠B0));clear C0;clear Q0;clear E1;clear L4;clear E4;clear o0;clear HB;have C0:=n7000_;have Q0:=n7001_;have E1:=n7002_;have L4:=n7003_;have E4:=n7004_;have o0:=n7005_;have HB:=n7006_;have O0:=n7007_;have V9:=n7008_;have W9:=n7009_;have aG7:=n7010_;have bS0:=n7011_;have aH6:=n7012_;have bM1:=n7013_;have Q1:=n7014_;have F1:=n7015_;clear n7000_ n7001_ n7002_ n7003_ n7004_ n7005_ n7006_ n7007_ n7008_ n7009_ n7010_ n7011_ n7012_ n7013_ n7014_ n7015_;clear hb hbox hg;obtain⟨aw7,at9,bk9⟩:=Kd.R_slice Q0.out;subst bk9;have aC4:=bS0.out;have aB3:=aG7.out;have bU7:=bM1.out;have bU2:=aH6.out;have bS6:=F1.out;have bW7:=Q1.out;have W8:bi7.cell? ⟨S0,0,none⟩=some (.slice none 0 0):=(m0 O0.out 0).trans rfl;have j9:bi7.cell? ⟨S0,1,none⟩=some (.slice none 0 0):=(m0 O0.out 1).trans rfl;have d9:=t0 O0.out 0;have Y8:=t0 O0.out 1;obtain⟨ay2,at3,bo0⟩:=Kd.R_slice E1.out;subst bo0;have bV1:=ak3.out;have bT0:=ak5.out;have ad9:bi7.cell? ⟨J7,0,none⟩=some (.slice (some J1) l0_0.length c0_0):=(m0 L4.out 0).trans rfl;have ac9:bi7.cell? ⟨J7,1,none⟩=some (.slice (some Y6) l0_1.length c0_1):=(m0 L4.out 1).trans rfl;have ad5:=t0 L4.out 0;have ad3:=t0 L4.out 1)|(go_at_call 78;(with_reducible refine(q73.calls kj1 _ _ bk5 _ _ bk7 _ _ l0_0 _ _ l0_1 true _ ?side1 ?side2 ?side3 ?side4 ?side5 ?side6 ?side7 ?side8 A27.out).mono ?_);(case side1=>refine(Kd.R_reads' (e:=3) (base:=w.heap.size) (ok:=fun k_=>((w.heap.size≤k_)∧True)) (n:=bk5.length) (c:=at9) ?_).2.2;exact(rt_ ((Kd.R_mono (Kd.R_far (p:=⟨S0,1,none⟩) (Kd.R_far (p:=⟨S0,0,none⟩) (Kd.R_types Q0.out O0.out (by decide)) (fun _ hk=>hk.2) (.slice aw7 bk5.length at9)) (fun _ hk=>hk.2) (.slice ay2 bk7.length at3)) (fun _ h_=>h_.1)))));(case side2=>exact(Kd.R_reads' Q0.out).2.1);(case side3=>refine(Kd.R_reads' (e:=9) (base:=w.heap.size) (ok:=fun k_=>((w.heap.size≤k_)∧True)) (n:=bk7.length) (c:=at3) ?_).2.2;exact(rt_ ((Kd.R_mono (Kd.R_far (p:=⟨S0,1,none⟩) (Kd.R_far (p:=⟨S0,0,none⟩) (Kd.R_types E1.out O0.out (by decide)) (fun _ hk=>hk.2) (.slice aw7 bk5.length at9)) (fun _ hk=>hk.2) (.slice ay2 bk7.length at3)) (fun _ h_=>h_.1)))));(case side4=>exact(Kd.R_reads' E1.out).2.1);(case side5=>exact Kd.C_below HR0_0.out bl_);(case side6=>exact HC0_0.out);(case side7=>exact Kd.C_below HR0_1.out bl_);(case side8=>exact HC0_1.out);rintro e av4 ⟨rfl,hb⟩;have n_:=pk8 (Kd.V_below (vt_ ((Kd.V_mono (Kd.V_far (p:=⟨S0,1,none⟩) (Kd.V_far (p:=⟨S0,0,none⟩) (Kd.V_mono C0.out (fun k_ hk=>(⟨hk,hk.2⟩:_∧k_≠S0))) (fun _ hk=>hk.2) (.slice aw7 bk5.length at9)) (fun _ hk=>hk.2) (.slice ay2 bk7.length at3)) (fun _ h_=>h_.1)))) hb) (Kd.R_below (rt_ ((Kd.R_mono (Kd.R_far (p:=⟨S0,1,none⟩) (Kd.R_far (p:=⟨S0,0,none⟩) (Kd.R_types Q0.out O0.out (by decide)) (fun _ hk=>hk.2) (.slice aw7 bk5.length at9)) (fun _ hk=>hk.2) (.slice ay2 bk7.length at3)) (fun _ h_=>h_.1)))) hb) (Kd.R_below (rt_ ((Kd.R_mono (Kd.R_far (p:=⟨S0,1,none⟩) (Kd.R_far (p:=⟨S0,0,none⟩) (Kd.R_types E1.out O0.out (by decide)) (fun _ hk=>hk.2) (.slice aw7 bk5.length at9)) (fun _ hk=>hk.2) (.slice ay2 bk7.length at3)) (fun _ h_=>h_.1)))) hb) (F0 (g:=J7) (o:=.cells #[.slice (some J1) l0_0.length c0_0,.slice (some Y6) l0_1.length c0_1] 98 (0,0)) (by(with_reducible repeat(first|refine G0 ?_ _|refine J0 ?_|refine I0 ?_ _));refine Y0 ?_ aG7.out _;(with_reducible repeat(first|refine G0 ?_ _|refine J0 ?_|refine I0 ?_ _));refine Y0 ?_ aG7.out _;exact(bo_ L4)) hb) (F0 (g:=R6) (o:=.cells #[.int .i64 0,.int .i64 0,.int .i64 0,.slice none 0 0,.int .i64 0] 69 (0,0)) (by(with_reducible repeat(first|refine G0 ?_ _|refine J0 ?_|refine I0 ?_ _));refine Y0 ?_ aH6.out _;(with_reducible repeat(first|refine G0 ?_ _|refine J0 ?_|refine I0 ?_ _));refine Y0 ?_ aH6.out _;exact(bo_ E4)) hb) (F0 (g:=B0) (o:=.cells #[.int .i64 (rd l0_0 0),.int .i64 (rd l0_0 1),.int .i64 (rd l0_0 2),.slice F4 aj0.length V3,.int .i64 (rd l0_0 3)] 69 (0,0)) (by(with_reducible repeat(first|refine G0 ?_ _|refine J0 ?_|refine I0 ?_ _));refine Y0 ?_ Q1.out _;(with_reducible repeat(first|refine G0 ?_ _|refine J0 ?_|refine I0 ?_ _));refine Y0 ?_ Q1.out _;exact(bo_ o0)) hb) (F0 (g:=S0) (o:=.cells #[.slice aw7 bk5.length at9,.slice ay2 bk7.length at3] 98 (0,0)) (by(with_reducible repeat(first|refine G0 ?_ _|refine J0 ?_|refine I0 ?_ _));refine aV8 (cs:=#[.slice none 0 0,.slice none 0 0]) ?_ rfl;exact(bo_ O0)) hb) (E0 bl_ hb);clear C0 Q0 E1 L4 E4 o0 O0 HB;obtain⟨C0,Q0,E1,L4,E4,o0,O0,HB⟩:=n_;(try clear hb);have aC0:av4.cell? ⟨B0,0,none⟩=some (.int .i64 (rd l0_0 0)):=(m0 o0.out 0).trans rfl;have aB9:av4.cell? ⟨B0,1,none⟩=some (.int .i64 (rd l0_0 1)):=(m0 o0.out 1).trans rfl;have cP5:av4.cell? ⟨B0,2,none⟩=some (.int .i64 (rd l0_0 2)):=(m0 o0.out 2).trans rfl;have cQ0:av4.cell? ⟨B0,3,none⟩=some (.slice F4 aj0.length V3):=(m0 o0.out 3).trans rfl;have cR5:av4.cell? ⟨B0,4,none⟩=some (.int .i64 (rd l0_0 3)):=(m0 o0.out 4).trans rfl;have aB5:=t0 o0.out 0;have aC2:=t0 o0.out 1;have cS2:=t0 o0.out 2;have cR3:=t0 o0.out 3;have cP9:=t0 o0.out 4;have ce5:av4.cell? ⟨R6,0,none⟩=some (.int .i64 0):=(m0 E4.out 0).trans rfl;have ce8:av4.cell? ⟨R6,1,none⟩=some (.int .i64 0):=(m0 E4.out 1).trans rfl;have cQ5:av4.cell? ⟨R6,2,none⟩=some (.int .i64 0):=(m0 E4.out 2).trans rfl;have cR0:av4.cell? ⟨R6,3,none⟩=some (.slice none 0 0):=(m0 E4.out 3).trans rfl;have cQ6:av4.cell? ⟨R6,4,none⟩=some (.int .i64 0):=(m0 E4.out 4).trans rfl;have ca2:=t0 E4.out 0;have cc7:=t0 E4.out 1;have cS1:=t0 E4.out 2;have cQ7:=t0 E4.out 3;have cR1:=t0 E4.out 4))
      first
       |refine bodyPost_ret (N5 rfl _ _ R6 69 #[.int .i64 (rd l0_0 0),.int .i64 (rd l0_0 1),.int .i64 (rd l0_0 2),.slice F4 aj0.length V3,.int .i64 (rd l0_0 3)] (0,0) _ rfl (by(with_reducible repeat(first|refine G0 ?_ _|refine J0 ?_|refine I0 ?_ _));refine X8 (cs:=#[.int .i64 0,.int .i64 0,.int .i64 0,.slice none 0 0,.int .i64 0]) ?_ rfl;exact(bo_ E4)) Try.underlying69 rfl (by kernel_rfl)) rfl ?_
        exact⟨_,rf_,(vt_ (Kd.V_mono (U9 (g:=R6) (Kd.V_mono C0.out (fun k_ hk=>(⟨hk,hk.1.1.1.2.2.1⟩:_∧k_≠R6))) (fun _ hk=>hk.2) (.int .i64 (rd l0_0 0)) (.int .i64 (rd l0_0 1)) (.int .i64 (rd l0_0 2)) (.slice F4 aj0.length V3) (.int .i64 (rd l0_0 3))) (fun _ hk=>hk.1.1.1.1.1))),bl_⟩
       |refine bodyPost_ret (N5 rfl _ _ R6 69 #[.int .i64 0,.int .i64 0,.int .i64 0,.slice none 0 0,.int .i64 0] (0,0) _ rfl (by(with_reducible repeat(first|refine G0 ?_ _|refine J0 ?_|refine I0 ?_ _));refine X8 (cs:=#[.int .i64 0,.int .i64 0,.int .i64 0,.slice none 0 0,.int .i64 0]) ?_ rfl;exact(bo_ E4)) Try.underlying69 rfl (by kernel_rfl)) rfl ?_
        exact⟨_,rf_,(Kd.V_nil _ _ _ _ _),bl_⟩
     |go_wp2
      refine bodyPost_ret (N5 rfl _ _ R6 69 #[.int .i64 0,.int .i64 0,.int .i64 0,.slice none 0 0,.int .i64 0] (0,0) _ rfl (by(with_reducible repeat(first|refine G0 ?_ _|refine J0 ?_|refine I0 ?_ _));refine X8 (cs:=#[.int .i64 0,.int .i64 0,.int .i64 0,.slice none 0 0,.int .i64 0]) ?_ rfl;exact(bo_ E4)) Try.underlying69 rfl (by kernel_rfl)) rfl ?_
      exact⟨_,rf_,(Kd.V_nil _ _ _ _ _),bl_⟩
end Go.Proofs.Ytmddmbagehjdeaa.G
end
section
namespace Go.Proofs.Ytmddmbagehjdeaa.G
open Go.RowKit Go.Proofs.YtmddmbagehjdeaaX Go.Proofs.YtmddmbagehjdeaaW.PrintWords Go.Proofs.YtmddmbagehjdeaaW.PrintLast Go.Proofs.YtmddmbagehjdeaaW.PrintMore
attribute [local go_sem] S3 R3 R4 S4 P3 N3 D4 Y3
def q13.j0:Nat→Bool→List Int→List ByteArray→Option (Int×Int×Int×List Int×Int×Bool)
 |0,_,_,_=>none
 |k+1,x24,F7,aK7=>if x24=true then(some (0,0,0,([]:List Int),0,false))else(if 0<(F7.length:Int)then(if 1<(F7.length:Int)then(if 2<(F7.length:Int)then(if 0<(aK7.length:Int)then(if(rdOf ByteArray.empty aK7 0).size≤140737488355328 then((some (V4 (rdOf ByteArray.empty aK7 0):List Int)).bind fun aa0=>(if 3<(F7.length:Int)then((q6.f k (rd F7 0) (rd F7 1) (rd F7 2) aa0 (rd F7 3)).bind fun bI9=>(if bI9.2=true then((q55.f (rd F7 0) (rd F7 1) (rd F7 2) aa0 (rd F7 3)).bind fun aW0=>((q50.f k aW0.1 aW0.2 F7 aK7).bind fun bA8=>(if bA8=true then(some (rd F7 0,rd F7 1,rd F7 2,aa0,rd F7 3,true))else(none))))else(some (0,0,0,([]:List Int),0,false))))else(none)))else(none))else(none))else(none))else(none))else(none))
def q13.f (k:Nat) (l0_0:List Int) (l0_1:List ByteArray):Option (Int×Int×Int×List Int×Int×Bool):=if(l0_0.length:Int)=4 then(if(l0_1.length:Int)=1 then(if 0<(l0_1.length:Int)then(q13.j0 k (decide (((rdOf ByteArray.empty l0_1 0).size:Int)>4096)) l0_0 l0_1)else(none))else(q13.j0 k true l0_0 l0_1))else(q13.j0 k true l0_0 l0_1)
def q13.T3:Bool×List (List Nat×List Nat):=(true,[([],[]),([0],[0]),([1],[1]),([2],[2]),([],[]),([4],[4]),([5],[5]),([6],[6]),([],[]),([8],[8]),([9],[9]),([10],[10]),([],[]),([12],[12]),([13],[13]),([14],[14]),([15],[15]),([],[]),([17],[17]),([18],[18]),([19],[19]),([16,20],[16,20]),([3,7,11,21],[3,7,11,21]),([],[]),([23,22,0,1,2,3,4,5,6,7,8,9,10,11,12,13,14,15,16,17,18,19,20,21,22,23],[22,23])])
def q13.B3:List Nat:=[0,1,3,7,0,16,48,112,0,256,768,1792,0,4096,12288,28672,61440,0,131072,393216,917504,2093056,4194303,0,16777215]
theorem q13.tab3:rtab .any (ap1 Try.f52 3)=q13.T3:=by kernel_rfl
theorem q13.bits3:b8 q13.T3.2 q13.B3=true:=by kernel_rfl
def q13.T5:Bool×List (List Nat×List Nat):=(true,[([],[]),([0],[0]),([1],[1]),([2],[2]),([3,2,2],[2,3]),([2],[2]),([4,5,4,2],[2,4,5]),([6,2],[2,6]),([2,7],[2,7])])
def q13.B5:List Nat:=[0,1,3,7,15,7,63,127,255]
theorem q13.tab5:rtab .any (ap1 Try.f52 5)=q13.T5:=by kernel_rfl
theorem q13.bits5:b8 q13.T5.2 q13.B5=true:=by kernel_rfl
set_option maxHeartbeats 80000000 in
theorem q13.calls (k:Nat) (A0_0:Option Addr) (c0_0:Nat) (l0_0:List Int) (A0_1:Option Addr) (c0_1:Nat) (l0_1:List ByteArray) (r1:Int) (r2:Int) (r3:Int) (r4:List Int) (r5:Int) (r6:Bool) (w:World) (hr0_0:Kd.C (Kd.int .i64) w A0_0 l0_0.length l0_0) (hc0_0:l0_0.length≤c0_0) (hr0_1:Kd.C Kd.string w A0_1 l0_1.length l0_1) (hc0_1:l0_1.length≤c0_1) (h:q13.f k l0_0 l0_1=some (r1,r2,r3,r4,r5,r6)) :
  Calls Try.prog 52 #[.agg #[.slice A0_0 l0_0.length c0_0,.slice A0_1 l0_1.length c0_1]] w fun e w'=>∃ v3_:Value,e=.returned (.tuple #[.agg #[.int .i64 r1,.int .i64 r2,.int .i64 r3,v3_,.int .i64 r5],.bool r6])∧Kd.V (Kd.int .u8) 5 w' w.heap.size (fun k_=>(w.heap.size≤k_)) v3_ r4∧Below w.heap.size w w':=by
 have hu98:=Try.underlying98
 have hu69:=Try.underlying69
 have hu25:=Try.underlying25
 have HR0_0:=q5.mk hr0_0
 have HC0_0:=q5.mk hc0_0
 clear hr0_0 hc0_0
 have HR0_1:=q5.mk hr0_1
 have HC0_1:=q5.mk hc0_1
 clear hr0_1 hc0_1
 have HB:=q5.mk (Below.refl w.heap.size w)
 have H:(if(l0_0.length:Int)=4 then(if(l0_1.length:Int)=1 then(if 0<(l0_1.length:Int)then(q13.j0 k (decide (((rdOf ByteArray.empty l0_1 0).size:Int)>4096)) l0_0 l0_1)else(none))else(q13.j0 k true l0_0 l0_1))else(q13.j0 k true l0_0 l0_1))=some (r1,r2,r3,r4,r5,r6):=h
 clear h
 have HC2:=q5.mk H
 clear H
 go_enter Try.func52,Try.ntmps52
 go_upto_region 1 with(first|((with_reducible refine X0 (N:=1) rfl ?_);(try(refine O2 (by rfl) ?_;dsimp only));refine L2 1 #[.slice A0_0 l0_0.length c0_0,.slice A0_1 l0_1.length c0_1] 98 ?_;intro K6 hg w3 hbox hb;have n_:=pk4 (E0 bl_ hb) (hbox) ((ge_ hg bl_:w.heap.size≤K6)) ((ge_ hg bl_:w.heap.size≤K6));clear HB;obtain⟨HB,C3,dj4,dm0⟩:=n_;clear hb hbox hg)|((with_reducible refine X0 (N:=2) rfl ?_);(try(refine O2 (by rfl) ?_;dsimp only));refine L2 2 #[.int .i64 0,.int .i64 0,.int .i64 0,.slice none 0 0,.int .i64 0] 69 ?_;intro j7 hg w4 hbox hb;have n_:=pk7 (F0 (bo_ C3) hb) (E0 bl_ hb) (hbox) ((ge_ hg bl_:w.heap.size≤j7)) ((ge_ hg bl_:w.heap.size≤j7)) ((nb_ hg (bo_ C3):K6≠j7)) ((nc_ hg (bo_ C3):j7≠K6));clear C3 HB;obtain⟨C3,HB,J4,dn1,dm2,ad4,ac8⟩:=n_;clear hb hbox hg))
 (try simp only [ap_,sb_,s0_,s1_])
 go_cut [24] (fun v24 wc=>∃ (kq:Nat) (x24_1:Bool),v24=.bool x24_1∧q5 (q13.j0 kq x24_1 l0_0 l0_1=some (r1,r2,r3,r4,r5,r6))∧q5 (kq≤k)∧q5 (wc.heap[K6]?=some (.cells #[(.slice A0_0 l0_0.length c0_0),(.slice A0_1 l0_1.length c0_1)] 98 (0,0)))∧q5 (wc.heap[j7]?=some (.cells #[.int .i64 0,.int .i64 0,.int .i64 0,(.slice none 0 0),.int .i64 0] 69 (0,0)))∧q5 (Below w.heap.size w wc))
 case first =>
  have H:=HC2.out
  clear HC2
  replace H:=deqn H
  rcases H with⟨c5b0,c5b1,H⟩|⟨c5b0,c5b1,c5,H⟩
  focus
   (first|rw [c5b0]|(simp only [N0,P0];rw [c5b0])|skip)
   replace H:=deqn H
   rcases H with⟨c6b0,c6b1,H⟩|⟨c6b0,c6b1,c6,H⟩
   focus
    by_cases c7:0<(l0_1.length:Int)
    rotate_left
    ·rw [if_neg c7] at H
     exact absurd H (by simp)
    rw [if_pos c7] at H
    have c7b0:decide (0<(l0_1.length:Int))=true:=decide_eq_true c7
    have c7b1:decide (0<l0_1.length)=true:=decide_eq_true (by omega)
    clear c7
    have H':=q5.mk H
    clear H
    have hnb8:=ad4.out
    have hnc8:=ac8.out
    obtain⟨hcz9_0,hcz9_1,hfz9_0,hfz9_1⟩:=N4 C3.out
    have ci0:0≤(0:Int):=(by omega)
    have ci1:0<(l0_1.length:Int):=dc_
    obtain⟨di2,cZ8,aw5⟩:=Kd.at_string HR0_1.out 0 ci0 ci1
    cases cZ8
    have dk4:(0<l0_1.length)=True:=eq_true (by omega)
    (try rw [show((0:Int)).toNat=0 from rfl] at aw5)
    (try rw [Addr.add_zero'] at aw5)
    replace aw5:=(HB.out.cell (World.block_lt_of_cell? w _ aw5)).trans aw5
    replace ci0:=eq_true ci0
    replace ci1:=eq_true ci1
   rotate_left
   focus
    have H':=q5.mk H
    clear H
    have hnb10:=ad4.out
    have hnc10:=ac8.out
    obtain⟨hcz11_0,hcz11_1,hfz11_0,hfz11_1⟩:=N4 C3.out
  rotate_left 2
  focus
   (first|rw [c5b0]|(simp only [N0,P0];rw [c5b0])|skip)
   have H':=q5.mk H
   clear H
   have hnb12:=ad4.out
   have hnc12:=ac8.out
   obtain⟨hcz13_0,hcz13_1,hfz13_0,hfz13_1⟩:=N4 C3.out
  all_goals
   go_wp2
   go_meet
   first
    |case rel=>exact⟨_,(decide (((rdOf ByteArray.empty l0_1 0).size:Int)>4096)),sm_,H',⟨om_⟩,⟨(bo_ C3)⟩,⟨(bo_ J4)⟩,⟨bl_⟩⟩
    |case rel=>exact⟨_,(true),sm_,H',⟨om_⟩,⟨(bo_ C3)⟩,⟨(bo_ J4)⟩,⟨bl_⟩⟩
 case rest =>
  clear HC2
  obtain⟨kq,x24_1,rfl,HA,HJ1,C3,J4,HB⟩:=hcut
  cases kq with
  |zero=>exact absurd HA.out (by simp [q13.j0])
  |succ kj1 =>
   have H:=HA.out
   clear HA
   simp only [q13.j0] at H
   replace H:=Q7 H
   rcases H with⟨rfl,H⟩|⟨rfl,H⟩
   ·simp only [Option.some.injEq,Prod.mk.injEq] at H
    obtain⟨rfl,rfl,rfl,rfl,rfl,rfl⟩:=H
    have hnb15:=ac8.out
    have hnc15:=ad4.out
    obtain⟨hcz16_0,hcz16_1,hcz16_2,hcz16_3,hcz16_4,hfz16_0,hfz16_1,hfz16_2,hfz16_3,hfz16_4⟩:=X4 J4.out
    go_wp2
    refine bodyPost_ret (N5 rfl _ _ j7 69 #[.int .i64 0,.int .i64 0,.int .i64 0,.slice none 0 0,.int .i64 0] (0,0) _ rfl (by(with_reducible repeat(first|refine G0 ?_ _|refine J0 ?_|refine I0 ?_ _));refine X8 (cs:=#[.int .i64 0,.int .i64 0,.int .i64 0,.slice none 0 0,.int .i64 0]) ?_ rfl;exact(bo_ J4)) Try.underlying69 rfl (by kernel_rfl)) rfl ?_
    exact⟨_,rf_,(Kd.V_nil _ _ _ _ _),bl_⟩
   ·by_cases c17:0<(l0_0.length:Int)
    rotate_left
    ·rw [if_neg c17] at H
     exact absurd H (by simp)
    rw [if_pos c17] at H
    have c17b0:decide (0<(l0_0.length:Int))=true:=decide_eq_true c17
    have c17b1:decide (0<l0_0.length)=true:=decide_eq_true (by omega)
    clear c17
    by_cases c18:1<(l0_0.length:Int)
    rotate_left
    ·rw [if_neg c18] at H
     exact absurd H (by simp)
    rw [if_pos c18] at H
    have c18b0:decide (1<(l0_0.length:Int))=true:=decide_eq_true c18
    have c18b1:decide (1<l0_0.length)=true:=decide_eq_true (by omega)
    clear c18
    by_cases c19:2<(l0_0.length:Int)
    rotate_left
    ·rw [if_neg c19] at H
     exact absurd H (by simp)
    rw [if_pos c19] at H
    have c19b0:decide (2<(l0_0.length:Int))=true:=decide_eq_true c19
    have c19b1:decide (2<l0_0.length)=true:=decide_eq_true (by omega)
    clear c19
    by_cases c20:0<(l0_1.length:Int)
    rotate_left
    ·rw [if_neg c20] at H
     exact absurd H (by simp)
    rw [if_pos c20] at H
    have c20b0:decide (0<(l0_1.length:Int))=true:=decide_eq_true c20
    have c20b1:decide (0<l0_1.length)=true:=decide_eq_true (by omega)
    clear c20
    by_cases c21:(rdOf ByteArray.empty l0_1 0).size≤140737488355328
    rotate_left
    ·rw [if_neg c21] at H
     exact absurd H (by simp)
    rw [if_pos c21] at H
    have c21b0:=eq_true c21
    have c21b1:decide ((rdOf ByteArray.empty l0_1 0).size≤140737488355328)=true:=decide_eq_true c21
    clear c21
    obtain⟨aa0,aV5⟩:∃ y_:List Int,y_=(V4 (rdOf ByteArray.empty l0_1 0)):=⟨_,rfl⟩
    replace H:(if 3<(l0_0.length:Int)then((q6.f kj1 (rd l0_0 0) (rd l0_0 1) (rd l0_0 2) aa0 (rd l0_0 3)).bind fun bI9=>(if bI9.2=true then((q55.f (rd l0_0 0) (rd l0_0 1) (rd l0_0 2) aa0 (rd l0_0 3)).bind fun aW0=>((q50.f kj1 aW0.1 aW0.2 l0_0 l0_1).bind fun bA8=>(if bA8=true then(some (rd l0_0 0,rd l0_0 1,rd l0_0 2,aa0,rd l0_0 3,true))else(none))))else(some (0,0,0,([]:List Int),0,false))))else(none))=some (r1,r2,r3,r4,r5,r6):=by first|(rw [aV5];with_reducible exact H)|(have H2_:=(Option.bind_some _ _).symm.trans H;rw [aV5];with_reducible exact H2_)|(have H2_:=(Option.bind_some _ _).symm.trans H;with_reducible exact H2_)|with_reducible exact H|(rw [aV5];exact H)|exact H
    have bj9:=q5.mk aV5
    clear aV5
    by_cases c22:3<(l0_0.length:Int)
    rotate_left
    ·rw [if_neg c22] at H
     exact absurd H (by simp)
    rw [if_pos c22] at H
    have c22b0:decide (3<(l0_0.length:Int))=true:=decide_eq_true c22
    have c22b1:decide (3<l0_0.length)=true:=decide_eq_true (by omega)
    clear c22
    replace H:=N2 H
    obtain⟨⟨cZ9,df1⟩,A23,H⟩:=H
    try dsimp only at H
    have HK0:=q5.mk H
    clear H
    try go_wp2
    have n_:=pk3 (J0 C3.out) (J0 J4.out) (N1 HB.out)
    clear C3 J4 HB
    obtain⟨C3,J4,HB⟩:=n_
    have F3:0≤(0:Int):=(by omega)
    have I3:0<(l0_0.length:Int):=dc_
    obtain⟨J1,E6,Z0⟩:=Kd.at_int HR0_0.out 0 F3 I3
    have D2:=Z0
    (try rw [show((0:Int)).toNat=0 from rfl] at D2)
    (try rw [show 0*1=0 from rfl] at D2)
    (try rw [Addr.add_zero'] at D2)
    cases E6
    have bQ5:(0<l0_0.length)=True:=eq_true (by omega)
    (try rw [show((0:Int)).toNat=0 from rfl] at Z0)
    (try rw [Addr.add_zero'] at Z0)
    replace Z0:=(HB.out.cell (World.block_lt_of_cell? w _ Z0)).trans Z0
    replace F3:=eq_true F3
    replace I3:=eq_true I3
    have V7:0≤(1:Int):=(by omega)
    have U7:1<(l0_0.length:Int):=dc_
    obtain⟨am4,aA9,M3⟩:=Kd.at_int HR0_0.out 1 V7 U7
    have I2:=M3
    (try rw [show((1:Int)).toNat=1 from rfl] at I2)
    (try rw [show 1*1=1 from rfl] at I2)
    (try simp only [Nat.reduceMul,Nat.reduceEqDiff,Go.Addr.add,↓reduceIte] at I2)
    obtain rfl:J1=am4:=(by injection aA9)
    (try simp only [show(1:Int).toNat=1 from rfl,Nat.reduceMul,Nat.reduceEqDiff,Go.Addr.add,↓reduceIte] at M3)
    have cL4:(1<l0_0.length)=True:=eq_true (by omega)
    (try rw [show((1:Int)).toNat=1 from rfl] at M3)
    replace M3:=(HB.out.cell (World.block_lt_of_cell? w _ M3)).trans M3
    replace V7:=eq_true V7
    replace U7:=eq_true U7
    have az4:0≤(2:Int):=(by omega)
    have az1:2<(l0_0.length:Int):=dc_
    obtain⟨aX3,bF1,m7⟩:=Kd.at_int HR0_0.out 2 az4 az1
    have Y4:=m7
    (try rw [show((2:Int)).toNat=2 from rfl] at Y4)
    (try rw [show 2*1=2 from rfl] at Y4)
    (try simp only [Nat.reduceMul,Nat.reduceEqDiff,Go.Addr.add,↓reduceIte] at Y4)
    obtain rfl:J1=aX3:=(by injection bF1)
    (try simp only [show(2:Int).toNat=2 from rfl,Nat.reduceMul,Nat.reduceEqDiff,Go.Addr.add,↓reduceIte] at m7)
    have cF4:(2<l0_0.length)=True:=eq_true (by omega)
    (try rw [show((2:Int)).toNat=2 from rfl] at m7)
    replace m7:=(HB.out.cell (World.block_lt_of_cell? w _ m7)).trans m7
    replace az4:=eq_true az4
    replace az1:=eq_true az1
    have aA5:0≤(0:Int):=(by omega)
    have aw9:0<(l0_1.length:Int):=dc_
    obtain⟨Y6,bv2,l7⟩:=Kd.at_string HR0_1.out 0 aA5 aw9
    have Z4:=l7
    (try rw [show((0:Int)).toNat=0 from rfl] at Z4)
    (try rw [show 0*1=0 from rfl] at Z4)
    (try rw [Addr.add_zero'] at Z4)
    cases bv2
    have cF1:(0<l0_1.length)=True:=eq_true (by omega)
    (try rw [show((0:Int)).toNat=0 from rfl] at l7)
    (try rw [Addr.add_zero'] at l7)
    replace l7:=(HB.out.cell (World.block_lt_of_cell? w _ l7)).trans l7
    replace aA5:=eq_true aA5
    replace aw9:=eq_true aw9
    have ba6:0≤(3:Int):=(by omega)
    have bb0:3<(l0_0.length:Int):=dc_
    obtain⟨bO2,cq9,W7⟩:=Kd.at_int HR0_0.out 3 ba6 bb0
    have W4:=W7
    (try rw [show((3:Int)).toNat=3 from rfl] at W4)
    (try rw [show 3*1=3 from rfl] at W4)
    (try simp only [Nat.reduceMul,Nat.reduceEqDiff,Go.Addr.add,↓reduceIte] at W4)
    obtain rfl:J1=bO2:=(by injection cq9)
    (try simp only [show(3:Int).toNat=3 from rfl,Nat.reduceMul,Nat.reduceEqDiff,Go.Addr.add,↓reduceIte] at W7)
    have cJ9:(3<l0_0.length)=True:=eq_true (by omega)
    (try rw [show((3:Int)).toNat=3 from rfl] at W7)
    replace W7:=(HB.out.cell (World.block_lt_of_cell? w _ W7)).trans W7
    replace ba6:=eq_true ba6
    replace bb0:=eq_true bb0
    refine b9 (n:=25) (S:=fun w'=>w'.cell? ⟨K6,0,none⟩=some (.slice (some J1) l0_0.length c0_0)∧w'.cell? ⟨K6,1,none⟩=some (.slice (some Y6) l0_1.length c0_1)∧w'.cell? J1=some (.int .i64 (rd l0_0 0))∧w'.cell? ⟨J1.block,J1.off+1,none⟩=some (.int .i64 (rd l0_0 1))∧w'.cell? ⟨J1.block,J1.off+2,none⟩=some (.int .i64 (rd l0_0 2))∧w'.cell? Y6=some (.string (rdOf ByteArray.empty l0_1 0))∧w'.cell? ⟨J1.block,J1.off+3,none⟩=some (.int .i64 (rd l0_0 3))) (ds:=[]) bg8 (by kernel_rfl) rfl rfl ⟨(m0 C3.out 0).trans rfl,(m0 C3.out 1).trans rfl,((HB.out.cell (World.block_lt_of_cell? w _ D2)).trans D2),((HB.out.cell (World.block_lt_of_cell? w _ I2)).trans I2),((HB.out.cell (World.block_lt_of_cell? w _ Y4)).trans Y4),((HB.out.cell (World.block_lt_of_cell? w _ Z4)).trans Z4),((HB.out.cell (World.block_lt_of_cell? w _ W4)).trans W4)⟩ (fun hHeld=>?_);refine b6 q13.tab3 q13.bits3 (fun HT_ HW_=>?_)
    generalize wc.drew=U1 at C3 J4 HB Z0 M3 m7 l7 W7 hHeld ⊢
    refine z1 (i:=0) (N:=some 26) (v:=?_) (a':=?_) be7 rfl rfl (V0 HT_.out (by kernel_rfl)) (fun _ _ _ h=>h) (Or.inl ⟨by rfl,?_⟩) ?_ ?_
    rotate_left
    ·intro w'
     go_simp
     with_reducible rfl
    rotate_left
    ·simp only [ap_,sb_,s0_,s1_,N0,P0]
     rfl
    refine z1 (i:=4) (N:=some 30) (v:=?_) (a':=?_) aZ0 rfl rfl (V0 HT_.out (by kernel_rfl)) (fun _ _ _ h=>h) (Or.inl ⟨by rfl,?_⟩) ?_ ?_
    rotate_left
    ·intro w'
     go_simp
     with_reducible rfl
    rotate_left
    ·simp only [ap_,sb_,s0_,s1_,N0,P0]
     rfl
    refine z1 (i:=8) (N:=some 34) (v:=?_) (a':=?_) aQ4 rfl rfl (V0 HT_.out (by kernel_rfl)) (fun _ _ _ h=>h) (Or.inl ⟨by rfl,?_⟩) ?_ ?_
    rotate_left
    ·intro w'
     go_simp
     with_reducible rfl
    rotate_left
    ·simp only [ap_,sb_,s0_,s1_,N0,P0]
     rfl
    refine z1 (i:=12) (N:=some 38) (v:=?_) (a':=?_) aI4 rfl rfl (V0 HT_.out (by kernel_rfl)) (fun _ _ _ h=>h) (Or.inl ⟨by rfl,?_⟩) ?_ ?_
    rotate_left
    ·intro w'
     go_simp
     with_reducible rfl
    rotate_left
    ·simp only [ap_,sb_,s0_,s1_,N0,P0]
     rfl
    refine z1 (i:=17) (N:=some 43) (v:=?_) (a':=?_) aw6 rfl rfl (V0 HT_.out (by kernel_rfl)) (fun _ _ _ h=>h) (Or.inl ⟨by rfl,?_⟩) ?_ ?_
    rotate_left
    ·intro w'
     go_simp
     with_reducible rfl
    rotate_left
    ·simp only [ap_,sb_,s0_,s1_,N0,P0]
     rfl
    refine take_ (i:=1) (N:=some 27) (v:=?_) (a':=?_) az5 rfl rfl (M2 HT_.out HW_.out (by kernel_rfl)) (fun _ _ _ h=>h) (Or.inl ⟨by rfl,?_⟩) hHeld ?_ ?_
    rotate_left
    ·rintro w' ⟨G6,S6,T6,m8,O8,N8,N9⟩
     go_simp
     with_reducible rfl
    rotate_left
    ·simp only [ap_,sb_,s0_,s1_,N0,P0]
     rfl
    refine z1 (i:=2) (N:=some 28) (v:=?_) (a':=?_) ay3 rfl rfl (V0 HT_.out (by kernel_rfl)) (fun _ _ _ h=>h) (Or.inl ⟨by rfl,?_⟩) ?_ ?_
    rotate_left
    ·intro w'
     go_simp
     with_reducible rfl
    rotate_left
    ·simp only [ap_,sb_,s0_,s1_,N0,P0]
     rfl
    refine take_ (i:=3) (N:=some 29) (v:=?_) (a':=?_) ax0 rfl rfl (M2 HT_.out HW_.out (by kernel_rfl)) (fun _ _ _ h=>h) (Or.inl ⟨by rfl,?_⟩) hHeld ?_ ?_
    rotate_left
    ·rintro w' ⟨G6,S6,T6,m8,O8,N8,N9⟩
     go_simp
     with_reducible rfl
    rotate_left
    ·simp only [ap_,sb_,s0_,s1_,N0,P0]
     rfl
    refine take_ (i:=5) (N:=some 31) (v:=?_) (a':=?_) az2 rfl rfl (M2 HT_.out HW_.out (by kernel_rfl)) (fun _ _ _ h=>h) (Or.inl ⟨by rfl,?_⟩) hHeld ?_ ?_
    rotate_left
    ·rintro w' ⟨G6,S6,T6,m8,O8,N8,N9⟩
     go_simp
     with_reducible rfl
    rotate_left
    ·simp only [ap_,sb_,s0_,s1_,N0,P0]
     rfl
    refine z1 (i:=6) (N:=some 32) (v:=?_) (a':=?_) aw1 rfl rfl (V0 HT_.out (by kernel_rfl)) (fun _ _ _ h=>h) (Or.inl ⟨by rfl,?_⟩) ?_ ?_
    rotate_left
    ·intro w'
     go_simp
     with_reducible rfl
    rotate_left
    ·simp only [ap_,sb_,s0_,s1_,N0,P0]
     rfl
    refine take_ (i:=7) (N:=some 33) (v:=?_) (a':=?_) aw0 rfl rfl (M2 HT_.out HW_.out (by kernel_rfl)) (fun _ _ _ h=>h) (Or.inl ⟨by rfl,?_⟩) hHeld ?_ ?_
    rotate_left
    ·rintro w' ⟨G6,S6,T6,m8,O8,N8,N9⟩
     go_simp
     with_reducible rfl
    rotate_left
    ·simp only [ap_,sb_,s0_,s1_,N0,P0]
     rfl
    refine take_ (i:=9) (N:=some 35) (v:=?_) (a':=?_) az0 rfl rfl (M2 HT_.out HW_.out (by kernel_rfl)) (fun _ _ _ h=>h) (Or.inl ⟨by rfl,?_⟩) hHeld ?_ ?_
    rotate_left
    ·rintro w' ⟨G6,S6,T6,m8,O8,N8,N9⟩
     go_simp
     with_reducible rfl
    rotate_left
    ·simp only [ap_,sb_,s0_,s1_,N0,P0]
     rfl
    refine z1 (i:=10) (N:=some 36) (v:=?_) (a':=?_) aw2 rfl rfl (V0 HT_.out (by kernel_rfl)) (fun _ _ _ h=>h) (Or.inl ⟨by rfl,?_⟩) ?_ ?_
    rotate_left
    ·intro w'
     go_simp
     with_reducible rfl
    rotate_left
    ·simp only [ap_,sb_,s0_,s1_,N0,P0]
     rfl
    refine take_ (i:=11) (N:=some 37) (v:=?_) (a':=?_) ay6 rfl rfl (M2 HT_.out HW_.out (by kernel_rfl)) (fun _ _ _ h=>h) (Or.inl ⟨by rfl,?_⟩) hHeld ?_ ?_
    rotate_left
    ·rintro w' ⟨G6,S6,T6,m8,O8,N8,N9⟩
     go_simp
     with_reducible rfl
    rotate_left
    ·simp only [ap_,sb_,s0_,s1_,N0,P0]
     rfl
    refine take_ (i:=13) (N:=some 39) (v:=?_) (a':=?_) ax3 rfl rfl (M2 HT_.out HW_.out (by kernel_rfl)) (fun _ _ _ h=>h) (Or.inl ⟨by rfl,?_⟩) hHeld ?_ ?_
    rotate_left
    ·rintro w' ⟨G6,S6,T6,m8,O8,N8,N9⟩
     go_simp
     with_reducible rfl
    rotate_left
    ·simp only [ap_,sb_,s0_,s1_,N0,P0]
     rfl
    refine z1 (i:=14) (N:=some 40) (v:=?_) (a':=?_) ay1 rfl rfl (V0 HT_.out (by kernel_rfl)) (fun _ _ _ h=>h) (Or.inl ⟨by rfl,?_⟩) ?_ ?_
    rotate_left
    ·intro w'
     go_simp
     with_reducible rfl
    rotate_left
    ·simp only [ap_,sb_,s0_,s1_,N0,P0]
     rfl
    refine take_ (i:=15) (N:=some 41) (v:=?_) (a':=?_) ay0 rfl rfl (M2 HT_.out HW_.out (by kernel_rfl)) (fun _ _ _ h=>h) (Or.inl ⟨by rfl,?_⟩) hHeld ?_ ?_
    rotate_left
    ·rintro w' ⟨G6,S6,T6,m8,O8,N8,N9⟩
     go_simp
     with_reducible rfl
    rotate_left
    ·simp only [ap_,sb_,s0_,s1_,N0,P0]
     rfl
    refine take_ (i:=18) (N:=some 44) (v:=?_) (a':=?_) ax5 rfl rfl (M2 HT_.out HW_.out (by kernel_rfl)) (fun _ _ _ h=>h) (Or.inl ⟨by rfl,?_⟩) hHeld ?_ ?_
    rotate_left
    ·rintro w' ⟨G6,S6,T6,m8,O8,N8,N9⟩
     go_simp
     with_reducible rfl
    rotate_left
    ·simp only [ap_,sb_,s0_,s1_,N0,P0]
     rfl
    refine z1 (i:=19) (N:=some 45) (v:=?_) (a':=?_) aA8 rfl rfl (V0 HT_.out (by kernel_rfl)) (fun _ _ _ h=>h) (Or.inl ⟨by rfl,?_⟩) ?_ ?_
    rotate_left
    ·intro w'
     go_simp
     with_reducible rfl
    rotate_left
    ·simp only [ap_,sb_,s0_,s1_,N0,P0]
     rfl
    refine take_ (i:=20) (N:=some 46) (v:=?_) (a':=?_) au5 rfl rfl (M2 HT_.out HW_.out (by kernel_rfl)) (fun _ _ _ h=>h) (Or.inl ⟨by rfl,?_⟩) hHeld ?_ ?_
    rotate_left
    ·rintro w' ⟨G6,S6,T6,m8,O8,N8,N9⟩
     go_simp
     with_reducible rfl
    rotate_left
    ·simp only [ap_,sb_,s0_,s1_,N0,P0]
     rfl
    refine cA9 (σ:=Value×Nat) 1 S7 (fun s_=>[(42,s_.1),(4,.pointer (some ⟨s_.2,0,none⟩)),(47,.agg #[s_.1,.int .i64 (rd l0_0 3)]),(48,.agg #[.int .i64 (rd l0_0 0),.int .i64 (rd l0_0 1),.int .i64 (rd l0_0 2),s_.1,.int .i64 (rd l0_0 3)])]) (fun s_ w'=>(w'.cell? ⟨K6,0,none⟩=some (.slice (some J1) l0_0.length c0_0)∧w'.cell? ⟨K6,1,none⟩=some (.slice (some Y6) l0_1.length c0_1)∧w'.cell? J1=some (.int .i64 (rd l0_0 0))∧w'.cell? ⟨J1.block,J1.off+1,none⟩=some (.int .i64 (rd l0_0 1))∧w'.cell? ⟨J1.block,J1.off+2,none⟩=some (.int .i64 (rd l0_0 2))∧w'.cell? Y6=some (.string (rdOf ByteArray.empty l0_1 0))∧w'.cell? ⟨J1.block,J1.off+3,none⟩=some (.int .i64 (rd l0_0 3)))∧(Kd.V (Kd.int .u8) 5 w' w.heap.size (fun k_=>(w.heap.size≤k_)∧k_≠K6∧k_≠j7∧k_≠s_.2) s_.1 aa0)∧(w'.heap[K6]?=some (.cells #[.slice (some J1) l0_0.length c0_0,.slice (some Y6) l0_1.length c0_1] 98 (0,0)))∧(w'.heap[j7]?=some (.cells #[.int .i64 0,.int .i64 0,.int .i64 0,.slice none 0 0,.int .i64 0] 69 (0,0)))∧(w'.heap[s_.2]?=some (.cells #[.int .i64 0,.int .i64 0,.int .i64 0,.slice none 0 0,.int .i64 0] 69 (0,0)))∧(w.heap.size≤s_.2)∧(w.heap.size≤s_.2)∧(K6≠s_.2)∧(s_.2≠K6)∧(j7≠s_.2)∧(s_.2≠j7)∧(Below w.heap.size w w')) ?_ ?_
    rotate_left
    ·intro hCont
     refine two_ (i:=16) (j:=23) (Ni:=some 42) (Nj:=some 4) av2 aq4 rfl rfl rfl rfl (cj4 HT_.out (by kernel_rfl)) (by decide) (by decide) (fun K hK=>?_) (fun K hK=>?_)
     ·skip
      refine Go.Proofs.YtmddmbagehjdeaaX.V_conv_step _ 5 (by rfl) (N:=42) rfl 9 23 _ rfl (rdOf ByteArray.empty l0_1 0) rfl Try.underlying9 Try.underlying23 Try.underlying5 (Below.refl _ _) (Nat.le_refl _) dc_ ?_
      intro M4 Z1 M0 hb hg_ hnew_
      clear hg_ hnew_
      (first|rw [←bj9.out] at M0|(simp only [Int.reduceToNat] at M0;rw [←bj9.out] at M0))
      have n7000_:=q5.mk (Kd.V_lower (Kd.V_mono (ok':=fun k_=>(w.heap.size≤k_)∧k_≠K6∧k_≠j7) M0 (fun k_ hk_=>⟨(Nat.le_trans (L0 bl_) hk_),(Kd.freshB (g:=K6) (o:=.cells #[.slice (some J1) l0_0.length c0_0,.slice (some Y6) l0_1.length c0_1] 98 (0,0)) (bo_ C3) k_ hk_),(Kd.freshB (g:=j7) (o:=.cells #[.int .i64 0,.int .i64 0,.int .i64 0,.slice none 0 0,.int .i64 0] 69 (0,0)) (bo_ J4) k_ hk_)⟩)) (L0 bl_))
      have n7001_:=q5.mk (F0 (bo_ C3) hb)
      have n7002_:=q5.mk (F0 (bo_ J4) hb)
      have n7003_:=q5.mk (E0 bl_ hb)
      clear C3
      clear J4
      clear HB
      have C0:=n7000_
      have C3:=n7001_
      have J4:=n7002_
      have HB:=n7003_
      clear n7000_ n7001_ n7002_ n7003_
      clear hb M0
      obtain⟨T0,R0,S1⟩:=Kd.V_slice C0.out
      (first|subst S1|(injection S1 with f1_ f2_ f3_;have f7000_:=f1_.symm;have f7001_:=f3_.symm;clear f1_ f2_ f3_;subst f7000_;subst f7001_))
      refine hK.out _ _ ⟨(m0 C3.out 0).trans rfl,(m0 C3.out 1).trans rfl,((HB.out.cell (World.block_lt_of_cell? w _ D2)).trans D2),((HB.out.cell (World.block_lt_of_cell? w _ I2)).trans I2),((HB.out.cell (World.block_lt_of_cell? w _ Y4)).trans Y4),((HB.out.cell (World.block_lt_of_cell? w _ Z4)).trans Z4),((HB.out.cell (World.block_lt_of_cell? w _ W4)).trans W4)⟩ (fun hHeld=>?_)
      clear hK K
      refine o7 (a':=?_) ?_ ?_
      rotate_left
      ·show Act.put _ (some 42) _=_
       simp only [ap_,sb_,s0_,s1_,N0,P0]
       rfl
      refine z1 (i:=21) (N:=some 47) (v:=?_) (a':=?_) av0 rfl rfl (V0 HT_.out (by kernel_rfl)) (fun _ _ _ h=>h) (Or.inl ⟨by rfl,?_⟩) ?_ ?_
      rotate_left
      ·intro w'
       go_simp
       with_reducible rfl
      rotate_left
      ·simp only [ap_,sb_,s0_,s1_,N0,P0]
       rfl
      refine z1 (i:=22) (N:=some 48) (v:=?_) (a':=?_) au9 rfl rfl (V0 HT_.out (by kernel_rfl)) (fun _ _ _ h=>h) (Or.inl ⟨by rfl,?_⟩) ?_ ?_
      rotate_left
      ·intro w'
       go_simp
       with_reducible rfl
      rotate_left
      ·simp only [ap_,sb_,s0_,s1_,N0,P0]
       rfl
      refine one_ (i:=23) (N:=some 4) S7 rfl rfl (M6 HT_.out (by kernel_rfl)) (by decide) (fun K hK=>?_)
      refine aI7 ?hg (N:=4) ?hd (cs:=#[.int .i64 0,.int .i64 0,.int .i64 0,.slice none 0 0,.int .i64 0]) (t:=69) ?hr ?_;(case hd=>rfl);(case hg=>rfl);(case hr=>first|(go_simp;done)|(go_simp;rfl))
      intro B0 hg F2 hbox hb
      have n7000_:=q5.mk (Kd.V_below (Kd.V_elderB (vo_ C0) B0 (Nat.le_of_eq hg.symm)) hb)
      have n7001_:=q5.mk (F0 (bo_ C3) hb)
      have n7002_:=q5.mk (F0 (bo_ J4) hb)
      have n7003_:=q5.mk (E0 bl_ hb)
      have n7004_:=q5.mk (hbox)
      have n7005_:=q5.mk ((ge_ hg bl_:w.heap.size≤B0))
      have n7006_:=q5.mk ((ge_ hg bl_:w.heap.size≤B0))
      have n7007_:=q5.mk ((nb_ hg (bo_ C3):K6≠B0))
      have n7008_:=q5.mk ((nc_ hg (bo_ C3):B0≠K6))
      have n7009_:=q5.mk ((nb_ hg (bo_ J4):j7≠B0))
      have n7010_:=q5.mk ((nc_ hg (bo_ J4):B0≠j7))
      clear C0
      clear C3
      clear J4
      clear HB
      have C0:=n7000_
      have C3:=n7001_
      have J4:=n7002_
      have HB:=n7003_
      have o0:=n7004_
      have C2:=n7005_
      have F5:=n7006_
      have Q6:=n7007_
      have O7:=n7008_
      have z7:=n7009_
      have R7:=n7010_
      clear n7000_ n7001_ n7002_ n7003_ n7004_ n7005_ n7006_ n7007_ n7008_ n7009_ n7010_
      clear hb hbox hg
      refine hK.out _ _ ⟨(m0 C3.out 0).trans rfl,(m0 C3.out 1).trans rfl,((HB.out.cell (World.block_lt_of_cell? w _ D2)).trans D2),((HB.out.cell (World.block_lt_of_cell? w _ I2)).trans I2),((HB.out.cell (World.block_lt_of_cell? w _ Y4)).trans Y4),((HB.out.cell (World.block_lt_of_cell? w _ Z4)).trans Z4),((HB.out.cell (World.block_lt_of_cell? w _ W4)).trans W4)⟩ (fun hHeld=>?_)
      clear hK K
      refine o7 (a':=?_) ?_ ?_
      rotate_left
      ·show Act.put _ (some 4) _=_
       simp only [ap_,sb_,s0_,s1_,N0,P0]
       rfl
      exact o7 (by simp only [as2,Act.put,List.setIfInBounds_toArray,List.set_cons_zero,List.set_cons_succ]) (hCont (.slice T0 aa0.length R0,B0) _ ⟨hHeld,(vt_ (Kd.V_mono C0.out (fun _ hk=>⟨hk.1.1,⟨hk.1.2.1,⟨hk.1.2.2,hk.2⟩⟩⟩))),(bo_ C3),(bo_ J4),(bo_ o0),C2.out,F5.out,Q6.out,O7.out,z7.out,R7.out,bl_⟩)
     ·skip
      refine aI7 ?hg (N:=4) ?hd (cs:=#[.int .i64 0,.int .i64 0,.int .i64 0,.slice none 0 0,.int .i64 0]) (t:=69) ?hr ?_;(case hd=>rfl);(case hg=>rfl);(case hr=>first|(go_simp;done)|(go_simp;rfl))
      intro B0 hg Z1 hbox hb
      have n7000_:=q5.mk (F0 (bo_ C3) hb)
      have n7001_:=q5.mk (F0 (bo_ J4) hb)
      have n7002_:=q5.mk (E0 bl_ hb)
      have n7003_:=q5.mk (hbox)
      have n7004_:=q5.mk ((ge_ hg bl_:w.heap.size≤B0))
      have n7005_:=q5.mk ((ge_ hg bl_:w.heap.size≤B0))
      have n7006_:=q5.mk ((nb_ hg (bo_ C3):K6≠B0))
      have n7007_:=q5.mk ((nc_ hg (bo_ C3):B0≠K6))
      have n7008_:=q5.mk ((nb_ hg (bo_ J4):j7≠B0))
      have n7009_:=q5.mk ((nc_ hg (bo_ J4):B0≠j7))
      clear C3
      clear J4
      clear HB
      have C3:=n7000_
      have J4:=n7001_
      have HB:=n7002_
      have o0:=n7003_
      have C2:=n7004_
      have F5:=n7005_
      have Q6:=n7006_
      have O7:=n7007_
      have z7:=n7008_
      have R7:=n7009_
      clear n7000_ n7001_ n7002_ n7003_ n7004_ n7005_ n7006_ n7007_ n7008_ n7009_
      clear hb hbox hg
      refine hK.out _ _ ⟨(m0 C3.out 0).trans rfl,(m0 C3.out 1).trans rfl,((HB.out.cell (World.block_lt_of_cell? w _ D2)).trans D2),((HB.out.cell (World.block_lt_of_cell? w _ I2)).trans I2),((HB.out.cell (World.block_lt_of_cell? w _ Y4)).trans Y4),((HB.out.cell (World.block_lt_of_cell? w _ Z4)).trans Z4),((HB.out.cell (World.block_lt_of_cell? w _ W4)).trans W4)⟩ (fun hHeld=>?_)
      clear hK K
      refine o7 (a':=?_) ?_ ?_
      rotate_left
      ·show Act.put _ (some 4) _=_
       simp only [ap_,sb_,s0_,s1_,N0,P0]
       rfl
      refine one_ (i:=16) (N:=some 42) ap5 rfl rfl (M6 HT_.out (by kernel_rfl)) (by decide) (fun K hK=>?_)
      refine Go.Proofs.YtmddmbagehjdeaaX.V_conv_step _ 5 (by rfl) (N:=42) rfl 9 23 _ rfl (rdOf ByteArray.empty l0_1 0) rfl Try.underlying9 Try.underlying23 Try.underlying5 (Below.refl _ _) (Nat.le_refl _) dc_ ?_
      intro M4 X2 X6 hb hg_ hnew_
      clear hg_ hnew_
      (first|rw [←bj9.out] at X6|(simp only [Int.reduceToNat] at X6;rw [←bj9.out] at X6))
      have n7000_:=q5.mk (Kd.V_lower (Kd.V_mono (ok':=fun k_=>(w.heap.size≤k_)∧k_≠K6∧k_≠j7∧k_≠B0) X6 (fun k_ hk_=>⟨(Nat.le_trans (L0 bl_) hk_),(Kd.freshB (g:=K6) (o:=.cells #[.slice (some J1) l0_0.length c0_0,.slice (some Y6) l0_1.length c0_1] 98 (0,0)) (bo_ C3) k_ hk_),(Kd.freshB (g:=j7) (o:=.cells #[.int .i64 0,.int .i64 0,.int .i64 0,.slice none 0 0,.int .i64 0] 69 (0,0)) (bo_ J4) k_ hk_),(Kd.freshB (g:=B0) (o:=.cells #[.int .i64 0,.int .i64 0,.int .i64 0,.slice none 0 0,.int .i64 0] 69 (0,0)) (bo_ o0) k_ hk_)⟩)) (L0 bl_))
      have n7001_:=q5.mk (F0 (bo_ C3) hb)
      have n7002_:=q5.mk (F0 (bo_ J4) hb)
      have n7003_:=q5.mk (F0 (bo_ o0) hb)
      have n7004_:=q5.mk (E0 bl_ hb)
      clear C3
      clear J4
      clear o0
      clear HB
      have C0:=n7000_
      have C3:=n7001_
      have J4:=n7002_
      have o0:=n7003_
      have HB:=n7004_
      clear n7000_ n7001_ n7002_ n7003_ n7004_
      clear hb X6
      obtain⟨X1,V1,U2⟩:=Kd.V_slice C0.out
      (first|subst U2|(injection U2 with f1_ f2_ f3_;have f7000_:=f1_.symm;have f7001_:=f3_.symm;clear f1_ f2_ f3_;subst f7000_;subst f7001_))
      refine hK.out _ _ ⟨(m0 C3.out 0).trans rfl,(m0 C3.out 1).trans rfl,((HB.out.cell (World.block_lt_of_cell? w _ D2)).trans D2),((HB.out.cell (World.block_lt_of_cell? w _ I2)).trans I2),((HB.out.cell (World.block_lt_of_cell? w _ Y4)).trans Y4),((HB.out.cell (World.block_lt_of_cell? w _ Z4)).trans Z4),((HB.out.cell (World.block_lt_of_cell? w _ W4)).trans W4)⟩ (fun hHeld=>?_)
      clear hK K
      refine o7 (a':=?_) ?_ ?_
      rotate_left
      ·show Act.put _ (some 42) _=_
       simp only [ap_,sb_,s0_,s1_,N0,P0]
       rfl
      refine z1 (i:=21) (N:=some 47) (v:=?_) (a':=?_) aq3 rfl rfl (V0 HT_.out (by kernel_rfl)) (fun _ _ _ h=>h) (Or.inl ⟨by rfl,?_⟩) ?_ ?_
      rotate_left
      ·intro w'
       go_simp
       with_reducible rfl
      rotate_left
      ·simp only [ap_,sb_,s0_,s1_,N0,P0]
       rfl
      refine z1 (i:=22) (N:=some 48) (v:=?_) (a':=?_) S7 rfl rfl (V0 HT_.out (by kernel_rfl)) (fun _ _ _ h=>h) (Or.inl ⟨by rfl,?_⟩) ?_ ?_
      rotate_left
      ·intro w'
       go_simp
       with_reducible rfl
      rotate_left
      ·simp only [ap_,sb_,s0_,s1_,N0,P0]
       rfl
      exact o7 (by simp only [as2,Act.put,List.setIfInBounds_toArray,List.set_cons_zero,List.set_cons_succ]) (hCont (.slice X1 aa0.length V1,B0) _ ⟨hHeld,(vo_ C0),(bo_ C3),(bo_ J4),(bo_ o0),C2.out,F5.out,Q6.out,O7.out,z7.out,R7.out,bl_⟩)
    rintro⟨M4,B0⟩ G4 ⟨hS_,h7000_,h7001_,h7002_,h7003_,h7004_,h7005_,h7006_,h7007_,h7008_,h7009_,h7010_⟩
    have n7000_:q5 (Kd.V (Kd.int .u8) 5 G4 w.heap.size (fun k_=>(w.heap.size≤k_)∧k_≠K6∧k_≠j7∧k_≠B0) M4 aa0):=⟨h7000_⟩
    have n7001_:q5 (G4.heap[K6]?=some (.cells #[.slice (some J1) l0_0.length c0_0,.slice (some Y6) l0_1.length c0_1] 98 (0,0))):=⟨h7001_⟩
    have n7002_:q5 (G4.heap[j7]?=some (.cells #[.int .i64 0,.int .i64 0,.int .i64 0,.slice none 0 0,.int .i64 0] 69 (0,0))):=⟨h7002_⟩
    have n7003_:q5 (G4.heap[B0]?=some (.cells #[.int .i64 0,.int .i64 0,.int .i64 0,.slice none 0 0,.int .i64 0] 69 (0,0))):=⟨h7003_⟩
    have n7004_:q5 (w.heap.size≤B0):=⟨h7004_⟩
    have n7005_:q5 (w.heap.size≤B0):=⟨h7005_⟩
    have n7006_:q5 (K6≠B0):=⟨h7006_⟩
    have n7007_:q5 (B0≠K6):=⟨h7007_⟩
    have n7008_:q5 (j7≠B0):=⟨h7008_⟩
    have n7009_:q5 (B0≠j7):=⟨h7009_⟩
    have n7010_:q5 (Below w.heap.size w G4):=⟨h7010_⟩
    clear C3
    clear J4
    clear HB
    clear h7000_ h7001_ h7002_ h7003_ h7004_ h7005_ h7006_ h7007_ h7008_ h7009_ h7010_
    have C0:=n7000_
    have C3:=n7001_
    have J4:=n7002_
    have o0:=n7003_
    have C2:=n7004_
    have F5:=n7005_
    have Q6:=n7006_
    have O7:=n7007_
    have z7:=n7008_
    have R7:=n7009_
    have HB:=n7010_
    clear n7000_ n7001_ n7002_ n7003_ n7004_ n7005_ n7006_ n7007_ n7008_ n7009_ n7010_
    have hHeld:G4.cell? ⟨K6,0,none⟩=some (.slice (some J1) l0_0.length c0_0)∧G4.cell? ⟨K6,1,none⟩=some (.slice (some Y6) l0_1.length c0_1)∧G4.cell? J1=some (.int .i64 (rd l0_0 0))∧G4.cell? ⟨J1.block,J1.off+1,none⟩=some (.int .i64 (rd l0_0 1))∧G4.cell? ⟨J1.block,J1.off+2,none⟩=some (.int .i64 (rd l0_0 2))∧G4.cell? Y6=some (.string (rdOf ByteArray.empty l0_1 0))∧G4.cell? ⟨J1.block,J1.off+3,none⟩=some (.int .i64 (rd l0_0 3)):=hS_
    obtain⟨F4,V3,n8⟩:=Kd.V_slice C0.out
    (first|subst n8|(injection n8 with f1_ f2_ f3_;have f7000_:=f1_.symm;have f7001_:=f3_.symm;clear f1_ f2_ f3_;subst f7000_;subst f7001_))
    refine o7 (a':=?_) ?_ ?_
    rotate_left
    ·simp only [as2,Act.put,List.setIfInBounds_toArray,List.set_cons_zero,List.set_cons_succ]
     rfl
    refine one_ (i:=24) (N:=none) aq2 rfl rfl (M6 HT_.out (by kernel_rfl)) (by decide) (fun K hK=>?_)
    have bk1:G4.cell? ⟨B0,0,none⟩=some (.int .i64 0):=(m0 o0.out 0).trans rfl
    have aT1:=t0 o0.out 0
    have bf2:=Q6.out
    have bf8:=z7.out
    have bf3:=O7.out
    have bh7:=R7.out
    have bl1:G4.cell? ⟨B0,1,none⟩=some (.int .i64 0):=(m0 o0.out 1).trans rfl
    have aU5:=t0 o0.out 1
    have bj8:=Q6.out
    have bj5:=z7.out
    have bi6:=O7.out
    have be5:=R7.out
    have bl4:G4.cell? ⟨B0,2,none⟩=some (.int .i64 0):=(m0 o0.out 2).trans rfl
    have aU3:=t0 o0.out 2
    have bf9:=Q6.out
    have bj1:=z7.out
    have bi3:=O7.out
    have bh9:=R7.out
    have bn8:G4.cell? ⟨B0,3,none⟩=some (.slice none 0 0):=(m0 o0.out 3).trans rfl
    have aS8:=t0 o0.out 3
    have bj3:=Q6.out
    have bg4:=z7.out
    have bf5:=O7.out
    have bj2:=R7.out
    have bI5:G4.cell? ⟨B0,4,none⟩=some (.int .i64 0):=(m0 o0.out 4).trans rfl
    have bp0:=t0 o0.out 4
    have cb7:=Q6.out
    have bi0:=z7.out
    have cb4:=O7.out
    have bh1:=R7.out
    refine aR2 (w1:=?_) (by rfl) rfl ?_ ?_
    rotate_left
    ·go_simp
     rfl
    refine hK.out _ _ ⟨(G7 (g:=B0) Q6.out (hHeld.1)),(G7 (g:=B0) Q6.out (hHeld.2.1)),(G7 (g:=B0) (nq_ D2 C2.out) (hHeld.2.2.1)),(G7 (g:=B0) (nq_ I2 C2.out) (hHeld.2.2.2.1)),(G7 (g:=B0) (nq_ Y4 C2.out) (hHeld.2.2.2.2.1)),(G7 (g:=B0) (nq_ Z4 C2.out) (hHeld.2.2.2.2.2.1)),(G7 (g:=B0) (nq_ W4 C2.out) (hHeld.2.2.2.2.2.2))⟩ (fun hHeld=>?_)
    clear hK K
    refine ab2 (K7 HT_.out (by kernel_rfl)) ?_
    have V6:=O7.out
    have Z6:=Q6.out
    have aT0:=R7.out
    have aU7:=z7.out
    obtain⟨Y2,z3,V8,P9,O9,D3,Z2,l9,S9,R9⟩:=X4 o0.out
    try go_wp2_with (first|((with_reducible refine C1 (f:=48) rfl ?_);refine goL_ (some 51) Try.func48 #[.agg #[.int .i64 (rd l0_0 0),.int .i64 (rd l0_0 1),.int .i64 (rd l0_0 2),.slice F4 aa0.length V3,.int .i64 (rd l0_0 3)]] ?_;(with_reducible refine(q6.calls kj1 (rd l0_0 0) (rd l0_0 1) (rd l0_0 2) _ _ aa0 (rd l0_0 3) cZ9 df1 _ ?side1 ?side2 A23.out).mono ?_);(case side1=>refine(Kd.V_reads' (e:=5) (base:=w.heap.size) (ok:=fun k_=>((w.heap.size≤k_)∧(k_≠K6∧(k_≠j7∧k_≠B0)))) (n:=aa0.length) (c:=V3) ?_).2.2;exact(vt_ ((Kd.V_mono (U9 (g:=B0) (Kd.V_mono C0.out (fun k_ hk=>(⟨hk,hk.2.2.2⟩:_∧k_≠B0))) (fun _ hk=>hk.2) (.int .i64 (rd l0_0 0)) (.int .i64 (rd l0_0 1)) (.int .i64 (rd l0_0 2)) (.slice F4 aa0.length V3) (.int .i64 (rd l0_0 3))) (fun _ h_=>h_.1)))));(case side2=>exact(Kd.V_reads' C0.out).2.1);rintro e Z9 ⟨z5,rfl,am1,hb⟩;refine⟨_,rfl,?_⟩;have n_:=pk6 (Kd.V_elder' (vt_ ((Kd.V_mono (U9 (g:=B0) (Kd.V_mono C0.out (fun k_ hk=>(⟨hk,hk.2.2.2⟩:_∧k_≠B0))) (fun _ hk=>hk.2) (.int .i64 (rd l0_0 0)) (.int .i64 (rd l0_0 1)) (.int .i64 (rd l0_0 2)) (.slice F4 aa0.length V3) (.int .i64 (rd l0_0 3))) (fun _ h_=>h_.1)))) (Kd.R_base am1) hb) (Kd.R_lower (Kd.R_newM (M:=fun k_=>(w.heap.size≤k_)) am1 (L0 bl_) (fun k_ h_=>h_)) (L0 bl_)) (F0 (g:=K6) (o:=.cells #[.slice (some J1) l0_0.length c0_0,.slice (some Y6) l0_1.length c0_1] 98 (0,0)) (by(with_reducible repeat(first|refine G0 ?_ _|refine J0 ?_|refine I0 ?_ _));refine U5 ?_ Q6.out;exact(bo_ C3)) hb) (F0 (g:=j7) (o:=.cells #[.int .i64 0,.int .i64 0,.int .i64 0,.slice none 0 0,.int .i64 0] 69 (0,0)) (by(with_reducible repeat(first|refine G0 ?_ _|refine J0 ?_|refine I0 ?_ _));refine U5 ?_ z7.out;exact(bo_ J4)) hb) (F0 (g:=B0) (o:=.cells #[.int .i64 (rd l0_0 0),.int .i64 (rd l0_0 1),.int .i64 (rd l0_0 2),.slice F4 aa0.length V3,.int .i64 (rd l0_0 3)] 69 (0,0)) (by(with_reducible repeat(first|refine G0 ?_ _|refine J0 ?_|refine I0 ?_ _));refine X8 (cs:=#[.int .i64 0,.int .i64 0,.int .i64 0,.slice none 0 0,.int .i64 0]) ?_ rfl;exact(bo_ o0)) hb) (E0 bl_ hb);clear C0 C3 J4 o0 HB;obtain⟨C0,Q0,C3,J4,o0,HB⟩:=n_;(try clear hb am1)))
    have n_:=pk6 (Kd.V_drew C0.out) (Kd.R_drew Q0.out) (J0 C3.out) (J0 J4.out) (J0 o0.out) (N1 HB.out)
    clear C0 Q0 C3 J4 o0 HB
    obtain⟨C0,Q0,C3,J4,o0,HB⟩:=n_
    have H:=HK0.out
    clear HK0
    replace H:=Q7 H
    rcases H with⟨rfl,H⟩|⟨rfl,H⟩
    ·replace H:=N2 H
     obtain⟨⟨cp6,cp1⟩,A25,H⟩:=H
     try dsimp only at H
     replace H:=N2 H
     obtain⟨bA8,A26,H⟩:=H
     try dsimp only at H
     by_cases c27:bA8=true
     rotate_left
     ·replace c27:=Bool.eq_false_iff.mpr c27
      subst c27
      rw [if_neg (show ¬(false=true)by decide)] at H
      exact absurd H (by simp)
     subst c27
     have H1:(some (rd l0_0 0,rd l0_0 1,rd l0_0 2,aa0,rd l0_0 3,true))=some (r1,r2,r3,r4,r5,r6):=by rw [if_pos rfl] at H;exact H
     clear H
     have H:=H1
     clear H1
     simp only [Option.some.injEq,Prod.mk.injEq] at H
     obtain⟨rfl,rfl,rfl,rfl,rfl,rfl⟩:=H
     refine b9 (n:=9) (S:=fun w'=>w'.cell? ⟨B0,0,none⟩=some (.int .i64 (rd l0_0 0))∧w'.cell? ⟨B0,1,none⟩=some (.int .i64 (rd l0_0 1))∧w'.cell? ⟨B0,2,none⟩=some (.int .i64 (rd l0_0 2))∧w'.cell? ⟨B0,3,none⟩=some (.slice F4 aa0.length V3)∧w'.cell? ⟨B0,4,none⟩=some (.int .i64 (rd l0_0 3))∧w'.cell? ⟨K6,0,none⟩=some (.slice (some J1) l0_0.length c0_0)∧w'.cell? ⟨K6,1,none⟩=some (.slice (some Y6) l0_1.length c0_1)) (ds:=[]) #[false,false,false,false,false,false,false,false,false] (by kernel_rfl) rfl rfl ⟨(m0 o0.out 0).trans rfl,(m0 o0.out 1).trans rfl,(m0 o0.out 2).trans rfl,(m0 o0.out 3).trans rfl,(m0 o0.out 4).trans rfl,(m0 C3.out 0).trans rfl,(m0 C3.out 1).trans rfl⟩ (fun hHeld=>?_);refine b6 q13.tab5 q13.bits5 (fun HT_ HW_=>?_)
     generalize Z9.drew=au8 at C0 Q0 C3 J4 o0 HB hHeld ⊢
     refine z1 (i:=0) (N:=some 54) (v:=?_) (a':=?_) #[true,false,false,false,false,false,false,false,false] rfl rfl (V0 HT_.out (by kernel_rfl)) (fun _ _ _ h=>h) (Or.inl ⟨by rfl,?_⟩) ?_ ?_
     rotate_left
     ·intro w'
      go_simp
      with_reducible rfl
     rotate_left
     ·simp only [ap_,sb_,s0_,s1_,N0,P0]
      rfl
     refine z1 (i:=1) (N:=some 55) (v:=?_) (a':=?_) #[true,true,false,false,false,false,false,false,false] rfl rfl (V0 HT_.out (by kernel_rfl)) (fun _ _ _ h=>h) (Or.inl ⟨by rfl,?_⟩) ?_ ?_
     rotate_left
     ·intro w'
      go_simp
      with_reducible rfl
     rotate_left
     ·simp only [ap_,sb_,s0_,s1_,N0,P0]
      rfl
     refine z1 (i:=2) (N:=some 56) (v:=?_) (a':=?_) #[true,true,true,false,false,false,false,false,false] rfl rfl (V0 HT_.out (by kernel_rfl)) (fun _ _ _ h=>h) (Or.inl ⟨by rfl,?_⟩) ?_ ?_
     rotate_left
     ·intro w'
      go_simp
      with_reducible rfl
     rotate_left
     ·simp only [ap_,sb_,s0_,s1_,N0,P0]
      rfl
     refine take_ (i:=3) (N:=some 57) (v:=?_) (a':=?_) #[true,true,true,true,false,false,false,false,false] rfl rfl (M2 HT_.out HW_.out (by kernel_rfl)) (fun _ _ _ h=>h) (Or.inl ⟨by rfl,?_⟩) hHeld ?_ ?_
     rotate_left
     ·rintro w' ⟨G6,S6,T6,m8,O8,N8,N9⟩
      go_simp
      with_reducible rfl
     rotate_left
     ·simp only [ap_,sb_,s0_,s1_,N0,P0]
      rfl
     refine take_ (i:=5) (N:=some 59) (v:=?_) (a':=?_) #[true,true,true,true,false,true,false,false,false] rfl rfl (M2 HT_.out HW_.out (by kernel_rfl)) (fun _ _ _ h=>h) (Or.inl ⟨by rfl,?_⟩) hHeld ?_ ?_
     rotate_left
     ·rintro w' ⟨G6,S6,T6,m8,O8,N8,N9⟩
      go_simp
      with_reducible rfl
     rotate_left
     ·simp only [ap_,sb_,s0_,s1_,N0,P0]
      rfl
     refine one_ (i:=4) (N:=some 58) #[true,true,true,true,true,true,false,false,false] rfl rfl (M6 HT_.out (by kernel_rfl)) (by decide) (fun K hK=>?_)
     refine ae6 Try.func54 (by kernel_rfl) rfl #[.agg #[.int .i64 (rd l0_0 0),.int .i64 (rd l0_0 1),.int .i64 (rd l0_0 2),.slice F4 aa0.length V3,.int .i64 (rd l0_0 3)]] (by rfl) rfl rfl (by(try simp only [List.map_toArray,List.map_cons,List.map_nil]);first|done|rfl|(simp only [List.length_drop,List.length_take];rfl)) ?_
     with_reducible refine(q55.calls (rd l0_0 0) (rd l0_0 1) (rd l0_0 2) _ _ aa0 (rd l0_0 3) cp6 cp1 _ ?side1 ?side2 A25.out).mono ?_
     (case side1=>exact cv_ C0)
     (case side2=>exact(Kd.V_reads' C0.out).2.1)
     rintro e bi7 ⟨ae1,ap6,rfl,am1,aH7,hb⟩
     refine⟨_,rfl,?_⟩
     have n_:=pk8 (Kd.V_mono (Kd.V_told (Kd.V_told (Kd.V_old (vo_ C0) hb) (Kd.R_base am1)) (Kd.R_base aH7)) (fun _ h_=>h_.1)) (Kd.R_below (ro_ Q0) hb) (Kd.R_lower (Kd.R_newM (M:=fun k_=>(w.heap.size≤k_)) am1 (L0 bl_) (fun k_ h_=>h_)) (L0 bl_)) (Kd.R_lower (Kd.R_newM (M:=fun k_=>(w.heap.size≤k_)) aH7 (L0 bl_) (fun k_ h_=>h_)) (L0 bl_)) (F0 (bo_ C3) hb) (F0 (bo_ J4) hb) (F0 (bo_ o0) hb) (E0 bl_ hb)
     clear C0 Q0 C3 J4 o0 HB
     obtain⟨C0,Q0,E1,S5,C3,J4,o0,HB⟩:=n_
     (try clear hb)
     (try clear hb2)
     (try clear hk)
     (try clear hi)
     (try clear am1)
     (try clear aH7)
     obtain⟨aw7,at9,bk9⟩:=Kd.R_slice E1.out
     (first|subst bk9|(injection bk9 with f1_ f2_ f3_;have f7000_:=f1_.symm;have f7001_:=f3_.symm;clear f1_ f2_ f3_;subst f7000_;subst f7001_))
     obtain⟨ay2,at3,bo0⟩:=Kd.R_slice S5.out
     (first|subst bo0|(injection bo0 with f1_ f2_ f3_;have f7000_:=f1_.symm;have f7001_:=f3_.symm;clear f1_ f2_ f3_;subst f7000_;subst f7001_))
     refine hK.out _ _ ⟨(m0 o0.out 0).trans rfl,(m0 o0.out 1).trans rfl,(m0 o0.out 2).trans rfl,(m0 o0.out 3).trans rfl,(m0 o0.out 4).trans rfl,(m0 C3.out 0).trans rfl,(m0 C3.out 1).trans rfl⟩ (fun hHeld=>?_)
     clear hK K
     refine o7 (a':=?_) ?_ ?_
     rotate_left
     ·show Act.put _ (some 58) _=_
      simp only [ap_,sb_,s0_,s1_,N0,P0]
      rfl
     refine one_ (i:=6) (N:=some 60) #[true,true,true,true,true,true,true,false,false] rfl rfl (M6 HT_.out (by kernel_rfl)) (by decide) (fun K hK=>?_)
     refine ae6 Try.func53 (by kernel_rfl) rfl #[.agg #[.slice aw7 cp6.length at9,.slice ay2 cp1.length at3],.agg #[.slice (some J1) l0_0.length c0_0,.slice (some Y6) l0_1.length c0_1]] (by rfl) rfl rfl (by(try simp only [List.map_toArray,List.map_cons,List.map_nil]);first|done|rfl|(simp only [List.length_drop,List.length_take];rfl)) ?_
     with_reducible refine(q50.calls kj1 _ _ cp6 _ _ cp1 _ _ l0_0 _ _ l0_1 true _ ?side1 ?side2 ?side3 ?side4 ?side5 ?side6 ?side7 ?side8 A26.out).mono ?_
     (case side1=>exact cr_ E1)
     (case side2=>exact(Kd.R_reads' E1.out).2.1)
     (case side3=>exact cr_ S5)
     (case side4=>exact(Kd.R_reads' S5.out).2.1)
     (case side5=>exact cb_ HR0_0)
     (case side6=>exact HC0_0.out)
     (case side7=>exact cb_ HR0_1)
     (case side8=>exact HC0_1.out)
     rintro e av4 ⟨rfl,hb⟩
     refine⟨_,rfl,?_⟩
     have n_:=pk8 (Kd.V_below (vo_ C0) hb) (Kd.R_below (ro_ Q0) hb) (Kd.R_below (ro_ E1) hb) (Kd.R_below (ro_ S5) hb) (F0 (bo_ C3) hb) (F0 (bo_ J4) hb) (F0 (bo_ o0) hb) (E0 bl_ hb)
     clear C0 Q0 E1 S5 C3 J4 o0 HB
     obtain⟨C0,Q0,E1,S5,C3,J4,o0,HB⟩:=n_
     (try clear hb)
     (try clear hb2)
     (try clear hk)
     (try clear hi)
     refine hK.out _ _ ⟨(m0 o0.out 0).trans rfl,(m0 o0.out 1).trans rfl,(m0 o0.out 2).trans rfl,(m0 o0.out 3).trans rfl,(m0 o0.out 4).trans rfl,(m0 C3.out 0).trans rfl,(m0 C3.out 1).trans rfl⟩ (fun hHeld=>?_)
     clear hK K
     refine o7 (a':=?_) ?_ ?_
     rotate_left
     ·show Act.put _ (some 60) _=_
      simp only [ap_,sb_,s0_,s1_,N0,P0]
      rfl
     refine z1 (i:=7) (N:=some 61) (v:=?_) (a':=?_) #[true,true,true,true,true,true,true,true,false] rfl rfl (V0 HT_.out (by kernel_rfl)) (fun _ _ _ h=>h) (Or.inl ⟨by rfl,?_⟩) ?_ ?_
     rotate_left
     ·intro w'
      go_simp
      with_reducible rfl
     rotate_left
     ·simp only [ap_,sb_,s0_,s1_,N0,P0]
      rfl
     refine z1 (i:=8) (N:=some 62) (v:=?_) (a':=?_) #[true,true,true,true,true,true,true,true,true] rfl rfl (V0 HT_.out (by kernel_rfl)) (fun _ _ _ h=>h) (Or.inl ⟨by rfl,?_⟩) ?_ ?_
     rotate_left
     ·intro w'
      go_simp
      with_reducible rfl
     rotate_left
     ·simp only [ap_,sb_,s0_,s1_,N0,P0]
      rfl
     refine ab2 (K7 HT_.out (by kernel_rfl)) ?_
     obtain⟨z4,C4,E8,s8,r8,j4,Z3,v8,z8,t8⟩:=X4 o0.out
     have aC4:=ac8.out
     have aB3:=ad4.out
     obtain⟨W8,j9,ca3,bZ4,cd3,d9,Y8,cf1,ce7,cc1⟩:=X4 J4.out
     try go_wp2
     refine bodyPost_ret (N5 rfl _ _ j7 69 #[.int .i64 (rd l0_0 0),.int .i64 (rd l0_0 1),.int .i64 (rd l0_0 2),.slice F4 aa0.length V3,.int .i64 (rd l0_0 3)] (0,0) _ rfl (by(with_reducible repeat(first|refine G0 ?_ _|refine J0 ?_|refine I0 ?_ _));refine X8 (cs:=#[.int .i64 0,.int .i64 0,.int .i64 0,.slice none 0 0,.int .i64 0]) ?_ rfl;exact(bo_ J4)) Try.underlying69 rfl (by kernel_rfl)) rfl ?_
     exact⟨_,rf_,(vt_ (Kd.V_mono (U9 (g:=j7) (Kd.V_mono C0.out (fun k_ hk=>(⟨hk,hk.1.1.1.2.2.1⟩:_∧k_≠j7))) (fun _ hk=>hk.2) (.int .i64 (rd l0_0 0)) (.int .i64 (rd l0_0 1)) (.int .i64 (rd l0_0 2)) (.slice F4 aa0.length V3) (.int .i64 (rd l0_0 3))) (fun _ hk=>hk.1.1.1.1.1))),bl_⟩
    ·simp only [Option.some.injEq,Prod.mk.injEq] at H
     obtain⟨rfl,rfl,rfl,rfl,rfl,rfl⟩:=H
     refine b9 (n:=9) (S:=fun w'=>True) (ds:=[]) #[false,false,false,false,false,false,false,false,false] (by kernel_rfl) rfl rfl trivial (fun hHeld=>?_);refine b6 q13.tab5 q13.bits5 (fun HT_ HW_=>?_)
     generalize Z9.drew=au8 at C0 Q0 C3 J4 o0 HB hHeld ⊢
     refine z1 (i:=0) (N:=some 54) (v:=?_) (a':=?_) #[true,false,false,false,false,false,false,false,false] rfl rfl (V0 HT_.out (by kernel_rfl)) (fun _ _ _ h=>h) (Or.inl ⟨by rfl,?_⟩) ?_ ?_
     rotate_left
     ·intro w'
      go_simp
      with_reducible rfl
     rotate_left
     ·simp only [ap_,sb_,s0_,s1_,N0,P0]
      rfl
     refine z1 (i:=1) (N:=some 55) (v:=?_) (a':=?_) #[true,true,false,false,false,false,false,false,false] rfl rfl (V0 HT_.out (by kernel_rfl)) (fun _ _ _ h=>h) (Or.inl ⟨by rfl,?_⟩) ?_ ?_
     rotate_left
     ·intro w'
      go_simp
      with_reducible rfl
     rotate_left
     ·simp only [ap_,sb_,s0_,s1_,N0,P0]
      rfl
     refine z1 (i:=2) (N:=some 56) (v:=?_) (a':=?_) #[true,true,true,false,false,false,false,false,false] rfl rfl (V0 HT_.out (by kernel_rfl)) (fun _ _ _ h=>h) (Or.inl ⟨by rfl,?_⟩) ?_ ?_
     rotate_left
     ·intro w'
      go_simp
      with_reducible rfl
     rotate_left
     ·simp only [ap_,sb_,s0_,s1_,N0,P0]
      rfl
     refine z1 (i:=3) (N:=some 57) (v:=undef) (a':=?_) #[true,true,true,true,false,false,false,false,false] rfl rfl (V0 HT_.out (by kernel_rfl)) (fun _ _ _ h=>h) (Or.inr ⟨by rfl,rfl⟩) ?_ ?_
     rotate_left
     ·simp only [ap_,sb_,s0_,s1_,N0,P0]
      rfl
     refine z1 (i:=4) (N:=some 58) (v:=undef) (a':=?_) #[true,true,true,true,true,false,false,false,false] rfl rfl (V0 HT_.out (by kernel_rfl)) (fun _ _ _ h=>h) (Or.inr ⟨by rfl,rfl⟩) ?_ ?_
     rotate_left
     ·simp only [ap_,sb_,s0_,s1_,N0,P0]
      rfl
     refine z1 (i:=5) (N:=some 59) (v:=undef) (a':=?_) #[true,true,true,true,true,true,false,false,false] rfl rfl (V0 HT_.out (by kernel_rfl)) (fun _ _ _ h=>h) (Or.inr ⟨by rfl,rfl⟩) ?_ ?_
     rotate_left
     ·simp only [ap_,sb_,s0_,s1_,N0,P0]
      rfl
     refine z1 (i:=6) (N:=some 60) (v:=undef) (a':=?_) #[true,true,true,true,true,true,true,false,false] rfl rfl (V0 HT_.out (by kernel_rfl)) (fun _ _ _ h=>h) (Or.inr ⟨by rfl,rfl⟩) ?_ ?_
     rotate_left
     ·simp only [ap_,sb_,s0_,s1_,N0,P0]
      rfl
     refine z1 (i:=7) (N:=some 61) (v:=undef) (a':=?_) #[true,true,true,true,true,true,true,true,false] rfl rfl (V0 HT_.out (by kernel_rfl)) (fun _ _ _ h=>h) (Or.inr ⟨by rfl,rfl⟩) ?_ ?_
     rotate_left
     ·simp only [ap_,sb_,s0_,s1_,N0,P0]
      rfl
     refine z1 (i:=8) (N:=some 62) (v:=?_) (a':=?_) #[true,true,true,true,true,true,true,true,true] rfl rfl (V0 HT_.out (by kernel_rfl)) (fun _ _ _ h=>h) (Or.inl ⟨by rfl,?_⟩) ?_ ?_
     rotate_left
     ·intro w'
      go_simp
      with_reducible rfl
     rotate_left
     ·simp only [ap_,sb_,s0_,s1_,N0,P0]
      rfl
     refine ab2 (K7 HT_.out (by kernel_rfl)) ?_
     have aC4:=ac8.out
     have aB3:=ad4.out
     obtain⟨z4,C4,E8,s8,r8,j4,Z3,v8,z8,t8⟩:=X4 J4.out
     try go_wp2
     refine bodyPost_ret (N5 rfl _ _ j7 69 #[.int .i64 0,.int .i64 0,.int .i64 0,.slice none 0 0,.int .i64 0] (0,0) _ rfl (by(with_reducible repeat(first|refine G0 ?_ _|refine J0 ?_|refine I0 ?_ _));refine X8 (cs:=#[.int .i64 0,.int .i64 0,.int .i64 0,.slice none 0 0,.int .i64 0]) ?_ rfl;exact(bo_ J4)) Try.underlying69 rfl (by kernel_rfl)) rfl ?_
     exact⟨_,rf_,(Kd.V_nil _ _ _ _ _),bl_⟩
end Go.Proofs.Ytmddmbagehjdeaa.G
end
section
namespace Go.Proofs.Ytmddmbagehjdeaa.G
open Go.RowKit Go.Proofs.YtmddmbagehjdeaaX Go.Proofs.YtmddmbagehjdeaaW.PrintWords Go.Proofs.YtmddmbagehjdeaaW.PrintLast Go.Proofs.YtmddmbagehjdeaaW.PrintMore
attribute [local go_sem] S3 R3 R4 S4 P3 N3 D4 Y3
mutual
def q11.j0:Nat→Bool→Int→Int→Int→List Int→Int→List Int→List ByteArray→Option (Bool)
 |0,_,_,_,_,_,_,_,_=>none
 |k+1,x29,am3,al7,am2,al8,am6,bB9,bH2=>if x29=true then((q21.f k).bind fun cg4=>(some cg4))else((q56.f k am3 al7 am2 al8 am6).bind fun aN5=>((q28.f k bB9 bH2).bind fun ai9=>((q13.f k bB9 bH2).bind fun ai7=>(if(ai7.2.2.2.2.2 != (ai9.2.2.2.2.2 == 0))=true then(none)else(if ai7.2.2.2.2.2=true then((q49.f ai9.1 ai9.2.1 ai9.2.2.1 ai9.2.2.2.1 ai9.2.2.2.2.1 ai7.1 ai7.2.1 ai7.2.2.1 ai7.2.2.2.1 ai7.2.2.2.2.1).bind fun bS5=>(q11.j1 k aN5.2.2 (!bS5) am3 al7 am2 al8 am6 aN5.1 aN5.2.1))else(if ai9.2.2.2.2.2=2 then((q49.f ai9.1 ai9.2.1 ai9.2.2.1 ai9.2.2.2.1 ai9.2.2.2.2.1 ai7.1 ai7.2.1 ai7.2.2.1 ai7.2.2.2.1 ai7.2.2.2.2.1).bind fun bU1=>(q11.j1 k aN5.2.2 (!bU1) am3 al7 am2 al8 am6 aN5.1 aN5.2.1))else(none)))))))
def q11.j1:Nat→Int→Bool→Int→Int→Int→List Int→Int→List Int→List ByteArray→Option (Bool)
 |0,_,_,_,_,_,_,_,_,_=>none
 |k+1,x6,x63,am3,al7,am2,al8,am6,aZ3,ba0=>if x63=true then(none)else((q6.f k am3 al7 am2 al8 am6).bind fun bQ3=>(if bQ3.2=true then((q28.f k aZ3 ba0).bind fun ag3=>(if x6=0 then((q55.f am3 al7 am2 al8 am6).bind fun ba1=>((q50.f k aZ3 ba0 ba1.1 ba1.2).bind fun bB7=>(if bB7=true then(if ag3.2.2.2.2.2=0 then((q49.f ag3.1 ag3.2.1 ag3.2.2.1 ag3.2.2.2.1 ag3.2.2.2.2.1 am3 al7 am2 al8 am6).bind fun aV4=>(if aV4=true then((q21.f k).bind fun aM3=>(some aM3))else(none)))else(none))else(none))))else(none)))else(if x6=2 then((q50.f k aZ3 ba0 ([]:List Int) ([]:List ByteArray)).bind fun bC3=>(if bC3=true then((q21.f k).bind fun aX5=>(some aX5))else(none)))else(none))))
end
def q11.f (k:Nat) (a0_0:Int) (a0_1:Int) (a0_2:Int) (l0_3:List Int) (a0_4:Int) (l1_0:List Int) (l1_1:List ByteArray):Option (Bool):=(q52.f a0_0 a0_1 a0_2 l0_3 a0_4).bind fun bT9=>(if bT9=true then(if(l1_0.length:Int)>20 then(q11.j0 k true a0_0 a0_1 a0_2 l0_3 a0_4 l1_0 l1_1)else(q11.j0 k (decide ((l1_1.length:Int)>5)) a0_0 a0_1 a0_2 l0_3 a0_4 l1_0 l1_1))else(q11.j0 k true a0_0 a0_1 a0_2 l0_3 a0_4 l1_0 l1_1))
def q11.T12:Bool×List (List Nat×List Nat):=(true,[([],[]),([0],[0]),([1],[1]),([2],[2]),([2],[2]),([4,2,2],[2,4]),([3,5,5,2],[2,3,5]),([2,6],[2,6]),([7,6],[7]),([8],[8]),([9,8],[8,9]),([8,10],[8,10]),([11,8],[11]),([12],[12]),([12],[12]),([13,14,12,12],[12,13,14]),([12,15],[12,15]),([16,15],[16]),([17,17],[17]),([17,18],[17,18]),([19,18,0,1,2,3,4,5,6,7,8,9,10,11,12,13,14,15,16,17,18,19],[19])])
def q11.B12:List Nat:=[0,1,3,7,7,23,63,127,255,511,1023,2047,4095,8191,8191,32767,65535,131071,262143,524287,1048575]
theorem q11.tab12:rtab .any (ap1 Try.f13 12)=q11.T12:=by kernel_rfl
theorem q11.bits12:b8 q11.T12.2 q11.B12=true:=by kernel_rfl
end Go.Proofs.Ytmddmbagehjdeaa.G
end
