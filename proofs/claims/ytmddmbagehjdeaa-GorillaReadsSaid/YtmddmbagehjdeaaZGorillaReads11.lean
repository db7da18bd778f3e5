/- More lines for the row. -/
import Derived.Test.YtmddmbagehjdeaaZGorillaReads10
set_option linter.unusedVariables false
set_option linter.unusedSimpArgs false
set_option maxRecDepth 100000
set_option maxHeartbeats 8000000
namespace Go.Proofs.Ytmddmbagehjdeaa
abbrev bz11_14_0:Array Bool:=#[false,false,false,false,false,false,false,false,false,false,false,false,false,false]
abbrev bz11_14_1:Array Bool:=#[true,false,false,false,false,false,false,false,false,false,false,false,false,false]
abbrev bz11_14_1023:Array Bool:=#[true,true,true,true,true,true,true,true,true,true,false,false,false,false]
abbrev bz11_14_127:Array Bool:=#[true,true,true,true,true,true,true,false,false,false,false,false,false,false]
abbrev bz11_14_15:Array Bool:=#[true,true,true,true,false,false,false,false,false,false,false,false,false,false]
abbrev bz11_14_1535:Array Bool:=#[true,true,true,true,true,true,true,true,true,false,true,false,false,false]
abbrev bz11_14_16383:Array Bool:=#[true,true,true,true,true,true,true,true,true,true,true,true,true,true]
abbrev bz11_14_2047:Array Bool:=#[true,true,true,true,true,true,true,true,true,true,true,false,false,false]
abbrev bz11_14_255:Array Bool:=#[true,true,true,true,true,true,true,true,false,false,false,false,false,false]
abbrev bz11_14_3:Array Bool:=#[true,true,false,false,false,false,false,false,false,false,false,false,false,false]
abbrev bz11_14_31:Array Bool:=#[true,true,true,true,true,false,false,false,false,false,false,false,false,false]
abbrev bz11_14_4095:Array Bool:=#[true,true,true,true,true,true,true,true,true,true,true,true,false,false]
abbrev bz11_14_511:Array Bool:=#[true,true,true,true,true,true,true,true,true,false,false,false,false,false]
abbrev bz11_14_63:Array Bool:=#[true,true,true,true,true,true,false,false,false,false,false,false,false,false]
abbrev bz11_14_7:Array Bool:=#[true,true,true,false,false,false,false,false,false,false,false,false,false,false]
abbrev bz11_14_8191:Array Bool:=#[true,true,true,true,true,true,true,true,true,true,true,true,true,false]
end Go.Proofs.Ytmddmbagehjdeaa
section
namespace Go.Proofs.Ytmddmbagehjdeaa.G
open Go.RowKit Go.Proofs.YtmddmbagehjdeaaX Go.Proofs.YtmddmbagehjdeaaW.PrintWords Go.Proofs.YtmddmbagehjdeaaW.PrintLast Go.Proofs.YtmddmbagehjdeaaW.PrintMore
attribute [local go_sem] max2_int min2_int max_two min_two max_three min_three max_four min_four
theorem windroseref18_Samples.calls (k:Nat) (a0_0:Int) (a0_1:Int) (a0_2:Int) (A0_3:Option Addr) (c0_3:Nat) (l0_3:List Int) (a0_4:Int) (r1:List (S67)) (r2:Bool) (w:World) (hr0_3:Kd.C (Kd.int .u8) w A0_3 l0_3.length l0_3) (hc0_3:l0_3.length≤c0_3) (h:windroseref18_Samples.f k a0_0 a0_1 a0_2 l0_3 a0_4=some (r1,r2)) :
  Calls Try.prog 48 #[.agg #[.int .i64 a0_0,.int .i64 a0_1,.int .i64 a0_2,.slice A0_3 l0_3.length c0_3,.int .i64 a0_4]] w fun e w'=>∃ v0_:Value,e=.returned (.tuple #[v0_,.bool r2])∧Kd.R k67 67 w' w.heap.size (fun _=>True) v0_ r1∧Below w.heap.size w w':=by
 have hu69:=Try.underlying69
 have hu25:=Try.underlying25
 have hu98:=Try.underlying98
 have HR0_3:=Aside0.mk hr0_3
 have HC0_3:=Aside0.mk hc0_3
 clear hr0_3 hc0_3
 have HB:=Aside0.mk (Below.refl w.heap.size w)
 have H:(if a0_0<1 then(windroseref18_Samples.j0 k true a0_0 a0_1 a0_2 l0_3 a0_4)else(if a0_0>64 then(windroseref18_Samples.j0 k true a0_0 a0_1 a0_2 l0_3 a0_4)else((windroseref17_May.f l0_3 a0_4).bind fun t870=>(windroseref18_Samples.j0 k (!t870) a0_0 a0_1 a0_2 l0_3 a0_4))))=some (r1,r2):=h
 clear h
 have HC2:=Aside0.mk H
 clear H
 go_enter Try.func48,Try.ntmps48
 go_upto_region 1 with(first|((with_reducible refine gate_dst (N:=1) rfl ?_);(try(refine gate_guard (by rfl) ?_;dsimp only));refine box_ev 1 #[.int .i64 a0_0,.int .i64 a0_1,.int .i64 a0_2,.slice A0_3 l0_3.length c0_3,.int .i64 a0_4] 69 ?_;intro gb869 hg w3 hbox hb;have n_:=pk4 (below_step bl_ hb) (hbox) ((ge_ hg bl_:w.heap.size≤gb869)) ((ge_ hg bl_:w.heap.size≤gb869));clear HB;obtain⟨HB,BK869,GW869,GE869⟩:=n_;clear hb hbox hg))
 (try simp only [ap_,sb_,s0_,s1_])
 go_cut [28] (fun v28 wc=>∃ (kq:Nat) (x28_1:Bool),v28=.bool x28_1∧Aside0 (windroseref18_Samples.j0 kq x28_1 a0_0 a0_1 a0_2 l0_3 a0_4=some (r1,r2))∧Aside0 (kq≤k)∧Aside0 (wc.heap[gb869]?=some (.cells #[.int .i64 a0_0,.int .i64 a0_1,.int .i64 a0_2,(.slice A0_3 l0_3.length c0_3),.int .i64 a0_4] 69 (0,0)))∧Aside0 (Below w.heap.size w wc))
 case first =>
  have H:=HC2.out
  clear HC2
  replace H:=dle H
  rcases H with⟨c4b0,H⟩|⟨c4b0,H⟩
  focus
   (first|rw [c4b0]|(simp only [i64_w,i32_w];rw [c4b0])|skip)
   have H':=Aside0.mk H
   clear H
   obtain⟨hcz5_0,hcz5_1,hcz5_2,hcz5_3,hcz5_4,hfz5_0,hfz5_1,hfz5_2,hfz5_3,hfz5_4⟩:=blk_at5 BK869.out
  rotate_left
  focus
   (first|rw [c4b0]|(simp only [i64_w,i32_w];rw [c4b0])|skip)
   replace H:=dgt H
   rcases H with⟨c6b0,H⟩|⟨c6b0,H⟩
   focus
    have H':=Aside0.mk H
    clear H
    obtain⟨hcz7_0,hcz7_1,hcz7_2,hcz7_3,hcz7_4,hfz7_0,hfz7_1,hfz7_2,hfz7_3,hfz7_4⟩:=blk_at5 BK869.out
   rotate_left
   focus
    replace H:=bindA H
    obtain⟨t870,A8,H⟩:=H
    try dsimp only at H
    have H':=Aside0.mk H
    clear H
    obtain⟨hcz9_0,hcz9_1,hcz9_2,hcz9_3,hcz9_4,hfz9_0,hfz9_1,hfz9_2,hfz9_3,hfz9_4⟩:=blk_at5 BK869.out
  all_goals
   go_wp2_with (first|(go_at_call 22;(with_reducible refine(windroseref17_May.calls _ _ l0_3 a0_4 t870 _ ?side1 ?side2 A8.out).mono ?_);(case side1=>repeat(first|exact(Kd.C_below HR0_3.out bl_)|(with_reducible refine Kd.C_alloc ?_ _)|(with_reducible refine Kd.C_drewN ?_ _)|(with_reducible refine Kd.C_drew ?_)));(case side2=>exact HC0_3.out);rintro e w7000 ⟨rfl,hb⟩;have n_:=pk2 (blk_below (bo_ BK869) hb) (below_step bl_ hb);clear BK869 HB;obtain⟨BK869,HB⟩:=n_;(try clear hb)))
   go_meet
   first
    |case rel=>exact⟨_,(true),sm_,H',⟨om_⟩,⟨(bo_ BK869)⟩,⟨bl_⟩⟩
    |case rel=>exact⟨_,(!t870),sm_,H',⟨om_⟩,⟨(bo_ BK869)⟩,⟨bl_⟩⟩
 case rest =>
  clear HC2
  obtain⟨kq,x28_1,rfl,HA,HJ1,BK869,HB⟩:=hcut
  cases kq with
  |zero=>exact absurd HA.out (by simp [windroseref18_Samples.j0])
  |succ kj1 =>
   have H:=HA.out
   clear HA
   simp only [windroseref18_Samples.j0] at H
   replace H:=dbool H
   rcases H with⟨rfl,H⟩|⟨rfl,H⟩
   rotate_left
   ·replace H:=bindA H
    obtain⟨t871,A12,H⟩:=H
    try dsimp only at H
    obtain⟨y874,hy874⟩:∃ y_:List Int,y_=(([a0_0]:List Int)):=⟨_,rfl⟩
    replace H:(windroseref18_Samples.l0 kj1 t871 y874 0 a0_0 a0_1 a0_2 l0_3 a0_4)=some (r1,r2):=by first|(rw [hy874];with_reducible exact H)|(have H2_:=(Option.bind_some _ _).symm.trans H;rw [hy874];with_reducible exact H2_)|(have H2_:=(Option.bind_some _ _).symm.trans H;with_reducible exact H2_)|with_reducible exact H|(rw [hy874];exact H)|exact H
    have Ny874:=Aside0.mk hy874
    clear hy874
    have H':=Aside0.mk H
    clear H
    obtain⟨hcz13_0,hcz13_1,hcz13_2,hcz13_3,hcz13_4,hfz13_0,hfz13_1,hfz13_2,hfz13_3,hfz13_4⟩:=blk_at5 BK869.out
    go_wp2_with (first|((with_reducible refine gate_callee (f:=23) rfl ?_);refine goL_ (some 31) Try.func23 #[.agg #[.slice A0_3 l0_3.length c0_3,.int .i64 a0_4]] ?_;(with_reducible refine(windroseref17_List.calls kj1 _ _ l0_3 a0_4 t871 _ ?side1 ?side2 A12.out).mono ?_);(case side1=>exact cb_ HR0_3);(case side2=>exact HC0_3.out);rintro e w14 ⟨v872,rfl,ho0,hb⟩;refine⟨_,rfl,?_⟩;have n_:=pk3 (Kd.R_lower ho0 (below_size bl_)) (blk_below (bo_ BK869) hb) (below_step bl_ hb);clear BK869 HB;obtain⟨HO873,BK869,HB⟩:=n_;(try clear hb ho0);have hcz15_0:w14.cell? ⟨gb869,0,none⟩=some (.int .i64 a0_0):=(blk_cell BK869.out 0).trans rfl;have hcz15_1:w14.cell? ⟨gb869,1,none⟩=some (.int .i64 a0_1):=(blk_cell BK869.out 1).trans rfl;have hcz15_2:w14.cell? ⟨gb869,2,none⟩=some (.int .i64 a0_2):=(blk_cell BK869.out 2).trans rfl;have hcz15_3:w14.cell? ⟨gb869,3,none⟩=some (.slice A0_3 l0_3.length c0_3):=(blk_cell BK869.out 3).trans rfl;have hcz15_4:w14.cell? ⟨gb869,4,none⟩=some (.int .i64 a0_4):=(blk_cell BK869.out 4).trans rfl;have hfz15_0:=blk_frozen BK869.out 0;have hfz15_1:=blk_frozen BK869.out 1;have hfz15_2:=blk_frozen BK869.out 2;have hfz15_3:=blk_frozen BK869.out 3;have hfz15_4:=blk_frozen BK869.out 4)|((with_reducible refine gate_dst (N:=34) rfl ?_);(try(refine gate_guard (by rfl) ?_;dsimp only));refine Kd.R_lit (Kd.int .i64) _ 3 ?hg (N:=34) ?hd (xs:=([a0_0]:List Int)) (inner:=[.int .i64 a0_0]) (ok:=fun _=>True) (okp:=fun _=>True) ?hr ?hp (fun _ hk=>hk) trivial (Below.refl _ _) (Nat.le_refl _) (by simp) ?_;(case hd=>rfl);(case hg=>rfl);(case hr=>first|(go_simp;done)|(go_simp;rfl));(case hp=>exact(Reps.one (show Kd.M (Kd.int .i64) _ _ _ a0_0 [.int .i64 a0_0] from rfl) (Reps.none _ _)));intro v875 w16 ho17 hb hg_ hnew_;clear hg_ hnew_;(first|rw [←Ny874.out] at ho17|(simp only [Int.reduceToNat] at ho17;rw [←Ny874.out] at ho17));have n_:=pk4 (Kd.R_below (ro_ HO873) hb) (Kd.R_lower ho17 (below_size bl_)) (blk_below (bo_ BK869) hb) (below_step bl_ hb);clear HO873 BK869 HB;obtain⟨HO873,HO876,BK869,HB⟩:=n_;clear hb ho17))
    go_loopg [5,6] kj1 (fun kq v5 v6 w'=>∃ (x5_2:List Int) (x6_2:Int),v6=.int .i64 x6_2∧Aside0 (windroseref18_Samples.l0 kq t871 x5_2 x6_2 a0_0 a0_1 a0_2 l0_3 a0_4=some (r1,r2))∧Aside0 (kq≤kj1)∧Aside0 (Kd.R Kd.bool 4 w' w.heap.size (fun _=>True) v872 t871)∧Aside0 (Kd.R (Kd.int .i64) 3 w' w.heap.size (fun _=>True) v5 x5_2)∧Aside0 (w'.heap[gb869]?=some (.cells #[.int .i64 a0_0,.int .i64 a0_1,.int .i64 a0_2,(.slice A0_3 l0_3.length c0_3),.int .i64 a0_4] 69 (0,0)))∧Aside0 (Below w.heap.size w w'))
    case atStart=>exact⟨(y874),(0),sm_,H',⟨Nat.le_refl _⟩,⟨(ro_ HO873)⟩,⟨(ro_ HO876)⟩,⟨(bo_ BK869)⟩,⟨bl_⟩⟩
    case round =>
     clear H'
     try clear c11
     try clear hcz13_0
     try clear hcz13_1
     try clear hcz13_2
     try clear hcz13_3
     try clear hcz13_4
     try clear hfz13_0
     try clear hfz13_1
     try clear hfz13_2
     try clear hfz13_3
     try clear hfz13_4
     obtain⟨x5_2,x6_2,rfl,HA,HK2,HO_4,HO_5,BK869,HB⟩:=hrel
     cases gk with
     |zero=>exact absurd HA.out (by simp [windroseref18_Samples.l0])
     |succ k2 =>
      have H:=HA.out
      clear HA
      simp only [windroseref18_Samples.l0] at H
      replace H:=dle H
      rcases H with⟨c18b0,H⟩|⟨c18b0,H⟩
      ·by_cases c19:0≤x6_2
       ·rw [if_pos c19] at H
        have c19b0:=eq_true c19
        have c19b1:decide (0≤x6_2)=true:=decide_eq_true c19
        clear c19
        by_cases c20:x6_2≤(t871.length:Int)
        ·rw [if_pos c20] at H
         have c20b0:=eq_true c20
         have c20b1:decide (x6_2≤(t871.length:Int))=true:=decide_eq_true c20
         clear c20
         obtain⟨y877,hy877⟩:∃ y_:List Bool,y_=(t871.drop (x6_2:Int).toNat):=⟨_,rfl⟩
         replace H:((windroseref17_Number.f k2 y877).bind fun bt881=>(if 0≤(wrap64 (x6_2+bt881.2))then(if(wrap64 (x6_2+bt881.2))≤(t871.length:Int)then((windroseref17_Number.f k2 (t871.drop ((wrap64 (x6_2+bt881.2)):Int).toNat)).bind fun bt887=>(if bt881.2=0 then(windroseref18_Samples.j2 k2 t871 x5_2 (wrap64 ((wrap64 (x6_2+bt881.2))+bt887.2)) bt881.1 bt887.1 true a0_0 a0_1 a0_2 l0_3 a0_4)else(windroseref18_Samples.j2 k2 t871 x5_2 (wrap64 ((wrap64 (x6_2+bt881.2))+bt887.2)) bt881.1 bt887.1 (bt887.2 == 0) a0_0 a0_1 a0_2 l0_3 a0_4)))else(none))else(none)))=some (r1,r2):=by first|(rw [hy877];with_reducible exact H)|(have H2_:=(Option.bind_some _ _).symm.trans H;rw [hy877];with_reducible exact H2_)|(have H2_:=(Option.bind_some _ _).symm.trans H;with_reducible exact H2_)|with_reducible exact H|(rw [hy877];exact H)|exact H
         have Ny877:=Aside0.mk hy877
         clear hy877
         replace H:=bindA H
         obtain⟨⟨t881,t882⟩,A21,H⟩:=H
         try dsimp only at H
         obtain⟨ji22,hji22⟩:∃ j_:Int,(wrap64 (x6_2+t882))=j_:=⟨_,rfl⟩
         replace H:(if 0≤(ji22)then(if(ji22)≤(t871.length:Int)then((windroseref17_Number.f k2 (t871.drop ((ji22):Int).toNat)).bind fun bt887=>(if t882=0 then(windroseref18_Samples.j2 k2 t871 x5_2 (wrap64 ((ji22)+bt887.2)) t881 bt887.1 true a0_0 a0_1 a0_2 l0_3 a0_4)else(windroseref18_Samples.j2 k2 t871 x5_2 (wrap64 ((ji22)+bt887.2)) t881 bt887.1 (bt887.2 == 0) a0_0 a0_1 a0_2 l0_3 a0_4)))else(none))else(none))=some (r1,r2):=by first|(rw [hji22] at H;exact H)|(simp only [hji22] at H ⊢;exact H)
         (try rw [hji22] at A21)
         have hji22w:(IntKind.i64.wrap (x6_2+t882))=ji22:=(i64_w _).trans hji22
         by_cases c23:0≤(ji22)
         ·rw [if_pos c23] at H
          have c23b0:=eq_true c23
          have c23b1:decide (0≤(ji22))=true:=decide_eq_true c23
          clear c23
          by_cases c24:(ji22)≤(t871.length:Int)
          ·rw [if_pos c24] at H
           have c24b0:=eq_true c24
           have c24b1:decide ((ji22)≤(t871.length:Int))=true:=decide_eq_true c24
           clear c24
           obtain⟨y883,hy883⟩:∃ y_:List Bool,y_=(t871.drop ((ji22):Int).toNat):=⟨_,rfl⟩
           replace H:((windroseref17_Number.f k2 y883).bind fun bt887=>(if t882=0 then(windroseref18_Samples.j2 k2 t871 x5_2 (wrap64 ((ji22)+bt887.2)) t881 bt887.1 true a0_0 a0_1 a0_2 l0_3 a0_4)else(windroseref18_Samples.j2 k2 t871 x5_2 (wrap64 ((ji22)+bt887.2)) t881 bt887.1 (bt887.2 == 0) a0_0 a0_1 a0_2 l0_3 a0_4)))=some (r1,r2):=by first|(rw [hy883];with_reducible exact H)|(have H2_:=(Option.bind_some _ _).symm.trans H;rw [hy883];with_reducible exact H2_)|(have H2_:=(Option.bind_some _ _).symm.trans H;with_reducible exact H2_)|with_reducible exact H|(rw [hy883];exact H)|exact H
           have Ny883:=Aside0.mk hy883
           clear hy883
           replace H:=bindA H
           obtain⟨⟨t887,t888⟩,A25,H⟩:=H
           try dsimp only at H
           have HC26:=Aside0.mk H
           clear H
           obtain⟨Ao27,co27,eo27⟩:=Kd.R_slice HO_5.out
           subst eo27
           obtain⟨hcz28_0,hcz28_1,hcz28_2,hcz28_3,hcz28_4,hfz28_0,hfz28_1,hfz28_2,hfz28_3,hfz28_4⟩:=blk_at5 BK869.out
           obtain⟨Ao30,co30,eo30⟩:=Kd.R_slice HO_4.out
           subst eo30
           have q29:(x6_2:Int)≤((t871.length:Int):Int):=dc_
           obtain⟨i029,hi029,_,hsz29,_⟩:=info_parts info4
           have hroom29:t871.length≤co30:=(Kd.R_reads' HO_4.out).2.1
           have hC29:Kd.C Kd.bool _ Ao30 t871.length t871:=(Kd.R_reads' HO_4.out).2.2
           have q029:(0:Int)≤(x6_2:Int):=dc_
           have hcut29:=cut_from (P:=Try.prog) 39 4 .i64 Try.underlying39 hi029 1 hsz29 Ao30 t871.length co30 x6_2 q029 q29
           have hr29:=Kd.C_drop (m:=(x6_2:Int).toNat) (c:=co30) hC29 (by omega) hroom29
           obtain⟨A29,hA29⟩:∃ A1,A1=(if co30=(x6_2:Int).toNat then Ao30 else(Ao30:Option Addr).map (·.add ((x6_2:Int).toNat*1))):=⟨_,rfl⟩
           obtain⟨c29,hc29⟩:∃ c1,c1=co30 - (x6_2:Int).toNat:=⟨_,rfl⟩
           have hy29:y877.length=t871.length - (x6_2:Int).toNat:=(by rw [Ny877.out,List.length_drop]<;>omega)
           rw [show(t871).drop (x6_2:Int).toNat=y877 from Ny877.out.symm] at hr29
           replace hr29:Kd.C Kd.bool _ A29 y877.length y877:=(by rw [hA29];exact hr29)
           rw [←hy29,←hA29,←hc29] at hcut29
           have HR880:=Aside0.mk hr29
           have HC880:=Aside0.mk (show y877.length≤c29 from by rw [hy29,hc29];exact Nat.sub_le_sub_right hroom29 _)
           clear hr29 hC29 hroom29 hi029 hsz29 hc29
           have KY29:=Aside0.mk hy29
           have KA29:=Aside0.mk hA29
           clear hy29 hA29
           have KL29:=Aside0.mk (show(x6_2:Int).toNat≤t871.length from by omega)
           replace q29:=eq_true q29
           go_upto_region 11 with(first|((with_reducible refine gate_callee (f:=26) rfl ?_);refine goL_ (some 46) Try.func26 #[.slice A29 y877.length c29] ?_;(with_reducible refine(windroseref17_Number.calls k2 _ _ y877 t881 t882 _ ?side1 ?side2 A21.out).mono ?_);(case side1=>repeat(first|exact(by repeat(first|(with_reducible exact HR880.out)|(with_reducible refine Kd.C_alloc ?_ _)|(with_reducible refine Kd.C_drewN ?_ _)|(with_reducible refine Kd.C_drew ?_)|exact HR880.out))|(with_reducible refine Kd.C_alloc ?_ _)|(with_reducible refine Kd.C_drewN ?_ _)|(with_reducible refine Kd.C_drew ?_)));(case side2=>exact HC880.out);rintro e w31 ⟨rfl,hb⟩;refine⟨_,rfl,?_⟩;have n_:=pk5 (Kd.R_below (ro_ HO_4) hb) (Kd.R_below (ro_ HO_5) hb) (blk_below (bo_ BK869) hb) (Kd.C_below (by repeat(first|(with_reducible exact HR880.out)|(with_reducible refine Kd.C_alloc ?_ _)|(with_reducible refine Kd.C_drewN ?_ _)|(with_reducible refine Kd.C_drew ?_)|exact HR880.out)) hb) (below_step bl_ hb);clear HO_4 HO_5 BK869 HR880 HB;obtain⟨HO_4,HO_5,BK869,HR880,HB⟩:=n_;(try clear hb);have q32:((ji22):Int)≤((t871.length:Int):Int):=dc_;obtain⟨i032,hi032,_,hsz32,_⟩:=info_parts info4;have hroom32:t871.length≤co30:=(Kd.R_reads' HO_4.out).2.1;have hC32:Kd.C Kd.bool _ Ao30 t871.length t871:=(Kd.R_reads' HO_4.out).2.2;have q032:(0:Int)≤((ji22):Int):=dc_;have hcut32:=cut_from (P:=Try.prog) 39 4 .i64 Try.underlying39 hi032 1 hsz32 Ao30 t871.length co30 (ji22) q032 q32;have hr32:=Kd.C_drop (m:=((ji22):Int).toNat) (c:=co30) hC32 (by omega) hroom32;obtain⟨A32,hA32⟩:∃ A1,A1=(if co30=((ji22):Int).toNat then Ao30 else(Ao30:Option Addr).map (·.add (((ji22):Int).toNat*1))):=⟨_,rfl⟩;obtain⟨c32,hc32⟩:∃ c1,c1=co30 - ((ji22):Int).toNat:=⟨_,rfl⟩;have hy32:y883.length=t871.length - ((ji22):Int).toNat:=(by rw [Ny883.out,List.length_drop]<;>omega);rw [show(t871).drop ((ji22):Int).toNat=y883 from Ny883.out.symm] at hr32;replace hr32:Kd.C Kd.bool _ A32 y883.length y883:=(by rw [hA32];exact hr32);rw [←hy32,←hA32,←hc32] at hcut32;have HR886:=Aside0.mk hr32;have HC886:=Aside0.mk (show y883.length≤c32 from by rw [hy32,hc32];exact Nat.sub_le_sub_right hroom32 _);clear hr32 hC32 hroom32 hi032 hsz32 hc32;have KY32:=Aside0.mk hy32;have KA32:=Aside0.mk hA32;clear hy32 hA32;have KL32:=Aside0.mk (show((ji22):Int).toNat≤t871.length from by omega);replace q32:=eq_true q32)|((with_reducible refine gate_callee (f:=26) rfl ?_);refine goL_ (some 56) Try.func26 #[.slice A32 y883.length c32] ?_;(with_reducible refine(windroseref17_Number.calls k2 _ _ y883 t887 t888 _ ?side1 ?side2 A25.out).mono ?_);(case side1=>repeat(first|exact(by repeat(first|(with_reducible exact HR886.out)|(with_reducible refine Kd.C_alloc ?_ _)|(with_reducible refine Kd.C_drewN ?_ _)|(with_reducible refine Kd.C_drew ?_)|exact HR886.out))|(with_reducible refine Kd.C_alloc ?_ _)|(with_reducible refine Kd.C_drewN ?_ _)|(with_reducible refine Kd.C_drew ?_)));(case side2=>exact HC886.out);rintro e w33 ⟨rfl,hb⟩;refine⟨_,rfl,?_⟩;have n_:=pk6 (Kd.R_below (ro_ HO_4) hb) (Kd.R_below (ro_ HO_5) hb) (blk_below (bo_ BK869) hb) (Kd.C_below (by repeat(first|(with_reducible exact HR880.out)|(with_reducible refine Kd.C_alloc ?_ _)|(with_reducible refine Kd.C_drewN ?_ _)|(with_reducible refine Kd.C_drew ?_)|exact HR880.out)) hb) (Kd.C_below (by repeat(first|(with_reducible exact HR886.out)|(with_reducible refine Kd.C_alloc ?_ _)|(with_reducible refine Kd.C_drewN ?_ _)|(with_reducible refine Kd.C_drew ?_)|exact HR886.out)) hb) (below_step bl_ hb);clear HO_4 HO_5 BK869 HR880 HR886 HB;obtain⟨HO_4,HO_5,BK869,HR880,HR886,HB⟩:=n_;(try clear hb)))
           (try simp only [ap_,sb_,s0_,s1_])
           go_cut [67] (fun v67 wc=>∃ (kq:Nat) (x67_25:Bool),v67=.bool x67_25∧Aside0 (windroseref18_Samples.j2 kq t871 x5_2 (wrap64 ((ji22)+t888)) t881 t887 x67_25 a0_0 a0_1 a0_2 l0_3 a0_4=some (r1,r2))∧Aside0 (kq≤k2)∧Aside0 (Kd.R Kd.bool 4 wc w.heap.size (fun _=>True) (.slice Ao30 t871.length co30) t871)∧Aside0 (Kd.R (Kd.int .i64) 3 wc w.heap.size (fun _=>True) (.slice Ao27 x5_2.length co27) x5_2)∧Aside0 (wc.heap[gb869]?=some (.cells #[.int .i64 a0_0,.int .i64 a0_1,.int .i64 a0_2,(.slice A0_3 l0_3.length c0_3),.int .i64 a0_4] 69 (0,0)))∧Aside0 (Below w.heap.size w wc))
           case first =>
            have H:=HC26.out
            clear HC26
            replace H:=deqn H
            rcases H with⟨c34b0,c34b1,H⟩|⟨c34b0,c34b1,c34,H⟩
            focus
             (first|rw [c34b0]|(simp only [i64_w,i32_w];rw [c34b0])|skip)
             have H':=Aside0.mk H
             clear H
            rotate_left
            focus
             (first|rw [c34b0]|(simp only [i64_w,i32_w];rw [c34b0])|skip)
             have H':=Aside0.mk H
             clear H
            all_goals
             go_wp2
             go_meet
             first
              |case rel=>exact⟨_,(true),sm_,H',⟨by have:=HJ1.out;have:=HK2.out;first|omega|exact Nat.le_refl _⟩,⟨(ro_ HO_4)⟩,⟨(ro_ HO_5)⟩,⟨(bo_ BK869)⟩,⟨bl_⟩⟩
              |case rel=>exact⟨_,((t888 == 0)),sm_,H',⟨by have:=HJ1.out;have:=HK2.out;first|omega|exact Nat.le_refl _⟩,⟨(ro_ HO_4)⟩,⟨(ro_ HO_5)⟩,⟨(bo_ BK869)⟩,⟨bl_⟩⟩
           case rest =>
            clear HC26
            try clear c1
            try clear c11
            try clear c18
            try clear c18b0
            try clear c19
            try clear c19b0
            try clear c19b1
            try clear c20
            try clear c20b0
            try clear c20b1
            try clear c23
            try clear c23b0
            try clear c23b1
            try clear c24
            try clear c24b0
            try clear c24b1
            try clear c29
            try clear q29
            try clear hcz13_0
            try clear hcz13_1
            try clear hcz13_2
            try clear hcz13_3
            try clear hcz13_4
            try clear hcz28_0
            try clear hcz28_1
            try clear hcz28_2
            try clear hcz28_3
            try clear hcz28_4
            try clear hfz13_0
            try clear hfz13_1
            try clear hfz13_2
            try clear hfz13_3
            try clear hfz13_4
            try clear hfz28_0
            try clear hfz28_1
            try clear hfz28_2
            try clear hfz28_3
            try clear hfz28_4
            try clear q029
            try clear q29
            obtain⟨kq,x67_25,rfl,HA,HJ25,HO_4,HO_5,BK869,HB⟩:=hcut
            cases kq with
            |zero=>exact absurd HA.out (by simp [windroseref18_Samples.j2])
            |succ kj25 =>
             have H:=HA.out
             clear HA
             simp only [windroseref18_Samples.j2] at H
             replace H:=dbool H
             rcases H with⟨rfl,H⟩|⟨rfl,H⟩
             rotate_left
             ·obtain⟨y889,hy889⟩:∃ y_:List Int,y_=(([t881,t887]:List Int)):=⟨_,rfl⟩
              replace H:(if x5_2.length+y889.length<17592186044416 then((some (x5_2++y889:List Int)).bind fun y892=>(if(y892.length:Int)>5 then(if t881=0 then(windroseref18_Samples.j3 kj25 t871 y892 (wrap64 ((ji22)+t888)) (t887 == 0) a0_0 a0_1 a0_2 l0_3 a0_4)else(windroseref18_Samples.j3 kj25 t871 y892 (wrap64 ((ji22)+t888)) false a0_0 a0_1 a0_2 l0_3 a0_4))else(windroseref18_Samples.j3 kj25 t871 y892 (wrap64 ((ji22)+t888)) false a0_0 a0_1 a0_2 l0_3 a0_4)))else(none))=some (r1,r2):=by first|(rw [hy889];with_reducible exact H)|(have H2_:=(Option.bind_some _ _).symm.trans H;rw [hy889];with_reducible exact H2_)|(have H2_:=(Option.bind_some _ _).symm.trans H;with_reducible exact H2_)|with_reducible exact H|(rw [hy889];exact H)|exact H
              have Ny889:=Aside0.mk hy889
              clear hy889
              by_cases c36:x5_2.length+y889.length<17592186044416
              ·rw [if_pos c36] at H
               have LMc36:=Aside0.mk c36
               clear c36
               obtain⟨y892,hy892⟩:∃ y_:List Int,y_=(x5_2++y889):=⟨_,rfl⟩
               replace H:(if(y892.length:Int)>5 then(if t881=0 then(windroseref18_Samples.j3 kj25 t871 y892 (wrap64 ((ji22)+t888)) (t887 == 0) a0_0 a0_1 a0_2 l0_3 a0_4)else(windroseref18_Samples.j3 kj25 t871 y892 (wrap64 ((ji22)+t888)) false a0_0 a0_1 a0_2 l0_3 a0_4))else(windroseref18_Samples.j3 kj25 t871 y892 (wrap64 ((ji22)+t888)) false a0_0 a0_1 a0_2 l0_3 a0_4))=some (r1,r2):=by first|(rw [hy892];with_reducible exact H)|(have H2_:=(Option.bind_some _ _).symm.trans H;rw [hy892];with_reducible exact H2_)|(have H2_:=(Option.bind_some _ _).symm.trans H;with_reducible exact H2_)|with_reducible exact H|(rw [hy892];exact H)|exact H
               have Ny892:=Aside0.mk hy892
               clear hy892
               have HC37:=Aside0.mk H
               clear H
               go_upto_region 14 with(first|((with_reducible refine gate_dst (N:=71) rfl ?_);(try(refine gate_guard (by rfl) ?_;dsimp only));refine Kd.R_lit (Kd.int .i64) _ 3 ?hg (N:=71) ?hd (xs:=([t881,t887]:List Int)) (inner:=[.int .i64 t881,.int .i64 t887]) (ok:=fun _=>True) (okp:=fun _=>True) ?hr ?hp (fun _ hk=>hk) trivial (Below.refl _ _) (Nat.le_refl _) (by simp) ?_;(case hd=>rfl);(case hg=>rfl);(case hr=>first|(go_simp;done)|(go_simp;rfl));(case hp=>exact(Reps.one (show Kd.M (Kd.int .i64) _ _ _ t881 [.int .i64 t881] from rfl) (Reps.one (show Kd.M (Kd.int .i64) _ _ _ t887 [.int .i64 t887] from rfl) (Reps.none _ _))));intro v890 w38 ho39 hb hg_ hnew_;clear hg_ hnew_;(first|rw [←Ny889.out] at ho39|(simp only [Int.reduceToNat] at ho39;rw [←Ny889.out] at ho39));have n_:=pk5 (Kd.R_below (ro_ HO_4) hb) (Kd.R_elder' (ro_ HO_5) (Kd.R_base ho39) hb) (Kd.R_lower (Kd.R_new' ho39 (Kd.R_lt (ro_ HO_5))) (below_size bl_)) (blk_below (bo_ BK869) hb) (below_step bl_ hb);clear HO_4 HO_5 BK869 HB;obtain⟨HO_4,HO_5,HO891,BK869,HB⟩:=n_;clear hb ho39;obtain⟨Ao41,co41,eo41⟩:=Kd.R_slice HO891.out;subst eo41)|((with_reducible refine gate_builtin (b:=.append) (xs:=#[.tmp 68,.tmp 71]) rfl ?_);(try(refine gate_guard (by rfl) ?_;dsimp only));at_builtin;refine Kd.R_append_rows (Kd.int .i64) (w0:=w) w.heap.size rfl (.tmp 68) (.tmp 71) 22 3 (.int .i64 0) 8 rfl Try.underlying22 info3 rfl (by decide) (by omega) (.slice Ao27 x5_2.length co27) x5_2 y889 _ _ _ (fun k_=>some k_≠(.slice Ao41 y889.length co41:Value).ownBlock) (fun _=>False) rfl rfl ?aO ?aR (fun _ _ h=>h) (fun _ h=>h.elim) ?aF ?aB ?aS ?aL ?_;(case aR=>exact cr_ HO891);(case aB=>exact bl_);(case aF=>exact(fun k_ hk=>Kd.fresh' (Kd.R_lt (ro_ HO891)) k_ hk));(case aO=>exact(rt_ (Kd.R_mono HO_5.out (fun _ hk=>hk.2))));(case aS=>exact(below_size bl_));(case aL=>have:=LMc36.out;omega);intro v893 w40 ho hb hg hat;rw [←Ny892.out] at ho;have n_:=pk5 (Kd.R_over' (ro_ HO_4) (Kd.R_typed (ro_ HO_5)) (by decide) hg) (blk_grown (bo_ BK869) hg (Kd.R_ne HO_5.out BK869.out (by decide))) (Kd.R_after (ok:=(fun _=>True)) (ro_ HO891) hg hat) (hb) (ho);clear HO_4 BK869 HO891 HB HO_5;obtain⟨HO_4,BK869,HO891,HB,HO894⟩:=n_;clear ho hb hg hat))
               (try simp only [ap_,sb_,s0_,s1_])
               go_cut [83] (fun v83 wc=>∃ (kq:Nat) (x83_36:Bool),v83=.bool x83_36∧Aside0 (windroseref18_Samples.j3 kq t871 y892 (wrap64 ((ji22)+t888)) x83_36 a0_0 a0_1 a0_2 l0_3 a0_4=some (r1,r2))∧Aside0 (kq≤kj25)∧Aside0 (Kd.R Kd.bool 4 wc w.heap.size (fun _=>True) (.slice Ao30 t871.length co30) t871)∧Aside0 (Kd.R (Kd.int .i64) 3 wc w.heap.size (fun _=>True) v893 y892)∧Aside0 (wc.heap[gb869]?=some (.cells #[.int .i64 a0_0,.int .i64 a0_1,.int .i64 a0_2,(.slice A0_3 l0_3.length c0_3),.int .i64 a0_4] 69 (0,0)))∧Aside0 (Below w.heap.size w wc))
               case first =>
                have H:=HC37.out
                clear HC37
                by_cases c42:(y892.length:Int)>5
                focus
                 rw [if_pos c42] at H
                 have c42b0:decide (5<(y892.length:Int))=true:=decide_eq_true c42
                 have c42b1:decide (5<y892.length)=true:=decide_eq_true (by omega)
                 clear c42
                 (first|rw [c42b0]|(simp only [i64_w,i32_w];rw [c42b0])|skip)
                 replace H:=deqn H
                 rcases H with⟨c43b0,c43b1,H⟩|⟨c43b0,c43b1,c43,H⟩
                 focus
                  have H':=Aside0.mk H
                  clear H
                  obtain⟨Ao44,co44,eo44⟩:=Kd.R_slice HO894.out
                  subst eo44
                 rotate_left
                 focus
                  have H':=Aside0.mk H
                  clear H
                  obtain⟨Ao45,co45,eo45⟩:=Kd.R_slice HO894.out
                  subst eo45
                rotate_left 2
                focus
                 rw [if_neg c42] at H
                 have c42b0:decide (5<(y892.length:Int))=false:=decide_eq_false c42
                 have c42b1:decide (5<y892.length)=false:=decide_eq_false (by omega)
                 clear c42
                 (first|rw [c42b0]|(simp only [i64_w,i32_w];rw [c42b0])|skip)
                 have H':=Aside0.mk H
                 clear H
                 obtain⟨Ao46,co46,eo46⟩:=Kd.R_slice HO894.out
                 subst eo46
                all_goals
                 go_wp2
                 go_meet
                 first
                  |case rel=>exact⟨_,((t887 == 0)),sm_,H',⟨by have:=HJ1.out;have:=HK2.out;have:=HJ25.out;first|omega|exact Nat.le_refl _⟩,⟨(ro_ HO_4)⟩,⟨(rt_ (Kd.R_mono HO894.out (fun _ hk=>trivial)))⟩,⟨(bo_ BK869)⟩,⟨bl_⟩⟩
                  |case rel=>exact⟨_,(false),sm_,H',⟨by have:=HJ1.out;have:=HK2.out;have:=HJ25.out;first|omega|exact Nat.le_refl _⟩,⟨(ro_ HO_4)⟩,⟨(rt_ (Kd.R_mono HO894.out (fun _ hk=>trivial)))⟩,⟨(bo_ BK869)⟩,⟨bl_⟩⟩
               case rest =>
                clear HC37
                try clear c1
                try clear c11
                try clear c18
                try clear c18b0
                try clear c19
                try clear c19b0
                try clear c19b1
                try clear c20
                try clear c20b0
                try clear c20b1
                try clear c23
                try clear c23b0
                try clear c23b1
                try clear c24
                try clear c24b0
                try clear c24b1
                try clear c29
                try clear q29
                try clear c35
                try clear c36
                try clear hcz13_0
                try clear hcz13_1
                try clear hcz13_2
                try clear hcz13_3
                try clear hcz13_4
                try clear hcz28_0
                try clear hcz28_1
                try clear hcz28_2
                try clear hcz28_3
                try clear hcz28_4
                try clear hfz13_0
                try clear hfz13_1
                try clear hfz13_2
                try clear hfz13_3
                try clear hfz13_4
                try clear hfz28_0
                try clear hfz28_1
                try clear hfz28_2
                try clear hfz28_3
                try clear hfz28_4
                try clear q029
                try clear q29
                obtain⟨kq,x83_36,rfl,HA,HJ36,HO_4,HO_5,BK869,HB⟩:=hcut
                cases kq with
                |zero=>exact absurd HA.out (by simp [windroseref18_Samples.j3])
                |succ kj36 =>
                 have H:=HA.out
                 clear HA
                 simp only [windroseref18_Samples.j3] at H
                 replace H:=dbool H
                 rcases H with⟨rfl,H⟩|⟨rfl,H⟩
                 focus
                  replace H:=dgt H
                  rcases H with⟨c48b0,H⟩|⟨c48b0,H⟩
                  rotate_left
                  ·obtain⟨ji49,hji49⟩:∃ j_:Int,(wrap64 ((ji22)+t888))=j_:=⟨_,rfl⟩
                   replace H:(if 0≤(ji49)then(if(ji49)≤(wrap64 ((ji49)+4))then(if(wrap64 ((ji49)+4))≤(t871.length:Int)then((windroseref17_Value.f kj36 ((t871.take ((wrap64 ((ji49)+4)):Int).toNat).drop ((ji49):Int).toNat)).bind fun t899=>(windroseref18_Samples.l1 kj36 t871 y892 (wrap64 ((ji49)+4)) (wrap64 (t899)) 0 a0_0 a0_1 a0_2 l0_3 a0_4))else(none))else(none))else(none))=some (r1,r2):=by first|(rw [hji49] at H;exact H)|(simp only [hji49] at H ⊢;exact H)
                   (try rw [hji49] at c48b0)
                   have hji49w:(IntKind.i64.wrap ((ji22)+t888))=ji49:=(i64_w _).trans hji49
                   by_cases c50:0≤(ji49)
                   ·rw [if_pos c50] at H
                    have c50b0:=eq_true c50
                    have c50b1:decide (0≤(ji49))=true:=decide_eq_true c50
                    clear c50
                    by_cases c51:(ji49)≤(wrap64 ((ji49)+4))
                    ·rw [if_pos c51] at H
                     have c51b0:=eq_true c51
                     have c51b1:decide ((ji49)≤(wrap64 ((ji49)+4)))=true:=decide_eq_true c51
                     by_cases c52:(wrap64 ((ji49)+4))≤(t871.length:Int)
                     ·rw [if_pos c52] at H
                      have c52b0:=eq_true c52
                      have c52b1:decide ((wrap64 ((ji49)+4))≤(t871.length:Int))=true:=decide_eq_true c52
                      obtain⟨y895,hy895⟩:∃ y_:List Bool,y_=((t871.take ((wrap64 ((ji49)+4)):Int).toNat).drop ((ji49):Int).toNat):=⟨_,rfl⟩
                      replace H:((windroseref17_Value.f kj36 y895).bind fun t899=>(windroseref18_Samples.l1 kj36 t871 y892 (wrap64 ((ji49)+4)) (wrap64 (t899)) 0 a0_0 a0_1 a0_2 l0_3 a0_4))=some (r1,r2):=by first|(rw [hy895];with_reducible exact H)|(have H2_:=(Option.bind_some _ _).symm.trans H;rw [hy895];with_reducible exact H2_)|(have H2_:=(Option.bind_some _ _).symm.trans H;with_reducible exact H2_)|with_reducible exact H|(rw [hy895];exact H)|exact H
                      have Ny895:=Aside0.mk hy895
                      clear hy895
                      replace H:=bindA H
                      obtain⟨t899,A53,H⟩:=H
                      try dsimp only at H
                      have H':=Aside0.mk H
                      clear H
                      have q54:((wrap64 ((ji49)+4)):Int)≤((t871.length:Int):Int):=dc_
                      obtain⟨i054,hi054,_,hsz54,_⟩:=info_parts info4
                      have hroom54:t871.length≤co30:=(Kd.R_reads' HO_4.out).2.1
                      have hC54:Kd.C Kd.bool _ Ao30 t871.length t871:=(Kd.R_reads' HO_4.out).2.2
                      have ql54:((ji49):Int)≤((wrap64 ((ji49)+4)):Int):=dc_
                      have q054:(0:Int)≤((ji49):Int):=dc_
                      have hcut54:=cut_mid (P:=Try.prog) 39 4 .i64 .i64 Try.underlying39 hi054 1 hsz54 Ao30 t871.length co30 (ji49) (wrap64 ((ji49)+4)) q054 ql54 q54 hroom54
                      have hr54:=Kd.C_mid (lo:=((ji49):Int).toNat) (hi:=((wrap64 ((ji49)+4)):Int).toNat) (c:=co30) hC54 (by omega) (by omega) hroom54
                      obtain⟨A54,hA54⟩:∃ A1,A1=(if co30=((ji49):Int).toNat then Ao30 else(Ao30:Option Addr).map (·.add (((ji49):Int).toNat*1))):=⟨_,rfl⟩
                      obtain⟨c54,hc54⟩:∃ c1,c1=co30 - ((ji49):Int).toNat:=⟨_,rfl⟩
                      have hy54:y895.length=((wrap64 ((ji49)+4)):Int).toNat - ((ji49):Int).toNat:=(by rw [Ny895.out,List.length_drop,List.length_take]<;>omega)
                      rw [show((t871).take ((wrap64 ((ji49)+4)):Int).toNat).drop ((ji49):Int).toNat=y895 from Ny895.out.symm] at hr54
                      replace hr54:Kd.C Kd.bool _ A54 y895.length y895:=(by rw [hA54];exact hr54)
                      rw [←hy54,←hA54,←hc54] at hcut54
                      have HR898:=Aside0.mk hr54
                      have HC898:=Aside0.mk (show y895.length≤c54 from by rw [hy54,hc54];exact Nat.sub_le_sub_right (Nat.le_trans (by omega) hroom54) _)
                      clear hr54 hC54 hroom54 hi054 hsz54 hc54
                      have KY54:=Aside0.mk hy54
                      have KA54:=Aside0.mk hA54
                      clear hy54 hA54
                      have KL54:=Aside0.mk (show((wrap64 ((ji49)+4)):Int).toNat≤t871.length from by omega)
                      have KM54:=Aside0.mk (show((ji49):Int).toNat≤((wrap64 ((ji49)+4)):Int).toNat from by omega)
                      replace q54:=eq_true q54
                      have hwr54:=fun z=>IntWalk.i64_left z
                      go_wp2_with (first|((with_reducible refine gate_callee (f:=25) rfl ?_);refine goL_ (some 94) Try.func25 #[.slice A54 y895.length c54] ?_;(with_reducible refine(windroseref17_Value.calls kj36 _ _ y895 t899 _ ?side1 ?side2 A53.out).mono ?_);(case side1=>repeat(first|exact(by repeat(first|(with_reducible exact HR898.out)|(with_reducible refine Kd.C_alloc ?_ _)|(with_reducible refine Kd.C_drewN ?_ _)|(with_reducible refine Kd.C_drew ?_)|exact HR898.out))|(with_reducible refine Kd.C_alloc ?_ _)|(with_reducible refine Kd.C_drewN ?_ _)|(with_reducible refine Kd.C_drew ?_)));(case side2=>exact HC898.out);rintro e w' ⟨rfl,⟨nd,rfl⟩⟩;refine⟨_,rfl,?_⟩))
                      go_loopg [5,12] kj36 (fun kq v5 v12 w'=>∃ (x5_5:List Int) (x12_5:Int),v12=.int .i64 x12_5∧Aside0 (windroseref18_Samples.l1 kq t871 x5_5 (wrap64 ((ji49)+4)) (wrap64 (t899)) x12_5 a0_0 a0_1 a0_2 l0_3 a0_4=some (r1,r2))∧Aside0 (kq≤kj36)∧Aside0 (Kd.R Kd.bool 4 w' w.heap.size (fun _=>True) (.slice Ao30 t871.length co30) t871)∧Aside0 (Kd.R (Kd.int .i64) 3 w' w.heap.size (fun _=>True) v5 x5_5)∧Aside0 (w'.heap[gb869]?=some (.cells #[.int .i64 a0_0,.int .i64 a0_1,.int .i64 a0_2,(.slice A0_3 l0_3.length c0_3),.int .i64 a0_4] 69 (0,0)))∧Aside0 (Below w.heap.size w w'))
                      case atStart=>exact⟨(y892),(0),sm_,H',⟨Nat.le_refl _⟩,⟨(ro_ HO_4)⟩,⟨(ro_ HO_5)⟩,⟨(bo_ BK869)⟩,⟨bl_⟩⟩
                      case round =>
                       clear H'
                       try clear c1
                       try clear c11
                       try clear c18
                       try clear c18b0
                       try clear c19
                       try clear c19b0
                       try clear c19b1
                       try clear c20
                       try clear c20b0
                       try clear c20b1
                       try clear c23
                       try clear c23b0
                       try clear c23b1
                       try clear c24
                       try clear c24b0
                       try clear c24b1
                       try clear c29
                       try clear q29
                       try clear c35
                       try clear c36
                       try clear c47
                       try clear c48
                       try clear c48b0
                       try clear c50
                       try clear c50b0
                       try clear c50b1
                       try clear c51
                       try clear c51b0
                       try clear c51b1
                       try clear c52
                       try clear c52b0
                       try clear c52b1
                       try clear c54
                       try clear q54
                       try clear hcz13_0
                       try clear hcz13_1
                       try clear hcz13_2
                       try clear hcz13_3
                       try clear hcz13_4
                       try clear hcz28_0
                       try clear hcz28_1
                       try clear hcz28_2
                       try clear hcz28_3
                       try clear hcz28_4
                       try clear hfz13_0
                       try clear hfz13_1
                       try clear hfz13_2
                       try clear hfz13_3
                       try clear hfz13_4
                       try clear hfz28_0
                       try clear hfz28_1
                       try clear hfz28_2
                       try clear hfz28_3
                       try clear hfz28_4
                       try clear q029
                       try clear q054
                       try clear q29
                       try clear q54
                       obtain⟨x5_5,x12_5,rfl,HA,HK5,HO_4,HO_5,BK869,HB⟩:=hrel
                       cases gk with
                       |zero=>exact absurd HA.out (by simp [windroseref18_Samples.l1])
                       |succ k5 =>
                        have H:=HA.out
                        clear HA
                        simp only [windroseref18_Samples.l1] at H
                        replace H:=dle H
                        rcases H with⟨c55b0,H⟩|⟨c55b0,H⟩
                        focus
                         obtain⟨y900,hy900⟩:∃ y_:List Int,y_=(([0,0]:List Int)):=⟨_,rfl⟩
                         replace H:(if x5_5.length+y900.length<17592186044416 then(windroseref18_Samples.l1 k5 t871 (x5_5++y900) (wrap64 ((ji49)+4)) (wrap64 (t899)) (wrap64 (x12_5+1)) a0_0 a0_1 a0_2 l0_3 a0_4)else(none))=some (r1,r2):=by first|(rw [hy900];with_reducible exact H)|(have H2_:=(Option.bind_some _ _).symm.trans H;rw [hy900];with_reducible exact H2_)|(have H2_:=(Option.bind_some _ _).symm.trans H;with_reducible exact H2_)|with_reducible exact H|(rw [hy900];exact H)|exact H
                         have Ny900:=Aside0.mk hy900
                         clear hy900
                         by_cases c56:x5_5.length+y900.length<17592186044416
                         rotate_left
                         ·rw [if_neg c56] at H
                          exact absurd H (by simp)
                         rw [if_pos c56] at H
                         have LMc56:=Aside0.mk c56
                         clear c56
                         obtain⟨y903,hy903⟩:∃ y_:List Int,y_=(x5_5++y900):=⟨_,rfl⟩
                         replace H:(windroseref18_Samples.l1 k5 t871 y903 (wrap64 ((ji49)+4)) (wrap64 (t899)) (wrap64 (x12_5+1)) a0_0 a0_1 a0_2 l0_3 a0_4)=some (r1,r2):=by first|(rw [hy903];with_reducible exact H)|(have H2_:=(Option.bind_some _ _).symm.trans H;rw [hy903];with_reducible exact H2_)|(have H2_:=(Option.bind_some _ _).symm.trans H;with_reducible exact H2_)|with_reducible exact H|(rw [hy903];exact H)|exact H
                         have Ny903:=Aside0.mk hy903
                         clear hy903
                         have H':=Aside0.mk H
                         clear H
                        rotate_left
                        focus
                         have H':=Aside0.mk H
                         clear H
                        all_goals
                         go_wp2_with (first|((with_reducible refine gate_dst (N:=104) rfl ?_);(try(refine gate_guard (by rfl) ?_;dsimp only));refine Kd.R_lit (Kd.int .i64) _ 3 ?hg (N:=104) ?hd (xs:=([0,0]:List Int)) (inner:=[.int .i64 0,.int .i64 0]) (ok:=fun _=>True) (okp:=fun _=>True) ?hr ?hp (fun _ hk=>hk) trivial (Below.refl _ _) (Nat.le_refl _) (by simp) ?_;(case hd=>rfl);(case hg=>rfl);(case hr=>first|(go_simp;done)|(go_simp;rfl));(case hp=>exact(Reps.one (show Kd.M (Kd.int .i64) _ _ _ 0 [.int .i64 0] from rfl) (Reps.one (show Kd.M (Kd.int .i64) _ _ _ 0 [.int .i64 0] from rfl) (Reps.none _ _))));intro v7000 w7000 ho7000 hb hg_ hnew_;clear hg_ hnew_;(first|rw [←Ny900.out] at ho7000|(simp only [Int.reduceToNat] at ho7000;rw [←Ny900.out] at ho7000));have n_:=pk5 (Kd.R_below (ro_ HO_4) hb) (Kd.R_elder' (ro_ HO_5) (Kd.R_base ho7000) hb) (Kd.R_lower (Kd.R_new' ho7000 (Kd.R_lt (ro_ HO_5))) (below_size bl_)) (blk_below (bo_ BK869) hb) (below_step bl_ hb);clear HO_4 HO_5 BK869 HB;obtain⟨HO_4,HO_5,HO7000,BK869,HB⟩:=n_;clear hb ho7000;obtain⟨Ao7000,co7000,eo7000⟩:=Kd.R_slice HO7000.out;subst eo7000)|((with_reducible refine gate_builtin (b:=.append) (xs:=#[.tmp 103,.tmp 104]) rfl ?_);(try(refine gate_guard (by rfl) ?_;dsimp only));at_builtin;refine Kd.R_append_rows (Kd.int .i64) (w0:=w) w.heap.size rfl (.tmp 103) (.tmp 104) 22 3 (.int .i64 0) 8 rfl Try.underlying22 info3 rfl (by decide) (by omega) u5 x5_5 y900 _ _ _ (fun k_=>some k_≠(.slice Ao7000 y900.length co7000:Value).ownBlock) (fun _=>False) rfl rfl ?aO ?aR (fun _ _ h=>h) (fun _ h=>h.elim) ?aF ?aB ?aS ?aL ?_;(case aR=>exact cr_ HO7000);(case aB=>exact bl_);(case aF=>exact(fun k_ hk=>Kd.fresh' (Kd.R_lt (ro_ HO7000)) k_ hk));(case aO=>exact(rt_ (Kd.R_mono HO_5.out (fun _ hk=>hk.2))));(case aS=>exact(below_size bl_));(case aL=>have:=LMc56.out;omega);intro v7001 w7001 ho hb hg hat;rw [←Ny903.out] at ho;have n_:=pk5 (Kd.R_over' (ro_ HO_4) (Kd.R_typed (ro_ HO_5)) (by decide) hg) (blk_grown (bo_ BK869) hg (Kd.R_ne HO_5.out BK869.out (by decide))) (Kd.R_after (ok:=(fun _=>True)) (ro_ HO7000) hg hat) (hb) (ho);clear HO_4 BK869 HO7000 HB HO_5;obtain⟨HO_4,BK869,HO7000,HB,HO7001⟩:=n_;clear ho hb hg hat))
                         go_roundg k5
                         case measure=>have:=HJ1.out;have:=HK2.out;have:=HJ25.out;have:=HJ36.out;have:=HK5.out;omega
                         first
                          |case rel=>exact⟨(y903),(wrap64 (x12_5+1)),sm_,H',⟨by have:=HJ1.out;have:=HK2.out;have:=HJ25.out;have:=HJ36.out;have:=HK5.out;omega⟩,⟨(ro_ HO_4)⟩,⟨(rt_ (Kd.R_mono HO7001.out (fun _ hk=>trivial)))⟩,⟨(bo_ BK869)⟩,⟨bl_⟩⟩
                          |case rel=>exact⟨(x5_5),((wrap64 ((ji49)+4))),(by first|rfl|(simp;done)|(simp only [←hji49]<;>(first|rfl|simp))|(simp [*];done)),H',⟨by have:=HJ1.out;have:=HK2.out;have:=HJ25.out;have:=HJ36.out;have:=HK5.out;omega⟩,⟨(ro_ HO_4)⟩,⟨(ro_ HO_5)⟩,⟨(bo_ BK869)⟩,⟨bl_⟩⟩
                     ·rw [if_neg c52] at H
                      exact absurd H (by simp)
                    ·rw [if_neg c51] at H
                     exact absurd H (by simp)
                   ·rw [if_neg c50] at H
                    exact absurd H (by simp)
                  simp only [Option.some.injEq,Prod.mk.injEq] at H
                  obtain⟨rfl,rfl⟩:=H
                 rotate_left
                 focus
                  have H':=Aside0.mk H
                  clear H
                 all_goals
                  go_wp2
                  first
                   |go_ret2
                    exact⟨_,by first|rfl|(simp [errW_none,errW_some]<;>rfl)|(simp only [←hji22];first|rfl|(simp [errW_none,errW_some]<;>rfl))|(simp [*,errW_none,errW_some]<;>rfl),nl_,bl_⟩
                   |go_roundg kj36
                    case measure=>have:=HJ1.out;have:=HK2.out;have:=HJ25.out;have:=HJ36.out;omega
                    case rel=>exact⟨(y892),((wrap64 ((ji22)+t888))),(by first|rfl|(simp;done)|(simp only [←hji22]<;>(first|rfl|simp))|(simp [*];done)),H',⟨by have:=HJ1.out;have:=HK2.out;have:=HJ25.out;have:=HJ36.out;omega⟩,⟨(ro_ HO_4)⟩,⟨(ro_ HO_5)⟩,⟨(bo_ BK869)⟩,⟨bl_⟩⟩
              ·rw [if_neg c36] at H
               exact absurd H (by simp)
             simp only [Option.some.injEq,Prod.mk.injEq] at H
             obtain⟨rfl,rfl⟩:=H
             go_wp2
             go_ret2
             exact⟨_,by first|rfl|(simp [errW_none,errW_some]<;>rfl)|(simp only [←hji22];first|rfl|(simp [errW_none,errW_some]<;>rfl))|(simp [*,errW_none,errW_some]<;>rfl),nl_,bl_⟩
          ·rw [if_neg c24] at H
           exact absurd H (by simp)
         ·rw [if_neg c23] at H
          exact absurd H (by simp)
        ·rw [if_neg c20] at H
         exact absurd H (by simp)
       ·rw [if_neg c19] at H
        exact absurd H (by simp)
      replace H:=bindA H
      obtain⟨⟨t906,t909⟩,A61,H⟩:=H
      try dsimp only at H
      replace H:=dbool H
      rcases H with⟨rfl,H⟩|⟨rfl,H⟩
      focus
       by_cases c63:(t906.length:Int)=0
       focus
        rw [if_pos c63] at H
        have c63b0:((t906.length:Int) == 0)=true:=beq_iff_eq.mpr c63
        have c63b1:((t906.length:Int) != 0)=false:=bne_eq_false_iff_eq.mpr c63
        clear c63
        simp only [Option.some.injEq,Prod.mk.injEq] at H
        obtain⟨rfl,rfl⟩:=H
        obtain⟨Ao64,co64,eo64⟩:=Kd.R_slice HO_5.out
        subst eo64
        obtain⟨hcz65_0,hcz65_1,hcz65_2,hcz65_3,hcz65_4,hfz65_0,hfz65_1,hfz65_2,hfz65_3,hfz65_4⟩:=blk_at5 BK869.out
       rotate_left
       focus
        rw [if_neg c63] at H
        have c63b0:((t906.length:Int) == 0)=false:=beq_eq_false_iff_ne.mpr c63
        have c63b1:((t906.length:Int) != 0)=true:=bne_iff_ne.mpr c63
        have c63b2:¬(t906=[]):=fun h_=>c63 (by rw [h_];rfl)
        replace H:=bindA H
        obtain⟨⟨t910,t911,t912,t913,t916⟩,A69,H⟩:=H
        try dsimp only at H
        replace H:=bindA H
        obtain⟨t917,A70,H⟩:=H
        try dsimp only at H
        replace H:=dbool H
        rcases H with⟨rfl,H⟩|⟨rfl,H⟩
        focus
         simp only [Option.some.injEq,Prod.mk.injEq] at H
         obtain⟨rfl,rfl⟩:=H
         obtain⟨Ao72,co72,eo72⟩:=Kd.R_slice HO_5.out
         subst eo72
         obtain⟨hcz73_0,hcz73_1,hcz73_2,hcz73_3,hcz73_4,hfz73_0,hfz73_1,hfz73_2,hfz73_3,hfz73_4⟩:=blk_at5 BK869.out
        rotate_left
        focus
         simp only [Option.some.injEq,Prod.mk.injEq] at H
         obtain⟨rfl,rfl⟩:=H
         obtain⟨Ao80,co80,eo80⟩:=Kd.R_slice HO_5.out
         subst eo80
         obtain⟨hcz81_0,hcz81_1,hcz81_2,hcz81_3,hcz81_4,hfz81_0,hfz81_1,hfz81_2,hfz81_3,hfz81_4⟩:=blk_at5 BK869.out
      rotate_left 3
      focus
       simp only [Option.some.injEq,Prod.mk.injEq] at H
       obtain⟨rfl,rfl⟩:=H
       obtain⟨Ao88,co88,eo88⟩:=Kd.R_slice HO_5.out
       subst eo88
       obtain⟨hcz89_0,hcz89_1,hcz89_2,hcz89_3,hcz89_4,hfz89_0,hfz89_1,hfz89_2,hfz89_3,hfz89_4⟩:=blk_at5 BK869.out
      all_goals
       try go_wp2_with (first|((with_reducible refine gate_callee (f:=77) rfl ?_);refine goL_ (some 109) Try.func77 #[.agg #[.slice Ao88 x5_2.length co88,.slice none 0 0]] ?_;(refine(windroseref11_Unpack.calls k2 _ _ x5_2 _ _ ([]:List ByteArray) t906 false _ ?side1 ?side2 ?side3 ?side4 A61.out).mono ?_);(case side1=>exact cr_ HO_5);(case side2=>exact(Kd.R_reads' HO_5.out).2.1);(case side3=>exact Kd.C_nil _ _);(case side4=>exact Nat.le_refl _);rintro e w7100 ⟨v7100,rfl,ho0,hb⟩;refine⟨_,rfl,?_⟩;have n_:=pk5 (Kd.R_below (ro_ HO_4) hb) (Kd.R_below (ro_ HO_5) hb) (Kd.R_lower ho0 (below_size bl_)) (blk_below (bo_ BK869) hb) (below_step bl_ hb);clear HO_4 HO_5 BK869 HB;obtain⟨HO_4,HO_5,HO7100,BK869,HB⟩:=n_;(try clear hb ho0))|((with_reducible refine gate_callee (f:=77) rfl ?_);refine goL_ (some 109) Try.func77 #[.agg #[.slice Ao64 x5_2.length co64,.slice none 0 0]] ?_;(refine(windroseref11_Unpack.calls k2 _ _ x5_2 _ _ ([]:List ByteArray) t906 true _ ?side1 ?side2 ?side3 ?side4 A61.out).mono ?_);(case side1=>exact cr_ HO_5);(case side2=>exact(Kd.R_reads' HO_5.out).2.1);(case side3=>exact Kd.C_nil _ _);(case side4=>exact Nat.le_refl _);rintro e w7100 ⟨v7100,rfl,ho0,hb⟩;refine⟨_,rfl,?_⟩;have n_:=pk5 (Kd.R_below (ro_ HO_4) hb) (Kd.R_below (ro_ HO_5) hb) (Kd.R_lower ho0 (below_size bl_)) (blk_below (bo_ BK869) hb) (below_step bl_ hb);clear HO_4 HO_5 BK869 HB;obtain⟨HO_4,HO_5,HO7100,BK869,HB⟩:=n_;(try clear hb ho0))|((with_reducible refine gate_callee (f:=77) rfl ?_);refine goL_ (some 109) Try.func77 #[.agg #[.slice Ao72 x5_2.length co72,.slice none 0 0]] ?_;(refine(windroseref11_Unpack.calls k2 _ _ x5_2 _ _ ([]:List ByteArray) t906 true _ ?side1 ?side2 ?side3 ?side4 A61.out).mono ?_);(case side1=>exact cr_ HO_5);(case side2=>exact(Kd.R_reads' HO_5.out).2.1);(case side3=>exact Kd.C_nil _ _);(case side4=>exact Nat.le_refl _);rintro e w7100 ⟨v7100,rfl,ho0,hb⟩;refine⟨_,rfl,?_⟩;have n_:=pk5 (Kd.R_below (ro_ HO_4) hb) (Kd.R_below (ro_ HO_5) hb) (Kd.R_lower ho0 (below_size bl_)) (blk_below (bo_ BK869) hb) (below_step bl_ hb);clear HO_4 HO_5 BK869 HB;obtain⟨HO_4,HO_5,HO7100,BK869,HB⟩:=n_;(try clear hb ho0))|((with_reducible refine gate_callee (f:=77) rfl ?_);refine goL_ (some 109) Try.func77 #[.agg #[.slice Ao80 x5_2.length co80,.slice none 0 0]] ?_;(refine(windroseref11_Unpack.calls k2 _ _ x5_2 _ _ ([]:List ByteArray) t906 true _ ?side1 ?side2 ?side3 ?side4 A61.out).mono ?_);(case side1=>exact cr_ HO_5);(case side2=>exact(Kd.R_reads' HO_5.out).2.1);(case side3=>exact Kd.C_nil _ _);(case side4=>exact Nat.le_refl _);rintro e w7100 ⟨v7100,rfl,ho0,hb⟩;refine⟨_,rfl,?_⟩;have n_:=pk5 (Kd.R_below (ro_ HO_4) hb) (Kd.R_below (ro_ HO_5) hb) (Kd.R_lower ho0 (below_size bl_)) (blk_below (bo_ BK869) hb) (below_step bl_ hb);clear HO_4 HO_5 BK869 HB;obtain⟨HO_4,HO_5,HO7100,BK869,HB⟩:=n_;(try clear hb ho0)))
       have n_:=pk5 (Kd.R_drew HO_4.out) (Kd.R_drew HO_5.out) (Kd.R_drew HO7100.out) (blk_drew BK869.out) (below_drew1 HB.out)
       clear HO_4 HO_5 HO7100 BK869 HB
       obtain⟨HO_4,HO_5,HO7100,BK869,HB⟩:=n_
       first
        |obtain⟨Ao7100,co7100,eo7100⟩:=Kd.R_slice HO7100.out
         (first|subst eo7100|(injection eo7100 with f1_ f2_ f3_;have f7100_:=f1_.symm;have f7101_:=f3_.symm;clear f1_ f2_ f3_;subst f7100_;subst f7101_))
         first
          |refine start_ (n:=14) (S:=fun w'=>True) (ds:=[]) bz11_14_0 (by kernel_rfl) rfl rfl trivial (fun hHeld=>?_);refine with_tabW windroseref18_Samples.tab24 windroseref18_Samples.bits24 (fun HT_ HW_=>?_)
           generalize w7100.drew=w7101 at HO_4 HO_5 HO7100 BK869 HB hHeld ⊢
           refine pure_ (i:=0) (N:=some 112) (v:=?_) (a':=?_) bz11_14_1 rfl rfl (any_of HT_.out (by kernel_rfl)) (fun _ _ _ h=>h) (Or.inl ⟨by rfl,?_⟩) ?_ ?_
           rotate_left
           ·intro w'
            go_simp
            with_reducible rfl
           rotate_left
           ·simp only [ap_,sb_,s0_,s1_,i64_w,i32_w]
            rfl
           refine pure_ (i:=1) (N:=some 113) (v:=?_) (a':=?_) bz11_14_3 rfl rfl (any_of HT_.out (by kernel_rfl)) (fun _ _ _ h=>h) (Or.inl ⟨by rfl,?_⟩) ?_ ?_
           rotate_left
           ·intro w'
            go_simp
            with_reducible rfl
           rotate_left
           ·simp only [ap_,sb_,s0_,s1_,i64_w,i32_w]
            rfl
           refine pure_ (i:=2) (N:=some 114) (v:=?_) (a':=?_) bz11_14_7 rfl rfl (any_of HT_.out (by kernel_rfl)) (fun _ _ _ h=>h) (Or.inl ⟨by rfl,?_⟩) ?_ ?_
           rotate_left
           ·intro w'
            go_simp
            with_reducible rfl
           rotate_left
           ·simp only [ap_,sb_,s0_,s1_,i64_w,i32_w]
            rfl
           refine pure_ (i:=3) (N:=some 115) (v:=?_) (a':=?_) bz11_14_15 rfl rfl (any_of HT_.out (by kernel_rfl)) (fun _ _ _ h=>h) (Or.inl ⟨by rfl,?_⟩) ?_ ?_
           rotate_left
           ·intro w'
            go_simp
            with_reducible rfl
           rotate_left
           ·simp only [ap_,sb_,s0_,s1_,i64_w,i32_w]
            rfl
           refine pure_ (i:=4) (N:=some 116) (v:=?_) (a':=?_) bz11_14_31 rfl rfl (any_of HT_.out (by kernel_rfl)) (fun _ _ _ h=>h) (Or.inl ⟨by rfl,?_⟩) ?_ ?_
           rotate_left
           ·intro w'
            go_simp
            with_reducible rfl
           rotate_left
           ·simp only [ap_,sb_,s0_,s1_,i64_w,i32_w]
            rfl
           refine pure_ (i:=5) (N:=some 117) (v:=?_) (a':=?_) bz11_14_63 rfl rfl (any_of HT_.out (by kernel_rfl)) (fun _ _ _ h=>h) (Or.inl ⟨by rfl,?_⟩) ?_ ?_
           rotate_left
           ·intro w'
            go_simp
            with_reducible rfl
           rotate_left
           ·simp only [ap_,sb_,s0_,s1_,i64_w,i32_w]
            rfl
           refine pure_ (i:=6) (N:=some 118) (v:=?_) (a':=?_) bz11_14_127 rfl rfl (any_of HT_.out (by kernel_rfl)) (fun _ _ _ h=>h) (Or.inl ⟨by rfl,?_⟩) ?_ ?_
           rotate_left
           ·intro w'
            go_simp
            with_reducible rfl
           rotate_left
           ·simp only [ap_,sb_,s0_,s1_,i64_w,i32_w]
            rfl
           refine pure_ (i:=7) (N:=some 119) (v:=?_) (a':=?_) bz11_14_255 rfl rfl (any_of HT_.out (by kernel_rfl)) (fun _ _ _ h=>h) (Or.inl ⟨by rfl,?_⟩) ?_ ?_
           rotate_left
           ·intro w'
            go_simp
            with_reducible rfl
           rotate_left
           ·simp only [ap_,sb_,s0_,s1_,i64_w,i32_w]
            rfl
           refine pure_ (i:=8) (N:=some 120) (v:=undef) (a':=?_) bz11_14_511 rfl rfl (any_of HT_.out (by kernel_rfl)) (fun _ _ _ h=>h) (Or.inr ⟨by rfl,rfl⟩) ?_ ?_
           rotate_left
           ·simp only [ap_,sb_,s0_,s1_,i64_w,i32_w]
            rfl
           refine pure_ (i:=9) (N:=some 121) (v:=undef) (a':=?_) bz11_14_1023 rfl rfl (any_of HT_.out (by kernel_rfl)) (fun _ _ _ h=>h) (Or.inr ⟨by rfl,rfl⟩) ?_ ?_
           rotate_left
           ·simp only [ap_,sb_,s0_,s1_,i64_w,i32_w]
            rfl
           refine pure_ (i:=10) (N:=some 122) (v:=undef) (a':=?_) bz11_14_2047 rfl rfl (any_of HT_.out (by kernel_rfl)) (fun _ _ _ h=>h) (Or.inr ⟨by rfl,rfl⟩) ?_ ?_
           rotate_left
           ·simp only [ap_,sb_,s0_,s1_,i64_w,i32_w]
            rfl
           refine pure_ (i:=11) (N:=some 123) (v:=undef) (a':=?_) bz11_14_4095 rfl rfl (any_of HT_.out (by kernel_rfl)) (fun _ _ _ h=>h) (Or.inr ⟨by rfl,rfl⟩) ?_ ?_
           rotate_left
           ·simp only [ap_,sb_,s0_,s1_,i64_w,i32_w]
            rfl
           refine pure_ (i:=12) (N:=some 124) (v:=undef) (a':=?_) bz11_14_8191 rfl rfl (any_of HT_.out (by kernel_rfl)) (fun _ _ _ h=>h) (Or.inr ⟨by rfl,rfl⟩) ?_ ?_
           rotate_left
           ·simp only [ap_,sb_,s0_,s1_,i64_w,i32_w]
            rfl
           refine pure_ (i:=13) (N:=some 125) (v:=?_) (a':=?_) bz11_14_16383 rfl rfl (any_of HT_.out (by kernel_rfl)) (fun _ _ _ h=>h) (Or.inl ⟨by rfl,?_⟩) ?_ ?_
           rotate_left
           ·intro w'
            go_simp
            with_reducible rfl
           rotate_left
           ·simp only [ap_,sb_,s0_,s1_,i64_w,i32_w]
            rfl
           refine done_ (done_of HT_.out (by kernel_rfl)) ?_
           try go_wp2
           go_ret2
           exact⟨_,rf_,nl_,bl_⟩
          |refine start_ (n:=14) (S:=fun w'=>w'.cell? ⟨gb869,0,none⟩=some (.int .i64 a0_0)∧w'.cell? ⟨gb869,1,none⟩=some (.int .i64 a0_1)∧w'.cell? ⟨gb869,2,none⟩=some (.int .i64 a0_2)∧w'.cell? ⟨gb869,3,none⟩=some (.slice A0_3 l0_3.length c0_3)∧w'.cell? ⟨gb869,4,none⟩=some (.int .i64 a0_4)) (ds:=[]) bz11_14_0 (by kernel_rfl) rfl rfl ⟨(blk_cell BK869.out 0).trans rfl,(blk_cell BK869.out 1).trans rfl,(blk_cell BK869.out 2).trans rfl,(blk_cell BK869.out 3).trans rfl,(blk_cell BK869.out 4).trans rfl⟩ (fun hHeld=>?_);refine with_tabW windroseref18_Samples.tab24 windroseref18_Samples.bits24 (fun HT_ HW_=>?_)
           generalize w7100.drew=w7101 at HO_4 HO_5 HO7100 BK869 HB hHeld ⊢
           refine pure_ (i:=0) (N:=some 112) (v:=?_) (a':=?_) bz11_14_1 rfl rfl (any_of HT_.out (by kernel_rfl)) (fun _ _ _ h=>h) (Or.inl ⟨by rfl,?_⟩) ?_ ?_
           rotate_left
           ·intro w'
            go_simp
            with_reducible rfl
           rotate_left
           ·simp only [ap_,sb_,s0_,s1_,i64_w,i32_w]
            rfl
           refine pure_ (i:=1) (N:=some 113) (v:=?_) (a':=?_) bz11_14_3 rfl rfl (any_of HT_.out (by kernel_rfl)) (fun _ _ _ h=>h) (Or.inl ⟨by rfl,?_⟩) ?_ ?_
           rotate_left
           ·intro w'
            go_simp
            with_reducible rfl
           rotate_left
           ·simp only [ap_,sb_,s0_,s1_,i64_w,i32_w]
            rfl
           refine pure_ (i:=2) (N:=some 114) (v:=?_) (a':=?_) bz11_14_7 rfl rfl (any_of HT_.out (by kernel_rfl)) (fun _ _ _ h=>h) (Or.inl ⟨by rfl,?_⟩) ?_ ?_
           rotate_left
           ·intro w'
            go_simp
            with_reducible rfl
           rotate_left
           ·simp only [ap_,sb_,s0_,s1_,i64_w,i32_w]
            rfl
           refine pure_ (i:=3) (N:=some 115) (v:=?_) (a':=?_) bz11_14_15 rfl rfl (any_of HT_.out (by kernel_rfl)) (fun _ _ _ h=>h) (Or.inl ⟨by rfl,?_⟩) ?_ ?_
           rotate_left
           ·intro w'
            go_simp
            with_reducible rfl
           rotate_left
           ·simp only [ap_,sb_,s0_,s1_,i64_w,i32_w]
            rfl
           refine pure_ (i:=4) (N:=some 116) (v:=?_) (a':=?_) bz11_14_31 rfl rfl (any_of HT_.out (by kernel_rfl)) (fun _ _ _ h=>h) (Or.inl ⟨by rfl,?_⟩) ?_ ?_
           rotate_left
           ·intro w'
            go_simp
            with_reducible rfl
           rotate_left
           ·simp only [ap_,sb_,s0_,s1_,i64_w,i32_w]
            rfl
           refine pure_ (i:=5) (N:=some 117) (v:=?_) (a':=?_) bz11_14_63 rfl rfl (any_of HT_.out (by kernel_rfl)) (fun _ _ _ h=>h) (Or.inl ⟨by rfl,?_⟩) ?_ ?_
           rotate_left
           ·intro w'
            go_simp
            with_reducible rfl
           rotate_left
           ·simp only [ap_,sb_,s0_,s1_,i64_w,i32_w]
            rfl
           refine pure_ (i:=6) (N:=some 118) (v:=?_) (a':=?_) bz11_14_127 rfl rfl (any_of HT_.out (by kernel_rfl)) (fun _ _ _ h=>h) (Or.inl ⟨by rfl,?_⟩) ?_ ?_
           rotate_left
           ·intro w'
            go_simp
            with_reducible rfl
           rotate_left
           ·simp only [ap_,sb_,s0_,s1_,i64_w,i32_w]
            rfl
           refine pure_ (i:=7) (N:=some 119) (v:=?_) (a':=?_) bz11_14_255 rfl rfl (any_of HT_.out (by kernel_rfl)) (fun _ _ _ h=>h) (Or.inl ⟨by rfl,?_⟩) ?_ ?_
           rotate_left
           ·intro w'
            go_simp
            with_reducible rfl
           rotate_left
           ·simp only [ap_,sb_,s0_,s1_,i64_w,i32_w]
            rfl
           refine pure_ (i:=8) (N:=some 120) (v:=?_) (a':=?_) bz11_14_511 rfl rfl (any_of HT_.out (by kernel_rfl)) (fun _ _ _ h=>h) (Or.inl ⟨by rfl,?_⟩) ?_ ?_
           rotate_left
           ·intro w'
            go_simp
            with_reducible rfl
           rotate_left
           ·simp only [ap_,sb_,s0_,s1_,i64_w,i32_w]
            rfl
           refine take_ (i:=10) (N:=some 122) (v:=?_) (a':=?_) bz11_14_1535 rfl rfl (take_ofW HT_.out HW_.out (by kernel_rfl)) (fun _ _ _ h=>h) (Or.inl ⟨by rfl,?_⟩) hHeld ?_ ?_
           rotate_left
           ·rintro w' ⟨s7100,s7101,s7102,s7103,s7104⟩
            go_simp
            with_reducible rfl
           rotate_left
           ·simp only [ap_,sb_,s0_,s1_,i64_w,i32_w]
            rfl
           refine one_ (i:=9) (N:=some 121) bz11_14_2047 rfl rfl (one_of HT_.out (by kernel_rfl)) (by decide) (fun K hK=>?_)
           refine goes_ Try.func41 (by kernel_rfl) rfl #[.slice Ao7100 t906.length co7100] (by rfl) rfl rfl (by(try simp only [List.map_toArray,List.map_cons,List.map_nil]);first|done|rfl|(simp only [List.length_drop,List.length_take];rfl)) ?_
           with_reducible refine(windroseref18_Build.calls k2 _ _ t906 t910 t911 t912 t913 t916 _ ?side1 ?side2 A69.out).mono ?_
           (case side1=>exact cr_ HO7100)
           (case side2=>exact(Kd.R_reads' HO7100.out).2.1)
           rintro e w7102 ⟨v7101,rfl,ho0,hb⟩
           refine⟨_,rfl,?_⟩
           have n_:=pk6 (Kd.R_below (ro_ HO_4) hb) (Kd.R_below (ro_ HO_5) hb) (Kd.R_below (ro_ HO7100) hb) (Kd.R_lower ho0 (below_size bl_)) (blk_below (bo_ BK869) hb) (below_step bl_ hb)
           clear HO_4 HO_5 HO7100 BK869 HB
           obtain⟨HO_4,HO_5,HO7100,HO7101,BK869,HB⟩:=n_
           (try clear hb)
           (try clear hb2)
           (try clear hk)
           (try clear hi)
           (try clear ho0)
           obtain⟨Ao7101,co7101,eo7101⟩:=Kd.R_slice HO7101.out
           (first|subst eo7101|(injection eo7101 with f1_ f2_ f3_;have f7100_:=f1_.symm;have f7101_:=f3_.symm;clear f1_ f2_ f3_;subst f7100_;subst f7101_))
           refine hK.out _ _ ⟨(blk_cell BK869.out 0).trans rfl,(blk_cell BK869.out 1).trans rfl,(blk_cell BK869.out 2).trans rfl,(blk_cell BK869.out 3).trans rfl,(blk_cell BK869.out 4).trans rfl⟩ (fun hHeld=>?_)
           clear hK K
           refine norm_ (a':=?_) ?_ ?_
           rotate_left
           ·show Act.put _ (some 121) _=_
            simp only [ap_,sb_,s0_,s1_,i64_w,i32_w]
            rfl
           refine one_ (i:=11) (N:=some 123) bz11_14_4095 rfl rfl (one_of HT_.out (by kernel_rfl)) (by decide) (fun K hK=>?_)
           refine goes_ Try.func39 (by kernel_rfl) rfl #[.agg #[.int .i64 t910,.int .i64 t911,.int .i64 t912,.slice Ao7101 t913.length co7101,.int .i64 t916],.agg #[.int .i64 a0_0,.int .i64 a0_1,.int .i64 a0_2,.slice A0_3 l0_3.length c0_3,.int .i64 a0_4]] (by rfl) rfl rfl (by(try simp only [List.map_toArray,List.map_cons,List.map_nil]);first|done|rfl|(simp only [List.length_drop,List.length_take];rfl)) ?_
           first
            |with_reducible refine(windroseref18_Same.calls t910 t911 t912 _ _ t913 t916 a0_0 a0_1 a0_2 _ _ l0_3 a0_4 true _ ?side1 ?side2 ?side3 ?side4 A70.out).mono ?_
             (case side1=>exact cr_ HO7101)
             (case side2=>exact(Kd.R_reads' HO7101.out).2.1)
             (case side3=>exact cb_ HR0_3)
             (case side4=>exact HC0_3.out)
             rintro e w7103 ⟨rfl,hb⟩
             refine⟨_,rfl,?_⟩
             have n_:=pk6 (Kd.R_below (ro_ HO_4) hb) (Kd.R_below (ro_ HO_5) hb) (Kd.R_below (ro_ HO7100) hb) (Kd.R_below (ro_ HO7101) hb) (blk_below (bo_ BK869) hb) (below_step bl_ hb)
             clear HO_4 HO_5 HO7100 HO7101 BK869 HB
             obtain⟨HO_4,HO_5,HO7100,HO7101,BK869,HB⟩:=n_
             (try clear hb)
             (try clear hb2)
             (try clear hk)
             (try clear hi)
             refine hK.out _ _ ⟨(blk_cell BK869.out 0).trans rfl,(blk_cell BK869.out 1).trans rfl,(blk_cell BK869.out 2).trans rfl,(blk_cell BK869.out 3).trans rfl,(blk_cell BK869.out 4).trans rfl⟩ (fun hHeld=>?_)
             clear hK K
             refine norm_ (a':=?_) ?_ ?_
             rotate_left
             ·show Act.put _ (some 123) _=_
              simp only [ap_,sb_,s0_,s1_,i64_w,i32_w]
              rfl
             refine pure_ (i:=12) (N:=some 124) (v:=?_) (a':=?_) bz11_14_8191 rfl rfl (any_of HT_.out (by kernel_rfl)) (fun _ _ _ h=>h) (Or.inl ⟨by rfl,?_⟩) ?_ ?_
             rotate_left
             ·intro w'
              go_simp
              with_reducible rfl
             rotate_left
             ·simp only [ap_,sb_,s0_,s1_,i64_w,i32_w]
              rfl
             refine pure_ (i:=13) (N:=some 125) (v:=?_) (a':=?_) bz11_14_16383 rfl rfl (any_of HT_.out (by kernel_rfl)) (fun _ _ _ h=>h) (Or.inl ⟨by rfl,?_⟩) ?_ ?_
             rotate_left
             ·intro w'
              go_simp
              with_reducible rfl
             rotate_left
             ·simp only [ap_,sb_,s0_,s1_,i64_w,i32_w]
              rfl
             refine done_ (done_of HT_.out (by kernel_rfl)) ?_
             try go_wp2
             go_ret2
             exact⟨_,rf_,(ro_ HO7100),bl_⟩
            |with_reducible refine(windroseref18_Same.calls t910 t911 t912 _ _ t913 t916 a0_0 a0_1 a0_2 _ _ l0_3 a0_4 false _ ?side1 ?side2 ?side3 ?side4 A70.out).mono ?_
             (case side1=>exact cr_ HO7101)
             (case side2=>exact(Kd.R_reads' HO7101.out).2.1)
             (case side3=>exact cb_ HR0_3)
             (case side4=>exact HC0_3.out)
             rintro e w7103 ⟨rfl,hb⟩
             refine⟨_,rfl,?_⟩
             have n_:=pk6 (Kd.R_below (ro_ HO_4) hb) (Kd.R_below (ro_ HO_5) hb) (Kd.R_below (ro_ HO7100) hb) (Kd.R_below (ro_ HO7101) hb) (blk_below (bo_ BK869) hb) (below_step bl_ hb)
             clear HO_4 HO_5 HO7100 HO7101 BK869 HB
             obtain⟨HO_4,HO_5,HO7100,HO7101,BK869,HB⟩:=n_
             (try clear hb)
             (try clear hb2)
             (try clear hk)
             (try clear hi)
             refine hK.out _ _ ⟨(blk_cell BK869.out 0).trans rfl,(blk_cell BK869.out 1).trans rfl,(blk_cell BK869.out 2).trans rfl,(blk_cell BK869.out 3).trans rfl,(blk_cell BK869.out 4).trans rfl⟩ (fun hHeld=>?_)
             clear hK K
             refine norm_ (a':=?_) ?_ ?_
             rotate_left
             ·show Act.put _ (some 123) _=_
              simp only [ap_,sb_,s0_,s1_,i64_w,i32_w]
              rfl
             refine pure_ (i:=12) (N:=some 124) (v:=?_) (a':=?_) bz11_14_8191 rfl rfl (any_of HT_.out (by kernel_rfl)) (fun _ _ _ h=>h) (Or.inl ⟨by rfl,?_⟩) ?_ ?_
             rotate_left
             ·intro w'
              go_simp
              with_reducible rfl
             rotate_left
             ·simp only [ap_,sb_,s0_,s1_,i64_w,i32_w]
              rfl
             refine pure_ (i:=13) (N:=some 125) (v:=?_) (a':=?_) bz11_14_16383 rfl rfl (any_of HT_.out (by kernel_rfl)) (fun _ _ _ h=>h) (Or.inl ⟨by rfl,?_⟩) ?_ ?_
             rotate_left
             ·intro w'
              go_simp
              with_reducible rfl
             rotate_left
             ·simp only [ap_,sb_,s0_,s1_,i64_w,i32_w]
              rfl
             refine done_ (done_of HT_.out (by kernel_rfl)) ?_
             try go_wp2
             go_ret2
             exact⟨_,rf_,nl_,bl_⟩
        |refine start_ (n:=14) (S:=fun w'=>True) (ds:=[]) bz11_14_0 (by kernel_rfl) rfl rfl trivial (fun hHeld=>?_);refine with_tabW windroseref18_Samples.tab24 windroseref18_Samples.bits24 (fun HT_ HW_=>?_)
         generalize w7100.drew=w7101 at HO_4 HO_5 HO7100 BK869 HB hHeld ⊢
         refine pure_ (i:=0) (N:=some 112) (v:=?_) (a':=?_) bz11_14_1 rfl rfl (any_of HT_.out (by kernel_rfl)) (fun _ _ _ h=>h) (Or.inl ⟨by rfl,?_⟩) ?_ ?_
         rotate_left
         ·intro w'
          go_simp
          with_reducible rfl
         rotate_left
         ·simp only [ap_,sb_,s0_,s1_,i64_w,i32_w]
          rfl
         refine pure_ (i:=1) (N:=some 113) (v:=?_) (a':=?_) bz11_14_3 rfl rfl (any_of HT_.out (by kernel_rfl)) (fun _ _ _ h=>h) (Or.inl ⟨by rfl,?_⟩) ?_ ?_
         rotate_left
         ·intro w'
          go_simp
          with_reducible rfl
         rotate_left
         ·simp only [ap_,sb_,s0_,s1_,i64_w,i32_w]
          rfl
         refine pure_ (i:=2) (N:=some 114) (v:=?_) (a':=?_) bz11_14_7 rfl rfl (any_of HT_.out (by kernel_rfl)) (fun _ _ _ h=>h) (Or.inl ⟨by rfl,?_⟩) ?_ ?_
         rotate_left
         ·intro w'
          go_simp
          with_reducible rfl
         rotate_left
         ·simp only [ap_,sb_,s0_,s1_,i64_w,i32_w]
          rfl
         refine pure_ (i:=3) (N:=some 115) (v:=undef) (a':=?_) bz11_14_15 rfl rfl (any_of HT_.out (by kernel_rfl)) (fun _ _ _ h=>h) (Or.inr ⟨by rfl,rfl⟩) ?_ ?_
         rotate_left
         ·simp only [ap_,sb_,s0_,s1_,i64_w,i32_w]
          rfl
         refine pure_ (i:=4) (N:=some 116) (v:=undef) (a':=?_) bz11_14_31 rfl rfl (any_of HT_.out (by kernel_rfl)) (fun _ _ _ h=>h) (Or.inr ⟨by rfl,rfl⟩) ?_ ?_
         rotate_left
         ·simp only [ap_,sb_,s0_,s1_,i64_w,i32_w]
          rfl
         refine pure_ (i:=5) (N:=some 117) (v:=undef) (a':=?_) bz11_14_63 rfl rfl (any_of HT_.out (by kernel_rfl)) (fun _ _ _ h=>h) (Or.inr ⟨by rfl,rfl⟩) ?_ ?_
         rotate_left
         ·simp only [ap_,sb_,s0_,s1_,i64_w,i32_w]
          rfl
         refine pure_ (i:=6) (N:=some 118) (v:=?_) (a':=?_) bz11_14_127 rfl rfl (any_of HT_.out (by kernel_rfl)) (fun _ _ _ h=>h) (Or.inl ⟨by rfl,?_⟩) ?_ ?_
         rotate_left
         ·intro w'
          go_simp
          with_reducible rfl
         rotate_left
         ·simp only [ap_,sb_,s0_,s1_,i64_w,i32_w]
          rfl
         refine pure_ (i:=7) (N:=some 119) (v:=?_) (a':=?_) bz11_14_255 rfl rfl (any_of HT_.out (by kernel_rfl)) (fun _ _ _ h=>h) (Or.inl ⟨by rfl,?_⟩) ?_ ?_
         rotate_left
         ·intro w'
          go_simp
          with_reducible rfl
         rotate_left
         ·simp only [ap_,sb_,s0_,s1_,i64_w,i32_w]
          rfl
         refine pure_ (i:=8) (N:=some 120) (v:=undef) (a':=?_) bz11_14_511 rfl rfl (any_of HT_.out (by kernel_rfl)) (fun _ _ _ h=>h) (Or.inr ⟨by rfl,rfl⟩) ?_ ?_
         rotate_left
         ·simp only [ap_,sb_,s0_,s1_,i64_w,i32_w]
          rfl
         refine pure_ (i:=9) (N:=some 121) (v:=undef) (a':=?_) bz11_14_1023 rfl rfl (any_of HT_.out (by kernel_rfl)) (fun _ _ _ h=>h) (Or.inr ⟨by rfl,rfl⟩) ?_ ?_
         rotate_left
         ·simp only [ap_,sb_,s0_,s1_,i64_w,i32_w]
          rfl
         refine pure_ (i:=10) (N:=some 122) (v:=undef) (a':=?_) bz11_14_2047 rfl rfl (any_of HT_.out (by kernel_rfl)) (fun _ _ _ h=>h) (Or.inr ⟨by rfl,rfl⟩) ?_ ?_
         rotate_left
         ·simp only [ap_,sb_,s0_,s1_,i64_w,i32_w]
          rfl
         refine pure_ (i:=11) (N:=some 123) (v:=undef) (a':=?_) bz11_14_4095 rfl rfl (any_of HT_.out (by kernel_rfl)) (fun _ _ _ h=>h) (Or.inr ⟨by rfl,rfl⟩) ?_ ?_
         rotate_left
         ·simp only [ap_,sb_,s0_,s1_,i64_w,i32_w]
          rfl
         refine pure_ (i:=12) (N:=some 124) (v:=undef) (a':=?_) bz11_14_8191 rfl rfl (any_of HT_.out (by kernel_rfl)) (fun _ _ _ h=>h) (Or.inr ⟨by rfl,rfl⟩) ?_ ?_
         rotate_left
         ·simp only [ap_,sb_,s0_,s1_,i64_w,i32_w]
          rfl
         refine pure_ (i:=13) (N:=some 125) (v:=?_) (a':=?_) bz11_14_16383 rfl rfl (any_of HT_.out (by kernel_rfl)) (fun _ _ _ h=>h) (Or.inl ⟨by rfl,?_⟩) ?_ ?_
         rotate_left
         ·intro w'
          go_simp
          with_reducible rfl
         rotate_left
         ·simp only [ap_,sb_,s0_,s1_,i64_w,i32_w]
          rfl
         refine done_ (done_of HT_.out (by kernel_rfl)) ?_
         try go_wp2
         go_ret2
         exact⟨_,rf_,nl_,bl_⟩
   simp only [Option.some.injEq,Prod.mk.injEq] at H
   obtain⟨rfl,rfl⟩:=H
   go_wp2
   go_ret2
   exact⟨_,rf_,nl_,bl_⟩
end Go.Proofs.Ytmddmbagehjdeaa.G
end
section
namespace Go.Proofs.Ytmddmbagehjdeaa.G
open Go.RowKit Go.Proofs.YtmddmbagehjdeaaX Go.Proofs.YtmddmbagehjdeaaW.PrintWords Go.Proofs.YtmddmbagehjdeaaW.PrintLast Go.Proofs.YtmddmbagehjdeaaW.PrintMore
attribute [local go_sem] max2_int min2_int max_two min_two max_three min_three max_four min_four
def windroseref12_Range.l0:Nat→List (S67)→Int→Int→List (S67)→Int→Option ((List (S67)))
 |0,_,_,_,_,_=>none
 |k+1,x0,x1,x2,x7,x8=>if x8<(x0.length:Int)then(if 0≤x8 then(if((rd_T67 x0 x8).f0)≥x1 then(if((rd_T67 x0 x8).f0)<x2 then(if x7.length<8796093022208 then(windroseref12_Range.l0 k x0 x1 x2 (x7++[(⟨(rd_T67 x0 x8).f0,(rd_T67 x0 x8).f1⟩:S67)]) (wrap64 (x8+1)))else(none))else(windroseref12_Range.l0 k x0 x1 x2 x7 (wrap64 (x8+1))))else(windroseref12_Range.l0 k x0 x1 x2 x7 (wrap64 (x8+1))))else(none))else(some x7)
def windroseref12_Range.f (k:Nat) (l0:List (S67)) (a1:Int) (a2:Int):Option ((List (S67))):=windroseref12_Range.l0 k l0 a1 a2 (([]:List (S67))) 0
theorem windroseref12_Range.calls (k:Nat) (A0:Option Addr) (c0:Nat) (l0:List (S67)) (a1:Int) (a2:Int) (r:List (S67)) (w:World) (hr0:Kd.C k67 w A0 l0.length l0) (hc0:l0.length≤c0) (h:windroseref12_Range.f k l0 a1 a2=some r) :
  Calls Try.prog 56 #[.slice A0 l0.length c0,.int .i64 a1,.int .i64 a2] w fun e w'=>∃ v0_:Value,e=.returned (v0_)∧Kd.R k67 67 w' w.heap.size (fun _=>True) v0_ r∧Below w.heap.size w w':=by
 have hu67:=Try.underlying67
 have HR0:=Aside0.mk hr0
 have HC0:=Aside0.mk hc0
 clear hr0 hc0
 have HB:=Aside0.mk (Below.refl w.heap.size w)
 have H:(windroseref12_Range.l0 k l0 a1 a2 (([]:List (S67))) 0)=some r:=h
 clear h
 obtain⟨y1096,hy1096⟩:∃ y_:List (S67),y_=(([]:List (S67))):=⟨_,rfl⟩
 replace H:(windroseref12_Range.l0 k l0 a1 a2 y1096 0)=some r:=by first|(rw [hy1096];with_reducible exact H)|(have H2_:=(Option.bind_some _ _).symm.trans H;rw [hy1096];with_reducible exact H2_)|(have H2_:=(Option.bind_some _ _).symm.trans H;with_reducible exact H2_)|with_reducible exact H|(rw [hy1096];exact H)|exact H
 have Ny1096:=Aside0.mk hy1096
 clear hy1096
 have H':=Aside0.mk H
 clear H
 go_enter Try.func56,Try.ntmps56
 go_wp2_with (first|((with_reducible refine gate_dst (N:=9) rfl ?_);refine Kd.R_lit k67 _ 67 ?hg (N:=9) ?hd (xs:=([]:List (S67))) (inner:=[]) (ok:=fun _=>True) (okp:=fun _=>True) ?hr ?hp (fun _ hk=>hk) trivial (Below.refl _ _) (Nat.le_refl _) (by simp) ?_;(case hd=>rfl);(case hg=>rfl);(case hr=>first|(go_simp;done)|(go_simp;rfl));(case hp=>exact(Reps.none _ _));intro v1097 w4 ho5 hb hg_ hnew_;clear hg_ hnew_;(first|rw [←Ny1096.out] at ho5|(simp only [Int.reduceToNat] at ho5;rw [←Ny1096.out] at ho5));have n_:=pk2 (Kd.R_lower ho5 (below_size bl_)) (below_step bl_ hb);clear HB;obtain⟨HO1098,HB⟩:=n_;clear hb ho5))
 go_loopg [7,8] k (fun kq v7 v8 w'=>∃ (x7_1:List (S67)) (x8_1:Int),v8=.int .i64 x8_1∧Aside0 (windroseref12_Range.l0 kq l0 a1 a2 x7_1 x8_1=some r)∧Aside0 (kq≤k)∧Aside0 (Kd.R k67 67 w' w.heap.size (fun _=>True) v7 x7_1)∧Aside0 (Below w.heap.size w w'))
 case atStart=>exact⟨(y1096),(0),sm_,H',⟨Nat.le_refl _⟩,⟨(ro_ HO1098)⟩,⟨bl_⟩⟩
 case round =>
  clear H'
  obtain⟨x7_1,x8_1,rfl,HA,HK1,HO_7,HB⟩:=hrel
  cases gk with
  |zero=>exact absurd HA.out (by simp [windroseref12_Range.l0])
  |succ k1 =>
   have H:=HA.out
   clear HA
   simp only [windroseref12_Range.l0] at H
   replace H:=dle H
   rcases H with⟨c6b0,H⟩|⟨c6b0,H⟩
   focus
    replace H:=dle H
    rcases H with⟨c7b0,H⟩|⟨c7b0,H⟩
    rotate_left
    ·exact absurd H (by simp)
    replace H:=dge H
    rcases H with⟨c8b0,H⟩|⟨c8b0,H⟩
    focus
     replace H:=dle H
     rcases H with⟨c9b0,H⟩|⟨c9b0,H⟩
     focus
      by_cases c10:x7_1.length<8796093022208
      rotate_left
      ·rw [if_neg c10] at H
       exact absurd H (by simp)
      rw [if_pos c10] at H
      have LMc10:=Aside0.mk c10
      clear c10
      obtain⟨y1102,hy1102⟩:∃ y_:List (S67),y_=(x7_1++[(⟨(rd_T67 l0 x8_1).f0,(rd_T67 l0 x8_1).f1⟩:S67)]):=⟨_,rfl⟩
      replace H:(windroseref12_Range.l0 k1 l0 a1 a2 y1102 (wrap64 (x8_1+1)))=some r:=by first|(rw [hy1102];with_reducible exact H)|(have H2_:=(Option.bind_some _ _).symm.trans H;rw [hy1102];with_reducible exact H2_)|(have H2_:=(Option.bind_some _ _).symm.trans H;with_reducible exact H2_)|with_reducible exact H|(rw [hy1102];exact H)|exact H
      have Ny1102:=Aside0.mk hy1102
      clear hy1102
      have H':=Aside0.mk H
      clear H
      have p1099:0≤(x8_1:Int):=dc_
      have q1099:x8_1<(l0.length:Int):=dc_
      obtain⟨ad1099,e1099,hx1099_0,hx1099_1⟩:=at_T67 HR0.out x8_1 p1099 q1099
      cases e1099
      replace hx1099_0:=(HB.out.cell (World.block_lt_of_cell? w _ hx1099_0)).trans hx1099_0
      replace hx1099_1:=(HB.out.cell (World.block_lt_of_cell? w _ hx1099_1)).trans hx1099_1
      replace p1099:=eq_true p1099
      replace q1099:=eq_true q1099
      have p1100:0≤(x8_1:Int):=dc_
      have q1100:x8_1<(l0.length:Int):=dc_
      obtain⟨ad1100,e1100,hx1100_0,hx1100_1⟩:=at_T67 HR0.out x8_1 p1100 q1100
      obtain rfl:ad1099=ad1100:=(by injection e1100)
      replace hx1100_0:=(HB.out.cell (World.block_lt_of_cell? w _ hx1100_0)).trans hx1100_0
      replace hx1100_1:=(HB.out.cell (World.block_lt_of_cell? w _ hx1100_1)).trans hx1100_1
      replace p1100:=eq_true p1100
      replace q1100:=eq_true q1100
      have p1101:0≤(x8_1:Int):=dc_
      have q1101:x8_1<(l0.length:Int):=dc_
      obtain⟨ad1101,e1101,hx1101_0,hx1101_1⟩:=at_T67 HR0.out x8_1 p1101 q1101
      obtain rfl:ad1099=ad1101:=(by injection e1101)
      replace hx1101_0:=(HB.out.cell (World.block_lt_of_cell? w _ hx1101_0)).trans hx1101_0
      replace hx1101_1:=(HB.out.cell (World.block_lt_of_cell? w _ hx1101_1)).trans hx1101_1
      replace p1101:=eq_true p1101
      replace q1101:=eq_true q1101
     rotate_left
     focus
      have H':=Aside0.mk H
      clear H
      have p1099:0≤(x8_1:Int):=dc_
      have q1099:x8_1<(l0.length:Int):=dc_
      obtain⟨ad1099,e1099,hx1099_0,hx1099_1⟩:=at_T67 HR0.out x8_1 p1099 q1099
      cases e1099
      replace hx1099_0:=(HB.out.cell (World.block_lt_of_cell? w _ hx1099_0)).trans hx1099_0
      replace hx1099_1:=(HB.out.cell (World.block_lt_of_cell? w _ hx1099_1)).trans hx1099_1
      replace p1099:=eq_true p1099
      replace q1099:=eq_true q1099
      have p1100:0≤(x8_1:Int):=dc_
      have q1100:x8_1<(l0.length:Int):=dc_
      obtain⟨ad1100,e1100,hx1100_0,hx1100_1⟩:=at_T67 HR0.out x8_1 p1100 q1100
      obtain rfl:ad1099=ad1100:=(by injection e1100)
      replace hx1100_0:=(HB.out.cell (World.block_lt_of_cell? w _ hx1100_0)).trans hx1100_0
      replace hx1100_1:=(HB.out.cell (World.block_lt_of_cell? w _ hx1100_1)).trans hx1100_1
      replace p1100:=eq_true p1100
      replace q1100:=eq_true q1100
    rotate_left 2
    focus
     have H':=Aside0.mk H
     clear H
     have p1099:0≤(x8_1:Int):=dc_
     have q1099:x8_1<(l0.length:Int):=dc_
     obtain⟨ad1099,e1099,hx1099_0,hx1099_1⟩:=at_T67 HR0.out x8_1 p1099 q1099
     cases e1099
     replace hx1099_0:=(HB.out.cell (World.block_lt_of_cell? w _ hx1099_0)).trans hx1099_0
     replace hx1099_1:=(HB.out.cell (World.block_lt_of_cell? w _ hx1099_1)).trans hx1099_1
     replace p1099:=eq_true p1099
     replace q1099:=eq_true q1099
   rotate_left 3
   focus
    obtain rfl:=Option.some.inj H
   all_goals
    go_wp2_with (first|((with_reducible refine gate_builtin (b:=.append) (xs:=#[.tmp 32,.tmp 37]) rfl ?_);at_builtin;refine Kd.R_append k67 (w0:=w) w.heap.size rfl (.tmp 32) (.tmp 37) 65 67 (.agg #[(.int .i64 0),(.int .i64 0)]) 16 rfl Try.underlying65 info67 rfl (by decide) (by omega) u7 x7_1 (⟨(rd_T67 l0 x8_1).f0,(rd_T67 l0 x8_1).f1⟩:S67) [.int .i64 ((rd_T67 l0 x8_1).f0),.int .i64 ((rd_T67 l0 x8_1).f1)] (fun _=>True) (fun _=>False) rfl rfl ?aP (fun _ hk=>hk.elim) ?aF ?aO ?aB ?aS ?aL ?_;(case aP=>exact k67_mkM _ _ _ (⟨(rd_T67 l0 x8_1).f0,(rd_T67 l0 x8_1).f1⟩:S67));(case aB=>exact bl_);(case aF=>exact(fun _ _=>trivial));(case aO=>exact(ro_ HO_7));(case aS=>exact(below_size bl_));(case aL=>have:=LMc10.out;omega);intro v7000 w7000 ho hb hg hat;rw [←Ny1102.out] at ho;have n_:=pk2 (hb) (ho);clear HB HO_7;obtain⟨HB,HO7000⟩:=n_;clear ho hb hg hat))
    first
     |go_roundg k1
      case measure=>have:=HK1.out;omega
      first
       |case rel=>exact⟨(y1102),(wrap64 (x8_1+1)),sm_,H',⟨by have:=HK1.out;omega⟩,⟨(ro_ HO7000)⟩,⟨bl_⟩⟩
       |case rel=>exact⟨(x7_1),(wrap64 (x8_1+1)),sm_,H',⟨by have:=HK1.out;omega⟩,⟨(ro_ HO_7)⟩,⟨bl_⟩⟩
     |go_ret
      exact⟨_,rf_,(ro_ HO_7),bl_⟩
end Go.Proofs.Ytmddmbagehjdeaa.G
end
