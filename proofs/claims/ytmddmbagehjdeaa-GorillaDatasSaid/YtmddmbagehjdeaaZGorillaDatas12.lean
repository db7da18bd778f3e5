/- More lines for the row. -/
import Derived.Test.YtmddmbagehjdeaaZGorillaDatas11
set_option linter.unusedVariables false
set_option linter.unusedSimpArgs false
set_option maxRecDepth 100000
namespace Go.Proofs.Ytmddmbagehjdeaa
abbrev ca1:Array Bool:=#[false,false,false,false,false,false,false,false,false,false,false,false,false,false,false,false,false,false,false,false,false]
abbrev bZ1:Array Bool:=#[true,false,false,false,false,false,false,false,false,false,false,false,false,false,false,false,false,false,false,false,false]
abbrev bm4:Array Bool:=#[true,true,true,true,true,true,true,true,true,true,false,false,false,false,false,false,false,false,false,false,false]
abbrev aR9:Array Bool:=#[true,true,true,true,true,true,true,true,true,true,true,true,true,true,true,true,true,true,true,true,false]
abbrev bD3:Array Bool:=#[true,true,true,true,true,true,true,false,false,false,false,false,false,false,false,false,false,false,false,false,false]
abbrev bb3:Array Bool:=#[true,true,true,true,true,true,true,true,true,true,true,true,true,true,true,true,true,false,false,false,false]
abbrev bL3:Array Bool:=#[true,true,true,true,false,false,false,false,false,false,false,false,false,false,false,false,false,false,false,false,false]
abbrev bb7:Array Bool:=#[true,true,true,true,true,true,true,true,true,true,true,true,true,true,false,false,false,false,false,false,false]
abbrev bm7:Array Bool:=#[true,true,true,true,true,true,true,true,true,true,true,false,false,false,false,false,false,false,false,false,false]
abbrev aS6:Array Bool:=#[true,true,true,true,true,true,true,true,true,true,true,true,true,true,true,true,true,true,true,true,true]
abbrev bF0:Array Bool:=#[true,true,true,true,true,true,true,true,false,false,false,false,false,false,false,false,false,false,false,false,false]
abbrev aZ1:Array Bool:=#[true,true,true,true,true,true,true,true,true,true,true,true,true,true,true,true,true,true,false,false,false]
abbrev cd8:Array Bool:=#[true,true,false,false,false,false,false,false,false,false,false,false,false,false,false,false,false,false,false,false,false]
abbrev bN7:Array Bool:=#[true,true,true,true,true,false,false,false,false,false,false,false,false,false,false,false,false,false,false,false,false]
abbrev bc7:Array Bool:=#[true,true,true,true,true,true,true,true,true,true,true,true,true,true,true,false,false,false,false,false,false]
abbrev bk6:Array Bool:=#[true,true,true,true,true,true,true,true,true,true,true,true,false,false,false,false,false,false,false,false,false]
abbrev bs8:Array Bool:=#[true,true,true,true,true,true,true,true,true,false,false,false,false,false,false,false,false,false,false,false,false]
abbrev aW3:Array Bool:=#[true,true,true,true,true,true,true,true,true,true,true,true,true,true,true,true,true,true,true,false,false]
abbrev bQ8:Array Bool:=#[true,true,true,true,true,true,false,false,false,false,false,false,false,false,false,false,false,false,false,false,false]
abbrev bd3:Array Bool:=#[true,true,true,true,true,true,true,true,true,true,true,true,true,true,true,true,false,false,false,false,false]
abbrev ca0:Array Bool:=#[true,true,true,false,false,false,false,false,false,false,false,false,false,false,false,false,false,false,false,false,false]
abbrev bp5:Array Bool:=#[true,true,true,true,true,true,true,true,true,true,true,true,true,false,false,false,false,false,false,false,false]
end Go.Proofs.Ytmddmbagehjdeaa
section
namespace Go.Proofs.Ytmddmbagehjdeaa.G
open Go.RowKit Go.Proofs.YtmddmbagehjdeaaX Go.Proofs.YtmddmbagehjdeaaW.PrintWords Go.Proofs.YtmddmbagehjdeaaW.PrintLast Go.Proofs.YtmddmbagehjdeaaW.PrintMore
attribute [local go_sem] S3 R3 R4 S4 P3 N3 D4 Y3
set_option maxHeartbeats 80000000 in
theorem q11.calls (k:Nat) (a0_0:Int) (a0_1:Int) (a0_2:Int) (A0_3:Option Addr) (c0_3:Nat) (l0_3:List Int) (a0_4:Int) (A1_0:Option Addr) (c1_0:Nat) (l1_0:List Int) (A1_1:Option Addr) (c1_1:Nat) (l1_1:List ByteArray) (r:Bool) (w:World) (hr0_3:Kd.C (Kd.int .u8) w A0_3 l0_3.length l0_3) (hc0_3:l0_3.length≤c0_3) (hr1_0:Kd.C (Kd.int .i64) w A1_0 l1_0.length l1_0) (hc1_0:l1_0.length≤c1_0) (hr1_1:Kd.C Kd.string w A1_1 l1_1.length l1_1) (hc1_1:l1_1.length≤c1_1) (h:q11.f k a0_0 a0_1 a0_2 l0_3 a0_4 l1_0 l1_1=some r) :
  Calls Try.prog 13 #[.agg #[.int .i64 a0_0,.int .i64 a0_1,.int .i64 a0_2,.slice A0_3 l0_3.length c0_3,.int .i64 a0_4],.agg #[.slice A1_0 l1_0.length c1_0,.slice A1_1 l1_1.length c1_1]] w fun e w'=>e=.returned (.bool r)∧Below w.heap.size w w':=by
 have hu69:=Try.underlying69
 have hu98:=Try.underlying98
 have HR0_3:=q5.mk hr0_3
 have HC0_3:=q5.mk hc0_3
 clear hr0_3 hc0_3
 have HR1_0:=q5.mk hr1_0
 have HC1_0:=q5.mk hc1_0
 clear hr1_0 hc1_0
 have HR1_1:=q5.mk hr1_1
 have HC1_1:=q5.mk hc1_1
 clear hr1_1 hc1_1
 have HB:=q5.mk (Below.refl w.heap.size w)
 have H:((q52.f a0_0 a0_1 a0_2 l0_3 a0_4).bind fun bT9=>(if bT9=true then(if(l1_0.length:Int)>20 then(q11.j0 k true a0_0 a0_1 a0_2 l0_3 a0_4 l1_0 l1_1)else(q11.j0 k (decide ((l1_1.length:Int)>5)) a0_0 a0_1 a0_2 l0_3 a0_4 l1_0 l1_1))else(q11.j0 k true a0_0 a0_1 a0_2 l0_3 a0_4 l1_0 l1_1)))=some r:=h
 clear h
 have HC3:=q5.mk H
 clear H
 go_enter Try.func13,Try.ntmps13
 go_upto_region 1 with(first|((with_reducible refine X0 (N:=2) rfl ?_);(try(refine O2 (by rfl) ?_;dsimp only));refine L2 2 #[.int .i64 a0_0,.int .i64 a0_1,.int .i64 a0_2,.slice A0_3 l0_3.length c0_3,.int .i64 a0_4] 69 ?_;intro E5 hg w4 hbox hb;have n_:=pk4 (E0 bl_ hb) (hbox) ((ge_ hg bl_:w.heap.size≤E5)) ((ge_ hg bl_:w.heap.size≤E5));clear HB;obtain⟨HB,O1,dn6,dk8⟩:=n_;clear hb hbox hg)|((with_reducible refine X0 (N:=3) rfl ?_);(try(refine O2 (by rfl) ?_;dsimp only));refine L2 3 #[.slice A1_0 l1_0.length c1_0,.slice A1_1 l1_1.length c1_1] 98 ?_;intro t5 hg w5 hbox hb;have n_:=pk7 (F0 (bo_ O1) hb) (E0 bl_ hb) (hbox) ((ge_ hg bl_:w.heap.size≤t5)) ((ge_ hg bl_:w.heap.size≤t5)) ((nb_ hg (bo_ O1):E5≠t5)) ((nc_ hg (bo_ O1):t5≠E5));clear O1 HB;obtain⟨O1,HB,z2,dn3,dk2,ad6,ad8⟩:=n_;clear hb hbox hg))
 (try simp only [ap_,sb_,s0_,s1_])
 go_cut [29] (fun v29 wc=>∃ (kq:Nat) (x29_2:Bool),v29=.bool x29_2∧q5 (q11.j0 kq x29_2 a0_0 a0_1 a0_2 l0_3 a0_4 l1_0 l1_1=some r)∧q5 (kq≤k)∧q5 (wc.heap[E5]?=some (.cells #[.int .i64 a0_0,.int .i64 a0_1,.int .i64 a0_2,(.slice A0_3 l0_3.length c0_3),.int .i64 a0_4] 69 (0,0)))∧q5 (wc.heap[t5]?=some (.cells #[(.slice A1_0 l1_0.length c1_0),(.slice A1_1 l1_1.length c1_1)] 98 (0,0)))∧q5 (Below w.heap.size w wc))
 case first =>
  have H:=HC3.out
  clear HC3
  replace H:=N2 H
  obtain⟨bT9,A6,H⟩:=H
  try dsimp only at H
  replace H:=Q7 H
  rcases H with⟨rfl,H⟩|⟨rfl,H⟩
  focus
   by_cases c8:(l1_0.length:Int)>20
   focus
    rw [if_pos c8] at H
    have c8b0:decide (20<(l1_0.length:Int))=true:=decide_eq_true c8
    have c8b1:decide (20<l1_0.length)=true:=decide_eq_true (by omega)
    clear c8
    (first|rw [c8b0]|(simp only [N0,P0];rw [c8b0])|skip)
    have H':=q5.mk H
    clear H
    have hnb9:=ad6.out
    have hnc9:=ad8.out
    obtain⟨hcz10_0,hcz10_1,hcz10_2,hcz10_3,hcz10_4,hfz10_0,hfz10_1,hfz10_2,hfz10_3,hfz10_4⟩:=X4 O1.out
   rotate_left
   focus
    rw [if_neg c8] at H
    have c8b0:decide (20<(l1_0.length:Int))=false:=decide_eq_false c8
    have c8b1:decide (20<l1_0.length)=false:=decide_eq_false (by omega)
    clear c8
    (first|rw [c8b0]|(simp only [N0,P0];rw [c8b0])|skip)
    have H':=q5.mk H
    clear H
    have hnb13:=ad6.out
    have hnc13:=ad8.out
    obtain⟨hcz14_0,hcz14_1,hcz14_2,hcz14_3,hcz14_4,hfz14_0,hfz14_1,hfz14_2,hfz14_3,hfz14_4⟩:=X4 O1.out
  rotate_left 2
  focus
   have H':=q5.mk H
   clear H
   have hnb17:=ad6.out
   have hnc17:=ad8.out
   obtain⟨hcz18_0,hcz18_1,hcz18_2,hcz18_3,hcz18_4,hfz18_0,hfz18_1,hfz18_2,hfz18_3,hfz18_4⟩:=X4 O1.out
  all_goals
   go_wp2_with (first|((with_reducible refine C1 (f:=46) rfl ?_);refine goL_ (some 16) Try.func46 #[.agg #[.int .i64 a0_0,.int .i64 a0_1,.int .i64 a0_2,.slice A0_3 l0_3.length c0_3,.int .i64 a0_4]] ?_;(with_reducible refine(q52.calls a0_0 a0_1 a0_2 _ _ l0_3 a0_4 true _ ?side1 ?side2 A6.out).mono ?_);(case side1=>repeat(first|exact(Kd.C_below HR0_3.out bl_)|(with_reducible refine Kd.C_alloc ?_ _)|(with_reducible refine Kd.C_drewN ?_ _)|(with_reducible refine Kd.C_drew ?_)));(case side2=>exact HC0_3.out);rintro e U1 ⟨rfl,hb⟩;refine⟨_,rfl,?_⟩;have n_:=pk3 (F0 (bo_ O1) hb) (F0 (bo_ z2) hb) (E0 bl_ hb);clear O1 z2 HB;obtain⟨O1,z2,HB⟩:=n_;(try clear hb);have Y2:U1.cell? ⟨t5,0,none⟩=some (.slice A1_0 l1_0.length c1_0):=(m0 z2.out 0).trans rfl;have z3:U1.cell? ⟨t5,1,none⟩=some (.slice A1_1 l1_1.length c1_1):=(m0 z2.out 1).trans rfl;have D3:=t0 z2.out 0;have Z2:=t0 z2.out 1)|((with_reducible refine C1 (f:=46) rfl ?_);refine goL_ (some 16) Try.func46 #[.agg #[.int .i64 a0_0,.int .i64 a0_1,.int .i64 a0_2,.slice A0_3 l0_3.length c0_3,.int .i64 a0_4]] ?_;(with_reducible refine(q52.calls a0_0 a0_1 a0_2 _ _ l0_3 a0_4 false _ ?side1 ?side2 A6.out).mono ?_);(case side1=>repeat(first|exact(Kd.C_below HR0_3.out bl_)|(with_reducible refine Kd.C_alloc ?_ _)|(with_reducible refine Kd.C_drewN ?_ _)|(with_reducible refine Kd.C_drew ?_)));(case side2=>exact HC0_3.out);rintro e U1 ⟨rfl,hb⟩;refine⟨_,rfl,?_⟩;have n_:=pk3 (F0 (bo_ O1) hb) (F0 (bo_ z2) hb) (E0 bl_ hb);clear O1 z2 HB;obtain⟨O1,z2,HB⟩:=n_;(try clear hb)))
   go_meet
   first
    |case rel=>exact⟨_,(true),sm_,H',⟨om_⟩,⟨(bo_ O1)⟩,⟨(bo_ z2)⟩,⟨bl_⟩⟩
    |case rel=>exact⟨_,(decide ((l1_1.length:Int)>5)),sm_,H',⟨om_⟩,⟨(bo_ O1)⟩,⟨(bo_ z2)⟩,⟨bl_⟩⟩
 case rest =>
  clear HC3
  obtain⟨kq,x29_2,rfl,HA,HJ2,O1,z2,HB⟩:=hcut
  cases kq with
  |zero=>exact absurd HA.out (by simp [q11.j0])
  |succ kj2 =>
   have H:=HA.out
   clear HA
   simp only [q11.j0] at H
   replace H:=Q7 H
   rcases H with⟨rfl,H⟩|⟨rfl,H⟩
   rotate_left
   ·replace H:=N2 H
    obtain⟨⟨J6,I6,bU6⟩,A23,H⟩:=H
    try dsimp only at H
    replace H:=N2 H
    obtain⟨⟨am5,an4,an7,ab6,an6,bF7⟩,A24,H⟩:=H
    try dsimp only at H
    replace H:=N2 H
    obtain⟨⟨ad7,ad2,ad1,s9,ae0,bA1⟩,A25,H⟩:=H
    try dsimp only at H
    have HC26:=q5.mk H
    clear H
    have hnb27:=ad6.out
    have hnc27:=ad8.out
    obtain⟨hcz28_0,hcz28_1,hcz28_2,hcz28_3,hcz28_4,hfz28_0,hfz28_1,hfz28_2,hfz28_3,hfz28_4⟩:=X4 O1.out
    go_upto_region 6 with(first|((with_reducible refine C1 (f:=50) rfl ?_);refine goL_ (some 33) Try.func50 #[.agg #[.int .i64 a0_0,.int .i64 a0_1,.int .i64 a0_2,.slice A0_3 l0_3.length c0_3,.int .i64 a0_4]] ?_;(with_reducible refine(q56.calls kj2 a0_0 a0_1 a0_2 _ _ l0_3 a0_4 J6 I6 bU6 _ ?side1 ?side2 A23.out).mono ?_);(case side1=>exact cb_ HR0_3);(case side2=>exact HC0_3.out);rintro e w29 ⟨dr6,dq4,rfl,ho0,ho1,hb⟩;refine⟨_,rfl,?_⟩;have n_:=pk5 (Kd.R_lower ho0 (L0 bl_)) (Kd.R_lower ho1 (L0 bl_)) (F0 (bo_ O1) hb) (F0 (bo_ z2) hb) (E0 bl_ hb);clear O1 z2 HB;obtain⟨C7,D7,O1,z2,HB⟩:=n_;(try clear hb ho0 ho1))|((with_reducible refine X0 (N:=5) rfl ?_);(try(refine O2 (by rfl) ?_;dsimp only));refine L2 5 #[.slice none 0 0,.slice none 0 0] 98 ?_;intro I4 hg w30 hbox hb;have n_:=pk12 (Kd.R_below (ro_ C7) hb) (Kd.R_below (ro_ D7) hb) (F0 (bo_ O1) hb) (F0 (bo_ z2) hb) (E0 bl_ hb) (hbox) ((ge_ hg bl_:w.heap.size≤I4)) ((ge_ hg bl_:w.heap.size≤I4)) ((nb_ hg (bo_ O1):E5≠I4)) ((nc_ hg (bo_ O1):I4≠E5)) ((nb_ hg (bo_ z2):t5≠I4)) ((nc_ hg (bo_ z2):I4≠t5));clear C7 D7 O1 z2 HB;obtain⟨C7,D7,O1,z2,HB,E2,dn8,do9,aa9,av9,ab1,ax6⟩:=n_;clear hb hbox hg;obtain⟨Ao31,co31,eo31⟩:=Kd.R_slice C7.out;subst eo31;have hnb32:=av9.out;have hnc32:=aa9.out;have hnb33:=ax6.out;have hnc33:=ab1.out;have hcz34_0:w30.cell? ⟨I4,0,none⟩=some (.slice none 0 0):=(m0 E2.out 0).trans rfl;have hcz34_1:w30.cell? ⟨I4,1,none⟩=some (.slice none 0 0):=(m0 E2.out 1).trans rfl;have hfz34_0:=t0 E2.out 0;have hfz34_1:=t0 E2.out 1;obtain⟨Ao35,co35,eo35⟩:=Kd.R_slice D7.out;subst eo35;have hcz36_0:w30.cell? ⟨t5,0,none⟩=some (.slice A1_0 l1_0.length c1_0):=(m0 z2.out 0).trans rfl;have hcz36_1:w30.cell? ⟨t5,1,none⟩=some (.slice A1_1 l1_1.length c1_1):=(m0 z2.out 1).trans rfl;have hfz36_0:=t0 z2.out 0;have hfz36_1:=t0 z2.out 1)|((with_reducible refine C1 (f:=51) rfl ?_);refine goL_ (some 38) Try.func51 #[.agg #[.slice A1_0 l1_0.length c1_0,.slice A1_1 l1_1.length c1_1]] ?_;(with_reducible refine(q28.calls kj2 _ _ l1_0 _ _ l1_1 am5 an4 an7 ab6 an6 bF7 _ ?side1 ?side2 ?side3 ?side4 A24.out).mono ?_);(case side1=>exact Kd.C_below HR1_0.out bl_);(case side2=>exact HC1_0.out);(case side3=>exact Kd.C_below HR1_1.out bl_);(case side4=>exact HC1_1.out);rintro e w37 ⟨dq1,rfl,ho0,hb⟩;refine⟨_,rfl,?_⟩;have n_:=pk7 (Kd.R_below (rt_ ((Kd.R_mono (Kd.R_far (p:=⟨I4,1,none⟩) (Kd.R_far (p:=⟨I4,0,none⟩) (Kd.R_types C7.out E2.out (by decide)) (fun _ hk=>hk.2) (.slice Ao31 J6.length co31)) (fun _ hk=>hk.2) (.slice Ao35 I6.length co35)) (fun _ h_=>h_.1)))) hb) (Kd.R_below (rt_ ((Kd.R_mono (Kd.R_far (p:=⟨I4,1,none⟩) (Kd.R_far (p:=⟨I4,0,none⟩) (Kd.R_types D7.out E2.out (by decide)) (fun _ hk=>hk.2) (.slice Ao31 J6.length co31)) (fun _ hk=>hk.2) (.slice Ao35 I6.length co35)) (fun _ h_=>h_.1)))) hb) (Kd.V_lower (Kd.V_mono (ok':=fun k_=>some k_≠(.slice Ao31 J6.length co31:Value).ownBlock∧some k_≠(.slice Ao35 I6.length co35:Value).ownBlock∧k_≠E5∧k_≠t5∧k_≠I4) ho0 (fun k_ hk_=>⟨(Kd.fresh' (Kd.R_lt (rt_ ((Kd.R_mono (Kd.R_far (p:=⟨I4,1,none⟩) (Kd.R_far (p:=⟨I4,0,none⟩) (Kd.R_types C7.out E2.out (by decide)) (fun _ hk=>hk.2) (.slice Ao31 J6.length co31)) (fun _ hk=>hk.2) (.slice Ao35 I6.length co35)) (fun _ h_=>h_.1))))) k_ hk_),(Kd.fresh' (Kd.R_lt (rt_ ((Kd.R_mono (Kd.R_far (p:=⟨I4,1,none⟩) (Kd.R_far (p:=⟨I4,0,none⟩) (Kd.R_types D7.out E2.out (by decide)) (fun _ hk=>hk.2) (.slice Ao31 J6.length co31)) (fun _ hk=>hk.2) (.slice Ao35 I6.length co35)) (fun _ h_=>h_.1))))) k_ hk_),(Kd.freshB (g:=E5) (o:=.cells #[.int .i64 a0_0,.int .i64 a0_1,.int .i64 a0_2,.slice A0_3 l0_3.length c0_3,.int .i64 a0_4] 69 (0,0)) (by(with_reducible repeat(first|refine G0 ?_ _|refine J0 ?_|refine I0 ?_ _));refine Y0 ?_ aa9.out _;(with_reducible repeat(first|refine G0 ?_ _|refine J0 ?_|refine I0 ?_ _));refine Y0 ?_ aa9.out _;exact(bo_ O1)) k_ hk_),(Kd.freshB (g:=t5) (o:=.cells #[.slice A1_0 l1_0.length c1_0,.slice A1_1 l1_1.length c1_1] 98 (0,0)) (by(with_reducible repeat(first|refine G0 ?_ _|refine J0 ?_|refine I0 ?_ _));refine Y0 ?_ ab1.out _;(with_reducible repeat(first|refine G0 ?_ _|refine J0 ?_|refine I0 ?_ _));refine Y0 ?_ ab1.out _;exact(bo_ z2)) k_ hk_),(Kd.freshB (g:=I4) (o:=.cells #[.slice Ao31 J6.length co31,.slice Ao35 I6.length co35] 98 (0,0)) (by(with_reducible repeat(first|refine G0 ?_ _|refine J0 ?_|refine I0 ?_ _));refine aV8 (cs:=#[.slice none 0 0,.slice none 0 0]) ?_ rfl;exact(bo_ E2)) k_ hk_)⟩)) (L0 bl_)) (F0 (g:=E5) (o:=.cells #[.int .i64 a0_0,.int .i64 a0_1,.int .i64 a0_2,.slice A0_3 l0_3.length c0_3,.int .i64 a0_4] 69 (0,0)) (by(with_reducible repeat(first|refine G0 ?_ _|refine J0 ?_|refine I0 ?_ _));refine Y0 ?_ aa9.out _;(with_reducible repeat(first|refine G0 ?_ _|refine J0 ?_|refine I0 ?_ _));refine Y0 ?_ aa9.out _;exact(bo_ O1)) hb) (F0 (g:=t5) (o:=.cells #[.slice A1_0 l1_0.length c1_0,.slice A1_1 l1_1.length c1_1] 98 (0,0)) (by(with_reducible repeat(first|refine G0 ?_ _|refine J0 ?_|refine I0 ?_ _));refine Y0 ?_ ab1.out _;(with_reducible repeat(first|refine G0 ?_ _|refine J0 ?_|refine I0 ?_ _));refine Y0 ?_ ab1.out _;exact(bo_ z2)) hb) (F0 (g:=I4) (o:=.cells #[.slice Ao31 J6.length co31,.slice Ao35 I6.length co35] 98 (0,0)) (by(with_reducible repeat(first|refine G0 ?_ _|refine J0 ?_|refine I0 ?_ _));refine aV8 (cs:=#[.slice none 0 0,.slice none 0 0]) ?_ rfl;exact(bo_ E2)) hb) (E0 bl_ hb);clear C7 D7 O1 z2 E2 HB;obtain⟨C7,D7,o8,O1,z2,E2,HB⟩:=n_;(try clear hb ho0))|((with_reducible refine X0 (N:=7) rfl ?_);(try(refine O2 (by rfl) ?_;dsimp only));refine L2 7 #[.int .i64 0,.int .i64 0,.int .i64 0,.slice none 0 0,.int .i64 0] 69 ?_;intro j5 hg w38 hbox hb;have n0_:=q5.mk (Kd.R_below (ro_ C7) hb);have n1_:=q5.mk (Kd.R_below (ro_ D7) hb);have n2_:=q5.mk (Kd.V_below (Kd.V_elderB (vo_ o8) j5 (Nat.le_of_eq hg.symm)) hb);have n3_:=q5.mk (F0 (bo_ O1) hb);have n4_:=q5.mk (F0 (bo_ z2) hb);have n5_:=q5.mk (F0 (bo_ E2) hb);have n6_:=q5.mk (E0 bl_ hb);have n7_:=q5.mk (hbox);have n8_:=q5.mk ((ge_ hg bl_:w.heap.size≤j5));have n9_:=q5.mk ((ge_ hg bl_:w.heap.size≤j5));have n10_:=q5.mk ((nb_ hg (bo_ O1):E5≠j5));have n11_:=q5.mk ((nc_ hg (bo_ O1):j5≠E5));have n12_:=q5.mk ((nb_ hg (bo_ z2):t5≠j5));have n13_:=q5.mk ((nc_ hg (bo_ z2):j5≠t5));have n14_:=q5.mk ((nb_ hg (bo_ E2):I4≠j5));have n15_:=q5.mk ((nc_ hg (bo_ E2):j5≠I4));clear C7;clear D7;clear o8;clear O1;clear z2;clear E2;clear HB;have C7:=n0_;have D7:=n1_;have o8:=n2_;have O1:=n3_;have z2:=n4_;have E2:=n5_;have HB:=n6_;have P2:=n7_;have di6:=n8_;have dm8:=n9_;have aa7:=n10_;have ai2:=n11_;have ah4:=n12_;have aA7:=n13_;have aa6:=n14_;have ah7:=n15_;clear n0_ n1_ n2_ n3_ n4_ n5_ n6_ n7_ n8_ n9_ n10_ n11_ n12_ n13_ n14_ n15_;clear hb hbox hg;have hnb39:=ai2.out;have hnc39:=aa7.out;have hnb40:=aA7.out;have hnc40:=ah4.out;have hnb41:=ah7.out;have hnc41:=aa6.out;have hcz42_0:w38.cell? ⟨j5,0,none⟩=some (.int .i64 0):=(m0 P2.out 0).trans rfl;have hcz42_1:w38.cell? ⟨j5,1,none⟩=some (.int .i64 0):=(m0 P2.out 1).trans rfl;have hcz42_2:w38.cell? ⟨j5,2,none⟩=some (.int .i64 0):=(m0 P2.out 2).trans rfl;have hcz42_3:w38.cell? ⟨j5,3,none⟩=some (.slice none 0 0):=(m0 P2.out 3).trans rfl;have hcz42_4:w38.cell? ⟨j5,4,none⟩=some (.int .i64 0):=(m0 P2.out 4).trans rfl;have hfz42_0:=t0 P2.out 0;have hfz42_1:=t0 P2.out 1;have hfz42_2:=t0 P2.out 2;have hfz42_3:=t0 P2.out 3;have hfz42_4:=t0 P2.out 4;obtain⟨Ao43,co43,eo43⟩:=Kd.V_slice o8.out;subst eo43;have hcz44_0:w38.cell? ⟨t5,0,none⟩=some (.slice A1_0 l1_0.length c1_0):=(m0 z2.out 0).trans rfl;have hcz44_1:w38.cell? ⟨t5,1,none⟩=some (.slice A1_1 l1_1.length c1_1):=(m0 z2.out 1).trans rfl;have hfz44_0:=t0 z2.out 0;have hfz44_1:=t0 z2.out 1)|((with_reducible refine C1 (f:=52) rfl ?_);refine goL_ (some 43) Try.func52 #[.agg #[.slice A1_0 l1_0.length c1_0,.slice A1_1 l1_1.length c1_1]] ?_;(with_reducible refine(q13.calls kj2 _ _ l1_0 _ _ l1_1 ad7 ad2 ad1 s9 ae0 bA1 _ ?side1 ?side2 ?side3 ?side4 A25.out).mono ?_);(case side1=>exact Kd.C_below HR1_0.out bl_);(case side2=>exact HC1_0.out);(case side3=>exact Kd.C_below HR1_1.out bl_);(case side4=>exact HC1_1.out);rintro e w45 ⟨dp3,rfl,ho0,hb⟩;refine⟨_,rfl,?_⟩;have n_:=pk9 (Kd.R_below (rt_ ((Kd.R_mono (al9 (g:=j5) (Kd.R_types C7.out P2.out (by decide)) (fun _ hk=>hk.2) (.int .i64 am5) (.int .i64 an4) (.int .i64 an7) (.slice Ao43 ab6.length co43) (.int .i64 an6)) (fun _ h_=>h_.1)))) hb) (Kd.R_below (rt_ ((Kd.R_mono (al9 (g:=j5) (Kd.R_types D7.out P2.out (by decide)) (fun _ hk=>hk.2) (.int .i64 am5) (.int .i64 an4) (.int .i64 an7) (.slice Ao43 ab6.length co43) (.int .i64 an6)) (fun _ h_=>h_.1)))) hb) (Kd.V_below (vt_ ((Kd.V_mono (U9 (g:=j5) (Kd.V_mono o8.out (fun k_ hk=>(⟨hk,hk.2⟩:_∧k_≠j5))) (fun _ hk=>hk.2) (.int .i64 am5) (.int .i64 an4) (.int .i64 an7) (.slice Ao43 ab6.length co43) (.int .i64 an6)) (fun _ h_=>h_.1)))) hb) (Kd.V_lower (Kd.V_mono (ok':=fun k_=>some k_≠(.slice Ao31 J6.length co31:Value).ownBlock∧some k_≠(.slice Ao35 I6.length co35:Value).ownBlock∧k_≠E5∧k_≠t5∧k_≠I4∧k_≠j5) ho0 (fun k_ hk_=>⟨(Kd.fresh' (Kd.R_lt (rt_ ((Kd.R_mono (al9 (g:=j5) (Kd.R_types C7.out P2.out (by decide)) (fun _ hk=>hk.2) (.int .i64 am5) (.int .i64 an4) (.int .i64 an7) (.slice Ao43 ab6.length co43) (.int .i64 an6)) (fun _ h_=>h_.1))))) k_ hk_),(Kd.fresh' (Kd.R_lt (rt_ ((Kd.R_mono (al9 (g:=j5) (Kd.R_types D7.out P2.out (by decide)) (fun _ hk=>hk.2) (.int .i64 am5) (.int .i64 an4) (.int .i64 an7) (.slice Ao43 ab6.length co43) (.int .i64 an6)) (fun _ h_=>h_.1))))) k_ hk_),(Kd.freshB (g:=E5) (o:=.cells #[.int .i64 a0_0,.int .i64 a0_1,.int .i64 a0_2,.slice A0_3 l0_3.length c0_3,.int .i64 a0_4] 69 (0,0)) (by(with_reducible repeat(first|refine G0 ?_ _|refine J0 ?_|refine I0 ?_ _));refine U5 ?_ aa7.out;exact(bo_ O1)) k_ hk_),(Kd.freshB (g:=t5) (o:=.cells #[.slice A1_0 l1_0.length c1_0,.slice A1_1 l1_1.length c1_1] 98 (0,0)) (by(with_reducible repeat(first|refine G0 ?_ _|refine J0 ?_|refine I0 ?_ _));refine U5 ?_ ah4.out;exact(bo_ z2)) k_ hk_),(Kd.freshB (g:=I4) (o:=.cells #[.slice Ao31 J6.length co31,.slice Ao35 I6.length co35] 98 (0,0)) (by(with_reducible repeat(first|refine G0 ?_ _|refine J0 ?_|refine I0 ?_ _));refine U5 ?_ aa6.out;exact(bo_ E2)) k_ hk_),(Kd.freshB (g:=j5) (o:=.cells #[.int .i64 am5,.int .i64 an4,.int .i64 an7,.slice Ao43 ab6.length co43,.int .i64 an6] 69 (0,0)) (by(with_reducible repeat(first|refine G0 ?_ _|refine J0 ?_|refine I0 ?_ _));refine X8 (cs:=#[.int .i64 0,.int .i64 0,.int .i64 0,.slice none 0 0,.int .i64 0]) ?_ rfl;exact(bo_ P2)) k_ hk_)⟩)) (L0 bl_)) (F0 (g:=E5) (o:=.cells #[.int .i64 a0_0,.int .i64 a0_1,.int .i64 a0_2,.slice A0_3 l0_3.length c0_3,.int .i64 a0_4] 69 (0,0)) (by(with_reducible repeat(first|refine G0 ?_ _|refine J0 ?_|refine I0 ?_ _));refine U5 ?_ aa7.out;exact(bo_ O1)) hb) (F0 (g:=t5) (o:=.cells #[.slice A1_0 l1_0.length c1_0,.slice A1_1 l1_1.length c1_1] 98 (0,0)) (by(with_reducible repeat(first|refine G0 ?_ _|refine J0 ?_|refine I0 ?_ _));refine U5 ?_ ah4.out;exact(bo_ z2)) hb) (F0 (g:=I4) (o:=.cells #[.slice Ao31 J6.length co31,.slice Ao35 I6.length co35] 98 (0,0)) (by(with_reducible repeat(first|refine G0 ?_ _|refine J0 ?_|refine I0 ?_ _));refine U5 ?_ aa6.out;exact(bo_ E2)) hb) (F0 (g:=j5) (o:=.cells #[.int .i64 am5,.int .i64 an4,.int .i64 an7,.slice Ao43 ab6.length co43,.int .i64 an6] 69 (0,0)) (by(with_reducible repeat(first|refine G0 ?_ _|refine J0 ?_|refine I0 ?_ _));refine X8 (cs:=#[.int .i64 0,.int .i64 0,.int .i64 0,.slice none 0 0,.int .i64 0]) ?_ rfl;exact(bo_ P2)) hb) (E0 bl_ hb);clear C7 D7 o8 O1 z2 E2 P2 HB;obtain⟨C7,D7,o8,ab3,O1,z2,E2,P2,HB⟩:=n_;(try clear hb ho0))|((with_reducible refine X0 (N:=9) rfl ?_);(try(refine O2 (by rfl) ?_;dsimp only));refine L2 9 #[.int .i64 0,.int .i64 0,.int .i64 0,.slice none 0 0,.int .i64 0] 69 ?_;intro U3 hg w46 hbox hb;have n0_:=q5.mk (Kd.R_below (ro_ C7) hb);have n1_:=q5.mk (Kd.R_below (ro_ D7) hb);have n2_:=q5.mk (Kd.V_below (Kd.V_elderB (vo_ o8) U3 (Nat.le_of_eq hg.symm)) hb);have n3_:=q5.mk (Kd.V_below (Kd.V_elderB (vo_ ab3) U3 (Nat.le_of_eq hg.symm)) hb);have n4_:=q5.mk (F0 (bo_ O1) hb);have n5_:=q5.mk (F0 (bo_ z2) hb);have n6_:=q5.mk (F0 (bo_ E2) hb);have n7_:=q5.mk (F0 (bo_ P2) hb);have n8_:=q5.mk (E0 bl_ hb);have n9_:=q5.mk (hbox);have n10_:=q5.mk ((ge_ hg bl_:w.heap.size≤U3));have n11_:=q5.mk ((ge_ hg bl_:w.heap.size≤U3));have n12_:=q5.mk ((nb_ hg (bo_ O1):E5≠U3));have n13_:=q5.mk ((nc_ hg (bo_ O1):U3≠E5));have n14_:=q5.mk ((nb_ hg (bo_ z2):t5≠U3));have n15_:=q5.mk ((nc_ hg (bo_ z2):U3≠t5));have n16_:=q5.mk ((nb_ hg (bo_ E2):I4≠U3));have n17_:=q5.mk ((nc_ hg (bo_ E2):U3≠I4));have n18_:=q5.mk ((nb_ hg (bo_ P2):j5≠U3));have n19_:=q5.mk ((nc_ hg (bo_ P2):U3≠j5));clear C7;clear D7;clear o8;clear ab3;clear O1;clear z2;clear E2;clear P2;clear HB;have C7:=n0_;have D7:=n1_;have o8:=n2_;have ab3:=n3_;have O1:=n4_;have z2:=n5_;have E2:=n6_;have P2:=n7_;have HB:=n8_;have G3:=n9_;have dj5:=n10_;have dl3:=n11_;have Y9:=n12_;have ah5:=n13_;have ah3:=n14_;have aA3:=n15_;have aa2:=n16_;have ah8:=n17_;have ai0:=n18_;have az9:=n19_;clear n0_ n1_ n2_ n3_ n4_ n5_ n6_ n7_ n8_ n9_ n10_ n11_ n12_ n13_ n14_ n15_ n16_ n17_ n18_ n19_;clear hb hbox hg;have hnb47:=ah5.out;have hnc47:=Y9.out;have hnb48:=aA3.out;have hnc48:=ah3.out;have hnb49:=ah8.out;have hnc49:=aa2.out;have hnb50:=az9.out;have hnc50:=ai0.out;have hcz51_0:w46.cell? ⟨U3,0,none⟩=some (.int .i64 0):=(m0 G3.out 0).trans rfl;have hcz51_1:w46.cell? ⟨U3,1,none⟩=some (.int .i64 0):=(m0 G3.out 1).trans rfl;have hcz51_2:w46.cell? ⟨U3,2,none⟩=some (.int .i64 0):=(m0 G3.out 2).trans rfl;have hcz51_3:w46.cell? ⟨U3,3,none⟩=some (.slice none 0 0):=(m0 G3.out 3).trans rfl;have hcz51_4:w46.cell? ⟨U3,4,none⟩=some (.int .i64 0):=(m0 G3.out 4).trans rfl;have hfz51_0:=t0 G3.out 0;have hfz51_1:=t0 G3.out 1;have hfz51_2:=t0 G3.out 2;have hfz51_3:=t0 G3.out 3;have hfz51_4:=t0 G3.out 4;obtain⟨Ao52,co52,eo52⟩:=Kd.V_slice ab3.out;subst eo52))
    (try simp only [ap_,sb_,s0_,s1_])
    go_cut [63] (fun v63 wc=>∃ (kq:Nat) (x63_25:Bool),v63=.bool x63_25∧q5 (q11.j1 kq bU6 x63_25 a0_0 a0_1 a0_2 l0_3 a0_4 J6 I6=some r)∧q5 (kq≤kj2)∧q5 (Kd.R (Kd.int .i64) 3 wc w.heap.size (fun _=>True) (.slice Ao31 J6.length co31) J6)∧q5 (Kd.R Kd.string 9 wc w.heap.size (fun _=>True) (.slice Ao35 I6.length co35) I6)∧q5 (Kd.V (Kd.int .u8) 5 wc w.heap.size (fun k_=>some k_≠((.slice Ao31 J6.length co31):Value).ownBlock∧some k_≠((.slice Ao35 I6.length co35):Value).ownBlock∧k_≠E5∧k_≠t5∧k_≠I4∧k_≠j5∧k_≠U3) (.slice Ao43 ab6.length co43) ab6)∧q5 (Kd.V (Kd.int .u8) 5 wc w.heap.size (fun k_=>some k_≠((.slice Ao31 J6.length co31):Value).ownBlock∧some k_≠((.slice Ao35 I6.length co35):Value).ownBlock∧k_≠E5∧k_≠t5∧k_≠I4∧k_≠j5∧k_≠U3) (.slice Ao52 s9.length co52) s9)∧q5 (wc.heap[E5]?=some (.cells #[.int .i64 a0_0,.int .i64 a0_1,.int .i64 a0_2,(.slice A0_3 l0_3.length c0_3),.int .i64 a0_4] 69 (0,0)))∧q5 (wc.heap[t5]?=some (.cells #[(.slice A1_0 l1_0.length c1_0),(.slice A1_1 l1_1.length c1_1)] 98 (0,0)))∧q5 (wc.heap[I4]?=some (.cells #[(.slice Ao31 J6.length co31),(.slice Ao35 I6.length co35)] 98 (0,0)))∧q5 (wc.heap[j5]?=some (.cells #[.int .i64 am5,.int .i64 an4,.int .i64 an7,(.slice Ao43 ab6.length co43),.int .i64 an6] 69 (0,0)))∧q5 (wc.heap[U3]?=some (.cells #[.int .i64 ad7,.int .i64 ad2,.int .i64 ad1,(.slice Ao52 s9.length co52),.int .i64 ae0] 69 (0,0)))∧q5 (Below w.heap.size w wc))
    case first =>
     have H:=HC26.out
     clear HC26
     by_cases c53:(bA1 != (bF7 == 0))=true
     ·rw [if_pos c53] at H
      exact absurd H (by simp)
     rw [if_neg c53] at H
     have c53b0:(bA1 != (bF7 == 0))=false:=by simpa using c53
     (try(have c53b1:decide (bA1=(bF7 == 0))=true:=by simpa using c53))
     (try(have c53b2:(bA1 == (bF7 == 0))=true:=by simpa using c53))
     clear c53
     (first|rw [c53b0]|(simp only [N0,P0];rw [c53b0])|skip)
     replace H:=Q7 H
     rcases H with⟨rfl,H⟩|⟨rfl,H⟩
     focus
      replace H:=N2 H
      obtain⟨bS5,A55,H⟩:=H
      try dsimp only at H
      have H':=q5.mk H
      clear H
      have hnb56:=ai2.out
      have hnc56:=aa7.out
      have hnb57:=aA7.out
      have hnc57:=ah4.out
      have hnb58:=ah7.out
      have hnc58:=aa6.out
      have hnb59:=ai0.out
      have hnc59:=az9.out
      obtain⟨hcz60_0,hcz60_1,hcz60_2,hcz60_3,hcz60_4,hfz60_0,hfz60_1,hfz60_2,hfz60_3,hfz60_4⟩:=X4 P2.out
      have hnb61:=ah5.out
      have hnc61:=Y9.out
      have hnb62:=aA3.out
      have hnc62:=ah3.out
      have hnb63:=ah8.out
      have hnc63:=aa2.out
      obtain⟨hcz64_0,hcz64_1,hcz64_2,hcz64_3,hcz64_4,hfz64_0,hfz64_1,hfz64_2,hfz64_3,hfz64_4⟩:=X4 G3.out
     rotate_left
     focus
      replace H:=deq H
      rcases H with⟨c66b0,c66b1,H⟩|⟨c66b0,c66b1,H⟩
      rotate_left
      ·exact absurd H (by simp)
      replace H:=N2 H
      obtain⟨bU1,A67,H⟩:=H
      try dsimp only at H
      have H':=q5.mk H
      clear H
      have hnb68:=ai2.out
      have hnc68:=aa7.out
      have hnb69:=aA7.out
      have hnc69:=ah4.out
      have hnb70:=ah7.out
      have hnc70:=aa6.out
      have hnb71:=ai0.out
      have hnc71:=az9.out
      obtain⟨hcz72_0,hcz72_1,hcz72_2,hcz72_3,hcz72_4,hfz72_0,hfz72_1,hfz72_2,hfz72_3,hfz72_4⟩:=X4 P2.out
      have hnb73:=ah5.out
      have hnc73:=Y9.out
      have hnb74:=aA3.out
      have hnc74:=ah3.out
      have hnb75:=ah8.out
      have hnc75:=aa2.out
      obtain⟨hcz76_0,hcz76_1,hcz76_2,hcz76_3,hcz76_4,hfz76_0,hfz76_1,hfz76_2,hfz76_3,hfz76_4⟩:=X4 G3.out
     all_goals
      go_wp2_with (first|(go_at_call 39;(with_reducible refine(q49.calls am5 an4 an7 _ _ ab6 an6 ad7 ad2 ad1 _ _ s9 ae0 bS5 _ ?side1 ?side2 ?side3 ?side4 A55.out).mono ?_);(case side1=>refine(Kd.V_reads' (e:=5) (base:=w.heap.size) (ok:=fun k_=>(((some k_≠(.slice Ao31 J6.length co31:Value).ownBlock∧(some k_≠(.slice Ao35 I6.length co35:Value).ownBlock∧(k_≠E5∧(k_≠t5∧k_≠I4))))∧k_≠j5)∧k_≠U3)) (n:=ab6.length) (c:=co43) ?_).2.2;exact(vt_ ((Kd.V_mono (U9 (g:=U3) (Kd.V_mono o8.out (fun k_ hk=>(⟨hk,hk.2⟩:_∧k_≠U3))) (fun _ hk=>hk.2) (.int .i64 ad7) (.int .i64 ad2) (.int .i64 ad1) (.slice Ao52 s9.length co52) (.int .i64 ae0)) (fun _ h_=>h_.1)))));(case side2=>exact(Kd.V_reads' o8.out).2.1);(case side3=>refine(Kd.V_reads' (e:=5) (base:=w.heap.size) (ok:=fun k_=>((some k_≠(.slice Ao31 J6.length co31:Value).ownBlock∧(some k_≠(.slice Ao35 I6.length co35:Value).ownBlock∧(k_≠E5∧(k_≠t5∧(k_≠I4∧k_≠j5)))))∧k_≠U3)) (n:=s9.length) (c:=co52) ?_).2.2;exact(vt_ ((Kd.V_mono (U9 (g:=U3) (Kd.V_mono ab3.out (fun k_ hk=>(⟨hk,hk.2⟩:_∧k_≠U3))) (fun _ hk=>hk.2) (.int .i64 ad7) (.int .i64 ad2) (.int .i64 ad1) (.slice Ao52 s9.length co52) (.int .i64 ae0)) (fun _ h_=>h_.1)))));(case side4=>exact(Kd.V_reads' ab3.out).2.1);rintro e U1 ⟨rfl,hb⟩;have n_:=pk10 (Kd.R_below (rt_ ((Kd.R_mono (al9 (g:=U3) (Kd.R_types C7.out G3.out (by decide)) (fun _ hk=>hk.2) (.int .i64 ad7) (.int .i64 ad2) (.int .i64 ad1) (.slice Ao52 s9.length co52) (.int .i64 ae0)) (fun _ h_=>h_.1)))) hb) (Kd.R_below (rt_ ((Kd.R_mono (al9 (g:=U3) (Kd.R_types D7.out G3.out (by decide)) (fun _ hk=>hk.2) (.int .i64 ad7) (.int .i64 ad2) (.int .i64 ad1) (.slice Ao52 s9.length co52) (.int .i64 ae0)) (fun _ h_=>h_.1)))) hb) (Kd.V_below (vt_ ((Kd.V_mono (U9 (g:=U3) (Kd.V_mono o8.out (fun k_ hk=>(⟨hk,hk.2⟩:_∧k_≠U3))) (fun _ hk=>hk.2) (.int .i64 ad7) (.int .i64 ad2) (.int .i64 ad1) (.slice Ao52 s9.length co52) (.int .i64 ae0)) (fun _ h_=>h_.1)))) hb) (Kd.V_below (vt_ ((Kd.V_mono (U9 (g:=U3) (Kd.V_mono ab3.out (fun k_ hk=>(⟨hk,hk.2⟩:_∧k_≠U3))) (fun _ hk=>hk.2) (.int .i64 ad7) (.int .i64 ad2) (.int .i64 ad1) (.slice Ao52 s9.length co52) (.int .i64 ae0)) (fun _ h_=>h_.1)))) hb) (F0 (g:=E5) (o:=.cells #[.int .i64 a0_0,.int .i64 a0_1,.int .i64 a0_2,.slice A0_3 l0_3.length c0_3,.int .i64 a0_4] 69 (0,0)) (by(with_reducible repeat(first|refine G0 ?_ _|refine J0 ?_|refine I0 ?_ _));refine U5 ?_ Y9.out;exact(bo_ O1)) hb) (F0 (g:=t5) (o:=.cells #[.slice A1_0 l1_0.length c1_0,.slice A1_1 l1_1.length c1_1] 98 (0,0)) (by(with_reducible repeat(first|refine G0 ?_ _|refine J0 ?_|refine I0 ?_ _));refine U5 ?_ ah3.out;exact(bo_ z2)) hb) (F0 (g:=I4) (o:=.cells #[.slice Ao31 J6.length co31,.slice Ao35 I6.length co35] 98 (0,0)) (by(with_reducible repeat(first|refine G0 ?_ _|refine J0 ?_|refine I0 ?_ _));refine U5 ?_ aa2.out;exact(bo_ E2)) hb) (F0 (g:=j5) (o:=.cells #[.int .i64 am5,.int .i64 an4,.int .i64 an7,.slice Ao43 ab6.length co43,.int .i64 an6] 69 (0,0)) (by(with_reducible repeat(first|refine G0 ?_ _|refine J0 ?_|refine I0 ?_ _));refine U5 ?_ ai0.out;exact(bo_ P2)) hb) (F0 (g:=U3) (o:=.cells #[.int .i64 ad7,.int .i64 ad2,.int .i64 ad1,.slice Ao52 s9.length co52,.int .i64 ae0] 69 (0,0)) (by(with_reducible repeat(first|refine G0 ?_ _|refine J0 ?_|refine I0 ?_ _));refine X8 (cs:=#[.int .i64 0,.int .i64 0,.int .i64 0,.slice none 0 0,.int .i64 0]) ?_ rfl;exact(bo_ G3)) hb) (E0 bl_ hb);clear C7 D7 o8 ab3 O1 z2 E2 P2 G3 HB;obtain⟨C7,D7,o8,ab3,O1,z2,E2,P2,G3,HB⟩:=n_;(try clear hb))|(go_at_call 39;(with_reducible refine(q49.calls am5 an4 an7 _ _ ab6 an6 ad7 ad2 ad1 _ _ s9 ae0 bU1 _ ?side1 ?side2 ?side3 ?side4 A67.out).mono ?_);(case side1=>refine(Kd.V_reads' (e:=5) (base:=w.heap.size) (ok:=fun k_=>(((some k_≠(.slice Ao31 J6.length co31:Value).ownBlock∧(some k_≠(.slice Ao35 I6.length co35:Value).ownBlock∧(k_≠E5∧(k_≠t5∧k_≠I4))))∧k_≠j5)∧k_≠U3)) (n:=ab6.length) (c:=co43) ?_).2.2;exact(vt_ ((Kd.V_mono (U9 (g:=U3) (Kd.V_mono o8.out (fun k_ hk=>(⟨hk,hk.2⟩:_∧k_≠U3))) (fun _ hk=>hk.2) (.int .i64 ad7) (.int .i64 ad2) (.int .i64 ad1) (.slice Ao52 s9.length co52) (.int .i64 ae0)) (fun _ h_=>h_.1)))));(case side2=>exact(Kd.V_reads' o8.out).2.1);(case side3=>refine(Kd.V_reads' (e:=5) (base:=w.heap.size) (ok:=fun k_=>((some k_≠(.slice Ao31 J6.length co31:Value).ownBlock∧(some k_≠(.slice Ao35 I6.length co35:Value).ownBlock∧(k_≠E5∧(k_≠t5∧(k_≠I4∧k_≠j5)))))∧k_≠U3)) (n:=s9.length) (c:=co52) ?_).2.2;exact(vt_ ((Kd.V_mono (U9 (g:=U3) (Kd.V_mono ab3.out (fun k_ hk=>(⟨hk,hk.2⟩:_∧k_≠U3))) (fun _ hk=>hk.2) (.int .i64 ad7) (.int .i64 ad2) (.int .i64 ad1) (.slice Ao52 s9.length co52) (.int .i64 ae0)) (fun _ h_=>h_.1)))));(case side4=>exact(Kd.V_reads' ab3.out).2.1);rintro e U1 ⟨rfl,hb⟩;have n_:=pk10 (Kd.R_below (rt_ ((Kd.R_mono (al9 (g:=U3) (Kd.R_types C7.out G3.out (by decide)) (fun _ hk=>hk.2) (.int .i64 ad7) (.int .i64 ad2) (.int .i64 ad1) (.slice Ao52 s9.length co52) (.int .i64 ae0)) (fun _ h_=>h_.1)))) hb) (Kd.R_below (rt_ ((Kd.R_mono (al9 (g:=U3) (Kd.R_types D7.out G3.out (by decide)) (fun _ hk=>hk.2) (.int .i64 ad7) (.int .i64 ad2) (.int .i64 ad1) (.slice Ao52 s9.length co52) (.int .i64 ae0)) (fun _ h_=>h_.1)))) hb) (Kd.V_below (vt_ ((Kd.V_mono (U9 (g:=U3) (Kd.V_mono o8.out (fun k_ hk=>(⟨hk,hk.2⟩:_∧k_≠U3))) (fun _ hk=>hk.2) (.int .i64 ad7) (.int .i64 ad2) (.int .i64 ad1) (.slice Ao52 s9.length co52) (.int .i64 ae0)) (fun _ h_=>h_.1)))) hb) (Kd.V_below (vt_ ((Kd.V_mono (U9 (g:=U3) (Kd.V_mono ab3.out (fun k_ hk=>(⟨hk,hk.2⟩:_∧k_≠U3))) (fun _ hk=>hk.2) (.int .i64 ad7) (.int .i64 ad2) (.int .i64 ad1) (.slice Ao52 s9.length co52) (.int .i64 ae0)) (fun _ h_=>h_.1)))) hb) (F0 (g:=E5) (o:=.cells #[.int .i64 a0_0,.int .i64 a0_1,.int .i64 a0_2,.slice A0_3 l0_3.length c0_3,.int .i64 a0_4] 69 (0,0)) (by(with_reducible repeat(first|refine G0 ?_ _|refine J0 ?_|refine I0 ?_ _));refine U5 ?_ Y9.out;exact(bo_ O1)) hb) (F0 (g:=t5) (o:=.cells #[.slice A1_0 l1_0.length c1_0,.slice A1_1 l1_1.length c1_1] 98 (0,0)) (by(with_reducible repeat(first|refine G0 ?_ _|refine J0 ?_|refine I0 ?_ _));refine U5 ?_ ah3.out;exact(bo_ z2)) hb) (F0 (g:=I4) (o:=.cells #[.slice Ao31 J6.length co31,.slice Ao35 I6.length co35] 98 (0,0)) (by(with_reducible repeat(first|refine G0 ?_ _|refine J0 ?_|refine I0 ?_ _));refine U5 ?_ aa2.out;exact(bo_ E2)) hb) (F0 (g:=j5) (o:=.cells #[.int .i64 am5,.int .i64 an4,.int .i64 an7,.slice Ao43 ab6.length co43,.int .i64 an6] 69 (0,0)) (by(with_reducible repeat(first|refine G0 ?_ _|refine J0 ?_|refine I0 ?_ _));refine U5 ?_ ai0.out;exact(bo_ P2)) hb) (F0 (g:=U3) (o:=.cells #[.int .i64 ad7,.int .i64 ad2,.int .i64 ad1,.slice Ao52 s9.length co52,.int .i64 ae0] 69 (0,0)) (by(with_reducible repeat(first|refine G0 ?_ _|refine J0 ?_|refine I0 ?_ _));refine X8 (cs:=#[.int .i64 0,.int .i64 0,.int .i64 0,.slice none 0 0,.int .i64 0]) ?_ rfl;exact(bo_ G3)) hb) (E0 bl_ hb);clear C7 D7 o8 ab3 O1 z2 E2 P2 G3 HB;obtain⟨C7,D7,o8,ab3,O1,z2,E2,P2,G3,HB⟩:=n_;(try clear hb)))
      go_meet
      first
       |case rel=>exact⟨_,(!bS5),sm_,H',⟨by have:=HJ2.out;first|omega|exact Nat.le_refl _⟩,⟨(ro_ C7)⟩,⟨(ro_ D7)⟩,⟨(vt_ (Kd.V_mono o8.out (fun _ hk=>⟨hk.1.1.1,⟨hk.1.1.2.1,⟨hk.1.1.2.2.1,⟨hk.1.1.2.2.2.1,⟨hk.1.1.2.2.2.2,⟨hk.1.2,hk.2⟩⟩⟩⟩⟩⟩)))⟩,⟨(vt_ (Kd.V_mono ab3.out (fun _ hk=>⟨hk.1.1,⟨hk.1.2.1,⟨hk.1.2.2.1,⟨hk.1.2.2.2.1,⟨hk.1.2.2.2.2.1,⟨hk.1.2.2.2.2.2,hk.2⟩⟩⟩⟩⟩⟩)))⟩,⟨(bo_ O1)⟩,⟨(bo_ z2)⟩,⟨(bo_ E2)⟩,⟨(bo_ P2)⟩,⟨(bo_ G3)⟩,⟨bl_⟩⟩
       |case rel=>exact⟨_,(!bU1),sm_,H',⟨by have:=HJ2.out;first|omega|exact Nat.le_refl _⟩,⟨(ro_ C7)⟩,⟨(ro_ D7)⟩,⟨(vt_ (Kd.V_mono o8.out (fun _ hk=>⟨hk.1.1.1,⟨hk.1.1.2.1,⟨hk.1.1.2.2.1,⟨hk.1.1.2.2.2.1,⟨hk.1.1.2.2.2.2,⟨hk.1.2,hk.2⟩⟩⟩⟩⟩⟩)))⟩,⟨(vt_ (Kd.V_mono ab3.out (fun _ hk=>⟨hk.1.1,⟨hk.1.2.1,⟨hk.1.2.2.1,⟨hk.1.2.2.2.1,⟨hk.1.2.2.2.2.1,⟨hk.1.2.2.2.2.2,hk.2⟩⟩⟩⟩⟩⟩)))⟩,⟨(bo_ O1)⟩,⟨(bo_ z2)⟩,⟨(bo_ E2)⟩,⟨(bo_ P2)⟩,⟨(bo_ G3)⟩,⟨bl_⟩⟩
    case rest =>
     clear HC26
     try clear c20
     try clear hcz28_0
     try clear hcz28_1
     try clear hcz28_2
     try clear hcz28_3
     try clear hcz28_4
     try clear hfz28_0
     try clear hfz28_1
     try clear hfz28_2
     try clear hfz28_3
     try clear hfz28_4
     obtain⟨kq,x63_25,rfl,HA,HJ25,HO_1052000,HO_1052001,HO_1061003,HO_1070003,O1,z2,E2,P2,G3,HB⟩:=hcut
     cases kq with
     |zero=>exact absurd HA.out (by simp [q11.j1])
     |succ kj25 =>
      have H:=HA.out
      clear HA
      simp only [q11.j1] at H
      by_cases c78:x63_25=true
      ·subst c78
       have H1:(none)=some r:=by rw [if_pos rfl] at H;exact H
       exact absurd H1 (by simp)
      replace c78:=Bool.eq_false_iff.mpr c78
      subst c78
      have H1:((q6.f kj25 a0_0 a0_1 a0_2 l0_3 a0_4).bind fun bQ3=>(if bQ3.2=true then((q28.f kj25 J6 I6).bind fun ag3=>(if bU6=0 then((q55.f a0_0 a0_1 a0_2 l0_3 a0_4).bind fun ba1=>((q50.f kj25 J6 I6 ba1.1 ba1.2).bind fun bB7=>(if bB7=true then(if ag3.2.2.2.2.2=0 then((q49.f ag3.1 ag3.2.1 ag3.2.2.1 ag3.2.2.2.1 ag3.2.2.2.2.1 a0_0 a0_1 a0_2 l0_3 a0_4).bind fun aV4=>(if aV4=true then((q21.f kj25).bind fun aM3=>(some aM3))else(none)))else(none))else(none))))else(none)))else(if bU6=2 then((q50.f kj25 J6 I6 ([]:List Int) ([]:List ByteArray)).bind fun bC3=>(if bC3=true then((q21.f kj25).bind fun aX5=>(some aX5))else(none)))else(none))))=some r:=by rw [if_neg (show ¬(false=true)by decide)] at H;exact H
      clear H
      have H:=H1
      clear H1
      replace H:=N2 H
      obtain⟨⟨cg2,ds8⟩,A79,H⟩:=H
      try dsimp only at H
      replace H:=Q7 H
      rcases H with⟨rfl,H⟩|⟨rfl,H⟩
      focus
       replace H:=N2 H
       obtain⟨⟨r9,C9,t9,P8,z9,cB5⟩,A81,H⟩:=H
       try dsimp only at H
       replace H:=deq H
       rcases H with⟨c82b0,c82b1,H⟩|⟨c82b0,c82b1,H⟩
       rotate_left
       ·exact absurd H (by simp)
       replace H:=N2 H
       obtain⟨⟨ch0,cp0⟩,A83,H⟩:=H
       try dsimp only at H
       replace H:=N2 H
       obtain⟨bB7,A84,H⟩:=H
       try dsimp only at H
       by_cases c85:bB7=true
       rotate_left
       ·replace c85:=Bool.eq_false_iff.mpr c85
        subst c85
        have H1:(none)=some r:=by rw [if_neg (show ¬(false=true)by decide)] at H;exact H
        exact absurd H1 (by simp)
       subst c85
       have H1:(if cB5=0 then((q49.f r9 C9 t9 P8 z9 a0_0 a0_1 a0_2 l0_3 a0_4).bind fun aV4=>(if aV4=true then((q21.f kj25).bind fun aM3=>(some aM3))else(none)))else(none))=some r:=by rw [if_pos rfl] at H;exact H
       clear H
       have H:=H1
       clear H1
       replace H:=deq H
       rcases H with⟨c86b0,c86b1,H⟩|⟨c86b0,c86b1,H⟩
       rotate_left
       ·exact absurd H (by simp)
       replace H:=N2 H
       obtain⟨aV4,A87,H⟩:=H
       try dsimp only at H
       by_cases c88:aV4=true
       rotate_left
       ·replace c88:=Bool.eq_false_iff.mpr c88
        subst c88
        have H1:(none)=some r:=by rw [if_neg (show ¬(false=true)by decide)] at H;exact H
        exact absurd H1 (by simp)
       subst c88
       have H1:((q21.f kj25).bind fun aM3=>(some aM3))=some r:=by rw [if_pos rfl] at H;exact H
       clear H
       have H:=H1
       clear H1
       replace H:=N2 H
       obtain⟨aM3,A89,H⟩:=H
       try dsimp only at H
       obtain rfl:=Option.some.inj H
       have hnb90:=ad6.out
       have hnc90:=ad8.out
       have hnb91:=aa9.out
       have hnc91:=av9.out
       have hnb92:=aa7.out
       have hnc92:=ai2.out
       have hnb93:=Y9.out
       have hnc93:=ah5.out
       obtain⟨hcz94_0,hcz94_1,hcz94_2,hcz94_3,hcz94_4,hfz94_0,hfz94_1,hfz94_2,hfz94_3,hfz94_4⟩:=X4 O1.out
      rotate_left
      focus
       replace H:=deq H
       rcases H with⟨c214b0,c214b1,H⟩|⟨c214b0,c214b1,H⟩
       rotate_left
       ·exact absurd H (by simp)
       replace H:=N2 H
       obtain⟨bC3,di1,H⟩:=H
       try dsimp only at H
       by_cases cu3:bC3=true
       rotate_left
       ·replace cu3:=Bool.eq_false_iff.mpr cu3
        subst cu3
        have H1:(none)=some r:=by rw [if_neg (show ¬(false=true)by decide)] at H;exact H
        exact absurd H1 (by simp)
       subst cu3
       have H1:((q21.f kj25).bind fun aX5=>(some aX5))=some r:=by rw [if_pos rfl] at H;exact H
       clear H
       have H:=H1
       clear H1
       replace H:=N2 H
       obtain⟨aX5,dk5,H⟩:=H
       try dsimp only at H
       obtain rfl:=Option.some.inj H
       have dj8:=ad6.out
       have dk6:=ad8.out
       have dj2:=aa9.out
       have do7:=av9.out
       have dl5:=aa7.out
       have dk3:=ai2.out
       have do6:=Y9.out
       have dn7:=ah5.out
       obtain⟨dc6,cZ2,cT5,dd5,cU5,dd1,cZ5,de0,de9,db3⟩:=X4 O1.out
      all_goals
       first
        |try go_wp2_with (first|((with_reducible refine C1 (f:=48) rfl ?_);refine goL_ (some 66) Try.func48 #[.agg #[.int .i64 a0_0,.int .i64 a0_1,.int .i64 a0_2,.slice A0_3 l0_3.length c0_3,.int .i64 a0_4]] ?_;(with_reducible refine(q6.calls kj25 a0_0 a0_1 a0_2 _ _ l0_3 a0_4 cg2 true _ ?side1 ?side2 A79.out).mono ?_);(case side1=>exact cb_ HR0_3);(case side2=>exact HC0_3.out);rintro e U1 ⟨M4,rfl,ho0,hb⟩;refine⟨_,rfl,?_⟩;have n_:=pk11 (Kd.R_below (ro_ HO_1052000) hb) (Kd.R_below (ro_ HO_1052001) hb) (Kd.V_elder' (vo_ HO_1061003) (Kd.R_base ho0) hb) (Kd.V_elder' (vo_ HO_1070003) (Kd.R_base ho0) hb) (Kd.R_lower ho0 (L0 bl_)) (F0 (bo_ O1) hb) (F0 (bo_ z2) hb) (F0 (bo_ E2) hb) (F0 (bo_ P2) hb) (F0 (bo_ G3) hb) (E0 bl_ hb);clear HO_1052000 HO_1052001 HO_1061003 HO_1070003 O1 z2 E2 P2 G3 HB;obtain⟨HO_1052000,HO_1052001,HO_1061003,HO_1070003,C0,O1,z2,E2,P2,G3,HB⟩:=n_;(try clear hb ho0);have V6:=ax6.out;have Z6:=ab1.out;have aT0:=aa6.out;have aU7:=ah7.out;have aC4:=aa2.out;have aB3:=ah8.out;have Y2:U1.cell? ⟨I4,0,none⟩=some (.slice Ao31 J6.length co31):=(m0 E2.out 0).trans rfl;have z3:U1.cell? ⟨I4,1,none⟩=some (.slice Ao35 I6.length co35):=(m0 E2.out 1).trans rfl;have D3:=t0 E2.out 0;have Z2:=t0 E2.out 1)|((with_reducible refine C1 (f:=51) rfl ?_);refine goL_ (some 83) Try.func51 #[.agg #[.slice Ao31 J6.length co31,.slice Ao35 I6.length co35]] ?_;(with_reducible refine(q28.calls kj25 _ _ J6 _ _ I6 r9 C9 t9 P8 z9 cB5 _ ?side1 ?side2 ?side3 ?side4 A81.out).mono ?_);(case side1=>exact cr_ HO_1052000);(case side2=>exact(Kd.R_reads' HO_1052000.out).2.1);(case side3=>exact cr_ HO_1052001);(case side4=>exact(Kd.R_reads' HO_1052001.out).2.1);rintro e Z1 ⟨z5,rfl,ho0,hb⟩;refine⟨_,rfl,?_⟩;have n_:=pk12 (Kd.R_below (ro_ HO_1052000) hb) (Kd.R_below (ro_ HO_1052001) hb) (Kd.V_below (vo_ HO_1061003) hb) (Kd.V_below (vo_ HO_1070003) hb) (Kd.R_below (ro_ C0) hb) (Kd.V_lower (Kd.V_mono (ok':=fun k_=>some k_≠(.slice Ao31 J6.length co31:Value).ownBlock∧some k_≠(.slice Ao35 I6.length co35:Value).ownBlock∧some k_≠(M4:Value).ownBlock∧k_≠E5∧k_≠t5∧k_≠I4∧k_≠j5∧k_≠U3) ho0 (fun k_ hk_=>⟨(Kd.fresh' (Kd.R_lt (ro_ HO_1052000)) k_ hk_),(Kd.fresh' (Kd.R_lt (ro_ HO_1052001)) k_ hk_),(Kd.fresh' (Kd.R_lt (ro_ C0)) k_ hk_),(Kd.freshB (g:=E5) (o:=.cells #[.int .i64 a0_0,.int .i64 a0_1,.int .i64 a0_2,.slice A0_3 l0_3.length c0_3,.int .i64 a0_4] 69 (0,0)) (bo_ O1) k_ hk_),(Kd.freshB (g:=t5) (o:=.cells #[.slice A1_0 l1_0.length c1_0,.slice A1_1 l1_1.length c1_1] 98 (0,0)) (bo_ z2) k_ hk_),(Kd.freshB (g:=I4) (o:=.cells #[.slice Ao31 J6.length co31,.slice Ao35 I6.length co35] 98 (0,0)) (bo_ E2) k_ hk_),(Kd.freshB (g:=j5) (o:=.cells #[.int .i64 am5,.int .i64 an4,.int .i64 an7,.slice Ao43 ab6.length co43,.int .i64 an6] 69 (0,0)) (bo_ P2) k_ hk_),(Kd.freshB (g:=U3) (o:=.cells #[.int .i64 ad7,.int .i64 ad2,.int .i64 ad1,.slice Ao52 s9.length co52,.int .i64 ae0] 69 (0,0)) (bo_ G3) k_ hk_)⟩)) (L0 bl_)) (F0 (bo_ O1) hb) (F0 (bo_ z2) hb) (F0 (bo_ E2) hb) (F0 (bo_ P2) hb) (F0 (bo_ G3) hb) (E0 bl_ hb);clear HO_1052000 HO_1052001 HO_1061003 HO_1070003 C0 O1 z2 E2 P2 G3 HB;obtain⟨HO_1052000,HO_1052001,HO_1061003,HO_1070003,C0,Q0,O1,z2,E2,P2,G3,HB⟩:=n_;(try clear hb ho0))|((with_reducible refine X0 (N:=13) rfl ?_);(try(refine O2 (by rfl) ?_;dsimp only));refine L2 13 #[.int .i64 0,.int .i64 0,.int .i64 0,.slice none 0 0,.int .i64 0] 69 ?_;intro B0 hg F2 hbox hb;have n0_:=q5.mk (Kd.R_below (ro_ HO_1052000) hb);have n1_:=q5.mk (Kd.R_below (ro_ HO_1052001) hb);have n2_:=q5.mk (Kd.V_below (Kd.V_elderB (vo_ HO_1061003) B0 (Nat.le_of_eq hg.symm)) hb);have n3_:=q5.mk (Kd.V_below (Kd.V_elderB (vo_ HO_1070003) B0 (Nat.le_of_eq hg.symm)) hb);have n4_:=q5.mk (Kd.R_below (ro_ C0) hb);have n5_:=q5.mk (Kd.V_below (Kd.V_elderB (vo_ Q0) B0 (Nat.le_of_eq hg.symm)) hb);have n6_:=q5.mk (F0 (bo_ O1) hb);have n7_:=q5.mk (F0 (bo_ z2) hb);have n8_:=q5.mk (F0 (bo_ E2) hb);have n9_:=q5.mk (F0 (bo_ P2) hb);have n10_:=q5.mk (F0 (bo_ G3) hb);have n11_:=q5.mk (E0 bl_ hb);have n12_:=q5.mk (hbox);have n13_:=q5.mk ((ge_ hg bl_:w.heap.size≤B0));have n14_:=q5.mk ((ge_ hg bl_:w.heap.size≤B0));have n15_:=q5.mk ((nb_ hg (bo_ O1):E5≠B0));have n16_:=q5.mk ((nc_ hg (bo_ O1):B0≠E5));have n17_:=q5.mk ((nb_ hg (bo_ z2):t5≠B0));have n18_:=q5.mk ((nc_ hg (bo_ z2):B0≠t5));have n19_:=q5.mk ((nb_ hg (bo_ E2):I4≠B0));have n7000_:=q5.mk ((nc_ hg (bo_ E2):B0≠I4));have n7001_:=q5.mk ((nb_ hg (bo_ P2):j5≠B0));have n7002_:=q5.mk ((nc_ hg (bo_ P2):B0≠j5));have n7003_:=q5.mk ((nb_ hg (bo_ G3):U3≠B0));have n7004_:=q5.mk ((nc_ hg (bo_ G3):B0≠U3));clear HO_1052000;clear HO_1052001;clear HO_1061003;clear HO_1070003;clear C0;clear Q0;clear O1;clear z2;clear E2;clear P2;clear G3;clear HB;have HO_1052000:=n0_;have HO_1052001:=n1_;have HO_1061003:=n2_;have HO_1070003:=n3_;have C0:=n4_;have Q0:=n5_;have O1:=n6_;have z2:=n7_;have E2:=n8_;have P2:=n9_;have G3:=n10_;have HB:=n11_;have o0:=n12_;have C2:=n13_;have F5:=n14_;have aQ2:=n15_;have bA3:=n16_;have aR3:=n17_;have bw9:=n18_;have aQ7:=n19_;have bB8:=n7000_;have aR6:=n7001_;have bu8:=n7002_;have aQ1:=n7003_;have bx6:=n7004_;clear n0_ n1_ n2_ n3_ n4_ n5_ n6_ n7_ n8_ n9_ n10_ n11_ n12_ n13_ n14_ n15_ n16_ n17_ n18_ n19_ n7000_ n7001_ n7002_ n7003_ n7004_;clear hb hbox hg;have bU7:=bA3.out;have bU2:=aQ2.out;have bS6:=bw9.out;have bW7:=aR3.out;have bV1:=bB8.out;have bT0:=aQ7.out;have cu6:=bu8.out;have cv8:=aR6.out;have ct2:=bx6.out;have cy8:=aQ1.out;have z4:F2.cell? ⟨B0,0,none⟩=some (.int .i64 0):=(m0 o0.out 0).trans rfl;have C4:F2.cell? ⟨B0,1,none⟩=some (.int .i64 0):=(m0 o0.out 1).trans rfl;have E8:F2.cell? ⟨B0,2,none⟩=some (.int .i64 0):=(m0 o0.out 2).trans rfl;have s8:F2.cell? ⟨B0,3,none⟩=some (.slice none 0 0):=(m0 o0.out 3).trans rfl;have r8:F2.cell? ⟨B0,4,none⟩=some (.int .i64 0):=(m0 o0.out 4).trans rfl;have j4:=t0 o0.out 0;have Z3:=t0 o0.out 1;have v8:=t0 o0.out 2;have z8:=t0 o0.out 3;have t8:=t0 o0.out 4;obtain⟨T0,R0,S1⟩:=Kd.V_slice Q0.out;subst S1))
         have n0_:q5 (Kd.R (Kd.int .i64) 3 (((((F2.setCell ⟨B0,0,none⟩ (.int .i64 r9)).setCell ⟨B0,1,none⟩ (.int .i64 C9)).setCell ⟨B0,2,none⟩ (.int .i64 t9)).setCell ⟨B0,3,none⟩ (.slice T0 P8.length R0)).setCell ⟨B0,4,none⟩ (.int .i64 z9)) w.heap.size (fun _=>True) (.slice Ao31 J6.length co31) J6):=⟨(rt_ (Kd.R_mono (al9 (g:=B0) (Kd.R_types HO_1052000.out o0.out (by decide)) (fun _ hk=>hk.2) (.int .i64 r9) (.int .i64 C9) (.int .i64 t9) (.slice T0 P8.length R0) (.int .i64 z9)) (fun _ hk=>trivial)))⟩
         have n1_:q5 (Kd.R Kd.string 9 (((((F2.setCell ⟨B0,0,none⟩ (.int .i64 r9)).setCell ⟨B0,1,none⟩ (.int .i64 C9)).setCell ⟨B0,2,none⟩ (.int .i64 t9)).setCell ⟨B0,3,none⟩ (.slice T0 P8.length R0)).setCell ⟨B0,4,none⟩ (.int .i64 z9)) w.heap.size (fun _=>True) (.slice Ao35 I6.length co35) I6):=⟨(rt_ (Kd.R_mono (al9 (g:=B0) (Kd.R_types HO_1052001.out o0.out (by decide)) (fun _ hk=>hk.2) (.int .i64 r9) (.int .i64 C9) (.int .i64 t9) (.slice T0 P8.length R0) (.int .i64 z9)) (fun _ hk=>trivial)))⟩
         have n2_:q5 (Kd.V (Kd.int .u8) 5 (((((F2.setCell ⟨B0,0,none⟩ (.int .i64 r9)).setCell ⟨B0,1,none⟩ (.int .i64 C9)).setCell ⟨B0,2,none⟩ (.int .i64 t9)).setCell ⟨B0,3,none⟩ (.slice T0 P8.length R0)).setCell ⟨B0,4,none⟩ (.int .i64 z9)) w.heap.size (fun k_=>some k_≠(.slice Ao31 J6.length co31:Value).ownBlock∧some k_≠(.slice Ao35 I6.length co35:Value).ownBlock∧some k_≠(M4:Value).ownBlock∧k_≠E5∧k_≠t5∧k_≠I4∧k_≠j5∧k_≠U3∧k_≠B0) (.slice Ao43 ab6.length co43) ab6):=⟨(vt_ (Kd.V_mono (U9 (g:=B0) (Kd.V_mono HO_1061003.out (fun k_ hk=>(⟨hk,hk.2⟩:_∧k_≠B0))) (fun _ hk=>hk.2) (.int .i64 r9) (.int .i64 C9) (.int .i64 t9) (.slice T0 P8.length R0) (.int .i64 z9)) (fun _ hk=>⟨hk.1.1.1.1,⟨hk.1.1.1.2.1,⟨hk.1.1.2,⟨hk.1.1.1.2.2.1,⟨hk.1.1.1.2.2.2.1,⟨hk.1.1.1.2.2.2.2.1,⟨hk.1.1.1.2.2.2.2.2.1,⟨hk.1.1.1.2.2.2.2.2.2,hk.1.2⟩⟩⟩⟩⟩⟩⟩⟩)))⟩
         have n3_:q5 (Kd.V (Kd.int .u8) 5 (((((F2.setCell ⟨B0,0,none⟩ (.int .i64 r9)).setCell ⟨B0,1,none⟩ (.int .i64 C9)).setCell ⟨B0,2,none⟩ (.int .i64 t9)).setCell ⟨B0,3,none⟩ (.slice T0 P8.length R0)).setCell ⟨B0,4,none⟩ (.int .i64 z9)) w.heap.size (fun k_=>some k_≠(.slice Ao31 J6.length co31:Value).ownBlock∧some k_≠(.slice Ao35 I6.length co35:Value).ownBlock∧some k_≠(M4:Value).ownBlock∧k_≠E5∧k_≠t5∧k_≠I4∧k_≠j5∧k_≠U3∧k_≠B0) (.slice Ao52 s9.length co52) s9):=⟨(vt_ (Kd.V_mono (U9 (g:=B0) (Kd.V_mono HO_1070003.out (fun k_ hk=>(⟨hk,hk.2⟩:_∧k_≠B0))) (fun _ hk=>hk.2) (.int .i64 r9) (.int .i64 C9) (.int .i64 t9) (.slice T0 P8.length R0) (.int .i64 z9)) (fun _ hk=>⟨hk.1.1.1.1,⟨hk.1.1.1.2.1,⟨hk.1.1.2,⟨hk.1.1.1.2.2.1,⟨hk.1.1.1.2.2.2.1,⟨hk.1.1.1.2.2.2.2.1,⟨hk.1.1.1.2.2.2.2.2.1,⟨hk.1.1.1.2.2.2.2.2.2,hk.1.2⟩⟩⟩⟩⟩⟩⟩⟩)))⟩
         have n4_:q5 (Kd.R k67 67 (((((F2.setCell ⟨B0,0,none⟩ (.int .i64 r9)).setCell ⟨B0,1,none⟩ (.int .i64 C9)).setCell ⟨B0,2,none⟩ (.int .i64 t9)).setCell ⟨B0,3,none⟩ (.slice T0 P8.length R0)).setCell ⟨B0,4,none⟩ (.int .i64 z9)) w.heap.size (fun _=>True) M4 cg2):=⟨(rt_ (Kd.R_mono (al9 (g:=B0) (Kd.R_types C0.out o0.out (by decide)) (fun _ hk=>hk.2) (.int .i64 r9) (.int .i64 C9) (.int .i64 t9) (.slice T0 P8.length R0) (.int .i64 z9)) (fun _ hk=>trivial)))⟩
         have n5_:q5 (Kd.V (Kd.int .u8) 5 (((((F2.setCell ⟨B0,0,none⟩ (.int .i64 r9)).setCell ⟨B0,1,none⟩ (.int .i64 C9)).setCell ⟨B0,2,none⟩ (.int .i64 t9)).setCell ⟨B0,3,none⟩ (.slice T0 P8.length R0)).setCell ⟨B0,4,none⟩ (.int .i64 z9)) w.heap.size (fun k_=>some k_≠(.slice Ao31 J6.length co31:Value).ownBlock∧some k_≠(.slice Ao35 I6.length co35:Value).ownBlock∧some k_≠(M4:Value).ownBlock∧k_≠E5∧k_≠t5∧k_≠I4∧k_≠j5∧k_≠U3∧k_≠B0) (.slice T0 P8.length R0) P8):=⟨(vt_ (Kd.V_mono (U9 (g:=B0) (Kd.V_mono Q0.out (fun k_ hk=>(⟨hk,hk.2⟩:_∧k_≠B0))) (fun _ hk=>hk.2) (.int .i64 r9) (.int .i64 C9) (.int .i64 t9) (.slice T0 P8.length R0) (.int .i64 z9)) (fun _ hk=>⟨hk.1.1.1,⟨hk.1.1.2.1,⟨hk.1.1.2.2.1,⟨hk.1.1.2.2.2.1,⟨hk.1.1.2.2.2.2.1,⟨hk.1.1.2.2.2.2.2.1,⟨hk.1.1.2.2.2.2.2.2.1,⟨hk.1.1.2.2.2.2.2.2.2,hk.1.2⟩⟩⟩⟩⟩⟩⟩⟩)))⟩
         have n6_:q5 ((((((F2.setCell ⟨B0,0,none⟩ (.int .i64 r9)).setCell ⟨B0,1,none⟩ (.int .i64 C9)).setCell ⟨B0,2,none⟩ (.int .i64 t9)).setCell ⟨B0,3,none⟩ (.slice T0 P8.length R0)).setCell ⟨B0,4,none⟩ (.int .i64 z9)).heap[E5]?=some (.cells #[.int .i64 a0_0,.int .i64 a0_1,.int .i64 a0_2,.slice A0_3 l0_3.length c0_3,.int .i64 a0_4] 69 (0,0))):=⟨by(with_reducible repeat(first|refine G0 ?_ _|refine J0 ?_|refine I0 ?_ _));refine U5 ?_ aQ2.out;exact(bo_ O1)⟩
         have n7_:q5 ((((((F2.setCell ⟨B0,0,none⟩ (.int .i64 r9)).setCell ⟨B0,1,none⟩ (.int .i64 C9)).setCell ⟨B0,2,none⟩ (.int .i64 t9)).setCell ⟨B0,3,none⟩ (.slice T0 P8.length R0)).setCell ⟨B0,4,none⟩ (.int .i64 z9)).heap[t5]?=some (.cells #[.slice A1_0 l1_0.length c1_0,.slice A1_1 l1_1.length c1_1] 98 (0,0))):=⟨by(with_reducible repeat(first|refine G0 ?_ _|refine J0 ?_|refine I0 ?_ _));refine U5 ?_ aR3.out;exact(bo_ z2)⟩
         have n8_:q5 ((((((F2.setCell ⟨B0,0,none⟩ (.int .i64 r9)).setCell ⟨B0,1,none⟩ (.int .i64 C9)).setCell ⟨B0,2,none⟩ (.int .i64 t9)).setCell ⟨B0,3,none⟩ (.slice T0 P8.length R0)).setCell ⟨B0,4,none⟩ (.int .i64 z9)).heap[I4]?=some (.cells #[.slice Ao31 J6.length co31,.slice Ao35 I6.length co35] 98 (0,0))):=⟨by(with_reducible repeat(first|refine G0 ?_ _|refine J0 ?_|refine I0 ?_ _));refine U5 ?_ aQ7.out;exact(bo_ E2)⟩
         have n9_:q5 ((((((F2.setCell ⟨B0,0,none⟩ (.int .i64 r9)).setCell ⟨B0,1,none⟩ (.int .i64 C9)).setCell ⟨B0,2,none⟩ (.int .i64 t9)).setCell ⟨B0,3,none⟩ (.slice T0 P8.length R0)).setCell ⟨B0,4,none⟩ (.int .i64 z9)).heap[j5]?=some (.cells #[.int .i64 am5,.int .i64 an4,.int .i64 an7,.slice Ao43 ab6.length co43,.int .i64 an6] 69 (0,0))):=⟨by(with_reducible repeat(first|refine G0 ?_ _|refine J0 ?_|refine I0 ?_ _));refine U5 ?_ aR6.out;exact(bo_ P2)⟩
         have n10_:q5 ((((((F2.setCell ⟨B0,0,none⟩ (.int .i64 r9)).setCell ⟨B0,1,none⟩ (.int .i64 C9)).setCell ⟨B0,2,none⟩ (.int .i64 t9)).setCell ⟨B0,3,none⟩ (.slice T0 P8.length R0)).setCell ⟨B0,4,none⟩ (.int .i64 z9)).heap[U3]?=some (.cells #[.int .i64 ad7,.int .i64 ad2,.int .i64 ad1,.slice Ao52 s9.length co52,.int .i64 ae0] 69 (0,0))):=⟨by(with_reducible repeat(first|refine G0 ?_ _|refine J0 ?_|refine I0 ?_ _));refine U5 ?_ aQ1.out;exact(bo_ G3)⟩
         have n11_:q5 ((((((F2.setCell ⟨B0,0,none⟩ (.int .i64 r9)).setCell ⟨B0,1,none⟩ (.int .i64 C9)).setCell ⟨B0,2,none⟩ (.int .i64 t9)).setCell ⟨B0,3,none⟩ (.slice T0 P8.length R0)).setCell ⟨B0,4,none⟩ (.int .i64 z9)).heap[B0]?=some (.cells #[.int .i64 r9,.int .i64 C9,.int .i64 t9,.slice T0 P8.length R0,.int .i64 z9] 69 (0,0))):=⟨by(with_reducible repeat(first|refine G0 ?_ _|refine J0 ?_|refine I0 ?_ _));refine X8 (cs:=#[.int .i64 0,.int .i64 0,.int .i64 0,.slice none 0 0,.int .i64 0]) ?_ rfl;exact(bo_ o0)⟩
         have n12_:q5 (Below w.heap.size w (((((F2.setCell ⟨B0,0,none⟩ (.int .i64 r9)).setCell ⟨B0,1,none⟩ (.int .i64 C9)).setCell ⟨B0,2,none⟩ (.int .i64 t9)).setCell ⟨B0,3,none⟩ (.slice T0 P8.length R0)).setCell ⟨B0,4,none⟩ (.int .i64 z9))):=⟨bl_⟩
         (try clear HO_1052000)
         (try clear HO_1052001)
         (try clear HO_1061003)
         (try clear HO_1070003)
         (try clear C0)
         (try clear Q0)
         (try clear O1)
         (try clear z2)
         (try clear E2)
         (try clear P2)
         (try clear G3)
         (try clear o0)
         (try clear HB)
         generalize (((((F2.setCell ⟨B0,0,none⟩ (.int .i64 r9)).setCell ⟨B0,1,none⟩ (.int .i64 C9)).setCell ⟨B0,2,none⟩ (.int .i64 t9)).setCell ⟨B0,3,none⟩ (.slice T0 P8.length R0)).setCell ⟨B0,4,none⟩ (.int .i64 z9))=X2 at n0_ n1_ n2_ n3_ n4_ n5_ n6_ n7_ n8_ n9_ n10_ n11_ n12_ ⊢
         have HO_1052000:=n0_
         have HO_1052001:=n1_
         have HO_1061003:=n2_
         have HO_1070003:=n3_
         have C0:=n4_
         have Q0:=n5_
         have O1:=n6_
         have z2:=n7_
         have E2:=n8_
         have P2:=n9_
         have G3:=n10_
         have o0:=n11_
         have HB:=n12_
         clear n0_ n1_ n2_ n3_ n4_ n5_ n6_ n7_ n8_ n9_ n10_ n11_ n12_
         have n0_:=q5.mk (Kd.R_drew HO_1052000.out)
         have n1_:=q5.mk (Kd.R_drew HO_1052001.out)
         have n2_:=q5.mk (Kd.V_drew HO_1061003.out)
         have n3_:=q5.mk (Kd.V_drew HO_1070003.out)
         have n4_:=q5.mk (Kd.R_drew C0.out)
         have n5_:=q5.mk (Kd.V_drew Q0.out)
         have n6_:=q5.mk (J0 O1.out)
         have n7_:=q5.mk (J0 z2.out)
         have n8_:=q5.mk (J0 E2.out)
         have n9_:=q5.mk (J0 P2.out)
         have n10_:=q5.mk (J0 G3.out)
         have n11_:=q5.mk (J0 o0.out)
         have n12_:=q5.mk (N1 HB.out)
         clear HO_1052000
         clear HO_1052001
         clear HO_1061003
         clear HO_1070003
         clear C0
         clear Q0
         clear O1
         clear z2
         clear E2
         clear P2
         clear G3
         clear o0
         clear HB
         have HO_1052000:=n0_
         have HO_1052001:=n1_
         have HO_1061003:=n2_
         have HO_1070003:=n3_
         have C0:=n4_
         have Q0:=n5_
         have O1:=n6_
         have z2:=n7_
         have E2:=n8_
         have P2:=n9_
         have G3:=n10_
         have o0:=n11_
         have HB:=n12_
         clear n0_ n1_ n2_ n3_ n4_ n5_ n6_ n7_ n8_ n9_ n10_ n11_ n12_
         refine b9 (n:=21) (S:=fun w'=>w'.cell? ⟨I4,0,none⟩=some (.slice Ao31 J6.length co31)∧w'.cell? ⟨I4,1,none⟩=some (.slice Ao35 I6.length co35)∧w'.cell? ⟨E5,0,none⟩=some (.int .i64 a0_0)∧w'.cell? ⟨E5,1,none⟩=some (.int .i64 a0_1)∧w'.cell? ⟨E5,2,none⟩=some (.int .i64 a0_2)∧w'.cell? ⟨E5,3,none⟩=some (.slice A0_3 l0_3.length c0_3)∧w'.cell? ⟨E5,4,none⟩=some (.int .i64 a0_4)∧w'.cell? ⟨B0,0,none⟩=some (.int .i64 r9)∧w'.cell? ⟨B0,1,none⟩=some (.int .i64 C9)∧w'.cell? ⟨B0,2,none⟩=some (.int .i64 t9)∧w'.cell? ⟨B0,3,none⟩=some (.slice T0 P8.length R0)∧w'.cell? ⟨B0,4,none⟩=some (.int .i64 z9)) (ds:=[]) ca1 (by kernel_rfl) rfl rfl ⟨(m0 E2.out 0).trans rfl,(m0 E2.out 1).trans rfl,(m0 O1.out 0).trans rfl,(m0 O1.out 1).trans rfl,(m0 O1.out 2).trans rfl,(m0 O1.out 3).trans rfl,(m0 O1.out 4).trans rfl,(m0 o0.out 0).trans rfl,(m0 o0.out 1).trans rfl,(m0 o0.out 2).trans rfl,(m0 o0.out 3).trans rfl,(m0 o0.out 4).trans rfl⟩ (fun hHeld=>?_);refine b6 q11.tab12 q11.bits12 (fun HT_ HW_=>?_)
         generalize X2.drew=G4 at HO_1052000 HO_1052001 HO_1061003 HO_1070003 C0 Q0 O1 z2 E2 P2 G3 o0 HB hHeld ⊢
         refine z1 (i:=0) (N:=some 86) (v:=?_) (a':=?_) bZ1 rfl rfl (V0 HT_.out (by kernel_rfl)) (fun _ _ _ h=>h) (Or.inl ⟨by rfl,?_⟩) ?_ ?_
         rotate_left
         ·intro w'
          go_simp
          with_reducible rfl
         rotate_left
         ·simp only [ap_,sb_,s0_,s1_,N0,P0]
          rfl
         refine z1 (i:=1) (N:=some 87) (v:=?_) (a':=?_) cd8 rfl rfl (V0 HT_.out (by kernel_rfl)) (fun _ _ _ h=>h) (Or.inl ⟨by rfl,?_⟩) ?_ ?_
         rotate_left
         ·intro w'
          go_simp
          with_reducible rfl
         rotate_left
         ·simp only [ap_,sb_,s0_,s1_,N0,P0]
          rfl
         refine z1 (i:=2) (N:=some 88) (v:=?_) (a':=?_) ca0 rfl rfl (V0 HT_.out (by kernel_rfl)) (fun _ _ _ h=>h) (Or.inl ⟨by rfl,?_⟩) ?_ ?_
         rotate_left
         ·intro w'
          go_simp
          with_reducible rfl
         rotate_left
         ·simp only [ap_,sb_,s0_,s1_,N0,P0]
          rfl
         refine take_ (i:=3) (N:=some 89) (v:=?_) (a':=?_) bL3 rfl rfl (M2 HT_.out HW_.out (by kernel_rfl)) (fun _ _ _ h=>h) (Or.inl ⟨by rfl,?_⟩) hHeld ?_ ?_
         rotate_left
         ·rintro w' ⟨G6,S6,T6,m8,O8,N8,N9,cm8,ci5,cq6,cp7,cn0⟩
          go_simp
          with_reducible rfl
         rotate_left
         ·simp only [ap_,sb_,s0_,s1_,N0,P0]
          rfl
         refine take_ (i:=4) (N:=some 90) (v:=?_) (a':=?_) bN7 rfl rfl (M2 HT_.out HW_.out (by kernel_rfl)) (fun _ _ _ h=>h) (Or.inl ⟨by rfl,?_⟩) hHeld ?_ ?_
         rotate_left
         ·rintro w' ⟨G6,S6,T6,m8,O8,N8,N9,cm8,ci5,cq6,cp7,cn0⟩
          go_simp
          with_reducible rfl
         rotate_left
         ·simp only [ap_,sb_,s0_,s1_,N0,P0]
          rfl
         refine one_ (i:=5) (N:=some 91) bQ8 rfl rfl (M6 HT_.out (by kernel_rfl)) (by decide) (fun K hK=>?_)
         refine ae6 Try.func54 (by kernel_rfl) rfl #[.agg #[.int .i64 a0_0,.int .i64 a0_1,.int .i64 a0_2,.slice A0_3 l0_3.length c0_3,.int .i64 a0_4]] (by rfl) rfl rfl (by(try simp only [List.map_toArray,List.map_cons,List.map_nil]);first|done|rfl|(simp only [List.length_drop,List.length_take];rfl)) ?_
         with_reducible refine(q55.calls a0_0 a0_1 a0_2 _ _ l0_3 a0_4 ch0 cp0 _ ?side1 ?side2 A83.out).mono ?_
         (case side1=>exact cb_ HR0_3)
         (case side2=>exact HC0_3.out)
         rintro e Z9 ⟨ae1,ap6,rfl,ho0,ho1,hb⟩
         refine⟨_,rfl,?_⟩
         have n0_:=q5.mk (Kd.R_elder' (ro_ HO_1052000) (Kd.R_base ho0) hb)
         have n1_:=q5.mk (Kd.R_elder' (ro_ HO_1052001) (Kd.R_base ho1) hb)
         have n2_:=q5.mk (Kd.V_mono (Kd.V_told (Kd.V_told (Kd.V_old (vo_ HO_1061003) hb) (Kd.R_base ho0)) (Kd.R_base ho1)) (fun _ h_=>h_.1))
         have n3_:=q5.mk (Kd.V_mono (Kd.V_told (Kd.V_told (Kd.V_old (vo_ HO_1070003) hb) (Kd.R_base ho0)) (Kd.R_base ho1)) (fun _ h_=>h_.1))
         have n4_:=q5.mk (Kd.R_below (ro_ C0) hb)
         have n5_:=q5.mk (Kd.V_mono (Kd.V_told (Kd.V_told (Kd.V_old (vo_ Q0) hb) (Kd.R_base ho0)) (Kd.R_base ho1)) (fun _ h_=>h_.1))
         have n6_:=q5.mk (Kd.R_lower (Kd.R_new' ho0 (Kd.R_lt (ro_ HO_1052000))) (L0 bl_))
         have n7_:=q5.mk (Kd.R_lower (Kd.R_new' ho1 (Kd.R_lt (ro_ HO_1052001))) (L0 bl_))
         have n8_:=q5.mk (F0 (bo_ O1) hb)
         have n9_:=q5.mk (F0 (bo_ z2) hb)
         have n10_:=q5.mk (F0 (bo_ E2) hb)
         have n11_:=q5.mk (F0 (bo_ P2) hb)
         have n12_:=q5.mk (F0 (bo_ G3) hb)
         have n13_:=q5.mk (F0 (bo_ o0) hb)
         have n14_:=q5.mk (E0 bl_ hb)
         clear HO_1052000
         clear HO_1052001
         clear HO_1061003
         clear HO_1070003
         clear C0
         clear Q0
         clear O1
         clear z2
         clear E2
         clear P2
         clear G3
         clear o0
         clear HB
         have HO_1052000:=n0_
         have HO_1052001:=n1_
         have HO_1061003:=n2_
         have HO_1070003:=n3_
         have C0:=n4_
         have Q0:=n5_
         have E1:=n6_
         have S5:=n7_
         have O1:=n8_
         have z2:=n9_
         have E2:=n10_
         have P2:=n11_
         have G3:=n12_
         have o0:=n13_
         have HB:=n14_
         clear n0_ n1_ n2_ n3_ n4_ n5_ n6_ n7_ n8_ n9_ n10_ n11_ n12_ n13_ n14_
         (try clear hb)
         (try clear hb2)
         (try clear hk)
         (try clear hi)
         (try clear ho0)
         (try clear ho1)
         obtain⟨X1,V1,U2⟩:=Kd.R_slice E1.out
         (first|subst U2|(injection U2 with f1_ f2_ f3_;have f7000_:=f1_.symm;have f7001_:=f3_.symm;clear f1_ f2_ f3_;subst f7000_;subst f7001_))
         obtain⟨F4,V3,n8⟩:=Kd.R_slice S5.out
         (first|subst n8|(injection n8 with f1_ f2_ f3_;have f7000_:=f1_.symm;have f7001_:=f3_.symm;clear f1_ f2_ f3_;subst f7000_;subst f7001_))
         refine hK.out _ _ ⟨(m0 E2.out 0).trans rfl,(m0 E2.out 1).trans rfl,(m0 O1.out 0).trans rfl,(m0 O1.out 1).trans rfl,(m0 O1.out 2).trans rfl,(m0 O1.out 3).trans rfl,(m0 O1.out 4).trans rfl,(m0 o0.out 0).trans rfl,(m0 o0.out 1).trans rfl,(m0 o0.out 2).trans rfl,(m0 o0.out 3).trans rfl,(m0 o0.out 4).trans rfl⟩ (fun hHeld=>?_)
         clear hK K
         refine o7 (a':=?_) ?_ ?_
         rotate_left
         ·show Act.put _ (some 91) _=_
          simp only [ap_,sb_,s0_,s1_,N0,P0]
          rfl
         refine one_ (i:=6) (N:=some 92) bD3 rfl rfl (M6 HT_.out (by kernel_rfl)) (by decide) (fun K hK=>?_)
         refine ae6 Try.func53 (by kernel_rfl) rfl #[.agg #[.slice Ao31 J6.length co31,.slice Ao35 I6.length co35],.agg #[.slice X1 ch0.length V1,.slice F4 cp0.length V3]] (by rfl) rfl rfl (by(try simp only [List.map_toArray,List.map_cons,List.map_nil]);first|done|rfl|(simp only [List.length_drop,List.length_take];rfl)) ?_
         with_reducible refine(q50.calls kj25 _ _ J6 _ _ I6 _ _ ch0 _ _ cp0 true _ ?side1 ?side2 ?side3 ?side4 ?side5 ?side6 ?side7 ?side8 A84.out).mono ?_
         (case side1=>exact cr_ HO_1052000)
         (case side2=>exact(Kd.R_reads' HO_1052000.out).2.1)
         (case side3=>exact cr_ HO_1052001)
         (case side4=>exact(Kd.R_reads' HO_1052001.out).2.1)
         (case side5=>exact cr_ E1)
         (case side6=>exact(Kd.R_reads' E1.out).2.1)
         (case side7=>exact cr_ S5)
         (case side8=>exact(Kd.R_reads' S5.out).2.1)
         rintro e au8 ⟨rfl,hb⟩
         refine⟨_,rfl,?_⟩
         have n0_:=q5.mk (Kd.R_below (ro_ HO_1052000) hb)
         have n1_:=q5.mk (Kd.R_below (ro_ HO_1052001) hb)
         have n2_:=q5.mk (Kd.V_below (vo_ HO_1061003) hb)
         have n3_:=q5.mk (Kd.V_below (vo_ HO_1070003) hb)
         have n4_:=q5.mk (Kd.R_below (ro_ C0) hb)
         have n5_:=q5.mk (Kd.V_below (vo_ Q0) hb)
         have n6_:=q5.mk (Kd.R_below (ro_ E1) hb)
         have n7_:=q5.mk (Kd.R_below (ro_ S5) hb)
         have n8_:=q5.mk (F0 (bo_ O1) hb)
         have n9_:=q5.mk (F0 (bo_ z2) hb)
         have n10_:=q5.mk (F0 (bo_ E2) hb)
         have n11_:=q5.mk (F0 (bo_ P2) hb)
         have n12_:=q5.mk (F0 (bo_ G3) hb)
         have n13_:=q5.mk (F0 (bo_ o0) hb)
         have n14_:=q5.mk (E0 bl_ hb)
         clear HO_1052000
         clear HO_1052001
         clear HO_1061003
         clear HO_1070003
         clear C0
         clear Q0
         clear E1
         clear S5
         clear O1
         clear z2
         clear E2
         clear P2
         clear G3
         clear o0
         clear HB
         have HO_1052000:=n0_
         have HO_1052001:=n1_
         have HO_1061003:=n2_
         have HO_1070003:=n3_
         have C0:=n4_
         have Q0:=n5_
         have E1:=n6_
         have S5:=n7_
         have O1:=n8_
         have z2:=n9_
         have E2:=n10_
         have P2:=n11_
         have G3:=n12_
         have o0:=n13_
         have HB:=n14_
         clear n0_ n1_ n2_ n3_ n4_ n5_ n6_ n7_ n8_ n9_ n10_ n11_ n12_ n13_ n14_
         (try clear hb)
         (try clear hb2)
         (try clear hk)
         (try clear hi)
         refine hK.out _ _ ⟨(m0 E2.out 0).trans rfl,(m0 E2.out 1).trans rfl,(m0 O1.out 0).trans rfl,(m0 O1.out 1).trans rfl,(m0 O1.out 2).trans rfl,(m0 O1.out 3).trans rfl,(m0 O1.out 4).trans rfl,(m0 o0.out 0).trans rfl,(m0 o0.out 1).trans rfl,(m0 o0.out 2).trans rfl,(m0 o0.out 3).trans rfl,(m0 o0.out 4).trans rfl⟩ (fun hHeld=>?_)
         clear hK K
         refine o7 (a':=?_) ?_ ?_
         rotate_left
         ·show Act.put _ (some 92) _=_
          simp only [ap_,sb_,s0_,s1_,N0,P0]
          rfl
         refine z1 (i:=7) (N:=some 93) (v:=?_) (a':=?_) bF0 rfl rfl (V0 HT_.out (by kernel_rfl)) (fun _ _ _ h=>h) (Or.inl ⟨by rfl,?_⟩) ?_ ?_
         rotate_left
         ·intro w'
          go_simp
          with_reducible rfl
         rotate_left
         ·simp only [ap_,sb_,s0_,s1_,N0,P0]
          rfl
         refine z1 (i:=8) (N:=some 94) (v:=?_) (a':=?_) bs8 rfl rfl (V0 HT_.out (by kernel_rfl)) (fun _ _ _ h=>h) (Or.inl ⟨by rfl,?_⟩) ?_ ?_
         rotate_left
         ·intro w'
          go_simp
          with_reducible rfl
         rotate_left
         ·simp only [ap_,sb_,s0_,s1_,N0,P0]
          rfl
         refine z1 (i:=9) (N:=some 95) (v:=?_) (a':=?_) bm4 rfl rfl (V0 HT_.out (by kernel_rfl)) (fun _ _ _ h=>h) (Or.inl ⟨by rfl,?_⟩) ?_ ?_
         rotate_left
         ·intro w'
          go_simp
          with_reducible rfl
         rotate_left
         ·simp only [ap_,sb_,s0_,s1_,N0,P0]
          rfl
         refine z1 (i:=10) (N:=some 96) (v:=?_) (a':=?_) bm7 rfl rfl (V0 HT_.out (by kernel_rfl)) (fun _ _ _ h=>h) (Or.inl ⟨by rfl,?_⟩) ?_ ?_
         rotate_left
         ·intro w'
          go_simp
          with_reducible rfl
         rotate_left
         ·simp only [ap_,sb_,s0_,s1_,N0,P0]
          rfl
         refine z1 (i:=11) (N:=some 97) (v:=?_) (a':=?_) bk6 rfl rfl (V0 HT_.out (by kernel_rfl)) (fun _ _ _ h=>h) (Or.inl ⟨by rfl,?_⟩) ?_ ?_
         rotate_left
         ·intro w'
          go_simp
          with_reducible rfl
         rotate_left
         ·simp only [ap_,sb_,s0_,s1_,N0,P0]
          rfl
         refine z1 (i:=12) (N:=some 98) (v:=?_) (a':=?_) bp5 rfl rfl (V0 HT_.out (by kernel_rfl)) (fun _ _ _ h=>h) (Or.inl ⟨by rfl,?_⟩) ?_ ?_
         rotate_left
         ·intro w'
          go_simp
          with_reducible rfl
         rotate_left
         ·simp only [ap_,sb_,s0_,s1_,N0,P0]
          rfl
         refine take_ (i:=13) (N:=some 99) (v:=?_) (a':=?_) bb7 rfl rfl (M2 HT_.out HW_.out (by kernel_rfl)) (fun _ _ _ h=>h) (Or.inl ⟨by rfl,?_⟩) hHeld ?_ ?_
         rotate_left
         ·rintro w' ⟨G6,S6,T6,m8,O8,N8,N9,cm8,ci5,cq6,cp7,cn0⟩
          go_simp
          with_reducible rfl
         rotate_left
         ·simp only [ap_,sb_,s0_,s1_,N0,P0]
          rfl
         refine take_ (i:=14) (N:=some 100) (v:=?_) (a':=?_) bc7 rfl rfl (M2 HT_.out HW_.out (by kernel_rfl)) (fun _ _ _ h=>h) (Or.inl ⟨by rfl,?_⟩) hHeld ?_ ?_
         rotate_left
         ·rintro w' ⟨G6,S6,T6,m8,O8,N8,N9,cm8,ci5,cq6,cp7,cn0⟩
          go_simp
          with_reducible rfl
         rotate_left
         ·simp only [ap_,sb_,s0_,s1_,N0,P0]
          rfl
         refine one_ (i:=15) (N:=some 101) bd3 rfl rfl (M6 HT_.out (by kernel_rfl)) (by decide) (fun K hK=>?_)
         refine ae6 Try.func39 (by kernel_rfl) rfl #[.agg #[.int .i64 r9,.int .i64 C9,.int .i64 t9,.slice T0 P8.length R0,.int .i64 z9],.agg #[.int .i64 a0_0,.int .i64 a0_1,.int .i64 a0_2,.slice A0_3 l0_3.length c0_3,.int .i64 a0_4]] (by rfl) rfl rfl (by(try simp only [List.map_toArray,List.map_cons,List.map_nil]);first|done|rfl|(simp only [List.length_drop,List.length_take];rfl)) ?_
         with_reducible refine(q49.calls r9 C9 t9 _ _ P8 z9 a0_0 a0_1 a0_2 _ _ l0_3 a0_4 true _ ?side1 ?side2 ?side3 ?side4 A87.out).mono ?_
         (case side1=>exact cv_ Q0)
         (case side2=>exact(Kd.V_reads' Q0.out).2.1)
         (case side3=>exact cb_ HR0_3)
         (case side4=>exact HC0_3.out)
         rintro e bi7 ⟨rfl,hb⟩
         refine⟨_,rfl,?_⟩
         have n0_:=q5.mk (Kd.R_below (ro_ HO_1052000) hb)
         have n1_:=q5.mk (Kd.R_below (ro_ HO_1052001) hb)
         have n2_:=q5.mk (Kd.V_below (vo_ HO_1061003) hb)
         have n3_:=q5.mk (Kd.V_below (vo_ HO_1070003) hb)
         have n4_:=q5.mk (Kd.R_below (ro_ C0) hb)
         have n5_:=q5.mk (Kd.V_below (vo_ Q0) hb)
         have n6_:=q5.mk (Kd.R_below (ro_ E1) hb)
         have n7_:=q5.mk (Kd.R_below (ro_ S5) hb)
         have n8_:=q5.mk (F0 (bo_ O1) hb)
         have n9_:=q5.mk (F0 (bo_ z2) hb)
         have n10_:=q5.mk (F0 (bo_ E2) hb)
         have n11_:=q5.mk (F0 (bo_ P2) hb)
         have n12_:=q5.mk (F0 (bo_ G3) hb)
         have n13_:=q5.mk (F0 (bo_ o0) hb)
         have n14_:=q5.mk (E0 bl_ hb)
         clear HO_1052000
         clear HO_1052001
         clear HO_1061003
         clear HO_1070003
         clear C0
         clear Q0
         clear E1
         clear S5
         clear O1
         clear z2
         clear E2
         clear P2
         clear G3
         clear o0
         clear HB
         have HO_1052000:=n0_
         have HO_1052001:=n1_
         have HO_1061003:=n2_
         have HO_1070003:=n3_
         have C0:=n4_
         have Q0:=n5_
         have E1:=n6_
         have S5:=n7_
         have O1:=n8_
         have z2:=n9_
         have E2:=n10_
         have P2:=n11_
         have G3:=n12_
         have o0:=n13_
         have HB:=n14_
         clear n0_ n1_ n2_ n3_ n4_ n5_ n6_ n7_ n8_ n9_ n10_ n11_ n12_ n13_ n14_
         (try clear hb)
         (try clear hb2)
         (try clear hk)
         (try clear hi)
         refine hK.out _ _ ⟨(m0 E2.out 0).trans rfl,(m0 E2.out 1).trans rfl,(m0 O1.out 0).trans rfl,(m0 O1.out 1).trans rfl,(m0 O1.out 2).trans rfl,(m0 O1.out 3).trans rfl,(m0 O1.out 4).trans rfl,(m0 o0.out 0).trans rfl,(m0 o0.out 1).trans rfl,(m0 o0.out 2).trans rfl,(m0 o0.out 3).trans rfl,(m0 o0.out 4).trans rfl⟩ (fun hHeld=>?_)
         clear hK K
         refine o7 (a':=?_) ?_ ?_
         rotate_left
         ·show Act.put _ (some 101) _=_
          simp only [ap_,sb_,s0_,s1_,N0,P0]
          rfl
         refine z1 (i:=16) (N:=some 102) (v:=?_) (a':=?_) bb3 rfl rfl (V0 HT_.out (by kernel_rfl)) (fun _ _ _ h=>h) (Or.inl ⟨by rfl,?_⟩) ?_ ?_
         rotate_left
         ·intro w'
          go_simp
          with_reducible rfl
         rotate_left
         ·simp only [ap_,sb_,s0_,s1_,N0,P0]
          rfl
         refine z1 (i:=17) (N:=some 103) (v:=?_) (a':=?_) aZ1 rfl rfl (V0 HT_.out (by kernel_rfl)) (fun _ _ _ h=>h) (Or.inl ⟨by rfl,?_⟩) ?_ ?_
         rotate_left
         ·intro w'
          go_simp
          with_reducible rfl
         rotate_left
         ·simp only [ap_,sb_,s0_,s1_,N0,P0]
          rfl
         refine one_ (i:=18) (N:=some 104) aW3 rfl rfl (M6 HT_.out (by kernel_rfl)) (by decide) (fun K hK=>?_)
         refine ae6 Try.func36 (by kernel_rfl) rfl #[] (by rfl) rfl rfl (by(try simp only [List.map_toArray,List.map_cons,List.map_nil]);first|done|rfl|(simp only [List.length_drop,List.length_take];rfl)) ?_
         with_reducible refine(q21.calls kj25  aM3 _ A89.out).mono ?_
         rintro e av4 ⟨rfl,hb⟩
         refine⟨_,rfl,?_⟩
         have n0_:=q5.mk (Kd.R_below (ro_ HO_1052000) hb)
         have n1_:=q5.mk (Kd.R_below (ro_ HO_1052001) hb)
         have n2_:=q5.mk (Kd.V_below (vo_ HO_1061003) hb)
         have n3_:=q5.mk (Kd.V_below (vo_ HO_1070003) hb)
         have n4_:=q5.mk (Kd.R_below (ro_ C0) hb)
         have n5_:=q5.mk (Kd.V_below (vo_ Q0) hb)
         have n6_:=q5.mk (Kd.R_below (ro_ E1) hb)
         have n7_:=q5.mk (Kd.R_below (ro_ S5) hb)
         have n8_:=q5.mk (F0 (bo_ O1) hb)
         have n9_:=q5.mk (F0 (bo_ z2) hb)
         have n10_:=q5.mk (F0 (bo_ E2) hb)
         have n11_:=q5.mk (F0 (bo_ P2) hb)
         have n12_:=q5.mk (F0 (bo_ G3) hb)
         have n13_:=q5.mk (F0 (bo_ o0) hb)
         have n14_:=q5.mk (E0 bl_ hb)
         clear HO_1052000
         clear HO_1052001
         clear HO_1061003
         clear HO_1070003
         clear C0
         clear Q0
         clear E1
         clear S5
         clear O1
         clear z2
         clear E2
         clear P2
         clear G3
         clear o0
         clear HB
         have HO_1052000:=n0_
         have HO_1052001:=n1_
         have HO_1061003:=n2_
         have HO_1070003:=n3_
         have C0:=n4_
         have Q0:=n5_
         have E1:=n6_
         have S5:=n7_
         have O1:=n8_
         have z2:=n9_
         have E2:=n10_
         have P2:=n11_
         have G3:=n12_
         have o0:=n13_
         have HB:=n14_
         clear n0_ n1_ n2_ n3_ n4_ n5_ n6_ n7_ n8_ n9_ n10_ n11_ n12_ n13_ n14_
         (try clear hb)
         (try clear hb2)
         (try clear hk)
         (try clear hi)
         refine hK.out _ _ ⟨(m0 E2.out 0).trans rfl,(m0 E2.out 1).trans rfl,(m0 O1.out 0).trans rfl,(m0 O1.out 1).trans rfl,(m0 O1.out 2).trans rfl,(m0 O1.out 3).trans rfl,(m0 O1.out 4).trans rfl,(m0 o0.out 0).trans rfl,(m0 o0.out 1).trans rfl,(m0 o0.out 2).trans rfl,(m0 o0.out 3).trans rfl,(m0 o0.out 4).trans rfl⟩ (fun hHeld=>?_)
         clear hK K
         refine o7 (a':=?_) ?_ ?_
         rotate_left
         ·show Act.put _ (some 104) _=_
          simp only [ap_,sb_,s0_,s1_,N0,P0]
          rfl
         refine z1 (i:=19) (N:=some 105) (v:=?_) (a':=?_) aR9 rfl rfl (V0 HT_.out (by kernel_rfl)) (fun _ _ _ h=>h) (Or.inl ⟨by rfl,?_⟩) ?_ ?_
         rotate_left
         ·intro w'
          go_simp
          with_reducible rfl
         rotate_left
         ·simp only [ap_,sb_,s0_,s1_,N0,P0]
          rfl
         refine z1 (i:=20) (N:=some 4) (v:=?_) (a':=?_) aS6 rfl rfl (V0 HT_.out (by kernel_rfl)) (fun _ _ _ h=>h) (Or.inl ⟨by rfl,?_⟩) ?_ ?_
         rotate_left
         ·intro w'
          go_simp
          with_reducible rfl
         rotate_left
         ·simp only [ap_,sb_,s0_,s1_,N0,P0]
          rfl
         refine ab2 (K7 HT_.out (by kernel_rfl)) ?_
         try go_wp2
         go_ret
         exact⟨rf_,bl_⟩
        |go_wp2_with (first|((with_reducible refine C1 (f:=48) rfl ?_);refine goL_ (some 66) Try.func48 #[.agg #[.int .i64 a0_0,.int .i64 a0_1,.int .i64 a0_2,.slice A0_3 l0_3.length c0_3,.int .i64 a0_4]] ?_;(with_reducible refine(q6.calls kj25 a0_0 a0_1 a0_2 _ _ l0_3 a0_4 cg2 false _ ?side1 ?side2 A79.out).mono ?_);(case side1=>exact cb_ HR0_3);(case side2=>exact HC0_3.out);rintro e U1 ⟨M4,rfl,ho0,hb⟩;refine⟨_,rfl,?_⟩;have n_:=pk11 (Kd.R_below (ro_ HO_1052000) hb) (Kd.R_below (ro_ HO_1052001) hb) (Kd.V_elder' (vo_ HO_1061003) (Kd.R_base ho0) hb) (Kd.V_elder' (vo_ HO_1070003) (Kd.R_base ho0) hb) (Kd.R_lower ho0 (L0 bl_)) (F0 (bo_ O1) hb) (F0 (bo_ z2) hb) (F0 (bo_ E2) hb) (F0 (bo_ P2) hb) (F0 (bo_ G3) hb) (E0 bl_ hb);clear HO_1052000 HO_1052001 HO_1061003 HO_1070003 O1 z2 E2 P2 G3 HB;obtain⟨HO_1052000,HO_1052001,HO_1061003,HO_1070003,C0,O1,z2,E2,P2,G3,HB⟩:=n_;(try clear hb ho0);have V6:=ax6.out;have Z6:=ab1.out;have aT0:=aa6.out;have aU7:=ah7.out;have aC4:=aa2.out;have aB3:=ah8.out;have Y2:U1.cell? ⟨I4,0,none⟩=some (.slice Ao31 J6.length co31):=(m0 E2.out 0).trans rfl;have z3:U1.cell? ⟨I4,1,none⟩=some (.slice Ao35 I6.length co35):=(m0 E2.out 1).trans rfl;have D3:=t0 E2.out 0;have Z2:=t0 E2.out 1)|(go_at_call 53;(refine(q50.calls kj25 _ _ J6 _ _ I6 _ _ ([]:List Int) _ _ ([]:List ByteArray) true _ ?side1 ?side2 ?side3 ?side4 ?side5 ?side6 ?side7 ?side8 di1.out).mono ?_);(case side1=>exact cr_ HO_1052000);(case side2=>exact(Kd.R_reads' HO_1052000.out).2.1);(case side3=>exact cr_ HO_1052001);(case side4=>exact(Kd.R_reads' HO_1052001.out).2.1);(case side5=>exact Kd.C_nil _ _);(case side6=>exact Nat.le_refl _);(case side7=>exact Kd.C_nil _ _);(case side8=>exact Nat.le_refl _);rintro e Z1 ⟨rfl,hb⟩;have n_:=pk11 (Kd.R_below (ro_ HO_1052000) hb) (Kd.R_below (ro_ HO_1052001) hb) (Kd.V_below (vo_ HO_1061003) hb) (Kd.V_below (vo_ HO_1070003) hb) (Kd.R_below (ro_ C0) hb) (F0 (bo_ O1) hb) (F0 (bo_ z2) hb) (F0 (bo_ E2) hb) (F0 (bo_ P2) hb) (F0 (bo_ G3) hb) (E0 bl_ hb);clear HO_1052000 HO_1052001 HO_1061003 HO_1070003 C0 O1 z2 E2 P2 G3 HB;obtain⟨HO_1052000,HO_1052001,HO_1061003,HO_1070003,C0,O1,z2,E2,P2,G3,HB⟩:=n_;(try clear hb))|(go_at_call 36;(with_reducible refine(q21.calls kj25  aX5 _ dk5.out).mono ?_);rintro e F2 ⟨rfl,hb⟩;have n_:=pk11 (Kd.R_below (ro_ HO_1052000) hb) (Kd.R_below (ro_ HO_1052001) hb) (Kd.V_below (vo_ HO_1061003) hb) (Kd.V_below (vo_ HO_1070003) hb) (Kd.R_below (ro_ C0) hb) (F0 (bo_ O1) hb) (F0 (bo_ z2) hb) (F0 (bo_ E2) hb) (F0 (bo_ P2) hb) (F0 (bo_ G3) hb) (E0 bl_ hb);clear HO_1052000 HO_1052001 HO_1061003 HO_1070003 C0 O1 z2 E2 P2 G3 HB;obtain⟨HO_1052000,HO_1052001,HO_1061003,HO_1070003,C0,O1,z2,E2,P2,G3,HB⟩:=n_;(try clear hb)))
         go_ret
         exact⟨rf_,bl_⟩
   replace H:=N2 H
   obtain⟨cg4,A21,H⟩:=H
   try dsimp only at H
   obtain rfl:=Option.some.inj H
   go_wp2_with (first|((with_reducible refine C1 (f:=36) rfl ?_);refine goL_ (some 30) Try.func36 #[] ?_;(with_reducible refine(q21.calls kj2  cg4 _ A21.out).mono ?_);rintro e ap8 ⟨rfl,hb⟩;refine⟨_,rfl,?_⟩;have n_:=pk3 (F0 (bo_ O1) hb) (F0 (bo_ z2) hb) (E0 bl_ hb);clear O1 z2 HB;obtain⟨O1,z2,HB⟩:=n_;(try clear hb)))
   go_ret
   exact⟨rf_,bl_⟩
end Go.Proofs.Ytmddmbagehjdeaa.G
end
