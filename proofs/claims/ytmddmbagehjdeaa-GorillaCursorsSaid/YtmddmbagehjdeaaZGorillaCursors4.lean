/- More lines for the row. -/
import Derived.Test.YtmddmbagehjdeaaZGorillaCursors3
import Derived.Test.YtmddmbagehjdeaaHLenW
set_option linter.unusedVariables false
set_option linter.unusedSimpArgs false
set_option maxRecDepth 100000
set_option maxHeartbeats 8000000
section
namespace Go.Proofs.Ytmddmbagehjdeaa.G
open Go Go.RowKit Go.Proofs.YtmddmbagehjdeaaW.PrintWords Go.Proofs.YtmddmbagehjdeaaW.PrintLast Go.Proofs.YtmddmbagehjdeaaW.PrintMore
def bits_Len64.f (a0:Int):Option Int:=if 0≤a0∧a0≤18446744073709551615 then some (Lib.bitLen a0.toNat)else none
theorem bits_Len64.calls (a0:Int) (r:Int) (w:World) (h:bits_Len64.f a0=some r) :
  Calls Try.prog 69 #[.int .u64 a0] w fun e w'=>e=.returned (.int .i64 r)∧Drawn0 w w':=by
 unfold bits_Len64.f at h
 split at h
 ·rename_i hc
  obtain rfl:=Option.some.inj h
  exact(len64_any a0 w hc.1 hc.2).mono fun e w' ⟨he,hw⟩=>⟨he,⟨0,hw⟩⟩
 ·cases h
end Go.Proofs.Ytmddmbagehjdeaa.G
end
section
namespace Go.Proofs.YtmddmbagehjdeaaX
open Go Go.RowKit Go.Proofs.YtmddmbagehjdeaaW.PrintWords Go.Proofs.YtmddmbagehjdeaaW.PrintLast Go.Proofs.YtmddmbagehjdeaaW.PrintMore
theorem ap_:type_of% @Act.put.eq_1:=@Act.put.eq_1
theorem sb_:type_of% @List.setIfInBounds_toArray:=@List.setIfInBounds_toArray
theorem s0_:type_of% @List.set_cons_zero:=@List.set_cons_zero
theorem s1_:type_of% @List.set_cons_succ:=@List.set_cons_succ
theorem nq_ {w:World} {p:Addr} {v:Value} {a b:Nat} (hw:w.cell? p=some v) (hg:w.heap.size≤b) (ha:p.block=a:=by first|rfl|(simp only [add_block];done)|(rw [add_block])):a≠b :=
 ha ▸ Nat.ne_of_lt (Nat.lt_of_lt_of_le (World.block_lt_of_cell? _ _ hw) hg)
end Go.Proofs.YtmddmbagehjdeaaX
end
section
namespace Go.Proofs.Ytmddmbagehjdeaa.G
open Go.RowKit Go.Proofs.YtmddmbagehjdeaaX Go.Proofs.YtmddmbagehjdeaaW.PrintWords Go.Proofs.YtmddmbagehjdeaaW.PrintLast Go.Proofs.YtmddmbagehjdeaaW.PrintMore
attribute [local go_sem] max2_int min2_int max_two min_two max_three min_three max_four min_four
def bits_Class.l0:Nat→Int→Int→Option (Int)
 |0,_,_=>none
 |k+1,x0,x3=>if x3<4 then((bits_fold.f x0).bind fun t101=>((bits_Len64.f t101).bind fun t102=>((bits_width.f x3).bind fun t103=>(if t102>t103 then(bits_Class.l0 k x0 (wrap64 (x3+1)))else(some x3)))))else(some x3)
def bits_Class.f (k:Nat) (a0:Int):Option (Int):=bits_Class.l0 k a0 0
theorem bits_Class.mono_l:∀ k,(∀ y0 y1,LeO (bits_Class.l0 k y0 y1) (bits_Class.l0 (k+1) y0 y1))
 |0=>fun _ _ r h=>by simp [bits_Class.l0] at h
 |k+1=>by
  have ih0:=bits_Class.mono_l k
  ·intro y0 y1
   unfold bits_Class.l0
   repeat' first
   |(with_reducible exact ih0 _ _)
   |(with_reducible exact LeO.refl _)
   |(with_reducible exact LeO.none _)
   |(with_reducible refine LeO.ite ?_ ?_)
   |(with_reducible refine LeO.bind ?_ (fun _=>?_))
   |exact ih0 _ _
   |exact LeO.none _
   |refine LeO.ite ?_ ?_
   |refine LeO.bind ?_ (fun _=>?_)
theorem bits_Class.mono:∀ a0 k,LeO (bits_Class.f k a0) (bits_Class.f (k+1) a0):=by
 intro a0 k
 have ih0:=bits_Class.mono_l k
 unfold bits_Class.f
 repeat' first
   |(with_reducible exact ih0 _ _)
   |(with_reducible exact LeO.refl _)
   |(with_reducible exact LeO.none _)
   |(with_reducible refine LeO.ite ?_ ?_)
   |(with_reducible refine LeO.bind ?_ (fun _=>?_))
   |exact ih0 _ _
   |exact LeO.none _
   |refine LeO.ite ?_ ?_
   |refine LeO.bind ?_ (fun _=>?_)
theorem bits_Class.calls (k:Nat) (a0:Int) (r:Int) (w:World) (h:bits_Class.f k a0=some r) :
  Calls Try.prog 33 #[.int .i64 a0] w fun e w'=>e=.returned (.int .i64 r)∧Drawn0 w w':=by
 have H:(bits_Class.l0 k a0 0)=some r:=h
 clear h
 have H':=Aside0.mk H
 clear H
 go_enter Try.func33,Try.ntmps33
 go_wp2
 go_loopg [3] k (fun kq v3 w'=>∃ (x3_1:Int),v3=.int .i64 x3_1∧Aside0 (bits_Class.l0 kq a0 x3_1=some r)∧Aside0 (kq≤k)∧Drawn0 w w')
 case atStart=>exact⟨(0),sm_,H',⟨Nat.le_refl _⟩,by repeat(first|exact Drawn0.refl _|apply Drawn0.step)⟩
 case round =>
  clear H'
  obtain⟨x3_1,rfl,HA,HK1,⟨m1,rfl⟩⟩:=hrel
  cases gk with
  |zero=>exact absurd HA.out (by simp [bits_Class.l0])
  |succ k1 =>
   have H:=HA.out
   clear HA
   simp only [bits_Class.l0] at H
   replace H:=dle H
   rcases H with⟨c2b0,H⟩|⟨c2b0,H⟩
   focus
    replace H:=bindA H
    obtain⟨t101,A3,H⟩:=H
    try dsimp only at H
    replace H:=bindA H
    obtain⟨t102,A4,H⟩:=H
    try dsimp only at H
    replace H:=bindA H
    obtain⟨t103,A5,H⟩:=H
    try dsimp only at H
    replace H:=dgt H
    rcases H with⟨c6b0,H⟩|⟨c6b0,H⟩
    focus
     have H':=Aside0.mk H
     clear H
    rotate_left
    focus
     obtain rfl:=Option.some.inj H
   rotate_left 2
   focus
    obtain rfl:=Option.some.inj H
   all_goals
    go_wp2_with (first|(go_at_call 62;(with_reducible refine(bits_fold.calls a0 t101 _ A3.out).mono ?_);rintro e w' ⟨rfl,⟨nd,rfl⟩⟩)|(go_at_call 69;(with_reducible refine(bits_Len64.calls t101 t102 _ A4.out).mono ?_);rintro e w' ⟨rfl,⟨nd,rfl⟩⟩)|(go_at_call 63;(with_reducible refine(bits_width.calls x3_1 t103 _ A5.out).mono ?_);rintro e w' ⟨rfl,⟨nd,rfl⟩⟩))
    first
     |go_roundg k1
      case measure=>have:=HK1.out;omega
      case rel=>exact⟨(wrap64 (x3_1+1)),sm_,H',⟨by have:=HK1.out;omega⟩,by repeat(first|exact Drawn0.refl _|apply Drawn0.step)⟩
     |go_ret
      exact⟨by first|rfl|(simp;done)|(simp [*];done),by repeat(first|exact Drawn0.refl _|apply Drawn0.step)⟩
def bits_lead.f (a0:Int):Option (Int×Int):=if a0=4 then(some (15,4))else(if 0≤(wrap64 (a0+1))then(some (IntKind.u64.wrap ((shl .u64 1 (wrap64 (a0+1))) - 2),wrap64 (a0+1)))else(none))
theorem bits_lead.calls (a0:Int) (r1:Int) (r2:Int) (w:World) (h:bits_lead.f a0=some (r1,r2)) :
  Calls Try.prog 60 #[.int .i64 a0] w fun e w'=>e=.returned (.tuple #[.int .u64 r1,.int .i64 r2])∧Drawn0 w w':=by
 have H:(if a0=4 then(some (15,4))else(if 0≤(wrap64 (a0+1))then(some (IntKind.u64.wrap ((shl .u64 1 (wrap64 (a0+1))) - 2),wrap64 (a0+1)))else(none)))=some (r1,r2):=h
 clear h
 replace H:=deqn H
 rcases H with⟨c2b0,c2b1,H⟩|⟨c2b0,c2b1,c2,H⟩
 focus
  simp only [Option.some.injEq,Prod.mk.injEq] at H
  obtain⟨rfl,rfl⟩:=H
 rotate_left
 focus
  obtain⟨ji3,hji3⟩:∃ j_:Int,(wrap64 (a0+1))=j_:=⟨_,rfl⟩
  replace H:(if 0≤(ji3)then(some (IntKind.u64.wrap ((shl .u64 1 (ji3)) - 2),ji3))else(none))=some (r1,r2):=by first|(rw [hji3] at H;exact H)|(simp only [hji3] at H ⊢;exact H)
  have hji3w:(IntKind.i64.wrap (a0+1))=ji3:=(i64_w _).trans hji3
  by_cases c4:0≤(ji3)
  rotate_left
  ·rw [if_neg c4] at H
   exact absurd H (by simp)
  rw [if_pos c4] at H
  have c4b0:=eq_true c4
  have c4b1:decide (0≤(ji3))=true:=decide_eq_true c4
  clear c4
  obtain⟨ji5,hji5⟩:∃ j_:Int,(shl .u64 1 (ji3))=j_:=⟨_,rfl⟩
  replace H:(some (IntKind.u64.wrap ((ji5) - 2),ji3))=some (r1,r2):=by first|(rw [hji5] at H;exact H)|(simp only [hji5] at H ⊢;exact H)
  have hji5_:(IntKind.u64.wrap (1*2 ^ min (ji3).toNat 64))=ji5:=hji5
  have hji5z:(ji3)≤64→(IntKind.u64.wrap (1*2 ^ (ji3).toNat))=ji5:=shl_small hji5
  have hji5u:(IntKind.u64.wrap (2 ^ min (ji3).toNat 64))=ji5:=by have h_:=hji5_;rw [Int.one_mul] at h_;exact h_
  have hji5v:(ji3)≤64→(IntKind.u64.wrap (2 ^ (ji3).toNat))=ji5:=fun hle_=>by have h_:=hji5z hle_;rw [Int.one_mul] at h_;exact h_
  simp only [Option.some.injEq,Prod.mk.injEq] at H
  obtain⟨rfl,rfl⟩:=H
 all_goals
  go_enter Try.func60,Try.ntmps60
  go_wp2
  go_ret2
  first
   |exact⟨by first|rfl|(simp;done)|(simp [*];done),by repeat(first|exact Drawn0.refl _|apply Drawn0.step)⟩
   |exact⟨by first|rfl|(simp;done)|(simp only [←hji3,←hji5]<;>(first|rfl|simp))|(simp [*];done),by repeat(first|exact Drawn0.refl _|apply Drawn0.step)⟩
def bits_Size.f (k:Nat) (a0:Int):Option (Int):=(bits_Class.f k a0).bind fun t104=>((bits_lead.f t104).bind fun bt105=>((bits_width.f t104).bind fun t107=>(some (wrap64 (bt105.2+t107)))))
theorem bits_Size.mono:∀ a0 k,LeO (bits_Size.f k a0) (bits_Size.f (k+1) a0):=by
 intro a0 k
 unfold bits_Size.f
 repeat' first
   |(with_reducible exact bits_Class.mono _ _)
   |(with_reducible exact LeO.refl _)
   |(with_reducible exact LeO.none _)
   |(with_reducible refine LeO.ite ?_ ?_)
   |(with_reducible refine LeO.bind ?_ (fun _=>?_))
   |exact bits_Class.mono _ _
   |exact LeO.none _
   |refine LeO.ite ?_ ?_
   |refine LeO.bind ?_ (fun _=>?_)
theorem bits_Size.calls (k:Nat) (a0:Int) (r:Int) (w:World) (h:bits_Size.f k a0=some r) :
  Calls Try.prog 16 #[.int .i64 a0] w fun e w'=>e=.returned (.int .i64 r)∧Drawn0 w w':=by
 have H:((bits_Class.f k a0).bind fun t104=>((bits_lead.f t104).bind fun bt105=>((bits_width.f t104).bind fun t107=>(some (wrap64 (bt105.2+t107))))))=some r:=h
 clear h
 replace H:=bindA H
 obtain⟨t104,A2,H⟩:=H
 try dsimp only at H
 replace H:=bindA H
 obtain⟨⟨t105,t106⟩,A3,H⟩:=H
 try dsimp only at H
 replace H:=bindA H
 obtain⟨t107,A4,H⟩:=H
 try dsimp only at H
 obtain rfl:=Option.some.inj H
 go_enter Try.func16,Try.ntmps16
 go_wp2_with (first|((with_reducible refine gate_callee (f:=33) rfl ?_);refine goL_ (some 7) Try.func33 #[.int .i64 a0] ?_;(with_reducible refine(bits_Class.calls k a0 t104 _ A2.out).mono ?_);rintro e w' ⟨rfl,⟨nd,rfl⟩⟩;refine⟨_,rfl,?_⟩)|((with_reducible refine gate_callee (f:=60) rfl ?_);refine goL_ (some 10) Try.func60 #[.int .i64 t104] ?_;(with_reducible refine(bits_lead.calls t104 t105 t106 _ A3.out).mono ?_);rintro e w' ⟨rfl,⟨nd,rfl⟩⟩;refine⟨_,rfl,?_⟩)|((with_reducible refine gate_callee (f:=63) rfl ?_);refine goL_ (some 15) Try.func63 #[.int .i64 t104] ?_;(with_reducible refine(bits_width.calls t104 t107 _ A4.out).mono ?_);rintro e w' ⟨rfl,⟨nd,rfl⟩⟩;refine⟨_,rfl,?_⟩))
 go_ret
 exact⟨by first|rfl|(simp;done)|(simp [*];done),by repeat(first|exact Drawn0.refl _|apply Drawn0.step)⟩
def bits_bytes.f (a0:Int):Option (Int):=some (wrap64 (Int.tdiv (wrap64 (a0+7)) 8))
theorem bits_bytes.calls (a0:Int) (r:Int) (w:World) (h:bits_bytes.f a0=some r) :
  Calls Try.prog 82 #[.int .i64 a0] w fun e w'=>e=.returned (.int .i64 r)∧Drawn0 w w':=by
 have H:(some (wrap64 (Int.tdiv (wrap64 (a0+7)) 8)))=some r:=h
 clear h
 obtain rfl:=Option.some.inj H
 go_enter Try.func82,Try.ntmps82
 go_wp2
 go_ret
 exact⟨by first|rfl|(simp;done)|(simp [*];done),by repeat(first|exact Drawn0.refl _|apply Drawn0.step)⟩
def bits_Check.j0:Nat→Bool→List Int→Int→Option (Int)
 |0,_,_,_=>none
 |k+1,x20,x109000,x109001=>if x20=true then(some 1)else(if(Int.tmod x109001 8)>0 then(if 0≤(wrap64 ((x109000.length:Int) - 1))then(if(wrap64 ((x109000.length:Int) - 1))<(x109000.length:Int)then(if 0≤(Int.tmod x109001 8)then(if(shl .u8 (rd x109000 (wrap64 ((x109000.length:Int) - 1))) (Int.tmod x109001 8))=0 then(some 0)else(some 1))else(none))else(none))else(none))else(some 0))
def bits_Check.f (k:Nat) (l0_0:List Int) (a0_1:Int):Option (Int):=if a0_1<0 then(bits_Check.j0 k true l0_0 a0_1)else(if a0_1>131072 then(bits_Check.j0 k true l0_0 a0_1)else((bits_bytes.f a0_1).bind fun t109=>(bits_Check.j0 k ((l0_0.length:Int) != t109) l0_0 a0_1)))
theorem bits_Check.mono_l:∀ k,(∀ y0 y1 y2,LeO (bits_Check.j0 k y0 y1 y2) (bits_Check.j0 (k+1) y0 y1 y2))
 |0=>fun _ _ _ r h=>by simp [bits_Check.j0] at h
 |k+1=>by
  have ih0:=bits_Check.mono_l k
  ·intro y0 y1 y2
   unfold bits_Check.j0
   repeat' first
   |(with_reducible exact ih0 _ _ _)
   |(with_reducible exact LeO.refl _)
   |(with_reducible exact LeO.none _)
   |(with_reducible refine LeO.ite ?_ ?_)
   |(with_reducible refine LeO.bind ?_ (fun _=>?_))
   |exact ih0 _ _ _
   |exact LeO.none _
   |refine LeO.ite ?_ ?_
   |refine LeO.bind ?_ (fun _=>?_)
theorem bits_Check.mono:∀ a0 a1 k,LeO (bits_Check.f k a0 a1) (bits_Check.f (k+1) a0 a1):=by
 intro a0 a1 k
 have ih0:=bits_Check.mono_l k
 unfold bits_Check.f
 repeat' first
   |(with_reducible exact ih0 _ _ _)
   |(with_reducible exact LeO.refl _)
   |(with_reducible exact LeO.none _)
   |(with_reducible refine LeO.ite ?_ ?_)
   |(with_reducible refine LeO.bind ?_ (fun _=>?_))
   |exact ih0 _ _ _
   |exact LeO.none _
   |refine LeO.ite ?_ ?_
   |refine LeO.bind ?_ (fun _=>?_)
theorem bits_Check.calls (k:Nat) (A0_0:Option Addr) (c0_0:Nat) (l0_0:List Int) (a0_1:Int) (r:Int) (w:World) (hr0_0:Kd.C (Kd.int .u8) w A0_0 l0_0.length l0_0) (hc0_0:l0_0.length≤c0_0) (h:bits_Check.f k l0_0 a0_1=some r) :
  Calls Try.prog 58 #[.agg #[.slice A0_0 l0_0.length c0_0,.int .i64 a0_1]] w fun e w'=>e=.returned (.int .i64 r)∧Below w.heap.size w w':=by
 have hu25:=Try.underlying25
 have HR0_0:=Aside0.mk hr0_0
 have HC0_0:=Aside0.mk hc0_0
 clear hr0_0 hc0_0
 have HB:=Aside0.mk (Below.refl w.heap.size w)
 have H:(if a0_1<0 then(bits_Check.j0 k true l0_0 a0_1)else(if a0_1>131072 then(bits_Check.j0 k true l0_0 a0_1)else((bits_bytes.f a0_1).bind fun t109=>(bits_Check.j0 k ((l0_0.length:Int) != t109) l0_0 a0_1))))=some r:=h
 clear h
 have HC2:=Aside0.mk H
 clear H
 go_enter Try.func58,Try.ntmps58
 go_upto_region 1 with(first|((with_reducible refine gate_dst (N:=1) rfl ?_);(try(refine gate_guard (by rfl) ?_;dsimp only));refine box_ev 1 #[.slice A0_0 l0_0.length c0_0,.int .i64 a0_1] 25 ?_;intro gb108 hg w3 hbox hb;have n_:=pk4 (below_step bl_ hb) (hbox) ((ge_ hg bl_:w.heap.size≤gb108)) ((ge_ hg bl_:w.heap.size≤gb108));clear HB;obtain⟨HB,BK108,GW108,GE108⟩:=n_;clear hb hbox hg))
 repeat(go_quiet (first|((with_reducible refine gate_dst (N:=1) rfl ?_);(try(refine gate_guard (by rfl) ?_;dsimp only));refine box_ev 1 #[.slice A0_0 l0_0.length c0_0,.int .i64 a0_1] 25 ?_;intro gb108 hg w3 hbox hb;have n_:=pk4 (below_step bl_ hb) (hbox) ((ge_ hg bl_:w.heap.size≤gb108)) ((ge_ hg bl_:w.heap.size≤gb108));clear HB;obtain⟨HB,BK108,GW108,GE108⟩:=n_;clear hb hbox hg));go_upto_region 1 with(first|((with_reducible refine gate_dst (N:=1) rfl ?_);(try(refine gate_guard (by rfl) ?_;dsimp only));refine box_ev 1 #[.slice A0_0 l0_0.length c0_0,.int .i64 a0_1] 25 ?_;intro gb108 hg w3 hbox hb;have n_:=pk4 (below_step bl_ hb) (hbox) ((ge_ hg bl_:w.heap.size≤gb108)) ((ge_ hg bl_:w.heap.size≤gb108));clear HB;obtain⟨HB,BK108,GW108,GE108⟩:=n_;clear hb hbox hg)))
 (try simp only [ap_,sb_,s0_,s1_])
 go_cut [20] (fun v20 wc=>∃ (kq:Nat) (x20_1:Bool),v20=.bool x20_1∧Aside0 (bits_Check.j0 kq x20_1 l0_0 a0_1=some r)∧Aside0 (kq≤k)∧Aside0 (wc.heap[gb108]?=some (.cells #[(.slice A0_0 l0_0.length c0_0),.int .i64 a0_1] 25 (0,0)))∧Aside0 (Below w.heap.size w wc))
 case first =>
  have H:=HC2.out
  clear HC2
  replace H:=dle H
  rcases H with⟨c4b0,H⟩|⟨c4b0,H⟩
  focus
   (first|rw [c4b0]|(simp only [i64_w,i32_w];rw [c4b0])|skip)
   have H':=Aside0.mk H
   clear H
   obtain⟨hcz5_0,hcz5_1,hfz5_0,hfz5_1⟩:=blk_at2 BK108.out
  rotate_left
  focus
   (first|rw [c4b0]|(simp only [i64_w,i32_w];rw [c4b0])|skip)
   replace H:=dgt H
   rcases H with⟨c6b0,H⟩|⟨c6b0,H⟩
   focus
    have H':=Aside0.mk H
    clear H
    obtain⟨hcz7_0,hcz7_1,hfz7_0,hfz7_1⟩:=blk_at2 BK108.out
   rotate_left
   focus
    replace H:=bindA H
    obtain⟨t109,A8,H⟩:=H
    try dsimp only at H
    have H':=Aside0.mk H
    clear H
    obtain⟨hcz9_0,hcz9_1,hfz9_0,hfz9_1⟩:=blk_at2 BK108.out
  all_goals
   go_wp2_with (first|(go_at_call 82;(with_reducible refine(bits_bytes.calls a0_1 t109 _ A8.out).mono ?_);rintro e w' ⟨rfl,⟨nd,rfl⟩⟩;(try first|exact⟨rfl,_,World.drewN_drewN _ _ _⟩|exact⟨rfl,_,Eq.trans (World.drewN_drewN _ _ _) (congrArg (World.drewN _) (Nat.add_assoc _ _ _))⟩)))
   repeat(go_quiet (first|(go_at_call 82;(with_reducible refine(bits_bytes.calls a0_1 t109 _ A8.out).mono ?_);rintro e w' ⟨rfl,⟨nd,rfl⟩⟩;(try first|exact⟨rfl,_,World.drewN_drewN _ _ _⟩|exact⟨rfl,_,Eq.trans (World.drewN_drewN _ _ _) (congrArg (World.drewN _) (Nat.add_assoc _ _ _))⟩)));try go_wp2_with (first|(go_at_call 82;(with_reducible refine(bits_bytes.calls a0_1 t109 _ A8.out).mono ?_);rintro e w' ⟨rfl,⟨nd,rfl⟩⟩;(try first|exact⟨rfl,_,World.drewN_drewN _ _ _⟩|exact⟨rfl,_,Eq.trans (World.drewN_drewN _ _ _) (congrArg (World.drewN _) (Nat.add_assoc _ _ _))⟩))))
   go_meet
   first
    |case rel=>exact⟨_,(true),sm_,H',⟨om_⟩,⟨(bo_ BK108)⟩,⟨bl_⟩⟩
    |case rel=>exact⟨_,(((l0_0.length:Int) != t109)),sm_,H',⟨om_⟩,⟨(bo_ BK108)⟩,⟨bl_⟩⟩
 case rest =>
  clear HC2
  obtain⟨kq,x20_1,rfl,HA,HJ1,BK108,HB⟩:=hcut
  cases kq with
  |zero=>exact absurd HA.out (by simp [bits_Check.j0])
  |succ kj1 =>
   have H:=HA.out
   clear HA
   simp only [bits_Check.j0] at H
   replace H:=dbool H
   rcases H with⟨rfl,H⟩|⟨rfl,H⟩
   focus
    obtain rfl:=Option.some.inj H
   rotate_left
   focus
    replace H:=dgt H
    rcases H with⟨c11b0,H⟩|⟨c11b0,H⟩
    focus
     obtain⟨ji12,hji12⟩:∃ j_:Int,(wrap64 ((l0_0.length:Int) - 1))=j_:=⟨_,rfl⟩
     replace H:(if 0≤(ji12)then(if(ji12)<(l0_0.length:Int)then(if 0≤(Int.tmod a0_1 8)then(if(shl .u8 (rd l0_0 (ji12)) (Int.tmod a0_1 8))=0 then(some 0)else(some 1))else(none))else(none))else(none))=some r:=by first|(rw [hji12] at H;exact H)|(simp only [hji12] at H ⊢;exact H)
     have hji12w:(IntKind.i64.wrap ((l0_0.length:Int) - 1))=ji12:=(i64_w _).trans hji12
     replace H:=dle H
     rcases H with⟨c13b0,H⟩|⟨c13b0,H⟩
     rotate_left
     ·exact absurd H (by simp)
     replace H:=dle H
     rcases H with⟨c14b0,H⟩|⟨c14b0,H⟩
     rotate_left
     ·exact absurd H (by simp)
     obtain⟨ji15,hji15⟩:∃ j_:Int,(Int.tmod a0_1 8)=j_:=⟨_,rfl⟩
     replace H:(if 0≤(ji15)then(if(shl .u8 (rd l0_0 (ji12)) (ji15))=0 then(some 0)else(some 1))else(none))=some r:=by first|(rw [hji15] at H;exact H)|(simp only [hji15] at H ⊢;exact H)
     (try rw [hji15] at c11b0)
     by_cases c16:0≤(ji15)
     rotate_left
     ·rw [if_neg c16] at H
      exact absurd H (by simp)
     rw [if_pos c16] at H
     have c16b0:=eq_true c16
     have c16b1:decide (0≤(ji15))=true:=decide_eq_true c16
     clear c16
     obtain⟨ji17,hji17⟩:∃ j_:Int,(shl .u8 (rd l0_0 (ji12)) (ji15))=j_:=⟨_,rfl⟩
     replace H:(if(ji17)=0 then(some 0)else(some 1))=some r:=by first|(rw [hji17] at H;exact H)|(simp only [hji17] at H ⊢;exact H)
     have hji17_:(IntKind.u8.wrap ((rd l0_0 (ji12))*2 ^ min (ji15).toNat 8))=ji17:=hji17
     have hji17z:(ji15)≤8→(IntKind.u8.wrap ((rd l0_0 (ji12))*2 ^ (ji15).toNat))=ji17:=shl_small hji17
     replace H:=deqn H
     rcases H with⟨c18b0,c18b1,H⟩|⟨c18b0,c18b1,c18,H⟩
     focus
      obtain rfl:=Option.some.inj H
      obtain⟨hcz19_0,hcz19_1,hfz19_0,hfz19_1⟩:=blk_at2 BK108.out
      have p110:0≤((ji12):Int):=dc_
      have q110:(ji12)<(l0_0.length:Int):=dc_
      obtain⟨ad110,e110,hx110_0⟩:=Kd.at_int HR0_0.out (ji12) p110 q110
      cases e110
      replace hx110_0:=(HB.out.cell (World.block_lt_of_cell? w _ hx110_0)).trans hx110_0
      replace p110:=eq_true p110
      replace q110:=eq_true q110
     rotate_left
     focus
      obtain rfl:=Option.some.inj H
      obtain⟨hcz20_0,hcz20_1,hfz20_0,hfz20_1⟩:=blk_at2 BK108.out
      have p110:0≤((ji12):Int):=dc_
      have q110:(ji12)<(l0_0.length:Int):=dc_
      obtain⟨ad110,e110,hx110_0⟩:=Kd.at_int HR0_0.out (ji12) p110 q110
      cases e110
      replace hx110_0:=(HB.out.cell (World.block_lt_of_cell? w _ hx110_0)).trans hx110_0
      replace p110:=eq_true p110
      replace q110:=eq_true q110
    rotate_left 2
    focus
     obtain rfl:=Option.some.inj H
     obtain⟨hcz21_0,hcz21_1,hfz21_0,hfz21_1⟩:=blk_at2 BK108.out
   all_goals
    go_wp2
    repeat(go_quiet (fail);try go_wp2)
    go_ret
    first
     |exact⟨rf_,bl_⟩
     |exact⟨by first|rfl|(simp [errW_none,errW_some]<;>rfl)|(simp only [←hji12,←hji15,←hji17];first|rfl|(simp [errW_none,errW_some]<;>rfl))|(simp [*,errW_none,errW_some]<;>rfl),bl_⟩
end Go.Proofs.Ytmddmbagehjdeaa.G
end
section
namespace Go.Proofs.Ytmddmbagehjdeaa.G
open Go.RowKit Go.Proofs.YtmddmbagehjdeaaX Go.Proofs.YtmddmbagehjdeaaW.PrintWords Go.Proofs.YtmddmbagehjdeaaW.PrintLast Go.Proofs.YtmddmbagehjdeaaW.PrintMore
attribute [local go_sem] max2_int min2_int max_two min_two max_three min_three max_four min_four
def block_Check.l0:Nat→List (S67)→List (S67)→Int→Int→Option (Int)
 |0,_,_,_,_=>none
 |k+1,x0,x8,x9,x10=>if x10<x9 then(if 0≤x10 then(if x10<(x8.length:Int)then(if((rd_T67 x8 x10).f0)<0 then(some 1)else(if((rd_T67 x8 x10).f0)>1099511627776 then(some 1)else(if((rd_T67 x8 x10).f1)<(-1099511627776)then(some 1)else(if((rd_T67 x8 x10).f1)>1099511627776 then(some 1)else(if x10>0 then(if 0≤(wrap64 (x10 - 1))then(if(wrap64 (x10 - 1))<(x0.length:Int)then(if((rd_T67 x8 x10).f0)≤((rd_T67 x0 (wrap64 (x10 - 1))).f0)then(some 1)else(block_Check.l0 k x0 x8 x9 (wrap64 (x10+1))))else(none))else(none))else(block_Check.l0 k x0 x8 x9 (wrap64 (x10+1))))))))else(none))else(none))else(some 0)
def block_Check.f (k:Nat) (l0:List (S67)):Option (Int):=if(l0.length:Int)>64 then(some 1)else(block_Check.l0 k l0 l0 (l0.length:Int) 0)
theorem block_Check.mono_l:∀ k,(∀ y0 y1 y2 y3,LeO (block_Check.l0 k y0 y1 y2 y3) (block_Check.l0 (k+1) y0 y1 y2 y3))
 |0=>fun _ _ _ _ r h=>by simp [block_Check.l0] at h
 |k+1=>by
  have ih0:=block_Check.mono_l k
  ·intro y0 y1 y2 y3
   unfold block_Check.l0
   repeat' first
   |(with_reducible exact ih0 _ _ _ _)
   |(with_reducible exact LeO.refl _)
   |(with_reducible exact LeO.none _)
   |(with_reducible refine LeO.ite ?_ ?_)
   |(with_reducible refine LeO.bind ?_ (fun _=>?_))
   |exact ih0 _ _ _ _
   |exact LeO.none _
   |refine LeO.ite ?_ ?_
   |refine LeO.bind ?_ (fun _=>?_)
theorem block_Check.mono:∀ a0 k,LeO (block_Check.f k a0) (block_Check.f (k+1) a0):=by
 intro a0 k
 have ih0:=block_Check.mono_l k
 unfold block_Check.f
 repeat' first
   |(with_reducible exact ih0 _ _ _ _)
   |(with_reducible exact LeO.refl _)
   |(with_reducible exact LeO.none _)
   |(with_reducible refine LeO.ite ?_ ?_)
   |(with_reducible refine LeO.bind ?_ (fun _=>?_))
   |exact ih0 _ _ _ _
   |exact LeO.none _
   |refine LeO.ite ?_ ?_
   |refine LeO.bind ?_ (fun _=>?_)
theorem block_Check.calls (k:Nat) (A0:Option Addr) (c0:Nat) (l0:List (S67)) (r:Int) (w:World) (hr0:Kd.C k67 w A0 l0.length l0) (hc0:l0.length≤c0) (h:block_Check.f k l0=some r) :
  Calls Try.prog 75 #[.slice A0 l0.length c0] w fun e w'=>e=.returned (.int .i64 r)∧Below w.heap.size w w':=by
 have hu67:=Try.underlying67
 have HR0:=Aside0.mk hr0
 have HC0:=Aside0.mk hc0
 clear hr0 hc0
 have HB:=Aside0.mk (Below.refl w.heap.size w)
 have H:(if(l0.length:Int)>64 then(some 1)else(block_Check.l0 k l0 l0 (l0.length:Int) 0))=some r:=h
 clear h
 by_cases c2:(l0.length:Int)>64
 rotate_left
 ·rw [if_neg c2] at H
  have c2b0:decide (64<(l0.length:Int))=false:=decide_eq_false c2
  have c2b1:decide (64<l0.length)=false:=decide_eq_false (by omega)
  clear c2
  have H':=Aside0.mk H
  clear H
  go_enter Try.func75,Try.ntmps75
  go_wp2
  repeat(go_quiet (fail);try go_wp2)
  go_loopg [10] k (fun kq v10 w'=>∃ (x10_1:Int),v10=.int .i64 x10_1∧Aside0 (block_Check.l0 kq l0 l0 (l0.length:Int) x10_1=some r)∧Aside0 (kq≤k)∧Aside0 (Below w.heap.size w w'))
  case atStart=>exact⟨(0),sm_,H',⟨Nat.le_refl _⟩,⟨bl_⟩⟩
  case round =>
   clear H'
   try clear c2
   try clear c2b0
   try clear c2b1
   obtain⟨x10_1,rfl,HA,HK1,HB⟩:=hrel
   cases gk with
   |zero=>exact absurd HA.out (by simp [block_Check.l0])
   |succ k1 =>
    have H:=HA.out
    clear HA
    simp only [block_Check.l0] at H
    replace H:=dle H
    rcases H with⟨c3b0,H⟩|⟨c3b0,H⟩
    focus
     replace H:=dle H
     rcases H with⟨c4b0,H⟩|⟨c4b0,H⟩
     rotate_left
     ·exact absurd H (by simp)
     replace H:=dle H
     rcases H with⟨c5b0,H⟩|⟨c5b0,H⟩
     rotate_left
     ·exact absurd H (by simp)
     replace H:=dle H
     rcases H with⟨c6b0,H⟩|⟨c6b0,H⟩
     focus
      obtain rfl:=Option.some.inj H
      have p466:0≤(x10_1:Int):=dc_
      have q466:x10_1<(l0.length:Int):=dc_
      obtain⟨ad466,e466,hx466_0,hx466_1⟩:=at_T67 HR0.out x10_1 p466 q466
      cases e466
      replace hx466_0:=(HB.out.cell (World.block_lt_of_cell? w _ hx466_0)).trans hx466_0
      replace hx466_1:=(HB.out.cell (World.block_lt_of_cell? w _ hx466_1)).trans hx466_1
      replace p466:=eq_true p466
      replace q466:=eq_true q466
     rotate_left
     focus
      replace H:=dgt H
      rcases H with⟨c9b0,H⟩|⟨c9b0,H⟩
      focus
       obtain rfl:=Option.some.inj H
       have p466:0≤(x10_1:Int):=dc_
       have q466:x10_1<(l0.length:Int):=dc_
       obtain⟨ad466,e466,hx466_0,hx466_1⟩:=at_T67 HR0.out x10_1 p466 q466
       cases e466
       replace hx466_0:=(HB.out.cell (World.block_lt_of_cell? w _ hx466_0)).trans hx466_0
       replace hx466_1:=(HB.out.cell (World.block_lt_of_cell? w _ hx466_1)).trans hx466_1
       replace p466:=eq_true p466
       replace q466:=eq_true q466
      rotate_left
      focus
       replace H:=dle H
       rcases H with⟨c12b0,H⟩|⟨c12b0,H⟩
       focus
        obtain rfl:=Option.some.inj H
        have p466:0≤(x10_1:Int):=dc_
        have q466:x10_1<(l0.length:Int):=dc_
        obtain⟨ad466,e466,hx466_0,hx466_1⟩:=at_T67 HR0.out x10_1 p466 q466
        cases e466
        replace hx466_0:=(HB.out.cell (World.block_lt_of_cell? w _ hx466_0)).trans hx466_0
        replace hx466_1:=(HB.out.cell (World.block_lt_of_cell? w _ hx466_1)).trans hx466_1
        replace p466:=eq_true p466
        replace q466:=eq_true q466
       rotate_left
       focus
        replace H:=dgt H
        rcases H with⟨c15b0,H⟩|⟨c15b0,H⟩
        focus
         obtain rfl:=Option.some.inj H
         have p466:0≤(x10_1:Int):=dc_
         have q466:x10_1<(l0.length:Int):=dc_
         obtain⟨ad466,e466,hx466_0,hx466_1⟩:=at_T67 HR0.out x10_1 p466 q466
         cases e466
         replace hx466_0:=(HB.out.cell (World.block_lt_of_cell? w _ hx466_0)).trans hx466_0
         replace hx466_1:=(HB.out.cell (World.block_lt_of_cell? w _ hx466_1)).trans hx466_1
         replace p466:=eq_true p466
         replace q466:=eq_true q466
        rotate_left
        focus
         replace H:=dgt H
         rcases H with⟨c18b0,H⟩|⟨c18b0,H⟩
         focus
          obtain⟨ji19,hji19⟩:∃ j_:Int,(wrap64 (x10_1 - 1))=j_:=⟨_,rfl⟩
          replace H:(if 0≤(ji19)then(if(ji19)<(l0.length:Int)then(if((rd_T67 l0 x10_1).f0)≤((rd_T67 l0 (ji19)).f0)then(some 1)else(block_Check.l0 k1 l0 l0 (l0.length:Int) (wrap64 (x10_1+1))))else(none))else(none))=some r:=by first|(rw [hji19] at H;exact H)|(simp only [hji19] at H ⊢;exact H)
          have hji19w:(IntKind.i64.wrap (x10_1 - 1))=ji19:=(i64_w _).trans hji19
          replace H:=dle H
          rcases H with⟨c20b0,H⟩|⟨c20b0,H⟩
          rotate_left
          ·exact absurd H (by simp)
          replace H:=dle H
          rcases H with⟨c21b0,H⟩|⟨c21b0,H⟩
          rotate_left
          ·exact absurd H (by simp)
          replace H:=dle H
          rcases H with⟨c22b0,H⟩|⟨c22b0,H⟩
          focus
           obtain rfl:=Option.some.inj H
           have p466:0≤(x10_1:Int):=dc_
           have q466:x10_1<(l0.length:Int):=dc_
           obtain⟨ad466,e466,hx466_0,hx466_1⟩:=at_T67 HR0.out x10_1 p466 q466
           cases e466
           replace hx466_0:=(HB.out.cell (World.block_lt_of_cell? w _ hx466_0)).trans hx466_0
           replace hx466_1:=(HB.out.cell (World.block_lt_of_cell? w _ hx466_1)).trans hx466_1
           replace p466:=eq_true p466
           replace q466:=eq_true q466
          rotate_left
          focus
           have H':=Aside0.mk H
           clear H
           have p466:0≤(x10_1:Int):=dc_
           have q466:x10_1<(l0.length:Int):=dc_
           obtain⟨ad466,e466,hx466_0,hx466_1⟩:=at_T67 HR0.out x10_1 p466 q466
           cases e466
           replace hx466_0:=(HB.out.cell (World.block_lt_of_cell? w _ hx466_0)).trans hx466_0
           replace hx466_1:=(HB.out.cell (World.block_lt_of_cell? w _ hx466_1)).trans hx466_1
           replace p466:=eq_true p466
           replace q466:=eq_true q466
         rotate_left 2
         focus
          have H':=Aside0.mk H
          clear H
          have p466:0≤(x10_1:Int):=dc_
          have q466:x10_1<(l0.length:Int):=dc_
          obtain⟨ad466,e466,hx466_0,hx466_1⟩:=at_T67 HR0.out x10_1 p466 q466
          cases e466
          replace hx466_0:=(HB.out.cell (World.block_lt_of_cell? w _ hx466_0)).trans hx466_0
          replace hx466_1:=(HB.out.cell (World.block_lt_of_cell? w _ hx466_1)).trans hx466_1
          replace p466:=eq_true p466
          replace q466:=eq_true q466
    rotate_left 7
    focus
     obtain rfl:=Option.some.inj H
    all_goals
     go_wp2_with (first|((with_reducible refine gate_dst (N:=4) rfl ?_);refine box_ev 4 #[.int .i64 0,.int .i64 0] 67 ?_;intro gb7000 hg w7000 hbox hb;have n_:=pk4 (below_step bl_ hb) (hbox) ((ge_ hg bl_:w.heap.size≤gb7000)) ((ge_ hg bl_:w.heap.size≤gb7000));clear HB;obtain⟨HB,BK7000,GW7000,GE7000⟩:=n_;clear hb hbox hg;have hcz7000_0:w7000.cell? ⟨gb7000,0,none⟩=some (.int .i64 0):=(blk_cell BK7000.out 0).trans rfl;have hcz7000_1:w7000.cell? ⟨gb7000,1,none⟩=some (.int .i64 0):=(blk_cell BK7000.out 1).trans rfl;have hfz7000_0:=blk_frozen BK7000.out 0;have hfz7000_1:=blk_frozen BK7000.out 1;(try(have p7000:0≤((ji19):Int):=dc_;have q7000:(ji19)<(l0.length:Int):=dc_;obtain⟨ad7000,e7000,hx7000_0,hx7000_1⟩:=at_T67 HR0.out (ji19) p7000 q7000;obtain rfl:ad466=ad7000:=(by injection e7000);have hn7000_0:ad466.block≠gb7000:=Nat.ne_of_lt (Nat.lt_of_lt_of_le (by have:=World.block_lt_of_cell? _ _ hx7000_0;first|rwa [add_block] at this|exact this) GW7000.out);have hn7000_1:ad466.block≠gb7000:=Nat.ne_of_lt (Nat.lt_of_lt_of_le (by have:=World.block_lt_of_cell? _ _ hx7000_0;first|rwa [add_block] at this|exact this) GW7000.out);replace hx7000_0:=(HB.out.cell (World.block_lt_of_cell? w _ hx7000_0)).trans hx7000_0;replace hx7000_1:=(HB.out.cell (World.block_lt_of_cell? w _ hx7000_1)).trans hx7000_1;replace hx7000_0:=(cell_far (p:=⟨gb7000,0,none⟩) (by first|(rw [add_block];exact hn7000_0)|(show(Addr.add _ _).block≠_;rw [add_block];exact hn7000_0)|exact hn7000_0) (.int .i64 ((rd_T67 l0 x10_1).f0))).trans hx7000_0;replace hx7000_1:=(cell_far (p:=⟨gb7000,0,none⟩) (by first|(rw [add_block];exact hn7000_0)|(show(Addr.add _ _).block≠_;rw [add_block];exact hn7000_0)|exact hn7000_0) (.int .i64 ((rd_T67 l0 x10_1).f0))).trans hx7000_1;replace hx7000_0:=(cell_far (p:=⟨gb7000,1,none⟩) (by first|(rw [add_block];exact hn7000_1)|(show(Addr.add _ _).block≠_;rw [add_block];exact hn7000_1)|exact hn7000_1) (.int .i64 ((rd_T67 l0 x10_1).f1))).trans hx7000_0;replace hx7000_1:=(cell_far (p:=⟨gb7000,1,none⟩) (by first|(rw [add_block];exact hn7000_1)|(show(Addr.add _ _).block≠_;rw [add_block];exact hn7000_1)|exact hn7000_1) (.int .i64 ((rd_T67 l0 x10_1).f1))).trans hx7000_1;(try have hy7000_0:=fun(n_:Nat)=>(show((((w7000.drewN n_).setCell ⟨gb7000,0,none⟩ (.int .i64 ((rd_T67 l0 x10_1).f0))).setCell ⟨gb7000,1,none⟩ (.int .i64 ((rd_T67 l0 x10_1).f1)))).cell? _=some _ from hx7000_0));(try have hy7000_1:=fun(n_:Nat)=>(show((((w7000.drewN n_).setCell ⟨gb7000,0,none⟩ (.int .i64 ((rd_T67 l0 x10_1).f0))).setCell ⟨gb7000,1,none⟩ (.int .i64 ((rd_T67 l0 x10_1).f1)))).cell? _=some _ from hx7000_1));clear hn7000_0;clear hn7000_1;replace p7000:=eq_true p7000;replace q7000:=eq_true q7000))))
     repeat(go_quiet (first|((with_reducible refine gate_dst (N:=4) rfl ?_);refine box_ev 4 #[.int .i64 0,.int .i64 0] 67 ?_;intro gb7000 hg w7000 hbox hb;have n_:=pk4 (below_step bl_ hb) (hbox) ((ge_ hg bl_:w.heap.size≤gb7000)) ((ge_ hg bl_:w.heap.size≤gb7000));clear HB;obtain⟨HB,BK7000,GW7000,GE7000⟩:=n_;clear hb hbox hg;have hcz7000_0:w7000.cell? ⟨gb7000,0,none⟩=some (.int .i64 0):=(blk_cell BK7000.out 0).trans rfl;have hcz7000_1:w7000.cell? ⟨gb7000,1,none⟩=some (.int .i64 0):=(blk_cell BK7000.out 1).trans rfl;have hfz7000_0:=blk_frozen BK7000.out 0;have hfz7000_1:=blk_frozen BK7000.out 1;(try(have p7000:0≤((ji19):Int):=dc_;have q7000:(ji19)<(l0.length:Int):=dc_;obtain⟨ad7000,e7000,hx7000_0,hx7000_1⟩:=at_T67 HR0.out (ji19) p7000 q7000;obtain rfl:ad466=ad7000:=(by injection e7000);have hn7000_0:ad466.block≠gb7000:=Nat.ne_of_lt (Nat.lt_of_lt_of_le (by have:=World.block_lt_of_cell? _ _ hx7000_0;first|rwa [add_block] at this|exact this) GW7000.out);have hn7000_1:ad466.block≠gb7000:=Nat.ne_of_lt (Nat.lt_of_lt_of_le (by have:=World.block_lt_of_cell? _ _ hx7000_0;first|rwa [add_block] at this|exact this) GW7000.out);replace hx7000_0:=(HB.out.cell (World.block_lt_of_cell? w _ hx7000_0)).trans hx7000_0;replace hx7000_1:=(HB.out.cell (World.block_lt_of_cell? w _ hx7000_1)).trans hx7000_1;replace hx7000_0:=(cell_far (p:=⟨gb7000,0,none⟩) (by first|(rw [add_block];exact hn7000_0)|(show(Addr.add _ _).block≠_;rw [add_block];exact hn7000_0)|exact hn7000_0) (.int .i64 ((rd_T67 l0 x10_1).f0))).trans hx7000_0;replace hx7000_1:=(cell_far (p:=⟨gb7000,0,none⟩) (by first|(rw [add_block];exact hn7000_0)|(show(Addr.add _ _).block≠_;rw [add_block];exact hn7000_0)|exact hn7000_0) (.int .i64 ((rd_T67 l0 x10_1).f0))).trans hx7000_1;replace hx7000_0:=(cell_far (p:=⟨gb7000,1,none⟩) (by first|(rw [add_block];exact hn7000_1)|(show(Addr.add _ _).block≠_;rw [add_block];exact hn7000_1)|exact hn7000_1) (.int .i64 ((rd_T67 l0 x10_1).f1))).trans hx7000_0;replace hx7000_1:=(cell_far (p:=⟨gb7000,1,none⟩) (by first|(rw [add_block];exact hn7000_1)|(show(Addr.add _ _).block≠_;rw [add_block];exact hn7000_1)|exact hn7000_1) (.int .i64 ((rd_T67 l0 x10_1).f1))).trans hx7000_1;(try have hy7000_0:=fun(n_:Nat)=>(show((((w7000.drewN n_).setCell ⟨gb7000,0,none⟩ (.int .i64 ((rd_T67 l0 x10_1).f0))).setCell ⟨gb7000,1,none⟩ (.int .i64 ((rd_T67 l0 x10_1).f1)))).cell? _=some _ from hx7000_0));(try have hy7000_1:=fun(n_:Nat)=>(show((((w7000.drewN n_).setCell ⟨gb7000,0,none⟩ (.int .i64 ((rd_T67 l0 x10_1).f0))).setCell ⟨gb7000,1,none⟩ (.int .i64 ((rd_T67 l0 x10_1).f1)))).cell? _=some _ from hx7000_1));clear hn7000_0;clear hn7000_1;replace p7000:=eq_true p7000;replace q7000:=eq_true q7000))));try go_wp2_with (first|((with_reducible refine gate_dst (N:=4) rfl ?_);refine box_ev 4 #[.int .i64 0,.int .i64 0] 67 ?_;intro gb7000 hg w7000 hbox hb;have n_:=pk4 (below_step bl_ hb) (hbox) ((ge_ hg bl_:w.heap.size≤gb7000)) ((ge_ hg bl_:w.heap.size≤gb7000));clear HB;obtain⟨HB,BK7000,GW7000,GE7000⟩:=n_;clear hb hbox hg;have hcz7000_0:w7000.cell? ⟨gb7000,0,none⟩=some (.int .i64 0):=(blk_cell BK7000.out 0).trans rfl;have hcz7000_1:w7000.cell? ⟨gb7000,1,none⟩=some (.int .i64 0):=(blk_cell BK7000.out 1).trans rfl;have hfz7000_0:=blk_frozen BK7000.out 0;have hfz7000_1:=blk_frozen BK7000.out 1;(try(have p7000:0≤((ji19):Int):=dc_;have q7000:(ji19)<(l0.length:Int):=dc_;obtain⟨ad7000,e7000,hx7000_0,hx7000_1⟩:=at_T67 HR0.out (ji19) p7000 q7000;obtain rfl:ad466=ad7000:=(by injection e7000);have hn7000_0:ad466.block≠gb7000:=Nat.ne_of_lt (Nat.lt_of_lt_of_le (by have:=World.block_lt_of_cell? _ _ hx7000_0;first|rwa [add_block] at this|exact this) GW7000.out);have hn7000_1:ad466.block≠gb7000:=Nat.ne_of_lt (Nat.lt_of_lt_of_le (by have:=World.block_lt_of_cell? _ _ hx7000_0;first|rwa [add_block] at this|exact this) GW7000.out);replace hx7000_0:=(HB.out.cell (World.block_lt_of_cell? w _ hx7000_0)).trans hx7000_0;replace hx7000_1:=(HB.out.cell (World.block_lt_of_cell? w _ hx7000_1)).trans hx7000_1;replace hx7000_0:=(cell_far (p:=⟨gb7000,0,none⟩) (by first|(rw [add_block];exact hn7000_0)|(show(Addr.add _ _).block≠_;rw [add_block];exact hn7000_0)|exact hn7000_0) (.int .i64 ((rd_T67 l0 x10_1).f0))).trans hx7000_0;replace hx7000_1:=(cell_far (p:=⟨gb7000,0,none⟩) (by first|(rw [add_block];exact hn7000_0)|(show(Addr.add _ _).block≠_;rw [add_block];exact hn7000_0)|exact hn7000_0) (.int .i64 ((rd_T67 l0 x10_1).f0))).trans hx7000_1;replace hx7000_0:=(cell_far (p:=⟨gb7000,1,none⟩) (by first|(rw [add_block];exact hn7000_1)|(show(Addr.add _ _).block≠_;rw [add_block];exact hn7000_1)|exact hn7000_1) (.int .i64 ((rd_T67 l0 x10_1).f1))).trans hx7000_0;replace hx7000_1:=(cell_far (p:=⟨gb7000,1,none⟩) (by first|(rw [add_block];exact hn7000_1)|(show(Addr.add _ _).block≠_;rw [add_block];exact hn7000_1)|exact hn7000_1) (.int .i64 ((rd_T67 l0 x10_1).f1))).trans hx7000_1;(try have hy7000_0:=fun(n_:Nat)=>(show((((w7000.drewN n_).setCell ⟨gb7000,0,none⟩ (.int .i64 ((rd_T67 l0 x10_1).f0))).setCell ⟨gb7000,1,none⟩ (.int .i64 ((rd_T67 l0 x10_1).f1)))).cell? _=some _ from hx7000_0));(try have hy7000_1:=fun(n_:Nat)=>(show((((w7000.drewN n_).setCell ⟨gb7000,0,none⟩ (.int .i64 ((rd_T67 l0 x10_1).f0))).setCell ⟨gb7000,1,none⟩ (.int .i64 ((rd_T67 l0 x10_1).f1)))).cell? _=some _ from hx7000_1));clear hn7000_0;clear hn7000_1;replace p7000:=eq_true p7000;replace q7000:=eq_true q7000)))))
     first
      |go_ret
       first
        |exact⟨rf_,bl_⟩
        |exact⟨by first|rfl|(simp [errW_none,errW_some]<;>rfl)|(simp only [←hji19];first|rfl|(simp [errW_none,errW_some]<;>rfl))|(simp [*,errW_none,errW_some]<;>rfl),bl_⟩
      |go_roundg k1
       case measure=>have:=HK1.out;omega
       case rel=>exact⟨(wrap64 (x10_1+1)),sm_,H',⟨by have:=HK1.out;omega⟩,⟨bl_⟩⟩
 rw [if_pos c2] at H
 have c2b0:decide (64<(l0.length:Int))=true:=decide_eq_true c2
 have c2b1:decide (64<l0.length)=true:=decide_eq_true (by omega)
 clear c2
 obtain rfl:=Option.some.inj H
 go_enter Try.func75,Try.ntmps75
 go_wp2
 repeat(go_quiet (fail);try go_wp2)
 go_ret
 exact⟨rf_,bl_⟩
end Go.Proofs.Ytmddmbagehjdeaa.G
end
section
namespace Go.Proofs.Ytmddmbagehjdeaa.G
open Go.RowKit Go.Proofs.YtmddmbagehjdeaaX Go.Proofs.YtmddmbagehjdeaaW.PrintWords Go.Proofs.YtmddmbagehjdeaaW.PrintLast Go.Proofs.YtmddmbagehjdeaaW.PrintMore
attribute [local go_sem] max2_int min2_int max_two min_two max_three min_three max_four min_four
def block_Pack.l0:Nat→List (S67)→Int→Int→List Int→Int→Int→Int→Int→Option (List Int×List ByteArray×Int)
 |0,_,_,_,_,_,_,_,_=>none
 |k+1,x21,x22,x23,x475000,x476000,x476001,x477000,x477001=>if x23<x22 then(if 0≤x23 then(if x23<(x21.length:Int)then((some (([wrap64 ((wrap64 (((rd_T67 x21 x23).f0) - x476000)) - x477000),wrap64 ((wrap64 (((rd_T67 x21 x23).f1) - x476001)) - x477001)]:List Int):List Int)).bind fun y480=>(if x475000.length+y480.length<17592186044416 then((some (x475000++y480:List Int)).bind fun y483=>(if x23>0 then(block_Pack.l0 k x21 x22 (wrap64 (x23+1)) y483 ((rd_T67 x21 x23).f0) ((rd_T67 x21 x23).f1) (wrap64 (((rd_T67 x21 x23).f0) - x476000)) (wrap64 (((rd_T67 x21 x23).f1) - x476001)))else(block_Pack.l0 k x21 x22 (wrap64 (x23+1)) y483 ((rd_T67 x21 x23).f0) ((rd_T67 x21 x23).f1) x477000 x477001)))else(none)))else(none))else(none))else(some (x475000,([]:List ByteArray),0))
def block_Pack.f (k:Nat) (l0:List (S67)):Option (List Int×List ByteArray×Int):=(block_Check.f k l0).bind fun t470=>(if t470=0 then(block_Pack.l0 k l0 (l0.length:Int) 0 (([(l0.length:Int)]:List Int)) 0 0 0 0)else(some (([]:List Int),([]:List ByteArray),t470)))
theorem block_Pack.mono_l:∀ k,(∀ y0 y1 y2 y3 y4 y5 y6 y7,LeO (block_Pack.l0 k y0 y1 y2 y3 y4 y5 y6 y7) (block_Pack.l0 (k+1) y0 y1 y2 y3 y4 y5 y6 y7))
 |0=>fun _ _ _ _ _ _ _ _ r h=>by simp [block_Pack.l0] at h
 |k+1=>by
  have ih0:=block_Pack.mono_l k
  ·intro y0 y1 y2 y3 y4 y5 y6 y7
   unfold block_Pack.l0
   repeat' first
   |(with_reducible exact ih0 _ _ _ _ _ _ _ _)
   |(with_reducible exact block_Check.mono _ _)
   |(with_reducible exact LeO.refl _)
   |(with_reducible exact LeO.none _)
   |(with_reducible refine LeO.ite ?_ ?_)
   |(with_reducible refine LeO.bind ?_ (fun _=>?_))
   |exact ih0 _ _ _ _ _ _ _ _
   |exact block_Check.mono _ _
   |exact LeO.none _
   |refine LeO.ite ?_ ?_
   |refine LeO.bind ?_ (fun _=>?_)
theorem block_Pack.mono:∀ a0 k,LeO (block_Pack.f k a0) (block_Pack.f (k+1) a0):=by
 intro a0 k
 have ih0:=block_Pack.mono_l k
 unfold block_Pack.f
 repeat' first
   |(with_reducible exact ih0 _ _ _ _ _ _ _ _)
   |(with_reducible exact block_Check.mono _ _)
   |(with_reducible exact LeO.refl _)
   |(with_reducible exact LeO.none _)
   |(with_reducible refine LeO.ite ?_ ?_)
   |(with_reducible refine LeO.bind ?_ (fun _=>?_))
   |exact ih0 _ _ _ _ _ _ _ _
   |exact block_Check.mono _ _
   |exact LeO.none _
   |refine LeO.ite ?_ ?_
   |refine LeO.bind ?_ (fun _=>?_)
theorem block_Pack.calls (k:Nat) (A0:Option Addr) (c0:Nat) (l0:List (S67)) (r1:List Int) (r2:List ByteArray) (r3:Int) (w:World) (hr0:Kd.C k67 w A0 l0.length l0) (hc0:l0.length≤c0) (h:block_Pack.f k l0=some (r1,r2,r3)) :
  Calls Try.prog 70 #[.slice A0 l0.length c0] w fun e w'=>∃ v0_ v1_:Value,e=.returned (.tuple #[.agg #[v0_,v1_],.int .i64 r3])∧Kd.R (Kd.int .i64) 3 w' w.heap.size (fun _=>True) v0_ r1∧Kd.R Kd.string 9 w' w.heap.size (fun _=>True) v1_ r2∧Below w.heap.size w w':=by
 have hu98:=Try.underlying98
 have hu67:=Try.underlying67
 have HR0:=Aside0.mk hr0
 have HC0:=Aside0.mk hc0
 clear hr0 hc0
 have HB:=Aside0.mk (Below.refl w.heap.size w)
 have H:((block_Check.f k l0).bind fun t470=>(if t470=0 then(block_Pack.l0 k l0 (l0.length:Int) 0 (([(l0.length:Int)]:List Int)) 0 0 0 0)else(some (([]:List Int),([]:List ByteArray),t470))))=some (r1,r2,r3):=h
 clear h
 replace H:=bindA H
 obtain⟨t470,A2,H⟩:=H
 try dsimp only at H
 replace H:=deqn H
 rcases H with⟨c3b0,c3b1,H⟩|⟨c3b0,c3b1,c3,H⟩
 ·obtain⟨y471,hy471⟩:∃ y_:List Int,y_=(([(l0.length:Int)]:List Int)):=⟨_,rfl⟩
  replace H:(block_Pack.l0 k l0 (l0.length:Int) 0 y471 0 0 0 0)=some (r1,r2,r3):=by first|(rw [hy471];with_reducible exact H)|(have H2_:=(Option.bind_some _ _).symm.trans H;rw [hy471];with_reducible exact H2_)|(have H2_:=(Option.bind_some _ _).symm.trans H;with_reducible exact H2_)|with_reducible exact H|(rw [hy471];exact H)|exact H
  have Ny471:=Aside0.mk hy471
  clear hy471
  have H':=Aside0.mk H
  clear H
  go_enter Try.func70,Try.ntmps70
  go_wp2_with (first|((with_reducible refine gate_dst (N:=2) rfl ?_);refine box_ev 2 #[.slice none 0 0,.slice none 0 0] 98 ?_;intro gb469 hg w4 hbox hb;have n_:=pk4 (below_step bl_ hb) (hbox) ((ge_ hg bl_:w.heap.size≤gb469)) ((ge_ hg bl_:w.heap.size≤gb469));clear HB;obtain⟨HB,BK469,GW469,GE469⟩:=n_;clear hb hbox hg)|((with_reducible refine gate_callee (f:=75) rfl ?_);refine goL_ (some 12) Try.func75 #[.slice A0 l0.length c0] ?_;(with_reducible refine(block_Check.calls k _ _ l0 t470 _ ?side1 ?side2 A2.out).mono ?_);(case side1=>exact cb_ HR0);(case side2=>exact HC0.out);rintro e w5 ⟨rfl,hb⟩;refine⟨_,rfl,?_⟩;have n_:=pk2 (blk_below (bo_ BK469) hb) (below_step bl_ hb);clear BK469 HB;obtain⟨BK469,HB⟩:=n_;(try clear hb))|((with_reducible refine gate_dst (N:=19) rfl ?_);refine Kd.R_lit (Kd.int .i64) _ 3 ?hg (N:=19) ?hd (xs:=([(l0.length:Int)]:List Int)) (inner:=[.int .i64 (l0.length:Int)]) (ok:=fun _=>True) (okp:=fun _=>True) ?hr ?hp (fun _ hk=>hk) trivial (Below.refl _ _) (Nat.le_refl _) (by simp) ?_;(case hd=>rfl);(case hg=>rfl);(case hr=>first|(go_simp;done)|(go_simp;rfl));(case hp=>exact(Reps.one (show Kd.M (Kd.int .i64) _ _ _ (l0.length:Int) [.int .i64 (l0.length:Int)] from rfl) (Reps.none _ _)));intro v472 w6 ho7 hb hg_ hnew_;clear hg_ hnew_;(first|rw [←Ny471.out] at ho7|(simp only [Int.reduceToNat] at ho7;rw [←Ny471.out] at ho7));have n_:=pk3 (Kd.R_lower ho7 (below_size bl_)) (blk_below (bo_ BK469) hb) (below_step bl_ hb);clear BK469 HB;obtain⟨HO473,BK469,HB⟩:=n_;clear hb ho7;obtain⟨Ao8,co8,eo8⟩:=Kd.R_slice HO473.out;subst eo8)|((with_reducible refine gate_dst (N:=5) rfl ?_);refine box_ev 5 #[.slice none 0 0,.slice none 0 0] 98 ?_;intro gb474 hg w9 hbox hb;have n_:=pk8 (Kd.R_below (ro_ HO473) hb) (blk_below (bo_ BK469) hb) (below_step bl_ hb) (hbox) ((ge_ hg bl_:w.heap.size≤gb474)) ((ge_ hg bl_:w.heap.size≤gb474)) ((nb_ hg (bo_ BK469):gb469≠gb474)) ((nc_ hg (bo_ BK469):gb474≠gb469));clear HO473 BK469 HB;obtain⟨HO473,BK469,HB,BK474,GW474,GE474,NB469_474,NB474_469⟩:=n_;clear hb hbox hg;have hnb10:=NB474_469.out;have hnc10:=NB469_474.out;have hcz11_0:w9.cell? ⟨gb474,0,none⟩=some (.slice none 0 0):=(blk_cell BK474.out 0).trans rfl;have hcz11_1:w9.cell? ⟨gb474,1,none⟩=some (.slice none 0 0):=(blk_cell BK474.out 1).trans rfl;have hfz11_0:=blk_frozen BK474.out 0;have hfz11_1:=blk_frozen BK474.out 1)|((with_reducible refine gate_dst (N:=6) rfl ?_);refine box_ev 6 #[.int .i64 0,.int .i64 0] 67 ?_;intro gb475 hg w12 hbox hb;have n_:=pk11 (Kd.R_below (rt_ ((Kd.R_mono (Kd.R_far (p:=⟨gb474,1,none⟩) (Kd.R_far (p:=⟨gb474,0,none⟩) (Kd.R_types HO473.out BK474.out (by decide)) (fun _ hk=>hk.2) (.slice Ao8 y471.length co8)) (fun _ hk=>hk.2) (.slice none 0 0)) (fun _ h_=>h_.1)))) hb) (blk_below (g:=gb469) (o:=.cells #[.slice none 0 0,.slice none 0 0] 98 (0,0)) (by(with_reducible repeat(first|refine blk_drewN ?_ _|refine blk_drew ?_|refine blk_alloc ?_ _));refine blk_far ?_ NB469_474.out _;(with_reducible repeat(first|refine blk_drewN ?_ _|refine blk_drew ?_|refine blk_alloc ?_ _));refine blk_far ?_ NB469_474.out _;exact(bo_ BK469)) hb) (blk_below (g:=gb474) (o:=.cells #[.slice Ao8 y471.length co8,.slice none 0 0] 98 (0,0)) (by(with_reducible repeat(first|refine blk_drewN ?_ _|refine blk_drew ?_|refine blk_alloc ?_ _));refine blk_put (cs:=#[.slice Ao8 y471.length co8,.slice none 0 0]) ?_ 1 _ rfl;(with_reducible repeat(first|refine blk_drewN ?_ _|refine blk_drew ?_|refine blk_alloc ?_ _));refine blk_put (cs:=#[.slice none 0 0,.slice none 0 0]) ?_ 0 _ rfl;exact(bo_ BK474)) hb) (below_step bl_ hb) (hbox) ((ge_ hg bl_:w.heap.size≤gb475)) ((ge_ hg bl_:w.heap.size≤gb475)) ((by rw [hg];exact Nat.ne_of_lt (blk_lt (g:=gb469) (o:=.cells #[.slice none 0 0,.slice none 0 0] 98 (0,0)) (by(with_reducible repeat(first|refine blk_drewN ?_ _|refine blk_drew ?_|refine blk_alloc ?_ _));refine blk_far ?_ NB469_474.out _;(with_reducible repeat(first|refine blk_drewN ?_ _|refine blk_drew ?_|refine blk_alloc ?_ _));refine blk_far ?_ NB469_474.out _;exact(bo_ BK469))):gb469≠gb475)) ((by rw [hg];exact Nat.ne_of_gt (blk_lt (g:=gb469) (o:=.cells #[.slice none 0 0,.slice none 0 0] 98 (0,0)) (by(with_reducible repeat(first|refine blk_drewN ?_ _|refine blk_drew ?_|refine blk_alloc ?_ _));refine blk_far ?_ NB469_474.out _;(with_reducible repeat(first|refine blk_drewN ?_ _|refine blk_drew ?_|refine blk_alloc ?_ _));refine blk_far ?_ NB469_474.out _;exact(bo_ BK469))):gb475≠gb469)) ((by rw [hg];exact Nat.ne_of_lt (blk_lt (g:=gb474) (o:=.cells #[.slice Ao8 y471.length co8,.slice none 0 0] 98 (0,0)) (by(with_reducible repeat(first|refine blk_drewN ?_ _|refine blk_drew ?_|refine blk_alloc ?_ _));refine blk_put (cs:=#[.slice Ao8 y471.length co8,.slice none 0 0]) ?_ 1 _ rfl;(with_reducible repeat(first|refine blk_drewN ?_ _|refine blk_drew ?_|refine blk_alloc ?_ _));refine blk_put (cs:=#[.slice none 0 0,.slice none 0 0]) ?_ 0 _ rfl;exact(bo_ BK474))):gb474≠gb475)) ((by rw [hg];exact Nat.ne_of_gt (blk_lt (g:=gb474) (o:=.cells #[.slice Ao8 y471.length co8,.slice none 0 0] 98 (0,0)) (by(with_reducible repeat(first|refine blk_drewN ?_ _|refine blk_drew ?_|refine blk_alloc ?_ _));refine blk_put (cs:=#[.slice Ao8 y471.length co8,.slice none 0 0]) ?_ 1 _ rfl;(with_reducible repeat(first|refine blk_drewN ?_ _|refine blk_drew ?_|refine blk_alloc ?_ _));refine blk_put (cs:=#[.slice none 0 0,.slice none 0 0]) ?_ 0 _ rfl;exact(bo_ BK474))):gb475≠gb474));clear HO473 BK469 BK474 HB;obtain⟨HO473,BK469,BK474,HB,BK475,GW475,GE475,NB469_475,NB475_469,NB474_475,NB475_474⟩:=n_;clear hb hbox hg)|((with_reducible refine gate_dst (N:=7) rfl ?_);refine box_ev 7 #[.int .i64 0,.int .i64 0] 67 ?_;intro gb476 hg w13 hbox hb;have n0_:=Aside0.mk (Kd.R_below (ro_ HO473) hb);have n1_:=Aside0.mk (blk_below (bo_ BK469) hb);have n2_:=Aside0.mk (blk_below (bo_ BK474) hb);have n3_:=Aside0.mk (blk_below (bo_ BK475) hb);have n4_:=Aside0.mk (below_step bl_ hb);have n5_:=Aside0.mk (hbox);have n6_:=Aside0.mk ((ge_ hg bl_:w.heap.size≤gb476));have n7_:=Aside0.mk ((ge_ hg bl_:w.heap.size≤gb476));have n8_:=Aside0.mk ((nb_ hg (bo_ BK469):gb469≠gb476));have n9_:=Aside0.mk ((nc_ hg (bo_ BK469):gb476≠gb469));have n10_:=Aside0.mk ((nb_ hg (bo_ BK474):gb474≠gb476));have n11_:=Aside0.mk ((nc_ hg (bo_ BK474):gb476≠gb474));have n12_:=Aside0.mk ((nb_ hg (bo_ BK475):gb475≠gb476));have n13_:=Aside0.mk ((nc_ hg (bo_ BK475):gb476≠gb475));clear HO473;clear BK469;clear BK474;clear BK475;clear HB;have HO473:=n0_;have BK469:=n1_;have BK474:=n2_;have BK475:=n3_;have HB:=n4_;have BK476:=n5_;have GW476:=n6_;have GE476:=n7_;have NB469_476:=n8_;have NB476_469:=n9_;have NB474_476:=n10_;have NB476_474:=n11_;have NB475_476:=n12_;have NB476_475:=n13_;clear n0_ n1_ n2_ n3_ n4_ n5_ n6_ n7_ n8_ n9_ n10_ n11_ n12_ n13_;clear hb hbox hg))
  go_loopg [23] k (fun kq v23 w'=>∃ (x23_1:Int) (x475000_1:List Int) (x476000_1:Int) (x476001_1:Int) (x477000_1:Int) (x477001_1:Int) (u475000:Value),v23=.int .i64 x23_1∧Aside0 (block_Pack.l0 kq l0 (l0.length:Int) x23_1 x475000_1 x476000_1 x476001_1 x477000_1 x477001_1=some (r1,r2,r3))∧Aside0 (kq≤k)∧Aside0 (Kd.R (Kd.int .i64) 3 w' w.heap.size (fun _=>True) u475000 x475000_1)∧Aside0 (w'.heap[gb469]?=some (.cells #[(.slice none 0 0),(.slice none 0 0)] 98 (0,0)))∧Aside0 (w'.heap[gb474]?=some (.cells #[u475000,(.slice none 0 0)] 98 (0,0)))∧Aside0 (w'.heap[gb475]?=some (.cells #[.int .i64 x476000_1,.int .i64 x476001_1] 67 (0,0)))∧Aside0 (w'.heap[gb476]?=some (.cells #[.int .i64 x477000_1,.int .i64 x477001_1] 67 (0,0)))∧Aside0 (Below w.heap.size w w'))
  case atStart=>exact⟨(0),(y471),(0),(0),(0),(0),(.slice Ao8 y471.length co8),sm_,H',⟨Nat.le_refl _⟩,⟨(ro_ HO473)⟩,⟨(bo_ BK469)⟩,⟨(bo_ BK474)⟩,⟨(bo_ BK475)⟩,⟨(bo_ BK476)⟩,⟨bl_⟩⟩
  case round =>
   clear H'
   try clear c3
   try clear c3b0
   try clear c3b1
   obtain⟨x23_1,x475000_1,x476000_1,x476001_1,x477000_1,x477001_1,u475000,rfl,HA,HK1,HO_475000,BK469,BK474,BK475,BK476,HB⟩:=hrel
   cases gk with
   |zero=>exact absurd HA.out (by simp [block_Pack.l0])
   |succ k1 =>
    have H:=HA.out
    clear HA
    simp only [block_Pack.l0] at H
    replace H:=dle H
    rcases H with⟨c14b0,H⟩|⟨c14b0,H⟩
    focus
     replace H:=dle H
     rcases H with⟨c15b0,H⟩|⟨c15b0,H⟩
     rotate_left
     ·exact absurd H (by simp)
     replace H:=dle H
     rcases H with⟨c16b0,H⟩|⟨c16b0,H⟩
     rotate_left
     ·exact absurd H (by simp)
     obtain⟨y480,hy480⟩:∃ y_:List Int,y_=(([wrap64 ((wrap64 (((rd_T67 l0 x23_1).f0) - x476000_1)) - x477000_1),wrap64 ((wrap64 (((rd_T67 l0 x23_1).f1) - x476001_1)) - x477001_1)]:List Int)):=⟨_,rfl⟩
     replace H:(if x475000_1.length+y480.length<17592186044416 then((some (x475000_1++y480:List Int)).bind fun y483=>(if x23_1>0 then(block_Pack.l0 k1 l0 (l0.length:Int) (wrap64 (x23_1+1)) y483 ((rd_T67 l0 x23_1).f0) ((rd_T67 l0 x23_1).f1) (wrap64 (((rd_T67 l0 x23_1).f0) - x476000_1)) (wrap64 (((rd_T67 l0 x23_1).f1) - x476001_1)))else(block_Pack.l0 k1 l0 (l0.length:Int) (wrap64 (x23_1+1)) y483 ((rd_T67 l0 x23_1).f0) ((rd_T67 l0 x23_1).f1) x477000_1 x477001_1)))else(none))=some (r1,r2,r3):=by first|(rw [hy480];with_reducible exact H)|(have H2_:=(Option.bind_some _ _).symm.trans H;rw [hy480];with_reducible exact H2_)|(have H2_:=(Option.bind_some _ _).symm.trans H;with_reducible exact H2_)|with_reducible exact H|(rw [hy480];exact H)|exact H
     have Ny480:=Aside0.mk hy480
     clear hy480
     by_cases c17:x475000_1.length+y480.length<17592186044416
     rotate_left
     ·rw [if_neg c17] at H
      exact absurd H (by simp)
     rw [if_pos c17] at H
     have LMc17:=Aside0.mk c17
     clear c17
     obtain⟨y483,hy483⟩:∃ y_:List Int,y_=(x475000_1++y480):=⟨_,rfl⟩
     replace H:(if x23_1>0 then(block_Pack.l0 k1 l0 (l0.length:Int) (wrap64 (x23_1+1)) y483 ((rd_T67 l0 x23_1).f0) ((rd_T67 l0 x23_1).f1) (wrap64 (((rd_T67 l0 x23_1).f0) - x476000_1)) (wrap64 (((rd_T67 l0 x23_1).f1) - x476001_1)))else(block_Pack.l0 k1 l0 (l0.length:Int) (wrap64 (x23_1+1)) y483 ((rd_T67 l0 x23_1).f0) ((rd_T67 l0 x23_1).f1) x477000_1 x477001_1))=some (r1,r2,r3):=by first|(rw [hy483];with_reducible exact H)|(have H2_:=(Option.bind_some _ _).symm.trans H;rw [hy483];with_reducible exact H2_)|(have H2_:=(Option.bind_some _ _).symm.trans H;with_reducible exact H2_)|with_reducible exact H|(rw [hy483];exact H)|exact H
     have Ny483:=Aside0.mk hy483
     clear hy483
     replace H:=dgt H
     rcases H with⟨c18b0,H⟩|⟨c18b0,H⟩
     focus
      have H':=Aside0.mk H
      clear H
      have p477:0≤(x23_1:Int):=dc_
      have q477:x23_1<(l0.length:Int):=dc_
      obtain⟨ad477,e477,hx477_0,hx477_1⟩:=at_T67 HR0.out x23_1 p477 q477
      cases e477
      replace hx477_0:=(HB.out.cell (World.block_lt_of_cell? w _ hx477_0)).trans hx477_0
      replace hx477_1:=(HB.out.cell (World.block_lt_of_cell? w _ hx477_1)).trans hx477_1
      replace p477:=eq_true p477
      replace q477:=eq_true q477
     rotate_left
     focus
      have H':=Aside0.mk H
      clear H
      have p477:0≤(x23_1:Int):=dc_
      have q477:x23_1<(l0.length:Int):=dc_
      obtain⟨ad477,e477,hx477_0,hx477_1⟩:=at_T67 HR0.out x23_1 p477 q477
      cases e477
      replace hx477_0:=(HB.out.cell (World.block_lt_of_cell? w _ hx477_0)).trans hx477_0
      replace hx477_1:=(HB.out.cell (World.block_lt_of_cell? w _ hx477_1)).trans hx477_1
      replace p477:=eq_true p477
      replace q477:=eq_true q477
    rotate_left 2
    focus
     simp only [Option.some.injEq,Prod.mk.injEq] at H
     obtain⟨rfl,rfl,rfl⟩:=H
     have hnb81:=NB474_469.out
     have hnc81:=NB469_474.out
     have hnb82:=NB474_475.out
     have hnc82:=NB475_474.out
     have hnb83:=NB474_476.out
     have hnc83:=NB476_474.out
     obtain⟨hcz84_0,hcz84_1,hfz84_0,hfz84_1⟩:=blk_at2 BK474.out
     obtain⟨Ao85,co85,eo85⟩:=Kd.R_slice HO_475000.out
     subst eo85
     have hnb86:=NB469_475.out
     have hnc86:=NB475_469.out
     have hnb87:=NB469_476.out
     have hnc87:=NB476_469.out
     obtain⟨hcz88_0,hcz88_1,hfz88_0,hfz88_1⟩:=blk_at2 BK469.out
    all_goals
     go_wp2_with (first|((with_reducible refine gate_dst (N:=9) rfl ?_);refine box_ev 9 #[.int .i64 0,.int .i64 0] 67 ?_;intro gb7000 hg w7000 hbox hb;have n0_:=Aside0.mk (Kd.R_below (ro_ HO_475000) hb);have n1_:=Aside0.mk (blk_below (bo_ BK469) hb);have n2_:=Aside0.mk (blk_below (bo_ BK474) hb);have n3_:=Aside0.mk (blk_below (bo_ BK475) hb);have n4_:=Aside0.mk (blk_below (bo_ BK476) hb);have n5_:=Aside0.mk (below_step bl_ hb);have n6_:=Aside0.mk (hbox);have n7_:=Aside0.mk ((ge_ hg bl_:w.heap.size≤gb7000));have n8_:=Aside0.mk ((ge_ hg bl_:w.heap.size≤gb7000));have n9_:=Aside0.mk ((nb_ hg (bo_ BK469):gb469≠gb7000));have n10_:=Aside0.mk ((nc_ hg (bo_ BK469):gb7000≠gb469));have n11_:=Aside0.mk ((nb_ hg (bo_ BK474):gb474≠gb7000));have n12_:=Aside0.mk ((nc_ hg (bo_ BK474):gb7000≠gb474));have n13_:=Aside0.mk ((nb_ hg (bo_ BK475):gb475≠gb7000));have n7000_:=Aside0.mk ((nc_ hg (bo_ BK475):gb7000≠gb475));have n7001_:=Aside0.mk ((nb_ hg (bo_ BK476):gb476≠gb7000));have n7002_:=Aside0.mk ((nc_ hg (bo_ BK476):gb7000≠gb476));clear HO_475000;clear BK469;clear BK474;clear BK475;clear BK476;clear HB;have HO_475000:=n0_;have BK469:=n1_;have BK474:=n2_;have BK475:=n3_;have BK476:=n4_;have HB:=n5_;have BK7000:=n6_;have GW7000:=n7_;have GE7000:=n8_;have NB469_7000:=n9_;have NB7000_469:=n10_;have NB474_7000:=n11_;have NB7000_474:=n12_;have NB475_7000:=n13_;have NB7000_475:=n7000_;have NB476_7000:=n7001_;have NB7000_476:=n7002_;clear n0_ n1_ n2_ n3_ n4_ n5_ n6_ n7_ n8_ n9_ n10_ n11_ n12_ n13_ n7000_ n7001_ n7002_;clear hb hbox hg;have hnb7000:=NB7000_469.out;have hnc7000:=NB469_7000.out;have hnb7001:=NB7000_474.out;have hnc7001:=NB474_7000.out;have hnb7002:=NB7000_475.out;have hnc7002:=NB475_7000.out;have hnb7003:=NB7000_476.out;have hnc7003:=NB476_7000.out;have hcz7000_0:w7000.cell? ⟨gb7000,0,none⟩=some (.int .i64 0):=(blk_cell BK7000.out 0).trans rfl;have hcz7000_1:w7000.cell? ⟨gb7000,1,none⟩=some (.int .i64 0):=(blk_cell BK7000.out 1).trans rfl;have hfz7000_0:=blk_frozen BK7000.out 0;have hfz7000_1:=blk_frozen BK7000.out 1;have hnb7004:=NB475_469.out;have hnc7004:=NB469_475.out;have hnb7005:=NB475_474.out;have hnc7005:=NB474_475.out;have hnb7006:=NB475_476.out;have hnc7006:=NB476_475.out;have hcz7001_0:w7000.cell? ⟨gb475,0,none⟩=some (.int .i64 x476000_1):=(blk_cell BK475.out 0).trans rfl;have hcz7001_1:w7000.cell? ⟨gb475,1,none⟩=some (.int .i64 x476001_1):=(blk_cell BK475.out 1).trans rfl;have hfz7001_0:=blk_frozen BK475.out 0;have hfz7001_1:=blk_frozen BK475.out 1)|((with_reducible refine gate_dst (N:=10) rfl ?_);refine box_ev 10 #[.int .i64 0,.int .i64 0] 67 ?_;intro gb7001 hg w7001 hbox hb;have n0_:=Aside0.mk (Kd.R_below (rt_ ((Kd.R_mono (Kd.R_far (p:=⟨gb7000,1,none⟩) (Kd.R_far (p:=⟨gb7000,0,none⟩) (Kd.R_types HO_475000.out BK7000.out (by decide)) (fun _ hk=>hk.2) (.int .i64 ((rd_T67 l0 x23_1).f0))) (fun _ hk=>hk.2) (.int .i64 ((rd_T67 l0 x23_1).f1))) (fun _ h_=>h_.1)))) hb);have n1_:=Aside0.mk (blk_below (g:=gb469) (o:=.cells #[.slice none 0 0,.slice none 0 0] 98 (0,0)) (by(with_reducible repeat(first|refine blk_drewN ?_ _|refine blk_drew ?_|refine blk_alloc ?_ _));refine blk_far ?_ NB469_7000.out _;(with_reducible repeat(first|refine blk_drewN ?_ _|refine blk_drew ?_|refine blk_alloc ?_ _));refine blk_far ?_ NB469_7000.out _;exact(bo_ BK469)) hb);have n2_:=Aside0.mk (blk_below (g:=gb474) (o:=.cells #[u475000,.slice none 0 0] 98 (0,0)) (by(with_reducible repeat(first|refine blk_drewN ?_ _|refine blk_drew ?_|refine blk_alloc ?_ _));refine blk_far ?_ NB474_7000.out _;(with_reducible repeat(first|refine blk_drewN ?_ _|refine blk_drew ?_|refine blk_alloc ?_ _));refine blk_far ?_ NB474_7000.out _;exact(bo_ BK474)) hb);have n3_:=Aside0.mk (blk_below (g:=gb475) (o:=.cells #[.int .i64 x476000_1,.int .i64 x476001_1] 67 (0,0)) (by(with_reducible repeat(first|refine blk_drewN ?_ _|refine blk_drew ?_|refine blk_alloc ?_ _));refine blk_far ?_ NB475_7000.out _;(with_reducible repeat(first|refine blk_drewN ?_ _|refine blk_drew ?_|refine blk_alloc ?_ _));refine blk_far ?_ NB475_7000.out _;exact(bo_ BK475)) hb);have n4_:=Aside0.mk (blk_below (g:=gb476) (o:=.cells #[.int .i64 x477000_1,.int .i64 x477001_1] 67 (0,0)) (by(with_reducible repeat(first|refine blk_drewN ?_ _|refine blk_drew ?_|refine blk_alloc ?_ _));refine blk_far ?_ NB476_7000.out _;(with_reducible repeat(first|refine blk_drewN ?_ _|refine blk_drew ?_|refine blk_alloc ?_ _));refine blk_far ?_ NB476_7000.out _;exact(bo_ BK476)) hb);have n5_:=Aside0.mk (blk_below (g:=gb7000) (o:=.cells #[.int .i64 ((rd_T67 l0 x23_1).f0),.int .i64 ((rd_T67 l0 x23_1).f1)] 67 (0,0)) (by(with_reducible repeat(first|refine blk_drewN ?_ _|refine blk_drew ?_|refine blk_alloc ?_ _));refine blk_put (cs:=#[.int .i64 ((rd_T67 l0 x23_1).f0),.int .i64 0]) ?_ 1 _ rfl;(with_reducible repeat(first|refine blk_drewN ?_ _|refine blk_drew ?_|refine blk_alloc ?_ _));refine blk_put (cs:=#[.int .i64 0,.int .i64 0]) ?_ 0 _ rfl;exact(bo_ BK7000)) hb);have n6_:=Aside0.mk (below_step bl_ hb);have n7_:=Aside0.mk (hbox);have n8_:=Aside0.mk ((ge_ hg bl_:w.heap.size≤gb7001));have n9_:=Aside0.mk ((ge_ hg bl_:w.heap.size≤gb7001));have n10_:=Aside0.mk ((by rw [hg];exact Nat.ne_of_lt (blk_lt (g:=gb469) (o:=.cells #[.slice none 0 0,.slice none 0 0] 98 (0,0)) (by(with_reducible repeat(first|refine blk_drewN ?_ _|refine blk_drew ?_|refine blk_alloc ?_ _));refine blk_far ?_ NB469_7000.out _;(with_reducible repeat(first|refine blk_drewN ?_ _|refine blk_drew ?_|refine blk_alloc ?_ _));refine blk_far ?_ NB469_7000.out _;exact(bo_ BK469))):gb469≠gb7001));have n11_:=Aside0.mk ((by rw [hg];exact Nat.ne_of_gt (blk_lt (g:=gb469) (o:=.cells #[.slice none 0 0,.slice none 0 0] 98 (0,0)) (by(with_reducible repeat(first|refine blk_drewN ?_ _|refine blk_drew ?_|refine blk_alloc ?_ _));refine blk_far ?_ NB469_7000.out _;(with_reducible repeat(first|refine blk_drewN ?_ _|refine blk_drew ?_|refine blk_alloc ?_ _));refine blk_far ?_ NB469_7000.out _;exact(bo_ BK469))):gb7001≠gb469));have n12_:=Aside0.mk ((by rw [hg];exact Nat.ne_of_lt (blk_lt (g:=gb474) (o:=.cells #[u475000,.slice none 0 0] 98 (0,0)) (by(with_reducible repeat(first|refine blk_drewN ?_ _|refine blk_drew ?_|refine blk_alloc ?_ _));refine blk_far ?_ NB474_7000.out _;(with_reducible repeat(first|refine blk_drewN ?_ _|refine blk_drew ?_|refine blk_alloc ?_ _));refine blk_far ?_ NB474_7000.out _;exact(bo_ BK474))):gb474≠gb7001));have n13_:=Aside0.mk ((by rw [hg];exact Nat.ne_of_gt (blk_lt (g:=gb474) (o:=.cells #[u475000,.slice none 0 0] 98 (0,0)) (by(with_reducible repeat(first|refine blk_drewN ?_ _|refine blk_drew ?_|refine blk_alloc ?_ _));refine blk_far ?_ NB474_7000.out _;(with_reducible repeat(first|refine blk_drewN ?_ _|refine blk_drew ?_|refine blk_alloc ?_ _));refine blk_far ?_ NB474_7000.out _;exact(bo_ BK474))):gb7001≠gb474));have n7000_:=Aside0.mk ((by rw [hg];exact Nat.ne_of_lt (blk_lt (g:=gb475) (o:=.cells #[.int .i64 x476000_1,.int .i64 x476001_1] 67 (0,0)) (by(with_reducible repeat(first|refine blk_drewN ?_ _|refine blk_drew ?_|refine blk_alloc ?_ _));refine blk_far ?_ NB475_7000.out _;(with_reducible repeat(first|refine blk_drewN ?_ _|refine blk_drew ?_|refine blk_alloc ?_ _));refine blk_far ?_ NB475_7000.out _;exact(bo_ BK475))):gb475≠gb7001));have n7001_:=Aside0.mk ((by rw [hg];exact Nat.ne_of_gt (blk_lt (g:=gb475) (o:=.cells #[.int .i64 x476000_1,.int .i64 x476001_1] 67 (0,0)) (by(with_reducible repeat(first|refine blk_drewN ?_ _|refine blk_drew ?_|refine blk_alloc ?_ _));refine blk_far ?_ NB475_7000.out _;(with_reducible repeat(first|refine blk_drewN ?_ _|refine blk_drew ?_|refine blk_alloc ?_ _));refine blk_far ?_ NB475_7000.out _;exact(bo_ BK475))):gb7001≠gb475));have n7002_:=Aside0.mk ((by rw [hg];exact Nat.ne_of_lt (blk_lt (g:=gb476) (o:=.cells #[.int .i64 x477000_1,.int .i64 x477001_1] 67 (0,0)) (by(with_reducible repeat(first|refine blk_drewN ?_ _|refine blk_drew ?_|refine blk_alloc ?_ _));refine blk_far ?_ NB476_7000.out _;(with_reducible repeat(first|refine blk_drewN ?_ _|refine blk_drew ?_|refine blk_alloc ?_ _));refine blk_far ?_ NB476_7000.out _;exact(bo_ BK476))):gb476≠gb7001));have n7003_:=Aside0.mk ((by rw [hg];exact Nat.ne_of_gt (blk_lt (g:=gb476) (o:=.cells #[.int .i64 x477000_1,.int .i64 x477001_1] 67 (0,0)) (by(with_reducible repeat(first|refine blk_drewN ?_ _|refine blk_drew ?_|refine blk_alloc ?_ _));refine blk_far ?_ NB476_7000.out _;(with_reducible repeat(first|refine blk_drewN ?_ _|refine blk_drew ?_|refine blk_alloc ?_ _));refine blk_far ?_ NB476_7000.out _;exact(bo_ BK476))):gb7001≠gb476));have n7004_:=Aside0.mk ((by rw [hg];exact Nat.ne_of_lt (blk_lt (g:=gb7000) (o:=.cells #[.int .i64 ((rd_T67 l0 x23_1).f0),.int .i64 ((rd_T67 l0 x23_1).f1)] 67 (0,0)) (by(with_reducible repeat(first|refine blk_drewN ?_ _|refine blk_drew ?_|refine blk_alloc ?_ _));refine blk_put (cs:=#[.int .i64 ((rd_T67 l0 x23_1).f0),.int .i64 0]) ?_ 1 _ rfl;(with_reducible repeat(first|refine blk_drewN ?_ _|refine blk_drew ?_|refine blk_alloc ?_ _));refine blk_put (cs:=#[.int .i64 0,.int .i64 0]) ?_ 0 _ rfl;exact(bo_ BK7000))):gb7000≠gb7001));have n7005_:=Aside0.mk ((by rw [hg];exact Nat.ne_of_gt (blk_lt (g:=gb7000) (o:=.cells #[.int .i64 ((rd_T67 l0 x23_1).f0),.int .i64 ((rd_T67 l0 x23_1).f1)] 67 (0,0)) (by(with_reducible repeat(first|refine blk_drewN ?_ _|refine blk_drew ?_|refine blk_alloc ?_ _));refine blk_put (cs:=#[.int .i64 ((rd_T67 l0 x23_1).f0),.int .i64 0]) ?_ 1 _ rfl;(with_reducible repeat(first|refine blk_drewN ?_ _|refine blk_drew ?_|refine blk_alloc ?_ _));refine blk_put (cs:=#[.int .i64 0,.int .i64 0]) ?_ 0 _ rfl;exact(bo_ BK7000))):gb7001≠gb7000));clear HO_475000;clear BK469;clear BK474;clear BK475;clear BK476;clear BK7000;clear HB;have HO_475000:=n0_;have BK469:=n1_;have BK474:=n2_;have BK475:=n3_;have BK476:=n4_;have BK7000:=n5_;have HB:=n6_;have BK7001:=n7_;have GW7001:=n8_;have GE7001:=n9_;have NB469_7001:=n10_;have NB7001_469:=n11_;have NB474_7001:=n12_;have NB7001_474:=n13_;have NB475_7001:=n7000_;have NB7001_475:=n7001_;have NB476_7001:=n7002_;have NB7001_476:=n7003_;have NB7000_7001:=n7004_;have NB7001_7000:=n7005_;clear n0_ n1_ n2_ n3_ n4_ n5_ n6_ n7_ n8_ n9_ n10_ n11_ n12_ n13_ n7000_ n7001_ n7002_ n7003_ n7004_ n7005_;clear hb hbox hg;have hnb7007:=NB7001_469.out;have hnc7007:=NB469_7001.out;have hnb7008:=NB7001_474.out;have hnc7008:=NB474_7001.out;have hnb7009:=NB7001_475.out;have hnc7009:=NB475_7001.out;have hnb7010:=NB7001_476.out;have hnc7010:=NB476_7001.out;have hnb7011:=NB7001_7000.out;have hnc7011:=NB7000_7001.out;have hcz7002_0:w7001.cell? ⟨gb7001,0,none⟩=some (.int .i64 0):=(blk_cell BK7001.out 0).trans rfl;have hcz7002_1:w7001.cell? ⟨gb7001,1,none⟩=some (.int .i64 0):=(blk_cell BK7001.out 1).trans rfl;have hfz7002_0:=blk_frozen BK7001.out 0;have hfz7002_1:=blk_frozen BK7001.out 1;have hnb7012:=NB474_469.out;have hnc7012:=NB469_474.out;have hnb7013:=NB474_476.out;have hnc7013:=NB476_474.out;have hcz7003_0:w7001.cell? ⟨gb474,0,none⟩=some (u475000):=(blk_cell BK474.out 0).trans rfl;have hcz7003_1:w7001.cell? ⟨gb474,1,none⟩=some (.slice none 0 0):=(blk_cell BK474.out 1).trans rfl;have hfz7003_0:=blk_frozen BK474.out 0;have hfz7003_1:=blk_frozen BK474.out 1;have hnb7014:=NB476_469.out;have hnc7014:=NB469_476.out;have hcz7004_0:w7001.cell? ⟨gb476,0,none⟩=some (.int .i64 x477000_1):=(blk_cell BK476.out 0).trans rfl;have hcz7004_1:w7001.cell? ⟨gb476,1,none⟩=some (.int .i64 x477001_1):=(blk_cell BK476.out 1).trans rfl;have hfz7004_0:=blk_frozen BK476.out 0;have hfz7004_1:=blk_frozen BK476.out 1)|((with_reducible refine gate_dst (N:=51) rfl ?_);refine Kd.R_lit (Kd.int .i64) _ 3 ?hg (N:=51) ?hd (xs:=([wrap64 ((wrap64 (((rd_T67 l0 x23_1).f0) - x476000_1)) - x477000_1),wrap64 ((wrap64 (((rd_T67 l0 x23_1).f1) - x476001_1)) - x477001_1)]:List Int)) (inner:=[.int .i64 (wrap64 ((wrap64 (((rd_T67 l0 x23_1).f0) - x476000_1)) - x477000_1)),.int .i64 (wrap64 ((wrap64 (((rd_T67 l0 x23_1).f1) - x476001_1)) - x477001_1))]) (ok:=fun _=>True) (okp:=fun _=>True) ?hr ?hp (fun _ hk=>hk) trivial (Below.refl _ _) (Nat.le_refl _) (by simp) ?_;(case hd=>rfl);(case hg=>rfl);(case hr=>first|(go_simp;done)|(go_simp;rfl));(case hp=>exact(Reps.one (show Kd.M (Kd.int .i64) _ _ _ (wrap64 ((wrap64 (((rd_T67 l0 x23_1).f0) - x476000_1)) - x477000_1)) [.int .i64 (wrap64 ((wrap64 (((rd_T67 l0 x23_1).f0) - x476000_1)) - x477000_1))] from rfl) (Reps.one (show Kd.M (Kd.int .i64) _ _ _ (wrap64 ((wrap64 (((rd_T67 l0 x23_1).f1) - x476001_1)) - x477001_1)) [.int .i64 (wrap64 ((wrap64 (((rd_T67 l0 x23_1).f1) - x476001_1)) - x477001_1))] from rfl) (Reps.none _ _))));intro v7000 w7002 ho7000 hb hg_ hnew_;clear hg_ hnew_;(first|rw [←Ny480.out] at ho7000|(simp only [Int.reduceToNat] at ho7000;rw [←Ny480.out] at ho7000));have n_:=pk9 (Kd.R_elder' (rt_ ((Kd.R_mono (Kd.R_far (p:=⟨gb7001,1,none⟩) (Kd.R_far (p:=⟨gb7001,0,none⟩) (Kd.R_types HO_475000.out BK7001.out (by decide)) (fun _ hk=>hk.2) (.int .i64 (wrap64 (((rd_T67 l0 x23_1).f0) - x476000_1)))) (fun _ hk=>hk.2) (.int .i64 (wrap64 (((rd_T67 l0 x23_1).f1) - x476001_1)))) (fun _ h_=>h_.1)))) (Kd.R_base ho7000) hb) (Kd.R_lower (Kd.R_new' ho7000 (Kd.R_lt (rt_ ((Kd.R_mono (Kd.R_far (p:=⟨gb7001,1,none⟩) (Kd.R_far (p:=⟨gb7001,0,none⟩) (Kd.R_types HO_475000.out BK7001.out (by decide)) (fun _ hk=>hk.2) (.int .i64 (wrap64 (((rd_T67 l0 x23_1).f0) - x476000_1)))) (fun _ hk=>hk.2) (.int .i64 (wrap64 (((rd_T67 l0 x23_1).f1) - x476001_1)))) (fun _ h_=>h_.1)))))) (below_size bl_)) (blk_below (g:=gb469) (o:=.cells #[.slice none 0 0,.slice none 0 0] 98 (0,0)) (by(with_reducible repeat(first|refine blk_drewN ?_ _|refine blk_drew ?_|refine blk_alloc ?_ _));refine blk_far ?_ NB469_7001.out _;(with_reducible repeat(first|refine blk_drewN ?_ _|refine blk_drew ?_|refine blk_alloc ?_ _));refine blk_far ?_ NB469_7001.out _;exact(bo_ BK469)) hb) (blk_below (g:=gb474) (o:=.cells #[u475000,.slice none 0 0] 98 (0,0)) (by(with_reducible repeat(first|refine blk_drewN ?_ _|refine blk_drew ?_|refine blk_alloc ?_ _));refine blk_far ?_ NB474_7001.out _;(with_reducible repeat(first|refine blk_drewN ?_ _|refine blk_drew ?_|refine blk_alloc ?_ _));refine blk_far ?_ NB474_7001.out _;exact(bo_ BK474)) hb) (blk_below (g:=gb475) (o:=.cells #[.int .i64 x476000_1,.int .i64 x476001_1] 67 (0,0)) (by(with_reducible repeat(first|refine blk_drewN ?_ _|refine blk_drew ?_|refine blk_alloc ?_ _));refine blk_far ?_ NB475_7001.out _;(with_reducible repeat(first|refine blk_drewN ?_ _|refine blk_drew ?_|refine blk_alloc ?_ _));refine blk_far ?_ NB475_7001.out _;exact(bo_ BK475)) hb) (blk_below (g:=gb476) (o:=.cells #[.int .i64 x477000_1,.int .i64 x477001_1] 67 (0,0)) (by(with_reducible repeat(first|refine blk_drewN ?_ _|refine blk_drew ?_|refine blk_alloc ?_ _));refine blk_far ?_ NB476_7001.out _;(with_reducible repeat(first|refine blk_drewN ?_ _|refine blk_drew ?_|refine blk_alloc ?_ _));refine blk_far ?_ NB476_7001.out _;exact(bo_ BK476)) hb) (blk_below (g:=gb7000) (o:=.cells #[.int .i64 ((rd_T67 l0 x23_1).f0),.int .i64 ((rd_T67 l0 x23_1).f1)] 67 (0,0)) (by(with_reducible repeat(first|refine blk_drewN ?_ _|refine blk_drew ?_|refine blk_alloc ?_ _));refine blk_far ?_ NB7000_7001.out _;(with_reducible repeat(first|refine blk_drewN ?_ _|refine blk_drew ?_|refine blk_alloc ?_ _));refine blk_far ?_ NB7000_7001.out _;exact(bo_ BK7000)) hb) (blk_below (g:=gb7001) (o:=.cells #[.int .i64 (wrap64 (((rd_T67 l0 x23_1).f0) - x476000_1)),.int .i64 (wrap64 (((rd_T67 l0 x23_1).f1) - x476001_1))] 67 (0,0)) (by(with_reducible repeat(first|refine blk_drewN ?_ _|refine blk_drew ?_|refine blk_alloc ?_ _));refine blk_put (cs:=#[.int .i64 (wrap64 (((rd_T67 l0 x23_1).f0) - x476000_1)),.int .i64 0]) ?_ 1 _ rfl;(with_reducible repeat(first|refine blk_drewN ?_ _|refine blk_drew ?_|refine blk_alloc ?_ _));refine blk_put (cs:=#[.int .i64 0,.int .i64 0]) ?_ 0 _ rfl;exact(bo_ BK7001)) hb) (below_step bl_ hb);clear HO_475000 BK469 BK474 BK475 BK476 BK7000 BK7001 HB;obtain⟨HO_475000,HO7000,BK469,BK474,BK475,BK476,BK7000,BK7001,HB⟩:=n_;clear hb ho7000;obtain⟨Ao7000,co7000,eo7000⟩:=Kd.R_slice HO7000.out;subst eo7000)|((with_reducible refine gate_builtin (b:=.append) (xs:=#[.tmp 40,.tmp 51]) rfl ?_);at_builtin;refine Kd.R_append_rows (Kd.int .i64) (w0:=w) w.heap.size rfl (.tmp 40) (.tmp 51) 22 3 (.int .i64 0) 8 rfl Try.underlying22 info3 rfl (by decide) (by omega) u475000 x475000_1 y480 _ _ _ (fun k_=>some k_≠(.slice Ao7000 y480.length co7000:Value).ownBlock) (fun _=>False) rfl rfl ?aO ?aR (fun _ _ h=>h) (fun _ h=>h.elim) ?aF ?aB ?aS ?aL ?_;(case aR=>exact cr_ HO7000);(case aB=>exact bl_);(case aF=>exact(fun k_ hk=>Kd.fresh' (Kd.R_lt (ro_ HO7000)) k_ hk));(case aO=>exact(rt_ (Kd.R_mono HO_475000.out (fun _ hk=>hk.2))));(case aS=>exact(below_size bl_));(case aL=>have:=LMc17.out;omega);intro v7001 w7003 ho hb hg hat;rw [←Ny483.out] at ho;have n_:=pk9 (blk_grown (bo_ BK469) hg (Kd.R_ne HO_475000.out BK469.out (by decide))) (blk_grown (bo_ BK474) hg (Kd.R_ne HO_475000.out BK474.out (by decide))) (blk_grown (bo_ BK475) hg (Kd.R_ne HO_475000.out BK475.out (by decide))) (blk_grown (bo_ BK476) hg (Kd.R_ne HO_475000.out BK476.out (by decide))) (blk_grown (bo_ BK7000) hg (Kd.R_ne HO_475000.out BK7000.out (by decide))) (blk_grown (bo_ BK7001) hg (Kd.R_ne HO_475000.out BK7001.out (by decide))) (Kd.R_after (ok:=(fun _=>True)) (ro_ HO7000) hg hat) (hb) (ho);clear BK469 BK474 BK475 BK476 BK7000 BK7001 HO7000 HB HO_475000;obtain⟨BK469,BK474,BK475,BK476,BK7000,BK7001,HO7000,HB,HO7001⟩:=n_;clear ho hb hg hat;obtain⟨Ao7001,co7001,eo7001⟩:=Kd.R_slice HO7001.out;subst eo7001;have hcz7005_0:w7003.cell? ⟨gb474,0,none⟩=some (u475000):=(blk_cell BK474.out 0).trans rfl;have hcz7005_1:w7003.cell? ⟨gb474,1,none⟩=some (.slice none 0 0):=(blk_cell BK474.out 1).trans rfl;have hfz7005_0:=blk_frozen BK474.out 0;have hfz7005_1:=blk_frozen BK474.out 1;have hcz7006_0:w7003.cell? ⟨gb7000,0,none⟩=some (.int .i64 ((rd_T67 l0 x23_1).f0)):=(blk_cell BK7000.out 0).trans rfl;have hcz7006_1:w7003.cell? ⟨gb7000,1,none⟩=some (.int .i64 ((rd_T67 l0 x23_1).f1)):=(blk_cell BK7000.out 1).trans rfl;have hfz7006_0:=blk_frozen BK7000.out 0;have hfz7006_1:=blk_frozen BK7000.out 1;have hcz7007_0:w7003.cell? ⟨gb475,0,none⟩=some (.int .i64 x476000_1):=(blk_cell BK475.out 0).trans rfl;have hcz7007_1:w7003.cell? ⟨gb475,1,none⟩=some (.int .i64 x476001_1):=(blk_cell BK475.out 1).trans rfl;have hfz7007_0:=blk_frozen BK475.out 0;have hfz7007_1:=blk_frozen BK475.out 1;(try(have hcz7008_0:w7003.cell? ⟨gb7001,0,none⟩=some (.int .i64 (wrap64 (((rd_T67 l0 x23_1).f0) - x476000_1))):=(blk_cell BK7001.out 0).trans rfl;have hcz7008_1:w7003.cell? ⟨gb7001,1,none⟩=some (.int .i64 (wrap64 (((rd_T67 l0 x23_1).f1) - x476001_1))):=(blk_cell BK7001.out 1).trans rfl;have hfz7008_0:=blk_frozen BK7001.out 0;have hfz7008_1:=blk_frozen BK7001.out 1;have hcz7009_0:w7003.cell? ⟨gb476,0,none⟩=some (.int .i64 x477000_1):=(blk_cell BK476.out 0).trans rfl;have hcz7009_1:w7003.cell? ⟨gb476,1,none⟩=some (.int .i64 x477001_1):=(blk_cell BK476.out 1).trans rfl;have hfz7009_0:=blk_frozen BK476.out 0;have hfz7009_1:=blk_frozen BK476.out 1))))
     first
      |go_roundg k1
       case measure=>have:=HK1.out;omega
       first
        |case rel=>exact⟨(wrap64 (x23_1+1)),(y483),((rd_T67 l0 x23_1).f0),((rd_T67 l0 x23_1).f1),(wrap64 (((rd_T67 l0 x23_1).f0) - x476000_1)),(wrap64 (((rd_T67 l0 x23_1).f1) - x476001_1)),(.slice Ao7001 y483.length co7001),sm_,H',⟨by have:=HK1.out;omega⟩,⟨(rt_ (Kd.R_mono (Kd.R_far (p:=⟨gb476,1,none⟩) (Kd.R_far (p:=⟨gb476,0,none⟩) (Kd.R_far (p:=⟨gb475,1,none⟩) (Kd.R_far (p:=⟨gb475,0,none⟩) (Kd.R_far (p:=⟨gb474,0,none⟩) (Kd.R_types (Kd.R_types (Kd.R_types HO7001.out BK474.out (by decide)) BK475.out (by decide)) BK476.out (by decide)) (fun _ hk=>hk.1.1.2) (.slice Ao7001 y483.length co7001)) (fun _ hk=>hk.1.2) (.int .i64 ((rd_T67 l0 x23_1).f0))) (fun _ hk=>hk.1.2) (.int .i64 ((rd_T67 l0 x23_1).f1))) (fun _ hk=>hk.2) (.int .i64 (wrap64 (((rd_T67 l0 x23_1).f0) - x476000_1)))) (fun _ hk=>hk.2) (.int .i64 (wrap64 (((rd_T67 l0 x23_1).f1) - x476001_1)))) (fun _ hk=>trivial)))⟩,⟨by(with_reducible repeat(first|refine blk_drewN ?_ _|refine blk_drew ?_|refine blk_alloc ?_ _));refine blk_far ?_ NB469_476.out _;(with_reducible repeat(first|refine blk_drewN ?_ _|refine blk_drew ?_|refine blk_alloc ?_ _));refine blk_far ?_ NB469_476.out _;(with_reducible repeat(first|refine blk_drewN ?_ _|refine blk_drew ?_|refine blk_alloc ?_ _));refine blk_far ?_ NB469_475.out _;(with_reducible repeat(first|refine blk_drewN ?_ _|refine blk_drew ?_|refine blk_alloc ?_ _));refine blk_far ?_ NB469_475.out _;(with_reducible repeat(first|refine blk_drewN ?_ _|refine blk_drew ?_|refine blk_alloc ?_ _));refine blk_far ?_ NB469_474.out _;exact(bo_ BK469)⟩,⟨by(with_reducible repeat(first|refine blk_drewN ?_ _|refine blk_drew ?_|refine blk_alloc ?_ _));refine blk_far ?_ NB474_476.out _;(with_reducible repeat(first|refine blk_drewN ?_ _|refine blk_drew ?_|refine blk_alloc ?_ _));refine blk_far ?_ NB474_476.out _;(with_reducible repeat(first|refine blk_drewN ?_ _|refine blk_drew ?_|refine blk_alloc ?_ _));refine blk_far ?_ NB474_475.out _;(with_reducible repeat(first|refine blk_drewN ?_ _|refine blk_drew ?_|refine blk_alloc ?_ _));refine blk_far ?_ NB474_475.out _;(with_reducible repeat(first|refine blk_drewN ?_ _|refine blk_drew ?_|refine blk_alloc ?_ _));refine blk_put (cs:=#[u475000,.slice none 0 0]) ?_ 0 _ rfl;exact(bo_ BK474)⟩,⟨by(with_reducible repeat(first|refine blk_drewN ?_ _|refine blk_drew ?_|refine blk_alloc ?_ _));refine blk_far ?_ NB475_476.out _;(with_reducible repeat(first|refine blk_drewN ?_ _|refine blk_drew ?_|refine blk_alloc ?_ _));refine blk_far ?_ NB475_476.out _;(with_reducible repeat(first|refine blk_drewN ?_ _|refine blk_drew ?_|refine blk_alloc ?_ _));refine blk_put (cs:=#[.int .i64 ((rd_T67 l0 x23_1).f0),.int .i64 x476001_1]) ?_ 1 _ rfl;(with_reducible repeat(first|refine blk_drewN ?_ _|refine blk_drew ?_|refine blk_alloc ?_ _));refine blk_put (cs:=#[.int .i64 x476000_1,.int .i64 x476001_1]) ?_ 0 _ rfl;(with_reducible repeat(first|refine blk_drewN ?_ _|refine blk_drew ?_|refine blk_alloc ?_ _));refine blk_far ?_ NB475_474.out _;exact(bo_ BK475)⟩,⟨by(with_reducible repeat(first|refine blk_drewN ?_ _|refine blk_drew ?_|refine blk_alloc ?_ _));refine blk_put (cs:=#[.int .i64 (wrap64 (((rd_T67 l0 x23_1).f0) - x476000_1)),.int .i64 x477001_1]) ?_ 1 _ rfl;(with_reducible repeat(first|refine blk_drewN ?_ _|refine blk_drew ?_|refine blk_alloc ?_ _));refine blk_put (cs:=#[.int .i64 x477000_1,.int .i64 x477001_1]) ?_ 0 _ rfl;(with_reducible repeat(first|refine blk_drewN ?_ _|refine blk_drew ?_|refine blk_alloc ?_ _));refine blk_far ?_ NB476_475.out _;(with_reducible repeat(first|refine blk_drewN ?_ _|refine blk_drew ?_|refine blk_alloc ?_ _));refine blk_far ?_ NB476_475.out _;(with_reducible repeat(first|refine blk_drewN ?_ _|refine blk_drew ?_|refine blk_alloc ?_ _));refine blk_far ?_ NB476_474.out _;exact(bo_ BK476)⟩,⟨bl_⟩⟩
        |case rel=>exact⟨(wrap64 (x23_1+1)),(y483),((rd_T67 l0 x23_1).f0),((rd_T67 l0 x23_1).f1),(x477000_1),(x477001_1),(.slice Ao7001 y483.length co7001),sm_,H',⟨by have:=HK1.out;omega⟩,⟨(rt_ (Kd.R_mono (Kd.R_far (p:=⟨gb475,1,none⟩) (Kd.R_far (p:=⟨gb475,0,none⟩) (Kd.R_far (p:=⟨gb474,0,none⟩) (Kd.R_types (Kd.R_types HO7001.out BK474.out (by decide)) BK475.out (by decide)) (fun _ hk=>hk.1.2) (.slice Ao7001 y483.length co7001)) (fun _ hk=>hk.2) (.int .i64 ((rd_T67 l0 x23_1).f0))) (fun _ hk=>hk.2) (.int .i64 ((rd_T67 l0 x23_1).f1))) (fun _ hk=>trivial)))⟩,⟨by(with_reducible repeat(first|refine blk_drewN ?_ _|refine blk_drew ?_|refine blk_alloc ?_ _));refine blk_far ?_ NB469_475.out _;(with_reducible repeat(first|refine blk_drewN ?_ _|refine blk_drew ?_|refine blk_alloc ?_ _));refine blk_far ?_ NB469_475.out _;(with_reducible repeat(first|refine blk_drewN ?_ _|refine blk_drew ?_|refine blk_alloc ?_ _));refine blk_far ?_ NB469_474.out _;exact(bo_ BK469)⟩,⟨by(with_reducible repeat(first|refine blk_drewN ?_ _|refine blk_drew ?_|refine blk_alloc ?_ _));refine blk_far ?_ NB474_475.out _;(with_reducible repeat(first|refine blk_drewN ?_ _|refine blk_drew ?_|refine blk_alloc ?_ _));refine blk_far ?_ NB474_475.out _;(with_reducible repeat(first|refine blk_drewN ?_ _|refine blk_drew ?_|refine blk_alloc ?_ _));refine blk_put (cs:=#[u475000,.slice none 0 0]) ?_ 0 _ rfl;exact(bo_ BK474)⟩,⟨by(with_reducible repeat(first|refine blk_drewN ?_ _|refine blk_drew ?_|refine blk_alloc ?_ _));refine blk_put (cs:=#[.int .i64 ((rd_T67 l0 x23_1).f0),.int .i64 x476001_1]) ?_ 1 _ rfl;(with_reducible repeat(first|refine blk_drewN ?_ _|refine blk_drew ?_|refine blk_alloc ?_ _));refine blk_put (cs:=#[.int .i64 x476000_1,.int .i64 x476001_1]) ?_ 0 _ rfl;(with_reducible repeat(first|refine blk_drewN ?_ _|refine blk_drew ?_|refine blk_alloc ?_ _));refine blk_far ?_ NB475_474.out _;exact(bo_ BK475)⟩,⟨by(with_reducible repeat(first|refine blk_drewN ?_ _|refine blk_drew ?_|refine blk_alloc ?_ _));refine blk_far ?_ NB476_475.out _;(with_reducible repeat(first|refine blk_drewN ?_ _|refine blk_drew ?_|refine blk_alloc ?_ _));refine blk_far ?_ NB476_475.out _;(with_reducible repeat(first|refine blk_drewN ?_ _|refine blk_drew ?_|refine blk_alloc ?_ _));refine blk_far ?_ NB476_474.out _;exact(bo_ BK476)⟩,⟨bl_⟩⟩
      |refine bodyPost_ret (results_ct rfl _ _ gb469 98 #[.slice Ao85 x475000_1.length co85,.slice none 0 0] (0,0) _ rfl (by(with_reducible repeat(first|refine blk_drewN ?_ _|refine blk_drew ?_|refine blk_alloc ?_ _));refine blk_put (cs:=#[.slice Ao85 x475000_1.length co85,.slice none 0 0]) ?_ 1 _ rfl;(with_reducible repeat(first|refine blk_drewN ?_ _|refine blk_drew ?_|refine blk_alloc ?_ _));refine blk_put (cs:=#[.slice none 0 0,.slice none 0 0]) ?_ 0 _ rfl;exact(bo_ BK469)) Try.underlying98 rfl (by kernel_rfl)) rfl ?_
       exact⟨_,_,rf_,(rt_ (Kd.R_mono (Kd.R_far (p:=⟨gb469,1,none⟩) (Kd.R_far (p:=⟨gb469,0,none⟩) (Kd.R_types HO_475000.out BK469.out (by decide)) (fun _ hk=>hk.2) (.slice Ao85 x475000_1.length co85)) (fun _ hk=>hk.2) (.slice none 0 0)) (fun _ hk=>trivial))),nl_,bl_⟩
 simp only [Option.some.injEq,Prod.mk.injEq] at H
 obtain⟨rfl,rfl,rfl⟩:=H
 go_enter Try.func70,Try.ntmps70
 go_wp2_with (first|((with_reducible refine gate_dst (N:=2) rfl ?_);refine box_ev 2 #[.slice none 0 0,.slice none 0 0] 98 ?_;intro gb469 hg w7100 hbox hb;have n_:=pk4 (below_step bl_ hb) (hbox) ((ge_ hg bl_:w.heap.size≤gb469)) ((ge_ hg bl_:w.heap.size≤gb469));clear HB;obtain⟨HB,BK469,GW469,GE469⟩:=n_;clear hb hbox hg)|((with_reducible refine gate_callee (f:=75) rfl ?_);refine goL_ (some 12) Try.func75 #[.slice A0 l0.length c0] ?_;(with_reducible refine(block_Check.calls k _ _ l0 t470 _ ?side1 ?side2 A2.out).mono ?_);(case side1=>exact cb_ HR0);(case side2=>exact HC0.out);rintro e w7101 ⟨rfl,hb⟩;refine⟨_,rfl,?_⟩;have n_:=pk2 (blk_below (bo_ BK469) hb) (below_step bl_ hb);clear BK469 HB;obtain⟨BK469,HB⟩:=n_;(try clear hb);have hcz7100_0:w7101.cell? ⟨gb469,0,none⟩=some (.slice none 0 0):=(blk_cell BK469.out 0).trans rfl;have hcz7100_1:w7101.cell? ⟨gb469,1,none⟩=some (.slice none 0 0):=(blk_cell BK469.out 1).trans rfl;have hfz7100_0:=blk_frozen BK469.out 0;have hfz7100_1:=blk_frozen BK469.out 1))
 refine bodyPost_ret (results_ct rfl _ _ gb469 98 #[.slice none 0 0,.slice none 0 0] (0,0) _ rfl (by(with_reducible repeat(first|refine blk_drewN ?_ _|refine blk_drew ?_|refine blk_alloc ?_ _));refine blk_put (cs:=#[.slice none 0 0,.slice none 0 0]) ?_ 1 _ rfl;(with_reducible repeat(first|refine blk_drewN ?_ _|refine blk_drew ?_|refine blk_alloc ?_ _));refine blk_put (cs:=#[.slice none 0 0,.slice none 0 0]) ?_ 0 _ rfl;exact(bo_ BK469)) Try.underlying98 rfl (by kernel_rfl)) rfl ?_
 exact⟨_,_,rf_,nl_,nl_,bl_⟩
def gorilla_zeros.l0:Nat→List Int→Int→Int→Option (Int)
 |0,_,_,_=>none
 |k+1,x0,x1,x5=>if x5<16 then(if(wrap64 ((wrap64 (x1+(wrap64 (2*x5))))+1))<(x0.length:Int)then(if 0≤(wrap64 (x1+(wrap64 (2*x5))))then(if(wrap64 (x1+(wrap64 (2*x5))))<(x0.length:Int)then(if(rd x0 (wrap64 (x1+(wrap64 (2*x5)))))=0 then(if 0≤(wrap64 ((wrap64 (x1+(wrap64 (2*x5))))+1))then(if(rd x0 (wrap64 ((wrap64 (x1+(wrap64 (2*x5))))+1)))=0 then(gorilla_zeros.l0 k x0 x1 (wrap64 (x5+1)))else(some x5))else(none))else(some x5))else(none))else(none))else(some x5))else(some x5)
def gorilla_zeros.f (k:Nat) (l0:List Int) (a1:Int):Option (Int):=gorilla_zeros.l0 k l0 a1 0
theorem gorilla_zeros.mono_l:∀ k,(∀ y0 y1 y2,LeO (gorilla_zeros.l0 k y0 y1 y2) (gorilla_zeros.l0 (k+1) y0 y1 y2))
 |0=>fun _ _ _ r h=>by simp [gorilla_zeros.l0] at h
 |k+1=>by
  have ih0:=gorilla_zeros.mono_l k
  ·intro y0 y1 y2
   unfold gorilla_zeros.l0
   repeat' first
   |(with_reducible exact ih0 _ _ _)
   |(with_reducible exact LeO.refl _)
   |(with_reducible exact LeO.none _)
   |(with_reducible refine LeO.ite ?_ ?_)
   |(with_reducible refine LeO.bind ?_ (fun _=>?_))
   |exact ih0 _ _ _
   |exact LeO.none _
   |refine LeO.ite ?_ ?_
   |refine LeO.bind ?_ (fun _=>?_)
theorem gorilla_zeros.mono:∀ a0 a1 k,LeO (gorilla_zeros.f k a0 a1) (gorilla_zeros.f (k+1) a0 a1):=by
 intro a0 a1 k
 have ih0:=gorilla_zeros.mono_l k
 unfold gorilla_zeros.f
 repeat' first
   |(with_reducible exact ih0 _ _ _)
   |(with_reducible exact LeO.refl _)
   |(with_reducible exact LeO.none _)
   |(with_reducible refine LeO.ite ?_ ?_)
   |(with_reducible refine LeO.bind ?_ (fun _=>?_))
   |exact ih0 _ _ _
   |exact LeO.none _
   |refine LeO.ite ?_ ?_
   |refine LeO.bind ?_ (fun _=>?_)
theorem gorilla_zeros.calls (k:Nat) (A0:Option Addr) (c0:Nat) (l0:List Int) (a1:Int) (r:Int) (w:World) (hr0:Kd.C (Kd.int .i64) w A0 l0.length l0) (hc0:l0.length≤c0) (h:gorilla_zeros.f k l0 a1=some r) :
  Calls Try.prog 84 #[.slice A0 l0.length c0,.int .i64 a1] w fun e w'=>e=.returned (.int .i64 r)∧Drawn0 w w':=by
 have HR0:=Aside0.mk hr0
 have HC0:=Aside0.mk hc0
 clear hr0 hc0
 have H:(gorilla_zeros.l0 k l0 a1 0)=some r:=h
 clear h
 have H':=Aside0.mk H
 clear H
 go_enter Try.func84,Try.ntmps84
 go_wp2
 go_loopg [5] k (fun kq v5 w'=>∃ (x5_1:Int),v5=.int .i64 x5_1∧Aside0 (gorilla_zeros.l0 kq l0 a1 x5_1=some r)∧Aside0 (kq≤k)∧Drawn0 w w')
 case atStart=>exact⟨(0),sm_,H',⟨Nat.le_refl _⟩,by repeat(first|exact Drawn0.refl _|apply Drawn0.step)⟩
 case round =>
  clear H'
  obtain⟨x5_1,rfl,HA,HK1,⟨m1,rfl⟩⟩:=hrel
  cases gk with
  |zero=>exact absurd HA.out (by simp [gorilla_zeros.l0])
  |succ k1 =>
   have H:=HA.out
   clear HA
   simp only [gorilla_zeros.l0] at H
   replace H:=dle H
   rcases H with⟨c3b0,H⟩|⟨c3b0,H⟩
   focus
    replace H:=dle H
    rcases H with⟨c4b0,H⟩|⟨c4b0,H⟩
    focus
     obtain⟨ji5,hji5⟩:∃ j_:Int,(wrap64 (a1+(wrap64 (2*x5_1))))=j_:=⟨_,rfl⟩
     (try rw [hji5] at c4b0)
     replace H:(if 0≤(ji5)then(if(ji5)<(l0.length:Int)then(if(rd l0 (ji5))=0 then(if 0≤(wrap64 ((ji5)+1))then(if(rd l0 (wrap64 ((ji5)+1)))=0 then(gorilla_zeros.l0 k1 l0 a1 (wrap64 (x5_1+1)))else(some x5_1))else(none))else(some x5_1))else(none))else(none))=some r:=by first|(rw [hji5] at H;exact H)|(simp only [hji5] at H ⊢;exact H)
     (try rw [hji5] at c4b0)
     have hji5w:(IntKind.i64.wrap (a1+(wrap64 (2*x5_1))))=ji5:=(i64_w _).trans hji5
     replace H:=dle H
     rcases H with⟨c6b0,H⟩|⟨c6b0,H⟩
     rotate_left
     ·exact absurd H (by simp)
     replace H:=dle H
     rcases H with⟨c7b0,H⟩|⟨c7b0,H⟩
     rotate_left
     ·exact absurd H (by simp)
     replace H:=deqn H
     rcases H with⟨c8b0,c8b1,H⟩|⟨c8b0,c8b1,c8,H⟩
     focus
      obtain⟨ji9,hji9⟩:∃ j_:Int,(wrap64 ((ji5)+1))=j_:=⟨_,rfl⟩
      (try rw [hji9] at c4b0)
      replace H:(if 0≤(ji9)then(if(rd l0 (ji9))=0 then(gorilla_zeros.l0 k1 l0 a1 (wrap64 (x5_1+1)))else(some x5_1))else(none))=some r:=by first|(rw [hji9] at H;exact H)|(simp only [hji9] at H ⊢;exact H)
      have hji9w:(IntKind.i64.wrap ((ji5)+1))=ji9:=(i64_w _).trans hji9
      replace H:=dle H
      rcases H with⟨c10b0,H⟩|⟨c10b0,H⟩
      rotate_left
      ·exact absurd H (by simp)
      replace H:=deqn H
      rcases H with⟨c11b0,c11b1,H⟩|⟨c11b0,c11b1,c11,H⟩
      focus
       have H':=Aside0.mk H
       clear H
       have p486:0≤((ji5):Int):=dc_
       have q486:(ji5)<(l0.length:Int):=dc_
       obtain⟨ad486,e486,hx486_0⟩:=Kd.at_int HR0.out (ji5) p486 q486
       cases e486
       replace p486:=eq_true p486
       replace q486:=eq_true q486
       have p487:0≤((ji9):Int):=dc_
       have q487:(ji9)<(l0.length:Int):=dc_
       obtain⟨ad487,e487,hx487_0⟩:=Kd.at_int HR0.out (ji9) p487 q487
       obtain rfl:ad486=ad487:=(by injection e487)
       replace p487:=eq_true p487
       replace q487:=eq_true q487
      rotate_left
      focus
       obtain rfl:=Option.some.inj H
       have p486:0≤((ji5):Int):=dc_
       have q486:(ji5)<(l0.length:Int):=dc_
       obtain⟨ad486,e486,hx486_0⟩:=Kd.at_int HR0.out (ji5) p486 q486
       cases e486
       replace p486:=eq_true p486
       replace q486:=eq_true q486
       have p487:0≤((ji9):Int):=dc_
       have q487:(ji9)<(l0.length:Int):=dc_
       obtain⟨ad487,e487,hx487_0⟩:=Kd.at_int HR0.out (ji9) p487 q487
       obtain rfl:ad486=ad487:=(by injection e487)
       replace p487:=eq_true p487
       replace q487:=eq_true q487
     rotate_left 2
     focus
      obtain rfl:=Option.some.inj H
      have p486:0≤((ji5):Int):=dc_
      have q486:(ji5)<(l0.length:Int):=dc_
      obtain⟨ad486,e486,hx486_0⟩:=Kd.at_int HR0.out (ji5) p486 q486
      cases e486
      replace p486:=eq_true p486
      replace q486:=eq_true q486
    rotate_left 3
    focus
     obtain rfl:=Option.some.inj H
   rotate_left 4
   focus
    obtain rfl:=Option.some.inj H
   all_goals
    go_wp2
    first
     |go_roundg k1
      case measure=>have:=HK1.out;omega
      case rel=>exact⟨(wrap64 (x5_1+1)),sm_,H',⟨by have:=HK1.out;omega⟩,by repeat(first|exact Drawn0.refl _|apply Drawn0.step)⟩
     |go_ret
      first
       |exact⟨by first|rfl|(simp;done)|(simp only [←hji5,←hji9]<;>(first|rfl|simp))|(simp [*];done),by repeat(first|exact Drawn0.refl _|apply Drawn0.step)⟩
       |exact⟨by first|rfl|(simp;done)|(simp only [←hji5]<;>(first|rfl|simp))|(simp [*];done),by repeat(first|exact Drawn0.refl _|apply Drawn0.step)⟩
       |exact⟨by first|rfl|(simp;done)|(simp [*];done),by repeat(first|exact Drawn0.refl _|apply Drawn0.step)⟩
end Go.Proofs.Ytmddmbagehjdeaa.G
end
