/- More lines for the row. -/
import Derived.Test.YtmddmbagehjdeaaZGorillaCursors11
import Derived.WalkMore
import Derived.ScopeJumps
set_option linter.unusedVariables false
set_option linter.unusedSimpArgs false
set_option maxRecDepth 100000
set_option maxHeartbeats 8000000
section
namespace Go.Proofs.Ytmddmbagehjdeaa.G
open Go Go.RowKit Go.Proofs.YtmddmbagehjdeaaX Go.Proofs.YtmddmbagehjdeaaW.PrintWords Go.Proofs.YtmddmbagehjdeaaW.PrintLast Go.Proofs.YtmddmbagehjdeaaW.PrintMore
def IsCur (w0 w:World) (g:Nat) (l:List S67):Prop:=∃ A c,w.heap[g]?=some (.cells #[.slice A l.length c] 82 (0,0))∧w0.heap.size≤g∧Kd.C k67 w0 A l.length l∧l.length≤c
theorem IsCur.keep {w0 w w1:World} {g:Nat} {l:List S67} (h:IsCur w0 w g l) (hk:w1.heap[g]?=w.heap[g]?):IsCur w0 w1 g l:=by
 obtain⟨A,c,h1,h2⟩:=h
 exact⟨A,c,hk.trans h1,h2⟩
theorem KeepBut.far_ {w w1:World} {g:Nat} {p:Addr} (h:KeepBut w w1 g none) (hp:w.heap.size≤p.block) (u:Value):KeepBut w (w1.setCell p u) g none :=
 ⟨by have h1:=h.1;have h2:=((Below.refl 0 w1).setCell (p:=p) (Nat.zero_le _) u).size;exact Nat.le_trans h1 h2,fun i hi hne hr=>(Below.heap_setCell w1 p u i (by omega)).trans (h.2 i hi hne hr)⟩
theorem IsCur.below {w0 w w1:World} {g:Nat} {l:List S67} (h:IsCur w0 w g l) (hk:Below w.heap.size w w1):IsCur w0 w1 g l:=by
 obtain⟨A,c,h1,h2⟩:=h
 exact⟨A,c,(hk.block g (blk_lt h1)).trans h1,h2⟩
set_option maxHeartbeats 4000000 in
theorem next_none (w0 w:World) (g:Nat) (hI:IsCur w0 w g []) (hB:Below w0.heap.size w0 w):Calls Try.prog 44 #[.pointer (some ⟨g,0,none⟩)] w fun e w'=>e=.returned (.tuple #[.agg #[.int .i64 0,.int .i64 0],.bool false])∧IsCur w0 w' g []∧Below w0.heap.size w0 w'∧Below w.heap.size w w':=by
 have hu67:=Try.underlying67
 have hu82:=Try.underlying82
 have HI:=Aside0.mk hI
 have HB0:=Aside0.mk hB
 obtain⟨A,c,hblk,hg0,hC,hc⟩:=hI
 have BK:=Aside0.mk hblk
 clear hblk hC hc hB hg0
 have HB:=Aside0.mk (Below.refl w.heap.size w)
 go_enter Try.func44,Try.ntmps44
 go_wp2_with (first|((with_reducible refine gate_dst (N:=2) rfl ?_);refine box_ev 2 #[.int .i64 0,.int .i64 0] 67 ?_;intro gb1 hg w1 hbox hb;have n_:=pk4 (below_step bl_ hb) (hbox) (ge_ hg bl_:w.heap.size≤gb1) (blk_below BK.out hb);clear HB BK;obtain⟨HB,BK1,GE1,BK⟩:=n_;clear hb hbox hg;obtain⟨hcz1_0,hcz1_1,hfz1_0,hfz1_1⟩:=blk_at2 BK1.out;obtain⟨hcz_0,hfz_0⟩:=blk_at1 BK.out))
 refine bodyPost_ret (results_ct rfl _ _ gb1 67 #[.int .i64 0,.int .i64 0] (0,0) _ rfl (by refine blk_put (cs:=#[.int .i64 0,.int .i64 0]) ?_ 1 _ rfl;refine blk_put (cs:=#[.int .i64 0,.int .i64 0]) ?_ 0 _ rfl;exact bo_ BK1) Try.underlying67 rfl (by kernel_rfl)) rfl ?_
 have hb:Below w.heap.size w ((w1.setCell ⟨gb1,0,none⟩ (.int .i64 0)).setCell ⟨gb1,1,none⟩ (.int .i64 0)):=bl_
 exact⟨rf_,HI.out.below hb,below_then HB0.out HB0.out.size hb,hb⟩
theorem next_some (w0 w:World) (g:Nat) (x:S67) (l:List S67) (hI:IsCur w0 w g (x::l)) (hB:Below w0.heap.size w0 w):Calls Try.prog 44 #[.pointer (some ⟨g,0,none⟩)] w fun e w'=>e=.returned (.tuple #[.agg #[.int .i64 x.f0,.int .i64 x.f1],.bool true])∧IsCur w0 w' g l∧Below w0.heap.size w0 w'∧KeepBut w w' g none:=by
 have hu67:=Try.underlying67
 have hu82:=Try.underlying82
 have HB0:=Aside0.mk hB
 obtain⟨A,c,hblk,hg0,hC,hc⟩:=hI
 obtain⟨ad,rfl,hx0,hx1⟩:=at_T67 hC 0 (by decide) (by simp)
 have hx0:w0.cell? ad=some (.int .i64 x.f0):=by simpa [Addr.add,rd_T67] using hx0
 have hx1:w0.cell? ⟨ad.block,ad.off+1,none⟩=some (.int .i64 x.f1):=by simpa [Addr.add,rd_T67] using hx1
 replace hx0:=(hB.cell (World.block_lt_of_cell? w0 _ hx0)).trans hx0
 replace hx1:=(hB.cell (World.block_lt_of_cell? w0 _ hx1)).trans hx1
 have hlt:(1:Int)≤(((x::l).length:Nat):Int):=by rw [List.length_cons];omega
 obtain⟨i0,hi0,_,hsz,_⟩:=info_parts info67
 have hcut:=cut_from (P:=Try.prog) 65 67 .i64 Try.underlying65 hi0 2 hsz (some ad) (x::l).length c 1 (by decide) hlt
 have hC2:=Kd.C_drop (m:=1) (c:=c) hC (by simp) hc
 obtain⟨A2,hA2⟩:∃ A2,A2=(if c=(1:Int).toNat then some ad else(some ad).map (·.add ((1:Int).toNat*2))):=⟨_,rfl⟩
 have hn:(x::l).length=l.length+1:=rfl
 have hlen:(x::l).length - (1:Int).toNat=l.length:=by simp
 rw [hlen,←hA2] at hcut
 have hC3:Kd.C k67 w0 A2 l.length l:=by rw [hA2];exact hC2
 have hc2:l.length≤c - (1:Int).toNat:=by rw [hn] at hc;show l.length≤c - 1;omega
 obtain⟨c2,hce⟩:∃ c2,c2=c - (1:Int).toNat:=⟨_,rfl⟩
 rw [←hce] at hcut hc2
 obtain⟨n,hne⟩:∃ n,n=(x::l).length:=⟨_,rfl⟩
 rw [←hne] at hcut hblk
 have hn0:((n:Int) == 0)=false:=by rw [hne,hn];simp;omega
 have hn1:((0:Int)<(n:Int))=True:=eq_true (by rw [hne,hn];omega)
 have hn2:((1:Int)≤(n:Int))=True:=eq_true (by rw [hne,hn];omega)
 have hn3:(0<n)=True:=eq_true (by rw [hne,hn];omega)
 have hx0w:=Aside0.mk hx0
 have hx1w:=Aside0.mk hx1
 have BK:=Aside0.mk hblk
 have HC3:=Aside0.mk hC3
 have HC2:=Aside0.mk hc2
 have HG0:=Aside0.mk hg0
 have HK:=Aside0.mk (KeepBut.refl w g none)
 clear hblk hC hc hB hg0 hC2 hC3 hc2 hA2 hce hx0 hx1 hne hn hlen hlt hi0 hsz
 have HB:=Aside0.mk (Below.refl w.heap.size w)
 go_enter Try.func44,Try.ntmps44
 go_wp2_with (first|((with_reducible refine gate_dst (N:=2) rfl ?_);refine box_ev 2 #[.int .i64 0,.int .i64 0] 67 ?_;intro gb1 hg w1 hbox hb;have n_:=pk4 (below_step bl_ hb) (hbox) (ge_ hg bl_:w.heap.size≤gb1) (blk_below BK.out hb);have N1:=Aside0.mk (nb_ hg BK.out);clear HB BK;obtain⟨HB,BK1,GE1,BK⟩:=n_;clear hb hbox hg;obtain⟨hcz1_0,hcz1_1,hfz1_0,hfz1_1⟩:=blk_at2 BK1.out;obtain⟨hcz_0,hfz_0⟩:=blk_at1 BK.out;have hx0:=(HB.out.cell (World.block_lt_of_cell? w _ hx0w.out)).trans hx0w.out;have hx1:=(HB.out.cell (World.block_lt_of_cell? w _ hx1w.out)).trans hx1w.out)|((with_reducible refine gate_dst (N:=4) rfl ?_);refine box_ev 4 #[.int .i64 0,.int .i64 0] 67 ?_;intro gb2 hg w2 hbox hb;have n_:=pk5 (below_step bl_ hb) (hbox) (ge_ hg bl_:w.heap.size≤gb2) (blk_below BK.out hb) (blk_below BK1.out hb);have N2:=Aside0.mk (nb_ hg BK.out);have N3:=Aside0.mk (nb_ hg BK1.out);clear HB BK BK1;obtain⟨HB,BK2,GE2,BK,BK1⟩:=n_;clear hb hbox hg;obtain⟨hcz4_0,hcz4_1,hfz4_0,hfz4_1⟩:=blk_at2 BK2.out;obtain⟨hcz5_0,hfz5_0⟩:=blk_at1 BK.out;obtain⟨hcz6_0,hcz6_1,hfz6_0,hfz6_1⟩:=blk_at2 BK1.out;have hn1a:=N1.out;have hn2a:=N2.out;have hn3a:=N3.out;have hn1b:=Ne.symm N1.out;have hn2b:=Ne.symm N2.out;have hn3b:=Ne.symm N3.out))
 have hn5:gb1≠gb2:=N3.out
 have hn6:gb1≠g:=Ne.symm N1.out
 have hn7:g≠gb2:=N2.out
 refine bodyPost_ret (results_ct rfl _ _ gb1 67 #[.int .i64 x.f0,.int .i64 x.f1] (0,0) _ rfl (by refine blk_put (cs:=#[.int .i64 x.f0,.int .i64 0]) ?_ 1 _ rfl;refine blk_put (cs:=#[.int .i64 0,.int .i64 0]) ?_ 0 _ rfl;exact blk_far (blk_far (blk_far BK1.out hn5 _) hn5 _) hn6 _) Try.underlying67 rfl (by kernel_rfl)) rfl ?_
 have h1:w0.heap.size≤gb1:=Nat.le_trans HB0.out.size GE1.out
 have h2:w0.heap.size≤gb2:=Nat.le_trans HB0.out.size GE2.out
 have B2:Below w0.heap.size w0 w2:=below_then HB0.out HB0.out.size HB.out
 refine⟨rf_,⟨A2,c2,?_,HG0.out,HC3.out,HC2.out⟩,((((B2.setCell (p:=⟨gb2,0,none⟩) h2 _).setCell (p:=⟨gb2,1,none⟩) h2 _).setCell (p:=⟨g,0,none⟩) HG0.out _).setCell (p:=⟨gb1,0,none⟩) h1 _).setCell (p:=⟨gb1,1,none⟩) h1 _,?_⟩
 ·refine blk_far (blk_far ?_ N1.out _) N1.out _
  refine blk_put (cs:=#[.slice (some ad) n c]) ?_ 0 _ rfl
  exact blk_far (blk_far BK.out hn7 _) hn7 _
 ·exact KeepBut.far_ (p:=⟨gb1,1,none⟩) (KeepBut.far_ (p:=⟨gb1,0,none⟩) (KeepBut.set_ (KeepBut.far_ (p:=⟨gb2,1,none⟩) (KeepBut.far_ (p:=⟨gb2,0,none⟩) (KeepBut.of_below HB.out g none) GE2.out _) GE2.out _) 0 _) GE1.out _) GE1.out _
def skipL (t:Int):List S67→List S67
 |[]=>[]
 |x::xs=>if x.f0<t then skipL t xs else x::xs
def lenAt (g:Nat) (w:World):Nat:=match w.heap[g]? with|some (Obj.cells cs _ _)=>(match cs[0]? with|some (Value.slice _ n _)=>n|_=>0)|_=>0
theorem IsCur.len {w0 w:World} {g:Nat} {l:List S67} (h:IsCur w0 w g l):lenAt g w=l.length:=by
 obtain⟨A,c,h1,_⟩:=h
 unfold lenAt
 rw [h1]
 rfl
theorem IsCur.lt {w0 w:World} {g:Nat} {l:List S67} (h:IsCur w0 w g l):g<w.heap.size:=by
 obtain⟨A,c,h1,_⟩:=h
 exact blk_lt h1
theorem below_at {B:Nat} {w0 w w1:World} (hB:Below B w0 w) (hs:B≤w.heap.size) (h:Below w.heap.size w w1):Below B w0 w1:=below_then hB hs h
theorem IsCur.far {w0 w:World} {g:Nat} {l:List S67} (h:IsCur w0 w g l) {p:Addr} (hp:g≠p.block) (u:Value):IsCur w0 (w.setCell p u) g l:=h.keep (Below.heap_setCell w p u g hp)
theorem end2 {w0 w w4:World} {g b:Nat} {l:List S67} (hI:IsCur w0 w4 g l) (hB:Below w0.heap.size w0 w4) (hK:KeepBut w w4 g none) (hb:w.heap.size≤b) (hw:w0.heap.size≤w.heap.size) (hg:g<w.heap.size) (x y:Value) :
  IsCur w0 ((w4.setCell ⟨b,0,none⟩ x).setCell ⟨b,1,none⟩ y) g l∧Below w0.heap.size w0 ((w4.setCell ⟨b,0,none⟩ x).setCell ⟨b,1,none⟩ y)∧KeepBut w ((w4.setCell ⟨b,0,none⟩ x).setCell ⟨b,1,none⟩ y) g none:=by
 have hne:g≠b:=by omega
 exact⟨IsCur.far (p:=⟨b,1,none⟩) (IsCur.far (p:=⟨b,0,none⟩) hI hne _) hne _,(hB.setCell (p:=⟨b,0,none⟩) (Nat.le_trans hw hb) _).setCell (p:=⟨b,1,none⟩) (Nat.le_trans hw hb) _,KeepBut.far_ (p:=⟨b,1,none⟩) (KeepBut.far_ (p:=⟨b,0,none⟩) hK hb _) hb _⟩
set_option maxHeartbeats 16000000 in
theorem skip_calls (w0 w:World) (g:Nat) (t:Int) (l:List S67) (hI:IsCur w0 w g l) (hB:Below w0.heap.size w0 w):Calls Try.prog 45 #[.pointer (some ⟨g,0,none⟩),.int .i64 t] w fun e w'=>Below w0.heap.size w0 w'∧KeepBut w w' g none ∧
  ((skipL t l=[]∧e=.returned (.tuple #[.agg #[.int .i64 0,.int .i64 0],.bool false])∧IsCur w0 w' g []) ∨
   ∃ x xs,skipL t l=x::xs∧e=.returned (.tuple #[.agg #[.int .i64 x.f0,.int .i64 x.f1],.bool true])∧IsCur w0 w' g xs):=by
 have hu67:=Try.underlying67
 have hu82:=Try.underlying82
 have HI:=Aside0.mk hI
 have HB0:=Aside0.mk hB
 have HGL:=Aside0.mk hI.lt
 clear hI hB
 have HB:=Aside0.mk (Below.refl w.heap.size w)
 go_enter Try.func45,Try.ntmps45
 go_wp2_with (first|((with_reducible refine gate_dst (N:=4) rfl ?_);refine box_ev 4 #[.int .i64 0,.int .i64 0] 67 ?_;intro gb4 hg w1 hbox hb;have n_:=pk5 (below_step bl_ hb) (hbox) (ge_ hg bl_:w.heap.size≤gb4) (HI.out.below hb) (below_at HB0.out HB0.out.size hb);clear HB;obtain⟨HB,BK4,GE4,HI1,HB1⟩:=n_;clear hb hbox hg))
 have HK1:=Aside0.mk (KeepBut.of_below HB.out g none)
 refine wp_scope_jumps 0 (fun a' w'=>∃ (l':List S67) (u2 u3 u6 u7 u8 u9 u10 u11 u12 u13 u14 u15 u16 u17 u18 u19 u20 u21:Value),a'={ tmps:=#[.pointer (some ⟨g,0,none⟩),.int .i64 t,u2,u3,.pointer (some ⟨gb4,0,none⟩),.bool false,u6,u7,u8,u9,u10,u11,u12,u13,u14,u15,u16,u17,u18,u19,u20,u21],defers:=[] }∧Aside0 (IsCur w0 w' g l')∧Aside0 (Below w0.heap.size w0 w')∧Aside0 (KeepBut w w' g none)∧Aside0 (w'.heap[gb4]?=some (.cells #[.int .i64 0,.int .i64 0] 67 (0,0)))∧Aside0 (skipL t l'=skipL t l)) (fun _ w'=>lenAt g w') rfl ?_ ?_
 ·go_wp2
  go_step3
  obtain⟨w2,hw2⟩:∃ w2,w2=w1:=⟨_,rfl⟩
  rw [←hw2] at HI1 HB1 HK1 BK4 ⊢
  have NG4:=Aside0.mk (Nat.ne_of_lt (Nat.lt_of_lt_of_le HGL.out GE4.out))
  have HI2:=HI1
  have HB2:=HB1
  have HK2:=HK1
  have HB4:=BK4
  obtain⟨l',hl'⟩:∃ l',l'=l:=⟨_,rfl⟩
  have HS:Aside0 (skipL t l'=skipL t l):=⟨by rw [hl']⟩
  rw [←hl'] at HI2
  clear HI1 HB1 HK1 BK4 HI hl' hw2 HB
  rcases l' with _|⟨x,xs⟩
  ·go_wp2_with (first|(go_at_call 44;(with_reducible refine(next_none w0 w2 g HI2.out HB2.out).mono ?_);rintro e w3 ⟨rfl,hi,hb,hb2⟩;have n_:=pk4 hi hb (KeepBut.trans HK2.out (KeepBut.of_below hb2 g none) (.inl rfl)) (blk_below HB4.out hb2);clear HI2 HB2 HK2 HB4;obtain⟨HI2,HB2,HK2,HB4⟩:=n_;clear hi hb hb2)|((with_reducible refine gate_dst (N:=6) rfl ?_);refine box_ev 6 #[.int .i64 0,.int .i64 0] 67 ?_;intro gb6 hg w4 hbox hb;have n_:=pk7 (hbox) (HI2.out.below hb) (below_at HB2.out HB2.out.size hb) (KeepBut.trans HK2.out (KeepBut.of_below hb g none) (.inl rfl)) (blk_below HB4.out hb) (nb_ hg HB4.out) (Nat.le_trans HK2.out.1 (ge_ hg (Below.refl _ _)));clear HI2 HB2 HK2 HB4;obtain⟨BK6,HI2,HB2,HK2,HB4,N46,GE6⟩:=n_;clear hb hbox hg;obtain⟨hcz6_0,hcz6_1,hfz6_0,hfz6_1⟩:=blk_at2 BK6.out;obtain⟨hcz4_0,hcz4_1,hfz4_0,hfz4_1⟩:=blk_at2 HB4.out;have hn1:=N46.out;have hn2:=Ne.symm N46.out))
   simp only [Exit.jump]
   refine bodyPost_ret (results_ct rfl _ _ gb4 67 #[.int .i64 0,.int .i64 0] (0,0) _ rfl (by refine blk_put (cs:=#[.int .i64 0,.int .i64 0]) ?_ 1 _ rfl;refine blk_put (cs:=#[.int .i64 0,.int .i64 0]) ?_ 0 _ rfl;exact blk_far (blk_far HB4.out hn1 _) hn1 _) Try.underlying67 rfl (by kernel_rfl)) rfl ?_
   obtain⟨e1,e2,e3⟩:=end2 HI2.out HB2.out HK2.out GE6.out HB0.out.size HGL.out (.int .i64 0) (.int .i64 0)
   obtain⟨f1,f2,f3⟩:=end2 e1 e2 e3 GE4.out HB0.out.size HGL.out (.int .i64 0) (.int .i64 0)
   exact⟨f2,f3,.inl ⟨by rw [←HS.out];rfl,rf_,f1⟩⟩
  ·by_cases hx:x.f0<t
   ·have c1:decide (x.f0<t)=true:=decide_eq_true hx
    go_wp2_with (first|(go_at_call 44;(with_reducible refine(next_some w0 w2 g x xs HI2.out HB2.out).mono ?_);rintro e w3 ⟨rfl,hi,hb,hk⟩;have n_:=pk4 hi hb (KeepBut.trans HK2.out hk (.inl rfl)) (KeepBut.blk hk HB4.out NG4.out.symm (by simp));clear HI2 HB2 HK2 HB4;obtain⟨HI2,HB2,HK2,HB4⟩:=n_;clear hi hb hk)|((with_reducible refine gate_dst (N:=6) rfl ?_);refine box_ev 6 #[.int .i64 0,.int .i64 0] 67 ?_;intro gb6 hg w4 hbox hb;have n_:=pk7 (hbox) (HI2.out.below hb) (below_at HB2.out HB2.out.size hb) (KeepBut.trans HK2.out (KeepBut.of_below hb g none) (.inl rfl)) (blk_below HB4.out hb) (nb_ hg HB4.out) (Nat.le_trans HK2.out.1 (ge_ hg (Below.refl _ _)));clear HI2 HB2 HK2 HB4;obtain⟨BK6,HI2,HB2,HK2,HB4,N46,GE6⟩:=n_;clear hb hbox hg;obtain⟨hcz6_0,hcz6_1,hfz6_0,hfz6_1⟩:=blk_at2 BK6.out;obtain⟨hcz4_0,hcz4_1,hfz4_0,hfz4_1⟩:=blk_at2 HB4.out;have hn1:=N46.out;have hn2:=Ne.symm N46.out))
    go_step3
    obtain⟨e1,e2,e3⟩:=end2 HI2.out HB2.out HK2.out GE6.out HB0.out.size HGL.out (.int .i64 x.f0) (.int .i64 x.f1)
    refine⟨rfl,⟨xs,_,_,_,_,_,_,_,_,_,_,_,_,_,_,_,_,_,_,rfl,⟨e1⟩,⟨e2⟩,⟨e3⟩,⟨blk_far (blk_far HB4.out hn1 _) hn1 _⟩,⟨by rw [←HS.out,skipL,if_pos (of_decide_eq_true c1)]⟩⟩⟩
   ·have c1:decide (x.f0<t)=false:=decide_eq_false hx
    go_wp2_with (first|(go_at_call 44;(with_reducible refine(next_some w0 w2 g x xs HI2.out HB2.out).mono ?_);rintro e w3 ⟨rfl,hi,hb,hk⟩;have n_:=pk4 hi hb (KeepBut.trans HK2.out hk (.inl rfl)) (KeepBut.blk hk HB4.out NG4.out.symm (by simp));clear HI2 HB2 HK2 HB4;obtain⟨HI2,HB2,HK2,HB4⟩:=n_;clear hi hb hk)|((with_reducible refine gate_dst (N:=6) rfl ?_);refine box_ev 6 #[.int .i64 0,.int .i64 0] 67 ?_;intro gb6 hg w4 hbox hb;have n_:=pk7 (hbox) (HI2.out.below hb) (below_at HB2.out HB2.out.size hb) (KeepBut.trans HK2.out (KeepBut.of_below hb g none) (.inl rfl)) (blk_below HB4.out hb) (nb_ hg HB4.out) (Nat.le_trans HK2.out.1 (ge_ hg (Below.refl _ _)));clear HI2 HB2 HK2 HB4;obtain⟨BK6,HI2,HB2,HK2,HB4,N46,GE6⟩:=n_;clear hb hbox hg;obtain⟨hcz6_0,hcz6_1,hfz6_0,hfz6_1⟩:=blk_at2 BK6.out;obtain⟨hcz4_0,hcz4_1,hfz4_0,hfz4_1⟩:=blk_at2 HB4.out;have hn1:=N46.out;have hn2:=Ne.symm N46.out))
    simp only [Exit.jump]
    refine bodyPost_ret (results_ct rfl _ _ gb4 67 #[.int .i64 x.f0,.int .i64 x.f1] (0,0) _ rfl (by refine blk_put (cs:=#[.int .i64 x.f0,.int .i64 0]) ?_ 1 _ rfl;refine blk_put (cs:=#[.int .i64 0,.int .i64 0]) ?_ 0 _ rfl;exact blk_far (blk_far HB4.out hn1 _) hn1 _) Try.underlying67 rfl (by kernel_rfl)) rfl ?_
    obtain⟨e1,e2,e3⟩:=end2 HI2.out HB2.out HK2.out GE6.out HB0.out.size HGL.out (.int .i64 x.f0) (.int .i64 x.f1)
    obtain⟨f1,f2,f3⟩:=end2 e1 e2 e3 GE4.out HB0.out.size HGL.out (.int .i64 x.f0) (.int .i64 x.f1)
    exact⟨f2,f3,.inr ⟨x,xs,by rw [←HS.out,skipL,if_neg (of_decide_eq_false c1)],rf_,f1⟩⟩
 ·rintro a' w2 ⟨l',u2,u3,u6,u7,u8,u9,u10,u11,u12,u13,u14,u15,u16,u17,u18,u19,u20,u21,rfl,HI2,HB2,HK2,HB4,HS⟩
  have NG4:=Aside0.mk (Nat.ne_of_lt (Nat.lt_of_lt_of_le HGL.out GE4.out))
  have HLEN:=Aside0.mk HI2.out.len
  clear HI1 HB1 HK1 BK4 HI HB
  rcases l' with _|⟨x,xs⟩
  ·go_wp2_with (first|(go_at_call 44;(with_reducible refine(next_none w0 w2 g HI2.out HB2.out).mono ?_);rintro e w3 ⟨rfl,hi,hb,hb2⟩;have n_:=pk4 hi hb (KeepBut.trans HK2.out (KeepBut.of_below hb2 g none) (.inl rfl)) (blk_below HB4.out hb2);clear HI2 HB2 HK2 HB4;obtain⟨HI2,HB2,HK2,HB4⟩:=n_;clear hi hb hb2)|((with_reducible refine gate_dst (N:=6) rfl ?_);refine box_ev 6 #[.int .i64 0,.int .i64 0] 67 ?_;intro gb6 hg w4 hbox hb;have n_:=pk7 (hbox) (HI2.out.below hb) (below_at HB2.out HB2.out.size hb) (KeepBut.trans HK2.out (KeepBut.of_below hb g none) (.inl rfl)) (blk_below HB4.out hb) (nb_ hg HB4.out) (Nat.le_trans HK2.out.1 (ge_ hg (Below.refl _ _)));clear HI2 HB2 HK2 HB4;obtain⟨BK6,HI2,HB2,HK2,HB4,N46,GE6⟩:=n_;clear hb hbox hg;obtain⟨hcz6_0,hcz6_1,hfz6_0,hfz6_1⟩:=blk_at2 BK6.out;obtain⟨hcz4_0,hcz4_1,hfz4_0,hfz4_1⟩:=blk_at2 HB4.out;have hn1:=N46.out;have hn2:=Ne.symm N46.out))
   simp only [Exit.jump]
   refine bodyPost_ret (results_ct rfl _ _ gb4 67 #[.int .i64 0,.int .i64 0] (0,0) _ rfl (by refine blk_put (cs:=#[.int .i64 0,.int .i64 0]) ?_ 1 _ rfl;refine blk_put (cs:=#[.int .i64 0,.int .i64 0]) ?_ 0 _ rfl;exact blk_far (blk_far HB4.out hn1 _) hn1 _) Try.underlying67 rfl (by kernel_rfl)) rfl ?_
   obtain⟨e1,e2,e3⟩:=end2 HI2.out HB2.out HK2.out GE6.out HB0.out.size HGL.out (.int .i64 0) (.int .i64 0)
   obtain⟨f1,f2,f3⟩:=end2 e1 e2 e3 GE4.out HB0.out.size HGL.out (.int .i64 0) (.int .i64 0)
   exact⟨f2,f3,.inl ⟨by rw [←HS.out];rfl,rf_,f1⟩⟩
  ·by_cases hx:x.f0<t
   ·have c1:decide (x.f0<t)=true:=decide_eq_true hx
    go_wp2_with (first|(go_at_call 44;(with_reducible refine(next_some w0 w2 g x xs HI2.out HB2.out).mono ?_);rintro e w3 ⟨rfl,hi,hb,hk⟩;have n_:=pk4 hi hb (KeepBut.trans HK2.out hk (.inl rfl)) (KeepBut.blk hk HB4.out NG4.out.symm (by simp));clear HI2 HB2 HK2 HB4;obtain⟨HI2,HB2,HK2,HB4⟩:=n_;clear hi hb hk)|((with_reducible refine gate_dst (N:=6) rfl ?_);refine box_ev 6 #[.int .i64 0,.int .i64 0] 67 ?_;intro gb6 hg w4 hbox hb;have n_:=pk7 (hbox) (HI2.out.below hb) (below_at HB2.out HB2.out.size hb) (KeepBut.trans HK2.out (KeepBut.of_below hb g none) (.inl rfl)) (blk_below HB4.out hb) (nb_ hg HB4.out) (Nat.le_trans HK2.out.1 (ge_ hg (Below.refl _ _)));clear HI2 HB2 HK2 HB4;obtain⟨BK6,HI2,HB2,HK2,HB4,N46,GE6⟩:=n_;clear hb hbox hg;obtain⟨hcz6_0,hcz6_1,hfz6_0,hfz6_1⟩:=blk_at2 BK6.out;obtain⟨hcz4_0,hcz4_1,hfz4_0,hfz4_1⟩:=blk_at2 HB4.out;have hn1:=N46.out;have hn2:=Ne.symm N46.out))
    go_step3
    obtain⟨e1,e2,e3⟩:=end2 HI2.out HB2.out HK2.out GE6.out HB0.out.size HGL.out (.int .i64 x.f0) (.int .i64 x.f1)
    refine⟨rfl,⟨⟨xs,_,_,_,_,_,_,_,_,_,_,_,_,_,_,_,_,_,_,rfl,⟨e1⟩,⟨e2⟩,⟨e3⟩,⟨blk_far (blk_far HB4.out hn1 _) hn1 _⟩,⟨by rw [←HS.out,skipL,if_pos (of_decide_eq_true c1)]⟩⟩,by show lenAt g _<lenAt g w2;rw [e1.len,HLEN.out];exact Nat.lt_succ_self _⟩⟩
   ·have c1:decide (x.f0<t)=false:=decide_eq_false hx
    go_wp2_with (first|(go_at_call 44;(with_reducible refine(next_some w0 w2 g x xs HI2.out HB2.out).mono ?_);rintro e w3 ⟨rfl,hi,hb,hk⟩;have n_:=pk4 hi hb (KeepBut.trans HK2.out hk (.inl rfl)) (KeepBut.blk hk HB4.out NG4.out.symm (by simp));clear HI2 HB2 HK2 HB4;obtain⟨HI2,HB2,HK2,HB4⟩:=n_;clear hi hb hk)|((with_reducible refine gate_dst (N:=6) rfl ?_);refine box_ev 6 #[.int .i64 0,.int .i64 0] 67 ?_;intro gb6 hg w4 hbox hb;have n_:=pk7 (hbox) (HI2.out.below hb) (below_at HB2.out HB2.out.size hb) (KeepBut.trans HK2.out (KeepBut.of_below hb g none) (.inl rfl)) (blk_below HB4.out hb) (nb_ hg HB4.out) (Nat.le_trans HK2.out.1 (ge_ hg (Below.refl _ _)));clear HI2 HB2 HK2 HB4;obtain⟨BK6,HI2,HB2,HK2,HB4,N46,GE6⟩:=n_;clear hb hbox hg;obtain⟨hcz6_0,hcz6_1,hfz6_0,hfz6_1⟩:=blk_at2 BK6.out;obtain⟨hcz4_0,hcz4_1,hfz4_0,hfz4_1⟩:=blk_at2 HB4.out;have hn1:=N46.out;have hn2:=Ne.symm N46.out))
    simp only [Exit.jump]
    refine bodyPost_ret (results_ct rfl _ _ gb4 67 #[.int .i64 x.f0,.int .i64 x.f1] (0,0) _ rfl (by refine blk_put (cs:=#[.int .i64 x.f0,.int .i64 0]) ?_ 1 _ rfl;refine blk_put (cs:=#[.int .i64 0,.int .i64 0]) ?_ 0 _ rfl;exact blk_far (blk_far HB4.out hn1 _) hn1 _) Try.underlying67 rfl (by kernel_rfl)) rfl ?_
    obtain⟨e1,e2,e3⟩:=end2 HI2.out HB2.out HK2.out GE6.out HB0.out.size HGL.out (.int .i64 x.f0) (.int .i64 x.f1)
    obtain⟨f1,f2,f3⟩:=end2 e1 e2 e3 GE4.out HB0.out.size HGL.out (.int .i64 x.f0) (.int .i64 x.f1)
    exact⟨f2,f3,.inr ⟨x,xs,by rw [←HS.out,skipL,if_neg (of_decide_eq_false c1)],rf_,f1⟩⟩
end Go.Proofs.Ytmddmbagehjdeaa.G
end
section
namespace Go.Proofs.Ytmddmbagehjdeaa.G
open Go Go.RowKit Go.Proofs.YtmddmbagehjdeaaX Go.Proofs.YtmddmbagehjdeaaW.PrintWords Go.Proofs.YtmddmbagehjdeaaW.PrintLast Go.Proofs.YtmddmbagehjdeaaW.PrintMore
def popL:List S67→Bool×S67×List S67
 |[]=>(false,z67,[])
 |x::xs=>(true,x,xs)
theorem next_any (w0 w:World) (g:Nat) (l:List S67) (hI:IsCur w0 w g l) (hB:Below w0.heap.size w0 w):Calls Try.prog 44 #[.pointer (some ⟨g,0,none⟩)] w fun e w'=>e=.returned (.tuple #[.agg #[.int .i64 (popL l).2.1.f0,.int .i64 (popL l).2.1.f1],.bool (popL l).1])∧IsCur w0 w' g (popL l).2.2∧Below w0.heap.size w0 w'∧KeepBut w w' g none:=by
 cases l with
 |nil=>exact(next_none w0 w g hI hB).mono fun e w' ⟨he,hi,hb,hk⟩=>⟨he,hi,hb,KeepBut.of_below hk g none⟩
 |cons x xs=>exact(next_some w0 w g x xs hI hB).mono fun e w' ⟨he,hi,hb,hk⟩=>⟨he,hi,hb,hk⟩
theorem skip_any (w0 w:World) (g:Nat) (t:Int) (l:List S67) (hI:IsCur w0 w g l) (hB:Below w0.heap.size w0 w):Calls Try.prog 45 #[.pointer (some ⟨g,0,none⟩),.int .i64 t] w fun e w'=>e=.returned (.tuple #[.agg #[.int .i64 (popL (skipL t l)).2.1.f0,.int .i64 (popL (skipL t l)).2.1.f1],.bool (popL (skipL t l)).1])∧IsCur w0 w' g (popL (skipL t l)).2.2∧Below w0.heap.size w0 w'∧KeepBut w w' g none:=by
 refine(skip_calls w0 w g t l hI hB).mono ?_
 rintro e w' ⟨hb,hk,⟨h1,h2,h3⟩|⟨x,xs,h1,h2,h3⟩⟩
 ·rw [h1];exact⟨h2,h3,hb,hk⟩
 ·rw [h1];exact⟨h2,h3,hb,hk⟩
theorem cur_new {W W2:World} {g B:Nat} {A:Option Addr} {c:Nat} {l:List S67} {ok:Nat→Prop} (hR:Kd.R k67 67 W B ok (.slice A l.length c) l) (hg:g=W.heap.size) (hb:W2.heap[g]?=some (.cells #[.slice A l.length c] 82 (0,0))):IsCur W W2 g l :=
 ⟨A,c,hb,by omega,(Kd.R_reads' hR).2.2,(Kd.R_reads' hR).2.1⟩
def gorilla_Open.f (k:Nat) (a0_0:Int) (a0_1:Int) (a0_2:Int) (l0_3:List Int) (a0_4:Int):Option (List S67):=(gorilla_Samples.f k a0_0 a0_1 a0_2 l0_3 a0_4).bind fun t=>some t.1
theorem gorilla_Open.calls (k:Nat) (a0_0:Int) (a0_1:Int) (a0_2:Int) (A0_3:Option Addr) (c0_3:Nat) (l0_3:List Int) (a0_4:Int) (r:List S67) (w:World) (hr0_3:Kd.C (Kd.int .u8) w A0_3 l0_3.length l0_3) (hc0_3:l0_3.length≤c0_3) (h:gorilla_Open.f k a0_0 a0_1 a0_2 l0_3 a0_4=some r) :
  Calls Try.prog 49 #[.agg #[.int .i64 a0_0,.int .i64 a0_1,.int .i64 a0_2,.slice A0_3 l0_3.length c0_3,.int .i64 a0_4]] w fun e w'=>∃ g w1,e=.returned (.pointer (some ⟨g,0,none⟩))∧IsCur w1 w' g r∧Below w1.heap.size w1 w'∧Below w.heap.size w w1:=by
 have hu69:=Try.underlying69
 have hu25:=Try.underlying25
 have hu82:=Try.underlying82
 unfold gorilla_Open.f at h
 obtain⟨⟨r1,r2⟩,hA,h⟩:=Option.bind_eq_some_iff.1 h
 injection h with h
 subst h
 have HR:=Aside0.mk hr0_3
 have HC:=Aside0.mk hc0_3
 have HA:=Aside0.mk hA
 clear hr0_3 hc0_3 hA
 have HB:=Aside0.mk (Below.refl w.heap.size w)
 go_enter Try.func49,Try.ntmps49
 go_wp2_with (first
  |((with_reducible refine gate_dst (N:=1) rfl ?_);refine box_ev 1 #[.int .i64 a0_0,.int .i64 a0_1,.int .i64 a0_2,.slice A0_3 l0_3.length c0_3,.int .i64 a0_4] 69 ?_;intro gb1 hg w1 hbox hb;have n_:=pk2 (below_step bl_ hb) (hbox);clear HB;obtain⟨HB,BK1⟩:=n_;clear hb hbox hg;obtain⟨hcz0,hcz1,hcz2,hcz3,hcz4,hfz0,hfz1,hfz2,hfz3,hfz4⟩:=blk_at5 BK1.out)
  |(go_at_call 40;(with_reducible refine(gorilla_Samples.calls k a0_0 a0_1 a0_2 A0_3 c0_3 l0_3 a0_4 r1 r2 _ ?side1 HC.out HA.out).mono ?_);(case side1=>exact Kd.C_below HR.out HB.out);rintro e w3 ⟨v0,rfl,ho,hb⟩;obtain⟨A1,c1,hv⟩:=Kd.R_slice ho;subst hv;have n_:=pk2 (below_step HB.out hb) ho;clear HB BK1 hcz0 hcz1 hcz2 hcz3 hcz4 hfz0 hfz1 hfz2 hfz3 hfz4;obtain⟨HB,HO⟩:=n_;clear hb ho)
  |((with_reducible refine gate_dst (N:=12) rfl ?_);refine box_ev 12 #[.slice A1 r1.length c1] 82 ?_;intro gb12 hg w4 hbox hb;have n_:=pk2 (cur_new HO.out hg hbox) (hb);obtain⟨HI,HB4⟩:=n_;clear hb hbox hg))
 go_ret
 exact⟨gb12,w3,rfl,HI.out,HB4.out,HB.out⟩
end Go.Proofs.Ytmddmbagehjdeaa.G
end
section
namespace Go.Proofs.Ytmddmbagehjdeaa.G
open Go Go.RowKit Go.Proofs.YtmddmbagehjdeaaX Go.Proofs.YtmddmbagehjdeaaW.PrintWords Go.Proofs.YtmddmbagehjdeaaW.PrintLast Go.Proofs.YtmddmbagehjdeaaW.PrintMore
theorem zero_put {W:World} {g t:Nat} (h:W.heap[g]?=some (.cells #[.int .i64 0,.int .i64 0] t (0,0))):((W.setCell ⟨g,0,none⟩ (.int .i64 0)).setCell ⟨g,1,none⟩ (.int .i64 0)).heap[g]?=some (.cells #[.int .i64 0,.int .i64 0] t (0,0)):=by
 refine blk_put (cs:=#[.int .i64 0,.int .i64 0]) ?_ 1 _ rfl
 exact blk_put (cs:=#[.int .i64 0,.int .i64 0]) h 0 _ rfl
theorem zero_cur {w0 W:World} {g b:Nat} {l:List S67} (h:IsCur w0 W g l) (hn:g≠b) (x y:Value):IsCur w0 ((W.setCell ⟨b,0,none⟩ x).setCell ⟨b,1,none⟩ y) g l:=IsCur.far (p:=⟨b,1,none⟩) (IsCur.far (p:=⟨b,0,none⟩) h hn _) hn _
theorem zero_below {B:Nat} {w0 W:World} {b:Nat} (h:Below B w0 W) (hb:B≤b) (x y:Value):Below B w0 ((W.setCell ⟨b,0,none⟩ x).setCell ⟨b,1,none⟩ y):=(h.setCell (p:=⟨b,0,none⟩) hb _).setCell (p:=⟨b,1,none⟩) hb _
end Go.Proofs.Ytmddmbagehjdeaa.G
end
section
namespace Go.Proofs.Ytmddmbagehjdeaa.G
open Go Go.RowKit Go.Proofs.YtmddmbagehjdeaaX Go.Proofs.YtmddmbagehjdeaaW.PrintWords Go.Proofs.YtmddmbagehjdeaaW.PrintLast Go.Proofs.YtmddmbagehjdeaaW.PrintMore
attribute [local go_sem high] eqA67
def eqL (l w:List S67):Bool:=decide (l.map (fun x=>x.f0)=w.map (fun x=>x.f0)) && decide (l.map (fun x=>x.f1)=w.map (fun x=>x.f1))
theorem eqL_eq:∀ {l w:List S67},eqL l w=true→l=w
 |[],[],_=>rfl
 |[],_::_,h=>by simp [eqL] at h
 |_::_,[],h=>by simp [eqL] at h
 |⟨a,b⟩::l,⟨c,d⟩::w,h=>by
  simp only [eqL,List.map_cons,List.cons.injEq,Bool.and_eq_true,decide_eq_true_eq] at h
  obtain⟨⟨rfl,h1⟩,rfl,h2⟩:=h
  rw [eqL_eq (l:=l) (w:=w) (by simp [eqL,h1,h2])]
theorem eqL_self (l:List S67):eqL l l=true:=by simp [eqL]
def windroselaw18_GorillaCursors.f (k:Nat) (a0_0:Int) (a0_1:Int) (a0_2:Int) (l0_3:List Int) (a0_4:Int) (l1:List S94):Option Bool :=
 (windroselaw18_light.f a0_0 a0_1 a0_2 l0_3 a0_4).bind fun t=>if t=true then(gorilla_Open.f k a0_0 a0_1 a0_2 l0_3 a0_4).bind fun l=>(windroseref18_Samples.f k a0_0 a0_1 a0_2 l0_3 a0_4).bind fun u=>if eqL l u.1=true then windroselaw18_awake.f k else none
 else windroselaw18_awake.f k
theorem skip_0 (w0 w:World) (g:Nat) (t:Int) (l:List S67) (h:skipL t l=[]) (hI:IsCur w0 w g l) (hB:Below w0.heap.size w0 w):Calls Try.prog 45 #[.pointer (some ⟨g,0,none⟩),.int .i64 t] w fun e w'=>e=.returned (.tuple #[.agg #[.int .i64 0,.int .i64 0],.bool false])∧IsCur w0 w' g []∧Below w0.heap.size w0 w'∧KeepBut w w' g none:=by
 have:=skip_any w0 w g t l hI hB
 rw [h] at this
 exact this
theorem skip_1 (w0 w:World) (g:Nat) (t:Int) (l:List S67) (x:S67) (xs:List S67) (h:skipL t l=x::xs) (hI:IsCur w0 w g l) (hB:Below w0.heap.size w0 w):Calls Try.prog 45 #[.pointer (some ⟨g,0,none⟩),.int .i64 t] w fun e w'=>e=.returned (.tuple #[.agg #[.int .i64 x.f0,.int .i64 x.f1],.bool true])∧IsCur w0 w' g xs∧Below w0.heap.size w0 w'∧KeepBut w w' g none:=by
 have:=skip_any w0 w g t l hI hB
 rw [h] at this
 exact this
theorem next_0 (w0 w:World) (g:Nat) (hI:IsCur w0 w g []) (hB:Below w0.heap.size w0 w):Calls Try.prog 44 #[.pointer (some ⟨g,0,none⟩)] w fun e w'=>e=.returned (.tuple #[.agg #[.int .i64 0,.int .i64 0],.bool false])∧IsCur w0 w' g []∧Below w0.heap.size w0 w'∧KeepBut w w' g none:=next_any w0 w g [] hI hB
theorem F_put2 {α:Type} {d:Kd α} {W:World} {ok:Nat→Prop} {A:Option Addr} {n b:Nat} {xs:List α} (h:Kd.F d W ok A n xs) (hb:∀ k,ok k→k≠b) (x y:Value):Kd.F d ((W.setCell ⟨b,0,none⟩ x).setCell ⟨b,1,none⟩ y) ok A n xs :=
 Kd.F_far (p:=⟨b,1,none⟩) (Kd.F_far (p:=⟨b,0,none⟩) h hb x) hb y
theorem put2 {W:World} {g t:Nat} {a b:Value} (h:W.heap[g]?=some (.cells #[a,b] t (0,0))) (x y:Value):((W.setCell ⟨g,0,none⟩ x).setCell ⟨g,1,none⟩ y).heap[g]?=some (.cells #[x,y] t (0,0)):=by
 refine blk_put (cs:=#[x,b]) ?_ 1 _ rfl
 exact blk_put (cs:=#[a,b]) h 0 _ rfl
theorem size_put2 {W:World} {N b:Nat} (h:N≤W.heap.size) (x y:Value):N≤((W.setCell ⟨b,0,none⟩ x).setCell ⟨b,1,none⟩ y).heap.size:=by simpa using h
theorem cell_z {w W:World} {gs:Nat} {p:Addr} {v:Value} (h:w.cell? p=some v) (hB:Below w.heap.size w W) (hg:w.heap.size≤gs) (x y:Value):((W.setCell ⟨gs,0,none⟩ x).setCell ⟨gs,1,none⟩ y).cell? p=some v:=((zero_below hB hg x y).cell (World.block_lt_of_cell? w _ h)).trans h
theorem cur_put2 {w0 W:World} {g b:Nat} {l:List S67} (h:IsCur w0 W g l) (hn:g≠b) (x y:Value):IsCur w0 ((W.setCell ⟨b,0,none⟩ x).setCell ⟨b,1,none⟩ y) g l:=zero_cur h hn x y
theorem at_one {W:World} {ok:Nat→Prop} {A:Option Addr} {c:Nat} {x:S67} {l:List S67} (hF:Kd.F k67 W ok A (x::l).length (x::l)) (hc:(x::l).length≤c):∃ ad A2 c2,A=some ad∧W.cell? ad=some (.int .i64 x.f0)∧W.cell? ⟨ad.block,ad.off+1,none⟩=some (.int .i64 x.f1)∧Kd.F k67 W ok A2 l.length l∧l.length≤c2 ∧
  (∀ V:World,(Instr.slice 65 (.slice (some ad) (l.length+1) c) (some (.int .i64 1)) none none).run Try.prog V=.ok (.slice A2 l.length c2) V):=by
 obtain⟨ad,rfl,hx0,hx1⟩:=at_T67 (Kd.F_now hF) 0 (by decide) (by simp)
 have hx0:W.cell? ad=some (.int .i64 x.f0):=by simpa [Addr.add,rd_T67] using hx0
 have hx1:W.cell? ⟨ad.block,ad.off+1,none⟩=some (.int .i64 x.f1):=by simpa [Addr.add,rd_T67] using hx1
 have hlt:(1:Int)≤(((x::l).length:Nat):Int):=by rw [List.length_cons];omega
 obtain⟨i0,hi0,_,hsz,_⟩:=info_parts info67
 have hcut:=cut_from (P:=Try.prog) 65 67 .i64 Try.underlying65 hi0 2 hsz (some ad) (x::l).length c 1 (by decide) hlt
 have hC2:=Kd.F_cut (m:=1) (c:=c) hF (by simp) hc
 have hlen:(x::l).length - (1:Int).toNat=l.length:=by simp
 rw [hlen] at hcut
 refine⟨ad,(if c=(1:Int).toNat then some ad else(some ad).map (·.add ((1:Int).toNat*2))),c - (1:Int).toNat,rfl,hx0,hx1,hC2,?_,hcut⟩
 have hn:(x::l).length=l.length+1:=rfl
 rw [hn] at hc
 show l.length≤c - 1
 omega
set_option maxHeartbeats 32000000 in
theorem windroselaw18_GorillaCursors.calls (k:Nat) (a0_0:Int) (a0_1:Int) (a0_2:Int) (A0_3:Option Addr) (c0_3:Nat) (l0_3:List Int) (a0_4:Int) (A1:Option Addr) (c1:Nat) (l1:List S94) (r:Bool) (w:World) (hr0_3:Kd.C (Kd.int .u8) w A0_3 l0_3.length l0_3) (hc0_3:l0_3.length≤c0_3) (hr1:Kd.C k94 w A1 l1.length l1) (hc1:l1.length≤c1) (h:windroselaw18_GorillaCursors.f k a0_0 a0_1 a0_2 l0_3 a0_4 l1=some r) :
  Calls Try.prog 12 #[.agg #[.int .i64 a0_0,.int .i64 a0_1,.int .i64 a0_2,.slice A0_3 l0_3.length c0_3,.int .i64 a0_4],.slice A1 l1.length c1] w fun e w'=>e=.returned (.bool r)∧Below w.heap.size w w':=by
 have hu69:=Try.underlying69
 have hu25:=Try.underlying25
 have hu82:=Try.underlying82
 have hu67:=Try.underlying67
 have hu94:=Try.underlying94
 unfold windroselaw18_GorillaCursors.f at h
 obtain⟨t,hA,h⟩:=Option.bind_eq_some_iff.1 h
 have HR:=Aside0.mk hr0_3
 have HC:=Aside0.mk hc0_3
 have HR1:=Aside0.mk hr1
 have HA:=Aside0.mk hA
 clear hr0_3 hc0_3 hA hr1
 have HB:=Aside0.mk (Below.refl w.heap.size w)
 cases t with
 |false =>
  rw [if_neg (by decide)] at h
  have HW:=Aside0.mk h
  clear h
  go_enter Try.func12,Try.ntmps12
  go_wp2_with (first
   |((with_reducible refine gate_dst (N:=2) rfl ?_);refine box_ev 2 #[.int .i64 a0_0,.int .i64 a0_1,.int .i64 a0_2,.slice A0_3 l0_3.length c0_3,.int .i64 a0_4] 69 ?_;intro gb1 hg w1 hbox hb;have n_:=pk2 (below_step bl_ hb) (hbox);clear HB;obtain⟨HB,BK1⟩:=n_;clear hb hbox hg;obtain⟨hcz0,hcz1,hcz2,hcz3,hcz4,hfz0,hfz1,hfz2,hfz3,hfz4⟩:=blk_at5 BK1.out)
   |(go_at_call 46;(with_reducible refine(windroselaw18_light.calls a0_0 a0_1 a0_2 A0_3 c0_3 l0_3 a0_4 false _ ?side1 HC.out HA.out).mono ?_);(case side1=>exact Kd.C_below HR.out HB.out);rintro e w3 ⟨rfl,hb⟩;have n_:=pk1 (below_step HB.out hb);clear HB BK1 hcz0 hcz1 hcz2 hcz3 hcz4 hfz0 hfz1 hfz2 hfz3 hfz4;have HB:=n_;clear n_ hb)
   |(go_at_call 36;(with_reducible refine(windroselaw18_awake.calls k r _ HW.out).mono ?_);rintro e w10 ⟨rfl,hb6⟩;have HB6:=Aside0.mk (below_step HB.out hb6);clear hb6))
  go_ret
  exact⟨rfl,HB6.out⟩
 |true =>
  rw [if_pos rfl] at h
  obtain⟨l,hO,h⟩:=Option.bind_eq_some_iff.1 h
  obtain⟨⟨u,ub⟩,hS,h⟩:=Option.bind_eq_some_iff.1 h
  replace h:(if eqL l u=true then windroselaw18_awake.f k else none)=some r:=h
  by_cases hq:eqL l u=true
  rotate_left
  ·rw [if_neg hq] at h
   cases h
  rw [if_pos hq] at h
  have:=eqL_eq hq
  subst this
  have HW:=Aside0.mk h
  have HO:=Aside0.mk hO
  have HS:=Aside0.mk hS
  clear h hO hS hq
  go_enter Try.func12,Try.ntmps12
  go_wp2_with (first
   |((with_reducible refine gate_dst (N:=2) rfl ?_);refine box_ev 2 #[.int .i64 a0_0,.int .i64 a0_1,.int .i64 a0_2,.slice A0_3 l0_3.length c0_3,.int .i64 a0_4] 69 ?_;intro gb1 hg w1 hbox hb;have n_:=pk2 (below_step bl_ hb) (hbox);clear HB;obtain⟨HB,BK1⟩:=n_;clear hb hbox hg;obtain⟨hcz0,hcz1,hcz2,hcz3,hcz4,hfz0,hfz1,hfz2,hfz3,hfz4⟩:=blk_at5 BK1.out)
   |(go_at_call 46;(with_reducible refine(windroselaw18_light.calls a0_0 a0_1 a0_2 A0_3 c0_3 l0_3 a0_4 true _ ?side1 HC.out HA.out).mono ?_);(case side1=>exact Kd.C_below HR.out HB.out);rintro e w3 ⟨rfl,hb⟩;have n_:=pk2 (below_step HB.out hb) (blk_below BK1.out hb);clear HB BK1 hcz0 hcz1 hcz2 hcz3 hcz4 hfz0 hfz1 hfz2 hfz3 hfz4;obtain⟨HB,BK1⟩:=n_;clear hb;obtain⟨hcz0,hcz1,hcz2,hcz3,hcz4,hfz0,hfz1,hfz2,hfz3,hfz4⟩:=blk_at5 BK1.out)
   |(go_at_call 49;(with_reducible refine(gorilla_Open.calls k a0_0 a0_1 a0_2 A0_3 c0_3 l0_3 a0_4 l _ ?side1 HC.out HO.out).mono ?_);(case side1=>exact Kd.C_below HR.out HB.out);rintro e w4 ⟨gx,w5,rfl,hi,hb,hb1⟩;have n_:=pk4 hi hb (below_step HB.out hb1) (blk_below (blk_below BK1.out hb1) hb);clear HB BK1 hcz0 hcz1 hcz2 hcz3 hcz4 hfz0 hfz1 hfz2 hfz3 hfz4;obtain⟨HI,HB4,HB,BK1⟩:=n_;clear hi hb hb1;obtain⟨hcz0,hcz1,hcz2,hcz3,hcz4,hfz0,hfz1,hfz2,hfz3,hfz4⟩:=blk_at5 BK1.out)
   |(go_at_call 48;(with_reducible refine(windroseref18_Samples.calls k a0_0 a0_1 a0_2 A0_3 c0_3 l0_3 a0_4 l ub _ ?side1 HC.out HS.out).mono ?_);(case side1=>exact Kd.C_below HR.out (below_step HB.out HB4.out));rintro e w6 ⟨v6,rfl,ho,hb⟩;obtain⟨A6,c6,hv⟩:=Kd.R_slice ho;subst hv;have n_:=pk4 (HI.out.below hb) (below_at HB4.out HB4.out.size hb) (show Kd.F k67 w6 (fun k=>k≠gx∧k<w6.heap.size) A6 l.length l from Kd.F_mono (Kd.R_F (Kd.R_bound ho)) (fun k hk=>⟨by have:=hk.2.1;have:=HI.out.lt;omega,hk.2.2.1⟩)) (Kd.R_reads' ho).2.1;clear HI HB4 BK1 hcz0 hcz1 hcz2 hcz3 hcz4 hfz0 hfz1 hfz2 hfz3 hfz4;obtain⟨HI,HB4,HF,HC6⟩:=n_;clear ho hb))
  obtain⟨N,hN⟩:∃ N,N=w6.heap.size:=⟨_,rfl⟩
  rw [←hN] at HF
  have HNW:Aside0 (N≤w6.heap.size):=⟨Nat.le_of_eq hN⟩
  clear hN
  go_loopg [6,8] 91 (fun kq v6 v8 w'=>∃ (x8:Int) (l':List S67) (A:Option Addr) (c:Nat),v6=.slice A l'.length c∧v8=.int .i64 x8∧Aside0 (0≤x8∧x8≤90∧90 - x8<kq)∧Aside0 (l'.length≤c)∧Aside0 (Kd.F k67 w' (fun k=>k≠gx∧k<N) A l'.length l')∧Aside0 (IsCur w5 w' gx l')∧Aside0 (Below w5.heap.size w5 w')∧Aside0 (N≤w'.heap.size))
  case atStart=>exact⟨0,l,A6,c6,rfl,rfl,⟨by omega⟩,HC6,HF,HI,HB4,HNW⟩
  case round =>
   clear HC6 HF HI HB4 HNW
   obtain⟨x8,l',A,c,rfl,rfl,HK,HC6,HF,HI,HB4,HNW⟩:=hrel
   have HWB:=Aside0.mk (below_step HB.out HB4.out)
   by_cases h1:x8<(l1.length:Int)
   rotate_left
   ·have c1:decide (x8<(l1.length:Int))=false:=decide_eq_false h1
    clear h1
    go_wp2_with (go_at_call 36;(with_reducible refine(windroselaw18_awake.calls k r _ HW.out).mono ?_);rintro e w10 ⟨rfl,hb6⟩;have HB6:=Aside0.mk (below_step HWB.out hb6);clear hb6)
    go_ret
    exact⟨rfl,HB6.out⟩
   by_cases h2:x8<90
   rotate_left
   ·have c1:decide (x8<(l1.length:Int))=true:=decide_eq_true h1
    have c2:decide (x8<90)=false:=decide_eq_false h2
    clear h1 h2
    go_wp2_with (go_at_call 36;(with_reducible refine(windroselaw18_awake.calls k r _ HW.out).mono ?_);rintro e w10 ⟨rfl,hb6⟩;have HB6:=Aside0.mk (below_step HWB.out hb6);clear hb6)
    go_ret
    exact⟨rfl,HB6.out⟩
   have h0:0≤x8:=HK.out.1
   obtain⟨ay,ey,hy0,hy1⟩:=at_T94 HR1.out x8 h0 h1
   subst ey
   have HY0:=Aside0.mk hy0
   have HY1:=Aside0.mk hy1
   replace hy0:=(HWB.out.cell (World.block_lt_of_cell? w _ hy0)).trans hy0
   replace hy1:=(HWB.out.cell (World.block_lt_of_cell? w _ hy1)).trans hy1
   obtain⟨y,hy⟩:∃ y,y=rd_T94 l1 x8:=⟨_,rfl⟩
   rw [←hy] at hy0 hy1 HY0 HY1
   clear hy
   have c1:decide (x8<(l1.length:Int))=true:=decide_eq_true h1
   have c2:decide (x8<90)=true:=decide_eq_true h2
   have HX:Aside0 (0≤x8∧x8<90):=⟨⟨h0,h2⟩⟩
   replace h0:=eq_true h0
   replace h1:=eq_true h1
   cases gk with
   |zero=>exact absurd HK.out.2.2 (by have:=HX.out.2;omega)
   |succ k1 =>
   by_cases hd:y.f0=0
   ·have d1:(y.f0 == 0)=true:=by simpa using hd
    have d2:(y.f0 != 0)=false:=by simpa using hd
    clear hd
    rcases l' with _|⟨x,xs⟩
    ·skip
     go_wp2_with (first
        |((with_reducible refine gate_dst (N:=9) rfl ?_);refine box_ev 9 #[.int .i64 0,.int .i64 0] 67 ?_;intro gs hg w7 hbox hb;have n_:=pk8 (HI.out.below hb) (below_at HB4.out HB4.out.size hb) (Kd.F_below HF.out hb) (show gx≠gs by have:=HI.out.lt;omega) hbox (ge_ hg HB4.out:w5.heap.size≤gs) (show N≤gs by have:=HNW.out;omega) (Nat.le_trans HNW.out hb.size);clear HI HB4 HF HNW;obtain⟨HI,HB4,HF,NXS,BKS,GS,NGS,HNW⟩:=n_;clear hb hbox hg;obtain⟨hcs0,hcs1,hfs0,hfs1⟩:=blk_at2 BKS.out;have hy0:=cell_z HY0.out (below_step HB.out HB4.out) (Nat.le_trans HB.out.size GS.out) (.int .i64 0) (.int .i64 0);have hy1:=cell_z HY1.out (below_step HB.out HB4.out) (Nat.le_trans HB.out.size GS.out) (.int .i64 0) (.int .i64 0))
        |(go_at_call 44;(with_reducible refine(next_0 w5 _ gx (zero_cur HI.out NXS.out _ _) (zero_below HB4.out GS.out _ _)).mono ?_);rintro e w8 ⟨rfl,hi,hb,hk⟩;have n_:=pk5 hi hb (Kd.F_keep (F_put2 HF.out (fun k hk'=>Nat.ne_of_lt (Nat.lt_of_lt_of_le hk'.2 NGS.out)) _ _) hk (fun k hk'=>hk'.1)) (KeepBut.blk hk (zero_put BKS.out) (Ne.symm NXS.out) (by simp)) (Nat.le_trans (size_put2 HNW.out _ _) hk.1);clear HI HB4 HF BKS HNW hcs0 hcs1 hfs0 hfs1 hy0 hy1;obtain⟨HI,HB4,HF,BKS,HNW⟩:=n_;clear hi hb hk;obtain⟨hcs0,hcs1,hfs0,hfs1⟩:=blk_at2 (put2 BKS.out (.int .i64 0) (.int .i64 0));obtain⟨hcq0,hcq1,hfq0,hfq1⟩:=blk_at2 BKS.out))
     have E1:=cur_put2 HI.out NXS.out (.int .i64 0) (.int .i64 0)
     have E2:=zero_below HB4.out GS.out (.int .i64 0) (.int .i64 0)
     have E3:=size_put2 (b:=gs) HNW.out (.int .i64 0) (.int .i64 0)
     go_roundg k1
     case measure=>omega
     case rel=>exact⟨x8+1,[],A,c,rfl,(by rw [show wrap64 (x8+1)=x8+1 from by unfold wrap64;have:=HX.out;omega]),⟨by have:=HX.out;have:=HK.out;omega⟩,HC6,⟨F_put2 HF.out (fun k hk=>Nat.ne_of_lt (Nat.lt_of_lt_of_le hk.2 NGS.out)) _ _⟩,⟨E1⟩,⟨E2⟩,⟨E3⟩⟩
    ·obtain⟨ad,A2,c2,e,hx0,hx1,hF2,hC2,hcut⟩:=at_one HF.out HC6.out
     subst e
     clear hF2 hC2 hcut A2 c2 hx0 hx1
     go_wp2_with (first
        |((with_reducible refine gate_dst (N:=9) rfl ?_);refine box_ev 9 #[.int .i64 0,.int .i64 0] 67 ?_;intro gs hg w7 hbox hb;have n_:=pk8 (HI.out.below hb) (below_at HB4.out HB4.out.size hb) (Kd.F_below HF.out hb) (show gx≠gs by have:=HI.out.lt;omega) hbox (ge_ hg HB4.out:w5.heap.size≤gs) (show N≤gs by have:=HNW.out;omega) (Nat.le_trans HNW.out hb.size);clear HI HB4 HF HNW;obtain⟨HI,HB4,HF,NXS,BKS,GS,NGS,HNW⟩:=n_;clear hb hbox hg;obtain⟨hcs0,hcs1,hfs0,hfs1⟩:=blk_at2 BKS.out;have hy0:=cell_z HY0.out (below_step HB.out HB4.out) (Nat.le_trans HB.out.size GS.out) (.int .i64 0) (.int .i64 0);have hy1:=cell_z HY1.out (below_step HB.out HB4.out) (Nat.le_trans HB.out.size GS.out) (.int .i64 0) (.int .i64 0))
        |(go_at_call 44;(with_reducible refine(next_some w5 _ gx x xs (zero_cur HI.out NXS.out _ _) (zero_below HB4.out GS.out _ _)).mono ?_);rintro e w8 ⟨rfl,hi,hb,hk⟩;have n_:=pk5 hi hb (Kd.F_keep (F_put2 HF.out (fun k hk'=>Nat.ne_of_lt (Nat.lt_of_lt_of_le hk'.2 NGS.out)) _ _) hk (fun k hk'=>hk'.1)) (KeepBut.blk hk (zero_put BKS.out) (Ne.symm NXS.out) (by simp)) (Nat.le_trans (size_put2 HNW.out _ _) hk.1);clear HI HB4 HF BKS HNW hcs0 hcs1 hfs0 hfs1 hy0 hy1;obtain⟨HI,HB4,HF,BKS,HNW⟩:=n_;clear hi hb hk;obtain⟨hcs0,hcs1,hfs0,hfs1⟩:=blk_at2 (put2 BKS.out (.int .i64 x.f0) (.int .i64 x.f1));obtain⟨hcq0,hcq1,hfq0,hfq1⟩:=blk_at2 BKS.out;obtain⟨ad_,A2,c2,e_,hx0,hx1,hF2,hC2,hcut⟩:=at_one (F_put2 HF.out (fun k hk=>Nat.ne_of_lt (Nat.lt_of_lt_of_le hk.2 NGS.out)) (.int .i64 x.f0) (.int .i64 x.f1)) HC6.out;cases e_;have n_:=pk2 hF2 hC2;clear hF2 hC2;obtain⟨HF2,HC2⟩:=n_))
     go_quiet (fail)
     go_wp2
     have E1:=cur_put2 HI.out NXS.out (.int .i64 x.f0) (.int .i64 x.f1)
     have E2:=zero_below HB4.out GS.out (.int .i64 x.f0) (.int .i64 x.f1)
     have E3:=size_put2 (b:=gs) HNW.out (.int .i64 x.f0) (.int .i64 x.f1)
     go_roundg k1
     case measure=>omega
     case rel=>exact⟨x8+1,xs,A2,c2,rfl,(by rw [show wrap64 (x8+1)=x8+1 from by unfold wrap64;have:=HX.out;omega]),⟨by have:=HX.out;have:=HK.out;omega⟩,HC2,⟨Kd.F_drewN HF2.out _⟩,⟨E1.below (pw_below_drewN (Below.refl _ _) _)⟩,⟨pw_below_drewN E2 _⟩,⟨E3⟩⟩
   ·have d1:(y.f0 == 0)=false:=by simpa using hd
    have d2:(y.f0 != 0)=true:=by simpa using hd
    clear hd
    obtain⟨wo,rfl⟩:∃ wo:World,wo=wr:=⟨_,rfl⟩
    go_wp2
    go_loopg [6] (l'.length+1) (fun kq v6 w'=>∃ (l2:List S67) (A2:Option Addr) (c2:Nat),v6=.slice A2 l2.length c2∧Aside0 (skipL y.f1 l2=skipL y.f1 l')∧Aside0 (l2.length<kq)∧Aside0 (l2.length≤c2)∧Aside0 (Kd.F k67 w' (fun k=>k≠gx∧k<N) A2 l2.length l2)∧Aside0 (IsCur w5 w' gx l')∧Aside0 (Below w5.heap.size w5 w')∧Aside0 (N≤w'.heap.size))
    case atStart=>exact⟨l',A,c,rfl,⟨rfl⟩,⟨Nat.lt_succ_self _⟩,HC6,HF,HI,HB4,HNW⟩
    case round =>
     clear HC6 HF HI HB4 HNW HWB hy0 hy1
     obtain⟨l2,A2,c2,rfl,HSK,HK2,HC6,HF,HI,HB4,HNW⟩:=hrel
     have hy0:=((below_step HB.out HB4.out).cell (World.block_lt_of_cell? w _ HY0.out)).trans HY0.out
     have hy1:=((below_step HB.out HB4.out).cell (World.block_lt_of_cell? w _ HY1.out)).trans HY1.out
     rcases l2 with _|⟨x,xs⟩
     ·replace HSK:Aside0 (skipL y.f1 l'=[]):=⟨HSK.out.symm⟩
      go_wp2
      go_quiet (fail)
      have n_:=pk4 (HI.out.below (pw_below_drewN (Below.refl _ _) nq)) (pw_below_drewN HB4.out nq) (Kd.F_drewN HF.out nq) (show N≤(wr.drewN nq).heap.size from HNW.out)
      clear HI HB4 HF HNW
      obtain⟨HI,HB4,HF,HNW⟩:=n_
      go_wp2_with (first
         |((with_reducible refine gate_dst (N:=9) rfl ?_);refine box_ev 9 #[.int .i64 0,.int .i64 0] 67 ?_;intro gs hg w7 hbox hb;have n_:=pk8 (HI.out.below hb) (below_at HB4.out HB4.out.size hb) (Kd.F_below HF.out hb) (show gx≠gs by have:=HI.out.lt;omega) hbox (ge_ hg HB4.out:w5.heap.size≤gs) (show N≤gs by have:=HNW.out;omega) (Nat.le_trans HNW.out hb.size);clear HI HB4 HF HNW;obtain⟨HI,HB4,HF,NXS,BKS,GS,NGS,HNW⟩:=n_;clear hb hbox hg;obtain⟨hcs0,hcs1,hfs0,hfs1⟩:=blk_at2 BKS.out;have hy0:=cell_z HY0.out (below_step HB.out HB4.out) (Nat.le_trans HB.out.size GS.out) (.int .i64 0) (.int .i64 0);have hy1:=cell_z HY1.out (below_step HB.out HB4.out) (Nat.le_trans HB.out.size GS.out) (.int .i64 0) (.int .i64 0))
         |(go_at_call 45;(with_reducible refine(skip_0 w5 _ gx _ l' HSK.out (zero_cur HI.out NXS.out _ _) (zero_below HB4.out GS.out _ _)).mono ?_);rintro e w8 ⟨rfl,hi,hb,hk⟩;have n_:=pk5 hi hb (Kd.F_keep (F_put2 HF.out (fun k hk'=>Nat.ne_of_lt (Nat.lt_of_lt_of_le hk'.2 NGS.out)) _ _) hk (fun k hk'=>hk'.1)) (KeepBut.blk hk (zero_put BKS.out) (Ne.symm NXS.out) (by simp)) (Nat.le_trans (size_put2 HNW.out _ _) hk.1);clear HI HB4 HF BKS HNW hcs0 hcs1 hfs0 hfs1 hy0 hy1;obtain⟨HI,HB4,HF,BKS,HNW⟩:=n_;clear hi hb hk;obtain⟨hcs0,hcs1,hfs0,hfs1⟩:=blk_at2 (put2 BKS.out (.int .i64 0) (.int .i64 0));obtain⟨hcq0,hcq1,hfq0,hfq1⟩:=blk_at2 BKS.out))
      have E1:=cur_put2 HI.out NXS.out (.int .i64 0) (.int .i64 0)
      have E2:=zero_below HB4.out GS.out (.int .i64 0) (.int .i64 0)
      have E3:=size_put2 (b:=gs) HNW.out (.int .i64 0) (.int .i64 0)
      go_roundg k1
      case measure=>omega
      case rel=>exact⟨x8+1,[],A2,c2,rfl,(by rw [show wrap64 (x8+1)=x8+1 from by unfold wrap64;have:=HX.out;omega]),⟨by have:=HX.out;have:=HK.out;omega⟩,HC6,⟨F_put2 HF.out (fun k hk=>Nat.ne_of_lt (Nat.lt_of_lt_of_le hk.2 NGS.out)) _ _⟩,⟨E1⟩,⟨E2⟩,⟨E3⟩⟩
     ·obtain⟨ad,A3,c3_,e,hx0,hx1,hF2,hC2,hcut⟩:=at_one HF.out HC6.out
      subst e
      have L1:decide ((0:Int)<(xs.length:Int)+1)=true:=decide_eq_true (by omega)
      by_cases hx:x.f0<y.f1
      ·have c3:decide (x.f0<y.f1)=true:=decide_eq_true hx
       go_wp2
       go_quiet (fail)
       go_wp2
       have E0:Aside0 (skipL y.f1 xs=skipL y.f1 l'):=⟨by rw [←HSK.out,skipL,if_pos (of_decide_eq_true c3)]⟩
       cases gk with
       |zero=>exact absurd HK2.out (by simp)
       |succ k2 =>
       go_roundg k2
       case measure=>omega
       case rel=>exact⟨xs,A3,c3_,rfl,E0,⟨by have:=HK2.out;simp at this;omega⟩,⟨hC2⟩,⟨Kd.F_drewN hF2 _⟩,⟨HI.out.below (pw_below_drewN (Below.refl _ _) _)⟩,⟨pw_below_drewN HB4.out _⟩,⟨HNW.out⟩⟩
      ·have c3:decide (x.f0<y.f1)=false:=decide_eq_false hx
       replace HSK:Aside0 (skipL y.f1 l'=x::xs):=⟨by rw [←HSK.out,skipL,if_neg hx]⟩
       clear hF2 hC2 hcut
       go_wp2
       go_quiet (fail)
       have n_:=pk4 (HI.out.below (pw_below_drewN (Below.refl _ _) nq)) (pw_below_drewN HB4.out nq) (Kd.F_drewN HF.out nq) (show N≤(wr.drewN nq).heap.size from HNW.out)
       clear HI HB4 HF HNW hx0 hx1
       obtain⟨HI,HB4,HF,HNW⟩:=n_
       go_wp2_with (first
          |((with_reducible refine gate_dst (N:=9) rfl ?_);refine box_ev 9 #[.int .i64 0,.int .i64 0] 67 ?_;intro gs hg w7 hbox hb;have n_:=pk8 (HI.out.below hb) (below_at HB4.out HB4.out.size hb) (Kd.F_below HF.out hb) (show gx≠gs by have:=HI.out.lt;omega) hbox (ge_ hg HB4.out:w5.heap.size≤gs) (show N≤gs by have:=HNW.out;omega) (Nat.le_trans HNW.out hb.size);clear HI HB4 HF HNW;obtain⟨HI,HB4,HF,NXS,BKS,GS,NGS,HNW⟩:=n_;clear hb hbox hg;obtain⟨hcs0,hcs1,hfs0,hfs1⟩:=blk_at2 BKS.out;have hy0:=cell_z HY0.out (below_step HB.out HB4.out) (Nat.le_trans HB.out.size GS.out) (.int .i64 0) (.int .i64 0);have hy1:=cell_z HY1.out (below_step HB.out HB4.out) (Nat.le_trans HB.out.size GS.out) (.int .i64 0) (.int .i64 0))
          |(go_at_call 45;(with_reducible refine(skip_1 w5 _ gx _ l' x xs HSK.out (zero_cur HI.out NXS.out _ _) (zero_below HB4.out GS.out _ _)).mono ?_);rintro e w8 ⟨rfl,hi,hb,hk⟩;have n_:=pk5 hi hb (Kd.F_keep (F_put2 HF.out (fun k hk'=>Nat.ne_of_lt (Nat.lt_of_lt_of_le hk'.2 NGS.out)) _ _) hk (fun k hk'=>hk'.1)) (KeepBut.blk hk (zero_put BKS.out) (Ne.symm NXS.out) (by simp)) (Nat.le_trans (size_put2 HNW.out _ _) hk.1);clear HI HB4 HF BKS HNW hcs0 hcs1 hfs0 hfs1 hy0 hy1;obtain⟨HI,HB4,HF,BKS,HNW⟩:=n_;clear hi hb hk;obtain⟨hcs0,hcs1,hfs0,hfs1⟩:=blk_at2 (put2 BKS.out (.int .i64 x.f0) (.int .i64 x.f1));obtain⟨hcq0,hcq1,hfq0,hfq1⟩:=blk_at2 BKS.out;obtain⟨ad_,A2,c2,e_,hx0,hx1,hF2,hC2,hcut⟩:=at_one (F_put2 HF.out (fun k hk=>Nat.ne_of_lt (Nat.lt_of_lt_of_le hk.2 NGS.out)) (.int .i64 x.f0) (.int .i64 x.f1)) HC6.out;cases e_;have n_:=pk2 hF2 hC2;clear hF2 hC2;obtain⟨HF2,HC2⟩:=n_))
       go_quiet (fail)
       go_wp2
       have E1:=cur_put2 HI.out NXS.out (.int .i64 x.f0) (.int .i64 x.f1)
       have E2:=zero_below HB4.out GS.out (.int .i64 x.f0) (.int .i64 x.f1)
       have E3:=size_put2 (b:=gs) HNW.out (.int .i64 x.f0) (.int .i64 x.f1)
       go_roundg k1
       case measure=>omega
       case rel=>exact⟨x8+1,xs,A2,c2,rfl,(by rw [show wrap64 (x8+1)=x8+1 from by unfold wrap64;have:=HX.out;omega]),⟨by have:=HX.out;have:=HK.out;omega⟩,HC2,⟨Kd.F_drewN HF2.out _⟩,⟨E1.below (pw_below_drewN (Below.refl _ _) _)⟩,⟨pw_below_drewN E2 _⟩,⟨E3⟩⟩
end Go.Proofs.Ytmddmbagehjdeaa.G
end
