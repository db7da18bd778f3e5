/- More lines for the row. -/
import Derived.Test.YtmddmbagehjdeaaZGorillaReads11
import Derived.WalkMore
import Derived.ScopeJumps
set_option linter.unusedVariables false
set_option linter.unusedSimpArgs false
set_option maxRecDepth 100000
set_option maxHeartbeats 8000000
section
namespace Go.Proofs.Ytmddmbagehjdeaa.G
open Go Go.RowKit Go.Proofs.YtmddmbagehjdeaaX Go.Proofs.YtmddmbagehjdeaaW.PrintWords Go.Proofs.YtmddmbagehjdeaaW.PrintLast Go.Proofs.YtmddmbagehjdeaaW.PrintMore
def IsCur (w0 w:World) (g:Nat) (l:List S67):Prop:=∃ A c,w.heap[g]?=some (.cells #[.slice A l.length c] 82 (0,0))∧w0.heap.size≤g∧Kd.C k67 w0 A l.length l∧l.length≤c
theorem IsCur.keep {w0 w w1:World} {g:Nat} {l:List S67} (h:IsCur w0 w g l) (hk:w1.heap[g]?=w.heap[g]?):IsCur w0 w1 g l:=by
 obtain⟨A,c,h1,h2⟩:=h
 exact⟨A,c,hk.trans h1,h2⟩
theorem KeepBut.far_ {w w1:World} {g:Nat} {p:Addr} (h:KeepBut w w1 g none) (hp:w.heap.size≤p.block) (u:Value):KeepBut w (w1.setCell p u) g none :=
 ⟨by have h1:=h.1;have h2:=((Below.refl 0 w1).setCell (p:=p) (Nat.zero_le _) u).size;exact Nat.le_trans h1 h2,fun i hi hne hr=>(Below.heap_setCell w1 p u i (by omega)).trans (h.2 i hi hne hr)⟩
theorem IsCur.below {w0 w w1:World} {g:Nat} {l:List S67} (h:IsCur w0 w g l) (hk:Below w.heap.size w w1):IsCur w0 w1 g l:=by
 obtain⟨A,c,h1,h2⟩:=h
 exact⟨A,c,(hk.block g (blk_lt h1)).trans h1,h2⟩
set_option maxHeartbeats 4000000 in
theorem next_none (w0 w:World) (g:Nat) (hI:IsCur w0 w g []) (hB:Below w0.heap.size w0 w):Calls Try.prog 44 #[.pointer (some ⟨g,0,none⟩)] w fun e w'=>e=.returned (.tuple #[.agg #[.int .i64 0,.int .i64 0],.bool false])∧IsCur w0 w' g []∧Below w0.heap.size w0 w'∧Below w.heap.size w w':=by
 have hu67:=Try.underlying67
 have hu82:=Try.underlying82
 have HI:=Aside0.mk hI
 have HB0:=Aside0.mk hB
 obtain⟨A,c,hblk,hg0,hC,hc⟩:=hI
 have BK:=Aside0.mk hblk
 clear hblk hC hc hB hg0
 have HB:=Aside0.mk (Below.refl w.heap.size w)
 go_enter Try.func44,Try.ntmps44
 go_wp2_with (first|((with_reducible refine gate_dst (N:=2) rfl ?_);refine box_ev 2 #[.int .i64 0,.int .i64 0] 67 ?_;intro gb1 hg w1 hbox hb;have n_:=pk4 (below_step bl_ hb) (hbox) (ge_ hg bl_:w.heap.size≤gb1) (blk_below BK.out hb);clear HB BK;obtain⟨HB,BK1,GE1,BK⟩:=n_;clear hb hbox hg;obtain⟨hcz1_0,hcz1_1,hfz1_0,hfz1_1⟩:=blk_at2 BK1.out;obtain⟨hcz_0,hfz_0⟩:=blk_at1 BK.out))
 refine bodyPost_ret (results_ct rfl _ _ gb1 67 #[.int .i64 0,.int .i64 0] (0,0) _ rfl (by refine blk_put (cs:=#[.int .i64 0,.int .i64 0]) ?_ 1 _ rfl;refine blk_put (cs:=#[.int .i64 0,.int .i64 0]) ?_ 0 _ rfl;exact bo_ BK1) Try.underlying67 rfl (by kernel_rfl)) rfl ?_
 have hb:Below w.heap.size w ((w1.setCell ⟨gb1,0,none⟩ (.int .i64 0)).setCell ⟨gb1,1,none⟩ (.int .i64 0)):=bl_
 exact⟨rf_,HI.out.below hb,below_then HB0.out HB0.out.size hb,hb⟩
theorem next_some (w0 w:World) (g:Nat) (x:S67) (l:List S67) (hI:IsCur w0 w g (x::l)) (hB:Below w0.heap.size w0 w):Calls Try.prog 44 #[.pointer (some ⟨g,0,none⟩)] w fun e w'=>e=.returned (.tuple #[.agg #[.int .i64 x.f0,.int .i64 x.f1],.bool true])∧IsCur w0 w' g l∧Below w0.heap.size w0 w'∧KeepBut w w' g none:=by
 have hu67:=Try.underlying67
 have hu82:=Try.underlying82
 have HB0:=Aside0.mk hB
 obtain⟨A,c,hblk,hg0,hC,hc⟩:=hI
 obtain⟨ad,rfl,hx0,hx1⟩:=at_T67 hC 0 (by decide) (by simp)
 have hx0:w0.cell? ad=some (.int .i64 x.f0):=by simpa [Addr.add,rd_T67] using hx0
 have hx1:w0.cell? ⟨ad.block,ad.off+1,none⟩=some (.int .i64 x.f1):=by simpa [Addr.add,rd_T67] using hx1
 replace hx0:=(hB.cell (World.block_lt_of_cell? w0 _ hx0)).trans hx0
 replace hx1:=(hB.cell (World.block_lt_of_cell? w0 _ hx1)).trans hx1
 have hlt:(1:Int)≤(((x::l).length:Nat):Int):=by rw [List.length_cons];omega
 obtain⟨i0,hi0,_,hsz,_⟩:=info_parts info67
 have hcut:=cut_from (P:=Try.prog) 65 67 .i64 Try.underlying65 hi0 2 hsz (some ad) (x::l).length c 1 (by decide) hlt
 have hC2:=Kd.C_drop (m:=1) (c:=c) hC (by simp) hc
 obtain⟨A2,hA2⟩:∃ A2,A2=(if c=(1:Int).toNat then some ad else(some ad).map (·.add ((1:Int).toNat*2))):=⟨_,rfl⟩
 have hn:(x::l).length=l.length+1:=rfl
 have hlen:(x::l).length - (1:Int).toNat=l.length:=by simp
 rw [hlen,←hA2] at hcut
 have hC3:Kd.C k67 w0 A2 l.length l:=by rw [hA2];exact hC2
 have hc2:l.length≤c - (1:Int).toNat:=by rw [hn] at hc;show l.length≤c - 1;omega
 obtain⟨c2,hce⟩:∃ c2,c2=c - (1:Int).toNat:=⟨_,rfl⟩
 rw [←hce] at hcut hc2
 obtain⟨n,hne⟩:∃ n,n=(x::l).length:=⟨_,rfl⟩
 rw [←hne] at hcut hblk
 have hn0:((n:Int) == 0)=false:=by rw [hne,hn];simp;omega
 have hn1:((0:Int)<(n:Int))=True:=eq_true (by rw [hne,hn];omega)
 have hn2:((1:Int)≤(n:Int))=True:=eq_true (by rw [hne,hn];omega)
 have hn3:(0<n)=True:=eq_true (by rw [hne,hn];omega)
 have hx0w:=Aside0.mk hx0
 have hx1w:=Aside0.mk hx1
 have BK:=Aside0.mk hblk
 have HC3:=Aside0.mk hC3
 have HC2:=Aside0.mk hc2
 have HG0:=Aside0.mk hg0
 have HK:=Aside0.mk (KeepBut.refl w g none)
 clear hblk hC hc hB hg0 hC2 hC3 hc2 hA2 hce hx0 hx1 hne hn hlen hlt hi0 hsz
 have HB:=Aside0.mk (Below.refl w.heap.size w)
 go_enter Try.func44,Try.ntmps44
 go_wp2_with (first|((with_reducible refine gate_dst (N:=2) rfl ?_);refine box_ev 2 #[.int .i64 0,.int .i64 0] 67 ?_;intro gb1 hg w1 hbox hb;have n_:=pk4 (below_step bl_ hb) (hbox) (ge_ hg bl_:w.heap.size≤gb1) (blk_below BK.out hb);have N1:=Aside0.mk (nb_ hg BK.out);clear HB BK;obtain⟨HB,BK1,GE1,BK⟩:=n_;clear hb hbox hg;obtain⟨hcz1_0,hcz1_1,hfz1_0,hfz1_1⟩:=blk_at2 BK1.out;obtain⟨hcz_0,hfz_0⟩:=blk_at1 BK.out;have hx0:=(HB.out.cell (World.block_lt_of_cell? w _ hx0w.out)).trans hx0w.out;have hx1:=(HB.out.cell (World.block_lt_of_cell? w _ hx1w.out)).trans hx1w.out)|((with_reducible refine gate_dst (N:=4) rfl ?_);refine box_ev 4 #[.int .i64 0,.int .i64 0] 67 ?_;intro gb2 hg w2 hbox hb;have n_:=pk5 (below_step bl_ hb) (hbox) (ge_ hg bl_:w.heap.size≤gb2) (blk_below BK.out hb) (blk_below BK1.out hb);have N2:=Aside0.mk (nb_ hg BK.out);have N3:=Aside0.mk (nb_ hg BK1.out);clear HB BK BK1;obtain⟨HB,BK2,GE2,BK,BK1⟩:=n_;clear hb hbox hg;obtain⟨hcz4_0,hcz4_1,hfz4_0,hfz4_1⟩:=blk_at2 BK2.out;obtain⟨hcz5_0,hfz5_0⟩:=blk_at1 BK.out;obtain⟨hcz6_0,hcz6_1,hfz6_0,hfz6_1⟩:=blk_at2 BK1.out;have hn1a:=N1.out;have hn2a:=N2.out;have hn3a:=N3.out;have hn1b:=Ne.symm N1.out;have hn2b:=Ne.symm N2.out;have hn3b:=Ne.symm N3.out))
 have hn5:gb1≠gb2:=N3.out
 have hn6:gb1≠g:=Ne.symm N1.out
 have hn7:g≠gb2:=N2.out
 refine bodyPost_ret (results_ct rfl _ _ gb1 67 #[.int .i64 x.f0,.int .i64 x.f1] (0,0) _ rfl (by refine blk_put (cs:=#[.int .i64 x.f0,.int .i64 0]) ?_ 1 _ rfl;refine blk_put (cs:=#[.int .i64 0,.int .i64 0]) ?_ 0 _ rfl;exact blk_far (blk_far (blk_far BK1.out hn5 _) hn5 _) hn6 _) Try.underlying67 rfl (by kernel_rfl)) rfl ?_
 have h1:w0.heap.size≤gb1:=Nat.le_trans HB0.out.size GE1.out
 have h2:w0.heap.size≤gb2:=Nat.le_trans HB0.out.size GE2.out
 have B2:Below w0.heap.size w0 w2:=below_then HB0.out HB0.out.size HB.out
 refine⟨rf_,⟨A2,c2,?_,HG0.out,HC3.out,HC2.out⟩,((((B2.setCell (p:=⟨gb2,0,none⟩) h2 _).setCell (p:=⟨gb2,1,none⟩) h2 _).setCell (p:=⟨g,0,none⟩) HG0.out _).setCell (p:=⟨gb1,0,none⟩) h1 _).setCell (p:=⟨gb1,1,none⟩) h1 _,?_⟩
 ·refine blk_far (blk_far ?_ N1.out _) N1.out _
  refine blk_put (cs:=#[.slice (some ad) n c]) ?_ 0 _ rfl
  exact blk_far (blk_far BK.out hn7 _) hn7 _
 ·exact KeepBut.far_ (p:=⟨gb1,1,none⟩) (KeepBut.far_ (p:=⟨gb1,0,none⟩) (KeepBut.set_ (KeepBut.far_ (p:=⟨gb2,1,none⟩) (KeepBut.far_ (p:=⟨gb2,0,none⟩) (KeepBut.of_below HB.out g none) GE2.out _) GE2.out _) 0 _) GE1.out _) GE1.out _
def skipL (t:Int):List S67→List S67
 |[]=>[]
 |x::xs=>if x.f0<t then skipL t xs else x::xs
def lenAt (g:Nat) (w:World):Nat:=match w.heap[g]? with|some (Obj.cells cs _ _)=>(match cs[0]? with|some (Value.slice _ n _)=>n|_=>0)|_=>0
theorem IsCur.len {w0 w:World} {g:Nat} {l:List S67} (h:IsCur w0 w g l):lenAt g w=l.length:=by
 obtain⟨A,c,h1,_⟩:=h
 unfold lenAt
 rw [h1]
 rfl
theorem IsCur.lt {w0 w:World} {g:Nat} {l:List S67} (h:IsCur w0 w g l):g<w.heap.size:=by
 obtain⟨A,c,h1,_⟩:=h
 exact blk_lt h1
theorem below_at {B:Nat} {w0 w w1:World} (hB:Below B w0 w) (hs:B≤w.heap.size) (h:Below w.heap.size w w1):Below B w0 w1:=below_then hB hs h
theorem IsCur.far {w0 w:World} {g:Nat} {l:List S67} (h:IsCur w0 w g l) {p:Addr} (hp:g≠p.block) (u:Value):IsCur w0 (w.setCell p u) g l:=h.keep (Below.heap_setCell w p u g hp)
theorem end2 {w0 w w4:World} {g b:Nat} {l:List S67} (hI:IsCur w0 w4 g l) (hB:Below w0.heap.size w0 w4) (hK:KeepBut w w4 g none) (hb:w.heap.size≤b) (hw:w0.heap.size≤w.heap.size) (hg:g<w.heap.size) (x y:Value) :
  IsCur w0 ((w4.setCell ⟨b,0,none⟩ x).setCell ⟨b,1,none⟩ y) g l∧Below w0.heap.size w0 ((w4.setCell ⟨b,0,none⟩ x).setCell ⟨b,1,none⟩ y)∧KeepBut w ((w4.setCell ⟨b,0,none⟩ x).setCell ⟨b,1,none⟩ y) g none:=by
 have hne:g≠b:=by omega
 exact⟨IsCur.far (p:=⟨b,1,none⟩) (IsCur.far (p:=⟨b,0,none⟩) hI hne _) hne _,(hB.setCell (p:=⟨b,0,none⟩) (Nat.le_trans hw hb) _).setCell (p:=⟨b,1,none⟩) (Nat.le_trans hw hb) _,KeepBut.far_ (p:=⟨b,1,none⟩) (KeepBut.far_ (p:=⟨b,0,none⟩) hK hb _) hb _⟩
set_option maxHeartbeats 16000000 in
theorem skip_calls (w0 w:World) (g:Nat) (t:Int) (l:List S67) (hI:IsCur w0 w g l) (hB:Below w0.heap.size w0 w):Calls Try.prog 45 #[.pointer (some ⟨g,0,none⟩),.int .i64 t] w fun e w'=>Below w0.heap.size w0 w'∧KeepBut w w' g none ∧
  ((skipL t l=[]∧e=.returned (.tuple #[.agg #[.int .i64 0,.int .i64 0],.bool false])∧IsCur w0 w' g []) ∨
   ∃ x xs,skipL t l=x::xs∧e=.returned (.tuple #[.agg #[.int .i64 x.f0,.int .i64 x.f1],.bool true])∧IsCur w0 w' g xs):=by
 have hu67:=Try.underlying67
 have hu82:=Try.underlying82
 have HI:=Aside0.mk hI
 have HB0:=Aside0.mk hB
 have HGL:=Aside0.mk hI.lt
 clear hI hB
 have HB:=Aside0.mk (Below.refl w.heap.size w)
 go_enter Try.func45,Try.ntmps45
 go_wp2_with (first|((with_reducible refine gate_dst (N:=4) rfl ?_);refine box_ev 4 #[.int .i64 0,.int .i64 0] 67 ?_;intro gb4 hg w1 hbox hb;have n_:=pk5 (below_step bl_ hb) (hbox) (ge_ hg bl_:w.heap.size≤gb4) (HI.out.below hb) (below_at HB0.out HB0.out.size hb);clear HB;obtain⟨HB,BK4,GE4,HI1,HB1⟩:=n_;clear hb hbox hg))
 have HK1:=Aside0.mk (KeepBut.of_below HB.out g none)
 refine wp_scope_jumps 0 (fun a' w'=>∃ (l':List S67) (u2 u3 u6 u7 u8 u9 u10 u11 u12 u13 u14 u15 u16 u17 u18 u19 u20 u21:Value),a'={ tmps:=#[.pointer (some ⟨g,0,none⟩),.int .i64 t,u2,u3,.pointer (some ⟨gb4,0,none⟩),.bool false,u6,u7,u8,u9,u10,u11,u12,u13,u14,u15,u16,u17,u18,u19,u20,u21],defers:=[] }∧Aside0 (IsCur w0 w' g l')∧Aside0 (Below w0.heap.size w0 w')∧Aside0 (KeepBut w w' g none)∧Aside0 (w'.heap[gb4]?=some (.cells #[.int .i64 0,.int .i64 0] 67 (0,0)))∧Aside0 (skipL t l'=skipL t l)) (fun _ w'=>lenAt g w') rfl ?_ ?_
 ·go_wp2
  go_step3
  obtain⟨w2,hw2⟩:∃ w2,w2=w1:=⟨_,rfl⟩
  rw [←hw2] at HI1 HB1 HK1 BK4 ⊢
  have NG4:=Aside0.mk (Nat.ne_of_lt (Nat.lt_of_lt_of_le HGL.out GE4.out))
  have HI2:=HI1
  have HB2:=HB1
  have HK2:=HK1
  have HB4:=BK4
  obtain⟨l',hl'⟩:∃ l',l'=l:=⟨_,rfl⟩
  have HS:Aside0 (skipL t l'=skipL t l):=⟨by rw [hl']⟩
  rw [←hl'] at HI2
  clear HI1 HB1 HK1 BK4 HI hl' hw2 HB
  rcases l' with _|⟨x,xs⟩
  ·go_wp2_with (first|(go_at_call 44;(with_reducible refine(next_none w0 w2 g HI2.out HB2.out).mono ?_);rintro e w3 ⟨rfl,hi,hb,hb2⟩;have n_:=pk4 hi hb (KeepBut.trans HK2.out (KeepBut.of_below hb2 g none) (.inl rfl)) (blk_below HB4.out hb2);clear HI2 HB2 HK2 HB4;obtain⟨HI2,HB2,HK2,HB4⟩:=n_;clear hi hb hb2)|((with_reducible refine gate_dst (N:=6) rfl ?_);refine box_ev 6 #[.int .i64 0,.int .i64 0] 67 ?_;intro gb6 hg w4 hbox hb;have n_:=pk7 (hbox) (HI2.out.below hb) (below_at HB2.out HB2.out.size hb) (KeepBut.trans HK2.out (KeepBut.of_below hb g none) (.inl rfl)) (blk_below HB4.out hb) (nb_ hg HB4.out) (Nat.le_trans HK2.out.1 (ge_ hg (Below.refl _ _)));clear HI2 HB2 HK2 HB4;obtain⟨BK6,HI2,HB2,HK2,HB4,N46,GE6⟩:=n_;clear hb hbox hg;obtain⟨hcz6_0,hcz6_1,hfz6_0,hfz6_1⟩:=blk_at2 BK6.out;obtain⟨hcz4_0,hcz4_1,hfz4_0,hfz4_1⟩:=blk_at2 HB4.out;have hn1:=N46.out;have hn2:=Ne.symm N46.out))
   simp only [Exit.jump]
   refine bodyPost_ret (results_ct rfl _ _ gb4 67 #[.int .i64 0,.int .i64 0] (0,0) _ rfl (by refine blk_put (cs:=#[.int .i64 0,.int .i64 0]) ?_ 1 _ rfl;refine blk_put (cs:=#[.int .i64 0,.int .i64 0]) ?_ 0 _ rfl;exact blk_far (blk_far HB4.out hn1 _) hn1 _) Try.underlying67 rfl (by kernel_rfl)) rfl ?_
   obtain⟨e1,e2,e3⟩:=end2 HI2.out HB2.out HK2.out GE6.out HB0.out.size HGL.out (.int .i64 0) (.int .i64 0)
   obtain⟨f1,f2,f3⟩:=end2 e1 e2 e3 GE4.out HB0.out.size HGL.out (.int .i64 0) (.int .i64 0)
   exact⟨f2,f3,.inl ⟨by rw [←HS.out];rfl,rf_,f1⟩⟩
  ·by_cases hx:x.f0<t
   ·have c1:decide (x.f0<t)=true:=decide_eq_true hx
    go_wp2_with (first|(go_at_call 44;(with_reducible refine(next_some w0 w2 g x xs HI2.out HB2.out).mono ?_);rintro e w3 ⟨rfl,hi,hb,hk⟩;have n_:=pk4 hi hb (KeepBut.trans HK2.out hk (.inl rfl)) (KeepBut.blk hk HB4.out NG4.out.symm (by simp));clear HI2 HB2 HK2 HB4;obtain⟨HI2,HB2,HK2,HB4⟩:=n_;clear hi hb hk)|((with_reducible refine gate_dst (N:=6) rfl ?_);refine box_ev 6 #[.int .i64 0,.int .i64 0] 67 ?_;intro gb6 hg w4 hbox hb;have n_:=pk7 (hbox) (HI2.out.below hb) (below_at HB2.out HB2.out.size hb) (KeepBut.trans HK2.out (KeepBut.of_below hb g none) (.inl rfl)) (blk_below HB4.out hb) (nb_ hg HB4.out) (Nat.le_trans HK2.out.1 (ge_ hg (Below.refl _ _)));clear HI2 HB2 HK2 HB4;obtain⟨BK6,HI2,HB2,HK2,HB4,N46,GE6⟩:=n_;clear hb hbox hg;obtain⟨hcz6_0,hcz6_1,hfz6_0,hfz6_1⟩:=blk_at2 BK6.out;obtain⟨hcz4_0,hcz4_1,hfz4_0,hfz4_1⟩:=blk_at2 HB4.out;have hn1:=N46.out;have hn2:=Ne.symm N46.out))
    go_step3
    obtain⟨e1,e2,e3⟩:=end2 HI2.out HB2.out HK2.out GE6.out HB0.out.size HGL.out (.int .i64 x.f0) (.int .i64 x.f1)
    refine⟨rfl,⟨xs,_,_,_,_,_,_,_,_,_,_,_,_,_,_,_,_,_,_,rfl,⟨e1⟩,⟨e2⟩,⟨e3⟩,⟨blk_far (blk_far HB4.out hn1 _) hn1 _⟩,⟨by rw [←HS.out,skipL,if_pos (of_decide_eq_true c1)]⟩⟩⟩
   ·have c1:decide (x.f0<t)=false:=decide_eq_false hx
    go_wp2_with (first|(go_at_call 44;(with_reducible refine(next_some w0 w2 g x xs HI2.out HB2.out).mono ?_);rintro e w3 ⟨rfl,hi,hb,hk⟩;have n_:=pk4 hi hb (KeepBut.trans HK2.out hk (.inl rfl)) (KeepBut.blk hk HB4.out NG4.out.symm (by simp));clear HI2 HB2 HK2 HB4;obtain⟨HI2,HB2,HK2,HB4⟩:=n_;clear hi hb hk)|((with_reducible refine gate_dst (N:=6) rfl ?_);refine box_ev 6 #[.int .i64 0,.int .i64 0] 67 ?_;intro gb6 hg w4 hbox hb;have n_:=pk7 (hbox) (HI2.out.below hb) (below_at HB2.out HB2.out.size hb) (KeepBut.trans HK2.out (KeepBut.of_below hb g none) (.inl rfl)) (blk_below HB4.out hb) (nb_ hg HB4.out) (Nat.le_trans HK2.out.1 (ge_ hg (Below.refl _ _)));clear HI2 HB2 HK2 HB4;obtain⟨BK6,HI2,HB2,HK2,HB4,N46,GE6⟩:=n_;clear hb hbox hg;obtain⟨hcz6_0,hcz6_1,hfz6_0,hfz6_1⟩:=blk_at2 BK6.out;obtain⟨hcz4_0,hcz4_1,hfz4_0,hfz4_1⟩:=blk_at2 HB4.out;have hn1:=N46.out;have hn2:=Ne.symm N46.out))
    simp only [Exit.jump]
    refine bodyPost_ret (results_ct rfl _ _ gb4 67 #[.int .i64 x.f0,.int .i64 x.f1] (0,0) _ rfl (by refine blk_put (cs:=#[.int .i64 x.f0,.int .i64 0]) ?_ 1 _ rfl;refine blk_put (cs:=#[.int .i64 0,.int .i64 0]) ?_ 0 _ rfl;exact blk_far (blk_far HB4.out hn1 _) hn1 _) Try.underlying67 rfl (by kernel_rfl)) rfl ?_
    obtain⟨e1,e2,e3⟩:=end2 HI2.out HB2.out HK2.out GE6.out HB0.out.size HGL.out (.int .i64 x.f0) (.int .i64 x.f1)
    obtain⟨f1,f2,f3⟩:=end2 e1 e2 e3 GE4.out HB0.out.size HGL.out (.int .i64 x.f0) (.int .i64 x.f1)
    exact⟨f2,f3,.inr ⟨x,xs,by rw [←HS.out,skipL,if_neg (of_decide_eq_false c1)],rf_,f1⟩⟩
 ·rintro a' w2 ⟨l',u2,u3,u6,u7,u8,u9,u10,u11,u12,u13,u14,u15,u16,u17,u18,u19,u20,u21,rfl,HI2,HB2,HK2,HB4,HS⟩
  have NG4:=Aside0.mk (Nat.ne_of_lt (Nat.lt_of_lt_of_le HGL.out GE4.out))
  have HLEN:=Aside0.mk HI2.out.len
  clear HI1 HB1 HK1 BK4 HI HB
  rcases l' with _|⟨x,xs⟩
  ·go_wp2_with (first|(go_at_call 44;(with_reducible refine(next_none w0 w2 g HI2.out HB2.out).mono ?_);rintro e w3 ⟨rfl,hi,hb,hb2⟩;have n_:=pk4 hi hb (KeepBut.trans HK2.out (KeepBut.of_below hb2 g none) (.inl rfl)) (blk_below HB4.out hb2);clear HI2 HB2 HK2 HB4;obtain⟨HI2,HB2,HK2,HB4⟩:=n_;clear hi hb hb2)|((with_reducible refine gate_dst (N:=6) rfl ?_);refine box_ev 6 #[.int .i64 0,.int .i64 0] 67 ?_;intro gb6 hg w4 hbox hb;have n_:=pk7 (hbox) (HI2.out.below hb) (below_at HB2.out HB2.out.size hb) (KeepBut.trans HK2.out (KeepBut.of_below hb g none) (.inl rfl)) (blk_below HB4.out hb) (nb_ hg HB4.out) (Nat.le_trans HK2.out.1 (ge_ hg (Below.refl _ _)));clear HI2 HB2 HK2 HB4;obtain⟨BK6,HI2,HB2,HK2,HB4,N46,GE6⟩:=n_;clear hb hbox hg;obtain⟨hcz6_0,hcz6_1,hfz6_0,hfz6_1⟩:=blk_at2 BK6.out;obtain⟨hcz4_0,hcz4_1,hfz4_0,hfz4_1⟩:=blk_at2 HB4.out;have hn1:=N46.out;have hn2:=Ne.symm N46.out))
   simp only [Exit.jump]
   refine bodyPost_ret (results_ct rfl _ _ gb4 67 #[.int .i64 0,.int .i64 0] (0,0) _ rfl (by refine blk_put (cs:=#[.int .i64 0,.int .i64 0]) ?_ 1 _ rfl;refine blk_put (cs:=#[.int .i64 0,.int .i64 0]) ?_ 0 _ rfl;exact blk_far (blk_far HB4.out hn1 _) hn1 _) Try.underlying67 rfl (by kernel_rfl)) rfl ?_
   obtain⟨e1,e2,e3⟩:=end2 HI2.out HB2.out HK2.out GE6.out HB0.out.size HGL.out (.int .i64 0) (.int .i64 0)
   obtain⟨f1,f2,f3⟩:=end2 e1 e2 e3 GE4.out HB0.out.size HGL.out (.int .i64 0) (.int .i64 0)
   exact⟨f2,f3,.inl ⟨by rw [←HS.out];rfl,rf_,f1⟩⟩
  ·by_cases hx:x.f0<t
   ·have c1:decide (x.f0<t)=true:=decide_eq_true hx
    go_wp2_with (first|(go_at_call 44;(with_reducible refine(next_some w0 w2 g x xs HI2.out HB2.out).mono ?_);rintro e w3 ⟨rfl,hi,hb,hk⟩;have n_:=pk4 hi hb (KeepBut.trans HK2.out hk (.inl rfl)) (KeepBut.blk hk HB4.out NG4.out.symm (by simp));clear HI2 HB2 HK2 HB4;obtain⟨HI2,HB2,HK2,HB4⟩:=n_;clear hi hb hk)|((with_reducible refine gate_dst (N:=6) rfl ?_);refine box_ev 6 #[.int .i64 0,.int .i64 0] 67 ?_;intro gb6 hg w4 hbox hb;have n_:=pk7 (hbox) (HI2.out.below hb) (below_at HB2.out HB2.out.size hb) (KeepBut.trans HK2.out (KeepBut.of_below hb g none) (.inl rfl)) (blk_below HB4.out hb) (nb_ hg HB4.out) (Nat.le_trans HK2.out.1 (ge_ hg (Below.refl _ _)));clear HI2 HB2 HK2 HB4;obtain⟨BK6,HI2,HB2,HK2,HB4,N46,GE6⟩:=n_;clear hb hbox hg;obtain⟨hcz6_0,hcz6_1,hfz6_0,hfz6_1⟩:=blk_at2 BK6.out;obtain⟨hcz4_0,hcz4_1,hfz4_0,hfz4_1⟩:=blk_at2 HB4.out;have hn1:=N46.out;have hn2:=Ne.symm N46.out))
    go_step3
    obtain⟨e1,e2,e3⟩:=end2 HI2.out HB2.out HK2.out GE6.out HB0.out.size HGL.out (.int .i64 x.f0) (.int .i64 x.f1)
    refine⟨rfl,⟨⟨xs,_,_,_,_,_,_,_,_,_,_,_,_,_,_,_,_,_,_,rfl,⟨e1⟩,⟨e2⟩,⟨e3⟩,⟨blk_far (blk_far HB4.out hn1 _) hn1 _⟩,⟨by rw [←HS.out,skipL,if_pos (of_decide_eq_true c1)]⟩⟩,by show lenAt g _<lenAt g w2;rw [e1.len,HLEN.out];exact Nat.lt_succ_self _⟩⟩
   ·have c1:decide (x.f0<t)=false:=decide_eq_false hx
    go_wp2_with (first|(go_at_call 44;(with_reducible refine(next_some w0 w2 g x xs HI2.out HB2.out).mono ?_);rintro e w3 ⟨rfl,hi,hb,hk⟩;have n_:=pk4 hi hb (KeepBut.trans HK2.out hk (.inl rfl)) (KeepBut.blk hk HB4.out NG4.out.symm (by simp));clear HI2 HB2 HK2 HB4;obtain⟨HI2,HB2,HK2,HB4⟩:=n_;clear hi hb hk)|((with_reducible refine gate_dst (N:=6) rfl ?_);refine box_ev 6 #[.int .i64 0,.int .i64 0] 67 ?_;intro gb6 hg w4 hbox hb;have n_:=pk7 (hbox) (HI2.out.below hb) (below_at HB2.out HB2.out.size hb) (KeepBut.trans HK2.out (KeepBut.of_below hb g none) (.inl rfl)) (blk_below HB4.out hb) (nb_ hg HB4.out) (Nat.le_trans HK2.out.1 (ge_ hg (Below.refl _ _)));clear HI2 HB2 HK2 HB4;obtain⟨BK6,HI2,HB2,HK2,HB4,N46,GE6⟩:=n_;clear hb hbox hg;obtain⟨hcz6_0,hcz6_1,hfz6_0,hfz6_1⟩:=blk_at2 BK6.out;obtain⟨hcz4_0,hcz4_1,hfz4_0,hfz4_1⟩:=blk_at2 HB4.out;have hn1:=N46.out;have hn2:=Ne.symm N46.out))
    simp only [Exit.jump]
    refine bodyPost_ret (results_ct rfl _ _ gb4 67 #[.int .i64 x.f0,.int .i64 x.f1] (0,0) _ rfl (by refine blk_put (cs:=#[.int .i64 x.f0,.int .i64 0]) ?_ 1 _ rfl;refine blk_put (cs:=#[.int .i64 0,.int .i64 0]) ?_ 0 _ rfl;exact blk_far (blk_far HB4.out hn1 _) hn1 _) Try.underlying67 rfl (by kernel_rfl)) rfl ?_
    obtain⟨e1,e2,e3⟩:=end2 HI2.out HB2.out HK2.out GE6.out HB0.out.size HGL.out (.int .i64 x.f0) (.int .i64 x.f1)
    obtain⟨f1,f2,f3⟩:=end2 e1 e2 e3 GE4.out HB0.out.size HGL.out (.int .i64 x.f0) (.int .i64 x.f1)
    exact⟨f2,f3,.inr ⟨x,xs,by rw [←HS.out,skipL,if_neg (of_decide_eq_false c1)],rf_,f1⟩⟩
end Go.Proofs.Ytmddmbagehjdeaa.G
end
section
namespace Go.Proofs.Ytmddmbagehjdeaa.G
open Go Go.RowKit Go.Proofs.YtmddmbagehjdeaaX Go.Proofs.YtmddmbagehjdeaaW.PrintWords Go.Proofs.YtmddmbagehjdeaaW.PrintLast Go.Proofs.YtmddmbagehjdeaaW.PrintMore
def popL:List S67→Bool×S67×List S67
 |[]=>(false,z67,[])
 |x::xs=>(true,x,xs)
def takeTo (t:Int):List S67→List S67
 |[]=>[]
 |x::xs=>if x.f0<t then x::takeTo t xs else []
theorem skipL_le (t:Int):∀ l:List S67,(skipL t l).length≤l.length
 |[]=>Nat.le_refl _
 |x::xs=>by
  unfold skipL
  split
  ·have:=skipL_le t xs;simp;omega
  ·simp
theorem next_any (w0 w:World) (g:Nat) (l:List S67) (hI:IsCur w0 w g l) (hB:Below w0.heap.size w0 w):Calls Try.prog 44 #[.pointer (some ⟨g,0,none⟩)] w fun e w'=>e=.returned (.tuple #[.agg #[.int .i64 (popL l).2.1.f0,.int .i64 (popL l).2.1.f1],.bool (popL l).1])∧IsCur w0 w' g (popL l).2.2∧Below w0.heap.size w0 w'∧KeepBut w w' g none:=by
 cases l with
 |nil=>exact(next_none w0 w g hI hB).mono fun e w' ⟨he,hi,hb,hk⟩=>⟨he,hi,hb,KeepBut.of_below hk g none⟩
 |cons x xs=>exact(next_some w0 w g x xs hI hB).mono fun e w' ⟨he,hi,hb,hk⟩=>⟨he,hi,hb,hk⟩
theorem skip_any (w0 w:World) (g:Nat) (t:Int) (l:List S67) (hI:IsCur w0 w g l) (hB:Below w0.heap.size w0 w):Calls Try.prog 45 #[.pointer (some ⟨g,0,none⟩),.int .i64 t] w fun e w'=>e=.returned (.tuple #[.agg #[.int .i64 (popL (skipL t l)).2.1.f0,.int .i64 (popL (skipL t l)).2.1.f1],.bool (popL (skipL t l)).1])∧IsCur w0 w' g (popL (skipL t l)).2.2∧Below w0.heap.size w0 w'∧KeepBut w w' g none:=by
 refine(skip_calls w0 w g t l hI hB).mono ?_
 rintro e w' ⟨hb,hk,⟨h1,h2,h3⟩|⟨x,xs,h1,h2,h3⟩⟩
 ·rw [h1];exact⟨h2,h3,hb,hk⟩
 ·rw [h1];exact⟨h2,h3,hb,hk⟩
theorem R_keepBut {α:Type} {d:Kd α} {e:Nat} {W W':World} {base g:Nat} {ok:Nat→Prop} {v:Value} {xs:List α} (h:d.R e W base ok v xs) (hk:KeepBut W W' g none) (hok:∀ k,ok k→k≠g):d.R e W' base ok v xs :=
 Kd.R_mono (Kd.R_move (Kd.R_bound h) (fun k hk'=>hk.2 k hk'.2.2.1 (hok k hk'.1) (by simp))) (fun _ hk=>hk.1)
theorem cur_new {W W2:World} {g B:Nat} {A:Option Addr} {c:Nat} {l:List S67} {ok:Nat→Prop} (hR:Kd.R k67 67 W B ok (.slice A l.length c) l) (hg:g=W.heap.size) (hb:W2.heap[g]?=some (.cells #[.slice A l.length c] 82 (0,0))):IsCur W W2 g l :=
 ⟨A,c,hb,by omega,(Kd.R_reads' hR).2.2,(Kd.R_reads' hR).2.1⟩
theorem pop_take (t:Int) (l:List S67):(if(popL l).1=true then takeTo t ((popL l).2.1::(popL l).2.2)else [])=takeTo t l:=by cases l<;>rfl
theorem pop_len (l:List S67):(popL l).2.2.length+(if(popL l).1=true then 1 else 0)=l.length:=by cases l<;>rfl
def gorilla_Slice.f (k:Nat) (a0_0:Int) (a0_1:Int) (a0_2:Int) (l0_3:List Int) (a0_4:Int) (a1:Int) (a2:Int):Option (List S67×Int):=(gorilla_Samples.f k a0_0 a0_1 a0_2 l0_3 a0_4).bind fun t=>if t.2=0 then(if t.1.length≤1000 then some (takeTo a2 (skipL a1 t.1),0)else none)else some ([],t.2)
set_option maxHeartbeats 16000000 in
theorem gorilla_Slice.calls (k:Nat) (a0_0:Int) (a0_1:Int) (a0_2:Int) (A0_3:Option Addr) (c0_3:Nat) (l0_3:List Int) (a0_4:Int) (a1:Int) (a2:Int) (r1:List S67) (r2:Int) (w:World) (hr0_3:Kd.C (Kd.int .u8) w A0_3 l0_3.length l0_3) (hc0_3:l0_3.length≤c0_3) (h:gorilla_Slice.f k a0_0 a0_1 a0_2 l0_3 a0_4 a1 a2=some (r1,r2)) :
  Calls Try.prog 55 #[.agg #[.int .i64 a0_0,.int .i64 a0_1,.int .i64 a0_2,.slice A0_3 l0_3.length c0_3,.int .i64 a0_4],.int .i64 a1,.int .i64 a2] w fun e w'=>∃ v0_:Value,e=.returned (.tuple #[v0_,.int .i64 r2])∧Kd.R k67 67 w' w.heap.size (fun _=>True) v0_ r1∧Below w.heap.size w w':=by
 have hu69:=Try.underlying69
 have hu25:=Try.underlying25
 have hu82:=Try.underlying82
 have hu67:=Try.underlying67
 unfold gorilla_Slice.f at h
 obtain⟨⟨s1,s2⟩,hA,h⟩:=Option.bind_eq_some_iff.1 h
 replace h:(if s2=0 then(if s1.length≤1000 then some (takeTo a2 (skipL a1 s1),(0:Int))else none)else some ([],s2))=some (r1,r2):=h
 have HR:=Aside0.mk hr0_3
 have HC:=Aside0.mk hc0_3
 have HA:=Aside0.mk hA
 clear hr0_3 hc0_3 hA
 have HB:=Aside0.mk (Below.refl w.heap.size w)
 by_cases h0:s2=0
 ·subst h0
  rw [if_pos rfl] at h
  by_cases hl:s1.length≤1000
  ·rw [if_pos hl] at h
   injection h with h
   injection h with h1 h2
   subst h2
   have HL:Aside0 ((skipL a1 s1).length≤1000):=⟨Nat.le_trans (skipL_le _ _) hl⟩
   have H1:=Aside0.mk h1
   clear h1 hl
   go_enter Try.func55,Try.ntmps55
   go_wp2_with (first
    |((with_reducible refine gate_dst (N:=3) rfl ?_);refine box_ev 3 #[.int .i64 a0_0,.int .i64 a0_1,.int .i64 a0_2,.slice A0_3 l0_3.length c0_3,.int .i64 a0_4] 69 ?_;intro gb1 hg w1 hbox hb;have n_:=pk2 (below_step bl_ hb) (hbox);clear HB;obtain⟨HB,BK1⟩:=n_;clear hb hbox hg;obtain⟨hcz0,hcz1,hcz2,hcz3,hcz4,hfz0,hfz1,hfz2,hfz3,hfz4⟩:=blk_at5 BK1.out)
    |(go_at_call 40;(with_reducible refine(gorilla_Samples.calls k a0_0 a0_1 a0_2 A0_3 c0_3 l0_3 a0_4 s1 0 _ ?side1 HC.out HA.out).mono ?_);(case side1=>exact Kd.C_below HR.out HB.out);rintro e w3 ⟨v0,rfl,ho,hb⟩;obtain⟨A1,c1,hv⟩:=Kd.R_slice ho;subst hv;have n_:=pk2 (below_step HB.out hb) ho;clear HB BK1 hcz0 hcz1 hcz2 hcz3 hcz4 hfz0 hfz1 hfz2 hfz3 hfz4;obtain⟨HB,HO⟩:=n_;clear hb ho)
    |((with_reducible refine gate_dst (N:=24) rfl ?_);refine box_ev 24 #[.slice A1 s1.length c1] 82 ?_;intro gx hg w4 hbox hb;have n_:=pk2 (cur_new HO.out hg hbox) (hb);obtain⟨HI,HB4⟩:=n_;clear hb hbox hg)
    |(go_at_call 45;(with_reducible refine(skip_any w3 w4 gx a1 s1 HI.out HB4.out).mono ?_);rintro e w5 ⟨rfl,hi,hb,hk⟩;have n_:=pk2 hi hb;clear HI HB4;obtain⟨HI,HB4⟩:=n_;clear hi hb hk)
    |((with_reducible refine gate_dst (N:=12) rfl ?_);refine box_ev 12 #[.int .i64 0,.int .i64 0] 67 ?_;intro gs hg w6 hbox hb;have n_:=pk5 (HI.out.below hb) (below_at HB4.out HB4.out.size hb) (show gx≠gs by have:=HI.out.lt;omega) (hbox) (ge_ hg HB4.out:w3.heap.size≤gs);clear HI HB4;obtain⟨HI,HB4,NXS,BKS,GS⟩:=n_;clear hb hbox hg;obtain⟨hcs0,hcs1,hfs0,hfs1⟩:=blk_at2 BKS.out))
   obtain⟨b,hb⟩:∃ b,b=(popL (skipL a1 s1)).1:=⟨_,rfl⟩
   obtain⟨z,hz⟩:∃ z,z=(popL (skipL a1 s1)).2.1:=⟨_,rfl⟩
   obtain⟨l',hl'⟩:∃ l',l'=(popL (skipL a1 s1)).2.2:=⟨_,rfl⟩
   rw [←hb,←hz]
   have HS:Aside0 (([]:List S67)++(if b=true then takeTo a2 (z::l')else [])=r1):=⟨by rw [hb,hz,hl',pop_take,H1.out];rfl⟩
   have HN:Aside0 (l'.length+(if b=true then 1 else 0)≤1000):=⟨by rw [hb,hl',pop_len];exact HL.out⟩
   have HI':Aside0 (IsCur w3 ((w6.setCell ⟨gs,0,none⟩ (.int .i64 z.f0)).setCell ⟨gs,1,none⟩ (.int .i64 z.f1)) gx l'):=⟨by rw [hl'];exact IsCur.far (p:=⟨gs,1,none⟩) (IsCur.far (p:=⟨gs,0,none⟩) HI.out NXS.out _) NXS.out _⟩
   have HB':Aside0 (Below w3.heap.size w3 ((w6.setCell ⟨gs,0,none⟩ (.int .i64 z.f0)).setCell ⟨gs,1,none⟩ (.int .i64 z.f1))):=⟨(HB4.out.setCell (p:=⟨gs,0,none⟩) GS.out _).setCell (p:=⟨gs,1,none⟩) GS.out _⟩
   have BK':Aside0 (((w6.setCell ⟨gs,0,none⟩ (.int .i64 z.f0)).setCell ⟨gs,1,none⟩ (.int .i64 z.f1)).heap[gs]?=some (.cells #[.int .i64 z.f0,.int .i64 z.f1] 67 (0,0))):=⟨by refine blk_put (cs:=#[.int .i64 z.f0,.int .i64 0]) ?_ 1 _ rfl;exact blk_put (cs:=#[.int .i64 0,.int .i64 0]) BKS.out 0 _ rfl⟩
   have HGX:Aside0 (w3.heap.size≤gx):=⟨by obtain⟨_,_,_,hg,_⟩:=HI.out;exact hg⟩
   clear hb hz hl' HI HB4 BKS hcs0 hcs1 hfs0 hfs1
   go_loopg [10,13] 1001 (fun kq v10 v13 w'=>∃ (l':List S67) (b:Bool) (z:S67) (out:List S67),v13=.bool b∧Aside0 (out++(if b=true then takeTo a2 (z::l')else [])=r1)∧Aside0 (l'.length+(if b=true then 1 else 0)≤kq)∧Aside0 (out.length+(l'.length+(if b=true then 1 else 0))≤1000)∧Aside0 (Kd.R k67 67 w' w.heap.size (fun k=>gx<k∧gs<k) v10 out)∧Aside0 (IsCur w3 w' gx l')∧Aside0 (Below w3.heap.size w3 w')∧Aside0 (w'.heap[gs]?=some (.cells #[.int .i64 z.f0,.int .i64 z.f1] 67 (0,0))))
   case atStart=>exact⟨l',b,z,[],rfl,HS,⟨by have:=HN.out;omega⟩,⟨by have:=HN.out;simp;omega⟩,⟨nl_⟩,HI',HB',BK'⟩
   case round =>
    clear HS HN HI' HB' BK'
    obtain⟨l',b,z,out,rfl,HS,HK,HN,HO,HI,HB4,BKS⟩:=hrel
    have HW:=Aside0.mk (below_step HB.out HB4.out)
    cases b with
    |false =>
     replace HS:Aside0 (out=r1):=⟨by have e:=HS.out;rw [if_neg (by decide),List.append_nil] at e;exact e⟩
     go_wp2
     go_ret2
     refine⟨_,rfl,?_,HW.out⟩
     rw [←HS.out]
     exact Kd.R_mono HO.out (fun _ _=>trivial)
    |true =>
     obtain⟨hcs0,hcs1,hfs0,hfs1⟩:=blk_at2 BKS.out
     by_cases hz:z.f0<a2
     ·have c1:decide (z.f0<a2)=true:=decide_eq_true hz
      have HZ:=Aside0.mk hz
      clear hz
      cases gk with
      |zero=>exact absurd HK.out (by simp)
      |succ k1 =>
      replace HK:Aside0 (l'.length≤k1):=⟨by have:=HK.out;rw [if_pos rfl] at this;omega⟩
      replace HN:Aside0 (out.length+(l'.length+1)≤1000):=⟨by have:=HN.out;rw [if_pos rfl] at this;exact this⟩
      replace HS:Aside0 ((out++[z])++takeTo a2 l'=r1):=⟨by have e:=HS.out;rw [if_pos rfl,takeTo,if_pos HZ.out] at e;rw [←e];simp⟩
      go_wp2_with (first
       |((with_reducible refine gate_builtin (b:=.append) (xs:=#[.tmp 43,.tmp 45]) rfl ?_);at_builtin;refine Kd.R_append k67 (w0:=w) w.heap.size rfl (.tmp 43) (.tmp 45) 65 67 (.agg #[(.int .i64 0),(.int .i64 0)]) 16 rfl Try.underlying65 info67 rfl (by decide) (by omega) u10 out z [.int .i64 z.f0,.int .i64 z.f1] (fun k=>gx<k∧gs<k) (fun _=>False) rfl rfl ?aP (fun _ hk=>hk.elim) ?aF ?aO ?aB ?aS ?aL ?_;(case aP=>exact k67_mkM _ _ _ z);(case aB=>exact HW.out);(case aF=>exact(fun k hk=>⟨Nat.lt_of_lt_of_le HI.out.lt hk,Nat.lt_of_lt_of_le (blk_lt BKS.out) hk⟩));(case aO=>exact HO.out);(case aS=>exact HW.out.size);(case aL=>have:=HN.out;omega);intro v7 w7 ho hb hg hat;have n_:=pk5 ho hb (HI.out.keep (hg.block gx HI.out.lt (fun e=>absurd (HO.out.1 gx e.symm).1 (Nat.lt_irrefl _)))) ((hg.block gs (blk_lt BKS.out) (fun e=>absurd (HO.out.1 gs e.symm).2 (Nat.lt_irrefl _))).trans BKS.out) (HB4.out.grown hg HB4.out.size (fun k e=>Nat.le_trans HGX.out (Nat.le_of_lt (HO.out.1 k e).1)));clear HO HW HI BKS HB4 hcs0 hcs1 hfs0 hfs1;obtain⟨HO,HW,HI,BKS,HB4⟩:=n_;clear ho hb hg hat)
       |(go_at_call 44;(with_reducible refine(next_any w3 w7 gx l' HI.out HB4.out).mono ?_);rintro e w8 ⟨rfl,hi,hb,hk⟩;have n_:=pk4 hi hb (R_keepBut HO.out hk (fun k hk'=>Nat.ne_of_gt hk'.1)) (KeepBut.blk hk BKS.out (Ne.symm NXS.out) (by simp));clear HO HI BKS HB4 HW;obtain⟨HI,HB4,HO,BKS⟩:=n_;clear hi hb hk;obtain⟨hcs0,hcs1,hfs0,hfs1⟩:=blk_at2 BKS.out))
      obtain⟨b',hb'⟩:∃ b',b'=(popL l').1:=⟨_,rfl⟩
      obtain⟨z',hz'⟩:∃ z',z'=(popL l').2.1:=⟨_,rfl⟩
      obtain⟨l2,hl2⟩:∃ l2,l2=(popL l').2.2:=⟨_,rfl⟩
      have HP:Aside0 (l2.length+(if b'=true then 1 else 0)=l'.length):=⟨by rw [hl2,hb',pop_len]⟩
      have HT:Aside0 ((if b'=true then takeTo a2 (z'::l2)else [])=takeTo a2 l'):=⟨by rw [hl2,hb',hz',pop_take]⟩
      rw [←hl2] at HI
      rw [←hb',←hz']
      go_roundg k1
      case measure=>omega
      case rel=>exact⟨l2,b',z',out++[z],rfl,⟨by rw [HT.out];exact HS.out⟩,⟨by rw [HP.out];exact HK.out⟩,⟨by rw [HP.out,List.length_append];have:=HN.out;simp;omega⟩,⟨R_set (R_set HO.out ⟨gs,0,none⟩ _ (fun k hk=>Nat.ne_of_gt hk.2)) ⟨gs,1,none⟩ _ (fun k hk=>Nat.ne_of_gt hk.2)⟩,⟨IsCur.far (p:=⟨gs,1,none⟩) (IsCur.far (p:=⟨gs,0,none⟩) HI.out NXS.out _) NXS.out _⟩,⟨(HB4.out.setCell (p:=⟨gs,0,none⟩) GS.out _).setCell (p:=⟨gs,1,none⟩) GS.out _⟩,⟨by refine blk_put (cs:=#[.int .i64 z'.f0,.int .i64 z.f1]) ?_ 1 _ rfl;exact blk_put (cs:=#[.int .i64 z.f0,.int .i64 z.f1]) BKS.out 0 _ rfl⟩⟩
     ·have c1:decide (z.f0<a2)=false:=decide_eq_false hz
      replace HS:Aside0 (out=r1):=⟨by have e:=HS.out;rw [if_pos rfl,takeTo,if_neg hz,List.append_nil] at e;exact e⟩
      clear hz
      go_wp2
      go_ret2
      refine⟨_,rfl,?_,HW.out⟩
      rw [←HS.out]
      exact Kd.R_mono HO.out (fun _ _=>trivial)
  ·rw [if_neg hl] at h
   cases h
 ·rw [if_neg h0] at h
  injection h with h
  injection h with h1 h2
  subst h1 h2
  have c1:(s2 != 0)=true:=by simpa using h0
  clear h0
  go_enter Try.func55,Try.ntmps55
  go_wp2_with (first
   |((with_reducible refine gate_dst (N:=3) rfl ?_);refine box_ev 3 #[.int .i64 a0_0,.int .i64 a0_1,.int .i64 a0_2,.slice A0_3 l0_3.length c0_3,.int .i64 a0_4] 69 ?_;intro gb1 hg w1 hbox hb;have n_:=pk2 (below_step bl_ hb) (hbox);clear HB;obtain⟨HB,BK1⟩:=n_;clear hb hbox hg;obtain⟨hcz0,hcz1,hcz2,hcz3,hcz4,hfz0,hfz1,hfz2,hfz3,hfz4⟩:=blk_at5 BK1.out)
   |(go_at_call 40;(with_reducible refine(gorilla_Samples.calls k a0_0 a0_1 a0_2 A0_3 c0_3 l0_3 a0_4 s1 s2 _ ?side1 HC.out HA.out).mono ?_);(case side1=>exact Kd.C_below HR.out HB.out);rintro e w3 ⟨v0,rfl,ho,hb⟩;have n_:=pk1 (below_step HB.out hb);clear HB BK1 hcz0 hcz1 hcz2 hcz3 hcz4 hfz0 hfz1 hfz2 hfz3 hfz4;have HB:=n_;clear n_ hb ho))
  go_ret2
  exact⟨_,rfl,nl_,HB.out⟩
end Go.Proofs.Ytmddmbagehjdeaa.G
end
section
namespace Go.Proofs.Ytmddmbagehjdeaa.G
open Go.RowKit Go.Proofs.YtmddmbagehjdeaaX Go.Proofs.YtmddmbagehjdeaaW.PrintWords Go.Proofs.YtmddmbagehjdeaaW.PrintLast Go.Proofs.YtmddmbagehjdeaaW.PrintMore
attribute [local go_sem] max2_int min2_int max_two min_two max_three min_three max_four min_four
def windroselaw18_GorillaReads.f (k:Nat) (a0_0:Int) (a0_1:Int) (a0_2:Int) (l0_3:List Int) (a0_4:Int) (a1:Int) (a2:Int):Option (Bool):=(windroselaw18_light.f a0_0 a0_1 a0_2 l0_3 a0_4).bind fun t1106=>(if t1106=true then((gorilla_Samples.f k a0_0 a0_1 a0_2 l0_3 a0_4).bind fun bt1108=>((gorilla_Slice.f k a0_0 a0_1 a0_2 l0_3 a0_4 a1 a2).bind fun bt1112=>((windroseref18_Samples.f k a0_0 a0_1 a0_2 l0_3 a0_4).bind fun bt1116=>(if bt1116.2=true then(if bt1108.2=0 then(if bt1112.2=0 then((windroseref11_Same.f k bt1108.1 bt1116.1).bind fun t1122=>(if t1122=true then((windroseref12_Range.f k bt1116.1 a1 a2).bind fun t1123=>((windroseref11_Same.f k bt1112.1 t1123).bind fun t1126=>(if t1126=true then((gorilla_Same.f k a0_0 a0_1 a0_2 l0_3 a0_4 a0_0 a0_1 a0_2 l0_3 a0_4).bind fun t1127=>(if t1127=true then((windroselaw18_awake.f k).bind fun t1128=>(some t1128))else(some false)))else(some false))))else(some false)))else(some false))else(some false))else(if bt1108.2=2 then(if bt1112.2=2 then(if(bt1108.1.length:Int)=0 then(if(bt1112.1.length:Int)=0 then((gorilla_Check.f k a0_0 a0_1 a0_2 l0_3 a0_4).bind fun t1120=>(if t1120=2 then((windroselaw18_awake.f k).bind fun t1121=>(some t1121))else(some false)))else(some false))else(some false))else(some false))else(some false))))))else((windroselaw18_awake.f k).bind fun t1107=>(some t1107)))
set_option maxHeartbeats 80000000 in
theorem windroselaw18_GorillaReads.calls (k:Nat) (a0_0:Int) (a0_1:Int) (a0_2:Int) (A0_3:Option Addr) (c0_3:Nat) (l0_3:List Int) (a0_4:Int) (a1:Int) (a2:Int) (r:Bool) (w:World) (hr0_3:Kd.C (Kd.int .u8) w A0_3 l0_3.length l0_3) (hc0_3:l0_3.length≤c0_3) (h:windroselaw18_GorillaReads.f k a0_0 a0_1 a0_2 l0_3 a0_4 a1 a2=some r) :
  Calls Try.prog 14 #[.agg #[.int .i64 a0_0,.int .i64 a0_1,.int .i64 a0_2,.slice A0_3 l0_3.length c0_3,.int .i64 a0_4],.int .i64 a1,.int .i64 a2] w fun e w'=>e=.returned (.bool r)∧Below w.heap.size w w':=by
 have hu69:=Try.underlying69
 have HR0_3:=Aside0.mk hr0_3
 have HC0_3:=Aside0.mk hc0_3
 clear hr0_3 hc0_3
 have HB:=Aside0.mk (Below.refl w.heap.size w)
 have H:((windroselaw18_light.f a0_0 a0_1 a0_2 l0_3 a0_4).bind fun t1106=>(if t1106=true then((gorilla_Samples.f k a0_0 a0_1 a0_2 l0_3 a0_4).bind fun bt1108=>((gorilla_Slice.f k a0_0 a0_1 a0_2 l0_3 a0_4 a1 a2).bind fun bt1112=>((windroseref18_Samples.f k a0_0 a0_1 a0_2 l0_3 a0_4).bind fun bt1116=>(if bt1116.2=true then(if bt1108.2=0 then(if bt1112.2=0 then((windroseref11_Same.f k bt1108.1 bt1116.1).bind fun t1122=>(if t1122=true then((windroseref12_Range.f k bt1116.1 a1 a2).bind fun t1123=>((windroseref11_Same.f k bt1112.1 t1123).bind fun t1126=>(if t1126=true then((gorilla_Same.f k a0_0 a0_1 a0_2 l0_3 a0_4 a0_0 a0_1 a0_2 l0_3 a0_4).bind fun t1127=>(if t1127=true then((windroselaw18_awake.f k).bind fun t1128=>(some t1128))else(some false)))else(some false))))else(some false)))else(some false))else(some false))else(if bt1108.2=2 then(if bt1112.2=2 then(if(bt1108.1.length:Int)=0 then(if(bt1112.1.length:Int)=0 then((gorilla_Check.f k a0_0 a0_1 a0_2 l0_3 a0_4).bind fun t1120=>(if t1120=2 then((windroselaw18_awake.f k).bind fun t1121=>(some t1121))else(some false)))else(some false))else(some false))else(some false))else(some false))))))else((windroselaw18_awake.f k).bind fun t1107=>(some t1107))))=some r:=h
 clear h
 replace H:=bindA H
 obtain⟨t1106,A4,H⟩:=H
 try dsimp only at H
 replace H:=dbool H
 rcases H with⟨rfl,H⟩|⟨rfl,H⟩
 focus
  replace H:=bindA H
  obtain⟨⟨t1108,t1111⟩,A6,H⟩:=H
  try dsimp only at H
  replace H:=bindA H
  obtain⟨⟨t1112,t1115⟩,A7,H⟩:=H
  try dsimp only at H
  replace H:=bindA H
  obtain⟨⟨t1116,t1119⟩,A8,H⟩:=H
  try dsimp only at H
  replace H:=dbool H
  rcases H with⟨rfl,H⟩|⟨rfl,H⟩
  focus
   replace H:=deqn H
   rcases H with⟨c10b0,c10b1,H⟩|⟨c10b0,c10b1,c10,H⟩
   focus
    replace H:=deqn H
    rcases H with⟨c11b0,c11b1,H⟩|⟨c11b0,c11b1,c11,H⟩
    focus
     replace H:=bindA H
     obtain⟨t1122,A12,H⟩:=H
     try dsimp only at H
     replace H:=dbool H
     rcases H with⟨rfl,H⟩|⟨rfl,H⟩
     focus
      replace H:=bindA H
      obtain⟨t1123,A14,H⟩:=H
      try dsimp only at H
      replace H:=bindA H
      obtain⟨t1126,A15,H⟩:=H
      try dsimp only at H
      replace H:=dbool H
      rcases H with⟨rfl,H⟩|⟨rfl,H⟩
      focus
       replace H:=bindA H
       obtain⟨t1127,A17,H⟩:=H
       try dsimp only at H
       replace H:=dbool H
       rcases H with⟨rfl,H⟩|⟨rfl,H⟩
       focus
        replace H:=bindA H
        obtain⟨t1128,A19,H⟩:=H
        try dsimp only at H
        obtain rfl:=Option.some.inj H
       rotate_left
       focus
        obtain rfl:=Option.some.inj H
      rotate_left 2
      focus
       obtain rfl:=Option.some.inj H
     rotate_left 3
     focus
      obtain rfl:=Option.some.inj H
    rotate_left 4
    focus
     obtain rfl:=Option.some.inj H
   rotate_left 5
   focus
    obtain rfl:=Option.some.inj H
  rotate_left 6
  focus
   replace H:=deqn H
   rcases H with⟨c96b0,c96b1,H⟩|⟨c96b0,c96b1,c96,H⟩
   focus
    replace H:=deqn H
    rcases H with⟨c97b0,c97b1,H⟩|⟨c97b0,c97b1,c97,H⟩
    focus
     by_cases c98:(t1108.length:Int)=0
     focus
      rw [if_pos c98] at H
      have c98b0:((t1108.length:Int) == 0)=true:=beq_iff_eq.mpr c98
      have c98b1:((t1108.length:Int) != 0)=false:=bne_eq_false_iff_eq.mpr c98
      clear c98
      by_cases c99:(t1112.length:Int)=0
      focus
       rw [if_pos c99] at H
       have c99b0:((t1112.length:Int) == 0)=true:=beq_iff_eq.mpr c99
       have c99b1:((t1112.length:Int) != 0)=false:=bne_eq_false_iff_eq.mpr c99
       clear c99
       replace H:=bindA H
       obtain⟨t1120,A100,H⟩:=H
       try dsimp only at H
       replace H:=deqn H
       rcases H with⟨c101b0,c101b1,H⟩|⟨c101b0,c101b1,c101,H⟩
       focus
        replace H:=bindA H
        obtain⟨t1121,A102,H⟩:=H
        try dsimp only at H
        obtain rfl:=Option.some.inj H
       rotate_left
       focus
        obtain rfl:=Option.some.inj H
      rotate_left 2
      focus
       rw [if_neg c99] at H
       have c99b0:((t1112.length:Int) == 0)=false:=beq_eq_false_iff_ne.mpr c99
       have c99b1:((t1112.length:Int) != 0)=true:=bne_iff_ne.mpr c99
       have c99b2:¬(t1112=[]):=fun h_=>c99 (by rw [h_];rfl)
       obtain rfl:=Option.some.inj H
     rotate_left 3
     focus
      rw [if_neg c98] at H
      have c98b0:((t1108.length:Int) == 0)=false:=beq_eq_false_iff_ne.mpr c98
      have c98b1:((t1108.length:Int) != 0)=true:=bne_iff_ne.mpr c98
      have c98b2:¬(t1108=[]):=fun h_=>c98 (by rw [h_];rfl)
      obtain rfl:=Option.some.inj H
    rotate_left 4
    focus
     obtain rfl:=Option.some.inj H
   rotate_left 5
   focus
    obtain rfl:=Option.some.inj H
 rotate_left 12
 focus
  replace H:=bindA H
  obtain⟨t1107,A169,H⟩:=H
  try dsimp only at H
  obtain rfl:=Option.some.inj H
 all_goals
  go_enter Try.func14,Try.ntmps14
  go_wp2_with (first|((with_reducible refine gate_dst (N:=3) rfl ?_);(try(refine gate_guard (by rfl) ?_;dsimp only));refine box_ev 3 #[.int .i64 a0_0,.int .i64 a0_1,.int .i64 a0_2,.slice A0_3 l0_3.length c0_3,.int .i64 a0_4] 69 ?_;intro gb7000 hg w7000 hbox hb;have n_:=pk4 (below_step bl_ hb) (hbox) ((ge_ hg bl_:w.heap.size≤gb7000)) ((ge_ hg bl_:w.heap.size≤gb7000));clear HB;obtain⟨HB,BK7000,GW7000,GE7000⟩:=n_;clear hb hbox hg;have hcz7000_0:w7000.cell? ⟨gb7000,0,none⟩=some (.int .i64 a0_0):=(blk_cell BK7000.out 0).trans rfl;have hcz7000_1:w7000.cell? ⟨gb7000,1,none⟩=some (.int .i64 a0_1):=(blk_cell BK7000.out 1).trans rfl;have hcz7000_2:w7000.cell? ⟨gb7000,2,none⟩=some (.int .i64 a0_2):=(blk_cell BK7000.out 2).trans rfl;have hcz7000_3:w7000.cell? ⟨gb7000,3,none⟩=some (.slice A0_3 l0_3.length c0_3):=(blk_cell BK7000.out 3).trans rfl;have hcz7000_4:w7000.cell? ⟨gb7000,4,none⟩=some (.int .i64 a0_4):=(blk_cell BK7000.out 4).trans rfl;have hfz7000_0:=blk_frozen BK7000.out 0;have hfz7000_1:=blk_frozen BK7000.out 1;have hfz7000_2:=blk_frozen BK7000.out 2;have hfz7000_3:=blk_frozen BK7000.out 3;have hfz7000_4:=blk_frozen BK7000.out 4)|((with_reducible refine gate_callee (f:=46) rfl ?_);refine goL_ (some 14) Try.func46 #[.agg #[.int .i64 a0_0,.int .i64 a0_1,.int .i64 a0_2,.slice A0_3 l0_3.length c0_3,.int .i64 a0_4]] ?_;(with_reducible refine(windroselaw18_light.calls a0_0 a0_1 a0_2 _ _ l0_3 a0_4 true _ ?side1 ?side2 A4.out).mono ?_);(case side1=>exact cb_ HR0_3);(case side2=>exact HC0_3.out);rintro e w7001 ⟨rfl,hb⟩;refine⟨_,rfl,?_⟩;have n_:=pk2 (blk_below (bo_ BK7000) hb) (below_step bl_ hb);clear BK7000 HB;obtain⟨BK7000,HB⟩:=n_;(try clear hb);have hcz7001_0:w7001.cell? ⟨gb7000,0,none⟩=some (.int .i64 a0_0):=(blk_cell BK7000.out 0).trans rfl;have hcz7001_1:w7001.cell? ⟨gb7000,1,none⟩=some (.int .i64 a0_1):=(blk_cell BK7000.out 1).trans rfl;have hcz7001_2:w7001.cell? ⟨gb7000,2,none⟩=some (.int .i64 a0_2):=(blk_cell BK7000.out 2).trans rfl;have hcz7001_3:w7001.cell? ⟨gb7000,3,none⟩=some (.slice A0_3 l0_3.length c0_3):=(blk_cell BK7000.out 3).trans rfl;have hcz7001_4:w7001.cell? ⟨gb7000,4,none⟩=some (.int .i64 a0_4):=(blk_cell BK7000.out 4).trans rfl;have hfz7001_0:=blk_frozen BK7000.out 0;have hfz7001_1:=blk_frozen BK7000.out 1;have hfz7001_2:=blk_frozen BK7000.out 2;have hfz7001_3:=blk_frozen BK7000.out 3;have hfz7001_4:=blk_frozen BK7000.out 4)|((with_reducible refine gate_callee (f:=46) rfl ?_);refine goL_ (some 14) Try.func46 #[.agg #[.int .i64 a0_0,.int .i64 a0_1,.int .i64 a0_2,.slice A0_3 l0_3.length c0_3,.int .i64 a0_4]] ?_;(with_reducible refine(windroselaw18_light.calls a0_0 a0_1 a0_2 _ _ l0_3 a0_4 false _ ?side1 ?side2 A4.out).mono ?_);(case side1=>exact cb_ HR0_3);(case side2=>exact HC0_3.out);rintro e w7001 ⟨rfl,hb⟩;refine⟨_,rfl,?_⟩;have n_:=pk2 (blk_below (bo_ BK7000) hb) (below_step bl_ hb);clear BK7000 HB;obtain⟨BK7000,HB⟩:=n_;(try clear hb))|((with_reducible refine gate_callee (f:=40) rfl ?_);refine goL_ (some 19) Try.func40 #[.agg #[.int .i64 a0_0,.int .i64 a0_1,.int .i64 a0_2,.slice A0_3 l0_3.length c0_3,.int .i64 a0_4]] ?_;(with_reducible refine(gorilla_Samples.calls k a0_0 a0_1 a0_2 _ _ l0_3 a0_4 t1108 t1111 _ ?side1 ?side2 A6.out).mono ?_);(case side1=>exact cb_ HR0_3);(case side2=>exact HC0_3.out);rintro e w7002 ⟨v7000,rfl,ho7000,hb⟩;refine⟨_,rfl,?_⟩;have n_:=pk3 (Kd.R_lower ho7000 (below_size bl_)) (blk_below (bo_ BK7000) hb) (below_step bl_ hb);clear BK7000 HB;obtain⟨HO7000,BK7000,HB⟩:=n_;(try clear hb ho7000);have hcz7002_0:w7002.cell? ⟨gb7000,0,none⟩=some (.int .i64 a0_0):=(blk_cell BK7000.out 0).trans rfl;have hcz7002_1:w7002.cell? ⟨gb7000,1,none⟩=some (.int .i64 a0_1):=(blk_cell BK7000.out 1).trans rfl;have hcz7002_2:w7002.cell? ⟨gb7000,2,none⟩=some (.int .i64 a0_2):=(blk_cell BK7000.out 2).trans rfl;have hcz7002_3:w7002.cell? ⟨gb7000,3,none⟩=some (.slice A0_3 l0_3.length c0_3):=(blk_cell BK7000.out 3).trans rfl;have hcz7002_4:w7002.cell? ⟨gb7000,4,none⟩=some (.int .i64 a0_4):=(blk_cell BK7000.out 4).trans rfl;have hfz7002_0:=blk_frozen BK7000.out 0;have hfz7002_1:=blk_frozen BK7000.out 1;have hfz7002_2:=blk_frozen BK7000.out 2;have hfz7002_3:=blk_frozen BK7000.out 3;have hfz7002_4:=blk_frozen BK7000.out 4)|((with_reducible refine gate_callee (f:=55) rfl ?_);refine goL_ (some 26) Try.func55 #[.agg #[.int .i64 a0_0,.int .i64 a0_1,.int .i64 a0_2,.slice A0_3 l0_3.length c0_3,.int .i64 a0_4],.int .i64 a1,.int .i64 a2] ?_;(with_reducible refine(gorilla_Slice.calls k a0_0 a0_1 a0_2 _ _ l0_3 a0_4 a1 a2 t1112 t1115 _ ?side1 ?side2 A7.out).mono ?_);(case side1=>exact cb_ HR0_3);(case side2=>exact HC0_3.out);rintro e w7003 ⟨v7001,rfl,ho7000,hb⟩;refine⟨_,rfl,?_⟩;have n_:=pk4 (Kd.R_elder' (ro_ HO7000) (Kd.R_base ho7000) hb) (Kd.R_lower (Kd.R_new' ho7000 (Kd.R_lt (ro_ HO7000))) (below_size bl_)) (blk_below (bo_ BK7000) hb) (below_step bl_ hb);clear HO7000 BK7000 HB;obtain⟨HO7000,HO7001,BK7000,HB⟩:=n_;(try clear hb ho7000);have hcz7003_0:w7003.cell? ⟨gb7000,0,none⟩=some (.int .i64 a0_0):=(blk_cell BK7000.out 0).trans rfl;have hcz7003_1:w7003.cell? ⟨gb7000,1,none⟩=some (.int .i64 a0_1):=(blk_cell BK7000.out 1).trans rfl;have hcz7003_2:w7003.cell? ⟨gb7000,2,none⟩=some (.int .i64 a0_2):=(blk_cell BK7000.out 2).trans rfl;have hcz7003_3:w7003.cell? ⟨gb7000,3,none⟩=some (.slice A0_3 l0_3.length c0_3):=(blk_cell BK7000.out 3).trans rfl;have hcz7003_4:w7003.cell? ⟨gb7000,4,none⟩=some (.int .i64 a0_4):=(blk_cell BK7000.out 4).trans rfl;have hfz7003_0:=blk_frozen BK7000.out 0;have hfz7003_1:=blk_frozen BK7000.out 1;have hfz7003_2:=blk_frozen BK7000.out 2;have hfz7003_3:=blk_frozen BK7000.out 3;have hfz7003_4:=blk_frozen BK7000.out 4)|((with_reducible refine gate_callee (f:=48) rfl ?_);refine goL_ (some 31) Try.func48 #[.agg #[.int .i64 a0_0,.int .i64 a0_1,.int .i64 a0_2,.slice A0_3 l0_3.length c0_3,.int .i64 a0_4]] ?_;(with_reducible refine(windroseref18_Samples.calls k a0_0 a0_1 a0_2 _ _ l0_3 a0_4 t1116 false _ ?side1 ?side2 A8.out).mono ?_);(case side1=>exact cb_ HR0_3);(case side2=>exact HC0_3.out);rintro e w7004 ⟨v7002,rfl,ho7000,hb⟩;refine⟨_,rfl,?_⟩;have n_:=pk5 (Kd.R_elder' (ro_ HO7000) (Kd.R_base ho7000) hb) (Kd.R_elder' (ro_ HO7001) (Kd.R_base ho7000) hb) (Kd.R_lower (Kd.R_new' (Kd.R_new' ho7000 (Kd.R_lt (ro_ HO7000))) (Kd.R_lt (ro_ HO7001))) (below_size bl_)) (blk_below (bo_ BK7000) hb) (below_step bl_ hb);clear HO7000 HO7001 BK7000 HB;obtain⟨HO7000,HO7001,HO7002,BK7000,HB⟩:=n_;(try clear hb ho7000);(try(obtain⟨Ao7000,co7000,eo7000⟩:=Kd.R_slice HO7000.out;subst eo7000;obtain⟨Ao7001,co7001,eo7001⟩:=Kd.R_slice HO7001.out;subst eo7001;have hcz7004_0:w7004.cell? ⟨gb7000,0,none⟩=some (.int .i64 a0_0):=(blk_cell BK7000.out 0).trans rfl;have hcz7004_1:w7004.cell? ⟨gb7000,1,none⟩=some (.int .i64 a0_1):=(blk_cell BK7000.out 1).trans rfl;have hcz7004_2:w7004.cell? ⟨gb7000,2,none⟩=some (.int .i64 a0_2):=(blk_cell BK7000.out 2).trans rfl;have hcz7004_3:w7004.cell? ⟨gb7000,3,none⟩=some (.slice A0_3 l0_3.length c0_3):=(blk_cell BK7000.out 3).trans rfl;have hcz7004_4:w7004.cell? ⟨gb7000,4,none⟩=some (.int .i64 a0_4):=(blk_cell BK7000.out 4).trans rfl;have hfz7004_0:=blk_frozen BK7000.out 0;have hfz7004_1:=blk_frozen BK7000.out 1;have hfz7004_2:=blk_frozen BK7000.out 2;have hfz7004_3:=blk_frozen BK7000.out 3;have hfz7004_4:=blk_frozen BK7000.out 4));(try(obtain⟨Ao7000,co7000,eo7000⟩:=Kd.R_slice HO7000.out;subst eo7000;obtain⟨Ao7001,co7001,eo7001⟩:=Kd.R_slice HO7001.out;subst eo7001));(try(obtain⟨Ao7000,co7000,eo7000⟩:=Kd.R_slice HO7000.out;subst eo7000)))|((with_reducible refine gate_callee (f:=48) rfl ?_);refine goL_ (some 31) Try.func48 #[.agg #[.int .i64 a0_0,.int .i64 a0_1,.int .i64 a0_2,.slice A0_3 l0_3.length c0_3,.int .i64 a0_4]] ?_;(with_reducible refine(windroseref18_Samples.calls k a0_0 a0_1 a0_2 _ _ l0_3 a0_4 t1116 true _ ?side1 ?side2 A8.out).mono ?_);(case side1=>exact cb_ HR0_3);(case side2=>exact HC0_3.out);rintro e w7004 ⟨v7002,rfl,ho7000,hb⟩;refine⟨_,rfl,?_⟩;have n_:=pk5 (Kd.R_elder' (ro_ HO7000) (Kd.R_base ho7000) hb) (Kd.R_elder' (ro_ HO7001) (Kd.R_base ho7000) hb) (Kd.R_lower (Kd.R_new' (Kd.R_new' ho7000 (Kd.R_lt (ro_ HO7000))) (Kd.R_lt (ro_ HO7001))) (below_size bl_)) (blk_below (bo_ BK7000) hb) (below_step bl_ hb);clear HO7000 HO7001 BK7000 HB;obtain⟨HO7000,HO7001,HO7002,BK7000,HB⟩:=n_;(try clear hb ho7000);(try(obtain⟨Ao7000,co7000,eo7000⟩:=Kd.R_slice HO7000.out;subst eo7000;obtain⟨Ao7001,co7001,eo7001⟩:=Kd.R_slice HO7002.out;subst eo7001)))|(go_at_call 42;(with_reducible refine(windroseref11_Same.calls k _ _ t1112 _ _ t1123 true _ ?side1 ?side2 ?side3 ?side4 A15.out).mono ?_);(case side1=>exact cr_ HO7001);(case side2=>exact(Kd.R_reads' HO7001.out).2.1);(case side3=>exact cr_ HO7003);(case side4=>exact(Kd.R_reads' HO7003.out).2.1);rintro e w' ⟨rfl,⟨nd,rfl⟩⟩;have hcz7004_0:w7005.cell? ⟨gb7000,0,none⟩=some (.int .i64 a0_0):=(blk_cell BK7000.out 0).trans rfl;have hcz7004_1:w7005.cell? ⟨gb7000,1,none⟩=some (.int .i64 a0_1):=(blk_cell BK7000.out 1).trans rfl;have hcz7004_2:w7005.cell? ⟨gb7000,2,none⟩=some (.int .i64 a0_2):=(blk_cell BK7000.out 2).trans rfl;have hcz7004_3:w7005.cell? ⟨gb7000,3,none⟩=some (.slice A0_3 l0_3.length c0_3):=(blk_cell BK7000.out 3).trans rfl;have hcz7004_4:w7005.cell? ⟨gb7000,4,none⟩=some (.int .i64 a0_4):=(blk_cell BK7000.out 4).trans rfl;have hfz7004_0:=blk_frozen BK7000.out 0;have hfz7004_1:=blk_frozen BK7000.out 1;have hfz7004_2:=blk_frozen BK7000.out 2;have hfz7004_3:=blk_frozen BK7000.out 3;have hfz7004_4:=blk_frozen BK7000.out 4)|(go_at_call 42;(with_reducible refine(windroseref11_Same.calls k _ _ t1112 _ _ t1123 false _ ?side1 ?side2 ?side3 ?side4 A15.out).mono ?_);(case side1=>exact cr_ HO7001);(case side2=>exact(Kd.R_reads' HO7001.out).2.1);(case side3=>exact cr_ HO7003);(case side4=>exact(Kd.R_reads' HO7003.out).2.1);rintro e w' ⟨rfl,⟨nd,rfl⟩⟩)|(go_at_call 42;(with_reducible refine(windroseref11_Same.calls k _ _ t1108 _ _ t1116 false _ ?side1 ?side2 ?side3 ?side4 A12.out).mono ?_);(case side1=>exact cr_ HO7000);(case side2=>exact(Kd.R_reads' HO7000.out).2.1);(case side3=>exact cr_ HO7002);(case side4=>exact(Kd.R_reads' HO7002.out).2.1);rintro e w' ⟨rfl,⟨nd,rfl⟩⟩)|(go_at_call 42;(with_reducible refine(windroseref11_Same.calls k _ _ t1108 _ _ t1116 true _ ?side1 ?side2 ?side3 ?side4 A12.out).mono ?_);(case side1=>exact cr_ HO7000);(case side2=>exact(Kd.R_reads' HO7000.out).2.1);(case side3=>exact cr_ HO7002);(case side4=>exact(Kd.R_reads' HO7002.out).2.1);rintro e w' ⟨rfl,⟨nd,rfl⟩⟩)|(go_at_call 56;(with_reducible refine(windroseref12_Range.calls k _ _ t1116 a1 a2 t1123 _ ?side1 ?side2 A14.out).mono ?_);(case side1=>exact cr_ HO7002);(case side2=>exact(Kd.R_reads' HO7002.out).2.1);rintro e w7005 ⟨v7003,rfl,ho7000,hb⟩;have n_:=pk6 (Kd.R_elder' (ro_ HO7000) (Kd.R_base ho7000) hb) (Kd.R_elder' (ro_ HO7001) (Kd.R_base ho7000) hb) (Kd.R_elder' (ro_ HO7002) (Kd.R_base ho7000) hb) (Kd.R_lower (Kd.R_new' (Kd.R_new' (Kd.R_new' ho7000 (Kd.R_lt (ro_ HO7000))) (Kd.R_lt (ro_ HO7001))) (Kd.R_lt (ro_ HO7002))) (below_size bl_)) (blk_below (bo_ BK7000) hb) (below_step bl_ hb);clear HO7000 HO7001 HO7002 BK7000 HB;obtain⟨HO7000,HO7001,HO7002,HO7003,BK7000,HB⟩:=n_;(try clear hb ho7000);obtain⟨Ao7002,co7002,eo7002⟩:=Kd.R_slice HO7001.out;subst eo7002;obtain⟨Ao7003,co7003,eo7003⟩:=Kd.R_slice HO7003.out;subst eo7003)|(go_at_call 57;(with_reducible refine(gorilla_Same.calls k a0_0 a0_1 a0_2 _ _ l0_3 a0_4 a0_0 a0_1 a0_2 _ _ l0_3 a0_4 false _ ?side1 ?side2 ?side3 ?side4 A17.out).mono ?_);(case side1=>repeat(first|exact(Kd.C_below HR0_3.out bl_)|(with_reducible refine Kd.C_alloc ?_ _)|(with_reducible refine Kd.C_drewN ?_ _)|(with_reducible refine Kd.C_drew ?_)));(case side2=>exact HC0_3.out);(case side3=>repeat(first|exact(Kd.C_below HR0_3.out bl_)|(with_reducible refine Kd.C_alloc ?_ _)|(with_reducible refine Kd.C_drewN ?_ _)|(with_reducible refine Kd.C_drew ?_)));(case side4=>exact HC0_3.out);rintro e w7006 ⟨rfl,hb⟩;have n_:=pk6 (Kd.R_below (ro_ HO7000) hb) (Kd.R_below (ro_ HO7001) hb) (Kd.R_below (ro_ HO7002) hb) (Kd.R_below (ro_ HO7003) hb) (blk_below (bo_ BK7000) hb) (below_step bl_ hb);clear HO7000 HO7001 HO7002 HO7003 BK7000 HB;obtain⟨HO7000,HO7001,HO7002,HO7003,BK7000,HB⟩:=n_;(try clear hb))|(go_at_call 57;(with_reducible refine(gorilla_Same.calls k a0_0 a0_1 a0_2 _ _ l0_3 a0_4 a0_0 a0_1 a0_2 _ _ l0_3 a0_4 true _ ?side1 ?side2 ?side3 ?side4 A17.out).mono ?_);(case side1=>repeat(first|exact(Kd.C_below HR0_3.out bl_)|(with_reducible refine Kd.C_alloc ?_ _)|(with_reducible refine Kd.C_drewN ?_ _)|(with_reducible refine Kd.C_drew ?_)));(case side2=>exact HC0_3.out);(case side3=>repeat(first|exact(Kd.C_below HR0_3.out bl_)|(with_reducible refine Kd.C_alloc ?_ _)|(with_reducible refine Kd.C_drewN ?_ _)|(with_reducible refine Kd.C_drew ?_)));(case side4=>exact HC0_3.out);rintro e w7006 ⟨rfl,hb⟩;have n_:=pk6 (Kd.R_below (ro_ HO7000) hb) (Kd.R_below (ro_ HO7001) hb) (Kd.R_below (ro_ HO7002) hb) (Kd.R_below (ro_ HO7003) hb) (blk_below (bo_ BK7000) hb) (below_step bl_ hb);clear HO7000 HO7001 HO7002 HO7003 BK7000 HB;obtain⟨HO7000,HO7001,HO7002,HO7003,BK7000,HB⟩:=n_;(try clear hb))|(go_at_call 36;(with_reducible refine(windroselaw18_awake.calls k  t1128 _ A19.out).mono ?_);rintro e w7007 ⟨rfl,hb⟩;have n_:=pk6 (Kd.R_below (ro_ HO7000) hb) (Kd.R_below (ro_ HO7001) hb) (Kd.R_below (ro_ HO7002) hb) (Kd.R_below (ro_ HO7003) hb) (blk_below (bo_ BK7000) hb) (below_step bl_ hb);clear HO7000 HO7001 HO7002 HO7003 BK7000 HB;obtain⟨HO7000,HO7001,HO7002,HO7003,BK7000,HB⟩:=n_;(try clear hb))|(go_at_call 36;(with_reducible refine(windroselaw18_awake.calls k  t1121 _ A102.out).mono ?_);rintro e w7006 ⟨rfl,hb⟩;have n_:=pk5 (Kd.R_below (ro_ HO7000) hb) (Kd.R_below (ro_ HO7001) hb) (Kd.R_below (ro_ HO7002) hb) (blk_below (bo_ BK7000) hb) (below_step bl_ hb);clear HO7000 HO7001 HO7002 BK7000 HB;obtain⟨HO7000,HO7001,HO7002,BK7000,HB⟩:=n_;(try clear hb))|(go_at_call 43;(with_reducible refine(gorilla_Check.calls k a0_0 a0_1 a0_2 _ _ l0_3 a0_4 t1120 _ ?side1 ?side2 A100.out).mono ?_);(case side1=>exact cb_ HR0_3);(case side2=>exact HC0_3.out);rintro e w7005 ⟨rfl,hb⟩;have n_:=pk5 (Kd.R_below (ro_ HO7000) hb) (Kd.R_below (ro_ HO7001) hb) (Kd.R_below (ro_ HO7002) hb) (blk_below (bo_ BK7000) hb) (below_step bl_ hb);clear HO7000 HO7001 HO7002 BK7000 HB;obtain⟨HO7000,HO7001,HO7002,BK7000,HB⟩:=n_;(try clear hb))|((with_reducible refine gate_callee (f:=36) rfl ?_);refine goL_ (some 16) Try.func36 #[] ?_;(with_reducible refine(windroselaw18_awake.calls k  t1107 _ A169.out).mono ?_);rintro e w7002 ⟨rfl,hb⟩;refine⟨_,rfl,?_⟩;have n_:=pk2 (blk_below (bo_ BK7000) hb) (below_step bl_ hb);clear BK7000 HB;obtain⟨BK7000,HB⟩:=n_;(try clear hb)))
  go_ret
  exact⟨rf_,bl_⟩
end Go.Proofs.Ytmddmbagehjdeaa.G
end
