/- More lines for the row. -/
import Derived.Test.YtmddmbagehjdeaaZGorillaReads8
import Derived.Outline
set_option linter.unusedVariables false
set_option linter.unusedSimpArgs false
set_option maxRecDepth 100000
set_option maxHeartbeats 8000000
section
namespace Go.Proofs.Ytmddmbagehjdeaa.G
open Go Go.RowKit Go.Shelf Go.Proofs.YtmddmbagehjdeaaW.PrintWords Go.Proofs.YtmddmbagehjdeaaW.PrintLast Go.Proofs.YtmddmbagehjdeaaW.PrintMore
attribute [local go_sem] Oper.semAt_some
attribute [local go_sem] max2_int min2_int max_two min_two
def inB (x:Int):Bool:=decide (-4398046511104≤x) && decide (x≤4398046511104)
def unpStep (z:List S67×S67×S67) (a b:Int):List S67×S67×S67 :=
 (z.1++[⟨wrap64 (z.2.1.f0+wrap64 (z.2.2.f0+a)),wrap64 (z.2.1.f1+wrap64 (z.2.2.f1+b))⟩],⟨wrap64 (z.2.1.f0+wrap64 (z.2.2.f0+a)),wrap64 (z.2.1.f1+wrap64 (z.2.2.f1+b))⟩,
  if z.1.length+1>1 then⟨wrap64 (z.2.2.f0+a),wrap64 (z.2.2.f1+b)⟩else z.2.2)
def numA (nums:List Int) (j:Nat):Int:=rd nums ((1+2*j:Nat):Int)
def numB (nums:List Int) (j:Nat):Int:=rd nums ((2+2*j:Nat):Int)
def goodAt (nums:List Int) (j:Nat):Bool:=inB (numA nums j) && inB (numB nums j)
def unpSt (nums:List Int) {m:Nat} (pre:List (Fin m)):List S67×S67×S67:=pre.foldl (fun z j=>unpStep z (numA nums j.val) (numB nums j.val)) ([],z67,z67)
theorem unpSt_snoc (nums:List Int) {m:Nat} (pre:List (Fin m)) (x:Fin m):unpSt nums (pre++[x])=unpStep (unpSt nums pre) (numA nums x.val) (numB nums x.val):=by simp [unpSt]
set_option maxHeartbeats 1000000 in
theorem block_in_eq (a:Int) (w:World):Calls Try.prog 86 #[.int .i64 a] w fun e w'=>e=.returned (.bool (inB a))∧w'=w:=by
 by_cases h1 : -4398046511104≤a
 ·by_cases h2:a≤4398046511104
  ·have e:inB a=true:=by simp [inB,h1,h2]
   rw [e]
   go_enter Try.func86,Try.ntmps86
   go_wp2
   go_ret
   exact⟨rfl,rfl⟩
  ·have e:inB a=false:=by simp [inB,h2]
   rw [e]
   have h3:decide (a≤4398046511104)=false:=decide_eq_false h2
   go_enter Try.func86,Try.ntmps86
   go_wp2
   go_ret
   exact⟨rfl,rfl⟩
 ·have e:inB a=false:=by simp [inB,h1]
  rw [e]
  have h3:decide (-4398046511104≤a)=false:=decide_eq_false h1
  go_enter Try.func86,Try.ntmps86
  go_wp2
  go_ret
  exact⟨rfl,rfl⟩
theorem blk_turn {W W':World} {row:Option Nat} {l:Nat} {cs:Array Value} {t:Nat} (h:W.heap[l]?=some (.cells cs t (0,0))) (hg:W.grownBy W' row) (hr:∀ r,row=some r→∃ o:Obj,W.heap[r]?=some o∧o.isCells=false):W'.heap[l]?=some (.cells cs t (0,0)):=by
 refine(hg.block l (Array.getElem?_eq_some_iff.1 h).1 (fun e=>?_)).trans h
 obtain⟨o,ho,hc⟩:=hr l e.symm
 rw [h] at ho
 injection ho with ho
 subst ho
 cases hc
theorem R_turn {α:Type} {d:Kd α} {e:Nat} {W W':World} {base:Nat} {ok:Nat→Prop} {v:Value} {xs:List α} {row:Option Nat} (h:d.R e W base ok v xs) (hg:W.grownBy W' row) (hr:∀ r,row=some r→∃ o:Obj,W.heap[r]?=some o∧o.isCells=false):d.R e W' base ok v xs :=
 Kd.R_mono (Kd.R_move (Kd.R_bound h) (fun k hk=>hg.block k hk.2.2.1 (fun e=>by
  obtain⟨o,ho,hc⟩:=hr k e.symm
  obtain⟨_,_,_,q,hq,cells,hk2⟩:=hk
  rw [hk2] at ho
  injection ho with ho
  subst ho
  cases hc))) (fun _ hk=>hk.1)
theorem heap_new_at (W:World) (o:Obj) (k:Nat) (h:W.heap.size=k):(W.alloc o).heap[k]?=some o:=by subst h;exact World.alloc_heap_new W o
theorem heap_old_at (W:World) (o o':Obj) (k:Nat) (hk:W.heap[k]?=some o'):(W.alloc o).heap[k]?=some o':=(Below.heap_alloc W o k (Array.getElem?_eq_some_iff.1 hk).1).trans hk
def UI (w:World) (nums:List Int) {m:Nat} (pre:List (Fin m)) (W:World):Prop :=
 (∀ j ∈ pre,goodAt nums j.val=true)∧W.heap[w.heap.size+1]?=some (.cells #[.slice none 0 0] 65 (0,0))∧W.heap[w.heap.size+1+1]?=some (.cells #[.int .i64 0] 26 (0,0)) ∧
 W.heap[w.heap.size+1+1+1+1]?=some (.cells #[.int .i64 (unpSt nums pre).2.1.f0,.int .i64 (unpSt nums pre).2.1.f1] 67 (0,0)) ∧
 W.heap[w.heap.size+1+1+1+1+1]?=some (.cells #[.int .i64 (unpSt nums pre).2.2.f0,.int .i64 (unpSt nums pre).2.2.f1] 67 (0,0)) ∧
 (∃ v,W.heap[w.heap.size+1+1+1]?=some (.cells #[v] 65 (0,0))∧Kd.R k67 67 W w.heap.size (fun k=>w.heap.size+8≤k) v (unpSt nums pre).1)∧Below w.heap.size w W∧w.heap.size+8≤W.heap.size
def UX (w:World) (nums:List Int) {m:Nat} (c:Code) (pre:List (Fin m)) (W:World):Prop :=
 c=.ret∧(∃ j ∈ pre,goodAt nums j.val=false)∧W.heap[w.heap.size+1]?=some (.cells #[.slice none 0 0] 65 (0,0))∧W.heap[w.heap.size+1+1]?=some (.cells #[.int .i64 2] 26 (0,0))∧Below w.heap.size w W
theorem UI_own (w:World) (nums:List Int) {m:Nat} (B:Nat) (hB:w.heap.size≤B):OwnFrom B (UI w nums (m:=m)):=by
 rintro s W W' row ⟨h0,h1,h2,h3,h4,⟨v,h5,h6⟩,h7,h8⟩ hg hr
 have hr':=fun r e=>(hr r e).2
 exact⟨h0,blk_turn h1 hg hr',blk_turn h2 hg hr',blk_turn h3 hg hr',blk_turn h4 hg hr',⟨v,blk_turn h5 hg hr',R_turn h6 hg hr'⟩,h7.grown hg h7.size (fun k e=>Nat.le_trans hB (hr k e).1),Nat.le_trans h8 hg.size⟩
theorem UX_own (w:World) (nums:List Int) {m:Nat} (B:Nat) (hB:w.heap.size≤B) (c:Code):OwnFrom B (UX w nums (m:=m) c):=by
 rintro s W W' row ⟨h0,h00,h1,h2,h7⟩ hg hr
 have hr':=fun r e=>(hr r e).2
 exact⟨h0,h00,blk_turn h1 hg hr',blk_turn h2 hg hr',h7.grown hg h7.size (fun k e=>Nat.le_trans hB (hr k e).1)⟩
theorem cut_by {C G:Prop} (main:C→G) (cont:C):G:=main cont
theorem ux_bad (w W:World) (nums:List Int) {m:Nat} (pre:List (Fin m)) (x:Fin m) (hb:goodAt nums x.val=false) (h1:W.heap[w.heap.size+1]?=some (.cells #[.slice none 0 0] 65 (0,0))) (h2:W.heap[w.heap.size+1+1]?=some (.cells #[.int .i64 0] 26 (0,0))) (h7:Below w.heap.size w W) :
  KeepsOthers W ((W.setCell ⟨w.heap.size+1,0,none⟩ (.slice none 0 0)).setCell ⟨w.heap.size+1+1,0,none⟩ (.int .i64 2))∧UX w nums .ret (pre++[x]) ((W.setCell ⟨w.heap.size+1,0,none⟩ (.slice none 0 0)).setCell ⟨w.heap.size+1+1,0,none⟩ (.int .i64 2)):=by
 refine⟨(KeepsOthers.setCell _ _ _).trans (KeepsOthers.setCell _ _ _),rfl,⟨x,by simp,hb⟩,?_,?_,?_⟩
 ·exact blk_far (p:=⟨w.heap.size+1+1,0,none⟩) (blk_set h1 0 _) (by simp) _
 ·exact blk_set (blk_far (p:=⟨w.heap.size+1,0,none⟩) h2 (by simp) _) 0 _
 ·exact(h7.setCell (by simp only;omega) _).setCell (by simp only;omega) _
theorem unpSt_len (nums:List Int) {m:Nat} (pre:List (Fin m)):(unpSt nums pre).1.length=pre.length:=by
 unfold unpSt
 have:∀ (l:List (Fin m)) (z:List S67×S67×S67),(l.foldl (fun z j=>unpStep z (numA nums j.val) (numB nums j.val)) z).1.length=z.1.length+l.length:=by
  intro l
  induction l with
  |nil=>intro z;rfl
  |cons y ys ih=>intro z;rw [List.foldl_cons,ih];simp [unpStep];omega
 simpa using this pre ([],z67,z67)
theorem R_set {α:Type} {d:Kd α} {e:Nat} {W:World} {base:Nat} {ok:Nat→Prop} {v:Value} {xs:List α} (h:d.R e W base ok v xs) (p:Addr) (u:Value) (hp:∀ k,ok k→k≠p.block):d.R e (W.setCell p u) base ok v xs :=
 Kd.R_move h (fun k hk=>Below.heap_setCell _ _ _ _ (hp k hk))
theorem ui_next (w w' w1:World) (nums:List Int) {m:Nat} (pre:List (Fin m)) (x:Fin m) (A B X Y:Int) (v v1:Value) (hA:A=wrap64 ((unpSt nums pre).2.2.f0+numA nums x.val)) (hB:B=wrap64 ((unpSt nums pre).2.2.f1+numB nums x.val))
  (hX:X=wrap64 ((unpSt nums pre).2.1.f0+A)) (hY:Y=wrap64 ((unpSt nums pre).2.1.f1+B)) (hgood:∀ j ∈ pre,goodAt nums j.val=true) (hx:goodAt nums x.val=true) (K1:KeepsOthers w' w1)
  (g1:w1.heap[w.heap.size+1]?=some (.cells #[.slice none 0 0] 65 (0,0))) (g2:w1.heap[w.heap.size+1+1]?=some (.cells #[.int .i64 0] 26 (0,0))) (g3:w1.heap[w.heap.size+1+1+1]?=some (.cells #[v] 65 (0,0)))
  (g4:w1.heap[w.heap.size+1+1+1+1]?=some (.cells #[.int .i64 X,.int .i64 Y] 67 (0,0))) (g5:w1.heap[w.heap.size+1+1+1+1+1]?=some (.cells #[.int .i64 (unpSt nums pre).2.2.f0,.int .i64 (unpSt nums pre).2.2.f1] 67 (0,0)))
  (g6:w1.heap[w.heap.size+1+1+1+1+1+1]?=w'.heap[w.heap.size+1+1+1+1+1+1]?) (g7:w1.heap[w.heap.size+1+1+1+1+1+1+1]?=w'.heap[w.heap.size+1+1+1+1+1+1+1]?)
  (hr1:Kd.R k67 67 w1 w.heap.size (fun k=>w.heap.size+8≤k) v1 ((unpSt nums pre).1++[⟨X,Y⟩])) (hb1:Below w.heap.size w w1) (hs1:w.heap.size+8≤w1.heap.size) :
  (∀ Wf:World,¬ 1<(unpSt nums pre).1.length+1→Wf=w1.setCell ⟨w.heap.size+1+1+1,0,none⟩ v1→KeepsOthers w' Wf∧KeepsTwo (w.heap.size+1+1+1+1+1+1) (w.heap.size+1+1+1+1+1+1+1) w' Wf∧UI w nums (pre++[x]) Wf) ∧
  (∀ Wf:World,1<(unpSt nums pre).1.length+1→Wf=((w1.setCell ⟨w.heap.size+1+1+1,0,none⟩ v1).setCell ⟨w.heap.size+1+1+1+1+1,0,none⟩ (.int .i64 A)).setCell ⟨w.heap.size+1+1+1+1+1,1,none⟩ (.int .i64 B)→KeepsOthers w' Wf∧KeepsTwo (w.heap.size+1+1+1+1+1+1) (w.heap.size+1+1+1+1+1+1+1) w' Wf∧UI w nums (pre++[x]) Wf):=by
 have hg':∀ j ∈ pre++[x],goodAt nums j.val=true:=fun j hj=>by
  rcases List.mem_append.1 hj with h|h
  ·exact hgood j h
  ·rw [List.mem_singleton.1 h];exact hx
 have far:∀ (W:World) (g h' i:Nat) (u:Value) (cs:Array Value) (t:Nat),W.heap[g]?=some (.cells cs t (0,0))→g≠h'→(W.setCell ⟨h',i,none⟩ u).heap[g]?=some (.cells cs t (0,0)):=fun W g h' i u cs t hb hne=>blk_far (p:=⟨h',i,none⟩) hb hne u
 have same:∀ (W:World) (g h' i:Nat) (u:Value),g≠h'→(W.setCell ⟨h',i,none⟩ u).heap[g]?=W.heap[g]?:=fun W g h' i u hne=>Below.heap_setCell W ⟨h',i,none⟩ u g hne
 constructor
 ·rintro Wf hc rfl
  refine⟨K1.trans (KeepsOthers.setCell _ _ _),⟨?_,?_⟩,hg',?_,?_,?_,?_,⟨v1,?_,?_⟩,hb1.setCell (by simp only;omega) _,by simpa using hs1⟩
  ·rw [same _ _ _ _ _ (by omega)];exact g6
  ·rw [same _ _ _ _ _ (by omega)];exact g7
  ·exact far _ _ _ _ _ _ _ g1 (by omega)
  ·exact far _ _ _ _ _ _ _ g2 (by omega)
  ·rw [unpSt_snoc]
   simp only [unpStep]
   rw [←hA,←hB,←hX,←hY]
   exact far _ _ _ _ _ _ _ g4 (by omega)
  ·rw [unpSt_snoc]
   simp only [unpStep]
   rw [if_neg (by simpa using hc)]
   exact far _ _ _ _ _ _ _ g5 (by omega)
  ·exact blk_set g3 0 v1
  ·rw [unpSt_snoc]
   simp only [unpStep]
   rw [←hA,←hB,←hX,←hY]
   exact R_set hr1 _ _ (fun k hk=>by simp only;omega)
 ·rintro Wf hc rfl
  refine⟨((K1.trans (KeepsOthers.setCell _ _ _)).trans (KeepsOthers.setCell _ _ _)).trans (KeepsOthers.setCell _ _ _),⟨?_,?_⟩,hg',?_,?_,?_,?_,⟨v1,?_,?_⟩,((hb1.setCell (by simp only;omega) _).setCell (by simp only;omega) _).setCell (by simp only;omega) _,by simpa using hs1⟩
  ·rw [same _ _ _ _ _ (by omega),same _ _ _ _ _ (by omega),same _ _ _ _ _ (by omega)];exact g6
  ·rw [same _ _ _ _ _ (by omega),same _ _ _ _ _ (by omega),same _ _ _ _ _ (by omega)];exact g7
  ·exact far _ _ _ _ _ _ _ (far _ _ _ _ _ _ _ (far _ _ _ _ _ _ _ g1 (by omega)) (by omega)) (by omega)
  ·exact far _ _ _ _ _ _ _ (far _ _ _ _ _ _ _ (far _ _ _ _ _ _ _ g2 (by omega)) (by omega)) (by omega)
  ·rw [unpSt_snoc]
   simp only [unpStep]
   rw [←hA,←hB,←hX,←hY]
   exact far _ _ _ _ _ _ _ (far _ _ _ _ _ _ _ (far _ _ _ _ _ _ _ g4 (by omega)) (by omega)) (by omega)
  ·rw [unpSt_snoc]
   simp only [unpStep]
   rw [if_pos (by simpa using hc)]
   rw [←hA,←hB]
   exact blk_set (blk_set (far _ _ _ _ _ _ _ g5 (by omega)) 0 _) 1 _
  ·exact far _ _ _ _ _ _ _ (far _ _ _ _ _ _ _ (blk_set g3 0 v1) (by omega)) (by omega)
  ·rw [unpSt_snoc]
   simp only [unpStep]
   rw [←hA,←hB,←hX,←hY]
   exact R_set (R_set (R_set hr1 _ _ (fun k hk=>by simp only;omega)) _ _ (fun k hk=>by simp only;omega)) _ _ (fun k hk=>by simp only;omega)
theorem unp_end (w Wf:World) (r1:List S67) (r2:Int) (Q:Ending→World→Prop) (hQ:(fun e w'=>∃ v0_:Value,e=.returned (.tuple #[v0_,.int .i64 r2])∧Kd.R k67 67 w' w.heap.size (fun _=>True) v0_ r1∧Below w.heap.size w w')=Q)
  (tm:Array Value) (D:Nat) (hD:w.heap.size≤D) (v0:Value) (ht2:tm[2]?.getD undef=.pointer (some ⟨w.heap.size+1,0,none⟩)) (ht3:tm[3]?.getD undef=.pointer (some ⟨w.heap.size+1+1,0,none⟩))
  (h1:Wf.heap[w.heap.size+1]?=some (.cells #[v0] 65 (0,0))) (h2:Wf.heap[w.heap.size+1+1]?=some (.cells #[.int .i64 r2] 26 (0,0))) (hK:Wf.heap[D]?=some (.deferred (some []))) (hR:Kd.R k67 67 Wf w.heap.size (fun _=>True) v0 r1) (hB:Below w.heap.size w Wf) :
  bodyPostM Fence.wide 5 Try.prog Try.f73 Q Exit.ret { tmps:=tm,defers:=[{ target:=Target.collected D,args:=#[] }] } Wf:=by
 refine⟨by simp,.inl ⟨_,_,rfl,run_takeDeferred hK,?_⟩⟩
 have hg:=grownBy_putObj' Wf D (.deferred none)
 have hr:∀ r,some D=some r→∃ o:Obj,Wf.heap[r]?=some o∧o.isCells=false:=fun r e=>by cases e;exact⟨_,hK,rfl⟩
 have g1:=blk_turn h1 hg hr
 have g2:=blk_turn h2 hg hr
 have c1:(Wf.putObj D (.deferred none)).cell? ⟨w.heap.size+1,0,none⟩=some v0:=(blk_cell g1 0).trans rfl
 have c2:(Wf.putObj D (.deferred none)).cell? ⟨w.heap.size+1+1,0,none⟩=some (.int .i64 r2):=(blk_cell g2 0).trans rfl
 refine⟨.tuple #[v0,.int .i64 r2],?_,?_⟩
 ·simp [results,Try.f73,go_sem,c1,c2,ht2,ht3]
 ·rw [←hQ]
  exact⟨v0,rfl,R_turn hR hg hr,hB.grown hg hB.size (fun k e=>by cases e;exact hD)⟩
theorem bad_next (w W:World) (h1:W.heap[w.heap.size+1]?=some (.cells #[.slice none 0 0] 65 (0,0))) (h2:W.heap[w.heap.size+1+1]?=some (.cells #[.int .i64 0] 26 (0,0))) (h7:Below w.heap.size w W) (Wf:World) (hW:Wf=(W.setCell ⟨w.heap.size+1,0,none⟩ (.slice none 0 0)).setCell ⟨w.heap.size+1+1,0,none⟩ (.int .i64 2)) :
  KeepsOthers W Wf∧Wf.heap[w.heap.size+1]?=some (.cells #[.slice none 0 0] 65 (0,0))∧Wf.heap[w.heap.size+1+1]?=some (.cells #[.int .i64 2] 26 (0,0))∧Below w.heap.size w Wf:=by
 subst hW
 exact⟨(KeepsOthers.setCell _ _ _).trans (KeepsOthers.setCell _ _ _),blk_far (p:=⟨w.heap.size+1+1,0,none⟩) (blk_set h1 0 _) (by simp) _,blk_set (blk_far (p:=⟨w.heap.size+1,0,none⟩) h2 (by simp) _) 0 _,(h7.setCell (by simp only;omega) _).setCell (by simp only;omega) _⟩
theorem good_next (w W:World) (v:Value) (h1:W.heap[w.heap.size+1]?=some (.cells #[.slice none 0 0] 65 (0,0))) (h2:W.heap[w.heap.size+1+1]?=some (.cells #[.int .i64 0] 26 (0,0))) (h7:Below w.heap.size w W) (r1:List S67) (hR:Kd.R k67 67 W w.heap.size (fun k=>w.heap.size+8≤k) v r1) (Wf:World) (hW:Wf=(W.setCell ⟨w.heap.size+1,0,none⟩ v).setCell ⟨w.heap.size+1+1,0,none⟩ (.int .i64 0)) :
  KeepsOthers W Wf∧Wf.heap[w.heap.size+1]?=some (.cells #[v] 65 (0,0))∧Wf.heap[w.heap.size+1+1]?=some (.cells #[.int .i64 0] 26 (0,0))∧Kd.R k67 67 Wf w.heap.size (fun _=>True) v r1∧Below w.heap.size w Wf:=by
 subst hW
 exact⟨(KeepsOthers.setCell _ _ _).trans (KeepsOthers.setCell _ _ _),blk_far (p:=⟨w.heap.size+1+1,0,none⟩) (blk_set h1 0 _) (by simp) _,blk_set (blk_far (p:=⟨w.heap.size+1,0,none⟩) h2 (by simp) _) 0 _,Kd.R_mono (R_set (R_set hR _ _ (fun k hk=>by simp only;omega)) _ _ (fun k hk=>by simp only;omega)) (fun _ _=>trivial),(h7.setCell (by simp only;omega) _).setCell (by simp only;omega) _⟩
set_option maxHeartbeats 4000000 in
theorem unp_walk (k:Nat) (ad:Addr) (c0_0:Nat) (nums:List Int) (A0_1:Option Addr) (c0_1:Nat) (texts:List ByteArray) (w:World) (hr0:Kd.C (Kd.int .i64) w (some ad) nums.length nums) (hc0:nums.length≤c0_0)
  (m:Nat) (hm:nums.length=2*m+1) (hm64:m≤64) (h00:rd nums 0=m) (ht:texts=[]) (r1:List S67) (r2:Int)
  (hres1:(∀ j:Fin m,goodAt nums j.val=true)→∃ rc,block_Check.f k (unpSt nums (List.finRange m)).1=some rc∧(r1,r2)=if rc=0 then((unpSt nums (List.finRange m)).1,(0:Int))else([],2))
  (hres2:(∃ j:Fin m,goodAt nums j.val=false)→(r1,r2)=([],(2:Int))) :
  Calls Try.prog 73 #[.agg #[.slice (some ad) nums.length c0_0,.slice A0_1 texts.length c0_1]] w fun e w'=>∃ v0_:Value,e=.returned (.tuple #[v0_,.int .i64 r2])∧Kd.R k67 67 w' w.heap.size (fun _=>True) v0_ r1∧Below w.heap.size w w':=by
 obtain⟨Q,hQ⟩:∃ Q:Ending→World→Prop,(fun e w'=>∃ v0_:Value,e=.returned (.tuple #[v0_,.int .i64 r2])∧Kd.R k67 67 w' w.heap.size (fun _=>True) v0_ r1∧Below w.heap.size w w')=Q:=⟨_,rfl⟩
 rw [hQ]
 have HQQ:=Aside0.mk hQ
 have HRES1:=Aside0.mk hres1
 have HRES2:=Aside0.mk hres2
 clear hQ hres1 hres2
 refine(callsIn_wide (n:=5)).1 ?_
 have hro:Fence.wide.round=none:=rfl
 have hfn:∀ f,Fence.wide.fn f=True:=fun _=>eq_true trivial
 refine callsIn_of_wp_marks Try.func73 rfl trivial ?_ hro
 simp only [Try.ntmps73,List.size_toArray,List.length_cons,List.length_nil,Nat.reduceAdd,Nat.reduceSub,Array.replicate_succ,Array.replicate_zero,List.push_toArray,List.append_toArray,List.nil_append,List.cons_append]
 subst ht
 have hu29:=Try.underlying98
 have hu42:=Try.underlying67
 have hc00:w.cell? ad=some (.int .i64 m):=by
  obtain⟨ad',e,hx⟩:=Kd.at_int hr0 0 (by omega) (by omega)
  cases e
  rw [h00] at hx
  simpa [Addr.add] using hx
 have hlt:=World.block_lt_of_cell? w _ hc00
 have hA:∀ o1 o2 o3,(((w.alloc o1).alloc o2).alloc o3).cell? ad=some (.int .i64 m):=fun o1 o2 o3=>by
  rw [World.cell?_alloc_lt _ _ _ (by simp;omega),World.cell?_alloc_lt _ _ _ (by simp;omega),World.cell?_alloc_lt _ _ _ hlt,hc00]
 obtain⟨q,hq⟩:∃ q:Int,q=(m:Int):=⟨_,rfl⟩
 rw [←hq] at hA
 have HQ:=Aside0.mk hq
 have t1:(2*(m:Int)+1 == 0)=false:=by simp;omega
 have t2:(2*(m:Int)+1) / 2=q:=by omega
 have t3:decide (64<q)=false:=by simp;omega
 clear hq
 obtain⟨i0,hi,hz0,hz1,hz2⟩:=info_parts info3
 obtain⟨A1,hA1,hcut⟩:∃ A1:Option Addr,(m=0∨A1=some ⟨ad.block,ad.off+1,none⟩)∧∀ W:World,(Instr.slice 22 (.slice (some ad) (2*m+1) c0_0) (some (.int .i64 1)) none none).run Try.prog W=.ok (.slice A1 (2*m) (c0_0 - 1)) W:=by
  refine⟨if c0_0=1 then some ad else some ⟨ad.block,ad.off+1,none⟩,?_,fun W=>?_⟩
  ·rcases Nat.eq_zero_or_pos m with h|h
   ·exact .inl h
   ·exact .inr (if_neg (by omega))
  ·have h:=cut_from (P:=Try.prog) 22 3 .i64 Try.underlying22 hi 1 hz1 (some ad) (2*m+1) c0_0 1 (by omega) (by omega) W
   exact h
 have HA1:=Aside0.mk hA1
 clear hi hz0 hz1 hz2 hA1
 clear hc00 h00
 have HLT:=Aside0.mk hlt
 have HM:=Aside0.mk hm
 have HRR:=Aside0.mk hr0
 have HC:=Aside0.mk hc0
 have hn1:nums.length=2*m+1:=hm
 clear hlt hm hr0 hc0
 gi_wp2_with (gi_at_call 85;refine(chunk_in Fence.wide 4 trivial hro _ _ _ _).mono ?_;rintro e w' ⟨rfl,rfl⟩)
 obtain⟨W0,hW0⟩:∃ W0:World,((((((((w.alloc (Obj.cells #[Value.slice (some ad) (2*m+1) c0_0,Value.slice A0_1 0 c0_1] 98)).alloc (Obj.cells #[Value.slice none 0 0] 65)).alloc (Obj.cells #[Value.int IntKind.i64 0] 26)).alloc (Obj.cells #[Value.slice none 0 0] 65)).alloc (Obj.cells #[Value.int IntKind.i64 0,Value.int IntKind.i64 0] 67)).alloc (Obj.cells #[Value.int IntKind.i64 0,Value.int IntKind.i64 0] 67)).alloc (Obj.cells #[Value.slice A1 (2*m) (c0_0 - 1)] 22)).alloc (Obj.cells #[Value.int IntKind.i64 2] 3))=W0:=⟨_,rfl⟩
 have hsz:W0.heap.size=w.heap.size+8:=by rw [←hW0];simp
 have hB0:Below w.heap.size w W0:=by
  rw [←hW0]
  exact((((((((Below.refl _ w).alloc (Nat.le_refl _) _).alloc (by simp) _).alloc (by simp;omega) _).alloc (by simp;omega) _).alloc (by simp;omega) _).alloc (by simp;omega) _).alloc (by simp;omega) _).alloc (by simp;omega) _
 have hI0:UI w nums (m:=m) [] W0:=by
  rw [←hW0]
  refine⟨fun j hj=>by simp at hj,?_,?_,?_,?_,⟨.slice none 0 0,?_,Kd.R_nil _ _ _ _ _⟩,by rw [hW0];exact hB0,by rw [hW0,hsz];exact Nat.le_refl _⟩
  all_goals (repeat(first|(refine heap_new_at _ _ _ ?_;simp;done)|refine heap_old_at _ _ _ _ ?_))
 have hcs:W0.cell? ⟨w.heap.size+1+1+1+1+1+1,0,none⟩=some (.slice A1 (2*m) (c0_0 - 1)):=by
  have hb:W0.heap[w.heap.size+1+1+1+1+1+1]?=some (.cells #[.slice A1 (2*m) (c0_0 - 1)] 22 (0,0)):=by
   rw [←hW0]
   repeat(first|(refine heap_new_at _ _ _ ?_;simp;done)|refine heap_old_at _ _ _ _ ?_)
  exact(blk_cell hb 0).trans rfl
 have hcn:W0.cell? ⟨w.heap.size+1+1+1+1+1+1+1,0,none⟩=some (.int .i64 2):=by
  have hb:W0.heap[w.heap.size+1+1+1+1+1+1+1]?=some (.cells #[.int .i64 2] 3 (0,0)):=by
   rw [←hW0]
   repeat(first|(refine heap_new_at _ _ _ ?_;simp;done)|refine heap_old_at _ _ _ _ ?_)
  exact(blk_cell hb 0).trans rfl
 have hsv:ChunkOf m (.slice A1 (2*m) (c0_0 - 1)) ad.block (ad.off+1):=by
  have:=HC.out
  have hm:=HM.out
  rcases HA1.out with h|h
  ·subst h;exact .inl ⟨rfl,_,_,rfl⟩
  ·subst h;exact .inr ⟨_,rfl,by omega⟩
 have HSZ:=Aside0.mk hsz
 rw [hW0]
 clear hW0 hsz
 refine wpIn_rangeFunc_ownF hro (by omega) (gf:=91) (lb:=#[.pointer (some ⟨w.heap.size+1+1+1+1+1+1,0,none⟩),.pointer (some ⟨w.heap.size+1+1+1+1+1+1+1,0,none⟩)]) rfl trivial (enters_of Try.func91 (by kernel_rfl) rfl)
  (chunk_stops Fence.wide 4 trivial hro (by omega) _ _ ad.block (ad.off+1) m (by omega) _ hsv W0 (by have:=HSZ.out;omega) (by have:=HSZ.out;omega) hcs hcn) keepsTwo_t (keepsTwo_b (by have:=HSZ.out;omega) (by have:=HSZ.out;omega)) (Below.refl _ _) (fun _=>rfl)
  (UI w nums) (UX w nums) (UI_own w nums _ hB0.size) (UX_own w nums _ hB0.size) hI0
  (fun x=>{ tmps:=#[Value.agg #[Value.slice (some ad) (2*m+1) c0_0,Value.slice A0_1 0 c0_1],Value.pointer (some { block:=w.heap.size,off:=0 }),Value.pointer (some { block:=w.heap.size+1,off:=0 }),Value.pointer (some { block:=w.heap.size+1+1,off:=0 }),Value.int IntKind.i64 (2*(m:Int)+1),Value.pointer (some { block:=w.heap.size+1+1+1,off:=0 }),Value.pointer (some { block:=w.heap.size+1+1+1+1,off:=0 }),Value.pointer (some { block:=w.heap.size+1+1+1+1+1,off:=0 }),Value.slice (some { block:=ad.block,off:=ad.off+1+2*x.val }) 2 2,undef,Value.pointer (some { block:=w.heap.size,off:=0 }),Value.slice (some ad) (2*m+1) c0_0,Value.int IntKind.i64 (2*(m:Int)+1),Value.int IntKind.i64 (2*(m:Int)+1),Value.bool false,Value.bool false,Value.int IntKind.i64 (2*(m:Int)+1),Value.int IntKind.i64 1,Value.bool false,Value.bool false,Value.bool false,Value.pointer (some { block:=w.heap.size,off:=0 }),Value.slice (some ad) (2*m+1) c0_0,Value.pointer (some ad),Value.int IntKind.i64 q,Value.int IntKind.i64 (2*(m:Int)+1),Value.int IntKind.i64 q,Value.bool false,Value.bool false,Value.bool false,Value.pointer (some { block:=w.heap.size,off:=1 }),Value.slice A0_1 0 c0_1,Value.int IntKind.i64 0,Value.bool false,Value.bool false,Value.bool false,Value.int IntKind.i64 (2*(m:Int)+1),Value.int IntKind.i64 q,Value.bool false,Value.bool false,Value.pointer (some { block:=w.heap.size,off:=0 }),Value.slice (some ad) (2*m+1) c0_0,Value.slice A1 (2*m) (c0_0 - 1),Value.func (Fn.func 91) #[] #[Value.pointer (some { block:=w.heap.size+1+1+1+1+1+1,off:=0 }),Value.pointer (some { block:=w.heap.size+1+1+1+1+1+1+1,off:=0 })],Value.slice (some { block:=ad.block,off:=ad.off+1+2*x.val }) 2 2,undef,undef,undef,undef,undef,undef,undef,undef,undef,undef,undef,undef,undef,undef,undef,undef,undef,undef,undef,undef,undef,undef,undef,undef,undef,undef,undef,undef,undef,undef,undef,undef,undef,undef,undef,undef,undef,undef,undef,undef,undef,undef,undef,undef,undef,undef,undef,undef],defers:=[] }) ?assign ?body ?done ?stop
 case assign =>
  intro l x W K hK
  gi_wp2
  exact hK
 case body =>
  rintro l pre x W ⟨hgd,h1,h2,h3,h4,⟨v,h5,h6⟩,h7,h8⟩ hlt
  have H8:=Aside0.mk h8
  clear h8
  have d1:1≤5 - 1 - 1:=by omega
  have hx:=x.isLt
  have hm:=HM.out
  have hC:=Kd.C_below HRR.out h7
  obtain⟨a,ha⟩:∃ a:Int,a=numA nums x.val:=⟨_,rfl⟩
  obtain⟨b,hb⟩:∃ b:Int,b=numB nums x.val:=⟨_,rfl⟩
  have ca:W.cell? ⟨ad.block,ad.off+1+2*x.val,none⟩=some (.int .i64 a):=by
   obtain⟨ad',e,hx'⟩:=Kd.at_int hC ((1+2*x.val:Nat):Int) (by omega) (by omega)
   cases e
   rw [Int.toNat_natCast] at hx'
   rw [ha]
   unfold numA
   rw [←hx']
   congr 1
   unfold Addr.add
   rw [if_neg (by omega)]
   simp [Nat.add_assoc]
  have cb:W.cell? ⟨ad.block,ad.off+1+2*x.val+1,none⟩=some (.int .i64 b):=by
   obtain⟨ad',e,hx'⟩:=Kd.at_int hC ((2+2*x.val:Nat):Int) (by omega) (by omega)
   cases e
   rw [Int.toNat_natCast] at hx'
   rw [hb]
   unfold numB
   rw [←hx']
   congr 1
   unfold Addr.add
   rw [if_neg (by omega)]
   simp [Nat.add_assoc]
  have HA:=Aside0.mk ha
  have HBb:=Aside0.mk hb
  have H1:=Aside0.mk h1
  have H2:=Aside0.mk h2
  have H3:=Aside0.mk h3
  have H4:=Aside0.mk h4
  have H5:=Aside0.mk h5
  have H6:=Aside0.mk h6
  have H7:=Aside0.mk h7
  have HG:=Aside0.mk hgd
  have c10:W.cell? ⟨w.heap.size+1,0,none⟩=some (.slice none 0 0):=(blk_cell h1 0).trans rfl
  have f10:=blk_frozen h1 0
  have c20:W.cell? ⟨w.heap.size+1+1,0,none⟩=some (.int .i64 0):=(blk_cell h2 0).trans rfl
  have f20:=blk_frozen h2 0
  generalize hz:unpSt nums pre=z at h3 h4 h6
  have HZ:=Aside0.mk hz
  have c30:W.cell? ⟨w.heap.size+1+1+1,0,none⟩=some v:=(blk_cell h5 0).trans rfl
  have f30:=blk_frozen h5 0
  have c40:W.cell? ⟨w.heap.size+1+1+1+1,0,none⟩=some (.int .i64 z.2.1.f0):=(blk_cell h3 0).trans rfl
  have c41:W.cell? ⟨w.heap.size+1+1+1+1,1,none⟩=some (.int .i64 z.2.1.f1):=(blk_cell h3 1).trans rfl
  have f40:=blk_frozen h3 0
  have f41:=blk_frozen h3 1
  have c50:W.cell? ⟨w.heap.size+1+1+1+1+1,0,none⟩=some (.int .i64 z.2.2.f0):=(blk_cell h4 0).trans rfl
  have c51:W.cell? ⟨w.heap.size+1+1+1+1+1,1,none⟩=some (.int .i64 z.2.2.f1):=(blk_cell h4 1).trans rfl
  have f50:=blk_frozen h4 0
  have f51:=blk_frozen h4 1
  clear ha hb hz h1 h2 h3 h4 h5 h6 h7 hgd hC hm
  have calla:=fun W=>(callsIn_wide (n:=2)).2 (block_in_eq a W)
  have callb:=fun W=>(callsIn_wide (n:=2)).2 (block_in_eq b W)
  have CA:=Aside0.mk calla
  have CB:=Aside0.mk callb
  clear calla callb
  cases ga:inB a with
  |false =>
   have GA:=Aside0.mk ga
   gi_wp2_with (gi_at_call 86;refine(CallsIn.inRound l (CA.out _)).mono ?_;rintro e w' ⟨rfl,rfl⟩)
   exact ux_bad w w' nums pre x (by unfold goodAt;rw [←HA.out,GA.out];rfl) H1.out H2.out H7.out
  |true =>
   have GA:=Aside0.mk ga
   cases gb:inB b with
   |false =>
    have GB:=Aside0.mk gb
    gi_wp2_with (first
     |(gi_at_call 86;refine(CallsIn.inRound l (CA.out _)).mono ?_;rintro e w' ⟨rfl,rfl⟩;clear CA)
     |(gi_at_call 86;refine(CallsIn.inRound l (CB.out _)).mono ?_;rintro e w' ⟨rfl,rfl⟩))
    exact ux_bad w w' nums pre x (by unfold goodAt;rw [←HA.out,←HBb.out,GA.out,GB.out];rfl) H1.out H2.out H7.out
   |true =>
    have GB:=Aside0.mk gb
    gi_wp2_with (first
     |(gi_at_call 86;refine(CallsIn.inRound l (CA.out _)).mono ?_;rintro e w' ⟨rfl,rfl⟩;clear CA)
     |(gi_at_call 86;refine(CallsIn.inRound l (CB.out _)).mono ?_;rintro e w' ⟨rfl,rfl⟩))
    refine wpIn_region_heldF (fun V=>V.cell? ⟨ad.block,ad.off+1+2*x.val,none⟩=some (.int .i64 a)∧V.cell? ⟨ad.block,ad.off+1+2*x.val+1,none⟩=some (.int .i64 b)∧V.cell? ⟨w.heap.size+1+1+1+1+1,0,none⟩=some (.int .i64 z.2.2.f0)∧V.cell? ⟨w.heap.size+1+1+1+1+1,1,none⟩=some (.int .i64 z.2.2.f1)) (by kernel_rfl) ?_
    have hS:(w'.drew).cell? ⟨ad.block,ad.off+1+2*x.val,none⟩=some (.int .i64 a)∧(w'.drew).cell? ⟨ad.block,ad.off+1+2*x.val+1,none⟩=some (.int .i64 b)∧(w'.drew).cell? ⟨w.heap.size+1+1+1+1+1,0,none⟩=some (.int .i64 z.2.2.f0)∧(w'.drew).cell? ⟨w.heap.size+1+1+1+1+1,1,none⟩=some (.int .i64 z.2.2.f1):=⟨ca,cb,c50,c51⟩
    apply cut_by
    case main =>
     intro hc
     go_simp
     (refine wpAnyHeld_take (i:=0) (v:=.pointer (some ⟨w.heap.size+1+1+1+1+1,0,none⟩)) (by intro j o ho c;have:=List.mem_of_getElem? ((Array.getElem?_toList ..).trans ho);simp at this;rcases this with rfl|rfl|rfl|rfl|rfl|rfl|rfl|rfl|rfl|rfl|rfl|rfl|rfl|rfl|rfl<;>simp) rfl (by kernel_rfl) (by kernel_rfl) (by kernel_rfl) (fun _ _ _ h=>h) ⟨.inl ⟨by rfl,?_⟩,fun _=>rfl⟩ hS ?_;(focus (rintro w0 ⟨s1,s2,s3,s4⟩;go_simp;done));go_simp)
     (refine wpAnyHeld_take (i:=1) (v:=.int .i64 z.2.2.f0) (by intro j o ho c;have:=List.mem_of_getElem? ((Array.getElem?_toList ..).trans ho);simp at this;rcases this with rfl|rfl|rfl|rfl|rfl|rfl|rfl|rfl|rfl|rfl|rfl|rfl|rfl|rfl|rfl<;>simp) rfl (by kernel_rfl) (by kernel_rfl) (by kernel_rfl) (fun _ _ _ h=>h) ⟨.inl ⟨by rfl,?_⟩,fun _=>rfl⟩ hS ?_;(focus (rintro w0 ⟨s1,s2,s3,s4⟩;go_simp;done));go_simp)
     (refine wpAnyHeld_take (i:=2) (v:=.slice (some ⟨ad.block,ad.off+1+2*x.val,none⟩) 2 2) (by intro j o ho c;have:=List.mem_of_getElem? ((Array.getElem?_toList ..).trans ho);simp at this;rcases this with rfl|rfl|rfl|rfl|rfl|rfl|rfl|rfl|rfl|rfl|rfl|rfl|rfl|rfl|rfl<;>simp) rfl (by kernel_rfl) (by kernel_rfl) (by kernel_rfl) (fun _ _ _ h=>h) ⟨.inl ⟨by rfl,?_⟩,fun _=>rfl⟩ hS ?_;(focus (rintro w0 ⟨s1,s2,s3,s4⟩;go_simp;done));go_simp)
     (refine wpAnyHeld_take (i:=3) (v:=.pointer (some ⟨ad.block,ad.off+1+2*x.val,none⟩)) (by intro j o ho c;have:=List.mem_of_getElem? ((Array.getElem?_toList ..).trans ho);simp at this;rcases this with rfl|rfl|rfl|rfl|rfl|rfl|rfl|rfl|rfl|rfl|rfl|rfl|rfl|rfl|rfl<;>simp) rfl (by kernel_rfl) (by kernel_rfl) (by kernel_rfl) (fun _ _ _ h=>h) ⟨.inl ⟨by rfl,?_⟩,fun _=>rfl⟩ hS ?_;(focus (rintro w0 ⟨s1,s2,s3,s4⟩;go_simp;done));go_simp)
     (refine wpAnyHeld_take (i:=4) (v:=.int .i64 a) (by intro j o ho c;have:=List.mem_of_getElem? ((Array.getElem?_toList ..).trans ho);simp at this;rcases this with rfl|rfl|rfl|rfl|rfl|rfl|rfl|rfl|rfl|rfl|rfl|rfl|rfl|rfl|rfl<;>simp) rfl (by kernel_rfl) (by kernel_rfl) (by kernel_rfl) (fun _ _ _ h=>h) ⟨.inl ⟨by rfl,?_⟩,fun _=>rfl⟩ hS ?_;(focus (rintro w0 ⟨s1,s2,s3,s4⟩;go_simp;done));go_simp)
     (refine wpAnyHeld_take (i:=5) (v:=.int .i64 (IntKind.i64.wrap (z.2.2.f0+a))) (by intro j o ho c;have:=List.mem_of_getElem? ((Array.getElem?_toList ..).trans ho);simp at this;rcases this with rfl|rfl|rfl|rfl|rfl|rfl|rfl|rfl|rfl|rfl|rfl|rfl|rfl|rfl|rfl<;>simp) rfl (by kernel_rfl) (by kernel_rfl) (by kernel_rfl) (fun _ _ _ h=>h) ⟨.inl ⟨by rfl,?_⟩,fun _=>rfl⟩ hS ?_;(focus (rintro w0 ⟨s1,s2,s3,s4⟩;go_simp;done));go_simp)
     (refine wpAnyHeld_take (i:=6) (v:=.pointer (some ⟨w.heap.size+1+1+1+1+1,1,none⟩)) (by intro j o ho c;have:=List.mem_of_getElem? ((Array.getElem?_toList ..).trans ho);simp at this;rcases this with rfl|rfl|rfl|rfl|rfl|rfl|rfl|rfl|rfl|rfl|rfl|rfl|rfl|rfl|rfl<;>simp) rfl (by kernel_rfl) (by kernel_rfl) (by kernel_rfl) (fun _ _ _ h=>h) ⟨.inl ⟨by rfl,?_⟩,fun _=>rfl⟩ hS ?_;(focus (rintro w0 ⟨s1,s2,s3,s4⟩;go_simp;done));go_simp)
     (refine wpAnyHeld_take (i:=7) (v:=.int .i64 z.2.2.f1) (by intro j o ho c;have:=List.mem_of_getElem? ((Array.getElem?_toList ..).trans ho);simp at this;rcases this with rfl|rfl|rfl|rfl|rfl|rfl|rfl|rfl|rfl|rfl|rfl|rfl|rfl|rfl|rfl<;>simp) rfl (by kernel_rfl) (by kernel_rfl) (by kernel_rfl) (fun _ _ _ h=>h) ⟨.inl ⟨by rfl,?_⟩,fun _=>rfl⟩ hS ?_;(focus (rintro w0 ⟨s1,s2,s3,s4⟩;go_simp;done));go_simp)
     (refine wpAnyHeld_take (i:=8) (v:=.slice (some ⟨ad.block,ad.off+1+2*x.val,none⟩) 2 2) (by intro j o ho c;have:=List.mem_of_getElem? ((Array.getElem?_toList ..).trans ho);simp at this;rcases this with rfl|rfl|rfl|rfl|rfl|rfl|rfl|rfl|rfl|rfl|rfl|rfl|rfl|rfl|rfl<;>simp) rfl (by kernel_rfl) (by kernel_rfl) (by kernel_rfl) (fun _ _ _ h=>h) ⟨.inl ⟨by rfl,?_⟩,fun _=>rfl⟩ hS ?_;(focus (rintro w0 ⟨s1,s2,s3,s4⟩;go_simp;done));go_simp)
     (refine wpAnyHeld_take (i:=9) (v:=.pointer (some ⟨ad.block,ad.off+1+2*x.val+1,none⟩)) (by intro j o ho c;have:=List.mem_of_getElem? ((Array.getElem?_toList ..).trans ho);simp at this;rcases this with rfl|rfl|rfl|rfl|rfl|rfl|rfl|rfl|rfl|rfl|rfl|rfl|rfl|rfl|rfl<;>simp) rfl (by kernel_rfl) (by kernel_rfl) (by kernel_rfl) (fun _ _ _ h=>h) ⟨.inl ⟨by rfl,?_⟩,fun _=>rfl⟩ hS ?_;(focus (rintro w0 ⟨s1,s2,s3,s4⟩;go_simp;done));go_simp)
     (refine wpAnyHeld_take (i:=10) (v:=.int .i64 b) (by intro j o ho c;have:=List.mem_of_getElem? ((Array.getElem?_toList ..).trans ho);simp at this;rcases this with rfl|rfl|rfl|rfl|rfl|rfl|rfl|rfl|rfl|rfl|rfl|rfl|rfl|rfl|rfl<;>simp) rfl (by kernel_rfl) (by kernel_rfl) (by kernel_rfl) (fun _ _ _ h=>h) ⟨.inl ⟨by rfl,?_⟩,fun _=>rfl⟩ hS ?_;(focus (rintro w0 ⟨s1,s2,s3,s4⟩;go_simp;done));go_simp)
     (refine wpAnyHeld_take (i:=11) (v:=.int .i64 (IntKind.i64.wrap (z.2.2.f1+b))) (by intro j o ho c;have:=List.mem_of_getElem? ((Array.getElem?_toList ..).trans ho);simp at this;rcases this with rfl|rfl|rfl|rfl|rfl|rfl|rfl|rfl|rfl|rfl|rfl|rfl|rfl|rfl|rfl<;>simp) rfl (by kernel_rfl) (by kernel_rfl) (by kernel_rfl) (fun _ _ _ h=>h) ⟨.inl ⟨by rfl,?_⟩,fun _=>rfl⟩ hS ?_;(focus (rintro w0 ⟨s1,s2,s3,s4⟩;go_simp;done));go_simp)
     (refine wpAnyHeld_take (i:=12) (v:=.agg #[.int .i64 (IntKind.i64.wrap (z.2.2.f0+a)),.int .i64 (IntKind.i64.wrap (z.2.2.f1+b))]) (by intro j o ho c;have:=List.mem_of_getElem? ((Array.getElem?_toList ..).trans ho);simp at this;rcases this with rfl|rfl|rfl|rfl|rfl|rfl|rfl|rfl|rfl|rfl|rfl|rfl|rfl|rfl|rfl<;>simp) rfl (by kernel_rfl) (by kernel_rfl) (by kernel_rfl) (fun _ _ _ h=>h) ⟨.inl ⟨by rfl,?_⟩,fun _=>rfl⟩ hS ?_;(focus (rintro w0 ⟨s1,s2,s3,s4⟩;go_simp;done));go_simp)
     have ca':=fun o:Obj=>(World.cell?_alloc_lt w' o _ (World.block_lt_of_cell? w' _ ca)).trans ca
     have cb':=fun o:Obj=>(World.cell?_alloc_lt w' o _ (World.block_lt_of_cell? w' _ cb)).trans cb
     have c50':=fun o:Obj=>(World.cell?_alloc_lt w' o _ (World.block_lt_of_cell? w' _ c50)).trans c50
     have c51':=fun o:Obj=>(World.cell?_alloc_lt w' o _ (World.block_lt_of_cell? w' _ c51)).trans c51
     refine wpAnyHeld_one (i:=13) (by kernel_rfl) rfl rfl (fun K hK=>?_)
     go_simp
     refine hK _ _ ⟨ca' _,cb' _,c50' _,c51' _⟩ ?_
     clear hK K
     go_simp
     refine wpAnyHeld_one (i:=14) (by kernel_rfl) rfl rfl (fun K hK=>?_)
     go_simp
     refine hK _ _ ⟨ca' _,cb' _,c50' _,c51' _⟩ ?_
     clear hK K
     go_simp
     refine wpAnyHeld_done (by kernel_rfl) ?_ _
     exact hc
    case cont =>
     clear ca cb c50 c51 c10 f10 c20 f20 c30 f30 c40 c41 f40 f41 f50 f51 hS
     obtain⟨A,hA'⟩:∃ A:Int,A=IntKind.i64.wrap (z.2.2.f0+a):=⟨_,rfl⟩
     obtain⟨B,hB'⟩:∃ B:Int,B=IntKind.i64.wrap (z.2.2.f1+b):=⟨_,rfl⟩
     rw [←hA',←hB']
     have HA':=Aside0.mk hA'
     have HB':=Aside0.mk hB'
     clear hA' hB'
     obtain⟨V,hV⟩:∃ V:World,(w'.alloc (Obj.cells #[.int .i64 A,.int .i64 B] 67)).drew=V:=⟨_,rfl⟩
     have gV:w'.grownBy V none:=by rw [←hV];exact World.grownBy.trans (World.grownBy_alloc w' (Obj.cells #[.int .i64 A,.int .i64 B] 67) none) ⟨rfl,rfl,rfl,Nat.le_refl _,fun _ _ _=>rfl⟩
     obtain⟨N,hN⟩:∃ N:Nat,w'.heap.size=N:=⟨_,rfl⟩
     have bN:V.heap[N]?=some (.cells #[.int .i64 A,.int .i64 B] 67 (0,0)):=by rw [←hV,←hN];exact World.alloc_heap_new w' (Obj.cells #[.int .i64 A,.int .i64 B] 67)
     have sN:V.heap.size=N+1:=by rw [←hV,←hN];exact World.size_alloc w' (Obj.cells #[.int .i64 A,.int .i64 B] 67)
     have b1:=blk_grown H1.out gV (by simp)
     have b2:=blk_grown H2.out gV (by simp)
     have b3:=blk_grown H5.out gV (by simp)
     have b4:=blk_grown H3.out gV (by simp)
     have b5:=blk_grown H4.out gV (by simp)
     have lN:w.heap.size+1+1+1+1+1<N:=by rw [←hN];exact blk_lt H4.out
     rw [HZ.out] at b4 b5
     have n3:w.heap.size+1+1+1≠N:=by omega
     have n4:w.heap.size+1+1+1+1≠N:=by omega
     have n5:w.heap.size+1+1+1+1+1≠N:=by omega
     have m3:=n3.symm
     have m4:=n4.symm
     have m5:=n5.symm
     have GV:=Aside0.mk gV
     have SN:=Aside0.mk sN
     have LN:=Aside0.mk lN
     rw [hV,hN]
     have HN:=Aside0.mk hN
     clear hV gV hN sN lN
     have c30:V.cell? ⟨w.heap.size+1+1+1,0,none⟩=some (v):=(blk_cell b3 0).trans rfl
     have f30:=blk_frozen b3 0
     have c40:V.cell? ⟨w.heap.size+1+1+1+1,0,none⟩=some (.int .i64 z.2.1.f0):=(blk_cell b4 0).trans rfl
     have f40:=blk_frozen b4 0
     have c41:V.cell? ⟨w.heap.size+1+1+1+1,1,none⟩=some (.int .i64 z.2.1.f1):=(blk_cell b4 1).trans rfl
     have f41:=blk_frozen b4 1
     have c50:V.cell? ⟨w.heap.size+1+1+1+1+1,0,none⟩=some (.int .i64 z.2.2.f0):=(blk_cell b5 0).trans rfl
     have f50:=blk_frozen b5 0
     have c51:V.cell? ⟨w.heap.size+1+1+1+1+1,1,none⟩=some (.int .i64 z.2.2.f1):=(blk_cell b5 1).trans rfl
     have f51:=blk_frozen b5 1
     have cN0:V.cell? ⟨N,0,none⟩=some (.int .i64 A):=(blk_cell bN 0).trans rfl
     have fN0:=blk_frozen bN 0
     have cN1:V.cell? ⟨N,1,none⟩=some (.int .i64 B):=(blk_cell bN 1).trans rfl
     have fN1:=blk_frozen bN 1
     have B1:=Aside0.mk b1
     have B2:=Aside0.mk b2
     have B3:=Aside0.mk b3
     have B4:=Aside0.mk b4
     have B5:=Aside0.mk b5
     have BN:=Aside0.mk bN
     clear b1 b2 b3 b4 b5 bN
     gi_wp2_with (
      gi_at_builtin
      refine R_append_in k67 (w0:=w) w.heap.size rfl (.tmp 81) (.tmp 83) 65 67 (.agg #[.int .i64 0,.int .i64 0]) 16 rfl Try.underlying65 info67 rfl (by decide) (by decide) v z.1 (⟨wrap64 (z.2.1.f0+A),wrap64 (z.2.1.f1+B)⟩:S67) [.int .i64 (wrap64 (z.2.1.f0+A)),.int .i64 (wrap64 (z.2.1.f1+B))] (fun k=>w.heap.size+8≤k) (fun _=>False) rfl (by simp;rfl) (k67_mkM _ _ _ (⟨wrap64 (z.2.1.f0+A),wrap64 (z.2.1.f1+B)⟩:S67)) (fun _ h=>h.elim) ?fresh ?own ?bel ?base ?len ?_
      (case fresh=>intro k hk;have h1:=H8.out;have h2:=SN.out;have h3:=HN.out;simp at hk;omega)
      (case own=>have h:=H6.out;rw [HZ.out] at h;exact R_set (R_set (R_turn h GV.out (by simp)) _ _ (fun k hk=>by simp only;omega)) _ _ (fun k hk=>by simp only;omega))
      (case bel=>exact((H7.out.grown GV.out H7.out.size (by simp)).setCell (by simp only;omega) _).setCell (by simp only;omega) _)
      (case base=>have h1:=H8.out;have h2:=SN.out;have h3:=HN.out;simp;omega)
      (case len=>have h:=unpSt_len nums pre;rw [HZ.out] at h;omega)
      intro v1 w1 hr1 hb1 hg1 hat1
      go_loud (
       have hrow:∀ k,v.ownBlock=some k→w.heap.size+8≤k∧k<N∧∃ o,w'.heap[k]?=some o∧o.isCells=true:=by
        intro k hk
        obtain⟨h1,h2,h3,q,hq,cells,h4⟩:=(Kd.R_bound H6.out).1 k hk
        exact⟨h1,by rw [←HN.out];exact h3,_,h4,rfl⟩
       have no:∀ k,k<w.heap.size+8∨N≤k→some k≠v.ownBlock:=fun k hk e=>by
        have:=hrow k e.symm
        omega
       obtain⟨V2,hV2⟩:∃ V2:World,(V.setCell ⟨w.heap.size+1+1+1+1,0,none⟩ (.int .i64 (wrap64 (z.2.1.f0+A)))).setCell ⟨w.heap.size+1+1+1+1,1,none⟩ (.int .i64 (wrap64 (z.2.1.f1+B)))=V2:=⟨_,rfl⟩
       rw [hV2] at hg1 hat1
       have KV:KeepsOthers w' V2:=by rw [←hV2];exact((KeepsOthers.of_grownBy GV.out (by simp)).trans (KeepsOthers.setCell _ _ _)).trans (KeepsOthers.setCell _ _ _)
       have hV2o:∀ k,k≠w.heap.size+1+1+1+1→V2.heap[k]?=V.heap[k]?:=fun k hk=>by
        rw [←hV2]
        exact(Below.heap_setCell _ ⟨w.heap.size+1+1+1+1,1,none⟩ _ k hk).trans (Below.heap_setCell _ ⟨w.heap.size+1+1+1+1,0,none⟩ _ k hk)
       have hVo:∀ k,k<N→V.heap[k]?=w'.heap[k]?:=fun k hk=>GV.out.block k (by rw [HN.out];exact hk) (by simp)
       have s2:V2.heap.size=N+1:=by rw [←hV2];simpa using SN.out
       have ho:∀ k,k<w.heap.size+8∨N≤k→k<N+1→k≠w.heap.size+1+1+1+1→w1.heap[k]?=V.heap[k]?:=fun k hk hk2 hk4 =>
        (hg1.block k (by rw [s2];exact hk2) (no k hk)).trans (hV2o k hk4)
       have l8:=H8.out
       rw [HN.out] at l8
       have g1:=(ho _ (by omega) (by omega) (by omega)).trans B1.out
       have g2:=(ho _ (by omega) (by omega) (by omega)).trans B2.out
       have g3:=(ho _ (by omega) (by omega) (by omega)).trans B3.out
       have g5:=(ho _ (by omega) (by omega) (by omega)).trans B5.out
       have gN:=(ho _ (by omega) (by omega) (by omega)).trans BN.out
       have g4:w1.heap[w.heap.size+1+1+1+1]?=some (.cells #[.int .i64 (wrap64 (z.2.1.f0+A)),.int .i64 (wrap64 (z.2.1.f1+B))] 67 (0,0)):=by
        refine(hg1.block _ (by rw [s2];omega) (no _ (by omega))).trans ?_
        rw [←hV2]
        exact blk_set (blk_set B4.out 0 _) 1 _
       have g6:=(ho (w.heap.size+1+1+1+1+1+1) (by omega) (by omega) (by omega)).trans (hVo _ (by omega))
       have g7:=(ho (w.heap.size+1+1+1+1+1+1+1) (by omega) (by omega) (by omega)).trans (hVo _ (by omega))
       have K1:KeepsOthers w' w1:=KV.trans (KeepsOthers.of_grownBy hg1 (fun j o e hj=>by
        obtain⟨h1,h2,o',h3,h4⟩:=hrow j e
        rw [hV2o j (by omega),hVo j h2,h3] at hj
        injection hj with hj
        rw [←hj]
        exact h4))
       have s1:w.heap.size+8≤w1.heap.size:=by have:=hg1.size;omega
       have UN:=ui_next w w' w1 nums pre x A B (wrap64 (z.2.1.f0+A)) (wrap64 (z.2.1.f1+B)) v v1 (by rw [HZ.out,←HA.out];exact HA'.out.trans (IntWalk.i64_left _)) (by rw [HZ.out,←HBb.out];exact HB'.out.trans (IntWalk.i64_left _)) (by rw [HZ.out]) (by rw [HZ.out]) HG.out (by unfold goodAt;rw [←HA.out,←HBb.out,GA.out,GB.out];rfl) K1 g1 g2 g3 g4 (by rw [HZ.out];exact g5) g6 g7 (by rw [HZ.out];exact hr1) hb1 s1
       rw [HZ.out] at UN
       have UNA:=Aside0.mk UN
       have e3:=blk_frozen g3 0
       have e50:=blk_frozen g5 0
       have e51:=blk_frozen g5 1
       have e30:w1.cell? ⟨w.heap.size+1+1+1,0,none⟩=some v:=(blk_cell g3 0).trans rfl
       have e500:w1.cell? ⟨w.heap.size+1+1+1+1+1,0,none⟩=some (.int .i64 z.2.2.f0):=(blk_cell g5 0).trans rfl
       have e501:w1.cell? ⟨w.heap.size+1+1+1+1+1,1,none⟩=some (.int .i64 z.2.2.f1):=(blk_cell g5 1).trans rfl
       have eN0:w1.cell? ⟨N,0,none⟩=some (.int .i64 A):=(blk_cell gN 0).trans rfl
       have eN1:w1.cell? ⟨N,1,none⟩=some (.int .i64 B):=(blk_cell gN 1).trans rfl
       obtain⟨A2,c2,hv1⟩:=Kd.R_slice hr1
       obtain⟨L,hL⟩:∃ L:Nat,L=(z.1++[(⟨wrap64 (z.2.1.f0+A),wrap64 (z.2.1.f1+B)⟩:S67)]).length:=⟨_,rfl⟩
       rw [←hL] at hv1
       have hLL:L=z.1.length+1:=by rw [hL];simp
       have LL:=Aside0.mk hLL
       clear hr1 hb1 hg1 hat1 hrow no hV2 KV hV2o hVo s2 ho l8 g1 g2 g3 g5 gN g4 g6 g7 K1 s1 UN hL hLL
       subst hv1)
      cases hd:decide (1<(L:Int)))
     all_goals (first
      |exact UNA.out.2 _ (by have:=LL.out;have:=of_decide_eq_true hd;omega) rfl
      |exact UNA.out.1 _ (by have:=LL.out;have:=of_decide_eq_false hd;omega) rfl)
 case done =>
  intro D xs W hDD hxs hI hK
  have HDD:=Aside0.mk hDD
  have hxs:xs=List.finRange m:=hxs
  subst hxs
  obtain⟨hgd,h1,h2,h3,h4,⟨v,h5,h6⟩,h7,h8⟩:=hI
  obtain⟨rc,hck,hr⟩:=HRES1.out (fun j=>hgd j (List.mem_finRange j))
  have c30:W.cell? ⟨w.heap.size+1+1+1,0,none⟩=some v:=(blk_cell h5 0).trans rfl
  have f10:=blk_frozen h1 0
  have f20:=blk_frozen h2 0
  obtain⟨A3,c3,hv,hc3,hC3⟩:=Kd.R_reads h6
  subst hv
  have callc:=(callsIn_wide (n:=4)).2 (block_Check.calls k A3 c3 _ rc W hC3 hc3 hck)
  have HCC:=Aside0.mk callc
  have H1:=Aside0.mk h1
  have H2:=Aside0.mk h2
  have H5:=Aside0.mk h5
  have H6:=Aside0.mk h6
  have H7:=Aside0.mk h7
  have H8:=Aside0.mk h8
  have HR:=Aside0.mk hr
  have HK:=Aside0.mk hK
  clear callc h1 h2 h3 h4 h5 h6 h7 h8 hC3 hc3 hck hr hK hgd f10 f20
  gi_wp2_with (gi_at_call 75;refine HCC.out.mono ?_;go_loud (
   rintro e W2 ⟨rfl,hB2⟩
   have g1:=(hB2.block _ (by have:=H8.out;omega)).trans H1.out
   have g2:=(hB2.block _ (by have:=H8.out;omega)).trans H2.out
   have g5:=(hB2.block _ (by have:=H8.out;omega)).trans H5.out
   have f10:=blk_frozen g1 0
   have f20:=blk_frozen g2 0
   have c10:W2.cell? ⟨w.heap.size+1,0,none⟩=some (.slice none 0 0):=(blk_cell g1 0).trans rfl
   have c20:W2.cell? ⟨w.heap.size+1+1,0,none⟩=some (.int .i64 0):=(blk_cell g2 0).trans rfl
   have c30:W2.cell? ⟨w.heap.size+1+1+1,0,none⟩=some _:=(blk_cell g5 0).trans rfl
   have g7:Below w.heap.size w W2:=H7.out.trans (hB2.mono (by have:=H8.out;omega))
   have gR:Kd.R k67 67 W2 w.heap.size (fun k=>w.heap.size+8≤k) (.slice A3 (unpSt nums (List.finRange m)).1.length c3) (unpSt nums (List.finRange m)).1 :=
    Kd.R_mono (Kd.R_move (Kd.R_bound H6.out) (fun k hk=>hB2.block k hk.2.2.1)) (fun _ hk=>hk.1)
   have gD:W2.heap[D]?=some (.deferred (some [])):=(hB2.block D (Array.getElem?_eq_some_iff.1 HK.out).1).trans HK.out
   have BN:=Aside0.mk (bad_next w W2 g1 g2 g7)
   have GN:=Aside0.mk (good_next w W2 _ g1 g2 g7 _ gR)
   have GD:=Aside0.mk gD
   clear g1 g2 g5 hB2 g7 gR gD
   obtain⟨bb,hbb⟩:∃ bb:Bool,bb=(rc != 0):=⟨_,rfl⟩
   have HBB:=Aside0.mk hbb
   try rw [←hbb]
   clear hbb))
  all_goals (rename_i hcc;first
   |(have hrc:rc≠0:=by simpa using hcc
     obtain⟨k1,k2,k3,k4⟩:=BN.out _ rfl
     have hr:=HR.out
     rw [if_neg hrc] at hr
     obtain⟨rfl,rfl⟩:=Prod.mk.inj hr
     refine unp_end w _ [] 2 Q HQQ.out _ D (by have:=HDD.out;have:=HSZ.out;omega) (.slice none 0 0) rfl rfl k2 k3 (k1.same D _ GD.out rfl) (Kd.R_nil _ _ _ _ _) k4)
   |(have hrc:rc=0:=by simpa using hcc
     obtain⟨k1,k2,k3,k4,k5⟩:=GN.out _ rfl
     have hr:=HR.out
     rw [if_pos hrc] at hr
     obtain⟨rfl,rfl⟩:=Prod.mk.inj hr
     refine unp_end w _ _ 0 Q HQQ.out _ D (by have:=HDD.out;have:=HSZ.out;omega) _ rfl rfl k2 k3 (k1.same D _ GD.out rfl) k4 k5))
 case stop =>
  intro D c pre W hDD hpre hI hK
  obtain⟨rfl,⟨j,_,hj⟩,h1,h2,h7⟩:=hI
  have hr:=HRES2.out ⟨j,hj⟩
  obtain⟨rfl,rfl⟩:=Prod.mk.inj hr
  refine wpIn_ret ?_
  exact unp_end w W [] 2 Q HQQ.out _ D (by have:=HSZ.out;omega) (.slice none 0 0) rfl rfl h1 h2 hK (Kd.R_nil _ _ _ _ _) h7
set_option maxHeartbeats 4000000 in
theorem unp_err (A0_0:Option Addr) (c0_0:Nat) (n:Nat) (A0_1:Option Addr) (c0_1:Nat) (tl:Nat) (w:World)
  (hmax:n≤maxLen) (hn:n=0∨(∃ m,n=2*m+2)∨∃ m ad q,n=2*m+1∧A0_0=some ad∧w.cell? ad=some (.int .i64 q)∧(q≠m∨0<tl∨64<m)) :
  Calls Try.prog 73 #[.agg #[.slice A0_0 n c0_0,.slice A0_1 tl c0_1]] w fun e w'=>∃ v0_:Value,e=.returned (.tuple #[v0_,.int .i64 2])∧Kd.R k67 67 w' w.heap.size (fun _=>True) v0_ []∧Below w.heap.size w w':=by
 have hu29:=Try.underlying98
 have hu42:=Try.underlying67
 have done:∀ (o1 o2 o3:Obj),Kd.R k67 67 (((w.alloc o1).alloc o2).alloc o3) w.heap.size (fun _=>True) (.slice none 0 0) []∧Below w.heap.size w (((w.alloc o1).alloc o2).alloc o3):=fun o1 o2 o3 =>
  ⟨Kd.R_nil _ _ _ _ _,(((Below.refl _ w).alloc (Nat.le_refl _) _).alloc (by simp) _).alloc (by simp;omega) _⟩
 have DN:=Aside0.mk done
 clear done
 rcases hn with rfl|⟨m,rfl⟩|⟨m,ad,q,rfl,rfl,hc,hcase⟩
 ·go_enter Try.func73,Try.ntmps73
  go_wp2
  exact bodyPost_ret (v:=.tuple #[.slice none 0 0,.int .i64 2]) (by simp [results,Try.f73,go_sem]) rfl ⟨_,rfl,DN.out _ _ _⟩
 ·have t1:(2*(m:Int)+2 == 0)=false:=by simp;omega
  go_enter Try.func73,Try.ntmps73
  go_wp2
  exact bodyPost_ret (v:=.tuple #[.slice none 0 0,.int .i64 2]) (by simp [results,Try.f73,go_sem]) rfl ⟨_,rfl,DN.out _ _ _⟩
 ·have hlt:=World.block_lt_of_cell? w _ hc
  have hA:∀ o1 o2 o3,(((w.alloc o1).alloc o2).alloc o3).cell? ad=some (.int .i64 q):=fun o1 o2 o3=>by
   rw [World.cell?_alloc_lt _ _ _ (by simp;omega),World.cell?_alloc_lt _ _ _ (by simp;omega),World.cell?_alloc_lt _ _ _ hlt,hc]
  have hm:m≤4611686018427387903:=by simp only [maxLen] at hmax;omega
  clear hmax
  have t1:(2*(m:Int)+1 == 0)=false:=by simp;omega
  obtain⟨p,hp⟩:∃ p:Int,p=(m:Int):=⟨_,rfl⟩
  have t2:(2*(m:Int)+1) / 2=p:=by omega
  clear hc hlt
  by_cases hq:q=p
  ·subst hq
   have hcase:0<tl∨64<m:=by omega
   have HP:=Aside0.mk hp
   clear hp
   by_cases ht:0<tl
   ·have t3:decide (0<(tl:Int))=true:=by simp;omega
    clear hcase ht
    go_enter Try.func73,Try.ntmps73
    go_wp2
    all_goals exact bodyPost_ret (v:=.tuple #[.slice none 0 0,.int .i64 2]) (by simp [results,Try.f73,go_sem]) rfl ⟨_,rfl,DN.out _ _ _⟩
   ·have ht0:tl=0:=by omega
    subst ht0
    have t3:decide (64<q)=true:=by have:=HP.out;simp;omega
    clear hcase ht
    go_enter Try.func73,Try.ntmps73
    go_wp2
    all_goals exact bodyPost_ret (v:=.tuple #[.slice none 0 0,.int .i64 2]) (by simp [results,Try.f73,go_sem]) rfl ⟨_,rfl,DN.out _ _ _⟩
  ·have t3:(q != p)=true:=by simpa using hq
   have t4:(q == p)=false:=by simpa using hq
   clear hcase hp
   go_enter Try.func73,Try.ntmps73
   go_wp2
   all_goals exact bodyPost_ret (v:=.tuple #[.slice none 0 0,.int .i64 2]) (by simp [results,Try.f73,go_sem]) rfl ⟨_,rfl,DN.out _ _ _⟩
def block_Unpack.ok (nums:List Int) (texts:List ByteArray):Bool:=decide (nums.length % 2=1) && decide (rd nums 0=((nums.length / 2:Nat):Int)) && decide (texts.length=0) && decide (nums.length / 2≤64)
def block_Unpack.good (nums:List Int):Bool:=(List.finRange (nums.length / 2)).all fun j=>goodAt nums j.val
def block_Unpack.row (nums:List Int):List S67:=(unpSt nums (List.finRange (nums.length / 2))).1
def block_Unpack.f (k:Nat) (nums:List Int) (texts:List ByteArray):Option (List S67×Int) :=
 if nums.length≤maxLen then
  if block_Unpack.ok nums texts=true then
   if block_Unpack.good nums=true then(block_Check.f k (block_Unpack.row nums)).bind fun rc=>some (if rc=0 then(block_Unpack.row nums,0)else([],2))
   else some ([],2)
  else some ([],2)
 else none
theorem block_Unpack.mono:∀ a0 a1 k,LeO (block_Unpack.f k a0 a1) (block_Unpack.f (k+1) a0 a1):=by
 intro a0 a1 k r h
 unfold block_Unpack.f at h ⊢
 split at h
 ·rename_i h1
  rw [if_pos h1]
  split at h
  ·rename_i h2
   rw [if_pos h2]
   split at h
   ·rename_i h3
    rw [if_pos h3]
    obtain⟨rc,hc,he⟩:=Option.bind_eq_some_iff.1 h
    exact Option.bind_eq_some_iff.2 ⟨rc,block_Check.mono _ _ _ hc,he⟩
   ·rename_i h3
    rw [if_neg h3]
    exact h
  ·rename_i h2
   rw [if_neg h2]
   exact h
 ·cases h
theorem block_Unpack.calls (k:Nat) (A0_0:Option Addr) (c0_0:Nat) (l0_0:List Int) (A0_1:Option Addr) (c0_1:Nat) (l0_1:List ByteArray) (r1:List (S67)) (r2:Int) (w:World) (hr0_0:Kd.C (Kd.int .i64) w A0_0 l0_0.length l0_0) (hc0_0:l0_0.length≤c0_0) (hr0_1:Kd.C Kd.string w A0_1 l0_1.length l0_1) (hc0_1:l0_1.length≤c0_1) (h:block_Unpack.f k l0_0 l0_1=some (r1,r2)) :
  Calls Try.prog 73 #[.agg #[.slice A0_0 l0_0.length c0_0,.slice A0_1 l0_1.length c0_1]] w fun e w'=>∃ v0_:Value,e=.returned (.tuple #[v0_,.int .i64 r2])∧Kd.R k67 67 w' w.heap.size (fun _=>True) v0_ r1∧Below w.heap.size w w':=by
 unfold block_Unpack.f at h
 split at h
 case isFalse=>cases h
 rename_i hmax
 have cell0:0<l0_0.length→∃ ad,A0_0=some ad∧w.cell? ad=some (.int .i64 (rd l0_0 0)):=fun hp=>by
  obtain⟨ad,e1,hx⟩:=Kd.at_int hr0_0 0 (by omega) (by omega)
  exact⟨ad,e1,by simpa [Addr.add] using hx⟩
 split at h
 case isTrue hok =>
  unfold block_Unpack.ok at hok
  simp only [Bool.and_eq_true,decide_eq_true_eq] at hok
  obtain⟨⟨⟨h1,h2⟩,h3⟩,h4⟩:=hok
  obtain⟨ad,rfl,hc⟩:=cell0 (by omega)
  obtain⟨m,hm⟩:∃ m,m=l0_0.length / 2:=⟨_,rfl⟩
  have ht:l0_1=[]:=List.eq_nil_of_length_eq_zero h3
  refine unp_walk k ad c0_0 l0_0 A0_1 c0_1 l0_1 w hr0_0 hc0_0 m (by omega) (by omega) (by rw [h2,hm]) ht r1 r2 ?_ ?_
  ·intro hall
   have hg:block_Unpack.good l0_0=true:=by
    unfold block_Unpack.good
    rw [←hm]
    exact List.all_eq_true.2 fun j _=>hall j
   rw [if_pos hg] at h
   obtain⟨rc,hck,he⟩:=Option.bind_eq_some_iff.1 h
   unfold block_Unpack.row at hck he
   rw [←hm] at hck he
   exact⟨rc,hck,(Option.some.inj he).symm⟩
  ·rintro⟨j,hj⟩
   have hg:¬ block_Unpack.good l0_0=true:=fun hg=>by
    unfold block_Unpack.good at hg
    rw [←hm] at hg
    have:=List.all_eq_true.1 hg j (List.mem_finRange j)
    rw [hj] at this
    cases this
   rw [if_neg hg] at h
   exact(Option.some.inj h).symm
 case isFalse hok =>
  obtain⟨rfl,rfl⟩:=Prod.mk.inj (Option.some.inj h)
  refine unp_err A0_0 c0_0 l0_0.length A0_1 c0_1 l0_1.length w hmax ?_
  rcases Nat.eq_zero_or_pos l0_0.length with hz|hp
  ·exact .inl hz
  ·rcases Nat.mod_two_eq_zero_or_one l0_0.length with h2|h2
   ·exact .inr (.inl ⟨l0_0.length / 2 - 1,by omega⟩)
   ·obtain⟨ad,e1,hc⟩:=cell0 hp
    refine .inr (.inr ⟨l0_0.length / 2,ad,_,by omega,e1,hc,?_⟩)
    unfold block_Unpack.ok at hok
    simp only [Bool.and_eq_true,decide_eq_true_eq] at hok
    by_cases q1:rd l0_0 0=((l0_0.length / 2:Nat):Int)
    ·by_cases q2:l0_1.length=0
     ·exact .inr (.inr (Nat.lt_of_not_le fun q3=>hok ⟨⟨⟨h2,q1⟩,q2⟩,q3⟩))
     ·exact .inr (.inl (Nat.pos_of_ne_zero q2))
    ·exact .inl q1
end Go.Proofs.Ytmddmbagehjdeaa.G
end
section
namespace Go.Proofs.Ytmddmbagehjdeaa.G
open Go.RowKit Go.Proofs.YtmddmbagehjdeaaX Go.Proofs.YtmddmbagehjdeaaW.PrintWords Go.Proofs.YtmddmbagehjdeaaW.PrintLast Go.Proofs.YtmddmbagehjdeaaW.PrintMore
attribute [local go_sem] max2_int min2_int max_two min_two max_three min_three max_four min_four
attribute [local go_sem high] eqA67
def gorilla_Samples.j0:Nat→Bool→Int→Int→Int→List Int→Int→Option ((List (S67))×Int)
 |0,_,_,_,_,_,_=>none
 |k+1,x23,x561000,x561001,x561002,x561003,x561004=>if x23=true then(some (([]:List (S67)),2))else((gorilla_numbers.f k x561000 x561001 x561002 x561003 x561004).bind fun bt562=>(if bt562.2=true then((block_Unpack.f k bt562.1 ([]:List ByteArray)).bind fun bt566=>(if bt566.2=0 then((gorilla_Build.f k bt566.1).bind fun bt570=>((gorilla_Same.f k bt570.1 bt570.2.1 bt570.2.2.1 bt570.2.2.2.1 bt570.2.2.2.2.1 x561000 x561001 x561002 x561003 x561004).bind fun t579=>(if t579=true then(some (bt566.1,0))else(some (([]:List (S67)),2)))))else(some (([]:List (S67)),2))))else(some (([]:List (S67)),2))))
def gorilla_Samples.f (k:Nat) (a0_0:Int) (a0_1:Int) (a0_2:Int) (l0_3:List Int) (a0_4:Int):Option ((List (S67))×Int):=if a0_0<1 then(gorilla_Samples.j0 k true a0_0 a0_1 a0_2 l0_3 a0_4)else(if a0_0>64 then(gorilla_Samples.j0 k true a0_0 a0_1 a0_2 l0_3 a0_4)else((bits_Check.f k l0_3 a0_4).bind fun t561=>(gorilla_Samples.j0 k (t561 != 0) a0_0 a0_1 a0_2 l0_3 a0_4)))
theorem gorilla_Samples.mono_l:∀ k,(∀ y0 y1 y2 y3 y4 y5,LeO (gorilla_Samples.j0 k y0 y1 y2 y3 y4 y5) (gorilla_Samples.j0 (k+1) y0 y1 y2 y3 y4 y5))
 |0=>fun _ _ _ _ _ _ r h=>by simp [gorilla_Samples.j0] at h
 |k+1=>by
  have ih0:=gorilla_Samples.mono_l k
  ·intro y0 y1 y2 y3 y4 y5
   unfold gorilla_Samples.j0
   repeat' first
   |(with_reducible exact ih0 _ _ _ _ _ _)
   |(with_reducible exact bits_Check.mono _ _ _)
   |(with_reducible exact block_Unpack.mono _ _ _)
   |(with_reducible exact gorilla_Build.mono _ _)
   |(with_reducible exact gorilla_Same.mono _ _ _ _ _ _ _ _ _ _ _)
   |(with_reducible exact gorilla_numbers.mono _ _ _ _ _ _)
   |(with_reducible exact LeO.refl _)
   |(with_reducible exact LeO.none _)
   |(with_reducible refine LeO.ite ?_ ?_)
   |(with_reducible refine LeO.bind ?_ (fun _=>?_))
   |exact ih0 _ _ _ _ _ _
   |exact bits_Check.mono _ _ _
   |exact block_Unpack.mono _ _ _
   |exact gorilla_Build.mono _ _
   |exact gorilla_Same.mono _ _ _ _ _ _ _ _ _ _ _
   |exact gorilla_numbers.mono _ _ _ _ _ _
   |exact LeO.none _
   |refine LeO.ite ?_ ?_
   |refine LeO.bind ?_ (fun _=>?_)
theorem gorilla_Samples.mono:∀ a0 a1 a2 a3 a4 k,LeO (gorilla_Samples.f k a0 a1 a2 a3 a4) (gorilla_Samples.f (k+1) a0 a1 a2 a3 a4):=by
 intro a0 a1 a2 a3 a4 k
 have ih0:=gorilla_Samples.mono_l k
 unfold gorilla_Samples.f
 repeat' first
   |(with_reducible exact ih0 _ _ _ _ _ _)
   |(with_reducible exact bits_Check.mono _ _ _)
   |(with_reducible exact block_Unpack.mono _ _ _)
   |(with_reducible exact gorilla_Build.mono _ _)
   |(with_reducible exact gorilla_Same.mono _ _ _ _ _ _ _ _ _ _ _)
   |(with_reducible exact gorilla_numbers.mono _ _ _ _ _ _)
   |(with_reducible exact LeO.refl _)
   |(with_reducible exact LeO.none _)
   |(with_reducible refine LeO.ite ?_ ?_)
   |(with_reducible refine LeO.bind ?_ (fun _=>?_))
   |exact ih0 _ _ _ _ _ _
   |exact bits_Check.mono _ _ _
   |exact block_Unpack.mono _ _ _
   |exact gorilla_Build.mono _ _
   |exact gorilla_Same.mono _ _ _ _ _ _ _ _ _ _ _
   |exact gorilla_numbers.mono _ _ _ _ _ _
   |exact LeO.none _
   |refine LeO.ite ?_ ?_
   |refine LeO.bind ?_ (fun _=>?_)
theorem gorilla_Samples.calls (k:Nat) (a0_0:Int) (a0_1:Int) (a0_2:Int) (A0_3:Option Addr) (c0_3:Nat) (l0_3:List Int) (a0_4:Int) (r1:List (S67)) (r2:Int) (w:World) (hr0_3:Kd.C (Kd.int .u8) w A0_3 l0_3.length l0_3) (hc0_3:l0_3.length≤c0_3) (h:gorilla_Samples.f k a0_0 a0_1 a0_2 l0_3 a0_4=some (r1,r2)) :
  Calls Try.prog 40 #[.agg #[.int .i64 a0_0,.int .i64 a0_1,.int .i64 a0_2,.slice A0_3 l0_3.length c0_3,.int .i64 a0_4]] w fun e w'=>∃ v0_:Value,e=.returned (.tuple #[v0_,.int .i64 r2])∧Kd.R k67 67 w' w.heap.size (fun _=>True) v0_ r1∧Below w.heap.size w w':=by
 have hu69:=Try.underlying69
 have hu25:=Try.underlying25
 have hu98:=Try.underlying98
 have HR0_3:=Aside0.mk hr0_3
 have HC0_3:=Aside0.mk hc0_3
 clear hr0_3 hc0_3
 have HB:=Aside0.mk (Below.refl w.heap.size w)
 have H:(if a0_0<1 then(gorilla_Samples.j0 k true a0_0 a0_1 a0_2 l0_3 a0_4)else(if a0_0>64 then(gorilla_Samples.j0 k true a0_0 a0_1 a0_2 l0_3 a0_4)else((bits_Check.f k l0_3 a0_4).bind fun t561=>(gorilla_Samples.j0 k (t561 != 0) a0_0 a0_1 a0_2 l0_3 a0_4))))=some (r1,r2):=h
 clear h
 have HC2:=Aside0.mk H
 clear H
 go_enter Try.func40,Try.ntmps40
 go_upto_region 1 with(first|((with_reducible refine gate_dst (N:=1) rfl ?_);refine box_ev 1 #[.int .i64 a0_0,.int .i64 a0_1,.int .i64 a0_2,.slice A0_3 l0_3.length c0_3,.int .i64 a0_4] 69 ?_;intro gb560 hg w3 hbox hb;have n_:=pk4 (below_step bl_ hb) (hbox) ((ge_ hg bl_:w.heap.size≤gb560)) ((ge_ hg bl_:w.heap.size≤gb560));clear HB;obtain⟨HB,BK560,GW560,GE560⟩:=n_;clear hb hbox hg))
 (try simp only [ap_,sb_,s0_,s1_])
 go_cut [23] (fun v23 wc=>∃ (kq:Nat) (x23_1:Bool),v23=.bool x23_1∧Aside0 (gorilla_Samples.j0 kq x23_1 a0_0 a0_1 a0_2 l0_3 a0_4=some (r1,r2))∧Aside0 (kq≤k)∧Aside0 (wc.heap[gb560]?=some (.cells #[.int .i64 a0_0,.int .i64 a0_1,.int .i64 a0_2,(.slice A0_3 l0_3.length c0_3),.int .i64 a0_4] 69 (0,0)))∧Aside0 (Below w.heap.size w wc))
 case first =>
  have H:=HC2.out
  clear HC2
  replace H:=dle H
  rcases H with⟨c4b0,H⟩|⟨c4b0,H⟩
  focus
   (first|rw [c4b0]|(simp only [i64_w,i32_w];rw [c4b0])|skip)
   have H':=Aside0.mk H
   clear H
   obtain⟨hcz5_0,hcz5_1,hcz5_2,hcz5_3,hcz5_4,hfz5_0,hfz5_1,hfz5_2,hfz5_3,hfz5_4⟩:=blk_at5 BK560.out
  rotate_left
  focus
   (first|rw [c4b0]|(simp only [i64_w,i32_w];rw [c4b0])|skip)
   replace H:=dgt H
   rcases H with⟨c6b0,H⟩|⟨c6b0,H⟩
   focus
    have H':=Aside0.mk H
    clear H
    obtain⟨hcz7_0,hcz7_1,hcz7_2,hcz7_3,hcz7_4,hfz7_0,hfz7_1,hfz7_2,hfz7_3,hfz7_4⟩:=blk_at5 BK560.out
   rotate_left
   focus
    replace H:=bindA H
    obtain⟨t561,A8,H⟩:=H
    try dsimp only at H
    have H':=Aside0.mk H
    clear H
    obtain⟨hcz9_0,hcz9_1,hcz9_2,hcz9_3,hcz9_4,hfz9_0,hfz9_1,hfz9_2,hfz9_3,hfz9_4⟩:=blk_at5 BK560.out
  all_goals
   go_wp2_with (first|(go_at_call 58;(with_reducible refine(bits_Check.calls k _ _ l0_3 a0_4 t561 _ ?side1 ?side2 A8.out).mono ?_);(case side1=>exact cb_ HR0_3);(case side2=>exact HC0_3.out);rintro e w7000 ⟨rfl,hb⟩;have n_:=pk2 (blk_below (bo_ BK560) hb) (below_step bl_ hb);clear BK560 HB;obtain⟨BK560,HB⟩:=n_;(try clear hb)))
   go_meet
   first
    |case rel=>exact⟨_,(true),sm_,H',⟨om_⟩,⟨(bo_ BK560)⟩,⟨bl_⟩⟩
    |case rel=>exact⟨_,((t561 != 0)),sm_,H',⟨om_⟩,⟨(bo_ BK560)⟩,⟨bl_⟩⟩
 case rest =>
  clear HC2
  obtain⟨kq,x23_1,rfl,HA,HJ1,BK560,HB⟩:=hcut
  cases kq with
  |zero=>exact absurd HA.out (by simp [gorilla_Samples.j0])
  |succ kj1 =>
   have H:=HA.out
   clear HA
   simp only [gorilla_Samples.j0] at H
   replace H:=dbool H
   rcases H with⟨rfl,H⟩|⟨rfl,H⟩
   focus
    simp only [Option.some.injEq,Prod.mk.injEq] at H
    obtain⟨rfl,rfl⟩:=H
   rotate_left
   focus
    replace H:=bindA H
    obtain⟨⟨t562,t565⟩,A12,H⟩:=H
    try dsimp only at H
    replace H:=dbool H
    rcases H with⟨rfl,H⟩|⟨rfl,H⟩
    focus
     replace H:=bindA H
     obtain⟨⟨t566,t569⟩,A14,H⟩:=H
     try dsimp only at H
     replace H:=deqn H
     rcases H with⟨c15b0,c15b1,H⟩|⟨c15b0,c15b1,c15,H⟩
     focus
      replace H:=bindA H
      obtain⟨⟨t570,t571,t572,t573,t576,t577⟩,A16,H⟩:=H
      try dsimp only at H
      replace H:=bindA H
      obtain⟨t579,A17,H⟩:=H
      try dsimp only at H
      replace H:=dbool H
      rcases H with⟨rfl,H⟩|⟨rfl,H⟩
      focus
       simp only [Option.some.injEq,Prod.mk.injEq] at H
       obtain⟨rfl,rfl⟩:=H
       obtain⟨hcz19_0,hcz19_1,hcz19_2,hcz19_3,hcz19_4,hfz19_0,hfz19_1,hfz19_2,hfz19_3,hfz19_4⟩:=blk_at5 BK560.out
      rotate_left
      focus
       simp only [Option.some.injEq,Prod.mk.injEq] at H
       obtain⟨rfl,rfl⟩:=H
       obtain⟨hcz31_0,hcz31_1,hcz31_2,hcz31_3,hcz31_4,hfz31_0,hfz31_1,hfz31_2,hfz31_3,hfz31_4⟩:=blk_at5 BK560.out
     rotate_left 2
     focus
      simp only [Option.some.injEq,Prod.mk.injEq] at H
      obtain⟨rfl,rfl⟩:=H
      obtain⟨hcz43_0,hcz43_1,hcz43_2,hcz43_3,hcz43_4,hfz43_0,hfz43_1,hfz43_2,hfz43_3,hfz43_4⟩:=blk_at5 BK560.out
    rotate_left 3
    focus
     simp only [Option.some.injEq,Prod.mk.injEq] at H
     obtain⟨rfl,rfl⟩:=H
     obtain⟨hcz47_0,hcz47_1,hcz47_2,hcz47_3,hcz47_4,hfz47_0,hfz47_1,hfz47_2,hfz47_3,hfz47_4⟩:=blk_at5 BK560.out
   all_goals
    go_wp2_with (first|((with_reducible refine gate_callee (f:=72) rfl ?_);refine goL_ (some 26) Try.func72 #[.agg #[.int .i64 a0_0,.int .i64 a0_1,.int .i64 a0_2,.slice A0_3 l0_3.length c0_3,.int .i64 a0_4]] ?_;(with_reducible refine(gorilla_numbers.calls kj1 a0_0 a0_1 a0_2 _ _ l0_3 a0_4 t562 true _ ?side1 ?side2 A12.out).mono ?_);(case side1=>exact cb_ HR0_3);(case side2=>exact HC0_3.out);rintro e w7000 ⟨v7000,rfl,ho7000,hb⟩;refine⟨_,rfl,?_⟩;have n_:=pk3 (Kd.R_lower ho7000 (below_size bl_)) (blk_below (bo_ BK560) hb) (below_step bl_ hb);clear BK560 HB;obtain⟨HO7000,BK560,HB⟩:=n_;(try clear hb ho7000);obtain⟨Ao7000,co7000,eo7000⟩:=Kd.R_slice HO7000.out;subst eo7000)|((with_reducible refine gate_callee (f:=72) rfl ?_);refine goL_ (some 26) Try.func72 #[.agg #[.int .i64 a0_0,.int .i64 a0_1,.int .i64 a0_2,.slice A0_3 l0_3.length c0_3,.int .i64 a0_4]] ?_;(with_reducible refine(gorilla_numbers.calls kj1 a0_0 a0_1 a0_2 _ _ l0_3 a0_4 t562 false _ ?side1 ?side2 A12.out).mono ?_);(case side1=>exact cb_ HR0_3);(case side2=>exact HC0_3.out);rintro e w7000 ⟨v7000,rfl,ho7000,hb⟩;refine⟨_,rfl,?_⟩;have n_:=pk3 (Kd.R_lower ho7000 (below_size bl_)) (blk_below (bo_ BK560) hb) (below_step bl_ hb);clear BK560 HB;obtain⟨HO7000,BK560,HB⟩:=n_;(try clear hb ho7000))|((with_reducible refine gate_callee (f:=73) rfl ?_);refine goL_ (some 34) Try.func73 #[.agg #[.slice Ao7000 t562.length co7000,.slice none 0 0]] ?_;(refine(block_Unpack.calls kj1 _ _ t562 _ _ ([]:List ByteArray) t566 t569 _ ?side1 ?side2 ?side3 ?side4 A14.out).mono ?_);(case side1=>exact cr_ HO7000);(case side2=>exact(Kd.R_reads' HO7000.out).2.1);(case side3=>exact Kd.C_nil _ _);(case side4=>exact Nat.le_refl _);rintro e w7001 ⟨v7001,rfl,ho7000,hb⟩;refine⟨_,rfl,?_⟩;have n_:=pk4 (Kd.R_below (ro_ HO7000) hb) (Kd.R_lower ho7000 (below_size bl_)) (blk_below (bo_ BK560) hb) (below_step bl_ hb);clear HO7000 BK560 HB;obtain⟨HO7000,HO7001,BK560,HB⟩:=n_;(try clear hb ho7000);(try(obtain⟨Ao7001,co7001,eo7001⟩:=Kd.R_slice HO7001.out;subst eo7001)))|((with_reducible refine gate_callee (f:=37) rfl ?_);refine goL_ (some 41) Try.func37 #[.slice Ao7001 t566.length co7001] ?_;(with_reducible refine(gorilla_Build.calls kj1 _ _ t566 t570 t571 t572 t573 t576 t577 _ ?side1 ?side2 A16.out).mono ?_);(case side1=>exact cr_ HO7001);(case side2=>exact(Kd.R_reads' HO7001.out).2.1);rintro e w7002 ⟨v7002,rfl,ho7000,hb⟩;refine⟨_,rfl,?_⟩;have n_:=pk5 (Kd.R_below (ro_ HO7000) hb) (Kd.R_below (ro_ HO7001) hb) (Kd.R_lower ho7000 (below_size bl_)) (blk_below (bo_ BK560) hb) (below_step bl_ hb);clear HO7000 HO7001 BK560 HB;obtain⟨HO7000,HO7001,HO7002,BK560,HB⟩:=n_;(try clear hb ho7000))|((with_reducible refine gate_dst (N:=8) rfl ?_);refine box_ev 8 #[.int .i64 0,.int .i64 0,.int .i64 0,.slice none 0 0,.int .i64 0] 69 ?_;intro gb7000 hg w7003 hbox hb;have n_:=pk10 (Kd.R_below (ro_ HO7000) hb) (Kd.R_below (ro_ HO7001) hb) (Kd.R_below (ro_ HO7002) hb) (blk_below (bo_ BK560) hb) (below_step bl_ hb) (hbox) ((ge_ hg bl_:w.heap.size≤gb7000)) ((ge_ hg bl_:w.heap.size≤gb7000)) ((nb_ hg (bo_ BK560):gb560≠gb7000)) ((nc_ hg (bo_ BK560):gb7000≠gb560));clear HO7000 HO7001 HO7002 BK560 HB;obtain⟨HO7000,HO7001,HO7002,BK560,HB,BK7000,GW7000,GE7000,NB560_7000,NB7000_560⟩:=n_;clear hb hbox hg;have hnb7000:=NB7000_560.out;have hnc7000:=NB560_7000.out;have hcz7000_0:w7003.cell? ⟨gb7000,0,none⟩=some (.int .i64 0):=(blk_cell BK7000.out 0).trans rfl;have hcz7000_1:w7003.cell? ⟨gb7000,1,none⟩=some (.int .i64 0):=(blk_cell BK7000.out 1).trans rfl;have hcz7000_2:w7003.cell? ⟨gb7000,2,none⟩=some (.int .i64 0):=(blk_cell BK7000.out 2).trans rfl;have hcz7000_3:w7003.cell? ⟨gb7000,3,none⟩=some (.slice none 0 0):=(blk_cell BK7000.out 3).trans rfl;have hcz7000_4:w7003.cell? ⟨gb7000,4,none⟩=some (.int .i64 0):=(blk_cell BK7000.out 4).trans rfl;have hfz7000_0:=blk_frozen BK7000.out 0;have hfz7000_1:=blk_frozen BK7000.out 1;have hfz7000_2:=blk_frozen BK7000.out 2;have hfz7000_3:=blk_frozen BK7000.out 3;have hfz7000_4:=blk_frozen BK7000.out 4;obtain⟨Ao7002,co7002,eo7002⟩:=Kd.R_slice HO7002.out;subst eo7002;have hcz7001_0:w7003.cell? ⟨gb560,0,none⟩=some (.int .i64 a0_0):=(blk_cell BK560.out 0).trans rfl;have hcz7001_1:w7003.cell? ⟨gb560,1,none⟩=some (.int .i64 a0_1):=(blk_cell BK560.out 1).trans rfl;have hcz7001_2:w7003.cell? ⟨gb560,2,none⟩=some (.int .i64 a0_2):=(blk_cell BK560.out 2).trans rfl;have hcz7001_3:w7003.cell? ⟨gb560,3,none⟩=some (.slice A0_3 l0_3.length c0_3):=(blk_cell BK560.out 3).trans rfl;have hcz7001_4:w7003.cell? ⟨gb560,4,none⟩=some (.int .i64 a0_4):=(blk_cell BK560.out 4).trans rfl;have hfz7001_0:=blk_frozen BK560.out 0;have hfz7001_1:=blk_frozen BK560.out 1;have hfz7001_2:=blk_frozen BK560.out 2;have hfz7001_3:=blk_frozen BK560.out 3;have hfz7001_4:=blk_frozen BK560.out 4)|((with_reducible refine gate_callee (f:=57) rfl ?_);refine goL_ (some 46) Try.func57 #[.agg #[.int .i64 t570,.int .i64 t571,.int .i64 t572,.slice Ao7002 t573.length co7002,.int .i64 t576],.agg #[.int .i64 a0_0,.int .i64 a0_1,.int .i64 a0_2,.slice A0_3 l0_3.length c0_3,.int .i64 a0_4]] ?_;(with_reducible refine(gorilla_Same.calls kj1 t570 t571 t572 _ _ t573 t576 a0_0 a0_1 a0_2 _ _ l0_3 a0_4 false _ ?side1 ?side2 ?side3 ?side4 A17.out).mono ?_);(case side1=>refine(Kd.R_reads' (e:=5) (base:=w.heap.size) (ok:=fun k_=>True) (n:=t573.length) (c:=co7002) ?_).2.2;exact(rt_ ((Kd.R_mono (Kd.R_far (p:=⟨gb7000,4,none⟩) (Kd.R_far (p:=⟨gb7000,3,none⟩) (Kd.R_far (p:=⟨gb7000,2,none⟩) (Kd.R_far (p:=⟨gb7000,1,none⟩) (Kd.R_far (p:=⟨gb7000,0,none⟩) (Kd.R_types HO7002.out BK7000.out (by decide)) (fun _ hk=>hk.2) (.int .i64 t570)) (fun _ hk=>hk.2) (.int .i64 t571)) (fun _ hk=>hk.2) (.int .i64 t572)) (fun _ hk=>hk.2) (.slice Ao7002 t573.length co7002)) (fun _ hk=>hk.2) (.int .i64 t576)) (fun _ h_=>h_.1)))));(case side2=>exact(Kd.R_reads' HO7002.out).2.1);(case side3=>exact Kd.C_below HR0_3.out bl_);(case side4=>exact HC0_3.out);rintro e w7004 ⟨rfl,hb⟩;refine⟨_,rfl,?_⟩;have n_:=pk6 (Kd.R_below (rt_ ((Kd.R_mono (Kd.R_far (p:=⟨gb7000,4,none⟩) (Kd.R_far (p:=⟨gb7000,3,none⟩) (Kd.R_far (p:=⟨gb7000,2,none⟩) (Kd.R_far (p:=⟨gb7000,1,none⟩) (Kd.R_far (p:=⟨gb7000,0,none⟩) (Kd.R_types HO7000.out BK7000.out (by decide)) (fun _ hk=>hk.2) (.int .i64 t570)) (fun _ hk=>hk.2) (.int .i64 t571)) (fun _ hk=>hk.2) (.int .i64 t572)) (fun _ hk=>hk.2) (.slice Ao7002 t573.length co7002)) (fun _ hk=>hk.2) (.int .i64 t576)) (fun _ h_=>h_.1)))) hb) (Kd.R_below (rt_ ((Kd.R_mono (Kd.R_far (p:=⟨gb7000,4,none⟩) (Kd.R_far (p:=⟨gb7000,3,none⟩) (Kd.R_far (p:=⟨gb7000,2,none⟩) (Kd.R_far (p:=⟨gb7000,1,none⟩) (Kd.R_far (p:=⟨gb7000,0,none⟩) (Kd.R_types HO7001.out BK7000.out (by decide)) (fun _ hk=>hk.2) (.int .i64 t570)) (fun _ hk=>hk.2) (.int .i64 t571)) (fun _ hk=>hk.2) (.int .i64 t572)) (fun _ hk=>hk.2) (.slice Ao7002 t573.length co7002)) (fun _ hk=>hk.2) (.int .i64 t576)) (fun _ h_=>h_.1)))) hb) (Kd.R_below (rt_ ((Kd.R_mono (Kd.R_far (p:=⟨gb7000,4,none⟩) (Kd.R_far (p:=⟨gb7000,3,none⟩) (Kd.R_far (p:=⟨gb7000,2,none⟩) (Kd.R_far (p:=⟨gb7000,1,none⟩) (Kd.R_far (p:=⟨gb7000,0,none⟩) (Kd.R_types HO7002.out BK7000.out (by decide)) (fun _ hk=>hk.2) (.int .i64 t570)) (fun _ hk=>hk.2) (.int .i64 t571)) (fun _ hk=>hk.2) (.int .i64 t572)) (fun _ hk=>hk.2) (.slice Ao7002 t573.length co7002)) (fun _ hk=>hk.2) (.int .i64 t576)) (fun _ h_=>h_.1)))) hb) (blk_below (g:=gb560) (o:=.cells #[.int .i64 a0_0,.int .i64 a0_1,.int .i64 a0_2,.slice A0_3 l0_3.length c0_3,.int .i64 a0_4] 69 (0,0)) (by(with_reducible repeat(first|refine blk_drewN ?_ _|refine blk_drew ?_|refine blk_alloc ?_ _));refine blk_far ?_ NB560_7000.out _;(with_reducible repeat(first|refine blk_drewN ?_ _|refine blk_drew ?_|refine blk_alloc ?_ _));refine blk_far ?_ NB560_7000.out _;(with_reducible repeat(first|refine blk_drewN ?_ _|refine blk_drew ?_|refine blk_alloc ?_ _));refine blk_far ?_ NB560_7000.out _;(with_reducible repeat(first|refine blk_drewN ?_ _|refine blk_drew ?_|refine blk_alloc ?_ _));refine blk_far ?_ NB560_7000.out _;(with_reducible repeat(first|refine blk_drewN ?_ _|refine blk_drew ?_|refine blk_alloc ?_ _));refine blk_far ?_ NB560_7000.out _;exact(bo_ BK560)) hb) (blk_below (g:=gb7000) (o:=.cells #[.int .i64 t570,.int .i64 t571,.int .i64 t572,.slice Ao7002 t573.length co7002,.int .i64 t576] 69 (0,0)) (by(with_reducible repeat(first|refine blk_drewN ?_ _|refine blk_drew ?_|refine blk_alloc ?_ _));refine blk_put (cs:=#[.int .i64 t570,.int .i64 t571,.int .i64 t572,.slice Ao7002 t573.length co7002,.int .i64 0]) ?_ 4 _ rfl;(with_reducible repeat(first|refine blk_drewN ?_ _|refine blk_drew ?_|refine blk_alloc ?_ _));refine blk_put (cs:=#[.int .i64 t570,.int .i64 t571,.int .i64 t572,.slice none 0 0,.int .i64 0]) ?_ 3 _ rfl;(with_reducible repeat(first|refine blk_drewN ?_ _|refine blk_drew ?_|refine blk_alloc ?_ _));refine blk_put (cs:=#[.int .i64 t570,.int .i64 t571,.int .i64 0,.slice none 0 0,.int .i64 0]) ?_ 2 _ rfl;(with_reducible repeat(first|refine blk_drewN ?_ _|refine blk_drew ?_|refine blk_alloc ?_ _));refine blk_put (cs:=#[.int .i64 t570,.int .i64 0,.int .i64 0,.slice none 0 0,.int .i64 0]) ?_ 1 _ rfl;(with_reducible repeat(first|refine blk_drewN ?_ _|refine blk_drew ?_|refine blk_alloc ?_ _));refine blk_put (cs:=#[.int .i64 0,.int .i64 0,.int .i64 0,.slice none 0 0,.int .i64 0]) ?_ 0 _ rfl;exact(bo_ BK7000)) hb) (below_step bl_ hb);clear HO7000 HO7001 HO7002 BK560 BK7000 HB;obtain⟨HO7000,HO7001,HO7002,BK560,BK7000,HB⟩:=n_;(try clear hb))|((with_reducible refine gate_callee (f:=57) rfl ?_);refine goL_ (some 46) Try.func57 #[.agg #[.int .i64 t570,.int .i64 t571,.int .i64 t572,.slice Ao7002 t573.length co7002,.int .i64 t576],.agg #[.int .i64 a0_0,.int .i64 a0_1,.int .i64 a0_2,.slice A0_3 l0_3.length c0_3,.int .i64 a0_4]] ?_;(with_reducible refine(gorilla_Same.calls kj1 t570 t571 t572 _ _ t573 t576 a0_0 a0_1 a0_2 _ _ l0_3 a0_4 true _ ?side1 ?side2 ?side3 ?side4 A17.out).mono ?_);(case side1=>refine(Kd.R_reads' (e:=5) (base:=w.heap.size) (ok:=fun k_=>True) (n:=t573.length) (c:=co7002) ?_).2.2;exact(rt_ ((Kd.R_mono (Kd.R_far (p:=⟨gb7000,4,none⟩) (Kd.R_far (p:=⟨gb7000,3,none⟩) (Kd.R_far (p:=⟨gb7000,2,none⟩) (Kd.R_far (p:=⟨gb7000,1,none⟩) (Kd.R_far (p:=⟨gb7000,0,none⟩) (Kd.R_types HO7002.out BK7000.out (by decide)) (fun _ hk=>hk.2) (.int .i64 t570)) (fun _ hk=>hk.2) (.int .i64 t571)) (fun _ hk=>hk.2) (.int .i64 t572)) (fun _ hk=>hk.2) (.slice Ao7002 t573.length co7002)) (fun _ hk=>hk.2) (.int .i64 t576)) (fun _ h_=>h_.1)))));(case side2=>exact(Kd.R_reads' HO7002.out).2.1);(case side3=>exact Kd.C_below HR0_3.out bl_);(case side4=>exact HC0_3.out);rintro e w7004 ⟨rfl,hb⟩;refine⟨_,rfl,?_⟩;have n_:=pk6 (Kd.R_below (rt_ ((Kd.R_mono (Kd.R_far (p:=⟨gb7000,4,none⟩) (Kd.R_far (p:=⟨gb7000,3,none⟩) (Kd.R_far (p:=⟨gb7000,2,none⟩) (Kd.R_far (p:=⟨gb7000,1,none⟩) (Kd.R_far (p:=⟨gb7000,0,none⟩) (Kd.R_types HO7000.out BK7000.out (by decide)) (fun _ hk=>hk.2) (.int .i64 t570)) (fun _ hk=>hk.2) (.int .i64 t571)) (fun _ hk=>hk.2) (.int .i64 t572)) (fun _ hk=>hk.2) (.slice Ao7002 t573.length co7002)) (fun _ hk=>hk.2) (.int .i64 t576)) (fun _ h_=>h_.1)))) hb) (Kd.R_below (rt_ ((Kd.R_mono (Kd.R_far (p:=⟨gb7000,4,none⟩) (Kd.R_far (p:=⟨gb7000,3,none⟩) (Kd.R_far (p:=⟨gb7000,2,none⟩) (Kd.R_far (p:=⟨gb7000,1,none⟩) (Kd.R_far (p:=⟨gb7000,0,none⟩) (Kd.R_types HO7001.out BK7000.out (by decide)) (fun _ hk=>hk.2) (.int .i64 t570)) (fun _ hk=>hk.2) (.int .i64 t571)) (fun _ hk=>hk.2) (.int .i64 t572)) (fun _ hk=>hk.2) (.slice Ao7002 t573.length co7002)) (fun _ hk=>hk.2) (.int .i64 t576)) (fun _ h_=>h_.1)))) hb) (Kd.R_below (rt_ ((Kd.R_mono (Kd.R_far (p:=⟨gb7000,4,none⟩) (Kd.R_far (p:=⟨gb7000,3,none⟩) (Kd.R_far (p:=⟨gb7000,2,none⟩) (Kd.R_far (p:=⟨gb7000,1,none⟩) (Kd.R_far (p:=⟨gb7000,0,none⟩) (Kd.R_types HO7002.out BK7000.out (by decide)) (fun _ hk=>hk.2) (.int .i64 t570)) (fun _ hk=>hk.2) (.int .i64 t571)) (fun _ hk=>hk.2) (.int .i64 t572)) (fun _ hk=>hk.2) (.slice Ao7002 t573.length co7002)) (fun _ hk=>hk.2) (.int .i64 t576)) (fun _ h_=>h_.1)))) hb) (blk_below (g:=gb560) (o:=.cells #[.int .i64 a0_0,.int .i64 a0_1,.int .i64 a0_2,.slice A0_3 l0_3.length c0_3,.int .i64 a0_4] 69 (0,0)) (by(with_reducible repeat(first|refine blk_drewN ?_ _|refine blk_drew ?_|refine blk_alloc ?_ _));refine blk_far ?_ NB560_7000.out _;(with_reducible repeat(first|refine blk_drewN ?_ _|refine blk_drew ?_|refine blk_alloc ?_ _));refine blk_far ?_ NB560_7000.out _;(with_reducible repeat(first|refine blk_drewN ?_ _|refine blk_drew ?_|refine blk_alloc ?_ _));refine blk_far ?_ NB560_7000.out _;(with_reducible repeat(first|refine blk_drewN ?_ _|refine blk_drew ?_|refine blk_alloc ?_ _));refine blk_far ?_ NB560_7000.out _;(with_reducible repeat(first|refine blk_drewN ?_ _|refine blk_drew ?_|refine blk_alloc ?_ _));refine blk_far ?_ NB560_7000.out _;exact(bo_ BK560)) hb) (blk_below (g:=gb7000) (o:=.cells #[.int .i64 t570,.int .i64 t571,.int .i64 t572,.slice Ao7002 t573.length co7002,.int .i64 t576] 69 (0,0)) (by(with_reducible repeat(first|refine blk_drewN ?_ _|refine blk_drew ?_|refine blk_alloc ?_ _));refine blk_put (cs:=#[.int .i64 t570,.int .i64 t571,.int .i64 t572,.slice Ao7002 t573.length co7002,.int .i64 0]) ?_ 4 _ rfl;(with_reducible repeat(first|refine blk_drewN ?_ _|refine blk_drew ?_|refine blk_alloc ?_ _));refine blk_put (cs:=#[.int .i64 t570,.int .i64 t571,.int .i64 t572,.slice none 0 0,.int .i64 0]) ?_ 3 _ rfl;(with_reducible repeat(first|refine blk_drewN ?_ _|refine blk_drew ?_|refine blk_alloc ?_ _));refine blk_put (cs:=#[.int .i64 t570,.int .i64 t571,.int .i64 0,.slice none 0 0,.int .i64 0]) ?_ 2 _ rfl;(with_reducible repeat(first|refine blk_drewN ?_ _|refine blk_drew ?_|refine blk_alloc ?_ _));refine blk_put (cs:=#[.int .i64 t570,.int .i64 0,.int .i64 0,.slice none 0 0,.int .i64 0]) ?_ 1 _ rfl;(with_reducible repeat(first|refine blk_drewN ?_ _|refine blk_drew ?_|refine blk_alloc ?_ _));refine blk_put (cs:=#[.int .i64 0,.int .i64 0,.int .i64 0,.slice none 0 0,.int .i64 0]) ?_ 0 _ rfl;exact(bo_ BK7000)) hb) (below_step bl_ hb);clear HO7000 HO7001 HO7002 BK560 BK7000 HB;obtain⟨HO7000,HO7001,HO7002,BK560,BK7000,HB⟩:=n_;(try clear hb)))
    go_ret2
    first
     |exact⟨_,rf_,nl_,bl_⟩
     |exact⟨_,rf_,(ro_ HO7001),bl_⟩
def windroseref11_Same.l0:Nat→List (S67)→List (S67)→Int→Option (Bool)
 |0,_,_,_=>none
 |k+1,x0,x1,x5=>if x5<(x0.length:Int)then(if 0≤x5 then(if x5<(x1.length:Int)then(if(!(((rd_T67 x0 x5).f0) == ((rd_T67 x1 x5).f0)) || (!(((rd_T67 x0 x5).f1) == ((rd_T67 x1 x5).f1))))=true then(some false)else(windroseref11_Same.l0 k x0 x1 (wrap64 (x5+1))))else(none))else(none))else(some true)
def windroseref11_Same.f (k:Nat) (l0:List (S67)) (l1:List (S67)):Option (Bool):=if(l0.length:Int)=(l1.length:Int)then(windroseref11_Same.l0 k l0 l1 0)else(some false)
theorem windroseref11_Same.mono_l:∀ k,(∀ y0 y1 y2,LeO (windroseref11_Same.l0 k y0 y1 y2) (windroseref11_Same.l0 (k+1) y0 y1 y2))
 |0=>fun _ _ _ r h=>by simp [windroseref11_Same.l0] at h
 |k+1=>by
  have ih0:=windroseref11_Same.mono_l k
  ·intro y0 y1 y2
   unfold windroseref11_Same.l0
   repeat' first
   |(with_reducible exact ih0 _ _ _)
   |(with_reducible exact LeO.refl _)
   |(with_reducible exact LeO.none _)
   |(with_reducible refine LeO.ite ?_ ?_)
   |(with_reducible refine LeO.bind ?_ (fun _=>?_))
   |exact ih0 _ _ _
   |exact LeO.none _
   |refine LeO.ite ?_ ?_
   |refine LeO.bind ?_ (fun _=>?_)
theorem windroseref11_Same.mono:∀ a0 a1 k,LeO (windroseref11_Same.f k a0 a1) (windroseref11_Same.f (k+1) a0 a1):=by
 intro a0 a1 k
 have ih0:=windroseref11_Same.mono_l k
 unfold windroseref11_Same.f
 repeat' first
   |(with_reducible exact ih0 _ _ _)
   |(with_reducible exact LeO.refl _)
   |(with_reducible exact LeO.none _)
   |(with_reducible refine LeO.ite ?_ ?_)
   |(with_reducible refine LeO.bind ?_ (fun _=>?_))
   |exact ih0 _ _ _
   |exact LeO.none _
   |refine LeO.ite ?_ ?_
   |refine LeO.bind ?_ (fun _=>?_)
theorem windroseref11_Same.calls (k:Nat) (A0:Option Addr) (c0:Nat) (l0:List (S67)) (A1:Option Addr) (c1:Nat) (l1:List (S67)) (r:Bool) (w:World) (hr0:Kd.C k67 w A0 l0.length l0) (hc0:l0.length≤c0) (hr1:Kd.C k67 w A1 l1.length l1) (hc1:l1.length≤c1) (h:windroseref11_Same.f k l0 l1=some r) :
  Calls Try.prog 42 #[.slice A0 l0.length c0,.slice A1 l1.length c1] w fun e w'=>e=.returned (.bool r)∧Drawn0 w w':=by
 have hu67:=Try.underlying67
 have HR0:=Aside0.mk hr0
 have HC0:=Aside0.mk hc0
 clear hr0 hc0
 have HR1:=Aside0.mk hr1
 have HC1:=Aside0.mk hc1
 clear hr1 hc1
 have H:(if(l0.length:Int)=(l1.length:Int)then(windroseref11_Same.l0 k l0 l1 0)else(some false))=some r:=h
 clear h
 by_cases c3:(l0.length:Int)=(l1.length:Int)
 ·rw [if_pos c3] at H
  have c3b0:((l0.length:Int) == (l1.length:Int))=true:=beq_iff_eq.mpr c3
  have c3b1:((l0.length:Int) != (l1.length:Int))=false:=bne_eq_false_iff_eq.mpr c3
  have c3b2:(l0.length == l1.length)=true:=by first|simpa using c3|(simp at c3 ⊢;omega)
  clear c3
  have H':=Aside0.mk H
  clear H
  go_enter Try.func42,Try.ntmps42
  go_wp2
  repeat(go_quiet (fail);try go_wp2)
  go_loopg [5] k (fun kq v5 w'=>∃ (x5_1:Int),v5=.int .i64 x5_1∧Aside0 (windroseref11_Same.l0 kq l0 l1 x5_1=some r)∧Aside0 (kq≤k)∧Drawn0 w w')
  case atStart=>exact⟨(0),sm_,H',⟨Nat.le_refl _⟩,by repeat(first|exact Drawn0.refl _|apply Drawn0.step)⟩
  case round =>
   clear H'
   try clear c3
   try clear c3b0
   try clear c3b1
   try clear c3b2
   obtain⟨x5_1,rfl,HA,HK1,⟨m1,rfl⟩⟩:=hrel
   cases gk with
   |zero=>exact absurd HA.out (by simp [windroseref11_Same.l0])
   |succ k1 =>
    have H:=HA.out
    clear HA
    simp only [windroseref11_Same.l0] at H
    replace H:=dle H
    rcases H with⟨c4b0,H⟩|⟨c4b0,H⟩
    focus
     replace H:=dle H
     rcases H with⟨c5b0,H⟩|⟨c5b0,H⟩
     rotate_left
     ·exact absurd H (by simp)
     replace H:=dle H
     rcases H with⟨c6b0,H⟩|⟨c6b0,H⟩
     rotate_left
     ·exact absurd H (by simp)
     by_cases c7:(!(((rd_T67 l0 x5_1).f0) == ((rd_T67 l1 x5_1).f0)) || (!(((rd_T67 l0 x5_1).f1) == ((rd_T67 l1 x5_1).f1))))=true
     focus
      rw [if_pos c7] at H
      have c7b0:(!(((rd_T67 l0 x5_1).f0) == ((rd_T67 l1 x5_1).f0)) || (!(((rd_T67 l0 x5_1).f1) == ((rd_T67 l1 x5_1).f1))))=true:=c7
      clear c7
      obtain rfl:=Option.some.inj H
      have p580:0≤(x5_1:Int):=dc_
      have q580:x5_1<(l0.length:Int):=dc_
      obtain⟨ad580,e580,hx580_0,hx580_1⟩:=at_T67 HR0.out x5_1 p580 q580
      cases e580
      replace p580:=eq_true p580
      replace q580:=eq_true q580
      have p581:0≤(x5_1:Int):=dc_
      have q581:x5_1<(l1.length:Int):=dc_
      obtain⟨ad581,e581,hx581_0,hx581_1⟩:=at_T67 HR1.out x5_1 p581 q581
      cases e581
      replace p581:=eq_true p581
      replace q581:=eq_true q581
     rotate_left
     focus
      rw [if_neg c7] at H
      have c7b0:(!(((rd_T67 l0 x5_1).f0) == ((rd_T67 l1 x5_1).f0)) || (!(((rd_T67 l0 x5_1).f1) == ((rd_T67 l1 x5_1).f1))))=false:=by simpa using c7
      clear c7
      have H':=Aside0.mk H
      clear H
      have p580:0≤(x5_1:Int):=dc_
      have q580:x5_1<(l0.length:Int):=dc_
      obtain⟨ad580,e580,hx580_0,hx580_1⟩:=at_T67 HR0.out x5_1 p580 q580
      cases e580
      replace p580:=eq_true p580
      replace q580:=eq_true q580
      have p581:0≤(x5_1:Int):=dc_
      have q581:x5_1<(l1.length:Int):=dc_
      obtain⟨ad581,e581,hx581_0,hx581_1⟩:=at_T67 HR1.out x5_1 p581 q581
      cases e581
      replace p581:=eq_true p581
      replace q581:=eq_true q581
    rotate_left 2
    focus
     obtain rfl:=Option.some.inj H
    all_goals
     go_wp2
     repeat(go_quiet (fail);try go_wp2)
     first
      |go_ret
       exact⟨by first|rfl|(simp;done)|(simp [*];done),by repeat(first|exact Drawn0.refl _|apply Drawn0.step)⟩
      |go_roundg k1
       case measure=>have:=HK1.out;omega
       case rel=>exact⟨(wrap64 (x5_1+1)),sm_,H',⟨by have:=HK1.out;omega⟩,by repeat(first|exact Drawn0.refl _|apply Drawn0.step)⟩
 rw [if_neg c3] at H
 have c3b0:((l0.length:Int) == (l1.length:Int))=false:=beq_eq_false_iff_ne.mpr c3
 have c3b1:((l0.length:Int) != (l1.length:Int))=true:=bne_iff_ne.mpr c3
 have c3b2:(l0.length == l1.length)=false:=by first|simpa using c3|(simp at c3 ⊢;omega)
 obtain rfl:=Option.some.inj H
 go_enter Try.func42,Try.ntmps42
 go_wp2
 repeat(go_quiet (fail);try go_wp2)
 go_ret
 exact⟨by first|rfl|(simp;done)|(simp [*];done),by repeat(first|exact Drawn0.refl _|apply Drawn0.step)⟩
def windroselaw18_awake.l0:Nat→List (S67)→Int→Option (Bool)
 |0,_,_=>none
 |k+1,x1,x2=>if x2<5 then(if x1.length<8796093022208 then(windroselaw18_awake.l0 k (x1++[(⟨wrap64 (10*x2),3⟩:S67)]) (wrap64 (x2+1)))else(none))else((gorilla_Build.f k x1).bind fun bt588=>((gorilla_Samples.f k bt588.1 bt588.2.1 bt588.2.2.1 bt588.2.2.2.1 bt588.2.2.2.2.1).bind fun bt597=>(if bt588.2.2.2.2.2=0 then(if bt597.2=0 then(if bt588.1=5 then(if bt588.2.2.1=40 then(if bt588.2.2.2.2.1=26 then((windroseref11_Same.f k bt597.1 x1).bind fun t601=>(some t601))else(some false))else(some false))else(some false))else(some false))else(some false))))
def windroselaw18_awake.f (k:Nat) :Option (Bool):=windroselaw18_awake.l0 k (([]:List (S67))) 0
theorem windroselaw18_awake.mono_l:∀ k,(∀ y0 y1,LeO (windroselaw18_awake.l0 k y0 y1) (windroselaw18_awake.l0 (k+1) y0 y1))
 |0=>fun _ _ r h=>by simp [windroselaw18_awake.l0] at h
 |k+1=>by
  have ih0:=windroselaw18_awake.mono_l k
  ·intro y0 y1
   unfold windroselaw18_awake.l0
   repeat' first
   |(with_reducible exact ih0 _ _)
   |(with_reducible exact gorilla_Build.mono _ _)
   |(with_reducible exact gorilla_Samples.mono _ _ _ _ _ _)
   |(with_reducible exact windroseref11_Same.mono _ _ _)
   |(with_reducible exact LeO.refl _)
   |(with_reducible exact LeO.none _)
   |(with_reducible refine LeO.ite ?_ ?_)
   |(with_reducible refine LeO.bind ?_ (fun _=>?_))
   |exact ih0 _ _
   |exact gorilla_Build.mono _ _
   |exact gorilla_Samples.mono _ _ _ _ _ _
   |exact windroseref11_Same.mono _ _ _
   |exact LeO.none _
   |refine LeO.ite ?_ ?_
   |refine LeO.bind ?_ (fun _=>?_)
theorem windroselaw18_awake.mono:∀ k,LeO (windroselaw18_awake.f k ) (windroselaw18_awake.f (k+1) ):=by
 intro  k
 have ih0:=windroselaw18_awake.mono_l k
 unfold windroselaw18_awake.f
 repeat' first
   |(with_reducible exact ih0 _ _)
   |(with_reducible exact gorilla_Build.mono _ _)
   |(with_reducible exact gorilla_Samples.mono _ _ _ _ _ _)
   |(with_reducible exact windroseref11_Same.mono _ _ _)
   |(with_reducible exact LeO.refl _)
   |(with_reducible exact LeO.none _)
   |(with_reducible refine LeO.ite ?_ ?_)
   |(with_reducible refine LeO.bind ?_ (fun _=>?_))
   |exact ih0 _ _
   |exact gorilla_Build.mono _ _
   |exact gorilla_Samples.mono _ _ _ _ _ _
   |exact windroseref11_Same.mono _ _ _
   |exact LeO.none _
   |refine LeO.ite ?_ ?_
   |refine LeO.bind ?_ (fun _=>?_)
theorem windroselaw18_awake.calls (k:Nat)  (r:Bool) (w:World) (h:windroselaw18_awake.f k =some r) :
  Calls Try.prog 36 #[] w fun e w'=>e=.returned (.bool r)∧Below w.heap.size w w':=by
 have hu67:=Try.underlying67
 have hu69:=Try.underlying69
 have HB:=Aside0.mk (Below.refl w.heap.size w)
 have H:(windroselaw18_awake.l0 k (([]:List (S67))) 0)=some r:=h
 clear h
 obtain⟨y582,hy582⟩:∃ y_:List (S67),y_=(([]:List (S67))):=⟨_,rfl⟩
 replace H:(windroselaw18_awake.l0 k y582 0)=some r:=by first|(rw [hy582];with_reducible exact H)|(have H2_:=(Option.bind_some _ _).symm.trans H;rw [hy582];with_reducible exact H2_)|(have H2_:=(Option.bind_some _ _).symm.trans H;with_reducible exact H2_)|with_reducible exact H|(rw [hy582];exact H)|exact H
 have Ny582:=Aside0.mk hy582
 clear hy582
 have H':=Aside0.mk H
 clear H
 go_enter Try.func36,Try.ntmps36
 go_wp2_with (first|((with_reducible refine gate_dst (N:=7) rfl ?_);refine Kd.R_lit k67 _ 67 ?hg (N:=7) ?hd (xs:=([]:List (S67))) (inner:=[]) (ok:=fun _=>True) (okp:=fun _=>True) ?hr ?hp (fun _ hk=>hk) trivial (Below.refl _ _) (Nat.le_refl _) (by simp) ?_;(case hd=>rfl);(case hg=>rfl);(case hr=>first|(go_simp;done)|(go_simp;rfl));(case hp=>exact(Reps.none _ _));intro v583 w1 ho2 hb hg_ hnew_;clear hg_ hnew_;(first|rw [←Ny582.out] at ho2|(simp only [Int.reduceToNat] at ho2;rw [←Ny582.out] at ho2));have n_:=pk2 (Kd.R_lower ho2 (below_size bl_)) (below_step bl_ hb);clear HB;obtain⟨HO584,HB⟩:=n_;clear hb ho2))
 go_loopg [1,2] k (fun kq v1 v2 w'=>∃ (x1_1:List (S67)) (x2_1:Int),v2=.int .i64 x2_1∧Aside0 (windroselaw18_awake.l0 kq x1_1 x2_1=some r)∧Aside0 (kq≤k)∧Aside0 (Kd.R k67 67 w' w.heap.size (fun _=>True) v1 x1_1)∧Aside0 (Below w.heap.size w w'))
 case atStart=>exact⟨(y582),(0),sm_,H',⟨Nat.le_refl _⟩,⟨(ro_ HO584)⟩,⟨bl_⟩⟩
 case round =>
  clear H'
  obtain⟨x1_1,x2_1,rfl,HA,HK1,HO_1,HB⟩:=hrel
  cases gk with
  |zero=>exact absurd HA.out (by simp [windroselaw18_awake.l0])
  |succ k1 =>
   have H:=HA.out
   clear HA
   simp only [windroselaw18_awake.l0] at H
   replace H:=dle H
   rcases H with⟨c3b0,H⟩|⟨c3b0,H⟩
   focus
    by_cases c4:x1_1.length<8796093022208
    rotate_left
    ·rw [if_neg c4] at H
     exact absurd H (by simp)
    rw [if_pos c4] at H
    have LMc4:=Aside0.mk c4
    clear c4
    obtain⟨y585,hy585⟩:∃ y_:List (S67),y_=(x1_1++[(⟨wrap64 (10*x2_1),3⟩:S67)]):=⟨_,rfl⟩
    replace H:(windroselaw18_awake.l0 k1 y585 (wrap64 (x2_1+1)))=some r:=by first|(rw [hy585];with_reducible exact H)|(have H2_:=(Option.bind_some _ _).symm.trans H;rw [hy585];with_reducible exact H2_)|(have H2_:=(Option.bind_some _ _).symm.trans H;with_reducible exact H2_)|with_reducible exact H|(rw [hy585];exact H)|exact H
    have Ny585:=Aside0.mk hy585
    clear hy585
    have H':=Aside0.mk H
    clear H
   rotate_left
   focus
    replace H:=bindA H
    obtain⟨⟨t588,t589,t590,t591,t594,t595⟩,A6,H⟩:=H
    try dsimp only at H
    replace H:=bindA H
    obtain⟨⟨t597,t600⟩,A7,H⟩:=H
    try dsimp only at H
    replace H:=deqn H
    rcases H with⟨c8b0,c8b1,H⟩|⟨c8b0,c8b1,c8,H⟩
    focus
     replace H:=deqn H
     rcases H with⟨c9b0,c9b1,H⟩|⟨c9b0,c9b1,c9,H⟩
     focus
      replace H:=deqn H
      rcases H with⟨c10b0,c10b1,H⟩|⟨c10b0,c10b1,c10,H⟩
      focus
       replace H:=deqn H
       rcases H with⟨c11b0,c11b1,H⟩|⟨c11b0,c11b1,c11,H⟩
       focus
        replace H:=deqn H
        rcases H with⟨c12b0,c12b1,H⟩|⟨c12b0,c12b1,c12,H⟩
        focus
         replace H:=bindA H
         obtain⟨t601,A13,H⟩:=H
         try dsimp only at H
         obtain rfl:=Option.some.inj H
         obtain⟨Ao14,co14,eo14⟩:=Kd.R_slice HO_1.out
         subst eo14
        rotate_left
        focus
         obtain rfl:=Option.some.inj H
         obtain⟨Ao22,co22,eo22⟩:=Kd.R_slice HO_1.out
         subst eo22
       rotate_left 2
       focus
        obtain rfl:=Option.some.inj H
        obtain⟨Ao29,co29,eo29⟩:=Kd.R_slice HO_1.out
        subst eo29
      rotate_left 3
      focus
       obtain rfl:=Option.some.inj H
       obtain⟨Ao36,co36,eo36⟩:=Kd.R_slice HO_1.out
       subst eo36
     rotate_left 4
     focus
      obtain rfl:=Option.some.inj H
      obtain⟨Ao43,co43,eo43⟩:=Kd.R_slice HO_1.out
      subst eo43
    rotate_left 5
    focus
     obtain rfl:=Option.some.inj H
     obtain⟨Ao49,co49,eo49⟩:=Kd.R_slice HO_1.out
     subst eo49
   all_goals
    go_wp2_with (first|((with_reducible refine gate_builtin (b:=.append) (xs:=#[.tmp 12,.tmp 16]) rfl ?_);at_builtin;refine Kd.R_append k67 (w0:=w) w.heap.size rfl (.tmp 12) (.tmp 16) 65 67 (.agg #[(.int .i64 0),(.int .i64 0)]) 16 rfl Try.underlying65 info67 rfl (by decide) (by omega) u1 x1_1 (⟨wrap64 (10*x2_1),3⟩:S67) [.int .i64 (wrap64 (10*x2_1)),.int .i64 3] (fun _=>True) (fun _=>False) rfl rfl ?aP (fun _ hk=>hk.elim) ?aF ?aO ?aB ?aS ?aL ?_;(case aP=>exact k67_mkM _ _ _ (⟨wrap64 (10*x2_1),3⟩:S67));(case aB=>exact bl_);(case aF=>exact(fun _ _=>trivial));(case aO=>exact(ro_ HO_1));(case aS=>exact(below_size bl_));(case aL=>have:=LMc4.out;omega);intro v7000 w7000 ho hb hg hat;rw [←Ny585.out] at ho;have n_:=pk2 (hb) (ho);clear HB HO_1;obtain⟨HB,HO7000⟩:=n_;clear ho hb hg hat)|((with_reducible refine gate_callee (f:=37) rfl ?_);refine goL_ (some 20) Try.func37 #[.slice Ao14 x1_1.length co14] ?_;(with_reducible refine(gorilla_Build.calls k1 _ _ x1_1 t588 t589 t590 t591 t594 t595 _ ?side1 ?side2 A6.out).mono ?_);(case side1=>exact cr_ HO_1);(case side2=>exact(Kd.R_reads' HO_1.out).2.1);rintro e w7000 ⟨v7000,rfl,ho7000,hb⟩;refine⟨_,rfl,?_⟩;have n_:=pk3 (Kd.R_below (ro_ HO_1) hb) (Kd.R_lower ho7000 (below_size bl_)) (below_step bl_ hb);clear HO_1 HB;obtain⟨HO_1,HO7000,HB⟩:=n_;(try clear hb ho7000))|((with_reducible refine gate_callee (f:=37) rfl ?_);refine goL_ (some 20) Try.func37 #[.slice Ao22 x1_1.length co22] ?_;(with_reducible refine(gorilla_Build.calls k1 _ _ x1_1 t588 t589 t590 t591 t594 t595 _ ?side1 ?side2 A6.out).mono ?_);(case side1=>exact cr_ HO_1);(case side2=>exact(Kd.R_reads' HO_1.out).2.1);rintro e w7000 ⟨v7000,rfl,ho7000,hb⟩;refine⟨_,rfl,?_⟩;have n_:=pk3 (Kd.R_below (ro_ HO_1) hb) (Kd.R_lower ho7000 (below_size bl_)) (below_step bl_ hb);clear HO_1 HB;obtain⟨HO_1,HO7000,HB⟩:=n_;(try clear hb ho7000))|((with_reducible refine gate_callee (f:=37) rfl ?_);refine goL_ (some 20) Try.func37 #[.slice Ao29 x1_1.length co29] ?_;(with_reducible refine(gorilla_Build.calls k1 _ _ x1_1 t588 t589 t590 t591 t594 t595 _ ?side1 ?side2 A6.out).mono ?_);(case side1=>exact cr_ HO_1);(case side2=>exact(Kd.R_reads' HO_1.out).2.1);rintro e w7000 ⟨v7000,rfl,ho7000,hb⟩;refine⟨_,rfl,?_⟩;have n_:=pk3 (Kd.R_below (ro_ HO_1) hb) (Kd.R_lower ho7000 (below_size bl_)) (below_step bl_ hb);clear HO_1 HB;obtain⟨HO_1,HO7000,HB⟩:=n_;(try clear hb ho7000))|((with_reducible refine gate_callee (f:=37) rfl ?_);refine goL_ (some 20) Try.func37 #[.slice Ao36 x1_1.length co36] ?_;(with_reducible refine(gorilla_Build.calls k1 _ _ x1_1 t588 t589 t590 t591 t594 t595 _ ?side1 ?side2 A6.out).mono ?_);(case side1=>exact cr_ HO_1);(case side2=>exact(Kd.R_reads' HO_1.out).2.1);rintro e w7000 ⟨v7000,rfl,ho7000,hb⟩;refine⟨_,rfl,?_⟩;have n_:=pk3 (Kd.R_below (ro_ HO_1) hb) (Kd.R_lower ho7000 (below_size bl_)) (below_step bl_ hb);clear HO_1 HB;obtain⟨HO_1,HO7000,HB⟩:=n_;(try clear hb ho7000))|((with_reducible refine gate_callee (f:=37) rfl ?_);refine goL_ (some 20) Try.func37 #[.slice Ao43 x1_1.length co43] ?_;(with_reducible refine(gorilla_Build.calls k1 _ _ x1_1 t588 t589 t590 t591 t594 t595 _ ?side1 ?side2 A6.out).mono ?_);(case side1=>exact cr_ HO_1);(case side2=>exact(Kd.R_reads' HO_1.out).2.1);rintro e w7000 ⟨v7000,rfl,ho7000,hb⟩;refine⟨_,rfl,?_⟩;have n_:=pk3 (Kd.R_below (ro_ HO_1) hb) (Kd.R_lower ho7000 (below_size bl_)) (below_step bl_ hb);clear HO_1 HB;obtain⟨HO_1,HO7000,HB⟩:=n_;(try clear hb ho7000))|((with_reducible refine gate_callee (f:=37) rfl ?_);refine goL_ (some 20) Try.func37 #[.slice Ao49 x1_1.length co49] ?_;(with_reducible refine(gorilla_Build.calls k1 _ _ x1_1 t588 t589 t590 t591 t594 t595 _ ?side1 ?side2 A6.out).mono ?_);(case side1=>exact cr_ HO_1);(case side2=>exact(Kd.R_reads' HO_1.out).2.1);rintro e w7000 ⟨v7000,rfl,ho7000,hb⟩;refine⟨_,rfl,?_⟩;have n_:=pk3 (Kd.R_below (ro_ HO_1) hb) (Kd.R_lower ho7000 (below_size bl_)) (below_step bl_ hb);clear HO_1 HB;obtain⟨HO_1,HO7000,HB⟩:=n_;(try clear hb ho7000))|((with_reducible refine gate_dst (N:=3) rfl ?_);refine box_ev 3 #[.int .i64 0,.int .i64 0,.int .i64 0,.slice none 0 0,.int .i64 0] 69 ?_;intro gb7000 hg w7001 hbox hb;have n_:=pk6 (Kd.R_below (ro_ HO_1) hb) (Kd.R_below (ro_ HO7000) hb) (below_step bl_ hb) (hbox) ((ge_ hg bl_:w.heap.size≤gb7000)) ((ge_ hg bl_:w.heap.size≤gb7000));clear HO_1 HO7000 HB;obtain⟨HO_1,HO7000,HB,BK7000,GW7000,GE7000⟩:=n_;clear hb hbox hg;have hcz7000_0:w7001.cell? ⟨gb7000,0,none⟩=some (.int .i64 0):=(blk_cell BK7000.out 0).trans rfl;have hcz7000_1:w7001.cell? ⟨gb7000,1,none⟩=some (.int .i64 0):=(blk_cell BK7000.out 1).trans rfl;have hcz7000_2:w7001.cell? ⟨gb7000,2,none⟩=some (.int .i64 0):=(blk_cell BK7000.out 2).trans rfl;have hcz7000_3:w7001.cell? ⟨gb7000,3,none⟩=some (.slice none 0 0):=(blk_cell BK7000.out 3).trans rfl;have hcz7000_4:w7001.cell? ⟨gb7000,4,none⟩=some (.int .i64 0):=(blk_cell BK7000.out 4).trans rfl;have hfz7000_0:=blk_frozen BK7000.out 0;have hfz7000_1:=blk_frozen BK7000.out 1;have hfz7000_2:=blk_frozen BK7000.out 2;have hfz7000_3:=blk_frozen BK7000.out 3;have hfz7000_4:=blk_frozen BK7000.out 4;obtain⟨Ao7000,co7000,eo7000⟩:=Kd.R_slice HO7000.out;subst eo7000)|((with_reducible refine gate_callee (f:=40) rfl ?_);refine goL_ (some 25) Try.func40 #[.agg #[.int .i64 t588,.int .i64 t589,.int .i64 t590,.slice Ao7000 t591.length co7000,.int .i64 t594]] ?_;(with_reducible refine(gorilla_Samples.calls k1 t588 t589 t590 _ _ t591 t594 t597 t600 _ ?side1 ?side2 A7.out).mono ?_);(case side1=>refine(Kd.R_reads' (e:=5) (base:=w.heap.size) (ok:=fun k_=>True) (n:=t591.length) (c:=co7000) ?_).2.2;exact(rt_ ((Kd.R_mono (Kd.R_far (p:=⟨gb7000,4,none⟩) (Kd.R_far (p:=⟨gb7000,3,none⟩) (Kd.R_far (p:=⟨gb7000,2,none⟩) (Kd.R_far (p:=⟨gb7000,1,none⟩) (Kd.R_far (p:=⟨gb7000,0,none⟩) (Kd.R_types HO7000.out BK7000.out (by decide)) (fun _ hk=>hk.2) (.int .i64 t588)) (fun _ hk=>hk.2) (.int .i64 t589)) (fun _ hk=>hk.2) (.int .i64 t590)) (fun _ hk=>hk.2) (.slice Ao7000 t591.length co7000)) (fun _ hk=>hk.2) (.int .i64 t594)) (fun _ h_=>h_.1)))));(case side2=>exact(Kd.R_reads' HO7000.out).2.1);rintro e w7002 ⟨v7001,rfl,ho7000,hb⟩;refine⟨_,rfl,?_⟩;have n_:=pk5 (Kd.R_elder' (rt_ ((Kd.R_mono (Kd.R_far (p:=⟨gb7000,4,none⟩) (Kd.R_far (p:=⟨gb7000,3,none⟩) (Kd.R_far (p:=⟨gb7000,2,none⟩) (Kd.R_far (p:=⟨gb7000,1,none⟩) (Kd.R_far (p:=⟨gb7000,0,none⟩) (Kd.R_types HO_1.out BK7000.out (by decide)) (fun _ hk=>hk.2) (.int .i64 t588)) (fun _ hk=>hk.2) (.int .i64 t589)) (fun _ hk=>hk.2) (.int .i64 t590)) (fun _ hk=>hk.2) (.slice Ao7000 t591.length co7000)) (fun _ hk=>hk.2) (.int .i64 t594)) (fun _ h_=>h_.1)))) (Kd.R_base ho7000) hb) (Kd.R_below (rt_ ((Kd.R_mono (Kd.R_far (p:=⟨gb7000,4,none⟩) (Kd.R_far (p:=⟨gb7000,3,none⟩) (Kd.R_far (p:=⟨gb7000,2,none⟩) (Kd.R_far (p:=⟨gb7000,1,none⟩) (Kd.R_far (p:=⟨gb7000,0,none⟩) (Kd.R_types HO7000.out BK7000.out (by decide)) (fun _ hk=>hk.2) (.int .i64 t588)) (fun _ hk=>hk.2) (.int .i64 t589)) (fun _ hk=>hk.2) (.int .i64 t590)) (fun _ hk=>hk.2) (.slice Ao7000 t591.length co7000)) (fun _ hk=>hk.2) (.int .i64 t594)) (fun _ h_=>h_.1)))) hb) (Kd.R_lower (Kd.R_new' ho7000 (Kd.R_lt (rt_ ((Kd.R_mono (Kd.R_far (p:=⟨gb7000,4,none⟩) (Kd.R_far (p:=⟨gb7000,3,none⟩) (Kd.R_far (p:=⟨gb7000,2,none⟩) (Kd.R_far (p:=⟨gb7000,1,none⟩) (Kd.R_far (p:=⟨gb7000,0,none⟩) (Kd.R_types HO_1.out BK7000.out (by decide)) (fun _ hk=>hk.2) (.int .i64 t588)) (fun _ hk=>hk.2) (.int .i64 t589)) (fun _ hk=>hk.2) (.int .i64 t590)) (fun _ hk=>hk.2) (.slice Ao7000 t591.length co7000)) (fun _ hk=>hk.2) (.int .i64 t594)) (fun _ h_=>h_.1)))))) (below_size bl_)) (blk_below (g:=gb7000) (o:=.cells #[.int .i64 t588,.int .i64 t589,.int .i64 t590,.slice Ao7000 t591.length co7000,.int .i64 t594] 69 (0,0)) (by(with_reducible repeat(first|refine blk_drewN ?_ _|refine blk_drew ?_|refine blk_alloc ?_ _));refine blk_put (cs:=#[.int .i64 t588,.int .i64 t589,.int .i64 t590,.slice Ao7000 t591.length co7000,.int .i64 0]) ?_ 4 _ rfl;(with_reducible repeat(first|refine blk_drewN ?_ _|refine blk_drew ?_|refine blk_alloc ?_ _));refine blk_put (cs:=#[.int .i64 t588,.int .i64 t589,.int .i64 t590,.slice none 0 0,.int .i64 0]) ?_ 3 _ rfl;(with_reducible repeat(first|refine blk_drewN ?_ _|refine blk_drew ?_|refine blk_alloc ?_ _));refine blk_put (cs:=#[.int .i64 t588,.int .i64 t589,.int .i64 0,.slice none 0 0,.int .i64 0]) ?_ 2 _ rfl;(with_reducible repeat(first|refine blk_drewN ?_ _|refine blk_drew ?_|refine blk_alloc ?_ _));refine blk_put (cs:=#[.int .i64 t588,.int .i64 0,.int .i64 0,.slice none 0 0,.int .i64 0]) ?_ 1 _ rfl;(with_reducible repeat(first|refine blk_drewN ?_ _|refine blk_drew ?_|refine blk_alloc ?_ _));refine blk_put (cs:=#[.int .i64 0,.int .i64 0,.int .i64 0,.slice none 0 0,.int .i64 0]) ?_ 0 _ rfl;exact(bo_ BK7000)) hb) (below_step bl_ hb);clear HO_1 HO7000 BK7000 HB;obtain⟨HO_1,HO7000,HO7001,BK7000,HB⟩:=n_;(try clear hb ho7000);(try(have hcz7001_0:w7002.cell? ⟨gb7000,0,none⟩=some (.int .i64 t588):=(blk_cell BK7000.out 0).trans rfl;have hcz7001_1:w7002.cell? ⟨gb7000,1,none⟩=some (.int .i64 t589):=(blk_cell BK7000.out 1).trans rfl;have hcz7001_2:w7002.cell? ⟨gb7000,2,none⟩=some (.int .i64 t590):=(blk_cell BK7000.out 2).trans rfl;have hcz7001_3:w7002.cell? ⟨gb7000,3,none⟩=some (.slice Ao7000 t591.length co7000):=(blk_cell BK7000.out 3).trans rfl;have hcz7001_4:w7002.cell? ⟨gb7000,4,none⟩=some (.int .i64 t594):=(blk_cell BK7000.out 4).trans rfl;have hfz7001_0:=blk_frozen BK7000.out 0;have hfz7001_1:=blk_frozen BK7000.out 1;have hfz7001_2:=blk_frozen BK7000.out 2;have hfz7001_3:=blk_frozen BK7000.out 3;have hfz7001_4:=blk_frozen BK7000.out 4;obtain⟨Ao7001,co7001,eo7001⟩:=Kd.R_slice HO7001.out;subst eo7001));(try(have hcz7001_0:w7002.cell? ⟨gb7000,0,none⟩=some (.int .i64 t588):=(blk_cell BK7000.out 0).trans rfl;have hcz7001_1:w7002.cell? ⟨gb7000,1,none⟩=some (.int .i64 t589):=(blk_cell BK7000.out 1).trans rfl;have hcz7001_2:w7002.cell? ⟨gb7000,2,none⟩=some (.int .i64 t590):=(blk_cell BK7000.out 2).trans rfl;have hcz7001_3:w7002.cell? ⟨gb7000,3,none⟩=some (.slice Ao7000 t591.length co7000):=(blk_cell BK7000.out 3).trans rfl;have hcz7001_4:w7002.cell? ⟨gb7000,4,none⟩=some (.int .i64 t594):=(blk_cell BK7000.out 4).trans rfl;have hfz7001_0:=blk_frozen BK7000.out 0;have hfz7001_1:=blk_frozen BK7000.out 1;have hfz7001_2:=blk_frozen BK7000.out 2;have hfz7001_3:=blk_frozen BK7000.out 3;have hfz7001_4:=blk_frozen BK7000.out 4)))|(go_at_call 42;(with_reducible refine(windroseref11_Same.calls k1 _ _ t597 _ _ x1_1 t601 _ ?side1 ?side2 ?side3 ?side4 A13.out).mono ?_);(case side1=>exact cr_ HO7001);(case side2=>exact(Kd.R_reads' HO7001.out).2.1);(case side3=>exact cr_ HO_1);(case side4=>exact(Kd.R_reads' HO_1.out).2.1);rintro e w' ⟨rfl,⟨nd,rfl⟩⟩))
    first
     |go_roundg k1
      case measure=>have:=HK1.out;omega
      case rel=>exact⟨(y585),(wrap64 (x2_1+1)),sm_,H',⟨by have:=HK1.out;omega⟩,⟨(ro_ HO7000)⟩,⟨bl_⟩⟩
     |go_ret
      exact⟨rf_,bl_⟩
end Go.Proofs.Ytmddmbagehjdeaa.G
end
section
namespace Go.Proofs.Ytmddmbagehjdeaa.G
open Go.RowKit Go.Proofs.YtmddmbagehjdeaaX Go.Proofs.YtmddmbagehjdeaaW.PrintWords Go.Proofs.YtmddmbagehjdeaaW.PrintLast Go.Proofs.YtmddmbagehjdeaaW.PrintMore
attribute [local go_sem] max2_int min2_int max_two min_two max_three min_three max_four min_four
def windroseref17_Of.l0:Nat→List Bool→List Int→Int→Option (List Int×Int)
 |0,_,_,_=>none
 |k+1,x0,x3,x4=>if x4<(x0.length:Int)then(if 0≤x4 then(if rdOf false x0 x4=true then(if 0≤(wrap64 (Int.tdiv x4 8))then(if(wrap64 (Int.tdiv x4 8))<(x3.length:Int)then(if 0≤(IntKind.u64.wrap (wrap64 (7 - (Int.tmod x4 8))))then(windroseref17_Of.l0 k x0 (x3.set ((wrap64 (Int.tdiv x4 8)):Int).toNat (((rd x3 (wrap64 (Int.tdiv x4 8)))+(shl .u8 1 (IntKind.u64.wrap (wrap64 (7 - (Int.tmod x4 8)))))) % 256)) (wrap64 (x4+1)))else(none))else(none))else(none))else(windroseref17_Of.l0 k x0 x3 (wrap64 (x4+1))))else(none))else(some (x3,(x0.length:Int)))
def windroseref17_Of.f (k:Nat) (l0:List Bool):Option (List Int×Int):=if 0≤(wrap64 (Int.tdiv (wrap64 ((l0.length:Int)+7)) 8))then(if(wrap64 (Int.tdiv (wrap64 ((l0.length:Int)+7)) 8):Int).toNat≤281474976710656 then(windroseref17_Of.l0 k l0 (List.replicate (wrap64 (Int.tdiv (wrap64 ((l0.length:Int)+7)) 8):Int).toNat 0) 0)else(none))else(none)
theorem windroseref17_Of.calls (k:Nat) (A0:Option Addr) (c0:Nat) (l0:List Bool) (r1:List Int) (r2:Int) (w:World) (hr0:Kd.C Kd.bool w A0 l0.length l0) (hc0:l0.length≤c0) (h:windroseref17_Of.f k l0=some (r1,r2)) :
  Calls Try.prog 67 #[.slice A0 l0.length c0] w fun e w'=>∃ v0_:Value,e=.returned (.agg #[v0_,.int .i64 r2])∧Kd.R (Kd.int .u8) 5 w' w.heap.size (fun _=>True) v0_ r1∧Below w.heap.size w w':=by
 have hu25:=Try.underlying25
 have HR0:=Aside0.mk hr0
 have HC0:=Aside0.mk hc0
 clear hr0 hc0
 have HB:=Aside0.mk (Below.refl w.heap.size w)
 have H:(if 0≤(wrap64 (Int.tdiv (wrap64 ((l0.length:Int)+7)) 8))then(if(wrap64 (Int.tdiv (wrap64 ((l0.length:Int)+7)) 8):Int).toNat≤281474976710656 then(windroseref17_Of.l0 k l0 (List.replicate (wrap64 (Int.tdiv (wrap64 ((l0.length:Int)+7)) 8):Int).toNat 0) 0)else(none))else(none))=some (r1,r2):=h
 clear h
 obtain⟨ji2,hji2⟩:∃ j_:Int,(wrap64 (Int.tdiv (wrap64 ((l0.length:Int)+7)) 8))=j_:=⟨_,rfl⟩
 replace H:(if 0≤(ji2)then(if(ji2:Int).toNat≤281474976710656 then(windroseref17_Of.l0 k l0 (List.replicate (ji2:Int).toNat 0) 0)else(none))else(none))=some (r1,r2):=by first|(rw [hji2] at H;exact H)|(simp only [hji2] at H ⊢;exact H)
 have hji2w:(IntKind.i64.wrap (Int.tdiv (wrap64 ((l0.length:Int)+7)) 8))=ji2:=(i64_w _).trans hji2
 by_cases c3:0≤(ji2)
 ·rw [if_pos c3] at H
  have c3b0:=eq_true c3
  have c3b1:decide (0≤(ji2))=true:=decide_eq_true c3
  clear c3
  by_cases c4:(ji2:Int).toNat≤281474976710656
  ·rw [if_pos c4] at H
   have c4b0:=eq_true c4
   have c4b1:decide ((ji2:Int).toNat≤281474976710656)=true:=decide_eq_true c4
   clear c4
   obtain⟨y315,hy315⟩:∃ y_:List Int,y_=(List.replicate (ji2:Int).toNat 0):=⟨_,rfl⟩
   replace H:(windroseref17_Of.l0 k l0 y315 0)=some (r1,r2):=by first|(rw [hy315];with_reducible exact H)|(have H2_:=(Option.bind_some _ _).symm.trans H;rw [hy315];with_reducible exact H2_)|(have H2_:=(Option.bind_some _ _).symm.trans H;with_reducible exact H2_)|with_reducible exact H|(rw [hy315];exact H)|exact H
   have Ny315:=Aside0.mk hy315
   clear hy315
   have H':=Aside0.mk H
   clear H
   go_enter Try.func67,Try.ntmps67
   go_wp2_with (first|((with_reducible refine gate_dst (N:=2) rfl ?_);refine box_ev 2 #[.slice none 0 0,.int .i64 0] 25 ?_;intro gb314 hg w5 hbox hb;have n_:=pk4 (below_step bl_ hb) (hbox) ((ge_ hg bl_:w.heap.size≤gb314)) ((ge_ hg bl_:w.heap.size≤gb314));clear HB;obtain⟨HB,BK314,GW314,GE314⟩:=n_;clear hb hbox hg)|((with_reducible refine gate_dst (N:=9) rfl ?_);refine Kd.R_make (Kd.int .u8) _ 5 rfl (N:=9) rfl 23 _ _ rfl ji2 rfl rfl Try.underlying23 (.int .u8 0) 1 info5 rfl (by decide) (by omega) 0 (ok:=fun _=>True) (okp:=fun _=>True) rfl (fun _ hk=>hk) trivial dc_ (Nat.le_trans (Nat.mul_le_mul_right _ (dc_:ji2.toNat≤281474976710656)) (by omega)) (Below.refl _ _) (Nat.le_refl _) ?_;intro v316 w6 ho7 hb hg_ hnew_;clear hg_ hnew_;(first|rw [←Ny315.out] at ho7|(simp only [Int.reduceToNat] at ho7;rw [←Ny315.out] at ho7));have n_:=pk3 (Kd.R_lower ho7 (below_size bl_)) (blk_below (bo_ BK314) hb) (below_step bl_ hb);clear BK314 HB;obtain⟨HO317,BK314,HB⟩:=n_;clear hb ho7))
   go_loopg [4] k (fun kq v4 w'=>∃ (x3_1:List Int) (x4_1:Int),v4=.int .i64 x4_1∧Aside0 (windroseref17_Of.l0 kq l0 x3_1 x4_1=some (r1,r2))∧Aside0 (kq≤k)∧Aside0 (Kd.R (Kd.int .u8) 5 w' w.heap.size (fun _=>True) v316 x3_1)∧Aside0 (w'.heap[gb314]?=some (.cells #[(.slice none 0 0),.int .i64 0] 25 (0,0)))∧Aside0 (Below w.heap.size w w'))
   case atStart=>exact⟨(y315),(0),sm_,H',⟨Nat.le_refl _⟩,⟨(ro_ HO317)⟩,⟨(bo_ BK314)⟩,⟨bl_⟩⟩
   case round =>
    clear H'
    try clear c3
    try clear c3b0
    try clear c3b1
    try clear c4
    try clear c4b0
    try clear c4b1
    obtain⟨x3_1,x4_1,rfl,HA,HK1,HO_3,BK314,HB⟩:=hrel
    cases gk with
    |zero=>exact absurd HA.out (by simp [windroseref17_Of.l0])
    |succ k1 =>
     have H:=HA.out
     clear HA
     simp only [windroseref17_Of.l0] at H
     replace H:=dle H
     rcases H with⟨c8b0,H⟩|⟨c8b0,H⟩
     focus
      replace H:=dle H
      rcases H with⟨c9b0,H⟩|⟨c9b0,H⟩
      rotate_left
      ·exact absurd H (by simp)
      obtain⟨bq10,hbq10⟩:∃ b_:Bool,b_=(rdOf false l0 x4_1):=⟨_,rfl⟩
      replace H:(if bq10=true then(if 0≤(wrap64 (Int.tdiv x4_1 8))then(if(wrap64 (Int.tdiv x4_1 8))<(x3_1.length:Int)then(if 0≤(IntKind.u64.wrap (wrap64 (7 - (Int.tmod x4_1 8))))then(windroseref17_Of.l0 k1 l0 (x3_1.set ((wrap64 (Int.tdiv x4_1 8)):Int).toNat (((rd x3_1 (wrap64 (Int.tdiv x4_1 8)))+(shl .u8 1 (IntKind.u64.wrap (wrap64 (7 - (Int.tmod x4_1 8)))))) % 256)) (wrap64 (x4_1+1)))else(none))else(none))else(none))else(windroseref17_Of.l0 k1 l0 x3_1 (wrap64 (x4_1+1))))=some (r1,r2):=by rw [←hbq10] at H;exact H
      have Nbq10:=Aside0.mk hbq10
      clear hbq10
      replace H:=dbool H
      rcases H with⟨rfl,H⟩|⟨rfl,H⟩
      focus
       obtain⟨ji12,hji12⟩:∃ j_:Int,(wrap64 (Int.tdiv x4_1 8))=j_:=⟨_,rfl⟩
       replace H:(if 0≤(ji12)then(if(ji12)<(x3_1.length:Int)then(if 0≤(IntKind.u64.wrap (wrap64 (7 - (Int.tmod x4_1 8))))then(windroseref17_Of.l0 k1 l0 (x3_1.set ((ji12):Int).toNat (((rd x3_1 (ji12))+(shl .u8 1 (IntKind.u64.wrap (wrap64 (7 - (Int.tmod x4_1 8)))))) % 256)) (wrap64 (x4_1+1)))else(none))else(none))else(none))=some (r1,r2):=by first|(rw [hji12] at H;exact H)|(simp only [hji12] at H ⊢;exact H)
       have hji12w:(IntKind.i64.wrap (Int.tdiv x4_1 8))=ji12:=(i64_w _).trans hji12
       replace H:=dle H
       rcases H with⟨c13b0,H⟩|⟨c13b0,H⟩
       rotate_left
       ·exact absurd H (by simp)
       replace H:=dle H
       rcases H with⟨c14b0,H⟩|⟨c14b0,H⟩
       rotate_left
       ·exact absurd H (by simp)
       obtain⟨ji15,hji15⟩:∃ j_:Int,(IntKind.u64.wrap (wrap64 (7 - (Int.tmod x4_1 8))))=j_:=⟨_,rfl⟩
       replace H:(if 0≤(ji15)then(windroseref17_Of.l0 k1 l0 (x3_1.set ((ji12):Int).toNat (((rd x3_1 (ji12))+(shl .u8 1 (ji15))) % 256)) (wrap64 (x4_1+1)))else(none))=some (r1,r2):=by first|(rw [hji15] at H;exact H)|(simp only [hji15] at H ⊢;exact H)
       by_cases c16:0≤(ji15)
       rotate_left
       ·rw [if_neg c16] at H
        exact absurd H (by simp)
       rw [if_pos c16] at H
       have c16b0:=eq_true c16
       have c16b1:decide (0≤(ji15))=true:=decide_eq_true c16
       clear c16
       obtain⟨ji17,hji17⟩:∃ j_:Int,(shl .u8 1 (ji15))=j_:=⟨_,rfl⟩
       replace H:(windroseref17_Of.l0 k1 l0 (x3_1.set ((ji12):Int).toNat (((rd x3_1 (ji12))+(ji17)) % 256)) (wrap64 (x4_1+1)))=some (r1,r2):=by first|(rw [hji17] at H;exact H)|(simp only [hji17] at H ⊢;exact H)
       have hji17_:(IntKind.u8.wrap (1*2 ^ min (ji15).toNat 8))=ji17:=hji17
       have hji17z:(ji15)≤8→(IntKind.u8.wrap (1*2 ^ (ji15).toNat))=ji17:=shl_small hji17
       have hji17u:(IntKind.u8.wrap (2 ^ min (ji15).toNat 8))=ji17:=by have h_:=hji17_;rw [Int.one_mul] at h_;exact h_
       have hji17v:(ji15)≤8→(IntKind.u8.wrap (2 ^ (ji15).toNat))=ji17:=fun hle_=>by have h_:=hji17z hle_;rw [Int.one_mul] at h_;exact h_
       obtain⟨y320,hy320⟩:∃ y_:List Int,y_=(x3_1.set ((ji12):Int).toNat (((rd x3_1 (ji12))+(ji17)) % 256)):=⟨_,rfl⟩
       replace H:(windroseref17_Of.l0 k1 l0 y320 (wrap64 (x4_1+1)))=some (r1,r2):=by first|(rw [hy320];with_reducible exact H)|(have H2_:=(Option.bind_some _ _).symm.trans H;rw [hy320];with_reducible exact H2_)|(have H2_:=(Option.bind_some _ _).symm.trans H;with_reducible exact H2_)|with_reducible exact H|(rw [hy320];exact H)|exact H
       have Ny320:=Aside0.mk hy320
       clear hy320
       have H':=Aside0.mk H
       clear H
       have p318:0≤(x4_1:Int):=dc_
       have q318:x4_1<(l0.length:Int):=dc_
       obtain⟨ad318,e318,hx318_0⟩:=Kd.at_bool HR0.out x4_1 p318 q318
       (try rw [←Nbq10.out] at hx318_0)
       cases e318
       replace hx318_0:=(HB.out.cell (World.block_lt_of_cell? w _ hx318_0)).trans hx318_0
       replace p318:=eq_true p318
       replace q318:=eq_true q318
       obtain⟨Ao19,co19,eo19⟩:=Kd.R_slice HO_3.out
       subst eo19
       have p319:0≤((ji12):Int):=dc_
       have q319:(ji12)<(x3_1.length:Int):=dc_
       obtain⟨ad319,e319,hx319_0⟩:=Kd.at_int (Kd.R_reads' HO_3.out).2.2 (ji12) p319 q319
       cases e319
       replace p319:=eq_true p319
       replace q319:=eq_true q319
       have p18:0≤((ji12):Int):=dc_
       have q18:((ji12):Int)<((x3_1.length:Int):Int):=dc_
       obtain⟨go18,co18,eo18,gb18,gl18,cl18,HG18⟩:=Kd.R_form HO_3.out (by omega)
      rotate_left
      focus
       have H':=Aside0.mk H
       clear H
       have p318:0≤(x4_1:Int):=dc_
       have q318:x4_1<(l0.length:Int):=dc_
       obtain⟨ad318,e318,hx318_0⟩:=Kd.at_bool HR0.out x4_1 p318 q318
       (try rw [←Nbq10.out] at hx318_0)
       cases e318
       replace hx318_0:=(HB.out.cell (World.block_lt_of_cell? w _ hx318_0)).trans hx318_0
       replace p318:=eq_true p318
       replace q318:=eq_true q318
     rotate_left 2
     focus
      simp only [Option.some.injEq,Prod.mk.injEq] at H
      obtain⟨rfl,rfl⟩:=H
      obtain⟨Ao22,co22,eo22⟩:=Kd.R_slice HO_3.out
      subst eo22
      obtain⟨hcz23_0,hcz23_1,hfz23_0,hfz23_1⟩:=blk_at2 BK314.out
     all_goals
      first
       |go_wp2
        first
         |go_roundg k1
          case measure=>have:=HK1.out;omega
          case rel=>exact⟨(x3_1),(wrap64 (x4_1+1)),sm_,H',⟨by have:=HK1.out;omega⟩,⟨(ro_ HO_3)⟩,⟨(bo_ BK314)⟩,⟨bl_⟩⟩
         |refine bodyPost_ret (results_cell_row rfl _ _ gb314 25 #[.slice Ao22 x3_1.length co22,.int .i64 (l0.length:Int)] (0,0) _ rfl (by(with_reducible repeat(first|refine blk_drewN ?_ _|refine blk_drew ?_|refine blk_alloc ?_ _));refine blk_put (cs:=#[.slice Ao22 x3_1.length co22,.int .i64 0]) ?_ 1 _ rfl;(with_reducible repeat(first|refine blk_drewN ?_ _|refine blk_drew ?_|refine blk_alloc ?_ _));refine blk_put (cs:=#[.slice none 0 0,.int .i64 0]) ?_ 0 _ rfl;exact(bo_ BK314)) Try.underlying25 rfl (by kernel_rfl)) rfl ?_
          exact⟨_,by first|rfl|(simp [errW_none,errW_some]<;>rfl)|(simp only [←hji2];first|rfl|(simp [errW_none,errW_some]<;>rfl))|(simp [*,errW_none,errW_some]<;>rfl),(rt_ (Kd.R_mono (Kd.R_far (p:=⟨gb314,1,none⟩) (Kd.R_far (p:=⟨gb314,0,none⟩) (Kd.R_types HO_3.out BK314.out (by decide)) (fun _ hk=>hk.2) (.slice Ao22 x3_1.length co22)) (fun _ hk=>hk.2) (.int .i64 (l0.length:Int))) (fun _ hk=>trivial))),bl_⟩
       |(first|cases eo18|(injection eo18 with ea_ en_ ec_;(first|subst ea_|(injection ea_ with ea_;subst ea_));subst ec_;clear en_))
        have GB7000:=Aside0.mk gb18
        have GG7000:=Aside0.mk HG18
        clear gb18 gl18 HG18
        (first|simp only [add_plain] at hx319_0|skip)
        obtain⟨hx7000_0,hf7000_0⟩:=Kd.R_celln 0 HO_3.out ((ji12):Int) p18 q18
        replace p18:=eq_true p18
        replace q18:=eq_true q18
        have HP7000:=Kd.R_putg HO_3.out ((ji12):Int) (((rd x3_1 (ji12))+(ji17)) % 256)
        go_wp2_with (first|((with_reducible refine gate_store (t:=5) (p:=34) rfl ?_);refine store_event (t:=5) (p:=34) (v:=?vo_w21) (w1:=(wr.setCell ⟨go18,((ji12):Int).toNat,none⟩ (.int .u8 (((rd x3_1 (ji12))+(ji17)) % 256)))) ?hg ?ho ?hn ?hr ?_;(case ho=>rfl);(case hg=>rfl);(case hn=>rfl);(case hr=>first|(go_simp;done)|(go_simp;rfl));intro w7000 hw;have hg:wr.grownBy w7000 (some go18):=(by rw [hw];exact HP7000.2);have hp_:Kd.R (Kd.int .u8) 5 w7000 w.heap.size (fun _=>True) (.slice (some ⟨go18,0,none⟩) x3_1.length co19) y320:=(by rw [hw,Ny320.out];exact HP7000.1);clear HP7000;have n_:=pk3 (hp_) (blk_grown (bo_ BK314) hg (Kd.R_ne HO_3.out BK314.out (by decide))) ((by rw [hw];exact below_set (HB.out) GB7000.out:Below w.heap.size w w7000));clear HO_3 BK314 HB;obtain⟨HO_3,BK314,HB⟩:=n_;clear hg hw hp_))
        go_roundg k1
        case measure=>have:=HK1.out;omega
        case rel=>exact⟨(y320),(wrap64 (x4_1+1)),sm_,H',⟨by have:=HK1.out;omega⟩,⟨(ro_ HO_3)⟩,⟨(bo_ BK314)⟩,⟨bl_⟩⟩
  ·rw [if_neg c4] at H
   exact absurd H (by simp)
 ·rw [if_neg c3] at H
  exact absurd H (by simp)
def windroseref17_Low.l0:Nat→Int→List Bool→Int→Option (List Bool)
 |0,_,_,_=>none
 |k+1,x0,x5,x6=>if x6≥0 then(if 0≤x6 then(if x6<(x5.length:Int)then(windroseref17_Low.l0 k (IntKind.u64.wrap (Int.tdiv x0 2)) (x5.set (x6:Int).toNat ((Int.tmod x0 2) == 1)) (wrap64 (x6 - 1)))else(none))else(none))else(some x5)
def windroseref17_Low.f (k:Nat) (a0:Int) (a1:Int):Option (List Bool):=if 0≤a1 then(if(a1:Int).toNat≤281474976710656 then(windroseref17_Low.l0 k a0 (List.replicate (a1:Int).toNat false) (wrap64 (a1 - 1)))else(none))else(none)
theorem windroseref17_Low.calls (k:Nat) (a0:Int) (a1:Int) (r:List Bool) (w:World) (h:windroseref17_Low.f k a0 a1=some r) :
  Calls Try.prog 35 #[.int .u64 a0,.int .i64 a1] w fun e w'=>∃ v0_:Value,e=.returned (v0_)∧Kd.R Kd.bool 4 w' w.heap.size (fun _=>True) v0_ r∧Below w.heap.size w w':=by
 have HB:=Aside0.mk (Below.refl w.heap.size w)
 have H:(if 0≤a1 then(if(a1:Int).toNat≤281474976710656 then(windroseref17_Low.l0 k a0 (List.replicate (a1:Int).toNat false) (wrap64 (a1 - 1)))else(none))else(none))=some r:=h
 clear h
 by_cases c3:0≤a1
 ·rw [if_pos c3] at H
  have c3b0:=eq_true c3
  have c3b1:decide (0≤a1)=true:=decide_eq_true c3
  clear c3
  by_cases c4:(a1:Int).toNat≤281474976710656
  ·rw [if_pos c4] at H
   have c4b0:=eq_true c4
   have c4b1:decide ((a1:Int).toNat≤281474976710656)=true:=decide_eq_true c4
   clear c4
   obtain⟨y327,hy327⟩:∃ y_:List Bool,y_=(List.replicate (a1:Int).toNat false):=⟨_,rfl⟩
   replace H:(windroseref17_Low.l0 k a0 y327 (wrap64 (a1 - 1)))=some r:=by first|(rw [hy327];with_reducible exact H)|(have H2_:=(Option.bind_some _ _).symm.trans H;rw [hy327];with_reducible exact H2_)|(have H2_:=(Option.bind_some _ _).symm.trans H;with_reducible exact H2_)|with_reducible exact H|(rw [hy327];exact H)|exact H
   have Ny327:=Aside0.mk hy327
   clear hy327
   have H':=Aside0.mk H
   clear H
   go_enter Try.func35,Try.ntmps35
   go_wp2_with (first|((with_reducible refine gate_dst (N:=8) rfl ?_);refine Kd.R_make Kd.bool _ 4 rfl (N:=8) rfl 39 _ _ rfl a1 rfl rfl Try.underlying39 (.bool false) 1 info4 rfl (by decide) (by omega) false (ok:=fun _=>True) (okp:=fun _=>True) rfl (fun _ hk=>hk) trivial dc_ (Nat.le_trans (Nat.mul_le_mul_right _ (dc_:a1.toNat≤281474976710656)) (by omega)) (Below.refl _ _) (Nat.le_refl _) ?_;intro v328 w5 ho6 hb hg_ hnew_;clear hg_ hnew_;(first|rw [←Ny327.out] at ho6|(simp only [Int.reduceToNat] at ho6;rw [←Ny327.out] at ho6));have n_:=pk2 (Kd.R_lower ho6 (below_size bl_)) (below_step bl_ hb);clear HB;obtain⟨HO329,HB⟩:=n_;clear hb ho6))
   go_loopg [0,6] k (fun kq v0 v6 w'=>∃ (x0_1:Int) (x5_1:List Bool) (x6_1:Int),v0=.int .u64 x0_1∧v6=.int .i64 x6_1∧Aside0 (windroseref17_Low.l0 kq x0_1 x5_1 x6_1=some r)∧Aside0 (kq≤k)∧Aside0 (Kd.R Kd.bool 4 w' w.heap.size (fun _=>True) v328 x5_1)∧Aside0 (Below w.heap.size w w'))
   case atStart=>exact⟨(a0),(y327),(wrap64 (a1 - 1)),sm_,sm_,H',⟨Nat.le_refl _⟩,⟨(ro_ HO329)⟩,⟨bl_⟩⟩
   case round =>
    clear H'
    try clear c3
    try clear c3b0
    try clear c3b1
    try clear c4
    try clear c4b0
    try clear c4b1
    obtain⟨x0_1,x5_1,x6_1,rfl,rfl,HA,HK1,HO_5,HB⟩:=hrel
    cases gk with
    |zero=>exact absurd HA.out (by simp [windroseref17_Low.l0])
    |succ k1 =>
     have H:=HA.out
     clear HA
     simp only [windroseref17_Low.l0] at H
     replace H:=dge H
     rcases H with⟨c7b0,H⟩|⟨c7b0,H⟩
     focus
      replace H:=dle H
      rcases H with⟨c8b0,H⟩|⟨c8b0,H⟩
      rotate_left
      ·exact absurd H (by simp)
      replace H:=dle H
      rcases H with⟨c9b0,H⟩|⟨c9b0,H⟩
      rotate_left
      ·exact absurd H (by simp)
      obtain⟨y330,hy330⟩:∃ y_:List Bool,y_=(x5_1.set (x6_1:Int).toNat ((Int.tmod x0_1 2) == 1)):=⟨_,rfl⟩
      replace H:(windroseref17_Low.l0 k1 (IntKind.u64.wrap (Int.tdiv x0_1 2)) y330 (wrap64 (x6_1 - 1)))=some r:=by first|(rw [hy330];with_reducible exact H)|(have H2_:=(Option.bind_some _ _).symm.trans H;rw [hy330];with_reducible exact H2_)|(have H2_:=(Option.bind_some _ _).symm.trans H;with_reducible exact H2_)|with_reducible exact H|(rw [hy330];exact H)|exact H
      have Ny330:=Aside0.mk hy330
      clear hy330
      have H':=Aside0.mk H
      clear H
      have p10:0≤(x6_1:Int):=dc_
      have q10:(x6_1:Int)<((x5_1.length:Int):Int):=dc_
      obtain⟨go10,co10,eo10,gb10,gl10,cl10,HG10⟩:=Kd.R_form HO_5.out (by omega)
     rotate_left
     focus
      obtain rfl:=Option.some.inj H
     all_goals
      first
       |(first|cases eo10|(injection eo10 with ea_ en_ ec_;(first|subst ea_|(injection ea_ with ea_;subst ea_));subst ec_;clear en_))
        have GB7000:=Aside0.mk gb10
        have GG7000:=Aside0.mk HG10
        clear gb10 gl10 HG10
        obtain⟨hx7000_0,hf7000_0⟩:=Kd.R_celln false HO_5.out (x6_1:Int) p10 q10
        replace p10:=eq_true p10
        replace q10:=eq_true q10
        have HP7000:=Kd.R_putg HO_5.out (x6_1:Int) ((Int.tmod x0_1 2) == 1)
        go_wp2_with (first|((with_reducible refine gate_store (t:=4) (p:=20) rfl ?_);refine store_event (t:=4) (p:=20) (v:=?vo_w12) (w1:=(wr.setCell ⟨go10,(x6_1:Int).toNat,none⟩ (.bool ((Int.tmod x0_1 2) == 1)))) ?hg ?ho ?hn ?hr ?_;(case ho=>rfl);(case hg=>rfl);(case hn=>rfl);(case hr=>first|(go_simp;done)|(go_simp;rfl));intro w7000 hw;have hg:wr.grownBy w7000 (some go10):=(by rw [hw];exact HP7000.2);have hp_:Kd.R Kd.bool 4 w7000 w.heap.size (fun _=>True) (.slice (some ⟨go10,0,none⟩) x5_1.length co10) y330:=(by rw [hw,Ny330.out];exact HP7000.1);clear HP7000;have n_:=pk2 (hp_) ((by rw [hw];exact below_set (HB.out) GB7000.out:Below w.heap.size w w7000));clear HO_5 HB;obtain⟨HO_5,HB⟩:=n_;clear hg hw hp_))
        go_roundg k1
        case measure=>have:=HK1.out;omega
        case rel=>exact⟨(IntKind.u64.wrap (Int.tdiv x0_1 2)),(y330),(wrap64 (x6_1 - 1)),sm_,sm_,H',⟨by have:=HK1.out;omega⟩,⟨(ro_ HO_5)⟩,⟨bl_⟩⟩
       |go_wp2
        go_ret
        exact⟨_,rf_,(ro_ HO_5),bl_⟩
  ·rw [if_neg c4] at H
   exact absurd H (by simp)
 ·rw [if_neg c3] at H
  exact absurd H (by simp)
end Go.Proofs.Ytmddmbagehjdeaa.G
end
section
namespace Go.Proofs.Ytmddmbagehjdeaa.G
open Go.RowKit Go.Proofs.YtmddmbagehjdeaaX Go.Proofs.YtmddmbagehjdeaaW.PrintWords Go.Proofs.YtmddmbagehjdeaaW.PrintLast Go.Proofs.YtmddmbagehjdeaaW.PrintMore
attribute [local go_sem] max2_int min2_int max_two min_two max_three min_three max_four min_four
def windroseref17_May.f (l0_0:List Int) (a0_1:Int):Option (Bool):=if a0_1<0 then(some false)else(if a0_1>131072 then(some false)else(if(l0_0.length:Int)=(wrap64 (Int.tdiv (wrap64 (a0_1+7)) 8))then(if(Int.tmod a0_1 8)=0 then(some true)else(if 0≤(wrap64 ((l0_0.length:Int) - 1))then(if(wrap64 ((l0_0.length:Int) - 1))<(l0_0.length:Int)then(if 0≤(IntKind.u64.wrap (wrap64 (8 - (Int.tmod a0_1 8))))then(if(shl .i64 1 (IntKind.u64.wrap (wrap64 (8 - (Int.tmod a0_1 8)))))=0 then(none)else(some ((Int.tmod (wrap64 (rd l0_0 (wrap64 ((l0_0.length:Int) - 1)))) (shl .i64 1 (IntKind.u64.wrap (wrap64 (8 - (Int.tmod a0_1 8)))))) == 0)))else(none))else(none))else(none)))else(some false)))
theorem windroseref17_May.calls (A0_0:Option Addr) (c0_0:Nat) (l0_0:List Int) (a0_1:Int) (r:Bool) (w:World) (hr0_0:Kd.C (Kd.int .u8) w A0_0 l0_0.length l0_0) (hc0_0:l0_0.length≤c0_0) (h:windroseref17_May.f l0_0 a0_1=some r) :
  Calls Try.prog 22 #[.agg #[.slice A0_0 l0_0.length c0_0,.int .i64 a0_1]] w fun e w'=>e=.returned (.bool r)∧Below w.heap.size w w':=by
 have hu25:=Try.underlying25
 have HR0_0:=Aside0.mk hr0_0
 have HC0_0:=Aside0.mk hc0_0
 clear hr0_0 hc0_0
 have HB:=Aside0.mk (Below.refl w.heap.size w)
 have H:(if a0_1<0 then(some false)else(if a0_1>131072 then(some false)else(if(l0_0.length:Int)=(wrap64 (Int.tdiv (wrap64 (a0_1+7)) 8))then(if(Int.tmod a0_1 8)=0 then(some true)else(if 0≤(wrap64 ((l0_0.length:Int) - 1))then(if(wrap64 ((l0_0.length:Int) - 1))<(l0_0.length:Int)then(if 0≤(IntKind.u64.wrap (wrap64 (8 - (Int.tmod a0_1 8))))then(if(shl .i64 1 (IntKind.u64.wrap (wrap64 (8 - (Int.tmod a0_1 8)))))=0 then(none)else(some ((Int.tmod (wrap64 (rd l0_0 (wrap64 ((l0_0.length:Int) - 1)))) (shl .i64 1 (IntKind.u64.wrap (wrap64 (8 - (Int.tmod a0_1 8)))))) == 0)))else(none))else(none))else(none)))else(some false))))=some r:=h
 clear h
 replace H:=dle H
 rcases H with⟨c2b0,H⟩|⟨c2b0,H⟩
 focus
  obtain rfl:=Option.some.inj H
 rotate_left
 focus
  replace H:=dgt H
  rcases H with⟨c5b0,H⟩|⟨c5b0,H⟩
  focus
   obtain rfl:=Option.some.inj H
  rotate_left
  focus
   replace H:=deqn H
   rcases H with⟨c8b0,c8b1,H⟩|⟨c8b0,c8b1,c8,H⟩
   focus
    replace H:=deqn H
    rcases H with⟨c9b0,c9b1,H⟩|⟨c9b0,c9b1,c9,H⟩
    focus
     obtain rfl:=Option.some.inj H
    rotate_left
    focus
     obtain⟨ji12,hji12⟩:∃ j_:Int,(wrap64 ((l0_0.length:Int) - 1))=j_:=⟨_,rfl⟩
     replace H:(if 0≤(ji12)then(if(ji12)<(l0_0.length:Int)then(if 0≤(IntKind.u64.wrap (wrap64 (8 - (Int.tmod a0_1 8))))then(if(shl .i64 1 (IntKind.u64.wrap (wrap64 (8 - (Int.tmod a0_1 8)))))=0 then(none)else(some ((Int.tmod (wrap64 (rd l0_0 (ji12))) (shl .i64 1 (IntKind.u64.wrap (wrap64 (8 - (Int.tmod a0_1 8)))))) == 0)))else(none))else(none))else(none))=some r:=by first|(rw [hji12] at H;exact H)|(simp only [hji12] at H ⊢;exact H)
     have hji12w:(IntKind.i64.wrap ((l0_0.length:Int) - 1))=ji12:=(i64_w _).trans hji12
     replace H:=dle H
     rcases H with⟨c13b0,H⟩|⟨c13b0,H⟩
     rotate_left
     ·exact absurd H (by simp)
     replace H:=dle H
     rcases H with⟨c14b0,H⟩|⟨c14b0,H⟩
     rotate_left
     ·exact absurd H (by simp)
     obtain⟨ji15,hji15⟩:∃ j_:Int,(IntKind.u64.wrap (wrap64 (8 - (Int.tmod a0_1 8))))=j_:=⟨_,rfl⟩
     replace H:(if 0≤(ji15)then(if(shl .i64 1 (ji15))=0 then(none)else(some ((Int.tmod (wrap64 (rd l0_0 (ji12))) (shl .i64 1 (ji15))) == 0)))else(none))=some r:=by first|(rw [hji15] at H;exact H)|(simp only [hji15] at H ⊢;exact H)
     by_cases c16:0≤(ji15)
     rotate_left
     ·rw [if_neg c16] at H
      exact absurd H (by simp)
     rw [if_pos c16] at H
     have c16b0:=eq_true c16
     have c16b1:decide (0≤(ji15))=true:=decide_eq_true c16
     clear c16
     obtain⟨ji17,hji17⟩:∃ j_:Int,(shl .i64 1 (ji15))=j_:=⟨_,rfl⟩
     replace H:(if(ji17)=0 then(none)else(some ((Int.tmod (wrap64 (rd l0_0 (ji12))) (ji17)) == 0)))=some r:=by first|(rw [hji17] at H;exact H)|(simp only [hji17] at H ⊢;exact H)
     have hji17_:(IntKind.i64.wrap (1*2 ^ min (ji15).toNat 64))=ji17:=hji17
     have hji17z:(ji15)≤64→(IntKind.i64.wrap (1*2 ^ (ji15).toNat))=ji17:=shl_small hji17
     have hji17u:(IntKind.i64.wrap (2 ^ min (ji15).toNat 64))=ji17:=by have h_:=hji17_;rw [Int.one_mul] at h_;exact h_
     have hji17v:(ji15)≤64→(IntKind.i64.wrap (2 ^ (ji15).toNat))=ji17:=fun hle_=>by have h_:=hji17z hle_;rw [Int.one_mul] at h_;exact h_
     have hji17y:(wrap64 (1*2 ^ min (ji15).toNat 64))=ji17:=(i64_w _).symm.trans hji17_
     have hji17x:(ji15)≤64→(wrap64 (1*2 ^ (ji15).toNat))=ji17:=fun h_=>(i64_w _).symm.trans (hji17z h_)
     replace H:=deqn H
     rcases H with⟨c18b0,c18b1,H⟩|⟨c18b0,c18b1,c18,H⟩
     ·exact absurd H (by simp)
     obtain rfl:=Option.some.inj H
   rotate_left 2
   focus
    obtain rfl:=Option.some.inj H
 all_goals
  go_enter Try.func22,Try.ntmps22
  go_wp2_with (first|((with_reducible refine gate_dst (N:=1) rfl ?_);(try(refine gate_guard (by rfl) ?_;dsimp only));refine box_ev 1 #[.slice A0_0 l0_0.length c0_0,.int .i64 a0_1] 25 ?_;intro gb7000 hg w7000 hbox hb;have n_:=pk4 (below_step bl_ hb) (hbox) ((ge_ hg bl_:w.heap.size≤gb7000)) ((ge_ hg bl_:w.heap.size≤gb7000));clear HB;obtain⟨HB,BK7000,GW7000,GE7000⟩:=n_;clear hb hbox hg;have hcz7000_0:w7000.cell? ⟨gb7000,0,none⟩=some (.slice A0_0 l0_0.length c0_0):=(blk_cell BK7000.out 0).trans rfl;have hcz7000_1:w7000.cell? ⟨gb7000,1,none⟩=some (.int .i64 a0_1):=(blk_cell BK7000.out 1).trans rfl;have hfz7000_0:=blk_frozen BK7000.out 0;have hfz7000_1:=blk_frozen BK7000.out 1;(try(have p7000:0≤((ji12):Int):=dc_;have q7000:(ji12)<(l0_0.length:Int):=dc_;obtain⟨ad7000,e7000,hx7000_0⟩:=Kd.at_int HR0_0.out (ji12) p7000 q7000;cases e7000;replace hx7000_0:=(HB.out.cell (World.block_lt_of_cell? w _ hx7000_0)).trans hx7000_0;replace p7000:=eq_true p7000;replace q7000:=eq_true q7000))))
  repeat(go_quiet (first|((with_reducible refine gate_dst (N:=1) rfl ?_);(try(refine gate_guard (by rfl) ?_;dsimp only));refine box_ev 1 #[.slice A0_0 l0_0.length c0_0,.int .i64 a0_1] 25 ?_;intro gb7000 hg w7000 hbox hb;have n_:=pk4 (below_step bl_ hb) (hbox) ((ge_ hg bl_:w.heap.size≤gb7000)) ((ge_ hg bl_:w.heap.size≤gb7000));clear HB;obtain⟨HB,BK7000,GW7000,GE7000⟩:=n_;clear hb hbox hg;have hcz7000_0:w7000.cell? ⟨gb7000,0,none⟩=some (.slice A0_0 l0_0.length c0_0):=(blk_cell BK7000.out 0).trans rfl;have hcz7000_1:w7000.cell? ⟨gb7000,1,none⟩=some (.int .i64 a0_1):=(blk_cell BK7000.out 1).trans rfl;have hfz7000_0:=blk_frozen BK7000.out 0;have hfz7000_1:=blk_frozen BK7000.out 1;(try(have p7000:0≤((ji12):Int):=dc_;have q7000:(ji12)<(l0_0.length:Int):=dc_;obtain⟨ad7000,e7000,hx7000_0⟩:=Kd.at_int HR0_0.out (ji12) p7000 q7000;cases e7000;replace hx7000_0:=(HB.out.cell (World.block_lt_of_cell? w _ hx7000_0)).trans hx7000_0;replace p7000:=eq_true p7000;replace q7000:=eq_true q7000))));try go_wp2_with (first|((with_reducible refine gate_dst (N:=1) rfl ?_);(try(refine gate_guard (by rfl) ?_;dsimp only));refine box_ev 1 #[.slice A0_0 l0_0.length c0_0,.int .i64 a0_1] 25 ?_;intro gb7000 hg w7000 hbox hb;have n_:=pk4 (below_step bl_ hb) (hbox) ((ge_ hg bl_:w.heap.size≤gb7000)) ((ge_ hg bl_:w.heap.size≤gb7000));clear HB;obtain⟨HB,BK7000,GW7000,GE7000⟩:=n_;clear hb hbox hg;have hcz7000_0:w7000.cell? ⟨gb7000,0,none⟩=some (.slice A0_0 l0_0.length c0_0):=(blk_cell BK7000.out 0).trans rfl;have hcz7000_1:w7000.cell? ⟨gb7000,1,none⟩=some (.int .i64 a0_1):=(blk_cell BK7000.out 1).trans rfl;have hfz7000_0:=blk_frozen BK7000.out 0;have hfz7000_1:=blk_frozen BK7000.out 1;(try(have p7000:0≤((ji12):Int):=dc_;have q7000:(ji12)<(l0_0.length:Int):=dc_;obtain⟨ad7000,e7000,hx7000_0⟩:=Kd.at_int HR0_0.out (ji12) p7000 q7000;cases e7000;replace hx7000_0:=(HB.out.cell (World.block_lt_of_cell? w _ hx7000_0)).trans hx7000_0;replace p7000:=eq_true p7000;replace q7000:=eq_true q7000)))))
  go_ret
  first
   |exact⟨rf_,bl_⟩
   |exact⟨by first|rfl|(simp [errW_none,errW_some]<;>rfl)|(simp only [←hji12,←hji15,←hji17];first|rfl|(simp [errW_none,errW_some]<;>rfl))|(simp [*,errW_none,errW_some]<;>rfl),bl_⟩
def windroseref17_List.l0:Nat→List Bool→Int→List Int→Int→Option (List Bool)
 |0,_,_,_,_=>none
 |k+1,x3,x4,x221000,x221001=>if x4<x221001 then(if 0≤(wrap64 (Int.tdiv x4 8))then(if(wrap64 (Int.tdiv x4 8))<(x221000.length:Int)then(if 0≤(IntKind.u64.wrap (wrap64 (7 - (Int.tmod x4 8))))then(if x3.length<140737488355328 then(windroseref17_List.l0 k (x3++[((Int.tmod (shr .u8 (rd x221000 (wrap64 (Int.tdiv x4 8))) (IntKind.u64.wrap (wrap64 (7 - (Int.tmod x4 8))))) 2) == 1)]) (wrap64 (x4+1)) x221000 x221001)else(none))else(none))else(none))else(none))else(some x3)
def windroseref17_List.f (k:Nat) (l0_0:List Int) (a0_1:Int):Option (List Bool):=windroseref17_List.l0 k (([]:List Bool)) 0 l0_0 a0_1
theorem windroseref17_List.calls (k:Nat) (A0_0:Option Addr) (c0_0:Nat) (l0_0:List Int) (a0_1:Int) (r:List Bool) (w:World) (hr0_0:Kd.C (Kd.int .u8) w A0_0 l0_0.length l0_0) (hc0_0:l0_0.length≤c0_0) (h:windroseref17_List.f k l0_0 a0_1=some r) :
  Calls Try.prog 23 #[.agg #[.slice A0_0 l0_0.length c0_0,.int .i64 a0_1]] w fun e w'=>∃ v0_:Value,e=.returned (v0_)∧Kd.R Kd.bool 4 w' w.heap.size (fun _=>True) v0_ r∧Below w.heap.size w w':=by
 have hu25:=Try.underlying25
 have HR0_0:=Aside0.mk hr0_0
 have HC0_0:=Aside0.mk hc0_0
 clear hr0_0 hc0_0
 have HB:=Aside0.mk (Below.refl w.heap.size w)
 have H:(windroseref17_List.l0 k (([]:List Bool)) 0 l0_0 a0_1)=some r:=h
 clear h
 obtain⟨y221,hy221⟩:∃ y_:List Bool,y_=(([]:List Bool)):=⟨_,rfl⟩
 replace H:(windroseref17_List.l0 k y221 0 l0_0 a0_1)=some r:=by first|(rw [hy221];with_reducible exact H)|(have H2_:=(Option.bind_some _ _).symm.trans H;rw [hy221];with_reducible exact H2_)|(have H2_:=(Option.bind_some _ _).symm.trans H;with_reducible exact H2_)|with_reducible exact H|(rw [hy221];exact H)|exact H
 have Ny221:=Aside0.mk hy221
 clear hy221
 have H':=Aside0.mk H
 clear H
 go_enter Try.func23,Try.ntmps23
 go_wp2_with (first|((with_reducible refine gate_dst (N:=1) rfl ?_);refine box_ev 1 #[.slice A0_0 l0_0.length c0_0,.int .i64 a0_1] 25 ?_;intro gb220 hg w2 hbox hb;have n_:=pk4 (below_step bl_ hb) (hbox) ((ge_ hg bl_:w.heap.size≤gb220)) ((ge_ hg bl_:w.heap.size≤gb220));clear HB;obtain⟨HB,BK220,GW220,GE220⟩:=n_;clear hb hbox hg)|((with_reducible refine gate_dst (N:=5) rfl ?_);refine Kd.R_lit Kd.bool _ 4 ?hg (N:=5) ?hd (xs:=([]:List Bool)) (inner:=[]) (ok:=fun _=>True) (okp:=fun _=>True) ?hr ?hp (fun _ hk=>hk) trivial (Below.refl _ _) (Nat.le_refl _) (by simp) ?_;(case hd=>rfl);(case hg=>rfl);(case hr=>first|(go_simp;done)|(go_simp;rfl));(case hp=>exact(Reps.none _ _));intro v222 w3 ho4 hb hg_ hnew_;clear hg_ hnew_;(first|rw [←Ny221.out] at ho4|(simp only [Int.reduceToNat] at ho4;rw [←Ny221.out] at ho4));have n_:=pk3 (Kd.R_lower ho4 (below_size bl_)) (blk_below (bo_ BK220) hb) (below_step bl_ hb);clear BK220 HB;obtain⟨HO223,BK220,HB⟩:=n_;clear hb ho4))
 go_loopg [3,4] k (fun kq v3 v4 w'=>∃ (x3_1:List Bool) (x4_1:Int),v4=.int .i64 x4_1∧Aside0 (windroseref17_List.l0 kq x3_1 x4_1 l0_0 a0_1=some r)∧Aside0 (kq≤k)∧Aside0 (Kd.R Kd.bool 4 w' w.heap.size (fun _=>True) v3 x3_1)∧Aside0 (w'.heap[gb220]?=some (.cells #[(.slice A0_0 l0_0.length c0_0),.int .i64 a0_1] 25 (0,0)))∧Aside0 (Below w.heap.size w w'))
 case atStart=>exact⟨(y221),(0),sm_,H',⟨Nat.le_refl _⟩,⟨(ro_ HO223)⟩,⟨(bo_ BK220)⟩,⟨bl_⟩⟩
 case round =>
  clear H'
  obtain⟨x3_1,x4_1,rfl,HA,HK1,HO_3,BK220,HB⟩:=hrel
  cases gk with
  |zero=>exact absurd HA.out (by simp [windroseref17_List.l0])
  |succ k1 =>
   have H:=HA.out
   clear HA
   simp only [windroseref17_List.l0] at H
   replace H:=dle H
   rcases H with⟨c5b0,H⟩|⟨c5b0,H⟩
   focus
    obtain⟨ji6,hji6⟩:∃ j_:Int,(wrap64 (Int.tdiv x4_1 8))=j_:=⟨_,rfl⟩
    replace H:(if 0≤(ji6)then(if(ji6)<(l0_0.length:Int)then(if 0≤(IntKind.u64.wrap (wrap64 (7 - (Int.tmod x4_1 8))))then(if x3_1.length<140737488355328 then(windroseref17_List.l0 k1 (x3_1++[((Int.tmod (shr .u8 (rd l0_0 (ji6)) (IntKind.u64.wrap (wrap64 (7 - (Int.tmod x4_1 8))))) 2) == 1)]) (wrap64 (x4_1+1)) l0_0 a0_1)else(none))else(none))else(none))else(none))=some r:=by first|(rw [hji6] at H;exact H)|(simp only [hji6] at H ⊢;exact H)
    have hji6w:(IntKind.i64.wrap (Int.tdiv x4_1 8))=ji6:=(i64_w _).trans hji6
    replace H:=dle H
    rcases H with⟨c7b0,H⟩|⟨c7b0,H⟩
    rotate_left
    ·exact absurd H (by simp)
    replace H:=dle H
    rcases H with⟨c8b0,H⟩|⟨c8b0,H⟩
    rotate_left
    ·exact absurd H (by simp)
    obtain⟨ji9,hji9⟩:∃ j_:Int,(IntKind.u64.wrap (wrap64 (7 - (Int.tmod x4_1 8))))=j_:=⟨_,rfl⟩
    replace H:(if 0≤(ji9)then(if x3_1.length<140737488355328 then(windroseref17_List.l0 k1 (x3_1++[((Int.tmod (shr .u8 (rd l0_0 (ji6)) (ji9)) 2) == 1)]) (wrap64 (x4_1+1)) l0_0 a0_1)else(none))else(none))=some r:=by first|(rw [hji9] at H;exact H)|(simp only [hji9] at H ⊢;exact H)
    by_cases c10:0≤(ji9)
    rotate_left
    ·rw [if_neg c10] at H
     exact absurd H (by simp)
    rw [if_pos c10] at H
    have c10b0:=eq_true c10
    have c10b1:decide (0≤(ji9))=true:=decide_eq_true c10
    clear c10
    obtain⟨ji11,hji11⟩:∃ j_:Int,(shr .u8 (rd l0_0 (ji6)) (ji9))=j_:=⟨_,rfl⟩
    replace H:(if x3_1.length<140737488355328 then(windroseref17_List.l0 k1 (x3_1++[((Int.tmod (ji11) 2) == 1)]) (wrap64 (x4_1+1)) l0_0 a0_1)else(none))=some r:=by first|(rw [hji11] at H;exact H)|(simp only [hji11] at H ⊢;exact H)
    have hji11_:((rd l0_0 (ji6)) / 2 ^ min (ji9).toNat 8)=ji11:=hji11
    have hji11z:(ji9)≤8→((rd l0_0 (ji6)) / 2 ^ (ji9).toNat)=ji11:=shr_small hji11
    by_cases c12:x3_1.length<140737488355328
    rotate_left
    ·rw [if_neg c12] at H
     exact absurd H (by simp)
    rw [if_pos c12] at H
    have LMc12:=Aside0.mk c12
    clear c12
    obtain⟨y225,hy225⟩:∃ y_:List Bool,y_=(x3_1++[((Int.tmod (ji11) 2) == 1)]):=⟨_,rfl⟩
    replace H:(windroseref17_List.l0 k1 y225 (wrap64 (x4_1+1)) l0_0 a0_1)=some r:=by first|(rw [hy225];with_reducible exact H)|(have H2_:=(Option.bind_some _ _).symm.trans H;rw [hy225];with_reducible exact H2_)|(have H2_:=(Option.bind_some _ _).symm.trans H;with_reducible exact H2_)|with_reducible exact H|(rw [hy225];exact H)|exact H
    have Ny225:=Aside0.mk hy225
    clear hy225
    have H':=Aside0.mk H
    clear H
    obtain⟨hcz13_0,hcz13_1,hfz13_0,hfz13_1⟩:=blk_at2 BK220.out
    have p224:0≤((ji6):Int):=dc_
    have q224:(ji6)<(l0_0.length:Int):=dc_
    obtain⟨ad224,e224,hx224_0⟩:=Kd.at_int HR0_0.out (ji6) p224 q224
    cases e224
    replace hx224_0:=(HB.out.cell (World.block_lt_of_cell? w _ hx224_0)).trans hx224_0
    replace p224:=eq_true p224
    replace q224:=eq_true q224
   rotate_left
   focus
    obtain rfl:=Option.some.inj H
    obtain⟨hcz15_0,hcz15_1,hfz15_0,hfz15_1⟩:=blk_at2 BK220.out
   all_goals
    go_wp2_with (first|((with_reducible refine gate_builtin (b:=.append) (xs:=#[.tmp 12,.tmp 26]) rfl ?_);at_builtin;refine Kd.R_append Kd.bool (w0:=w) w.heap.size rfl (.tmp 12) (.tmp 26) 39 4 (.bool false) 1 rfl Try.underlying39 info4 rfl (by decide) (by omega) u3 x3_1 ((Int.tmod (ji11) 2) == 1) [.bool ((Int.tmod (ji11) 2) == 1)] (fun _=>True) (fun _=>False) rfl rfl ?aP (fun _ hk=>hk.elim) ?aF ?aO ?aB ?aS ?aL ?_;(case aP=>exact rfl);(case aB=>exact bl_);(case aF=>exact(fun _ _=>trivial));(case aO=>exact(ro_ HO_3));(case aS=>exact(below_size bl_));(case aL=>have:=LMc12.out;omega);intro v7000 w7000 ho hb hg hat;rw [←Ny225.out] at ho;have n_:=pk3 (blk_grown (bo_ BK220) hg (Kd.R_ne HO_3.out BK220.out (by decide))) (hb) (ho);clear BK220 HB HO_3;obtain⟨BK220,HB,HO7000⟩:=n_;clear ho hb hg hat))
    first
     |go_roundg k1
      case measure=>have:=HK1.out;omega
      case rel=>exact⟨(y225),(wrap64 (x4_1+1)),sm_,H',⟨by have:=HK1.out;omega⟩,⟨(ro_ HO7000)⟩,⟨(bo_ BK220)⟩,⟨bl_⟩⟩
     |go_ret
      exact⟨_,rf_,(ro_ HO_3),bl_⟩
def windroseref17_Value.l0:Nat→List Bool→Int→Int→Option (Int)
 |0,_,_,_=>none
 |k+1,x0,x3,x4=>if x4<(x0.length:Int)then(if 0≤x4 then(if rdOf false x0 x4=true then(windroseref17_Value.l0 k x0 (IntKind.u64.wrap ((IntKind.u64.wrap (x3*2))+1)) (wrap64 (x4+1)))else(windroseref17_Value.l0 k x0 (IntKind.u64.wrap (x3*2)) (wrap64 (x4+1))))else(none))else(some x3)
def windroseref17_Value.f (k:Nat) (l0:List Bool):Option (Int):=windroseref17_Value.l0 k l0 0 0
theorem windroseref17_Value.calls (k:Nat) (A0:Option Addr) (c0:Nat) (l0:List Bool) (r:Int) (w:World) (hr0:Kd.C Kd.bool w A0 l0.length l0) (hc0:l0.length≤c0) (h:windroseref17_Value.f k l0=some r) :
  Calls Try.prog 25 #[.slice A0 l0.length c0] w fun e w'=>e=.returned (.int .u64 r)∧Drawn0 w w':=by
 have HR0:=Aside0.mk hr0
 have HC0:=Aside0.mk hc0
 clear hr0 hc0
 have H:(windroseref17_Value.l0 k l0 0 0)=some r:=h
 clear h
 have H':=Aside0.mk H
 clear H
 go_enter Try.func25,Try.ntmps25
 go_wp2
 go_loopg [3,4] k (fun kq v3 v4 w'=>∃ (x3_1:Int) (x4_1:Int),v3=.int .u64 x3_1∧v4=.int .i64 x4_1∧Aside0 (windroseref17_Value.l0 kq l0 x3_1 x4_1=some r)∧Aside0 (kq≤k)∧Drawn0 w w')
 case atStart=>exact⟨(0),(0),sm_,sm_,H',⟨Nat.le_refl _⟩,by repeat(first|exact Drawn0.refl _|apply Drawn0.step)⟩
 case round =>
  clear H'
  obtain⟨x3_1,x4_1,rfl,rfl,HA,HK1,⟨m1,rfl⟩⟩:=hrel
  cases gk with
  |zero=>exact absurd HA.out (by simp [windroseref17_Value.l0])
  |succ k1 =>
   have H:=HA.out
   clear HA
   simp only [windroseref17_Value.l0] at H
   replace H:=dle H
   rcases H with⟨c2b0,H⟩|⟨c2b0,H⟩
   focus
    replace H:=dle H
    rcases H with⟨c3b0,H⟩|⟨c3b0,H⟩
    rotate_left
    ·exact absurd H (by simp)
    obtain⟨bq4,hbq4⟩:∃ b_:Bool,b_=(rdOf false l0 x4_1):=⟨_,rfl⟩
    replace H:(if bq4=true then(windroseref17_Value.l0 k1 l0 (IntKind.u64.wrap ((IntKind.u64.wrap (x3_1*2))+1)) (wrap64 (x4_1+1)))else(windroseref17_Value.l0 k1 l0 (IntKind.u64.wrap (x3_1*2)) (wrap64 (x4_1+1))))=some r:=by rw [←hbq4] at H;exact H
    have Nbq4:=Aside0.mk hbq4
    clear hbq4
    replace H:=dbool H
    rcases H with⟨rfl,H⟩|⟨rfl,H⟩
    focus
     have H':=Aside0.mk H
     clear H
     have p228:0≤(x4_1:Int):=dc_
     have q228:x4_1<(l0.length:Int):=dc_
     obtain⟨ad228,e228,hx228_0⟩:=Kd.at_bool HR0.out x4_1 p228 q228
     (try rw [←Nbq4.out] at hx228_0)
     cases e228
     replace p228:=eq_true p228
     replace q228:=eq_true q228
    rotate_left
    focus
     have H':=Aside0.mk H
     clear H
     have p228:0≤(x4_1:Int):=dc_
     have q228:x4_1<(l0.length:Int):=dc_
     obtain⟨ad228,e228,hx228_0⟩:=Kd.at_bool HR0.out x4_1 p228 q228
     (try rw [←Nbq4.out] at hx228_0)
     cases e228
     replace p228:=eq_true p228
     replace q228:=eq_true q228
   rotate_left 2
   focus
    obtain rfl:=Option.some.inj H
   all_goals
    go_wp2
    first
     |go_roundg k1
      case measure=>have:=HK1.out;omega
      first
       |case rel=>exact⟨(IntKind.u64.wrap ((IntKind.u64.wrap (x3_1*2))+1)),(wrap64 (x4_1+1)),sm_,sm_,H',⟨by have:=HK1.out;omega⟩,by repeat(first|exact Drawn0.refl _|apply Drawn0.step)⟩
       |case rel=>exact⟨(IntKind.u64.wrap (x3_1*2)),(wrap64 (x4_1+1)),sm_,sm_,H',⟨by have:=HK1.out;omega⟩,by repeat(first|exact Drawn0.refl _|apply Drawn0.step)⟩
     |go_ret
      exact⟨by first|rfl|(simp;done)|(simp [*];done),by repeat(first|exact Drawn0.refl _|apply Drawn0.step)⟩
def windroseref17_fold.f (a0:Int):Option (Int):=if a0≥0 then(some (IntKind.u64.wrap ((IntKind.u64.wrap (a0))*2)))else(some (IntKind.u64.wrap ((IntKind.u64.wrap ((IntKind.u64.wrap (wrap64 ((-1) - a0)))*2))+1)))
theorem windroseref17_fold.calls (a0:Int) (r:Int) (w:World) (h:windroseref17_fold.f a0=some r) :
  Calls Try.prog 68 #[.int .i64 a0] w fun e w'=>e=.returned (.int .u64 r)∧Drawn0 w w':=by
 have H:(if a0≥0 then(some (IntKind.u64.wrap ((IntKind.u64.wrap (a0))*2)))else(some (IntKind.u64.wrap ((IntKind.u64.wrap ((IntKind.u64.wrap (wrap64 ((-1) - a0)))*2))+1))))=some r:=h
 clear h
 replace H:=dge H
 rcases H with⟨c2b0,H⟩|⟨c2b0,H⟩
 focus
  obtain rfl:=Option.some.inj H
 rotate_left
 focus
  obtain rfl:=Option.some.inj H
 all_goals
  go_enter Try.func68,Try.ntmps68
  go_wp2
  go_ret
  exact⟨by first|rfl|(simp;done)|(simp [*];done),by repeat(first|exact Drawn0.refl _|apply Drawn0.step)⟩
def windroseref17_Class.f (a0:Int):Option (Int):=(windroseref17_fold.f a0).bind fun t229=>(if t229=0 then(some 0)else(if t229<128 then(some 1)else(if t229<4096 then(some 2)else(if t229<1048576 then(some 3)else(some 4)))))
theorem windroseref17_Class.calls (a0:Int) (r:Int) (w:World) (h:windroseref17_Class.f a0=some r) :
  Calls Try.prog 34 #[.int .i64 a0] w fun e w'=>e=.returned (.int .i64 r)∧Drawn0 w w':=by
 have H:((windroseref17_fold.f a0).bind fun t229=>(if t229=0 then(some 0)else(if t229<128 then(some 1)else(if t229<4096 then(some 2)else(if t229<1048576 then(some 3)else(some 4))))))=some r:=h
 clear h
 replace H:=bindA H
 obtain⟨t229,A2,H⟩:=H
 try dsimp only at H
 replace H:=deqn H
 rcases H with⟨c3b0,c3b1,H⟩|⟨c3b0,c3b1,c3,H⟩
 focus
  obtain rfl:=Option.some.inj H
 rotate_left
 focus
  replace H:=dle H
  rcases H with⟨c4b0,H⟩|⟨c4b0,H⟩
  focus
   obtain rfl:=Option.some.inj H
  rotate_left
  focus
   replace H:=dle H
   rcases H with⟨c5b0,H⟩|⟨c5b0,H⟩
   focus
    obtain rfl:=Option.some.inj H
   rotate_left
   focus
    replace H:=dle H
    rcases H with⟨c6b0,H⟩|⟨c6b0,H⟩
    focus
     obtain rfl:=Option.some.inj H
    rotate_left
    focus
     obtain rfl:=Option.some.inj H
 all_goals
  go_enter Try.func34,Try.ntmps34
  go_wp2_with (first|((with_reducible refine gate_callee (f:=68) rfl ?_);refine goL_ (some 5) Try.func68 #[.int .i64 a0] ?_;(with_reducible refine(windroseref17_fold.calls a0 t229 _ A2.out).mono ?_);rintro e w' ⟨rfl,⟨nd,rfl⟩⟩;refine⟨_,rfl,?_⟩))
  go_ret
  exact⟨by first|rfl|(simp;done)|(simp [*];done),by repeat(first|exact Drawn0.refl _|apply Drawn0.step)⟩
end Go.Proofs.Ytmddmbagehjdeaa.G
end
section
namespace Go.Proofs.Ytmddmbagehjdeaa.G
open Go.RowKit Go.Proofs.YtmddmbagehjdeaaX Go.Proofs.YtmddmbagehjdeaaW.PrintWords Go.Proofs.YtmddmbagehjdeaaW.PrintLast Go.Proofs.YtmddmbagehjdeaaW.PrintMore
attribute [local go_sem] max2_int min2_int max_two min_two max_three min_three max_four min_four
def windroseref17_Coded.l0:Nat→Int→List Int→Int→List Bool→Int→Option (List Bool)
 |0,_,_,_,_,_=>none
 |k+1,x0,x3,x4,x5,x6=>if x6<x4 then(if x5.length<140737488355328 then(windroseref17_Coded.l0 k x0 x3 x4 (x5++[true]) (wrap64 (x6+1)))else(none))else(if x4<4 then(if x5.length<140737488355328 then((some (x5++[false]:List Bool)).bind fun y341=>((windroseref17_fold.f x0).bind fun t344=>(if 0≤x4 then(if x4<(x3.length:Int)then((windroseref17_Low.f k t344 (rd x3 x4)).bind fun t346=>(if y341.length+t346.length<140737488355328 then(some (y341++t346))else(none)))else(none))else(none))))else(none))else((windroseref17_fold.f x0).bind fun t352=>(if 0≤x4 then(if x4<(x3.length:Int)then((windroseref17_Low.f k t352 (rd x3 x4)).bind fun t354=>(if x5.length+t354.length<140737488355328 then(some (x5++t354))else(none)))else(none))else(none))))
def windroseref17_Coded.f (k:Nat) (a0:Int):Option (List Bool):=(windroseref17_Class.f a0).bind fun t334=>(windroseref17_Coded.l0 k a0 (([0,7,12,20,64]:List Int)) t334 (([]:List Bool)) 0)
def windroseref17_Coded.T10:Bool×List (List Nat×List Nat):=(true,[([],[]),([],[]),([1],[1]),([],[]),([],[]),([3,4],[3,4]),([5],[5]),([2,6,2],[2,6]),([0,7,7],[0,7]),([8,8,0,1,2,3,4,5,6,7,8],[8])])
def windroseref17_Coded.B10:List Nat:=[0,0,2,0,0,24,56,126,255,511]
theorem windroseref17_Coded.tab10:rtab .any (opsOf Try.f32 10)=windroseref17_Coded.T10:=by kernel_rfl
theorem windroseref17_Coded.bits10:waitsOk windroseref17_Coded.T10.2 windroseref17_Coded.B10=true:=by kernel_rfl
theorem windroseref17_Coded.calls (k:Nat) (a0:Int) (r:List Bool) (w:World) (h:windroseref17_Coded.f k a0=some r) :
  Calls Try.prog 32 #[.int .i64 a0] w fun e w'=>∃ v0_:Value,e=.returned (v0_)∧Kd.R Kd.bool 4 w' w.heap.size (fun _=>True) v0_ r∧Below w.heap.size w w':=by
 have HB:=Aside0.mk (Below.refl w.heap.size w)
 have H:((windroseref17_Class.f a0).bind fun t334=>(windroseref17_Coded.l0 k a0 (([0,7,12,20,64]:List Int)) t334 (([]:List Bool)) 0))=some r:=h
 clear h
 obtain⟨y331,hy331⟩:∃ y_:List Int,y_=(([0,7,12,20,64]:List Int)):=⟨_,rfl⟩
 replace H:((windroseref17_Class.f a0).bind fun t334=>(windroseref17_Coded.l0 k a0 y331 t334 (([]:List Bool)) 0))=some r:=by first|(rw [hy331];with_reducible exact H)|(have H2_:=(Option.bind_some _ _).symm.trans H;rw [hy331];with_reducible exact H2_)|(have H2_:=(Option.bind_some _ _).symm.trans H;with_reducible exact H2_)|with_reducible exact H|(rw [hy331];exact H)|exact H
 have Ny331:=Aside0.mk hy331
 clear hy331
 replace H:=bindA H
 obtain⟨t334,A2,H⟩:=H
 try dsimp only at H
 obtain⟨y335,hy335⟩:∃ y_:List Bool,y_=(([]:List Bool)):=⟨_,rfl⟩
 replace H:(windroseref17_Coded.l0 k a0 y331 t334 y335 0)=some r:=by first|(rw [hy335];with_reducible exact H)|(have H2_:=(Option.bind_some _ _).symm.trans H;rw [hy335];with_reducible exact H2_)|(have H2_:=(Option.bind_some _ _).symm.trans H;with_reducible exact H2_)|with_reducible exact H|(rw [hy335];exact H)|exact H
 have Ny335:=Aside0.mk hy335
 clear hy335
 have H':=Aside0.mk H
 clear H
 go_enter Try.func32,Try.ntmps32
 go_wp2_with (first|((with_reducible refine gate_dst (N:=7) rfl ?_);refine Kd.R_lit (Kd.int .i64) _ 3 ?hg (N:=7) ?hd (xs:=([0,7,12,20,64]:List Int)) (inner:=[.int .i64 0,.int .i64 7,.int .i64 12,.int .i64 20,.int .i64 64]) (ok:=fun _=>True) (okp:=fun _=>True) ?hr ?hp (fun _ hk=>hk) trivial (Below.refl _ _) (Nat.le_refl _) (by simp) ?_;(case hd=>rfl);(case hg=>rfl);(case hr=>first|(go_simp;done)|(go_simp;rfl));(case hp=>exact(Reps.one (show Kd.M (Kd.int .i64) _ _ _ 0 [.int .i64 0] from rfl) (Reps.one (show Kd.M (Kd.int .i64) _ _ _ 7 [.int .i64 7] from rfl) (Reps.one (show Kd.M (Kd.int .i64) _ _ _ 12 [.int .i64 12] from rfl) (Reps.one (show Kd.M (Kd.int .i64) _ _ _ 20 [.int .i64 20] from rfl) (Reps.one (show Kd.M (Kd.int .i64) _ _ _ 64 [.int .i64 64] from rfl) (Reps.none _ _)))))));intro v332 w3 ho4 hb hg_ hnew_;clear hg_ hnew_;(first|rw [←Ny331.out] at ho4|(simp only [Int.reduceToNat] at ho4;rw [←Ny331.out] at ho4));have n_:=pk2 (Kd.R_lower ho4 (below_size bl_)) (below_step bl_ hb);clear HB;obtain⟨HO333,HB⟩:=n_;clear hb ho4)|((with_reducible refine gate_callee (f:=34) rfl ?_);refine goL_ (some 9) Try.func34 #[.int .i64 a0] ?_;(with_reducible refine(windroseref17_Class.calls a0 t334 _ A2.out).mono ?_);rintro e w' ⟨rfl,⟨nd,rfl⟩⟩;refine⟨_,rfl,?_⟩)|((with_reducible refine gate_dst (N:=10) rfl ?_);refine Kd.R_lit Kd.bool _ 4 ?hg (N:=10) ?hd (xs:=([]:List Bool)) (inner:=[]) (ok:=fun _=>True) (okp:=fun _=>True) ?hr ?hp (fun _ hk=>hk) trivial (Below.refl _ _) (Nat.le_refl _) (by simp) ?_;(case hd=>rfl);(case hg=>rfl);(case hr=>first|(go_simp;done)|(go_simp;rfl));(case hp=>exact(Reps.none _ _));intro v336 w5 ho6 hb hg_ hnew_;clear hg_ hnew_;(first|rw [←Ny335.out] at ho6|(simp only [Int.reduceToNat] at ho6;rw [←Ny335.out] at ho6));have n_:=pk3 (Kd.R_below (ro_ HO333) hb) (Kd.R_lower ho6 (below_size bl_)) (below_step bl_ hb);clear HO333 HB;obtain⟨HO333,HO337,HB⟩:=n_;clear hb ho6))
 go_loopg [5,6] k (fun kq v5 v6 w'=>∃ (x5_1:List Bool) (x6_1:Int),v6=.int .i64 x6_1∧Aside0 (windroseref17_Coded.l0 kq a0 y331 t334 x5_1 x6_1=some r)∧Aside0 (kq≤k)∧Aside0 (Kd.R (Kd.int .i64) 3 w' w.heap.size (fun _=>True) v332 y331)∧Aside0 (Kd.R Kd.bool 4 w' w.heap.size (fun _=>True) v5 x5_1)∧Aside0 (Below w.heap.size w w'))
 case atStart=>exact⟨(y335),(0),sm_,H',⟨Nat.le_refl _⟩,⟨(ro_ HO333)⟩,⟨(ro_ HO337)⟩,⟨bl_⟩⟩
 case round =>
  clear H'
  obtain⟨x5_1,x6_1,rfl,HA,HK1,HO_3,HO_5,HB⟩:=hrel
  cases gk with
  |zero=>exact absurd HA.out (by simp [windroseref17_Coded.l0])
  |succ k1 =>
   have H:=HA.out
   clear HA
   simp only [windroseref17_Coded.l0] at H
   replace H:=dle H
   rcases H with⟨c7b0,H⟩|⟨c7b0,H⟩
   focus
    by_cases c8:x5_1.length<140737488355328
    rotate_left
    ·rw [if_neg c8] at H
     exact absurd H (by simp)
    rw [if_pos c8] at H
    have LMc8:=Aside0.mk c8
    clear c8
    obtain⟨y338,hy338⟩:∃ y_:List Bool,y_=(x5_1++[true]):=⟨_,rfl⟩
    replace H:(windroseref17_Coded.l0 k1 a0 y331 t334 y338 (wrap64 (x6_1+1)))=some r:=by first|(rw [hy338];with_reducible exact H)|(have H2_:=(Option.bind_some _ _).symm.trans H;rw [hy338];with_reducible exact H2_)|(have H2_:=(Option.bind_some _ _).symm.trans H;with_reducible exact H2_)|with_reducible exact H|(rw [hy338];exact H)|exact H
    have Ny338:=Aside0.mk hy338
    clear hy338
    have H':=Aside0.mk H
    clear H
   rotate_left
   focus
    replace H:=dle H
    rcases H with⟨c10b0,H⟩|⟨c10b0,H⟩
    focus
     by_cases c11:x5_1.length<140737488355328
     rotate_left
     ·rw [if_neg c11] at H
      exact absurd H (by simp)
     rw [if_pos c11] at H
     have LMc11:=Aside0.mk c11
     clear c11
     obtain⟨y341,hy341⟩:∃ y_:List Bool,y_=(x5_1++[false]):=⟨_,rfl⟩
     replace H:((windroseref17_fold.f a0).bind fun t344=>(if 0≤t334 then(if t334<(y331.length:Int)then((windroseref17_Low.f k1 t344 (rd y331 t334)).bind fun t346=>(if y341.length+t346.length<140737488355328 then(some (y341++t346))else(none)))else(none))else(none)))=some r:=by first|(rw [hy341];with_reducible exact H)|(have H2_:=(Option.bind_some _ _).symm.trans H;rw [hy341];with_reducible exact H2_)|(have H2_:=(Option.bind_some _ _).symm.trans H;with_reducible exact H2_)|with_reducible exact H|(rw [hy341];exact H)|exact H
     have Ny341:=Aside0.mk hy341
     clear hy341
     replace H:=bindA H
     obtain⟨t344,A12,H⟩:=H
     try dsimp only at H
     replace H:=dle H
     rcases H with⟨c13b0,H⟩|⟨c13b0,H⟩
     rotate_left
     ·exact absurd H (by simp)
     replace H:=dle H
     rcases H with⟨c14b0,H⟩|⟨c14b0,H⟩
     rotate_left
     ·exact absurd H (by simp)
     replace H:=bindA H
     obtain⟨t346,A15,H⟩:=H
     try dsimp only at H
     by_cases c16:y341.length+t346.length<140737488355328
     rotate_left
     ·rw [if_neg c16] at H
      exact absurd H (by simp)
     rw [if_pos c16] at H
     have LMc16:=Aside0.mk c16
     clear c16
     obtain⟨y349,hy349⟩:∃ y_:List Bool,y_=(y341++t346):=⟨_,rfl⟩
     replace H:(some y349)=some r:=by first|(rw [hy349];with_reducible exact H)|(have H2_:=(Option.bind_some _ _).symm.trans H;rw [hy349];with_reducible exact H2_)|(have H2_:=(Option.bind_some _ _).symm.trans H;with_reducible exact H2_)|with_reducible exact H|(rw [hy349];exact H)|exact H
     have Ny349:=Aside0.mk hy349
     clear hy349
     obtain rfl:=Option.some.inj H
    rotate_left
    focus
     replace H:=bindA H
     obtain⟨t352,A23,H⟩:=H
     try dsimp only at H
     replace H:=dle H
     rcases H with⟨c24b0,H⟩|⟨c24b0,H⟩
     rotate_left
     ·exact absurd H (by simp)
     replace H:=dle H
     rcases H with⟨c25b0,H⟩|⟨c25b0,H⟩
     rotate_left
     ·exact absurd H (by simp)
     replace H:=bindA H
     obtain⟨t354,A26,H⟩:=H
     try dsimp only at H
     by_cases c27:x5_1.length+t354.length<140737488355328
     rotate_left
     ·rw [if_neg c27] at H
      exact absurd H (by simp)
     rw [if_pos c27] at H
     have LMc27:=Aside0.mk c27
     clear c27
     obtain⟨y357,hy357⟩:∃ y_:List Bool,y_=(x5_1++t354):=⟨_,rfl⟩
     replace H:(some y357)=some r:=by first|(rw [hy357];with_reducible exact H)|(have H2_:=(Option.bind_some _ _).symm.trans H;rw [hy357];with_reducible exact H2_)|(have H2_:=(Option.bind_some _ _).symm.trans H;with_reducible exact H2_)|with_reducible exact H|(rw [hy357];exact H)|exact H
     have Ny357:=Aside0.mk hy357
     clear hy357
     obtain rfl:=Option.some.inj H
   all_goals
    first
     |go_wp2_with (first|((with_reducible refine gate_builtin (b:=.append) (xs:=#[.tmp 16,.tmp 17]) rfl ?_);at_builtin;refine Kd.R_append Kd.bool (w0:=w) w.heap.size rfl (.tmp 16) (.tmp 17) 39 4 (.bool false) 1 rfl Try.underlying39 info4 rfl (by decide) (by omega) u5 x5_1 true [.bool true] (fun _=>True) (fun _=>False) rfl rfl ?aP (fun _ hk=>hk.elim) ?aF ?aO ?aB ?aS ?aL ?_;(case aP=>exact rfl);(case aB=>exact bl_);(case aF=>exact(fun _ _=>trivial));(case aO=>exact(ro_ HO_5));(case aS=>exact(below_size bl_));(case aL=>have:=LMc8.out;omega);intro v7000 w7000 ho hb hg hat;rw [←Ny338.out] at ho;have n_:=pk3 (Kd.R_over' (ro_ HO_3) (Kd.R_typed (ro_ HO_5)) (by decide) hg) (hb) (ho);clear HO_3 HB HO_5;obtain⟨HO_3,HB,HO7000⟩:=n_;clear ho hb hg hat))
      go_roundg k1
      case measure=>have:=HK1.out;omega
      case rel=>exact⟨(y338),(wrap64 (x6_1+1)),sm_,H',⟨by have:=HK1.out;omega⟩,⟨(ro_ HO_3)⟩,⟨(ro_ HO7000)⟩,⟨bl_⟩⟩
     |try go_wp2_with (first|((with_reducible refine gate_builtin (b:=.append) (xs:=#[.tmp 21,.tmp 22]) rfl ?_);at_builtin;refine Kd.R_append Kd.bool (w0:=w) w.heap.size rfl (.tmp 21) (.tmp 22) 39 4 (.bool false) 1 rfl Try.underlying39 info4 rfl (by decide) (by omega) u5 x5_1 false [.bool false] (fun _=>True) (fun _=>False) rfl rfl ?aP (fun _ hk=>hk.elim) ?aF ?aO ?aB ?aS ?aL ?_;(case aP=>exact rfl);(case aB=>exact bl_);(case aF=>exact(fun _ _=>trivial));(case aO=>exact(ro_ HO_5));(case aS=>exact(below_size bl_));(case aL=>have:=LMc11.out;omega);intro v7000 w7000 ho hb hg hat;rw [←Ny341.out] at ho;have n_:=pk3 (Kd.R_over' (ro_ HO_3) (Kd.R_typed (ro_ HO_5)) (by decide) hg) (hb) (ho);clear HO_3 HB HO_5;obtain⟨HO_3,HB,HO7000⟩:=n_;clear ho hb hg hat))
      first
       |have n_:=pk3 (Kd.R_drew HO_3.out) (Kd.R_drew HO7000.out) (below_drew1 HB.out)
        clear HO_3 HO7000 HB
        obtain⟨HO_3,HO7000,HB⟩:=n_
        obtain⟨Ao7000,co7000,eo7000⟩:=Kd.R_slice HO_3.out
        (first|subst eo7000|(injection eo7000 with f1_ f2_ f3_;have f7000_:=f1_.symm;have f7001_:=f3_.symm;clear f1_ f2_ f3_;subst f7000_;subst f7001_))
        have p7000:0≤(t334:Int):=dc_
        have q7000:t334<(y331.length:Int):=dc_
        obtain⟨ad7000,e7000,hx7000_0⟩:=Kd.at_int (Kd.R_reads' HO_3.out).2.2 t334 p7000 q7000
        cases e7000
        replace p7000:=eq_true p7000
        replace q7000:=eq_true q7000
        refine start_ (n:=10) (S:=fun w'=>w'.cell? (ad7000.add (t334).toNat)=some (.int .i64 (rd y331 t334))) (ds:=[8]) #[false,false,false,false,false,false,false,false,false,false] (by kernel_rfl) rfl rfl (hx7000_0) (fun hHeld=>?_);refine with_tabW windroseref17_Coded.tab10 windroseref17_Coded.bits10 (fun HT_ HW_=>?_)
        generalize w7000.drew=w7001 at HO_3 HO7000 HB hx7000_0 hHeld ⊢
        refine pure_ (i:=0) (N:=some 24) (v:=?_) (a':=?_) #[true,false,false,false,false,false,false,false,false,false] rfl rfl (any_of HT_.out (by kernel_rfl)) (fun _ _ _ h=>h) (Or.inl ⟨by rfl,?_⟩) ?_ ?_
        rotate_left
        ·intro w'
         go_simp
         with_reducible rfl
        rotate_left
        ·simp only [ap_,sb_,s0_,s1_,i64_w,i32_w]
         rfl
        refine pure_ (i:=1) (N:=some 25) (v:=?_) (a':=?_) #[true,true,false,false,false,false,false,false,false,false] rfl rfl (any_of HT_.out (by kernel_rfl)) (fun _ _ _ h=>h) (Or.inl ⟨by rfl,?_⟩) ?_ ?_
        rotate_left
        ·intro w'
         go_simp
         with_reducible rfl
        rotate_left
        ·simp only [ap_,sb_,s0_,s1_,i64_w,i32_w]
         rfl
        refine pure_ (i:=3) (N:=some 27) (v:=?_) (a':=?_) #[true,true,false,true,false,false,false,false,false,false] rfl rfl (any_of HT_.out (by kernel_rfl)) (fun _ _ _ h=>h) (Or.inl ⟨by rfl,?_⟩) ?_ ?_
        rotate_left
        ·intro w'
         go_simp
         with_reducible rfl
        rotate_left
        ·simp only [ap_,sb_,s0_,s1_,i64_w,i32_w]
         rfl
        refine pure_ (i:=4) (N:=some 28) (v:=?_) (a':=?_) #[true,true,false,true,true,false,false,false,false,false] rfl rfl (any_of HT_.out (by kernel_rfl)) (fun _ _ _ h=>h) (Or.inl ⟨by rfl,?_⟩) ?_ ?_
        rotate_left
        ·intro w'
         go_simp
         with_reducible rfl
        rotate_left
        ·simp only [ap_,sb_,s0_,s1_,i64_w,i32_w]
         rfl
        refine pure_ (i:=5) (N:=some 29) (v:=?_) (a':=?_) #[true,true,false,true,true,true,false,false,false,false] rfl rfl (any_of HT_.out (by kernel_rfl)) (fun _ _ _ h=>h) (Or.inl ⟨by rfl,?_⟩) ?_ ?_
        rotate_left
        ·intro w'
         go_simp
         with_reducible rfl
        rotate_left
        ·simp only [ap_,sb_,s0_,s1_,i64_w,i32_w]
         rfl
        refine take_ (i:=6) (N:=some 30) (v:=?_) (a':=?_) #[true,true,false,true,true,true,true,false,false,false] rfl rfl (take_ofW HT_.out HW_.out (by kernel_rfl)) (fun _ _ _ h=>h) (Or.inl ⟨by rfl,?_⟩) hHeld ?_ ?_
        rotate_left
        ·intro w' s7000
         go_simp
         with_reducible rfl
        rotate_left
        ·simp only [ap_,sb_,s0_,s1_,i64_w,i32_w]
         rfl
        refine one_ (i:=2) (N:=some 26) #[true,true,true,true,true,true,true,false,false,false] rfl rfl (one_of HT_.out (by kernel_rfl)) (by decide) (fun K hK=>?_)
        refine goes_ Try.func68 (by kernel_rfl) rfl #[.int .i64 a0] (by rfl) rfl rfl (by(try simp only [List.map_toArray,List.map_cons,List.map_nil]);first|done|rfl|(simp only [List.length_drop,List.length_take];rfl)) ?_
        with_reducible refine(windroseref17_fold.calls a0 t344 _ A12.out).mono ?_
        rintro e w' ⟨rfl,⟨nd,rfl⟩⟩
        refine⟨_,rfl,?_⟩
        refine hK.out _ _ (hHeld) (fun hHeld=>?_)
        clear hK K
        refine norm_ (a':=?_) ?_ ?_
        rotate_left
        ·show Act.put _ (some 26) _=_
         simp only [ap_,sb_,s0_,s1_,i64_w,i32_w]
         rfl
        refine one_ (i:=7) (N:=some 31) #[true,true,true,true,true,true,true,true,false,false] rfl rfl (one_of HT_.out (by kernel_rfl)) (by decide) (fun K hK=>?_)
        refine goes_ Try.func35 (by kernel_rfl) rfl #[.int .u64 t344,.int .i64 (rd y331 t334)] (by rfl) rfl rfl (by(try simp only [List.map_toArray,List.map_cons,List.map_nil]);first|done|rfl|(simp only [List.length_drop,List.length_take];rfl)) ?_
        with_reducible refine(windroseref17_Low.calls k1 t344 (rd y331 t334) t346 _ A15.out).mono ?_
        rintro e w7002 ⟨v7001,rfl,ho7000,hb⟩
        have HS7000_:=(hb.cell (World.block_lt_of_cell? _ _ (hHeld))).trans (hHeld)
        refine⟨_,rfl,?_⟩
        have n_:=pk4 (Kd.R_below (ro_ HO_3) hb) (Kd.R_elder' (ro_ HO7000) (Kd.R_base ho7000) hb) (Kd.R_lower (Kd.R_new' ho7000 (Kd.R_lt (ro_ HO7000))) (below_size bl_)) (below_step bl_ hb)
        clear HO_3 HO7000 HB
        obtain⟨HO_3,HO7000,HO7001,HB⟩:=n_
        (try clear hb)
        (try clear hb2)
        (try clear hk)
        (try clear hi)
        (try clear ho7000)
        obtain⟨Ao7001,co7001,eo7001⟩:=Kd.R_slice HO7001.out
        (first|subst eo7001|(injection eo7001 with f1_ f2_ f3_;have f7000_:=f1_.symm;have f7001_:=f3_.symm;clear f1_ f2_ f3_;subst f7000_;subst f7001_))
        refine hK.out _ _ (HS7000_) (fun hHeld=>?_)
        clear hK K
        refine norm_ (a':=?_) ?_ ?_
        rotate_left
        ·show Act.put _ (some 31) _=_
         simp only [ap_,sb_,s0_,s1_,i64_w,i32_w]
         rfl
        refine last_ (i:=8) (N:=some 32) #[true,true,true,true,true,true,true,true,true,false] rfl rfl (one_of HT_.out (by kernel_rfl)) (by decide) (fun K hK=>?_)
        refine Kd.R_append_rows_step Kd.bool (w0:=w) w.heap.size (by rfl) (.tmp 24) (.tmp 31) 39 4 (.bool false) 1 rfl Try.underlying39 info4 rfl (by decide) (by omega) v7000 y341 t346 _ _ _ (fun k_=>some k_≠(.slice Ao7001 t346.length co7001:Value).ownBlock) (fun _=>False) rfl rfl ?aO ?aR (fun _ _ h=>h) (fun _ h=>h.elim) ?aF ?aB ?aS ?aL ?_
        (case aR=>exact cr_ HO7001)
        (case aB=>exact bl_)
        (case aF=>exact(fun k_ hk=>Kd.fresh' (Kd.R_lt (ro_ HO7001)) k_ hk))
        (case aO=>exact(rt_ (Kd.R_mono HO7000.out (fun _ hk=>hk.2))))
        (case aS=>exact(below_size bl_))
        (case aL=>have:=LMc16.out;omega)
        intro v7002 w7003 ho hb hg hat
        rw [←Ny349.out] at ho
        have n_:=pk4 (Kd.R_over' (ro_ HO_3) (Kd.R_typed (ro_ HO7000)) (by decide) hg) (Kd.R_after (ok:=(fun _=>True)) (ro_ HO7001) hg hat) (hb) (ho)
        clear HO_3 HO7001 HB HO7000
        obtain⟨HO_3,HO7001,HB,HO7002⟩:=n_
        clear ho hb hg hat
        refine hK.out _ _ ?_
        clear hK K
        refine norm_ (a':=?_) ?_ ?_
        rotate_left
        ·show Act.put _ (some 32) _=_
         simp only [ap_,sb_,s0_,s1_,i64_w,i32_w]
         rfl
        refine pure_ (i:=9) (N:=some 2) (v:=?_) (a':=?_) #[true,true,true,true,true,true,true,true,true,true] rfl rfl (any_of HT_.out (by kernel_rfl)) (fun _ _ _ h=>h) (Or.inl ⟨by rfl,?_⟩) ?_ ?_
        rotate_left
        ·intro w'
         go_simp
         with_reducible rfl
        rotate_left
        ·simp only [ap_,sb_,s0_,s1_,i64_w,i32_w]
         rfl
        refine done_ (done_of HT_.out (by kernel_rfl)) ?_
        try go_wp2
        go_ret
        exact⟨_,rf_,(rt_ (Kd.R_mono HO7002.out (fun _ hk=>trivial))),bl_⟩
       |have n_:=pk3 (Kd.R_drew HO_3.out) (Kd.R_drew HO_5.out) (below_drew1 HB.out)
        clear HO_3 HO_5 HB
        obtain⟨HO_3,HO_5,HB⟩:=n_
        obtain⟨Ao7000,co7000,eo7000⟩:=Kd.R_slice HO_3.out
        (first|subst eo7000|(injection eo7000 with f1_ f2_ f3_;have f7000_:=f1_.symm;have f7001_:=f3_.symm;clear f1_ f2_ f3_;subst f7000_;subst f7001_))
        have p7000:0≤(t334:Int):=dc_
        have q7000:t334<(y331.length:Int):=dc_
        obtain⟨ad7000,e7000,hx7000_0⟩:=Kd.at_int (Kd.R_reads' HO_3.out).2.2 t334 p7000 q7000
        cases e7000
        replace p7000:=eq_true p7000
        replace q7000:=eq_true q7000
        refine start_ (n:=10) (S:=fun w'=>w'.cell? (ad7000.add (t334).toNat)=some (.int .i64 (rd y331 t334))) (ds:=[8]) #[false,false,false,false,false,false,false,false,false,false] (by kernel_rfl) rfl rfl (hx7000_0) (fun hHeld=>?_);refine with_tabW windroseref17_Coded.tab10 windroseref17_Coded.bits10 (fun HT_ HW_=>?_)
        generalize wr.drew=w7000 at HO_3 HO_5 HB hx7000_0 hHeld ⊢
        refine pure_ (i:=0) (N:=some 24) (v:=?_) (a':=?_) #[true,false,false,false,false,false,false,false,false,false] rfl rfl (any_of HT_.out (by kernel_rfl)) (fun _ _ _ h=>h) (Or.inl ⟨by rfl,?_⟩) ?_ ?_
        rotate_left
        ·intro w'
         go_simp
         with_reducible rfl
        rotate_left
        ·simp only [ap_,sb_,s0_,s1_,i64_w,i32_w]
         rfl
        refine pure_ (i:=1) (N:=some 25) (v:=?_) (a':=?_) #[true,true,false,false,false,false,false,false,false,false] rfl rfl (any_of HT_.out (by kernel_rfl)) (fun _ _ _ h=>h) (Or.inl ⟨by rfl,?_⟩) ?_ ?_
        rotate_left
        ·intro w'
         go_simp
         with_reducible rfl
        rotate_left
        ·simp only [ap_,sb_,s0_,s1_,i64_w,i32_w]
         rfl
        refine pure_ (i:=3) (N:=some 27) (v:=?_) (a':=?_) #[true,true,false,true,false,false,false,false,false,false] rfl rfl (any_of HT_.out (by kernel_rfl)) (fun _ _ _ h=>h) (Or.inl ⟨by rfl,?_⟩) ?_ ?_
        rotate_left
        ·intro w'
         go_simp
         with_reducible rfl
        rotate_left
        ·simp only [ap_,sb_,s0_,s1_,i64_w,i32_w]
         rfl
        refine pure_ (i:=4) (N:=some 28) (v:=?_) (a':=?_) #[true,true,false,true,true,false,false,false,false,false] rfl rfl (any_of HT_.out (by kernel_rfl)) (fun _ _ _ h=>h) (Or.inl ⟨by rfl,?_⟩) ?_ ?_
        rotate_left
        ·intro w'
         go_simp
         with_reducible rfl
        rotate_left
        ·simp only [ap_,sb_,s0_,s1_,i64_w,i32_w]
         rfl
        refine pure_ (i:=5) (N:=some 29) (v:=?_) (a':=?_) #[true,true,false,true,true,true,false,false,false,false] rfl rfl (any_of HT_.out (by kernel_rfl)) (fun _ _ _ h=>h) (Or.inl ⟨by rfl,?_⟩) ?_ ?_
        rotate_left
        ·intro w'
         go_simp
         with_reducible rfl
        rotate_left
        ·simp only [ap_,sb_,s0_,s1_,i64_w,i32_w]
         rfl
        refine take_ (i:=6) (N:=some 30) (v:=?_) (a':=?_) #[true,true,false,true,true,true,true,false,false,false] rfl rfl (take_ofW HT_.out HW_.out (by kernel_rfl)) (fun _ _ _ h=>h) (Or.inl ⟨by rfl,?_⟩) hHeld ?_ ?_
        rotate_left
        ·intro w' s7000
         go_simp
         with_reducible rfl
        rotate_left
        ·simp only [ap_,sb_,s0_,s1_,i64_w,i32_w]
         rfl
        refine one_ (i:=2) (N:=some 26) #[true,true,true,true,true,true,true,false,false,false] rfl rfl (one_of HT_.out (by kernel_rfl)) (by decide) (fun K hK=>?_)
        refine goes_ Try.func68 (by kernel_rfl) rfl #[.int .i64 a0] (by rfl) rfl rfl (by(try simp only [List.map_toArray,List.map_cons,List.map_nil]);first|done|rfl|(simp only [List.length_drop,List.length_take];rfl)) ?_
        with_reducible refine(windroseref17_fold.calls a0 t352 _ A23.out).mono ?_
        rintro e w' ⟨rfl,⟨nd,rfl⟩⟩
        refine⟨_,rfl,?_⟩
        refine hK.out _ _ (hHeld) (fun hHeld=>?_)
        clear hK K
        refine norm_ (a':=?_) ?_ ?_
        rotate_left
        ·show Act.put _ (some 26) _=_
         simp only [ap_,sb_,s0_,s1_,i64_w,i32_w]
         rfl
        refine one_ (i:=7) (N:=some 31) #[true,true,true,true,true,true,true,true,false,false] rfl rfl (one_of HT_.out (by kernel_rfl)) (by decide) (fun K hK=>?_)
        refine goes_ Try.func35 (by kernel_rfl) rfl #[.int .u64 t352,.int .i64 (rd y331 t334)] (by rfl) rfl rfl (by(try simp only [List.map_toArray,List.map_cons,List.map_nil]);first|done|rfl|(simp only [List.length_drop,List.length_take];rfl)) ?_
        with_reducible refine(windroseref17_Low.calls k1 t352 (rd y331 t334) t354 _ A26.out).mono ?_
        rintro e w7001 ⟨v7000,rfl,ho7000,hb⟩
        have HS7000_:=(hb.cell (World.block_lt_of_cell? _ _ (hHeld))).trans (hHeld)
        refine⟨_,rfl,?_⟩
        have n_:=pk4 (Kd.R_below (ro_ HO_3) hb) (Kd.R_elder' (ro_ HO_5) (Kd.R_base ho7000) hb) (Kd.R_lower (Kd.R_new' ho7000 (Kd.R_lt (ro_ HO_5))) (below_size bl_)) (below_step bl_ hb)
        clear HO_3 HO_5 HB
        obtain⟨HO_3,HO_5,HO7000,HB⟩:=n_
        (try clear hb)
        (try clear hb2)
        (try clear hk)
        (try clear hi)
        (try clear ho7000)
        obtain⟨Ao7001,co7001,eo7001⟩:=Kd.R_slice HO7000.out
        (first|subst eo7001|(injection eo7001 with f1_ f2_ f3_;have f7000_:=f1_.symm;have f7001_:=f3_.symm;clear f1_ f2_ f3_;subst f7000_;subst f7001_))
        refine hK.out _ _ (HS7000_) (fun hHeld=>?_)
        clear hK K
        refine norm_ (a':=?_) ?_ ?_
        rotate_left
        ·show Act.put _ (some 31) _=_
         simp only [ap_,sb_,s0_,s1_,i64_w,i32_w]
         rfl
        refine last_ (i:=8) (N:=some 32) #[true,true,true,true,true,true,true,true,true,false] rfl rfl (one_of HT_.out (by kernel_rfl)) (by decide) (fun K hK=>?_)
        refine Kd.R_append_rows_step Kd.bool (w0:=w) w.heap.size (by rfl) (.tmp 24) (.tmp 31) 39 4 (.bool false) 1 rfl Try.underlying39 info4 rfl (by decide) (by omega) u5 x5_1 t354 _ _ _ (fun k_=>some k_≠(.slice Ao7001 t354.length co7001:Value).ownBlock) (fun _=>False) rfl rfl ?aO ?aR (fun _ _ h=>h) (fun _ h=>h.elim) ?aF ?aB ?aS ?aL ?_
        (case aR=>exact cr_ HO7000)
        (case aB=>exact bl_)
        (case aF=>exact(fun k_ hk=>Kd.fresh' (Kd.R_lt (ro_ HO7000)) k_ hk))
        (case aO=>exact(rt_ (Kd.R_mono HO_5.out (fun _ hk=>hk.2))))
        (case aS=>exact(below_size bl_))
        (case aL=>have:=LMc27.out;omega)
        intro v7001 w7002 ho hb hg hat
        rw [←Ny357.out] at ho
        have n_:=pk4 (Kd.R_over' (ro_ HO_3) (Kd.R_typed (ro_ HO_5)) (by decide) hg) (Kd.R_after (ok:=(fun _=>True)) (ro_ HO7000) hg hat) (hb) (ho)
        clear HO_3 HO7000 HB HO_5
        obtain⟨HO_3,HO7000,HB,HO7001⟩:=n_
        clear ho hb hg hat
        refine hK.out _ _ ?_
        clear hK K
        refine norm_ (a':=?_) ?_ ?_
        rotate_left
        ·show Act.put _ (some 32) _=_
         simp only [ap_,sb_,s0_,s1_,i64_w,i32_w]
         rfl
        refine pure_ (i:=9) (N:=some 2) (v:=?_) (a':=?_) #[true,true,true,true,true,true,true,true,true,true] rfl rfl (any_of HT_.out (by kernel_rfl)) (fun _ _ _ h=>h) (Or.inl ⟨by rfl,?_⟩) ?_ ?_
        rotate_left
        ·intro w'
         go_simp
         with_reducible rfl
        rotate_left
        ·simp only [ap_,sb_,s0_,s1_,i64_w,i32_w]
         rfl
        refine done_ (done_of HT_.out (by kernel_rfl)) ?_
        try go_wp2
        go_ret
        exact⟨_,rf_,(rt_ (Kd.R_mono HO7001.out (fun _ hk=>trivial))),bl_⟩
end Go.Proofs.Ytmddmbagehjdeaa.G
end
section
namespace Go.Proofs.Ytmddmbagehjdeaa.G
open Go.RowKit Go.Proofs.YtmddmbagehjdeaaX Go.Proofs.YtmddmbagehjdeaaW.PrintWords Go.Proofs.YtmddmbagehjdeaaW.PrintLast Go.Proofs.YtmddmbagehjdeaaW.PrintMore
attribute [local go_sem] max2_int min2_int max_two min_two max_three min_three max_four min_four
def windroseref18_Same.f (a0_0:Int) (a0_1:Int) (a0_2:Int) (l0_3:List Int) (a0_4:Int) (a1_0:Int) (a1_1:Int) (a1_2:Int) (l1_3:List Int) (a1_4:Int):Option (Bool):=if a0_0=a1_0 then(if a0_1=a1_1 then(if a0_2=a1_2 then((windroseref17_Same.f l0_3 a0_4 l1_3 a1_4).bind fun t641=>(some t641))else(some false))else(some false))else(some false)
theorem windroseref18_Same.calls (a0_0:Int) (a0_1:Int) (a0_2:Int) (A0_3:Option Addr) (c0_3:Nat) (l0_3:List Int) (a0_4:Int) (a1_0:Int) (a1_1:Int) (a1_2:Int) (A1_3:Option Addr) (c1_3:Nat) (l1_3:List Int) (a1_4:Int) (r:Bool) (w:World) (hr0_3:Kd.C (Kd.int .u8) w A0_3 l0_3.length l0_3) (hc0_3:l0_3.length≤c0_3) (hr1_3:Kd.C (Kd.int .u8) w A1_3 l1_3.length l1_3) (hc1_3:l1_3.length≤c1_3) (h:windroseref18_Same.f a0_0 a0_1 a0_2 l0_3 a0_4 a1_0 a1_1 a1_2 l1_3 a1_4=some r) :
  Calls Try.prog 39 #[.agg #[.int .i64 a0_0,.int .i64 a0_1,.int .i64 a0_2,.slice A0_3 l0_3.length c0_3,.int .i64 a0_4],.agg #[.int .i64 a1_0,.int .i64 a1_1,.int .i64 a1_2,.slice A1_3 l1_3.length c1_3,.int .i64 a1_4]] w fun e w'=>e=.returned (.bool r)∧Below w.heap.size w w':=by
 have hu69:=Try.underlying69
 have hu25:=Try.underlying25
 have HR0_3:=Aside0.mk hr0_3
 have HC0_3:=Aside0.mk hc0_3
 clear hr0_3 hc0_3
 have HR1_3:=Aside0.mk hr1_3
 have HC1_3:=Aside0.mk hc1_3
 clear hr1_3 hc1_3
 have HB:=Aside0.mk (Below.refl w.heap.size w)
 have H:(if a0_0=a1_0 then(if a0_1=a1_1 then(if a0_2=a1_2 then((windroseref17_Same.f l0_3 a0_4 l1_3 a1_4).bind fun t641=>(some t641))else(some false))else(some false))else(some false))=some r:=h
 clear h
 replace H:=deqn H
 rcases H with⟨c3b0,c3b1,H⟩|⟨c3b0,c3b1,c3,H⟩
 focus
  replace H:=deqn H
  rcases H with⟨c4b0,c4b1,H⟩|⟨c4b0,c4b1,c4,H⟩
  focus
   replace H:=deqn H
   rcases H with⟨c5b0,c5b1,H⟩|⟨c5b0,c5b1,c5,H⟩
   focus
    replace H:=bindA H
    obtain⟨t641,A6,H⟩:=H
    try dsimp only at H
    obtain rfl:=Option.some.inj H
   rotate_left
   focus
    obtain rfl:=Option.some.inj H
  rotate_left 2
  focus
   obtain rfl:=Option.some.inj H
 rotate_left 3
 focus
  obtain rfl:=Option.some.inj H
 all_goals
  go_enter Try.func39,Try.ntmps39
  go_wp2_with (first|((with_reducible refine gate_dst (N:=2) rfl ?_);refine box_ev 2 #[.int .i64 a0_0,.int .i64 a0_1,.int .i64 a0_2,.slice A0_3 l0_3.length c0_3,.int .i64 a0_4] 69 ?_;intro gb7000 hg w7000 hbox hb;have n_:=pk4 (below_step bl_ hb) (hbox) ((ge_ hg bl_:w.heap.size≤gb7000)) ((ge_ hg bl_:w.heap.size≤gb7000));clear HB;obtain⟨HB,BK7000,GW7000,GE7000⟩:=n_;clear hb hbox hg)|((with_reducible refine gate_dst (N:=3) rfl ?_);refine box_ev 3 #[.int .i64 a1_0,.int .i64 a1_1,.int .i64 a1_2,.slice A1_3 l1_3.length c1_3,.int .i64 a1_4] 69 ?_;intro gb7001 hg w7001 hbox hb;have n_:=pk7 (blk_below (bo_ BK7000) hb) (below_step bl_ hb) (hbox) ((ge_ hg bl_:w.heap.size≤gb7001)) ((ge_ hg bl_:w.heap.size≤gb7001)) ((nb_ hg (bo_ BK7000):gb7000≠gb7001)) ((nc_ hg (bo_ BK7000):gb7001≠gb7000));clear BK7000 HB;obtain⟨BK7000,HB,BK7001,GW7001,GE7001,NB7000_7001,NB7001_7000⟩:=n_;clear hb hbox hg;have hnb7000:=NB7000_7001.out;have hnc7000:=NB7001_7000.out;have hcz7000_0:w7001.cell? ⟨gb7000,0,none⟩=some (.int .i64 a0_0):=(blk_cell BK7000.out 0).trans rfl;have hcz7000_1:w7001.cell? ⟨gb7000,1,none⟩=some (.int .i64 a0_1):=(blk_cell BK7000.out 1).trans rfl;have hcz7000_2:w7001.cell? ⟨gb7000,2,none⟩=some (.int .i64 a0_2):=(blk_cell BK7000.out 2).trans rfl;have hcz7000_3:w7001.cell? ⟨gb7000,3,none⟩=some (.slice A0_3 l0_3.length c0_3):=(blk_cell BK7000.out 3).trans rfl;have hcz7000_4:w7001.cell? ⟨gb7000,4,none⟩=some (.int .i64 a0_4):=(blk_cell BK7000.out 4).trans rfl;have hfz7000_0:=blk_frozen BK7000.out 0;have hfz7000_1:=blk_frozen BK7000.out 1;have hfz7000_2:=blk_frozen BK7000.out 2;have hfz7000_3:=blk_frozen BK7000.out 3;have hfz7000_4:=blk_frozen BK7000.out 4;have hcz7001_0:w7001.cell? ⟨gb7001,0,none⟩=some (.int .i64 a1_0):=(blk_cell BK7001.out 0).trans rfl;have hcz7001_1:w7001.cell? ⟨gb7001,1,none⟩=some (.int .i64 a1_1):=(blk_cell BK7001.out 1).trans rfl;have hcz7001_2:w7001.cell? ⟨gb7001,2,none⟩=some (.int .i64 a1_2):=(blk_cell BK7001.out 2).trans rfl;have hcz7001_3:w7001.cell? ⟨gb7001,3,none⟩=some (.slice A1_3 l1_3.length c1_3):=(blk_cell BK7001.out 3).trans rfl;have hcz7001_4:w7001.cell? ⟨gb7001,4,none⟩=some (.int .i64 a1_4):=(blk_cell BK7001.out 4).trans rfl;have hfz7001_0:=blk_frozen BK7001.out 0;have hfz7001_1:=blk_frozen BK7001.out 1;have hfz7001_2:=blk_frozen BK7001.out 2;have hfz7001_3:=blk_frozen BK7001.out 3;have hfz7001_4:=blk_frozen BK7001.out 4)|(go_at_call 66;(with_reducible refine(windroseref17_Same.calls _ _ l0_3 a0_4 _ _ l1_3 a1_4 t641 _ ?side1 ?side2 ?side3 ?side4 A6.out).mono ?_);(case side1=>exact cb_ HR0_3);(case side2=>exact HC0_3.out);(case side3=>exact cb_ HR1_3);(case side4=>exact HC1_3.out);rintro e w7002 ⟨rfl,hb⟩;have n_:=pk3 (blk_below (bo_ BK7000) hb) (blk_below (bo_ BK7001) hb) (below_step bl_ hb);clear BK7000 BK7001 HB;obtain⟨BK7000,BK7001,HB⟩:=n_;(try clear hb)))
  go_ret
  exact⟨rf_,bl_⟩
def windroseref11_Nums.l0:Nat→List (S67)→List Int→Int→Option (List Int)
 |0,_,_,_=>none
 |k+1,x0,x3,x4=>if x4<(x0.length:Int)then(if 0≤x4 then(if x4>0 then(if 0≤(wrap64 (x4 - 1))then(if(wrap64 (x4 - 1))<(x0.length:Int)then(if x4>1 then(if 0≤(wrap64 (x4 - 2))then(if(wrap64 (x4 - 2))<(x0.length:Int)then((some (([wrap64 ((wrap64 (((rd_T67 x0 x4).f0) - ((rd_T67 x0 (wrap64 (x4 - 1))).f0))) - (wrap64 (((rd_T67 x0 (wrap64 (x4 - 1))).f0) - ((rd_T67 x0 (wrap64 (x4 - 2))).f0)))),wrap64 ((wrap64 (((rd_T67 x0 x4).f1) - ((rd_T67 x0 (wrap64 (x4 - 1))).f1))) - (wrap64 (((rd_T67 x0 (wrap64 (x4 - 1))).f1) - ((rd_T67 x0 (wrap64 (x4 - 2))).f1))))]:List Int):List Int)).bind fun y653=>(if x3.length+y653.length<17592186044416 then(windroseref11_Nums.l0 k x0 (x3++y653) (wrap64 (x4+1)))else(none)))else(none))else(none))else((some (([wrap64 (((rd_T67 x0 x4).f0) - ((rd_T67 x0 (wrap64 (x4 - 1))).f0)),wrap64 (((rd_T67 x0 x4).f1) - ((rd_T67 x0 (wrap64 (x4 - 1))).f1))]:List Int):List Int)).bind fun y659=>(if x3.length+y659.length<17592186044416 then(windroseref11_Nums.l0 k x0 (x3++y659) (wrap64 (x4+1)))else(none))))else(none))else(none))else(if x4>1 then(if 0≤(wrap64 (x4 - 1))then(if(wrap64 (x4 - 1))<(x0.length:Int)then(if 0≤(wrap64 (x4 - 2))then(if(wrap64 (x4 - 2))<(x0.length:Int)then((some (([wrap64 (((rd_T67 x0 x4).f0) - (wrap64 (((rd_T67 x0 (wrap64 (x4 - 1))).f0) - ((rd_T67 x0 (wrap64 (x4 - 2))).f0)))),wrap64 (((rd_T67 x0 x4).f1) - (wrap64 (((rd_T67 x0 (wrap64 (x4 - 1))).f1) - ((rd_T67 x0 (wrap64 (x4 - 2))).f1))))]:List Int):List Int)).bind fun y669=>(if x3.length+y669.length<17592186044416 then(windroseref11_Nums.l0 k x0 (x3++y669) (wrap64 (x4+1)))else(none)))else(none))else(none))else(none))else(none))else((some (([(rd_T67 x0 x4).f0,(rd_T67 x0 x4).f1]:List Int):List Int)).bind fun y675=>(if x3.length+y675.length<17592186044416 then(windroseref11_Nums.l0 k x0 (x3++y675) (wrap64 (x4+1)))else(none)))))else(none))else(some x3)
def windroseref11_Nums.f (k:Nat) (l0:List (S67)):Option (List Int):=windroseref11_Nums.l0 k l0 (([(l0.length:Int)]:List Int)) 0
theorem windroseref11_Nums.calls (k:Nat) (A0:Option Addr) (c0:Nat) (l0:List (S67)) (r:List Int) (w:World) (hr0:Kd.C k67 w A0 l0.length l0) (hc0:l0.length≤c0) (h:windroseref11_Nums.f k l0=some r) :
  Calls Try.prog 87 #[.slice A0 l0.length c0] w fun e w'=>∃ v0_:Value,e=.returned (v0_)∧Kd.R (Kd.int .i64) 3 w' w.heap.size (fun _=>True) v0_ r∧Below w.heap.size w w':=by
 have HR0:=Aside0.mk hr0
 have HC0:=Aside0.mk hc0
 clear hr0 hc0
 have HB:=Aside0.mk (Below.refl w.heap.size w)
 have H:(windroseref11_Nums.l0 k l0 (([(l0.length:Int)]:List Int)) 0)=some r:=h
 clear h
 obtain⟨y642,hy642⟩:∃ y_:List Int,y_=(([(l0.length:Int)]:List Int)):=⟨_,rfl⟩
 replace H:(windroseref11_Nums.l0 k l0 y642 0)=some r:=by first|(rw [hy642];with_reducible exact H)|(have H2_:=(Option.bind_some _ _).symm.trans H;rw [hy642];with_reducible exact H2_)|(have H2_:=(Option.bind_some _ _).symm.trans H;with_reducible exact H2_)|with_reducible exact H|(rw [hy642];exact H)|exact H
 have Ny642:=Aside0.mk hy642
 clear hy642
 have H':=Aside0.mk H
 clear H
 go_enter Try.func87,Try.ntmps87
 go_wp2_with (first|((with_reducible refine gate_dst (N:=9) rfl ?_);refine Kd.R_lit (Kd.int .i64) _ 3 ?hg (N:=9) ?hd (xs:=([(l0.length:Int)]:List Int)) (inner:=[.int .i64 (l0.length:Int)]) (ok:=fun _=>True) (okp:=fun _=>True) ?hr ?hp (fun _ hk=>hk) trivial (Below.refl _ _) (Nat.le_refl _) (by simp) ?_;(case hd=>rfl);(case hg=>rfl);(case hr=>first|(go_simp;done)|(go_simp;rfl));(case hp=>exact(Reps.one (show Kd.M (Kd.int .i64) _ _ _ (l0.length:Int) [.int .i64 (l0.length:Int)] from rfl) (Reps.none _ _)));intro v643 w2 ho3 hb hg_ hnew_;clear hg_ hnew_;(first|rw [←Ny642.out] at ho3|(simp only [Int.reduceToNat] at ho3;rw [←Ny642.out] at ho3));have n_:=pk2 (Kd.R_lower ho3 (below_size bl_)) (below_step bl_ hb);clear HB;obtain⟨HO644,HB⟩:=n_;clear hb ho3))
 repeat(go_quiet (first|((with_reducible refine gate_dst (N:=9) rfl ?_);refine Kd.R_lit (Kd.int .i64) _ 3 ?hg (N:=9) ?hd (xs:=([(l0.length:Int)]:List Int)) (inner:=[.int .i64 (l0.length:Int)]) (ok:=fun _=>True) (okp:=fun _=>True) ?hr ?hp (fun _ hk=>hk) trivial (Below.refl _ _) (Nat.le_refl _) (by simp) ?_;(case hd=>rfl);(case hg=>rfl);(case hr=>first|(go_simp;done)|(go_simp;rfl));(case hp=>exact(Reps.one (show Kd.M (Kd.int .i64) _ _ _ (l0.length:Int) [.int .i64 (l0.length:Int)] from rfl) (Reps.none _ _)));intro v643 w2 ho3 hb hg_ hnew_;clear hg_ hnew_;(first|rw [←Ny642.out] at ho3|(simp only [Int.reduceToNat] at ho3;rw [←Ny642.out] at ho3));have n_:=pk2 (Kd.R_lower ho3 (below_size bl_)) (below_step bl_ hb);clear HB;obtain⟨HO644,HB⟩:=n_;clear hb ho3));try go_wp2_with (first|((with_reducible refine gate_dst (N:=9) rfl ?_);refine Kd.R_lit (Kd.int .i64) _ 3 ?hg (N:=9) ?hd (xs:=([(l0.length:Int)]:List Int)) (inner:=[.int .i64 (l0.length:Int)]) (ok:=fun _=>True) (okp:=fun _=>True) ?hr ?hp (fun _ hk=>hk) trivial (Below.refl _ _) (Nat.le_refl _) (by simp) ?_;(case hd=>rfl);(case hg=>rfl);(case hr=>first|(go_simp;done)|(go_simp;rfl));(case hp=>exact(Reps.one (show Kd.M (Kd.int .i64) _ _ _ (l0.length:Int) [.int .i64 (l0.length:Int)] from rfl) (Reps.none _ _)));intro v643 w2 ho3 hb hg_ hnew_;clear hg_ hnew_;(first|rw [←Ny642.out] at ho3|(simp only [Int.reduceToNat] at ho3;rw [←Ny642.out] at ho3));have n_:=pk2 (Kd.R_lower ho3 (below_size bl_)) (below_step bl_ hb);clear HB;obtain⟨HO644,HB⟩:=n_;clear hb ho3)))
 go_loopg [3,4] k (fun kq v3 v4 w'=>∃ (x3_1:List Int) (x4_1:Int),v4=.int .i64 x4_1∧Aside0 (windroseref11_Nums.l0 kq l0 x3_1 x4_1=some r)∧Aside0 (kq≤k)∧Aside0 (Kd.R (Kd.int .i64) 3 w' w.heap.size (fun _=>True) v3 x3_1)∧Aside0 (Below w.heap.size w w'))
 case atStart=>exact⟨(y642),(0),sm_,H',⟨Nat.le_refl _⟩,⟨(ro_ HO644)⟩,⟨bl_⟩⟩
 case round =>
  clear H'
  obtain⟨x3_1,x4_1,rfl,HA,HK1,HO_3,HB⟩:=hrel
  cases gk with
  |zero=>exact absurd HA.out (by simp [windroseref11_Nums.l0])
  |succ k1 =>
   have H:=HA.out
   clear HA
   simp only [windroseref11_Nums.l0] at H
   replace H:=dle H
   rcases H with⟨c4b0,H⟩|⟨c4b0,H⟩
   focus
    replace H:=dle H
    rcases H with⟨c5b0,H⟩|⟨c5b0,H⟩
    rotate_left
    ·exact absurd H (by simp)
    replace H:=dgt H
    rcases H with⟨c6b0,H⟩|⟨c6b0,H⟩
    focus
     obtain⟨ji7,hji7⟩:∃ j_:Int,(wrap64 (x4_1 - 1))=j_:=⟨_,rfl⟩
     replace H:(if 0≤(ji7)then(if(ji7)<(l0.length:Int)then(if x4_1>1 then(if 0≤(wrap64 (x4_1 - 2))then(if(wrap64 (x4_1 - 2))<(l0.length:Int)then((some (([wrap64 ((wrap64 (((rd_T67 l0 x4_1).f0) - ((rd_T67 l0 (ji7)).f0))) - (wrap64 (((rd_T67 l0 (ji7)).f0) - ((rd_T67 l0 (wrap64 (x4_1 - 2))).f0)))),wrap64 ((wrap64 (((rd_T67 l0 x4_1).f1) - ((rd_T67 l0 (ji7)).f1))) - (wrap64 (((rd_T67 l0 (ji7)).f1) - ((rd_T67 l0 (wrap64 (x4_1 - 2))).f1))))]:List Int):List Int)).bind fun y653=>(if x3_1.length+y653.length<17592186044416 then(windroseref11_Nums.l0 k1 l0 (x3_1++y653) (wrap64 (x4_1+1)))else(none)))else(none))else(none))else((some (([wrap64 (((rd_T67 l0 x4_1).f0) - ((rd_T67 l0 (ji7)).f0)),wrap64 (((rd_T67 l0 x4_1).f1) - ((rd_T67 l0 (ji7)).f1))]:List Int):List Int)).bind fun y659=>(if x3_1.length+y659.length<17592186044416 then(windroseref11_Nums.l0 k1 l0 (x3_1++y659) (wrap64 (x4_1+1)))else(none))))else(none))else(none))=some r:=by first|(rw [hji7] at H;exact H)|(simp only [hji7] at H ⊢;exact H)
     have hji7w:(IntKind.i64.wrap (x4_1 - 1))=ji7:=(i64_w _).trans hji7
     replace H:=dle H
     rcases H with⟨c8b0,H⟩|⟨c8b0,H⟩
     rotate_left
     ·exact absurd H (by simp)
     replace H:=dle H
     rcases H with⟨c9b0,H⟩|⟨c9b0,H⟩
     rotate_left
     ·exact absurd H (by simp)
     replace H:=dgt H
     rcases H with⟨c10b0,H⟩|⟨c10b0,H⟩
     focus
      obtain⟨ji11,hji11⟩:∃ j_:Int,(wrap64 (x4_1 - 2))=j_:=⟨_,rfl⟩
      replace H:(if 0≤(ji11)then(if(ji11)<(l0.length:Int)then((some (([wrap64 ((wrap64 (((rd_T67 l0 x4_1).f0) - ((rd_T67 l0 (ji7)).f0))) - (wrap64 (((rd_T67 l0 (ji7)).f0) - ((rd_T67 l0 (ji11)).f0)))),wrap64 ((wrap64 (((rd_T67 l0 x4_1).f1) - ((rd_T67 l0 (ji7)).f1))) - (wrap64 (((rd_T67 l0 (ji7)).f1) - ((rd_T67 l0 (ji11)).f1))))]:List Int):List Int)).bind fun y653=>(if x3_1.length+y653.length<17592186044416 then(windroseref11_Nums.l0 k1 l0 (x3_1++y653) (wrap64 (x4_1+1)))else(none)))else(none))else(none))=some r:=by first|(rw [hji11] at H;exact H)|(simp only [hji11] at H ⊢;exact H)
      have hji11w:(IntKind.i64.wrap (x4_1 - 2))=ji11:=(i64_w _).trans hji11
      replace H:=dle H
      rcases H with⟨c12b0,H⟩|⟨c12b0,H⟩
      rotate_left
      ·exact absurd H (by simp)
      replace H:=dle H
      rcases H with⟨c13b0,H⟩|⟨c13b0,H⟩
      rotate_left
      ·exact absurd H (by simp)
      obtain⟨y653,hy653⟩:∃ y_:List Int,y_=(([wrap64 ((wrap64 (((rd_T67 l0 x4_1).f0) - ((rd_T67 l0 (ji7)).f0))) - (wrap64 (((rd_T67 l0 (ji7)).f0) - ((rd_T67 l0 (ji11)).f0)))),wrap64 ((wrap64 (((rd_T67 l0 x4_1).f1) - ((rd_T67 l0 (ji7)).f1))) - (wrap64 (((rd_T67 l0 (ji7)).f1) - ((rd_T67 l0 (ji11)).f1))))]:List Int)):=⟨_,rfl⟩
      replace H:(if x3_1.length+y653.length<17592186044416 then(windroseref11_Nums.l0 k1 l0 (x3_1++y653) (wrap64 (x4_1+1)))else(none))=some r:=by first|(rw [hy653];with_reducible exact H)|(have H2_:=(Option.bind_some _ _).symm.trans H;rw [hy653];with_reducible exact H2_)|(have H2_:=(Option.bind_some _ _).symm.trans H;with_reducible exact H2_)|with_reducible exact H|(rw [hy653];exact H)|exact H
      have Ny653:=Aside0.mk hy653
      clear hy653
      by_cases c14:x3_1.length+y653.length<17592186044416
      rotate_left
      ·rw [if_neg c14] at H
       exact absurd H (by simp)
      rw [if_pos c14] at H
      have LMc14:=Aside0.mk c14
      clear c14
      obtain⟨y656,hy656⟩:∃ y_:List Int,y_=(x3_1++y653):=⟨_,rfl⟩
      replace H:(windroseref11_Nums.l0 k1 l0 y656 (wrap64 (x4_1+1)))=some r:=by first|(rw [hy656];with_reducible exact H)|(have H2_:=(Option.bind_some _ _).symm.trans H;rw [hy656];with_reducible exact H2_)|(have H2_:=(Option.bind_some _ _).symm.trans H;with_reducible exact H2_)|with_reducible exact H|(rw [hy656];exact H)|exact H
      have Ny656:=Aside0.mk hy656
      clear hy656
      have H':=Aside0.mk H
      clear H
      have p645:0≤(x4_1:Int):=dc_
      have q645:x4_1<(l0.length:Int):=dc_
      obtain⟨ad645,e645,hx645_0,hx645_1⟩:=at_T67 HR0.out x4_1 p645 q645
      cases e645
      replace hx645_0:=(HB.out.cell (World.block_lt_of_cell? w _ hx645_0)).trans hx645_0
      replace hx645_1:=(HB.out.cell (World.block_lt_of_cell? w _ hx645_1)).trans hx645_1
      replace p645:=eq_true p645
      replace q645:=eq_true q645
      have p646:0≤(x4_1:Int):=dc_
      have q646:x4_1<(l0.length:Int):=dc_
      obtain⟨ad646,e646,hx646_0,hx646_1⟩:=at_T67 HR0.out x4_1 p646 q646
      obtain rfl:ad645=ad646:=(by injection e646)
      replace hx646_0:=(HB.out.cell (World.block_lt_of_cell? w _ hx646_0)).trans hx646_0
      replace hx646_1:=(HB.out.cell (World.block_lt_of_cell? w _ hx646_1)).trans hx646_1
      replace p646:=eq_true p646
      replace q646:=eq_true q646
      have p647:0≤((ji7):Int):=dc_
      have q647:(ji7)<(l0.length:Int):=dc_
      obtain⟨ad647,e647,hx647_0,hx647_1⟩:=at_T67 HR0.out (ji7) p647 q647
      obtain rfl:ad645=ad647:=(by injection e647)
      replace hx647_0:=(HB.out.cell (World.block_lt_of_cell? w _ hx647_0)).trans hx647_0
      replace hx647_1:=(HB.out.cell (World.block_lt_of_cell? w _ hx647_1)).trans hx647_1
      replace p647:=eq_true p647
      replace q647:=eq_true q647
      have p648:0≤((ji7):Int):=dc_
      have q648:(ji7)<(l0.length:Int):=dc_
      obtain⟨ad648,e648,hx648_0,hx648_1⟩:=at_T67 HR0.out (ji7) p648 q648
      obtain rfl:ad645=ad648:=(by injection e648)
      replace hx648_0:=(HB.out.cell (World.block_lt_of_cell? w _ hx648_0)).trans hx648_0
      replace hx648_1:=(HB.out.cell (World.block_lt_of_cell? w _ hx648_1)).trans hx648_1
      replace p648:=eq_true p648
      replace q648:=eq_true q648
      have p649:0≤((ji7):Int):=dc_
      have q649:(ji7)<(l0.length:Int):=dc_
      obtain⟨ad649,e649,hx649_0,hx649_1⟩:=at_T67 HR0.out (ji7) p649 q649
      obtain rfl:ad645=ad649:=(by injection e649)
      replace hx649_0:=(HB.out.cell (World.block_lt_of_cell? w _ hx649_0)).trans hx649_0
      replace hx649_1:=(HB.out.cell (World.block_lt_of_cell? w _ hx649_1)).trans hx649_1
      replace p649:=eq_true p649
      replace q649:=eq_true q649
      have p650:0≤((ji11):Int):=dc_
      have q650:(ji11)<(l0.length:Int):=dc_
      obtain⟨ad650,e650,hx650_0,hx650_1⟩:=at_T67 HR0.out (ji11) p650 q650
      obtain rfl:ad645=ad650:=(by injection e650)
      replace hx650_0:=(HB.out.cell (World.block_lt_of_cell? w _ hx650_0)).trans hx650_0
      replace hx650_1:=(HB.out.cell (World.block_lt_of_cell? w _ hx650_1)).trans hx650_1
      replace p650:=eq_true p650
      replace q650:=eq_true q650
      have p651:0≤((ji7):Int):=dc_
      have q651:(ji7)<(l0.length:Int):=dc_
      obtain⟨ad651,e651,hx651_0,hx651_1⟩:=at_T67 HR0.out (ji7) p651 q651
      obtain rfl:ad645=ad651:=(by injection e651)
      replace hx651_0:=(HB.out.cell (World.block_lt_of_cell? w _ hx651_0)).trans hx651_0
      replace hx651_1:=(HB.out.cell (World.block_lt_of_cell? w _ hx651_1)).trans hx651_1
      replace p651:=eq_true p651
      replace q651:=eq_true q651
      have p652:0≤((ji11):Int):=dc_
      have q652:(ji11)<(l0.length:Int):=dc_
      obtain⟨ad652,e652,hx652_0,hx652_1⟩:=at_T67 HR0.out (ji11) p652 q652
      obtain rfl:ad645=ad652:=(by injection e652)
      replace hx652_0:=(HB.out.cell (World.block_lt_of_cell? w _ hx652_0)).trans hx652_0
      replace hx652_1:=(HB.out.cell (World.block_lt_of_cell? w _ hx652_1)).trans hx652_1
      replace p652:=eq_true p652
      replace q652:=eq_true q652
     rotate_left
     focus
      obtain⟨y659,hy659⟩:∃ y_:List Int,y_=(([wrap64 (((rd_T67 l0 x4_1).f0) - ((rd_T67 l0 (ji7)).f0)),wrap64 (((rd_T67 l0 x4_1).f1) - ((rd_T67 l0 (ji7)).f1))]:List Int)):=⟨_,rfl⟩
      replace H:(if x3_1.length+y659.length<17592186044416 then(windroseref11_Nums.l0 k1 l0 (x3_1++y659) (wrap64 (x4_1+1)))else(none))=some r:=by first|(rw [hy659];with_reducible exact H)|(have H2_:=(Option.bind_some _ _).symm.trans H;rw [hy659];with_reducible exact H2_)|(have H2_:=(Option.bind_some _ _).symm.trans H;with_reducible exact H2_)|with_reducible exact H|(rw [hy659];exact H)|exact H
      have Ny659:=Aside0.mk hy659
      clear hy659
      by_cases c19:x3_1.length+y659.length<17592186044416
      rotate_left
      ·rw [if_neg c19] at H
       exact absurd H (by simp)
      rw [if_pos c19] at H
      have LMc19:=Aside0.mk c19
      clear c19
      obtain⟨y662,hy662⟩:∃ y_:List Int,y_=(x3_1++y659):=⟨_,rfl⟩
      replace H:(windroseref11_Nums.l0 k1 l0 y662 (wrap64 (x4_1+1)))=some r:=by first|(rw [hy662];with_reducible exact H)|(have H2_:=(Option.bind_some _ _).symm.trans H;rw [hy662];with_reducible exact H2_)|(have H2_:=(Option.bind_some _ _).symm.trans H;with_reducible exact H2_)|with_reducible exact H|(rw [hy662];exact H)|exact H
      have Ny662:=Aside0.mk hy662
      clear hy662
      have H':=Aside0.mk H
      clear H
      have p645:0≤(x4_1:Int):=dc_
      have q645:x4_1<(l0.length:Int):=dc_
      obtain⟨ad645,e645,hx645_0,hx645_1⟩:=at_T67 HR0.out x4_1 p645 q645
      cases e645
      replace hx645_0:=(HB.out.cell (World.block_lt_of_cell? w _ hx645_0)).trans hx645_0
      replace hx645_1:=(HB.out.cell (World.block_lt_of_cell? w _ hx645_1)).trans hx645_1
      replace p645:=eq_true p645
      replace q645:=eq_true q645
      have p646:0≤(x4_1:Int):=dc_
      have q646:x4_1<(l0.length:Int):=dc_
      obtain⟨ad646,e646,hx646_0,hx646_1⟩:=at_T67 HR0.out x4_1 p646 q646
      obtain rfl:ad645=ad646:=(by injection e646)
      replace hx646_0:=(HB.out.cell (World.block_lt_of_cell? w _ hx646_0)).trans hx646_0
      replace hx646_1:=(HB.out.cell (World.block_lt_of_cell? w _ hx646_1)).trans hx646_1
      replace p646:=eq_true p646
      replace q646:=eq_true q646
      have p647:0≤((ji7):Int):=dc_
      have q647:(ji7)<(l0.length:Int):=dc_
      obtain⟨ad647,e647,hx647_0,hx647_1⟩:=at_T67 HR0.out (ji7) p647 q647
      obtain rfl:ad645=ad647:=(by injection e647)
      replace hx647_0:=(HB.out.cell (World.block_lt_of_cell? w _ hx647_0)).trans hx647_0
      replace hx647_1:=(HB.out.cell (World.block_lt_of_cell? w _ hx647_1)).trans hx647_1
      replace p647:=eq_true p647
      replace q647:=eq_true q647
      have p648:0≤((ji7):Int):=dc_
      have q648:(ji7)<(l0.length:Int):=dc_
      obtain⟨ad648,e648,hx648_0,hx648_1⟩:=at_T67 HR0.out (ji7) p648 q648
      obtain rfl:ad645=ad648:=(by injection e648)
      replace hx648_0:=(HB.out.cell (World.block_lt_of_cell? w _ hx648_0)).trans hx648_0
      replace hx648_1:=(HB.out.cell (World.block_lt_of_cell? w _ hx648_1)).trans hx648_1
      replace p648:=eq_true p648
      replace q648:=eq_true q648
    rotate_left 2
    focus
     replace H:=dgt H
     rcases H with⟨c24b0,H⟩|⟨c24b0,H⟩
     focus
      obtain⟨ji25,hji25⟩:∃ j_:Int,(wrap64 (x4_1 - 1))=j_:=⟨_,rfl⟩
      replace H:(if 0≤(ji25)then(if(ji25)<(l0.length:Int)then(if 0≤(wrap64 (x4_1 - 2))then(if(wrap64 (x4_1 - 2))<(l0.length:Int)then((some (([wrap64 (((rd_T67 l0 x4_1).f0) - (wrap64 (((rd_T67 l0 (ji25)).f0) - ((rd_T67 l0 (wrap64 (x4_1 - 2))).f0)))),wrap64 (((rd_T67 l0 x4_1).f1) - (wrap64 (((rd_T67 l0 (ji25)).f1) - ((rd_T67 l0 (wrap64 (x4_1 - 2))).f1))))]:List Int):List Int)).bind fun y669=>(if x3_1.length+y669.length<17592186044416 then(windroseref11_Nums.l0 k1 l0 (x3_1++y669) (wrap64 (x4_1+1)))else(none)))else(none))else(none))else(none))else(none))=some r:=by first|(rw [hji25] at H;exact H)|(simp only [hji25] at H ⊢;exact H)
      have hji25w:(IntKind.i64.wrap (x4_1 - 1))=ji25:=(i64_w _).trans hji25
      replace H:=dle H
      rcases H with⟨c26b0,H⟩|⟨c26b0,H⟩
      rotate_left
      ·exact absurd H (by simp)
      replace H:=dle H
      rcases H with⟨c27b0,H⟩|⟨c27b0,H⟩
      rotate_left
      ·exact absurd H (by simp)
      obtain⟨ji28,hji28⟩:∃ j_:Int,(wrap64 (x4_1 - 2))=j_:=⟨_,rfl⟩
      replace H:(if 0≤(ji28)then(if(ji28)<(l0.length:Int)then((some (([wrap64 (((rd_T67 l0 x4_1).f0) - (wrap64 (((rd_T67 l0 (ji25)).f0) - ((rd_T67 l0 (ji28)).f0)))),wrap64 (((rd_T67 l0 x4_1).f1) - (wrap64 (((rd_T67 l0 (ji25)).f1) - ((rd_T67 l0 (ji28)).f1))))]:List Int):List Int)).bind fun y669=>(if x3_1.length+y669.length<17592186044416 then(windroseref11_Nums.l0 k1 l0 (x3_1++y669) (wrap64 (x4_1+1)))else(none)))else(none))else(none))=some r:=by first|(rw [hji28] at H;exact H)|(simp only [hji28] at H ⊢;exact H)
      have hji28w:(IntKind.i64.wrap (x4_1 - 2))=ji28:=(i64_w _).trans hji28
      replace H:=dle H
      rcases H with⟨c29b0,H⟩|⟨c29b0,H⟩
      rotate_left
      ·exact absurd H (by simp)
      replace H:=dle H
      rcases H with⟨c30b0,H⟩|⟨c30b0,H⟩
      rotate_left
      ·exact absurd H (by simp)
      obtain⟨y669,hy669⟩:∃ y_:List Int,y_=(([wrap64 (((rd_T67 l0 x4_1).f0) - (wrap64 (((rd_T67 l0 (ji25)).f0) - ((rd_T67 l0 (ji28)).f0)))),wrap64 (((rd_T67 l0 x4_1).f1) - (wrap64 (((rd_T67 l0 (ji25)).f1) - ((rd_T67 l0 (ji28)).f1))))]:List Int)):=⟨_,rfl⟩
      replace H:(if x3_1.length+y669.length<17592186044416 then(windroseref11_Nums.l0 k1 l0 (x3_1++y669) (wrap64 (x4_1+1)))else(none))=some r:=by first|(rw [hy669];with_reducible exact H)|(have H2_:=(Option.bind_some _ _).symm.trans H;rw [hy669];with_reducible exact H2_)|(have H2_:=(Option.bind_some _ _).symm.trans H;with_reducible exact H2_)|with_reducible exact H|(rw [hy669];exact H)|exact H
      have Ny669:=Aside0.mk hy669
      clear hy669
      by_cases c31:x3_1.length+y669.length<17592186044416
      rotate_left
      ·rw [if_neg c31] at H
       exact absurd H (by simp)
      rw [if_pos c31] at H
      have LMc31:=Aside0.mk c31
      clear c31
      obtain⟨y672,hy672⟩:∃ y_:List Int,y_=(x3_1++y669):=⟨_,rfl⟩
      replace H:(windroseref11_Nums.l0 k1 l0 y672 (wrap64 (x4_1+1)))=some r:=by first|(rw [hy672];with_reducible exact H)|(have H2_:=(Option.bind_some _ _).symm.trans H;rw [hy672];with_reducible exact H2_)|(have H2_:=(Option.bind_some _ _).symm.trans H;with_reducible exact H2_)|with_reducible exact H|(rw [hy672];exact H)|exact H
      have Ny672:=Aside0.mk hy672
      clear hy672
      have H':=Aside0.mk H
      clear H
      have p645:0≤(x4_1:Int):=dc_
      have q645:x4_1<(l0.length:Int):=dc_
      obtain⟨ad645,e645,hx645_0,hx645_1⟩:=at_T67 HR0.out x4_1 p645 q645
      cases e645
      replace hx645_0:=(HB.out.cell (World.block_lt_of_cell? w _ hx645_0)).trans hx645_0
      replace hx645_1:=(HB.out.cell (World.block_lt_of_cell? w _ hx645_1)).trans hx645_1
      replace p645:=eq_true p645
      replace q645:=eq_true q645
      have p646:0≤(x4_1:Int):=dc_
      have q646:x4_1<(l0.length:Int):=dc_
      obtain⟨ad646,e646,hx646_0,hx646_1⟩:=at_T67 HR0.out x4_1 p646 q646
      obtain rfl:ad645=ad646:=(by injection e646)
      replace hx646_0:=(HB.out.cell (World.block_lt_of_cell? w _ hx646_0)).trans hx646_0
      replace hx646_1:=(HB.out.cell (World.block_lt_of_cell? w _ hx646_1)).trans hx646_1
      replace p646:=eq_true p646
      replace q646:=eq_true q646
      have p665:0≤((ji25):Int):=dc_
      have q665:(ji25)<(l0.length:Int):=dc_
      obtain⟨ad665,e665,hx665_0,hx665_1⟩:=at_T67 HR0.out (ji25) p665 q665
      obtain rfl:ad645=ad665:=(by injection e665)
      replace hx665_0:=(HB.out.cell (World.block_lt_of_cell? w _ hx665_0)).trans hx665_0
      replace hx665_1:=(HB.out.cell (World.block_lt_of_cell? w _ hx665_1)).trans hx665_1
      replace p665:=eq_true p665
      replace q665:=eq_true q665
      have p666:0≤((ji28):Int):=dc_
      have q666:(ji28)<(l0.length:Int):=dc_
      obtain⟨ad666,e666,hx666_0,hx666_1⟩:=at_T67 HR0.out (ji28) p666 q666
      obtain rfl:ad645=ad666:=(by injection e666)
      replace hx666_0:=(HB.out.cell (World.block_lt_of_cell? w _ hx666_0)).trans hx666_0
      replace hx666_1:=(HB.out.cell (World.block_lt_of_cell? w _ hx666_1)).trans hx666_1
      replace p666:=eq_true p666
      replace q666:=eq_true q666
      have p667:0≤((ji25):Int):=dc_
      have q667:(ji25)<(l0.length:Int):=dc_
      obtain⟨ad667,e667,hx667_0,hx667_1⟩:=at_T67 HR0.out (ji25) p667 q667
      obtain rfl:ad645=ad667:=(by injection e667)
      replace hx667_0:=(HB.out.cell (World.block_lt_of_cell? w _ hx667_0)).trans hx667_0
      replace hx667_1:=(HB.out.cell (World.block_lt_of_cell? w _ hx667_1)).trans hx667_1
      replace p667:=eq_true p667
      replace q667:=eq_true q667
      have p668:0≤((ji28):Int):=dc_
      have q668:(ji28)<(l0.length:Int):=dc_
      obtain⟨ad668,e668,hx668_0,hx668_1⟩:=at_T67 HR0.out (ji28) p668 q668
      obtain rfl:ad645=ad668:=(by injection e668)
      replace hx668_0:=(HB.out.cell (World.block_lt_of_cell? w _ hx668_0)).trans hx668_0
      replace hx668_1:=(HB.out.cell (World.block_lt_of_cell? w _ hx668_1)).trans hx668_1
      replace p668:=eq_true p668
      replace q668:=eq_true q668
     rotate_left
     focus
      obtain⟨y675,hy675⟩:∃ y_:List Int,y_=(([(rd_T67 l0 x4_1).f0,(rd_T67 l0 x4_1).f1]:List Int)):=⟨_,rfl⟩
      replace H:(if x3_1.length+y675.length<17592186044416 then(windroseref11_Nums.l0 k1 l0 (x3_1++y675) (wrap64 (x4_1+1)))else(none))=some r:=by first|(rw [hy675];with_reducible exact H)|(have H2_:=(Option.bind_some _ _).symm.trans H;rw [hy675];with_reducible exact H2_)|(have H2_:=(Option.bind_some _ _).symm.trans H;with_reducible exact H2_)|with_reducible exact H|(rw [hy675];exact H)|exact H
      have Ny675:=Aside0.mk hy675
      clear hy675
      by_cases c36:x3_1.length+y675.length<17592186044416
      rotate_left
      ·rw [if_neg c36] at H
       exact absurd H (by simp)
      rw [if_pos c36] at H
      have LMc36:=Aside0.mk c36
      clear c36
      obtain⟨y678,hy678⟩:∃ y_:List Int,y_=(x3_1++y675):=⟨_,rfl⟩
      replace H:(windroseref11_Nums.l0 k1 l0 y678 (wrap64 (x4_1+1)))=some r:=by first|(rw [hy678];with_reducible exact H)|(have H2_:=(Option.bind_some _ _).symm.trans H;rw [hy678];with_reducible exact H2_)|(have H2_:=(Option.bind_some _ _).symm.trans H;with_reducible exact H2_)|with_reducible exact H|(rw [hy678];exact H)|exact H
      have Ny678:=Aside0.mk hy678
      clear hy678
      have H':=Aside0.mk H
      clear H
      have p645:0≤(x4_1:Int):=dc_
      have q645:x4_1<(l0.length:Int):=dc_
      obtain⟨ad645,e645,hx645_0,hx645_1⟩:=at_T67 HR0.out x4_1 p645 q645
      cases e645
      replace hx645_0:=(HB.out.cell (World.block_lt_of_cell? w _ hx645_0)).trans hx645_0
      replace hx645_1:=(HB.out.cell (World.block_lt_of_cell? w _ hx645_1)).trans hx645_1
      replace p645:=eq_true p645
      replace q645:=eq_true q645
      have p646:0≤(x4_1:Int):=dc_
      have q646:x4_1<(l0.length:Int):=dc_
      obtain⟨ad646,e646,hx646_0,hx646_1⟩:=at_T67 HR0.out x4_1 p646 q646
      obtain rfl:ad645=ad646:=(by injection e646)
      replace hx646_0:=(HB.out.cell (World.block_lt_of_cell? w _ hx646_0)).trans hx646_0
      replace hx646_1:=(HB.out.cell (World.block_lt_of_cell? w _ hx646_1)).trans hx646_1
      replace p646:=eq_true p646
      replace q646:=eq_true q646
   rotate_left 4
   focus
    obtain rfl:=Option.some.inj H
   all_goals
    go_wp2_with (first|((with_reducible refine gate_dst (N:=79) rfl ?_);refine Kd.R_lit (Kd.int .i64) _ 3 ?hg (N:=79) ?hd (xs:=([wrap64 ((wrap64 (((rd_T67 l0 x4_1).f0) - ((rd_T67 l0 (ji7)).f0))) - (wrap64 (((rd_T67 l0 (ji7)).f0) - ((rd_T67 l0 (ji11)).f0)))),wrap64 ((wrap64 (((rd_T67 l0 x4_1).f1) - ((rd_T67 l0 (ji7)).f1))) - (wrap64 (((rd_T67 l0 (ji7)).f1) - ((rd_T67 l0 (ji11)).f1))))]:List Int)) (inner:=[.int .i64 (wrap64 ((wrap64 (((rd_T67 l0 x4_1).f0) - ((rd_T67 l0 (ji7)).f0))) - (wrap64 (((rd_T67 l0 (ji7)).f0) - ((rd_T67 l0 (ji11)).f0))))),.int .i64 (wrap64 ((wrap64 (((rd_T67 l0 x4_1).f1) - ((rd_T67 l0 (ji7)).f1))) - (wrap64 (((rd_T67 l0 (ji7)).f1) - ((rd_T67 l0 (ji11)).f1)))))]) (ok:=fun _=>True) (okp:=fun _=>True) ?hr ?hp (fun _ hk=>hk) trivial (Below.refl _ _) (Nat.le_refl _) (by simp) ?_;(case hd=>rfl);(case hg=>rfl);(case hr=>first|(go_simp;done)|(go_simp;rfl));(case hp=>exact(Reps.one (show Kd.M (Kd.int .i64) _ _ _ (wrap64 ((wrap64 (((rd_T67 l0 x4_1).f0) - ((rd_T67 l0 (ji7)).f0))) - (wrap64 (((rd_T67 l0 (ji7)).f0) - ((rd_T67 l0 (ji11)).f0))))) [.int .i64 (wrap64 ((wrap64 (((rd_T67 l0 x4_1).f0) - ((rd_T67 l0 (ji7)).f0))) - (wrap64 (((rd_T67 l0 (ji7)).f0) - ((rd_T67 l0 (ji11)).f0)))))] from rfl) (Reps.one (show Kd.M (Kd.int .i64) _ _ _ (wrap64 ((wrap64 (((rd_T67 l0 x4_1).f1) - ((rd_T67 l0 (ji7)).f1))) - (wrap64 (((rd_T67 l0 (ji7)).f1) - ((rd_T67 l0 (ji11)).f1))))) [.int .i64 (wrap64 ((wrap64 (((rd_T67 l0 x4_1).f1) - ((rd_T67 l0 (ji7)).f1))) - (wrap64 (((rd_T67 l0 (ji7)).f1) - ((rd_T67 l0 (ji11)).f1)))))] from rfl) (Reps.none _ _))));intro v7000 w7000 ho7000 hb hg_ hnew_;clear hg_ hnew_;(first|rw [←Ny653.out] at ho7000|(simp only [Int.reduceToNat] at ho7000;rw [←Ny653.out] at ho7000));have n_:=pk3 (Kd.R_elder' (ro_ HO_3) (Kd.R_base ho7000) hb) (Kd.R_lower (Kd.R_new' ho7000 (Kd.R_lt (ro_ HO_3))) (below_size bl_)) (below_step bl_ hb);clear HO_3 HB;obtain⟨HO_3,HO7000,HB⟩:=n_;clear hb ho7000;obtain⟨Ao7000,co7000,eo7000⟩:=Kd.R_slice HO7000.out;subst eo7000)|((with_reducible refine gate_dst (N:=79) rfl ?_);refine Kd.R_lit (Kd.int .i64) _ 3 ?hg (N:=79) ?hd (xs:=([wrap64 (((rd_T67 l0 x4_1).f0) - (wrap64 (((rd_T67 l0 (ji25)).f0) - ((rd_T67 l0 (ji28)).f0)))),wrap64 (((rd_T67 l0 x4_1).f1) - (wrap64 (((rd_T67 l0 (ji25)).f1) - ((rd_T67 l0 (ji28)).f1))))]:List Int)) (inner:=[.int .i64 (wrap64 (((rd_T67 l0 x4_1).f0) - (wrap64 (((rd_T67 l0 (ji25)).f0) - ((rd_T67 l0 (ji28)).f0))))),.int .i64 (wrap64 (((rd_T67 l0 x4_1).f1) - (wrap64 (((rd_T67 l0 (ji25)).f1) - ((rd_T67 l0 (ji28)).f1)))))]) (ok:=fun _=>True) (okp:=fun _=>True) ?hr ?hp (fun _ hk=>hk) trivial (Below.refl _ _) (Nat.le_refl _) (by simp) ?_;(case hd=>rfl);(case hg=>rfl);(case hr=>first|(go_simp;done)|(go_simp;rfl));(case hp=>exact(Reps.one (show Kd.M (Kd.int .i64) _ _ _ (wrap64 (((rd_T67 l0 x4_1).f0) - (wrap64 (((rd_T67 l0 (ji25)).f0) - ((rd_T67 l0 (ji28)).f0))))) [.int .i64 (wrap64 (((rd_T67 l0 x4_1).f0) - (wrap64 (((rd_T67 l0 (ji25)).f0) - ((rd_T67 l0 (ji28)).f0)))))] from rfl) (Reps.one (show Kd.M (Kd.int .i64) _ _ _ (wrap64 (((rd_T67 l0 x4_1).f1) - (wrap64 (((rd_T67 l0 (ji25)).f1) - ((rd_T67 l0 (ji28)).f1))))) [.int .i64 (wrap64 (((rd_T67 l0 x4_1).f1) - (wrap64 (((rd_T67 l0 (ji25)).f1) - ((rd_T67 l0 (ji28)).f1)))))] from rfl) (Reps.none _ _))));intro v7000 w7000 ho7000 hb hg_ hnew_;clear hg_ hnew_;(first|rw [←Ny669.out] at ho7000|(simp only [Int.reduceToNat] at ho7000;rw [←Ny669.out] at ho7000));have n_:=pk3 (Kd.R_elder' (ro_ HO_3) (Kd.R_base ho7000) hb) (Kd.R_lower (Kd.R_new' ho7000 (Kd.R_lt (ro_ HO_3))) (below_size bl_)) (below_step bl_ hb);clear HO_3 HB;obtain⟨HO_3,HO7000,HB⟩:=n_;clear hb ho7000;obtain⟨Ao7000,co7000,eo7000⟩:=Kd.R_slice HO7000.out;subst eo7000)|((with_reducible refine gate_dst (N:=79) rfl ?_);refine Kd.R_lit (Kd.int .i64) _ 3 ?hg (N:=79) ?hd (xs:=([wrap64 (((rd_T67 l0 x4_1).f0) - ((rd_T67 l0 (ji7)).f0)),wrap64 (((rd_T67 l0 x4_1).f1) - ((rd_T67 l0 (ji7)).f1))]:List Int)) (inner:=[.int .i64 (wrap64 (((rd_T67 l0 x4_1).f0) - ((rd_T67 l0 (ji7)).f0))),.int .i64 (wrap64 (((rd_T67 l0 x4_1).f1) - ((rd_T67 l0 (ji7)).f1)))]) (ok:=fun _=>True) (okp:=fun _=>True) ?hr ?hp (fun _ hk=>hk) trivial (Below.refl _ _) (Nat.le_refl _) (by simp) ?_;(case hd=>rfl);(case hg=>rfl);(case hr=>first|(go_simp;done)|(go_simp;rfl));(case hp=>exact(Reps.one (show Kd.M (Kd.int .i64) _ _ _ (wrap64 (((rd_T67 l0 x4_1).f0) - ((rd_T67 l0 (ji7)).f0))) [.int .i64 (wrap64 (((rd_T67 l0 x4_1).f0) - ((rd_T67 l0 (ji7)).f0)))] from rfl) (Reps.one (show Kd.M (Kd.int .i64) _ _ _ (wrap64 (((rd_T67 l0 x4_1).f1) - ((rd_T67 l0 (ji7)).f1))) [.int .i64 (wrap64 (((rd_T67 l0 x4_1).f1) - ((rd_T67 l0 (ji7)).f1)))] from rfl) (Reps.none _ _))));intro v7000 w7000 ho7000 hb hg_ hnew_;clear hg_ hnew_;(first|rw [←Ny659.out] at ho7000|(simp only [Int.reduceToNat] at ho7000;rw [←Ny659.out] at ho7000));have n_:=pk3 (Kd.R_elder' (ro_ HO_3) (Kd.R_base ho7000) hb) (Kd.R_lower (Kd.R_new' ho7000 (Kd.R_lt (ro_ HO_3))) (below_size bl_)) (below_step bl_ hb);clear HO_3 HB;obtain⟨HO_3,HO7000,HB⟩:=n_;clear hb ho7000;obtain⟨Ao7000,co7000,eo7000⟩:=Kd.R_slice HO7000.out;subst eo7000)|((with_reducible refine gate_dst (N:=79) rfl ?_);refine Kd.R_lit (Kd.int .i64) _ 3 ?hg (N:=79) ?hd (xs:=([(rd_T67 l0 x4_1).f0,(rd_T67 l0 x4_1).f1]:List Int)) (inner:=[.int .i64 ((rd_T67 l0 x4_1).f0),.int .i64 ((rd_T67 l0 x4_1).f1)]) (ok:=fun _=>True) (okp:=fun _=>True) ?hr ?hp (fun _ hk=>hk) trivial (Below.refl _ _) (Nat.le_refl _) (by simp) ?_;(case hd=>rfl);(case hg=>rfl);(case hr=>first|(go_simp;done)|(go_simp;rfl));(case hp=>exact(Reps.one (show Kd.M (Kd.int .i64) _ _ _ ((rd_T67 l0 x4_1).f0) [.int .i64 ((rd_T67 l0 x4_1).f0)] from rfl) (Reps.one (show Kd.M (Kd.int .i64) _ _ _ ((rd_T67 l0 x4_1).f1) [.int .i64 ((rd_T67 l0 x4_1).f1)] from rfl) (Reps.none _ _))));intro v7000 w7000 ho7000 hb hg_ hnew_;clear hg_ hnew_;(first|rw [←Ny675.out] at ho7000|(simp only [Int.reduceToNat] at ho7000;rw [←Ny675.out] at ho7000));have n_:=pk3 (Kd.R_elder' (ro_ HO_3) (Kd.R_base ho7000) hb) (Kd.R_lower (Kd.R_new' ho7000 (Kd.R_lt (ro_ HO_3))) (below_size bl_)) (below_step bl_ hb);clear HO_3 HB;obtain⟨HO_3,HO7000,HB⟩:=n_;clear hb ho7000;obtain⟨Ao7000,co7000,eo7000⟩:=Kd.R_slice HO7000.out;subst eo7000)|((with_reducible refine gate_builtin (b:=.append) (xs:=#[.tmp 76,.tmp 79]) rfl ?_);at_builtin;refine Kd.R_append_rows (Kd.int .i64) (w0:=w) w.heap.size rfl (.tmp 76) (.tmp 79) 22 3 (.int .i64 0) 8 rfl Try.underlying22 info3 rfl (by decide) (by omega) u3 x3_1 y653 _ _ _ (fun k_=>some k_≠(.slice Ao7000 y653.length co7000:Value).ownBlock) (fun _=>False) rfl rfl ?aO ?aR (fun _ _ h=>h) (fun _ h=>h.elim) ?aF ?aB ?aS ?aL ?_;(case aR=>exact cr_ HO7000);(case aB=>exact bl_);(case aF=>exact(fun k_ hk=>Kd.fresh' (Kd.R_lt (ro_ HO7000)) k_ hk));(case aO=>exact(rt_ (Kd.R_mono HO_3.out (fun _ hk=>hk.2))));(case aS=>exact(below_size bl_));(case aL=>have:=LMc14.out;omega);intro v7001 w7001 ho hb hg hat;rw [←Ny656.out] at ho;have n_:=pk3 (Kd.R_after (ok:=(fun _=>True)) (ro_ HO7000) hg hat) (hb) (ho);clear HO7000 HB HO_3;obtain⟨HO7000,HB,HO7001⟩:=n_;clear ho hb hg hat)|((with_reducible refine gate_builtin (b:=.append) (xs:=#[.tmp 76,.tmp 79]) rfl ?_);at_builtin;refine Kd.R_append_rows (Kd.int .i64) (w0:=w) w.heap.size rfl (.tmp 76) (.tmp 79) 22 3 (.int .i64 0) 8 rfl Try.underlying22 info3 rfl (by decide) (by omega) u3 x3_1 y659 _ _ _ (fun k_=>some k_≠(.slice Ao7000 y659.length co7000:Value).ownBlock) (fun _=>False) rfl rfl ?aO ?aR (fun _ _ h=>h) (fun _ h=>h.elim) ?aF ?aB ?aS ?aL ?_;(case aR=>exact cr_ HO7000);(case aB=>exact bl_);(case aF=>exact(fun k_ hk=>Kd.fresh' (Kd.R_lt (ro_ HO7000)) k_ hk));(case aO=>exact(rt_ (Kd.R_mono HO_3.out (fun _ hk=>hk.2))));(case aS=>exact(below_size bl_));(case aL=>have:=LMc19.out;omega);intro v7001 w7001 ho hb hg hat;rw [←Ny662.out] at ho;have n_:=pk3 (Kd.R_after (ok:=(fun _=>True)) (ro_ HO7000) hg hat) (hb) (ho);clear HO7000 HB HO_3;obtain⟨HO7000,HB,HO7001⟩:=n_;clear ho hb hg hat)|((with_reducible refine gate_builtin (b:=.append) (xs:=#[.tmp 76,.tmp 79]) rfl ?_);at_builtin;refine Kd.R_append_rows (Kd.int .i64) (w0:=w) w.heap.size rfl (.tmp 76) (.tmp 79) 22 3 (.int .i64 0) 8 rfl Try.underlying22 info3 rfl (by decide) (by omega) u3 x3_1 y669 _ _ _ (fun k_=>some k_≠(.slice Ao7000 y669.length co7000:Value).ownBlock) (fun _=>False) rfl rfl ?aO ?aR (fun _ _ h=>h) (fun _ h=>h.elim) ?aF ?aB ?aS ?aL ?_;(case aR=>exact cr_ HO7000);(case aB=>exact bl_);(case aF=>exact(fun k_ hk=>Kd.fresh' (Kd.R_lt (ro_ HO7000)) k_ hk));(case aO=>exact(rt_ (Kd.R_mono HO_3.out (fun _ hk=>hk.2))));(case aS=>exact(below_size bl_));(case aL=>have:=LMc31.out;omega);intro v7001 w7001 ho hb hg hat;rw [←Ny672.out] at ho;have n_:=pk3 (Kd.R_after (ok:=(fun _=>True)) (ro_ HO7000) hg hat) (hb) (ho);clear HO7000 HB HO_3;obtain⟨HO7000,HB,HO7001⟩:=n_;clear ho hb hg hat)|((with_reducible refine gate_builtin (b:=.append) (xs:=#[.tmp 76,.tmp 79]) rfl ?_);at_builtin;refine Kd.R_append_rows (Kd.int .i64) (w0:=w) w.heap.size rfl (.tmp 76) (.tmp 79) 22 3 (.int .i64 0) 8 rfl Try.underlying22 info3 rfl (by decide) (by omega) u3 x3_1 y675 _ _ _ (fun k_=>some k_≠(.slice Ao7000 y675.length co7000:Value).ownBlock) (fun _=>False) rfl rfl ?aO ?aR (fun _ _ h=>h) (fun _ h=>h.elim) ?aF ?aB ?aS ?aL ?_;(case aR=>exact cr_ HO7000);(case aB=>exact bl_);(case aF=>exact(fun k_ hk=>Kd.fresh' (Kd.R_lt (ro_ HO7000)) k_ hk));(case aO=>exact(rt_ (Kd.R_mono HO_3.out (fun _ hk=>hk.2))));(case aS=>exact(below_size bl_));(case aL=>have:=LMc36.out;omega);intro v7001 w7001 ho hb hg hat;rw [←Ny678.out] at ho;have n_:=pk3 (Kd.R_after (ok:=(fun _=>True)) (ro_ HO7000) hg hat) (hb) (ho);clear HO7000 HB HO_3;obtain⟨HO7000,HB,HO7001⟩:=n_;clear ho hb hg hat))
    repeat(go_quiet (first|((with_reducible refine gate_dst (N:=79) rfl ?_);refine Kd.R_lit (Kd.int .i64) _ 3 ?hg (N:=79) ?hd (xs:=([wrap64 ((wrap64 (((rd_T67 l0 x4_1).f0) - ((rd_T67 l0 (ji7)).f0))) - (wrap64 (((rd_T67 l0 (ji7)).f0) - ((rd_T67 l0 (ji11)).f0)))),wrap64 ((wrap64 (((rd_T67 l0 x4_1).f1) - ((rd_T67 l0 (ji7)).f1))) - (wrap64 (((rd_T67 l0 (ji7)).f1) - ((rd_T67 l0 (ji11)).f1))))]:List Int)) (inner:=[.int .i64 (wrap64 ((wrap64 (((rd_T67 l0 x4_1).f0) - ((rd_T67 l0 (ji7)).f0))) - (wrap64 (((rd_T67 l0 (ji7)).f0) - ((rd_T67 l0 (ji11)).f0))))),.int .i64 (wrap64 ((wrap64 (((rd_T67 l0 x4_1).f1) - ((rd_T67 l0 (ji7)).f1))) - (wrap64 (((rd_T67 l0 (ji7)).f1) - ((rd_T67 l0 (ji11)).f1)))))]) (ok:=fun _=>True) (okp:=fun _=>True) ?hr ?hp (fun _ hk=>hk) trivial (Below.refl _ _) (Nat.le_refl _) (by simp) ?_;(case hd=>rfl);(case hg=>rfl);(case hr=>first|(go_simp;done)|(go_simp;rfl));(case hp=>exact(Reps.one (show Kd.M (Kd.int .i64) _ _ _ (wrap64 ((wrap64 (((rd_T67 l0 x4_1).f0) - ((rd_T67 l0 (ji7)).f0))) - (wrap64 (((rd_T67 l0 (ji7)).f0) - ((rd_T67 l0 (ji11)).f0))))) [.int .i64 (wrap64 ((wrap64 (((rd_T67 l0 x4_1).f0) - ((rd_T67 l0 (ji7)).f0))) - (wrap64 (((rd_T67 l0 (ji7)).f0) - ((rd_T67 l0 (ji11)).f0)))))] from rfl) (Reps.one (show Kd.M (Kd.int .i64) _ _ _ (wrap64 ((wrap64 (((rd_T67 l0 x4_1).f1) - ((rd_T67 l0 (ji7)).f1))) - (wrap64 (((rd_T67 l0 (ji7)).f1) - ((rd_T67 l0 (ji11)).f1))))) [.int .i64 (wrap64 ((wrap64 (((rd_T67 l0 x4_1).f1) - ((rd_T67 l0 (ji7)).f1))) - (wrap64 (((rd_T67 l0 (ji7)).f1) - ((rd_T67 l0 (ji11)).f1)))))] from rfl) (Reps.none _ _))));intro v7000 w7000 ho7000 hb hg_ hnew_;clear hg_ hnew_;(first|rw [←Ny653.out] at ho7000|(simp only [Int.reduceToNat] at ho7000;rw [←Ny653.out] at ho7000));have n_:=pk3 (Kd.R_elder' (ro_ HO_3) (Kd.R_base ho7000) hb) (Kd.R_lower (Kd.R_new' ho7000 (Kd.R_lt (ro_ HO_3))) (below_size bl_)) (below_step bl_ hb);clear HO_3 HB;obtain⟨HO_3,HO7000,HB⟩:=n_;clear hb ho7000;obtain⟨Ao7000,co7000,eo7000⟩:=Kd.R_slice HO7000.out;subst eo7000)|((with_reducible refine gate_dst (N:=79) rfl ?_);refine Kd.R_lit (Kd.int .i64) _ 3 ?hg (N:=79) ?hd (xs:=([wrap64 (((rd_T67 l0 x4_1).f0) - (wrap64 (((rd_T67 l0 (ji25)).f0) - ((rd_T67 l0 (ji28)).f0)))),wrap64 (((rd_T67 l0 x4_1).f1) - (wrap64 (((rd_T67 l0 (ji25)).f1) - ((rd_T67 l0 (ji28)).f1))))]:List Int)) (inner:=[.int .i64 (wrap64 (((rd_T67 l0 x4_1).f0) - (wrap64 (((rd_T67 l0 (ji25)).f0) - ((rd_T67 l0 (ji28)).f0))))),.int .i64 (wrap64 (((rd_T67 l0 x4_1).f1) - (wrap64 (((rd_T67 l0 (ji25)).f1) - ((rd_T67 l0 (ji28)).f1)))))]) (ok:=fun _=>True) (okp:=fun _=>True) ?hr ?hp (fun _ hk=>hk) trivial (Below.refl _ _) (Nat.le_refl _) (by simp) ?_;(case hd=>rfl);(case hg=>rfl);(case hr=>first|(go_simp;done)|(go_simp;rfl));(case hp=>exact(Reps.one (show Kd.M (Kd.int .i64) _ _ _ (wrap64 (((rd_T67 l0 x4_1).f0) - (wrap64 (((rd_T67 l0 (ji25)).f0) - ((rd_T67 l0 (ji28)).f0))))) [.int .i64 (wrap64 (((rd_T67 l0 x4_1).f0) - (wrap64 (((rd_T67 l0 (ji25)).f0) - ((rd_T67 l0 (ji28)).f0)))))] from rfl) (Reps.one (show Kd.M (Kd.int .i64) _ _ _ (wrap64 (((rd_T67 l0 x4_1).f1) - (wrap64 (((rd_T67 l0 (ji25)).f1) - ((rd_T67 l0 (ji28)).f1))))) [.int .i64 (wrap64 (((rd_T67 l0 x4_1).f1) - (wrap64 (((rd_T67 l0 (ji25)).f1) - ((rd_T67 l0 (ji28)).f1)))))] from rfl) (Reps.none _ _))));intro v7000 w7000 ho7000 hb hg_ hnew_;clear hg_ hnew_;(first|rw [←Ny669.out] at ho7000|(simp only [Int.reduceToNat] at ho7000;rw [←Ny669.out] at ho7000));have n_:=pk3 (Kd.R_elder' (ro_ HO_3) (Kd.R_base ho7000) hb) (Kd.R_lower (Kd.R_new' ho7000 (Kd.R_lt (ro_ HO_3))) (below_size bl_)) (below_step bl_ hb);clear HO_3 HB;obtain⟨HO_3,HO7000,HB⟩:=n_;clear hb ho7000;obtain⟨Ao7000,co7000,eo7000⟩:=Kd.R_slice HO7000.out;subst eo7000)|((with_reducible refine gate_dst (N:=79) rfl ?_);refine Kd.R_lit (Kd.int .i64) _ 3 ?hg (N:=79) ?hd (xs:=([wrap64 (((rd_T67 l0 x4_1).f0) - ((rd_T67 l0 (ji7)).f0)),wrap64 (((rd_T67 l0 x4_1).f1) - ((rd_T67 l0 (ji7)).f1))]:List Int)) (inner:=[.int .i64 (wrap64 (((rd_T67 l0 x4_1).f0) - ((rd_T67 l0 (ji7)).f0))),.int .i64 (wrap64 (((rd_T67 l0 x4_1).f1) - ((rd_T67 l0 (ji7)).f1)))]) (ok:=fun _=>True) (okp:=fun _=>True) ?hr ?hp (fun _ hk=>hk) trivial (Below.refl _ _) (Nat.le_refl _) (by simp) ?_;(case hd=>rfl);(case hg=>rfl);(case hr=>first|(go_simp;done)|(go_simp;rfl));(case hp=>exact(Reps.one (show Kd.M (Kd.int .i64) _ _ _ (wrap64 (((rd_T67 l0 x4_1).f0) - ((rd_T67 l0 (ji7)).f0))) [.int .i64 (wrap64 (((rd_T67 l0 x4_1).f0) - ((rd_T67 l0 (ji7)).f0)))] from rfl) (Reps.one (show Kd.M (Kd.int .i64) _ _ _ (wrap64 (((rd_T67 l0 x4_1).f1) - ((rd_T67 l0 (ji7)).f1))) [.int .i64 (wrap64 (((rd_T67 l0 x4_1).f1) - ((rd_T67 l0 (ji7)).f1)))] from rfl) (Reps.none _ _))));intro v7000 w7000 ho7000 hb hg_ hnew_;clear hg_ hnew_;(first|rw [←Ny659.out] at ho7000|(simp only [Int.reduceToNat] at ho7000;rw [←Ny659.out] at ho7000));have n_:=pk3 (Kd.R_elder' (ro_ HO_3) (Kd.R_base ho7000) hb) (Kd.R_lower (Kd.R_new' ho7000 (Kd.R_lt (ro_ HO_3))) (below_size bl_)) (below_step bl_ hb);clear HO_3 HB;obtain⟨HO_3,HO7000,HB⟩:=n_;clear hb ho7000;obtain⟨Ao7000,co7000,eo7000⟩:=Kd.R_slice HO7000.out;subst eo7000)|((with_reducible refine gate_dst (N:=79) rfl ?_);refine Kd.R_lit (Kd.int .i64) _ 3 ?hg (N:=79) ?hd (xs:=([(rd_T67 l0 x4_1).f0,(rd_T67 l0 x4_1).f1]:List Int)) (inner:=[.int .i64 ((rd_T67 l0 x4_1).f0),.int .i64 ((rd_T67 l0 x4_1).f1)]) (ok:=fun _=>True) (okp:=fun _=>True) ?hr ?hp (fun _ hk=>hk) trivial (Below.refl _ _) (Nat.le_refl _) (by simp) ?_;(case hd=>rfl);(case hg=>rfl);(case hr=>first|(go_simp;done)|(go_simp;rfl));(case hp=>exact(Reps.one (show Kd.M (Kd.int .i64) _ _ _ ((rd_T67 l0 x4_1).f0) [.int .i64 ((rd_T67 l0 x4_1).f0)] from rfl) (Reps.one (show Kd.M (Kd.int .i64) _ _ _ ((rd_T67 l0 x4_1).f1) [.int .i64 ((rd_T67 l0 x4_1).f1)] from rfl) (Reps.none _ _))));intro v7000 w7000 ho7000 hb hg_ hnew_;clear hg_ hnew_;(first|rw [←Ny675.out] at ho7000|(simp only [Int.reduceToNat] at ho7000;rw [←Ny675.out] at ho7000));have n_:=pk3 (Kd.R_elder' (ro_ HO_3) (Kd.R_base ho7000) hb) (Kd.R_lower (Kd.R_new' ho7000 (Kd.R_lt (ro_ HO_3))) (below_size bl_)) (below_step bl_ hb);clear HO_3 HB;obtain⟨HO_3,HO7000,HB⟩:=n_;clear hb ho7000;obtain⟨Ao7000,co7000,eo7000⟩:=Kd.R_slice HO7000.out;subst eo7000)|((with_reducible refine gate_builtin (b:=.append) (xs:=#[.tmp 76,.tmp 79]) rfl ?_);at_builtin;refine Kd.R_append_rows (Kd.int .i64) (w0:=w) w.heap.size rfl (.tmp 76) (.tmp 79) 22 3 (.int .i64 0) 8 rfl Try.underlying22 info3 rfl (by decide) (by omega) u3 x3_1 y653 _ _ _ (fun k_=>some k_≠(.slice Ao7000 y653.length co7000:Value).ownBlock) (fun _=>False) rfl rfl ?aO ?aR (fun _ _ h=>h) (fun _ h=>h.elim) ?aF ?aB ?aS ?aL ?_;(case aR=>exact cr_ HO7000);(case aB=>exact bl_);(case aF=>exact(fun k_ hk=>Kd.fresh' (Kd.R_lt (ro_ HO7000)) k_ hk));(case aO=>exact(rt_ (Kd.R_mono HO_3.out (fun _ hk=>hk.2))));(case aS=>exact(below_size bl_));(case aL=>have:=LMc14.out;omega);intro v7001 w7001 ho hb hg hat;rw [←Ny656.out] at ho;have n_:=pk3 (Kd.R_after (ok:=(fun _=>True)) (ro_ HO7000) hg hat) (hb) (ho);clear HO7000 HB HO_3;obtain⟨HO7000,HB,HO7001⟩:=n_;clear ho hb hg hat)|((with_reducible refine gate_builtin (b:=.append) (xs:=#[.tmp 76,.tmp 79]) rfl ?_);at_builtin;refine Kd.R_append_rows (Kd.int .i64) (w0:=w) w.heap.size rfl (.tmp 76) (.tmp 79) 22 3 (.int .i64 0) 8 rfl Try.underlying22 info3 rfl (by decide) (by omega) u3 x3_1 y659 _ _ _ (fun k_=>some k_≠(.slice Ao7000 y659.length co7000:Value).ownBlock) (fun _=>False) rfl rfl ?aO ?aR (fun _ _ h=>h) (fun _ h=>h.elim) ?aF ?aB ?aS ?aL ?_;(case aR=>exact cr_ HO7000);(case aB=>exact bl_);(case aF=>exact(fun k_ hk=>Kd.fresh' (Kd.R_lt (ro_ HO7000)) k_ hk));(case aO=>exact(rt_ (Kd.R_mono HO_3.out (fun _ hk=>hk.2))));(case aS=>exact(below_size bl_));(case aL=>have:=LMc19.out;omega);intro v7001 w7001 ho hb hg hat;rw [←Ny662.out] at ho;have n_:=pk3 (Kd.R_after (ok:=(fun _=>True)) (ro_ HO7000) hg hat) (hb) (ho);clear HO7000 HB HO_3;obtain⟨HO7000,HB,HO7001⟩:=n_;clear ho hb hg hat)|((with_reducible refine gate_builtin (b:=.append) (xs:=#[.tmp 76,.tmp 79]) rfl ?_);at_builtin;refine Kd.R_append_rows (Kd.int .i64) (w0:=w) w.heap.size rfl (.tmp 76) (.tmp 79) 22 3 (.int .i64 0) 8 rfl Try.underlying22 info3 rfl (by decide) (by omega) u3 x3_1 y669 _ _ _ (fun k_=>some k_≠(.slice Ao7000 y669.length co7000:Value).ownBlock) (fun _=>False) rfl rfl ?aO ?aR (fun _ _ h=>h) (fun _ h=>h.elim) ?aF ?aB ?aS ?aL ?_;(case aR=>exact cr_ HO7000);(case aB=>exact bl_);(case aF=>exact(fun k_ hk=>Kd.fresh' (Kd.R_lt (ro_ HO7000)) k_ hk));(case aO=>exact(rt_ (Kd.R_mono HO_3.out (fun _ hk=>hk.2))));(case aS=>exact(below_size bl_));(case aL=>have:=LMc31.out;omega);intro v7001 w7001 ho hb hg hat;rw [←Ny672.out] at ho;have n_:=pk3 (Kd.R_after (ok:=(fun _=>True)) (ro_ HO7000) hg hat) (hb) (ho);clear HO7000 HB HO_3;obtain⟨HO7000,HB,HO7001⟩:=n_;clear ho hb hg hat)|((with_reducible refine gate_builtin (b:=.append) (xs:=#[.tmp 76,.tmp 79]) rfl ?_);at_builtin;refine Kd.R_append_rows (Kd.int .i64) (w0:=w) w.heap.size rfl (.tmp 76) (.tmp 79) 22 3 (.int .i64 0) 8 rfl Try.underlying22 info3 rfl (by decide) (by omega) u3 x3_1 y675 _ _ _ (fun k_=>some k_≠(.slice Ao7000 y675.length co7000:Value).ownBlock) (fun _=>False) rfl rfl ?aO ?aR (fun _ _ h=>h) (fun _ h=>h.elim) ?aF ?aB ?aS ?aL ?_;(case aR=>exact cr_ HO7000);(case aB=>exact bl_);(case aF=>exact(fun k_ hk=>Kd.fresh' (Kd.R_lt (ro_ HO7000)) k_ hk));(case aO=>exact(rt_ (Kd.R_mono HO_3.out (fun _ hk=>hk.2))));(case aS=>exact(below_size bl_));(case aL=>have:=LMc36.out;omega);intro v7001 w7001 ho hb hg hat;rw [←Ny678.out] at ho;have n_:=pk3 (Kd.R_after (ok:=(fun _=>True)) (ro_ HO7000) hg hat) (hb) (ho);clear HO7000 HB HO_3;obtain⟨HO7000,HB,HO7001⟩:=n_;clear ho hb hg hat));try go_wp2_with (first|((with_reducible refine gate_dst (N:=79) rfl ?_);refine Kd.R_lit (Kd.int .i64) _ 3 ?hg (N:=79) ?hd (xs:=([wrap64 ((wrap64 (((rd_T67 l0 x4_1).f0) - ((rd_T67 l0 (ji7)).f0))) - (wrap64 (((rd_T67 l0 (ji7)).f0) - ((rd_T67 l0 (ji11)).f0)))),wrap64 ((wrap64 (((rd_T67 l0 x4_1).f1) - ((rd_T67 l0 (ji7)).f1))) - (wrap64 (((rd_T67 l0 (ji7)).f1) - ((rd_T67 l0 (ji11)).f1))))]:List Int)) (inner:=[.int .i64 (wrap64 ((wrap64 (((rd_T67 l0 x4_1).f0) - ((rd_T67 l0 (ji7)).f0))) - (wrap64 (((rd_T67 l0 (ji7)).f0) - ((rd_T67 l0 (ji11)).f0))))),.int .i64 (wrap64 ((wrap64 (((rd_T67 l0 x4_1).f1) - ((rd_T67 l0 (ji7)).f1))) - (wrap64 (((rd_T67 l0 (ji7)).f1) - ((rd_T67 l0 (ji11)).f1)))))]) (ok:=fun _=>True) (okp:=fun _=>True) ?hr ?hp (fun _ hk=>hk) trivial (Below.refl _ _) (Nat.le_refl _) (by simp) ?_;(case hd=>rfl);(case hg=>rfl);(case hr=>first|(go_simp;done)|(go_simp;rfl));(case hp=>exact(Reps.one (show Kd.M (Kd.int .i64) _ _ _ (wrap64 ((wrap64 (((rd_T67 l0 x4_1).f0) - ((rd_T67 l0 (ji7)).f0))) - (wrap64 (((rd_T67 l0 (ji7)).f0) - ((rd_T67 l0 (ji11)).f0))))) [.int .i64 (wrap64 ((wrap64 (((rd_T67 l0 x4_1).f0) - ((rd_T67 l0 (ji7)).f0))) - (wrap64 (((rd_T67 l0 (ji7)).f0) - ((rd_T67 l0 (ji11)).f0)))))] from rfl) (Reps.one (show Kd.M (Kd.int .i64) _ _ _ (wrap64 ((wrap64 (((rd_T67 l0 x4_1).f1) - ((rd_T67 l0 (ji7)).f1))) - (wrap64 (((rd_T67 l0 (ji7)).f1) - ((rd_T67 l0 (ji11)).f1))))) [.int .i64 (wrap64 ((wrap64 (((rd_T67 l0 x4_1).f1) - ((rd_T67 l0 (ji7)).f1))) - (wrap64 (((rd_T67 l0 (ji7)).f1) - ((rd_T67 l0 (ji11)).f1)))))] from rfl) (Reps.none _ _))));intro v7000 w7000 ho7000 hb hg_ hnew_;clear hg_ hnew_;(first|rw [←Ny653.out] at ho7000|(simp only [Int.reduceToNat] at ho7000;rw [←Ny653.out] at ho7000));have n_:=pk3 (Kd.R_elder' (ro_ HO_3) (Kd.R_base ho7000) hb) (Kd.R_lower (Kd.R_new' ho7000 (Kd.R_lt (ro_ HO_3))) (below_size bl_)) (below_step bl_ hb);clear HO_3 HB;obtain⟨HO_3,HO7000,HB⟩:=n_;clear hb ho7000;obtain⟨Ao7000,co7000,eo7000⟩:=Kd.R_slice HO7000.out;subst eo7000)|((with_reducible refine gate_dst (N:=79) rfl ?_);refine Kd.R_lit (Kd.int .i64) _ 3 ?hg (N:=79) ?hd (xs:=([wrap64 (((rd_T67 l0 x4_1).f0) - (wrap64 (((rd_T67 l0 (ji25)).f0) - ((rd_T67 l0 (ji28)).f0)))),wrap64 (((rd_T67 l0 x4_1).f1) - (wrap64 (((rd_T67 l0 (ji25)).f1) - ((rd_T67 l0 (ji28)).f1))))]:List Int)) (inner:=[.int .i64 (wrap64 (((rd_T67 l0 x4_1).f0) - (wrap64 (((rd_T67 l0 (ji25)).f0) - ((rd_T67 l0 (ji28)).f0))))),.int .i64 (wrap64 (((rd_T67 l0 x4_1).f1) - (wrap64 (((rd_T67 l0 (ji25)).f1) - ((rd_T67 l0 (ji28)).f1)))))]) (ok:=fun _=>True) (okp:=fun _=>True) ?hr ?hp (fun _ hk=>hk) trivial (Below.refl _ _) (Nat.le_refl _) (by simp) ?_;(case hd=>rfl);(case hg=>rfl);(case hr=>first|(go_simp;done)|(go_simp;rfl));(case hp=>exact(Reps.one (show Kd.M (Kd.int .i64) _ _ _ (wrap64 (((rd_T67 l0 x4_1).f0) - (wrap64 (((rd_T67 l0 (ji25)).f0) - ((rd_T67 l0 (ji28)).f0))))) [.int .i64 (wrap64 (((rd_T67 l0 x4_1).f0) - (wrap64 (((rd_T67 l0 (ji25)).f0) - ((rd_T67 l0 (ji28)).f0)))))] from rfl) (Reps.one (show Kd.M (Kd.int .i64) _ _ _ (wrap64 (((rd_T67 l0 x4_1).f1) - (wrap64 (((rd_T67 l0 (ji25)).f1) - ((rd_T67 l0 (ji28)).f1))))) [.int .i64 (wrap64 (((rd_T67 l0 x4_1).f1) - (wrap64 (((rd_T67 l0 (ji25)).f1) - ((rd_T67 l0 (ji28)).f1)))))] from rfl) (Reps.none _ _))));intro v7000 w7000 ho7000 hb hg_ hnew_;clear hg_ hnew_;(first|rw [←Ny669.out] at ho7000|(simp only [Int.reduceToNat] at ho7000;rw [←Ny669.out] at ho7000));have n_:=pk3 (Kd.R_elder' (ro_ HO_3) (Kd.R_base ho7000) hb) (Kd.R_lower (Kd.R_new' ho7000 (Kd.R_lt (ro_ HO_3))) (below_size bl_)) (below_step bl_ hb);clear HO_3 HB;obtain⟨HO_3,HO7000,HB⟩:=n_;clear hb ho7000;obtain⟨Ao7000,co7000,eo7000⟩:=Kd.R_slice HO7000.out;subst eo7000)|((with_reducible refine gate_dst (N:=79) rfl ?_);refine Kd.R_lit (Kd.int .i64) _ 3 ?hg (N:=79) ?hd (xs:=([wrap64 (((rd_T67 l0 x4_1).f0) - ((rd_T67 l0 (ji7)).f0)),wrap64 (((rd_T67 l0 x4_1).f1) - ((rd_T67 l0 (ji7)).f1))]:List Int)) (inner:=[.int .i64 (wrap64 (((rd_T67 l0 x4_1).f0) - ((rd_T67 l0 (ji7)).f0))),.int .i64 (wrap64 (((rd_T67 l0 x4_1).f1) - ((rd_T67 l0 (ji7)).f1)))]) (ok:=fun _=>True) (okp:=fun _=>True) ?hr ?hp (fun _ hk=>hk) trivial (Below.refl _ _) (Nat.le_refl _) (by simp) ?_;(case hd=>rfl);(case hg=>rfl);(case hr=>first|(go_simp;done)|(go_simp;rfl));(case hp=>exact(Reps.one (show Kd.M (Kd.int .i64) _ _ _ (wrap64 (((rd_T67 l0 x4_1).f0) - ((rd_T67 l0 (ji7)).f0))) [.int .i64 (wrap64 (((rd_T67 l0 x4_1).f0) - ((rd_T67 l0 (ji7)).f0)))] from rfl) (Reps.one (show Kd.M (Kd.int .i64) _ _ _ (wrap64 (((rd_T67 l0 x4_1).f1) - ((rd_T67 l0 (ji7)).f1))) [.int .i64 (wrap64 (((rd_T67 l0 x4_1).f1) - ((rd_T67 l0 (ji7)).f1)))] from rfl) (Reps.none _ _))));intro v7000 w7000 ho7000 hb hg_ hnew_;clear hg_ hnew_;(first|rw [←Ny659.out] at ho7000|(simp only [Int.reduceToNat] at ho7000;rw [←Ny659.out] at ho7000));have n_:=pk3 (Kd.R_elder' (ro_ HO_3) (Kd.R_base ho7000) hb) (Kd.R_lower (Kd.R_new' ho7000 (Kd.R_lt (ro_ HO_3))) (below_size bl_)) (below_step bl_ hb);clear HO_3 HB;obtain⟨HO_3,HO7000,HB⟩:=n_;clear hb ho7000;obtain⟨Ao7000,co7000,eo7000⟩:=Kd.R_slice HO7000.out;subst eo7000)|((with_reducible refine gate_dst (N:=79) rfl ?_);refine Kd.R_lit (Kd.int .i64) _ 3 ?hg (N:=79) ?hd (xs:=([(rd_T67 l0 x4_1).f0,(rd_T67 l0 x4_1).f1]:List Int)) (inner:=[.int .i64 ((rd_T67 l0 x4_1).f0),.int .i64 ((rd_T67 l0 x4_1).f1)]) (ok:=fun _=>True) (okp:=fun _=>True) ?hr ?hp (fun _ hk=>hk) trivial (Below.refl _ _) (Nat.le_refl _) (by simp) ?_;(case hd=>rfl);(case hg=>rfl);(case hr=>first|(go_simp;done)|(go_simp;rfl));(case hp=>exact(Reps.one (show Kd.M (Kd.int .i64) _ _ _ ((rd_T67 l0 x4_1).f0) [.int .i64 ((rd_T67 l0 x4_1).f0)] from rfl) (Reps.one (show Kd.M (Kd.int .i64) _ _ _ ((rd_T67 l0 x4_1).f1) [.int .i64 ((rd_T67 l0 x4_1).f1)] from rfl) (Reps.none _ _))));intro v7000 w7000 ho7000 hb hg_ hnew_;clear hg_ hnew_;(first|rw [←Ny675.out] at ho7000|(simp only [Int.reduceToNat] at ho7000;rw [←Ny675.out] at ho7000));have n_:=pk3 (Kd.R_elder' (ro_ HO_3) (Kd.R_base ho7000) hb) (Kd.R_lower (Kd.R_new' ho7000 (Kd.R_lt (ro_ HO_3))) (below_size bl_)) (below_step bl_ hb);clear HO_3 HB;obtain⟨HO_3,HO7000,HB⟩:=n_;clear hb ho7000;obtain⟨Ao7000,co7000,eo7000⟩:=Kd.R_slice HO7000.out;subst eo7000)|((with_reducible refine gate_builtin (b:=.append) (xs:=#[.tmp 76,.tmp 79]) rfl ?_);at_builtin;refine Kd.R_append_rows (Kd.int .i64) (w0:=w) w.heap.size rfl (.tmp 76) (.tmp 79) 22 3 (.int .i64 0) 8 rfl Try.underlying22 info3 rfl (by decide) (by omega) u3 x3_1 y653 _ _ _ (fun k_=>some k_≠(.slice Ao7000 y653.length co7000:Value).ownBlock) (fun _=>False) rfl rfl ?aO ?aR (fun _ _ h=>h) (fun _ h=>h.elim) ?aF ?aB ?aS ?aL ?_;(case aR=>exact cr_ HO7000);(case aB=>exact bl_);(case aF=>exact(fun k_ hk=>Kd.fresh' (Kd.R_lt (ro_ HO7000)) k_ hk));(case aO=>exact(rt_ (Kd.R_mono HO_3.out (fun _ hk=>hk.2))));(case aS=>exact(below_size bl_));(case aL=>have:=LMc14.out;omega);intro v7001 w7001 ho hb hg hat;rw [←Ny656.out] at ho;have n_:=pk3 (Kd.R_after (ok:=(fun _=>True)) (ro_ HO7000) hg hat) (hb) (ho);clear HO7000 HB HO_3;obtain⟨HO7000,HB,HO7001⟩:=n_;clear ho hb hg hat)|((with_reducible refine gate_builtin (b:=.append) (xs:=#[.tmp 76,.tmp 79]) rfl ?_);at_builtin;refine Kd.R_append_rows (Kd.int .i64) (w0:=w) w.heap.size rfl (.tmp 76) (.tmp 79) 22 3 (.int .i64 0) 8 rfl Try.underlying22 info3 rfl (by decide) (by omega) u3 x3_1 y659 _ _ _ (fun k_=>some k_≠(.slice Ao7000 y659.length co7000:Value).ownBlock) (fun _=>False) rfl rfl ?aO ?aR (fun _ _ h=>h) (fun _ h=>h.elim) ?aF ?aB ?aS ?aL ?_;(case aR=>exact cr_ HO7000);(case aB=>exact bl_);(case aF=>exact(fun k_ hk=>Kd.fresh' (Kd.R_lt (ro_ HO7000)) k_ hk));(case aO=>exact(rt_ (Kd.R_mono HO_3.out (fun _ hk=>hk.2))));(case aS=>exact(below_size bl_));(case aL=>have:=LMc19.out;omega);intro v7001 w7001 ho hb hg hat;rw [←Ny662.out] at ho;have n_:=pk3 (Kd.R_after (ok:=(fun _=>True)) (ro_ HO7000) hg hat) (hb) (ho);clear HO7000 HB HO_3;obtain⟨HO7000,HB,HO7001⟩:=n_;clear ho hb hg hat)|((with_reducible refine gate_builtin (b:=.append) (xs:=#[.tmp 76,.tmp 79]) rfl ?_);at_builtin;refine Kd.R_append_rows (Kd.int .i64) (w0:=w) w.heap.size rfl (.tmp 76) (.tmp 79) 22 3 (.int .i64 0) 8 rfl Try.underlying22 info3 rfl (by decide) (by omega) u3 x3_1 y669 _ _ _ (fun k_=>some k_≠(.slice Ao7000 y669.length co7000:Value).ownBlock) (fun _=>False) rfl rfl ?aO ?aR (fun _ _ h=>h) (fun _ h=>h.elim) ?aF ?aB ?aS ?aL ?_;(case aR=>exact cr_ HO7000);(case aB=>exact bl_);(case aF=>exact(fun k_ hk=>Kd.fresh' (Kd.R_lt (ro_ HO7000)) k_ hk));(case aO=>exact(rt_ (Kd.R_mono HO_3.out (fun _ hk=>hk.2))));(case aS=>exact(below_size bl_));(case aL=>have:=LMc31.out;omega);intro v7001 w7001 ho hb hg hat;rw [←Ny672.out] at ho;have n_:=pk3 (Kd.R_after (ok:=(fun _=>True)) (ro_ HO7000) hg hat) (hb) (ho);clear HO7000 HB HO_3;obtain⟨HO7000,HB,HO7001⟩:=n_;clear ho hb hg hat)|((with_reducible refine gate_builtin (b:=.append) (xs:=#[.tmp 76,.tmp 79]) rfl ?_);at_builtin;refine Kd.R_append_rows (Kd.int .i64) (w0:=w) w.heap.size rfl (.tmp 76) (.tmp 79) 22 3 (.int .i64 0) 8 rfl Try.underlying22 info3 rfl (by decide) (by omega) u3 x3_1 y675 _ _ _ (fun k_=>some k_≠(.slice Ao7000 y675.length co7000:Value).ownBlock) (fun _=>False) rfl rfl ?aO ?aR (fun _ _ h=>h) (fun _ h=>h.elim) ?aF ?aB ?aS ?aL ?_;(case aR=>exact cr_ HO7000);(case aB=>exact bl_);(case aF=>exact(fun k_ hk=>Kd.fresh' (Kd.R_lt (ro_ HO7000)) k_ hk));(case aO=>exact(rt_ (Kd.R_mono HO_3.out (fun _ hk=>hk.2))));(case aS=>exact(below_size bl_));(case aL=>have:=LMc36.out;omega);intro v7001 w7001 ho hb hg hat;rw [←Ny678.out] at ho;have n_:=pk3 (Kd.R_after (ok:=(fun _=>True)) (ro_ HO7000) hg hat) (hb) (ho);clear HO7000 HB HO_3;obtain⟨HO7000,HB,HO7001⟩:=n_;clear ho hb hg hat)))
    first
     |go_roundg k1
      case measure=>have:=HK1.out;omega
      first
       |case rel=>exact⟨(y656),(wrap64 (x4_1+1)),sm_,H',⟨by have:=HK1.out;omega⟩,⟨(rt_ (Kd.R_mono HO7001.out (fun _ hk=>trivial)))⟩,⟨bl_⟩⟩
       |case rel=>exact⟨(y662),(wrap64 (x4_1+1)),sm_,H',⟨by have:=HK1.out;omega⟩,⟨(rt_ (Kd.R_mono HO7001.out (fun _ hk=>trivial)))⟩,⟨bl_⟩⟩
       |case rel=>exact⟨(y672),(wrap64 (x4_1+1)),sm_,H',⟨by have:=HK1.out;omega⟩,⟨(rt_ (Kd.R_mono HO7001.out (fun _ hk=>trivial)))⟩,⟨bl_⟩⟩
       |case rel=>exact⟨(y678),(wrap64 (x4_1+1)),sm_,H',⟨by have:=HK1.out;omega⟩,⟨(rt_ (Kd.R_mono HO7001.out (fun _ hk=>trivial)))⟩,⟨bl_⟩⟩
     |go_ret
      exact⟨_,rf_,(ro_ HO_3),bl_⟩
end Go.Proofs.Ytmddmbagehjdeaa.G
end
section
namespace Go.Proofs.Ytmddmbagehjdeaa.G
open Go.RowKit Go.Proofs.YtmddmbagehjdeaaX Go.Proofs.YtmddmbagehjdeaaW.PrintWords Go.Proofs.YtmddmbagehjdeaaW.PrintLast Go.Proofs.YtmddmbagehjdeaaW.PrintMore
attribute [local go_sem] max2_int min2_int max_two min_two max_three min_three max_four min_four
mutual
def windroseref18_Bits.l0:Nat→List (S67)→List Int→List Bool→Int→Int→Option (List Bool)
 |0,_,_,_,_,_=>none
 |k+1,x0,x3,x4,x5,x6=>if x6<(x0.length:Int)then(if 0≤(wrap64 (1+(wrap64 (2*x6))))then(if(wrap64 (1+(wrap64 (2*x6))))<(x3.length:Int)then(if 0≤(wrap64 (2+(wrap64 (2*x6))))then(if(wrap64 (2+(wrap64 (2*x6))))<(x3.length:Int)then(if x6<2 then(windroseref18_Bits.j1 k x0 x3 x4 x5 x6 (rd x3 (wrap64 (1+(wrap64 (2*x6))))) (rd x3 (wrap64 (2+(wrap64 (2*x6))))) true)else(if(rd x3 (wrap64 (1+(wrap64 (2*x6)))))=0 then(windroseref18_Bits.j1 k x0 x3 x4 x5 x6 (rd x3 (wrap64 (1+(wrap64 (2*x6))))) (rd x3 (wrap64 (2+(wrap64 (2*x6))))) ((rd x3 (wrap64 (2+(wrap64 (2*x6))))) != 0))else(windroseref18_Bits.j1 k x0 x3 x4 x5 x6 (rd x3 (wrap64 (1+(wrap64 (2*x6))))) (rd x3 (wrap64 (2+(wrap64 (2*x6))))) true)))else(none))else(none))else(none))else(none))else(some x4)
def windroseref18_Bits.j1:Nat→List (S67)→List Int→List Bool→Int→Int→Int→Int→Bool→Option (List Bool)
 |0,_,_,_,_,_,_,_,_=>none
 |k+1,x0,x3,x4,x5,x6,x7,x8,x40=>if x40=true then((windroseref17_Coded.f k x7).bind fun t689=>(if x4.length+t689.length<140737488355328 then((some (x4++t689:List Bool)).bind fun y692=>((windroseref17_Coded.f k x8).bind fun t695=>(if y692.length+t695.length<140737488355328 then(windroseref18_Bits.l0 k x0 x3 (y692++t695) x5 (wrap64 (x6+1)))else(none))))else(none)))else(if x5>0 then(windroseref18_Bits.l0 k x0 x3 x4 (wrap64 (x5 - 1)) (wrap64 (x6+1)))else(windroseref18_Bits.l1 k x0 x3 x4 x6 x6))
def windroseref18_Bits.l1:Nat→List (S67)→List Int→List Bool→Int→Int→Option (List Bool)
 |0,_,_,_,_,_=>none
 |k+1,x0,x3,x4,x6,x9=>if x9<(x0.length:Int)then(if 0≤(wrap64 (1+(wrap64 (2*x9))))then(if(wrap64 (1+(wrap64 (2*x9))))<(x3.length:Int)then(if(rd x3 (wrap64 (1+(wrap64 (2*x9)))))=0 then(if 0≤(wrap64 (2+(wrap64 (2*x9))))then(if(wrap64 (2+(wrap64 (2*x9))))<(x3.length:Int)then(if(rd x3 (wrap64 (2+(wrap64 (2*x9)))))=0 then(if x9<(wrap64 (x6+16))then(windroseref18_Bits.l1 k x0 x3 x4 x6 (wrap64 (x9+1)))else((some (([false,false]:List Bool):List Bool)).bind fun y703=>(if x4.length+y703.length<140737488355328 then((some (x4++y703:List Bool)).bind fun y706=>((windroseref17_Low.f k (IntKind.u64.wrap (wrap64 ((wrap64 (x9 - x6)) - 1))) 4).bind fun t709=>(if y706.length+t709.length<140737488355328 then(windroseref18_Bits.l0 k x0 x3 (y706++t709) (wrap64 ((wrap64 (x9 - x6)) - 1)) (wrap64 (x6+1)))else(none))))else(none))))else((some (([false,false]:List Bool):List Bool)).bind fun y715=>(if x4.length+y715.length<140737488355328 then((some (x4++y715:List Bool)).bind fun y718=>((windroseref17_Low.f k (IntKind.u64.wrap (wrap64 ((wrap64 (x9 - x6)) - 1))) 4).bind fun t721=>(if y718.length+t721.length<140737488355328 then(windroseref18_Bits.l0 k x0 x3 (y718++t721) (wrap64 ((wrap64 (x9 - x6)) - 1)) (wrap64 (x6+1)))else(none))))else(none))))else(none))else(none))else((some (([false,false]:List Bool):List Bool)).bind fun y727=>(if x4.length+y727.length<140737488355328 then((some (x4++y727:List Bool)).bind fun y730=>((windroseref17_Low.f k (IntKind.u64.wrap (wrap64 ((wrap64 (x9 - x6)) - 1))) 4).bind fun t733=>(if y730.length+t733.length<140737488355328 then(windroseref18_Bits.l0 k x0 x3 (y730++t733) (wrap64 ((wrap64 (x9 - x6)) - 1)) (wrap64 (x6+1)))else(none))))else(none))))else(none))else(none))else((some (([false,false]:List Bool):List Bool)).bind fun y739=>(if x4.length+y739.length<140737488355328 then((some (x4++y739:List Bool)).bind fun y742=>((windroseref17_Low.f k (IntKind.u64.wrap (wrap64 ((wrap64 (x9 - x6)) - 1))) 4).bind fun t745=>(if y742.length+t745.length<140737488355328 then(windroseref18_Bits.l0 k x0 x3 (y742++t745) (wrap64 ((wrap64 (x9 - x6)) - 1)) (wrap64 (x6+1)))else(none))))else(none)))
end
def windroseref18_Bits.f (k:Nat) (l0:List (S67)):Option (List Bool):=(windroseref11_Nums.f k l0).bind fun t681=>(windroseref18_Bits.l0 k l0 t681 (([]:List Bool)) 0 0)
end Go.Proofs.Ytmddmbagehjdeaa.G
end
